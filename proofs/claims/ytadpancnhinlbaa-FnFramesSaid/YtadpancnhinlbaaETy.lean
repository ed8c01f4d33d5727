/- The types of this seat's program, and what is true of them. Printed by wip/eng/ty.py. -/
import Derived.Test.YtadpancnhinlbaaEFn
import Derived.Test.YtadpancnhinlbaaProg
import Derived.KernelRfl
namespace Go.Proofs.Ytadpancnhinlbaa.E
def tt : TT := [
  (1, ⟨1, false, 8, [.nilFunc], [.v (.nilFunc)], .other⟩),
  (2, ⟨1, false, 8, [.int .i64 0], [.v (.int .i64 0)], .int .i64⟩),
  (3, ⟨1, false, 8, [.int .i64 0], [.v (.int .i64 0)], .int .i64⟩),
  (4, ⟨1, false, 1, [.bool false], [.v (.bool false)], .bool⟩),
  (5, ⟨1, false, 1, [.int .u8 0], [.v (.int .u8 0)], .int .u8⟩),
  (9, ⟨1, false, 16, [.string ByteArray.empty], [.v (.string ByteArray.empty)], .str⟩),
  (12, ⟨1, false, 8, [.int .u64 0], [.v (.int .u64 0)], .int .u64⟩),
  (13, ⟨2, true, 24, [.string ByteArray.empty, .int .u64 0], [.v (.string ByteArray.empty), .v (.int .u64 0)], .st [(0, 9), (1, 12)]⟩),
  (21, ⟨1, false, 4, [.int .i32 0], [.v (.int .i32 0)], .int .i32⟩),
  (22, ⟨1, false, 24, [.slice none 0 0], [.sl 1 []], .sl 5⟩),
  (23, ⟨1, false, 24, [.slice none 0 0], [.sl 1 []], .sl 32⟩),
  (24, ⟨1, false, 8, [.nilFunc], [.v (.nilFunc)], .other⟩),
  (26, ⟨1, false, 8, [.nilFunc], [.v (.nilFunc)], .other⟩),
  (28, ⟨1, false, 8, [.nilFunc], [.v (.nilFunc)], .other⟩),
  (29, ⟨1, false, 8, [.nilFunc], [.v (.nilFunc)], .other⟩),
  (30, ⟨1, false, 8, [.nilFunc], [.v (.nilFunc)], .other⟩),
  (31, ⟨1, true, 24, [.slice none 0 0], [.sl 1 []], .st [(0, 22)]⟩),
  (32, ⟨1, true, 24, [.slice none 0 0], [.sl 1 []], .st [(0, 22)]⟩),
  (33, ⟨1, false, 24, [.slice none 0 0], [.sl 1 []], .sl 3⟩),
  (34, ⟨1, false, 24, [.slice none 0 0], [.sl 3 []], .sl 39⟩),
  (35, ⟨5, true, 88, [.int .i64 0, .slice none 0 0, .slice none 0 0, .slice none 0 0, .bool false], [.v (.int .i64 0), .sl 1 [], .sl 3 [], .sl 3 [], .v (.bool false)], .st [(0, 3), (1, 33), (2, 34), (3, 34), (4, 4)]⟩),
  (36, ⟨5, true, 88, [.int .i64 0, .slice none 0 0, .slice none 0 0, .slice none 0 0, .bool false], [.v (.int .i64 0), .sl 1 [], .sl 3 [], .sl 3 [], .v (.bool false)], .st [(0, 3), (1, 33), (2, 34), (3, 34), (4, 4)]⟩),
  (37, ⟨1, false, 8, [.nilFunc], [.v (.nilFunc)], .other⟩),
  (38, ⟨3, true, 24, [.int .i64 0, .int .i64 0, .int .i64 0], [.v (.int .i64 0), .v (.int .i64 0), .v (.int .i64 0)], .st [(0, 3), (1, 3), (2, 3)]⟩),
  (39, ⟨3, true, 24, [.int .i64 0, .int .i64 0, .int .i64 0], [.v (.int .i64 0), .v (.int .i64 0), .v (.int .i64 0)], .st [(0, 3), (1, 3), (2, 3)]⟩),
  (41, ⟨1, false, 8, [.nilFunc], [.v (.nilFunc)], .other⟩),
  (42, ⟨1, false, 8, [.nilFunc], [.v (.nilFunc)], .other⟩),
  (44, ⟨1, false, 8, [.nilFunc], [.v (.nilFunc)], .other⟩),
  (46, ⟨1, false, 8, [.nilFunc], [.v (.nilFunc)], .other⟩),
  (47, ⟨1, false, 8, [.nilFunc], [.v (.nilFunc)], .other⟩),
  (48, ⟨1, false, 24, [.slice none 0 0], [.sl 3 []], .sl 71⟩),
  (49, ⟨1, false, 8, [.nilFunc], [.v (.nilFunc)], .other⟩),
  (50, ⟨1, false, 8, [.nilFunc], [.v (.nilFunc)], .other⟩),
  (51, ⟨1, false, 8, [.nilFunc], [.v (.nilFunc)], .other⟩),
  (52, ⟨1, false, 8, [.nilFunc], [.v (.nilFunc)], .other⟩),
  (53, ⟨1, false, 8, [.nilFunc], [.v (.nilFunc)], .other⟩),
  (54, ⟨1, false, 8, [.nilFunc], [.v (.nilFunc)], .other⟩),
  (55, ⟨1, false, 8, [.pointer none], [.v (.pointer none)], .ptr⟩),
  (56, ⟨1, false, 8, [.nilFunc], [.v (.nilFunc)], .other⟩),
  (57, ⟨1, false, 8, [.nilFunc], [.v (.nilFunc)], .other⟩),
  (58, ⟨1, false, 8, [.nilFunc], [.v (.nilFunc)], .other⟩),
  (60, ⟨1, false, 8, [.nilFunc], [.v (.nilFunc)], .other⟩),
  (61, ⟨3, true, 40, [.slice none 0 0, .int .i64 0, .int .i64 0], [.sl 1 [], .v (.int .i64 0), .v (.int .i64 0)], .st [(0, 22), (1, 3), (2, 3)]⟩),
  (62, ⟨3, true, 40, [.slice none 0 0, .int .i64 0, .int .i64 0], [.sl 1 [], .v (.int .i64 0), .v (.int .i64 0)], .st [(0, 22), (1, 3), (2, 3)]⟩),
  (63, ⟨1, false, 8, [.nilFunc], [.v (.nilFunc)], .other⟩),
  (64, ⟨1, false, 8, [.nilFunc], [.v (.nilFunc)], .other⟩),
  (65, ⟨1, false, 8, [.nilFunc], [.v (.nilFunc)], .other⟩),
  (66, ⟨1, false, 8, [.nilFunc], [.v (.nilFunc)], .other⟩),
  (67, ⟨1, false, 8, [.nilFunc], [.v (.nilFunc)], .other⟩),
  (68, ⟨1, false, 8, [.nilFunc], [.v (.nilFunc)], .other⟩),
  (69, ⟨1, false, 8, [.nilFunc], [.v (.nilFunc)], .other⟩),
  (70, ⟨1, false, 8, [.nilFunc], [.v (.nilFunc)], .other⟩),
  (71, ⟨3, true, 24, [.int .i64 0, .int .i64 0, .int .i64 0], [.v (.int .i64 0), .v (.int .i64 0), .v (.int .i64 0)], .st [(0, 3), (1, 3), (2, 3)]⟩),
  (72, ⟨1, false, 8, [.nilFunc], [.v (.nilFunc)], .other⟩),
  (73, ⟨1, false, 8, [.nilFunc], [.v (.nilFunc)], .other⟩),
  (74, ⟨1, false, 8, [.nilFunc], [.v (.nilFunc)], .other⟩),
  (75, ⟨1, false, 8, [.nilFunc], [.v (.nilFunc)], .other⟩),
  (76, ⟨1, false, 8, [.nilFunc], [.v (.nilFunc)], .other⟩),
  (77, ⟨1, false, 8, [.nilFunc], [.v (.nilFunc)], .other⟩),
  (78, ⟨1, false, 8, [.nilFunc], [.v (.nilFunc)], .other⟩),
  (79, ⟨1, false, 8, [.nilFunc], [.v (.nilFunc)], .other⟩),
  (80, ⟨1, false, 8, [.nilFunc], [.v (.nilFunc)], .other⟩),
  (81, ⟨1, false, 8, [.nilFunc], [.v (.nilFunc)], .other⟩),
  (82, ⟨1, false, 8, [.nilFunc], [.v (.nilFunc)], .other⟩),
  (83, ⟨1, false, 8, [.nilFunc], [.v (.nilFunc)], .other⟩),
  (84, ⟨1, false, 8, [.int .u64 0], [.v (.int .u64 0)], .int .u64⟩),
  (85, ⟨1, false, 8, [.nilFunc], [.v (.nilFunc)], .other⟩),
  (91, ⟨1, false, 8, [.nilFunc], [.v (.nilFunc)], .other⟩),
  (92, ⟨1, false, 4, [.int .u32 0], [.v (.int .u32 0)], .int .u32⟩),
  (95, ⟨1, false, 8, [.nilFunc], [.v (.nilFunc)], .other⟩),
  (96, ⟨1, false, 8, [.pointer none], [.v (.pointer none)], .ptr⟩)]
set_option maxRecDepth 100000 in
theorem tt_all : TTall Try.prog tt := by
  refine ⟨TIok.mk1 (.nilFunc) _ (by kernel_rfl) rfl ⟨_, rfl, rfl⟩ rfl rfl ⟨.inl ⟨rfl, rfl⟩, trivial⟩ (by decide) Try.underlying1 rfl trivial, ?_⟩   -- func()
  refine ⟨TIok.mk1 (.int .i64 0) _ (by kernel_rfl) rfl ⟨_, rfl, rfl⟩ rfl rfl ⟨.inl ⟨rfl, rfl⟩, trivial⟩ (by decide) Try.underlying2 rfl rfl, ?_⟩   -- int64
  refine ⟨TIok.mk1 (.int .i64 0) _ (by kernel_rfl) rfl ⟨_, rfl, rfl⟩ rfl rfl ⟨.inl ⟨rfl, rfl⟩, trivial⟩ (by decide) Try.underlying3 rfl rfl, ?_⟩   -- int
  refine ⟨TIok.mk1 (.bool false) _ (by kernel_rfl) rfl ⟨_, rfl, rfl⟩ rfl rfl ⟨.inl ⟨rfl, rfl⟩, trivial⟩ (by decide) Try.underlying4 rfl rfl, ?_⟩   -- bool
  refine ⟨TIok.mk1 (.int .u8 0) _ (by kernel_rfl) rfl ⟨_, rfl, rfl⟩ rfl rfl ⟨.inl ⟨rfl, rfl⟩, trivial⟩ (by decide) Try.underlying5 rfl rfl, ?_⟩   -- uint8
  refine ⟨TIok.mk1 (.string ByteArray.empty) _ (by kernel_rfl) rfl ⟨_, rfl, rfl⟩ rfl rfl ⟨.inl ⟨rfl, rfl⟩, trivial⟩ (by decide) Try.underlying9 rfl rfl, ?_⟩   -- string
  refine ⟨TIok.mk1 (.int .u64 0) _ (by kernel_rfl) rfl ⟨_, rfl, rfl⟩ rfl rfl ⟨.inl ⟨rfl, rfl⟩, trivial⟩ (by decide) Try.underlying12 rfl rfl, ?_⟩   -- uintptr
  refine ⟨TIok.mk1 (.agg #[.string ByteArray.empty, .int .u64 0]) _ (by kernel_rfl) rfl rfl rfl rfl ⟨.inl ⟨rfl, rfl⟩, .inl ⟨rfl, rfl⟩, trivial⟩ (by decide) Try.underlying13 rfl ⟨_, rfl, rfl⟩, ?_⟩   -- struct  msg string; addr uintptr 
  refine ⟨TIok.mk1 (.int .i32 0) _ (by kernel_rfl) rfl ⟨_, rfl, rfl⟩ rfl rfl ⟨.inl ⟨rfl, rfl⟩, trivial⟩ (by decide) Try.underlying21 rfl rfl, ?_⟩   -- int32
  refine ⟨TIok.mk1 (.slice none 0 0) _ (by kernel_rfl) rfl ⟨_, rfl, rfl⟩ rfl rfl ⟨.inr ⟨_, rfl, rfl⟩, trivial⟩ (by decide) Try.underlying22 rfl rfl, ?_⟩   -- []uint8
  refine ⟨TIok.mk1 (.slice none 0 0) _ (by kernel_rfl) rfl ⟨_, rfl, rfl⟩ rfl rfl ⟨.inr ⟨_, rfl, rfl⟩, trivial⟩ (by decide) Try.underlying23 rfl rfl, ?_⟩   -- []impl.Chunk
  refine ⟨TIok.mk1 (.nilFunc) _ (by kernel_rfl) rfl ⟨_, rfl, rfl⟩ rfl rfl ⟨.inl ⟨rfl, rfl⟩, trivial⟩ (by decide) Try.underlying24 rfl trivial, ?_⟩   -- func([]uint8) []impl.Chunk
  refine ⟨TIok.mk1 (.nilFunc) _ (by kernel_rfl) rfl ⟨_, rfl, rfl⟩ rfl rfl ⟨.inl ⟨rfl, rfl⟩, trivial⟩ (by decide) Try.underlying26 rfl trivial, ?_⟩   -- func([]impl.Chunk) ([]uint8, bool)
  refine ⟨TIok.mk1 (.nilFunc) _ (by kernel_rfl) rfl ⟨_, rfl, rfl⟩ rfl rfl ⟨.inl ⟨rfl, rfl⟩, trivial⟩ (by decide) Try.underlying28 rfl trivial, ?_⟩   -- func([]uint8) ([]impl.Chunk, int, int)
  refine ⟨TIok.mk1 (.nilFunc) _ (by kernel_rfl) rfl ⟨_, rfl, rfl⟩ rfl rfl ⟨.inl ⟨rfl, rfl⟩, trivial⟩ (by decide) Try.underlying29 rfl trivial, ?_⟩   -- func([]uint8) bool
  refine ⟨TIok.mk1 (.nilFunc) _ (by kernel_rfl) rfl ⟨_, rfl, rfl⟩ rfl rfl ⟨.inl ⟨rfl, rfl⟩, trivial⟩ (by decide) Try.underlying30 rfl trivial, ?_⟩   -- func([]uint8, int) int
  refine ⟨TIok.mk1 (.agg #[.slice none 0 0]) _ (by kernel_rfl) rfl rfl rfl rfl ⟨.inr ⟨_, rfl, rfl⟩, trivial⟩ (by decide) Try.underlying31 rfl ⟨_, rfl, rfl⟩, ?_⟩   -- struct  Data []uint8 
  refine ⟨TIok.mk1 (.agg #[.slice none 0 0]) _ (by kernel_rfl) rfl rfl rfl rfl ⟨.inr ⟨_, rfl, rfl⟩, trivial⟩ (by decide) Try.underlying32 rfl ⟨_, rfl, rfl⟩, ?_⟩   -- impl.Chunk
  refine ⟨TIok.mk1 (.slice none 0 0) _ (by kernel_rfl) rfl ⟨_, rfl, rfl⟩ rfl rfl ⟨.inr ⟨_, rfl, rfl⟩, trivial⟩ (by decide) Try.underlying33 rfl rfl, ?_⟩   -- []int
  refine ⟨TIok.mk1 (.slice none 0 0) _ (by kernel_rfl) rfl ⟨_, rfl, rfl⟩ rfl rfl ⟨.inr ⟨_, rfl, rfl⟩, trivial⟩ (by decide) Try.underlying34 rfl rfl, ?_⟩   -- []impl.Waiter
  refine ⟨TIok.mk1 (.agg #[.int .i64 0, .slice none 0 0, .slice none 0 0, .slice none 0 0, .bool false]) _ (by kernel_rfl) rfl rfl rfl rfl ⟨.inl ⟨rfl, rfl⟩, .inr ⟨_, rfl, rfl⟩, .inr ⟨_, rfl, rfl⟩, .inr ⟨_, rfl, rfl⟩, .inl ⟨rfl, rfl⟩, trivial⟩ (by decide) Try.underlying35 rfl ⟨_, rfl, rfl⟩, ?_⟩   -- struct  Cap int; Buf []int; Sends []imp
  refine ⟨TIok.mk1 (.agg #[.int .i64 0, .slice none 0 0, .slice none 0 0, .slice none 0 0, .bool false]) _ (by kernel_rfl) rfl rfl rfl rfl ⟨.inl ⟨rfl, rfl⟩, .inr ⟨_, rfl, rfl⟩, .inr ⟨_, rfl, rfl⟩, .inr ⟨_, rfl, rfl⟩, .inl ⟨rfl, rfl⟩, trivial⟩ (by decide) Try.underlying36 rfl ⟨_, rfl, rfl⟩, ?_⟩   -- impl.Chan
  refine ⟨TIok.mk1 (.nilFunc) _ (by kernel_rfl) rfl ⟨_, rfl, rfl⟩ rfl rfl ⟨.inl ⟨rfl, rfl⟩, trivial⟩ (by decide) Try.underlying37 rfl trivial, ?_⟩   -- func([]uint8) impl.Chan
  refine ⟨TIok.mk1 (.agg #[.int .i64 0, .int .i64 0, .int .i64 0]) _ (by kernel_rfl) rfl rfl rfl rfl ⟨.inl ⟨rfl, rfl⟩, .inl ⟨rfl, rfl⟩, .inl ⟨rfl, rfl⟩, trivial⟩ (by decide) Try.underlying38 rfl ⟨_, rfl, rfl⟩, ?_⟩   -- struct  G int; Case int; Val int 
  refine ⟨TIok.mk1 (.agg #[.int .i64 0, .int .i64 0, .int .i64 0]) _ (by kernel_rfl) rfl rfl rfl rfl ⟨.inl ⟨rfl, rfl⟩, .inl ⟨rfl, rfl⟩, .inl ⟨rfl, rfl⟩, trivial⟩ (by decide) Try.underlying39 rfl ⟨_, rfl, rfl⟩, ?_⟩   -- impl.Waiter
  refine ⟨TIok.mk1 (.nilFunc) _ (by kernel_rfl) rfl ⟨_, rfl, rfl⟩ rfl rfl ⟨.inl ⟨rfl, rfl⟩, trivial⟩ (by decide) Try.underlying41 rfl trivial, ?_⟩   -- func(impl.Chan, int) (impl.Chan, impl.Wa
  refine ⟨TIok.mk1 (.nilFunc) _ (by kernel_rfl) rfl ⟨_, rfl, rfl⟩ rfl rfl ⟨.inl ⟨rfl, rfl⟩, trivial⟩ (by decide) Try.underlying42 rfl trivial, ?_⟩   -- func(impl.Chan) bool
  refine ⟨TIok.mk1 (.nilFunc) _ (by kernel_rfl) rfl ⟨_, rfl, rfl⟩ rfl rfl ⟨.inl ⟨rfl, rfl⟩, trivial⟩ (by decide) Try.underlying44 rfl trivial, ?_⟩   -- func(impl.Chan) (impl.Chan, int, bool, i
  refine ⟨TIok.mk1 (.nilFunc) _ (by kernel_rfl) rfl ⟨_, rfl, rfl⟩ rfl rfl ⟨.inl ⟨rfl, rfl⟩, trivial⟩ (by decide) Try.underlying46 rfl trivial, ?_⟩   -- func(impl.Chan) (impl.Chan, []impl.Waite
  refine ⟨TIok.mk1 (.nilFunc) _ (by kernel_rfl) rfl ⟨_, rfl, rfl⟩ rfl rfl ⟨.inl ⟨rfl, rfl⟩, trivial⟩ (by decide) Try.underlying47 rfl trivial, ?_⟩   -- func([]int, []int) bool
  refine ⟨TIok.mk1 (.slice none 0 0) _ (by kernel_rfl) rfl ⟨_, rfl, rfl⟩ rfl rfl ⟨.inr ⟨_, rfl, rfl⟩, trivial⟩ (by decide) Try.underlying48 rfl rfl, ?_⟩   -- []laws.Waiter
  refine ⟨TIok.mk1 (.nilFunc) _ (by kernel_rfl) rfl ⟨_, rfl, rfl⟩ rfl rfl ⟨.inl ⟨rfl, rfl⟩, trivial⟩ (by decide) Try.underlying49 rfl trivial, ?_⟩   -- func([]laws.Waiter, int) int
  refine ⟨TIok.mk1 (.nilFunc) _ (by kernel_rfl) rfl ⟨_, rfl, rfl⟩ rfl rfl ⟨.inl ⟨rfl, rfl⟩, trivial⟩ (by decide) Try.underlying50 rfl trivial, ?_⟩   -- func([]impl.Waiter, int) []impl.Waiter
  refine ⟨TIok.mk1 (.nilFunc) _ (by kernel_rfl) rfl ⟨_, rfl, rfl⟩ rfl rfl ⟨.inl ⟨rfl, rfl⟩, trivial⟩ (by decide) Try.underlying51 rfl trivial, ?_⟩   -- func([]laws.Waiter) []impl.Waiter
  refine ⟨TIok.mk1 (.nilFunc) _ (by kernel_rfl) rfl ⟨_, rfl, rfl⟩ rfl rfl ⟨.inl ⟨rfl, rfl⟩, trivial⟩ (by decide) Try.underlying52 rfl trivial, ?_⟩   -- func([]impl.Waiter, []impl.Waiter) bool
  refine ⟨TIok.mk1 (.nilFunc) _ (by kernel_rfl) rfl ⟨_, rfl, rfl⟩ rfl rfl ⟨.inl ⟨rfl, rfl⟩, trivial⟩ (by decide) Try.underlying53 rfl trivial, ?_⟩   -- func([]impl.Waiter, int) int
  refine ⟨TIok.mk1 (.nilFunc) _ (by kernel_rfl) rfl ⟨_, rfl, rfl⟩ rfl rfl ⟨.inl ⟨rfl, rfl⟩, trivial⟩ (by decide) Try.underlying54 rfl trivial, ?_⟩   -- func([]laws.Waiter, int) bool
  refine ⟨TIok.mk1 (.pointer none) _ (by kernel_rfl) rfl ⟨_, rfl, rfl⟩ rfl rfl ⟨.inl ⟨rfl, rfl⟩, trivial⟩ (by decide) Try.underlying55 rfl trivial, ?_⟩   -- *spec.l01Cur
  refine ⟨TIok.mk1 (.nilFunc) _ (by kernel_rfl) rfl ⟨_, rfl, rfl⟩ rfl rfl ⟨.inl ⟨rfl, rfl⟩, trivial⟩ (by decide) Try.underlying56 rfl trivial, ?_⟩   -- func([]uint8) *spec.l01Cur
  refine ⟨TIok.mk1 (.nilFunc) _ (by kernel_rfl) rfl ⟨_, rfl, rfl⟩ rfl rfl ⟨.inl ⟨rfl, rfl⟩, trivial⟩ (by decide) Try.underlying57 rfl trivial, ?_⟩   -- func(*spec.l01Cur, int) []impl.Chunk
  refine ⟨TIok.mk1 (.nilFunc) _ (by kernel_rfl) rfl ⟨_, rfl, rfl⟩ rfl rfl ⟨.inl ⟨rfl, rfl⟩, trivial⟩ (by decide) Try.underlying58 rfl trivial, ?_⟩   -- func(int, []uint8) ([]uint8, bool)
  refine ⟨TIok.mk1 (.nilFunc) _ (by kernel_rfl) rfl ⟨_, rfl, rfl⟩ rfl rfl ⟨.inl ⟨rfl, rfl⟩, trivial⟩ (by decide) Try.underlying60 rfl trivial, ?_⟩   -- func([]uint8, int) (int, []uint8, int, i
  refine ⟨TIok.mk1 (.agg #[.slice none 0 0, .int .i64 0, .int .i64 0]) _ (by kernel_rfl) rfl rfl rfl rfl ⟨.inr ⟨_, rfl, rfl⟩, .inl ⟨rfl, rfl⟩, .inl ⟨rfl, rfl⟩, trivial⟩ (by decide) Try.underlying61 rfl ⟨_, rfl, rfl⟩, ?_⟩   -- struct  b []uint8; i int; h int 
  refine ⟨TIok.mk1 (.agg #[.slice none 0 0, .int .i64 0, .int .i64 0]) _ (by kernel_rfl) rfl rfl rfl rfl ⟨.inr ⟨_, rfl, rfl⟩, .inl ⟨rfl, rfl⟩, .inl ⟨rfl, rfl⟩, trivial⟩ (by decide) Try.underlying62 rfl ⟨_, rfl, rfl⟩, ?_⟩   -- spec.l01Cur
  refine ⟨TIok.mk1 (.nilFunc) _ (by kernel_rfl) rfl ⟨_, rfl, rfl⟩ rfl rfl ⟨.inl ⟨rfl, rfl⟩, trivial⟩ (by decide) Try.underlying63 rfl trivial, ?_⟩   -- func(*spec.l01Cur, int) int
  refine ⟨TIok.mk1 (.nilFunc) _ (by kernel_rfl) rfl ⟨_, rfl, rfl⟩ rfl rfl ⟨.inl ⟨rfl, rfl⟩, trivial⟩ (by decide) Try.underlying64 rfl trivial, ?_⟩   -- func(*spec.l01Cur) impl.Chan
  refine ⟨TIok.mk1 (.nilFunc) _ (by kernel_rfl) rfl ⟨_, rfl, rfl⟩ rfl rfl ⟨.inl ⟨rfl, rfl⟩, trivial⟩ (by decide) Try.underlying65 rfl trivial, ?_⟩   -- func(int) bool
  refine ⟨TIok.mk1 (.nilFunc) _ (by kernel_rfl) rfl ⟨_, rfl, rfl⟩ rfl rfl ⟨.inl ⟨rfl, rfl⟩, trivial⟩ (by decide) Try.underlying66 rfl trivial, ?_⟩   -- func(impl.Chan) impl.Chan
  refine ⟨TIok.mk1 (.nilFunc) _ (by kernel_rfl) rfl ⟨_, rfl, rfl⟩ rfl rfl ⟨.inl ⟨rfl, rfl⟩, trivial⟩ (by decide) Try.underlying67 rfl trivial, ?_⟩   -- func() impl.Waiter
  refine ⟨TIok.mk1 (.nilFunc) _ (by kernel_rfl) rfl ⟨_, rfl, rfl⟩ rfl rfl ⟨.inl ⟨rfl, rfl⟩, trivial⟩ (by decide) Try.underlying68 rfl trivial, ?_⟩   -- func([]int, func(int) bool) bool
  refine ⟨TIok.mk1 (.nilFunc) _ (by kernel_rfl) rfl ⟨_, rfl, rfl⟩ rfl rfl ⟨.inl ⟨rfl, rfl⟩, trivial⟩ (by decide) Try.underlying69 rfl trivial, ?_⟩   -- func(impl.Waiter) bool
  refine ⟨TIok.mk1 (.nilFunc) _ (by kernel_rfl) rfl ⟨_, rfl, rfl⟩ rfl rfl ⟨.inl ⟨rfl, rfl⟩, trivial⟩ (by decide) Try.underlying70 rfl trivial, ?_⟩   -- func(laws.Waiter) impl.Waiter
  refine ⟨TIok.mk1 (.agg #[.int .i64 0, .int .i64 0, .int .i64 0]) _ (by kernel_rfl) rfl rfl rfl rfl ⟨.inl ⟨rfl, rfl⟩, .inl ⟨rfl, rfl⟩, .inl ⟨rfl, rfl⟩, trivial⟩ (by decide) Try.underlying71 rfl ⟨_, rfl, rfl⟩, ?_⟩   -- laws.Waiter
  refine ⟨TIok.mk1 (.nilFunc) _ (by kernel_rfl) rfl ⟨_, rfl, rfl⟩ rfl rfl ⟨.inl ⟨rfl, rfl⟩, trivial⟩ (by decide) Try.underlying72 rfl trivial, ?_⟩   -- func([]impl.Waiter, func(impl.Waiter) bo
  refine ⟨TIok.mk1 (.nilFunc) _ (by kernel_rfl) rfl ⟨_, rfl, rfl⟩ rfl rfl ⟨.inl ⟨rfl, rfl⟩, trivial⟩ (by decide) Try.underlying73 rfl trivial, ?_⟩   -- func([]impl.Waiter) []impl.Waiter
  refine ⟨TIok.mk1 (.nilFunc) _ (by kernel_rfl) rfl ⟨_, rfl, rfl⟩ rfl rfl ⟨.inl ⟨rfl, rfl⟩, trivial⟩ (by decide) Try.underlying74 rfl trivial, ?_⟩   -- func(impl.Waiter, impl.Waiter) bool
  refine ⟨TIok.mk1 (.nilFunc) _ (by kernel_rfl) rfl ⟨_, rfl, rfl⟩ rfl rfl ⟨.inl ⟨rfl, rfl⟩, trivial⟩ (by decide) Try.underlying75 rfl trivial, ?_⟩   -- func(*spec.l01Cur, int) []uint8
  refine ⟨TIok.mk1 (.nilFunc) _ (by kernel_rfl) rfl ⟨_, rfl, rfl⟩ rfl rfl ⟨.inl ⟨rfl, rfl⟩, trivial⟩ (by decide) Try.underlying76 rfl trivial, ?_⟩   -- func([]uint8, int, int) []uint8
  refine ⟨TIok.mk1 (.nilFunc) _ (by kernel_rfl) rfl ⟨_, rfl, rfl⟩ rfl rfl ⟨.inl ⟨rfl, rfl⟩, trivial⟩ (by decide) Try.underlying77 rfl trivial, ?_⟩   -- func([]uint8) int
  refine ⟨TIok.mk1 (.nilFunc) _ (by kernel_rfl) rfl ⟨_, rfl, rfl⟩ rfl rfl ⟨.inl ⟨rfl, rfl⟩, trivial⟩ (by decide) Try.underlying78 rfl trivial, ?_⟩   -- func([]uint8) []uint8
  refine ⟨TIok.mk1 (.nilFunc) _ (by kernel_rfl) rfl ⟨_, rfl, rfl⟩ rfl rfl ⟨.inl ⟨rfl, rfl⟩, trivial⟩ (by decide) Try.underlying79 rfl trivial, ?_⟩   -- func(*spec.l01Cur) int
  refine ⟨TIok.mk1 (.nilFunc) _ (by kernel_rfl) rfl ⟨_, rfl, rfl⟩ rfl rfl ⟨.inl ⟨rfl, rfl⟩, trivial⟩ (by decide) Try.underlying80 rfl trivial, ?_⟩   -- func([]int) []int
  refine ⟨TIok.mk1 (.nilFunc) _ (by kernel_rfl) rfl ⟨_, rfl, rfl⟩ rfl rfl ⟨.inl ⟨rfl, rfl⟩, trivial⟩ (by decide) Try.underlying81 rfl trivial, ?_⟩   -- func([]impl.Waiter, bool) bool
  refine ⟨TIok.mk1 (.nilFunc) _ (by kernel_rfl) rfl ⟨_, rfl, rfl⟩ rfl rfl ⟨.inl ⟨rfl, rfl⟩, trivial⟩ (by decide) Try.underlying82 rfl trivial, ?_⟩   -- func([]int, func(int) bool) int
  refine ⟨TIok.mk1 (.nilFunc) _ (by kernel_rfl) rfl ⟨_, rfl, rfl⟩ rfl rfl ⟨.inl ⟨rfl, rfl⟩, trivial⟩ (by decide) Try.underlying83 rfl trivial, ?_⟩   -- func([]impl.Waiter, func(impl.Waiter) bo
  refine ⟨TIok.mk1 (.int .u64 0) _ (by kernel_rfl) rfl ⟨_, rfl, rfl⟩ rfl rfl ⟨.inl ⟨rfl, rfl⟩, trivial⟩ (by decide) Try.underlying84 rfl rfl, ?_⟩   -- uint
  refine ⟨TIok.mk1 (.nilFunc) _ (by kernel_rfl) rfl ⟨_, rfl, rfl⟩ rfl rfl ⟨.inl ⟨rfl, rfl⟩, trivial⟩ (by decide) Try.underlying85 rfl trivial, ?_⟩   -- func() string
  refine ⟨TIok.mk1 (.nilFunc) _ (by kernel_rfl) rfl ⟨_, rfl, rfl⟩ rfl rfl ⟨.inl ⟨rfl, rfl⟩, trivial⟩ (by decide) Try.underlying91 rfl trivial, ?_⟩   -- func() int
  refine ⟨TIok.mk1 (.int .u32 0) _ (by kernel_rfl) rfl ⟨_, rfl, rfl⟩ rfl rfl ⟨.inl ⟨rfl, rfl⟩, trivial⟩ (by decide) Try.underlying92 rfl rfl, ?_⟩   -- uint32
  refine ⟨TIok.mk1 (.nilFunc) _ (by kernel_rfl) rfl ⟨_, rfl, rfl⟩ rfl rfl ⟨.inl ⟨rfl, rfl⟩, trivial⟩ (by decide) Try.underlying95 rfl trivial, ?_⟩   -- func(unsafe.Pointer, unsafe.Pointer) boo
  refine ⟨TIok.mk1 (.pointer none) _ (by kernel_rfl) rfl ⟨_, rfl, rfl⟩ rfl rfl ⟨.inl ⟨rfl, rfl⟩, trivial⟩ (by decide) Try.underlying96 rfl trivial, ?_⟩   -- *uint8
  exact trivial
def cx : Ctx := ⟨tt, Spec Try.prog, [26], [47, 52], [31, 34, 35, 51, 56], [30], [166070, 166125, 42038], SpecP Try.prog, SpecN Try.prog⟩
theorem cx_ok : CtxOk Try.prog cx := ⟨tt_out tt_all, fun _ _ _ h => h, fun _ _ _ _ _ h => h, fun _ _ _ h => h⟩
theorem mixed : Try.prog.follows .mixedOrders = true := by kernel_rfl
/-- A function's contract, by its body. -/
theorem fn {f : Nat} {fn : Func} {args : List Ar} {ts : List T} (hf : Try.prog.funcs[f]? = some fn) (h : Fn cx fn args ts) (hn : (fn.name == "runtime.NumGoroutine") = false := by decide) : Spec Try.prog f args ts := spec_fn mixed cx_ok hf hn h
theorem fnP {f : Nat} {fn : Func} {ts ts' xs rs : List T} (hf : Try.prog.funcs[f]? = some fn) (h : FnP cx fn ts ts' xs rs) (hn : (fn.name == "runtime.NumGoroutine") = false := by decide) : SpecP Try.prog f ts ts' xs rs := specP_fn mixed cx_ok hf hn h
theorem fnN {f : Nat} {fn : Func} {xs : List T} {cs : List (Value ⊕ Nat)} (hf : Try.prog.funcs[f]? = some fn) (h : FnN cx fn xs cs) (hn : (fn.name == "runtime.NumGoroutine") = false := by decide) : SpecN Try.prog f xs cs := specN_fn mixed cx_ok hf hn h
end Go.Proofs.Ytadpancnhinlbaa.E
