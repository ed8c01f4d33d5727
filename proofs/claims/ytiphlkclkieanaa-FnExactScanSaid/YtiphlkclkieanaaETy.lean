/- The types of this seat's program, and what is true of them. Printed by wip/eng/ty.py. -/
import Derived.Test.YtiphlkclkieanaaEFn
import Derived.Test.YtiphlkclkieanaaProg
import Derived.KernelRfl
namespace Go.Proofs.Ytiphlkclkieanaa.E
def tt : TT := [
  (1, ⟨1, false, 8, [.nilFunc], [.v (.nilFunc)], .other⟩),
  (2, ⟨1, false, 8, [.int .i64 0], [.v (.int .i64 0)], .int .i64⟩),
  (3, ⟨1, false, 8, [.int .i64 0], [.v (.int .i64 0)], .int .i64⟩),
  (4, ⟨1, false, 1, [.bool false], [.v (.bool false)], .bool⟩),
  (5, ⟨1, false, 1, [.int .u8 0], [.v (.int .u8 0)], .int .u8⟩),
  (9, ⟨1, false, 16, [.string ByteArray.empty], [.v (.string ByteArray.empty)], .str⟩),
  (12, ⟨1, false, 8, [.int .u64 0], [.v (.int .u64 0)], .int .u64⟩),
  (13, ⟨2, true, 24, [.string ByteArray.empty, .int .u64 0], [.v (.string ByteArray.empty), .v (.int .u64 0)], .st [(0, 9), (1, 12)]⟩),
  (21, ⟨1, false, 4, [.int .i32 0], [.v (.int .i32 0)], .int .i32⟩),
  (22, ⟨1, false, 24, [.slice none 0 0], [.sl 1 []], .sl 42⟩),
  (23, ⟨1, false, 8, [.nilFunc], [.v (.nilFunc)], .other⟩),
  (24, ⟨1, false, 24, [.slice none 0 0], [.sl 1 []], .sl 5⟩),
  (26, ⟨1, false, 8, [.nilFunc], [.v (.nilFunc)], .other⟩),
  (27, ⟨1, false, 24, [.slice none 0 0], [.sl 1 []], .sl 40⟩),
  (28, ⟨1, false, 8, [.nilFunc], [.v (.nilFunc)], .other⟩),
  (29, ⟨1, false, 8, [.nilFunc], [.v (.nilFunc)], .other⟩),
  (30, ⟨1, false, 8, [.nilFunc], [.v (.nilFunc)], .other⟩),
  (31, ⟨1, false, 8, [.nilFunc], [.v (.nilFunc)], .other⟩),
  (32, ⟨1, false, 8, [.nilFunc], [.v (.nilFunc)], .other⟩),
  (33, ⟨1, false, 8, [.nilFunc], [.v (.nilFunc)], .other⟩),
  (35, ⟨1, false, 8, [.nilFunc], [.v (.nilFunc)], .other⟩),
  (36, ⟨1, false, 8, [.nilFunc], [.v (.nilFunc)], .other⟩),
  (37, ⟨1, false, 8, [.nilFunc], [.v (.nilFunc)], .other⟩),
  (38, ⟨1, false, 8, [.nilFunc], [.v (.nilFunc)], .other⟩),
  (39, ⟨1, true, 24, [.slice none 0 0], [.sl 1 []], .st [(0, 24)]⟩),
  (40, ⟨1, true, 24, [.slice none 0 0], [.sl 1 []], .st [(0, 24)]⟩),
  (41, ⟨1, false, 8, [.nilFunc], [.v (.nilFunc)], .other⟩),
  (42, ⟨1, true, 24, [.slice none 0 0], [.sl 1 []], .st [(0, 24)]⟩),
  (43, ⟨1, false, 8, [.nilFunc], [.v (.nilFunc)], .other⟩),
  (44, ⟨1, false, 8, [.nilFunc], [.v (.nilFunc)], .other⟩),
  (45, ⟨1, false, 8, [.nilFunc], [.v (.nilFunc)], .other⟩),
  (47, ⟨1, false, 8, [.nilFunc], [.v (.nilFunc)], .other⟩),
  (48, ⟨1, false, 8, [.pointer none], [.v (.pointer none)], .ptr⟩),
  (49, ⟨1, false, 8, [.nilFunc], [.v (.nilFunc)], .other⟩),
  (50, ⟨1, false, 8, [.nilFunc], [.v (.nilFunc)], .other⟩),
  (51, ⟨3, true, 40, [.slice none 0 0, .int .i64 0, .int .i64 0], [.sl 1 [], .v (.int .i64 0), .v (.int .i64 0)], .st [(0, 24), (1, 3), (2, 3)]⟩),
  (52, ⟨3, true, 40, [.slice none 0 0, .int .i64 0, .int .i64 0], [.sl 1 [], .v (.int .i64 0), .v (.int .i64 0)], .st [(0, 24), (1, 3), (2, 3)]⟩),
  (53, ⟨1, false, 8, [.nilFunc], [.v (.nilFunc)], .other⟩),
  (54, ⟨1, false, 8, [.nilFunc], [.v (.nilFunc)], .other⟩),
  (55, ⟨1, false, 8, [.nilFunc], [.v (.nilFunc)], .other⟩),
  (56, ⟨1, false, 8, [.nilFunc], [.v (.nilFunc)], .other⟩),
  (57, ⟨1, false, 8, [.nilFunc], [.v (.nilFunc)], .other⟩),
  (58, ⟨1, false, 8, [.nilFunc], [.v (.nilFunc)], .other⟩),
  (59, ⟨1, false, 8, [.int .u64 0], [.v (.int .u64 0)], .int .u64⟩),
  (60, ⟨1, false, 8, [.nilFunc], [.v (.nilFunc)], .other⟩),
  (66, ⟨1, false, 8, [.nilFunc], [.v (.nilFunc)], .other⟩),
  (67, ⟨1, false, 4, [.int .u32 0], [.v (.int .u32 0)], .int .u32⟩),
  (70, ⟨1, false, 8, [.nilFunc], [.v (.nilFunc)], .other⟩),
  (71, ⟨1, false, 8, [.pointer none], [.v (.pointer none)], .ptr⟩)]
set_option maxRecDepth 100000 in
theorem tt_all : TTall Try.prog tt := by
  refine ⟨TIok.mk1 (.nilFunc) _ (by kernel_rfl) rfl ⟨_, rfl, rfl⟩ rfl rfl ⟨.inl ⟨rfl, rfl⟩, trivial⟩ (by decide) Try.underlying1 rfl trivial, ?_⟩   -- func()
  refine ⟨TIok.mk1 (.int .i64 0) _ (by kernel_rfl) rfl ⟨_, rfl, rfl⟩ rfl rfl ⟨.inl ⟨rfl, rfl⟩, trivial⟩ (by decide) Try.underlying2 rfl rfl, ?_⟩   -- int64
  refine ⟨TIok.mk1 (.int .i64 0) _ (by kernel_rfl) rfl ⟨_, rfl, rfl⟩ rfl rfl ⟨.inl ⟨rfl, rfl⟩, trivial⟩ (by decide) Try.underlying3 rfl rfl, ?_⟩   -- int
  refine ⟨TIok.mk1 (.bool false) _ (by kernel_rfl) rfl ⟨_, rfl, rfl⟩ rfl rfl ⟨.inl ⟨rfl, rfl⟩, trivial⟩ (by decide) Try.underlying4 rfl rfl, ?_⟩   -- bool
  refine ⟨TIok.mk1 (.int .u8 0) _ (by kernel_rfl) rfl ⟨_, rfl, rfl⟩ rfl rfl ⟨.inl ⟨rfl, rfl⟩, trivial⟩ (by decide) Try.underlying5 rfl rfl, ?_⟩   -- uint8
  refine ⟨TIok.mk1 (.string ByteArray.empty) _ (by kernel_rfl) rfl ⟨_, rfl, rfl⟩ rfl rfl ⟨.inl ⟨rfl, rfl⟩, trivial⟩ (by decide) Try.underlying9 rfl rfl, ?_⟩   -- string
  refine ⟨TIok.mk1 (.int .u64 0) _ (by kernel_rfl) rfl ⟨_, rfl, rfl⟩ rfl rfl ⟨.inl ⟨rfl, rfl⟩, trivial⟩ (by decide) Try.underlying12 rfl rfl, ?_⟩   -- uintptr
  refine ⟨TIok.mk1 (.agg #[.string ByteArray.empty, .int .u64 0]) _ (by kernel_rfl) rfl rfl rfl rfl ⟨.inl ⟨rfl, rfl⟩, .inl ⟨rfl, rfl⟩, trivial⟩ (by decide) Try.underlying13 rfl ⟨_, rfl, rfl⟩, ?_⟩   -- struct  msg string; addr uintptr 
  refine ⟨TIok.mk1 (.int .i32 0) _ (by kernel_rfl) rfl ⟨_, rfl, rfl⟩ rfl rfl ⟨.inl ⟨rfl, rfl⟩, trivial⟩ (by decide) Try.underlying21 rfl rfl, ?_⟩   -- int32
  refine ⟨TIok.mk1 (.slice none 0 0) _ (by kernel_rfl) rfl ⟨_, rfl, rfl⟩ rfl rfl ⟨.inr ⟨_, rfl, rfl⟩, trivial⟩ (by decide) Try.underlying22 rfl rfl, ?_⟩   -- []laws.Chunk
  refine ⟨TIok.mk1 (.nilFunc) _ (by kernel_rfl) rfl ⟨_, rfl, rfl⟩ rfl rfl ⟨.inl ⟨rfl, rfl⟩, trivial⟩ (by decide) Try.underlying23 rfl trivial, ?_⟩   -- func([]laws.Chunk, int) int
  refine ⟨TIok.mk1 (.slice none 0 0) _ (by kernel_rfl) rfl ⟨_, rfl, rfl⟩ rfl rfl ⟨.inr ⟨_, rfl, rfl⟩, trivial⟩ (by decide) Try.underlying24 rfl rfl, ?_⟩   -- []uint8
  refine ⟨TIok.mk1 (.nilFunc) _ (by kernel_rfl) rfl ⟨_, rfl, rfl⟩ rfl rfl ⟨.inl ⟨rfl, rfl⟩, trivial⟩ (by decide) Try.underlying26 rfl trivial, ?_⟩   -- func([]impl.Chunk) ([]uint8, bool)
  refine ⟨TIok.mk1 (.slice none 0 0) _ (by kernel_rfl) rfl ⟨_, rfl, rfl⟩ rfl rfl ⟨.inr ⟨_, rfl, rfl⟩, trivial⟩ (by decide) Try.underlying27 rfl rfl, ?_⟩   -- []impl.Chunk
  refine ⟨TIok.mk1 (.nilFunc) _ (by kernel_rfl) rfl ⟨_, rfl, rfl⟩ rfl rfl ⟨.inl ⟨rfl, rfl⟩, trivial⟩ (by decide) Try.underlying28 rfl trivial, ?_⟩   -- func([]laws.Chunk) []impl.Chunk
  refine ⟨TIok.mk1 (.nilFunc) _ (by kernel_rfl) rfl ⟨_, rfl, rfl⟩ rfl rfl ⟨.inl ⟨rfl, rfl⟩, trivial⟩ (by decide) Try.underlying29 rfl trivial, ?_⟩   -- func([]uint8, []uint8) bool
  refine ⟨TIok.mk1 (.nilFunc) _ (by kernel_rfl) rfl ⟨_, rfl, rfl⟩ rfl rfl ⟨.inl ⟨rfl, rfl⟩, trivial⟩ (by decide) Try.underlying30 rfl trivial, ?_⟩   -- func([]impl.Chunk, []impl.Chunk) bool
  refine ⟨TIok.mk1 (.nilFunc) _ (by kernel_rfl) rfl ⟨_, rfl, rfl⟩ rfl rfl ⟨.inl ⟨rfl, rfl⟩, trivial⟩ (by decide) Try.underlying31 rfl trivial, ?_⟩   -- func([]impl.Chunk, int) int
  refine ⟨TIok.mk1 (.nilFunc) _ (by kernel_rfl) rfl ⟨_, rfl, rfl⟩ rfl rfl ⟨.inl ⟨rfl, rfl⟩, trivial⟩ (by decide) Try.underlying32 rfl trivial, ?_⟩   -- func([]uint8, int) int
  refine ⟨TIok.mk1 (.nilFunc) _ (by kernel_rfl) rfl ⟨_, rfl, rfl⟩ rfl rfl ⟨.inl ⟨rfl, rfl⟩, trivial⟩ (by decide) Try.underlying33 rfl trivial, ?_⟩   -- func([]laws.Chunk) bool
  refine ⟨TIok.mk1 (.nilFunc) _ (by kernel_rfl) rfl ⟨_, rfl, rfl⟩ rfl rfl ⟨.inl ⟨rfl, rfl⟩, trivial⟩ (by decide) Try.underlying35 rfl trivial, ?_⟩   -- func([]uint8) ([]impl.Chunk, int, int)
  refine ⟨TIok.mk1 (.nilFunc) _ (by kernel_rfl) rfl ⟨_, rfl, rfl⟩ rfl rfl ⟨.inl ⟨rfl, rfl⟩, trivial⟩ (by decide) Try.underlying36 rfl trivial, ?_⟩   -- func([]uint8) []uint8
  refine ⟨TIok.mk1 (.nilFunc) _ (by kernel_rfl) rfl ⟨_, rfl, rfl⟩ rfl rfl ⟨.inl ⟨rfl, rfl⟩, trivial⟩ (by decide) Try.underlying37 rfl trivial, ?_⟩   -- func([]uint8) bool
  refine ⟨TIok.mk1 (.nilFunc) _ (by kernel_rfl) rfl ⟨_, rfl, rfl⟩ rfl rfl ⟨.inl ⟨rfl, rfl⟩, trivial⟩ (by decide) Try.underlying38 rfl trivial, ?_⟩   -- func([]uint8) []impl.Chunk
  refine ⟨TIok.mk1 (.agg #[.slice none 0 0]) _ (by kernel_rfl) rfl rfl rfl rfl ⟨.inr ⟨_, rfl, rfl⟩, trivial⟩ (by decide) Try.underlying39 rfl ⟨_, rfl, rfl⟩, ?_⟩   -- struct  Data []uint8 
  refine ⟨TIok.mk1 (.agg #[.slice none 0 0]) _ (by kernel_rfl) rfl rfl rfl rfl ⟨.inr ⟨_, rfl, rfl⟩, trivial⟩ (by decide) Try.underlying40 rfl ⟨_, rfl, rfl⟩, ?_⟩   -- impl.Chunk
  refine ⟨TIok.mk1 (.nilFunc) _ (by kernel_rfl) rfl ⟨_, rfl, rfl⟩ rfl rfl ⟨.inl ⟨rfl, rfl⟩, trivial⟩ (by decide) Try.underlying41 rfl trivial, ?_⟩   -- func(laws.Chunk, int) int
  refine ⟨TIok.mk1 (.agg #[.slice none 0 0]) _ (by kernel_rfl) rfl rfl rfl rfl ⟨.inr ⟨_, rfl, rfl⟩, trivial⟩ (by decide) Try.underlying42 rfl ⟨_, rfl, rfl⟩, ?_⟩   -- laws.Chunk
  refine ⟨TIok.mk1 (.nilFunc) _ (by kernel_rfl) rfl ⟨_, rfl, rfl⟩ rfl rfl ⟨.inl ⟨rfl, rfl⟩, trivial⟩ (by decide) Try.underlying43 rfl trivial, ?_⟩   -- func(int, []uint8) ([]uint8, bool)
  refine ⟨TIok.mk1 (.nilFunc) _ (by kernel_rfl) rfl ⟨_, rfl, rfl⟩ rfl rfl ⟨.inl ⟨rfl, rfl⟩, trivial⟩ (by decide) Try.underlying44 rfl trivial, ?_⟩   -- func(laws.Chunk) impl.Chunk
  refine ⟨TIok.mk1 (.nilFunc) _ (by kernel_rfl) rfl ⟨_, rfl, rfl⟩ rfl rfl ⟨.inl ⟨rfl, rfl⟩, trivial⟩ (by decide) Try.underlying45 rfl trivial, ?_⟩   -- func(impl.Chunk, impl.Chunk) bool
  refine ⟨TIok.mk1 (.nilFunc) _ (by kernel_rfl) rfl ⟨_, rfl, rfl⟩ rfl rfl ⟨.inl ⟨rfl, rfl⟩, trivial⟩ (by decide) Try.underlying47 rfl trivial, ?_⟩   -- func([]uint8, int) (int, []uint8, int, i
  refine ⟨TIok.mk1 (.pointer none) _ (by kernel_rfl) rfl ⟨_, rfl, rfl⟩ rfl rfl ⟨.inl ⟨rfl, rfl⟩, trivial⟩ (by decide) Try.underlying48 rfl trivial, ?_⟩   -- *spec.l01Cur
  refine ⟨TIok.mk1 (.nilFunc) _ (by kernel_rfl) rfl ⟨_, rfl, rfl⟩ rfl rfl ⟨.inl ⟨rfl, rfl⟩, trivial⟩ (by decide) Try.underlying49 rfl trivial, ?_⟩   -- func([]uint8) *spec.l01Cur
  refine ⟨TIok.mk1 (.nilFunc) _ (by kernel_rfl) rfl ⟨_, rfl, rfl⟩ rfl rfl ⟨.inl ⟨rfl, rfl⟩, trivial⟩ (by decide) Try.underlying50 rfl trivial, ?_⟩   -- func(*spec.l01Cur, int) []impl.Chunk
  refine ⟨TIok.mk1 (.agg #[.slice none 0 0, .int .i64 0, .int .i64 0]) _ (by kernel_rfl) rfl rfl rfl rfl ⟨.inr ⟨_, rfl, rfl⟩, .inl ⟨rfl, rfl⟩, .inl ⟨rfl, rfl⟩, trivial⟩ (by decide) Try.underlying51 rfl ⟨_, rfl, rfl⟩, ?_⟩   -- struct  b []uint8; i int; h int 
  refine ⟨TIok.mk1 (.agg #[.slice none 0 0, .int .i64 0, .int .i64 0]) _ (by kernel_rfl) rfl rfl rfl rfl ⟨.inr ⟨_, rfl, rfl⟩, .inl ⟨rfl, rfl⟩, .inl ⟨rfl, rfl⟩, trivial⟩ (by decide) Try.underlying52 rfl ⟨_, rfl, rfl⟩, ?_⟩   -- spec.l01Cur
  refine ⟨TIok.mk1 (.nilFunc) _ (by kernel_rfl) rfl ⟨_, rfl, rfl⟩ rfl rfl ⟨.inl ⟨rfl, rfl⟩, trivial⟩ (by decide) Try.underlying53 rfl trivial, ?_⟩   -- func(*spec.l01Cur, int) int
  refine ⟨TIok.mk1 (.nilFunc) _ (by kernel_rfl) rfl ⟨_, rfl, rfl⟩ rfl rfl ⟨.inl ⟨rfl, rfl⟩, trivial⟩ (by decide) Try.underlying54 rfl trivial, ?_⟩   -- func([]uint8, int, int) []uint8
  refine ⟨TIok.mk1 (.nilFunc) _ (by kernel_rfl) rfl ⟨_, rfl, rfl⟩ rfl rfl ⟨.inl ⟨rfl, rfl⟩, trivial⟩ (by decide) Try.underlying55 rfl trivial, ?_⟩   -- func([]uint8) int
  refine ⟨TIok.mk1 (.nilFunc) _ (by kernel_rfl) rfl ⟨_, rfl, rfl⟩ rfl rfl ⟨.inl ⟨rfl, rfl⟩, trivial⟩ (by decide) Try.underlying56 rfl trivial, ?_⟩   -- func([]uint8, int, int) int
  refine ⟨TIok.mk1 (.nilFunc) _ (by kernel_rfl) rfl ⟨_, rfl, rfl⟩ rfl rfl ⟨.inl ⟨rfl, rfl⟩, trivial⟩ (by decide) Try.underlying57 rfl trivial, ?_⟩   -- func(*spec.l01Cur, int) []uint8
  refine ⟨TIok.mk1 (.nilFunc) _ (by kernel_rfl) rfl ⟨_, rfl, rfl⟩ rfl rfl ⟨.inl ⟨rfl, rfl⟩, trivial⟩ (by decide) Try.underlying58 rfl trivial, ?_⟩   -- func(*spec.l01Cur) int
  refine ⟨TIok.mk1 (.int .u64 0) _ (by kernel_rfl) rfl ⟨_, rfl, rfl⟩ rfl rfl ⟨.inl ⟨rfl, rfl⟩, trivial⟩ (by decide) Try.underlying59 rfl rfl, ?_⟩   -- uint
  refine ⟨TIok.mk1 (.nilFunc) _ (by kernel_rfl) rfl ⟨_, rfl, rfl⟩ rfl rfl ⟨.inl ⟨rfl, rfl⟩, trivial⟩ (by decide) Try.underlying60 rfl trivial, ?_⟩   -- func() string
  refine ⟨TIok.mk1 (.nilFunc) _ (by kernel_rfl) rfl ⟨_, rfl, rfl⟩ rfl rfl ⟨.inl ⟨rfl, rfl⟩, trivial⟩ (by decide) Try.underlying66 rfl trivial, ?_⟩   -- func() int
  refine ⟨TIok.mk1 (.int .u32 0) _ (by kernel_rfl) rfl ⟨_, rfl, rfl⟩ rfl rfl ⟨.inl ⟨rfl, rfl⟩, trivial⟩ (by decide) Try.underlying67 rfl rfl, ?_⟩   -- uint32
  refine ⟨TIok.mk1 (.nilFunc) _ (by kernel_rfl) rfl ⟨_, rfl, rfl⟩ rfl rfl ⟨.inl ⟨rfl, rfl⟩, trivial⟩ (by decide) Try.underlying70 rfl trivial, ?_⟩   -- func(unsafe.Pointer, unsafe.Pointer) boo
  refine ⟨TIok.mk1 (.pointer none) _ (by kernel_rfl) rfl ⟨_, rfl, rfl⟩ rfl rfl ⟨.inl ⟨rfl, rfl⟩, trivial⟩ (by decide) Try.underlying71 rfl trivial, ?_⟩   -- *uint8
  exact trivial
def cx : Ctx := ⟨tt, Spec Try.prog, [12, 13], [33, 35]⟩
theorem cx_ok : CtxOk Try.prog cx := ⟨tt_out tt_all, fun _ _ _ h => h⟩
theorem mixed : Try.prog.follows .mixedOrders = true := by kernel_rfl
/-- A function's contract, by its body. -/
theorem fn {f : Nat} {fn : Func} {args : List Ar} {ts : List T} (hf : Try.prog.funcs[f]? = some fn) (h : Fn cx fn args ts) (hn : (fn.name == "runtime.NumGoroutine") = false := by decide) : Spec Try.prog f args ts := spec_fn mixed cx_ok hf hn h
end Go.Proofs.Ytiphlkclkieanaa.E
