/- The types of this seat's program, and what is true of them. Printed by wip/eng/ty.py. -/
import Derived.Test.YtjfojepkoknpjaaDoorEFn
import Derived.Test.YtjfojepkoknpjaaDoorProg
import Derived.KernelRfl
namespace Go.Proofs.YtjfojepkoknpjaaDoor.E
def tt : TT := [
  (1, ⟨1, false, 8, [.nilFunc], [.v (.nilFunc)], .other⟩),
  (2, ⟨1, false, 8, [.int .i64 0], [.v (.int .i64 0)], .int .i64⟩),
  (3, ⟨1, false, 8, [.int .i64 0], [.v (.int .i64 0)], .int .i64⟩),
  (4, ⟨1, false, 1, [.bool false], [.v (.bool false)], .bool⟩),
  (5, ⟨1, false, 1, [.int .u8 0], [.v (.int .u8 0)], .int .u8⟩),
  (9, ⟨1, false, 16, [.string ByteArray.empty], [.v (.string ByteArray.empty)], .str⟩),
  (12, ⟨1, false, 8, [.int .u64 0], [.v (.int .u64 0)], .int .u64⟩),
  (13, ⟨2, true, 24, [.string ByteArray.empty, .int .u64 0], [.v (.string ByteArray.empty), .v (.int .u64 0)], .st [(0, 9), (1, 12)]⟩),
  (21, ⟨1, false, 4, [.int .i32 0], [.v (.int .i32 0)], .int .i32⟩),
  (22, ⟨4, true, 32, [.int .i64 0, .int .i64 0, .int .i64 0, .bool false], [.v (.int .i64 0), .v (.int .i64 0), .v (.int .i64 0), .v (.bool false)], .st [(0, 3), (1, 3), (2, 3), (3, 4)]⟩),
  (23, ⟨4, true, 32, [.int .i64 0, .int .i64 0, .int .i64 0, .bool false], [.v (.int .i64 0), .v (.int .i64 0), .v (.int .i64 0), .v (.bool false)], .st [(0, 3), (1, 3), (2, 3), (3, 4)]⟩),
  (24, ⟨1, false, 8, [.nilFunc], [.v (.nilFunc)], .other⟩),
  (25, ⟨4, true, 32, [.int .i64 0, .int .i64 0, .int .i64 0, .bool false], [.v (.int .i64 0), .v (.int .i64 0), .v (.int .i64 0), .v (.bool false)], .st [(0, 3), (1, 3), (2, 3), (3, 4)]⟩),
  (26, ⟨1, false, 8, [.nilFunc], [.v (.nilFunc)], .other⟩),
  (27, ⟨1, false, 8, [.nilFunc], [.v (.nilFunc)], .other⟩),
  (28, ⟨1, false, 8, [.nilFunc], [.v (.nilFunc)], .other⟩),
  (29, ⟨1, false, 8, [.nilFunc], [.v (.nilFunc)], .other⟩),
  (30, ⟨1, false, 24, [.slice none 0 0], [.sl 1 []], .sl 9⟩),
  (31, ⟨1, false, 8, [.nilFunc], [.v (.nilFunc)], .other⟩),
  (33, ⟨1, false, 8, [.nilFunc], [.v (.nilFunc)], .other⟩),
  (34, ⟨1, false, 8, [.nilFunc], [.v (.nilFunc)], .other⟩),
  (35, ⟨1, false, 8, [.nilFunc], [.v (.nilFunc)], .other⟩),
  (36, ⟨1, false, 24, [.slice none 0 0], [.sl 1 []], .sl 5⟩),
  (38, ⟨1, false, 8, [.nilFunc], [.v (.nilFunc)], .other⟩),
  (39, ⟨1, false, 8, [.nilFunc], [.v (.nilFunc)], .other⟩),
  (40, ⟨1, false, 24, [.slice none 0 0], [.sl 2 []], .sl 42⟩),
  (41, ⟨2, true, 16, [.int .i64 0, .int .i64 0], [.v (.int .i64 0), .v (.int .i64 0)], .st [(0, 3), (1, 3)]⟩),
  (42, ⟨2, true, 16, [.int .i64 0, .int .i64 0], [.v (.int .i64 0), .v (.int .i64 0)], .st [(0, 3), (1, 3)]⟩),
  (43, ⟨1, false, 4, [.int .u32 0], [.v (.int .u32 0)], .int .u32⟩),
  (44, ⟨1, false, 8, [.nilFunc], [.v (.nilFunc)], .other⟩),
  (45, ⟨1, false, 8, [.pointer none], [.v (.pointer none)], .ptr⟩),
  (46, ⟨1, false, 8, [.pointer none], [.v (.pointer none)], .ptr⟩),
  (47, ⟨2, true, 32, [.pointer none, .slice none 0 0], [.v (.pointer none), .sl 1 []], .st [(0, 46), (1, 36)]⟩),
  (48, ⟨2, true, 32, [.pointer none, .slice none 0 0], [.v (.pointer none), .sl 1 []], .st [(0, 46), (1, 36)]⟩),
  (49, ⟨1, false, 8, [.nilFunc], [.v (.nilFunc)], .other⟩),
  (53, ⟨1, false, 8, [.nilFunc], [.v (.nilFunc)], .other⟩),
  (54, ⟨1, false, 8, [.nilFunc], [.v (.nilFunc)], .other⟩),
  (55, ⟨1, false, 24, [.slice none 0 0], [.sl 3 []], .sl 61⟩),
  (56, ⟨1, false, 24, [.slice none 0 0], [.sl 3 []], .sl 64⟩),
  (57, ⟨3, true, 56, [.slice none 0 0, .slice none 0 0, .int .i64 0], [.sl 3 [], .sl 3 [], .v (.int .i64 0)], .st [(0, 55), (1, 56), (2, 3)]⟩),
  (58, ⟨3, true, 56, [.slice none 0 0, .slice none 0 0, .int .i64 0], [.sl 3 [], .sl 3 [], .v (.int .i64 0)], .st [(0, 55), (1, 56), (2, 3)]⟩),
  (59, ⟨1, false, 2, [.int .u16 0], [.v (.int .u16 0)], .int .u16⟩),
  (60, ⟨3, true, 6, [.int .u16 0, .int .u16 0, .int .u16 0], [.v (.int .u16 0), .v (.int .u16 0), .v (.int .u16 0)], .st [(0, 59), (1, 59), (2, 59)]⟩),
  (61, ⟨3, true, 6, [.int .u16 0, .int .u16 0, .int .u16 0], [.v (.int .u16 0), .v (.int .u16 0), .v (.int .u16 0)], .st [(0, 59), (1, 59), (2, 59)]⟩),
  (62, ⟨1, false, 8, [.nilFunc], [.v (.nilFunc)], .other⟩),
  (63, ⟨3, true, 12, [.int .u32 0, .int .u32 0, .int .u32 0], [.v (.int .u32 0), .v (.int .u32 0), .v (.int .u32 0)], .st [(0, 43), (1, 43), (2, 43)]⟩),
  (64, ⟨3, true, 12, [.int .u32 0, .int .u32 0, .int .u32 0], [.v (.int .u32 0), .v (.int .u32 0), .v (.int .u32 0)], .st [(0, 43), (1, 43), (2, 43)]⟩),
  (65, ⟨1, false, 8, [.nilFunc], [.v (.nilFunc)], .other⟩),
  (66, ⟨1, false, 8, [.pointer none], [.v (.pointer none)], .ptr⟩),
  (67, ⟨1, false, 8, [.pointer none], [.v (.pointer none)], .ptr⟩),
  (68, ⟨1, false, 8, [.int .u64 0], [.v (.int .u64 0)], .int .u64⟩),
  (69, ⟨1, false, 8, [.pointer none], [.v (.pointer none)], .ptr⟩),
  (71, ⟨1, false, 8, [.nilFunc], [.v (.nilFunc)], .other⟩),
  (72, ⟨1, false, 8, [.nilFunc], [.v (.nilFunc)], .other⟩),
  (78, ⟨1, false, 8, [.nilFunc], [.v (.nilFunc)], .other⟩),
  (81, ⟨1, false, 8, [.nilFunc], [.v (.nilFunc)], .other⟩)]
set_option maxRecDepth 100000 in
theorem tt_all : TTall Tryd.prog tt := by
  refine ⟨TIok.mk1 (.nilFunc) _ (by kernel_rfl) rfl ⟨_, rfl, rfl⟩ rfl rfl ⟨.inl ⟨rfl, rfl⟩, trivial⟩ (by decide) Tryd.underlying1 rfl trivial, ?_⟩   -- func()
  refine ⟨TIok.mk1 (.int .i64 0) _ (by kernel_rfl) rfl ⟨_, rfl, rfl⟩ rfl rfl ⟨.inl ⟨rfl, rfl⟩, trivial⟩ (by decide) Tryd.underlying2 rfl rfl, ?_⟩   -- int64
  refine ⟨TIok.mk1 (.int .i64 0) _ (by kernel_rfl) rfl ⟨_, rfl, rfl⟩ rfl rfl ⟨.inl ⟨rfl, rfl⟩, trivial⟩ (by decide) Tryd.underlying3 rfl rfl, ?_⟩   -- int
  refine ⟨TIok.mk1 (.bool false) _ (by kernel_rfl) rfl ⟨_, rfl, rfl⟩ rfl rfl ⟨.inl ⟨rfl, rfl⟩, trivial⟩ (by decide) Tryd.underlying4 rfl rfl, ?_⟩   -- bool
  refine ⟨TIok.mk1 (.int .u8 0) _ (by kernel_rfl) rfl ⟨_, rfl, rfl⟩ rfl rfl ⟨.inl ⟨rfl, rfl⟩, trivial⟩ (by decide) Tryd.underlying5 rfl rfl, ?_⟩   -- uint8
  refine ⟨TIok.mk1 (.string ByteArray.empty) _ (by kernel_rfl) rfl ⟨_, rfl, rfl⟩ rfl rfl ⟨.inl ⟨rfl, rfl⟩, trivial⟩ (by decide) Tryd.underlying9 rfl rfl, ?_⟩   -- string
  refine ⟨TIok.mk1 (.int .u64 0) _ (by kernel_rfl) rfl ⟨_, rfl, rfl⟩ rfl rfl ⟨.inl ⟨rfl, rfl⟩, trivial⟩ (by decide) Tryd.underlying12 rfl rfl, ?_⟩   -- uintptr
  refine ⟨TIok.mk1 (.agg #[.string ByteArray.empty, .int .u64 0]) _ (by kernel_rfl) rfl rfl rfl rfl ⟨.inl ⟨rfl, rfl⟩, .inl ⟨rfl, rfl⟩, trivial⟩ (by decide) Tryd.underlying13 rfl ⟨_, rfl, rfl⟩, ?_⟩   -- struct  msg string; addr uintptr 
  refine ⟨TIok.mk1 (.int .i32 0) _ (by kernel_rfl) rfl ⟨_, rfl, rfl⟩ rfl rfl ⟨.inl ⟨rfl, rfl⟩, trivial⟩ (by decide) Tryd.underlying21 rfl rfl, ?_⟩   -- int32
  refine ⟨TIok.mk1 (.agg #[.int .i64 0, .int .i64 0, .int .i64 0, .bool false]) _ (by kernel_rfl) rfl rfl rfl rfl ⟨.inl ⟨rfl, rfl⟩, .inl ⟨rfl, rfl⟩, .inl ⟨rfl, rfl⟩, .inl ⟨rfl, rfl⟩, trivial⟩ (by decide) Tryd.underlying22 rfl ⟨_, rfl, rfl⟩, ?_⟩   -- struct  Kind int; Obj int; Val int; Ok 
  refine ⟨TIok.mk1 (.agg #[.int .i64 0, .int .i64 0, .int .i64 0, .bool false]) _ (by kernel_rfl) rfl rfl rfl rfl ⟨.inl ⟨rfl, rfl⟩, .inl ⟨rfl, rfl⟩, .inl ⟨rfl, rfl⟩, .inl ⟨rfl, rfl⟩, trivial⟩ (by decide) Tryd.underlying23 rfl ⟨_, rfl, rfl⟩, ?_⟩   -- laws.Item
  refine ⟨TIok.mk1 (.nilFunc) _ (by kernel_rfl) rfl ⟨_, rfl, rfl⟩ rfl rfl ⟨.inl ⟨rfl, rfl⟩, trivial⟩ (by decide) Tryd.underlying24 rfl trivial, ?_⟩   -- func(impl.Item) string
  refine ⟨TIok.mk1 (.agg #[.int .i64 0, .int .i64 0, .int .i64 0, .bool false]) _ (by kernel_rfl) rfl rfl rfl rfl ⟨.inl ⟨rfl, rfl⟩, .inl ⟨rfl, rfl⟩, .inl ⟨rfl, rfl⟩, .inl ⟨rfl, rfl⟩, trivial⟩ (by decide) Tryd.underlying25 rfl ⟨_, rfl, rfl⟩, ?_⟩   -- impl.Item
  refine ⟨TIok.mk1 (.nilFunc) _ (by kernel_rfl) rfl ⟨_, rfl, rfl⟩ rfl rfl ⟨.inl ⟨rfl, rfl⟩, trivial⟩ (by decide) Tryd.underlying26 rfl trivial, ?_⟩   -- func(laws.Item) impl.Item
  refine ⟨TIok.mk1 (.nilFunc) _ (by kernel_rfl) rfl ⟨_, rfl, rfl⟩ rfl rfl ⟨.inl ⟨rfl, rfl⟩, trivial⟩ (by decide) Tryd.underlying27 rfl trivial, ?_⟩   -- func(laws.Item) bool
  refine ⟨TIok.mk1 (.nilFunc) _ (by kernel_rfl) rfl ⟨_, rfl, rfl⟩ rfl rfl ⟨.inl ⟨rfl, rfl⟩, trivial⟩ (by decide) Tryd.underlying28 rfl trivial, ?_⟩   -- func(impl.Item) bool
  refine ⟨TIok.mk1 (.nilFunc) _ (by kernel_rfl) rfl ⟨_, rfl, rfl⟩ rfl rfl ⟨.inl ⟨rfl, rfl⟩, trivial⟩ (by decide) Tryd.underlying29 rfl trivial, ?_⟩   -- func(int) bool
  refine ⟨TIok.mk1 (.slice none 0 0) _ (by kernel_rfl) rfl ⟨_, rfl, rfl⟩ rfl rfl ⟨.inr ⟨_, rfl, rfl⟩, trivial⟩ (by decide) Tryd.underlying30 rfl rfl, ?_⟩   -- []string
  refine ⟨TIok.mk1 (.nilFunc) _ (by kernel_rfl) rfl ⟨_, rfl, rfl⟩ rfl rfl ⟨.inl ⟨rfl, rfl⟩, trivial⟩ (by decide) Tryd.underlying31 rfl trivial, ?_⟩   -- func(int) string
  refine ⟨TIok.mk1 (.nilFunc) _ (by kernel_rfl) rfl ⟨_, rfl, rfl⟩ rfl rfl ⟨.inl ⟨rfl, rfl⟩, trivial⟩ (by decide) Tryd.underlying33 rfl trivial, ?_⟩   -- func(int, bool, string) (string, bool)
  refine ⟨TIok.mk1 (.nilFunc) _ (by kernel_rfl) rfl ⟨_, rfl, rfl⟩ rfl rfl ⟨.inl ⟨rfl, rfl⟩, trivial⟩ (by decide) Tryd.underlying34 rfl trivial, ?_⟩   -- func(string) []string
  refine ⟨TIok.mk1 (.nilFunc) _ (by kernel_rfl) rfl ⟨_, rfl, rfl⟩ rfl rfl ⟨.inl ⟨rfl, rfl⟩, trivial⟩ (by decide) Tryd.underlying35 rfl trivial, ?_⟩   -- func([]string, string) string
  refine ⟨TIok.mk1 (.slice none 0 0) _ (by kernel_rfl) rfl ⟨_, rfl, rfl⟩ rfl rfl ⟨.inr ⟨_, rfl, rfl⟩, trivial⟩ (by decide) Tryd.underlying36 rfl rfl, ?_⟩   -- []uint8
  refine ⟨TIok.mk1 (.nilFunc) _ (by kernel_rfl) rfl ⟨_, rfl, rfl⟩ rfl rfl ⟨.inl ⟨rfl, rfl⟩, trivial⟩ (by decide) Tryd.underlying38 rfl trivial, ?_⟩   -- func(string, func(int32) bool) []string
  refine ⟨TIok.mk1 (.nilFunc) _ (by kernel_rfl) rfl ⟨_, rfl, rfl⟩ rfl rfl ⟨.inl ⟨rfl, rfl⟩, trivial⟩ (by decide) Tryd.underlying39 rfl trivial, ?_⟩   -- func(int32) bool
  refine ⟨TIok.mk1 (.slice none 0 0) _ (by kernel_rfl) rfl ⟨_, rfl, rfl⟩ rfl rfl ⟨.inr ⟨_, rfl, rfl⟩, trivial⟩ (by decide) Tryd.underlying40 rfl rfl, ?_⟩   -- []strings.span
  refine ⟨TIok.mk1 (.agg #[.int .i64 0, .int .i64 0]) _ (by kernel_rfl) rfl rfl rfl rfl ⟨.inl ⟨rfl, rfl⟩, .inl ⟨rfl, rfl⟩, trivial⟩ (by decide) Tryd.underlying41 rfl ⟨_, rfl, rfl⟩, ?_⟩   -- struct  start int; end int 
  refine ⟨TIok.mk1 (.agg #[.int .i64 0, .int .i64 0]) _ (by kernel_rfl) rfl rfl rfl rfl ⟨.inl ⟨rfl, rfl⟩, .inl ⟨rfl, rfl⟩, trivial⟩ (by decide) Tryd.underlying42 rfl ⟨_, rfl, rfl⟩, ?_⟩   -- strings.span
  refine ⟨TIok.mk1 (.int .u32 0) _ (by kernel_rfl) rfl ⟨_, rfl, rfl⟩ rfl rfl ⟨.inl ⟨rfl, rfl⟩, trivial⟩ (by decide) Tryd.underlying43 rfl rfl, ?_⟩   -- uint32
  refine ⟨TIok.mk1 (.nilFunc) _ (by kernel_rfl) rfl ⟨_, rfl, rfl⟩ rfl rfl ⟨.inl ⟨rfl, rfl⟩, trivial⟩ (by decide) Tryd.underlying44 rfl trivial, ?_⟩   -- func(*unicode.RangeTable, int32) bool
  refine ⟨TIok.mk1 (.pointer none) _ (by kernel_rfl) rfl ⟨_, rfl, rfl⟩ rfl rfl ⟨.inl ⟨rfl, rfl⟩, trivial⟩ (by decide) Tryd.underlying45 rfl trivial, ?_⟩   -- *unicode.RangeTable
  refine ⟨TIok.mk1 (.pointer none) _ (by kernel_rfl) rfl ⟨_, rfl, rfl⟩ rfl rfl ⟨.inl ⟨rfl, rfl⟩, trivial⟩ (by decide) Tryd.underlying46 rfl trivial, ?_⟩   -- *strings.Builder
  refine ⟨TIok.mk1 (.agg #[.pointer none, .slice none 0 0]) _ (by kernel_rfl) rfl rfl rfl rfl ⟨.inl ⟨rfl, rfl⟩, .inr ⟨_, rfl, rfl⟩, trivial⟩ (by decide) Tryd.underlying47 rfl ⟨_, rfl, rfl⟩, ?_⟩   -- struct  addr *strings.Builder; buf []ui
  refine ⟨TIok.mk1 (.agg #[.pointer none, .slice none 0 0]) _ (by kernel_rfl) rfl rfl rfl rfl ⟨.inl ⟨rfl, rfl⟩, .inr ⟨_, rfl, rfl⟩, trivial⟩ (by decide) Tryd.underlying48 rfl ⟨_, rfl, rfl⟩, ?_⟩   -- strings.Builder
  refine ⟨TIok.mk1 (.nilFunc) _ (by kernel_rfl) rfl ⟨_, rfl, rfl⟩ rfl rfl ⟨.inl ⟨rfl, rfl⟩, trivial⟩ (by decide) Tryd.underlying49 rfl trivial, ?_⟩   -- func(int)
  refine ⟨TIok.mk1 (.nilFunc) _ (by kernel_rfl) rfl ⟨_, rfl, rfl⟩ rfl rfl ⟨.inl ⟨rfl, rfl⟩, trivial⟩ (by decide) Tryd.underlying53 rfl trivial, ?_⟩   -- func(string) (int, error)
  refine ⟨TIok.mk1 (.nilFunc) _ (by kernel_rfl) rfl ⟨_, rfl, rfl⟩ rfl rfl ⟨.inl ⟨rfl, rfl⟩, trivial⟩ (by decide) Tryd.underlying54 rfl trivial, ?_⟩   -- func() string
  refine ⟨TIok.mk1 (.slice none 0 0) _ (by kernel_rfl) rfl ⟨_, rfl, rfl⟩ rfl rfl ⟨.inr ⟨_, rfl, rfl⟩, trivial⟩ (by decide) Tryd.underlying55 rfl rfl, ?_⟩   -- []unicode.Range16
  refine ⟨TIok.mk1 (.slice none 0 0) _ (by kernel_rfl) rfl ⟨_, rfl, rfl⟩ rfl rfl ⟨.inr ⟨_, rfl, rfl⟩, trivial⟩ (by decide) Tryd.underlying56 rfl rfl, ?_⟩   -- []unicode.Range32
  refine ⟨TIok.mk1 (.agg #[.slice none 0 0, .slice none 0 0, .int .i64 0]) _ (by kernel_rfl) rfl rfl rfl rfl ⟨.inr ⟨_, rfl, rfl⟩, .inr ⟨_, rfl, rfl⟩, .inl ⟨rfl, rfl⟩, trivial⟩ (by decide) Tryd.underlying57 rfl ⟨_, rfl, rfl⟩, ?_⟩   -- struct  R16 []unicode.Range16; R32 []un
  refine ⟨TIok.mk1 (.agg #[.slice none 0 0, .slice none 0 0, .int .i64 0]) _ (by kernel_rfl) rfl rfl rfl rfl ⟨.inr ⟨_, rfl, rfl⟩, .inr ⟨_, rfl, rfl⟩, .inl ⟨rfl, rfl⟩, trivial⟩ (by decide) Tryd.underlying58 rfl ⟨_, rfl, rfl⟩, ?_⟩   -- unicode.RangeTable
  refine ⟨TIok.mk1 (.int .u16 0) _ (by kernel_rfl) rfl ⟨_, rfl, rfl⟩ rfl rfl ⟨.inl ⟨rfl, rfl⟩, trivial⟩ (by decide) Tryd.underlying59 rfl rfl, ?_⟩   -- uint16
  refine ⟨TIok.mk1 (.agg #[.int .u16 0, .int .u16 0, .int .u16 0]) _ (by kernel_rfl) rfl rfl rfl rfl ⟨.inl ⟨rfl, rfl⟩, .inl ⟨rfl, rfl⟩, .inl ⟨rfl, rfl⟩, trivial⟩ (by decide) Tryd.underlying60 rfl ⟨_, rfl, rfl⟩, ?_⟩   -- struct  Lo uint16; Hi uint16; Stride ui
  refine ⟨TIok.mk1 (.agg #[.int .u16 0, .int .u16 0, .int .u16 0]) _ (by kernel_rfl) rfl rfl rfl rfl ⟨.inl ⟨rfl, rfl⟩, .inl ⟨rfl, rfl⟩, .inl ⟨rfl, rfl⟩, trivial⟩ (by decide) Tryd.underlying61 rfl ⟨_, rfl, rfl⟩, ?_⟩   -- unicode.Range16
  refine ⟨TIok.mk1 (.nilFunc) _ (by kernel_rfl) rfl ⟨_, rfl, rfl⟩ rfl rfl ⟨.inl ⟨rfl, rfl⟩, trivial⟩ (by decide) Tryd.underlying62 rfl trivial, ?_⟩   -- func([]unicode.Range16, uint16) bool
  refine ⟨TIok.mk1 (.agg #[.int .u32 0, .int .u32 0, .int .u32 0]) _ (by kernel_rfl) rfl rfl rfl rfl ⟨.inl ⟨rfl, rfl⟩, .inl ⟨rfl, rfl⟩, .inl ⟨rfl, rfl⟩, trivial⟩ (by decide) Tryd.underlying63 rfl ⟨_, rfl, rfl⟩, ?_⟩   -- struct  Lo uint32; Hi uint32; Stride ui
  refine ⟨TIok.mk1 (.agg #[.int .u32 0, .int .u32 0, .int .u32 0]) _ (by kernel_rfl) rfl rfl rfl rfl ⟨.inl ⟨rfl, rfl⟩, .inl ⟨rfl, rfl⟩, .inl ⟨rfl, rfl⟩, trivial⟩ (by decide) Tryd.underlying64 rfl ⟨_, rfl, rfl⟩, ?_⟩   -- unicode.Range32
  refine ⟨TIok.mk1 (.nilFunc) _ (by kernel_rfl) rfl ⟨_, rfl, rfl⟩ rfl rfl ⟨.inl ⟨rfl, rfl⟩, trivial⟩ (by decide) Tryd.underlying65 rfl trivial, ?_⟩   -- func([]unicode.Range32, uint32) bool
  refine ⟨TIok.mk1 (.pointer none) _ (by kernel_rfl) rfl ⟨_, rfl, rfl⟩ rfl rfl ⟨.inl ⟨rfl, rfl⟩, trivial⟩ (by decide) Tryd.underlying66 rfl trivial, ?_⟩   -- *uint8
  refine ⟨TIok.mk1 (.pointer none) _ (by kernel_rfl) rfl ⟨_, rfl, rfl⟩ rfl rfl ⟨.inl ⟨rfl, rfl⟩, trivial⟩ (by decide) Tryd.underlying67 rfl trivial, ?_⟩   -- *unicode.Range16
  refine ⟨TIok.mk1 (.int .u64 0) _ (by kernel_rfl) rfl ⟨_, rfl, rfl⟩ rfl rfl ⟨.inl ⟨rfl, rfl⟩, trivial⟩ (by decide) Tryd.underlying68 rfl rfl, ?_⟩   -- uint
  refine ⟨TIok.mk1 (.pointer none) _ (by kernel_rfl) rfl ⟨_, rfl, rfl⟩ rfl rfl ⟨.inl ⟨rfl, rfl⟩, trivial⟩ (by decide) Tryd.underlying69 rfl trivial, ?_⟩   -- *unicode.Range32
  refine ⟨TIok.mk1 (.nilFunc) _ (by kernel_rfl) rfl ⟨_, rfl, rfl⟩ rfl rfl ⟨.inl ⟨rfl, rfl⟩, trivial⟩ (by decide) Tryd.underlying71 rfl trivial, ?_⟩   -- func(unsafe.Pointer) unsafe.Pointer
  refine ⟨TIok.mk1 (.nilFunc) _ (by kernel_rfl) rfl ⟨_, rfl, rfl⟩ rfl rfl ⟨.inl ⟨rfl, rfl⟩, trivial⟩ (by decide) Tryd.underlying72 rfl trivial, ?_⟩   -- func(int) []uint8
  refine ⟨TIok.mk1 (.nilFunc) _ (by kernel_rfl) rfl ⟨_, rfl, rfl⟩ rfl rfl ⟨.inl ⟨rfl, rfl⟩, trivial⟩ (by decide) Tryd.underlying78 rfl trivial, ?_⟩   -- func() int
  refine ⟨TIok.mk1 (.nilFunc) _ (by kernel_rfl) rfl ⟨_, rfl, rfl⟩ rfl rfl ⟨.inl ⟨rfl, rfl⟩, trivial⟩ (by decide) Tryd.underlying81 rfl trivial, ?_⟩   -- func(unsafe.Pointer, unsafe.Pointer) boo
  exact trivial
def cx : Ctx := ⟨tt, Spec Tryd.prog, [], [], [], [], [], SpecP Tryd.prog, SpecN Tryd.prog⟩
theorem cx_ok : CtxOk Tryd.prog cx := ⟨tt_out tt_all, fun _ _ _ h => h, fun _ _ _ _ _ h => h, fun _ _ _ h => h⟩
theorem mixed : Tryd.prog.follows .mixedOrders = true := by kernel_rfl
/-- A function's contract, by its body. -/
theorem fn {f : Nat} {fn : Func} {args : List Ar} {ts : List T} (hf : Tryd.prog.funcs[f]? = some fn) (h : Fn cx fn args ts) (hn : (fn.name == "runtime.NumGoroutine") = false := by decide) : Spec Tryd.prog f args ts := spec_fn mixed cx_ok hf hn h
theorem fnP {f : Nat} {fn : Func} {ts ts' xs rs : List T} (hf : Tryd.prog.funcs[f]? = some fn) (h : FnP cx fn ts ts' xs rs) (hn : (fn.name == "runtime.NumGoroutine") = false := by decide) : SpecP Tryd.prog f ts ts' xs rs := specP_fn mixed cx_ok hf hn h
theorem fnN {f : Nat} {fn : Func} {xs : List T} {cs : List (Value ⊕ Nat)} (hf : Tryd.prog.funcs[f]? = some fn) (h : FnN cx fn xs cs) (hn : (fn.name == "runtime.NumGoroutine") = false := by decide) : SpecN Tryd.prog f xs cs := specN_fn mixed cx_ok hf hn h
end Go.Proofs.YtjfojepkoknpjaaDoor.E
