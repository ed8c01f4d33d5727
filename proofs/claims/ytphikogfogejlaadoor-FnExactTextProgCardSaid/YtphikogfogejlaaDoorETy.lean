/- The types of this seat's program, and what is true of them. Printed by wip/eng/ty.py. -/
import Derived.Test.YtphikogfogejlaaDoorEFn
import Derived.Test.YtphikogfogejlaaDoorProg
import Derived.KernelRfl
namespace Go.Proofs.YtphikogfogejlaaDoor.E
def tt : TT := [
  (1, ⟨1, false, 8, [.nilFunc], [.v (.nilFunc)], .other⟩),
  (2, ⟨1, false, 8, [.int .i64 0], [.v (.int .i64 0)], .int .i64⟩),
  (3, ⟨1, false, 8, [.int .i64 0], [.v (.int .i64 0)], .int .i64⟩),
  (4, ⟨1, false, 1, [.bool false], [.v (.bool false)], .bool⟩),
  (5, ⟨1, false, 1, [.int .u8 0], [.v (.int .u8 0)], .int .u8⟩),
  (9, ⟨1, false, 16, [.string ByteArray.empty], [.v (.string ByteArray.empty)], .str⟩),
  (12, ⟨1, false, 8, [.int .u64 0], [.v (.int .u64 0)], .int .u64⟩),
  (13, ⟨2, true, 24, [.string ByteArray.empty, .int .u64 0], [.v (.string ByteArray.empty), .v (.int .u64 0)], .st [(0, 9), (1, 12)]⟩),
  (21, ⟨1, false, 4, [.int .i32 0], [.v (.int .i32 0)], .int .i32⟩),
  (22, ⟨4, true, 32, [.int .i64 0, .int .i64 0, .int .i64 0, .int .i64 0], [.v (.int .i64 0), .v (.int .i64 0), .v (.int .i64 0), .v (.int .i64 0)], .st [(0, 3), (1, 3), (2, 3), (3, 3)]⟩),
  (23, ⟨4, true, 32, [.int .i64 0, .int .i64 0, .int .i64 0, .int .i64 0], [.v (.int .i64 0), .v (.int .i64 0), .v (.int .i64 0), .v (.int .i64 0)], .st [(0, 3), (1, 3), (2, 3), (3, 3)]⟩),
  (25, ⟨1, false, 8, [.nilFunc], [.v (.nilFunc)], .other⟩),
  (26, ⟨1, false, 8, [.nilFunc], [.v (.nilFunc)], .other⟩),
  (27, ⟨1, false, 8, [.nilFunc], [.v (.nilFunc)], .other⟩),
  (28, ⟨1, false, 24, [.slice none 0 0], [.sl 5 []], .sl 64⟩),
  (29, ⟨2, true, 32, [.slice none 0 0, .int .i64 0], [.sl 5 [], .v (.int .i64 0)], .st [(0, 28), (1, 3)]⟩),
  (30, ⟨2, true, 32, [.slice none 0 0, .int .i64 0], [.sl 5 [], .v (.int .i64 0)], .st [(0, 28), (1, 3)]⟩),
  (32, ⟨1, false, 8, [.nilFunc], [.v (.nilFunc)], .other⟩),
  (33, ⟨1, false, 8, [.nilFunc], [.v (.nilFunc)], .other⟩),
  (34, ⟨1, false, 8, [.nilFunc], [.v (.nilFunc)], .other⟩),
  (35, ⟨1, false, 24, [.slice none 0 0], [.sl 1 []], .sl 3⟩),
  (36, ⟨1, false, 24, [.slice none 0 0], [.sl 2 []], .sl 30⟩),
  (37, ⟨1, false, 24, [.slice none 0 0], [.sl 1 []], .sl 72⟩),
  (38, ⟨4, true, 80, [.slice none 0 0, .int .i64 0, .slice none 0 0, .slice none 0 0], [.sl 1 [], .v (.int .i64 0), .sl 2 [], .sl 1 []], .st [(0, 35), (1, 3), (2, 36), (3, 37)]⟩),
  (39, ⟨4, true, 80, [.slice none 0 0, .int .i64 0, .slice none 0 0, .slice none 0 0], [.sl 1 [], .v (.int .i64 0), .sl 2 [], .sl 1 []], .st [(0, 35), (1, 3), (2, 36), (3, 37)]⟩),
  (41, ⟨1, false, 8, [.nilFunc], [.v (.nilFunc)], .other⟩),
  (42, ⟨1, false, 8, [.nilFunc], [.v (.nilFunc)], .other⟩),
  (43, ⟨1, false, 8, [.nilFunc], [.v (.nilFunc)], .other⟩),
  (44, ⟨4, true, 32, [.int .i64 0, .int .i64 0, .int .i64 0, .bool false], [.v (.int .i64 0), .v (.int .i64 0), .v (.int .i64 0), .v (.bool false)], .st [(0, 3), (1, 3), (2, 3), (3, 4)]⟩),
  (45, ⟨4, true, 32, [.int .i64 0, .int .i64 0, .int .i64 0, .bool false], [.v (.int .i64 0), .v (.int .i64 0), .v (.int .i64 0), .v (.bool false)], .st [(0, 3), (1, 3), (2, 3), (3, 4)]⟩),
  (46, ⟨1, false, 8, [.nilFunc], [.v (.nilFunc)], .other⟩),
  (47, ⟨4, true, 32, [.int .i64 0, .int .i64 0, .int .i64 0, .bool false], [.v (.int .i64 0), .v (.int .i64 0), .v (.int .i64 0), .v (.bool false)], .st [(0, 3), (1, 3), (2, 3), (3, 4)]⟩),
  (48, ⟨1, false, 8, [.nilFunc], [.v (.nilFunc)], .other⟩),
  (49, ⟨1, false, 8, [.nilFunc], [.v (.nilFunc)], .other⟩),
  (50, ⟨1, false, 24, [.slice none 0 0], [.sl 1 []], .sl 9⟩),
  (51, ⟨1, false, 8, [.nilFunc], [.v (.nilFunc)], .other⟩),
  (52, ⟨1, false, 8, [.nilFunc], [.v (.nilFunc)], .other⟩),
  (53, ⟨1, false, 8, [.nilFunc], [.v (.nilFunc)], .other⟩),
  (54, ⟨1, false, 8, [.nilFunc], [.v (.nilFunc)], .other⟩),
  (55, ⟨1, false, 8, [.nilFunc], [.v (.nilFunc)], .other⟩),
  (56, ⟨1, false, 8, [.nilFunc], [.v (.nilFunc)], .other⟩),
  (57, ⟨1, false, 8, [.nilFunc], [.v (.nilFunc)], .other⟩),
  (58, ⟨1, false, 8, [.nilFunc], [.v (.nilFunc)], .other⟩),
  (59, ⟨1, false, 8, [.nilFunc], [.v (.nilFunc)], .other⟩),
  (61, ⟨1, false, 8, [.pointer none], [.v (.pointer none)], .ptr⟩),
  (62, ⟨1, false, 24, [.slice none 0 0], [.sl 1 []], .sl 61⟩),
  (63, ⟨5, true, 40, [.bool false, .int .i64 0, .int .i64 0, .int .i64 0, .int .i64 0], [.v (.bool false), .v (.int .i64 0), .v (.int .i64 0), .v (.int .i64 0), .v (.int .i64 0)], .st [(0, 4), (1, 3), (2, 3), (3, 3), (4, 3)]⟩),
  (64, ⟨5, true, 40, [.bool false, .int .i64 0, .int .i64 0, .int .i64 0, .int .i64 0], [.v (.bool false), .v (.int .i64 0), .v (.int .i64 0), .v (.int .i64 0), .v (.int .i64 0)], .st [(0, 4), (1, 3), (2, 3), (3, 3), (4, 3)]⟩),
  (65, ⟨1, false, 8, [.nilFunc], [.v (.nilFunc)], .other⟩),
  (67, ⟨1, false, 8, [.nilFunc], [.v (.nilFunc)], .other⟩),
  (68, ⟨1, false, 8, [.nilFunc], [.v (.nilFunc)], .other⟩),
  (69, ⟨1, false, 8, [.nilFunc], [.v (.nilFunc)], .other⟩),
  (70, ⟨1, false, 24, [.slice none 0 0], [.sl 4 []], .sl 23⟩),
  (71, ⟨1, true, 24, [.slice none 0 0], [.sl 4 []], .st [(0, 70)]⟩),
  (72, ⟨1, true, 24, [.slice none 0 0], [.sl 4 []], .st [(0, 70)]⟩),
  (73, ⟨1, false, 8, [.nilFunc], [.v (.nilFunc)], .other⟩),
  (74, ⟨1, false, 8, [.nilFunc], [.v (.nilFunc)], .other⟩),
  (76, ⟨1, false, 8, [.nilFunc], [.v (.nilFunc)], .other⟩),
  (77, ⟨1, false, 8, [.nilFunc], [.v (.nilFunc)], .other⟩),
  (78, ⟨1, false, 8, [.nilFunc], [.v (.nilFunc)], .other⟩),
  (79, ⟨1, false, 8, [.nilFunc], [.v (.nilFunc)], .other⟩),
  (80, ⟨1, false, 8, [.nilFunc], [.v (.nilFunc)], .other⟩),
  (81, ⟨1, false, 8, [.nilFunc], [.v (.nilFunc)], .other⟩),
  (82, ⟨1, false, 8, [.nilFunc], [.v (.nilFunc)], .other⟩),
  (83, ⟨1, false, 8, [.nilFunc], [.v (.nilFunc)], .other⟩),
  (85, ⟨1, false, 8, [.nilFunc], [.v (.nilFunc)], .other⟩),
  (86, ⟨1, false, 8, [.nilFunc], [.v (.nilFunc)], .other⟩),
  (87, ⟨1, false, 8, [.nilFunc], [.v (.nilFunc)], .other⟩),
  (88, ⟨1, false, 8, [.nilFunc], [.v (.nilFunc)], .other⟩),
  (89, ⟨1, false, 8, [.nilFunc], [.v (.nilFunc)], .other⟩),
  (90, ⟨1, false, 8, [.nilFunc], [.v (.nilFunc)], .other⟩),
  (91, ⟨1, false, 8, [.nilFunc], [.v (.nilFunc)], .other⟩),
  (92, ⟨1, false, 8, [.nilFunc], [.v (.nilFunc)], .other⟩),
  (93, ⟨1, false, 8, [.nilFunc], [.v (.nilFunc)], .other⟩),
  (94, ⟨1, false, 8, [.nilFunc], [.v (.nilFunc)], .other⟩),
  (95, ⟨1, false, 8, [.nilFunc], [.v (.nilFunc)], .other⟩),
  (96, ⟨1, false, 8, [.nilFunc], [.v (.nilFunc)], .other⟩),
  (97, ⟨1, false, 8, [.nilFunc], [.v (.nilFunc)], .other⟩),
  (98, ⟨1, false, 24, [.slice none 0 0], [.sl 1 []], .sl 5⟩),
  (100, ⟨1, false, 8, [.nilFunc], [.v (.nilFunc)], .other⟩),
  (101, ⟨1, false, 8, [.nilFunc], [.v (.nilFunc)], .other⟩),
  (102, ⟨1, false, 8, [.nilFunc], [.v (.nilFunc)], .other⟩),
  (103, ⟨1, false, 8, [.nilFunc], [.v (.nilFunc)], .other⟩),
  (104, ⟨1, false, 8, [.nilFunc], [.v (.nilFunc)], .other⟩),
  (105, ⟨1, false, 8, [.nilFunc], [.v (.nilFunc)], .other⟩),
  (106, ⟨1, false, 8, [.nilFunc], [.v (.nilFunc)], .other⟩),
  (107, ⟨1, false, 24, [.slice none 0 0], [.sl 2 []], .sl 109⟩),
  (108, ⟨2, true, 16, [.int .i64 0, .int .i64 0], [.v (.int .i64 0), .v (.int .i64 0)], .st [(0, 3), (1, 3)]⟩),
  (109, ⟨2, true, 16, [.int .i64 0, .int .i64 0], [.v (.int .i64 0), .v (.int .i64 0)], .st [(0, 3), (1, 3)]⟩),
  (110, ⟨1, false, 4, [.int .u32 0], [.v (.int .u32 0)], .int .u32⟩),
  (111, ⟨1, false, 8, [.nilFunc], [.v (.nilFunc)], .other⟩),
  (112, ⟨1, false, 8, [.pointer none], [.v (.pointer none)], .ptr⟩),
  (113, ⟨1, false, 8, [.pointer none], [.v (.pointer none)], .ptr⟩),
  (114, ⟨2, true, 32, [.pointer none, .slice none 0 0], [.v (.pointer none), .sl 1 []], .st [(0, 113), (1, 98)]⟩),
  (115, ⟨2, true, 32, [.pointer none, .slice none 0 0], [.v (.pointer none), .sl 1 []], .st [(0, 113), (1, 98)]⟩),
  (116, ⟨1, false, 8, [.nilFunc], [.v (.nilFunc)], .other⟩),
  (120, ⟨1, false, 8, [.nilFunc], [.v (.nilFunc)], .other⟩),
  (121, ⟨1, false, 8, [.nilFunc], [.v (.nilFunc)], .other⟩),
  (122, ⟨1, false, 8, [.nilFunc], [.v (.nilFunc)], .other⟩),
  (123, ⟨1, false, 24, [.slice none 0 0], [.sl 3 []], .sl 129⟩),
  (124, ⟨1, false, 24, [.slice none 0 0], [.sl 3 []], .sl 132⟩),
  (125, ⟨3, true, 56, [.slice none 0 0, .slice none 0 0, .int .i64 0], [.sl 3 [], .sl 3 [], .v (.int .i64 0)], .st [(0, 123), (1, 124), (2, 3)]⟩),
  (126, ⟨3, true, 56, [.slice none 0 0, .slice none 0 0, .int .i64 0], [.sl 3 [], .sl 3 [], .v (.int .i64 0)], .st [(0, 123), (1, 124), (2, 3)]⟩),
  (127, ⟨1, false, 2, [.int .u16 0], [.v (.int .u16 0)], .int .u16⟩),
  (128, ⟨3, true, 6, [.int .u16 0, .int .u16 0, .int .u16 0], [.v (.int .u16 0), .v (.int .u16 0), .v (.int .u16 0)], .st [(0, 127), (1, 127), (2, 127)]⟩),
  (129, ⟨3, true, 6, [.int .u16 0, .int .u16 0, .int .u16 0], [.v (.int .u16 0), .v (.int .u16 0), .v (.int .u16 0)], .st [(0, 127), (1, 127), (2, 127)]⟩),
  (130, ⟨1, false, 8, [.nilFunc], [.v (.nilFunc)], .other⟩),
  (131, ⟨3, true, 12, [.int .u32 0, .int .u32 0, .int .u32 0], [.v (.int .u32 0), .v (.int .u32 0), .v (.int .u32 0)], .st [(0, 110), (1, 110), (2, 110)]⟩),
  (132, ⟨3, true, 12, [.int .u32 0, .int .u32 0, .int .u32 0], [.v (.int .u32 0), .v (.int .u32 0), .v (.int .u32 0)], .st [(0, 110), (1, 110), (2, 110)]⟩),
  (133, ⟨1, false, 8, [.nilFunc], [.v (.nilFunc)], .other⟩),
  (134, ⟨1, false, 8, [.pointer none], [.v (.pointer none)], .ptr⟩),
  (135, ⟨1, false, 8, [.nilFunc], [.v (.nilFunc)], .other⟩),
  (137, ⟨1, false, 8, [.nilFunc], [.v (.nilFunc)], .other⟩),
  (138, ⟨1, false, 8, [.nilFunc], [.v (.nilFunc)], .other⟩),
  (139, ⟨1, false, 8, [.pointer none], [.v (.pointer none)], .ptr⟩),
  (140, ⟨1, false, 8, [.int .u64 0], [.v (.int .u64 0)], .int .u64⟩),
  (141, ⟨1, false, 8, [.pointer none], [.v (.pointer none)], .ptr⟩),
  (143, ⟨1, false, 8, [.nilFunc], [.v (.nilFunc)], .other⟩),
  (144, ⟨1, false, 8, [.nilFunc], [.v (.nilFunc)], .other⟩),
  (145, ⟨2, true, 2, [.int .u8 0, .int .u8 0], [.v (.int .u8 0), .v (.int .u8 0)], .st [(0, 5), (1, 5)]⟩),
  (146, ⟨2, true, 2, [.int .u8 0, .int .u8 0], [.v (.int .u8 0), .v (.int .u8 0)], .st [(0, 5), (1, 5)]⟩),
  (149, ⟨1, false, 8, [.nilFunc], [.v (.nilFunc)], .other⟩),
  (155, ⟨1, false, 8, [.nilFunc], [.v (.nilFunc)], .other⟩),
  (158, ⟨1, false, 8, [.nilFunc], [.v (.nilFunc)], .other⟩)]
set_option maxRecDepth 100000 in
theorem tt_all : TTall Tryd.prog tt := by
  refine ⟨TIok.mk1 (.nilFunc) _ (by kernel_rfl) rfl ⟨_, rfl, rfl⟩ rfl rfl ⟨.inl ⟨rfl, rfl⟩, trivial⟩ (by decide) Tryd.underlying1 rfl trivial, ?_⟩   -- func()
  refine ⟨TIok.mk1 (.int .i64 0) _ (by kernel_rfl) rfl ⟨_, rfl, rfl⟩ rfl rfl ⟨.inl ⟨rfl, rfl⟩, trivial⟩ (by decide) Tryd.underlying2 rfl rfl, ?_⟩   -- int64
  refine ⟨TIok.mk1 (.int .i64 0) _ (by kernel_rfl) rfl ⟨_, rfl, rfl⟩ rfl rfl ⟨.inl ⟨rfl, rfl⟩, trivial⟩ (by decide) Tryd.underlying3 rfl rfl, ?_⟩   -- int
  refine ⟨TIok.mk1 (.bool false) _ (by kernel_rfl) rfl ⟨_, rfl, rfl⟩ rfl rfl ⟨.inl ⟨rfl, rfl⟩, trivial⟩ (by decide) Tryd.underlying4 rfl rfl, ?_⟩   -- bool
  refine ⟨TIok.mk1 (.int .u8 0) _ (by kernel_rfl) rfl ⟨_, rfl, rfl⟩ rfl rfl ⟨.inl ⟨rfl, rfl⟩, trivial⟩ (by decide) Tryd.underlying5 rfl rfl, ?_⟩   -- uint8
  refine ⟨TIok.mk1 (.string ByteArray.empty) _ (by kernel_rfl) rfl ⟨_, rfl, rfl⟩ rfl rfl ⟨.inl ⟨rfl, rfl⟩, trivial⟩ (by decide) Tryd.underlying9 rfl rfl, ?_⟩   -- string
  refine ⟨TIok.mk1 (.int .u64 0) _ (by kernel_rfl) rfl ⟨_, rfl, rfl⟩ rfl rfl ⟨.inl ⟨rfl, rfl⟩, trivial⟩ (by decide) Tryd.underlying12 rfl rfl, ?_⟩   -- uintptr
  refine ⟨TIok.mk1 (.agg #[.string ByteArray.empty, .int .u64 0]) _ (by kernel_rfl) rfl rfl rfl rfl ⟨.inl ⟨rfl, rfl⟩, .inl ⟨rfl, rfl⟩, trivial⟩ (by decide) Tryd.underlying13 rfl ⟨_, rfl, rfl⟩, ?_⟩   -- struct  msg string; addr uintptr 
  refine ⟨TIok.mk1 (.int .i32 0) _ (by kernel_rfl) rfl ⟨_, rfl, rfl⟩ rfl rfl ⟨.inl ⟨rfl, rfl⟩, trivial⟩ (by decide) Tryd.underlying21 rfl rfl, ?_⟩   -- int32
  refine ⟨TIok.mk1 (.agg #[.int .i64 0, .int .i64 0, .int .i64 0, .int .i64 0]) _ (by kernel_rfl) rfl rfl rfl rfl ⟨.inl ⟨rfl, rfl⟩, .inl ⟨rfl, rfl⟩, .inl ⟨rfl, rfl⟩, .inl ⟨rfl, rfl⟩, trivial⟩ (by decide) Tryd.underlying22 rfl ⟨_, rfl, rfl⟩, ?_⟩   -- struct  Op int; A int; B int; C int 
  refine ⟨TIok.mk1 (.agg #[.int .i64 0, .int .i64 0, .int .i64 0, .int .i64 0]) _ (by kernel_rfl) rfl rfl rfl rfl ⟨.inl ⟨rfl, rfl⟩, .inl ⟨rfl, rfl⟩, .inl ⟨rfl, rfl⟩, .inl ⟨rfl, rfl⟩, trivial⟩ (by decide) Tryd.underlying23 rfl ⟨_, rfl, rfl⟩, ?_⟩   -- impl.Instr
  refine ⟨TIok.mk1 (.nilFunc) _ (by kernel_rfl) rfl ⟨_, rfl, rfl⟩ rfl rfl ⟨.inl ⟨rfl, rfl⟩, trivial⟩ (by decide) Tryd.underlying25 rfl trivial, ?_⟩   -- func(string) (impl.Instr, bool)
  refine ⟨TIok.mk1 (.nilFunc) _ (by kernel_rfl) rfl ⟨_, rfl, rfl⟩ rfl rfl ⟨.inl ⟨rfl, rfl⟩, trivial⟩ (by decide) Tryd.underlying26 rfl trivial, ?_⟩   -- func(impl.Instr, impl.Instr) bool
  refine ⟨TIok.mk1 (.nilFunc) _ (by kernel_rfl) rfl ⟨_, rfl, rfl⟩ rfl rfl ⟨.inl ⟨rfl, rfl⟩, trivial⟩ (by decide) Tryd.underlying27 rfl trivial, ?_⟩   -- func(string) bool
  refine ⟨TIok.mk1 (.slice none 0 0) _ (by kernel_rfl) rfl ⟨_, rfl, rfl⟩ rfl rfl ⟨.inr ⟨_, rfl, rfl⟩, trivial⟩ (by decide) Tryd.underlying28 rfl rfl, ?_⟩   -- []impl.Case
  refine ⟨TIok.mk1 (.agg #[.slice none 0 0, .int .i64 0]) _ (by kernel_rfl) rfl rfl rfl rfl ⟨.inr ⟨_, rfl, rfl⟩, .inl ⟨rfl, rfl⟩, trivial⟩ (by decide) Tryd.underlying29 rfl ⟨_, rfl, rfl⟩, ?_⟩   -- struct  Cases []impl.Case; Else int 
  refine ⟨TIok.mk1 (.agg #[.slice none 0 0, .int .i64 0]) _ (by kernel_rfl) rfl rfl rfl rfl ⟨.inr ⟨_, rfl, rfl⟩, .inl ⟨rfl, rfl⟩, trivial⟩ (by decide) Tryd.underlying30 rfl ⟨_, rfl, rfl⟩, ?_⟩   -- impl.Select
  refine ⟨TIok.mk1 (.nilFunc) _ (by kernel_rfl) rfl ⟨_, rfl, rfl⟩ rfl rfl ⟨.inl ⟨rfl, rfl⟩, trivial⟩ (by decide) Tryd.underlying32 rfl trivial, ?_⟩   -- func(string) (impl.Select, bool)
  refine ⟨TIok.mk1 (.nilFunc) _ (by kernel_rfl) rfl ⟨_, rfl, rfl⟩ rfl rfl ⟨.inl ⟨rfl, rfl⟩, trivial⟩ (by decide) Tryd.underlying33 rfl trivial, ?_⟩   -- func(impl.Select, impl.Select) bool
  refine ⟨TIok.mk1 (.nilFunc) _ (by kernel_rfl) rfl ⟨_, rfl, rfl⟩ rfl rfl ⟨.inl ⟨rfl, rfl⟩, trivial⟩ (by decide) Tryd.underlying34 rfl trivial, ?_⟩   -- func(impl.Select, int) int
  refine ⟨TIok.mk1 (.slice none 0 0) _ (by kernel_rfl) rfl ⟨_, rfl, rfl⟩ rfl rfl ⟨.inr ⟨_, rfl, rfl⟩, trivial⟩ (by decide) Tryd.underlying35 rfl rfl, ?_⟩   -- []int
  refine ⟨TIok.mk1 (.slice none 0 0) _ (by kernel_rfl) rfl ⟨_, rfl, rfl⟩ rfl rfl ⟨.inr ⟨_, rfl, rfl⟩, trivial⟩ (by decide) Tryd.underlying36 rfl rfl, ?_⟩   -- []impl.Select
  refine ⟨TIok.mk1 (.slice none 0 0) _ (by kernel_rfl) rfl ⟨_, rfl, rfl⟩ rfl rfl ⟨.inr ⟨_, rfl, rfl⟩, trivial⟩ (by decide) Tryd.underlying37 rfl rfl, ?_⟩   -- []impl.Proc
  refine ⟨TIok.mk1 (.agg #[.slice none 0 0, .int .i64 0, .slice none 0 0, .slice none 0 0]) _ (by kernel_rfl) rfl rfl rfl rfl ⟨.inr ⟨_, rfl, rfl⟩, .inl ⟨rfl, rfl⟩, .inr ⟨_, rfl, rfl⟩, .inr ⟨_, rfl, rfl⟩, trivial⟩ (by decide) Tryd.underlying38 rfl ⟨_, rfl, rfl⟩, ?_⟩   -- struct  Caps []int; Mus int; Sels []imp
  refine ⟨TIok.mk1 (.agg #[.slice none 0 0, .int .i64 0, .slice none 0 0, .slice none 0 0]) _ (by kernel_rfl) rfl rfl rfl rfl ⟨.inr ⟨_, rfl, rfl⟩, .inl ⟨rfl, rfl⟩, .inr ⟨_, rfl, rfl⟩, .inr ⟨_, rfl, rfl⟩, trivial⟩ (by decide) Tryd.underlying39 rfl ⟨_, rfl, rfl⟩, ?_⟩   -- impl.Prog
  refine ⟨TIok.mk1 (.nilFunc) _ (by kernel_rfl) rfl ⟨_, rfl, rfl⟩ rfl rfl ⟨.inl ⟨rfl, rfl⟩, trivial⟩ (by decide) Tryd.underlying41 rfl trivial, ?_⟩   -- func(string) (impl.Prog, int)
  refine ⟨TIok.mk1 (.nilFunc) _ (by kernel_rfl) rfl ⟨_, rfl, rfl⟩ rfl rfl ⟨.inl ⟨rfl, rfl⟩, trivial⟩ (by decide) Tryd.underlying42 rfl trivial, ?_⟩   -- func(impl.Prog, impl.Prog) bool
  refine ⟨TIok.mk1 (.nilFunc) _ (by kernel_rfl) rfl ⟨_, rfl, rfl⟩ rfl rfl ⟨.inl ⟨rfl, rfl⟩, trivial⟩ (by decide) Tryd.underlying43 rfl trivial, ?_⟩   -- func(impl.Prog, int) int
  refine ⟨TIok.mk1 (.agg #[.int .i64 0, .int .i64 0, .int .i64 0, .bool false]) _ (by kernel_rfl) rfl rfl rfl rfl ⟨.inl ⟨rfl, rfl⟩, .inl ⟨rfl, rfl⟩, .inl ⟨rfl, rfl⟩, .inl ⟨rfl, rfl⟩, trivial⟩ (by decide) Tryd.underlying44 rfl ⟨_, rfl, rfl⟩, ?_⟩   -- struct  Kind int; Obj int; Val int; Ok 
  refine ⟨TIok.mk1 (.agg #[.int .i64 0, .int .i64 0, .int .i64 0, .bool false]) _ (by kernel_rfl) rfl rfl rfl rfl ⟨.inl ⟨rfl, rfl⟩, .inl ⟨rfl, rfl⟩, .inl ⟨rfl, rfl⟩, .inl ⟨rfl, rfl⟩, trivial⟩ (by decide) Tryd.underlying45 rfl ⟨_, rfl, rfl⟩, ?_⟩   -- laws.Item
  refine ⟨TIok.mk1 (.nilFunc) _ (by kernel_rfl) rfl ⟨_, rfl, rfl⟩ rfl rfl ⟨.inl ⟨rfl, rfl⟩, trivial⟩ (by decide) Tryd.underlying46 rfl trivial, ?_⟩   -- func(impl.Item) string
  refine ⟨TIok.mk1 (.agg #[.int .i64 0, .int .i64 0, .int .i64 0, .bool false]) _ (by kernel_rfl) rfl rfl rfl rfl ⟨.inl ⟨rfl, rfl⟩, .inl ⟨rfl, rfl⟩, .inl ⟨rfl, rfl⟩, .inl ⟨rfl, rfl⟩, trivial⟩ (by decide) Tryd.underlying47 rfl ⟨_, rfl, rfl⟩, ?_⟩   -- impl.Item
  refine ⟨TIok.mk1 (.nilFunc) _ (by kernel_rfl) rfl ⟨_, rfl, rfl⟩ rfl rfl ⟨.inl ⟨rfl, rfl⟩, trivial⟩ (by decide) Tryd.underlying48 rfl trivial, ?_⟩   -- func(laws.Item) impl.Item
  refine ⟨TIok.mk1 (.nilFunc) _ (by kernel_rfl) rfl ⟨_, rfl, rfl⟩ rfl rfl ⟨.inl ⟨rfl, rfl⟩, trivial⟩ (by decide) Tryd.underlying49 rfl trivial, ?_⟩   -- func(laws.Item) bool
  refine ⟨TIok.mk1 (.slice none 0 0) _ (by kernel_rfl) rfl ⟨_, rfl, rfl⟩ rfl rfl ⟨.inr ⟨_, rfl, rfl⟩, trivial⟩ (by decide) Tryd.underlying50 rfl rfl, ?_⟩   -- []string
  refine ⟨TIok.mk1 (.nilFunc) _ (by kernel_rfl) rfl ⟨_, rfl, rfl⟩ rfl rfl ⟨.inl ⟨rfl, rfl⟩, trivial⟩ (by decide) Tryd.underlying51 rfl trivial, ?_⟩   -- func(string) []string
  refine ⟨TIok.mk1 (.nilFunc) _ (by kernel_rfl) rfl ⟨_, rfl, rfl⟩ rfl rfl ⟨.inl ⟨rfl, rfl⟩, trivial⟩ (by decide) Tryd.underlying52 rfl trivial, ?_⟩   -- func([]string, []string) bool
  refine ⟨TIok.mk1 (.nilFunc) _ (by kernel_rfl) rfl ⟨_, rfl, rfl⟩ rfl rfl ⟨.inl ⟨rfl, rfl⟩, trivial⟩ (by decide) Tryd.underlying53 rfl trivial, ?_⟩   -- func([]string, int) int
  refine ⟨TIok.mk1 (.nilFunc) _ (by kernel_rfl) rfl ⟨_, rfl, rfl⟩ rfl rfl ⟨.inl ⟨rfl, rfl⟩, trivial⟩ (by decide) Tryd.underlying54 rfl trivial, ?_⟩   -- func(string, string) int
  refine ⟨TIok.mk1 (.nilFunc) _ (by kernel_rfl) rfl ⟨_, rfl, rfl⟩ rfl rfl ⟨.inl ⟨rfl, rfl⟩, trivial⟩ (by decide) Tryd.underlying55 rfl trivial, ?_⟩   -- func(int) string
  refine ⟨TIok.mk1 (.nilFunc) _ (by kernel_rfl) rfl ⟨_, rfl, rfl⟩ rfl rfl ⟨.inl ⟨rfl, rfl⟩, trivial⟩ (by decide) Tryd.underlying56 rfl trivial, ?_⟩   -- func(impl.Instr) string
  refine ⟨TIok.mk1 (.nilFunc) _ (by kernel_rfl) rfl ⟨_, rfl, rfl⟩ rfl rfl ⟨.inl ⟨rfl, rfl⟩, trivial⟩ (by decide) Tryd.underlying57 rfl trivial, ?_⟩   -- func(int) int
  refine ⟨TIok.mk1 (.nilFunc) _ (by kernel_rfl) rfl ⟨_, rfl, rfl⟩ rfl rfl ⟨.inl ⟨rfl, rfl⟩, trivial⟩ (by decide) Tryd.underlying58 rfl trivial, ?_⟩   -- func(string) (int, bool)
  refine ⟨TIok.mk1 (.nilFunc) _ (by kernel_rfl) rfl ⟨_, rfl, rfl⟩ rfl rfl ⟨.inl ⟨rfl, rfl⟩, trivial⟩ (by decide) Tryd.underlying59 rfl trivial, ?_⟩   -- func(int) bool
  refine ⟨TIok.mk1 (.pointer none) _ (by kernel_rfl) rfl ⟨_, rfl, rfl⟩ rfl rfl ⟨.inl ⟨rfl, rfl⟩, trivial⟩ (by decide) Tryd.underlying61 rfl trivial, ?_⟩   -- *int
  refine ⟨TIok.mk1 (.slice none 0 0) _ (by kernel_rfl) rfl ⟨_, rfl, rfl⟩ rfl rfl ⟨.inr ⟨_, rfl, rfl⟩, trivial⟩ (by decide) Tryd.underlying62 rfl rfl, ?_⟩   -- []*int
  refine ⟨TIok.mk1 (.agg #[.bool false, .int .i64 0, .int .i64 0, .int .i64 0, .int .i64 0]) _ (by kernel_rfl) rfl rfl rfl rfl ⟨.inl ⟨rfl, rfl⟩, .inl ⟨rfl, rfl⟩, .inl ⟨rfl, rfl⟩, .inl ⟨rfl, rfl⟩, .inl ⟨rfl, rfl⟩, trivial⟩ (by decide) Tryd.underlying63 rfl ⟨_, rfl, rfl⟩, ?_⟩   -- struct  Send bool; Chan int; Reg int; O
  refine ⟨TIok.mk1 (.agg #[.bool false, .int .i64 0, .int .i64 0, .int .i64 0, .int .i64 0]) _ (by kernel_rfl) rfl rfl rfl rfl ⟨.inl ⟨rfl, rfl⟩, .inl ⟨rfl, rfl⟩, .inl ⟨rfl, rfl⟩, .inl ⟨rfl, rfl⟩, .inl ⟨rfl, rfl⟩, trivial⟩ (by decide) Tryd.underlying64 rfl ⟨_, rfl, rfl⟩, ?_⟩   -- impl.Case
  refine ⟨TIok.mk1 (.nilFunc) _ (by kernel_rfl) rfl ⟨_, rfl, rfl⟩ rfl rfl ⟨.inl ⟨rfl, rfl⟩, trivial⟩ (by decide) Tryd.underlying65 rfl trivial, ?_⟩   -- func(impl.Select) string
  refine ⟨TIok.mk1 (.nilFunc) _ (by kernel_rfl) rfl ⟨_, rfl, rfl⟩ rfl rfl ⟨.inl ⟨rfl, rfl⟩, trivial⟩ (by decide) Tryd.underlying67 rfl trivial, ?_⟩   -- func(string) (impl.Case, bool)
  refine ⟨TIok.mk1 (.nilFunc) _ (by kernel_rfl) rfl ⟨_, rfl, rfl⟩ rfl rfl ⟨.inl ⟨rfl, rfl⟩, trivial⟩ (by decide) Tryd.underlying68 rfl trivial, ?_⟩   -- func([]impl.Case, []impl.Case) bool
  refine ⟨TIok.mk1 (.nilFunc) _ (by kernel_rfl) rfl ⟨_, rfl, rfl⟩ rfl rfl ⟨.inl ⟨rfl, rfl⟩, trivial⟩ (by decide) Tryd.underlying69 rfl trivial, ?_⟩   -- func([]impl.Case, int) int
  refine ⟨TIok.mk1 (.slice none 0 0) _ (by kernel_rfl) rfl ⟨_, rfl, rfl⟩ rfl rfl ⟨.inr ⟨_, rfl, rfl⟩, trivial⟩ (by decide) Tryd.underlying70 rfl rfl, ?_⟩   -- []impl.Instr
  refine ⟨TIok.mk1 (.agg #[.slice none 0 0]) _ (by kernel_rfl) rfl rfl rfl rfl ⟨.inr ⟨_, rfl, rfl⟩, trivial⟩ (by decide) Tryd.underlying71 rfl ⟨_, rfl, rfl⟩, ?_⟩   -- struct  Code []impl.Instr 
  refine ⟨TIok.mk1 (.agg #[.slice none 0 0]) _ (by kernel_rfl) rfl rfl rfl rfl ⟨.inr ⟨_, rfl, rfl⟩, trivial⟩ (by decide) Tryd.underlying72 rfl ⟨_, rfl, rfl⟩, ?_⟩   -- impl.Proc
  refine ⟨TIok.mk1 (.nilFunc) _ (by kernel_rfl) rfl ⟨_, rfl, rfl⟩ rfl rfl ⟨.inl ⟨rfl, rfl⟩, trivial⟩ (by decide) Tryd.underlying73 rfl trivial, ?_⟩   -- func(impl.Prog) string
  refine ⟨TIok.mk1 (.nilFunc) _ (by kernel_rfl) rfl ⟨_, rfl, rfl⟩ rfl rfl ⟨.inl ⟨rfl, rfl⟩, trivial⟩ (by decide) Tryd.underlying74 rfl trivial, ?_⟩   -- func(impl.Prog) bool
  refine ⟨TIok.mk1 (.nilFunc) _ (by kernel_rfl) rfl ⟨_, rfl, rfl⟩ rfl rfl ⟨.inl ⟨rfl, rfl⟩, trivial⟩ (by decide) Tryd.underlying76 rfl trivial, ?_⟩   -- func(string, string) ([]int, bool)
  refine ⟨TIok.mk1 (.nilFunc) _ (by kernel_rfl) rfl ⟨_, rfl, rfl⟩ rfl rfl ⟨.inl ⟨rfl, rfl⟩, trivial⟩ (by decide) Tryd.underlying77 rfl trivial, ?_⟩   -- func([]int, []int) bool
  refine ⟨TIok.mk1 (.nilFunc) _ (by kernel_rfl) rfl ⟨_, rfl, rfl⟩ rfl rfl ⟨.inl ⟨rfl, rfl⟩, trivial⟩ (by decide) Tryd.underlying78 rfl trivial, ?_⟩   -- func([]impl.Select, []impl.Select) bool
  refine ⟨TIok.mk1 (.nilFunc) _ (by kernel_rfl) rfl ⟨_, rfl, rfl⟩ rfl rfl ⟨.inl ⟨rfl, rfl⟩, trivial⟩ (by decide) Tryd.underlying79 rfl trivial, ?_⟩   -- func([]impl.Proc, []impl.Proc) bool
  refine ⟨TIok.mk1 (.nilFunc) _ (by kernel_rfl) rfl ⟨_, rfl, rfl⟩ rfl rfl ⟨.inl ⟨rfl, rfl⟩, trivial⟩ (by decide) Tryd.underlying80 rfl trivial, ?_⟩   -- func([]int, int) int
  refine ⟨TIok.mk1 (.nilFunc) _ (by kernel_rfl) rfl ⟨_, rfl, rfl⟩ rfl rfl ⟨.inl ⟨rfl, rfl⟩, trivial⟩ (by decide) Tryd.underlying81 rfl trivial, ?_⟩   -- func([]impl.Select, int) int
  refine ⟨TIok.mk1 (.nilFunc) _ (by kernel_rfl) rfl ⟨_, rfl, rfl⟩ rfl rfl ⟨.inl ⟨rfl, rfl⟩, trivial⟩ (by decide) Tryd.underlying82 rfl trivial, ?_⟩   -- func([]impl.Proc, int) int
  refine ⟨TIok.mk1 (.nilFunc) _ (by kernel_rfl) rfl ⟨_, rfl, rfl⟩ rfl rfl ⟨.inl ⟨rfl, rfl⟩, trivial⟩ (by decide) Tryd.underlying83 rfl trivial, ?_⟩   -- func(impl.Item) bool
  refine ⟨TIok.mk1 (.nilFunc) _ (by kernel_rfl) rfl ⟨_, rfl, rfl⟩ rfl rfl ⟨.inl ⟨rfl, rfl⟩, trivial⟩ (by decide) Tryd.underlying85 rfl trivial, ?_⟩   -- func(int, bool, string) (string, bool)
  refine ⟨TIok.mk1 (.nilFunc) _ (by kernel_rfl) rfl ⟨_, rfl, rfl⟩ rfl rfl ⟨.inl ⟨rfl, rfl⟩, trivial⟩ (by decide) Tryd.underlying86 rfl trivial, ?_⟩   -- func([]string, string) string
  refine ⟨TIok.mk1 (.nilFunc) _ (by kernel_rfl) rfl ⟨_, rfl, rfl⟩ rfl rfl ⟨.inl ⟨rfl, rfl⟩, trivial⟩ (by decide) Tryd.underlying87 rfl trivial, ?_⟩   -- func(string, string) []string
  refine ⟨TIok.mk1 (.nilFunc) _ (by kernel_rfl) rfl ⟨_, rfl, rfl⟩ rfl rfl ⟨.inl ⟨rfl, rfl⟩, trivial⟩ (by decide) Tryd.underlying88 rfl trivial, ?_⟩   -- func() []string
  refine ⟨TIok.mk1 (.nilFunc) _ (by kernel_rfl) rfl ⟨_, rfl, rfl⟩ rfl rfl ⟨.inl ⟨rfl, rfl⟩, trivial⟩ (by decide) Tryd.underlying89 rfl trivial, ?_⟩   -- func(impl.Instr, int) bool
  refine ⟨TIok.mk1 (.nilFunc) _ (by kernel_rfl) rfl ⟨_, rfl, rfl⟩ rfl rfl ⟨.inl ⟨rfl, rfl⟩, trivial⟩ (by decide) Tryd.underlying90 rfl trivial, ?_⟩   -- func(impl.Case) string
  refine ⟨TIok.mk1 (.nilFunc) _ (by kernel_rfl) rfl ⟨_, rfl, rfl⟩ rfl rfl ⟨.inl ⟨rfl, rfl⟩, trivial⟩ (by decide) Tryd.underlying91 rfl trivial, ?_⟩   -- func(impl.Case, impl.Case) bool
  refine ⟨TIok.mk1 (.nilFunc) _ (by kernel_rfl) rfl ⟨_, rfl, rfl⟩ rfl rfl ⟨.inl ⟨rfl, rfl⟩, trivial⟩ (by decide) Tryd.underlying92 rfl trivial, ?_⟩   -- func(string, []int) string
  refine ⟨TIok.mk1 (.nilFunc) _ (by kernel_rfl) rfl ⟨_, rfl, rfl⟩ rfl rfl ⟨.inl ⟨rfl, rfl⟩, trivial⟩ (by decide) Tryd.underlying93 rfl trivial, ?_⟩   -- func(impl.Prog, int, impl.Select) bool
  refine ⟨TIok.mk1 (.nilFunc) _ (by kernel_rfl) rfl ⟨_, rfl, rfl⟩ rfl rfl ⟨.inl ⟨rfl, rfl⟩, trivial⟩ (by decide) Tryd.underlying94 rfl trivial, ?_⟩   -- func(impl.Prog, []impl.Instr) bool
  refine ⟨TIok.mk1 (.nilFunc) _ (by kernel_rfl) rfl ⟨_, rfl, rfl⟩ rfl rfl ⟨.inl ⟨rfl, rfl⟩, trivial⟩ (by decide) Tryd.underlying95 rfl trivial, ?_⟩   -- func(impl.Prog, int, impl.Instr) bool
  refine ⟨TIok.mk1 (.nilFunc) _ (by kernel_rfl) rfl ⟨_, rfl, rfl⟩ rfl rfl ⟨.inl ⟨rfl, rfl⟩, trivial⟩ (by decide) Tryd.underlying96 rfl trivial, ?_⟩   -- func(impl.Proc, impl.Proc) bool
  refine ⟨TIok.mk1 (.nilFunc) _ (by kernel_rfl) rfl ⟨_, rfl, rfl⟩ rfl rfl ⟨.inl ⟨rfl, rfl⟩, trivial⟩ (by decide) Tryd.underlying97 rfl trivial, ?_⟩   -- func([]impl.Instr, int) int
  refine ⟨TIok.mk1 (.slice none 0 0) _ (by kernel_rfl) rfl ⟨_, rfl, rfl⟩ rfl rfl ⟨.inr ⟨_, rfl, rfl⟩, trivial⟩ (by decide) Tryd.underlying98 rfl rfl, ?_⟩   -- []uint8
  refine ⟨TIok.mk1 (.nilFunc) _ (by kernel_rfl) rfl ⟨_, rfl, rfl⟩ rfl rfl ⟨.inl ⟨rfl, rfl⟩, trivial⟩ (by decide) Tryd.underlying100 rfl trivial, ?_⟩   -- func(string, func(int32) bool) []string
  refine ⟨TIok.mk1 (.nilFunc) _ (by kernel_rfl) rfl ⟨_, rfl, rfl⟩ rfl rfl ⟨.inl ⟨rfl, rfl⟩, trivial⟩ (by decide) Tryd.underlying101 rfl trivial, ?_⟩   -- func(int32) bool
  refine ⟨TIok.mk1 (.nilFunc) _ (by kernel_rfl) rfl ⟨_, rfl, rfl⟩ rfl rfl ⟨.inl ⟨rfl, rfl⟩, trivial⟩ (by decide) Tryd.underlying102 rfl trivial, ?_⟩   -- func(string, string, int, int) []string
  refine ⟨TIok.mk1 (.nilFunc) _ (by kernel_rfl) rfl ⟨_, rfl, rfl⟩ rfl rfl ⟨.inl ⟨rfl, rfl⟩, trivial⟩ (by decide) Tryd.underlying103 rfl trivial, ?_⟩   -- func(impl.Prog, int) bool
  refine ⟨TIok.mk1 (.nilFunc) _ (by kernel_rfl) rfl ⟨_, rfl, rfl⟩ rfl rfl ⟨.inl ⟨rfl, rfl⟩, trivial⟩ (by decide) Tryd.underlying104 rfl trivial, ?_⟩   -- func(int, int, int) bool
  refine ⟨TIok.mk1 (.nilFunc) _ (by kernel_rfl) rfl ⟨_, rfl, rfl⟩ rfl rfl ⟨.inl ⟨rfl, rfl⟩, trivial⟩ (by decide) Tryd.underlying105 rfl trivial, ?_⟩   -- func([]int, int) bool
  refine ⟨TIok.mk1 (.nilFunc) _ (by kernel_rfl) rfl ⟨_, rfl, rfl⟩ rfl rfl ⟨.inl ⟨rfl, rfl⟩, trivial⟩ (by decide) Tryd.underlying106 rfl trivial, ?_⟩   -- func([]impl.Instr, []impl.Instr) bool
  refine ⟨TIok.mk1 (.slice none 0 0) _ (by kernel_rfl) rfl ⟨_, rfl, rfl⟩ rfl rfl ⟨.inr ⟨_, rfl, rfl⟩, trivial⟩ (by decide) Tryd.underlying107 rfl rfl, ?_⟩   -- []strings.span
  refine ⟨TIok.mk1 (.agg #[.int .i64 0, .int .i64 0]) _ (by kernel_rfl) rfl rfl rfl rfl ⟨.inl ⟨rfl, rfl⟩, .inl ⟨rfl, rfl⟩, trivial⟩ (by decide) Tryd.underlying108 rfl ⟨_, rfl, rfl⟩, ?_⟩   -- struct  start int; end int 
  refine ⟨TIok.mk1 (.agg #[.int .i64 0, .int .i64 0]) _ (by kernel_rfl) rfl rfl rfl rfl ⟨.inl ⟨rfl, rfl⟩, .inl ⟨rfl, rfl⟩, trivial⟩ (by decide) Tryd.underlying109 rfl ⟨_, rfl, rfl⟩, ?_⟩   -- strings.span
  refine ⟨TIok.mk1 (.int .u32 0) _ (by kernel_rfl) rfl ⟨_, rfl, rfl⟩ rfl rfl ⟨.inl ⟨rfl, rfl⟩, trivial⟩ (by decide) Tryd.underlying110 rfl rfl, ?_⟩   -- uint32
  refine ⟨TIok.mk1 (.nilFunc) _ (by kernel_rfl) rfl ⟨_, rfl, rfl⟩ rfl rfl ⟨.inl ⟨rfl, rfl⟩, trivial⟩ (by decide) Tryd.underlying111 rfl trivial, ?_⟩   -- func(*unicode.RangeTable, int32) bool
  refine ⟨TIok.mk1 (.pointer none) _ (by kernel_rfl) rfl ⟨_, rfl, rfl⟩ rfl rfl ⟨.inl ⟨rfl, rfl⟩, trivial⟩ (by decide) Tryd.underlying112 rfl trivial, ?_⟩   -- *unicode.RangeTable
  refine ⟨TIok.mk1 (.pointer none) _ (by kernel_rfl) rfl ⟨_, rfl, rfl⟩ rfl rfl ⟨.inl ⟨rfl, rfl⟩, trivial⟩ (by decide) Tryd.underlying113 rfl trivial, ?_⟩   -- *strings.Builder
  refine ⟨TIok.mk1 (.agg #[.pointer none, .slice none 0 0]) _ (by kernel_rfl) rfl rfl rfl rfl ⟨.inl ⟨rfl, rfl⟩, .inr ⟨_, rfl, rfl⟩, trivial⟩ (by decide) Tryd.underlying114 rfl ⟨_, rfl, rfl⟩, ?_⟩   -- struct  addr *strings.Builder; buf []ui
  refine ⟨TIok.mk1 (.agg #[.pointer none, .slice none 0 0]) _ (by kernel_rfl) rfl rfl rfl rfl ⟨.inl ⟨rfl, rfl⟩, .inr ⟨_, rfl, rfl⟩, trivial⟩ (by decide) Tryd.underlying115 rfl ⟨_, rfl, rfl⟩, ?_⟩   -- strings.Builder
  refine ⟨TIok.mk1 (.nilFunc) _ (by kernel_rfl) rfl ⟨_, rfl, rfl⟩ rfl rfl ⟨.inl ⟨rfl, rfl⟩, trivial⟩ (by decide) Tryd.underlying116 rfl trivial, ?_⟩   -- func(int)
  refine ⟨TIok.mk1 (.nilFunc) _ (by kernel_rfl) rfl ⟨_, rfl, rfl⟩ rfl rfl ⟨.inl ⟨rfl, rfl⟩, trivial⟩ (by decide) Tryd.underlying120 rfl trivial, ?_⟩   -- func(string) (int, error)
  refine ⟨TIok.mk1 (.nilFunc) _ (by kernel_rfl) rfl ⟨_, rfl, rfl⟩ rfl rfl ⟨.inl ⟨rfl, rfl⟩, trivial⟩ (by decide) Tryd.underlying121 rfl trivial, ?_⟩   -- func() string
  refine ⟨TIok.mk1 (.nilFunc) _ (by kernel_rfl) rfl ⟨_, rfl, rfl⟩ rfl rfl ⟨.inl ⟨rfl, rfl⟩, trivial⟩ (by decide) Tryd.underlying122 rfl trivial, ?_⟩   -- func(string, int) []string
  refine ⟨TIok.mk1 (.slice none 0 0) _ (by kernel_rfl) rfl ⟨_, rfl, rfl⟩ rfl rfl ⟨.inr ⟨_, rfl, rfl⟩, trivial⟩ (by decide) Tryd.underlying123 rfl rfl, ?_⟩   -- []unicode.Range16
  refine ⟨TIok.mk1 (.slice none 0 0) _ (by kernel_rfl) rfl ⟨_, rfl, rfl⟩ rfl rfl ⟨.inr ⟨_, rfl, rfl⟩, trivial⟩ (by decide) Tryd.underlying124 rfl rfl, ?_⟩   -- []unicode.Range32
  refine ⟨TIok.mk1 (.agg #[.slice none 0 0, .slice none 0 0, .int .i64 0]) _ (by kernel_rfl) rfl rfl rfl rfl ⟨.inr ⟨_, rfl, rfl⟩, .inr ⟨_, rfl, rfl⟩, .inl ⟨rfl, rfl⟩, trivial⟩ (by decide) Tryd.underlying125 rfl ⟨_, rfl, rfl⟩, ?_⟩   -- struct  R16 []unicode.Range16; R32 []un
  refine ⟨TIok.mk1 (.agg #[.slice none 0 0, .slice none 0 0, .int .i64 0]) _ (by kernel_rfl) rfl rfl rfl rfl ⟨.inr ⟨_, rfl, rfl⟩, .inr ⟨_, rfl, rfl⟩, .inl ⟨rfl, rfl⟩, trivial⟩ (by decide) Tryd.underlying126 rfl ⟨_, rfl, rfl⟩, ?_⟩   -- unicode.RangeTable
  refine ⟨TIok.mk1 (.int .u16 0) _ (by kernel_rfl) rfl ⟨_, rfl, rfl⟩ rfl rfl ⟨.inl ⟨rfl, rfl⟩, trivial⟩ (by decide) Tryd.underlying127 rfl rfl, ?_⟩   -- uint16
  refine ⟨TIok.mk1 (.agg #[.int .u16 0, .int .u16 0, .int .u16 0]) _ (by kernel_rfl) rfl rfl rfl rfl ⟨.inl ⟨rfl, rfl⟩, .inl ⟨rfl, rfl⟩, .inl ⟨rfl, rfl⟩, trivial⟩ (by decide) Tryd.underlying128 rfl ⟨_, rfl, rfl⟩, ?_⟩   -- struct  Lo uint16; Hi uint16; Stride ui
  refine ⟨TIok.mk1 (.agg #[.int .u16 0, .int .u16 0, .int .u16 0]) _ (by kernel_rfl) rfl rfl rfl rfl ⟨.inl ⟨rfl, rfl⟩, .inl ⟨rfl, rfl⟩, .inl ⟨rfl, rfl⟩, trivial⟩ (by decide) Tryd.underlying129 rfl ⟨_, rfl, rfl⟩, ?_⟩   -- unicode.Range16
  refine ⟨TIok.mk1 (.nilFunc) _ (by kernel_rfl) rfl ⟨_, rfl, rfl⟩ rfl rfl ⟨.inl ⟨rfl, rfl⟩, trivial⟩ (by decide) Tryd.underlying130 rfl trivial, ?_⟩   -- func([]unicode.Range16, uint16) bool
  refine ⟨TIok.mk1 (.agg #[.int .u32 0, .int .u32 0, .int .u32 0]) _ (by kernel_rfl) rfl rfl rfl rfl ⟨.inl ⟨rfl, rfl⟩, .inl ⟨rfl, rfl⟩, .inl ⟨rfl, rfl⟩, trivial⟩ (by decide) Tryd.underlying131 rfl ⟨_, rfl, rfl⟩, ?_⟩   -- struct  Lo uint32; Hi uint32; Stride ui
  refine ⟨TIok.mk1 (.agg #[.int .u32 0, .int .u32 0, .int .u32 0]) _ (by kernel_rfl) rfl rfl rfl rfl ⟨.inl ⟨rfl, rfl⟩, .inl ⟨rfl, rfl⟩, .inl ⟨rfl, rfl⟩, trivial⟩ (by decide) Tryd.underlying132 rfl ⟨_, rfl, rfl⟩, ?_⟩   -- unicode.Range32
  refine ⟨TIok.mk1 (.nilFunc) _ (by kernel_rfl) rfl ⟨_, rfl, rfl⟩ rfl rfl ⟨.inl ⟨rfl, rfl⟩, trivial⟩ (by decide) Tryd.underlying133 rfl trivial, ?_⟩   -- func([]unicode.Range32, uint32) bool
  refine ⟨TIok.mk1 (.pointer none) _ (by kernel_rfl) rfl ⟨_, rfl, rfl⟩ rfl rfl ⟨.inl ⟨rfl, rfl⟩, trivial⟩ (by decide) Tryd.underlying134 rfl trivial, ?_⟩   -- *uint8
  refine ⟨TIok.mk1 (.nilFunc) _ (by kernel_rfl) rfl ⟨_, rfl, rfl⟩ rfl rfl ⟨.inl ⟨rfl, rfl⟩, trivial⟩ (by decide) Tryd.underlying135 rfl trivial, ?_⟩   -- func(string) int
  refine ⟨TIok.mk1 (.nilFunc) _ (by kernel_rfl) rfl ⟨_, rfl, rfl⟩ rfl rfl ⟨.inl ⟨rfl, rfl⟩, trivial⟩ (by decide) Tryd.underlying137 rfl trivial, ?_⟩   -- func(string) (int32, int)
  refine ⟨TIok.mk1 (.nilFunc) _ (by kernel_rfl) rfl ⟨_, rfl, rfl⟩ rfl rfl ⟨.inl ⟨rfl, rfl⟩, trivial⟩ (by decide) Tryd.underlying138 rfl trivial, ?_⟩   -- func(string, uint8) int
  refine ⟨TIok.mk1 (.pointer none) _ (by kernel_rfl) rfl ⟨_, rfl, rfl⟩ rfl rfl ⟨.inl ⟨rfl, rfl⟩, trivial⟩ (by decide) Tryd.underlying139 rfl trivial, ?_⟩   -- *unicode.Range16
  refine ⟨TIok.mk1 (.int .u64 0) _ (by kernel_rfl) rfl ⟨_, rfl, rfl⟩ rfl rfl ⟨.inl ⟨rfl, rfl⟩, trivial⟩ (by decide) Tryd.underlying140 rfl rfl, ?_⟩   -- uint
  refine ⟨TIok.mk1 (.pointer none) _ (by kernel_rfl) rfl ⟨_, rfl, rfl⟩ rfl rfl ⟨.inl ⟨rfl, rfl⟩, trivial⟩ (by decide) Tryd.underlying141 rfl trivial, ?_⟩   -- *unicode.Range32
  refine ⟨TIok.mk1 (.nilFunc) _ (by kernel_rfl) rfl ⟨_, rfl, rfl⟩ rfl rfl ⟨.inl ⟨rfl, rfl⟩, trivial⟩ (by decide) Tryd.underlying143 rfl trivial, ?_⟩   -- func(unsafe.Pointer) unsafe.Pointer
  refine ⟨TIok.mk1 (.nilFunc) _ (by kernel_rfl) rfl ⟨_, rfl, rfl⟩ rfl rfl ⟨.inl ⟨rfl, rfl⟩, trivial⟩ (by decide) Tryd.underlying144 rfl trivial, ?_⟩   -- func(int) []uint8
  refine ⟨TIok.mk1 (.agg #[.int .u8 0, .int .u8 0]) _ (by kernel_rfl) rfl rfl rfl rfl ⟨.inl ⟨rfl, rfl⟩, .inl ⟨rfl, rfl⟩, trivial⟩ (by decide) Tryd.underlying145 rfl ⟨_, rfl, rfl⟩, ?_⟩   -- struct  lo uint8; hi uint8 
  refine ⟨TIok.mk1 (.agg #[.int .u8 0, .int .u8 0]) _ (by kernel_rfl) rfl rfl rfl rfl ⟨.inl ⟨rfl, rfl⟩, .inl ⟨rfl, rfl⟩, trivial⟩ (by decide) Tryd.underlying146 rfl ⟨_, rfl, rfl⟩, ?_⟩   -- utf8.acceptRange
  refine ⟨TIok.mk1 (.nilFunc) _ (by kernel_rfl) rfl ⟨_, rfl, rfl⟩ rfl rfl ⟨.inl ⟨rfl, rfl⟩, trivial⟩ (by decide) Tryd.underlying149 rfl trivial, ?_⟩   -- func(string) (uint32, uint32)
  refine ⟨TIok.mk1 (.nilFunc) _ (by kernel_rfl) rfl ⟨_, rfl, rfl⟩ rfl rfl ⟨.inl ⟨rfl, rfl⟩, trivial⟩ (by decide) Tryd.underlying155 rfl trivial, ?_⟩   -- func() int
  refine ⟨TIok.mk1 (.nilFunc) _ (by kernel_rfl) rfl ⟨_, rfl, rfl⟩ rfl rfl ⟨.inl ⟨rfl, rfl⟩, trivial⟩ (by decide) Tryd.underlying158 rfl trivial, ?_⟩   -- func(unsafe.Pointer, unsafe.Pointer) boo
  exact trivial
def cx : Ctx := ⟨tt, Spec Tryd.prog, [15, 20, 28, 44, 53, 54, 55, 82], [], [], [], [40016], SpecP Tryd.prog, SpecN Tryd.prog⟩
theorem cx_ok : CtxOk Tryd.prog cx := ⟨tt_out tt_all, fun _ _ _ h => h, fun _ _ _ _ _ h => h, fun _ _ _ h => h⟩
theorem mixed : Tryd.prog.follows .mixedOrders = true := by kernel_rfl
/-- A function's contract, by its body. -/
theorem fn {f : Nat} {fn : Func} {args : List Ar} {ts : List T} (hf : Tryd.prog.funcs[f]? = some fn) (h : Fn cx fn args ts) (hn : (fn.name == "runtime.NumGoroutine") = false := by decide) : Spec Tryd.prog f args ts := spec_fn mixed cx_ok hf hn h
theorem fnP {f : Nat} {fn : Func} {ts ts' xs rs : List T} (hf : Tryd.prog.funcs[f]? = some fn) (h : FnP cx fn ts ts' xs rs) (hn : (fn.name == "runtime.NumGoroutine") = false := by decide) : SpecP Tryd.prog f ts ts' xs rs := specP_fn mixed cx_ok hf hn h
theorem fnN {f : Nat} {fn : Func} {xs : List T} {cs : List (Value ⊕ Nat)} (hf : Tryd.prog.funcs[f]? = some fn) (h : FnN cx fn xs cs) (hn : (fn.name == "runtime.NumGoroutine") = false := by decide) : SpecN Tryd.prog f xs cs := specN_fn mixed cx_ok hf hn h
end Go.Proofs.YtphikogfogejlaaDoor.E
