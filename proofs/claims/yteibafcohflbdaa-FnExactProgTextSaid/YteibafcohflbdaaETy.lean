/- The types of this seat's program, and what is true of them. Printed by wip/eng/ty.py. -/
import Derived.Test.YteibafcohflbdaaEFn
import Derived.Test.YteibafcohflbdaaProg
import Derived.KernelRfl
namespace Go.Proofs.Yteibafcohflbdaa.E
def tt : TT := [
  (1, ⟨1, false, 8, [.nilFunc], [.v (.nilFunc)], .other⟩),
  (2, ⟨1, false, 8, [.int .i64 0], [.v (.int .i64 0)], .int .i64⟩),
  (3, ⟨1, false, 8, [.int .i64 0], [.v (.int .i64 0)], .int .i64⟩),
  (4, ⟨1, false, 1, [.bool false], [.v (.bool false)], .bool⟩),
  (5, ⟨1, false, 1, [.int .u8 0], [.v (.int .u8 0)], .int .u8⟩),
  (9, ⟨1, false, 16, [.string ByteArray.empty], [.v (.string ByteArray.empty)], .str⟩),
  (12, ⟨1, false, 8, [.int .u64 0], [.v (.int .u64 0)], .int .u64⟩),
  (13, ⟨2, true, 24, [.string ByteArray.empty, .int .u64 0], [.v (.string ByteArray.empty), .v (.int .u64 0)], .st [(0, 9), (1, 12)]⟩),
  (21, ⟨1, false, 4, [.int .i32 0], [.v (.int .i32 0)], .int .i32⟩),
  (22, ⟨4, true, 32, [.int .i64 0, .int .i64 0, .int .i64 0, .int .i64 0], [.v (.int .i64 0), .v (.int .i64 0), .v (.int .i64 0), .v (.int .i64 0)], .st [(0, 3), (1, 3), (2, 3), (3, 3)]⟩),
  (23, ⟨4, true, 32, [.int .i64 0, .int .i64 0, .int .i64 0, .int .i64 0], [.v (.int .i64 0), .v (.int .i64 0), .v (.int .i64 0), .v (.int .i64 0)], .st [(0, 3), (1, 3), (2, 3), (3, 3)]⟩),
  (24, ⟨1, false, 8, [.nilFunc], [.v (.nilFunc)], .other⟩),
  (25, ⟨4, true, 32, [.int .i64 0, .int .i64 0, .int .i64 0, .int .i64 0], [.v (.int .i64 0), .v (.int .i64 0), .v (.int .i64 0), .v (.int .i64 0)], .st [(0, 3), (1, 3), (2, 3), (3, 3)]⟩),
  (26, ⟨1, false, 8, [.nilFunc], [.v (.nilFunc)], .other⟩),
  (27, ⟨1, false, 8, [.nilFunc], [.v (.nilFunc)], .other⟩),
  (28, ⟨1, false, 24, [.slice none 0 0], [.sl 5 []], .sl 82⟩),
  (29, ⟨2, true, 32, [.slice none 0 0, .int .i64 0], [.sl 5 [], .v (.int .i64 0)], .st [(0, 28), (1, 3)]⟩),
  (30, ⟨2, true, 32, [.slice none 0 0, .int .i64 0], [.sl 5 [], .v (.int .i64 0)], .st [(0, 28), (1, 3)]⟩),
  (31, ⟨1, false, 8, [.nilFunc], [.v (.nilFunc)], .other⟩),
  (32, ⟨1, false, 8, [.nilFunc], [.v (.nilFunc)], .other⟩),
  (33, ⟨1, false, 24, [.slice none 0 0], [.sl 5 []], .sl 63⟩),
  (34, ⟨2, true, 32, [.slice none 0 0, .int .i64 0], [.sl 5 [], .v (.int .i64 0)], .st [(0, 33), (1, 3)]⟩),
  (35, ⟨2, true, 32, [.slice none 0 0, .int .i64 0], [.sl 5 [], .v (.int .i64 0)], .st [(0, 33), (1, 3)]⟩),
  (36, ⟨1, false, 8, [.nilFunc], [.v (.nilFunc)], .other⟩),
  (37, ⟨1, false, 8, [.nilFunc], [.v (.nilFunc)], .other⟩),
  (38, ⟨1, false, 8, [.nilFunc], [.v (.nilFunc)], .other⟩),
  (39, ⟨1, false, 24, [.slice none 0 0], [.sl 1 []], .sl 3⟩),
  (40, ⟨1, false, 24, [.slice none 0 0], [.sl 2 []], .sl 30⟩),
  (41, ⟨1, false, 24, [.slice none 0 0], [.sl 1 []], .sl 87⟩),
  (42, ⟨4, true, 80, [.slice none 0 0, .int .i64 0, .slice none 0 0, .slice none 0 0], [.sl 1 [], .v (.int .i64 0), .sl 2 [], .sl 1 []], .st [(0, 39), (1, 3), (2, 40), (3, 41)]⟩),
  (43, ⟨4, true, 80, [.slice none 0 0, .int .i64 0, .slice none 0 0, .slice none 0 0], [.sl 1 [], .v (.int .i64 0), .sl 2 [], .sl 1 []], .st [(0, 39), (1, 3), (2, 40), (3, 41)]⟩),
  (44, ⟨1, false, 8, [.nilFunc], [.v (.nilFunc)], .other⟩),
  (45, ⟨1, false, 8, [.nilFunc], [.v (.nilFunc)], .other⟩),
  (46, ⟨1, false, 24, [.slice none 0 0], [.sl 2 []], .sl 35⟩),
  (47, ⟨1, false, 24, [.slice none 0 0], [.sl 1 []], .sl 76⟩),
  (48, ⟨4, true, 80, [.slice none 0 0, .int .i64 0, .slice none 0 0, .slice none 0 0], [.sl 1 [], .v (.int .i64 0), .sl 2 [], .sl 1 []], .st [(0, 39), (1, 3), (2, 46), (3, 47)]⟩),
  (49, ⟨4, true, 80, [.slice none 0 0, .int .i64 0, .slice none 0 0, .slice none 0 0], [.sl 1 [], .v (.int .i64 0), .sl 2 [], .sl 1 []], .st [(0, 39), (1, 3), (2, 46), (3, 47)]⟩),
  (50, ⟨1, false, 8, [.nilFunc], [.v (.nilFunc)], .other⟩),
  (51, ⟨1, false, 8, [.nilFunc], [.v (.nilFunc)], .other⟩),
  (52, ⟨1, false, 8, [.nilFunc], [.v (.nilFunc)], .other⟩),
  (53, ⟨1, false, 8, [.nilFunc], [.v (.nilFunc)], .other⟩),
  (54, ⟨1, false, 8, [.nilFunc], [.v (.nilFunc)], .other⟩),
  (55, ⟨1, false, 8, [.nilFunc], [.v (.nilFunc)], .other⟩),
  (57, ⟨1, false, 8, [.nilFunc], [.v (.nilFunc)], .other⟩),
  (58, ⟨1, false, 8, [.nilFunc], [.v (.nilFunc)], .other⟩),
  (59, ⟨1, false, 24, [.slice none 0 0], [.sl 1 []], .sl 9⟩),
  (60, ⟨1, false, 8, [.nilFunc], [.v (.nilFunc)], .other⟩),
  (61, ⟨1, false, 8, [.nilFunc], [.v (.nilFunc)], .other⟩),
  (62, ⟨5, true, 40, [.bool false, .int .i64 0, .int .i64 0, .int .i64 0, .int .i64 0], [.v (.bool false), .v (.int .i64 0), .v (.int .i64 0), .v (.int .i64 0), .v (.int .i64 0)], .st [(0, 4), (1, 3), (2, 3), (3, 3), (4, 3)]⟩),
  (63, ⟨5, true, 40, [.bool false, .int .i64 0, .int .i64 0, .int .i64 0, .int .i64 0], [.v (.bool false), .v (.int .i64 0), .v (.int .i64 0), .v (.int .i64 0), .v (.int .i64 0)], .st [(0, 4), (1, 3), (2, 3), (3, 3), (4, 3)]⟩),
  (64, ⟨1, false, 8, [.nilFunc], [.v (.nilFunc)], .other⟩),
  (65, ⟨1, false, 8, [.nilFunc], [.v (.nilFunc)], .other⟩),
  (66, ⟨1, false, 8, [.nilFunc], [.v (.nilFunc)], .other⟩),
  (67, ⟨1, false, 8, [.nilFunc], [.v (.nilFunc)], .other⟩),
  (68, ⟨1, false, 8, [.nilFunc], [.v (.nilFunc)], .other⟩),
  (69, ⟨1, false, 8, [.nilFunc], [.v (.nilFunc)], .other⟩),
  (70, ⟨1, false, 8, [.nilFunc], [.v (.nilFunc)], .other⟩),
  (71, ⟨1, false, 8, [.nilFunc], [.v (.nilFunc)], .other⟩),
  (72, ⟨1, false, 8, [.nilFunc], [.v (.nilFunc)], .other⟩),
  (73, ⟨1, false, 8, [.nilFunc], [.v (.nilFunc)], .other⟩),
  (74, ⟨1, false, 24, [.slice none 0 0], [.sl 4 []], .sl 25⟩),
  (75, ⟨1, true, 24, [.slice none 0 0], [.sl 4 []], .st [(0, 74)]⟩),
  (76, ⟨1, true, 24, [.slice none 0 0], [.sl 4 []], .st [(0, 74)]⟩),
  (77, ⟨1, false, 8, [.nilFunc], [.v (.nilFunc)], .other⟩),
  (78, ⟨1, false, 8, [.nilFunc], [.v (.nilFunc)], .other⟩),
  (79, ⟨1, false, 8, [.nilFunc], [.v (.nilFunc)], .other⟩),
  (80, ⟨1, false, 8, [.nilFunc], [.v (.nilFunc)], .other⟩),
  (81, ⟨1, false, 8, [.nilFunc], [.v (.nilFunc)], .other⟩),
  (82, ⟨5, true, 40, [.bool false, .int .i64 0, .int .i64 0, .int .i64 0, .int .i64 0], [.v (.bool false), .v (.int .i64 0), .v (.int .i64 0), .v (.int .i64 0), .v (.int .i64 0)], .st [(0, 4), (1, 3), (2, 3), (3, 3), (4, 3)]⟩),
  (83, ⟨1, false, 8, [.nilFunc], [.v (.nilFunc)], .other⟩),
  (84, ⟨1, false, 8, [.nilFunc], [.v (.nilFunc)], .other⟩),
  (85, ⟨1, false, 24, [.slice none 0 0], [.sl 4 []], .sl 23⟩),
  (86, ⟨1, true, 24, [.slice none 0 0], [.sl 4 []], .st [(0, 85)]⟩),
  (87, ⟨1, true, 24, [.slice none 0 0], [.sl 4 []], .st [(0, 85)]⟩),
  (88, ⟨1, false, 8, [.nilFunc], [.v (.nilFunc)], .other⟩),
  (89, ⟨1, false, 8, [.nilFunc], [.v (.nilFunc)], .other⟩),
  (90, ⟨1, false, 8, [.nilFunc], [.v (.nilFunc)], .other⟩),
  (91, ⟨1, false, 8, [.nilFunc], [.v (.nilFunc)], .other⟩),
  (92, ⟨1, false, 8, [.nilFunc], [.v (.nilFunc)], .other⟩),
  (93, ⟨1, false, 8, [.nilFunc], [.v (.nilFunc)], .other⟩),
  (94, ⟨1, false, 24, [.slice none 0 0], [.sl 1 []], .sl 5⟩),
  (95, ⟨1, false, 8, [.pointer none], [.v (.pointer none)], .ptr⟩),
  (96, ⟨2, true, 32, [.pointer none, .slice none 0 0], [.v (.pointer none), .sl 1 []], .st [(0, 95), (1, 94)]⟩),
  (97, ⟨2, true, 32, [.pointer none, .slice none 0 0], [.v (.pointer none), .sl 1 []], .st [(0, 95), (1, 94)]⟩),
  (98, ⟨1, false, 8, [.nilFunc], [.v (.nilFunc)], .other⟩),
  (102, ⟨1, false, 8, [.nilFunc], [.v (.nilFunc)], .other⟩),
  (103, ⟨1, false, 8, [.nilFunc], [.v (.nilFunc)], .other⟩),
  (104, ⟨1, false, 8, [.nilFunc], [.v (.nilFunc)], .other⟩),
  (105, ⟨1, false, 8, [.nilFunc], [.v (.nilFunc)], .other⟩),
  (106, ⟨1, false, 8, [.nilFunc], [.v (.nilFunc)], .other⟩),
  (107, ⟨1, false, 8, [.nilFunc], [.v (.nilFunc)], .other⟩),
  (108, ⟨1, false, 8, [.nilFunc], [.v (.nilFunc)], .other⟩),
  (109, ⟨1, false, 8, [.nilFunc], [.v (.nilFunc)], .other⟩),
  (110, ⟨1, false, 8, [.pointer none], [.v (.pointer none)], .ptr⟩),
  (111, ⟨1, false, 8, [.nilFunc], [.v (.nilFunc)], .other⟩),
  (113, ⟨1, false, 8, [.nilFunc], [.v (.nilFunc)], .other⟩),
  (114, ⟨1, false, 8, [.nilFunc], [.v (.nilFunc)], .other⟩),
  (120, ⟨1, false, 8, [.nilFunc], [.v (.nilFunc)], .other⟩),
  (121, ⟨1, false, 4, [.int .u32 0], [.v (.int .u32 0)], .int .u32⟩),
  (124, ⟨1, false, 8, [.nilFunc], [.v (.nilFunc)], .other⟩)]
set_option maxRecDepth 100000 in
theorem tt_all : TTall Try.prog tt := by
  refine ⟨TIok.mk1 (.nilFunc) _ (by kernel_rfl) rfl ⟨_, rfl, rfl⟩ rfl rfl ⟨.inl ⟨rfl, rfl⟩, trivial⟩ (by decide) Try.underlying1 rfl trivial, ?_⟩   -- func()
  refine ⟨TIok.mk1 (.int .i64 0) _ (by kernel_rfl) rfl ⟨_, rfl, rfl⟩ rfl rfl ⟨.inl ⟨rfl, rfl⟩, trivial⟩ (by decide) Try.underlying2 rfl rfl, ?_⟩   -- int64
  refine ⟨TIok.mk1 (.int .i64 0) _ (by kernel_rfl) rfl ⟨_, rfl, rfl⟩ rfl rfl ⟨.inl ⟨rfl, rfl⟩, trivial⟩ (by decide) Try.underlying3 rfl rfl, ?_⟩   -- int
  refine ⟨TIok.mk1 (.bool false) _ (by kernel_rfl) rfl ⟨_, rfl, rfl⟩ rfl rfl ⟨.inl ⟨rfl, rfl⟩, trivial⟩ (by decide) Try.underlying4 rfl rfl, ?_⟩   -- bool
  refine ⟨TIok.mk1 (.int .u8 0) _ (by kernel_rfl) rfl ⟨_, rfl, rfl⟩ rfl rfl ⟨.inl ⟨rfl, rfl⟩, trivial⟩ (by decide) Try.underlying5 rfl rfl, ?_⟩   -- uint8
  refine ⟨TIok.mk1 (.string ByteArray.empty) _ (by kernel_rfl) rfl ⟨_, rfl, rfl⟩ rfl rfl ⟨.inl ⟨rfl, rfl⟩, trivial⟩ (by decide) Try.underlying9 rfl rfl, ?_⟩   -- string
  refine ⟨TIok.mk1 (.int .u64 0) _ (by kernel_rfl) rfl ⟨_, rfl, rfl⟩ rfl rfl ⟨.inl ⟨rfl, rfl⟩, trivial⟩ (by decide) Try.underlying12 rfl rfl, ?_⟩   -- uintptr
  refine ⟨TIok.mk1 (.agg #[.string ByteArray.empty, .int .u64 0]) _ (by kernel_rfl) rfl rfl rfl rfl ⟨.inl ⟨rfl, rfl⟩, .inl ⟨rfl, rfl⟩, trivial⟩ (by decide) Try.underlying13 rfl ⟨_, rfl, rfl⟩, ?_⟩   -- struct  msg string; addr uintptr 
  refine ⟨TIok.mk1 (.int .i32 0) _ (by kernel_rfl) rfl ⟨_, rfl, rfl⟩ rfl rfl ⟨.inl ⟨rfl, rfl⟩, trivial⟩ (by decide) Try.underlying21 rfl rfl, ?_⟩   -- int32
  refine ⟨TIok.mk1 (.agg #[.int .i64 0, .int .i64 0, .int .i64 0, .int .i64 0]) _ (by kernel_rfl) rfl rfl rfl rfl ⟨.inl ⟨rfl, rfl⟩, .inl ⟨rfl, rfl⟩, .inl ⟨rfl, rfl⟩, .inl ⟨rfl, rfl⟩, trivial⟩ (by decide) Try.underlying22 rfl ⟨_, rfl, rfl⟩, ?_⟩   -- struct  Op int; A int; B int; C int 
  refine ⟨TIok.mk1 (.agg #[.int .i64 0, .int .i64 0, .int .i64 0, .int .i64 0]) _ (by kernel_rfl) rfl rfl rfl rfl ⟨.inl ⟨rfl, rfl⟩, .inl ⟨rfl, rfl⟩, .inl ⟨rfl, rfl⟩, .inl ⟨rfl, rfl⟩, trivial⟩ (by decide) Try.underlying23 rfl ⟨_, rfl, rfl⟩, ?_⟩   -- laws.Instr
  refine ⟨TIok.mk1 (.nilFunc) _ (by kernel_rfl) rfl ⟨_, rfl, rfl⟩ rfl rfl ⟨.inl ⟨rfl, rfl⟩, trivial⟩ (by decide) Try.underlying24 rfl trivial, ?_⟩   -- func(impl.Instr) string
  refine ⟨TIok.mk1 (.agg #[.int .i64 0, .int .i64 0, .int .i64 0, .int .i64 0]) _ (by kernel_rfl) rfl rfl rfl rfl ⟨.inl ⟨rfl, rfl⟩, .inl ⟨rfl, rfl⟩, .inl ⟨rfl, rfl⟩, .inl ⟨rfl, rfl⟩, trivial⟩ (by decide) Try.underlying25 rfl ⟨_, rfl, rfl⟩, ?_⟩   -- impl.Instr
  refine ⟨TIok.mk1 (.nilFunc) _ (by kernel_rfl) rfl ⟨_, rfl, rfl⟩ rfl rfl ⟨.inl ⟨rfl, rfl⟩, trivial⟩ (by decide) Try.underlying26 rfl trivial, ?_⟩   -- func(laws.Instr) impl.Instr
  refine ⟨TIok.mk1 (.nilFunc) _ (by kernel_rfl) rfl ⟨_, rfl, rfl⟩ rfl rfl ⟨.inl ⟨rfl, rfl⟩, trivial⟩ (by decide) Try.underlying27 rfl trivial, ?_⟩   -- func(laws.Instr) bool
  refine ⟨TIok.mk1 (.slice none 0 0) _ (by kernel_rfl) rfl ⟨_, rfl, rfl⟩ rfl rfl ⟨.inr ⟨_, rfl, rfl⟩, trivial⟩ (by decide) Try.underlying28 rfl rfl, ?_⟩   -- []laws.Case
  refine ⟨TIok.mk1 (.agg #[.slice none 0 0, .int .i64 0]) _ (by kernel_rfl) rfl rfl rfl rfl ⟨.inr ⟨_, rfl, rfl⟩, .inl ⟨rfl, rfl⟩, trivial⟩ (by decide) Try.underlying29 rfl ⟨_, rfl, rfl⟩, ?_⟩   -- struct  Cases []laws.Case; Else int 
  refine ⟨TIok.mk1 (.agg #[.slice none 0 0, .int .i64 0]) _ (by kernel_rfl) rfl rfl rfl rfl ⟨.inr ⟨_, rfl, rfl⟩, .inl ⟨rfl, rfl⟩, trivial⟩ (by decide) Try.underlying30 rfl ⟨_, rfl, rfl⟩, ?_⟩   -- laws.Select
  refine ⟨TIok.mk1 (.nilFunc) _ (by kernel_rfl) rfl ⟨_, rfl, rfl⟩ rfl rfl ⟨.inl ⟨rfl, rfl⟩, trivial⟩ (by decide) Try.underlying31 rfl trivial, ?_⟩   -- func(laws.Select, int) int
  refine ⟨TIok.mk1 (.nilFunc) _ (by kernel_rfl) rfl ⟨_, rfl, rfl⟩ rfl rfl ⟨.inl ⟨rfl, rfl⟩, trivial⟩ (by decide) Try.underlying32 rfl trivial, ?_⟩   -- func(impl.Select) string
  refine ⟨TIok.mk1 (.slice none 0 0) _ (by kernel_rfl) rfl ⟨_, rfl, rfl⟩ rfl rfl ⟨.inr ⟨_, rfl, rfl⟩, trivial⟩ (by decide) Try.underlying33 rfl rfl, ?_⟩   -- []impl.Case
  refine ⟨TIok.mk1 (.agg #[.slice none 0 0, .int .i64 0]) _ (by kernel_rfl) rfl rfl rfl rfl ⟨.inr ⟨_, rfl, rfl⟩, .inl ⟨rfl, rfl⟩, trivial⟩ (by decide) Try.underlying34 rfl ⟨_, rfl, rfl⟩, ?_⟩   -- struct  Cases []impl.Case; Else int 
  refine ⟨TIok.mk1 (.agg #[.slice none 0 0, .int .i64 0]) _ (by kernel_rfl) rfl rfl rfl rfl ⟨.inr ⟨_, rfl, rfl⟩, .inl ⟨rfl, rfl⟩, trivial⟩ (by decide) Try.underlying35 rfl ⟨_, rfl, rfl⟩, ?_⟩   -- impl.Select
  refine ⟨TIok.mk1 (.nilFunc) _ (by kernel_rfl) rfl ⟨_, rfl, rfl⟩ rfl rfl ⟨.inl ⟨rfl, rfl⟩, trivial⟩ (by decide) Try.underlying36 rfl trivial, ?_⟩   -- func(laws.Select) impl.Select
  refine ⟨TIok.mk1 (.nilFunc) _ (by kernel_rfl) rfl ⟨_, rfl, rfl⟩ rfl rfl ⟨.inl ⟨rfl, rfl⟩, trivial⟩ (by decide) Try.underlying37 rfl trivial, ?_⟩   -- func(impl.Select, impl.Select) bool
  refine ⟨TIok.mk1 (.nilFunc) _ (by kernel_rfl) rfl ⟨_, rfl, rfl⟩ rfl rfl ⟨.inl ⟨rfl, rfl⟩, trivial⟩ (by decide) Try.underlying38 rfl trivial, ?_⟩   -- func(laws.Select) bool
  refine ⟨TIok.mk1 (.slice none 0 0) _ (by kernel_rfl) rfl ⟨_, rfl, rfl⟩ rfl rfl ⟨.inr ⟨_, rfl, rfl⟩, trivial⟩ (by decide) Try.underlying39 rfl rfl, ?_⟩   -- []int
  refine ⟨TIok.mk1 (.slice none 0 0) _ (by kernel_rfl) rfl ⟨_, rfl, rfl⟩ rfl rfl ⟨.inr ⟨_, rfl, rfl⟩, trivial⟩ (by decide) Try.underlying40 rfl rfl, ?_⟩   -- []laws.Select
  refine ⟨TIok.mk1 (.slice none 0 0) _ (by kernel_rfl) rfl ⟨_, rfl, rfl⟩ rfl rfl ⟨.inr ⟨_, rfl, rfl⟩, trivial⟩ (by decide) Try.underlying41 rfl rfl, ?_⟩   -- []laws.Proc
  refine ⟨TIok.mk1 (.agg #[.slice none 0 0, .int .i64 0, .slice none 0 0, .slice none 0 0]) _ (by kernel_rfl) rfl rfl rfl rfl ⟨.inr ⟨_, rfl, rfl⟩, .inl ⟨rfl, rfl⟩, .inr ⟨_, rfl, rfl⟩, .inr ⟨_, rfl, rfl⟩, trivial⟩ (by decide) Try.underlying42 rfl ⟨_, rfl, rfl⟩, ?_⟩   -- struct  Caps []int; Mus int; Sels []law
  refine ⟨TIok.mk1 (.agg #[.slice none 0 0, .int .i64 0, .slice none 0 0, .slice none 0 0]) _ (by kernel_rfl) rfl rfl rfl rfl ⟨.inr ⟨_, rfl, rfl⟩, .inl ⟨rfl, rfl⟩, .inr ⟨_, rfl, rfl⟩, .inr ⟨_, rfl, rfl⟩, trivial⟩ (by decide) Try.underlying43 rfl ⟨_, rfl, rfl⟩, ?_⟩   -- laws.Prog
  refine ⟨TIok.mk1 (.nilFunc) _ (by kernel_rfl) rfl ⟨_, rfl, rfl⟩ rfl rfl ⟨.inl ⟨rfl, rfl⟩, trivial⟩ (by decide) Try.underlying44 rfl trivial, ?_⟩   -- func(laws.Prog, int) int
  refine ⟨TIok.mk1 (.nilFunc) _ (by kernel_rfl) rfl ⟨_, rfl, rfl⟩ rfl rfl ⟨.inl ⟨rfl, rfl⟩, trivial⟩ (by decide) Try.underlying45 rfl trivial, ?_⟩   -- func(impl.Prog) string
  refine ⟨TIok.mk1 (.slice none 0 0) _ (by kernel_rfl) rfl ⟨_, rfl, rfl⟩ rfl rfl ⟨.inr ⟨_, rfl, rfl⟩, trivial⟩ (by decide) Try.underlying46 rfl rfl, ?_⟩   -- []impl.Select
  refine ⟨TIok.mk1 (.slice none 0 0) _ (by kernel_rfl) rfl ⟨_, rfl, rfl⟩ rfl rfl ⟨.inr ⟨_, rfl, rfl⟩, trivial⟩ (by decide) Try.underlying47 rfl rfl, ?_⟩   -- []impl.Proc
  refine ⟨TIok.mk1 (.agg #[.slice none 0 0, .int .i64 0, .slice none 0 0, .slice none 0 0]) _ (by kernel_rfl) rfl rfl rfl rfl ⟨.inr ⟨_, rfl, rfl⟩, .inl ⟨rfl, rfl⟩, .inr ⟨_, rfl, rfl⟩, .inr ⟨_, rfl, rfl⟩, trivial⟩ (by decide) Try.underlying48 rfl ⟨_, rfl, rfl⟩, ?_⟩   -- struct  Caps []int; Mus int; Sels []imp
  refine ⟨TIok.mk1 (.agg #[.slice none 0 0, .int .i64 0, .slice none 0 0, .slice none 0 0]) _ (by kernel_rfl) rfl rfl rfl rfl ⟨.inr ⟨_, rfl, rfl⟩, .inl ⟨rfl, rfl⟩, .inr ⟨_, rfl, rfl⟩, .inr ⟨_, rfl, rfl⟩, trivial⟩ (by decide) Try.underlying49 rfl ⟨_, rfl, rfl⟩, ?_⟩   -- impl.Prog
  refine ⟨TIok.mk1 (.nilFunc) _ (by kernel_rfl) rfl ⟨_, rfl, rfl⟩ rfl rfl ⟨.inl ⟨rfl, rfl⟩, trivial⟩ (by decide) Try.underlying50 rfl trivial, ?_⟩   -- func(laws.Prog) impl.Prog
  refine ⟨TIok.mk1 (.nilFunc) _ (by kernel_rfl) rfl ⟨_, rfl, rfl⟩ rfl rfl ⟨.inl ⟨rfl, rfl⟩, trivial⟩ (by decide) Try.underlying51 rfl trivial, ?_⟩   -- func(impl.Prog, impl.Prog) bool
  refine ⟨TIok.mk1 (.nilFunc) _ (by kernel_rfl) rfl ⟨_, rfl, rfl⟩ rfl rfl ⟨.inl ⟨rfl, rfl⟩, trivial⟩ (by decide) Try.underlying52 rfl trivial, ?_⟩   -- func(laws.Prog) bool
  refine ⟨TIok.mk1 (.nilFunc) _ (by kernel_rfl) rfl ⟨_, rfl, rfl⟩ rfl rfl ⟨.inl ⟨rfl, rfl⟩, trivial⟩ (by decide) Try.underlying53 rfl trivial, ?_⟩   -- func(int) int
  refine ⟨TIok.mk1 (.nilFunc) _ (by kernel_rfl) rfl ⟨_, rfl, rfl⟩ rfl rfl ⟨.inl ⟨rfl, rfl⟩, trivial⟩ (by decide) Try.underlying54 rfl trivial, ?_⟩   -- func(impl.Instr, int) bool
  refine ⟨TIok.mk1 (.nilFunc) _ (by kernel_rfl) rfl ⟨_, rfl, rfl⟩ rfl rfl ⟨.inl ⟨rfl, rfl⟩, trivial⟩ (by decide) Try.underlying55 rfl trivial, ?_⟩   -- func(int) string
  refine ⟨TIok.mk1 (.nilFunc) _ (by kernel_rfl) rfl ⟨_, rfl, rfl⟩ rfl rfl ⟨.inl ⟨rfl, rfl⟩, trivial⟩ (by decide) Try.underlying57 rfl trivial, ?_⟩   -- func(int, bool, string) (string, bool)
  refine ⟨TIok.mk1 (.nilFunc) _ (by kernel_rfl) rfl ⟨_, rfl, rfl⟩ rfl rfl ⟨.inl ⟨rfl, rfl⟩, trivial⟩ (by decide) Try.underlying58 rfl trivial, ?_⟩   -- func(int) bool
  refine ⟨TIok.mk1 (.slice none 0 0) _ (by kernel_rfl) rfl ⟨_, rfl, rfl⟩ rfl rfl ⟨.inr ⟨_, rfl, rfl⟩, trivial⟩ (by decide) Try.underlying59 rfl rfl, ?_⟩   -- []string
  refine ⟨TIok.mk1 (.nilFunc) _ (by kernel_rfl) rfl ⟨_, rfl, rfl⟩ rfl rfl ⟨.inl ⟨rfl, rfl⟩, trivial⟩ (by decide) Try.underlying60 rfl trivial, ?_⟩   -- func([]string, string) string
  refine ⟨TIok.mk1 (.nilFunc) _ (by kernel_rfl) rfl ⟨_, rfl, rfl⟩ rfl rfl ⟨.inl ⟨rfl, rfl⟩, trivial⟩ (by decide) Try.underlying61 rfl trivial, ?_⟩   -- func([]laws.Case, int) int
  refine ⟨TIok.mk1 (.agg #[.bool false, .int .i64 0, .int .i64 0, .int .i64 0, .int .i64 0]) _ (by kernel_rfl) rfl rfl rfl rfl ⟨.inl ⟨rfl, rfl⟩, .inl ⟨rfl, rfl⟩, .inl ⟨rfl, rfl⟩, .inl ⟨rfl, rfl⟩, .inl ⟨rfl, rfl⟩, trivial⟩ (by decide) Try.underlying62 rfl ⟨_, rfl, rfl⟩, ?_⟩   -- struct  Send bool; Chan int; Reg int; O
  refine ⟨TIok.mk1 (.agg #[.bool false, .int .i64 0, .int .i64 0, .int .i64 0, .int .i64 0]) _ (by kernel_rfl) rfl rfl rfl rfl ⟨.inl ⟨rfl, rfl⟩, .inl ⟨rfl, rfl⟩, .inl ⟨rfl, rfl⟩, .inl ⟨rfl, rfl⟩, .inl ⟨rfl, rfl⟩, trivial⟩ (by decide) Try.underlying63 rfl ⟨_, rfl, rfl⟩, ?_⟩   -- impl.Case
  refine ⟨TIok.mk1 (.nilFunc) _ (by kernel_rfl) rfl ⟨_, rfl, rfl⟩ rfl rfl ⟨.inl ⟨rfl, rfl⟩, trivial⟩ (by decide) Try.underlying64 rfl trivial, ?_⟩   -- func(impl.Case) string
  refine ⟨TIok.mk1 (.nilFunc) _ (by kernel_rfl) rfl ⟨_, rfl, rfl⟩ rfl rfl ⟨.inl ⟨rfl, rfl⟩, trivial⟩ (by decide) Try.underlying65 rfl trivial, ?_⟩   -- func([]laws.Case) []impl.Case
  refine ⟨TIok.mk1 (.nilFunc) _ (by kernel_rfl) rfl ⟨_, rfl, rfl⟩ rfl rfl ⟨.inl ⟨rfl, rfl⟩, trivial⟩ (by decide) Try.underlying66 rfl trivial, ?_⟩   -- func([]impl.Case, []impl.Case) bool
  refine ⟨TIok.mk1 (.nilFunc) _ (by kernel_rfl) rfl ⟨_, rfl, rfl⟩ rfl rfl ⟨.inl ⟨rfl, rfl⟩, trivial⟩ (by decide) Try.underlying67 rfl trivial, ?_⟩   -- func([]int, int) int
  refine ⟨TIok.mk1 (.nilFunc) _ (by kernel_rfl) rfl ⟨_, rfl, rfl⟩ rfl rfl ⟨.inl ⟨rfl, rfl⟩, trivial⟩ (by decide) Try.underlying68 rfl trivial, ?_⟩   -- func([]laws.Select, int) int
  refine ⟨TIok.mk1 (.nilFunc) _ (by kernel_rfl) rfl ⟨_, rfl, rfl⟩ rfl rfl ⟨.inl ⟨rfl, rfl⟩, trivial⟩ (by decide) Try.underlying69 rfl trivial, ?_⟩   -- func([]laws.Proc, int) int
  refine ⟨TIok.mk1 (.nilFunc) _ (by kernel_rfl) rfl ⟨_, rfl, rfl⟩ rfl rfl ⟨.inl ⟨rfl, rfl⟩, trivial⟩ (by decide) Try.underlying70 rfl trivial, ?_⟩   -- func(impl.Prog) bool
  refine ⟨TIok.mk1 (.nilFunc) _ (by kernel_rfl) rfl ⟨_, rfl, rfl⟩ rfl rfl ⟨.inl ⟨rfl, rfl⟩, trivial⟩ (by decide) Try.underlying71 rfl trivial, ?_⟩   -- func([]int) []int
  refine ⟨TIok.mk1 (.nilFunc) _ (by kernel_rfl) rfl ⟨_, rfl, rfl⟩ rfl rfl ⟨.inl ⟨rfl, rfl⟩, trivial⟩ (by decide) Try.underlying72 rfl trivial, ?_⟩   -- func([]laws.Select) []impl.Select
  refine ⟨TIok.mk1 (.nilFunc) _ (by kernel_rfl) rfl ⟨_, rfl, rfl⟩ rfl rfl ⟨.inl ⟨rfl, rfl⟩, trivial⟩ (by decide) Try.underlying73 rfl trivial, ?_⟩   -- func([]laws.Proc) []impl.Proc
  refine ⟨TIok.mk1 (.slice none 0 0) _ (by kernel_rfl) rfl ⟨_, rfl, rfl⟩ rfl rfl ⟨.inr ⟨_, rfl, rfl⟩, trivial⟩ (by decide) Try.underlying74 rfl rfl, ?_⟩   -- []impl.Instr
  refine ⟨TIok.mk1 (.agg #[.slice none 0 0]) _ (by kernel_rfl) rfl rfl rfl rfl ⟨.inr ⟨_, rfl, rfl⟩, trivial⟩ (by decide) Try.underlying75 rfl ⟨_, rfl, rfl⟩, ?_⟩   -- struct  Code []impl.Instr 
  refine ⟨TIok.mk1 (.agg #[.slice none 0 0]) _ (by kernel_rfl) rfl rfl rfl rfl ⟨.inr ⟨_, rfl, rfl⟩, trivial⟩ (by decide) Try.underlying76 rfl ⟨_, rfl, rfl⟩, ?_⟩   -- impl.Proc
  refine ⟨TIok.mk1 (.nilFunc) _ (by kernel_rfl) rfl ⟨_, rfl, rfl⟩ rfl rfl ⟨.inl ⟨rfl, rfl⟩, trivial⟩ (by decide) Try.underlying77 rfl trivial, ?_⟩   -- func([]int, []int) bool
  refine ⟨TIok.mk1 (.nilFunc) _ (by kernel_rfl) rfl ⟨_, rfl, rfl⟩ rfl rfl ⟨.inl ⟨rfl, rfl⟩, trivial⟩ (by decide) Try.underlying78 rfl trivial, ?_⟩   -- func([]impl.Select, []impl.Select) bool
  refine ⟨TIok.mk1 (.nilFunc) _ (by kernel_rfl) rfl ⟨_, rfl, rfl⟩ rfl rfl ⟨.inl ⟨rfl, rfl⟩, trivial⟩ (by decide) Try.underlying79 rfl trivial, ?_⟩   -- func([]impl.Proc, []impl.Proc) bool
  refine ⟨TIok.mk1 (.nilFunc) _ (by kernel_rfl) rfl ⟨_, rfl, rfl⟩ rfl rfl ⟨.inl ⟨rfl, rfl⟩, trivial⟩ (by decide) Try.underlying80 rfl trivial, ?_⟩   -- func() []string
  refine ⟨TIok.mk1 (.nilFunc) _ (by kernel_rfl) rfl ⟨_, rfl, rfl⟩ rfl rfl ⟨.inl ⟨rfl, rfl⟩, trivial⟩ (by decide) Try.underlying81 rfl trivial, ?_⟩   -- func(laws.Case) impl.Case
  refine ⟨TIok.mk1 (.agg #[.bool false, .int .i64 0, .int .i64 0, .int .i64 0, .int .i64 0]) _ (by kernel_rfl) rfl rfl rfl rfl ⟨.inl ⟨rfl, rfl⟩, .inl ⟨rfl, rfl⟩, .inl ⟨rfl, rfl⟩, .inl ⟨rfl, rfl⟩, .inl ⟨rfl, rfl⟩, trivial⟩ (by decide) Try.underlying82 rfl ⟨_, rfl, rfl⟩, ?_⟩   -- laws.Case
  refine ⟨TIok.mk1 (.nilFunc) _ (by kernel_rfl) rfl ⟨_, rfl, rfl⟩ rfl rfl ⟨.inl ⟨rfl, rfl⟩, trivial⟩ (by decide) Try.underlying83 rfl trivial, ?_⟩   -- func(impl.Case, impl.Case) bool
  refine ⟨TIok.mk1 (.nilFunc) _ (by kernel_rfl) rfl ⟨_, rfl, rfl⟩ rfl rfl ⟨.inl ⟨rfl, rfl⟩, trivial⟩ (by decide) Try.underlying84 rfl trivial, ?_⟩   -- func(laws.Proc, int) int
  refine ⟨TIok.mk1 (.slice none 0 0) _ (by kernel_rfl) rfl ⟨_, rfl, rfl⟩ rfl rfl ⟨.inr ⟨_, rfl, rfl⟩, trivial⟩ (by decide) Try.underlying85 rfl rfl, ?_⟩   -- []laws.Instr
  refine ⟨TIok.mk1 (.agg #[.slice none 0 0]) _ (by kernel_rfl) rfl rfl rfl rfl ⟨.inr ⟨_, rfl, rfl⟩, trivial⟩ (by decide) Try.underlying86 rfl ⟨_, rfl, rfl⟩, ?_⟩   -- struct  Code []laws.Instr 
  refine ⟨TIok.mk1 (.agg #[.slice none 0 0]) _ (by kernel_rfl) rfl rfl rfl rfl ⟨.inr ⟨_, rfl, rfl⟩, trivial⟩ (by decide) Try.underlying87 rfl ⟨_, rfl, rfl⟩, ?_⟩   -- laws.Proc
  refine ⟨TIok.mk1 (.nilFunc) _ (by kernel_rfl) rfl ⟨_, rfl, rfl⟩ rfl rfl ⟨.inl ⟨rfl, rfl⟩, trivial⟩ (by decide) Try.underlying88 rfl trivial, ?_⟩   -- func(impl.Prog, int, impl.Select) bool
  refine ⟨TIok.mk1 (.nilFunc) _ (by kernel_rfl) rfl ⟨_, rfl, rfl⟩ rfl rfl ⟨.inl ⟨rfl, rfl⟩, trivial⟩ (by decide) Try.underlying89 rfl trivial, ?_⟩   -- func(impl.Prog, []impl.Instr) bool
  refine ⟨TIok.mk1 (.nilFunc) _ (by kernel_rfl) rfl ⟨_, rfl, rfl⟩ rfl rfl ⟨.inl ⟨rfl, rfl⟩, trivial⟩ (by decide) Try.underlying90 rfl trivial, ?_⟩   -- func(string, []int) string
  refine ⟨TIok.mk1 (.nilFunc) _ (by kernel_rfl) rfl ⟨_, rfl, rfl⟩ rfl rfl ⟨.inl ⟨rfl, rfl⟩, trivial⟩ (by decide) Try.underlying91 rfl trivial, ?_⟩   -- func(laws.Proc) impl.Proc
  refine ⟨TIok.mk1 (.nilFunc) _ (by kernel_rfl) rfl ⟨_, rfl, rfl⟩ rfl rfl ⟨.inl ⟨rfl, rfl⟩, trivial⟩ (by decide) Try.underlying92 rfl trivial, ?_⟩   -- func(impl.Prog, int, impl.Instr) bool
  refine ⟨TIok.mk1 (.nilFunc) _ (by kernel_rfl) rfl ⟨_, rfl, rfl⟩ rfl rfl ⟨.inl ⟨rfl, rfl⟩, trivial⟩ (by decide) Try.underlying93 rfl trivial, ?_⟩   -- func(impl.Proc, impl.Proc) bool
  refine ⟨TIok.mk1 (.slice none 0 0) _ (by kernel_rfl) rfl ⟨_, rfl, rfl⟩ rfl rfl ⟨.inr ⟨_, rfl, rfl⟩, trivial⟩ (by decide) Try.underlying94 rfl rfl, ?_⟩   -- []uint8
  refine ⟨TIok.mk1 (.pointer none) _ (by kernel_rfl) rfl ⟨_, rfl, rfl⟩ rfl rfl ⟨.inl ⟨rfl, rfl⟩, trivial⟩ (by decide) Try.underlying95 rfl trivial, ?_⟩   -- *strings.Builder
  refine ⟨TIok.mk1 (.agg #[.pointer none, .slice none 0 0]) _ (by kernel_rfl) rfl rfl rfl rfl ⟨.inl ⟨rfl, rfl⟩, .inr ⟨_, rfl, rfl⟩, trivial⟩ (by decide) Try.underlying96 rfl ⟨_, rfl, rfl⟩, ?_⟩   -- struct  addr *strings.Builder; buf []ui
  refine ⟨TIok.mk1 (.agg #[.pointer none, .slice none 0 0]) _ (by kernel_rfl) rfl rfl rfl rfl ⟨.inl ⟨rfl, rfl⟩, .inr ⟨_, rfl, rfl⟩, trivial⟩ (by decide) Try.underlying97 rfl ⟨_, rfl, rfl⟩, ?_⟩   -- strings.Builder
  refine ⟨TIok.mk1 (.nilFunc) _ (by kernel_rfl) rfl ⟨_, rfl, rfl⟩ rfl rfl ⟨.inl ⟨rfl, rfl⟩, trivial⟩ (by decide) Try.underlying98 rfl trivial, ?_⟩   -- func(int)
  refine ⟨TIok.mk1 (.nilFunc) _ (by kernel_rfl) rfl ⟨_, rfl, rfl⟩ rfl rfl ⟨.inl ⟨rfl, rfl⟩, trivial⟩ (by decide) Try.underlying102 rfl trivial, ?_⟩   -- func(string) (int, error)
  refine ⟨TIok.mk1 (.nilFunc) _ (by kernel_rfl) rfl ⟨_, rfl, rfl⟩ rfl rfl ⟨.inl ⟨rfl, rfl⟩, trivial⟩ (by decide) Try.underlying103 rfl trivial, ?_⟩   -- func() string
  refine ⟨TIok.mk1 (.nilFunc) _ (by kernel_rfl) rfl ⟨_, rfl, rfl⟩ rfl rfl ⟨.inl ⟨rfl, rfl⟩, trivial⟩ (by decide) Try.underlying104 rfl trivial, ?_⟩   -- func([]laws.Instr, int) int
  refine ⟨TIok.mk1 (.nilFunc) _ (by kernel_rfl) rfl ⟨_, rfl, rfl⟩ rfl rfl ⟨.inl ⟨rfl, rfl⟩, trivial⟩ (by decide) Try.underlying105 rfl trivial, ?_⟩   -- func(impl.Prog, int) bool
  refine ⟨TIok.mk1 (.nilFunc) _ (by kernel_rfl) rfl ⟨_, rfl, rfl⟩ rfl rfl ⟨.inl ⟨rfl, rfl⟩, trivial⟩ (by decide) Try.underlying106 rfl trivial, ?_⟩   -- func([]laws.Instr) []impl.Instr
  refine ⟨TIok.mk1 (.nilFunc) _ (by kernel_rfl) rfl ⟨_, rfl, rfl⟩ rfl rfl ⟨.inl ⟨rfl, rfl⟩, trivial⟩ (by decide) Try.underlying107 rfl trivial, ?_⟩   -- func(int, int, int) bool
  refine ⟨TIok.mk1 (.nilFunc) _ (by kernel_rfl) rfl ⟨_, rfl, rfl⟩ rfl rfl ⟨.inl ⟨rfl, rfl⟩, trivial⟩ (by decide) Try.underlying108 rfl trivial, ?_⟩   -- func([]int, int) bool
  refine ⟨TIok.mk1 (.nilFunc) _ (by kernel_rfl) rfl ⟨_, rfl, rfl⟩ rfl rfl ⟨.inl ⟨rfl, rfl⟩, trivial⟩ (by decide) Try.underlying109 rfl trivial, ?_⟩   -- func([]impl.Instr, []impl.Instr) bool
  refine ⟨TIok.mk1 (.pointer none) _ (by kernel_rfl) rfl ⟨_, rfl, rfl⟩ rfl rfl ⟨.inl ⟨rfl, rfl⟩, trivial⟩ (by decide) Try.underlying110 rfl trivial, ?_⟩   -- *uint8
  refine ⟨TIok.mk1 (.nilFunc) _ (by kernel_rfl) rfl ⟨_, rfl, rfl⟩ rfl rfl ⟨.inl ⟨rfl, rfl⟩, trivial⟩ (by decide) Try.underlying111 rfl trivial, ?_⟩   -- func(impl.Instr, impl.Instr) bool
  refine ⟨TIok.mk1 (.nilFunc) _ (by kernel_rfl) rfl ⟨_, rfl, rfl⟩ rfl rfl ⟨.inl ⟨rfl, rfl⟩, trivial⟩ (by decide) Try.underlying113 rfl trivial, ?_⟩   -- func(unsafe.Pointer) unsafe.Pointer
  refine ⟨TIok.mk1 (.nilFunc) _ (by kernel_rfl) rfl ⟨_, rfl, rfl⟩ rfl rfl ⟨.inl ⟨rfl, rfl⟩, trivial⟩ (by decide) Try.underlying114 rfl trivial, ?_⟩   -- func(int) []uint8
  refine ⟨TIok.mk1 (.nilFunc) _ (by kernel_rfl) rfl ⟨_, rfl, rfl⟩ rfl rfl ⟨.inl ⟨rfl, rfl⟩, trivial⟩ (by decide) Try.underlying120 rfl trivial, ?_⟩   -- func() int
  refine ⟨TIok.mk1 (.int .u32 0) _ (by kernel_rfl) rfl ⟨_, rfl, rfl⟩ rfl rfl ⟨.inl ⟨rfl, rfl⟩, trivial⟩ (by decide) Try.underlying121 rfl rfl, ?_⟩   -- uint32
  refine ⟨TIok.mk1 (.nilFunc) _ (by kernel_rfl) rfl ⟨_, rfl, rfl⟩ rfl rfl ⟨.inl ⟨rfl, rfl⟩, trivial⟩ (by decide) Try.underlying124 rfl trivial, ?_⟩   -- func(unsafe.Pointer, unsafe.Pointer) boo
  exact trivial
def cx : Ctx := ⟨tt, Spec Try.prog, [], []⟩
theorem cx_ok : CtxOk Try.prog cx := ⟨tt_out tt_all, fun _ _ _ h => h⟩
theorem mixed : Try.prog.follows .mixedOrders = true := by kernel_rfl
/-- A function's contract, by its body. -/
theorem fn {f : Nat} {fn : Func} {args : List Ar} {ts : List T} (hf : Try.prog.funcs[f]? = some fn) (h : Fn cx fn args ts) (hn : (fn.name == "runtime.NumGoroutine") = false := by decide) : Spec Try.prog f args ts := spec_fn mixed cx_ok hf hn h
end Go.Proofs.Yteibafcohflbdaa.E
