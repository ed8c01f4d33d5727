/- The types of this seat's program, and what is true of them. Printed by wip/eng/ty.py. -/
import Derived.Test.YtcnmngbaappdpaaEFn
import Derived.Test.YtcnmngbaappdpaaProg
import Derived.KernelRfl
namespace Go.Proofs.Ytcnmngbaappdpaa.E
def tt : TT := [
  (1, ⟨1, false, 8, [.nilFunc], [.v (.nilFunc)], .other⟩),
  (2, ⟨1, false, 8, [.int .i64 0], [.v (.int .i64 0)], .int .i64⟩),
  (3, ⟨1, false, 8, [.int .i64 0], [.v (.int .i64 0)], .int .i64⟩),
  (4, ⟨1, false, 1, [.bool false], [.v (.bool false)], .bool⟩),
  (5, ⟨1, false, 1, [.int .u8 0], [.v (.int .u8 0)], .int .u8⟩),
  (9, ⟨1, false, 16, [.string ByteArray.empty], [.v (.string ByteArray.empty)], .str⟩),
  (12, ⟨1, false, 8, [.int .u64 0], [.v (.int .u64 0)], .int .u64⟩),
  (13, ⟨2, true, 24, [.string ByteArray.empty, .int .u64 0], [.v (.string ByteArray.empty), .v (.int .u64 0)], .st [(0, 9), (1, 12)]⟩),
  (21, ⟨1, false, 4, [.int .i32 0], [.v (.int .i32 0)], .int .i32⟩),
  (22, ⟨1, false, 24, [.slice none 0 0], [.sl 1 []], .sl 3⟩),
  (23, ⟨1, false, 24, [.slice none 0 0], [.sl 4 []], .sl 37⟩),
  (24, ⟨5, true, 72, [.int .i64 0, .int .i64 0, .slice none 0 0, .int .i64 0, .slice none 0 0], [.v (.int .i64 0), .v (.int .i64 0), .sl 1 [], .v (.int .i64 0), .sl 4 []], .st [(0, 3), (1, 3), (2, 22), (3, 3), (4, 23)]⟩),
  (25, ⟨5, true, 72, [.int .i64 0, .int .i64 0, .slice none 0 0, .int .i64 0, .slice none 0 0], [.v (.int .i64 0), .v (.int .i64 0), .sl 1 [], .v (.int .i64 0), .sl 4 []], .st [(0, 3), (1, 3), (2, 22), (3, 3), (4, 23)]⟩),
  (26, ⟨1, false, 8, [.nilFunc], [.v (.nilFunc)], .other⟩),
  (27, ⟨1, false, 8, [.nilFunc], [.v (.nilFunc)], .other⟩),
  (28, ⟨1, false, 24, [.slice none 0 0], [.sl 4 []], .sl 39⟩),
  (29, ⟨5, true, 72, [.int .i64 0, .int .i64 0, .slice none 0 0, .int .i64 0, .slice none 0 0], [.v (.int .i64 0), .v (.int .i64 0), .sl 1 [], .v (.int .i64 0), .sl 4 []], .st [(0, 3), (1, 3), (2, 22), (3, 3), (4, 28)]⟩),
  (30, ⟨5, true, 72, [.int .i64 0, .int .i64 0, .slice none 0 0, .int .i64 0, .slice none 0 0], [.v (.int .i64 0), .v (.int .i64 0), .sl 1 [], .v (.int .i64 0), .sl 4 []], .st [(0, 3), (1, 3), (2, 22), (3, 3), (4, 28)]⟩),
  (31, ⟨1, false, 8, [.nilFunc], [.v (.nilFunc)], .other⟩),
  (32, ⟨1, false, 8, [.nilFunc], [.v (.nilFunc)], .other⟩),
  (33, ⟨1, false, 8, [.nilFunc], [.v (.nilFunc)], .other⟩),
  (34, ⟨1, false, 8, [.nilFunc], [.v (.nilFunc)], .other⟩),
  (35, ⟨1, false, 8, [.nilFunc], [.v (.nilFunc)], .other⟩),
  (36, ⟨4, true, 32, [.int .i64 0, .int .i64 0, .int .i64 0, .bool false], [.v (.int .i64 0), .v (.int .i64 0), .v (.int .i64 0), .v (.bool false)], .st [(0, 3), (1, 3), (2, 3), (3, 4)]⟩),
  (37, ⟨4, true, 32, [.int .i64 0, .int .i64 0, .int .i64 0, .bool false], [.v (.int .i64 0), .v (.int .i64 0), .v (.int .i64 0), .v (.bool false)], .st [(0, 3), (1, 3), (2, 3), (3, 4)]⟩),
  (38, ⟨1, false, 8, [.nilFunc], [.v (.nilFunc)], .other⟩),
  (39, ⟨4, true, 32, [.int .i64 0, .int .i64 0, .int .i64 0, .bool false], [.v (.int .i64 0), .v (.int .i64 0), .v (.int .i64 0), .v (.bool false)], .st [(0, 3), (1, 3), (2, 3), (3, 4)]⟩),
  (40, ⟨1, false, 8, [.nilFunc], [.v (.nilFunc)], .other⟩),
  (41, ⟨1, false, 8, [.nilFunc], [.v (.nilFunc)], .other⟩),
  (42, ⟨1, false, 8, [.nilFunc], [.v (.nilFunc)], .other⟩),
  (43, ⟨1, false, 8, [.nilFunc], [.v (.nilFunc)], .other⟩),
  (44, ⟨1, false, 8, [.nilFunc], [.v (.nilFunc)], .other⟩),
  (45, ⟨1, false, 24, [.slice none 0 0], [.sl 5 []], .sl 25⟩),
  (46, ⟨1, false, 24, [.slice none 0 0], [.sl 5 []], .sl 111⟩),
  (47, ⟨1, false, 24, [.slice none 0 0], [.sl 2 []], .sl 114⟩),
  (48, ⟨3, true, 72, [.slice none 0 0, .slice none 0 0, .slice none 0 0], [.sl 5 [], .sl 5 [], .sl 2 []], .st [(0, 45), (1, 46), (2, 47)]⟩),
  (49, ⟨3, true, 72, [.slice none 0 0, .slice none 0 0, .slice none 0 0], [.sl 5 [], .sl 5 [], .sl 2 []], .st [(0, 45), (1, 46), (2, 47)]⟩),
  (50, ⟨1, false, 8, [.nilFunc], [.v (.nilFunc)], .other⟩),
  (51, ⟨1, false, 8, [.nilFunc], [.v (.nilFunc)], .other⟩),
  (52, ⟨1, false, 24, [.slice none 0 0], [.sl 5 []], .sl 30⟩),
  (53, ⟨1, false, 24, [.slice none 0 0], [.sl 5 []], .sl 66⟩),
  (54, ⟨1, false, 24, [.slice none 0 0], [.sl 2 []], .sl 116⟩),
  (55, ⟨3, true, 72, [.slice none 0 0, .slice none 0 0, .slice none 0 0], [.sl 5 [], .sl 5 [], .sl 2 []], .st [(0, 52), (1, 53), (2, 54)]⟩),
  (56, ⟨3, true, 72, [.slice none 0 0, .slice none 0 0, .slice none 0 0], [.sl 5 [], .sl 5 [], .sl 2 []], .st [(0, 52), (1, 53), (2, 54)]⟩),
  (57, ⟨1, false, 8, [.nilFunc], [.v (.nilFunc)], .other⟩),
  (58, ⟨1, false, 8, [.nilFunc], [.v (.nilFunc)], .other⟩),
  (59, ⟨1, false, 8, [.nilFunc], [.v (.nilFunc)], .other⟩),
  (60, ⟨1, false, 8, [.nilFunc], [.v (.nilFunc)], .other⟩),
  (61, ⟨1, false, 8, [.nilFunc], [.v (.nilFunc)], .other⟩),
  (62, ⟨1, false, 8, [.nilFunc], [.v (.nilFunc)], .other⟩),
  (63, ⟨1, false, 24, [.slice none 0 0], [.sl 1 []], .sl 5⟩),
  (64, ⟨1, false, 24, [.slice none 0 0], [.sl 3 []], .sl 69⟩),
  (65, ⟨5, true, 88, [.int .i64 0, .slice none 0 0, .slice none 0 0, .slice none 0 0, .bool false], [.v (.int .i64 0), .sl 1 [], .sl 3 [], .sl 3 [], .v (.bool false)], .st [(0, 3), (1, 22), (2, 64), (3, 64), (4, 4)]⟩),
  (66, ⟨5, true, 88, [.int .i64 0, .slice none 0 0, .slice none 0 0, .slice none 0 0, .bool false], [.v (.int .i64 0), .sl 1 [], .sl 3 [], .sl 3 [], .v (.bool false)], .st [(0, 3), (1, 22), (2, 64), (3, 64), (4, 4)]⟩),
  (67, ⟨1, false, 8, [.nilFunc], [.v (.nilFunc)], .other⟩),
  (68, ⟨3, true, 24, [.int .i64 0, .int .i64 0, .int .i64 0], [.v (.int .i64 0), .v (.int .i64 0), .v (.int .i64 0)], .st [(0, 3), (1, 3), (2, 3)]⟩),
  (69, ⟨3, true, 24, [.int .i64 0, .int .i64 0, .int .i64 0], [.v (.int .i64 0), .v (.int .i64 0), .v (.int .i64 0)], .st [(0, 3), (1, 3), (2, 3)]⟩),
  (71, ⟨1, false, 8, [.nilFunc], [.v (.nilFunc)], .other⟩),
  (72, ⟨1, false, 8, [.nilFunc], [.v (.nilFunc)], .other⟩),
  (74, ⟨1, false, 8, [.nilFunc], [.v (.nilFunc)], .other⟩),
  (76, ⟨1, false, 8, [.nilFunc], [.v (.nilFunc)], .other⟩),
  (77, ⟨1, false, 8, [.nilFunc], [.v (.nilFunc)], .other⟩),
  (78, ⟨1, false, 8, [.nilFunc], [.v (.nilFunc)], .other⟩),
  (79, ⟨1, false, 8, [.nilFunc], [.v (.nilFunc)], .other⟩),
  (80, ⟨1, false, 8, [.nilFunc], [.v (.nilFunc)], .other⟩),
  (81, ⟨1, false, 8, [.nilFunc], [.v (.nilFunc)], .other⟩),
  (82, ⟨1, false, 8, [.nilFunc], [.v (.nilFunc)], .other⟩),
  (83, ⟨1, false, 8, [.nilFunc], [.v (.nilFunc)], .other⟩),
  (84, ⟨1, false, 8, [.nilFunc], [.v (.nilFunc)], .other⟩),
  (85, ⟨1, false, 8, [.nilFunc], [.v (.nilFunc)], .other⟩),
  (86, ⟨1, false, 8, [.nilFunc], [.v (.nilFunc)], .other⟩),
  (87, ⟨1, false, 8, [.nilFunc], [.v (.nilFunc)], .other⟩),
  (88, ⟨1, false, 8, [.nilFunc], [.v (.nilFunc)], .other⟩),
  (89, ⟨1, false, 8, [.nilFunc], [.v (.nilFunc)], .other⟩),
  (90, ⟨1, false, 8, [.nilFunc], [.v (.nilFunc)], .other⟩),
  (91, ⟨1, false, 8, [.nilFunc], [.v (.nilFunc)], .other⟩),
  (92, ⟨1, false, 8, [.nilFunc], [.v (.nilFunc)], .other⟩),
  (93, ⟨1, false, 8, [.nilFunc], [.v (.nilFunc)], .other⟩),
  (94, ⟨1, false, 8, [.nilFunc], [.v (.nilFunc)], .other⟩),
  (95, ⟨1, false, 8, [.nilFunc], [.v (.nilFunc)], .other⟩),
  (96, ⟨1, false, 8, [.nilFunc], [.v (.nilFunc)], .other⟩),
  (97, ⟨1, false, 8, [.nilFunc], [.v (.nilFunc)], .other⟩),
  (98, ⟨1, false, 8, [.nilFunc], [.v (.nilFunc)], .other⟩),
  (99, ⟨1, false, 8, [.pointer none], [.v (.pointer none)], .ptr⟩),
  (100, ⟨1, false, 8, [.nilFunc], [.v (.nilFunc)], .other⟩),
  (101, ⟨1, false, 8, [.nilFunc], [.v (.nilFunc)], .other⟩),
  (102, ⟨1, false, 8, [.nilFunc], [.v (.nilFunc)], .other⟩),
  (103, ⟨1, false, 8, [.nilFunc], [.v (.nilFunc)], .other⟩),
  (104, ⟨1, false, 8, [.nilFunc], [.v (.nilFunc)], .other⟩),
  (105, ⟨1, false, 8, [.nilFunc], [.v (.nilFunc)], .other⟩),
  (106, ⟨1, false, 8, [.nilFunc], [.v (.nilFunc)], .other⟩),
  (107, ⟨1, false, 8, [.nilFunc], [.v (.nilFunc)], .other⟩),
  (108, ⟨1, false, 8, [.nilFunc], [.v (.nilFunc)], .other⟩),
  (109, ⟨1, false, 24, [.slice none 0 0], [.sl 3 []], .sl 132⟩),
  (110, ⟨5, true, 88, [.int .i64 0, .slice none 0 0, .slice none 0 0, .slice none 0 0, .bool false], [.v (.int .i64 0), .sl 1 [], .sl 3 [], .sl 3 [], .v (.bool false)], .st [(0, 3), (1, 22), (2, 109), (3, 109), (4, 4)]⟩),
  (111, ⟨5, true, 88, [.int .i64 0, .slice none 0 0, .slice none 0 0, .slice none 0 0, .bool false], [.v (.int .i64 0), .sl 1 [], .sl 3 [], .sl 3 [], .v (.bool false)], .st [(0, 3), (1, 22), (2, 109), (3, 109), (4, 4)]⟩),
  (112, ⟨1, false, 8, [.nilFunc], [.v (.nilFunc)], .other⟩),
  (113, ⟨2, true, 32, [.int .i64 0, .slice none 0 0], [.v (.int .i64 0), .sl 1 []], .st [(0, 3), (1, 22)]⟩),
  (114, ⟨2, true, 32, [.int .i64 0, .slice none 0 0], [.v (.int .i64 0), .sl 1 []], .st [(0, 3), (1, 22)]⟩),
  (115, ⟨1, false, 8, [.nilFunc], [.v (.nilFunc)], .other⟩),
  (116, ⟨2, true, 32, [.int .i64 0, .slice none 0 0], [.v (.int .i64 0), .sl 1 []], .st [(0, 3), (1, 22)]⟩),
  (117, ⟨1, false, 8, [.nilFunc], [.v (.nilFunc)], .other⟩),
  (118, ⟨1, false, 8, [.nilFunc], [.v (.nilFunc)], .other⟩),
  (119, ⟨1, false, 8, [.nilFunc], [.v (.nilFunc)], .other⟩),
  (120, ⟨1, false, 8, [.nilFunc], [.v (.nilFunc)], .other⟩),
  (121, ⟨3, true, 40, [.slice none 0 0, .int .i64 0, .int .i64 0], [.sl 1 [], .v (.int .i64 0), .v (.int .i64 0)], .st [(0, 63), (1, 3), (2, 3)]⟩),
  (122, ⟨3, true, 40, [.slice none 0 0, .int .i64 0, .int .i64 0], [.sl 1 [], .v (.int .i64 0), .v (.int .i64 0)], .st [(0, 63), (1, 3), (2, 3)]⟩),
  (123, ⟨1, false, 8, [.nilFunc], [.v (.nilFunc)], .other⟩),
  (124, ⟨1, false, 8, [.nilFunc], [.v (.nilFunc)], .other⟩),
  (125, ⟨1, false, 8, [.nilFunc], [.v (.nilFunc)], .other⟩),
  (126, ⟨1, false, 8, [.nilFunc], [.v (.nilFunc)], .other⟩),
  (127, ⟨1, false, 8, [.nilFunc], [.v (.nilFunc)], .other⟩),
  (128, ⟨1, false, 8, [.nilFunc], [.v (.nilFunc)], .other⟩),
  (129, ⟨1, false, 8, [.nilFunc], [.v (.nilFunc)], .other⟩),
  (130, ⟨1, false, 8, [.nilFunc], [.v (.nilFunc)], .other⟩),
  (131, ⟨1, false, 8, [.nilFunc], [.v (.nilFunc)], .other⟩),
  (132, ⟨3, true, 24, [.int .i64 0, .int .i64 0, .int .i64 0], [.v (.int .i64 0), .v (.int .i64 0), .v (.int .i64 0)], .st [(0, 3), (1, 3), (2, 3)]⟩),
  (133, ⟨1, false, 8, [.nilFunc], [.v (.nilFunc)], .other⟩),
  (134, ⟨1, false, 8, [.int .u64 0], [.v (.int .u64 0)], .int .u64⟩),
  (135, ⟨1, false, 8, [.nilFunc], [.v (.nilFunc)], .other⟩),
  (141, ⟨1, false, 8, [.nilFunc], [.v (.nilFunc)], .other⟩),
  (142, ⟨1, false, 4, [.int .u32 0], [.v (.int .u32 0)], .int .u32⟩),
  (145, ⟨1, false, 8, [.nilFunc], [.v (.nilFunc)], .other⟩),
  (146, ⟨1, false, 8, [.pointer none], [.v (.pointer none)], .ptr⟩)]
set_option maxRecDepth 100000 in
theorem tt_all : TTall Try.prog tt := by
  refine ⟨TIok.mk1 (.nilFunc) _ (by kernel_rfl) rfl ⟨_, rfl, rfl⟩ rfl rfl ⟨.inl ⟨rfl, rfl⟩, trivial⟩ (by decide) Try.underlying1 rfl trivial, ?_⟩   -- func()
  refine ⟨TIok.mk1 (.int .i64 0) _ (by kernel_rfl) rfl ⟨_, rfl, rfl⟩ rfl rfl ⟨.inl ⟨rfl, rfl⟩, trivial⟩ (by decide) Try.underlying2 rfl rfl, ?_⟩   -- int64
  refine ⟨TIok.mk1 (.int .i64 0) _ (by kernel_rfl) rfl ⟨_, rfl, rfl⟩ rfl rfl ⟨.inl ⟨rfl, rfl⟩, trivial⟩ (by decide) Try.underlying3 rfl rfl, ?_⟩   -- int
  refine ⟨TIok.mk1 (.bool false) _ (by kernel_rfl) rfl ⟨_, rfl, rfl⟩ rfl rfl ⟨.inl ⟨rfl, rfl⟩, trivial⟩ (by decide) Try.underlying4 rfl rfl, ?_⟩   -- bool
  refine ⟨TIok.mk1 (.int .u8 0) _ (by kernel_rfl) rfl ⟨_, rfl, rfl⟩ rfl rfl ⟨.inl ⟨rfl, rfl⟩, trivial⟩ (by decide) Try.underlying5 rfl rfl, ?_⟩   -- uint8
  refine ⟨TIok.mk1 (.string ByteArray.empty) _ (by kernel_rfl) rfl ⟨_, rfl, rfl⟩ rfl rfl ⟨.inl ⟨rfl, rfl⟩, trivial⟩ (by decide) Try.underlying9 rfl rfl, ?_⟩   -- string
  refine ⟨TIok.mk1 (.int .u64 0) _ (by kernel_rfl) rfl ⟨_, rfl, rfl⟩ rfl rfl ⟨.inl ⟨rfl, rfl⟩, trivial⟩ (by decide) Try.underlying12 rfl rfl, ?_⟩   -- uintptr
  refine ⟨TIok.mk1 (.agg #[.string ByteArray.empty, .int .u64 0]) _ (by kernel_rfl) rfl rfl rfl rfl ⟨.inl ⟨rfl, rfl⟩, .inl ⟨rfl, rfl⟩, trivial⟩ (by decide) Try.underlying13 rfl ⟨_, rfl, rfl⟩, ?_⟩   -- struct  msg string; addr uintptr 
  refine ⟨TIok.mk1 (.int .i32 0) _ (by kernel_rfl) rfl ⟨_, rfl, rfl⟩ rfl rfl ⟨.inl ⟨rfl, rfl⟩, trivial⟩ (by decide) Try.underlying21 rfl rfl, ?_⟩   -- int32
  refine ⟨TIok.mk1 (.slice none 0 0) _ (by kernel_rfl) rfl ⟨_, rfl, rfl⟩ rfl rfl ⟨.inr ⟨_, rfl, rfl⟩, trivial⟩ (by decide) Try.underlying22 rfl rfl, ?_⟩   -- []int
  refine ⟨TIok.mk1 (.slice none 0 0) _ (by kernel_rfl) rfl ⟨_, rfl, rfl⟩ rfl rfl ⟨.inr ⟨_, rfl, rfl⟩, trivial⟩ (by decide) Try.underlying23 rfl rfl, ?_⟩   -- []laws.Item
  refine ⟨TIok.mk1 (.agg #[.int .i64 0, .int .i64 0, .slice none 0 0, .int .i64 0, .slice none 0 0]) _ (by kernel_rfl) rfl rfl rfl rfl ⟨.inl ⟨rfl, rfl⟩, .inl ⟨rfl, rfl⟩, .inr ⟨_, rfl, rfl⟩, .inl ⟨rfl, rfl⟩, .inr ⟨_, rfl, rfl⟩, trivial⟩ (by decide) Try.underlying24 rfl ⟨_, rfl, rfl⟩, ?_⟩   -- struct  Proc int; Pc int; Regs []int; S
  refine ⟨TIok.mk1 (.agg #[.int .i64 0, .int .i64 0, .slice none 0 0, .int .i64 0, .slice none 0 0]) _ (by kernel_rfl) rfl rfl rfl rfl ⟨.inl ⟨rfl, rfl⟩, .inl ⟨rfl, rfl⟩, .inr ⟨_, rfl, rfl⟩, .inl ⟨rfl, rfl⟩, .inr ⟨_, rfl, rfl⟩, trivial⟩ (by decide) Try.underlying25 rfl ⟨_, rfl, rfl⟩, ?_⟩   -- laws.Gor
  refine ⟨TIok.mk1 (.nilFunc) _ (by kernel_rfl) rfl ⟨_, rfl, rfl⟩ rfl rfl ⟨.inl ⟨rfl, rfl⟩, trivial⟩ (by decide) Try.underlying26 rfl trivial, ?_⟩   -- func(laws.Gor, int) int
  refine ⟨TIok.mk1 (.nilFunc) _ (by kernel_rfl) rfl ⟨_, rfl, rfl⟩ rfl rfl ⟨.inl ⟨rfl, rfl⟩, trivial⟩ (by decide) Try.underlying27 rfl trivial, ?_⟩   -- func(impl.Gor, int) int
  refine ⟨TIok.mk1 (.slice none 0 0) _ (by kernel_rfl) rfl ⟨_, rfl, rfl⟩ rfl rfl ⟨.inr ⟨_, rfl, rfl⟩, trivial⟩ (by decide) Try.underlying28 rfl rfl, ?_⟩   -- []impl.Item
  refine ⟨TIok.mk1 (.agg #[.int .i64 0, .int .i64 0, .slice none 0 0, .int .i64 0, .slice none 0 0]) _ (by kernel_rfl) rfl rfl rfl rfl ⟨.inl ⟨rfl, rfl⟩, .inl ⟨rfl, rfl⟩, .inr ⟨_, rfl, rfl⟩, .inl ⟨rfl, rfl⟩, .inr ⟨_, rfl, rfl⟩, trivial⟩ (by decide) Try.underlying29 rfl ⟨_, rfl, rfl⟩, ?_⟩   -- struct  Proc int; Pc int; Regs []int; S
  refine ⟨TIok.mk1 (.agg #[.int .i64 0, .int .i64 0, .slice none 0 0, .int .i64 0, .slice none 0 0]) _ (by kernel_rfl) rfl rfl rfl rfl ⟨.inl ⟨rfl, rfl⟩, .inl ⟨rfl, rfl⟩, .inr ⟨_, rfl, rfl⟩, .inl ⟨rfl, rfl⟩, .inr ⟨_, rfl, rfl⟩, trivial⟩ (by decide) Try.underlying30 rfl ⟨_, rfl, rfl⟩, ?_⟩   -- impl.Gor
  refine ⟨TIok.mk1 (.nilFunc) _ (by kernel_rfl) rfl ⟨_, rfl, rfl⟩ rfl rfl ⟨.inl ⟨rfl, rfl⟩, trivial⟩ (by decide) Try.underlying31 rfl trivial, ?_⟩   -- func(laws.Gor) impl.Gor
  refine ⟨TIok.mk1 (.nilFunc) _ (by kernel_rfl) rfl ⟨_, rfl, rfl⟩ rfl rfl ⟨.inl ⟨rfl, rfl⟩, trivial⟩ (by decide) Try.underlying32 rfl trivial, ?_⟩   -- func(impl.Gor, impl.Gor) bool
  refine ⟨TIok.mk1 (.nilFunc) _ (by kernel_rfl) rfl ⟨_, rfl, rfl⟩ rfl rfl ⟨.inl ⟨rfl, rfl⟩, trivial⟩ (by decide) Try.underlying33 rfl trivial, ?_⟩   -- func(laws.Gor, int) bool
  refine ⟨TIok.mk1 (.nilFunc) _ (by kernel_rfl) rfl ⟨_, rfl, rfl⟩ rfl rfl ⟨.inl ⟨rfl, rfl⟩, trivial⟩ (by decide) Try.underlying34 rfl trivial, ?_⟩   -- func(int, int) impl.Gor
  refine ⟨TIok.mk1 (.nilFunc) _ (by kernel_rfl) rfl ⟨_, rfl, rfl⟩ rfl rfl ⟨.inl ⟨rfl, rfl⟩, trivial⟩ (by decide) Try.underlying35 rfl trivial, ?_⟩   -- func(int, int) bool
  refine ⟨TIok.mk1 (.agg #[.int .i64 0, .int .i64 0, .int .i64 0, .bool false]) _ (by kernel_rfl) rfl rfl rfl rfl ⟨.inl ⟨rfl, rfl⟩, .inl ⟨rfl, rfl⟩, .inl ⟨rfl, rfl⟩, .inl ⟨rfl, rfl⟩, trivial⟩ (by decide) Try.underlying36 rfl ⟨_, rfl, rfl⟩, ?_⟩   -- struct  Kind int; Obj int; Val int; Ok 
  refine ⟨TIok.mk1 (.agg #[.int .i64 0, .int .i64 0, .int .i64 0, .bool false]) _ (by kernel_rfl) rfl rfl rfl rfl ⟨.inl ⟨rfl, rfl⟩, .inl ⟨rfl, rfl⟩, .inl ⟨rfl, rfl⟩, .inl ⟨rfl, rfl⟩, trivial⟩ (by decide) Try.underlying37 rfl ⟨_, rfl, rfl⟩, ?_⟩   -- laws.Item
  refine ⟨TIok.mk1 (.nilFunc) _ (by kernel_rfl) rfl ⟨_, rfl, rfl⟩ rfl rfl ⟨.inl ⟨rfl, rfl⟩, trivial⟩ (by decide) Try.underlying38 rfl trivial, ?_⟩   -- func(impl.Gor, impl.Item) impl.Gor
  refine ⟨TIok.mk1 (.agg #[.int .i64 0, .int .i64 0, .int .i64 0, .bool false]) _ (by kernel_rfl) rfl rfl rfl rfl ⟨.inl ⟨rfl, rfl⟩, .inl ⟨rfl, rfl⟩, .inl ⟨rfl, rfl⟩, .inl ⟨rfl, rfl⟩, trivial⟩ (by decide) Try.underlying39 rfl ⟨_, rfl, rfl⟩, ?_⟩   -- impl.Item
  refine ⟨TIok.mk1 (.nilFunc) _ (by kernel_rfl) rfl ⟨_, rfl, rfl⟩ rfl rfl ⟨.inl ⟨rfl, rfl⟩, trivial⟩ (by decide) Try.underlying40 rfl trivial, ?_⟩   -- func(laws.Item) impl.Item
  refine ⟨TIok.mk1 (.nilFunc) _ (by kernel_rfl) rfl ⟨_, rfl, rfl⟩ rfl rfl ⟨.inl ⟨rfl, rfl⟩, trivial⟩ (by decide) Try.underlying41 rfl trivial, ?_⟩   -- func(laws.Gor, laws.Item) bool
  refine ⟨TIok.mk1 (.nilFunc) _ (by kernel_rfl) rfl ⟨_, rfl, rfl⟩ rfl rfl ⟨.inl ⟨rfl, rfl⟩, trivial⟩ (by decide) Try.underlying42 rfl trivial, ?_⟩   -- func(impl.Gor, int, int) impl.Gor
  refine ⟨TIok.mk1 (.nilFunc) _ (by kernel_rfl) rfl ⟨_, rfl, rfl⟩ rfl rfl ⟨.inl ⟨rfl, rfl⟩, trivial⟩ (by decide) Try.underlying43 rfl trivial, ?_⟩   -- func(laws.Gor, int, int) bool
  refine ⟨TIok.mk1 (.nilFunc) _ (by kernel_rfl) rfl ⟨_, rfl, rfl⟩ rfl rfl ⟨.inl ⟨rfl, rfl⟩, trivial⟩ (by decide) Try.underlying44 rfl trivial, ?_⟩   -- func(impl.Gor, int) impl.Gor
  refine ⟨TIok.mk1 (.slice none 0 0) _ (by kernel_rfl) rfl ⟨_, rfl, rfl⟩ rfl rfl ⟨.inr ⟨_, rfl, rfl⟩, trivial⟩ (by decide) Try.underlying45 rfl rfl, ?_⟩   -- []laws.Gor
  refine ⟨TIok.mk1 (.slice none 0 0) _ (by kernel_rfl) rfl ⟨_, rfl, rfl⟩ rfl rfl ⟨.inr ⟨_, rfl, rfl⟩, trivial⟩ (by decide) Try.underlying46 rfl rfl, ?_⟩   -- []laws.Chan
  refine ⟨TIok.mk1 (.slice none 0 0) _ (by kernel_rfl) rfl ⟨_, rfl, rfl⟩ rfl rfl ⟨.inr ⟨_, rfl, rfl⟩, trivial⟩ (by decide) Try.underlying47 rfl rfl, ?_⟩   -- []laws.Mutex
  refine ⟨TIok.mk1 (.agg #[.slice none 0 0, .slice none 0 0, .slice none 0 0]) _ (by kernel_rfl) rfl rfl rfl rfl ⟨.inr ⟨_, rfl, rfl⟩, .inr ⟨_, rfl, rfl⟩, .inr ⟨_, rfl, rfl⟩, trivial⟩ (by decide) Try.underlying48 rfl ⟨_, rfl, rfl⟩, ?_⟩   -- struct  Gs []laws.Gor; Chans []laws.Cha
  refine ⟨TIok.mk1 (.agg #[.slice none 0 0, .slice none 0 0, .slice none 0 0]) _ (by kernel_rfl) rfl rfl rfl rfl ⟨.inr ⟨_, rfl, rfl⟩, .inr ⟨_, rfl, rfl⟩, .inr ⟨_, rfl, rfl⟩, trivial⟩ (by decide) Try.underlying49 rfl ⟨_, rfl, rfl⟩, ?_⟩   -- laws.Eng
  refine ⟨TIok.mk1 (.nilFunc) _ (by kernel_rfl) rfl ⟨_, rfl, rfl⟩ rfl rfl ⟨.inl ⟨rfl, rfl⟩, trivial⟩ (by decide) Try.underlying50 rfl trivial, ?_⟩   -- func(laws.Eng, int) int
  refine ⟨TIok.mk1 (.nilFunc) _ (by kernel_rfl) rfl ⟨_, rfl, rfl⟩ rfl rfl ⟨.inl ⟨rfl, rfl⟩, trivial⟩ (by decide) Try.underlying51 rfl trivial, ?_⟩   -- func(impl.Eng) []int
  refine ⟨TIok.mk1 (.slice none 0 0) _ (by kernel_rfl) rfl ⟨_, rfl, rfl⟩ rfl rfl ⟨.inr ⟨_, rfl, rfl⟩, trivial⟩ (by decide) Try.underlying52 rfl rfl, ?_⟩   -- []impl.Gor
  refine ⟨TIok.mk1 (.slice none 0 0) _ (by kernel_rfl) rfl ⟨_, rfl, rfl⟩ rfl rfl ⟨.inr ⟨_, rfl, rfl⟩, trivial⟩ (by decide) Try.underlying53 rfl rfl, ?_⟩   -- []impl.Chan
  refine ⟨TIok.mk1 (.slice none 0 0) _ (by kernel_rfl) rfl ⟨_, rfl, rfl⟩ rfl rfl ⟨.inr ⟨_, rfl, rfl⟩, trivial⟩ (by decide) Try.underlying54 rfl rfl, ?_⟩   -- []impl.Mutex
  refine ⟨TIok.mk1 (.agg #[.slice none 0 0, .slice none 0 0, .slice none 0 0]) _ (by kernel_rfl) rfl rfl rfl rfl ⟨.inr ⟨_, rfl, rfl⟩, .inr ⟨_, rfl, rfl⟩, .inr ⟨_, rfl, rfl⟩, trivial⟩ (by decide) Try.underlying55 rfl ⟨_, rfl, rfl⟩, ?_⟩   -- struct  Gs []impl.Gor; Chans []impl.Cha
  refine ⟨TIok.mk1 (.agg #[.slice none 0 0, .slice none 0 0, .slice none 0 0]) _ (by kernel_rfl) rfl rfl rfl rfl ⟨.inr ⟨_, rfl, rfl⟩, .inr ⟨_, rfl, rfl⟩, .inr ⟨_, rfl, rfl⟩, trivial⟩ (by decide) Try.underlying56 rfl ⟨_, rfl, rfl⟩, ?_⟩   -- impl.Eng
  refine ⟨TIok.mk1 (.nilFunc) _ (by kernel_rfl) rfl ⟨_, rfl, rfl⟩ rfl rfl ⟨.inl ⟨rfl, rfl⟩, trivial⟩ (by decide) Try.underlying57 rfl trivial, ?_⟩   -- func(laws.Eng) impl.Eng
  refine ⟨TIok.mk1 (.nilFunc) _ (by kernel_rfl) rfl ⟨_, rfl, rfl⟩ rfl rfl ⟨.inl ⟨rfl, rfl⟩, trivial⟩ (by decide) Try.underlying58 rfl trivial, ?_⟩   -- func([]int, []int) bool
  refine ⟨TIok.mk1 (.nilFunc) _ (by kernel_rfl) rfl ⟨_, rfl, rfl⟩ rfl rfl ⟨.inl ⟨rfl, rfl⟩, trivial⟩ (by decide) Try.underlying59 rfl trivial, ?_⟩   -- func(impl.Eng, impl.Eng) bool
  refine ⟨TIok.mk1 (.nilFunc) _ (by kernel_rfl) rfl ⟨_, rfl, rfl⟩ rfl rfl ⟨.inl ⟨rfl, rfl⟩, trivial⟩ (by decide) Try.underlying60 rfl trivial, ?_⟩   -- func(impl.Eng, int) int
  refine ⟨TIok.mk1 (.nilFunc) _ (by kernel_rfl) rfl ⟨_, rfl, rfl⟩ rfl rfl ⟨.inl ⟨rfl, rfl⟩, trivial⟩ (by decide) Try.underlying61 rfl trivial, ?_⟩   -- func([]int, int) int
  refine ⟨TIok.mk1 (.nilFunc) _ (by kernel_rfl) rfl ⟨_, rfl, rfl⟩ rfl rfl ⟨.inl ⟨rfl, rfl⟩, trivial⟩ (by decide) Try.underlying62 rfl trivial, ?_⟩   -- func(laws.Eng) bool
  refine ⟨TIok.mk1 (.slice none 0 0) _ (by kernel_rfl) rfl ⟨_, rfl, rfl⟩ rfl rfl ⟨.inr ⟨_, rfl, rfl⟩, trivial⟩ (by decide) Try.underlying63 rfl rfl, ?_⟩   -- []uint8
  refine ⟨TIok.mk1 (.slice none 0 0) _ (by kernel_rfl) rfl ⟨_, rfl, rfl⟩ rfl rfl ⟨.inr ⟨_, rfl, rfl⟩, trivial⟩ (by decide) Try.underlying64 rfl rfl, ?_⟩   -- []impl.Waiter
  refine ⟨TIok.mk1 (.agg #[.int .i64 0, .slice none 0 0, .slice none 0 0, .slice none 0 0, .bool false]) _ (by kernel_rfl) rfl rfl rfl rfl ⟨.inl ⟨rfl, rfl⟩, .inr ⟨_, rfl, rfl⟩, .inr ⟨_, rfl, rfl⟩, .inr ⟨_, rfl, rfl⟩, .inl ⟨rfl, rfl⟩, trivial⟩ (by decide) Try.underlying65 rfl ⟨_, rfl, rfl⟩, ?_⟩   -- struct  Cap int; Buf []int; Sends []imp
  refine ⟨TIok.mk1 (.agg #[.int .i64 0, .slice none 0 0, .slice none 0 0, .slice none 0 0, .bool false]) _ (by kernel_rfl) rfl rfl rfl rfl ⟨.inl ⟨rfl, rfl⟩, .inr ⟨_, rfl, rfl⟩, .inr ⟨_, rfl, rfl⟩, .inr ⟨_, rfl, rfl⟩, .inl ⟨rfl, rfl⟩, trivial⟩ (by decide) Try.underlying66 rfl ⟨_, rfl, rfl⟩, ?_⟩   -- impl.Chan
  refine ⟨TIok.mk1 (.nilFunc) _ (by kernel_rfl) rfl ⟨_, rfl, rfl⟩ rfl rfl ⟨.inl ⟨rfl, rfl⟩, trivial⟩ (by decide) Try.underlying67 rfl trivial, ?_⟩   -- func([]uint8) impl.Chan
  refine ⟨TIok.mk1 (.agg #[.int .i64 0, .int .i64 0, .int .i64 0]) _ (by kernel_rfl) rfl rfl rfl rfl ⟨.inl ⟨rfl, rfl⟩, .inl ⟨rfl, rfl⟩, .inl ⟨rfl, rfl⟩, trivial⟩ (by decide) Try.underlying68 rfl ⟨_, rfl, rfl⟩, ?_⟩   -- struct  G int; Case int; Val int 
  refine ⟨TIok.mk1 (.agg #[.int .i64 0, .int .i64 0, .int .i64 0]) _ (by kernel_rfl) rfl rfl rfl rfl ⟨.inl ⟨rfl, rfl⟩, .inl ⟨rfl, rfl⟩, .inl ⟨rfl, rfl⟩, trivial⟩ (by decide) Try.underlying69 rfl ⟨_, rfl, rfl⟩, ?_⟩   -- impl.Waiter
  refine ⟨TIok.mk1 (.nilFunc) _ (by kernel_rfl) rfl ⟨_, rfl, rfl⟩ rfl rfl ⟨.inl ⟨rfl, rfl⟩, trivial⟩ (by decide) Try.underlying71 rfl trivial, ?_⟩   -- func(impl.Chan, int) (impl.Chan, impl.Wa
  refine ⟨TIok.mk1 (.nilFunc) _ (by kernel_rfl) rfl ⟨_, rfl, rfl⟩ rfl rfl ⟨.inl ⟨rfl, rfl⟩, trivial⟩ (by decide) Try.underlying72 rfl trivial, ?_⟩   -- func(impl.Chan) bool
  refine ⟨TIok.mk1 (.nilFunc) _ (by kernel_rfl) rfl ⟨_, rfl, rfl⟩ rfl rfl ⟨.inl ⟨rfl, rfl⟩, trivial⟩ (by decide) Try.underlying74 rfl trivial, ?_⟩   -- func(impl.Chan) (impl.Chan, int, bool, i
  refine ⟨TIok.mk1 (.nilFunc) _ (by kernel_rfl) rfl ⟨_, rfl, rfl⟩ rfl rfl ⟨.inl ⟨rfl, rfl⟩, trivial⟩ (by decide) Try.underlying76 rfl trivial, ?_⟩   -- func(impl.Chan) (impl.Chan, []impl.Waite
  refine ⟨TIok.mk1 (.nilFunc) _ (by kernel_rfl) rfl ⟨_, rfl, rfl⟩ rfl rfl ⟨.inl ⟨rfl, rfl⟩, trivial⟩ (by decide) Try.underlying77 rfl trivial, ?_⟩   -- func([]uint8) bool
  refine ⟨TIok.mk1 (.nilFunc) _ (by kernel_rfl) rfl ⟨_, rfl, rfl⟩ rfl rfl ⟨.inl ⟨rfl, rfl⟩, trivial⟩ (by decide) Try.underlying78 rfl trivial, ?_⟩   -- func([]laws.Item, int) int
  refine ⟨TIok.mk1 (.nilFunc) _ (by kernel_rfl) rfl ⟨_, rfl, rfl⟩ rfl rfl ⟨.inl ⟨rfl, rfl⟩, trivial⟩ (by decide) Try.underlying79 rfl trivial, ?_⟩   -- func([]int) []int
  refine ⟨TIok.mk1 (.nilFunc) _ (by kernel_rfl) rfl ⟨_, rfl, rfl⟩ rfl rfl ⟨.inl ⟨rfl, rfl⟩, trivial⟩ (by decide) Try.underlying80 rfl trivial, ?_⟩   -- func([]laws.Item) []impl.Item
  refine ⟨TIok.mk1 (.nilFunc) _ (by kernel_rfl) rfl ⟨_, rfl, rfl⟩ rfl rfl ⟨.inl ⟨rfl, rfl⟩, trivial⟩ (by decide) Try.underlying81 rfl trivial, ?_⟩   -- func(int, int, int) bool
  refine ⟨TIok.mk1 (.nilFunc) _ (by kernel_rfl) rfl ⟨_, rfl, rfl⟩ rfl rfl ⟨.inl ⟨rfl, rfl⟩, trivial⟩ (by decide) Try.underlying82 rfl trivial, ?_⟩   -- func([]impl.Item, []impl.Item) bool
  refine ⟨TIok.mk1 (.nilFunc) _ (by kernel_rfl) rfl ⟨_, rfl, rfl⟩ rfl rfl ⟨.inl ⟨rfl, rfl⟩, trivial⟩ (by decide) Try.underlying83 rfl trivial, ?_⟩   -- func(int) bool
  refine ⟨TIok.mk1 (.nilFunc) _ (by kernel_rfl) rfl ⟨_, rfl, rfl⟩ rfl rfl ⟨.inl ⟨rfl, rfl⟩, trivial⟩ (by decide) Try.underlying84 rfl trivial, ?_⟩   -- func([]impl.Item, int) int
  refine ⟨TIok.mk1 (.nilFunc) _ (by kernel_rfl) rfl ⟨_, rfl, rfl⟩ rfl rfl ⟨.inl ⟨rfl, rfl⟩, trivial⟩ (by decide) Try.underlying85 rfl trivial, ?_⟩   -- func(impl.Gor) impl.Gor
  refine ⟨TIok.mk1 (.nilFunc) _ (by kernel_rfl) rfl ⟨_, rfl, rfl⟩ rfl rfl ⟨.inl ⟨rfl, rfl⟩, trivial⟩ (by decide) Try.underlying86 rfl trivial, ?_⟩   -- func([]laws.Gor, int) int
  refine ⟨TIok.mk1 (.nilFunc) _ (by kernel_rfl) rfl ⟨_, rfl, rfl⟩ rfl rfl ⟨.inl ⟨rfl, rfl⟩, trivial⟩ (by decide) Try.underlying87 rfl trivial, ?_⟩   -- func([]laws.Chan, int) int
  refine ⟨TIok.mk1 (.nilFunc) _ (by kernel_rfl) rfl ⟨_, rfl, rfl⟩ rfl rfl ⟨.inl ⟨rfl, rfl⟩, trivial⟩ (by decide) Try.underlying88 rfl trivial, ?_⟩   -- func([]laws.Mutex, int) int
  refine ⟨TIok.mk1 (.nilFunc) _ (by kernel_rfl) rfl ⟨_, rfl, rfl⟩ rfl rfl ⟨.inl ⟨rfl, rfl⟩, trivial⟩ (by decide) Try.underlying89 rfl trivial, ?_⟩   -- func(impl.Eng, int) []int
  refine ⟨TIok.mk1 (.nilFunc) _ (by kernel_rfl) rfl ⟨_, rfl, rfl⟩ rfl rfl ⟨.inl ⟨rfl, rfl⟩, trivial⟩ (by decide) Try.underlying90 rfl trivial, ?_⟩   -- func([]laws.Gor) []impl.Gor
  refine ⟨TIok.mk1 (.nilFunc) _ (by kernel_rfl) rfl ⟨_, rfl, rfl⟩ rfl rfl ⟨.inl ⟨rfl, rfl⟩, trivial⟩ (by decide) Try.underlying91 rfl trivial, ?_⟩   -- func([]laws.Chan) []impl.Chan
  refine ⟨TIok.mk1 (.nilFunc) _ (by kernel_rfl) rfl ⟨_, rfl, rfl⟩ rfl rfl ⟨.inl ⟨rfl, rfl⟩, trivial⟩ (by decide) Try.underlying92 rfl trivial, ?_⟩   -- func([]laws.Mutex) []impl.Mutex
  refine ⟨TIok.mk1 (.nilFunc) _ (by kernel_rfl) rfl ⟨_, rfl, rfl⟩ rfl rfl ⟨.inl ⟨rfl, rfl⟩, trivial⟩ (by decide) Try.underlying93 rfl trivial, ?_⟩   -- func([]impl.Gor, []impl.Gor) bool
  refine ⟨TIok.mk1 (.nilFunc) _ (by kernel_rfl) rfl ⟨_, rfl, rfl⟩ rfl rfl ⟨.inl ⟨rfl, rfl⟩, trivial⟩ (by decide) Try.underlying94 rfl trivial, ?_⟩   -- func([]impl.Chan, []impl.Chan) bool
  refine ⟨TIok.mk1 (.nilFunc) _ (by kernel_rfl) rfl ⟨_, rfl, rfl⟩ rfl rfl ⟨.inl ⟨rfl, rfl⟩, trivial⟩ (by decide) Try.underlying95 rfl trivial, ?_⟩   -- func([]impl.Mutex, []impl.Mutex) bool
  refine ⟨TIok.mk1 (.nilFunc) _ (by kernel_rfl) rfl ⟨_, rfl, rfl⟩ rfl rfl ⟨.inl ⟨rfl, rfl⟩, trivial⟩ (by decide) Try.underlying96 rfl trivial, ?_⟩   -- func([]impl.Gor, int) int
  refine ⟨TIok.mk1 (.nilFunc) _ (by kernel_rfl) rfl ⟨_, rfl, rfl⟩ rfl rfl ⟨.inl ⟨rfl, rfl⟩, trivial⟩ (by decide) Try.underlying97 rfl trivial, ?_⟩   -- func([]impl.Chan, int) int
  refine ⟨TIok.mk1 (.nilFunc) _ (by kernel_rfl) rfl ⟨_, rfl, rfl⟩ rfl rfl ⟨.inl ⟨rfl, rfl⟩, trivial⟩ (by decide) Try.underlying98 rfl trivial, ?_⟩   -- func([]impl.Mutex, int) int
  refine ⟨TIok.mk1 (.pointer none) _ (by kernel_rfl) rfl ⟨_, rfl, rfl⟩ rfl rfl ⟨.inl ⟨rfl, rfl⟩, trivial⟩ (by decide) Try.underlying99 rfl trivial, ?_⟩   -- *spec.l01Cur
  refine ⟨TIok.mk1 (.nilFunc) _ (by kernel_rfl) rfl ⟨_, rfl, rfl⟩ rfl rfl ⟨.inl ⟨rfl, rfl⟩, trivial⟩ (by decide) Try.underlying100 rfl trivial, ?_⟩   -- func([]uint8) *spec.l01Cur
  refine ⟨TIok.mk1 (.nilFunc) _ (by kernel_rfl) rfl ⟨_, rfl, rfl⟩ rfl rfl ⟨.inl ⟨rfl, rfl⟩, trivial⟩ (by decide) Try.underlying101 rfl trivial, ?_⟩   -- func(*spec.l01Cur) impl.Chan
  refine ⟨TIok.mk1 (.nilFunc) _ (by kernel_rfl) rfl ⟨_, rfl, rfl⟩ rfl rfl ⟨.inl ⟨rfl, rfl⟩, trivial⟩ (by decide) Try.underlying102 rfl trivial, ?_⟩   -- func(impl.Chan) impl.Chan
  refine ⟨TIok.mk1 (.nilFunc) _ (by kernel_rfl) rfl ⟨_, rfl, rfl⟩ rfl rfl ⟨.inl ⟨rfl, rfl⟩, trivial⟩ (by decide) Try.underlying103 rfl trivial, ?_⟩   -- func() impl.Waiter
  refine ⟨TIok.mk1 (.nilFunc) _ (by kernel_rfl) rfl ⟨_, rfl, rfl⟩ rfl rfl ⟨.inl ⟨rfl, rfl⟩, trivial⟩ (by decide) Try.underlying104 rfl trivial, ?_⟩   -- func([]int, func(int) bool) bool
  refine ⟨TIok.mk1 (.nilFunc) _ (by kernel_rfl) rfl ⟨_, rfl, rfl⟩ rfl rfl ⟨.inl ⟨rfl, rfl⟩, trivial⟩ (by decide) Try.underlying105 rfl trivial, ?_⟩   -- func(impl.Waiter) bool
  refine ⟨TIok.mk1 (.nilFunc) _ (by kernel_rfl) rfl ⟨_, rfl, rfl⟩ rfl rfl ⟨.inl ⟨rfl, rfl⟩, trivial⟩ (by decide) Try.underlying106 rfl trivial, ?_⟩   -- func(impl.Item, impl.Item) bool
  refine ⟨TIok.mk1 (.nilFunc) _ (by kernel_rfl) rfl ⟨_, rfl, rfl⟩ rfl rfl ⟨.inl ⟨rfl, rfl⟩, trivial⟩ (by decide) Try.underlying107 rfl trivial, ?_⟩   -- func([]impl.Item) []impl.Item
  refine ⟨TIok.mk1 (.nilFunc) _ (by kernel_rfl) rfl ⟨_, rfl, rfl⟩ rfl rfl ⟨.inl ⟨rfl, rfl⟩, trivial⟩ (by decide) Try.underlying108 rfl trivial, ?_⟩   -- func(laws.Chan, int) int
  refine ⟨TIok.mk1 (.slice none 0 0) _ (by kernel_rfl) rfl ⟨_, rfl, rfl⟩ rfl rfl ⟨.inr ⟨_, rfl, rfl⟩, trivial⟩ (by decide) Try.underlying109 rfl rfl, ?_⟩   -- []laws.Waiter
  refine ⟨TIok.mk1 (.agg #[.int .i64 0, .slice none 0 0, .slice none 0 0, .slice none 0 0, .bool false]) _ (by kernel_rfl) rfl rfl rfl rfl ⟨.inl ⟨rfl, rfl⟩, .inr ⟨_, rfl, rfl⟩, .inr ⟨_, rfl, rfl⟩, .inr ⟨_, rfl, rfl⟩, .inl ⟨rfl, rfl⟩, trivial⟩ (by decide) Try.underlying110 rfl ⟨_, rfl, rfl⟩, ?_⟩   -- struct  Cap int; Buf []int; Sends []law
  refine ⟨TIok.mk1 (.agg #[.int .i64 0, .slice none 0 0, .slice none 0 0, .slice none 0 0, .bool false]) _ (by kernel_rfl) rfl rfl rfl rfl ⟨.inl ⟨rfl, rfl⟩, .inr ⟨_, rfl, rfl⟩, .inr ⟨_, rfl, rfl⟩, .inr ⟨_, rfl, rfl⟩, .inl ⟨rfl, rfl⟩, trivial⟩ (by decide) Try.underlying111 rfl ⟨_, rfl, rfl⟩, ?_⟩   -- laws.Chan
  refine ⟨TIok.mk1 (.nilFunc) _ (by kernel_rfl) rfl ⟨_, rfl, rfl⟩ rfl rfl ⟨.inl ⟨rfl, rfl⟩, trivial⟩ (by decide) Try.underlying112 rfl trivial, ?_⟩   -- func(laws.Mutex, int) int
  refine ⟨TIok.mk1 (.agg #[.int .i64 0, .slice none 0 0]) _ (by kernel_rfl) rfl rfl rfl rfl ⟨.inl ⟨rfl, rfl⟩, .inr ⟨_, rfl, rfl⟩, trivial⟩ (by decide) Try.underlying113 rfl ⟨_, rfl, rfl⟩, ?_⟩   -- struct  Owner int; Wait []int 
  refine ⟨TIok.mk1 (.agg #[.int .i64 0, .slice none 0 0]) _ (by kernel_rfl) rfl rfl rfl rfl ⟨.inl ⟨rfl, rfl⟩, .inr ⟨_, rfl, rfl⟩, trivial⟩ (by decide) Try.underlying114 rfl ⟨_, rfl, rfl⟩, ?_⟩   -- laws.Mutex
  refine ⟨TIok.mk1 (.nilFunc) _ (by kernel_rfl) rfl ⟨_, rfl, rfl⟩ rfl rfl ⟨.inl ⟨rfl, rfl⟩, trivial⟩ (by decide) Try.underlying115 rfl trivial, ?_⟩   -- func(laws.Chan) impl.Chan
  refine ⟨TIok.mk1 (.agg #[.int .i64 0, .slice none 0 0]) _ (by kernel_rfl) rfl rfl rfl rfl ⟨.inl ⟨rfl, rfl⟩, .inr ⟨_, rfl, rfl⟩, trivial⟩ (by decide) Try.underlying116 rfl ⟨_, rfl, rfl⟩, ?_⟩   -- impl.Mutex
  refine ⟨TIok.mk1 (.nilFunc) _ (by kernel_rfl) rfl ⟨_, rfl, rfl⟩ rfl rfl ⟨.inl ⟨rfl, rfl⟩, trivial⟩ (by decide) Try.underlying117 rfl trivial, ?_⟩   -- func(laws.Mutex) impl.Mutex
  refine ⟨TIok.mk1 (.nilFunc) _ (by kernel_rfl) rfl ⟨_, rfl, rfl⟩ rfl rfl ⟨.inl ⟨rfl, rfl⟩, trivial⟩ (by decide) Try.underlying118 rfl trivial, ?_⟩   -- func(impl.Chan, impl.Chan) bool
  refine ⟨TIok.mk1 (.nilFunc) _ (by kernel_rfl) rfl ⟨_, rfl, rfl⟩ rfl rfl ⟨.inl ⟨rfl, rfl⟩, trivial⟩ (by decide) Try.underlying119 rfl trivial, ?_⟩   -- func(impl.Mutex, impl.Mutex) bool
  refine ⟨TIok.mk1 (.nilFunc) _ (by kernel_rfl) rfl ⟨_, rfl, rfl⟩ rfl rfl ⟨.inl ⟨rfl, rfl⟩, trivial⟩ (by decide) Try.underlying120 rfl trivial, ?_⟩   -- func([]impl.Waiter, int) int
  refine ⟨TIok.mk1 (.agg #[.slice none 0 0, .int .i64 0, .int .i64 0]) _ (by kernel_rfl) rfl rfl rfl rfl ⟨.inr ⟨_, rfl, rfl⟩, .inl ⟨rfl, rfl⟩, .inl ⟨rfl, rfl⟩, trivial⟩ (by decide) Try.underlying121 rfl ⟨_, rfl, rfl⟩, ?_⟩   -- struct  b []uint8; i int; h int 
  refine ⟨TIok.mk1 (.agg #[.slice none 0 0, .int .i64 0, .int .i64 0]) _ (by kernel_rfl) rfl rfl rfl rfl ⟨.inr ⟨_, rfl, rfl⟩, .inl ⟨rfl, rfl⟩, .inl ⟨rfl, rfl⟩, trivial⟩ (by decide) Try.underlying122 rfl ⟨_, rfl, rfl⟩, ?_⟩   -- spec.l01Cur
  refine ⟨TIok.mk1 (.nilFunc) _ (by kernel_rfl) rfl ⟨_, rfl, rfl⟩ rfl rfl ⟨.inl ⟨rfl, rfl⟩, trivial⟩ (by decide) Try.underlying123 rfl trivial, ?_⟩   -- func(*spec.l01Cur, int) int
  refine ⟨TIok.mk1 (.nilFunc) _ (by kernel_rfl) rfl ⟨_, rfl, rfl⟩ rfl rfl ⟨.inl ⟨rfl, rfl⟩, trivial⟩ (by decide) Try.underlying124 rfl trivial, ?_⟩   -- func([]impl.Waiter) []impl.Waiter
  refine ⟨TIok.mk1 (.nilFunc) _ (by kernel_rfl) rfl ⟨_, rfl, rfl⟩ rfl rfl ⟨.inl ⟨rfl, rfl⟩, trivial⟩ (by decide) Try.underlying125 rfl trivial, ?_⟩   -- func([]impl.Waiter, bool) bool
  refine ⟨TIok.mk1 (.nilFunc) _ (by kernel_rfl) rfl ⟨_, rfl, rfl⟩ rfl rfl ⟨.inl ⟨rfl, rfl⟩, trivial⟩ (by decide) Try.underlying126 rfl trivial, ?_⟩   -- func([]int, func(int) bool) int
  refine ⟨TIok.mk1 (.nilFunc) _ (by kernel_rfl) rfl ⟨_, rfl, rfl⟩ rfl rfl ⟨.inl ⟨rfl, rfl⟩, trivial⟩ (by decide) Try.underlying127 rfl trivial, ?_⟩   -- func([]laws.Waiter, int) int
  refine ⟨TIok.mk1 (.nilFunc) _ (by kernel_rfl) rfl ⟨_, rfl, rfl⟩ rfl rfl ⟨.inl ⟨rfl, rfl⟩, trivial⟩ (by decide) Try.underlying128 rfl trivial, ?_⟩   -- func([]laws.Waiter) []impl.Waiter
  refine ⟨TIok.mk1 (.nilFunc) _ (by kernel_rfl) rfl ⟨_, rfl, rfl⟩ rfl rfl ⟨.inl ⟨rfl, rfl⟩, trivial⟩ (by decide) Try.underlying129 rfl trivial, ?_⟩   -- func([]impl.Waiter, []impl.Waiter) bool
  refine ⟨TIok.mk1 (.nilFunc) _ (by kernel_rfl) rfl ⟨_, rfl, rfl⟩ rfl rfl ⟨.inl ⟨rfl, rfl⟩, trivial⟩ (by decide) Try.underlying130 rfl trivial, ?_⟩   -- func(*spec.l01Cur) int
  refine ⟨TIok.mk1 (.nilFunc) _ (by kernel_rfl) rfl ⟨_, rfl, rfl⟩ rfl rfl ⟨.inl ⟨rfl, rfl⟩, trivial⟩ (by decide) Try.underlying131 rfl trivial, ?_⟩   -- func(laws.Waiter) impl.Waiter
  refine ⟨TIok.mk1 (.agg #[.int .i64 0, .int .i64 0, .int .i64 0]) _ (by kernel_rfl) rfl rfl rfl rfl ⟨.inl ⟨rfl, rfl⟩, .inl ⟨rfl, rfl⟩, .inl ⟨rfl, rfl⟩, trivial⟩ (by decide) Try.underlying132 rfl ⟨_, rfl, rfl⟩, ?_⟩   -- laws.Waiter
  refine ⟨TIok.mk1 (.nilFunc) _ (by kernel_rfl) rfl ⟨_, rfl, rfl⟩ rfl rfl ⟨.inl ⟨rfl, rfl⟩, trivial⟩ (by decide) Try.underlying133 rfl trivial, ?_⟩   -- func(impl.Waiter, impl.Waiter) bool
  refine ⟨TIok.mk1 (.int .u64 0) _ (by kernel_rfl) rfl ⟨_, rfl, rfl⟩ rfl rfl ⟨.inl ⟨rfl, rfl⟩, trivial⟩ (by decide) Try.underlying134 rfl rfl, ?_⟩   -- uint
  refine ⟨TIok.mk1 (.nilFunc) _ (by kernel_rfl) rfl ⟨_, rfl, rfl⟩ rfl rfl ⟨.inl ⟨rfl, rfl⟩, trivial⟩ (by decide) Try.underlying135 rfl trivial, ?_⟩   -- func() string
  refine ⟨TIok.mk1 (.nilFunc) _ (by kernel_rfl) rfl ⟨_, rfl, rfl⟩ rfl rfl ⟨.inl ⟨rfl, rfl⟩, trivial⟩ (by decide) Try.underlying141 rfl trivial, ?_⟩   -- func() int
  refine ⟨TIok.mk1 (.int .u32 0) _ (by kernel_rfl) rfl ⟨_, rfl, rfl⟩ rfl rfl ⟨.inl ⟨rfl, rfl⟩, trivial⟩ (by decide) Try.underlying142 rfl rfl, ?_⟩   -- uint32
  refine ⟨TIok.mk1 (.nilFunc) _ (by kernel_rfl) rfl ⟨_, rfl, rfl⟩ rfl rfl ⟨.inl ⟨rfl, rfl⟩, trivial⟩ (by decide) Try.underlying145 rfl trivial, ?_⟩   -- func(unsafe.Pointer, unsafe.Pointer) boo
  refine ⟨TIok.mk1 (.pointer none) _ (by kernel_rfl) rfl ⟨_, rfl, rfl⟩ rfl rfl ⟨.inl ⟨rfl, rfl⟩, trivial⟩ (by decide) Try.underlying146 rfl trivial, ?_⟩   -- *uint8
  exact trivial
def cx : Ctx := ⟨tt, Spec Try.prog, [18, 33, 34, 55, 70, 71, 72, 92]⟩
theorem cx_ok : CtxOk Try.prog cx := ⟨tt_out tt_all, fun _ _ _ h => h⟩
theorem mixed : Try.prog.follows .mixedOrders = true := by kernel_rfl
/-- A function's contract, by its body. -/
theorem fn {f : Nat} {fn : Func} {args : List Ar} {ts : List T} (hf : Try.prog.funcs[f]? = some fn) (h : Fn cx fn args ts) (hn : (fn.name == "runtime.NumGoroutine") = false := by decide) : Spec Try.prog f args ts := spec_fn mixed cx_ok hf hn h
end Go.Proofs.Ytcnmngbaappdpaa.E
