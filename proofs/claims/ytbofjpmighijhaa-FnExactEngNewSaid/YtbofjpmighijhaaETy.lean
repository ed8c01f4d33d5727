/- The types of this seat's program, and what is true of them. Printed by wip/eng/ty.py. -/
import Derived.Test.YtbofjpmighijhaaEFn
import Derived.Test.YtbofjpmighijhaaProg
import Derived.KernelRfl
namespace Go.Proofs.Ytbofjpmighijhaa.E
def tt : TT := [
  (1, ⟨1, false, 8, [.nilFunc], [.v (.nilFunc)], .other⟩),
  (2, ⟨1, false, 8, [.int .i64 0], [.v (.int .i64 0)], .int .i64⟩),
  (3, ⟨1, false, 8, [.int .i64 0], [.v (.int .i64 0)], .int .i64⟩),
  (4, ⟨1, false, 1, [.bool false], [.v (.bool false)], .bool⟩),
  (5, ⟨1, false, 1, [.int .u8 0], [.v (.int .u8 0)], .int .u8⟩),
  (9, ⟨1, false, 16, [.string ByteArray.empty], [.v (.string ByteArray.empty)], .str⟩),
  (12, ⟨1, false, 8, [.int .u64 0], [.v (.int .u64 0)], .int .u64⟩),
  (13, ⟨2, true, 24, [.string ByteArray.empty, .int .u64 0], [.v (.string ByteArray.empty), .v (.int .u64 0)], .st [(0, 9), (1, 12)]⟩),
  (21, ⟨1, false, 4, [.int .i32 0], [.v (.int .i32 0)], .int .i32⟩),
  (22, ⟨1, false, 24, [.slice none 0 0], [.sl 1 []], .sl 3⟩),
  (23, ⟨1, false, 24, [.slice none 0 0], [.sl 2 []], .sl 114⟩),
  (24, ⟨1, false, 24, [.slice none 0 0], [.sl 1 []], .sl 118⟩),
  (25, ⟨4, true, 80, [.slice none 0 0, .int .i64 0, .slice none 0 0, .slice none 0 0], [.sl 1 [], .v (.int .i64 0), .sl 2 [], .sl 1 []], .st [(0, 22), (1, 3), (2, 23), (3, 24)]⟩),
  (26, ⟨4, true, 80, [.slice none 0 0, .int .i64 0, .slice none 0 0, .slice none 0 0], [.sl 1 [], .v (.int .i64 0), .sl 2 [], .sl 1 []], .st [(0, 22), (1, 3), (2, 23), (3, 24)]⟩),
  (27, ⟨1, false, 8, [.nilFunc], [.v (.nilFunc)], .other⟩),
  (28, ⟨1, false, 8, [.nilFunc], [.v (.nilFunc)], .other⟩),
  (29, ⟨1, false, 24, [.slice none 0 0], [.sl 2 []], .sl 74⟩),
  (30, ⟨1, false, 24, [.slice none 0 0], [.sl 1 []], .sl 65⟩),
  (31, ⟨4, true, 80, [.slice none 0 0, .int .i64 0, .slice none 0 0, .slice none 0 0], [.sl 1 [], .v (.int .i64 0), .sl 2 [], .sl 1 []], .st [(0, 22), (1, 3), (2, 29), (3, 30)]⟩),
  (32, ⟨4, true, 80, [.slice none 0 0, .int .i64 0, .slice none 0 0, .slice none 0 0], [.sl 1 [], .v (.int .i64 0), .sl 2 [], .sl 1 []], .st [(0, 22), (1, 3), (2, 29), (3, 30)]⟩),
  (33, ⟨1, false, 8, [.nilFunc], [.v (.nilFunc)], .other⟩),
  (34, ⟨1, false, 8, [.nilFunc], [.v (.nilFunc)], .other⟩),
  (35, ⟨1, false, 8, [.nilFunc], [.v (.nilFunc)], .other⟩),
  (36, ⟨1, false, 8, [.nilFunc], [.v (.nilFunc)], .other⟩),
  (37, ⟨1, false, 8, [.nilFunc], [.v (.nilFunc)], .other⟩),
  (38, ⟨1, false, 8, [.nilFunc], [.v (.nilFunc)], .other⟩),
  (39, ⟨1, false, 8, [.nilFunc], [.v (.nilFunc)], .other⟩),
  (40, ⟨1, false, 8, [.nilFunc], [.v (.nilFunc)], .other⟩),
  (41, ⟨1, false, 8, [.nilFunc], [.v (.nilFunc)], .other⟩),
  (42, ⟨1, false, 24, [.slice none 0 0], [.sl 4 []], .sl 131⟩),
  (43, ⟨5, true, 72, [.int .i64 0, .int .i64 0, .slice none 0 0, .int .i64 0, .slice none 0 0], [.v (.int .i64 0), .v (.int .i64 0), .sl 1 [], .v (.int .i64 0), .sl 4 []], .st [(0, 3), (1, 3), (2, 22), (3, 3), (4, 42)]⟩),
  (44, ⟨5, true, 72, [.int .i64 0, .int .i64 0, .slice none 0 0, .int .i64 0, .slice none 0 0], [.v (.int .i64 0), .v (.int .i64 0), .sl 1 [], .v (.int .i64 0), .sl 4 []], .st [(0, 3), (1, 3), (2, 22), (3, 3), (4, 42)]⟩),
  (45, ⟨1, false, 8, [.nilFunc], [.v (.nilFunc)], .other⟩),
  (46, ⟨1, false, 8, [.nilFunc], [.v (.nilFunc)], .other⟩),
  (47, ⟨1, false, 24, [.slice none 0 0], [.sl 4 []], .sl 94⟩),
  (48, ⟨5, true, 72, [.int .i64 0, .int .i64 0, .slice none 0 0, .int .i64 0, .slice none 0 0], [.v (.int .i64 0), .v (.int .i64 0), .sl 1 [], .v (.int .i64 0), .sl 4 []], .st [(0, 3), (1, 3), (2, 22), (3, 3), (4, 47)]⟩),
  (49, ⟨5, true, 72, [.int .i64 0, .int .i64 0, .slice none 0 0, .int .i64 0, .slice none 0 0], [.v (.int .i64 0), .v (.int .i64 0), .sl 1 [], .v (.int .i64 0), .sl 4 []], .st [(0, 3), (1, 3), (2, 22), (3, 3), (4, 47)]⟩),
  (50, ⟨1, false, 8, [.nilFunc], [.v (.nilFunc)], .other⟩),
  (51, ⟨1, false, 8, [.nilFunc], [.v (.nilFunc)], .other⟩),
  (52, ⟨1, false, 8, [.nilFunc], [.v (.nilFunc)], .other⟩),
  (53, ⟨1, false, 24, [.slice none 0 0], [.sl 5 []], .sl 49⟩),
  (54, ⟨1, false, 24, [.slice none 0 0], [.sl 5 []], .sl 101⟩),
  (55, ⟨1, false, 24, [.slice none 0 0], [.sl 2 []], .sl 103⟩),
  (56, ⟨3, true, 72, [.slice none 0 0, .slice none 0 0, .slice none 0 0], [.sl 5 [], .sl 5 [], .sl 2 []], .st [(0, 53), (1, 54), (2, 55)]⟩),
  (57, ⟨3, true, 72, [.slice none 0 0, .slice none 0 0, .slice none 0 0], [.sl 5 [], .sl 5 [], .sl 2 []], .st [(0, 53), (1, 54), (2, 55)]⟩),
  (58, ⟨1, false, 8, [.nilFunc], [.v (.nilFunc)], .other⟩),
  (59, ⟨1, false, 8, [.nilFunc], [.v (.nilFunc)], .other⟩),
  (60, ⟨1, false, 8, [.nilFunc], [.v (.nilFunc)], .other⟩),
  (61, ⟨1, false, 8, [.nilFunc], [.v (.nilFunc)], .other⟩),
  (62, ⟨1, false, 8, [.nilFunc], [.v (.nilFunc)], .other⟩),
  (63, ⟨1, false, 24, [.slice none 0 0], [.sl 4 []], .sl 78⟩),
  (64, ⟨1, true, 24, [.slice none 0 0], [.sl 4 []], .st [(0, 63)]⟩),
  (65, ⟨1, true, 24, [.slice none 0 0], [.sl 4 []], .st [(0, 63)]⟩),
  (66, ⟨1, false, 8, [.nilFunc], [.v (.nilFunc)], .other⟩),
  (67, ⟨1, false, 8, [.nilFunc], [.v (.nilFunc)], .other⟩),
  (68, ⟨1, false, 8, [.nilFunc], [.v (.nilFunc)], .other⟩),
  (69, ⟨1, false, 8, [.nilFunc], [.v (.nilFunc)], .other⟩),
  (70, ⟨1, false, 8, [.nilFunc], [.v (.nilFunc)], .other⟩),
  (71, ⟨1, false, 8, [.nilFunc], [.v (.nilFunc)], .other⟩),
  (72, ⟨1, false, 24, [.slice none 0 0], [.sl 5 []], .sl 81⟩),
  (73, ⟨2, true, 32, [.slice none 0 0, .int .i64 0], [.sl 5 [], .v (.int .i64 0)], .st [(0, 72), (1, 3)]⟩),
  (74, ⟨2, true, 32, [.slice none 0 0, .int .i64 0], [.sl 5 [], .v (.int .i64 0)], .st [(0, 72), (1, 3)]⟩),
  (75, ⟨1, false, 8, [.nilFunc], [.v (.nilFunc)], .other⟩),
  (76, ⟨1, false, 8, [.nilFunc], [.v (.nilFunc)], .other⟩),
  (77, ⟨4, true, 32, [.int .i64 0, .int .i64 0, .int .i64 0, .int .i64 0], [.v (.int .i64 0), .v (.int .i64 0), .v (.int .i64 0), .v (.int .i64 0)], .st [(0, 3), (1, 3), (2, 3), (3, 3)]⟩),
  (78, ⟨4, true, 32, [.int .i64 0, .int .i64 0, .int .i64 0, .int .i64 0], [.v (.int .i64 0), .v (.int .i64 0), .v (.int .i64 0), .v (.int .i64 0)], .st [(0, 3), (1, 3), (2, 3), (3, 3)]⟩),
  (79, ⟨1, false, 8, [.nilFunc], [.v (.nilFunc)], .other⟩),
  (80, ⟨5, true, 40, [.bool false, .int .i64 0, .int .i64 0, .int .i64 0, .int .i64 0], [.v (.bool false), .v (.int .i64 0), .v (.int .i64 0), .v (.int .i64 0), .v (.int .i64 0)], .st [(0, 4), (1, 3), (2, 3), (3, 3), (4, 3)]⟩),
  (81, ⟨5, true, 40, [.bool false, .int .i64 0, .int .i64 0, .int .i64 0, .int .i64 0], [.v (.bool false), .v (.int .i64 0), .v (.int .i64 0), .v (.int .i64 0), .v (.int .i64 0)], .st [(0, 4), (1, 3), (2, 3), (3, 3), (4, 3)]⟩),
  (82, ⟨1, false, 8, [.nilFunc], [.v (.nilFunc)], .other⟩),
  (83, ⟨1, false, 8, [.nilFunc], [.v (.nilFunc)], .other⟩),
  (84, ⟨1, false, 8, [.nilFunc], [.v (.nilFunc)], .other⟩),
  (85, ⟨1, false, 24, [.slice none 0 0], [.sl 1 []], .sl 5⟩),
  (87, ⟨1, false, 8, [.nilFunc], [.v (.nilFunc)], .other⟩),
  (88, ⟨1, false, 8, [.nilFunc], [.v (.nilFunc)], .other⟩),
  (89, ⟨1, false, 8, [.nilFunc], [.v (.nilFunc)], .other⟩),
  (90, ⟨1, false, 8, [.nilFunc], [.v (.nilFunc)], .other⟩),
  (91, ⟨1, false, 8, [.nilFunc], [.v (.nilFunc)], .other⟩),
  (92, ⟨1, false, 8, [.nilFunc], [.v (.nilFunc)], .other⟩),
  (93, ⟨4, true, 32, [.int .i64 0, .int .i64 0, .int .i64 0, .bool false], [.v (.int .i64 0), .v (.int .i64 0), .v (.int .i64 0), .v (.bool false)], .st [(0, 3), (1, 3), (2, 3), (3, 4)]⟩),
  (94, ⟨4, true, 32, [.int .i64 0, .int .i64 0, .int .i64 0, .bool false], [.v (.int .i64 0), .v (.int .i64 0), .v (.int .i64 0), .v (.bool false)], .st [(0, 3), (1, 3), (2, 3), (3, 4)]⟩),
  (95, ⟨1, false, 8, [.nilFunc], [.v (.nilFunc)], .other⟩),
  (96, ⟨1, false, 8, [.nilFunc], [.v (.nilFunc)], .other⟩),
  (97, ⟨1, false, 8, [.nilFunc], [.v (.nilFunc)], .other⟩),
  (98, ⟨1, false, 8, [.nilFunc], [.v (.nilFunc)], .other⟩),
  (99, ⟨1, false, 24, [.slice none 0 0], [.sl 3 []], .sl 148⟩),
  (100, ⟨5, true, 88, [.int .i64 0, .slice none 0 0, .slice none 0 0, .slice none 0 0, .bool false], [.v (.int .i64 0), .sl 1 [], .sl 3 [], .sl 3 [], .v (.bool false)], .st [(0, 3), (1, 22), (2, 99), (3, 99), (4, 4)]⟩),
  (101, ⟨5, true, 88, [.int .i64 0, .slice none 0 0, .slice none 0 0, .slice none 0 0, .bool false], [.v (.int .i64 0), .sl 1 [], .sl 3 [], .sl 3 [], .v (.bool false)], .st [(0, 3), (1, 22), (2, 99), (3, 99), (4, 4)]⟩),
  (102, ⟨2, true, 32, [.int .i64 0, .slice none 0 0], [.v (.int .i64 0), .sl 1 []], .st [(0, 3), (1, 22)]⟩),
  (103, ⟨2, true, 32, [.int .i64 0, .slice none 0 0], [.v (.int .i64 0), .sl 1 []], .st [(0, 3), (1, 22)]⟩),
  (104, ⟨1, false, 8, [.nilFunc], [.v (.nilFunc)], .other⟩),
  (105, ⟨1, false, 8, [.nilFunc], [.v (.nilFunc)], .other⟩),
  (106, ⟨1, false, 8, [.nilFunc], [.v (.nilFunc)], .other⟩),
  (107, ⟨1, false, 8, [.nilFunc], [.v (.nilFunc)], .other⟩),
  (108, ⟨1, false, 8, [.nilFunc], [.v (.nilFunc)], .other⟩),
  (109, ⟨1, false, 8, [.nilFunc], [.v (.nilFunc)], .other⟩),
  (110, ⟨1, false, 8, [.nilFunc], [.v (.nilFunc)], .other⟩),
  (111, ⟨1, false, 8, [.nilFunc], [.v (.nilFunc)], .other⟩),
  (112, ⟨1, false, 24, [.slice none 0 0], [.sl 5 []], .sl 150⟩),
  (113, ⟨2, true, 32, [.slice none 0 0, .int .i64 0], [.sl 5 [], .v (.int .i64 0)], .st [(0, 112), (1, 3)]⟩),
  (114, ⟨2, true, 32, [.slice none 0 0, .int .i64 0], [.sl 5 [], .v (.int .i64 0)], .st [(0, 112), (1, 3)]⟩),
  (115, ⟨1, false, 8, [.nilFunc], [.v (.nilFunc)], .other⟩),
  (116, ⟨1, false, 24, [.slice none 0 0], [.sl 4 []], .sl 152⟩),
  (117, ⟨1, true, 24, [.slice none 0 0], [.sl 4 []], .st [(0, 116)]⟩),
  (118, ⟨1, true, 24, [.slice none 0 0], [.sl 4 []], .st [(0, 116)]⟩),
  (119, ⟨1, false, 8, [.nilFunc], [.v (.nilFunc)], .other⟩),
  (120, ⟨1, false, 8, [.nilFunc], [.v (.nilFunc)], .other⟩),
  (121, ⟨1, false, 8, [.nilFunc], [.v (.nilFunc)], .other⟩),
  (122, ⟨1, false, 8, [.nilFunc], [.v (.nilFunc)], .other⟩),
  (123, ⟨1, false, 8, [.nilFunc], [.v (.nilFunc)], .other⟩),
  (124, ⟨1, false, 8, [.nilFunc], [.v (.nilFunc)], .other⟩),
  (125, ⟨1, false, 8, [.nilFunc], [.v (.nilFunc)], .other⟩),
  (126, ⟨1, false, 8, [.nilFunc], [.v (.nilFunc)], .other⟩),
  (127, ⟨1, false, 8, [.nilFunc], [.v (.nilFunc)], .other⟩),
  (128, ⟨1, false, 8, [.int .u64 0], [.v (.int .u64 0)], .int .u64⟩),
  (129, ⟨1, false, 8, [.nilFunc], [.v (.nilFunc)], .other⟩),
  (130, ⟨1, false, 8, [.nilFunc], [.v (.nilFunc)], .other⟩),
  (131, ⟨4, true, 32, [.int .i64 0, .int .i64 0, .int .i64 0, .bool false], [.v (.int .i64 0), .v (.int .i64 0), .v (.int .i64 0), .v (.bool false)], .st [(0, 3), (1, 3), (2, 3), (3, 4)]⟩),
  (132, ⟨1, false, 8, [.nilFunc], [.v (.nilFunc)], .other⟩),
  (133, ⟨1, false, 8, [.nilFunc], [.v (.nilFunc)], .other⟩),
  (134, ⟨1, false, 8, [.nilFunc], [.v (.nilFunc)], .other⟩),
  (135, ⟨1, false, 8, [.nilFunc], [.v (.nilFunc)], .other⟩),
  (136, ⟨1, false, 8, [.nilFunc], [.v (.nilFunc)], .other⟩),
  (137, ⟨1, false, 8, [.nilFunc], [.v (.nilFunc)], .other⟩),
  (138, ⟨1, false, 8, [.nilFunc], [.v (.nilFunc)], .other⟩),
  (139, ⟨1, false, 8, [.nilFunc], [.v (.nilFunc)], .other⟩),
  (140, ⟨1, false, 8, [.nilFunc], [.v (.nilFunc)], .other⟩),
  (141, ⟨1, false, 8, [.nilFunc], [.v (.nilFunc)], .other⟩),
  (142, ⟨1, false, 8, [.nilFunc], [.v (.nilFunc)], .other⟩),
  (143, ⟨1, false, 8, [.nilFunc], [.v (.nilFunc)], .other⟩),
  (144, ⟨1, false, 8, [.nilFunc], [.v (.nilFunc)], .other⟩),
  (145, ⟨1, false, 8, [.nilFunc], [.v (.nilFunc)], .other⟩),
  (146, ⟨1, false, 8, [.nilFunc], [.v (.nilFunc)], .other⟩),
  (147, ⟨3, true, 24, [.int .i64 0, .int .i64 0, .int .i64 0], [.v (.int .i64 0), .v (.int .i64 0), .v (.int .i64 0)], .st [(0, 3), (1, 3), (2, 3)]⟩),
  (148, ⟨3, true, 24, [.int .i64 0, .int .i64 0, .int .i64 0], [.v (.int .i64 0), .v (.int .i64 0), .v (.int .i64 0)], .st [(0, 3), (1, 3), (2, 3)]⟩),
  (149, ⟨1, false, 8, [.nilFunc], [.v (.nilFunc)], .other⟩),
  (150, ⟨5, true, 40, [.bool false, .int .i64 0, .int .i64 0, .int .i64 0, .int .i64 0], [.v (.bool false), .v (.int .i64 0), .v (.int .i64 0), .v (.int .i64 0), .v (.int .i64 0)], .st [(0, 4), (1, 3), (2, 3), (3, 3), (4, 3)]⟩),
  (151, ⟨1, false, 8, [.nilFunc], [.v (.nilFunc)], .other⟩),
  (152, ⟨4, true, 32, [.int .i64 0, .int .i64 0, .int .i64 0, .int .i64 0], [.v (.int .i64 0), .v (.int .i64 0), .v (.int .i64 0), .v (.int .i64 0)], .st [(0, 3), (1, 3), (2, 3), (3, 3)]⟩),
  (153, ⟨1, false, 8, [.nilFunc], [.v (.nilFunc)], .other⟩),
  (154, ⟨1, false, 8, [.nilFunc], [.v (.nilFunc)], .other⟩),
  (155, ⟨1, false, 8, [.nilFunc], [.v (.nilFunc)], .other⟩),
  (156, ⟨1, false, 8, [.nilFunc], [.v (.nilFunc)], .other⟩),
  (162, ⟨1, false, 8, [.nilFunc], [.v (.nilFunc)], .other⟩),
  (163, ⟨1, false, 4, [.int .u32 0], [.v (.int .u32 0)], .int .u32⟩),
  (166, ⟨1, false, 8, [.nilFunc], [.v (.nilFunc)], .other⟩),
  (167, ⟨1, false, 8, [.pointer none], [.v (.pointer none)], .ptr⟩)]
set_option maxRecDepth 100000 in
theorem tt_all : TTall Try.prog tt := by
  refine ⟨TIok.mk1 (.nilFunc) _ (by kernel_rfl) rfl ⟨_, rfl, rfl⟩ rfl rfl ⟨.inl ⟨rfl, rfl⟩, trivial⟩ (by decide) Try.underlying1 rfl trivial, ?_⟩   -- func()
  refine ⟨TIok.mk1 (.int .i64 0) _ (by kernel_rfl) rfl ⟨_, rfl, rfl⟩ rfl rfl ⟨.inl ⟨rfl, rfl⟩, trivial⟩ (by decide) Try.underlying2 rfl rfl, ?_⟩   -- int64
  refine ⟨TIok.mk1 (.int .i64 0) _ (by kernel_rfl) rfl ⟨_, rfl, rfl⟩ rfl rfl ⟨.inl ⟨rfl, rfl⟩, trivial⟩ (by decide) Try.underlying3 rfl rfl, ?_⟩   -- int
  refine ⟨TIok.mk1 (.bool false) _ (by kernel_rfl) rfl ⟨_, rfl, rfl⟩ rfl rfl ⟨.inl ⟨rfl, rfl⟩, trivial⟩ (by decide) Try.underlying4 rfl rfl, ?_⟩   -- bool
  refine ⟨TIok.mk1 (.int .u8 0) _ (by kernel_rfl) rfl ⟨_, rfl, rfl⟩ rfl rfl ⟨.inl ⟨rfl, rfl⟩, trivial⟩ (by decide) Try.underlying5 rfl rfl, ?_⟩   -- uint8
  refine ⟨TIok.mk1 (.string ByteArray.empty) _ (by kernel_rfl) rfl ⟨_, rfl, rfl⟩ rfl rfl ⟨.inl ⟨rfl, rfl⟩, trivial⟩ (by decide) Try.underlying9 rfl rfl, ?_⟩   -- string
  refine ⟨TIok.mk1 (.int .u64 0) _ (by kernel_rfl) rfl ⟨_, rfl, rfl⟩ rfl rfl ⟨.inl ⟨rfl, rfl⟩, trivial⟩ (by decide) Try.underlying12 rfl rfl, ?_⟩   -- uintptr
  refine ⟨TIok.mk1 (.agg #[.string ByteArray.empty, .int .u64 0]) _ (by kernel_rfl) rfl rfl rfl rfl ⟨.inl ⟨rfl, rfl⟩, .inl ⟨rfl, rfl⟩, trivial⟩ (by decide) Try.underlying13 rfl ⟨_, rfl, rfl⟩, ?_⟩   -- struct  msg string; addr uintptr 
  refine ⟨TIok.mk1 (.int .i32 0) _ (by kernel_rfl) rfl ⟨_, rfl, rfl⟩ rfl rfl ⟨.inl ⟨rfl, rfl⟩, trivial⟩ (by decide) Try.underlying21 rfl rfl, ?_⟩   -- int32
  refine ⟨TIok.mk1 (.slice none 0 0) _ (by kernel_rfl) rfl ⟨_, rfl, rfl⟩ rfl rfl ⟨.inr ⟨_, rfl, rfl⟩, trivial⟩ (by decide) Try.underlying22 rfl rfl, ?_⟩   -- []int
  refine ⟨TIok.mk1 (.slice none 0 0) _ (by kernel_rfl) rfl ⟨_, rfl, rfl⟩ rfl rfl ⟨.inr ⟨_, rfl, rfl⟩, trivial⟩ (by decide) Try.underlying23 rfl rfl, ?_⟩   -- []laws.Select
  refine ⟨TIok.mk1 (.slice none 0 0) _ (by kernel_rfl) rfl ⟨_, rfl, rfl⟩ rfl rfl ⟨.inr ⟨_, rfl, rfl⟩, trivial⟩ (by decide) Try.underlying24 rfl rfl, ?_⟩   -- []laws.Proc
  refine ⟨TIok.mk1 (.agg #[.slice none 0 0, .int .i64 0, .slice none 0 0, .slice none 0 0]) _ (by kernel_rfl) rfl rfl rfl rfl ⟨.inr ⟨_, rfl, rfl⟩, .inl ⟨rfl, rfl⟩, .inr ⟨_, rfl, rfl⟩, .inr ⟨_, rfl, rfl⟩, trivial⟩ (by decide) Try.underlying25 rfl ⟨_, rfl, rfl⟩, ?_⟩   -- struct  Caps []int; Mus int; Sels []law
  refine ⟨TIok.mk1 (.agg #[.slice none 0 0, .int .i64 0, .slice none 0 0, .slice none 0 0]) _ (by kernel_rfl) rfl rfl rfl rfl ⟨.inr ⟨_, rfl, rfl⟩, .inl ⟨rfl, rfl⟩, .inr ⟨_, rfl, rfl⟩, .inr ⟨_, rfl, rfl⟩, trivial⟩ (by decide) Try.underlying26 rfl ⟨_, rfl, rfl⟩, ?_⟩   -- laws.Prog
  refine ⟨TIok.mk1 (.nilFunc) _ (by kernel_rfl) rfl ⟨_, rfl, rfl⟩ rfl rfl ⟨.inl ⟨rfl, rfl⟩, trivial⟩ (by decide) Try.underlying27 rfl trivial, ?_⟩   -- func(laws.Prog, int) int
  refine ⟨TIok.mk1 (.nilFunc) _ (by kernel_rfl) rfl ⟨_, rfl, rfl⟩ rfl rfl ⟨.inl ⟨rfl, rfl⟩, trivial⟩ (by decide) Try.underlying28 rfl trivial, ?_⟩   -- func(impl.Prog, int) int
  refine ⟨TIok.mk1 (.slice none 0 0) _ (by kernel_rfl) rfl ⟨_, rfl, rfl⟩ rfl rfl ⟨.inr ⟨_, rfl, rfl⟩, trivial⟩ (by decide) Try.underlying29 rfl rfl, ?_⟩   -- []impl.Select
  refine ⟨TIok.mk1 (.slice none 0 0) _ (by kernel_rfl) rfl ⟨_, rfl, rfl⟩ rfl rfl ⟨.inr ⟨_, rfl, rfl⟩, trivial⟩ (by decide) Try.underlying30 rfl rfl, ?_⟩   -- []impl.Proc
  refine ⟨TIok.mk1 (.agg #[.slice none 0 0, .int .i64 0, .slice none 0 0, .slice none 0 0]) _ (by kernel_rfl) rfl rfl rfl rfl ⟨.inr ⟨_, rfl, rfl⟩, .inl ⟨rfl, rfl⟩, .inr ⟨_, rfl, rfl⟩, .inr ⟨_, rfl, rfl⟩, trivial⟩ (by decide) Try.underlying31 rfl ⟨_, rfl, rfl⟩, ?_⟩   -- struct  Caps []int; Mus int; Sels []imp
  refine ⟨TIok.mk1 (.agg #[.slice none 0 0, .int .i64 0, .slice none 0 0, .slice none 0 0]) _ (by kernel_rfl) rfl rfl rfl rfl ⟨.inr ⟨_, rfl, rfl⟩, .inl ⟨rfl, rfl⟩, .inr ⟨_, rfl, rfl⟩, .inr ⟨_, rfl, rfl⟩, trivial⟩ (by decide) Try.underlying32 rfl ⟨_, rfl, rfl⟩, ?_⟩   -- impl.Prog
  refine ⟨TIok.mk1 (.nilFunc) _ (by kernel_rfl) rfl ⟨_, rfl, rfl⟩ rfl rfl ⟨.inl ⟨rfl, rfl⟩, trivial⟩ (by decide) Try.underlying33 rfl trivial, ?_⟩   -- func(laws.Prog) impl.Prog
  refine ⟨TIok.mk1 (.nilFunc) _ (by kernel_rfl) rfl ⟨_, rfl, rfl⟩ rfl rfl ⟨.inl ⟨rfl, rfl⟩, trivial⟩ (by decide) Try.underlying34 rfl trivial, ?_⟩   -- func(impl.Prog, impl.Prog) bool
  refine ⟨TIok.mk1 (.nilFunc) _ (by kernel_rfl) rfl ⟨_, rfl, rfl⟩ rfl rfl ⟨.inl ⟨rfl, rfl⟩, trivial⟩ (by decide) Try.underlying35 rfl trivial, ?_⟩   -- func(laws.Prog, int) bool
  refine ⟨TIok.mk1 (.nilFunc) _ (by kernel_rfl) rfl ⟨_, rfl, rfl⟩ rfl rfl ⟨.inl ⟨rfl, rfl⟩, trivial⟩ (by decide) Try.underlying36 rfl trivial, ?_⟩   -- func(impl.Prog) bool
  refine ⟨TIok.mk1 (.nilFunc) _ (by kernel_rfl) rfl ⟨_, rfl, rfl⟩ rfl rfl ⟨.inl ⟨rfl, rfl⟩, trivial⟩ (by decide) Try.underlying37 rfl trivial, ?_⟩   -- func(laws.Prog) bool
  refine ⟨TIok.mk1 (.nilFunc) _ (by kernel_rfl) rfl ⟨_, rfl, rfl⟩ rfl rfl ⟨.inl ⟨rfl, rfl⟩, trivial⟩ (by decide) Try.underlying38 rfl trivial, ?_⟩   -- func(impl.Prog) []int
  refine ⟨TIok.mk1 (.nilFunc) _ (by kernel_rfl) rfl ⟨_, rfl, rfl⟩ rfl rfl ⟨.inl ⟨rfl, rfl⟩, trivial⟩ (by decide) Try.underlying39 rfl trivial, ?_⟩   -- func([]int, []int) bool
  refine ⟨TIok.mk1 (.nilFunc) _ (by kernel_rfl) rfl ⟨_, rfl, rfl⟩ rfl rfl ⟨.inl ⟨rfl, rfl⟩, trivial⟩ (by decide) Try.underlying40 rfl trivial, ?_⟩   -- func([]int, int) int
  refine ⟨TIok.mk1 (.nilFunc) _ (by kernel_rfl) rfl ⟨_, rfl, rfl⟩ rfl rfl ⟨.inl ⟨rfl, rfl⟩, trivial⟩ (by decide) Try.underlying41 rfl trivial, ?_⟩   -- func(impl.Prog) int
  refine ⟨TIok.mk1 (.slice none 0 0) _ (by kernel_rfl) rfl ⟨_, rfl, rfl⟩ rfl rfl ⟨.inr ⟨_, rfl, rfl⟩, trivial⟩ (by decide) Try.underlying42 rfl rfl, ?_⟩   -- []laws.Item
  refine ⟨TIok.mk1 (.agg #[.int .i64 0, .int .i64 0, .slice none 0 0, .int .i64 0, .slice none 0 0]) _ (by kernel_rfl) rfl rfl rfl rfl ⟨.inl ⟨rfl, rfl⟩, .inl ⟨rfl, rfl⟩, .inr ⟨_, rfl, rfl⟩, .inl ⟨rfl, rfl⟩, .inr ⟨_, rfl, rfl⟩, trivial⟩ (by decide) Try.underlying43 rfl ⟨_, rfl, rfl⟩, ?_⟩   -- struct  Proc int; Pc int; Regs []int; S
  refine ⟨TIok.mk1 (.agg #[.int .i64 0, .int .i64 0, .slice none 0 0, .int .i64 0, .slice none 0 0]) _ (by kernel_rfl) rfl rfl rfl rfl ⟨.inl ⟨rfl, rfl⟩, .inl ⟨rfl, rfl⟩, .inr ⟨_, rfl, rfl⟩, .inl ⟨rfl, rfl⟩, .inr ⟨_, rfl, rfl⟩, trivial⟩ (by decide) Try.underlying44 rfl ⟨_, rfl, rfl⟩, ?_⟩   -- laws.Gor
  refine ⟨TIok.mk1 (.nilFunc) _ (by kernel_rfl) rfl ⟨_, rfl, rfl⟩ rfl rfl ⟨.inl ⟨rfl, rfl⟩, trivial⟩ (by decide) Try.underlying45 rfl trivial, ?_⟩   -- func(laws.Gor, int) int
  refine ⟨TIok.mk1 (.nilFunc) _ (by kernel_rfl) rfl ⟨_, rfl, rfl⟩ rfl rfl ⟨.inl ⟨rfl, rfl⟩, trivial⟩ (by decide) Try.underlying46 rfl trivial, ?_⟩   -- func(impl.Prog, impl.Gor) bool
  refine ⟨TIok.mk1 (.slice none 0 0) _ (by kernel_rfl) rfl ⟨_, rfl, rfl⟩ rfl rfl ⟨.inr ⟨_, rfl, rfl⟩, trivial⟩ (by decide) Try.underlying47 rfl rfl, ?_⟩   -- []impl.Item
  refine ⟨TIok.mk1 (.agg #[.int .i64 0, .int .i64 0, .slice none 0 0, .int .i64 0, .slice none 0 0]) _ (by kernel_rfl) rfl rfl rfl rfl ⟨.inl ⟨rfl, rfl⟩, .inl ⟨rfl, rfl⟩, .inr ⟨_, rfl, rfl⟩, .inl ⟨rfl, rfl⟩, .inr ⟨_, rfl, rfl⟩, trivial⟩ (by decide) Try.underlying48 rfl ⟨_, rfl, rfl⟩, ?_⟩   -- struct  Proc int; Pc int; Regs []int; S
  refine ⟨TIok.mk1 (.agg #[.int .i64 0, .int .i64 0, .slice none 0 0, .int .i64 0, .slice none 0 0]) _ (by kernel_rfl) rfl rfl rfl rfl ⟨.inl ⟨rfl, rfl⟩, .inl ⟨rfl, rfl⟩, .inr ⟨_, rfl, rfl⟩, .inl ⟨rfl, rfl⟩, .inr ⟨_, rfl, rfl⟩, trivial⟩ (by decide) Try.underlying49 rfl ⟨_, rfl, rfl⟩, ?_⟩   -- impl.Gor
  refine ⟨TIok.mk1 (.nilFunc) _ (by kernel_rfl) rfl ⟨_, rfl, rfl⟩ rfl rfl ⟨.inl ⟨rfl, rfl⟩, trivial⟩ (by decide) Try.underlying50 rfl trivial, ?_⟩   -- func(laws.Gor) impl.Gor
  refine ⟨TIok.mk1 (.nilFunc) _ (by kernel_rfl) rfl ⟨_, rfl, rfl⟩ rfl rfl ⟨.inl ⟨rfl, rfl⟩, trivial⟩ (by decide) Try.underlying51 rfl trivial, ?_⟩   -- func(impl.Gor, impl.Gor) bool
  refine ⟨TIok.mk1 (.nilFunc) _ (by kernel_rfl) rfl ⟨_, rfl, rfl⟩ rfl rfl ⟨.inl ⟨rfl, rfl⟩, trivial⟩ (by decide) Try.underlying52 rfl trivial, ?_⟩   -- func(laws.Prog, laws.Gor) bool
  refine ⟨TIok.mk1 (.slice none 0 0) _ (by kernel_rfl) rfl ⟨_, rfl, rfl⟩ rfl rfl ⟨.inr ⟨_, rfl, rfl⟩, trivial⟩ (by decide) Try.underlying53 rfl rfl, ?_⟩   -- []impl.Gor
  refine ⟨TIok.mk1 (.slice none 0 0) _ (by kernel_rfl) rfl ⟨_, rfl, rfl⟩ rfl rfl ⟨.inr ⟨_, rfl, rfl⟩, trivial⟩ (by decide) Try.underlying54 rfl rfl, ?_⟩   -- []impl.Chan
  refine ⟨TIok.mk1 (.slice none 0 0) _ (by kernel_rfl) rfl ⟨_, rfl, rfl⟩ rfl rfl ⟨.inr ⟨_, rfl, rfl⟩, trivial⟩ (by decide) Try.underlying55 rfl rfl, ?_⟩   -- []impl.Mutex
  refine ⟨TIok.mk1 (.agg #[.slice none 0 0, .slice none 0 0, .slice none 0 0]) _ (by kernel_rfl) rfl rfl rfl rfl ⟨.inr ⟨_, rfl, rfl⟩, .inr ⟨_, rfl, rfl⟩, .inr ⟨_, rfl, rfl⟩, trivial⟩ (by decide) Try.underlying56 rfl ⟨_, rfl, rfl⟩, ?_⟩   -- struct  Gs []impl.Gor; Chans []impl.Cha
  refine ⟨TIok.mk1 (.agg #[.slice none 0 0, .slice none 0 0, .slice none 0 0]) _ (by kernel_rfl) rfl rfl rfl rfl ⟨.inr ⟨_, rfl, rfl⟩, .inr ⟨_, rfl, rfl⟩, .inr ⟨_, rfl, rfl⟩, trivial⟩ (by decide) Try.underlying57 rfl ⟨_, rfl, rfl⟩, ?_⟩   -- impl.Eng
  refine ⟨TIok.mk1 (.nilFunc) _ (by kernel_rfl) rfl ⟨_, rfl, rfl⟩ rfl rfl ⟨.inl ⟨rfl, rfl⟩, trivial⟩ (by decide) Try.underlying58 rfl trivial, ?_⟩   -- func(impl.Prog) impl.Eng
  refine ⟨TIok.mk1 (.nilFunc) _ (by kernel_rfl) rfl ⟨_, rfl, rfl⟩ rfl rfl ⟨.inl ⟨rfl, rfl⟩, trivial⟩ (by decide) Try.underlying59 rfl trivial, ?_⟩   -- func(impl.Eng, impl.Eng) bool
  refine ⟨TIok.mk1 (.nilFunc) _ (by kernel_rfl) rfl ⟨_, rfl, rfl⟩ rfl rfl ⟨.inl ⟨rfl, rfl⟩, trivial⟩ (by decide) Try.underlying60 rfl trivial, ?_⟩   -- func(impl.Eng, int) int
  refine ⟨TIok.mk1 (.nilFunc) _ (by kernel_rfl) rfl ⟨_, rfl, rfl⟩ rfl rfl ⟨.inl ⟨rfl, rfl⟩, trivial⟩ (by decide) Try.underlying61 rfl trivial, ?_⟩   -- func([]laws.Select, int) int
  refine ⟨TIok.mk1 (.nilFunc) _ (by kernel_rfl) rfl ⟨_, rfl, rfl⟩ rfl rfl ⟨.inl ⟨rfl, rfl⟩, trivial⟩ (by decide) Try.underlying62 rfl trivial, ?_⟩   -- func([]laws.Proc, int) int
  refine ⟨TIok.mk1 (.slice none 0 0) _ (by kernel_rfl) rfl ⟨_, rfl, rfl⟩ rfl rfl ⟨.inr ⟨_, rfl, rfl⟩, trivial⟩ (by decide) Try.underlying63 rfl rfl, ?_⟩   -- []impl.Instr
  refine ⟨TIok.mk1 (.agg #[.slice none 0 0]) _ (by kernel_rfl) rfl rfl rfl rfl ⟨.inr ⟨_, rfl, rfl⟩, trivial⟩ (by decide) Try.underlying64 rfl ⟨_, rfl, rfl⟩, ?_⟩   -- struct  Code []impl.Instr 
  refine ⟨TIok.mk1 (.agg #[.slice none 0 0]) _ (by kernel_rfl) rfl rfl rfl rfl ⟨.inr ⟨_, rfl, rfl⟩, trivial⟩ (by decide) Try.underlying65 rfl ⟨_, rfl, rfl⟩, ?_⟩   -- impl.Proc
  refine ⟨TIok.mk1 (.nilFunc) _ (by kernel_rfl) rfl ⟨_, rfl, rfl⟩ rfl rfl ⟨.inl ⟨rfl, rfl⟩, trivial⟩ (by decide) Try.underlying66 rfl trivial, ?_⟩   -- func([]int) []int
  refine ⟨TIok.mk1 (.nilFunc) _ (by kernel_rfl) rfl ⟨_, rfl, rfl⟩ rfl rfl ⟨.inl ⟨rfl, rfl⟩, trivial⟩ (by decide) Try.underlying67 rfl trivial, ?_⟩   -- func([]laws.Select) []impl.Select
  refine ⟨TIok.mk1 (.nilFunc) _ (by kernel_rfl) rfl ⟨_, rfl, rfl⟩ rfl rfl ⟨.inl ⟨rfl, rfl⟩, trivial⟩ (by decide) Try.underlying68 rfl trivial, ?_⟩   -- func([]laws.Proc) []impl.Proc
  refine ⟨TIok.mk1 (.nilFunc) _ (by kernel_rfl) rfl ⟨_, rfl, rfl⟩ rfl rfl ⟨.inl ⟨rfl, rfl⟩, trivial⟩ (by decide) Try.underlying69 rfl trivial, ?_⟩   -- func(int, int, int) bool
  refine ⟨TIok.mk1 (.nilFunc) _ (by kernel_rfl) rfl ⟨_, rfl, rfl⟩ rfl rfl ⟨.inl ⟨rfl, rfl⟩, trivial⟩ (by decide) Try.underlying70 rfl trivial, ?_⟩   -- func([]impl.Select, []impl.Select) bool
  refine ⟨TIok.mk1 (.nilFunc) _ (by kernel_rfl) rfl ⟨_, rfl, rfl⟩ rfl rfl ⟨.inl ⟨rfl, rfl⟩, trivial⟩ (by decide) Try.underlying71 rfl trivial, ?_⟩   -- func([]impl.Proc, []impl.Proc) bool
  refine ⟨TIok.mk1 (.slice none 0 0) _ (by kernel_rfl) rfl ⟨_, rfl, rfl⟩ rfl rfl ⟨.inr ⟨_, rfl, rfl⟩, trivial⟩ (by decide) Try.underlying72 rfl rfl, ?_⟩   -- []impl.Case
  refine ⟨TIok.mk1 (.agg #[.slice none 0 0, .int .i64 0]) _ (by kernel_rfl) rfl rfl rfl rfl ⟨.inr ⟨_, rfl, rfl⟩, .inl ⟨rfl, rfl⟩, trivial⟩ (by decide) Try.underlying73 rfl ⟨_, rfl, rfl⟩, ?_⟩   -- struct  Cases []impl.Case; Else int 
  refine ⟨TIok.mk1 (.agg #[.slice none 0 0, .int .i64 0]) _ (by kernel_rfl) rfl rfl rfl rfl ⟨.inr ⟨_, rfl, rfl⟩, .inl ⟨rfl, rfl⟩, trivial⟩ (by decide) Try.underlying74 rfl ⟨_, rfl, rfl⟩, ?_⟩   -- impl.Select
  refine ⟨TIok.mk1 (.nilFunc) _ (by kernel_rfl) rfl ⟨_, rfl, rfl⟩ rfl rfl ⟨.inl ⟨rfl, rfl⟩, trivial⟩ (by decide) Try.underlying75 rfl trivial, ?_⟩   -- func(impl.Prog, int, impl.Select) bool
  refine ⟨TIok.mk1 (.nilFunc) _ (by kernel_rfl) rfl ⟨_, rfl, rfl⟩ rfl rfl ⟨.inl ⟨rfl, rfl⟩, trivial⟩ (by decide) Try.underlying76 rfl trivial, ?_⟩   -- func(impl.Prog, []impl.Instr) bool
  refine ⟨TIok.mk1 (.agg #[.int .i64 0, .int .i64 0, .int .i64 0, .int .i64 0]) _ (by kernel_rfl) rfl rfl rfl rfl ⟨.inl ⟨rfl, rfl⟩, .inl ⟨rfl, rfl⟩, .inl ⟨rfl, rfl⟩, .inl ⟨rfl, rfl⟩, trivial⟩ (by decide) Try.underlying77 rfl ⟨_, rfl, rfl⟩, ?_⟩   -- struct  Op int; A int; B int; C int 
  refine ⟨TIok.mk1 (.agg #[.int .i64 0, .int .i64 0, .int .i64 0, .int .i64 0]) _ (by kernel_rfl) rfl rfl rfl rfl ⟨.inl ⟨rfl, rfl⟩, .inl ⟨rfl, rfl⟩, .inl ⟨rfl, rfl⟩, .inl ⟨rfl, rfl⟩, trivial⟩ (by decide) Try.underlying78 rfl ⟨_, rfl, rfl⟩, ?_⟩   -- impl.Instr
  refine ⟨TIok.mk1 (.nilFunc) _ (by kernel_rfl) rfl ⟨_, rfl, rfl⟩ rfl rfl ⟨.inl ⟨rfl, rfl⟩, trivial⟩ (by decide) Try.underlying79 rfl trivial, ?_⟩   -- func(impl.Prog, int, impl.Instr) bool
  refine ⟨TIok.mk1 (.agg #[.bool false, .int .i64 0, .int .i64 0, .int .i64 0, .int .i64 0]) _ (by kernel_rfl) rfl rfl rfl rfl ⟨.inl ⟨rfl, rfl⟩, .inl ⟨rfl, rfl⟩, .inl ⟨rfl, rfl⟩, .inl ⟨rfl, rfl⟩, .inl ⟨rfl, rfl⟩, trivial⟩ (by decide) Try.underlying80 rfl ⟨_, rfl, rfl⟩, ?_⟩   -- struct  Send bool; Chan int; Reg int; O
  refine ⟨TIok.mk1 (.agg #[.bool false, .int .i64 0, .int .i64 0, .int .i64 0, .int .i64 0]) _ (by kernel_rfl) rfl rfl rfl rfl ⟨.inl ⟨rfl, rfl⟩, .inl ⟨rfl, rfl⟩, .inl ⟨rfl, rfl⟩, .inl ⟨rfl, rfl⟩, .inl ⟨rfl, rfl⟩, trivial⟩ (by decide) Try.underlying81 rfl ⟨_, rfl, rfl⟩, ?_⟩   -- impl.Case
  refine ⟨TIok.mk1 (.nilFunc) _ (by kernel_rfl) rfl ⟨_, rfl, rfl⟩ rfl rfl ⟨.inl ⟨rfl, rfl⟩, trivial⟩ (by decide) Try.underlying82 rfl trivial, ?_⟩   -- func(bool) int
  refine ⟨TIok.mk1 (.nilFunc) _ (by kernel_rfl) rfl ⟨_, rfl, rfl⟩ rfl rfl ⟨.inl ⟨rfl, rfl⟩, trivial⟩ (by decide) Try.underlying83 rfl trivial, ?_⟩   -- func([]impl.Select, int) int
  refine ⟨TIok.mk1 (.nilFunc) _ (by kernel_rfl) rfl ⟨_, rfl, rfl⟩ rfl rfl ⟨.inl ⟨rfl, rfl⟩, trivial⟩ (by decide) Try.underlying84 rfl trivial, ?_⟩   -- func([]impl.Proc, int) int
  refine ⟨TIok.mk1 (.slice none 0 0) _ (by kernel_rfl) rfl ⟨_, rfl, rfl⟩ rfl rfl ⟨.inr ⟨_, rfl, rfl⟩, trivial⟩ (by decide) Try.underlying85 rfl rfl, ?_⟩   -- []uint8
  refine ⟨TIok.mk1 (.nilFunc) _ (by kernel_rfl) rfl ⟨_, rfl, rfl⟩ rfl rfl ⟨.inl ⟨rfl, rfl⟩, trivial⟩ (by decide) Try.underlying87 rfl trivial, ?_⟩   -- func([]uint8, int) ([]uint8, bool)
  refine ⟨TIok.mk1 (.nilFunc) _ (by kernel_rfl) rfl ⟨_, rfl, rfl⟩ rfl rfl ⟨.inl ⟨rfl, rfl⟩, trivial⟩ (by decide) Try.underlying88 rfl trivial, ?_⟩   -- func([]uint8) int
  refine ⟨TIok.mk1 (.nilFunc) _ (by kernel_rfl) rfl ⟨_, rfl, rfl⟩ rfl rfl ⟨.inl ⟨rfl, rfl⟩, trivial⟩ (by decide) Try.underlying89 rfl trivial, ?_⟩   -- func([]laws.Item, int) int
  refine ⟨TIok.mk1 (.nilFunc) _ (by kernel_rfl) rfl ⟨_, rfl, rfl⟩ rfl rfl ⟨.inl ⟨rfl, rfl⟩, trivial⟩ (by decide) Try.underlying90 rfl trivial, ?_⟩   -- func([]laws.Item) []impl.Item
  refine ⟨TIok.mk1 (.nilFunc) _ (by kernel_rfl) rfl ⟨_, rfl, rfl⟩ rfl rfl ⟨.inl ⟨rfl, rfl⟩, trivial⟩ (by decide) Try.underlying91 rfl trivial, ?_⟩   -- func([]int, func(int) bool) bool
  refine ⟨TIok.mk1 (.nilFunc) _ (by kernel_rfl) rfl ⟨_, rfl, rfl⟩ rfl rfl ⟨.inl ⟨rfl, rfl⟩, trivial⟩ (by decide) Try.underlying92 rfl trivial, ?_⟩   -- func(int) bool
  refine ⟨TIok.mk1 (.agg #[.int .i64 0, .int .i64 0, .int .i64 0, .bool false]) _ (by kernel_rfl) rfl rfl rfl rfl ⟨.inl ⟨rfl, rfl⟩, .inl ⟨rfl, rfl⟩, .inl ⟨rfl, rfl⟩, .inl ⟨rfl, rfl⟩, trivial⟩ (by decide) Try.underlying93 rfl ⟨_, rfl, rfl⟩, ?_⟩   -- struct  Kind int; Obj int; Val int; Ok 
  refine ⟨TIok.mk1 (.agg #[.int .i64 0, .int .i64 0, .int .i64 0, .bool false]) _ (by kernel_rfl) rfl rfl rfl rfl ⟨.inl ⟨rfl, rfl⟩, .inl ⟨rfl, rfl⟩, .inl ⟨rfl, rfl⟩, .inl ⟨rfl, rfl⟩, trivial⟩ (by decide) Try.underlying94 rfl ⟨_, rfl, rfl⟩, ?_⟩   -- impl.Item
  refine ⟨TIok.mk1 (.nilFunc) _ (by kernel_rfl) rfl ⟨_, rfl, rfl⟩ rfl rfl ⟨.inl ⟨rfl, rfl⟩, trivial⟩ (by decide) Try.underlying95 rfl trivial, ?_⟩   -- func(impl.Item) bool
  refine ⟨TIok.mk1 (.nilFunc) _ (by kernel_rfl) rfl ⟨_, rfl, rfl⟩ rfl rfl ⟨.inl ⟨rfl, rfl⟩, trivial⟩ (by decide) Try.underlying96 rfl trivial, ?_⟩   -- func([]impl.Item, []impl.Item) bool
  refine ⟨TIok.mk1 (.nilFunc) _ (by kernel_rfl) rfl ⟨_, rfl, rfl⟩ rfl rfl ⟨.inl ⟨rfl, rfl⟩, trivial⟩ (by decide) Try.underlying97 rfl trivial, ?_⟩   -- func(impl.Prog, impl.Gor) impl.Instr
  refine ⟨TIok.mk1 (.nilFunc) _ (by kernel_rfl) rfl ⟨_, rfl, rfl⟩ rfl rfl ⟨.inl ⟨rfl, rfl⟩, trivial⟩ (by decide) Try.underlying98 rfl trivial, ?_⟩   -- func(int, int) impl.Gor
  refine ⟨TIok.mk1 (.slice none 0 0) _ (by kernel_rfl) rfl ⟨_, rfl, rfl⟩ rfl rfl ⟨.inr ⟨_, rfl, rfl⟩, trivial⟩ (by decide) Try.underlying99 rfl rfl, ?_⟩   -- []impl.Waiter
  refine ⟨TIok.mk1 (.agg #[.int .i64 0, .slice none 0 0, .slice none 0 0, .slice none 0 0, .bool false]) _ (by kernel_rfl) rfl rfl rfl rfl ⟨.inl ⟨rfl, rfl⟩, .inr ⟨_, rfl, rfl⟩, .inr ⟨_, rfl, rfl⟩, .inr ⟨_, rfl, rfl⟩, .inl ⟨rfl, rfl⟩, trivial⟩ (by decide) Try.underlying100 rfl ⟨_, rfl, rfl⟩, ?_⟩   -- struct  Cap int; Buf []int; Sends []imp
  refine ⟨TIok.mk1 (.agg #[.int .i64 0, .slice none 0 0, .slice none 0 0, .slice none 0 0, .bool false]) _ (by kernel_rfl) rfl rfl rfl rfl ⟨.inl ⟨rfl, rfl⟩, .inr ⟨_, rfl, rfl⟩, .inr ⟨_, rfl, rfl⟩, .inr ⟨_, rfl, rfl⟩, .inl ⟨rfl, rfl⟩, trivial⟩ (by decide) Try.underlying101 rfl ⟨_, rfl, rfl⟩, ?_⟩   -- impl.Chan
  refine ⟨TIok.mk1 (.agg #[.int .i64 0, .slice none 0 0]) _ (by kernel_rfl) rfl rfl rfl rfl ⟨.inl ⟨rfl, rfl⟩, .inr ⟨_, rfl, rfl⟩, trivial⟩ (by decide) Try.underlying102 rfl ⟨_, rfl, rfl⟩, ?_⟩   -- struct  Owner int; Wait []int 
  refine ⟨TIok.mk1 (.agg #[.int .i64 0, .slice none 0 0]) _ (by kernel_rfl) rfl rfl rfl rfl ⟨.inl ⟨rfl, rfl⟩, .inr ⟨_, rfl, rfl⟩, trivial⟩ (by decide) Try.underlying103 rfl ⟨_, rfl, rfl⟩, ?_⟩   -- impl.Mutex
  refine ⟨TIok.mk1 (.nilFunc) _ (by kernel_rfl) rfl ⟨_, rfl, rfl⟩ rfl rfl ⟨.inl ⟨rfl, rfl⟩, trivial⟩ (by decide) Try.underlying104 rfl trivial, ?_⟩   -- func() impl.Mutex
  refine ⟨TIok.mk1 (.nilFunc) _ (by kernel_rfl) rfl ⟨_, rfl, rfl⟩ rfl rfl ⟨.inl ⟨rfl, rfl⟩, trivial⟩ (by decide) Try.underlying105 rfl trivial, ?_⟩   -- func([]impl.Gor, []impl.Gor) bool
  refine ⟨TIok.mk1 (.nilFunc) _ (by kernel_rfl) rfl ⟨_, rfl, rfl⟩ rfl rfl ⟨.inl ⟨rfl, rfl⟩, trivial⟩ (by decide) Try.underlying106 rfl trivial, ?_⟩   -- func([]impl.Chan, []impl.Chan) bool
  refine ⟨TIok.mk1 (.nilFunc) _ (by kernel_rfl) rfl ⟨_, rfl, rfl⟩ rfl rfl ⟨.inl ⟨rfl, rfl⟩, trivial⟩ (by decide) Try.underlying107 rfl trivial, ?_⟩   -- func([]impl.Mutex, []impl.Mutex) bool
  refine ⟨TIok.mk1 (.nilFunc) _ (by kernel_rfl) rfl ⟨_, rfl, rfl⟩ rfl rfl ⟨.inl ⟨rfl, rfl⟩, trivial⟩ (by decide) Try.underlying108 rfl trivial, ?_⟩   -- func([]impl.Gor, int) int
  refine ⟨TIok.mk1 (.nilFunc) _ (by kernel_rfl) rfl ⟨_, rfl, rfl⟩ rfl rfl ⟨.inl ⟨rfl, rfl⟩, trivial⟩ (by decide) Try.underlying109 rfl trivial, ?_⟩   -- func([]impl.Chan, int) int
  refine ⟨TIok.mk1 (.nilFunc) _ (by kernel_rfl) rfl ⟨_, rfl, rfl⟩ rfl rfl ⟨.inl ⟨rfl, rfl⟩, trivial⟩ (by decide) Try.underlying110 rfl trivial, ?_⟩   -- func([]impl.Mutex, int) int
  refine ⟨TIok.mk1 (.nilFunc) _ (by kernel_rfl) rfl ⟨_, rfl, rfl⟩ rfl rfl ⟨.inl ⟨rfl, rfl⟩, trivial⟩ (by decide) Try.underlying111 rfl trivial, ?_⟩   -- func(laws.Select, int) int
  refine ⟨TIok.mk1 (.slice none 0 0) _ (by kernel_rfl) rfl ⟨_, rfl, rfl⟩ rfl rfl ⟨.inr ⟨_, rfl, rfl⟩, trivial⟩ (by decide) Try.underlying112 rfl rfl, ?_⟩   -- []laws.Case
  refine ⟨TIok.mk1 (.agg #[.slice none 0 0, .int .i64 0]) _ (by kernel_rfl) rfl rfl rfl rfl ⟨.inr ⟨_, rfl, rfl⟩, .inl ⟨rfl, rfl⟩, trivial⟩ (by decide) Try.underlying113 rfl ⟨_, rfl, rfl⟩, ?_⟩   -- struct  Cases []laws.Case; Else int 
  refine ⟨TIok.mk1 (.agg #[.slice none 0 0, .int .i64 0]) _ (by kernel_rfl) rfl rfl rfl rfl ⟨.inr ⟨_, rfl, rfl⟩, .inl ⟨rfl, rfl⟩, trivial⟩ (by decide) Try.underlying114 rfl ⟨_, rfl, rfl⟩, ?_⟩   -- laws.Select
  refine ⟨TIok.mk1 (.nilFunc) _ (by kernel_rfl) rfl ⟨_, rfl, rfl⟩ rfl rfl ⟨.inl ⟨rfl, rfl⟩, trivial⟩ (by decide) Try.underlying115 rfl trivial, ?_⟩   -- func(laws.Proc, int) int
  refine ⟨TIok.mk1 (.slice none 0 0) _ (by kernel_rfl) rfl ⟨_, rfl, rfl⟩ rfl rfl ⟨.inr ⟨_, rfl, rfl⟩, trivial⟩ (by decide) Try.underlying116 rfl rfl, ?_⟩   -- []laws.Instr
  refine ⟨TIok.mk1 (.agg #[.slice none 0 0]) _ (by kernel_rfl) rfl rfl rfl rfl ⟨.inr ⟨_, rfl, rfl⟩, trivial⟩ (by decide) Try.underlying117 rfl ⟨_, rfl, rfl⟩, ?_⟩   -- struct  Code []laws.Instr 
  refine ⟨TIok.mk1 (.agg #[.slice none 0 0]) _ (by kernel_rfl) rfl rfl rfl rfl ⟨.inr ⟨_, rfl, rfl⟩, trivial⟩ (by decide) Try.underlying118 rfl ⟨_, rfl, rfl⟩, ?_⟩   -- laws.Proc
  refine ⟨TIok.mk1 (.nilFunc) _ (by kernel_rfl) rfl ⟨_, rfl, rfl⟩ rfl rfl ⟨.inl ⟨rfl, rfl⟩, trivial⟩ (by decide) Try.underlying119 rfl trivial, ?_⟩   -- func(laws.Select) impl.Select
  refine ⟨TIok.mk1 (.nilFunc) _ (by kernel_rfl) rfl ⟨_, rfl, rfl⟩ rfl rfl ⟨.inl ⟨rfl, rfl⟩, trivial⟩ (by decide) Try.underlying120 rfl trivial, ?_⟩   -- func(laws.Proc) impl.Proc
  refine ⟨TIok.mk1 (.nilFunc) _ (by kernel_rfl) rfl ⟨_, rfl, rfl⟩ rfl rfl ⟨.inl ⟨rfl, rfl⟩, trivial⟩ (by decide) Try.underlying121 rfl trivial, ?_⟩   -- func(impl.Select, impl.Select) bool
  refine ⟨TIok.mk1 (.nilFunc) _ (by kernel_rfl) rfl ⟨_, rfl, rfl⟩ rfl rfl ⟨.inl ⟨rfl, rfl⟩, trivial⟩ (by decide) Try.underlying122 rfl trivial, ?_⟩   -- func(impl.Proc, impl.Proc) bool
  refine ⟨TIok.mk1 (.nilFunc) _ (by kernel_rfl) rfl ⟨_, rfl, rfl⟩ rfl rfl ⟨.inl ⟨rfl, rfl⟩, trivial⟩ (by decide) Try.underlying123 rfl trivial, ?_⟩   -- func(impl.Prog, int) bool
  refine ⟨TIok.mk1 (.nilFunc) _ (by kernel_rfl) rfl ⟨_, rfl, rfl⟩ rfl rfl ⟨.inl ⟨rfl, rfl⟩, trivial⟩ (by decide) Try.underlying124 rfl trivial, ?_⟩   -- func([]int, int) bool
  refine ⟨TIok.mk1 (.nilFunc) _ (by kernel_rfl) rfl ⟨_, rfl, rfl⟩ rfl rfl ⟨.inl ⟨rfl, rfl⟩, trivial⟩ (by decide) Try.underlying125 rfl trivial, ?_⟩   -- func(int) int
  refine ⟨TIok.mk1 (.nilFunc) _ (by kernel_rfl) rfl ⟨_, rfl, rfl⟩ rfl rfl ⟨.inl ⟨rfl, rfl⟩, trivial⟩ (by decide) Try.underlying126 rfl trivial, ?_⟩   -- func([]impl.Case, int) int
  refine ⟨TIok.mk1 (.nilFunc) _ (by kernel_rfl) rfl ⟨_, rfl, rfl⟩ rfl rfl ⟨.inl ⟨rfl, rfl⟩, trivial⟩ (by decide) Try.underlying127 rfl trivial, ?_⟩   -- func([]impl.Instr, int) int
  refine ⟨TIok.mk1 (.int .u64 0) _ (by kernel_rfl) rfl ⟨_, rfl, rfl⟩ rfl rfl ⟨.inl ⟨rfl, rfl⟩, trivial⟩ (by decide) Try.underlying128 rfl rfl, ?_⟩   -- uint
  refine ⟨TIok.mk1 (.nilFunc) _ (by kernel_rfl) rfl ⟨_, rfl, rfl⟩ rfl rfl ⟨.inl ⟨rfl, rfl⟩, trivial⟩ (by decide) Try.underlying129 rfl trivial, ?_⟩   -- func(impl.Gor) bool
  refine ⟨TIok.mk1 (.nilFunc) _ (by kernel_rfl) rfl ⟨_, rfl, rfl⟩ rfl rfl ⟨.inl ⟨rfl, rfl⟩, trivial⟩ (by decide) Try.underlying130 rfl trivial, ?_⟩   -- func(laws.Item) impl.Item
  refine ⟨TIok.mk1 (.agg #[.int .i64 0, .int .i64 0, .int .i64 0, .bool false]) _ (by kernel_rfl) rfl rfl rfl rfl ⟨.inl ⟨rfl, rfl⟩, .inl ⟨rfl, rfl⟩, .inl ⟨rfl, rfl⟩, .inl ⟨rfl, rfl⟩, trivial⟩ (by decide) Try.underlying131 rfl ⟨_, rfl, rfl⟩, ?_⟩   -- laws.Item
  refine ⟨TIok.mk1 (.nilFunc) _ (by kernel_rfl) rfl ⟨_, rfl, rfl⟩ rfl rfl ⟨.inl ⟨rfl, rfl⟩, trivial⟩ (by decide) Try.underlying132 rfl trivial, ?_⟩   -- func([]int, func(int) bool) int
  refine ⟨TIok.mk1 (.nilFunc) _ (by kernel_rfl) rfl ⟨_, rfl, rfl⟩ rfl rfl ⟨.inl ⟨rfl, rfl⟩, trivial⟩ (by decide) Try.underlying133 rfl trivial, ?_⟩   -- func(impl.Item, impl.Item) bool
  refine ⟨TIok.mk1 (.nilFunc) _ (by kernel_rfl) rfl ⟨_, rfl, rfl⟩ rfl rfl ⟨.inl ⟨rfl, rfl⟩, trivial⟩ (by decide) Try.underlying134 rfl trivial, ?_⟩   -- func(impl.Chan, impl.Chan) bool
  refine ⟨TIok.mk1 (.nilFunc) _ (by kernel_rfl) rfl ⟨_, rfl, rfl⟩ rfl rfl ⟨.inl ⟨rfl, rfl⟩, trivial⟩ (by decide) Try.underlying135 rfl trivial, ?_⟩   -- func(impl.Mutex, impl.Mutex) bool
  refine ⟨TIok.mk1 (.nilFunc) _ (by kernel_rfl) rfl ⟨_, rfl, rfl⟩ rfl rfl ⟨.inl ⟨rfl, rfl⟩, trivial⟩ (by decide) Try.underlying136 rfl trivial, ?_⟩   -- func([]impl.Item, int) int
  refine ⟨TIok.mk1 (.nilFunc) _ (by kernel_rfl) rfl ⟨_, rfl, rfl⟩ rfl rfl ⟨.inl ⟨rfl, rfl⟩, trivial⟩ (by decide) Try.underlying137 rfl trivial, ?_⟩   -- func([]impl.Waiter, int) int
  refine ⟨TIok.mk1 (.nilFunc) _ (by kernel_rfl) rfl ⟨_, rfl, rfl⟩ rfl rfl ⟨.inl ⟨rfl, rfl⟩, trivial⟩ (by decide) Try.underlying138 rfl trivial, ?_⟩   -- func([]laws.Case, int) int
  refine ⟨TIok.mk1 (.nilFunc) _ (by kernel_rfl) rfl ⟨_, rfl, rfl⟩ rfl rfl ⟨.inl ⟨rfl, rfl⟩, trivial⟩ (by decide) Try.underlying139 rfl trivial, ?_⟩   -- func([]laws.Instr, int) int
  refine ⟨TIok.mk1 (.nilFunc) _ (by kernel_rfl) rfl ⟨_, rfl, rfl⟩ rfl rfl ⟨.inl ⟨rfl, rfl⟩, trivial⟩ (by decide) Try.underlying140 rfl trivial, ?_⟩   -- func([]laws.Case) []impl.Case
  refine ⟨TIok.mk1 (.nilFunc) _ (by kernel_rfl) rfl ⟨_, rfl, rfl⟩ rfl rfl ⟨.inl ⟨rfl, rfl⟩, trivial⟩ (by decide) Try.underlying141 rfl trivial, ?_⟩   -- func([]laws.Instr) []impl.Instr
  refine ⟨TIok.mk1 (.nilFunc) _ (by kernel_rfl) rfl ⟨_, rfl, rfl⟩ rfl rfl ⟨.inl ⟨rfl, rfl⟩, trivial⟩ (by decide) Try.underlying142 rfl trivial, ?_⟩   -- func([]impl.Case, []impl.Case) bool
  refine ⟨TIok.mk1 (.nilFunc) _ (by kernel_rfl) rfl ⟨_, rfl, rfl⟩ rfl rfl ⟨.inl ⟨rfl, rfl⟩, trivial⟩ (by decide) Try.underlying143 rfl trivial, ?_⟩   -- func([]impl.Instr, []impl.Instr) bool
  refine ⟨TIok.mk1 (.nilFunc) _ (by kernel_rfl) rfl ⟨_, rfl, rfl⟩ rfl rfl ⟨.inl ⟨rfl, rfl⟩, trivial⟩ (by decide) Try.underlying144 rfl trivial, ?_⟩   -- func(impl.Instr, int) bool
  refine ⟨TIok.mk1 (.nilFunc) _ (by kernel_rfl) rfl ⟨_, rfl, rfl⟩ rfl rfl ⟨.inl ⟨rfl, rfl⟩, trivial⟩ (by decide) Try.underlying145 rfl trivial, ?_⟩   -- func([]uint8) []uint8
  refine ⟨TIok.mk1 (.nilFunc) _ (by kernel_rfl) rfl ⟨_, rfl, rfl⟩ rfl rfl ⟨.inl ⟨rfl, rfl⟩, trivial⟩ (by decide) Try.underlying146 rfl trivial, ?_⟩   -- func([]impl.Waiter, []impl.Waiter) bool
  refine ⟨TIok.mk1 (.agg #[.int .i64 0, .int .i64 0, .int .i64 0]) _ (by kernel_rfl) rfl rfl rfl rfl ⟨.inl ⟨rfl, rfl⟩, .inl ⟨rfl, rfl⟩, .inl ⟨rfl, rfl⟩, trivial⟩ (by decide) Try.underlying147 rfl ⟨_, rfl, rfl⟩, ?_⟩   -- struct  G int; Case int; Val int 
  refine ⟨TIok.mk1 (.agg #[.int .i64 0, .int .i64 0, .int .i64 0]) _ (by kernel_rfl) rfl rfl rfl rfl ⟨.inl ⟨rfl, rfl⟩, .inl ⟨rfl, rfl⟩, .inl ⟨rfl, rfl⟩, trivial⟩ (by decide) Try.underlying148 rfl ⟨_, rfl, rfl⟩, ?_⟩   -- impl.Waiter
  refine ⟨TIok.mk1 (.nilFunc) _ (by kernel_rfl) rfl ⟨_, rfl, rfl⟩ rfl rfl ⟨.inl ⟨rfl, rfl⟩, trivial⟩ (by decide) Try.underlying149 rfl trivial, ?_⟩   -- func(laws.Case) impl.Case
  refine ⟨TIok.mk1 (.agg #[.bool false, .int .i64 0, .int .i64 0, .int .i64 0, .int .i64 0]) _ (by kernel_rfl) rfl rfl rfl rfl ⟨.inl ⟨rfl, rfl⟩, .inl ⟨rfl, rfl⟩, .inl ⟨rfl, rfl⟩, .inl ⟨rfl, rfl⟩, .inl ⟨rfl, rfl⟩, trivial⟩ (by decide) Try.underlying150 rfl ⟨_, rfl, rfl⟩, ?_⟩   -- laws.Case
  refine ⟨TIok.mk1 (.nilFunc) _ (by kernel_rfl) rfl ⟨_, rfl, rfl⟩ rfl rfl ⟨.inl ⟨rfl, rfl⟩, trivial⟩ (by decide) Try.underlying151 rfl trivial, ?_⟩   -- func(laws.Instr) impl.Instr
  refine ⟨TIok.mk1 (.agg #[.int .i64 0, .int .i64 0, .int .i64 0, .int .i64 0]) _ (by kernel_rfl) rfl rfl rfl rfl ⟨.inl ⟨rfl, rfl⟩, .inl ⟨rfl, rfl⟩, .inl ⟨rfl, rfl⟩, .inl ⟨rfl, rfl⟩, trivial⟩ (by decide) Try.underlying152 rfl ⟨_, rfl, rfl⟩, ?_⟩   -- laws.Instr
  refine ⟨TIok.mk1 (.nilFunc) _ (by kernel_rfl) rfl ⟨_, rfl, rfl⟩ rfl rfl ⟨.inl ⟨rfl, rfl⟩, trivial⟩ (by decide) Try.underlying153 rfl trivial, ?_⟩   -- func(impl.Case, impl.Case) bool
  refine ⟨TIok.mk1 (.nilFunc) _ (by kernel_rfl) rfl ⟨_, rfl, rfl⟩ rfl rfl ⟨.inl ⟨rfl, rfl⟩, trivial⟩ (by decide) Try.underlying154 rfl trivial, ?_⟩   -- func(impl.Instr, impl.Instr) bool
  refine ⟨TIok.mk1 (.nilFunc) _ (by kernel_rfl) rfl ⟨_, rfl, rfl⟩ rfl rfl ⟨.inl ⟨rfl, rfl⟩, trivial⟩ (by decide) Try.underlying155 rfl trivial, ?_⟩   -- func(impl.Waiter, impl.Waiter) bool
  refine ⟨TIok.mk1 (.nilFunc) _ (by kernel_rfl) rfl ⟨_, rfl, rfl⟩ rfl rfl ⟨.inl ⟨rfl, rfl⟩, trivial⟩ (by decide) Try.underlying156 rfl trivial, ?_⟩   -- func() string
  refine ⟨TIok.mk1 (.nilFunc) _ (by kernel_rfl) rfl ⟨_, rfl, rfl⟩ rfl rfl ⟨.inl ⟨rfl, rfl⟩, trivial⟩ (by decide) Try.underlying162 rfl trivial, ?_⟩   -- func() int
  refine ⟨TIok.mk1 (.int .u32 0) _ (by kernel_rfl) rfl ⟨_, rfl, rfl⟩ rfl rfl ⟨.inl ⟨rfl, rfl⟩, trivial⟩ (by decide) Try.underlying163 rfl rfl, ?_⟩   -- uint32
  refine ⟨TIok.mk1 (.nilFunc) _ (by kernel_rfl) rfl ⟨_, rfl, rfl⟩ rfl rfl ⟨.inl ⟨rfl, rfl⟩, trivial⟩ (by decide) Try.underlying166 rfl trivial, ?_⟩   -- func(unsafe.Pointer, unsafe.Pointer) boo
  refine ⟨TIok.mk1 (.pointer none) _ (by kernel_rfl) rfl ⟨_, rfl, rfl⟩ rfl rfl ⟨.inl ⟨rfl, rfl⟩, trivial⟩ (by decide) Try.underlying167 rfl trivial, ?_⟩   -- *uint8
  exact trivial
def cx : Ctx := ⟨tt, Spec Try.prog, [20, 21, 35, 52, 53, 75, 76, 77, 94, 95, 106, 107], []⟩
theorem cx_ok : CtxOk Try.prog cx := ⟨tt_out tt_all, fun _ _ _ h => h⟩
theorem mixed : Try.prog.follows .mixedOrders = true := by kernel_rfl
/-- A function's contract, by its body. -/
theorem fn {f : Nat} {fn : Func} {args : List Ar} {ts : List T} (hf : Try.prog.funcs[f]? = some fn) (h : Fn cx fn args ts) (hn : (fn.name == "runtime.NumGoroutine") = false := by decide) : Spec Try.prog f args ts := spec_fn mixed cx_ok hf hn h
end Go.Proofs.Ytbofjpmighijhaa.E
