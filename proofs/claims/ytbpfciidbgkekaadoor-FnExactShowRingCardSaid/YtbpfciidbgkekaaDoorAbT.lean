/- The types of the translation, as a table. -/
import Derived.Test.YtbpfciidbgkekaaDoorAbE
import Derived.Attr
import Derived.Test.YtbpfciidbgkekaaDoorProg
namespace Go.Proofs.YtbpfciidbgkekaaDoor.AB
open Go
set_option maxRecDepth 100000
def T : Tab := ⟨
  [(3, ⟨.int .i64, 1, 8, [.int .i64 0], []⟩),
   (4, ⟨.bool, 1, 1, [.bool false], []⟩),
   (5, ⟨.int .u8, 1, 1, [.int .u8 0], []⟩),
   (9, ⟨.str, 1, 16, [.string ⟨#[]⟩], []⟩),
   (1, ⟨.func, 1, 8, [.nilFunc], []⟩),
   (2, ⟨.int .i64, 1, 8, [.int .i64 0], []⟩),
   (6, ⟨.int .u8, 1, 1, [.int .u8 0], []⟩),
   (7, ⟨.struct [(0, 1, false), (1, 1, false), (2, 1, false), (3, 1, false)], 4, 24, [.int .i64 0, .int .i64 0, .bool false, .int .u8 0], []⟩),
   (8, ⟨.struct [(0, 1, false), (1, 1, false), (2, 1, false), (3, 1, false)], 4, 24, [.int .i64 0, .int .i64 0, .bool false, .int .u8 0], []⟩),
   (10, ⟨.str, 1, 16, [.string ⟨#[]⟩], []⟩),
   (11, ⟨.str, 1, 16, [.string ⟨#[]⟩], []⟩),
   (12, ⟨.int .u64, 1, 8, [.int .u64 0], []⟩),
   (13, ⟨.struct [(0, 1, false), (1, 1, false)], 2, 24, [.string ⟨#[]⟩, .int .u64 0], []⟩),
   (14, ⟨.struct [(0, 1, false), (1, 1, false)], 2, 24, [.string ⟨#[]⟩, .int .u64 0], []⟩),
   (15, ⟨.ptr 165, 1, 8, [.pointer none], []⟩),
   (16, ⟨.ptr 168, 1, 8, [.pointer none], []⟩),
   (17, ⟨.ptr 177, 1, 8, [.pointer none], []⟩),
   (18, ⟨.struct [(0, 1, false)], 1, 8, [.pointer none], []⟩),
   (19, ⟨.struct [(0, 1, false)], 1, 8, [.pointer none], []⟩),
   (21, ⟨.int .i32, 1, 4, [.int .i32 0], []⟩),
   (22, ⟨.slice 71, 1, 24, [.slice none 0 0], []⟩),
   (23, ⟨.struct [(0, 1, false), (1, 1, false), (2, 1, false), (3, 1, false), (4, 1, false)], 5, 48, [.bool false, .slice none 0 0, .int .i64 0, .bool false, .bool false], []⟩),
   (24, ⟨.struct [(0, 1, false), (1, 1, false), (2, 1, false), (3, 1, false), (4, 1, false)], 5, 48, [.bool false, .slice none 0 0, .int .i64 0, .bool false, .bool false], []⟩),
   (25, ⟨.func, 1, 8, [.nilFunc], []⟩),
   (26, ⟨.func, 1, 8, [.nilFunc], []⟩),
   (27, ⟨.slice 77, 1, 24, [.slice none 0 0], []⟩),
   (28, ⟨.struct [(0, 1, false), (1, 1, false), (2, 1, false), (3, 1, false), (4, 1, false)], 5, 48, [.bool false, .slice none 0 0, .int .i64 0, .bool false, .bool false], []⟩),
   (29, ⟨.struct [(0, 1, false), (1, 1, false), (2, 1, false), (3, 1, false), (4, 1, false)], 5, 48, [.bool false, .slice none 0 0, .int .i64 0, .bool false, .bool false], []⟩),
   (30, ⟨.func, 1, 8, [.nilFunc], []⟩),
   (31, ⟨.func, 1, 8, [.nilFunc], []⟩),
   (32, ⟨.func, 1, 8, [.nilFunc], []⟩),
   (33, ⟨.slice 87, 1, 24, [.slice none 0 0], []⟩),
   (34, ⟨.struct [(0, 1, false)], 1, 24, [.slice none 0 0], []⟩),
   (35, ⟨.struct [(0, 1, false)], 1, 24, [.slice none 0 0], []⟩),
   (36, ⟨.func, 1, 8, [.nilFunc], []⟩),
   (37, ⟨.func, 1, 8, [.nilFunc], []⟩),
   (38, ⟨.slice 60, 1, 24, [.slice none 0 0], []⟩),
   (39, ⟨.struct [(0, 1, false)], 1, 24, [.slice none 0 0], []⟩),
   (40, ⟨.struct [(0, 1, false)], 1, 24, [.slice none 0 0], []⟩),
   (41, ⟨.func, 1, 8, [.nilFunc], []⟩),
   (42, ⟨.func, 1, 8, [.nilFunc], []⟩),
   (43, ⟨.func, 1, 8, [.nilFunc], []⟩),
   (44, ⟨.func, 1, 8, [.nilFunc], []⟩),
   (45, ⟨.func, 1, 8, [.nilFunc], []⟩),
   (46, ⟨.slice 52, 1, 24, [.slice none 0 0], []⟩),
   (47, ⟨.func, 1, 8, [.nilFunc], []⟩),
   (48, ⟨.func, 1, 8, [.nilFunc], []⟩),
   (49, ⟨.struct [(0, 1, false), (1, 1, false)], 2, 16, [.int .i64 0, .int .i64 0], []⟩),
   (50, ⟨.struct [(0, 1, false), (1, 1, false)], 2, 16, [.int .i64 0, .int .i64 0], [.i, .i]⟩),
   (51, ⟨.struct [(0, 1, false), (1, 2, true), (3, 1, false), (4, 2, true), (6, 2, true), (8, 1, false), (9, 1, false)], 10, 80, List.replicate 10 (.int .i64 0), []⟩),
   (52, ⟨.struct [(0, 1, false), (1, 2, true), (3, 1, false), (4, 2, true), (6, 2, true), (8, 1, false), (9, 1, false)], 10, 80, List.replicate 10 (.int .i64 0), [.i, .i, .i, .i, .i, .i, .i, .i, .i, .i]⟩),
   (53, ⟨.func, 1, 8, [.nilFunc], []⟩),
   (54, ⟨.func, 1, 8, [.nilFunc], []⟩),
   (55, ⟨.func, 1, 8, [.nilFunc], []⟩),
   (56, ⟨.slice 3, 1, 24, [.slice none 0 0], []⟩),
   (57, ⟨.func, 1, 8, [.nilFunc], []⟩),
   (58, ⟨.slice 118, 1, 24, [.slice none 0 0], []⟩),
   (59, ⟨.struct [(0, 1, false), (1, 1, false), (2, 1, false), (3, 1, false), (4, 1, false), (5, 1, false)], 6, 96, [.int .i64 0, .bool false, .int .i64 0, .slice none 0 0, .slice none 0 0, .slice none 0 0], []⟩),
   (60, ⟨.struct [(0, 1, false), (1, 1, false), (2, 1, false), (3, 1, false), (4, 1, false), (5, 1, false)], 6, 96, [.int .i64 0, .bool false, .int .i64 0, .slice none 0 0, .slice none 0 0, .slice none 0 0], []⟩),
   (61, ⟨.func, 1, 8, [.nilFunc], []⟩),
   (62, ⟨.func, 1, 8, [.nilFunc], []⟩),
   (63, ⟨.func, 1, 8, [.nilFunc], []⟩),
   (64, ⟨.func, 1, 8, [.nilFunc], []⟩),
   (65, ⟨.struct [(0, 1, false), (1, 1, false)], 2, 16, [.int .i64 0, .int .i64 0], [.i, .i]⟩),
   (66, ⟨.struct [(0, 1, false), (1, 2, true), (3, 1, false), (4, 2, true), (6, 2, true), (8, 1, false), (9, 1, false)], 10, 80, List.replicate 10 (.int .i64 0), []⟩),
   (67, ⟨.struct [(0, 1, false), (1, 2, true), (3, 1, false), (4, 2, true), (6, 2, true), (8, 1, false), (9, 1, false)], 10, 80, List.replicate 10 (.int .i64 0), [.i, .i, .i, .i, .i, .i, .i, .i, .i, .i]⟩),
   (68, ⟨.struct [(0, 2, true), (2, 1, false)], 3, 24, [.int .i64 0, .int .i64 0, .int .i64 0], []⟩),
   (69, ⟨.struct [(0, 2, true), (2, 1, false)], 3, 24, [.int .i64 0, .int .i64 0, .int .i64 0], [.i, .i, .i]⟩),
   (70, ⟨.struct [(0, 10, true), (10, 3, true), (13, 1, false)], 14, 128, [.int .i64 0, .int .i64 0, .int .i64 0, .int .i64 0, .int .i64 0, .int .i64 0, .int .i64 0, .int .i64 0, .int .i64 0, .int .i64 0, .int .i64 0, .int .i64 0, .int .i64 0, .slice none 0 0], []⟩),
   (71, ⟨.struct [(0, 10, true), (10, 3, true), (13, 1, false)], 14, 128, [.int .i64 0, .int .i64 0, .int .i64 0, .int .i64 0, .int .i64 0, .int .i64 0, .int .i64 0, .int .i64 0, .int .i64 0, .int .i64 0, .int .i64 0, .int .i64 0, .int .i64 0, .slice none 0 0], []⟩),
   (72, ⟨.func, 1, 8, [.nilFunc], []⟩),
   (73, ⟨.slice 5, 1, 24, [.slice none 0 0], []⟩),
   (74, ⟨.struct [(0, 2, true), (2, 1, false)], 3, 24, [.int .i64 0, .int .i64 0, .int .i64 0], []⟩),
   (75, ⟨.struct [(0, 2, true), (2, 1, false)], 3, 24, [.int .i64 0, .int .i64 0, .int .i64 0], [.i, .i, .i]⟩),
   (76, ⟨.struct [(0, 10, true), (10, 3, true), (13, 1, false)], 14, 128, [.int .i64 0, .int .i64 0, .int .i64 0, .int .i64 0, .int .i64 0, .int .i64 0, .int .i64 0, .int .i64 0, .int .i64 0, .int .i64 0, .int .i64 0, .int .i64 0, .int .i64 0, .slice none 0 0], []⟩),
   (77, ⟨.struct [(0, 10, true), (10, 3, true), (13, 1, false)], 14, 128, [.int .i64 0, .int .i64 0, .int .i64 0, .int .i64 0, .int .i64 0, .int .i64 0, .int .i64 0, .int .i64 0, .int .i64 0, .int .i64 0, .int .i64 0, .int .i64 0, .int .i64 0, .slice none 0 0], []⟩),
   (78, ⟨.func, 1, 8, [.nilFunc], []⟩),
   (79, ⟨.func, 1, 8, [.nilFunc], []⟩),
   (80, ⟨.func, 1, 8, [.nilFunc], []⟩),
   (81, ⟨.func, 1, 8, [.nilFunc], []⟩),
   (82, ⟨.func, 1, 8, [.nilFunc], []⟩),
   (83, ⟨.func, 1, 8, [.nilFunc], []⟩),
   (84, ⟨.func, 1, 8, [.nilFunc], []⟩),
   (85, ⟨.slice 115, 1, 24, [.slice none 0 0], []⟩),
   (86, ⟨.struct [(0, 1, false), (1, 1, false), (2, 1, false), (3, 1, false), (4, 1, false), (5, 1, false)], 6, 96, [.int .i64 0, .bool false, .int .i64 0, .slice none 0 0, .slice none 0 0, .slice none 0 0], []⟩),
   (87, ⟨.struct [(0, 1, false), (1, 1, false), (2, 1, false), (3, 1, false), (4, 1, false), (5, 1, false)], 6, 96, [.int .i64 0, .bool false, .int .i64 0, .slice none 0 0, .slice none 0 0, .slice none 0 0], []⟩),
   (88, ⟨.func, 1, 8, [.nilFunc], []⟩),
   (89, ⟨.func, 1, 8, [.nilFunc], []⟩),
   (90, ⟨.func, 1, 8, [.nilFunc], []⟩),
   (91, ⟨.func, 1, 8, [.nilFunc], []⟩),
   (92, ⟨.func, 1, 8, [.nilFunc], []⟩),
   (93, ⟨.func, 1, 8, [.nilFunc], []⟩),
   (94, ⟨.func, 1, 8, [.nilFunc], []⟩),
   (95, ⟨.func, 1, 8, [.nilFunc], []⟩),
   (96, ⟨.func, 1, 8, [.nilFunc], []⟩),
   (97, ⟨.func, 1, 8, [.nilFunc], []⟩),
   (98, ⟨.func, 1, 8, [.nilFunc], []⟩),
   (99, ⟨.func, 1, 8, [.nilFunc], []⟩),
   (100, ⟨.func, 1, 8, [.nilFunc], []⟩),
   (101, ⟨.func, 1, 8, [.nilFunc], []⟩),
   (102, ⟨.func, 1, 8, [.nilFunc], []⟩),
   (103, ⟨.func, 1, 8, [.nilFunc], []⟩),
   (104, ⟨.func, 1, 8, [.nilFunc], []⟩),
   (105, ⟨.func, 1, 8, [.nilFunc], []⟩),
   (106, ⟨.func, 1, 8, [.nilFunc], []⟩),
   (107, ⟨.func, 1, 8, [.nilFunc], []⟩),
   (108, ⟨.int .u64, 1, 8, [.int .u64 0], []⟩),
   (109, ⟨.func, 1, 8, [.nilFunc], []⟩),
   (110, ⟨.func, 1, 8, [.nilFunc], []⟩),
   (111, ⟨.func, 1, 8, [.nilFunc], []⟩),
   (112, ⟨.func, 1, 8, [.nilFunc], []⟩),
   (113, ⟨.slice 150, 1, 24, [.slice none 0 0], []⟩),
   (114, ⟨.struct [(0, 1, false), (1, 1, false)], 2, 32, [.int .i64 0, .slice none 0 0], []⟩),
   (115, ⟨.struct [(0, 1, false), (1, 1, false)], 2, 32, [.int .i64 0, .slice none 0 0], []⟩),
   (116, ⟨.slice 151, 1, 24, [.slice none 0 0], []⟩),
   (117, ⟨.struct [(0, 1, false), (1, 1, false)], 2, 32, [.int .i64 0, .slice none 0 0], []⟩),
   (118, ⟨.struct [(0, 1, false), (1, 1, false)], 2, 32, [.int .i64 0, .slice none 0 0], []⟩),
   (119, ⟨.func, 1, 8, [.nilFunc], []⟩),
   (120, ⟨.func, 1, 8, [.nilFunc], []⟩),
   (121, ⟨.int .i64, 1, 8, [.int .i64 0], []⟩),
   (123, ⟨.func, 1, 8, [.nilFunc], []⟩),
   (124, ⟨.func, 1, 8, [.nilFunc], []⟩),
   (125, ⟨.func, 1, 8, [.nilFunc], []⟩),
   (126, ⟨.func, 1, 8, [.nilFunc], []⟩),
   (128, ⟨.func, 1, 8, [.nilFunc], []⟩),
   (129, ⟨.func, 1, 8, [.nilFunc], []⟩),
   (130, ⟨.int .u32, 1, 4, [.int .u32 0], []⟩),
   (131, ⟨.func, 1, 8, [.nilFunc], []⟩),
   (132, ⟨.int .u64, 1, 8, [.int .u64 0], []⟩),
   (133, ⟨.func, 1, 8, [.nilFunc], []⟩),
   (134, ⟨.func, 1, 8, [.nilFunc], []⟩),
   (135, ⟨.func, 1, 8, [.nilFunc], []⟩),
   (136, ⟨.func, 1, 8, [.nilFunc], []⟩),
   (137, ⟨.int .u64, 1, 8, [.int .u64 0], []⟩),
   (138, ⟨.func, 1, 8, [.nilFunc], []⟩),
   (139, ⟨.func, 1, 8, [.nilFunc], []⟩),
   (140, ⟨.func, 1, 8, [.nilFunc], []⟩),
   (141, ⟨.ptr 3, 1, 8, [.pointer none], []⟩),
   (142, ⟨.func, 1, 8, [.nilFunc], []⟩),
   (143, ⟨.arr 24 5, 24, 24, List.replicate 24 (.int .u8 0), []⟩),
   (144, ⟨.func, 1, 8, [.nilFunc], []⟩),
   (146, ⟨.func, 1, 8, [.nilFunc], []⟩),
   (147, ⟨.func, 1, 8, [.nilFunc], []⟩),
   (148, ⟨.func, 1, 8, [.nilFunc], []⟩),
   (149, ⟨.struct [(0, 1, false), (1, 1, false)], 2, 24, [.string ⟨#[]⟩, .bool false], []⟩),
   (150, ⟨.struct [(0, 1, false), (1, 1, false)], 2, 24, [.string ⟨#[]⟩, .bool false], [.s, .b]⟩),
   (151, ⟨.struct [(0, 1, false), (1, 1, false)], 2, 24, [.string ⟨#[]⟩, .bool false], [.s, .b]⟩),
   (152, ⟨.func, 1, 8, [.nilFunc], []⟩),
   (153, ⟨.ptr 137, 1, 8, [.pointer none], []⟩),
   (155, ⟨.func, 1, 8, [.nilFunc], []⟩),
   (156, ⟨.func, 1, 8, [.nilFunc], []⟩),
   (157, ⟨.func, 1, 8, [.nilFunc], []⟩),
   (158, ⟨.arr 20 132, 20, 160, List.replicate 20 (.int .u64 0), []⟩),
   (159, ⟨.arr 65 5, 65, 65, List.replicate 65 (.int .u8 0), []⟩),
   (160, ⟨.func, 1, 8, [.nilFunc], []⟩),
   (161, ⟨.arr 32 5, 32, 32, List.replicate 32 (.int .u8 0), []⟩),
   (162, ⟨.arr 64 5, 64, 64, List.replicate 64 (.int .u8 0), []⟩),
   (163, ⟨.func, 1, 8, [.nilFunc], []⟩),
   (164, ⟨.struct [(0, 1, false), (1, 1, false), (2, 1, false), (3, 1, false)], 4, 40, [.pointer none, .pointer none, .pointer none, .string ⟨#[]⟩], []⟩),
   (165, ⟨.struct [(0, 1, false), (1, 1, false), (2, 1, false), (3, 1, false)], 4, 40, [.pointer none, .pointer none, .pointer none, .string ⟨#[]⟩], []⟩),
   (169, ⟨.func, 1, 8, [.nilFunc], []⟩),
   (170, ⟨.int .u8, 1, 1, [.int .u8 0], []⟩),
   (171, ⟨.int .u8, 1, 1, [.int .u8 0], []⟩),
   (172, ⟨.func, 1, 8, [.nilFunc], []⟩),
   (173, ⟨.ptr 5, 1, 8, [.pointer none], []⟩),
   (174, ⟨.int .i32, 1, 4, [.int .i32 0], []⟩),
   (175, ⟨.int .i32, 1, 4, [.int .i32 0], []⟩),
   (176, ⟨.struct [(0, 1, false), (1, 1, false), (2, 1, false), (3, 1, false), (4, 1, false), (5, 1, false), (6, 1, false), (7, 1, false), (8, 1, false), (9, 1, false), (10, 1, false)], 11, 48, [.int .u64 0, .int .u64 0, .int .u32 0, .int .u8 0, .int .u8 0, .int .u8 0, .int .u8 0, .nilFunc, .pointer none, .int .i32 0, .int .i32 0], []⟩),
   (177, ⟨.struct [(0, 1, false), (1, 1, false), (2, 1, false), (3, 1, false), (4, 1, false), (5, 1, false), (6, 1, false), (7, 1, false), (8, 1, false), (9, 1, false), (10, 1, false)], 11, 48, [.int .u64 0, .int .u64 0, .int .u32 0, .int .u8 0, .int .u8 0, .int .u8 0, .int .u8 0, .nilFunc, .pointer none, .int .i32 0, .int .i32 0], []⟩)],
  [47, 67, 75, 76, 77, 79, 80, 82, 83, 90, 92]⟩
theorem T_ok : Tab.ok Tryd.prog T = true := by kernel_rfl
theorem T_27 : T.at 27 = some ⟨.slice 77, 1, 24, [.slice none 0 0], []⟩ := rfl
attribute [go_sem] T_27
theorem T_28 : T.at 28 = some ⟨.struct [(0, 1, false), (1, 1, false), (2, 1, false), (3, 1, false), (4, 1, false)], 5, 48, [.bool false, .slice none 0 0, .int .i64 0, .bool false, .bool false], []⟩ := rfl
attribute [go_sem] T_28
theorem T_29 : T.at 29 = some ⟨.struct [(0, 1, false), (1, 1, false), (2, 1, false), (3, 1, false), (4, 1, false)], 5, 48, [.bool false, .slice none 0 0, .int .i64 0, .bool false, .bool false], []⟩ := rfl
attribute [go_sem] T_29
theorem T_38 : T.at 38 = some ⟨.slice 60, 1, 24, [.slice none 0 0], []⟩ := rfl
attribute [go_sem] T_38
theorem T_39 : T.at 39 = some ⟨.struct [(0, 1, false)], 1, 24, [.slice none 0 0], []⟩ := rfl
attribute [go_sem] T_39
theorem T_40 : T.at 40 = some ⟨.struct [(0, 1, false)], 1, 24, [.slice none 0 0], []⟩ := rfl
attribute [go_sem] T_40
theorem T_46 : T.at 46 = some ⟨.slice 52, 1, 24, [.slice none 0 0], []⟩ := rfl
attribute [go_sem] T_46
theorem T_50 : T.at 50 = some ⟨.struct [(0, 1, false), (1, 1, false)], 2, 16, [.int .i64 0, .int .i64 0], [.i, .i]⟩ := rfl
attribute [go_sem] T_50
theorem T_51 : T.at 51 = some ⟨.struct [(0, 1, false), (1, 2, true), (3, 1, false), (4, 2, true), (6, 2, true), (8, 1, false), (9, 1, false)], 10, 80, List.replicate 10 (.int .i64 0), []⟩ := rfl
attribute [go_sem] T_51
theorem T_52 : T.at 52 = some ⟨.struct [(0, 1, false), (1, 2, true), (3, 1, false), (4, 2, true), (6, 2, true), (8, 1, false), (9, 1, false)], 10, 80, List.replicate 10 (.int .i64 0), [.i, .i, .i, .i, .i, .i, .i, .i, .i, .i]⟩ := rfl
attribute [go_sem] T_52
theorem T_58 : T.at 58 = some ⟨.slice 118, 1, 24, [.slice none 0 0], []⟩ := rfl
attribute [go_sem] T_58
theorem T_59 : T.at 59 = some ⟨.struct [(0, 1, false), (1, 1, false), (2, 1, false), (3, 1, false), (4, 1, false), (5, 1, false)], 6, 96, [.int .i64 0, .bool false, .int .i64 0, .slice none 0 0, .slice none 0 0, .slice none 0 0], []⟩ := rfl
attribute [go_sem] T_59
theorem T_60 : T.at 60 = some ⟨.struct [(0, 1, false), (1, 1, false), (2, 1, false), (3, 1, false), (4, 1, false), (5, 1, false)], 6, 96, [.int .i64 0, .bool false, .int .i64 0, .slice none 0 0, .slice none 0 0, .slice none 0 0], []⟩ := rfl
attribute [go_sem] T_60
theorem T_74 : T.at 74 = some ⟨.struct [(0, 2, true), (2, 1, false)], 3, 24, [.int .i64 0, .int .i64 0, .int .i64 0], []⟩ := rfl
attribute [go_sem] T_74
theorem T_75 : T.at 75 = some ⟨.struct [(0, 2, true), (2, 1, false)], 3, 24, [.int .i64 0, .int .i64 0, .int .i64 0], [.i, .i, .i]⟩ := rfl
attribute [go_sem] T_75
theorem T_76 : T.at 76 = some ⟨.struct [(0, 10, true), (10, 3, true), (13, 1, false)], 14, 128, [.int .i64 0, .int .i64 0, .int .i64 0, .int .i64 0, .int .i64 0, .int .i64 0, .int .i64 0, .int .i64 0, .int .i64 0, .int .i64 0, .int .i64 0, .int .i64 0, .int .i64 0, .slice none 0 0], []⟩ := rfl
attribute [go_sem] T_76
theorem T_77 : T.at 77 = some ⟨.struct [(0, 10, true), (10, 3, true), (13, 1, false)], 14, 128, [.int .i64 0, .int .i64 0, .int .i64 0, .int .i64 0, .int .i64 0, .int .i64 0, .int .i64 0, .int .i64 0, .int .i64 0, .int .i64 0, .int .i64 0, .int .i64 0, .int .i64 0, .slice none 0 0], []⟩ := rfl
attribute [go_sem] T_77
theorem T_116 : T.at 116 = some ⟨.slice 151, 1, 24, [.slice none 0 0], []⟩ := rfl
attribute [go_sem] T_116
theorem T_117 : T.at 117 = some ⟨.struct [(0, 1, false), (1, 1, false)], 2, 32, [.int .i64 0, .slice none 0 0], []⟩ := rfl
attribute [go_sem] T_117
theorem T_118 : T.at 118 = some ⟨.struct [(0, 1, false), (1, 1, false)], 2, 32, [.int .i64 0, .slice none 0 0], []⟩ := rfl
attribute [go_sem] T_118
theorem T_151 : T.at 151 = some ⟨.struct [(0, 1, false), (1, 1, false)], 2, 24, [.string ⟨#[]⟩, .bool false], [.s, .b]⟩ := rfl
attribute [go_sem] T_151
end Go.Proofs.YtbpfciidbgkekaaDoor.AB
