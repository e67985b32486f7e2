/- The types of the translation, as a table. -/
import Derived.Test.YtbgeagbgfioaaaaGreatAbE
import Derived.Attr
import Derived.Test.YtbgeagbgfioaaaaGreatProg
namespace Go.Proofs.YtbgeagbgfioaaaaGreat.AB
open Go
set_option maxRecDepth 100000
def T : Tab := ⟨
  [(3, ⟨.int .i64, 1, 8, [.int .i64 0], []⟩),
   (4, ⟨.bool, 1, 1, [.bool false], []⟩),
   (5, ⟨.int .u8, 1, 1, [.int .u8 0], []⟩),
   (9, ⟨.str, 1, 16, [.string ⟨#[]⟩], []⟩),
   (1, ⟨.func, 1, 8, [.nilFunc], []⟩),
   (2, ⟨.int .i64, 1, 8, [.int .i64 0], []⟩),
   (6, ⟨.int .u8, 1, 1, [.int .u8 0], []⟩),
   (7, ⟨.struct [(0, 1, false), (1, 1, false), (2, 1, false), (3, 1, false)], 4, 24, [.int .i64 0, .int .i64 0, .bool false, .int .u8 0], []⟩),
   (8, ⟨.struct [(0, 1, false), (1, 1, false), (2, 1, false), (3, 1, false)], 4, 24, [.int .i64 0, .int .i64 0, .bool false, .int .u8 0], []⟩),
   (10, ⟨.str, 1, 16, [.string ⟨#[]⟩], []⟩),
   (11, ⟨.str, 1, 16, [.string ⟨#[]⟩], []⟩),
   (12, ⟨.int .u64, 1, 8, [.int .u64 0], []⟩),
   (13, ⟨.struct [(0, 1, false), (1, 1, false)], 2, 24, [.string ⟨#[]⟩, .int .u64 0], []⟩),
   (14, ⟨.struct [(0, 1, false), (1, 1, false)], 2, 24, [.string ⟨#[]⟩, .int .u64 0], []⟩),
   (15, ⟨.ptr 154, 1, 8, [.pointer none], []⟩),
   (16, ⟨.ptr 157, 1, 8, [.pointer none], []⟩),
   (17, ⟨.ptr 164, 1, 8, [.pointer none], []⟩),
   (18, ⟨.struct [(0, 1, false)], 1, 8, [.pointer none], []⟩),
   (19, ⟨.struct [(0, 1, false)], 1, 8, [.pointer none], []⟩),
   (21, ⟨.int .i32, 1, 4, [.int .i32 0], []⟩),
   (22, ⟨.slice 45, 1, 24, [.slice none 0 0], []⟩),
   (23, ⟨.slice 51, 1, 24, [.slice none 0 0], []⟩),
   (24, ⟨.struct [(0, 1, false), (1, 1, false)], 2, 16, [.int .i64 0, .int .i64 0], []⟩),
   (25, ⟨.struct [(0, 1, false), (1, 1, false)], 2, 16, [.int .i64 0, .int .i64 0], [.i, .i]⟩),
   (26, ⟨.func, 1, 8, [.nilFunc], []⟩),
   (27, ⟨.func, 1, 8, [.nilFunc], []⟩),
   (28, ⟨.func, 1, 8, [.nilFunc], []⟩),
   (29, ⟨.slice 64, 1, 24, [.slice none 0 0], []⟩),
   (30, ⟨.func, 1, 8, [.nilFunc], []⟩),
   (31, ⟨.slice 59, 1, 24, [.slice none 0 0], []⟩),
   (32, ⟨.func, 1, 8, [.nilFunc], []⟩),
   (33, ⟨.struct [(0, 1, false), (1, 1, false)], 2, 16, [.int .i64 0, .int .i64 0], [.i, .i]⟩),
   (34, ⟨.func, 1, 8, [.nilFunc], []⟩),
   (35, ⟨.func, 1, 8, [.nilFunc], []⟩),
   (36, ⟨.func, 1, 8, [.nilFunc], []⟩),
   (37, ⟨.func, 1, 8, [.nilFunc], []⟩),
   (38, ⟨.func, 1, 8, [.nilFunc], []⟩),
   (39, ⟨.struct [(0, 1, false), (1, 2, true), (3, 1, false), (4, 2, true), (6, 2, true), (8, 1, false), (9, 1, false)], 10, 80, List.replicate 10 (.int .i64 0), []⟩),
   (40, ⟨.struct [(0, 1, false), (1, 2, true), (3, 1, false), (4, 2, true), (6, 2, true), (8, 1, false), (9, 1, false)], 10, 80, List.replicate 10 (.int .i64 0), [.i, .i, .i, .i, .i, .i, .i, .i, .i, .i]⟩),
   (41, ⟨.struct [(0, 2, true), (2, 1, false)], 3, 24, [.int .i64 0, .int .i64 0, .int .i64 0], []⟩),
   (42, ⟨.struct [(0, 2, true), (2, 1, false)], 3, 24, [.int .i64 0, .int .i64 0, .int .i64 0], [.i, .i, .i]⟩),
   (43, ⟨.slice 3, 1, 24, [.slice none 0 0], []⟩),
   (44, ⟨.struct [(0, 10, true), (10, 3, true), (13, 1, false)], 14, 128, [.int .i64 0, .int .i64 0, .int .i64 0, .int .i64 0, .int .i64 0, .int .i64 0, .int .i64 0, .int .i64 0, .int .i64 0, .int .i64 0, .int .i64 0, .int .i64 0, .int .i64 0, .slice none 0 0], []⟩),
   (45, ⟨.struct [(0, 10, true), (10, 3, true), (13, 1, false)], 14, 128, [.int .i64 0, .int .i64 0, .int .i64 0, .int .i64 0, .int .i64 0, .int .i64 0, .int .i64 0, .int .i64 0, .int .i64 0, .int .i64 0, .int .i64 0, .int .i64 0, .int .i64 0, .slice none 0 0], []⟩),
   (46, ⟨.func, 1, 8, [.nilFunc], []⟩),
   (47, ⟨.slice 9, 1, 24, [.slice none 0 0], []⟩),
   (48, ⟨.struct [(0, 1, false), (1, 1, false), (2, 1, false)], 3, 56, [.int .i64 0, .slice none 0 0, .slice none 0 0], []⟩),
   (49, ⟨.struct [(0, 1, false), (1, 1, false), (2, 1, false)], 3, 56, [.int .i64 0, .slice none 0 0, .slice none 0 0], []⟩),
   (50, ⟨.struct [(0, 10, true), (10, 3, true)], 13, 136, [.int .i64 0, .int .i64 0, .int .i64 0, .int .i64 0, .int .i64 0, .int .i64 0, .int .i64 0, .int .i64 0, .int .i64 0, .int .i64 0, .int .i64 0, .slice none 0 0, .slice none 0 0], []⟩),
   (51, ⟨.struct [(0, 10, true), (10, 3, true)], 13, 136, [.int .i64 0, .int .i64 0, .int .i64 0, .int .i64 0, .int .i64 0, .int .i64 0, .int .i64 0, .int .i64 0, .int .i64 0, .int .i64 0, .int .i64 0, .slice none 0 0, .slice none 0 0], []⟩),
   (52, ⟨.func, 1, 8, [.nilFunc], []⟩),
   (53, ⟨.slice 56, 1, 24, [.slice none 0 0], []⟩),
   (54, ⟨.func, 1, 8, [.nilFunc], []⟩),
   (55, ⟨.struct [(0, 1, false), (1, 2, true), (3, 1, false), (4, 2, true), (6, 2, true), (8, 1, false), (9, 1, false)], 10, 80, List.replicate 10 (.int .i64 0), []⟩),
   (56, ⟨.struct [(0, 1, false), (1, 2, true), (3, 1, false), (4, 2, true), (6, 2, true), (8, 1, false), (9, 1, false)], 10, 80, List.replicate 10 (.int .i64 0), [.i, .i, .i, .i, .i, .i, .i, .i, .i, .i]⟩),
   (57, ⟨.struct [(0, 1, false), (1, 1, false), (2, 1, false)], 3, 56, [.int .i64 0, .slice none 0 0, .slice none 0 0], []⟩),
   (58, ⟨.struct [(0, 10, true), (10, 3, true)], 13, 136, [.int .i64 0, .int .i64 0, .int .i64 0, .int .i64 0, .int .i64 0, .int .i64 0, .int .i64 0, .int .i64 0, .int .i64 0, .int .i64 0, .int .i64 0, .slice none 0 0, .slice none 0 0], []⟩),
   (59, ⟨.struct [(0, 10, true), (10, 3, true)], 13, 136, [.int .i64 0, .int .i64 0, .int .i64 0, .int .i64 0, .int .i64 0, .int .i64 0, .int .i64 0, .int .i64 0, .int .i64 0, .int .i64 0, .int .i64 0, .slice none 0 0, .slice none 0 0], []⟩),
   (60, ⟨.func, 1, 8, [.nilFunc], []⟩),
   (61, ⟨.struct [(0, 2, true), (2, 1, false)], 3, 24, [.int .i64 0, .int .i64 0, .int .i64 0], []⟩),
   (62, ⟨.struct [(0, 2, true), (2, 1, false)], 3, 24, [.int .i64 0, .int .i64 0, .int .i64 0], [.i, .i, .i]⟩),
   (63, ⟨.struct [(0, 10, true), (10, 3, true), (13, 1, false)], 14, 128, [.int .i64 0, .int .i64 0, .int .i64 0, .int .i64 0, .int .i64 0, .int .i64 0, .int .i64 0, .int .i64 0, .int .i64 0, .int .i64 0, .int .i64 0, .int .i64 0, .int .i64 0, .slice none 0 0], []⟩),
   (64, ⟨.struct [(0, 10, true), (10, 3, true), (13, 1, false)], 14, 128, [.int .i64 0, .int .i64 0, .int .i64 0, .int .i64 0, .int .i64 0, .int .i64 0, .int .i64 0, .int .i64 0, .int .i64 0, .int .i64 0, .int .i64 0, .int .i64 0, .int .i64 0, .slice none 0 0], []⟩),
   (65, ⟨.func, 1, 8, [.nilFunc], []⟩),
   (66, ⟨.func, 1, 8, [.nilFunc], []⟩),
   (67, ⟨.func, 1, 8, [.nilFunc], []⟩),
   (68, ⟨.func, 1, 8, [.nilFunc], []⟩),
   (69, ⟨.func, 1, 8, [.nilFunc], []⟩),
   (70, ⟨.func, 1, 8, [.nilFunc], []⟩),
   (71, ⟨.func, 1, 8, [.nilFunc], []⟩),
   (72, ⟨.func, 1, 8, [.nilFunc], []⟩),
   (73, ⟨.func, 1, 8, [.nilFunc], []⟩),
   (74, ⟨.func, 1, 8, [.nilFunc], []⟩),
   (75, ⟨.func, 1, 8, [.nilFunc], []⟩),
   (76, ⟨.func, 1, 8, [.nilFunc], []⟩),
   (77, ⟨.func, 1, 8, [.nilFunc], []⟩),
   (78, ⟨.func, 1, 8, [.nilFunc], []⟩),
   (79, ⟨.func, 1, 8, [.nilFunc], []⟩),
   (80, ⟨.func, 1, 8, [.nilFunc], []⟩),
   (81, ⟨.func, 1, 8, [.nilFunc], []⟩),
   (82, ⟨.func, 1, 8, [.nilFunc], []⟩),
   (83, ⟨.func, 1, 8, [.nilFunc], []⟩),
   (84, ⟨.func, 1, 8, [.nilFunc], []⟩),
   (85, ⟨.func, 1, 8, [.nilFunc], []⟩),
   (86, ⟨.func, 1, 8, [.nilFunc], []⟩),
   (87, ⟨.func, 1, 8, [.nilFunc], []⟩),
   (88, ⟨.func, 1, 8, [.nilFunc], []⟩),
   (89, ⟨.func, 1, 8, [.nilFunc], []⟩),
   (90, ⟨.func, 1, 8, [.nilFunc], []⟩),
   (91, ⟨.func, 1, 8, [.nilFunc], []⟩),
   (92, ⟨.func, 1, 8, [.nilFunc], []⟩),
   (93, ⟨.func, 1, 8, [.nilFunc], []⟩),
   (94, ⟨.func, 1, 8, [.nilFunc], []⟩),
   (95, ⟨.func, 1, 8, [.nilFunc], []⟩),
   (96, ⟨.func, 1, 8, [.nilFunc], []⟩),
   (97, ⟨.func, 1, 8, [.nilFunc], []⟩),
   (98, ⟨.func, 1, 8, [.nilFunc], []⟩),
   (99, ⟨.slice 47, 1, 24, [.slice none 0 0], []⟩),
   (100, ⟨.func, 1, 8, [.nilFunc], []⟩),
   (101, ⟨.func, 1, 8, [.nilFunc], []⟩),
   (102, ⟨.slice 62, 1, 24, [.slice none 0 0], []⟩),
   (104, ⟨.func, 1, 8, [.nilFunc], []⟩),
   (105, ⟨.func, 1, 8, [.nilFunc], []⟩),
   (106, ⟨.func, 1, 8, [.nilFunc], []⟩),
   (107, ⟨.func, 1, 8, [.nilFunc], []⟩),
   (108, ⟨.func, 1, 8, [.nilFunc], []⟩),
   (109, ⟨.func, 1, 8, [.nilFunc], []⟩),
   (110, ⟨.func, 1, 8, [.nilFunc], []⟩),
   (111, ⟨.func, 1, 8, [.nilFunc], []⟩),
   (112, ⟨.int .u64, 1, 8, [.int .u64 0], []⟩),
   (113, ⟨.func, 1, 8, [.nilFunc], []⟩),
   (114, ⟨.slice 5, 1, 24, [.slice none 0 0], []⟩),
   (115, ⟨.func, 1, 8, [.nilFunc], []⟩),
   (116, ⟨.func, 1, 8, [.nilFunc], []⟩),
   (117, ⟨.int .u32, 1, 4, [.int .u32 0], []⟩),
   (118, ⟨.arr 8 117, 8, 32, [.int .u32 0, .int .u32 0, .int .u32 0, .int .u32 0, .int .u32 0, .int .u32 0, .int .u32 0, .int .u32 0], []⟩),
   (119, ⟨.func, 1, 8, [.nilFunc], []⟩),
   (120, ⟨.arr 64 117, 64, 256, List.replicate 64 (.int .u32 0), []⟩),
   (121, ⟨.func, 1, 8, [.nilFunc], []⟩),
   (122, ⟨.func, 1, 8, [.nilFunc], []⟩),
   (123, ⟨.func, 1, 8, [.nilFunc], []⟩),
   (124, ⟨.func, 1, 8, [.nilFunc], []⟩),
   (125, ⟨.func, 1, 8, [.nilFunc], []⟩),
   (126, ⟨.func, 1, 8, [.nilFunc], []⟩),
   (127, ⟨.func, 1, 8, [.nilFunc], []⟩),
   (128, ⟨.slice 117, 1, 24, [.slice none 0 0], []⟩),
   (129, ⟨.func, 1, 8, [.nilFunc], []⟩),
   (130, ⟨.func, 1, 8, [.nilFunc], []⟩),
   (131, ⟨.func, 1, 8, [.nilFunc], []⟩),
   (133, ⟨.func, 1, 8, [.nilFunc], []⟩),
   (134, ⟨.func, 1, 8, [.nilFunc], []⟩),
   (135, ⟨.ptr 137, 1, 8, [.pointer none], []⟩),
   (136, ⟨.struct [(0, 1, false), (1, 1, false)], 2, 32, [.pointer none, .slice none 0 0], []⟩),
   (137, ⟨.struct [(0, 1, false), (1, 1, false)], 2, 32, [.pointer none, .slice none 0 0], []⟩),
   (138, ⟨.func, 1, 8, [.nilFunc], []⟩),
   (142, ⟨.func, 1, 8, [.nilFunc], []⟩),
   (143, ⟨.func, 1, 8, [.nilFunc], []⟩),
   (145, ⟨.func, 1, 8, [.nilFunc], []⟩),
   (146, ⟨.int .u64, 1, 8, [.int .u64 0], []⟩),
   (148, ⟨.func, 1, 8, [.nilFunc], []⟩),
   (149, ⟨.ptr 5, 1, 8, [.pointer none], []⟩),
   (151, ⟨.func, 1, 8, [.nilFunc], []⟩),
   (152, ⟨.func, 1, 8, [.nilFunc], []⟩),
   (153, ⟨.struct [(0, 1, false), (1, 1, false), (2, 1, false), (3, 1, false)], 4, 40, [.pointer none, .pointer none, .pointer none, .string ⟨#[]⟩], []⟩),
   (154, ⟨.struct [(0, 1, false), (1, 1, false), (2, 1, false), (3, 1, false)], 4, 40, [.pointer none, .pointer none, .pointer none, .string ⟨#[]⟩], []⟩),
   (158, ⟨.int .u8, 1, 1, [.int .u8 0], []⟩),
   (159, ⟨.int .u8, 1, 1, [.int .u8 0], []⟩),
   (160, ⟨.func, 1, 8, [.nilFunc], []⟩),
   (161, ⟨.int .i32, 1, 4, [.int .i32 0], []⟩),
   (162, ⟨.int .i32, 1, 4, [.int .i32 0], []⟩),
   (163, ⟨.struct [(0, 1, false), (1, 1, false), (2, 1, false), (3, 1, false), (4, 1, false), (5, 1, false), (6, 1, false), (7, 1, false), (8, 1, false), (9, 1, false), (10, 1, false)], 11, 48, [.int .u64 0, .int .u64 0, .int .u32 0, .int .u8 0, .int .u8 0, .int .u8 0, .int .u8 0, .nilFunc, .pointer none, .int .i32 0, .int .i32 0], []⟩),
   (164, ⟨.struct [(0, 1, false), (1, 1, false), (2, 1, false), (3, 1, false), (4, 1, false), (5, 1, false), (6, 1, false), (7, 1, false), (8, 1, false), (9, 1, false), (10, 1, false)], 11, 48, [.int .u64 0, .int .u64 0, .int .u32 0, .int .u8 0, .int .u8 0, .int .u8 0, .int .u8 0, .nilFunc, .pointer none, .int .i32 0, .int .i32 0], []⟩)],
  [108, 109, 110, 111, 115, 116, 134]⟩
theorem T_ok : Tab.ok Tryz.prog T = true := by kernel_rfl
theorem T_29 : T.at 29 = some ⟨.slice 64, 1, 24, [.slice none 0 0], []⟩ := rfl
attribute [go_sem] T_29
theorem T_31 : T.at 31 = some ⟨.slice 59, 1, 24, [.slice none 0 0], []⟩ := rfl
attribute [go_sem] T_31
theorem T_33 : T.at 33 = some ⟨.struct [(0, 1, false), (1, 1, false)], 2, 16, [.int .i64 0, .int .i64 0], [.i, .i]⟩ := rfl
attribute [go_sem] T_33
theorem T_53 : T.at 53 = some ⟨.slice 56, 1, 24, [.slice none 0 0], []⟩ := rfl
attribute [go_sem] T_53
theorem T_55 : T.at 55 = some ⟨.struct [(0, 1, false), (1, 2, true), (3, 1, false), (4, 2, true), (6, 2, true), (8, 1, false), (9, 1, false)], 10, 80, List.replicate 10 (.int .i64 0), []⟩ := rfl
attribute [go_sem] T_55
theorem T_56 : T.at 56 = some ⟨.struct [(0, 1, false), (1, 2, true), (3, 1, false), (4, 2, true), (6, 2, true), (8, 1, false), (9, 1, false)], 10, 80, List.replicate 10 (.int .i64 0), [.i, .i, .i, .i, .i, .i, .i, .i, .i, .i]⟩ := rfl
attribute [go_sem] T_56
theorem T_57 : T.at 57 = some ⟨.struct [(0, 1, false), (1, 1, false), (2, 1, false)], 3, 56, [.int .i64 0, .slice none 0 0, .slice none 0 0], []⟩ := rfl
attribute [go_sem] T_57
theorem T_58 : T.at 58 = some ⟨.struct [(0, 10, true), (10, 3, true)], 13, 136, [.int .i64 0, .int .i64 0, .int .i64 0, .int .i64 0, .int .i64 0, .int .i64 0, .int .i64 0, .int .i64 0, .int .i64 0, .int .i64 0, .int .i64 0, .slice none 0 0, .slice none 0 0], []⟩ := rfl
attribute [go_sem] T_58
theorem T_59 : T.at 59 = some ⟨.struct [(0, 10, true), (10, 3, true)], 13, 136, [.int .i64 0, .int .i64 0, .int .i64 0, .int .i64 0, .int .i64 0, .int .i64 0, .int .i64 0, .int .i64 0, .int .i64 0, .int .i64 0, .int .i64 0, .slice none 0 0, .slice none 0 0], []⟩ := rfl
attribute [go_sem] T_59
theorem T_61 : T.at 61 = some ⟨.struct [(0, 2, true), (2, 1, false)], 3, 24, [.int .i64 0, .int .i64 0, .int .i64 0], []⟩ := rfl
attribute [go_sem] T_61
theorem T_62 : T.at 62 = some ⟨.struct [(0, 2, true), (2, 1, false)], 3, 24, [.int .i64 0, .int .i64 0, .int .i64 0], [.i, .i, .i]⟩ := rfl
attribute [go_sem] T_62
theorem T_63 : T.at 63 = some ⟨.struct [(0, 10, true), (10, 3, true), (13, 1, false)], 14, 128, [.int .i64 0, .int .i64 0, .int .i64 0, .int .i64 0, .int .i64 0, .int .i64 0, .int .i64 0, .int .i64 0, .int .i64 0, .int .i64 0, .int .i64 0, .int .i64 0, .int .i64 0, .slice none 0 0], []⟩ := rfl
attribute [go_sem] T_63
theorem T_64 : T.at 64 = some ⟨.struct [(0, 10, true), (10, 3, true), (13, 1, false)], 14, 128, [.int .i64 0, .int .i64 0, .int .i64 0, .int .i64 0, .int .i64 0, .int .i64 0, .int .i64 0, .int .i64 0, .int .i64 0, .int .i64 0, .int .i64 0, .int .i64 0, .int .i64 0, .slice none 0 0], []⟩ := rfl
attribute [go_sem] T_64
theorem T_102 : T.at 102 = some ⟨.slice 62, 1, 24, [.slice none 0 0], []⟩ := rfl
attribute [go_sem] T_102
end Go.Proofs.YtbgeagbgfioaaaaGreat.AB
