/- The types of the translation, as a table. -/
import Derived.Test.YtoemclhjcbcjaaaGreatAbE
import Derived.Attr
import Derived.Test.YtoemclhjcbcjaaaGreatProg
namespace Go.Proofs.YtoemclhjcbcjaaaGreat.AB
open Go
set_option maxRecDepth 100000
def T : Tab := ⟨
  [(3, ⟨.int .i64, 1, 8, [.int .i64 0], []⟩),
   (4, ⟨.bool, 1, 1, [.bool false], []⟩),
   (5, ⟨.int .u8, 1, 1, [.int .u8 0], []⟩),
   (9, ⟨.str, 1, 16, [.string ⟨#[]⟩], []⟩),
   (1, ⟨.func, 1, 8, [.nilFunc], []⟩),
   (2, ⟨.int .i64, 1, 8, [.int .i64 0], []⟩),
   (6, ⟨.int .u8, 1, 1, [.int .u8 0], []⟩),
   (7, ⟨.struct [(0, 1, false), (1, 1, false), (2, 1, false), (3, 1, false)], 4, 24, [.int .i64 0, .int .i64 0, .bool false, .int .u8 0], []⟩),
   (8, ⟨.struct [(0, 1, false), (1, 1, false), (2, 1, false), (3, 1, false)], 4, 24, [.int .i64 0, .int .i64 0, .bool false, .int .u8 0], []⟩),
   (10, ⟨.str, 1, 16, [.string ⟨#[]⟩], []⟩),
   (11, ⟨.str, 1, 16, [.string ⟨#[]⟩], []⟩),
   (12, ⟨.int .u64, 1, 8, [.int .u64 0], []⟩),
   (13, ⟨.struct [(0, 1, false), (1, 1, false)], 2, 24, [.string ⟨#[]⟩, .int .u64 0], []⟩),
   (14, ⟨.struct [(0, 1, false), (1, 1, false)], 2, 24, [.string ⟨#[]⟩, .int .u64 0], []⟩),
   (15, ⟨.ptr 147, 1, 8, [.pointer none], []⟩),
   (16, ⟨.ptr 150, 1, 8, [.pointer none], []⟩),
   (17, ⟨.ptr 157, 1, 8, [.pointer none], []⟩),
   (18, ⟨.struct [(0, 1, false)], 1, 8, [.pointer none], []⟩),
   (19, ⟨.struct [(0, 1, false)], 1, 8, [.pointer none], []⟩),
   (21, ⟨.int .i32, 1, 4, [.int .i32 0], []⟩),
   (22, ⟨.slice 5, 1, 24, [.slice none 0 0], []⟩),
   (23, ⟨.func, 1, 8, [.nilFunc], []⟩),
   (24, ⟨.struct [(0, 1, false), (1, 1, false)], 2, 16, [.int .i64 0, .int .i64 0], []⟩),
   (25, ⟨.struct [(0, 1, false), (1, 1, false)], 2, 16, [.int .i64 0, .int .i64 0], [.i, .i]⟩),
   (26, ⟨.struct [(0, 1, false), (1, 2, true), (3, 1, false), (4, 2, true), (6, 2, true), (8, 1, false), (9, 1, false)], 10, 80, List.replicate 10 (.int .i64 0), []⟩),
   (27, ⟨.struct [(0, 1, false), (1, 2, true), (3, 1, false), (4, 2, true), (6, 2, true), (8, 1, false), (9, 1, false)], 10, 80, List.replicate 10 (.int .i64 0), [.i, .i, .i, .i, .i, .i, .i, .i, .i, .i]⟩),
   (28, ⟨.struct [(0, 1, false), (1, 1, false), (2, 1, false), (3, 10, true), (13, 1, false)], 14, 120, [.int .i64 0, .int .i64 0, .int .i64 0, .int .i64 0, .int .i64 0, .int .i64 0, .int .i64 0, .int .i64 0, .int .i64 0, .int .i64 0, .int .i64 0, .int .i64 0, .int .i64 0, .string ⟨#[]⟩], []⟩),
   (29, ⟨.struct [(0, 1, false), (1, 1, false), (2, 1, false), (3, 10, true), (13, 1, false)], 14, 120, [.int .i64 0, .int .i64 0, .int .i64 0, .int .i64 0, .int .i64 0, .int .i64 0, .int .i64 0, .int .i64 0, .int .i64 0, .int .i64 0, .int .i64 0, .int .i64 0, .int .i64 0, .string ⟨#[]⟩], [.i, .i, .i, .i, .i, .i, .i, .i, .i, .i, .i, .i, .i, .s]⟩),
   (30, ⟨.func, 1, 8, [.nilFunc], []⟩),
   (32, ⟨.func, 1, 8, [.nilFunc], []⟩),
   (34, ⟨.func, 1, 8, [.nilFunc], []⟩),
   (36, ⟨.func, 1, 8, [.nilFunc], []⟩),
   (37, ⟨.slice 29, 1, 24, [.slice none 0 0], []⟩),
   (38, ⟨.func, 1, 8, [.nilFunc], []⟩),
   (39, ⟨.func, 1, 8, [.nilFunc], []⟩),
   (40, ⟨.func, 1, 8, [.nilFunc], []⟩),
   (42, ⟨.func, 1, 8, [.nilFunc], []⟩),
   (44, ⟨.func, 1, 8, [.nilFunc], []⟩),
   (45, ⟨.func, 1, 8, [.nilFunc], []⟩),
   (46, ⟨.func, 1, 8, [.nilFunc], []⟩),
   (47, ⟨.func, 1, 8, [.nilFunc], []⟩),
   (48, ⟨.func, 1, 8, [.nilFunc], []⟩),
   (49, ⟨.func, 1, 8, [.nilFunc], []⟩),
   (50, ⟨.func, 1, 8, [.nilFunc], []⟩),
   (51, ⟨.ptr 78, 1, 8, [.pointer none], []⟩),
   (52, ⟨.func, 1, 8, [.nilFunc], []⟩),
   (53, ⟨.func, 1, 8, [.nilFunc], []⟩),
   (54, ⟨.slice 3, 1, 24, [.slice none 0 0], []⟩),
   (55, ⟨.func, 1, 8, [.nilFunc], []⟩),
   (56, ⟨.func, 1, 8, [.nilFunc], []⟩),
   (57, ⟨.ptr 59, 1, 8, [.pointer none], []⟩),
   (58, ⟨.struct [(0, 1, false), (1, 1, false), (2, 1, false)], 3, 32, [.string ⟨#[]⟩, .int .i64 0, .bool false], []⟩),
   (59, ⟨.struct [(0, 1, false), (1, 1, false), (2, 1, false)], 3, 32, [.string ⟨#[]⟩, .int .i64 0, .bool false], [.s, .i, .b]⟩),
   (60, ⟨.func, 1, 8, [.nilFunc], []⟩),
   (61, ⟨.func, 1, 8, [.nilFunc], []⟩),
   (63, ⟨.func, 1, 8, [.nilFunc], []⟩),
   (64, ⟨.ptr 66, 1, 8, [.pointer none], []⟩),
   (65, ⟨.struct [(0, 1, false), (1, 1, false), (2, 1, false)], 3, 32, [.string ⟨#[]⟩, .int .i64 0, .bool false], []⟩),
   (66, ⟨.struct [(0, 1, false), (1, 1, false), (2, 1, false)], 3, 32, [.string ⟨#[]⟩, .int .i64 0, .bool false], [.s, .i, .b]⟩),
   (67, ⟨.func, 1, 8, [.nilFunc], []⟩),
   (68, ⟨.func, 1, 8, [.nilFunc], []⟩),
   (70, ⟨.func, 1, 8, [.nilFunc], []⟩),
   (71, ⟨.func, 1, 8, [.nilFunc], []⟩),
   (72, ⟨.func, 1, 8, [.nilFunc], []⟩),
   (73, ⟨.func, 1, 8, [.nilFunc], []⟩),
   (74, ⟨.func, 1, 8, [.nilFunc], []⟩),
   (75, ⟨.int .u64, 1, 8, [.int .u64 0], []⟩),
   (76, ⟨.func, 1, 8, [.nilFunc], []⟩),
   (77, ⟨.struct [(0, 1, false), (1, 1, false), (2, 1, false)], 3, 40, [.slice none 0 0, .int .i64 0, .int .i64 0], []⟩),
   (78, ⟨.struct [(0, 1, false), (1, 1, false), (2, 1, false)], 3, 40, [.slice none 0 0, .int .i64 0, .int .i64 0], []⟩),
   (79, ⟨.func, 1, 8, [.nilFunc], []⟩),
   (81, ⟨.func, 1, 8, [.nilFunc], []⟩),
   (83, ⟨.func, 1, 8, [.nilFunc], []⟩),
   (85, ⟨.func, 1, 8, [.nilFunc], []⟩),
   (86, ⟨.func, 1, 8, [.nilFunc], []⟩),
   (87, ⟨.func, 1, 8, [.nilFunc], []⟩),
   (88, ⟨.func, 1, 8, [.nilFunc], []⟩),
   (89, ⟨.int .u32, 1, 4, [.int .u32 0], []⟩),
   (90, ⟨.arr 8 89, 8, 32, [.int .u32 0, .int .u32 0, .int .u32 0, .int .u32 0, .int .u32 0, .int .u32 0, .int .u32 0, .int .u32 0], []⟩),
   (91, ⟨.func, 1, 8, [.nilFunc], []⟩),
   (92, ⟨.arr 64 89, 64, 256, List.replicate 64 (.int .u32 0), []⟩),
   (93, ⟨.func, 1, 8, [.nilFunc], []⟩),
   (94, ⟨.func, 1, 8, [.nilFunc], []⟩),
   (95, ⟨.func, 1, 8, [.nilFunc], []⟩),
   (96, ⟨.slice 27, 1, 24, [.slice none 0 0], []⟩),
   (97, ⟨.func, 1, 8, [.nilFunc], []⟩),
   (98, ⟨.func, 1, 8, [.nilFunc], []⟩),
   (99, ⟨.slice 9, 1, 24, [.slice none 0 0], []⟩),
   (100, ⟨.struct [(0, 1, false), (1, 1, false), (2, 1, false)], 3, 56, [.int .i64 0, .slice none 0 0, .slice none 0 0], []⟩),
   (101, ⟨.struct [(0, 1, false), (1, 1, false), (2, 1, false)], 3, 56, [.int .i64 0, .slice none 0 0, .slice none 0 0], []⟩),
   (102, ⟨.struct [(0, 10, true), (10, 3, true)], 13, 136, [.int .i64 0, .int .i64 0, .int .i64 0, .int .i64 0, .int .i64 0, .int .i64 0, .int .i64 0, .int .i64 0, .int .i64 0, .int .i64 0, .int .i64 0, .slice none 0 0, .slice none 0 0], []⟩),
   (103, ⟨.struct [(0, 10, true), (10, 3, true)], 13, 136, [.int .i64 0, .int .i64 0, .int .i64 0, .int .i64 0, .int .i64 0, .int .i64 0, .int .i64 0, .int .i64 0, .int .i64 0, .int .i64 0, .int .i64 0, .slice none 0 0, .slice none 0 0], []⟩),
   (104, ⟨.func, 1, 8, [.nilFunc], []⟩),
   (105, ⟨.func, 1, 8, [.nilFunc], []⟩),
   (106, ⟨.func, 1, 8, [.nilFunc], []⟩),
   (107, ⟨.slice 89, 1, 24, [.slice none 0 0], []⟩),
   (108, ⟨.func, 1, 8, [.nilFunc], []⟩),
   (109, ⟨.func, 1, 8, [.nilFunc], []⟩),
   (110, ⟨.func, 1, 8, [.nilFunc], []⟩),
   (111, ⟨.func, 1, 8, [.nilFunc], []⟩),
   (112, ⟨.slice 54, 1, 24, [.slice none 0 0], []⟩),
   (113, ⟨.func, 1, 8, [.nilFunc], []⟩),
   (114, ⟨.func, 1, 8, [.nilFunc], []⟩),
   (116, ⟨.func, 1, 8, [.nilFunc], []⟩),
   (117, ⟨.func, 1, 8, [.nilFunc], []⟩),
   (118, ⟨.ptr 120, 1, 8, [.pointer none], []⟩),
   (119, ⟨.struct [(0, 1, false), (1, 1, false)], 2, 32, [.pointer none, .slice none 0 0], []⟩),
   (120, ⟨.struct [(0, 1, false), (1, 1, false)], 2, 32, [.pointer none, .slice none 0 0], []⟩),
   (121, ⟨.func, 1, 8, [.nilFunc], []⟩),
   (125, ⟨.func, 1, 8, [.nilFunc], []⟩),
   (126, ⟨.func, 1, 8, [.nilFunc], []⟩),
   (127, ⟨.func, 1, 8, [.nilFunc], []⟩),
   (129, ⟨.func, 1, 8, [.nilFunc], []⟩),
   (131, ⟨.func, 1, 8, [.nilFunc], []⟩),
   (132, ⟨.int .u64, 1, 8, [.int .u64 0], []⟩),
   (134, ⟨.func, 1, 8, [.nilFunc], []⟩),
   (135, ⟨.ptr 5, 1, 8, [.pointer none], []⟩),
   (137, ⟨.func, 1, 8, [.nilFunc], []⟩),
   (139, ⟨.func, 1, 8, [.nilFunc], []⟩),
   (140, ⟨.func, 1, 8, [.nilFunc], []⟩),
   (141, ⟨.func, 1, 8, [.nilFunc], []⟩),
   (142, ⟨.func, 1, 8, [.nilFunc], []⟩),
   (143, ⟨.slice 99, 1, 24, [.slice none 0 0], []⟩),
   (144, ⟨.func, 1, 8, [.nilFunc], []⟩),
   (145, ⟨.func, 1, 8, [.nilFunc], []⟩),
   (146, ⟨.struct [(0, 1, false), (1, 1, false), (2, 1, false), (3, 1, false)], 4, 40, [.pointer none, .pointer none, .pointer none, .string ⟨#[]⟩], []⟩),
   (147, ⟨.struct [(0, 1, false), (1, 1, false), (2, 1, false), (3, 1, false)], 4, 40, [.pointer none, .pointer none, .pointer none, .string ⟨#[]⟩], []⟩),
   (151, ⟨.int .u8, 1, 1, [.int .u8 0], []⟩),
   (152, ⟨.int .u8, 1, 1, [.int .u8 0], []⟩),
   (153, ⟨.func, 1, 8, [.nilFunc], []⟩),
   (154, ⟨.int .i32, 1, 4, [.int .i32 0], []⟩),
   (155, ⟨.int .i32, 1, 4, [.int .i32 0], []⟩),
   (156, ⟨.struct [(0, 1, false), (1, 1, false), (2, 1, false), (3, 1, false), (4, 1, false), (5, 1, false), (6, 1, false), (7, 1, false), (8, 1, false), (9, 1, false), (10, 1, false)], 11, 48, [.int .u64 0, .int .u64 0, .int .u32 0, .int .u8 0, .int .u8 0, .int .u8 0, .int .u8 0, .nilFunc, .pointer none, .int .i32 0, .int .i32 0], []⟩),
   (157, ⟨.struct [(0, 1, false), (1, 1, false), (2, 1, false), (3, 1, false), (4, 1, false), (5, 1, false), (6, 1, false), (7, 1, false), (8, 1, false), (9, 1, false), (10, 1, false)], 11, 48, [.int .u64 0, .int .u64 0, .int .u32 0, .int .u8 0, .int .u8 0, .int .u8 0, .int .u8 0, .nilFunc, .pointer none, .int .i32 0, .int .i32 0], []⟩)],
  [5, 8, 11, 14, 17, 23, 30, 31, 32, 33, 34, 35, 37, 38, 40, 41, 44, 45, 52, 58, 66, 67, 68, 69, 71, 80, 82, 85, 86, 87, 88, 95, 96, 125]⟩
theorem T_ok : Tab.ok Tryz.prog T = true := by kernel_rfl
theorem T_25 : T.at 25 = some ⟨.struct [(0, 1, false), (1, 1, false)], 2, 16, [.int .i64 0, .int .i64 0], [.i, .i]⟩ := rfl
attribute [go_sem] T_25
theorem T_26 : T.at 26 = some ⟨.struct [(0, 1, false), (1, 2, true), (3, 1, false), (4, 2, true), (6, 2, true), (8, 1, false), (9, 1, false)], 10, 80, List.replicate 10 (.int .i64 0), []⟩ := rfl
attribute [go_sem] T_26
theorem T_27 : T.at 27 = some ⟨.struct [(0, 1, false), (1, 2, true), (3, 1, false), (4, 2, true), (6, 2, true), (8, 1, false), (9, 1, false)], 10, 80, List.replicate 10 (.int .i64 0), [.i, .i, .i, .i, .i, .i, .i, .i, .i, .i]⟩ := rfl
attribute [go_sem] T_27
theorem T_28 : T.at 28 = some ⟨.struct [(0, 1, false), (1, 1, false), (2, 1, false), (3, 10, true), (13, 1, false)], 14, 120, [.int .i64 0, .int .i64 0, .int .i64 0, .int .i64 0, .int .i64 0, .int .i64 0, .int .i64 0, .int .i64 0, .int .i64 0, .int .i64 0, .int .i64 0, .int .i64 0, .int .i64 0, .string ⟨#[]⟩], []⟩ := rfl
attribute [go_sem] T_28
theorem T_29 : T.at 29 = some ⟨.struct [(0, 1, false), (1, 1, false), (2, 1, false), (3, 10, true), (13, 1, false)], 14, 120, [.int .i64 0, .int .i64 0, .int .i64 0, .int .i64 0, .int .i64 0, .int .i64 0, .int .i64 0, .int .i64 0, .int .i64 0, .int .i64 0, .int .i64 0, .int .i64 0, .int .i64 0, .string ⟨#[]⟩], [.i, .i, .i, .i, .i, .i, .i, .i, .i, .i, .i, .i, .i, .s]⟩ := rfl
attribute [go_sem] T_29
theorem T_37 : T.at 37 = some ⟨.slice 29, 1, 24, [.slice none 0 0], []⟩ := rfl
attribute [go_sem] T_37
theorem T_59 : T.at 59 = some ⟨.struct [(0, 1, false), (1, 1, false), (2, 1, false)], 3, 32, [.string ⟨#[]⟩, .int .i64 0, .bool false], [.s, .i, .b]⟩ := rfl
attribute [go_sem] T_59
theorem T_96 : T.at 96 = some ⟨.slice 27, 1, 24, [.slice none 0 0], []⟩ := rfl
attribute [go_sem] T_96
theorem T_101 : T.at 101 = some ⟨.struct [(0, 1, false), (1, 1, false), (2, 1, false)], 3, 56, [.int .i64 0, .slice none 0 0, .slice none 0 0], []⟩ := rfl
attribute [go_sem] T_101
theorem T_102 : T.at 102 = some ⟨.struct [(0, 10, true), (10, 3, true)], 13, 136, [.int .i64 0, .int .i64 0, .int .i64 0, .int .i64 0, .int .i64 0, .int .i64 0, .int .i64 0, .int .i64 0, .int .i64 0, .int .i64 0, .int .i64 0, .slice none 0 0, .slice none 0 0], []⟩ := rfl
attribute [go_sem] T_102
theorem T_103 : T.at 103 = some ⟨.struct [(0, 10, true), (10, 3, true)], 13, 136, [.int .i64 0, .int .i64 0, .int .i64 0, .int .i64 0, .int .i64 0, .int .i64 0, .int .i64 0, .int .i64 0, .int .i64 0, .int .i64 0, .int .i64 0, .slice none 0 0, .slice none 0 0], []⟩ := rfl
attribute [go_sem] T_103
end Go.Proofs.YtoemclhjcbcjaaaGreat.AB
