/- The types of the translation, as a table. -/
import Derived.Test.YtkcnljgjlofgiaaGreatDoorAbE
import Derived.Attr
import Derived.Test.YtkcnljgjlofgiaaGreatDoorProg
namespace Go.Proofs.YtkcnljgjlofgiaaGreatDoor.AB
open Go
set_option maxRecDepth 100000
def T : Tab := ⟨
  [(3, ⟨.int .i64, 1, 8, [.int .i64 0], []⟩),
   (4, ⟨.bool, 1, 1, [.bool false], []⟩),
   (5, ⟨.int .u8, 1, 1, [.int .u8 0], []⟩),
   (9, ⟨.str, 1, 16, [.string ⟨#[]⟩], []⟩),
   (1, ⟨.func, 1, 8, [.nilFunc], []⟩),
   (2, ⟨.int .i64, 1, 8, [.int .i64 0], []⟩),
   (6, ⟨.int .u8, 1, 1, [.int .u8 0], []⟩),
   (7, ⟨.struct [(0, 1, false), (1, 1, false), (2, 1, false), (3, 1, false)], 4, 24, [.int .i64 0, .int .i64 0, .bool false, .int .u8 0], []⟩),
   (8, ⟨.struct [(0, 1, false), (1, 1, false), (2, 1, false), (3, 1, false)], 4, 24, [.int .i64 0, .int .i64 0, .bool false, .int .u8 0], []⟩),
   (10, ⟨.str, 1, 16, [.string ⟨#[]⟩], []⟩),
   (11, ⟨.str, 1, 16, [.string ⟨#[]⟩], []⟩),
   (12, ⟨.int .u64, 1, 8, [.int .u64 0], []⟩),
   (13, ⟨.struct [(0, 1, false), (1, 1, false)], 2, 24, [.string ⟨#[]⟩, .int .u64 0], []⟩),
   (14, ⟨.struct [(0, 1, false), (1, 1, false)], 2, 24, [.string ⟨#[]⟩, .int .u64 0], []⟩),
   (15, ⟨.ptr 200, 1, 8, [.pointer none], []⟩),
   (16, ⟨.ptr 203, 1, 8, [.pointer none], []⟩),
   (17, ⟨.ptr 211, 1, 8, [.pointer none], []⟩),
   (18, ⟨.struct [(0, 1, false)], 1, 8, [.pointer none], []⟩),
   (19, ⟨.struct [(0, 1, false)], 1, 8, [.pointer none], []⟩),
   (21, ⟨.int .i32, 1, 4, [.int .i32 0], []⟩),
   (22, ⟨.slice 111, 1, 24, [.slice none 0 0], []⟩),
   (23, ⟨.struct [(0, 1, false)], 1, 24, [.slice none 0 0], []⟩),
   (24, ⟨.struct [(0, 1, false)], 1, 24, [.slice none 0 0], []⟩),
   (25, ⟨.slice 3, 1, 24, [.slice none 0 0], []⟩),
   (26, ⟨.slice 87, 1, 24, [.slice none 0 0], []⟩),
   (27, ⟨.slice 70, 1, 24, [.slice none 0 0], []⟩),
   (28, ⟨.slice 93, 1, 24, [.slice none 0 0], []⟩),
   (29, ⟨.struct [(0, 1, true), (1, 1, false), (2, 1, false), (3, 1, false), (4, 1, false), (5, 1, false), (6, 1, false), (7, 1, false)], 8, 176, [.slice none 0 0, .int .i64 0, .slice none 0 0, .slice none 0 0, .slice none 0 0, .slice none 0 0, .slice none 0 0, .slice none 0 0], []⟩),
   (30, ⟨.struct [(0, 1, true), (1, 1, false), (2, 1, false), (3, 1, false), (4, 1, false), (5, 1, false), (6, 1, false), (7, 1, false)], 8, 176, [.slice none 0 0, .int .i64 0, .slice none 0 0, .slice none 0 0, .slice none 0 0, .slice none 0 0, .slice none 0 0, .slice none 0 0], []⟩),
   (31, ⟨.func, 1, 8, [.nilFunc], []⟩),
   (32, ⟨.func, 1, 8, [.nilFunc], []⟩),
   (33, ⟨.slice 74, 1, 24, [.slice none 0 0], []⟩),
   (34, ⟨.struct [(0, 1, false)], 1, 24, [.slice none 0 0], []⟩),
   (35, ⟨.struct [(0, 1, false)], 1, 24, [.slice none 0 0], []⟩),
   (36, ⟨.slice 82, 1, 24, [.slice none 0 0], []⟩),
   (37, ⟨.slice 53, 1, 24, [.slice none 0 0], []⟩),
   (38, ⟨.slice 90, 1, 24, [.slice none 0 0], []⟩),
   (39, ⟨.struct [(0, 1, true), (1, 1, false), (2, 1, false), (3, 1, false), (4, 1, false), (5, 1, false), (6, 1, false), (7, 1, false)], 8, 176, [.slice none 0 0, .int .i64 0, .slice none 0 0, .slice none 0 0, .slice none 0 0, .slice none 0 0, .slice none 0 0, .slice none 0 0], []⟩),
   (40, ⟨.struct [(0, 1, true), (1, 1, false), (2, 1, false), (3, 1, false), (4, 1, false), (5, 1, false), (6, 1, false), (7, 1, false)], 8, 176, [.slice none 0 0, .int .i64 0, .slice none 0 0, .slice none 0 0, .slice none 0 0, .slice none 0 0, .slice none 0 0, .slice none 0 0], []⟩),
   (41, ⟨.func, 1, 8, [.nilFunc], []⟩),
   (42, ⟨.func, 1, 8, [.nilFunc], []⟩),
   (43, ⟨.func, 1, 8, [.nilFunc], []⟩),
   (44, ⟨.func, 1, 8, [.nilFunc], []⟩),
   (45, ⟨.func, 1, 8, [.nilFunc], []⟩),
   (46, ⟨.func, 1, 8, [.nilFunc], []⟩),
   (47, ⟨.func, 1, 8, [.nilFunc], []⟩),
   (48, ⟨.func, 1, 8, [.nilFunc], []⟩),
   (49, ⟨.func, 1, 8, [.nilFunc], []⟩),
   (50, ⟨.func, 1, 8, [.nilFunc], []⟩),
   (51, ⟨.slice 115, 1, 24, [.slice none 0 0], []⟩),
   (52, ⟨.struct [(0, 1, false), (1, 1, false), (2, 1, false), (3, 1, false), (4, 1, false)], 5, 48, [.bool false, .slice none 0 0, .int .i64 0, .bool false, .bool false], []⟩),
   (53, ⟨.struct [(0, 1, false), (1, 1, false), (2, 1, false), (3, 1, false), (4, 1, false)], 5, 48, [.bool false, .slice none 0 0, .int .i64 0, .bool false, .bool false], []⟩),
   (54, ⟨.func, 1, 8, [.nilFunc], []⟩),
   (55, ⟨.func, 1, 8, [.nilFunc], []⟩),
   (56, ⟨.func, 1, 8, [.nilFunc], []⟩),
   (57, ⟨.func, 1, 8, [.nilFunc], []⟩),
   (58, ⟨.func, 1, 8, [.nilFunc], []⟩),
   (59, ⟨.slice 9, 1, 24, [.slice none 0 0], []⟩),
   (60, ⟨.func, 1, 8, [.nilFunc], []⟩),
   (61, ⟨.func, 1, 8, [.nilFunc], []⟩),
   (62, ⟨.func, 1, 8, [.nilFunc], []⟩),
   (63, ⟨.func, 1, 8, [.nilFunc], []⟩),
   (64, ⟨.func, 1, 8, [.nilFunc], []⟩),
   (65, ⟨.func, 1, 8, [.nilFunc], []⟩),
   (66, ⟨.func, 1, 8, [.nilFunc], []⟩),
   (67, ⟨.func, 1, 8, [.nilFunc], []⟩),
   (68, ⟨.slice 133, 1, 24, [.slice none 0 0], []⟩),
   (69, ⟨.struct [(0, 1, false), (1, 1, false), (2, 1, false), (3, 1, false), (4, 1, false)], 5, 48, [.bool false, .slice none 0 0, .int .i64 0, .bool false, .bool false], []⟩),
   (70, ⟨.struct [(0, 1, false), (1, 1, false), (2, 1, false), (3, 1, false), (4, 1, false)], 5, 48, [.bool false, .slice none 0 0, .int .i64 0, .bool false, .bool false], []⟩),
   (71, ⟨.func, 1, 8, [.nilFunc], []⟩),
   (72, ⟨.slice 154, 1, 24, [.slice none 0 0], []⟩),
   (73, ⟨.struct [(0, 1, false), (1, 1, false), (2, 1, false), (3, 1, false), (4, 1, false), (5, 1, false)], 6, 96, [.int .i64 0, .bool false, .int .i64 0, .slice none 0 0, .slice none 0 0, .slice none 0 0], []⟩),
   (74, ⟨.struct [(0, 1, false), (1, 1, false), (2, 1, false), (3, 1, false), (4, 1, false), (5, 1, false)], 6, 96, [.int .i64 0, .bool false, .int .i64 0, .slice none 0 0, .slice none 0 0, .slice none 0 0], []⟩),
   (75, ⟨.func, 1, 8, [.nilFunc], []⟩),
   (76, ⟨.func, 1, 8, [.nilFunc], []⟩),
   (77, ⟨.func, 1, 8, [.nilFunc], []⟩),
   (78, ⟨.func, 1, 8, [.nilFunc], []⟩),
   (79, ⟨.struct [(0, 1, false), (1, 1, false)], 2, 16, [.int .i64 0, .int .i64 0], []⟩),
   (80, ⟨.struct [(0, 1, false), (1, 1, false)], 2, 16, [.int .i64 0, .int .i64 0], [.i, .i]⟩),
   (81, ⟨.struct [(0, 1, false), (1, 2, true), (3, 1, false), (4, 2, true), (6, 2, true), (8, 1, false), (9, 1, false)], 10, 80, List.replicate 10 (.int .i64 0), []⟩),
   (82, ⟨.struct [(0, 1, false), (1, 2, true), (3, 1, false), (4, 2, true), (6, 2, true), (8, 1, false), (9, 1, false)], 10, 80, List.replicate 10 (.int .i64 0), [.i, .i, .i, .i, .i, .i, .i, .i, .i, .i]⟩),
   (83, ⟨.func, 1, 8, [.nilFunc], []⟩),
   (84, ⟨.func, 1, 8, [.nilFunc], []⟩),
   (85, ⟨.struct [(0, 1, false), (1, 1, false)], 2, 16, [.int .i64 0, .int .i64 0], [.i, .i]⟩),
   (86, ⟨.struct [(0, 1, false), (1, 2, true), (3, 1, false), (4, 2, true), (6, 2, true), (8, 1, false), (9, 1, false)], 10, 80, List.replicate 10 (.int .i64 0), []⟩),
   (87, ⟨.struct [(0, 1, false), (1, 2, true), (3, 1, false), (4, 2, true), (6, 2, true), (8, 1, false), (9, 1, false)], 10, 80, List.replicate 10 (.int .i64 0), [.i, .i, .i, .i, .i, .i, .i, .i, .i, .i]⟩),
   (88, ⟨.func, 1, 8, [.nilFunc], []⟩),
   (89, ⟨.struct [(0, 2, true), (2, 1, false)], 3, 24, [.int .i64 0, .int .i64 0, .int .i64 0], []⟩),
   (90, ⟨.struct [(0, 2, true), (2, 1, false)], 3, 24, [.int .i64 0, .int .i64 0, .int .i64 0], [.i, .i, .i]⟩),
   (91, ⟨.func, 1, 8, [.nilFunc], []⟩),
   (92, ⟨.struct [(0, 2, true), (2, 1, false)], 3, 24, [.int .i64 0, .int .i64 0, .int .i64 0], []⟩),
   (93, ⟨.struct [(0, 2, true), (2, 1, false)], 3, 24, [.int .i64 0, .int .i64 0, .int .i64 0], [.i, .i, .i]⟩),
   (94, ⟨.ptr 97, 1, 8, [.pointer none], []⟩),
   (95, ⟨.slice 5, 1, 24, [.slice none 0 0], []⟩),
   (96, ⟨.struct [(0, 1, false), (1, 1, false)], 2, 32, [.pointer none, .slice none 0 0], []⟩),
   (97, ⟨.struct [(0, 1, false), (1, 1, false)], 2, 32, [.pointer none, .slice none 0 0], []⟩),
   (98, ⟨.func, 1, 8, [.nilFunc], []⟩),
   (102, ⟨.func, 1, 8, [.nilFunc], []⟩),
   (103, ⟨.func, 1, 8, [.nilFunc], []⟩),
   (104, ⟨.func, 1, 8, [.nilFunc], []⟩),
   (105, ⟨.func, 1, 8, [.nilFunc], []⟩),
   (106, ⟨.func, 1, 8, [.nilFunc], []⟩),
   (107, ⟨.func, 1, 8, [.nilFunc], []⟩),
   (108, ⟨.func, 1, 8, [.nilFunc], []⟩),
   (109, ⟨.slice 151, 1, 24, [.slice none 0 0], []⟩),
   (110, ⟨.struct [(0, 1, false), (1, 1, false), (2, 1, false), (3, 1, false), (4, 1, false), (5, 1, false)], 6, 96, [.int .i64 0, .bool false, .int .i64 0, .slice none 0 0, .slice none 0 0, .slice none 0 0], []⟩),
   (111, ⟨.struct [(0, 1, false), (1, 1, false), (2, 1, false), (3, 1, false), (4, 1, false), (5, 1, false)], 6, 96, [.int .i64 0, .bool false, .int .i64 0, .slice none 0 0, .slice none 0 0, .slice none 0 0], []⟩),
   (112, ⟨.func, 1, 8, [.nilFunc], []⟩),
   (113, ⟨.func, 1, 8, [.nilFunc], []⟩),
   (114, ⟨.struct [(0, 10, true), (10, 3, true), (13, 1, false)], 14, 128, [.int .i64 0, .int .i64 0, .int .i64 0, .int .i64 0, .int .i64 0, .int .i64 0, .int .i64 0, .int .i64 0, .int .i64 0, .int .i64 0, .int .i64 0, .int .i64 0, .int .i64 0, .slice none 0 0], []⟩),
   (115, ⟨.struct [(0, 10, true), (10, 3, true), (13, 1, false)], 14, 128, [.int .i64 0, .int .i64 0, .int .i64 0, .int .i64 0, .int .i64 0, .int .i64 0, .int .i64 0, .int .i64 0, .int .i64 0, .int .i64 0, .int .i64 0, .int .i64 0, .int .i64 0, .slice none 0 0], []⟩),
   (116, ⟨.func, 1, 8, [.nilFunc], []⟩),
   (117, ⟨.func, 1, 8, [.nilFunc], []⟩),
   (118, ⟨.func, 1, 8, [.nilFunc], []⟩),
   (119, ⟨.func, 1, 8, [.nilFunc], []⟩),
   (120, ⟨.func, 1, 8, [.nilFunc], []⟩),
   (121, ⟨.func, 1, 8, [.nilFunc], []⟩),
   (122, ⟨.func, 1, 8, [.nilFunc], []⟩),
   (123, ⟨.func, 1, 8, [.nilFunc], []⟩),
   (124, ⟨.func, 1, 8, [.nilFunc], []⟩),
   (125, ⟨.func, 1, 8, [.nilFunc], []⟩),
   (126, ⟨.ptr 5, 1, 8, [.pointer none], []⟩),
   (127, ⟨.func, 1, 8, [.nilFunc], []⟩),
   (128, ⟨.func, 1, 8, [.nilFunc], []⟩),
   (129, ⟨.func, 1, 8, [.nilFunc], []⟩),
   (130, ⟨.func, 1, 8, [.nilFunc], []⟩),
   (131, ⟨.func, 1, 8, [.nilFunc], []⟩),
   (132, ⟨.struct [(0, 10, true), (10, 3, true), (13, 1, false)], 14, 128, [.int .i64 0, .int .i64 0, .int .i64 0, .int .i64 0, .int .i64 0, .int .i64 0, .int .i64 0, .int .i64 0, .int .i64 0, .int .i64 0, .int .i64 0, .int .i64 0, .int .i64 0, .slice none 0 0], []⟩),
   (133, ⟨.struct [(0, 10, true), (10, 3, true), (13, 1, false)], 14, 128, [.int .i64 0, .int .i64 0, .int .i64 0, .int .i64 0, .int .i64 0, .int .i64 0, .int .i64 0, .int .i64 0, .int .i64 0, .int .i64 0, .int .i64 0, .int .i64 0, .int .i64 0, .slice none 0 0], []⟩),
   (134, ⟨.func, 1, 8, [.nilFunc], []⟩),
   (135, ⟨.func, 1, 8, [.nilFunc], []⟩),
   (136, ⟨.func, 1, 8, [.nilFunc], []⟩),
   (137, ⟨.func, 1, 8, [.nilFunc], []⟩),
   (138, ⟨.func, 1, 8, [.nilFunc], []⟩),
   (139, ⟨.func, 1, 8, [.nilFunc], []⟩),
   (140, ⟨.int .u64, 1, 8, [.int .u64 0], []⟩),
   (141, ⟨.func, 1, 8, [.nilFunc], []⟩),
   (142, ⟨.func, 1, 8, [.nilFunc], []⟩),
   (144, ⟨.func, 1, 8, [.nilFunc], []⟩),
   (145, ⟨.func, 1, 8, [.nilFunc], []⟩),
   (146, ⟨.func, 1, 8, [.nilFunc], []⟩),
   (147, ⟨.func, 1, 8, [.nilFunc], []⟩),
   (148, ⟨.func, 1, 8, [.nilFunc], []⟩),
   (149, ⟨.slice 186, 1, 24, [.slice none 0 0], []⟩),
   (150, ⟨.struct [(0, 1, false), (1, 1, false)], 2, 32, [.int .i64 0, .slice none 0 0], []⟩),
   (151, ⟨.struct [(0, 1, false), (1, 1, false)], 2, 32, [.int .i64 0, .slice none 0 0], []⟩),
   (152, ⟨.slice 187, 1, 24, [.slice none 0 0], []⟩),
   (153, ⟨.struct [(0, 1, false), (1, 1, false)], 2, 32, [.int .i64 0, .slice none 0 0], []⟩),
   (154, ⟨.struct [(0, 1, false), (1, 1, false)], 2, 32, [.int .i64 0, .slice none 0 0], []⟩),
   (155, ⟨.func, 1, 8, [.nilFunc], []⟩),
   (156, ⟨.func, 1, 8, [.nilFunc], []⟩),
   (157, ⟨.int .i64, 1, 8, [.int .i64 0], []⟩),
   (159, ⟨.func, 1, 8, [.nilFunc], []⟩),
   (160, ⟨.func, 1, 8, [.nilFunc], []⟩),
   (161, ⟨.func, 1, 8, [.nilFunc], []⟩),
   (162, ⟨.func, 1, 8, [.nilFunc], []⟩),
   (164, ⟨.func, 1, 8, [.nilFunc], []⟩),
   (165, ⟨.func, 1, 8, [.nilFunc], []⟩),
   (166, ⟨.int .u32, 1, 4, [.int .u32 0], []⟩),
   (167, ⟨.func, 1, 8, [.nilFunc], []⟩),
   (168, ⟨.int .u64, 1, 8, [.int .u64 0], []⟩),
   (169, ⟨.func, 1, 8, [.nilFunc], []⟩),
   (170, ⟨.func, 1, 8, [.nilFunc], []⟩),
   (171, ⟨.func, 1, 8, [.nilFunc], []⟩),
   (172, ⟨.func, 1, 8, [.nilFunc], []⟩),
   (173, ⟨.int .u64, 1, 8, [.int .u64 0], []⟩),
   (174, ⟨.func, 1, 8, [.nilFunc], []⟩),
   (175, ⟨.func, 1, 8, [.nilFunc], []⟩),
   (176, ⟨.func, 1, 8, [.nilFunc], []⟩),
   (177, ⟨.ptr 3, 1, 8, [.pointer none], []⟩),
   (178, ⟨.func, 1, 8, [.nilFunc], []⟩),
   (179, ⟨.arr 24 5, 24, 24, List.replicate 24 (.int .u8 0), []⟩),
   (180, ⟨.func, 1, 8, [.nilFunc], []⟩),
   (182, ⟨.func, 1, 8, [.nilFunc], []⟩),
   (183, ⟨.func, 1, 8, [.nilFunc], []⟩),
   (184, ⟨.func, 1, 8, [.nilFunc], []⟩),
   (185, ⟨.struct [(0, 1, false), (1, 1, false)], 2, 24, [.string ⟨#[]⟩, .bool false], []⟩),
   (186, ⟨.struct [(0, 1, false), (1, 1, false)], 2, 24, [.string ⟨#[]⟩, .bool false], [.s, .b]⟩),
   (187, ⟨.struct [(0, 1, false), (1, 1, false)], 2, 24, [.string ⟨#[]⟩, .bool false], [.s, .b]⟩),
   (188, ⟨.func, 1, 8, [.nilFunc], []⟩),
   (189, ⟨.ptr 173, 1, 8, [.pointer none], []⟩),
   (191, ⟨.func, 1, 8, [.nilFunc], []⟩),
   (192, ⟨.func, 1, 8, [.nilFunc], []⟩),
   (193, ⟨.func, 1, 8, [.nilFunc], []⟩),
   (194, ⟨.arr 20 168, 20, 160, List.replicate 20 (.int .u64 0), []⟩),
   (195, ⟨.arr 65 5, 65, 65, List.replicate 65 (.int .u8 0), []⟩),
   (196, ⟨.func, 1, 8, [.nilFunc], []⟩),
   (197, ⟨.arr 32 5, 32, 32, List.replicate 32 (.int .u8 0), []⟩),
   (198, ⟨.arr 64 5, 64, 64, List.replicate 64 (.int .u8 0), []⟩),
   (199, ⟨.struct [(0, 1, false), (1, 1, false), (2, 1, false), (3, 1, false)], 4, 40, [.pointer none, .pointer none, .pointer none, .string ⟨#[]⟩], []⟩),
   (200, ⟨.struct [(0, 1, false), (1, 1, false), (2, 1, false), (3, 1, false)], 4, 40, [.pointer none, .pointer none, .pointer none, .string ⟨#[]⟩], []⟩),
   (204, ⟨.func, 1, 8, [.nilFunc], []⟩),
   (205, ⟨.int .u8, 1, 1, [.int .u8 0], []⟩),
   (206, ⟨.int .u8, 1, 1, [.int .u8 0], []⟩),
   (207, ⟨.func, 1, 8, [.nilFunc], []⟩),
   (208, ⟨.int .i32, 1, 4, [.int .i32 0], []⟩),
   (209, ⟨.int .i32, 1, 4, [.int .i32 0], []⟩),
   (210, ⟨.struct [(0, 1, false), (1, 1, false), (2, 1, false), (3, 1, false), (4, 1, false), (5, 1, false), (6, 1, false), (7, 1, false), (8, 1, false), (9, 1, false), (10, 1, false)], 11, 48, [.int .u64 0, .int .u64 0, .int .u32 0, .int .u8 0, .int .u8 0, .int .u8 0, .int .u8 0, .nilFunc, .pointer none, .int .i32 0, .int .i32 0], []⟩),
   (211, ⟨.struct [(0, 1, false), (1, 1, false), (2, 1, false), (3, 1, false), (4, 1, false), (5, 1, false), (6, 1, false), (7, 1, false), (8, 1, false), (9, 1, false), (10, 1, false)], 11, 48, [.int .u64 0, .int .u64 0, .int .u32 0, .int .u8 0, .int .u8 0, .int .u8 0, .int .u8 0, .nilFunc, .pointer none, .int .i32 0, .int .i32 0], []⟩)],
  [47, 48, 49, 63, 72, 73, 83, 96, 97, 98, 100, 101, 103, 104, 111, 113, 147]⟩
theorem T_ok : Tab.ok Tryz.prog T = true := by kernel_rfl
theorem T_33 : T.at 33 = some ⟨.slice 74, 1, 24, [.slice none 0 0], []⟩ := rfl
attribute [go_sem] T_33
theorem T_34 : T.at 34 = some ⟨.struct [(0, 1, false)], 1, 24, [.slice none 0 0], []⟩ := rfl
attribute [go_sem] T_34
theorem T_35 : T.at 35 = some ⟨.struct [(0, 1, false)], 1, 24, [.slice none 0 0], []⟩ := rfl
attribute [go_sem] T_35
theorem T_36 : T.at 36 = some ⟨.slice 82, 1, 24, [.slice none 0 0], []⟩ := rfl
attribute [go_sem] T_36
theorem T_37 : T.at 37 = some ⟨.slice 53, 1, 24, [.slice none 0 0], []⟩ := rfl
attribute [go_sem] T_37
theorem T_38 : T.at 38 = some ⟨.slice 90, 1, 24, [.slice none 0 0], []⟩ := rfl
attribute [go_sem] T_38
theorem T_39 : T.at 39 = some ⟨.struct [(0, 1, true), (1, 1, false), (2, 1, false), (3, 1, false), (4, 1, false), (5, 1, false), (6, 1, false), (7, 1, false)], 8, 176, [.slice none 0 0, .int .i64 0, .slice none 0 0, .slice none 0 0, .slice none 0 0, .slice none 0 0, .slice none 0 0, .slice none 0 0], []⟩ := rfl
attribute [go_sem] T_39
theorem T_40 : T.at 40 = some ⟨.struct [(0, 1, true), (1, 1, false), (2, 1, false), (3, 1, false), (4, 1, false), (5, 1, false), (6, 1, false), (7, 1, false)], 8, 176, [.slice none 0 0, .int .i64 0, .slice none 0 0, .slice none 0 0, .slice none 0 0, .slice none 0 0, .slice none 0 0, .slice none 0 0], []⟩ := rfl
attribute [go_sem] T_40
theorem T_51 : T.at 51 = some ⟨.slice 115, 1, 24, [.slice none 0 0], []⟩ := rfl
attribute [go_sem] T_51
theorem T_52 : T.at 52 = some ⟨.struct [(0, 1, false), (1, 1, false), (2, 1, false), (3, 1, false), (4, 1, false)], 5, 48, [.bool false, .slice none 0 0, .int .i64 0, .bool false, .bool false], []⟩ := rfl
attribute [go_sem] T_52
theorem T_53 : T.at 53 = some ⟨.struct [(0, 1, false), (1, 1, false), (2, 1, false), (3, 1, false), (4, 1, false)], 5, 48, [.bool false, .slice none 0 0, .int .i64 0, .bool false, .bool false], []⟩ := rfl
attribute [go_sem] T_53
theorem T_72 : T.at 72 = some ⟨.slice 154, 1, 24, [.slice none 0 0], []⟩ := rfl
attribute [go_sem] T_72
theorem T_73 : T.at 73 = some ⟨.struct [(0, 1, false), (1, 1, false), (2, 1, false), (3, 1, false), (4, 1, false), (5, 1, false)], 6, 96, [.int .i64 0, .bool false, .int .i64 0, .slice none 0 0, .slice none 0 0, .slice none 0 0], []⟩ := rfl
attribute [go_sem] T_73
theorem T_74 : T.at 74 = some ⟨.struct [(0, 1, false), (1, 1, false), (2, 1, false), (3, 1, false), (4, 1, false), (5, 1, false)], 6, 96, [.int .i64 0, .bool false, .int .i64 0, .slice none 0 0, .slice none 0 0, .slice none 0 0], []⟩ := rfl
attribute [go_sem] T_74
theorem T_80 : T.at 80 = some ⟨.struct [(0, 1, false), (1, 1, false)], 2, 16, [.int .i64 0, .int .i64 0], [.i, .i]⟩ := rfl
attribute [go_sem] T_80
theorem T_81 : T.at 81 = some ⟨.struct [(0, 1, false), (1, 2, true), (3, 1, false), (4, 2, true), (6, 2, true), (8, 1, false), (9, 1, false)], 10, 80, List.replicate 10 (.int .i64 0), []⟩ := rfl
attribute [go_sem] T_81
theorem T_82 : T.at 82 = some ⟨.struct [(0, 1, false), (1, 2, true), (3, 1, false), (4, 2, true), (6, 2, true), (8, 1, false), (9, 1, false)], 10, 80, List.replicate 10 (.int .i64 0), [.i, .i, .i, .i, .i, .i, .i, .i, .i, .i]⟩ := rfl
attribute [go_sem] T_82
theorem T_89 : T.at 89 = some ⟨.struct [(0, 2, true), (2, 1, false)], 3, 24, [.int .i64 0, .int .i64 0, .int .i64 0], []⟩ := rfl
attribute [go_sem] T_89
theorem T_90 : T.at 90 = some ⟨.struct [(0, 2, true), (2, 1, false)], 3, 24, [.int .i64 0, .int .i64 0, .int .i64 0], [.i, .i, .i]⟩ := rfl
attribute [go_sem] T_90
theorem T_114 : T.at 114 = some ⟨.struct [(0, 10, true), (10, 3, true), (13, 1, false)], 14, 128, [.int .i64 0, .int .i64 0, .int .i64 0, .int .i64 0, .int .i64 0, .int .i64 0, .int .i64 0, .int .i64 0, .int .i64 0, .int .i64 0, .int .i64 0, .int .i64 0, .int .i64 0, .slice none 0 0], []⟩ := rfl
attribute [go_sem] T_114
theorem T_115 : T.at 115 = some ⟨.struct [(0, 10, true), (10, 3, true), (13, 1, false)], 14, 128, [.int .i64 0, .int .i64 0, .int .i64 0, .int .i64 0, .int .i64 0, .int .i64 0, .int .i64 0, .int .i64 0, .int .i64 0, .int .i64 0, .int .i64 0, .int .i64 0, .int .i64 0, .slice none 0 0], []⟩ := rfl
attribute [go_sem] T_115
theorem T_152 : T.at 152 = some ⟨.slice 187, 1, 24, [.slice none 0 0], []⟩ := rfl
attribute [go_sem] T_152
theorem T_153 : T.at 153 = some ⟨.struct [(0, 1, false), (1, 1, false)], 2, 32, [.int .i64 0, .slice none 0 0], []⟩ := rfl
attribute [go_sem] T_153
theorem T_154 : T.at 154 = some ⟨.struct [(0, 1, false), (1, 1, false)], 2, 32, [.int .i64 0, .slice none 0 0], []⟩ := rfl
attribute [go_sem] T_154
theorem T_187 : T.at 187 = some ⟨.struct [(0, 1, false), (1, 1, false)], 2, 24, [.string ⟨#[]⟩, .bool false], [.s, .b]⟩ := rfl
attribute [go_sem] T_187
end Go.Proofs.YtkcnljgjlofgiaaGreatDoor.AB
