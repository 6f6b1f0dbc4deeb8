/-
  Runs on constants, each a contract: worked out by the executor in the kernel.
-/
import Derived.Test.YtdnfffmppppoeaaDoorProg
import Derived.Test.YtdnfffmppppoeaaDoorQTV30
import Derived.KernelRfl
import Derived.Test.YtdnfffmppppoeaaDoorRows
import Derived.Test.YtdnfffmppppoeaaDoorQTV26
import Derived.ProofKit
import Derived.Lib.LaidTab
import Derived.Stop.LaidErr
import Derived.MakeChecks
set_option linter.unusedSimpArgs false
set_option linter.unusedVariables false
namespace Go.Proofs.YtdnfffmppppoeaaDoor
open Go.V
set_option maxRecDepth 100000
def tab : Tab := [
  (1, ⟨.other, 1, 8, [.dead]⟩),
  (2, ⟨.int .i64, 1, 8, [.v (.int .i64 0)]⟩),
  (3, ⟨.int .i64, 1, 8, [.v (.int .i64 0)]⟩),
  (4, ⟨.bool, 1, 1, [.v (.bool false)]⟩),
  (5, ⟨.int .u8, 1, 1, [.v (.int .u8 0)]⟩),
  (9, ⟨.str, 1, 16, [.v (.str ⟨#[]⟩)]⟩),
  (17, ⟨.ptr, 1, 8, [.dead]⟩),
  (21, ⟨.int .i32, 1, 4, [.v (.int .i32 0)]⟩),
  (22, ⟨.arr 8 5, 8, 8, [.v (.int .u8 0), .v (.int .u8 0), .v (.int .u8 0), .v (.int .u8 0), .v (.int .u8 0), .v (.int .u8 0), .v (.int .u8 0), .v (.int .u8 0)]⟩),
  (23, ⟨.arr 2 5, 2, 2, [.v (.int .u8 0), .v (.int .u8 0)]⟩),
  (24, ⟨.arr 8 23, 16, 16, [.v (.int .u8 0), .v (.int .u8 0), .v (.int .u8 0), .v (.int .u8 0), .v (.int .u8 0), .v (.int .u8 0), .v (.int .u8 0), .v (.int .u8 0), .v (.int .u8 0), .v (.int .u8 0), .v (.int .u8 0), .v (.int .u8 0), .v (.int .u8 0), .v (.int .u8 0), .v (.int .u8 0), .v (.int .u8 0)]⟩),
  (25, ⟨.slice 30, 1, 24, [.v .nl]⟩),
  (26, ⟨.struct [(0, 3), (1, 25)], 2, 32, [.v (.int .i64 0), .v .nl]⟩),
  (27, ⟨.struct [(0, 3), (1, 25)], 2, 32, [.v (.int .i64 0), .v .nl]⟩),
  (28, ⟨.other, 1, 8, [.dead]⟩),
  (29, ⟨.slice 3, 1, 24, [.v .nl]⟩),
  (30, ⟨.arr 2 3, 2, 16, [.v (.int .i64 0), .v (.int .i64 0)]⟩),
  (31, ⟨.int .i64, 1, 8, [.v (.int .i64 0)]⟩),
  (33, ⟨.other, 1, 8, [.dead]⟩),
  (34, ⟨.other, 1, 8, [.dead]⟩),
  (35, ⟨.other, 1, 8, [.dead]⟩),
  (36, ⟨.other, 1, 8, [.dead]⟩),
  (37, ⟨.other, 1, 8, [.dead]⟩),
  (38, ⟨.other, 1, 8, [.dead]⟩),
  (39, ⟨.struct [(0, 3), (1, 3), (2, 29)], 3, 40, [.v (.int .i64 0), .v (.int .i64 0), .v .nl]⟩),
  (40, ⟨.struct [(0, 3), (1, 3), (2, 29)], 3, 40, [.v (.int .i64 0), .v (.int .i64 0), .v .nl]⟩),
  (41, ⟨.slice 46, 1, 24, [.v .nl]⟩),
  (42, ⟨.struct [(0, 3), (1, 41)], 2, 32, [.v (.int .i64 0), .v .nl]⟩),
  (43, ⟨.struct [(0, 3), (1, 41)], 2, 32, [.v (.int .i64 0), .v .nl]⟩),
  (44, ⟨.other, 1, 8, [.dead]⟩),
  (45, ⟨.struct [(0, 29), (1, 29)], 2, 48, [.v .nl, .v .nl]⟩),
  (46, ⟨.struct [(0, 29), (1, 29)], 2, 48, [.v .nl, .v .nl]⟩),
  (47, ⟨.other, 1, 8, [.dead]⟩),
  (48, ⟨.struct [(0, 29), (1, 29)], 2, 48, [.v .nl, .v .nl]⟩),
  (49, ⟨.struct [(0, 29), (1, 29)], 2, 48, [.v .nl, .v .nl]⟩),
  (51, ⟨.other, 1, 8, [.dead]⟩),
  (52, ⟨.other, 1, 8, [.dead]⟩),
  (53, ⟨.other, 1, 8, [.dead]⟩),
  (54, ⟨.other, 1, 8, [.dead]⟩),
  (56, ⟨.other, 1, 8, [.dead]⟩),
  (57, ⟨.other, 1, 8, [.dead]⟩),
  (58, ⟨.other, 1, 8, [.dead]⟩),
  (59, ⟨.slice 23, 1, 24, [.v .nl]⟩),
  (60, ⟨.other, 1, 8, [.dead]⟩),
  (61, ⟨.arr 5 3, 5, 40, [.v (.int .i64 0), .v (.int .i64 0), .v (.int .i64 0), .v (.int .i64 0), .v (.int .i64 0)]⟩),
  (62, ⟨.arr 5 3, 5, 40, [.v (.int .i64 0), .v (.int .i64 0), .v (.int .i64 0), .v (.int .i64 0), .v (.int .i64 0)]⟩),
  (64, ⟨.other, 1, 8, [.dead]⟩),
  (65, ⟨.other, 1, 8, [.dead]⟩),
  (66, ⟨.other, 1, 8, [.dead]⟩),
  (67, ⟨.other, 1, 8, [.dead]⟩),
  (68, ⟨.other, 1, 8, [.dead]⟩),
  (69, ⟨.other, 1, 8, [.dead]⟩),
  (70, ⟨.int .u64, 1, 8, [.v (.int .u64 0)]⟩),
  (71, ⟨.other, 1, 8, [.dead]⟩),
  (72, ⟨.other, 1, 8, [.dead]⟩),
  (73, ⟨.other, 1, 8, [.dead]⟩),
  (74, ⟨.other, 1, 8, [.dead]⟩),
  (75, ⟨.other, 1, 8, [.dead]⟩),
  (76, ⟨.other, 1, 8, [.dead]⟩),
  (77, ⟨.other, 1, 8, [.dead]⟩),
  (78, ⟨.other, 1, 8, [.dead]⟩),
  (79, ⟨.other, 1, 8, [.dead]⟩),
  (80, ⟨.other, 1, 8, [.dead]⟩),
  (81, ⟨.other, 1, 8, [.dead]⟩),
  (82, ⟨.int .u8, 1, 1, [.v (.int .u8 0)]⟩),
  (83, ⟨.slice 99, 1, 24, [.v .nl]⟩),
  (84, ⟨.struct [(0, 82), (1, 83)], 2, 32, [.v (.int .u8 0), .v .nl]⟩),
  (85, ⟨.struct [(0, 82), (1, 83)], 2, 32, [.v (.int .u8 0), .v .nl]⟩),
  (87, ⟨.other, 1, 8, [.dead]⟩),
  (88, ⟨.other, 1, 8, [.dead]⟩),
  (89, ⟨.other, 1, 8, [.dead]⟩),
  (90, ⟨.other, 1, 8, [.dead]⟩),
  (91, ⟨.other, 1, 8, [.dead]⟩),
  (92, ⟨.struct [(0, 82), (1, 29)], 2, 32, [.v (.int .u8 0), .v .nl]⟩),
  (93, ⟨.struct [(0, 82), (1, 29)], 2, 32, [.v (.int .u8 0), .v .nl]⟩),
  (94, ⟨.slice 93, 1, 24, [.v .nl]⟩),
  (95, ⟨.slice 82, 1, 24, [.v .nl]⟩),
  (96, ⟨.struct [(0, 82), (1, 82)], 2, 2, [.v (.int .u8 0), .v (.int .u8 0)]⟩),
  (97, ⟨.struct [(0, 82), (1, 82)], 2, 2, [.v (.int .u8 0), .v (.int .u8 0)]⟩),
  (98, ⟨.struct [(0, 97), (2, 3)], 3, 16, [.v (.int .u8 0), .v (.int .u8 0), .v (.int .i64 0)]⟩),
  (99, ⟨.struct [(0, 97), (2, 3)], 3, 16, [.v (.int .u8 0), .v (.int .u8 0), .v (.int .i64 0)]⟩),
  (100, ⟨.other, 1, 8, [.dead]⟩),
  (101, ⟨.other, 1, 8, [.dead]⟩),
  (102, ⟨.other, 1, 8, [.dead]⟩),
  (103, ⟨.arr 3 3, 3, 24, [.v (.int .i64 0), .v (.int .i64 0), .v (.int .i64 0)]⟩),
  (104, ⟨.slice 103, 1, 24, [.v .nl]⟩),
  (105, ⟨.other, 1, 8, [.dead]⟩),
  (106, ⟨.other, 1, 8, [.dead]⟩),
  (107, ⟨.other, 1, 8, [.dead]⟩),
  (108, ⟨.other, 1, 8, [.dead]⟩),
  (109, ⟨.other, 1, 8, [.dead]⟩),
  (110, ⟨.other, 1, 8, [.dead]⟩),
  (111, ⟨.other, 1, 8, [.dead]⟩),
  (112, ⟨.other, 1, 8, [.dead]⟩),
  (114, ⟨.other, 1, 8, [.dead]⟩),
  (116, ⟨.other, 1, 8, [.dead]⟩),
  (117, ⟨.other, 1, 8, [.dead]⟩),
  (118, ⟨.other, 1, 8, [.dead]⟩),
  (120, ⟨.other, 1, 8, [.dead]⟩),
  (122, ⟨.other, 1, 8, [.dead]⟩),
  (123, ⟨.other, 1, 8, [.dead]⟩),
  (124, ⟨.other, 1, 8, [.dead]⟩),
  (125, ⟨.slice 29, 1, 24, [.v .nl]⟩),
  (126, ⟨.int .u16, 1, 2, [.v (.int .u16 0)]⟩),
  (127, ⟨.int .u16, 1, 2, [.v (.int .u16 0)]⟩),
  (128, ⟨.other, 1, 8, [.dead]⟩),
  (129, ⟨.other, 1, 8, [.dead]⟩),
  (130, ⟨.other, 1, 8, [.dead]⟩),
  (131, ⟨.other, 1, 8, [.dead]⟩),
  (132, ⟨.ptr, 1, 8, [.dead]⟩),
  (133, ⟨.other, 1, 8, [.dead]⟩),
  (134, ⟨.other, 1, 8, [.dead]⟩),
  (135, ⟨.struct [(0, 3), (1, 3), (2, 3), (3, 3), (4, 3)], 5, 40, [.v (.int .i64 0), .v (.int .i64 0), .v (.int .i64 0), .v (.int .i64 0), .v (.int .i64 0)]⟩),
  (136, ⟨.struct [(0, 3), (1, 3), (2, 3), (3, 3), (4, 3)], 5, 40, [.v (.int .i64 0), .v (.int .i64 0), .v (.int .i64 0), .v (.int .i64 0), .v (.int .i64 0)]⟩),
  (137, ⟨.arr 8 136, 40, 320, [.v (.int .i64 0), .v (.int .i64 0), .v (.int .i64 0), .v (.int .i64 0), .v (.int .i64 0), .v (.int .i64 0), .v (.int .i64 0), .v (.int .i64 0), .v (.int .i64 0), .v (.int .i64 0), .v (.int .i64 0), .v (.int .i64 0), .v (.int .i64 0), .v (.int .i64 0), .v (.int .i64 0), .v (.int .i64 0), .v (.int .i64 0), .v (.int .i64 0), .v (.int .i64 0), .v (.int .i64 0), .v (.int .i64 0), .v (.int .i64 0), .v (.int .i64 0), .v (.int .i64 0), .v (.int .i64 0), .v (.int .i64 0), .v (.int .i64 0), .v (.int .i64 0), .v (.int .i64 0), .v (.int .i64 0), .v (.int .i64 0), .v (.int .i64 0), .v (.int .i64 0), .v (.int .i64 0), .v (.int .i64 0), .v (.int .i64 0), .v (.int .i64 0), .v (.int .i64 0), .v (.int .i64 0), .v (.int .i64 0)]⟩),
  (139, ⟨.other, 1, 8, [.dead]⟩),
  (140, ⟨.other, 1, 8, [.dead]⟩),
  (141, ⟨.other, 1, 8, [.dead]⟩),
  (142, ⟨.int .u32, 1, 4, [.v (.int .u32 0)]⟩),
  (143, ⟨.other, 1, 8, [.dead]⟩),
  (144, ⟨.int .u64, 1, 8, [.v (.int .u64 0)]⟩),
  (146, ⟨.other, 1, 8, [.dead]⟩),
  (148, ⟨.other, 1, 8, [.dead]⟩),
  (149, ⟨.other, 1, 8, [.dead]⟩),
  (150, ⟨.other, 1, 8, [.dead]⟩),
  (151, ⟨.other, 1, 8, [.dead]⟩),
  (152, ⟨.arr 8 137, 320, 2560, [.v (.int .i64 0), .v (.int .i64 0), .v (.int .i64 0), .v (.int .i64 0), .v (.int .i64 0), .v (.int .i64 0), .v (.int .i64 0), .v (.int .i64 0), .v (.int .i64 0), .v (.int .i64 0), .v (.int .i64 0), .v (.int .i64 0), .v (.int .i64 0), .v (.int .i64 0), .v (.int .i64 0), .v (.int .i64 0), .v (.int .i64 0), .v (.int .i64 0), .v (.int .i64 0), .v (.int .i64 0), .v (.int .i64 0), .v (.int .i64 0), .v (.int .i64 0), .v (.int .i64 0), .v (.int .i64 0), .v (.int .i64 0), .v (.int .i64 0), .v (.int .i64 0), .v (.int .i64 0), .v (.int .i64 0), .v (.int .i64 0), .v (.int .i64 0), .v (.int .i64 0), .v (.int .i64 0), .v (.int .i64 0), .v (.int .i64 0), .v (.int .i64 0), .v (.int .i64 0), .v (.int .i64 0), .v (.int .i64 0), .v (.int .i64 0), .v (.int .i64 0), .v (.int .i64 0), .v (.int .i64 0), .v (.int .i64 0), .v (.int .i64 0), .v (.int .i64 0), .v (.int .i64 0), .v (.int .i64 0), .v (.int .i64 0), .v (.int .i64 0), .v (.int .i64 0), .v (.int .i64 0), .v (.int .i64 0), .v (.int .i64 0), .v (.int .i64 0), .v (.int .i64 0), .v (.int .i64 0), .v (.int .i64 0), .v (.int .i64 0), .v (.int .i64 0), .v (.int .i64 0), .v (.int .i64 0), .v (.int .i64 0), .v (.int .i64 0), .v (.int .i64 0), .v (.int .i64 0), .v (.int .i64 0), .v (.int .i64 0), .v (.int .i64 0), .v (.int .i64 0), .v (.int .i64 0), .v (.int .i64 0), .v (.int .i64 0), .v (.int .i64 0), .v (.int .i64 0), .v (.int .i64 0), .v (.int .i64 0), .v (.int .i64 0), .v (.int .i64 0), .v (.int .i64 0), .v (.int .i64 0), .v (.int .i64 0), .v (.int .i64 0), .v (.int .i64 0), .v (.int .i64 0), .v (.int .i64 0), .v (.int .i64 0), .v (.int .i64 0), .v (.int .i64 0), .v (.int .i64 0), .v (.int .i64 0), .v (.int .i64 0), .v (.int .i64 0), .v (.int .i64 0), .v (.int .i64 0), .v (.int .i64 0), .v (.int .i64 0), .v (.int .i64 0), .v (.int .i64 0), .v (.int .i64 0), .v (.int .i64 0), .v (.int .i64 0), .v (.int .i64 0), .v (.int .i64 0), .v (.int .i64 0), .v (.int .i64 0), .v (.int .i64 0), .v (.int .i64 0), .v (.int .i64 0), .v (.int .i64 0), .v (.int .i64 0), .v (.int .i64 0), .v (.int .i64 0), .v (.int .i64 0), .v (.int .i64 0), .v (.int .i64 0), .v (.int .i64 0), .v (.int .i64 0), .v (.int .i64 0), .v (.int .i64 0), .v (.int .i64 0), .v (.int .i64 0), .v (.int .i64 0), .v (.int .i64 0), .v (.int .i64 0), .v (.int .i64 0), .v (.int .i64 0), .v (.int .i64 0), .v (.int .i64 0), .v (.int .i64 0), .v (.int .i64 0), .v (.int .i64 0), .v (.int .i64 0), .v (.int .i64 0), .v (.int .i64 0), .v (.int .i64 0), .v (.int .i64 0), .v (.int .i64 0), .v (.int .i64 0), .v (.int .i64 0), .v (.int .i64 0), .v (.int .i64 0), .v (.int .i64 0), .v (.int .i64 0), .v (.int .i64 0), .v (.int .i64 0), .v (.int .i64 0), .v (.int .i64 0), .v (.int .i64 0), .v (.int .i64 0), .v (.int .i64 0), .v (.int .i64 0), .v (.int .i64 0), .v (.int .i64 0), .v (.int .i64 0), .v (.int .i64 0), .v (.int .i64 0), .v (.int .i64 0), .v (.int .i64 0), .v (.int .i64 0), .v (.int .i64 0), .v (.int .i64 0), .v (.int .i64 0), .v (.int .i64 0), .v (.int .i64 0), .v (.int .i64 0), .v (.int .i64 0), .v (.int .i64 0), .v (.int .i64 0), .v (.int .i64 0), .v (.int .i64 0), .v (.int .i64 0), .v (.int .i64 0), .v (.int .i64 0), .v (.int .i64 0), .v (.int .i64 0), .v (.int .i64 0), .v (.int .i64 0), .v (.int .i64 0), .v (.int .i64 0), .v (.int .i64 0), .v (.int .i64 0), .v (.int .i64 0), .v (.int .i64 0), .v (.int .i64 0), .v (.int .i64 0), .v (.int .i64 0), .v (.int .i64 0), .v (.int .i64 0), .v (.int .i64 0), .v (.int .i64 0), .v (.int .i64 0), .v (.int .i64 0), .v (.int .i64 0), .v (.int .i64 0), .v (.int .i64 0), .v (.int .i64 0), .v (.int .i64 0), .v (.int .i64 0), .v (.int .i64 0), .v (.int .i64 0), .v (.int .i64 0), .v (.int .i64 0), .v (.int .i64 0), .v (.int .i64 0), .v (.int .i64 0), .v (.int .i64 0), .v (.int .i64 0), .v (.int .i64 0), .v (.int .i64 0), .v (.int .i64 0), .v (.int .i64 0), .v (.int .i64 0), .v (.int .i64 0), .v (.int .i64 0), .v (.int .i64 0), .v (.int .i64 0), .v (.int .i64 0), .v (.int .i64 0), .v (.int .i64 0), .v (.int .i64 0), .v (.int .i64 0), .v (.int .i64 0), .v (.int .i64 0), .v (.int .i64 0), .v (.int .i64 0), .v (.int .i64 0), .v (.int .i64 0), .v (.int .i64 0), .v (.int .i64 0), .v (.int .i64 0), .v (.int .i64 0), .v (.int .i64 0), .v (.int .i64 0), .v (.int .i64 0), .v (.int .i64 0), .v (.int .i64 0), .v (.int .i64 0), .v (.int .i64 0), .v (.int .i64 0), .v (.int .i64 0), .v (.int .i64 0), .v (.int .i64 0), .v (.int .i64 0), .v (.int .i64 0), .v (.int .i64 0), .v (.int .i64 0), .v (.int .i64 0), .v (.int .i64 0), .v (.int .i64 0), .v (.int .i64 0), .v (.int .i64 0), .v (.int .i64 0), .v (.int .i64 0), .v (.int .i64 0), .v (.int .i64 0), .v (.int .i64 0), .v (.int .i64 0), .v (.int .i64 0), .v (.int .i64 0), .v (.int .i64 0), .v (.int .i64 0), .v (.int .i64 0), .v (.int .i64 0), .v (.int .i64 0), .v (.int .i64 0), .v (.int .i64 0), .v (.int .i64 0), .v (.int .i64 0), .v (.int .i64 0), .v (.int .i64 0), .v (.int .i64 0), .v (.int .i64 0), .v (.int .i64 0), .v (.int .i64 0), .v (.int .i64 0), .v (.int .i64 0), .v (.int .i64 0), .v (.int .i64 0), .v (.int .i64 0), .v (.int .i64 0), .v (.int .i64 0), .v (.int .i64 0), .v (.int .i64 0), .v (.int .i64 0), .v (.int .i64 0), .v (.int .i64 0), .v (.int .i64 0), .v (.int .i64 0), .v (.int .i64 0), .v (.int .i64 0), .v (.int .i64 0), .v (.int .i64 0), .v (.int .i64 0), .v (.int .i64 0), .v (.int .i64 0), .v (.int .i64 0), .v (.int .i64 0), .v (.int .i64 0), .v (.int .i64 0), .v (.int .i64 0), .v (.int .i64 0), .v (.int .i64 0), .v (.int .i64 0), .v (.int .i64 0), .v (.int .i64 0), .v (.int .i64 0), .v (.int .i64 0), .v (.int .i64 0), .v (.int .i64 0), .v (.int .i64 0), .v (.int .i64 0), .v (.int .i64 0), .v (.int .i64 0), .v (.int .i64 0), .v (.int .i64 0), .v (.int .i64 0), .v (.int .i64 0), .v (.int .i64 0)]⟩),
  (153, ⟨.arr 8 137, 320, 2560, [.v (.int .i64 0), .v (.int .i64 0), .v (.int .i64 0), .v (.int .i64 0), .v (.int .i64 0), .v (.int .i64 0), .v (.int .i64 0), .v (.int .i64 0), .v (.int .i64 0), .v (.int .i64 0), .v (.int .i64 0), .v (.int .i64 0), .v (.int .i64 0), .v (.int .i64 0), .v (.int .i64 0), .v (.int .i64 0), .v (.int .i64 0), .v (.int .i64 0), .v (.int .i64 0), .v (.int .i64 0), .v (.int .i64 0), .v (.int .i64 0), .v (.int .i64 0), .v (.int .i64 0), .v (.int .i64 0), .v (.int .i64 0), .v (.int .i64 0), .v (.int .i64 0), .v (.int .i64 0), .v (.int .i64 0), .v (.int .i64 0), .v (.int .i64 0), .v (.int .i64 0), .v (.int .i64 0), .v (.int .i64 0), .v (.int .i64 0), .v (.int .i64 0), .v (.int .i64 0), .v (.int .i64 0), .v (.int .i64 0), .v (.int .i64 0), .v (.int .i64 0), .v (.int .i64 0), .v (.int .i64 0), .v (.int .i64 0), .v (.int .i64 0), .v (.int .i64 0), .v (.int .i64 0), .v (.int .i64 0), .v (.int .i64 0), .v (.int .i64 0), .v (.int .i64 0), .v (.int .i64 0), .v (.int .i64 0), .v (.int .i64 0), .v (.int .i64 0), .v (.int .i64 0), .v (.int .i64 0), .v (.int .i64 0), .v (.int .i64 0), .v (.int .i64 0), .v (.int .i64 0), .v (.int .i64 0), .v (.int .i64 0), .v (.int .i64 0), .v (.int .i64 0), .v (.int .i64 0), .v (.int .i64 0), .v (.int .i64 0), .v (.int .i64 0), .v (.int .i64 0), .v (.int .i64 0), .v (.int .i64 0), .v (.int .i64 0), .v (.int .i64 0), .v (.int .i64 0), .v (.int .i64 0), .v (.int .i64 0), .v (.int .i64 0), .v (.int .i64 0), .v (.int .i64 0), .v (.int .i64 0), .v (.int .i64 0), .v (.int .i64 0), .v (.int .i64 0), .v (.int .i64 0), .v (.int .i64 0), .v (.int .i64 0), .v (.int .i64 0), .v (.int .i64 0), .v (.int .i64 0), .v (.int .i64 0), .v (.int .i64 0), .v (.int .i64 0), .v (.int .i64 0), .v (.int .i64 0), .v (.int .i64 0), .v (.int .i64 0), .v (.int .i64 0), .v (.int .i64 0), .v (.int .i64 0), .v (.int .i64 0), .v (.int .i64 0), .v (.int .i64 0), .v (.int .i64 0), .v (.int .i64 0), .v (.int .i64 0), .v (.int .i64 0), .v (.int .i64 0), .v (.int .i64 0), .v (.int .i64 0), .v (.int .i64 0), .v (.int .i64 0), .v (.int .i64 0), .v (.int .i64 0), .v (.int .i64 0), .v (.int .i64 0), .v (.int .i64 0), .v (.int .i64 0), .v (.int .i64 0), .v (.int .i64 0), .v (.int .i64 0), .v (.int .i64 0), .v (.int .i64 0), .v (.int .i64 0), .v (.int .i64 0), .v (.int .i64 0), .v (.int .i64 0), .v (.int .i64 0), .v (.int .i64 0), .v (.int .i64 0), .v (.int .i64 0), .v (.int .i64 0), .v (.int .i64 0), .v (.int .i64 0), .v (.int .i64 0), .v (.int .i64 0), .v (.int .i64 0), .v (.int .i64 0), .v (.int .i64 0), .v (.int .i64 0), .v (.int .i64 0), .v (.int .i64 0), .v (.int .i64 0), .v (.int .i64 0), .v (.int .i64 0), .v (.int .i64 0), .v (.int .i64 0), .v (.int .i64 0), .v (.int .i64 0), .v (.int .i64 0), .v (.int .i64 0), .v (.int .i64 0), .v (.int .i64 0), .v (.int .i64 0), .v (.int .i64 0), .v (.int .i64 0), .v (.int .i64 0), .v (.int .i64 0), .v (.int .i64 0), .v (.int .i64 0), .v (.int .i64 0), .v (.int .i64 0), .v (.int .i64 0), .v (.int .i64 0), .v (.int .i64 0), .v (.int .i64 0), .v (.int .i64 0), .v (.int .i64 0), .v (.int .i64 0), .v (.int .i64 0), .v (.int .i64 0), .v (.int .i64 0), .v (.int .i64 0), .v (.int .i64 0), .v (.int .i64 0), .v (.int .i64 0), .v (.int .i64 0), .v (.int .i64 0), .v (.int .i64 0), .v (.int .i64 0), .v (.int .i64 0), .v (.int .i64 0), .v (.int .i64 0), .v (.int .i64 0), .v (.int .i64 0), .v (.int .i64 0), .v (.int .i64 0), .v (.int .i64 0), .v (.int .i64 0), .v (.int .i64 0), .v (.int .i64 0), .v (.int .i64 0), .v (.int .i64 0), .v (.int .i64 0), .v (.int .i64 0), .v (.int .i64 0), .v (.int .i64 0), .v (.int .i64 0), .v (.int .i64 0), .v (.int .i64 0), .v (.int .i64 0), .v (.int .i64 0), .v (.int .i64 0), .v (.int .i64 0), .v (.int .i64 0), .v (.int .i64 0), .v (.int .i64 0), .v (.int .i64 0), .v (.int .i64 0), .v (.int .i64 0), .v (.int .i64 0), .v (.int .i64 0), .v (.int .i64 0), .v (.int .i64 0), .v (.int .i64 0), .v (.int .i64 0), .v (.int .i64 0), .v (.int .i64 0), .v (.int .i64 0), .v (.int .i64 0), .v (.int .i64 0), .v (.int .i64 0), .v (.int .i64 0), .v (.int .i64 0), .v (.int .i64 0), .v (.int .i64 0), .v (.int .i64 0), .v (.int .i64 0), .v (.int .i64 0), .v (.int .i64 0), .v (.int .i64 0), .v (.int .i64 0), .v (.int .i64 0), .v (.int .i64 0), .v (.int .i64 0), .v (.int .i64 0), .v (.int .i64 0), .v (.int .i64 0), .v (.int .i64 0), .v (.int .i64 0), .v (.int .i64 0), .v (.int .i64 0), .v (.int .i64 0), .v (.int .i64 0), .v (.int .i64 0), .v (.int .i64 0), .v (.int .i64 0), .v (.int .i64 0), .v (.int .i64 0), .v (.int .i64 0), .v (.int .i64 0), .v (.int .i64 0), .v (.int .i64 0), .v (.int .i64 0), .v (.int .i64 0), .v (.int .i64 0), .v (.int .i64 0), .v (.int .i64 0), .v (.int .i64 0), .v (.int .i64 0), .v (.int .i64 0), .v (.int .i64 0), .v (.int .i64 0), .v (.int .i64 0), .v (.int .i64 0), .v (.int .i64 0), .v (.int .i64 0), .v (.int .i64 0), .v (.int .i64 0), .v (.int .i64 0), .v (.int .i64 0), .v (.int .i64 0), .v (.int .i64 0), .v (.int .i64 0), .v (.int .i64 0), .v (.int .i64 0), .v (.int .i64 0), .v (.int .i64 0), .v (.int .i64 0), .v (.int .i64 0), .v (.int .i64 0), .v (.int .i64 0), .v (.int .i64 0), .v (.int .i64 0), .v (.int .i64 0), .v (.int .i64 0), .v (.int .i64 0), .v (.int .i64 0), .v (.int .i64 0), .v (.int .i64 0), .v (.int .i64 0), .v (.int .i64 0), .v (.int .i64 0), .v (.int .i64 0), .v (.int .i64 0), .v (.int .i64 0), .v (.int .i64 0), .v (.int .i64 0), .v (.int .i64 0), .v (.int .i64 0), .v (.int .i64 0), .v (.int .i64 0), .v (.int .i64 0), .v (.int .i64 0), .v (.int .i64 0), .v (.int .i64 0), .v (.int .i64 0), .v (.int .i64 0), .v (.int .i64 0), .v (.int .i64 0), .v (.int .i64 0), .v (.int .i64 0), .v (.int .i64 0), .v (.int .i64 0), .v (.int .i64 0), .v (.int .i64 0), .v (.int .i64 0), .v (.int .i64 0), .v (.int .i64 0)]⟩),
  (154, ⟨.other, 1, 8, [.dead]⟩),
  (155, ⟨.other, 1, 8, [.dead]⟩),
  (156, ⟨.ptr, 1, 8, [.dead]⟩),
  (158, ⟨.other, 1, 8, [.dead]⟩),
  (159, ⟨.ptr, 1, 8, [.dead]⟩),
  (160, ⟨.arr 5 61, 25, 200, [.v (.int .i64 0), .v (.int .i64 0), .v (.int .i64 0), .v (.int .i64 0), .v (.int .i64 0), .v (.int .i64 0), .v (.int .i64 0), .v (.int .i64 0), .v (.int .i64 0), .v (.int .i64 0), .v (.int .i64 0), .v (.int .i64 0), .v (.int .i64 0), .v (.int .i64 0), .v (.int .i64 0), .v (.int .i64 0), .v (.int .i64 0), .v (.int .i64 0), .v (.int .i64 0), .v (.int .i64 0), .v (.int .i64 0), .v (.int .i64 0), .v (.int .i64 0), .v (.int .i64 0), .v (.int .i64 0)]⟩),
  (161, ⟨.struct [(0, 3), (1, 3), (2, 4), (3, 160)], 28, 224, [.v (.int .i64 0), .v (.int .i64 0), .v (.bool false), .v (.int .i64 0), .v (.int .i64 0), .v (.int .i64 0), .v (.int .i64 0), .v (.int .i64 0), .v (.int .i64 0), .v (.int .i64 0), .v (.int .i64 0), .v (.int .i64 0), .v (.int .i64 0), .v (.int .i64 0), .v (.int .i64 0), .v (.int .i64 0), .v (.int .i64 0), .v (.int .i64 0), .v (.int .i64 0), .v (.int .i64 0), .v (.int .i64 0), .v (.int .i64 0), .v (.int .i64 0), .v (.int .i64 0), .v (.int .i64 0), .v (.int .i64 0), .v (.int .i64 0), .v (.int .i64 0)]⟩),
  (162, ⟨.struct [(0, 3), (1, 3), (2, 4), (3, 160)], 28, 224, [.v (.int .i64 0), .v (.int .i64 0), .v (.bool false), .v (.int .i64 0), .v (.int .i64 0), .v (.int .i64 0), .v (.int .i64 0), .v (.int .i64 0), .v (.int .i64 0), .v (.int .i64 0), .v (.int .i64 0), .v (.int .i64 0), .v (.int .i64 0), .v (.int .i64 0), .v (.int .i64 0), .v (.int .i64 0), .v (.int .i64 0), .v (.int .i64 0), .v (.int .i64 0), .v (.int .i64 0), .v (.int .i64 0), .v (.int .i64 0), .v (.int .i64 0), .v (.int .i64 0), .v (.int .i64 0), .v (.int .i64 0), .v (.int .i64 0), .v (.int .i64 0)]⟩),
  (163, ⟨.other, 1, 8, [.dead]⟩),
  (164, ⟨.other, 1, 8, [.dead]⟩),
  (165, ⟨.other, 1, 8, [.dead]⟩),
  (166, ⟨.int .i64, 1, 8, [.v (.int .i64 0)]⟩),
  (168, ⟨.other, 1, 8, [.dead]⟩),
  (169, ⟨.other, 1, 8, [.dead]⟩),
  (170, ⟨.other, 1, 8, [.dead]⟩),
  (172, ⟨.other, 1, 8, [.dead]⟩),
  (173, ⟨.arr 32 5, 32, 32, [.v (.int .u8 0), .v (.int .u8 0), .v (.int .u8 0), .v (.int .u8 0), .v (.int .u8 0), .v (.int .u8 0), .v (.int .u8 0), .v (.int .u8 0), .v (.int .u8 0), .v (.int .u8 0), .v (.int .u8 0), .v (.int .u8 0), .v (.int .u8 0), .v (.int .u8 0), .v (.int .u8 0), .v (.int .u8 0), .v (.int .u8 0), .v (.int .u8 0), .v (.int .u8 0), .v (.int .u8 0), .v (.int .u8 0), .v (.int .u8 0), .v (.int .u8 0), .v (.int .u8 0), .v (.int .u8 0), .v (.int .u8 0), .v (.int .u8 0), .v (.int .u8 0), .v (.int .u8 0), .v (.int .u8 0), .v (.int .u8 0), .v (.int .u8 0)]⟩),
  (174, ⟨.arr 64 5, 64, 64, [.v (.int .u8 0), .v (.int .u8 0), .v (.int .u8 0), .v (.int .u8 0), .v (.int .u8 0), .v (.int .u8 0), .v (.int .u8 0), .v (.int .u8 0), .v (.int .u8 0), .v (.int .u8 0), .v (.int .u8 0), .v (.int .u8 0), .v (.int .u8 0), .v (.int .u8 0), .v (.int .u8 0), .v (.int .u8 0), .v (.int .u8 0), .v (.int .u8 0), .v (.int .u8 0), .v (.int .u8 0), .v (.int .u8 0), .v (.int .u8 0), .v (.int .u8 0), .v (.int .u8 0), .v (.int .u8 0), .v (.int .u8 0), .v (.int .u8 0), .v (.int .u8 0), .v (.int .u8 0), .v (.int .u8 0), .v (.int .u8 0), .v (.int .u8 0), .v (.int .u8 0), .v (.int .u8 0), .v (.int .u8 0), .v (.int .u8 0), .v (.int .u8 0), .v (.int .u8 0), .v (.int .u8 0), .v (.int .u8 0), .v (.int .u8 0), .v (.int .u8 0), .v (.int .u8 0), .v (.int .u8 0), .v (.int .u8 0), .v (.int .u8 0), .v (.int .u8 0), .v (.int .u8 0), .v (.int .u8 0), .v (.int .u8 0), .v (.int .u8 0), .v (.int .u8 0), .v (.int .u8 0), .v (.int .u8 0), .v (.int .u8 0), .v (.int .u8 0), .v (.int .u8 0), .v (.int .u8 0), .v (.int .u8 0), .v (.int .u8 0), .v (.int .u8 0), .v (.int .u8 0), .v (.int .u8 0), .v (.int .u8 0)]⟩),
  (175, ⟨.ptr, 1, 8, [.dead]⟩),
  (176, ⟨.struct [(0, 40), (3, 49), (5, 127), (6, 125), (7, 150), (8, 129)], 9, 136, [.v (.int .i64 0), .v (.int .i64 0), .v .nl, .v .nl, .v .nl, .v (.int .u16 0), .v .nl, .dead, .dead]⟩),
  (177, ⟨.struct [(0, 40), (3, 49), (5, 127), (6, 125), (7, 150), (8, 129)], 9, 136, [.v (.int .i64 0), .v (.int .i64 0), .v .nl, .v .nl, .v .nl, .v (.int .u16 0), .v .nl, .dead, .dead]⟩),
  (178, ⟨.other, 1, 8, [.dead]⟩),
  (179, ⟨.arr 5 70, 5, 40, [.v (.int .u64 0), .v (.int .u64 0), .v (.int .u64 0), .v (.int .u64 0), .v (.int .u64 0)]⟩),
  (180, ⟨.struct [(0, 3), (1, 160), (26, 179), (31, 179)], 36, 288, [.v (.int .i64 0), .v (.int .i64 0), .v (.int .i64 0), .v (.int .i64 0), .v (.int .i64 0), .v (.int .i64 0), .v (.int .i64 0), .v (.int .i64 0), .v (.int .i64 0), .v (.int .i64 0), .v (.int .i64 0), .v (.int .i64 0), .v (.int .i64 0), .v (.int .i64 0), .v (.int .i64 0), .v (.int .i64 0), .v (.int .i64 0), .v (.int .i64 0), .v (.int .i64 0), .v (.int .i64 0), .v (.int .i64 0), .v (.int .i64 0), .v (.int .i64 0), .v (.int .i64 0), .v (.int .i64 0), .v (.int .i64 0), .v (.int .u64 0), .v (.int .u64 0), .v (.int .u64 0), .v (.int .u64 0), .v (.int .u64 0), .v (.int .u64 0), .v (.int .u64 0), .v (.int .u64 0), .v (.int .u64 0), .v (.int .u64 0)]⟩),
  (181, ⟨.struct [(0, 3), (1, 160), (26, 179), (31, 179)], 36, 288, [.v (.int .i64 0), .v (.int .i64 0), .v (.int .i64 0), .v (.int .i64 0), .v (.int .i64 0), .v (.int .i64 0), .v (.int .i64 0), .v (.int .i64 0), .v (.int .i64 0), .v (.int .i64 0), .v (.int .i64 0), .v (.int .i64 0), .v (.int .i64 0), .v (.int .i64 0), .v (.int .i64 0), .v (.int .i64 0), .v (.int .i64 0), .v (.int .i64 0), .v (.int .i64 0), .v (.int .i64 0), .v (.int .i64 0), .v (.int .i64 0), .v (.int .i64 0), .v (.int .i64 0), .v (.int .i64 0), .v (.int .i64 0), .v (.int .u64 0), .v (.int .u64 0), .v (.int .u64 0), .v (.int .u64 0), .v (.int .u64 0), .v (.int .u64 0), .v (.int .u64 0), .v (.int .u64 0), .v (.int .u64 0), .v (.int .u64 0)]⟩),
  (182, ⟨.other, 1, 8, [.dead]⟩),
  (183, ⟨.ifc, 1, 16, [.dead]⟩),
  (184, ⟨.ifc, 1, 16, [.dead]⟩),
  (186, ⟨.other, 1, 8, [.dead]⟩),
  (187, ⟨.other, 1, 8, [.dead]⟩),
  (188, ⟨.other, 1, 8, [.dead]⟩),
  (189, ⟨.int .u64, 1, 8, [.v (.int .u64 0)]⟩),
  (190, ⟨.other, 1, 8, [.dead]⟩),
  (191, ⟨.other, 1, 8, [.dead]⟩),
  (192, ⟨.other, 1, 8, [.dead]⟩),
  (193, ⟨.ptr, 1, 8, [.dead]⟩),
  (194, ⟨.other, 1, 8, [.dead]⟩),
  (195, ⟨.ptr, 1, 8, [.dead]⟩),
  (196, ⟨.other, 1, 8, [.dead]⟩),
  (197, ⟨.other, 1, 8, [.dead]⟩),
  (203, ⟨.other, 1, 8, [.dead]⟩),
  (207, ⟨.ptr, 1, 8, [.dead]⟩),
  (212, ⟨.other, 1, 8, [.dead]⟩),
  (214, ⟨.slice 97, 1, 24, [.v .nl]⟩)]
theorem tl1 : tl tab 1 = some ⟨.other, 1, 8, [.dead]⟩ := rfl
theorem tl2 : tl tab 2 = some ⟨.int .i64, 1, 8, [.v (.int .i64 0)]⟩ := rfl
theorem tl3 : tl tab 3 = some ⟨.int .i64, 1, 8, [.v (.int .i64 0)]⟩ := rfl
theorem tl4 : tl tab 4 = some ⟨.bool, 1, 1, [.v (.bool false)]⟩ := rfl
theorem tl5 : tl tab 5 = some ⟨.int .u8, 1, 1, [.v (.int .u8 0)]⟩ := rfl
theorem tl9 : tl tab 9 = some ⟨.str, 1, 16, [.v (.str ⟨#[]⟩)]⟩ := rfl
theorem tl17 : tl tab 17 = some ⟨.ptr, 1, 8, [.dead]⟩ := rfl
theorem tl21 : tl tab 21 = some ⟨.int .i32, 1, 4, [.v (.int .i32 0)]⟩ := rfl
theorem tl22 : tl tab 22 = some ⟨.arr 8 5, 8, 8, [.v (.int .u8 0), .v (.int .u8 0), .v (.int .u8 0), .v (.int .u8 0), .v (.int .u8 0), .v (.int .u8 0), .v (.int .u8 0), .v (.int .u8 0)]⟩ := rfl
theorem tl23 : tl tab 23 = some ⟨.arr 2 5, 2, 2, [.v (.int .u8 0), .v (.int .u8 0)]⟩ := rfl
theorem tl24 : tl tab 24 = some ⟨.arr 8 23, 16, 16, [.v (.int .u8 0), .v (.int .u8 0), .v (.int .u8 0), .v (.int .u8 0), .v (.int .u8 0), .v (.int .u8 0), .v (.int .u8 0), .v (.int .u8 0), .v (.int .u8 0), .v (.int .u8 0), .v (.int .u8 0), .v (.int .u8 0), .v (.int .u8 0), .v (.int .u8 0), .v (.int .u8 0), .v (.int .u8 0)]⟩ := rfl
theorem tl25 : tl tab 25 = some ⟨.slice 30, 1, 24, [.v .nl]⟩ := rfl
theorem tl26 : tl tab 26 = some ⟨.struct [(0, 3), (1, 25)], 2, 32, [.v (.int .i64 0), .v .nl]⟩ := rfl
theorem tl27 : tl tab 27 = some ⟨.struct [(0, 3), (1, 25)], 2, 32, [.v (.int .i64 0), .v .nl]⟩ := rfl
theorem tl28 : tl tab 28 = some ⟨.other, 1, 8, [.dead]⟩ := rfl
theorem tl29 : tl tab 29 = some ⟨.slice 3, 1, 24, [.v .nl]⟩ := rfl
theorem tl30 : tl tab 30 = some ⟨.arr 2 3, 2, 16, [.v (.int .i64 0), .v (.int .i64 0)]⟩ := rfl
theorem tl31 : tl tab 31 = some ⟨.int .i64, 1, 8, [.v (.int .i64 0)]⟩ := rfl
theorem tl33 : tl tab 33 = some ⟨.other, 1, 8, [.dead]⟩ := rfl
theorem tl34 : tl tab 34 = some ⟨.other, 1, 8, [.dead]⟩ := rfl
theorem tl35 : tl tab 35 = some ⟨.other, 1, 8, [.dead]⟩ := rfl
theorem tl36 : tl tab 36 = some ⟨.other, 1, 8, [.dead]⟩ := rfl
theorem tl37 : tl tab 37 = some ⟨.other, 1, 8, [.dead]⟩ := rfl
theorem tl38 : tl tab 38 = some ⟨.other, 1, 8, [.dead]⟩ := rfl
theorem tl39 : tl tab 39 = some ⟨.struct [(0, 3), (1, 3), (2, 29)], 3, 40, [.v (.int .i64 0), .v (.int .i64 0), .v .nl]⟩ := rfl
theorem tl40 : tl tab 40 = some ⟨.struct [(0, 3), (1, 3), (2, 29)], 3, 40, [.v (.int .i64 0), .v (.int .i64 0), .v .nl]⟩ := rfl
theorem tl41 : tl tab 41 = some ⟨.slice 46, 1, 24, [.v .nl]⟩ := rfl
theorem tl42 : tl tab 42 = some ⟨.struct [(0, 3), (1, 41)], 2, 32, [.v (.int .i64 0), .v .nl]⟩ := rfl
theorem tl43 : tl tab 43 = some ⟨.struct [(0, 3), (1, 41)], 2, 32, [.v (.int .i64 0), .v .nl]⟩ := rfl
theorem tl44 : tl tab 44 = some ⟨.other, 1, 8, [.dead]⟩ := rfl
theorem tl45 : tl tab 45 = some ⟨.struct [(0, 29), (1, 29)], 2, 48, [.v .nl, .v .nl]⟩ := rfl
theorem tl46 : tl tab 46 = some ⟨.struct [(0, 29), (1, 29)], 2, 48, [.v .nl, .v .nl]⟩ := rfl
theorem tl47 : tl tab 47 = some ⟨.other, 1, 8, [.dead]⟩ := rfl
theorem tl48 : tl tab 48 = some ⟨.struct [(0, 29), (1, 29)], 2, 48, [.v .nl, .v .nl]⟩ := rfl
theorem tl49 : tl tab 49 = some ⟨.struct [(0, 29), (1, 29)], 2, 48, [.v .nl, .v .nl]⟩ := rfl
theorem tl51 : tl tab 51 = some ⟨.other, 1, 8, [.dead]⟩ := rfl
theorem tl52 : tl tab 52 = some ⟨.other, 1, 8, [.dead]⟩ := rfl
theorem tl53 : tl tab 53 = some ⟨.other, 1, 8, [.dead]⟩ := rfl
theorem tl54 : tl tab 54 = some ⟨.other, 1, 8, [.dead]⟩ := rfl
theorem tl56 : tl tab 56 = some ⟨.other, 1, 8, [.dead]⟩ := rfl
theorem tl57 : tl tab 57 = some ⟨.other, 1, 8, [.dead]⟩ := rfl
theorem tl58 : tl tab 58 = some ⟨.other, 1, 8, [.dead]⟩ := rfl
theorem tl59 : tl tab 59 = some ⟨.slice 23, 1, 24, [.v .nl]⟩ := rfl
theorem tl60 : tl tab 60 = some ⟨.other, 1, 8, [.dead]⟩ := rfl
theorem tl61 : tl tab 61 = some ⟨.arr 5 3, 5, 40, [.v (.int .i64 0), .v (.int .i64 0), .v (.int .i64 0), .v (.int .i64 0), .v (.int .i64 0)]⟩ := rfl
theorem tl62 : tl tab 62 = some ⟨.arr 5 3, 5, 40, [.v (.int .i64 0), .v (.int .i64 0), .v (.int .i64 0), .v (.int .i64 0), .v (.int .i64 0)]⟩ := rfl
theorem tl64 : tl tab 64 = some ⟨.other, 1, 8, [.dead]⟩ := rfl
theorem tl65 : tl tab 65 = some ⟨.other, 1, 8, [.dead]⟩ := rfl
theorem tl66 : tl tab 66 = some ⟨.other, 1, 8, [.dead]⟩ := rfl
theorem tl67 : tl tab 67 = some ⟨.other, 1, 8, [.dead]⟩ := rfl
theorem tl68 : tl tab 68 = some ⟨.other, 1, 8, [.dead]⟩ := rfl
theorem tl69 : tl tab 69 = some ⟨.other, 1, 8, [.dead]⟩ := rfl
theorem tl70 : tl tab 70 = some ⟨.int .u64, 1, 8, [.v (.int .u64 0)]⟩ := rfl
theorem tl71 : tl tab 71 = some ⟨.other, 1, 8, [.dead]⟩ := rfl
theorem tl72 : tl tab 72 = some ⟨.other, 1, 8, [.dead]⟩ := rfl
theorem tl73 : tl tab 73 = some ⟨.other, 1, 8, [.dead]⟩ := rfl
theorem tl74 : tl tab 74 = some ⟨.other, 1, 8, [.dead]⟩ := rfl
theorem tl75 : tl tab 75 = some ⟨.other, 1, 8, [.dead]⟩ := rfl
theorem tl76 : tl tab 76 = some ⟨.other, 1, 8, [.dead]⟩ := rfl
theorem tl77 : tl tab 77 = some ⟨.other, 1, 8, [.dead]⟩ := rfl
theorem tl78 : tl tab 78 = some ⟨.other, 1, 8, [.dead]⟩ := rfl
theorem tl79 : tl tab 79 = some ⟨.other, 1, 8, [.dead]⟩ := rfl
theorem tl80 : tl tab 80 = some ⟨.other, 1, 8, [.dead]⟩ := rfl
theorem tl81 : tl tab 81 = some ⟨.other, 1, 8, [.dead]⟩ := rfl
theorem tl82 : tl tab 82 = some ⟨.int .u8, 1, 1, [.v (.int .u8 0)]⟩ := rfl
theorem tl83 : tl tab 83 = some ⟨.slice 99, 1, 24, [.v .nl]⟩ := rfl
theorem tl84 : tl tab 84 = some ⟨.struct [(0, 82), (1, 83)], 2, 32, [.v (.int .u8 0), .v .nl]⟩ := rfl
theorem tl85 : tl tab 85 = some ⟨.struct [(0, 82), (1, 83)], 2, 32, [.v (.int .u8 0), .v .nl]⟩ := rfl
theorem tl87 : tl tab 87 = some ⟨.other, 1, 8, [.dead]⟩ := rfl
theorem tl88 : tl tab 88 = some ⟨.other, 1, 8, [.dead]⟩ := rfl
theorem tl89 : tl tab 89 = some ⟨.other, 1, 8, [.dead]⟩ := rfl
theorem tl90 : tl tab 90 = some ⟨.other, 1, 8, [.dead]⟩ := rfl
theorem tl91 : tl tab 91 = some ⟨.other, 1, 8, [.dead]⟩ := rfl
theorem tl92 : tl tab 92 = some ⟨.struct [(0, 82), (1, 29)], 2, 32, [.v (.int .u8 0), .v .nl]⟩ := rfl
theorem tl93 : tl tab 93 = some ⟨.struct [(0, 82), (1, 29)], 2, 32, [.v (.int .u8 0), .v .nl]⟩ := rfl
theorem tl94 : tl tab 94 = some ⟨.slice 93, 1, 24, [.v .nl]⟩ := rfl
theorem tl95 : tl tab 95 = some ⟨.slice 82, 1, 24, [.v .nl]⟩ := rfl
theorem tl96 : tl tab 96 = some ⟨.struct [(0, 82), (1, 82)], 2, 2, [.v (.int .u8 0), .v (.int .u8 0)]⟩ := rfl
theorem tl97 : tl tab 97 = some ⟨.struct [(0, 82), (1, 82)], 2, 2, [.v (.int .u8 0), .v (.int .u8 0)]⟩ := rfl
theorem tl98 : tl tab 98 = some ⟨.struct [(0, 97), (2, 3)], 3, 16, [.v (.int .u8 0), .v (.int .u8 0), .v (.int .i64 0)]⟩ := rfl
theorem tl99 : tl tab 99 = some ⟨.struct [(0, 97), (2, 3)], 3, 16, [.v (.int .u8 0), .v (.int .u8 0), .v (.int .i64 0)]⟩ := rfl
theorem tl100 : tl tab 100 = some ⟨.other, 1, 8, [.dead]⟩ := rfl
theorem tl101 : tl tab 101 = some ⟨.other, 1, 8, [.dead]⟩ := rfl
theorem tl102 : tl tab 102 = some ⟨.other, 1, 8, [.dead]⟩ := rfl
theorem tl103 : tl tab 103 = some ⟨.arr 3 3, 3, 24, [.v (.int .i64 0), .v (.int .i64 0), .v (.int .i64 0)]⟩ := rfl
theorem tl104 : tl tab 104 = some ⟨.slice 103, 1, 24, [.v .nl]⟩ := rfl
theorem tl105 : tl tab 105 = some ⟨.other, 1, 8, [.dead]⟩ := rfl
theorem tl106 : tl tab 106 = some ⟨.other, 1, 8, [.dead]⟩ := rfl
theorem tl107 : tl tab 107 = some ⟨.other, 1, 8, [.dead]⟩ := rfl
theorem tl108 : tl tab 108 = some ⟨.other, 1, 8, [.dead]⟩ := rfl
theorem tl109 : tl tab 109 = some ⟨.other, 1, 8, [.dead]⟩ := rfl
theorem tl110 : tl tab 110 = some ⟨.other, 1, 8, [.dead]⟩ := rfl
theorem tl111 : tl tab 111 = some ⟨.other, 1, 8, [.dead]⟩ := rfl
theorem tl112 : tl tab 112 = some ⟨.other, 1, 8, [.dead]⟩ := rfl
theorem tl114 : tl tab 114 = some ⟨.other, 1, 8, [.dead]⟩ := rfl
theorem tl116 : tl tab 116 = some ⟨.other, 1, 8, [.dead]⟩ := rfl
theorem tl117 : tl tab 117 = some ⟨.other, 1, 8, [.dead]⟩ := rfl
theorem tl118 : tl tab 118 = some ⟨.other, 1, 8, [.dead]⟩ := rfl
theorem tl120 : tl tab 120 = some ⟨.other, 1, 8, [.dead]⟩ := rfl
theorem tl122 : tl tab 122 = some ⟨.other, 1, 8, [.dead]⟩ := rfl
theorem tl123 : tl tab 123 = some ⟨.other, 1, 8, [.dead]⟩ := rfl
theorem tl124 : tl tab 124 = some ⟨.other, 1, 8, [.dead]⟩ := rfl
theorem tl125 : tl tab 125 = some ⟨.slice 29, 1, 24, [.v .nl]⟩ := rfl
theorem tl126 : tl tab 126 = some ⟨.int .u16, 1, 2, [.v (.int .u16 0)]⟩ := rfl
theorem tl127 : tl tab 127 = some ⟨.int .u16, 1, 2, [.v (.int .u16 0)]⟩ := rfl
theorem tl128 : tl tab 128 = some ⟨.other, 1, 8, [.dead]⟩ := rfl
theorem tl129 : tl tab 129 = some ⟨.other, 1, 8, [.dead]⟩ := rfl
theorem tl130 : tl tab 130 = some ⟨.other, 1, 8, [.dead]⟩ := rfl
theorem tl131 : tl tab 131 = some ⟨.other, 1, 8, [.dead]⟩ := rfl
theorem tl132 : tl tab 132 = some ⟨.ptr, 1, 8, [.dead]⟩ := rfl
theorem tl133 : tl tab 133 = some ⟨.other, 1, 8, [.dead]⟩ := rfl
theorem tl134 : tl tab 134 = some ⟨.other, 1, 8, [.dead]⟩ := rfl
theorem tl135 : tl tab 135 = some ⟨.struct [(0, 3), (1, 3), (2, 3), (3, 3), (4, 3)], 5, 40, [.v (.int .i64 0), .v (.int .i64 0), .v (.int .i64 0), .v (.int .i64 0), .v (.int .i64 0)]⟩ := rfl
theorem tl136 : tl tab 136 = some ⟨.struct [(0, 3), (1, 3), (2, 3), (3, 3), (4, 3)], 5, 40, [.v (.int .i64 0), .v (.int .i64 0), .v (.int .i64 0), .v (.int .i64 0), .v (.int .i64 0)]⟩ := rfl
theorem tl137 : tl tab 137 = some ⟨.arr 8 136, 40, 320, [.v (.int .i64 0), .v (.int .i64 0), .v (.int .i64 0), .v (.int .i64 0), .v (.int .i64 0), .v (.int .i64 0), .v (.int .i64 0), .v (.int .i64 0), .v (.int .i64 0), .v (.int .i64 0), .v (.int .i64 0), .v (.int .i64 0), .v (.int .i64 0), .v (.int .i64 0), .v (.int .i64 0), .v (.int .i64 0), .v (.int .i64 0), .v (.int .i64 0), .v (.int .i64 0), .v (.int .i64 0), .v (.int .i64 0), .v (.int .i64 0), .v (.int .i64 0), .v (.int .i64 0), .v (.int .i64 0), .v (.int .i64 0), .v (.int .i64 0), .v (.int .i64 0), .v (.int .i64 0), .v (.int .i64 0), .v (.int .i64 0), .v (.int .i64 0), .v (.int .i64 0), .v (.int .i64 0), .v (.int .i64 0), .v (.int .i64 0), .v (.int .i64 0), .v (.int .i64 0), .v (.int .i64 0), .v (.int .i64 0)]⟩ := rfl
theorem tl139 : tl tab 139 = some ⟨.other, 1, 8, [.dead]⟩ := rfl
theorem tl140 : tl tab 140 = some ⟨.other, 1, 8, [.dead]⟩ := rfl
theorem tl141 : tl tab 141 = some ⟨.other, 1, 8, [.dead]⟩ := rfl
theorem tl142 : tl tab 142 = some ⟨.int .u32, 1, 4, [.v (.int .u32 0)]⟩ := rfl
theorem tl143 : tl tab 143 = some ⟨.other, 1, 8, [.dead]⟩ := rfl
theorem tl144 : tl tab 144 = some ⟨.int .u64, 1, 8, [.v (.int .u64 0)]⟩ := rfl
theorem tl146 : tl tab 146 = some ⟨.other, 1, 8, [.dead]⟩ := rfl
theorem tl148 : tl tab 148 = some ⟨.other, 1, 8, [.dead]⟩ := rfl
theorem tl149 : tl tab 149 = some ⟨.other, 1, 8, [.dead]⟩ := rfl
theorem tl150 : tl tab 150 = some ⟨.other, 1, 8, [.dead]⟩ := rfl
theorem tl151 : tl tab 151 = some ⟨.other, 1, 8, [.dead]⟩ := rfl
theorem tl152 : tl tab 152 = some ⟨.arr 8 137, 320, 2560, [.v (.int .i64 0), .v (.int .i64 0), .v (.int .i64 0), .v (.int .i64 0), .v (.int .i64 0), .v (.int .i64 0), .v (.int .i64 0), .v (.int .i64 0), .v (.int .i64 0), .v (.int .i64 0), .v (.int .i64 0), .v (.int .i64 0), .v (.int .i64 0), .v (.int .i64 0), .v (.int .i64 0), .v (.int .i64 0), .v (.int .i64 0), .v (.int .i64 0), .v (.int .i64 0), .v (.int .i64 0), .v (.int .i64 0), .v (.int .i64 0), .v (.int .i64 0), .v (.int .i64 0), .v (.int .i64 0), .v (.int .i64 0), .v (.int .i64 0), .v (.int .i64 0), .v (.int .i64 0), .v (.int .i64 0), .v (.int .i64 0), .v (.int .i64 0), .v (.int .i64 0), .v (.int .i64 0), .v (.int .i64 0), .v (.int .i64 0), .v (.int .i64 0), .v (.int .i64 0), .v (.int .i64 0), .v (.int .i64 0), .v (.int .i64 0), .v (.int .i64 0), .v (.int .i64 0), .v (.int .i64 0), .v (.int .i64 0), .v (.int .i64 0), .v (.int .i64 0), .v (.int .i64 0), .v (.int .i64 0), .v (.int .i64 0), .v (.int .i64 0), .v (.int .i64 0), .v (.int .i64 0), .v (.int .i64 0), .v (.int .i64 0), .v (.int .i64 0), .v (.int .i64 0), .v (.int .i64 0), .v (.int .i64 0), .v (.int .i64 0), .v (.int .i64 0), .v (.int .i64 0), .v (.int .i64 0), .v (.int .i64 0), .v (.int .i64 0), .v (.int .i64 0), .v (.int .i64 0), .v (.int .i64 0), .v (.int .i64 0), .v (.int .i64 0), .v (.int .i64 0), .v (.int .i64 0), .v (.int .i64 0), .v (.int .i64 0), .v (.int .i64 0), .v (.int .i64 0), .v (.int .i64 0), .v (.int .i64 0), .v (.int .i64 0), .v (.int .i64 0), .v (.int .i64 0), .v (.int .i64 0), .v (.int .i64 0), .v (.int .i64 0), .v (.int .i64 0), .v (.int .i64 0), .v (.int .i64 0), .v (.int .i64 0), .v (.int .i64 0), .v (.int .i64 0), .v (.int .i64 0), .v (.int .i64 0), .v (.int .i64 0), .v (.int .i64 0), .v (.int .i64 0), .v (.int .i64 0), .v (.int .i64 0), .v (.int .i64 0), .v (.int .i64 0), .v (.int .i64 0), .v (.int .i64 0), .v (.int .i64 0), .v (.int .i64 0), .v (.int .i64 0), .v (.int .i64 0), .v (.int .i64 0), .v (.int .i64 0), .v (.int .i64 0), .v (.int .i64 0), .v (.int .i64 0), .v (.int .i64 0), .v (.int .i64 0), .v (.int .i64 0), .v (.int .i64 0), .v (.int .i64 0), .v (.int .i64 0), .v (.int .i64 0), .v (.int .i64 0), .v (.int .i64 0), .v (.int .i64 0), .v (.int .i64 0), .v (.int .i64 0), .v (.int .i64 0), .v (.int .i64 0), .v (.int .i64 0), .v (.int .i64 0), .v (.int .i64 0), .v (.int .i64 0), .v (.int .i64 0), .v (.int .i64 0), .v (.int .i64 0), .v (.int .i64 0), .v (.int .i64 0), .v (.int .i64 0), .v (.int .i64 0), .v (.int .i64 0), .v (.int .i64 0), .v (.int .i64 0), .v (.int .i64 0), .v (.int .i64 0), .v (.int .i64 0), .v (.int .i64 0), .v (.int .i64 0), .v (.int .i64 0), .v (.int .i64 0), .v (.int .i64 0), .v (.int .i64 0), .v (.int .i64 0), .v (.int .i64 0), .v (.int .i64 0), .v (.int .i64 0), .v (.int .i64 0), .v (.int .i64 0), .v (.int .i64 0), .v (.int .i64 0), .v (.int .i64 0), .v (.int .i64 0), .v (.int .i64 0), .v (.int .i64 0), .v (.int .i64 0), .v (.int .i64 0), .v (.int .i64 0), .v (.int .i64 0), .v (.int .i64 0), .v (.int .i64 0), .v (.int .i64 0), .v (.int .i64 0), .v (.int .i64 0), .v (.int .i64 0), .v (.int .i64 0), .v (.int .i64 0), .v (.int .i64 0), .v (.int .i64 0), .v (.int .i64 0), .v (.int .i64 0), .v (.int .i64 0), .v (.int .i64 0), .v (.int .i64 0), .v (.int .i64 0), .v (.int .i64 0), .v (.int .i64 0), .v (.int .i64 0), .v (.int .i64 0), .v (.int .i64 0), .v (.int .i64 0), .v (.int .i64 0), .v (.int .i64 0), .v (.int .i64 0), .v (.int .i64 0), .v (.int .i64 0), .v (.int .i64 0), .v (.int .i64 0), .v (.int .i64 0), .v (.int .i64 0), .v (.int .i64 0), .v (.int .i64 0), .v (.int .i64 0), .v (.int .i64 0), .v (.int .i64 0), .v (.int .i64 0), .v (.int .i64 0), .v (.int .i64 0), .v (.int .i64 0), .v (.int .i64 0), .v (.int .i64 0), .v (.int .i64 0), .v (.int .i64 0), .v (.int .i64 0), .v (.int .i64 0), .v (.int .i64 0), .v (.int .i64 0), .v (.int .i64 0), .v (.int .i64 0), .v (.int .i64 0), .v (.int .i64 0), .v (.int .i64 0), .v (.int .i64 0), .v (.int .i64 0), .v (.int .i64 0), .v (.int .i64 0), .v (.int .i64 0), .v (.int .i64 0), .v (.int .i64 0), .v (.int .i64 0), .v (.int .i64 0), .v (.int .i64 0), .v (.int .i64 0), .v (.int .i64 0), .v (.int .i64 0), .v (.int .i64 0), .v (.int .i64 0), .v (.int .i64 0), .v (.int .i64 0), .v (.int .i64 0), .v (.int .i64 0), .v (.int .i64 0), .v (.int .i64 0), .v (.int .i64 0), .v (.int .i64 0), .v (.int .i64 0), .v (.int .i64 0), .v (.int .i64 0), .v (.int .i64 0), .v (.int .i64 0), .v (.int .i64 0), .v (.int .i64 0), .v (.int .i64 0), .v (.int .i64 0), .v (.int .i64 0), .v (.int .i64 0), .v (.int .i64 0), .v (.int .i64 0), .v (.int .i64 0), .v (.int .i64 0), .v (.int .i64 0), .v (.int .i64 0), .v (.int .i64 0), .v (.int .i64 0), .v (.int .i64 0), .v (.int .i64 0), .v (.int .i64 0), .v (.int .i64 0), .v (.int .i64 0), .v (.int .i64 0), .v (.int .i64 0), .v (.int .i64 0), .v (.int .i64 0), .v (.int .i64 0), .v (.int .i64 0), .v (.int .i64 0), .v (.int .i64 0), .v (.int .i64 0), .v (.int .i64 0), .v (.int .i64 0), .v (.int .i64 0), .v (.int .i64 0), .v (.int .i64 0), .v (.int .i64 0), .v (.int .i64 0), .v (.int .i64 0), .v (.int .i64 0), .v (.int .i64 0), .v (.int .i64 0), .v (.int .i64 0), .v (.int .i64 0), .v (.int .i64 0), .v (.int .i64 0), .v (.int .i64 0), .v (.int .i64 0), .v (.int .i64 0), .v (.int .i64 0), .v (.int .i64 0), .v (.int .i64 0), .v (.int .i64 0), .v (.int .i64 0), .v (.int .i64 0), .v (.int .i64 0), .v (.int .i64 0), .v (.int .i64 0), .v (.int .i64 0), .v (.int .i64 0), .v (.int .i64 0), .v (.int .i64 0), .v (.int .i64 0), .v (.int .i64 0), .v (.int .i64 0), .v (.int .i64 0), .v (.int .i64 0), .v (.int .i64 0), .v (.int .i64 0), .v (.int .i64 0), .v (.int .i64 0), .v (.int .i64 0), .v (.int .i64 0), .v (.int .i64 0), .v (.int .i64 0), .v (.int .i64 0), .v (.int .i64 0), .v (.int .i64 0), .v (.int .i64 0)]⟩ := rfl
theorem tl153 : tl tab 153 = some ⟨.arr 8 137, 320, 2560, [.v (.int .i64 0), .v (.int .i64 0), .v (.int .i64 0), .v (.int .i64 0), .v (.int .i64 0), .v (.int .i64 0), .v (.int .i64 0), .v (.int .i64 0), .v (.int .i64 0), .v (.int .i64 0), .v (.int .i64 0), .v (.int .i64 0), .v (.int .i64 0), .v (.int .i64 0), .v (.int .i64 0), .v (.int .i64 0), .v (.int .i64 0), .v (.int .i64 0), .v (.int .i64 0), .v (.int .i64 0), .v (.int .i64 0), .v (.int .i64 0), .v (.int .i64 0), .v (.int .i64 0), .v (.int .i64 0), .v (.int .i64 0), .v (.int .i64 0), .v (.int .i64 0), .v (.int .i64 0), .v (.int .i64 0), .v (.int .i64 0), .v (.int .i64 0), .v (.int .i64 0), .v (.int .i64 0), .v (.int .i64 0), .v (.int .i64 0), .v (.int .i64 0), .v (.int .i64 0), .v (.int .i64 0), .v (.int .i64 0), .v (.int .i64 0), .v (.int .i64 0), .v (.int .i64 0), .v (.int .i64 0), .v (.int .i64 0), .v (.int .i64 0), .v (.int .i64 0), .v (.int .i64 0), .v (.int .i64 0), .v (.int .i64 0), .v (.int .i64 0), .v (.int .i64 0), .v (.int .i64 0), .v (.int .i64 0), .v (.int .i64 0), .v (.int .i64 0), .v (.int .i64 0), .v (.int .i64 0), .v (.int .i64 0), .v (.int .i64 0), .v (.int .i64 0), .v (.int .i64 0), .v (.int .i64 0), .v (.int .i64 0), .v (.int .i64 0), .v (.int .i64 0), .v (.int .i64 0), .v (.int .i64 0), .v (.int .i64 0), .v (.int .i64 0), .v (.int .i64 0), .v (.int .i64 0), .v (.int .i64 0), .v (.int .i64 0), .v (.int .i64 0), .v (.int .i64 0), .v (.int .i64 0), .v (.int .i64 0), .v (.int .i64 0), .v (.int .i64 0), .v (.int .i64 0), .v (.int .i64 0), .v (.int .i64 0), .v (.int .i64 0), .v (.int .i64 0), .v (.int .i64 0), .v (.int .i64 0), .v (.int .i64 0), .v (.int .i64 0), .v (.int .i64 0), .v (.int .i64 0), .v (.int .i64 0), .v (.int .i64 0), .v (.int .i64 0), .v (.int .i64 0), .v (.int .i64 0), .v (.int .i64 0), .v (.int .i64 0), .v (.int .i64 0), .v (.int .i64 0), .v (.int .i64 0), .v (.int .i64 0), .v (.int .i64 0), .v (.int .i64 0), .v (.int .i64 0), .v (.int .i64 0), .v (.int .i64 0), .v (.int .i64 0), .v (.int .i64 0), .v (.int .i64 0), .v (.int .i64 0), .v (.int .i64 0), .v (.int .i64 0), .v (.int .i64 0), .v (.int .i64 0), .v (.int .i64 0), .v (.int .i64 0), .v (.int .i64 0), .v (.int .i64 0), .v (.int .i64 0), .v (.int .i64 0), .v (.int .i64 0), .v (.int .i64 0), .v (.int .i64 0), .v (.int .i64 0), .v (.int .i64 0), .v (.int .i64 0), .v (.int .i64 0), .v (.int .i64 0), .v (.int .i64 0), .v (.int .i64 0), .v (.int .i64 0), .v (.int .i64 0), .v (.int .i64 0), .v (.int .i64 0), .v (.int .i64 0), .v (.int .i64 0), .v (.int .i64 0), .v (.int .i64 0), .v (.int .i64 0), .v (.int .i64 0), .v (.int .i64 0), .v (.int .i64 0), .v (.int .i64 0), .v (.int .i64 0), .v (.int .i64 0), .v (.int .i64 0), .v (.int .i64 0), .v (.int .i64 0), .v (.int .i64 0), .v (.int .i64 0), .v (.int .i64 0), .v (.int .i64 0), .v (.int .i64 0), .v (.int .i64 0), .v (.int .i64 0), .v (.int .i64 0), .v (.int .i64 0), .v (.int .i64 0), .v (.int .i64 0), .v (.int .i64 0), .v (.int .i64 0), .v (.int .i64 0), .v (.int .i64 0), .v (.int .i64 0), .v (.int .i64 0), .v (.int .i64 0), .v (.int .i64 0), .v (.int .i64 0), .v (.int .i64 0), .v (.int .i64 0), .v (.int .i64 0), .v (.int .i64 0), .v (.int .i64 0), .v (.int .i64 0), .v (.int .i64 0), .v (.int .i64 0), .v (.int .i64 0), .v (.int .i64 0), .v (.int .i64 0), .v (.int .i64 0), .v (.int .i64 0), .v (.int .i64 0), .v (.int .i64 0), .v (.int .i64 0), .v (.int .i64 0), .v (.int .i64 0), .v (.int .i64 0), .v (.int .i64 0), .v (.int .i64 0), .v (.int .i64 0), .v (.int .i64 0), .v (.int .i64 0), .v (.int .i64 0), .v (.int .i64 0), .v (.int .i64 0), .v (.int .i64 0), .v (.int .i64 0), .v (.int .i64 0), .v (.int .i64 0), .v (.int .i64 0), .v (.int .i64 0), .v (.int .i64 0), .v (.int .i64 0), .v (.int .i64 0), .v (.int .i64 0), .v (.int .i64 0), .v (.int .i64 0), .v (.int .i64 0), .v (.int .i64 0), .v (.int .i64 0), .v (.int .i64 0), .v (.int .i64 0), .v (.int .i64 0), .v (.int .i64 0), .v (.int .i64 0), .v (.int .i64 0), .v (.int .i64 0), .v (.int .i64 0), .v (.int .i64 0), .v (.int .i64 0), .v (.int .i64 0), .v (.int .i64 0), .v (.int .i64 0), .v (.int .i64 0), .v (.int .i64 0), .v (.int .i64 0), .v (.int .i64 0), .v (.int .i64 0), .v (.int .i64 0), .v (.int .i64 0), .v (.int .i64 0), .v (.int .i64 0), .v (.int .i64 0), .v (.int .i64 0), .v (.int .i64 0), .v (.int .i64 0), .v (.int .i64 0), .v (.int .i64 0), .v (.int .i64 0), .v (.int .i64 0), .v (.int .i64 0), .v (.int .i64 0), .v (.int .i64 0), .v (.int .i64 0), .v (.int .i64 0), .v (.int .i64 0), .v (.int .i64 0), .v (.int .i64 0), .v (.int .i64 0), .v (.int .i64 0), .v (.int .i64 0), .v (.int .i64 0), .v (.int .i64 0), .v (.int .i64 0), .v (.int .i64 0), .v (.int .i64 0), .v (.int .i64 0), .v (.int .i64 0), .v (.int .i64 0), .v (.int .i64 0), .v (.int .i64 0), .v (.int .i64 0), .v (.int .i64 0), .v (.int .i64 0), .v (.int .i64 0), .v (.int .i64 0), .v (.int .i64 0), .v (.int .i64 0), .v (.int .i64 0), .v (.int .i64 0), .v (.int .i64 0), .v (.int .i64 0), .v (.int .i64 0), .v (.int .i64 0), .v (.int .i64 0), .v (.int .i64 0), .v (.int .i64 0), .v (.int .i64 0), .v (.int .i64 0), .v (.int .i64 0), .v (.int .i64 0), .v (.int .i64 0), .v (.int .i64 0), .v (.int .i64 0), .v (.int .i64 0), .v (.int .i64 0), .v (.int .i64 0), .v (.int .i64 0), .v (.int .i64 0), .v (.int .i64 0), .v (.int .i64 0), .v (.int .i64 0), .v (.int .i64 0), .v (.int .i64 0), .v (.int .i64 0), .v (.int .i64 0), .v (.int .i64 0), .v (.int .i64 0), .v (.int .i64 0), .v (.int .i64 0), .v (.int .i64 0), .v (.int .i64 0), .v (.int .i64 0), .v (.int .i64 0), .v (.int .i64 0), .v (.int .i64 0), .v (.int .i64 0), .v (.int .i64 0), .v (.int .i64 0), .v (.int .i64 0), .v (.int .i64 0), .v (.int .i64 0), .v (.int .i64 0), .v (.int .i64 0), .v (.int .i64 0), .v (.int .i64 0), .v (.int .i64 0), .v (.int .i64 0), .v (.int .i64 0)]⟩ := rfl
theorem tl154 : tl tab 154 = some ⟨.other, 1, 8, [.dead]⟩ := rfl
theorem tl155 : tl tab 155 = some ⟨.other, 1, 8, [.dead]⟩ := rfl
theorem tl156 : tl tab 156 = some ⟨.ptr, 1, 8, [.dead]⟩ := rfl
theorem tl158 : tl tab 158 = some ⟨.other, 1, 8, [.dead]⟩ := rfl
theorem tl159 : tl tab 159 = some ⟨.ptr, 1, 8, [.dead]⟩ := rfl
theorem tl160 : tl tab 160 = some ⟨.arr 5 61, 25, 200, [.v (.int .i64 0), .v (.int .i64 0), .v (.int .i64 0), .v (.int .i64 0), .v (.int .i64 0), .v (.int .i64 0), .v (.int .i64 0), .v (.int .i64 0), .v (.int .i64 0), .v (.int .i64 0), .v (.int .i64 0), .v (.int .i64 0), .v (.int .i64 0), .v (.int .i64 0), .v (.int .i64 0), .v (.int .i64 0), .v (.int .i64 0), .v (.int .i64 0), .v (.int .i64 0), .v (.int .i64 0), .v (.int .i64 0), .v (.int .i64 0), .v (.int .i64 0), .v (.int .i64 0), .v (.int .i64 0)]⟩ := rfl
theorem tl161 : tl tab 161 = some ⟨.struct [(0, 3), (1, 3), (2, 4), (3, 160)], 28, 224, [.v (.int .i64 0), .v (.int .i64 0), .v (.bool false), .v (.int .i64 0), .v (.int .i64 0), .v (.int .i64 0), .v (.int .i64 0), .v (.int .i64 0), .v (.int .i64 0), .v (.int .i64 0), .v (.int .i64 0), .v (.int .i64 0), .v (.int .i64 0), .v (.int .i64 0), .v (.int .i64 0), .v (.int .i64 0), .v (.int .i64 0), .v (.int .i64 0), .v (.int .i64 0), .v (.int .i64 0), .v (.int .i64 0), .v (.int .i64 0), .v (.int .i64 0), .v (.int .i64 0), .v (.int .i64 0), .v (.int .i64 0), .v (.int .i64 0), .v (.int .i64 0)]⟩ := rfl
theorem tl162 : tl tab 162 = some ⟨.struct [(0, 3), (1, 3), (2, 4), (3, 160)], 28, 224, [.v (.int .i64 0), .v (.int .i64 0), .v (.bool false), .v (.int .i64 0), .v (.int .i64 0), .v (.int .i64 0), .v (.int .i64 0), .v (.int .i64 0), .v (.int .i64 0), .v (.int .i64 0), .v (.int .i64 0), .v (.int .i64 0), .v (.int .i64 0), .v (.int .i64 0), .v (.int .i64 0), .v (.int .i64 0), .v (.int .i64 0), .v (.int .i64 0), .v (.int .i64 0), .v (.int .i64 0), .v (.int .i64 0), .v (.int .i64 0), .v (.int .i64 0), .v (.int .i64 0), .v (.int .i64 0), .v (.int .i64 0), .v (.int .i64 0), .v (.int .i64 0)]⟩ := rfl
theorem tl163 : tl tab 163 = some ⟨.other, 1, 8, [.dead]⟩ := rfl
theorem tl164 : tl tab 164 = some ⟨.other, 1, 8, [.dead]⟩ := rfl
theorem tl165 : tl tab 165 = some ⟨.other, 1, 8, [.dead]⟩ := rfl
theorem tl166 : tl tab 166 = some ⟨.int .i64, 1, 8, [.v (.int .i64 0)]⟩ := rfl
theorem tl168 : tl tab 168 = some ⟨.other, 1, 8, [.dead]⟩ := rfl
theorem tl169 : tl tab 169 = some ⟨.other, 1, 8, [.dead]⟩ := rfl
theorem tl170 : tl tab 170 = some ⟨.other, 1, 8, [.dead]⟩ := rfl
theorem tl172 : tl tab 172 = some ⟨.other, 1, 8, [.dead]⟩ := rfl
theorem tl173 : tl tab 173 = some ⟨.arr 32 5, 32, 32, [.v (.int .u8 0), .v (.int .u8 0), .v (.int .u8 0), .v (.int .u8 0), .v (.int .u8 0), .v (.int .u8 0), .v (.int .u8 0), .v (.int .u8 0), .v (.int .u8 0), .v (.int .u8 0), .v (.int .u8 0), .v (.int .u8 0), .v (.int .u8 0), .v (.int .u8 0), .v (.int .u8 0), .v (.int .u8 0), .v (.int .u8 0), .v (.int .u8 0), .v (.int .u8 0), .v (.int .u8 0), .v (.int .u8 0), .v (.int .u8 0), .v (.int .u8 0), .v (.int .u8 0), .v (.int .u8 0), .v (.int .u8 0), .v (.int .u8 0), .v (.int .u8 0), .v (.int .u8 0), .v (.int .u8 0), .v (.int .u8 0), .v (.int .u8 0)]⟩ := rfl
theorem tl174 : tl tab 174 = some ⟨.arr 64 5, 64, 64, [.v (.int .u8 0), .v (.int .u8 0), .v (.int .u8 0), .v (.int .u8 0), .v (.int .u8 0), .v (.int .u8 0), .v (.int .u8 0), .v (.int .u8 0), .v (.int .u8 0), .v (.int .u8 0), .v (.int .u8 0), .v (.int .u8 0), .v (.int .u8 0), .v (.int .u8 0), .v (.int .u8 0), .v (.int .u8 0), .v (.int .u8 0), .v (.int .u8 0), .v (.int .u8 0), .v (.int .u8 0), .v (.int .u8 0), .v (.int .u8 0), .v (.int .u8 0), .v (.int .u8 0), .v (.int .u8 0), .v (.int .u8 0), .v (.int .u8 0), .v (.int .u8 0), .v (.int .u8 0), .v (.int .u8 0), .v (.int .u8 0), .v (.int .u8 0), .v (.int .u8 0), .v (.int .u8 0), .v (.int .u8 0), .v (.int .u8 0), .v (.int .u8 0), .v (.int .u8 0), .v (.int .u8 0), .v (.int .u8 0), .v (.int .u8 0), .v (.int .u8 0), .v (.int .u8 0), .v (.int .u8 0), .v (.int .u8 0), .v (.int .u8 0), .v (.int .u8 0), .v (.int .u8 0), .v (.int .u8 0), .v (.int .u8 0), .v (.int .u8 0), .v (.int .u8 0), .v (.int .u8 0), .v (.int .u8 0), .v (.int .u8 0), .v (.int .u8 0), .v (.int .u8 0), .v (.int .u8 0), .v (.int .u8 0), .v (.int .u8 0), .v (.int .u8 0), .v (.int .u8 0), .v (.int .u8 0), .v (.int .u8 0)]⟩ := rfl
theorem tl175 : tl tab 175 = some ⟨.ptr, 1, 8, [.dead]⟩ := rfl
theorem tl176 : tl tab 176 = some ⟨.struct [(0, 40), (3, 49), (5, 127), (6, 125), (7, 150), (8, 129)], 9, 136, [.v (.int .i64 0), .v (.int .i64 0), .v .nl, .v .nl, .v .nl, .v (.int .u16 0), .v .nl, .dead, .dead]⟩ := rfl
theorem tl177 : tl tab 177 = some ⟨.struct [(0, 40), (3, 49), (5, 127), (6, 125), (7, 150), (8, 129)], 9, 136, [.v (.int .i64 0), .v (.int .i64 0), .v .nl, .v .nl, .v .nl, .v (.int .u16 0), .v .nl, .dead, .dead]⟩ := rfl
theorem tl178 : tl tab 178 = some ⟨.other, 1, 8, [.dead]⟩ := rfl
theorem tl179 : tl tab 179 = some ⟨.arr 5 70, 5, 40, [.v (.int .u64 0), .v (.int .u64 0), .v (.int .u64 0), .v (.int .u64 0), .v (.int .u64 0)]⟩ := rfl
theorem tl180 : tl tab 180 = some ⟨.struct [(0, 3), (1, 160), (26, 179), (31, 179)], 36, 288, [.v (.int .i64 0), .v (.int .i64 0), .v (.int .i64 0), .v (.int .i64 0), .v (.int .i64 0), .v (.int .i64 0), .v (.int .i64 0), .v (.int .i64 0), .v (.int .i64 0), .v (.int .i64 0), .v (.int .i64 0), .v (.int .i64 0), .v (.int .i64 0), .v (.int .i64 0), .v (.int .i64 0), .v (.int .i64 0), .v (.int .i64 0), .v (.int .i64 0), .v (.int .i64 0), .v (.int .i64 0), .v (.int .i64 0), .v (.int .i64 0), .v (.int .i64 0), .v (.int .i64 0), .v (.int .i64 0), .v (.int .i64 0), .v (.int .u64 0), .v (.int .u64 0), .v (.int .u64 0), .v (.int .u64 0), .v (.int .u64 0), .v (.int .u64 0), .v (.int .u64 0), .v (.int .u64 0), .v (.int .u64 0), .v (.int .u64 0)]⟩ := rfl
theorem tl181 : tl tab 181 = some ⟨.struct [(0, 3), (1, 160), (26, 179), (31, 179)], 36, 288, [.v (.int .i64 0), .v (.int .i64 0), .v (.int .i64 0), .v (.int .i64 0), .v (.int .i64 0), .v (.int .i64 0), .v (.int .i64 0), .v (.int .i64 0), .v (.int .i64 0), .v (.int .i64 0), .v (.int .i64 0), .v (.int .i64 0), .v (.int .i64 0), .v (.int .i64 0), .v (.int .i64 0), .v (.int .i64 0), .v (.int .i64 0), .v (.int .i64 0), .v (.int .i64 0), .v (.int .i64 0), .v (.int .i64 0), .v (.int .i64 0), .v (.int .i64 0), .v (.int .i64 0), .v (.int .i64 0), .v (.int .i64 0), .v (.int .u64 0), .v (.int .u64 0), .v (.int .u64 0), .v (.int .u64 0), .v (.int .u64 0), .v (.int .u64 0), .v (.int .u64 0), .v (.int .u64 0), .v (.int .u64 0), .v (.int .u64 0)]⟩ := rfl
theorem tl182 : tl tab 182 = some ⟨.other, 1, 8, [.dead]⟩ := rfl
theorem tl183 : tl tab 183 = some ⟨.ifc, 1, 16, [.dead]⟩ := rfl
theorem tl184 : tl tab 184 = some ⟨.ifc, 1, 16, [.dead]⟩ := rfl
theorem tl186 : tl tab 186 = some ⟨.other, 1, 8, [.dead]⟩ := rfl
theorem tl187 : tl tab 187 = some ⟨.other, 1, 8, [.dead]⟩ := rfl
theorem tl188 : tl tab 188 = some ⟨.other, 1, 8, [.dead]⟩ := rfl
theorem tl189 : tl tab 189 = some ⟨.int .u64, 1, 8, [.v (.int .u64 0)]⟩ := rfl
theorem tl190 : tl tab 190 = some ⟨.other, 1, 8, [.dead]⟩ := rfl
theorem tl191 : tl tab 191 = some ⟨.other, 1, 8, [.dead]⟩ := rfl
theorem tl192 : tl tab 192 = some ⟨.other, 1, 8, [.dead]⟩ := rfl
theorem tl193 : tl tab 193 = some ⟨.ptr, 1, 8, [.dead]⟩ := rfl
theorem tl194 : tl tab 194 = some ⟨.other, 1, 8, [.dead]⟩ := rfl
theorem tl195 : tl tab 195 = some ⟨.ptr, 1, 8, [.dead]⟩ := rfl
theorem tl196 : tl tab 196 = some ⟨.other, 1, 8, [.dead]⟩ := rfl
theorem tl197 : tl tab 197 = some ⟨.other, 1, 8, [.dead]⟩ := rfl
theorem tl203 : tl tab 203 = some ⟨.other, 1, 8, [.dead]⟩ := rfl
theorem tl207 : tl tab 207 = some ⟨.ptr, 1, 8, [.dead]⟩ := rfl
theorem tl212 : tl tab 212 = some ⟨.other, 1, 8, [.dead]⟩ := rfl
theorem tl214 : tl tab 214 = some ⟨.slice 97, 1, 24, [.v .nl]⟩ := rfl
theorem tab_ok : TOk Tryd.prog tab := tabB_ok (by kernel_rfl)
theorem mixed : Tryd.prog.follows .mixedOrders = true := by kernel_rfl
def tab32 : List Int := [0, 1, 28, 2, 29, 14, 24, 3, 30, 22, 20, 15, 25, 17, 4, 8, 31, 27, 13, 23, 21, 19, 16, 7, 26, 12, 18, 6, 11, 5, 10, 9]
def tab64 : List Int := [0, 1, 56, 2, 57, 49, 28, 3, 61, 58, 42, 50, 38, 29, 17, 4, 62, 47, 59, 36, 45, 43, 51, 22, 53, 39, 33, 30, 24, 18, 12, 5, 63, 55, 48, 27, 60, 41, 37, 16, 46, 35, 44, 21, 52, 32, 23, 11, 54, 26, 40, 15, 34, 20, 31, 10, 25, 14, 19, 9, 13, 8, 7, 6]
theorem rc_tab {W : World} {b : Nat} : ∀ (zs : List Int) (off : Nat), (∀ i, i < zs.length → W.cell? ⟨b, off + i, none⟩ = some (.int .u8 (zs.getD i 0))) → RC W (fun _ => False) b off (zs.map (PV.int .u8))
  | [], off, _ => .nil b off
  | z :: zs, off, h => .cons b off (.int .u8 z) (.int .u8 z) _ (by simpa using h 0 (by simp)) rfl (fun h => h) (.int _ _) (rc_tab zs (off + 1) fun i hi => by
      have := h (i + 1) (by simpa using hi)
      rw [show off + (i + 1) = off + 1 + i by omega] at this
      simpa using this)
theorem laidG {W : World} (h : laidMetH Tryd.prog [("math/bits.deBruijn32tab", Rows.laid_math_bits_deBruijn32tab), ("math/bits.deBruijn64tab", Rows.laid_math_bits_deBruijn64tab)] W) : ∀ x ∈ Gv, RC W (fun _ => False) x.1 0 x.2 := by
  rw [MakeChecks.laidMetH_plain _ _ _ (by kernel_rfl)] at h
  have h1 : laidMet Tryd.prog (("math/bits.deBruijn32tab", Lib.tabData .u8 tab32) :: [("math/bits.deBruijn64tab", Rows.laid_math_bits_deBruijn64tab)]) W := h
  have h2 : laidMet Tryd.prog (("math/bits.deBruijn64tab", Lib.tabData .u8 tab64) :: []) W := laidMet.tail h
  have g1 : Tryd.prog.globalNamed "math/bits.deBruijn32tab" = some 0 := by kernel_rfl
  have g2 : Tryd.prog.globalNamed "math/bits.deBruijn64tab" = some 1 := by kernel_rfl
  have t1 := Lib.tabIs_of_head g1 (t := 173) (e := 5) (n := 32) (by kernel_rfl) (by kernel_rfl) (by kernel_rfl) (by kernel_rfl) (by kernel_rfl) h1
  have t2 := Lib.tabIs_of_head g2 (t := 174) (e := 5) (n := 64) (by kernel_rfl) (by kernel_rfl) (by kernel_rfl) (by kernel_rfl) (by kernel_rfl) h2
  intro x hx
  have hx' : x = (0, tab32.map (PV.int .u8)) ∨ x = (1, tab64.map (PV.int .u8)) := by
    have e : Gv = [(0, tab32.map (PV.int .u8)), (1, tab64.map (PV.int .u8))] := rfl
    rw [e] at hx
    simpa using hx
  rcases hx' with rfl | rfl
  · exact rc_tab tab32 0 fun i hi => by rw [Nat.zero_add]; exact t1.cell g1 i hi
  · exact rc_tab tab64 0 fun i hi => by rw [Nat.zero_add]; exact t2.cell g2 i hi
def domL : List (List Nat) := [[], [], [], [0, 1, 2, 3, 6, 7, 8, 9, 10, 12, 13, 14, 15, 16, 17, 18, 19, 33, 34, 35, 36, 79, 80, 81, 82, 83, 93, 96], [0, 1, 2, 3, 6, 7, 8, 9, 10, 11, 12, 13, 14, 15, 17, 18, 19, 20, 21, 22, 23, 39, 56, 72, 76, 77, 78, 79, 110, 136, 137, 138, 139, 148, 189, 190, 191, 192, 193, 212], [0, 1, 2, 3, 8, 9, 10, 11, 12, 13, 14, 16, 17, 19, 20, 21, 22, 23, 24, 25, 26, 27, 28, 29, 30, 31, 54, 55, 56, 62, 76, 80, 81, 82, 83, 86, 87, 88, 89, 110, 148, 156, 157, 158, 169, 171, 216], [0, 1, 4, 5, 6, 7, 8, 9, 10, 11, 12, 13, 14, 15, 16, 17, 18, 19, 20, 21, 22, 24, 25, 27, 53, 131, 135, 136, 137, 138, 168, 194, 195, 196, 197, 198, 202, 219], [0, 1, 2, 3, 4, 8, 9, 10, 11, 12, 14, 15, 16, 21, 39, 40, 41, 42, 64], [0, 1, 4, 5, 6, 7, 8, 9, 10, 12, 13, 18, 37], [0, 1, 2, 3, 4, 8], [0, 1, 4, 5, 10, 12, 13, 14, 24], [0, 1, 2, 3, 4], [0, 1, 2, 3, 4, 5, 6, 10], [0, 1, 2, 4, 5, 6, 7, 9, 10, 11, 12, 13, 14, 15, 20, 27, 28, 29, 30, 43, 44, 45, 47, 48, 49, 50, 66, 82], [0, 1, 2, 4, 5, 6, 7, 8, 10, 11, 15, 21, 22, 23, 24, 30, 41, 56, 59], [0, 1, 2, 3], [0, 2], [0, 1, 2, 4, 5, 6, 7, 8, 17], [0, 1, 2, 3, 4, 5, 8, 9, 10, 14, 18], [0, 1, 2, 3, 6, 7, 8, 9, 10, 11, 12, 13, 14, 15, 16, 17, 25, 29, 46, 58, 62, 63, 64, 65, 86], [0, 1, 2, 6, 7, 8, 9, 10, 16, 36], [0, 1, 2, 6, 7, 8, 10, 11, 12, 13, 15, 18, 42, 43, 44, 45, 70, 71, 72, 73], [0, 1, 2, 3, 4, 5, 9], [0, 1, 4, 5, 6, 7, 12], [0, 1, 2], [0, 1, 4, 5, 7, 8, 12, 16, 17, 18, 19, 24, 32], [0, 1, 4, 5, 6, 7, 8, 9, 10, 11], [0, 1, 2, 4, 6, 7, 8, 9, 10, 11, 16, 17, 18, 29, 30, 31, 32], [0, 2, 4], [0, 1, 2, 3, 4, 6, 7, 8, 12, 13, 14], [0, 1, 2, 4, 5, 14, 20, 21, 22, 23, 26, 39, 52], [0, 2, 3, 5], [0, 1, 2], [0, 1, 2, 4, 5, 11, 12, 13, 19], [0, 1, 2, 4, 28], [0, 1, 4, 5, 6, 7, 8, 9, 10, 11, 12, 19, 28, 35], [0, 1, 2, 4, 5, 6, 7, 11, 21, 25], [0, 1, 4, 5, 6, 7, 8, 10, 26, 37], [0, 1, 2, 4, 5, 6, 7, 14, 15, 16, 17, 32], [0, 1, 2, 3, 6, 7, 8, 9, 12, 13, 14, 15, 34, 42], [0, 1, 2], [0, 1, 4], [0, 1, 4], [0, 1, 2], [0, 1, 2, 4, 5, 6, 7, 8, 9, 16], [0, 1, 2, 3, 6, 7, 9, 12, 13, 14, 15, 28, 37], [0, 2, 3, 5], [0, 1, 2, 3, 4, 5, 7, 8, 9, 27, 33, 35, 43, 48, 57, 58, 59, 60, 63, 64, 65, 66, 70, 74, 79], [0, 1, 2, 4], [0, 1, 2, 4, 5, 6, 7, 9, 21, 28, 31, 38, 39, 40, 41], [0, 1, 4], [0, 1, 4], [0, 2, 3, 5, 6, 8, 9, 10, 11, 12, 20, 25, 26, 27, 28], [0, 1], [0, 1, 4, 5, 9], [0, 1, 2, 4, 5, 6, 7, 8], [0, 1, 2], [0, 2, 3, 4, 5, 6, 7, 11], [0, 1, 2], [0, 1, 2, 6], [0, 2], [0, 2], [0, 1, 2, 4, 5, 7, 9, 10, 11, 12], [0, 1, 4, 5, 6, 11, 12, 13, 16, 19], [0, 1, 4, 5, 6, 7, 9, 10, 11, 12, 13, 16, 20], [0, 1, 4, 5, 6, 7, 8, 9], [0, 1, 4, 5, 7, 8, 9, 16], [0, 1, 2, 3, 4, 5, 6, 7, 12], [0, 1, 2, 3, 4, 5, 6, 7, 8, 9, 10, 20, 32, 33, 34, 35, 48, 60], [0, 1, 4, 5, 6, 7, 9, 10, 11, 12, 13, 16, 24], [0, 2], [0, 1, 2, 4, 5, 6, 7, 8, 9, 10, 14, 18], [0, 2, 3, 5, 6, 7, 8, 9], [0, 1, 2, 3, 6, 7, 9, 16, 17, 18, 57], [0, 1, 4, 5, 7, 8, 9, 16], [0, 1, 4, 6, 16], [0, 1, 2, 6], [0, 1], [0, 1, 2, 3, 4, 5, 6, 10, 11, 12, 16, 20], [0, 2], [0, 2, 3, 7, 11], [0, 1, 2, 3], [0, 1, 2, 3, 4, 7, 10], [0, 1, 4, 5, 6, 7, 8, 17], [0, 1, 2, 3, 8, 9, 10, 11, 12, 13, 14, 15, 16, 17, 18, 23, 29, 35, 50, 68, 72, 87, 113], [0, 2], [0, 2, 4], [0, 2, 4], [0, 2], [0, 1, 4, 5, 6], [0, 1, 4, 5, 6, 7, 8, 9, 10, 11, 12, 13], [0, 1, 2, 3, 4, 6], [0, 1, 3], [0, 2, 3, 4, 7, 15], [0, 2, 3, 4, 7, 15], [0, 1, 2, 6, 7, 8, 9, 10, 14, 15, 16], [0, 1, 2, 3, 6, 7, 8, 9, 10, 11, 14, 38, 68, 77], [0, 1, 2, 6, 7, 8, 9, 10, 11, 12, 13, 20, 27, 28, 29, 30, 42, 43, 44, 45, 46, 50, 58, 69], [0, 1, 2, 3, 4, 5, 6], [0, 1, 2, 4, 5, 6, 7, 8, 9], [0, 1, 2, 6, 7, 12, 30], [0, 1, 2, 6, 7, 8, 9, 10, 19, 30], [0, 1, 2, 6, 7, 8, 9, 10, 15, 33, 43], [0, 1, 2, 6, 7, 8, 9, 10, 11, 12, 32, 34, 49, 51, 54], [0, 1, 2, 6, 7, 13], [0, 1, 2, 6, 7, 8, 9, 10, 14, 32, 37, 41, 61, 65, 78, 98, 103, 116], [0, 1, 4], [0, 1, 2, 3, 8, 9, 10, 43, 59, 64], [0, 1, 2, 3, 8, 9, 10, 11, 43, 60, 65, 112, 129, 134], [0, 2, 4, 8], [0, 2, 4, 8, 14], [0, 2, 3, 4, 5, 18, 43], [0, 2, 3, 4, 5, 9, 10, 12, 13], [0, 1, 2, 3], [0, 1, 2, 3, 4, 5, 8, 9, 10, 17, 28, 48, 63], [0, 1, 2, 6], [0, 1, 2, 6], [0, 1, 2, 3, 8, 9, 16, 36, 52], [0, 2], [0, 2], [0, 1, 2, 6], [0, 1, 2, 3, 4, 10], [0, 2, 3, 4, 5, 7, 38, 48, 49, 50, 51, 75], [0, 1, 2, 3, 8, 9, 18], [0], [0], [0], [0], [0], [0], [0], [0], [0], [0], [0], [0], [0], [0], [0], [0], [0, 2, 3], [0, 1, 4], [0], [], [], [], [], []]
def nthL : List (List Nat) → Nat → List Nat
  | [], _ => []
  | x :: _, 0 => x
  | _ :: l, n + 1 => nthL l n
def noFz (n : Nat) : Bool := bif Nat.beq n 0 then false else false
def kn0 : Known := ⟨[], []⟩
theorem kn0_ok : KnOk Tryd.prog kn0 := KnOk.nil
def ka0 : List PV := []
def kr0 : PV := (.bool true)
theorem k0 : FnP Tryd.prog 11 ka0 kr0 := runE_ok (doms := nthL domL) (fzr := noFz) (n := 6000) tab_ok mixed kn0_ok (by kernel_rfl)
def kn1 : Known := ⟨(11, ka0, kr0) :: kn0.p, kn0.i⟩
theorem kn1_ok : KnOk Tryd.prog kn1 := KnOk.cons k0 kn0_ok
def ka1 : List PV := []
def kr1 : PV := (.bool true)
theorem k1 : FnP Tryd.prog 58 ka1 kr1 := runE_ok (doms := nthL domL) (fzr := noFz) (n := 6000) tab_ok mixed kn1_ok (by kernel_rfl)
def kn2 : Known := ⟨(58, ka1, kr1) :: kn1.p, kn1.i⟩
theorem kn2_ok : KnOk Tryd.prog kn2 := KnOk.cons k1 kn1_ok
def ka2 : List PV := []
def kr2 : PV := (.bool true)
theorem k2 : FnP Tryd.prog 24 ka2 kr2 := runE_ok (doms := nthL domL) (fzr := noFz) (n := 6000) tab_ok mixed kn2_ok (by kernel_rfl)
def kn3 : Known := ⟨(24, ka2, kr2) :: kn2.p, kn2.i⟩
theorem kn3_ok : KnOk Tryd.prog kn3 := KnOk.cons k2 kn2_ok
def ka3 : List PV := [(.int .i64 0), (.int .i64 0), (.int .i64 0)]
def kr3 : PV := .nl
theorem k3 : FnP Tryd.prog 20 ka3 kr3 := runE_ok (doms := nthL domL) (fzr := noFz) (n := 6000) tab_ok mixed kn3_ok (by kernel_rfl)
def kn4 : Known := ⟨(20, ka3, kr3) :: kn3.p, kn3.i⟩
theorem kn4_ok : KnOk Tryd.prog kn4 := KnOk.cons k3 kn3_ok
def ka4 : List PV := [(.int .i64 1), (.int .i64 1), (.int .i64 0)]
def kr4 : PV := .nl
theorem k4 : FnP Tryd.prog 20 ka4 kr4 := runE_ok (doms := nthL domL) (fzr := noFz) (n := 6000) tab_ok mixed kn4_ok (by kernel_rfl)
end Go.Proofs.YtdnfffmppppoeaaDoor
