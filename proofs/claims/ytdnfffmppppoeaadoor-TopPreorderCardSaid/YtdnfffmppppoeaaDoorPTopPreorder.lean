/-
  TopPreorderCardSaid: the law returns true: the row, and the tied card.
-/
import Derived.Test.YtdnfffmppppoeaaDoorProg
import Derived.Test.YtdnfffmppppoeaaDoorPV30
import Derived.KernelRfl
import Derived.Test.YtdnfffmppppoeaaDoorRows
import Derived.Test.YtdnfffmppppoeaaDoorPV26
import Derived.ProofKit
import Derived.Lib.LaidTab
import Derived.Stop.LaidErr
import Derived.MakeChecks
import Derived.Test.YtdnfffmppppoeaaDoorPV28
import Derived.Test.YtdnfffmppppoeaaDoorCards
import Derived.Test.YtdnfffmppppoeaaDoorTie
import Derived.WalkKit
import Derived.OpenShut
import Derived.Lay
import Derived.SevenTiedAt
set_option linter.unusedSimpArgs false
set_option linter.unusedVariables false
namespace Go.Proofs.YtdnfffmppppoeaaDoor
open Go.V
set_option maxRecDepth 100000
def tab : Tab := [
  (1, ⟨.other, 1, 8, [.dead]⟩),
  (2, ⟨.int .i64, 1, 8, [.v (.int .i64 0)]⟩),
  (3, ⟨.int .i64, 1, 8, [.v (.int .i64 0)]⟩),
  (4, ⟨.bool, 1, 1, [.v (.bool false)]⟩),
  (5, ⟨.int .u8, 1, 1, [.v (.int .u8 0)]⟩),
  (9, ⟨.str, 1, 16, [.v (.str ⟨#[]⟩)]⟩),
  (17, ⟨.ptr, 1, 8, [.dead]⟩),
  (21, ⟨.int .i32, 1, 4, [.v (.int .i32 0)]⟩),
  (22, ⟨.arr 8 5, 8, 8, [.v (.int .u8 0), .v (.int .u8 0), .v (.int .u8 0), .v (.int .u8 0), .v (.int .u8 0), .v (.int .u8 0), .v (.int .u8 0), .v (.int .u8 0)]⟩),
  (23, ⟨.arr 2 5, 2, 2, [.v (.int .u8 0), .v (.int .u8 0)]⟩),
  (24, ⟨.arr 8 23, 16, 16, [.v (.int .u8 0), .v (.int .u8 0), .v (.int .u8 0), .v (.int .u8 0), .v (.int .u8 0), .v (.int .u8 0), .v (.int .u8 0), .v (.int .u8 0), .v (.int .u8 0), .v (.int .u8 0), .v (.int .u8 0), .v (.int .u8 0), .v (.int .u8 0), .v (.int .u8 0), .v (.int .u8 0), .v (.int .u8 0)]⟩),
  (25, ⟨.slice 30, 1, 24, [.v .nl]⟩),
  (26, ⟨.struct [(0, 3), (1, 25)], 2, 32, [.v (.int .i64 0), .v .nl]⟩),
  (27, ⟨.struct [(0, 3), (1, 25)], 2, 32, [.v (.int .i64 0), .v .nl]⟩),
  (28, ⟨.other, 1, 8, [.dead]⟩),
  (29, ⟨.slice 3, 1, 24, [.v .nl]⟩),
  (30, ⟨.arr 2 3, 2, 16, [.v (.int .i64 0), .v (.int .i64 0)]⟩),
  (31, ⟨.int .i64, 1, 8, [.v (.int .i64 0)]⟩),
  (33, ⟨.other, 1, 8, [.dead]⟩),
  (34, ⟨.other, 1, 8, [.dead]⟩),
  (35, ⟨.other, 1, 8, [.dead]⟩),
  (36, ⟨.other, 1, 8, [.dead]⟩),
  (37, ⟨.other, 1, 8, [.dead]⟩),
  (38, ⟨.other, 1, 8, [.dead]⟩),
  (39, ⟨.struct [(0, 3), (1, 3), (2, 29)], 3, 40, [.v (.int .i64 0), .v (.int .i64 0), .v .nl]⟩),
  (40, ⟨.struct [(0, 3), (1, 3), (2, 29)], 3, 40, [.v (.int .i64 0), .v (.int .i64 0), .v .nl]⟩),
  (41, ⟨.slice 46, 1, 24, [.v .nl]⟩),
  (42, ⟨.struct [(0, 3), (1, 41)], 2, 32, [.v (.int .i64 0), .v .nl]⟩),
  (43, ⟨.struct [(0, 3), (1, 41)], 2, 32, [.v (.int .i64 0), .v .nl]⟩),
  (44, ⟨.other, 1, 8, [.dead]⟩),
  (45, ⟨.struct [(0, 29), (1, 29)], 2, 48, [.v .nl, .v .nl]⟩),
  (46, ⟨.struct [(0, 29), (1, 29)], 2, 48, [.v .nl, .v .nl]⟩),
  (47, ⟨.other, 1, 8, [.dead]⟩),
  (48, ⟨.struct [(0, 29), (1, 29)], 2, 48, [.v .nl, .v .nl]⟩),
  (49, ⟨.struct [(0, 29), (1, 29)], 2, 48, [.v .nl, .v .nl]⟩),
  (51, ⟨.other, 1, 8, [.dead]⟩),
  (52, ⟨.other, 1, 8, [.dead]⟩),
  (53, ⟨.other, 1, 8, [.dead]⟩),
  (54, ⟨.other, 1, 8, [.dead]⟩),
  (56, ⟨.other, 1, 8, [.dead]⟩),
  (57, ⟨.other, 1, 8, [.dead]⟩),
  (58, ⟨.other, 1, 8, [.dead]⟩),
  (59, ⟨.slice 23, 1, 24, [.v .nl]⟩),
  (60, ⟨.other, 1, 8, [.dead]⟩),
  (61, ⟨.arr 5 3, 5, 40, [.v (.int .i64 0), .v (.int .i64 0), .v (.int .i64 0), .v (.int .i64 0), .v (.int .i64 0)]⟩),
  (62, ⟨.arr 5 3, 5, 40, [.v (.int .i64 0), .v (.int .i64 0), .v (.int .i64 0), .v (.int .i64 0), .v (.int .i64 0)]⟩),
  (64, ⟨.other, 1, 8, [.dead]⟩),
  (65, ⟨.other, 1, 8, [.dead]⟩),
  (66, ⟨.other, 1, 8, [.dead]⟩),
  (67, ⟨.other, 1, 8, [.dead]⟩),
  (68, ⟨.other, 1, 8, [.dead]⟩),
  (69, ⟨.other, 1, 8, [.dead]⟩),
  (70, ⟨.int .u64, 1, 8, [.v (.int .u64 0)]⟩),
  (71, ⟨.other, 1, 8, [.dead]⟩),
  (72, ⟨.other, 1, 8, [.dead]⟩),
  (73, ⟨.other, 1, 8, [.dead]⟩),
  (74, ⟨.other, 1, 8, [.dead]⟩),
  (75, ⟨.other, 1, 8, [.dead]⟩),
  (76, ⟨.other, 1, 8, [.dead]⟩),
  (77, ⟨.other, 1, 8, [.dead]⟩),
  (78, ⟨.other, 1, 8, [.dead]⟩),
  (79, ⟨.other, 1, 8, [.dead]⟩),
  (80, ⟨.other, 1, 8, [.dead]⟩),
  (81, ⟨.other, 1, 8, [.dead]⟩),
  (82, ⟨.int .u8, 1, 1, [.v (.int .u8 0)]⟩),
  (83, ⟨.slice 99, 1, 24, [.v .nl]⟩),
  (84, ⟨.struct [(0, 82), (1, 83)], 2, 32, [.v (.int .u8 0), .v .nl]⟩),
  (85, ⟨.struct [(0, 82), (1, 83)], 2, 32, [.v (.int .u8 0), .v .nl]⟩),
  (87, ⟨.other, 1, 8, [.dead]⟩),
  (88, ⟨.other, 1, 8, [.dead]⟩),
  (89, ⟨.other, 1, 8, [.dead]⟩),
  (90, ⟨.other, 1, 8, [.dead]⟩),
  (91, ⟨.other, 1, 8, [.dead]⟩),
  (92, ⟨.struct [(0, 82), (1, 29)], 2, 32, [.v (.int .u8 0), .v .nl]⟩),
  (93, ⟨.struct [(0, 82), (1, 29)], 2, 32, [.v (.int .u8 0), .v .nl]⟩),
  (94, ⟨.slice 93, 1, 24, [.v .nl]⟩),
  (95, ⟨.slice 82, 1, 24, [.v .nl]⟩),
  (96, ⟨.struct [(0, 82), (1, 82)], 2, 2, [.v (.int .u8 0), .v (.int .u8 0)]⟩),
  (97, ⟨.struct [(0, 82), (1, 82)], 2, 2, [.v (.int .u8 0), .v (.int .u8 0)]⟩),
  (98, ⟨.struct [(0, 97), (2, 3)], 3, 16, [.v (.int .u8 0), .v (.int .u8 0), .v (.int .i64 0)]⟩),
  (99, ⟨.struct [(0, 97), (2, 3)], 3, 16, [.v (.int .u8 0), .v (.int .u8 0), .v (.int .i64 0)]⟩),
  (100, ⟨.other, 1, 8, [.dead]⟩),
  (101, ⟨.other, 1, 8, [.dead]⟩),
  (102, ⟨.other, 1, 8, [.dead]⟩),
  (103, ⟨.arr 3 3, 3, 24, [.v (.int .i64 0), .v (.int .i64 0), .v (.int .i64 0)]⟩),
  (104, ⟨.slice 103, 1, 24, [.v .nl]⟩),
  (105, ⟨.other, 1, 8, [.dead]⟩),
  (106, ⟨.other, 1, 8, [.dead]⟩),
  (107, ⟨.other, 1, 8, [.dead]⟩),
  (108, ⟨.other, 1, 8, [.dead]⟩),
  (109, ⟨.other, 1, 8, [.dead]⟩),
  (110, ⟨.other, 1, 8, [.dead]⟩),
  (111, ⟨.other, 1, 8, [.dead]⟩),
  (112, ⟨.other, 1, 8, [.dead]⟩),
  (114, ⟨.other, 1, 8, [.dead]⟩),
  (116, ⟨.other, 1, 8, [.dead]⟩),
  (117, ⟨.other, 1, 8, [.dead]⟩),
  (118, ⟨.other, 1, 8, [.dead]⟩),
  (120, ⟨.other, 1, 8, [.dead]⟩),
  (122, ⟨.other, 1, 8, [.dead]⟩),
  (123, ⟨.other, 1, 8, [.dead]⟩),
  (124, ⟨.other, 1, 8, [.dead]⟩),
  (125, ⟨.slice 29, 1, 24, [.v .nl]⟩),
  (126, ⟨.int .u16, 1, 2, [.v (.int .u16 0)]⟩),
  (127, ⟨.int .u16, 1, 2, [.v (.int .u16 0)]⟩),
  (128, ⟨.other, 1, 8, [.dead]⟩),
  (129, ⟨.other, 1, 8, [.dead]⟩),
  (130, ⟨.other, 1, 8, [.dead]⟩),
  (131, ⟨.other, 1, 8, [.dead]⟩),
  (132, ⟨.ptr, 1, 8, [.dead]⟩),
  (133, ⟨.other, 1, 8, [.dead]⟩),
  (134, ⟨.other, 1, 8, [.dead]⟩),
  (135, ⟨.struct [(0, 3), (1, 3), (2, 3), (3, 3), (4, 3)], 5, 40, [.v (.int .i64 0), .v (.int .i64 0), .v (.int .i64 0), .v (.int .i64 0), .v (.int .i64 0)]⟩),
  (136, ⟨.struct [(0, 3), (1, 3), (2, 3), (3, 3), (4, 3)], 5, 40, [.v (.int .i64 0), .v (.int .i64 0), .v (.int .i64 0), .v (.int .i64 0), .v (.int .i64 0)]⟩),
  (137, ⟨.arr 8 136, 40, 320, [.v (.int .i64 0), .v (.int .i64 0), .v (.int .i64 0), .v (.int .i64 0), .v (.int .i64 0), .v (.int .i64 0), .v (.int .i64 0), .v (.int .i64 0), .v (.int .i64 0), .v (.int .i64 0), .v (.int .i64 0), .v (.int .i64 0), .v (.int .i64 0), .v (.int .i64 0), .v (.int .i64 0), .v (.int .i64 0), .v (.int .i64 0), .v (.int .i64 0), .v (.int .i64 0), .v (.int .i64 0), .v (.int .i64 0), .v (.int .i64 0), .v (.int .i64 0), .v (.int .i64 0), .v (.int .i64 0), .v (.int .i64 0), .v (.int .i64 0), .v (.int .i64 0), .v (.int .i64 0), .v (.int .i64 0), .v (.int .i64 0), .v (.int .i64 0), .v (.int .i64 0), .v (.int .i64 0), .v (.int .i64 0), .v (.int .i64 0), .v (.int .i64 0), .v (.int .i64 0), .v (.int .i64 0), .v (.int .i64 0)]⟩),
  (139, ⟨.other, 1, 8, [.dead]⟩),
  (140, ⟨.other, 1, 8, [.dead]⟩),
  (141, ⟨.other, 1, 8, [.dead]⟩),
  (142, ⟨.int .u32, 1, 4, [.v (.int .u32 0)]⟩),
  (143, ⟨.other, 1, 8, [.dead]⟩),
  (144, ⟨.int .u64, 1, 8, [.v (.int .u64 0)]⟩),
  (146, ⟨.other, 1, 8, [.dead]⟩),
  (148, ⟨.other, 1, 8, [.dead]⟩),
  (149, ⟨.other, 1, 8, [.dead]⟩),
  (150, ⟨.other, 1, 8, [.dead]⟩),
  (151, ⟨.other, 1, 8, [.dead]⟩),
  (152, ⟨.arr 8 137, 320, 2560, [.v (.int .i64 0), .v (.int .i64 0), .v (.int .i64 0), .v (.int .i64 0), .v (.int .i64 0), .v (.int .i64 0), .v (.int .i64 0), .v (.int .i64 0), .v (.int .i64 0), .v (.int .i64 0), .v (.int .i64 0), .v (.int .i64 0), .v (.int .i64 0), .v (.int .i64 0), .v (.int .i64 0), .v (.int .i64 0), .v (.int .i64 0), .v (.int .i64 0), .v (.int .i64 0), .v (.int .i64 0), .v (.int .i64 0), .v (.int .i64 0), .v (.int .i64 0), .v (.int .i64 0), .v (.int .i64 0), .v (.int .i64 0), .v (.int .i64 0), .v (.int .i64 0), .v (.int .i64 0), .v (.int .i64 0), .v (.int .i64 0), .v (.int .i64 0), .v (.int .i64 0), .v (.int .i64 0), .v (.int .i64 0), .v (.int .i64 0), .v (.int .i64 0), .v (.int .i64 0), .v (.int .i64 0), .v (.int .i64 0), .v (.int .i64 0), .v (.int .i64 0), .v (.int .i64 0), .v (.int .i64 0), .v (.int .i64 0), .v (.int .i64 0), .v (.int .i64 0), .v (.int .i64 0), .v (.int .i64 0), .v (.int .i64 0), .v (.int .i64 0), .v (.int .i64 0), .v (.int .i64 0), .v (.int .i64 0), .v (.int .i64 0), .v (.int .i64 0), .v (.int .i64 0), .v (.int .i64 0), .v (.int .i64 0), .v (.int .i64 0), .v (.int .i64 0), .v (.int .i64 0), .v (.int .i64 0), .v (.int .i64 0), .v (.int .i64 0), .v (.int .i64 0), .v (.int .i64 0), .v (.int .i64 0), .v (.int .i64 0), .v (.int .i64 0), .v (.int .i64 0), .v (.int .i64 0), .v (.int .i64 0), .v (.int .i64 0), .v (.int .i64 0), .v (.int .i64 0), .v (.int .i64 0), .v (.int .i64 0), .v (.int .i64 0), .v (.int .i64 0), .v (.int .i64 0), .v (.int .i64 0), .v (.int .i64 0), .v (.int .i64 0), .v (.int .i64 0), .v (.int .i64 0), .v (.int .i64 0), .v (.int .i64 0), .v (.int .i64 0), .v (.int .i64 0), .v (.int .i64 0), .v (.int .i64 0), .v (.int .i64 0), .v (.int .i64 0), .v (.int .i64 0), .v (.int .i64 0), .v (.int .i64 0), .v (.int .i64 0), .v (.int .i64 0), .v (.int .i64 0), .v (.int .i64 0), .v (.int .i64 0), .v (.int .i64 0), .v (.int .i64 0), .v (.int .i64 0), .v (.int .i64 0), .v (.int .i64 0), .v (.int .i64 0), .v (.int .i64 0), .v (.int .i64 0), .v (.int .i64 0), .v (.int .i64 0), .v (.int .i64 0), .v (.int .i64 0), .v (.int .i64 0), .v (.int .i64 0), .v (.int .i64 0), .v (.int .i64 0), .v (.int .i64 0), .v (.int .i64 0), .v (.int .i64 0), .v (.int .i64 0), .v (.int .i64 0), .v (.int .i64 0), .v (.int .i64 0), .v (.int .i64 0), .v (.int .i64 0), .v (.int .i64 0), .v (.int .i64 0), .v (.int .i64 0), .v (.int .i64 0), .v (.int .i64 0), .v (.int .i64 0), .v (.int .i64 0), .v (.int .i64 0), .v (.int .i64 0), .v (.int .i64 0), .v (.int .i64 0), .v (.int .i64 0), .v (.int .i64 0), .v (.int .i64 0), .v (.int .i64 0), .v (.int .i64 0), .v (.int .i64 0), .v (.int .i64 0), .v (.int .i64 0), .v (.int .i64 0), .v (.int .i64 0), .v (.int .i64 0), .v (.int .i64 0), .v (.int .i64 0), .v (.int .i64 0), .v (.int .i64 0), .v (.int .i64 0), .v (.int .i64 0), .v (.int .i64 0), .v (.int .i64 0), .v (.int .i64 0), .v (.int .i64 0), .v (.int .i64 0), .v (.int .i64 0), .v (.int .i64 0), .v (.int .i64 0), .v (.int .i64 0), .v (.int .i64 0), .v (.int .i64 0), .v (.int .i64 0), .v (.int .i64 0), .v (.int .i64 0), .v (.int .i64 0), .v (.int .i64 0), .v (.int .i64 0), .v (.int .i64 0), .v (.int .i64 0), .v (.int .i64 0), .v (.int .i64 0), .v (.int .i64 0), .v (.int .i64 0), .v (.int .i64 0), .v (.int .i64 0), .v (.int .i64 0), .v (.int .i64 0), .v (.int .i64 0), .v (.int .i64 0), .v (.int .i64 0), .v (.int .i64 0), .v (.int .i64 0), .v (.int .i64 0), .v (.int .i64 0), .v (.int .i64 0), .v (.int .i64 0), .v (.int .i64 0), .v (.int .i64 0), .v (.int .i64 0), .v (.int .i64 0), .v (.int .i64 0), .v (.int .i64 0), .v (.int .i64 0), .v (.int .i64 0), .v (.int .i64 0), .v (.int .i64 0), .v (.int .i64 0), .v (.int .i64 0), .v (.int .i64 0), .v (.int .i64 0), .v (.int .i64 0), .v (.int .i64 0), .v (.int .i64 0), .v (.int .i64 0), .v (.int .i64 0), .v (.int .i64 0), .v (.int .i64 0), .v (.int .i64 0), .v (.int .i64 0), .v (.int .i64 0), .v (.int .i64 0), .v (.int .i64 0), .v (.int .i64 0), .v (.int .i64 0), .v (.int .i64 0), .v (.int .i64 0), .v (.int .i64 0), .v (.int .i64 0), .v (.int .i64 0), .v (.int .i64 0), .v (.int .i64 0), .v (.int .i64 0), .v (.int .i64 0), .v (.int .i64 0), .v (.int .i64 0), .v (.int .i64 0), .v (.int .i64 0), .v (.int .i64 0), .v (.int .i64 0), .v (.int .i64 0), .v (.int .i64 0), .v (.int .i64 0), .v (.int .i64 0), .v (.int .i64 0), .v (.int .i64 0), .v (.int .i64 0), .v (.int .i64 0), .v (.int .i64 0), .v (.int .i64 0), .v (.int .i64 0), .v (.int .i64 0), .v (.int .i64 0), .v (.int .i64 0), .v (.int .i64 0), .v (.int .i64 0), .v (.int .i64 0), .v (.int .i64 0), .v (.int .i64 0), .v (.int .i64 0), .v (.int .i64 0), .v (.int .i64 0), .v (.int .i64 0), .v (.int .i64 0), .v (.int .i64 0), .v (.int .i64 0), .v (.int .i64 0), .v (.int .i64 0), .v (.int .i64 0), .v (.int .i64 0), .v (.int .i64 0), .v (.int .i64 0), .v (.int .i64 0), .v (.int .i64 0), .v (.int .i64 0), .v (.int .i64 0), .v (.int .i64 0), .v (.int .i64 0), .v (.int .i64 0), .v (.int .i64 0), .v (.int .i64 0), .v (.int .i64 0), .v (.int .i64 0), .v (.int .i64 0), .v (.int .i64 0), .v (.int .i64 0), .v (.int .i64 0), .v (.int .i64 0), .v (.int .i64 0), .v (.int .i64 0), .v (.int .i64 0), .v (.int .i64 0), .v (.int .i64 0), .v (.int .i64 0), .v (.int .i64 0), .v (.int .i64 0), .v (.int .i64 0), .v (.int .i64 0), .v (.int .i64 0), .v (.int .i64 0), .v (.int .i64 0), .v (.int .i64 0), .v (.int .i64 0), .v (.int .i64 0), .v (.int .i64 0), .v (.int .i64 0), .v (.int .i64 0), .v (.int .i64 0), .v (.int .i64 0), .v (.int .i64 0), .v (.int .i64 0), .v (.int .i64 0), .v (.int .i64 0), .v (.int .i64 0), .v (.int .i64 0), .v (.int .i64 0), .v (.int .i64 0), .v (.int .i64 0), .v (.int .i64 0), .v (.int .i64 0), .v (.int .i64 0), .v (.int .i64 0), .v (.int .i64 0), .v (.int .i64 0), .v (.int .i64 0), .v (.int .i64 0)]⟩),
  (153, ⟨.arr 8 137, 320, 2560, [.v (.int .i64 0), .v (.int .i64 0), .v (.int .i64 0), .v (.int .i64 0), .v (.int .i64 0), .v (.int .i64 0), .v (.int .i64 0), .v (.int .i64 0), .v (.int .i64 0), .v (.int .i64 0), .v (.int .i64 0), .v (.int .i64 0), .v (.int .i64 0), .v (.int .i64 0), .v (.int .i64 0), .v (.int .i64 0), .v (.int .i64 0), .v (.int .i64 0), .v (.int .i64 0), .v (.int .i64 0), .v (.int .i64 0), .v (.int .i64 0), .v (.int .i64 0), .v (.int .i64 0), .v (.int .i64 0), .v (.int .i64 0), .v (.int .i64 0), .v (.int .i64 0), .v (.int .i64 0), .v (.int .i64 0), .v (.int .i64 0), .v (.int .i64 0), .v (.int .i64 0), .v (.int .i64 0), .v (.int .i64 0), .v (.int .i64 0), .v (.int .i64 0), .v (.int .i64 0), .v (.int .i64 0), .v (.int .i64 0), .v (.int .i64 0), .v (.int .i64 0), .v (.int .i64 0), .v (.int .i64 0), .v (.int .i64 0), .v (.int .i64 0), .v (.int .i64 0), .v (.int .i64 0), .v (.int .i64 0), .v (.int .i64 0), .v (.int .i64 0), .v (.int .i64 0), .v (.int .i64 0), .v (.int .i64 0), .v (.int .i64 0), .v (.int .i64 0), .v (.int .i64 0), .v (.int .i64 0), .v (.int .i64 0), .v (.int .i64 0), .v (.int .i64 0), .v (.int .i64 0), .v (.int .i64 0), .v (.int .i64 0), .v (.int .i64 0), .v (.int .i64 0), .v (.int .i64 0), .v (.int .i64 0), .v (.int .i64 0), .v (.int .i64 0), .v (.int .i64 0), .v (.int .i64 0), .v (.int .i64 0), .v (.int .i64 0), .v (.int .i64 0), .v (.int .i64 0), .v (.int .i64 0), .v (.int .i64 0), .v (.int .i64 0), .v (.int .i64 0), .v (.int .i64 0), .v (.int .i64 0), .v (.int .i64 0), .v (.int .i64 0), .v (.int .i64 0), .v (.int .i64 0), .v (.int .i64 0), .v (.int .i64 0), .v (.int .i64 0), .v (.int .i64 0), .v (.int .i64 0), .v (.int .i64 0), .v (.int .i64 0), .v (.int .i64 0), .v (.int .i64 0), .v (.int .i64 0), .v (.int .i64 0), .v (.int .i64 0), .v (.int .i64 0), .v (.int .i64 0), .v (.int .i64 0), .v (.int .i64 0), .v (.int .i64 0), .v (.int .i64 0), .v (.int .i64 0), .v (.int .i64 0), .v (.int .i64 0), .v (.int .i64 0), .v (.int .i64 0), .v (.int .i64 0), .v (.int .i64 0), .v (.int .i64 0), .v (.int .i64 0), .v (.int .i64 0), .v (.int .i64 0), .v (.int .i64 0), .v (.int .i64 0), .v (.int .i64 0), .v (.int .i64 0), .v (.int .i64 0), .v (.int .i64 0), .v (.int .i64 0), .v (.int .i64 0), .v (.int .i64 0), .v (.int .i64 0), .v (.int .i64 0), .v (.int .i64 0), .v (.int .i64 0), .v (.int .i64 0), .v (.int .i64 0), .v (.int .i64 0), .v (.int .i64 0), .v (.int .i64 0), .v (.int .i64 0), .v (.int .i64 0), .v (.int .i64 0), .v (.int .i64 0), .v (.int .i64 0), .v (.int .i64 0), .v (.int .i64 0), .v (.int .i64 0), .v (.int .i64 0), .v (.int .i64 0), .v (.int .i64 0), .v (.int .i64 0), .v (.int .i64 0), .v (.int .i64 0), .v (.int .i64 0), .v (.int .i64 0), .v (.int .i64 0), .v (.int .i64 0), .v (.int .i64 0), .v (.int .i64 0), .v (.int .i64 0), .v (.int .i64 0), .v (.int .i64 0), .v (.int .i64 0), .v (.int .i64 0), .v (.int .i64 0), .v (.int .i64 0), .v (.int .i64 0), .v (.int .i64 0), .v (.int .i64 0), .v (.int .i64 0), .v (.int .i64 0), .v (.int .i64 0), .v (.int .i64 0), .v (.int .i64 0), .v (.int .i64 0), .v (.int .i64 0), .v (.int .i64 0), .v (.int .i64 0), .v (.int .i64 0), .v (.int .i64 0), .v (.int .i64 0), .v (.int .i64 0), .v (.int .i64 0), .v (.int .i64 0), .v (.int .i64 0), .v (.int .i64 0), .v (.int .i64 0), .v (.int .i64 0), .v (.int .i64 0), .v (.int .i64 0), .v (.int .i64 0), .v (.int .i64 0), .v (.int .i64 0), .v (.int .i64 0), .v (.int .i64 0), .v (.int .i64 0), .v (.int .i64 0), .v (.int .i64 0), .v (.int .i64 0), .v (.int .i64 0), .v (.int .i64 0), .v (.int .i64 0), .v (.int .i64 0), .v (.int .i64 0), .v (.int .i64 0), .v (.int .i64 0), .v (.int .i64 0), .v (.int .i64 0), .v (.int .i64 0), .v (.int .i64 0), .v (.int .i64 0), .v (.int .i64 0), .v (.int .i64 0), .v (.int .i64 0), .v (.int .i64 0), .v (.int .i64 0), .v (.int .i64 0), .v (.int .i64 0), .v (.int .i64 0), .v (.int .i64 0), .v (.int .i64 0), .v (.int .i64 0), .v (.int .i64 0), .v (.int .i64 0), .v (.int .i64 0), .v (.int .i64 0), .v (.int .i64 0), .v (.int .i64 0), .v (.int .i64 0), .v (.int .i64 0), .v (.int .i64 0), .v (.int .i64 0), .v (.int .i64 0), .v (.int .i64 0), .v (.int .i64 0), .v (.int .i64 0), .v (.int .i64 0), .v (.int .i64 0), .v (.int .i64 0), .v (.int .i64 0), .v (.int .i64 0), .v (.int .i64 0), .v (.int .i64 0), .v (.int .i64 0), .v (.int .i64 0), .v (.int .i64 0), .v (.int .i64 0), .v (.int .i64 0), .v (.int .i64 0), .v (.int .i64 0), .v (.int .i64 0), .v (.int .i64 0), .v (.int .i64 0), .v (.int .i64 0), .v (.int .i64 0), .v (.int .i64 0), .v (.int .i64 0), .v (.int .i64 0), .v (.int .i64 0), .v (.int .i64 0), .v (.int .i64 0), .v (.int .i64 0), .v (.int .i64 0), .v (.int .i64 0), .v (.int .i64 0), .v (.int .i64 0), .v (.int .i64 0), .v (.int .i64 0), .v (.int .i64 0), .v (.int .i64 0), .v (.int .i64 0), .v (.int .i64 0), .v (.int .i64 0), .v (.int .i64 0), .v (.int .i64 0), .v (.int .i64 0), .v (.int .i64 0), .v (.int .i64 0), .v (.int .i64 0), .v (.int .i64 0), .v (.int .i64 0), .v (.int .i64 0), .v (.int .i64 0), .v (.int .i64 0), .v (.int .i64 0), .v (.int .i64 0), .v (.int .i64 0), .v (.int .i64 0), .v (.int .i64 0), .v (.int .i64 0), .v (.int .i64 0), .v (.int .i64 0), .v (.int .i64 0), .v (.int .i64 0), .v (.int .i64 0), .v (.int .i64 0), .v (.int .i64 0), .v (.int .i64 0), .v (.int .i64 0), .v (.int .i64 0), .v (.int .i64 0), .v (.int .i64 0), .v (.int .i64 0), .v (.int .i64 0), .v (.int .i64 0), .v (.int .i64 0), .v (.int .i64 0), .v (.int .i64 0), .v (.int .i64 0), .v (.int .i64 0), .v (.int .i64 0), .v (.int .i64 0), .v (.int .i64 0), .v (.int .i64 0), .v (.int .i64 0), .v (.int .i64 0), .v (.int .i64 0), .v (.int .i64 0), .v (.int .i64 0), .v (.int .i64 0), .v (.int .i64 0), .v (.int .i64 0), .v (.int .i64 0), .v (.int .i64 0), .v (.int .i64 0), .v (.int .i64 0)]⟩),
  (154, ⟨.other, 1, 8, [.dead]⟩),
  (155, ⟨.other, 1, 8, [.dead]⟩),
  (156, ⟨.ptr, 1, 8, [.dead]⟩),
  (158, ⟨.other, 1, 8, [.dead]⟩),
  (159, ⟨.ptr, 1, 8, [.dead]⟩),
  (160, ⟨.arr 5 61, 25, 200, [.v (.int .i64 0), .v (.int .i64 0), .v (.int .i64 0), .v (.int .i64 0), .v (.int .i64 0), .v (.int .i64 0), .v (.int .i64 0), .v (.int .i64 0), .v (.int .i64 0), .v (.int .i64 0), .v (.int .i64 0), .v (.int .i64 0), .v (.int .i64 0), .v (.int .i64 0), .v (.int .i64 0), .v (.int .i64 0), .v (.int .i64 0), .v (.int .i64 0), .v (.int .i64 0), .v (.int .i64 0), .v (.int .i64 0), .v (.int .i64 0), .v (.int .i64 0), .v (.int .i64 0), .v (.int .i64 0)]⟩),
  (161, ⟨.struct [(0, 3), (1, 3), (2, 4), (3, 160)], 28, 224, [.v (.int .i64 0), .v (.int .i64 0), .v (.bool false), .v (.int .i64 0), .v (.int .i64 0), .v (.int .i64 0), .v (.int .i64 0), .v (.int .i64 0), .v (.int .i64 0), .v (.int .i64 0), .v (.int .i64 0), .v (.int .i64 0), .v (.int .i64 0), .v (.int .i64 0), .v (.int .i64 0), .v (.int .i64 0), .v (.int .i64 0), .v (.int .i64 0), .v (.int .i64 0), .v (.int .i64 0), .v (.int .i64 0), .v (.int .i64 0), .v (.int .i64 0), .v (.int .i64 0), .v (.int .i64 0), .v (.int .i64 0), .v (.int .i64 0), .v (.int .i64 0)]⟩),
  (162, ⟨.struct [(0, 3), (1, 3), (2, 4), (3, 160)], 28, 224, [.v (.int .i64 0), .v (.int .i64 0), .v (.bool false), .v (.int .i64 0), .v (.int .i64 0), .v (.int .i64 0), .v (.int .i64 0), .v (.int .i64 0), .v (.int .i64 0), .v (.int .i64 0), .v (.int .i64 0), .v (.int .i64 0), .v (.int .i64 0), .v (.int .i64 0), .v (.int .i64 0), .v (.int .i64 0), .v (.int .i64 0), .v (.int .i64 0), .v (.int .i64 0), .v (.int .i64 0), .v (.int .i64 0), .v (.int .i64 0), .v (.int .i64 0), .v (.int .i64 0), .v (.int .i64 0), .v (.int .i64 0), .v (.int .i64 0), .v (.int .i64 0)]⟩),
  (163, ⟨.other, 1, 8, [.dead]⟩),
  (164, ⟨.other, 1, 8, [.dead]⟩),
  (165, ⟨.other, 1, 8, [.dead]⟩),
  (166, ⟨.int .i64, 1, 8, [.v (.int .i64 0)]⟩),
  (168, ⟨.other, 1, 8, [.dead]⟩),
  (169, ⟨.other, 1, 8, [.dead]⟩),
  (170, ⟨.other, 1, 8, [.dead]⟩),
  (172, ⟨.other, 1, 8, [.dead]⟩),
  (173, ⟨.arr 32 5, 32, 32, [.v (.int .u8 0), .v (.int .u8 0), .v (.int .u8 0), .v (.int .u8 0), .v (.int .u8 0), .v (.int .u8 0), .v (.int .u8 0), .v (.int .u8 0), .v (.int .u8 0), .v (.int .u8 0), .v (.int .u8 0), .v (.int .u8 0), .v (.int .u8 0), .v (.int .u8 0), .v (.int .u8 0), .v (.int .u8 0), .v (.int .u8 0), .v (.int .u8 0), .v (.int .u8 0), .v (.int .u8 0), .v (.int .u8 0), .v (.int .u8 0), .v (.int .u8 0), .v (.int .u8 0), .v (.int .u8 0), .v (.int .u8 0), .v (.int .u8 0), .v (.int .u8 0), .v (.int .u8 0), .v (.int .u8 0), .v (.int .u8 0), .v (.int .u8 0)]⟩),
  (174, ⟨.arr 64 5, 64, 64, [.v (.int .u8 0), .v (.int .u8 0), .v (.int .u8 0), .v (.int .u8 0), .v (.int .u8 0), .v (.int .u8 0), .v (.int .u8 0), .v (.int .u8 0), .v (.int .u8 0), .v (.int .u8 0), .v (.int .u8 0), .v (.int .u8 0), .v (.int .u8 0), .v (.int .u8 0), .v (.int .u8 0), .v (.int .u8 0), .v (.int .u8 0), .v (.int .u8 0), .v (.int .u8 0), .v (.int .u8 0), .v (.int .u8 0), .v (.int .u8 0), .v (.int .u8 0), .v (.int .u8 0), .v (.int .u8 0), .v (.int .u8 0), .v (.int .u8 0), .v (.int .u8 0), .v (.int .u8 0), .v (.int .u8 0), .v (.int .u8 0), .v (.int .u8 0), .v (.int .u8 0), .v (.int .u8 0), .v (.int .u8 0), .v (.int .u8 0), .v (.int .u8 0), .v (.int .u8 0), .v (.int .u8 0), .v (.int .u8 0), .v (.int .u8 0), .v (.int .u8 0), .v (.int .u8 0), .v (.int .u8 0), .v (.int .u8 0), .v (.int .u8 0), .v (.int .u8 0), .v (.int .u8 0), .v (.int .u8 0), .v (.int .u8 0), .v (.int .u8 0), .v (.int .u8 0), .v (.int .u8 0), .v (.int .u8 0), .v (.int .u8 0), .v (.int .u8 0), .v (.int .u8 0), .v (.int .u8 0), .v (.int .u8 0), .v (.int .u8 0), .v (.int .u8 0), .v (.int .u8 0), .v (.int .u8 0), .v (.int .u8 0)]⟩),
  (175, ⟨.ptr, 1, 8, [.dead]⟩),
  (176, ⟨.struct [(0, 40), (3, 49), (5, 127), (6, 125), (7, 150), (8, 129)], 9, 136, [.v (.int .i64 0), .v (.int .i64 0), .v .nl, .v .nl, .v .nl, .v (.int .u16 0), .v .nl, .dead, .dead]⟩),
  (177, ⟨.struct [(0, 40), (3, 49), (5, 127), (6, 125), (7, 150), (8, 129)], 9, 136, [.v (.int .i64 0), .v (.int .i64 0), .v .nl, .v .nl, .v .nl, .v (.int .u16 0), .v .nl, .dead, .dead]⟩),
  (178, ⟨.other, 1, 8, [.dead]⟩),
  (179, ⟨.arr 5 70, 5, 40, [.v (.int .u64 0), .v (.int .u64 0), .v (.int .u64 0), .v (.int .u64 0), .v (.int .u64 0)]⟩),
  (180, ⟨.struct [(0, 3), (1, 160), (26, 179), (31, 179)], 36, 288, [.v (.int .i64 0), .v (.int .i64 0), .v (.int .i64 0), .v (.int .i64 0), .v (.int .i64 0), .v (.int .i64 0), .v (.int .i64 0), .v (.int .i64 0), .v (.int .i64 0), .v (.int .i64 0), .v (.int .i64 0), .v (.int .i64 0), .v (.int .i64 0), .v (.int .i64 0), .v (.int .i64 0), .v (.int .i64 0), .v (.int .i64 0), .v (.int .i64 0), .v (.int .i64 0), .v (.int .i64 0), .v (.int .i64 0), .v (.int .i64 0), .v (.int .i64 0), .v (.int .i64 0), .v (.int .i64 0), .v (.int .i64 0), .v (.int .u64 0), .v (.int .u64 0), .v (.int .u64 0), .v (.int .u64 0), .v (.int .u64 0), .v (.int .u64 0), .v (.int .u64 0), .v (.int .u64 0), .v (.int .u64 0), .v (.int .u64 0)]⟩),
  (181, ⟨.struct [(0, 3), (1, 160), (26, 179), (31, 179)], 36, 288, [.v (.int .i64 0), .v (.int .i64 0), .v (.int .i64 0), .v (.int .i64 0), .v (.int .i64 0), .v (.int .i64 0), .v (.int .i64 0), .v (.int .i64 0), .v (.int .i64 0), .v (.int .i64 0), .v (.int .i64 0), .v (.int .i64 0), .v (.int .i64 0), .v (.int .i64 0), .v (.int .i64 0), .v (.int .i64 0), .v (.int .i64 0), .v (.int .i64 0), .v (.int .i64 0), .v (.int .i64 0), .v (.int .i64 0), .v (.int .i64 0), .v (.int .i64 0), .v (.int .i64 0), .v (.int .i64 0), .v (.int .i64 0), .v (.int .u64 0), .v (.int .u64 0), .v (.int .u64 0), .v (.int .u64 0), .v (.int .u64 0), .v (.int .u64 0), .v (.int .u64 0), .v (.int .u64 0), .v (.int .u64 0), .v (.int .u64 0)]⟩),
  (182, ⟨.other, 1, 8, [.dead]⟩),
  (183, ⟨.ifc, 1, 16, [.dead]⟩),
  (184, ⟨.ifc, 1, 16, [.dead]⟩),
  (186, ⟨.other, 1, 8, [.dead]⟩),
  (187, ⟨.other, 1, 8, [.dead]⟩),
  (188, ⟨.other, 1, 8, [.dead]⟩),
  (189, ⟨.int .u64, 1, 8, [.v (.int .u64 0)]⟩),
  (190, ⟨.other, 1, 8, [.dead]⟩),
  (191, ⟨.other, 1, 8, [.dead]⟩),
  (192, ⟨.other, 1, 8, [.dead]⟩),
  (193, ⟨.ptr, 1, 8, [.dead]⟩),
  (194, ⟨.other, 1, 8, [.dead]⟩),
  (195, ⟨.ptr, 1, 8, [.dead]⟩),
  (196, ⟨.other, 1, 8, [.dead]⟩),
  (197, ⟨.other, 1, 8, [.dead]⟩),
  (203, ⟨.other, 1, 8, [.dead]⟩),
  (207, ⟨.ptr, 1, 8, [.dead]⟩),
  (212, ⟨.other, 1, 8, [.dead]⟩),
  (214, ⟨.slice 97, 1, 24, [.v .nl]⟩)]
theorem tl3 : tl tab 3 = some ⟨.int .i64, 1, 8, [.v (.int .i64 0)]⟩ := rfl
theorem tl4 : tl tab 4 = some ⟨.bool, 1, 1, [.v (.bool false)]⟩ := rfl
theorem tl5 : tl tab 5 = some ⟨.int .u8, 1, 1, [.v (.int .u8 0)]⟩ := rfl
theorem tl29 : tl tab 29 = some ⟨.slice 3, 1, 24, [.v .nl]⟩ := rfl
theorem tab_ok : TOk Tryd.prog tab := tabB_ok (by kernel_rfl)
theorem mixed : Tryd.prog.follows .mixedOrders = true := by kernel_rfl
def tab32 : List Int := [0, 1, 28, 2, 29, 14, 24, 3, 30, 22, 20, 15, 25, 17, 4, 8, 31, 27, 13, 23, 21, 19, 16, 7, 26, 12, 18, 6, 11, 5, 10, 9]
def tab64 : List Int := [0, 1, 56, 2, 57, 49, 28, 3, 61, 58, 42, 50, 38, 29, 17, 4, 62, 47, 59, 36, 45, 43, 51, 22, 53, 39, 33, 30, 24, 18, 12, 5, 63, 55, 48, 27, 60, 41, 37, 16, 46, 35, 44, 21, 52, 32, 23, 11, 54, 26, 40, 15, 34, 20, 31, 10, 25, 14, 19, 9, 13, 8, 7, 6]
theorem rc_tab {W : World} {b : Nat} : ∀ (zs : List Int) (off : Nat), (∀ i, i < zs.length → W.cell? ⟨b, off + i, none⟩ = some (.int .u8 (zs.getD i 0))) → RC W (fun _ => False) b off (zs.map (PV.int .u8))
  | [], off, _ => .nil b off
  | z :: zs, off, h => .cons b off (.int .u8 z) (.int .u8 z) _ (by simpa using h 0 (by simp)) rfl (fun h => h) (.int _ _) (rc_tab zs (off + 1) fun i hi => by
      have := h (i + 1) (by simpa using hi)
      rw [show off + (i + 1) = off + 1 + i by omega] at this
      simpa using this)
theorem laidG {W : World} (h : laidMetH Tryd.prog [("math/bits.deBruijn32tab", Rows.laid_math_bits_deBruijn32tab), ("math/bits.deBruijn64tab", Rows.laid_math_bits_deBruijn64tab)] W) : ∀ x ∈ Gv, RC W (fun _ => False) x.1 0 x.2 := by
  rw [MakeChecks.laidMetH_plain _ _ _ (by kernel_rfl)] at h
  have h1 : laidMet Tryd.prog (("math/bits.deBruijn32tab", Lib.tabData .u8 tab32) :: [("math/bits.deBruijn64tab", Rows.laid_math_bits_deBruijn64tab)]) W := h
  have h2 : laidMet Tryd.prog (("math/bits.deBruijn64tab", Lib.tabData .u8 tab64) :: []) W := laidMet.tail h
  have g1 : Tryd.prog.globalNamed "math/bits.deBruijn32tab" = some 0 := by kernel_rfl
  have g2 : Tryd.prog.globalNamed "math/bits.deBruijn64tab" = some 1 := by kernel_rfl
  have t1 := Lib.tabIs_of_head g1 (t := 173) (e := 5) (n := 32) (by kernel_rfl) (by kernel_rfl) (by kernel_rfl) (by kernel_rfl) (by kernel_rfl) h1
  have t2 := Lib.tabIs_of_head g2 (t := 174) (e := 5) (n := 64) (by kernel_rfl) (by kernel_rfl) (by kernel_rfl) (by kernel_rfl) (by kernel_rfl) h2
  intro x hx
  have hx' : x = (0, tab32.map (PV.int .u8)) ∨ x = (1, tab64.map (PV.int .u8)) := by
    have e : Gv = [(0, tab32.map (PV.int .u8)), (1, tab64.map (PV.int .u8))] := rfl
    rw [e] at hx
    simpa using hx
  rcases hx' with rfl | rfl
  · exact rc_tab tab32 0 fun i hi => by rw [Nat.zero_add]; exact t1.cell g1 i hi
  · exact rc_tab tab64 0 fun i hi => by rw [Nat.zero_add]; exact t2.cell g2 i hi
def domL : List (List Nat) := [[], [], [], [0, 1, 2, 3, 6, 7, 8, 9, 10, 12, 13, 14, 15, 16, 17, 18, 19, 33, 34, 35, 36, 79, 80, 81, 82, 83, 93, 96], [0, 1, 2, 3, 6, 7, 8, 9, 10, 11, 12, 13, 14, 15, 17, 18, 19, 20, 21, 22, 23, 39, 56, 72, 76, 77, 78, 79, 110, 136, 137, 138, 139, 148, 189, 190, 191, 192, 193, 212], [0, 1, 2, 3, 8, 9, 10, 11, 12, 13, 14, 16, 17, 19, 20, 21, 22, 23, 24, 25, 26, 27, 28, 29, 30, 31, 54, 55, 56, 62, 76, 80, 81, 82, 83, 86, 87, 88, 89, 110, 148, 156, 157, 158, 169, 171, 216], [0, 1, 4, 5, 6, 7, 8, 9, 10, 11, 12, 13, 14, 15, 16, 17, 18, 19, 20, 21, 22, 24, 25, 27, 53, 131, 135, 136, 137, 138, 168, 194, 195, 196, 197, 198, 202, 219], [0, 1, 2, 3, 4, 8, 9, 10, 11, 12, 14, 15, 16, 21, 39, 40, 41, 42, 64], [0, 1, 4, 5, 6, 7, 8, 9, 10, 12, 13, 18, 37], [0, 1, 2, 3, 4, 8], [0, 1, 4, 5, 10, 12, 13, 14, 24], [0, 1, 2, 3, 4], [0, 1, 2, 3, 4, 5, 6, 10], [0, 1, 2, 4, 5, 6, 7, 9, 10, 11, 12, 13, 14, 15, 20, 27, 28, 29, 30, 43, 44, 45, 47, 48, 49, 50, 66, 82], [0, 1, 2, 4, 5, 6, 7, 8, 10, 11, 15, 21, 22, 23, 24, 30, 41, 56, 59], [0, 1, 2, 3], [0, 2], [0, 1, 2, 4, 5, 6, 7, 8, 17], [0, 1, 2, 3, 4, 5, 8, 9, 10, 14, 18], [0, 1, 2, 3, 6, 7, 8, 9, 10, 11, 12, 13, 14, 15, 16, 17, 25, 29, 46, 58, 62, 63, 64, 65, 86], [0, 1, 2, 6, 7, 8, 9, 10, 16, 36], [0, 1, 2, 6, 7, 8, 10, 11, 12, 13, 15, 18, 42, 43, 44, 45, 70, 71, 72, 73], [0, 1, 2, 3, 4, 5, 9], [0, 1, 4, 5, 6, 7, 12], [0, 1, 2], [0, 1, 4, 5, 7, 8, 12, 16, 17, 18, 19, 24, 32], [0, 1, 4, 5, 6, 7, 8, 9, 10, 11], [0, 1, 2, 4, 6, 7, 8, 9, 10, 11, 16, 17, 18, 29, 30, 31, 32], [0, 2, 4], [0, 1, 2, 3, 4, 6, 7, 8, 12, 13, 14], [0, 1, 2, 4, 5, 14, 20, 21, 22, 23, 26, 39, 52], [0, 2, 3, 5], [0, 1, 2], [0, 1, 2, 4, 5, 11, 12, 13, 19], [0, 1, 2, 4, 28], [0, 1, 4, 5, 6, 7, 8, 9, 10, 11, 12, 19, 28, 35], [0, 1, 2, 4, 5, 6, 7, 11, 21, 25], [0, 1, 4, 5, 6, 7, 8, 10, 26, 37], [0, 1, 2, 4, 5, 6, 7, 14, 15, 16, 17, 32], [0, 1, 2, 3, 6, 7, 8, 9, 12, 13, 14, 15, 34, 42], [0, 1, 2], [0, 1, 4], [0, 1, 4], [0, 1, 2], [0, 1, 2, 4, 5, 6, 7, 8, 9, 16], [0, 1, 2, 3, 6, 7, 9, 12, 13, 14, 15, 28, 37], [0, 2, 3, 5], [0, 1, 2, 3, 4, 5, 7, 8, 9, 27, 33, 35, 43, 48, 57, 58, 59, 60, 63, 64, 65, 66, 70, 74, 79], [0, 1, 2, 4], [0, 1, 2, 4, 5, 6, 7, 9, 21, 28, 31, 38, 39, 40, 41], [0, 1, 4], [0, 1, 4], [0, 2, 3, 5, 6, 8, 9, 10, 11, 12, 20, 25, 26, 27, 28], [0, 1], [0, 1, 4, 5, 9], [0, 1, 2, 4, 5, 6, 7, 8], [0, 1, 2], [0, 2, 3, 4, 5, 6, 7, 11], [0, 1, 2], [0, 1, 2, 6], [0, 2], [0, 2], [0, 1, 2, 4, 5, 7, 9, 10, 11, 12], [0, 1, 4, 5, 6, 11, 12, 13, 16, 19], [0, 1, 4, 5, 6, 7, 9, 10, 11, 12, 13, 16, 20], [0, 1, 4, 5, 6, 7, 8, 9], [0, 1, 4, 5, 7, 8, 9, 16], [0, 1, 2, 3, 4, 5, 6, 7, 12], [0, 1, 2, 3, 4, 5, 6, 7, 8, 9, 10, 20, 32, 33, 34, 35, 48, 60], [0, 1, 4, 5, 6, 7, 9, 10, 11, 12, 13, 16, 24], [0, 2], [0, 1, 2, 4, 5, 6, 7, 8, 9, 10, 14, 18], [0, 2, 3, 5, 6, 7, 8, 9], [0, 1, 2, 3, 6, 7, 9, 16, 17, 18, 57], [0, 1, 4, 5, 7, 8, 9, 16], [0, 1, 4, 6, 16], [0, 1, 2, 6], [0, 1], [0, 1, 2, 3, 4, 5, 6, 10, 11, 12, 16, 20], [0, 2], [0, 2, 3, 7, 11], [0, 1, 2, 3], [0, 1, 2, 3, 4, 7, 10], [0, 1, 4, 5, 6, 7, 8, 17], [0, 1, 2, 3, 8, 9, 10, 11, 12, 13, 14, 15, 16, 17, 18, 23, 29, 35, 50, 68, 72, 87, 113], [0, 2], [0, 2, 4], [0, 2, 4], [0, 2], [0, 1, 4, 5, 6], [0, 1, 4, 5, 6, 7, 8, 9, 10, 11, 12, 13], [0, 1, 2, 3, 4, 6], [0, 1, 3], [0, 2, 3, 4, 7, 15], [0, 2, 3, 4, 7, 15], [0, 1, 2, 6, 7, 8, 9, 10, 14, 15, 16], [0, 1, 2, 3, 6, 7, 8, 9, 10, 11, 14, 38, 68, 77], [0, 1, 2, 6, 7, 8, 9, 10, 11, 12, 13, 20, 27, 28, 29, 30, 42, 43, 44, 45, 46, 50, 58, 69], [0, 1, 2, 3, 4, 5, 6], [0, 1, 2, 4, 5, 6, 7, 8, 9], [0, 1, 2, 6, 7, 12, 30], [0, 1, 2, 6, 7, 8, 9, 10, 19, 30], [0, 1, 2, 6, 7, 8, 9, 10, 15, 33, 43], [0, 1, 2, 6, 7, 8, 9, 10, 11, 12, 32, 34, 49, 51, 54], [0, 1, 2, 6, 7, 13], [0, 1, 2, 6, 7, 8, 9, 10, 14, 32, 37, 41, 61, 65, 78, 98, 103, 116], [0, 1, 4], [0, 1, 2, 3, 8, 9, 10, 43, 59, 64], [0, 1, 2, 3, 8, 9, 10, 11, 43, 60, 65, 112, 129, 134], [0, 2, 4, 8], [0, 2, 4, 8, 14], [0, 2, 3, 4, 5, 18, 43], [0, 2, 3, 4, 5, 9, 10, 12, 13], [0, 1, 2, 3], [0, 1, 2, 3, 4, 5, 8, 9, 10, 17, 28, 48, 63], [0, 1, 2, 6], [0, 1, 2, 6], [0, 1, 2, 3, 8, 9, 16, 36, 52], [0, 2], [0, 2], [0, 1, 2, 6], [0, 1, 2, 3, 4, 10], [0, 2, 3, 4, 5, 7, 38, 48, 49, 50, 51, 75], [0, 1, 2, 3, 8, 9, 18], [0], [0], [0], [0], [0], [0], [0], [0], [0], [0], [0], [0], [0], [0], [0], [0], [0, 2, 3], [0, 1, 4], [0], [], [], [], [], []]
def nthL : List (List Nat) → Nat → List Nat
  | [], _ => []
  | x :: _, 0 => x
  | _ :: l, n + 1 => nthL l n
def noFz (n : Nat) : Bool := bif Nat.beq n 0 then false else false
def kn0 : Known := ⟨[], []⟩
theorem kn0_ok : KnOk Tryd.prog kn0 := KnOk.nil
def ka0 : List PV := []
def kr0 : PV := (.bool true)
theorem k0 : FnP Tryd.prog 11 ka0 kr0 := runE_ok (doms := nthL domL) (fzr := noFz) (n := 6000) tab_ok mixed kn0_ok (by kernel_rfl)
def kn1 : Known := ⟨(11, ka0, kr0) :: kn0.p, kn0.i⟩
theorem kn1_ok : KnOk Tryd.prog kn1 := KnOk.cons k0 kn0_ok
def ka1 : List PV := []
def kr1 : PV := (.bool true)
theorem k1 : FnP Tryd.prog 58 ka1 kr1 := runE_ok (doms := nthL domL) (fzr := noFz) (n := 6000) tab_ok mixed kn1_ok (by kernel_rfl)
def kn2 : Known := ⟨(58, ka1, kr1) :: kn1.p, kn1.i⟩
theorem kn2_ok : KnOk Tryd.prog kn2 := KnOk.cons k1 kn1_ok
def ka2 : List PV := []
def kr2 : PV := (.bool true)
theorem k2 : FnP Tryd.prog 24 ka2 kr2 := runE_ok (doms := nthL domL) (fzr := noFz) (n := 6000) tab_ok mixed kn2_ok (by kernel_rfl)
def kn3 : Known := ⟨(24, ka2, kr2) :: kn2.p, kn2.i⟩
theorem kn3_ok : KnOk Tryd.prog kn3 := KnOk.cons k2 kn2_ok
def ka3 : List PV := [(.int .i64 0), (.int .i64 0), (.int .i64 0)]
def kr3 : PV := .nl
theorem k3 : FnP Tryd.prog 20 ka3 kr3 := runE_ok (doms := nthL domL) (fzr := noFz) (n := 6000) tab_ok mixed kn3_ok (by kernel_rfl)
def kn4 : Known := ⟨(20, ka3, kr3) :: kn3.p, kn3.i⟩
theorem kn4_ok : KnOk Tryd.prog kn4 := KnOk.cons k3 kn3_ok
def ka4 : List PV := [(.int .i64 1), (.int .i64 1), (.int .i64 0)]
def kr4 : PV := .nl
theorem k4 : FnP Tryd.prog 20 ka4 kr4 := runE_ok (doms := nthL domL) (fzr := noFz) (n := 6000) tab_ok mixed kn4_ok (by kernel_rfl)
def kn5 : Known := ⟨(20, ka4, kr4) :: kn4.p, kn4.i⟩
theorem kn5_ok : KnOk Tryd.prog kn5 := KnOk.cons k4 kn4_ok
def ka5 : List PV := [(.int .i64 0), (.int .i64 1), (.int .i64 0)]
def kr5 : PV := (.lst false 1 [(.int .i64 0)])
theorem k5 : FnP Tryd.prog 20 ka5 kr5 := runE_ok (doms := nthL domL) (fzr := noFz) (n := 6000) tab_ok mixed kn5_ok (by kernel_rfl)
def kn6 : Known := ⟨(20, ka5, kr5) :: kn5.p, kn5.i⟩
theorem kn6_ok : KnOk Tryd.prog kn6 := KnOk.cons k5 kn5_ok
def ka6 : List PV := [(.int .i64 0), (.int .i64 0), (.lst false 0 [])]
def kr6 : PV := (.tup [(.lst true 1 [(.int .i64 (-1))]), (.lst true 1 [(.int .i64 0)])])
theorem k6 : FnP Tryd.prog 21 ka6 kr6 := runE_ok (doms := nthL domL) (fzr := noFz) (n := 6000) tab_ok mixed kn6_ok (by kernel_rfl)
def kn7 : Known := ⟨(21, ka6, kr6) :: kn6.p, kn6.i⟩
theorem kn7_ok : KnOk Tryd.prog kn7 := KnOk.cons k6 kn6_ok
def ka7 : List PV := [(.int .i64 1), (.int .i64 1), (.lst false 0 [])]
def kr7 : PV := (.tup [(.lst true 1 [(.int .i64 (-1))]), (.lst true 1 [(.int .i64 1)])])
theorem k7 : FnP Tryd.prog 21 ka7 kr7 := runE_ok (doms := nthL domL) (fzr := noFz) (n := 6000) tab_ok mixed kn7_ok (by kernel_rfl)
def kn8 : Known := ⟨(21, ka7, kr7) :: kn7.p, kn7.i⟩
theorem kn8_ok : KnOk Tryd.prog kn8 := KnOk.cons k7 kn7_ok
def ka8 : List PV := [(.int .i64 0), (.int .i64 1), (.lst false 1 [(.int .i64 0)])]
def kr8 : PV := (.tup [(.lst false 3 [(.int .i64 (-1)), (.int .i64 0), (.int .i64 0)]), (.lst false 3 [(.int .i64 (-1)), (.int .i64 0), (.int .i64 1)])])
theorem k8 : FnP Tryd.prog 21 ka8 kr8 := runE_ok (doms := nthL domL) (fzr := noFz) (n := 6000) tab_ok mixed kn8_ok (by kernel_rfl)
def kn9 : Known := ⟨(21, ka8, kr8) :: kn8.p, kn8.i⟩
theorem kn9_ok : KnOk Tryd.prog kn9 := KnOk.cons k8 kn8_ok
def ka9 : List PV := [(.int .i64 2), (.lst false 1 [(.int .i64 0)])]
def kr9 : PV := (.int .i64 0)
theorem k9 : FnP Tryd.prog 54 ka9 kr9 := runE_ok (doms := nthL domL) (fzr := noFz) (n := 6000) tab_ok mixed kn9_ok (by kernel_rfl)
def kn10 : Known := ⟨(54, ka9, kr9) :: kn9.p, kn9.i⟩
theorem kn10_ok : KnOk Tryd.prog kn10 := KnOk.cons k9 kn9_ok
def ka10 : List PV := [(.int .i64 2), (.lst false 1 [(.int .i64 0)])]
def kr10 : PV := (.tup [(.lst false 2 [(.int .i64 1), (.int .i64 1)]), (.int .i64 0)])
theorem k10 : FnP Tryd.prog 23 ka10 kr10 := runE_ok (doms := nthL domL) (fzr := noFz) (n := 6000) tab_ok mixed kn10_ok (by kernel_rfl)
def kn11 : Known := ⟨(23, ka10, kr10) :: kn10.p, kn10.i⟩
theorem kn11_ok : KnOk Tryd.prog kn11 := KnOk.cons k10 kn10_ok
def ka11 : List PV := [(.int .i64 2), (.int .i64 2), (.int .i64 0)]
def kr11 : PV := .nl
theorem k11 : FnP Tryd.prog 20 ka11 kr11 := runE_ok (doms := nthL domL) (fzr := noFz) (n := 6000) tab_ok mixed kn11_ok (by kernel_rfl)
def kn12 : Known := ⟨(20, ka11, kr11) :: kn11.p, kn11.i⟩
theorem kn12_ok : KnOk Tryd.prog kn12 := KnOk.cons k11 kn11_ok
def ka12 : List PV := [(.int .i64 1), (.int .i64 2), (.int .i64 0)]
def kr12 : PV := (.lst false 1 [(.int .i64 1)])
theorem k12 : FnP Tryd.prog 20 ka12 kr12 := runE_ok (doms := nthL domL) (fzr := noFz) (n := 6000) tab_ok mixed kn12_ok (by kernel_rfl)
def kn13 : Known := ⟨(20, ka12, kr12) :: kn12.p, kn12.i⟩
theorem kn13_ok : KnOk Tryd.prog kn13 := KnOk.cons k12 kn12_ok
def ka13 : List PV := [(.int .i64 0), (.int .i64 2), (.int .i64 0)]
def kr13 : PV := (.lst false 2 [(.int .i64 0), (.int .i64 1)])
theorem k13 : FnP Tryd.prog 20 ka13 kr13 := runE_ok (doms := nthL domL) (fzr := noFz) (n := 6000) tab_ok mixed kn13_ok (by kernel_rfl)
def kn14 : Known := ⟨(20, ka13, kr13) :: kn13.p, kn13.i⟩
theorem kn14_ok : KnOk Tryd.prog kn14 := KnOk.cons k13 kn13_ok
def ka14 : List PV := [(.int .i64 2), (.int .i64 2), (.lst false 0 [])]
def kr14 : PV := (.tup [(.lst true 1 [(.int .i64 (-1))]), (.lst true 1 [(.int .i64 2)])])
theorem k14 : FnP Tryd.prog 21 ka14 kr14 := runE_ok (doms := nthL domL) (fzr := noFz) (n := 6000) tab_ok mixed kn14_ok (by kernel_rfl)
def kn15 : Known := ⟨(21, ka14, kr14) :: kn14.p, kn14.i⟩
theorem kn15_ok : KnOk Tryd.prog kn15 := KnOk.cons k14 kn14_ok
def ka15 : List PV := [(.int .i64 1), (.int .i64 2), (.lst false 1 [(.int .i64 1)])]
def kr15 : PV := (.tup [(.lst false 3 [(.int .i64 (-1)), (.int .i64 0), (.int .i64 0)]), (.lst false 3 [(.int .i64 (-1)), (.int .i64 1), (.int .i64 2)])])
theorem k15 : FnP Tryd.prog 21 ka15 kr15 := runE_ok (doms := nthL domL) (fzr := noFz) (n := 6000) tab_ok mixed kn15_ok (by kernel_rfl)
def kn16 : Known := ⟨(21, ka15, kr15) :: kn15.p, kn15.i⟩
theorem kn16_ok : KnOk Tryd.prog kn16 := KnOk.cons k15 kn15_ok
def ka16 : List PV := [(.int .i64 0), (.int .i64 2), (.lst false 2 [(.int .i64 0), (.int .i64 1)])]
def kr16 : PV := (.tup [(.lst false 5 [(.int .i64 (-1)), (.int .i64 0), (.int .i64 0), (.int .i64 2), (.int .i64 2)]), (.lst false 5 [(.int .i64 (-1)), (.int .i64 0), (.int .i64 (-1)), (.int .i64 1), (.int .i64 2)])])
theorem k16 : FnP Tryd.prog 21 ka16 kr16 := runE_ok (doms := nthL domL) (fzr := noFz) (n := 6000) tab_ok mixed kn16_ok (by kernel_rfl)
def kn17 : Known := ⟨(21, ka16, kr16) :: kn16.p, kn16.i⟩
theorem kn17_ok : KnOk Tryd.prog kn17 := KnOk.cons k16 kn16_ok
def ka17 : List PV := [(.int .i64 3), (.lst false 2 [(.int .i64 0), (.int .i64 1)])]
def kr17 : PV := (.int .i64 0)
theorem k17 : FnP Tryd.prog 54 ka17 kr17 := runE_ok (doms := nthL domL) (fzr := noFz) (n := 6000) tab_ok mixed kn17_ok (by kernel_rfl)
def kn18 : Known := ⟨(54, ka17, kr17) :: kn17.p, kn17.i⟩
theorem kn18_ok : KnOk Tryd.prog kn18 := KnOk.cons k17 kn17_ok
def ka18 : List PV := [(.int .i64 3), (.lst false 2 [(.int .i64 0), (.int .i64 1)])]
def kr18 : PV := (.tup [(.lst false 3 [(.int .i64 1), (.int .i64 2), (.int .i64 2)]), (.int .i64 0)])
theorem k18 : FnP Tryd.prog 23 ka18 kr18 := runE_ok (doms := nthL domL) (fzr := noFz) (n := 6000) tab_ok mixed kn18_ok (by kernel_rfl)
def kn19 : Known := ⟨(23, ka18, kr18) :: kn18.p, kn18.i⟩
theorem kn19_ok : KnOk Tryd.prog kn19 := KnOk.cons k18 kn18_ok
def ka19 : List PV := [(.int .i64 0), (.int .i64 2), (.int .i64 1)]
def kr19 : PV := (.lst false 2 [(.int .i64 1), (.int .i64 0)])
theorem k19 : FnP Tryd.prog 20 ka19 kr19 := runE_ok (doms := nthL domL) (fzr := noFz) (n := 6000) tab_ok mixed kn19_ok (by kernel_rfl)
def kn20 : Known := ⟨(20, ka19, kr19) :: kn19.p, kn19.i⟩
theorem kn20_ok : KnOk Tryd.prog kn20 := KnOk.cons k19 kn19_ok
def ka20 : List PV := [(.int .i64 0), (.int .i64 2), (.lst false 2 [(.int .i64 1), (.int .i64 0)])]
def kr20 : PV := (.tup [(.lst false 5 [(.int .i64 (-1)), (.int .i64 0), (.int .i64 1), (.int .i64 1), (.int .i64 0)]), (.lst false 5 [(.int .i64 (-1)), (.int .i64 (-1)), (.int .i64 0), (.int .i64 1), (.int .i64 2)])])
theorem k20 : FnP Tryd.prog 21 ka20 kr20 := runE_ok (doms := nthL domL) (fzr := noFz) (n := 6000) tab_ok mixed kn20_ok (by kernel_rfl)
def kn21 : Known := ⟨(21, ka20, kr20) :: kn20.p, kn20.i⟩
theorem kn21_ok : KnOk Tryd.prog kn21 := KnOk.cons k20 kn20_ok
def ka21 : List PV := [(.int .i64 3), (.lst false 2 [(.int .i64 1), (.int .i64 0)])]
def kr21 : PV := (.int .i64 0)
theorem k21 : FnP Tryd.prog 54 ka21 kr21 := runE_ok (doms := nthL domL) (fzr := noFz) (n := 6000) tab_ok mixed kn21_ok (by kernel_rfl)
def kn22 : Known := ⟨(54, ka21, kr21) :: kn21.p, kn21.i⟩
theorem kn22_ok : KnOk Tryd.prog kn22 := KnOk.cons k21 kn21_ok
def ka22 : List PV := [(.int .i64 3), (.lst false 2 [(.int .i64 1), (.int .i64 0)])]
def kr22 : PV := (.tup [(.lst false 3 [(.int .i64 2), (.int .i64 2), (.int .i64 1)]), (.int .i64 0)])
theorem k22 : FnP Tryd.prog 23 ka22 kr22 := runE_ok (doms := nthL domL) (fzr := noFz) (n := 6000) tab_ok mixed kn22_ok (by kernel_rfl)
def kn23 : Known := ⟨(23, ka22, kr22) :: kn22.p, kn22.i⟩
theorem kn23_ok : KnOk Tryd.prog kn23 := KnOk.cons k22 kn22_ok
end Go.Proofs.YtdnfffmppppoeaaDoor
namespace Go.Proofs.YtdnfffmppppoeaaDoor
open Go.V
set_option maxRecDepth 100000
attribute [local go_sem] tl3 tl4 tl5 tl29
noncomputable def body6 : Code := match Tryd.f6.body with | some c => c | none => .skip
theorem hb6 : Tryd.f6.body = some body6 := by kernel_rfl
theorem eq0 : body6 = Code.seq (Code.region 0 #[{ dst := Option.some 4, op := Op.assign (Operand.const (Value.bool Bool.false)), type := 4, pos := "top05.go:88", after := #[], guard := Option.none }] Bool.false) (Code.seq (Code.region 1 #[{ dst := Option.some 28, op := Op.move (Operand.tmp 0), type := 5, pos := "top05.go:89", after := #[], guard := Option.none }, { dst := Option.some 29, op := Op.convert 5 3 (Operand.tmp 28), type := 3, pos := "top05.go:89", after := #[{ on := 0, ground := Ground.data }], guard := Option.none }, { dst := Option.some 30, op := Op.binOp BinOp.rem 3 (Operand.tmp 29) (Operand.const (Value.int IntKind.i64 2)) 3, type := 3, pos := "top05.go:89", after := #[{ on := 1, ground := Ground.data }], guard := Option.none }, { dst := Option.some 31, op := Op.binOp BinOp.add 3 (Operand.const (Value.int IntKind.i64 2)) (Operand.tmp 30) 3, type := 3, pos := "top05.go:89", after := #[{ on := 2, ground := Ground.data }], guard := Option.none }, { dst := Option.some 5, op := Op.assign (Operand.tmp 31), type := 3, pos := "top05.go:89", after := #[{ on := 3, ground := Ground.data }, { on := 0, ground := Ground.phase }, { on := 1, ground := Ground.phase }, { on := 2, ground := Ground.phase }, { on := 3, ground := Ground.phase }], guard := Option.none }] Bool.false) (Code.seq (Code.region 2 #[{ dst := Option.some 32, op := Op.move (Operand.tmp 5), type := 3, pos := "top05.go:90", after := #[], guard := Option.none }, { dst := Option.some 33, op := Op.binOp BinOp.sub 3 (Operand.tmp 32) (Operand.const (Value.int IntKind.i64 1)) 3, type := 3, pos := "top05.go:90", after := #[{ on := 0, ground := Ground.data }], guard := Option.none }, { dst := Option.some 34, op := Op.move (Operand.tmp 1), type := 5, pos := "top05.go:90", after := #[], guard := Option.none }, { dst := Option.some 35, op := Op.convert 5 3 (Operand.tmp 34), type := 3, pos := "top05.go:90", after := #[{ on := 2, ground := Ground.data }], guard := Option.none }, { dst := Option.some 36, op := Op.move (Operand.tmp 5), type := 3, pos := "top05.go:90", after := #[], guard := Option.none }, { dst := Option.some 37, op := Op.binOp BinOp.sub 3 (Operand.tmp 36) (Operand.const (Value.int IntKind.i64 1)) 3, type := 3, pos := "top05.go:90", after := #[{ on := 4, ground := Ground.data }], guard := Option.none }, { dst := Option.some 38, op := Op.binOp BinOp.rem 3 (Operand.tmp 35) (Operand.tmp 37) 3, type := 3, pos := "top05.go:90", after := #[{ on := 3, ground := Ground.data }, { on := 5, ground := Ground.data }], guard := Option.none }, { dst := Option.some 39, op := Op.call { callee := Callee.value (Operand.func 20), args := #[Operand.const (Value.int IntKind.i64 0), Operand.tmp 33, Operand.tmp 38], argTypes := #[3, 3, 3] }, type := 29, pos := "top05.go:90", after := #[{ on := 1, ground := Ground.data }, { on := 6, ground := Ground.data }], guard := Option.none }, { dst := Option.some 6, op := Op.assign (Operand.tmp 39), type := 29, pos := "top05.go:90", after := #[{ on := 7, ground := Ground.data }, { on := 7, ground := Ground.chain }, { on := 0, ground := Ground.phase }, { on := 1, ground := Ground.phase }, { on := 2, ground := Ground.phase }, { on := 3, ground := Ground.phase }, { on := 4, ground := Ground.phase }, { on := 5, ground := Ground.phase }, { on := 6, ground := Ground.phase }, { on := 7, ground := Ground.phase }], guard := Option.none }] Bool.false) (dropSeq 3 body6))) := by kernel_rfl
theorem w1 : IntKind.i64.wrap 1 = 1 := by decide
theorem w2 : IntKind.i64.wrap 2 = 2 := by decide
theorem wrapS {n : Int} (h : 0 ≤ n ∧ n < 256) : IntKind.i64.wrap n = n := wrap64 (by omega) (by omega)
theorem tmodS {n k : Int} (h : 0 ≤ n) : n.tmod k = n % k := Int.tmod_eq_emod_of_nonneg h
theorem pc0 (s g : Int) : restE Tryd.prog tab (nthL domL) noFz kn23 6000 233 [.tmp 4] (dropSeq 3 body6) ⟨[], [(0, .v (.int .u8 s)), (1, .v (.int .u8 g)), (4, .v (.bool false)), (5, .v (.int .i64 2)), (6, .v kr5), (7, .dead), (8, .dead), (9, .dead), (10, .dead), (11, .dead), (12, .dead), (13, .dead), (14, .dead), (15, .dead), (16, .dead), (17, .dead), (18, .dead), (19, .dead), (20, .dead), (21, .dead), (22, .dead), (24, .dead), (25, .dead), (27, .dead), (53, .dead), (131, .dead), (135, .dead), (136, .dead), (137, .dead), (138, .dead), (168, .dead), (194, .dead), (195, .dead), (196, .dead), (197, .dead), (198, .dead), (202, .dead), (219, .dead)], [], 0, []⟩ = some (.bool true) := by kernel_rfl
theorem pc1 (s g : Int) : restE Tryd.prog tab (nthL domL) noFz kn23 6000 233 [.tmp 4] (dropSeq 3 body6) ⟨[], [(0, .v (.int .u8 s)), (1, .v (.int .u8 g)), (4, .v (.bool false)), (5, .v (.int .i64 3)), (6, .v kr13), (7, .dead), (8, .dead), (9, .dead), (10, .dead), (11, .dead), (12, .dead), (13, .dead), (14, .dead), (15, .dead), (16, .dead), (17, .dead), (18, .dead), (19, .dead), (20, .dead), (21, .dead), (22, .dead), (24, .dead), (25, .dead), (27, .dead), (53, .dead), (131, .dead), (135, .dead), (136, .dead), (137, .dead), (138, .dead), (168, .dead), (194, .dead), (195, .dead), (196, .dead), (197, .dead), (198, .dead), (202, .dead), (219, .dead)], [], 0, []⟩ = some (.bool true) := by kernel_rfl
theorem pc2 (s g : Int) : restE Tryd.prog tab (nthL domL) noFz kn23 6000 233 [.tmp 4] (dropSeq 3 body6) ⟨[], [(0, .v (.int .u8 s)), (1, .v (.int .u8 g)), (4, .v (.bool false)), (5, .v (.int .i64 3)), (6, .v kr19), (7, .dead), (8, .dead), (9, .dead), (10, .dead), (11, .dead), (12, .dead), (13, .dead), (14, .dead), (15, .dead), (16, .dead), (17, .dead), (18, .dead), (19, .dead), (20, .dead), (21, .dead), (22, .dead), (24, .dead), (25, .dead), (27, .dead), (53, .dead), (131, .dead), (135, .dead), (136, .dead), (137, .dead), (138, .dead), (168, .dead), (194, .dead), (195, .dead), (196, .dead), (197, .dead), (198, .dead), (202, .dead), (219, .dead)], [], 0, []⟩ = some (.bool true) := by kernel_rfl
set_option maxHeartbeats 4000000 in
theorem preorder (s g : Int) (hs : 0 ≤ s ∧ s < 256) (hg : 0 ≤ g ∧ g < 256) : FnP Tryd.prog 6 [.int .u8 s, .int .u8 g] (.bool true) := by
  refine Fn_of (sz := 233) (c := body6) tab_ok [0, 1, 4, 5, 6, 7, 8, 9, 10, 11, 12, 13, 14, 15, 16, 17, 18, 19, 20, 21, 22, 24, 25, 27, 53, 131, 135, 136, 137, 138, 168, 194, 195, 196, 197, 198, 202, 219] [.tmp 4] Tryd.func6 hb6 rfl rfl (by simp) ?_
  rw [eq0]
  refine W_sound tab_ok mixed 12 _ _ _ ?_
  simp only [go_sem, Nat.reduceBEq, Nat.reduceAdd, Nat.reduceSub, Nat.reduceMul, Nat.reduceLT, Nat.reduceLeDiff, Int.reduceLE, Int.reduceLT, Int.reduceSub, Int.reduceToNat, Int.cast_ofNat_Int, ↓reduceIte, w1, w2]
  refine ⟨by decide, ?_⟩
  have hn : IntKind.i64.wrap (2 + (IntKind.i64.wrap s).tmod 2) = 2 ∨ IntKind.i64.wrap (2 + (IntKind.i64.wrap s).tmod 2) = 3 := by
    rw [wrapS hs, tmodS hs.1, wrapS (n := 2 + s % 2) (by omega)]
    omega
  generalize IntKind.i64.wrap (2 + (IntKind.i64.wrap s).tmod 2) = z at hn ⊢
  rcases hn with rfl | rfl
  · refine W_sound tab_ok mixed 10 _ _ _ ?_
    simp only [go_sem, Nat.reduceBEq, Nat.reduceAdd, Nat.reduceSub, Nat.reduceMul, Nat.reduceLT, Nat.reduceLeDiff, Int.reduceLE, Int.reduceLT, Int.reduceSub, Int.reduceToNat, Int.cast_ofNat_Int, ↓reduceIte, w1, w2]
    refine ⟨by decide, ?_⟩
    have hi : (IntKind.i64.wrap g).tmod 1 = 0 := by
      rw [wrapS hg, tmodS hg.1]
      omega
    generalize (IntKind.i64.wrap g).tmod 1 = i at hi ⊢
    subst hi
    · refine Wp_callP k5 (by kernel_rfl) rfl rfl rfl rfl (by decide) ?_
      refine W_sound tab_ok mixed 2 _ _ _ ?_
      simp only [go_sem, Nat.reduceBEq, Nat.reduceAdd, Nat.reduceSub, Nat.reduceMul, Nat.reduceLT, Nat.reduceLeDiff, Int.reduceLE, Int.reduceLT, Int.reduceSub, Int.reduceToNat, Int.cast_ofNat_Int, ↓reduceIte, w1, w2]
      exact restE_ok tab_ok mixed kn23_ok (pc0 s g)
  · refine W_sound tab_ok mixed 10 _ _ _ ?_
    simp only [go_sem, Nat.reduceBEq, Nat.reduceAdd, Nat.reduceSub, Nat.reduceMul, Nat.reduceLT, Nat.reduceLeDiff, Int.reduceLE, Int.reduceLT, Int.reduceSub, Int.reduceToNat, Int.cast_ofNat_Int, ↓reduceIte, w1, w2]
    refine ⟨by decide, ?_⟩
    have hi : (IntKind.i64.wrap g).tmod 2 = 0 ∨ (IntKind.i64.wrap g).tmod 2 = 1 := by
      rw [wrapS hg, tmodS hg.1]
      omega
    generalize (IntKind.i64.wrap g).tmod 2 = i at hi ⊢
    rcases hi with rfl | rfl
    · refine Wp_callP k13 (by kernel_rfl) rfl rfl rfl rfl (by decide) ?_
      refine W_sound tab_ok mixed 2 _ _ _ ?_
      simp only [go_sem, Nat.reduceBEq, Nat.reduceAdd, Nat.reduceSub, Nat.reduceMul, Nat.reduceLT, Nat.reduceLeDiff, Int.reduceLE, Int.reduceLT, Int.reduceSub, Int.reduceToNat, Int.cast_ofNat_Int, ↓reduceIte, w1, w2]
      exact restE_ok tab_ok mixed kn23_ok (pc1 s g)
    · refine Wp_callP k19 (by kernel_rfl) rfl rfl rfl rfl (by decide) ?_
      refine W_sound tab_ok mixed 2 _ _ _ ?_
      simp only [go_sem, Nat.reduceBEq, Nat.reduceAdd, Nat.reduceSub, Nat.reduceMul, Nat.reduceLT, Nat.reduceLeDiff, Int.reduceLE, Int.reduceLT, Int.reduceSub, Int.reduceToNat, Int.cast_ofNat_Int, ↓reduceIte, w1, w2]
      exact restE_ok tab_ok mixed kn23_ok (pc2 s g)
end Go.Proofs.YtdnfffmppppoeaaDoor
namespace Go.Proofs.YtdnfffmppppoeaaDoor.topPreorder
open Go.ChangeShapes Go.WideShapes Go.ChangeAt Go.RowKit Go.V
theorem own : ownKnob Tryd.prog.godebug = none := by kernel_rfl
theorem u8_bounds {n : Int} (h : (Lit.int .u8 n).wf = true) : 0 ≤ n ∧ n < 256 := by
  have h2 : (decide ((0 : Int) ≤ n) && decide (n ≤ (255 : Int))) = true := h
  simp only [Bool.and_eq_true, decide_eq_true_eq] at h2
  omega
set_option maxRecDepth 100000 in
theorem lifted (os : Os) (started : os.Started) (H : Type) (enc : TypeId × Value → H) :
    ReturnsInHanded {} Tryd.checked os 6 .any (fun w args => (Rows.topPreorderSpec.pre enc Tryd.prog Tryd.f6 [] false w args ∧ laidMetH Tryd.prog [("math/bits.deBruijn32tab", Rows.laid_math_bits_deBruijn32tab), ("math/bits.deBruijn64tab", Rows.laid_math_bits_deBruijn64tab)] w) ∧ sizedMet enc Tryd.prog Tryd.f6 (OpenSpec.ofChange Rows.topPreorderSpec) false w args)
      (Rows.topPreorderSpec.post enc Tryd.prog Tryd.f6 false true false false) := by
  refine returnsInHanded_of_change_and (C := Tryd.checked) (X := fun w _ => laidMetH Tryd.prog [("math/bits.deBruijn32tab", Rows.laid_math_bits_deBruijn32tab), ("math/bits.deBruijn64tab", Rows.laid_math_bits_deBruijn64tab)] w) (fun _ _ _ hh h => h.of_heap hh) own started (by kernel_rfl) Tryd.func6
    (ChangeSpec.witness_shaped (enc := enc) (C := Tryd.checked) (os := os) (X := fun w _ => laidMetH Tryd.prog [("math/bits.deBruijn32tab", Rows.laid_math_bits_deBruijn32tab), ("math/bits.deBruijn64tab", Rows.laid_math_bits_deBruijn64tab)] w) false (World.laidAll Tryd.prog os [("math/bits.deBruijn32tab", Rows.laid_math_bits_deBruijn32tab), ("math/bits.deBruijn64tab", Rows.laid_math_bits_deBruijn64tab)]) #[.int .u8 0, .int .u8 0] 8 (World.laidAll_os _ _ _)
      (World.shaped_of_ZipB (by kernel_rfl) (by kernel_rfl)) (by kernel_rfl) (by kernel_rfl) (by kernel_rfl)
      (by rw [MakeChecks.laidMetH_plain _ _ _ (by kernel_rfl)]; exact laidMet_laidAll _ (by kernel_rfl) (by kernel_rfl))) ?_
  intro W base args ds gs before hval0 hW _ _ hL _
  have hW' := hW
  obtain ⟨p, q, hA0, hV, rfl, hfz, hnd⟩ := hW
  have hA : DataW.TrodAll enc Tryd.prog W 0 (fun _ => true) true Tryd.f6.params.toList args.toList ds p := hA0
  rw [Tryd.params6] at hA
  obtain ⟨v0, v1, d0, d1, p0, p1, rfl, rfl, rfl, h0, h1⟩ := trodAll_two hA
  obtain ⟨a0, rfl, rfl, rfl, w0⟩ := open_int Tryd.underlying5 (hval0 0 5 v0 rfl rfl) h0
  have b0 : 0 ≤ a0 ∧ a0 < 256 := u8_bounds w0
  obtain ⟨a1, rfl, rfl, rfl, w1⟩ := open_int Tryd.underlying5 (hval0 1 5 v1 rfl rfl) h1
  have b1 : 0 ≤ a1 ∧ a1 < 256 := u8_bounds w1
  obtain ⟨rfl, rfl⟩ := trodVars_none hV
  clear hA0 hval0
  simp only [List.append_nil] at hW'
  refine (FnP.calls (W := W) (vals := #[.int .u8 a0, .int .u8 a1]) (preorder a0 a1 b0 b1) (.cons _ _ _ _ (.int _ _) (.cons _ _ _ _ (.int _ _) .nil)) (laidG hL)).mono fun e W' ⟨he, hg⟩ => ?_
  subst he
  exact ⟨_, rfl, post_of_kept (pa := []) (pv := []) hW' (fun _ _ _ => trodAll_cons_mk (shut_bool Tryd.underlying4 _) trodAll_mk0) (fun sp _ => trodAll_mk2 (shut_int Tryd.underlying5 w0) (shut_int Tryd.underlying5 w1)) (fun _ _ => rfl) rfl
    hg (ok_one (by kernel_rfl) rfl (okWide_bool_mk Tryd.underlying4 _))⟩
theorem over : Rows.topPreorderRow.holds Tryd.pinned (OpenSpec.ofChange Rows.topPreorderSpec) :=
  OpenClaim.holds_of_wide 6 Tryd.f6 rfl rfl rfl rfl rfl rfl rfl ⟨rfl, rfl, rfl, rfl, rfl⟩ rfl rfl rfl rfl rfl (by kernel_rfl) Tryd.func6 (by kernel_rfl)
    (of_decide_eq_true (by kernel_rfl)) (by unfold Func.isWrapper; first | (rw [if_pos (by decide +kernel)]; kernel_rfl) | (rw [if_neg (by decide +kernel)]; exact ⟨rfl, rfl⟩))
    (fun os started H enc _ => lifted os started H enc)
theorem card : Rows.TopPreorderCardSaid :=
  Claim7.holds_tied_plain_at .later [] [.data, .data] true (true, "74d6534c5cd14ce05393ad6e0b0caf667d98135bfeabaf6e69757e8e097b9ae7") false (over) (fun _ h => by cases h) (by kernel_rfl) (fun _ h => by cases h) topPreorder_row_tie rfl ⟨rfl, rfl⟩ (by kernel_rfl) rfl
    (fun f fn hf hfn => by
      obtain rfl : f = 6 := Option.some.inj ((show Tryd.prog.funcNamed "breeze/breezetop.TopPreorder" = some 6 by kernel_rfl).symm.trans hf) |>.symm
      obtain rfl : fn = Tryd.f6 := (Option.some.inj (Tryd.func6.symm.trans hfn)).symm
      exact ⟨by kernel_rfl, fun j t ht => by
        rw [Tryd.params6] at ht
        have h3 : t = 5 := by
          rcases j with _ | _ | j
          · simpa using ht.symm
          · simpa using ht.symm
          · simp at ht
        subst h3
        exact (show Tryd.prog.wantsStandIn 5 = false by kernel_rfl)⟩)
    (by kernel_rfl)
end Go.Proofs.YtdnfffmppppoeaaDoor.topPreorder
namespace Go.Proofs.YtdnfffmppppoeaaDoor
/-- the statement -/
theorem topPreorder_holds : Rows.TopPreorderCardSaid := topPreorder.card
#print axioms topPreorder_holds
end Go.Proofs.YtdnfffmppppoeaaDoor
