/-
  Models and laws.
-/
import Derived.Test.YtnponojgpkbagaaDoorProg
import Derived.Test.YtnponojgpkbagaaDoorSV30
import Derived.KernelRfl
import Derived.Test.YtnponojgpkbagaaDoorRows
import Derived.Test.YtnponojgpkbagaaDoorSV26
import Derived.ProofKit
import Derived.Lib.LaidTab
import Derived.Stop.LaidErr
import Derived.MakeChecks
import Derived.Test.YtnponojgpkbagaaDoorSV35
import Derived.Test.YtnponojgpkbagaaDoorSV36
set_option linter.unusedSimpArgs false
set_option linter.unusedVariables false
namespace Go.Proofs.YtnponojgpkbagaaDoor
open Go.V
def tab : Tab := [
  (1, ⟨.other, 1, 8, [.dead]⟩),
  (2, ⟨.int .i64, 1, 8, [.v (.int .i64 0)]⟩),
  (3, ⟨.int .i64, 1, 8, [.v (.int .i64 0)]⟩),
  (4, ⟨.bool, 1, 1, [.v (.bool false)]⟩),
  (5, ⟨.int .u8, 1, 1, [.v (.int .u8 0)]⟩),
  (9, ⟨.str, 1, 16, [.v (.str ⟨#[]⟩)]⟩),
  (17, ⟨.other, 1, 8, [.dead]⟩),
  (21, ⟨.int .i32, 1, 4, [.v (.int .i32 0)]⟩),
  (22, ⟨.slice 70, 1, 24, [.v .nl]⟩),
  (23, ⟨.struct [(0, 3), (1, 22)], 2, 32, [.v (.int .i64 0), .v .nl]⟩),
  (24, ⟨.struct [(0, 3), (1, 22)], 2, 32, [.v (.int .i64 0), .v .nl]⟩),
  (25, ⟨.slice 3, 1, 24, [.v .nl]⟩),
  (26, ⟨.other, 1, 8, [.dead]⟩),
  (27, ⟨.other, 1, 8, [.dead]⟩),
  (28, ⟨.struct [(0, 3), (1, 22)], 2, 32, [.v (.int .i64 0), .v .nl]⟩),
  (29, ⟨.int .i64, 1, 8, [.v (.int .i64 0)]⟩),
  (31, ⟨.other, 1, 8, [.dead]⟩),
  (32, ⟨.other, 1, 8, [.dead]⟩),
  (34, ⟨.other, 1, 8, [.dead]⟩),
  (35, ⟨.other, 1, 8, [.dead]⟩),
  (36, ⟨.other, 1, 8, [.dead]⟩),
  (37, ⟨.other, 1, 8, [.dead]⟩),
  (38, ⟨.other, 1, 8, [.dead]⟩),
  (39, ⟨.other, 1, 8, [.dead]⟩),
  (40, ⟨.other, 1, 8, [.dead]⟩),
  (41, ⟨.other, 1, 8, [.dead]⟩),
  (42, ⟨.other, 1, 8, [.dead]⟩),
  (43, ⟨.other, 1, 8, [.dead]⟩),
  (44, ⟨.other, 1, 8, [.dead]⟩),
  (45, ⟨.other, 1, 8, [.dead]⟩),
  (47, ⟨.other, 1, 8, [.dead]⟩),
  (48, ⟨.other, 1, 8, [.dead]⟩),
  (49, ⟨.other, 1, 8, [.dead]⟩),
  (50, ⟨.other, 1, 8, [.dead]⟩),
  (51, ⟨.other, 1, 8, [.dead]⟩),
  (52, ⟨.int .u16, 1, 2, [.v (.int .u16 0)]⟩),
  (53, ⟨.arr 5 52, 5, 10, [.v (.int .u16 0), .v (.int .u16 0), .v (.int .u16 0), .v (.int .u16 0), .v (.int .u16 0)]⟩),
  (54, ⟨.struct [(0, 5), (1, 5), (2, 53)], 7, 12, [.v (.int .u8 0), .v (.int .u8 0), .v (.int .u16 0), .v (.int .u16 0), .v (.int .u16 0), .v (.int .u16 0), .v (.int .u16 0)]⟩),
  (55, ⟨.struct [(0, 5), (1, 5), (2, 53)], 7, 12, [.v (.int .u8 0), .v (.int .u8 0), .v (.int .u16 0), .v (.int .u16 0), .v (.int .u16 0), .v (.int .u16 0), .v (.int .u16 0)]⟩),
  (56, ⟨.other, 1, 8, [.dead]⟩),
  (57, ⟨.other, 1, 8, [.dead]⟩),
  (58, ⟨.int .u64, 1, 8, [.v (.int .u64 0)]⟩),
  (59, ⟨.other, 1, 8, [.dead]⟩),
  (60, ⟨.other, 1, 8, [.dead]⟩),
  (61, ⟨.other, 1, 8, [.dead]⟩),
  (62, ⟨.other, 1, 8, [.dead]⟩),
  (63, ⟨.other, 1, 8, [.dead]⟩),
  (64, ⟨.other, 1, 8, [.dead]⟩),
  (65, ⟨.other, 1, 8, [.dead]⟩),
  (66, ⟨.slice 4, 1, 24, [.v .nl]⟩),
  (67, ⟨.other, 1, 8, [.dead]⟩),
  (68, ⟨.other, 1, 8, [.dead]⟩),
  (69, ⟨.arr 5 5, 5, 5, [.v (.int .u8 0), .v (.int .u8 0), .v (.int .u8 0), .v (.int .u8 0), .v (.int .u8 0)]⟩),
  (70, ⟨.slice 71, 1, 24, [.v .nl]⟩),
  (71, ⟨.arr 2 3, 2, 16, [.v (.int .i64 0), .v (.int .i64 0)]⟩),
  (72, ⟨.other, 1, 8, [.dead]⟩),
  (73, ⟨.arr 5 3, 5, 40, [.v (.int .i64 0), .v (.int .i64 0), .v (.int .i64 0), .v (.int .i64 0), .v (.int .i64 0)]⟩),
  (74, ⟨.other, 1, 8, [.dead]⟩),
  (75, ⟨.other, 1, 8, [.dead]⟩),
  (76, ⟨.other, 1, 8, [.dead]⟩),
  (77, ⟨.other, 1, 8, [.dead]⟩),
  (78, ⟨.other, 1, 8, [.dead]⟩),
  (79, ⟨.other, 1, 8, [.dead]⟩),
  (80, ⟨.other, 1, 8, [.dead]⟩),
  (81, ⟨.other, 1, 8, [.dead]⟩),
  (82, ⟨.other, 1, 8, [.dead]⟩),
  (83, ⟨.other, 1, 8, [.dead]⟩),
  (84, ⟨.other, 1, 8, [.dead]⟩),
  (85, ⟨.other, 1, 8, [.dead]⟩),
  (86, ⟨.other, 1, 8, [.dead]⟩),
  (87, ⟨.other, 1, 8, [.dead]⟩),
  (88, ⟨.other, 1, 8, [.dead]⟩),
  (89, ⟨.other, 1, 8, [.dead]⟩),
  (90, ⟨.other, 1, 8, [.dead]⟩),
  (92, ⟨.other, 1, 8, [.dead]⟩),
  (94, ⟨.other, 1, 8, [.dead]⟩),
  (95, ⟨.other, 1, 8, [.dead]⟩),
  (96, ⟨.other, 1, 8, [.dead]⟩),
  (97, ⟨.other, 1, 8, [.dead]⟩),
  (98, ⟨.arr 5 3, 5, 40, [.v (.int .i64 0), .v (.int .i64 0), .v (.int .i64 0), .v (.int .i64 0), .v (.int .i64 0)]⟩),
  (99, ⟨.other, 1, 8, [.dead]⟩),
  (100, ⟨.other, 1, 8, [.dead]⟩),
  (101, ⟨.slice 25, 1, 24, [.v .nl]⟩),
  (102, ⟨.other, 1, 8, [.dead]⟩),
  (103, ⟨.other, 1, 8, [.dead]⟩),
  (104, ⟨.other, 1, 8, [.dead]⟩),
  (105, ⟨.other, 1, 8, [.dead]⟩),
  (106, ⟨.other, 1, 8, [.dead]⟩),
  (107, ⟨.other, 1, 8, [.dead]⟩),
  (108, ⟨.other, 1, 8, [.dead]⟩),
  (109, ⟨.other, 1, 8, [.dead]⟩),
  (110, ⟨.other, 1, 8, [.dead]⟩),
  (111, ⟨.slice 52, 1, 24, [.v .nl]⟩),
  (112, ⟨.other, 1, 8, [.dead]⟩),
  (113, ⟨.other, 1, 8, [.dead]⟩),
  (114, ⟨.other, 1, 8, [.dead]⟩),
  (115, ⟨.other, 1, 8, [.dead]⟩),
  (116, ⟨.other, 1, 8, [.dead]⟩),
  (118, ⟨.other, 1, 8, [.dead]⟩),
  (119, ⟨.other, 1, 8, [.dead]⟩),
  (121, ⟨.other, 1, 8, [.dead]⟩),
  (122, ⟨.other, 1, 8, [.dead]⟩),
  (123, ⟨.other, 1, 8, [.dead]⟩),
  (124, ⟨.other, 1, 8, [.dead]⟩),
  (125, ⟨.other, 1, 8, [.dead]⟩),
  (126, ⟨.int .u32, 1, 4, [.v (.int .u32 0)]⟩),
  (127, ⟨.other, 1, 8, [.dead]⟩),
  (128, ⟨.int .u64, 1, 8, [.v (.int .u64 0)]⟩),
  (129, ⟨.other, 1, 8, [.dead]⟩),
  (131, ⟨.other, 1, 8, [.dead]⟩),
  (133, ⟨.other, 1, 8, [.dead]⟩),
  (134, ⟨.arr 32 5, 32, 32, [.v (.int .u8 0), .v (.int .u8 0), .v (.int .u8 0), .v (.int .u8 0), .v (.int .u8 0), .v (.int .u8 0), .v (.int .u8 0), .v (.int .u8 0), .v (.int .u8 0), .v (.int .u8 0), .v (.int .u8 0), .v (.int .u8 0), .v (.int .u8 0), .v (.int .u8 0), .v (.int .u8 0), .v (.int .u8 0), .v (.int .u8 0), .v (.int .u8 0), .v (.int .u8 0), .v (.int .u8 0), .v (.int .u8 0), .v (.int .u8 0), .v (.int .u8 0), .v (.int .u8 0), .v (.int .u8 0), .v (.int .u8 0), .v (.int .u8 0), .v (.int .u8 0), .v (.int .u8 0), .v (.int .u8 0), .v (.int .u8 0), .v (.int .u8 0)]⟩),
  (135, ⟨.arr 64 5, 64, 64, [.v (.int .u8 0), .v (.int .u8 0), .v (.int .u8 0), .v (.int .u8 0), .v (.int .u8 0), .v (.int .u8 0), .v (.int .u8 0), .v (.int .u8 0), .v (.int .u8 0), .v (.int .u8 0), .v (.int .u8 0), .v (.int .u8 0), .v (.int .u8 0), .v (.int .u8 0), .v (.int .u8 0), .v (.int .u8 0), .v (.int .u8 0), .v (.int .u8 0), .v (.int .u8 0), .v (.int .u8 0), .v (.int .u8 0), .v (.int .u8 0), .v (.int .u8 0), .v (.int .u8 0), .v (.int .u8 0), .v (.int .u8 0), .v (.int .u8 0), .v (.int .u8 0), .v (.int .u8 0), .v (.int .u8 0), .v (.int .u8 0), .v (.int .u8 0), .v (.int .u8 0), .v (.int .u8 0), .v (.int .u8 0), .v (.int .u8 0), .v (.int .u8 0), .v (.int .u8 0), .v (.int .u8 0), .v (.int .u8 0), .v (.int .u8 0), .v (.int .u8 0), .v (.int .u8 0), .v (.int .u8 0), .v (.int .u8 0), .v (.int .u8 0), .v (.int .u8 0), .v (.int .u8 0), .v (.int .u8 0), .v (.int .u8 0), .v (.int .u8 0), .v (.int .u8 0), .v (.int .u8 0), .v (.int .u8 0), .v (.int .u8 0), .v (.int .u8 0), .v (.int .u8 0), .v (.int .u8 0), .v (.int .u8 0), .v (.int .u8 0), .v (.int .u8 0), .v (.int .u8 0), .v (.int .u8 0), .v (.int .u8 0)]⟩),
  (136, ⟨.other, 1, 8, [.dead]⟩),
  (142, ⟨.other, 1, 8, [.dead]⟩),
  (146, ⟨.other, 1, 8, [.dead]⟩)]
theorem tl1 : tl tab 1 = some ⟨.other, 1, 8, [.dead]⟩ := rfl
theorem tl2 : tl tab 2 = some ⟨.int .i64, 1, 8, [.v (.int .i64 0)]⟩ := rfl
theorem tl3 : tl tab 3 = some ⟨.int .i64, 1, 8, [.v (.int .i64 0)]⟩ := rfl
theorem tl4 : tl tab 4 = some ⟨.bool, 1, 1, [.v (.bool false)]⟩ := rfl
theorem tl5 : tl tab 5 = some ⟨.int .u8, 1, 1, [.v (.int .u8 0)]⟩ := rfl
theorem tl9 : tl tab 9 = some ⟨.str, 1, 16, [.v (.str ⟨#[]⟩)]⟩ := rfl
theorem tl17 : tl tab 17 = some ⟨.other, 1, 8, [.dead]⟩ := rfl
theorem tl21 : tl tab 21 = some ⟨.int .i32, 1, 4, [.v (.int .i32 0)]⟩ := rfl
theorem tl22 : tl tab 22 = some ⟨.slice 70, 1, 24, [.v .nl]⟩ := rfl
theorem tl23 : tl tab 23 = some ⟨.struct [(0, 3), (1, 22)], 2, 32, [.v (.int .i64 0), .v .nl]⟩ := rfl
theorem tl24 : tl tab 24 = some ⟨.struct [(0, 3), (1, 22)], 2, 32, [.v (.int .i64 0), .v .nl]⟩ := rfl
theorem tl25 : tl tab 25 = some ⟨.slice 3, 1, 24, [.v .nl]⟩ := rfl
theorem tl26 : tl tab 26 = some ⟨.other, 1, 8, [.dead]⟩ := rfl
theorem tl27 : tl tab 27 = some ⟨.other, 1, 8, [.dead]⟩ := rfl
theorem tl28 : tl tab 28 = some ⟨.struct [(0, 3), (1, 22)], 2, 32, [.v (.int .i64 0), .v .nl]⟩ := rfl
theorem tl29 : tl tab 29 = some ⟨.int .i64, 1, 8, [.v (.int .i64 0)]⟩ := rfl
theorem tl31 : tl tab 31 = some ⟨.other, 1, 8, [.dead]⟩ := rfl
theorem tl32 : tl tab 32 = some ⟨.other, 1, 8, [.dead]⟩ := rfl
theorem tl34 : tl tab 34 = some ⟨.other, 1, 8, [.dead]⟩ := rfl
theorem tl35 : tl tab 35 = some ⟨.other, 1, 8, [.dead]⟩ := rfl
theorem tl36 : tl tab 36 = some ⟨.other, 1, 8, [.dead]⟩ := rfl
theorem tl37 : tl tab 37 = some ⟨.other, 1, 8, [.dead]⟩ := rfl
theorem tl38 : tl tab 38 = some ⟨.other, 1, 8, [.dead]⟩ := rfl
theorem tl39 : tl tab 39 = some ⟨.other, 1, 8, [.dead]⟩ := rfl
theorem tl40 : tl tab 40 = some ⟨.other, 1, 8, [.dead]⟩ := rfl
theorem tl41 : tl tab 41 = some ⟨.other, 1, 8, [.dead]⟩ := rfl
theorem tl42 : tl tab 42 = some ⟨.other, 1, 8, [.dead]⟩ := rfl
theorem tl43 : tl tab 43 = some ⟨.other, 1, 8, [.dead]⟩ := rfl
theorem tl44 : tl tab 44 = some ⟨.other, 1, 8, [.dead]⟩ := rfl
theorem tl45 : tl tab 45 = some ⟨.other, 1, 8, [.dead]⟩ := rfl
theorem tl47 : tl tab 47 = some ⟨.other, 1, 8, [.dead]⟩ := rfl
theorem tl48 : tl tab 48 = some ⟨.other, 1, 8, [.dead]⟩ := rfl
theorem tl49 : tl tab 49 = some ⟨.other, 1, 8, [.dead]⟩ := rfl
theorem tl50 : tl tab 50 = some ⟨.other, 1, 8, [.dead]⟩ := rfl
theorem tl51 : tl tab 51 = some ⟨.other, 1, 8, [.dead]⟩ := rfl
theorem tl52 : tl tab 52 = some ⟨.int .u16, 1, 2, [.v (.int .u16 0)]⟩ := rfl
theorem tl53 : tl tab 53 = some ⟨.arr 5 52, 5, 10, [.v (.int .u16 0), .v (.int .u16 0), .v (.int .u16 0), .v (.int .u16 0), .v (.int .u16 0)]⟩ := rfl
theorem tl54 : tl tab 54 = some ⟨.struct [(0, 5), (1, 5), (2, 53)], 7, 12, [.v (.int .u8 0), .v (.int .u8 0), .v (.int .u16 0), .v (.int .u16 0), .v (.int .u16 0), .v (.int .u16 0), .v (.int .u16 0)]⟩ := rfl
theorem tl55 : tl tab 55 = some ⟨.struct [(0, 5), (1, 5), (2, 53)], 7, 12, [.v (.int .u8 0), .v (.int .u8 0), .v (.int .u16 0), .v (.int .u16 0), .v (.int .u16 0), .v (.int .u16 0), .v (.int .u16 0)]⟩ := rfl
theorem tl56 : tl tab 56 = some ⟨.other, 1, 8, [.dead]⟩ := rfl
theorem tl57 : tl tab 57 = some ⟨.other, 1, 8, [.dead]⟩ := rfl
theorem tl58 : tl tab 58 = some ⟨.int .u64, 1, 8, [.v (.int .u64 0)]⟩ := rfl
theorem tl59 : tl tab 59 = some ⟨.other, 1, 8, [.dead]⟩ := rfl
theorem tl60 : tl tab 60 = some ⟨.other, 1, 8, [.dead]⟩ := rfl
theorem tl61 : tl tab 61 = some ⟨.other, 1, 8, [.dead]⟩ := rfl
theorem tl62 : tl tab 62 = some ⟨.other, 1, 8, [.dead]⟩ := rfl
theorem tl63 : tl tab 63 = some ⟨.other, 1, 8, [.dead]⟩ := rfl
theorem tl64 : tl tab 64 = some ⟨.other, 1, 8, [.dead]⟩ := rfl
theorem tl65 : tl tab 65 = some ⟨.other, 1, 8, [.dead]⟩ := rfl
theorem tl66 : tl tab 66 = some ⟨.slice 4, 1, 24, [.v .nl]⟩ := rfl
theorem tl67 : tl tab 67 = some ⟨.other, 1, 8, [.dead]⟩ := rfl
theorem tl68 : tl tab 68 = some ⟨.other, 1, 8, [.dead]⟩ := rfl
theorem tl69 : tl tab 69 = some ⟨.arr 5 5, 5, 5, [.v (.int .u8 0), .v (.int .u8 0), .v (.int .u8 0), .v (.int .u8 0), .v (.int .u8 0)]⟩ := rfl
theorem tl70 : tl tab 70 = some ⟨.slice 71, 1, 24, [.v .nl]⟩ := rfl
theorem tl71 : tl tab 71 = some ⟨.arr 2 3, 2, 16, [.v (.int .i64 0), .v (.int .i64 0)]⟩ := rfl
theorem tl72 : tl tab 72 = some ⟨.other, 1, 8, [.dead]⟩ := rfl
theorem tl73 : tl tab 73 = some ⟨.arr 5 3, 5, 40, [.v (.int .i64 0), .v (.int .i64 0), .v (.int .i64 0), .v (.int .i64 0), .v (.int .i64 0)]⟩ := rfl
theorem tl74 : tl tab 74 = some ⟨.other, 1, 8, [.dead]⟩ := rfl
theorem tl75 : tl tab 75 = some ⟨.other, 1, 8, [.dead]⟩ := rfl
theorem tl76 : tl tab 76 = some ⟨.other, 1, 8, [.dead]⟩ := rfl
theorem tl77 : tl tab 77 = some ⟨.other, 1, 8, [.dead]⟩ := rfl
theorem tl78 : tl tab 78 = some ⟨.other, 1, 8, [.dead]⟩ := rfl
theorem tl79 : tl tab 79 = some ⟨.other, 1, 8, [.dead]⟩ := rfl
theorem tl80 : tl tab 80 = some ⟨.other, 1, 8, [.dead]⟩ := rfl
theorem tl81 : tl tab 81 = some ⟨.other, 1, 8, [.dead]⟩ := rfl
theorem tl82 : tl tab 82 = some ⟨.other, 1, 8, [.dead]⟩ := rfl
theorem tl83 : tl tab 83 = some ⟨.other, 1, 8, [.dead]⟩ := rfl
theorem tl84 : tl tab 84 = some ⟨.other, 1, 8, [.dead]⟩ := rfl
theorem tl85 : tl tab 85 = some ⟨.other, 1, 8, [.dead]⟩ := rfl
theorem tl86 : tl tab 86 = some ⟨.other, 1, 8, [.dead]⟩ := rfl
theorem tl87 : tl tab 87 = some ⟨.other, 1, 8, [.dead]⟩ := rfl
theorem tl88 : tl tab 88 = some ⟨.other, 1, 8, [.dead]⟩ := rfl
theorem tl89 : tl tab 89 = some ⟨.other, 1, 8, [.dead]⟩ := rfl
theorem tl90 : tl tab 90 = some ⟨.other, 1, 8, [.dead]⟩ := rfl
theorem tl92 : tl tab 92 = some ⟨.other, 1, 8, [.dead]⟩ := rfl
theorem tl94 : tl tab 94 = some ⟨.other, 1, 8, [.dead]⟩ := rfl
theorem tl95 : tl tab 95 = some ⟨.other, 1, 8, [.dead]⟩ := rfl
theorem tl96 : tl tab 96 = some ⟨.other, 1, 8, [.dead]⟩ := rfl
theorem tl97 : tl tab 97 = some ⟨.other, 1, 8, [.dead]⟩ := rfl
theorem tl98 : tl tab 98 = some ⟨.arr 5 3, 5, 40, [.v (.int .i64 0), .v (.int .i64 0), .v (.int .i64 0), .v (.int .i64 0), .v (.int .i64 0)]⟩ := rfl
theorem tl99 : tl tab 99 = some ⟨.other, 1, 8, [.dead]⟩ := rfl
theorem tl100 : tl tab 100 = some ⟨.other, 1, 8, [.dead]⟩ := rfl
theorem tl101 : tl tab 101 = some ⟨.slice 25, 1, 24, [.v .nl]⟩ := rfl
theorem tl102 : tl tab 102 = some ⟨.other, 1, 8, [.dead]⟩ := rfl
theorem tl103 : tl tab 103 = some ⟨.other, 1, 8, [.dead]⟩ := rfl
theorem tl104 : tl tab 104 = some ⟨.other, 1, 8, [.dead]⟩ := rfl
theorem tl105 : tl tab 105 = some ⟨.other, 1, 8, [.dead]⟩ := rfl
theorem tl106 : tl tab 106 = some ⟨.other, 1, 8, [.dead]⟩ := rfl
theorem tl107 : tl tab 107 = some ⟨.other, 1, 8, [.dead]⟩ := rfl
theorem tl108 : tl tab 108 = some ⟨.other, 1, 8, [.dead]⟩ := rfl
theorem tl109 : tl tab 109 = some ⟨.other, 1, 8, [.dead]⟩ := rfl
theorem tl110 : tl tab 110 = some ⟨.other, 1, 8, [.dead]⟩ := rfl
theorem tl111 : tl tab 111 = some ⟨.slice 52, 1, 24, [.v .nl]⟩ := rfl
theorem tl112 : tl tab 112 = some ⟨.other, 1, 8, [.dead]⟩ := rfl
theorem tl113 : tl tab 113 = some ⟨.other, 1, 8, [.dead]⟩ := rfl
theorem tl114 : tl tab 114 = some ⟨.other, 1, 8, [.dead]⟩ := rfl
theorem tl115 : tl tab 115 = some ⟨.other, 1, 8, [.dead]⟩ := rfl
theorem tl116 : tl tab 116 = some ⟨.other, 1, 8, [.dead]⟩ := rfl
theorem tl118 : tl tab 118 = some ⟨.other, 1, 8, [.dead]⟩ := rfl
theorem tl119 : tl tab 119 = some ⟨.other, 1, 8, [.dead]⟩ := rfl
theorem tl121 : tl tab 121 = some ⟨.other, 1, 8, [.dead]⟩ := rfl
theorem tl122 : tl tab 122 = some ⟨.other, 1, 8, [.dead]⟩ := rfl
theorem tl123 : tl tab 123 = some ⟨.other, 1, 8, [.dead]⟩ := rfl
theorem tl124 : tl tab 124 = some ⟨.other, 1, 8, [.dead]⟩ := rfl
theorem tl125 : tl tab 125 = some ⟨.other, 1, 8, [.dead]⟩ := rfl
theorem tl126 : tl tab 126 = some ⟨.int .u32, 1, 4, [.v (.int .u32 0)]⟩ := rfl
theorem tl127 : tl tab 127 = some ⟨.other, 1, 8, [.dead]⟩ := rfl
theorem tl128 : tl tab 128 = some ⟨.int .u64, 1, 8, [.v (.int .u64 0)]⟩ := rfl
theorem tl129 : tl tab 129 = some ⟨.other, 1, 8, [.dead]⟩ := rfl
theorem tl131 : tl tab 131 = some ⟨.other, 1, 8, [.dead]⟩ := rfl
theorem tl133 : tl tab 133 = some ⟨.other, 1, 8, [.dead]⟩ := rfl
theorem tl134 : tl tab 134 = some ⟨.arr 32 5, 32, 32, [.v (.int .u8 0), .v (.int .u8 0), .v (.int .u8 0), .v (.int .u8 0), .v (.int .u8 0), .v (.int .u8 0), .v (.int .u8 0), .v (.int .u8 0), .v (.int .u8 0), .v (.int .u8 0), .v (.int .u8 0), .v (.int .u8 0), .v (.int .u8 0), .v (.int .u8 0), .v (.int .u8 0), .v (.int .u8 0), .v (.int .u8 0), .v (.int .u8 0), .v (.int .u8 0), .v (.int .u8 0), .v (.int .u8 0), .v (.int .u8 0), .v (.int .u8 0), .v (.int .u8 0), .v (.int .u8 0), .v (.int .u8 0), .v (.int .u8 0), .v (.int .u8 0), .v (.int .u8 0), .v (.int .u8 0), .v (.int .u8 0), .v (.int .u8 0)]⟩ := rfl
theorem tl135 : tl tab 135 = some ⟨.arr 64 5, 64, 64, [.v (.int .u8 0), .v (.int .u8 0), .v (.int .u8 0), .v (.int .u8 0), .v (.int .u8 0), .v (.int .u8 0), .v (.int .u8 0), .v (.int .u8 0), .v (.int .u8 0), .v (.int .u8 0), .v (.int .u8 0), .v (.int .u8 0), .v (.int .u8 0), .v (.int .u8 0), .v (.int .u8 0), .v (.int .u8 0), .v (.int .u8 0), .v (.int .u8 0), .v (.int .u8 0), .v (.int .u8 0), .v (.int .u8 0), .v (.int .u8 0), .v (.int .u8 0), .v (.int .u8 0), .v (.int .u8 0), .v (.int .u8 0), .v (.int .u8 0), .v (.int .u8 0), .v (.int .u8 0), .v (.int .u8 0), .v (.int .u8 0), .v (.int .u8 0), .v (.int .u8 0), .v (.int .u8 0), .v (.int .u8 0), .v (.int .u8 0), .v (.int .u8 0), .v (.int .u8 0), .v (.int .u8 0), .v (.int .u8 0), .v (.int .u8 0), .v (.int .u8 0), .v (.int .u8 0), .v (.int .u8 0), .v (.int .u8 0), .v (.int .u8 0), .v (.int .u8 0), .v (.int .u8 0), .v (.int .u8 0), .v (.int .u8 0), .v (.int .u8 0), .v (.int .u8 0), .v (.int .u8 0), .v (.int .u8 0), .v (.int .u8 0), .v (.int .u8 0), .v (.int .u8 0), .v (.int .u8 0), .v (.int .u8 0), .v (.int .u8 0), .v (.int .u8 0), .v (.int .u8 0), .v (.int .u8 0), .v (.int .u8 0)]⟩ := rfl
theorem tl136 : tl tab 136 = some ⟨.other, 1, 8, [.dead]⟩ := rfl
theorem tl142 : tl tab 142 = some ⟨.other, 1, 8, [.dead]⟩ := rfl
theorem tl146 : tl tab 146 = some ⟨.other, 1, 8, [.dead]⟩ := rfl
theorem tab_ok : TOk Tryd.prog tab := tabB_ok (by kernel_rfl)
theorem mixed : Tryd.prog.follows .mixedOrders = true := by kernel_rfl
end Go.Proofs.YtnponojgpkbagaaDoor
namespace Go.Proofs.YtnponojgpkbagaaDoor
open Go.V
set_option maxRecDepth 100000
def tab32 : List Int := [0, 1, 28, 2, 29, 14, 24, 3, 30, 22, 20, 15, 25, 17, 4, 8, 31, 27, 13, 23, 21, 19, 16, 7, 26, 12, 18, 6, 11, 5, 10, 9]
def tab64 : List Int := [0, 1, 56, 2, 57, 49, 28, 3, 61, 58, 42, 50, 38, 29, 17, 4, 62, 47, 59, 36, 45, 43, 51, 22, 53, 39, 33, 30, 24, 18, 12, 5, 63, 55, 48, 27, 60, 41, 37, 16, 46, 35, 44, 21, 52, 32, 23, 11, 54, 26, 40, 15, 34, 20, 31, 10, 25, 14, 19, 9, 13, 8, 7, 6]
theorem rc_tab {W : World} {b : Nat} : ∀ (zs : List Int) (off : Nat), (∀ i, i < zs.length → W.cell? ⟨b, off + i, none⟩ = some (.int .u8 (zs.getD i 0))) → RC W (fun _ => False) b off (zs.map (PV.int .u8))
  | [], off, _ => .nil b off
  | z :: zs, off, h => .cons b off (.int .u8 z) (.int .u8 z) _ (by simpa using h 0 (by simp)) rfl (fun h => h) (.int _ _) (rc_tab zs (off + 1) fun i hi => by
      have := h (i + 1) (by simpa using hi)
      rw [show off + (i + 1) = off + 1 + i by omega] at this
      simpa using this)
theorem laidG {W : World} (h : laidMetH Tryd.prog [("math/bits.deBruijn32tab", Rows.laid_math_bits_deBruijn32tab), ("math/bits.deBruijn64tab", Rows.laid_math_bits_deBruijn64tab)] W) : ∀ x ∈ Gv, RC W (fun _ => False) x.1 0 x.2 := by
  rw [MakeChecks.laidMetH_plain _ _ _ (by kernel_rfl)] at h
  have h1 : laidMet Tryd.prog (("math/bits.deBruijn32tab", Lib.tabData .u8 tab32) :: [("math/bits.deBruijn64tab", Rows.laid_math_bits_deBruijn64tab)]) W := h
  have h2 : laidMet Tryd.prog (("math/bits.deBruijn64tab", Lib.tabData .u8 tab64) :: []) W := laidMet.tail h
  have g1 : Tryd.prog.globalNamed "math/bits.deBruijn32tab" = some 0 := by kernel_rfl
  have g2 : Tryd.prog.globalNamed "math/bits.deBruijn64tab" = some 1 := by kernel_rfl
  have t1 := Lib.tabIs_of_head g1 (t := 134) (e := 5) (n := 32) (by kernel_rfl) (by kernel_rfl) (by kernel_rfl) (by kernel_rfl) (by kernel_rfl) h1
  have t2 := Lib.tabIs_of_head g2 (t := 135) (e := 5) (n := 64) (by kernel_rfl) (by kernel_rfl) (by kernel_rfl) (by kernel_rfl) (by kernel_rfl) h2
  intro x hx
  have hx' : x = (0, tab32.map (PV.int .u8)) ∨ x = (1, tab64.map (PV.int .u8)) := by
    have e : Gv = [(0, tab32.map (PV.int .u8)), (1, tab64.map (PV.int .u8))] := rfl
    rw [e] at hx
    simpa using hx
  rcases hx' with rfl | rfl
  · exact rc_tab tab32 0 fun i hi => by rw [Nat.zero_add]; exact t1.cell g1 i hi
  · exact rc_tab tab64 0 fun i hi => by rw [Nat.zero_add]; exact t2.cell g2 i hi
def domL : List (List Nat) := [[], [], [], [0, 1, 2, 3, 6, 7, 8, 9, 10, 11, 12, 13, 14, 15, 27], [0, 1, 2, 3, 4, 5, 6, 7, 8, 9, 10, 11, 13], [0, 1, 2, 3, 6, 7, 8, 9, 10, 11, 12, 13, 14, 15, 16, 17, 18, 19, 31], [0, 1, 2, 4, 5, 6, 7, 8, 9, 16], [0, 1, 2, 3, 4, 5, 6, 7, 8, 9, 10, 11, 12, 13, 14, 15, 16, 17, 18, 19, 20, 21, 22, 35, 36, 37, 63, 85, 100, 150, 151], [0, 1, 2, 4, 5, 6, 7, 8, 9, 10, 11, 12, 13, 14, 15, 16, 17, 18, 19, 20, 21, 23, 28, 29, 30, 31, 58, 72, 86, 88, 89, 90, 93, 94, 95, 110, 129, 135, 140, 146, 147, 148, 149, 150, 170, 183], [0, 1, 2, 3, 4, 5, 6, 7, 8, 9, 10, 11, 12, 13, 15, 16, 17, 18, 19, 21, 23, 27, 28, 29, 30, 36, 70, 71, 72, 76, 77, 78, 79, 116, 129, 144, 145, 146, 147, 169, 170, 171, 178], [0, 1, 2, 3, 6, 7, 8, 9, 10, 11, 12, 13, 14, 15, 16, 17, 18, 20, 78, 83, 84, 85, 86], [0, 1, 2, 3, 6, 7, 8, 9, 10, 11, 12, 13, 14, 15, 16, 17, 18, 23, 90, 94, 108], [0, 1, 2, 3, 4, 5, 6, 7, 8, 9, 10, 11, 12, 13, 14, 15, 16, 17, 18, 106, 210], [0, 1, 2, 3, 4, 6, 7, 8, 9, 10, 11, 12, 13, 14, 15, 17, 18, 19, 20, 21, 22, 23, 24, 25, 26, 27, 28, 29, 33, 34, 35, 43, 44, 45, 72, 73, 74, 87, 88, 89, 90, 168], [0, 1, 4, 5, 6, 7, 8, 9, 10, 11, 12, 13, 14, 15, 16, 21, 22, 23, 29, 69], [0, 1, 2, 3, 7, 12, 21], [0, 1, 2, 3, 4, 5, 6, 7, 8, 9, 10, 11, 12, 13, 14, 15, 75], [0, 1, 2, 4, 5, 6, 11], [0, 1, 2, 4, 5, 6, 11], [0, 1, 2, 4, 5, 6, 7, 8, 9, 17, 27], [0, 1, 2, 4, 5, 6, 7, 8, 9, 10, 11, 12, 20, 25, 35, 40, 60], [0, 1, 4, 5, 10, 14, 25], [0, 1, 2, 4, 5, 6, 7, 16, 22, 23, 24, 25, 30, 31, 32, 33, 34, 38, 55, 61], [0, 1, 2, 3, 4, 5, 6, 10, 14, 19, 29, 33, 57, 68, 71, 82], [0, 1, 2, 4, 5, 6, 13, 17], [0, 1, 2, 4, 5, 6, 21], [0, 1, 2, 3, 4, 5, 6, 10, 21], [0, 1, 2, 3, 4, 5, 9, 17], [0, 1, 2, 3, 4, 5, 9], [0, 1, 2, 3, 4, 8], [0, 1, 2, 4, 5, 6, 11], [0, 1, 2, 4, 5, 6, 11], [0, 1, 2, 3, 4, 5, 10], [0, 1, 2, 3, 4, 5, 6, 7, 11, 17, 28, 36], [0, 1, 2, 3, 6, 7, 9, 10, 12, 15, 16, 17, 18, 25, 28, 39, 45, 46, 47, 48, 63], [0, 1, 2, 3, 6, 7, 8, 9, 10, 11, 16, 33, 42, 44, 49, 56, 69, 85], [0, 1, 2, 3, 4, 5, 6, 10, 22], [0, 1, 2, 3, 4, 5, 6, 10, 18, 26], [0, 1, 2, 4, 5, 9, 13], [0, 1, 2, 4, 5, 16], [0, 1, 2, 3, 4, 8, 9, 11, 12, 13, 14, 15, 30, 31, 32, 33, 37, 38, 39, 46, 59], [0, 1, 2, 3, 5, 6, 7], [0, 1, 2], [0, 1, 2, 5], [0, 2, 4], [0, 2, 3, 5], [0, 1, 2, 4, 5, 7, 9, 10, 11, 12, 14, 16, 17, 18, 19, 26, 27, 28, 29, 35, 44, 45, 46, 49, 50, 51, 52, 70], [0, 1, 4, 5, 6, 7, 8, 9, 10, 11, 12, 19, 28, 35], [0, 1, 2, 3, 4, 11, 12, 13], [0, 2, 3, 5, 6, 7, 8, 9, 11, 12, 13, 14, 29, 30, 31, 32, 33, 39], [0, 2, 4], [0, 1, 3, 4], [0, 2, 4], [0], [0, 2], [0], [0, 1, 4], [0, 2, 3, 4, 9], [0], [0, 1, 2, 6, 7, 16], [0, 2, 3, 9], [0, 1, 4, 5, 6, 7, 8, 10, 26, 37], [0, 1, 2, 6, 7, 16], [0, 1, 2, 4, 5, 6, 8, 12, 14, 15, 16, 17, 20, 30], [0, 1, 2, 4, 5, 7, 8, 9, 10, 11], [0, 1, 2, 4, 5, 6, 16, 28, 42], [0, 1, 2, 4, 5, 6, 10], [0, 1, 2, 4, 5, 6, 7, 8, 9, 12, 16, 23, 24, 25, 26, 41], [0, 1, 2, 6, 7, 8, 9, 10, 11, 12, 13, 14, 15, 17, 18, 19, 26, 63], [0, 1, 3, 4, 6, 7, 8, 9, 10], [0, 1, 4, 5, 6, 8, 10, 11, 12, 13, 20], [0, 1, 2, 3, 4], [0, 1, 2, 4, 5, 6, 7, 8, 20, 28, 43], [0, 1, 2, 6, 7, 8, 9, 13, 18, 29], [0, 1, 4], [0, 1, 2, 6], [0, 1, 2, 3, 4, 5, 6], [0, 2, 3, 5], [0, 1, 2, 4], [0, 1, 2, 3, 4, 8, 9, 10, 11, 12, 17, 32, 47], [0, 1, 2, 3, 4, 9], [0, 1, 3], [0, 1, 2, 4, 5], [0, 1, 2, 4, 5, 6, 12, 20], [0, 1, 4], [0, 1, 4, 5, 9, 17], [0, 1, 2, 4], [0, 2, 3, 4, 5, 6, 7, 8, 12, 22, 27], [0, 1, 2, 4], [0, 1, 2, 3, 4, 5, 8, 9, 10, 16, 18, 29, 30, 31, 32], [0, 2], [0, 1, 4, 5, 6, 11, 12, 13, 16, 19], [0, 1, 2], [0, 1, 3, 4, 5, 7, 8, 9, 16], [0], [0, 1, 4, 5, 6, 7, 8, 9], [0, 1, 4, 5, 6, 7, 8, 9, 10, 13, 21, 36, 58, 86, 95], [0, 1, 2, 3, 4], [0, 1, 2, 3, 4, 5, 6, 7, 8, 27, 28, 29, 34], [0, 1, 2, 3, 4, 5, 7, 8, 9, 10, 11, 17, 28, 29, 30, 31, 53], [0, 1, 3], [0, 1, 4, 5, 7, 8, 9, 16], [0, 2, 4], [0, 2, 4], [0, 2], [0, 1, 4, 5, 6], [0, 1, 4, 5, 6, 7, 8, 9, 10, 11, 12, 13], [0], [0], [0], [0], [0], [0], [0], [0], [0], [0], [0], [0], [0], [0], [0], [0], [], [], [], [], []]
def nthL : List (List Nat) → Nat → List Nat
  | [], _ => []
  | x :: _, 0 => x
  | _ :: l, n + 1 => nthL l n
def noFz (n : Nat) : Bool := bif Nat.beq n 0 then false else false
def kn0 : Known := ⟨[], []⟩
theorem kn0_ok : KnOk Tryd.prog kn0 := KnOk.nil
def ka0 : List PV := []
def kr0 : PV := (.agg [(.int .i64 3), (.lst true 3 [(.lst false 1 [(.int .i64 0), (.int .i64 1)]), (.lst false 2 [(.int .i64 0), (.int .i64 1), (.int .i64 1), (.int .i64 2)]), (.lst false 1 [(.int .i64 0), (.int .i64 2)])])])
theorem k0 : FnP Tryd.prog 53 ka0 kr0 := runE_ok (doms := nthL domL) (fzr := noFz) (n := 6000) tab_ok mixed kn0_ok (by kernel_rfl)
def kn1 : Known := ⟨(53, ka0, kr0) :: kn0.p, kn0.i⟩
theorem kn1_ok : KnOk Tryd.prog kn1 := KnOk.cons k0 kn0_ok
def ka1 : List PV := [(.agg [(.int .i64 3), (.lst true 3 [(.lst false 1 [(.int .i64 0), (.int .i64 1)]), (.lst false 2 [(.int .i64 0), (.int .i64 1), (.int .i64 1), (.int .i64 2)]), (.lst false 1 [(.int .i64 0), (.int .i64 2)])])])]
def kr1 : PV := (.int .i64 0)
theorem k1 : FnP Tryd.prog 22 ka1 kr1 := runE_ok (doms := nthL domL) (fzr := noFz) (n := 6000) tab_ok mixed kn1_ok (by kernel_rfl)
def kn2 : Known := ⟨(22, ka1, kr1) :: kn1.p, kn1.i⟩
theorem kn2_ok : KnOk Tryd.prog kn2 := KnOk.cons k1 kn1_ok
def ka2 : List PV := [(.agg [(.int .i64 3), (.lst true 3 [(.lst false 1 [(.int .i64 0), (.int .i64 1)]), (.lst false 2 [(.int .i64 0), (.int .i64 1), (.int .i64 1), (.int .i64 2)]), (.lst false 1 [(.int .i64 0), (.int .i64 2)])])]), .nl]
def kr2 : PV := (.int .i64 0)
theorem k2 : FnP Tryd.prog 64 ka2 kr2 := runE_ok (doms := nthL domL) (fzr := noFz) (n := 6000) tab_ok mixed kn2_ok (by kernel_rfl)
def kn3 : Known := ⟨(64, ka2, kr2) :: kn2.p, kn2.i⟩
theorem kn3_ok : KnOk Tryd.prog kn3 := KnOk.cons k2 kn2_ok
def ka3 : List PV := [(.agg [(.int .i64 3), (.lst true 3 [(.lst false 1 [(.int .i64 0), (.int .i64 1)]), (.lst false 2 [(.int .i64 0), (.int .i64 1), (.int .i64 1), (.int .i64 2)]), (.lst false 1 [(.int .i64 0), (.int .i64 2)])])]), .nl]
def kr3 : PV := (.tup [(.int .i64 0), (.int .i64 0)])
theorem k3 : FnP Tryd.prog 17 ka3 kr3 := runE_ok (doms := nthL domL) (fzr := noFz) (n := 6000) tab_ok mixed kn3_ok (by kernel_rfl)
def kn4 : Known := ⟨(17, ka3, kr3) :: kn3.p, kn3.i⟩
theorem kn4_ok : KnOk Tryd.prog kn4 := KnOk.cons k3 kn3_ok
def ka4 : List PV := []
def kr4 : PV := (.agg [(.int .i64 3), (.lst true 3 [(.lst false 2 [(.int .i64 0), (.int .i64 1), (.int .i64 1), (.int .i64 2)]), (.lst false 2 [(.int .i64 0), (.int .i64 1), (.int .i64 0), (.int .i64 2)]), (.lst false 2 [(.int .i64 1), (.int .i64 2), (.int .i64 0), (.int .i64 2)])])])
theorem k4 : FnP Tryd.prog 55 ka4 kr4 := runE_ok (doms := nthL domL) (fzr := noFz) (n := 6000) tab_ok mixed kn4_ok (by kernel_rfl)
def kn5 : Known := ⟨(55, ka4, kr4) :: kn4.p, kn4.i⟩
theorem kn5_ok : KnOk Tryd.prog kn5 := KnOk.cons k4 kn4_ok
def ka5 : List PV := [(.agg [(.int .i64 3), (.lst true 3 [(.lst false 2 [(.int .i64 0), (.int .i64 1), (.int .i64 1), (.int .i64 2)]), (.lst false 2 [(.int .i64 0), (.int .i64 1), (.int .i64 0), (.int .i64 2)]), (.lst false 2 [(.int .i64 1), (.int .i64 2), (.int .i64 0), (.int .i64 2)])])])]
def kr5 : PV := (.int .i64 0)
theorem k5 : FnP Tryd.prog 22 ka5 kr5 := runE_ok (doms := nthL domL) (fzr := noFz) (n := 6000) tab_ok mixed kn5_ok (by kernel_rfl)
def kn6 : Known := ⟨(22, ka5, kr5) :: kn5.p, kn5.i⟩
theorem kn6_ok : KnOk Tryd.prog kn6 := KnOk.cons k5 kn5_ok
def ka6 : List PV := [(.int .u64 3)]
def kr6 : PV := (.int .i64 0)
theorem k6 : FnP Tryd.prog 103 ka6 kr6 := runE_ok (doms := nthL domL) (fzr := noFz) (n := 6000) tab_ok mixed kn6_ok (by kernel_rfl)
def kn7 : Known := ⟨(103, ka6, kr6) :: kn6.p, kn6.i⟩
theorem kn7_ok : KnOk Tryd.prog kn7 := KnOk.cons k6 kn6_ok
def ka7 : List PV := [(.int .u64 2)]
def kr7 : PV := (.int .i64 1)
theorem k7 : FnP Tryd.prog 103 ka7 kr7 := runE_ok (doms := nthL domL) (fzr := noFz) (n := 6000) tab_ok mixed kn7_ok (by kernel_rfl)
def kn8 : Known := ⟨(103, ka7, kr7) :: kn7.p, kn7.i⟩
theorem kn8_ok : KnOk Tryd.prog kn8 := KnOk.cons k7 kn7_ok
def ka8 : List PV := [(.int .u64 7)]
def kr8 : PV := (.int .i64 0)
theorem k8 : FnP Tryd.prog 103 ka8 kr8 := runE_ok (doms := nthL domL) (fzr := noFz) (n := 6000) tab_ok mixed kn8_ok (by kernel_rfl)
def kn9 : Known := ⟨(103, ka8, kr8) :: kn8.p, kn8.i⟩
theorem kn9_ok : KnOk Tryd.prog kn9 := KnOk.cons k8 kn8_ok
def ka9 : List PV := [(.int .u64 6)]
def kr9 : PV := (.int .i64 1)
theorem k9 : FnP Tryd.prog 103 ka9 kr9 := runE_ok (doms := nthL domL) (fzr := noFz) (n := 6000) tab_ok mixed kn9_ok (by kernel_rfl)
def kn10 : Known := ⟨(103, ka9, kr9) :: kn9.p, kn9.i⟩
theorem kn10_ok : KnOk Tryd.prog kn10 := KnOk.cons k9 kn9_ok
def ka10 : List PV := [(.int .u64 4)]
def kr10 : PV := (.int .i64 2)
theorem k10 : FnP Tryd.prog 103 ka10 kr10 := runE_ok (doms := nthL domL) (fzr := noFz) (n := 6000) tab_ok mixed kn10_ok (by kernel_rfl)
def kn11 : Known := ⟨(103, ka10, kr10) :: kn10.p, kn10.i⟩
theorem kn11_ok : KnOk Tryd.prog kn11 := KnOk.cons k10 kn10_ok
def ka11 : List PV := [(.agg [(.int .i64 3), (.lst true 3 [(.lst false 2 [(.int .i64 0), (.int .i64 1), (.int .i64 1), (.int .i64 2)]), (.lst false 2 [(.int .i64 0), (.int .i64 1), (.int .i64 0), (.int .i64 2)]), (.lst false 2 [(.int .i64 1), (.int .i64 2), (.int .i64 0), (.int .i64 2)])])])]
def kr11 : PV := (.tup [(.int .i64 0), (.int .i64 0)])
theorem k11 : FnP Tryd.prog 28 ka11 kr11 := runE_ok (doms := nthL domL) (fzr := noFz) (n := 6000) tab_ok mixed kn11_ok (by kernel_rfl)
def kn12 : Known := ⟨(28, ka11, kr11) :: kn11.p, kn11.i⟩
theorem kn12_ok : KnOk Tryd.prog kn12 := KnOk.cons k11 kn11_ok
def ka12 : List PV := [(.agg [(.int .i64 3), .nl])]
def kr12 : PV := (.int .i64 0)
theorem k12 : FnP Tryd.prog 22 ka12 kr12 := runE_ok (doms := nthL domL) (fzr := noFz) (n := 6000) tab_ok mixed kn12_ok (by kernel_rfl)
def kn13 : Known := ⟨(22, ka12, kr12) :: kn12.p, kn12.i⟩
theorem kn13_ok : KnOk Tryd.prog kn13 := KnOk.cons k12 kn12_ok
def ka13 : List PV := [(.agg [(.int .i64 3), .nl])]
def kr13 : PV := (.tup [(.int .i64 1), (.int .i64 0)])
theorem k13 : FnP Tryd.prog 28 ka13 kr13 := runE_ok (doms := nthL domL) (fzr := noFz) (n := 6000) tab_ok mixed kn13_ok (by kernel_rfl)
def kn14 : Known := ⟨(28, ka13, kr13) :: kn13.p, kn13.i⟩
theorem kn14_ok : KnOk Tryd.prog kn14 := KnOk.cons k13 kn13_ok
def ka14 : List PV := []
def kr14 : PV := (.agg [(.int .i64 4), (.lst true 3 [(.lst false 6 [(.int .i64 0), (.int .i64 1), (.int .i64 0), (.int .i64 2), (.int .i64 0), (.int .i64 3), (.int .i64 1), (.int .i64 2), (.int .i64 1), (.int .i64 3), (.int .i64 2), (.int .i64 3)]), (.lst false 6 [(.int .i64 0), (.int .i64 1), (.int .i64 0), (.int .i64 2), (.int .i64 0), (.int .i64 3), (.int .i64 1), (.int .i64 2), (.int .i64 1), (.int .i64 3), (.int .i64 2), (.int .i64 3)]), (.lst false 6 [(.int .i64 0), (.int .i64 1), (.int .i64 0), (.int .i64 2), (.int .i64 0), (.int .i64 3), (.int .i64 1), (.int .i64 2), (.int .i64 1), (.int .i64 3), (.int .i64 2), (.int .i64 3)])])])
theorem k14 : FnP Tryd.prog 58 ka14 kr14 := runE_ok (doms := nthL domL) (fzr := noFz) (n := 6000) tab_ok mixed kn14_ok (by kernel_rfl)
def kn15 : Known := ⟨(58, ka14, kr14) :: kn14.p, kn14.i⟩
theorem kn15_ok : KnOk Tryd.prog kn15 := KnOk.cons k14 kn14_ok
def ka15 : List PV := [(.agg [(.int .i64 4), (.lst true 3 [(.lst false 6 [(.int .i64 0), (.int .i64 1), (.int .i64 0), (.int .i64 2), (.int .i64 0), (.int .i64 3), (.int .i64 1), (.int .i64 2), (.int .i64 1), (.int .i64 3), (.int .i64 2), (.int .i64 3)]), (.lst false 6 [(.int .i64 0), (.int .i64 1), (.int .i64 0), (.int .i64 2), (.int .i64 0), (.int .i64 3), (.int .i64 1), (.int .i64 2), (.int .i64 1), (.int .i64 3), (.int .i64 2), (.int .i64 3)]), (.lst false 6 [(.int .i64 0), (.int .i64 1), (.int .i64 0), (.int .i64 2), (.int .i64 0), (.int .i64 3), (.int .i64 1), (.int .i64 2), (.int .i64 1), (.int .i64 3), (.int .i64 2), (.int .i64 3)])])])]
def kr15 : PV := (.int .i64 0)
theorem k15 : FnP Tryd.prog 22 ka15 kr15 := runE_ok (doms := nthL domL) (fzr := noFz) (n := 6000) tab_ok mixed kn15_ok (by kernel_rfl)
def kn16 : Known := ⟨(22, ka15, kr15) :: kn15.p, kn15.i⟩
theorem kn16_ok : KnOk Tryd.prog kn16 := KnOk.cons k15 kn15_ok
def ka16 : List PV := [(.int .u64 1)]
def kr16 : PV := (.int .i64 0)
theorem k16 : FnP Tryd.prog 103 ka16 kr16 := runE_ok (doms := nthL domL) (fzr := noFz) (n := 6000) tab_ok mixed kn16_ok (by kernel_rfl)
def kn17 : Known := ⟨(103, ka16, kr16) :: kn16.p, kn16.i⟩
theorem kn17_ok : KnOk Tryd.prog kn17 := KnOk.cons k16 kn16_ok
def ka17 : List PV := [(.int .u64 5)]
def kr17 : PV := (.int .i64 0)
theorem k17 : FnP Tryd.prog 103 ka17 kr17 := runE_ok (doms := nthL domL) (fzr := noFz) (n := 6000) tab_ok mixed kn17_ok (by kernel_rfl)
def kn18 : Known := ⟨(103, ka17, kr17) :: kn17.p, kn17.i⟩
theorem kn18_ok : KnOk Tryd.prog kn18 := KnOk.cons k17 kn17_ok
def ka18 : List PV := [(.agg [(.int .i64 3), (.lst true 3 [(.lst false 2 [(.int .i64 0), (.int .i64 1), (.int .i64 1), (.int .i64 2)]), (.lst false 2 [(.int .i64 0), (.int .i64 1), (.int .i64 0), (.int .i64 2)]), (.lst false 2 [(.int .i64 1), (.int .i64 2), (.int .i64 0), (.int .i64 2)])])])]
def kr18 : PV := (.tup [(.lst false 2 [(.int .i64 0), (.int .i64 1)]), (.int .i64 0)])
theorem k18 : FnP Tryd.prog 32 ka18 kr18 := runE_ok (doms := nthL domL) (fzr := noFz) (n := 6000) tab_ok mixed kn18_ok (by kernel_rfl)
def kn19 : Known := ⟨(32, ka18, kr18) :: kn18.p, kn18.i⟩
theorem kn19_ok : KnOk Tryd.prog kn19 := KnOk.cons k18 kn18_ok
def ka19 : List PV := [(.agg [(.int .i64 3), (.lst true 3 [(.lst false 1 [(.int .i64 0), (.int .i64 1)]), (.lst false 2 [(.int .i64 0), (.int .i64 1), (.int .i64 1), (.int .i64 2)]), (.lst false 1 [(.int .i64 0), (.int .i64 2)])])])]
def kr19 : PV := (.tup [(.lst false 3 [(.int .i64 0), (.int .i64 1), (.int .i64 2)]), (.int .i64 0)])
theorem k19 : FnP Tryd.prog 36 ka19 kr19 := runE_ok (doms := nthL domL) (fzr := noFz) (n := 6000) tab_ok mixed kn19_ok (by kernel_rfl)
def kn20 : Known := ⟨(36, ka19, kr19) :: kn19.p, kn19.i⟩
theorem kn20_ok : KnOk Tryd.prog kn20 := KnOk.cons k19 kn19_ok
def ka20 : List PV := [(.agg [(.int .i64 6), .nl])]
def kr20 : PV := (.int .i64 1)
theorem k20 : FnP Tryd.prog 22 ka20 kr20 := runE_ok (doms := nthL domL) (fzr := noFz) (n := 6000) tab_ok mixed kn20_ok (by kernel_rfl)
def kn21 : Known := ⟨(22, ka20, kr20) :: kn20.p, kn20.i⟩
theorem kn21_ok : KnOk Tryd.prog kn21 := KnOk.cons k20 kn20_ok
def ka21 : List PV := [(.agg [(.int .i64 4), (.lst true 3 [(.lst false 6 [(.int .i64 0), (.int .i64 1), (.int .i64 0), (.int .i64 2), (.int .i64 0), (.int .i64 3), (.int .i64 1), (.int .i64 2), (.int .i64 1), (.int .i64 3), (.int .i64 2), (.int .i64 3)]), (.lst false 6 [(.int .i64 0), (.int .i64 1), (.int .i64 0), (.int .i64 2), (.int .i64 0), (.int .i64 3), (.int .i64 1), (.int .i64 2), (.int .i64 1), (.int .i64 3), (.int .i64 2), (.int .i64 3)]), (.lst false 6 [(.int .i64 0), (.int .i64 1), (.int .i64 0), (.int .i64 2), (.int .i64 0), (.int .i64 3), (.int .i64 1), (.int .i64 2), (.int .i64 1), (.int .i64 3), (.int .i64 2), (.int .i64 3)])])])]
def kr21 : PV := (.tup [(.lst false 3 [(.int .i64 0), (.int .i64 1), (.int .i64 2)]), (.int .i64 0)])
theorem k21 : FnP Tryd.prog 26 ka21 kr21 := runE_ok (doms := nthL domL) (fzr := noFz) (n := 6000) tab_ok mixed kn21_ok (by kernel_rfl)
def kn22 : Known := ⟨(26, ka21, kr21) :: kn21.p, kn21.i⟩
theorem kn22_ok : KnOk Tryd.prog kn22 := KnOk.cons k21 kn21_ok
def ka22 : List PV := [(.agg [(.int .i64 4), (.lst true 3 [(.lst false 6 [(.int .i64 0), (.int .i64 1), (.int .i64 0), (.int .i64 2), (.int .i64 0), (.int .i64 3), (.int .i64 1), (.int .i64 2), (.int .i64 1), (.int .i64 3), (.int .i64 2), (.int .i64 3)]), (.lst false 6 [(.int .i64 0), (.int .i64 1), (.int .i64 0), (.int .i64 2), (.int .i64 0), (.int .i64 3), (.int .i64 1), (.int .i64 2), (.int .i64 1), (.int .i64 3), (.int .i64 2), (.int .i64 3)]), (.lst false 6 [(.int .i64 0), (.int .i64 1), (.int .i64 0), (.int .i64 2), (.int .i64 0), (.int .i64 3), (.int .i64 1), (.int .i64 2), (.int .i64 1), (.int .i64 3), (.int .i64 2), (.int .i64 3)])])])]
def kr22 : PV := (.tup [(.int .i64 96), (.int .i64 0)])
theorem k22 : FnP Tryd.prog 28 ka22 kr22 := runE_ok (doms := nthL domL) (fzr := noFz) (n := 6000) tab_ok mixed kn22_ok (by kernel_rfl)
def kn23 : Known := ⟨(28, ka22, kr22) :: kn22.p, kn22.i⟩
theorem kn23_ok : KnOk Tryd.prog kn23 := KnOk.cons k22 kn22_ok
def ka23 : List PV := [(.agg [(.int .i64 3), (.lst true 3 [(.lst false 1 [(.int .i64 0), (.int .i64 1)]), (.lst false 2 [(.int .i64 0), (.int .i64 1), (.int .i64 1), (.int .i64 2)]), (.lst false 1 [(.int .i64 0), (.int .i64 2)])])])]
def kr23 : PV := (.tup [(.lst false 2 [(.int .i64 0), (.int .i64 1)]), (.int .i64 0)])
theorem k23 : FnP Tryd.prog 32 ka23 kr23 := runE_ok (doms := nthL domL) (fzr := noFz) (n := 6000) tab_ok mixed kn23_ok (by kernel_rfl)
def kn24 : Known := ⟨(32, ka23, kr23) :: kn23.p, kn23.i⟩
theorem kn24_ok : KnOk Tryd.prog kn24 := KnOk.cons k23 kn23_ok
def ka24 : List PV := [(.agg [(.int .i64 3), (.lst true 3 [(.lst false 2 [(.int .i64 0), (.int .i64 1), (.int .i64 1), (.int .i64 2)]), (.lst false 2 [(.int .i64 0), (.int .i64 1), (.int .i64 0), (.int .i64 2)]), (.lst false 2 [(.int .i64 1), (.int .i64 2), (.int .i64 0), (.int .i64 2)])])]), .nl]
def kr24 : PV := (.int .i64 0)
theorem k24 : FnP Tryd.prog 64 ka24 kr24 := runE_ok (doms := nthL domL) (fzr := noFz) (n := 6000) tab_ok mixed kn24_ok (by kernel_rfl)
def kn25 : Known := ⟨(64, ka24, kr24) :: kn24.p, kn24.i⟩
theorem kn25_ok : KnOk Tryd.prog kn25 := KnOk.cons k24 kn24_ok
def ka25 : List PV := [(.agg [(.int .i64 3), (.lst true 3 [(.lst false 2 [(.int .i64 0), (.int .i64 1), (.int .i64 1), (.int .i64 2)]), (.lst false 2 [(.int .i64 0), (.int .i64 1), (.int .i64 0), (.int .i64 2)]), (.lst false 2 [(.int .i64 1), (.int .i64 2), (.int .i64 0), (.int .i64 2)])])])]
def kr25 : PV := (.tup [(.lst false 3 [(.int .i64 0), (.int .i64 1), (.int .i64 2)]), (.int .i64 0)])
theorem k25 : FnP Tryd.prog 36 ka25 kr25 := runE_ok (doms := nthL domL) (fzr := noFz) (n := 6000) tab_ok mixed kn25_ok (by kernel_rfl)
def kn26 : Known := ⟨(36, ka25, kr25) :: kn25.p, kn25.i⟩
theorem kn26_ok : KnOk Tryd.prog kn26 := KnOk.cons k25 kn25_ok
def ka26 : List PV := [(.agg [(.int .i64 3), (.lst true 3 [(.lst false 1 [(.int .i64 0), (.int .i64 1)]), (.lst false 2 [(.int .i64 0), (.int .i64 1), (.int .i64 1), (.int .i64 2)]), (.lst false 1 [(.int .i64 0), (.int .i64 2)])])])]
def kr26 : PV := (.tup [.nl, (.int .i64 12)])
theorem k26 : FnP Tryd.prog 26 ka26 kr26 := runE_ok (doms := nthL domL) (fzr := noFz) (n := 6000) tab_ok mixed kn26_ok (by kernel_rfl)
def kn27 : Known := ⟨(26, ka26, kr26) :: kn26.p, kn26.i⟩
theorem kn27_ok : KnOk Tryd.prog kn27 := KnOk.cons k26 kn26_ok
def ka27 : List PV := [(.agg [(.int .i64 4), (.lst true 3 [(.lst false 6 [(.int .i64 0), (.int .i64 1), (.int .i64 0), (.int .i64 2), (.int .i64 0), (.int .i64 3), (.int .i64 1), (.int .i64 2), (.int .i64 1), (.int .i64 3), (.int .i64 2), (.int .i64 3)]), (.lst false 6 [(.int .i64 0), (.int .i64 1), (.int .i64 0), (.int .i64 2), (.int .i64 0), (.int .i64 3), (.int .i64 1), (.int .i64 2), (.int .i64 1), (.int .i64 3), (.int .i64 2), (.int .i64 3)]), (.lst false 6 [(.int .i64 0), (.int .i64 1), (.int .i64 0), (.int .i64 2), (.int .i64 0), (.int .i64 3), (.int .i64 1), (.int .i64 2), (.int .i64 1), (.int .i64 3), (.int .i64 2), (.int .i64 3)])])]), .nl]
def kr27 : PV := (.int .i64 0)
theorem k27 : FnP Tryd.prog 64 ka27 kr27 := runE_ok (doms := nthL domL) (fzr := noFz) (n := 6000) tab_ok mixed kn27_ok (by kernel_rfl)
def kn28 : Known := ⟨(64, ka27, kr27) :: kn27.p, kn27.i⟩
theorem kn28_ok : KnOk Tryd.prog kn28 := KnOk.cons k27 kn27_ok
def ka28 : List PV := [(.agg [(.int .i64 4), (.lst true 3 [(.lst false 6 [(.int .i64 0), (.int .i64 1), (.int .i64 0), (.int .i64 2), (.int .i64 0), (.int .i64 3), (.int .i64 1), (.int .i64 2), (.int .i64 1), (.int .i64 3), (.int .i64 2), (.int .i64 3)]), (.lst false 6 [(.int .i64 0), (.int .i64 1), (.int .i64 0), (.int .i64 2), (.int .i64 0), (.int .i64 3), (.int .i64 1), (.int .i64 2), (.int .i64 1), (.int .i64 3), (.int .i64 2), (.int .i64 3)]), (.lst false 6 [(.int .i64 0), (.int .i64 1), (.int .i64 0), (.int .i64 2), (.int .i64 0), (.int .i64 3), (.int .i64 1), (.int .i64 2), (.int .i64 1), (.int .i64 3), (.int .i64 2), (.int .i64 3)])])])]
def kr28 : PV := (.tup [.nl, (.int .i64 13)])
theorem k28 : FnP Tryd.prog 36 ka28 kr28 := runE_ok (doms := nthL domL) (fzr := noFz) (n := 6000) tab_ok mixed kn28_ok (by kernel_rfl)
def kn29 : Known := ⟨(36, ka28, kr28) :: kn28.p, kn28.i⟩
theorem kn29_ok : KnOk Tryd.prog kn29 := KnOk.cons k28 kn28_ok
def ka29 : List PV := []
def kr29 : PV := (.bool true)
theorem k29 : FnP Tryd.prog 16 ka29 kr29 := runE_ok (doms := nthL domL) (fzr := noFz) (n := 6000) tab_ok mixed kn29_ok (by kernel_rfl)
end Go.Proofs.YtnponojgpkbagaaDoor
namespace Go.Proofs.YtnponojgpkbagaaDoor
open Go.V
open Nat renaming reduceBEq → qa, reduceAdd → qb, reduceSub → qc, reduceMul → qd, reduceLT → qe, reduceLeDiff → qf
open Int renaming reduceLE → qg, reduceLT → qh, reduceToNat → qi, reduceBEq → qj, reduceBNe → qk
set_option maxRecDepth 100000
set_option maxHeartbeats 4000000
set_option linter.unusedSimpArgs false
set_option linter.unusedVariables false
attribute [local go_sem] tl1 tl2 tl3 tl4 tl5 tl9 tl17 tl21 tl22 tl23 tl24 tl25 tl26 tl27 tl28 tl29 tl31 tl32 tl34 tl35 tl36 tl37 tl38 tl39 tl40 tl41 tl42 tl43 tl44 tl45 tl47 tl48 tl49 tl50 tl51 tl52 tl53 tl54 tl55 tl56 tl57 tl58 tl59 tl60 tl61 tl62 tl63 tl64 tl65 tl66 tl67 tl68 tl69 tl70 tl71 tl72 tl73 tl74 tl75 tl76 tl77 tl78 tl79 tl80 tl81 tl82 tl83 tl84 tl85 tl86 tl87 tl88 tl89 tl90 tl92 tl94 tl95 tl96 tl97 tl98 tl99 tl100 tl101 tl102 tl103 tl104 tl105 tl106 tl107 tl108 tl109 tl110 tl111 tl112 tl113 tl114 tl115 tl116 tl118 tl119 tl121 tl122 tl123 tl124 tl125 tl126 tl127 tl128 tl129 tl131 tl133 tl134 tl135 tl136 tl142 tl146
def getA5 {α : Type} (p : PV) (k : PV → PV → PV → PV → PV → Option α) : Option α := match p with | .agg [a0, a1, a2, a3, a4] => k a0 a1 a2 a3 a4 | _ => none
theorem getA5_some {α : Type} {p : PV} {k : PV → PV → PV → PV → PV → Option α} {r : α} (h : getA5 p k = some r) : ∃ a0 a1 a2 a3 a4, p = .agg [a0, a1, a2, a3, a4] ∧ k a0 a1 a2 a3 a4 = some r := by
  unfold getA5 at h; split at h
  · exact ⟨_, _, _, _, _, rfl, h⟩
  · cases h
def m93_L0 (N : Nat) (n66 : Nat) (c67 : List PV) : Nat → Int → PV → PV → Option ((PV ⊕ Unit))
  | 0, _, _, _ => none
  | n + 1, x88, p89, p90 =>
    brn (decide (x88 < ((n66 : Nat) : Int))) (
      grd (0 ≤ x88 ∧ x88 < ((n66 : Nat) : Int)) <|
      grd (2 ≤ List.length (List.drop ((Int.toNat x88) * 2) c67)) <|
      getA2 (.agg (List.take 2 (List.drop ((Int.toNat x88) * 2) c67))) fun p96 p97 =>
      getI .i64 p90 fun x99 =>
      getI .i64 p97 fun x101 =>
      getI .i64 p89 fun x103 =>
      getI .i64 p96 fun x105 =>
      brn ((x103 == x105) && (x99 == x101)) (
        some (.inl (.int .i64 x88))) (
        m93_L0 N n66 c67 n (IntKind.i64.wrap (x88 + 1)) (.int .i64 x103) (.int .i64 x99))) (
      some (.inr ()))
def m93 (N : Nat) (p63 : PV) (p64 : PV) : Option (PV) :=
  getL p63 fun n66 c67 =>
  getA2 p64 fun p69 p70 =>
  bnd' (m93_L0 N n66 c67 N 0 p69 p70) fun o =>
  match o with
  | .inl p107 =>
    some p107
  | .inr () =>
    some (.int .i64 (-1))
theorem c93 (N : Nat) (p63 : PV) (p64 : PV) (r : PV)  (h : m93 N p63 p64 = some r) : FnP Tryd.prog 93 [p63, p64] r := by
  unfold m93 at h
  refine Fn_of (sz := 19) tab_ok [0, 1, 3, 4, 5, 7, 8, 9, 16] [.tmp 4] Tryd.func93 rfl rfl rfl (by simp) ?_
  simp only [initSt, initEnv, List.map_cons, List.map_nil, List.getD_cons_zero, List.getD_cons_succ, List.getD_nil]
  have hh := getL_some h; clear h; obtain ⟨n66, c67, h65, h⟩ := hh
  have hh := getA2_some h; clear h; obtain ⟨p69, p70, h68, h⟩ := hh
  refine W_sound tab_ok mixed 12 _ _ _ ?_
  simp -implicitDefEqProofs only [go_sem, qa, qb, qc, qd, qe, qf, qg, qh, qi, qj, qk, ↓reduceIte, h65, h68]
  repeat with_reducible refine ⟨by first | kernel_rfl | decide, ?_⟩
  have hh := bnd'_some h; clear h; obtain ⟨o108, h109, h110⟩ := hh
  refine Wp_cut (fun s => (.inr ()) = o108 ∧ s = ⟨[], [(0, .dead), (1, .dead), (3, .dead), (4, .dead), (5, .dead), (7, .dead), (8, .dead), (9, .dead), (16, .dead)], [], 0, []⟩) ?_ ?_
  · refine Wp_block ?_
    refine Wp_loopG (fun n s => ∃ x88, ∃ p89, ∃ p90, m93_L0 N n66 c67 n x88 p89 p90 = some o108 ∧ s = ⟨[], [(0, .v (.lst false n66 c67)), (1, .dead), (3, .ptr 0 0), (4, .dead), (5, .dead), (7, .v (.int .i64 ((n66 : Nat) : Int))), (8, .v (.int .i64 x88)), (9, .dead), (16, .dead)], [(0, .p [p89, p90])], 1, []⟩) N _ ((Wk_le (.r (.k (.r (.k (.r (.r (.r (.r (.r .nil))))))))) (OLe.refl _)).trans (cmpS_ok rfl)) ⟨_, _, _, h109, rfl⟩ ?_
    clear h109
    rintro n _ ⟨x88, p89, p90, h109, rfl⟩
    cases n with
    | zero => cases h109
    | succ n =>
      rw [m93_L0] at h109
      have hh := brn_some h109; clear h109; rcases hh with ⟨h91, h109⟩ | ⟨h91, h109⟩
      · have hh := grd_some h109; clear h109; obtain ⟨⟨g92, g93⟩, h109⟩ := hh
        have hh := grd_some h109; clear h109; obtain ⟨g94, h109⟩ := hh
        have hh := getA2_some h109; clear h109; obtain ⟨p96, p97, h95, h109⟩ := hh
        injection h95 with h95
        have hh := getI_some h109; clear h109; obtain ⟨x99, h98, h109⟩ := hh
        have hh := getI_some h109; clear h109; obtain ⟨x101, h100, h109⟩ := hh
        have hh := getI_some h109; clear h109; obtain ⟨x103, h102, h109⟩ := hh
        have hh := getI_some h109; clear h109; obtain ⟨x105, h104, h109⟩ := hh
        have hh := brn_some h109; clear h109; rcases hh with ⟨h106, h109⟩ | ⟨h106, h109⟩
        · refine W_sound tab_ok mixed 31 _ _ _ ?_
          simp -implicitDefEqProofs only [go_sem, qa, qb, qc, qd, qe, qf, qg, qh, qi, qj, qk, ↓reduceIte, h65, h68, h91, g92, g93, g94, h95, h98, h100, h102, h104, h106]
          repeat with_reducible refine ⟨by first | kernel_rfl | decide, ?_⟩
          obtain rfl := Option.some.inj h109
          (try dsimp only at h110)
          obtain rfl := Option.some.inj h110
          exact finC [(4, .v (.int .i64 x88))] [(4, .v (.int .i64 x88))] (by simp [leE, lk_cons]) (.cons _ _ _ _ _ (.v _ _ (.refl _)) .nil) (by rfl) (by simp [leE, lk_cons]) (by decide) (by decide) rfl (by simp only [go_sem, qa, qb, qc, qd, qe, qf, qg, qh, qi, qj, qk, ↓reduceIte, resQ_tmp, resQ_cell, resQ_nil, retD_one, retD_two, retD_three, retD_none]; try simp [R.val, retD_one, retD_two, retD_three, retD_none])
        · refine W_sound tab_ok mixed 30 _ _ _ ?_
          simp -implicitDefEqProofs only [go_sem, qa, qb, qc, qd, qe, qf, qg, qh, qi, qj, qk, ↓reduceIte, h65, h68, h91, g92, g93, g94, h95, h98, h100, h102, h104, h106]
          repeat with_reducible refine ⟨by first | kernel_rfl | decide, ?_⟩
          exact cutQ _ ((Wk_le (.r (.r (.r (.r (.k (.r (.r (.k (.k .nil))))))))) (OLe.refl _)).trans (cmpS_ok rfl)) ⟨n, Nat.lt_succ_self n, _, _, _, h109, rfl⟩
      · refine W_sound tab_ok mixed 7 _ _ _ ?_
        simp -implicitDefEqProofs only [go_sem, qa, qb, qc, qd, qe, qf, qg, qh, qi, qj, qk, ↓reduceIte, h65, h68, h91]
        repeat with_reducible refine ⟨by first | kernel_rfl | decide, ?_⟩
        obtain rfl := Option.some.inj h109
        exact cutQ _ ((Wk_le (.k (.r (.k (.r (.r (.k (.k (.k (.r .nil))))))))) (OLe.refl _)).trans (cmpS_ok rfl)) ⟨rfl, rfl⟩
  · rintro _ ⟨rfl, rfl⟩
    (try dsimp only at h110)
    refine W_sound tab_ok mixed 6 _ _ _ ?_
    simp -implicitDefEqProofs only [go_sem, qa, qb, qc, qd, qe, qf, qg, qh, qi, qj, qk, ↓reduceIte, h65, h68]
    repeat with_reducible refine ⟨by first | kernel_rfl | decide, ?_⟩
    obtain rfl := Option.some.inj h110
    exact finC [(4, .v (.int .i64 (-1)))] [(4, .v (.int .i64 (-1)))] (by simp [leE, lk_cons]) (.cons _ _ _ _ _ (.v _ _ (.refl _)) .nil) (by rfl) (by simp [leE, lk_cons]) (by decide) (by decide) rfl (by simp only [go_sem, qa, qb, qc, qd, qe, qf, qg, qh, qi, qj, qk, ↓reduceIte, resQ_tmp, resQ_cell, resQ_nil, retD_one, retD_two, retD_three, retD_none]; try simp [R.val, retD_one, retD_two, retD_three, retD_none])
def m51 (N : Nat) (p55 : PV) (p56 : PV) : Option (PV) :=
  getL p55 fun n58 c59 =>
  getA2 p56 fun p61 p62 =>
  bnd' (m93 N (.lst false n58 c59) (.agg [p61, p62])) fun p111 =>
  getI .i64 p111 fun x114 =>
  some (.bool (decide (x114 ≥ 0)))
theorem c51 (N : Nat) (p55 : PV) (p56 : PV) (r : PV)  (h : m51 N p55 p56 = some r) : FnP Tryd.prog 51 [p55, p56] r := by
  unfold m51 at h
  refine Fn_of (sz := 9) tab_ok [0, 1, 3, 4] [.tmp 4] Tryd.func51 rfl rfl rfl (by simp) ?_
  simp only [initSt, initEnv, List.map_cons, List.map_nil, List.getD_cons_zero, List.getD_cons_succ, List.getD_nil]
  have hh := getL_some h; clear h; obtain ⟨n58, c59, h57, h⟩ := hh
  have hh := getA2_some h; clear h; obtain ⟨p61, p62, h60, h⟩ := hh
  have hh := bnd'_some h; clear h; obtain ⟨p111, h112, h⟩ := hh
  refine W_sound tab_ok mixed 9 _ _ _ ?_
  simp -implicitDefEqProofs only [go_sem, qa, qb, qc, qd, qe, qf, qg, qh, qi, qj, qk, ↓reduceIte, h57, h60]
  repeat with_reducible refine ⟨by first | kernel_rfl | decide, ?_⟩
  refine Wp_callP (c93 N _ _ _ h112) (by kernel_rfl) rfl rfl rfl rfl (by decide) ?_
  have hh := getI_some h; clear h; obtain ⟨x114, h113, h⟩ := hh
  refine W_sound tab_ok mixed 5 _ _ _ ?_
  simp -implicitDefEqProofs only [go_sem, qa, qb, qc, qd, qe, qf, qg, qh, qi, qj, qk, ↓reduceIte, h57, h60, h113]
  repeat with_reducible refine ⟨by first | kernel_rfl | decide, ?_⟩
  obtain rfl := Option.some.inj h
  exact finC [(4, .v (.bool (decide (x114 ≥ 0))))] [(4, .v (.bool (decide (x114 ≥ 0))))] (by simp [leE, lk_cons]) (.cons _ _ _ _ _ (.v _ _ (.refl _)) .nil) (by rfl) (by simp [leE, lk_cons]) (by decide) (by decide) rfl (by simp only [go_sem, qa, qb, qc, qd, qe, qf, qg, qh, qi, qj, qk, ↓reduceIte, resQ_tmp, resQ_cell, resQ_nil, retD_one, retD_two, retD_three, retD_none]; try simp [R.val, retD_one, retD_two, retD_three, retD_none])
def m22_L1 (N : Nat) (x22 : Int) (n26 : Nat) (c27 : List PV) (x29 : Int) (n35 : Nat) (c36 : List PV) : Nat → Int → Option ((PV ⊕ Unit))
  | 0, _ => none
  | n + 1, x38 =>
    brn (decide (x38 < ((n35 : Nat) : Int))) (
      grd (0 ≤ x38 ∧ x38 < ((n35 : Nat) : Int)) <|
      grd (2 ≤ List.length (List.drop ((Int.toNat x38) * 2) c36)) <|
      getA2 (.agg (List.take 2 (List.drop ((Int.toNat x38) * 2) c36))) fun p44 p45 =>
      getI .i64 p44 fun x47 =>
      getI .i64 p45 fun x49 =>
      brn (decide ((minI x47 x49) < 0)) (
        some (.inl (.int .i64 2))) (
        brn (decide ((maxI x47 x49) ≥ x22)) (
          some (.inl (.int .i64 2))) (
          brn (decide (x47 ≥ x49)) (
            some (.inl (.int .i64 7))) (
            grd (x38 ≤ ((n35 : Nat) : Int)) <|
            grd (List.length c36 = (n35 * 2)) <|
            bnd' (m51 N (.lst false (Int.toNat x38) (List.take ((Int.toNat x38) * 2) c36)) (.agg [(.int .i64 x47), (.int .i64 x49)])) fun p115 =>
            getB p115 fun b118 =>
            brn b118 (
              some (.inl (.int .i64 6))) (
              m22_L1 N x22 n26 c27 x29 n35 c36 n (IntKind.i64.wrap (x38 + 1))))))) (
      some (.inr ()))
def m22_L0 (N : Nat) (x22 : Int) (n26 : Nat) (c27 : List PV) : Nat → Int → Option ((PV ⊕ Unit))
  | 0, _ => none
  | n + 1, x29 =>
    brn (decide (x29 < ((n26 : Nat) : Int))) (
      grd (0 ≤ x29 ∧ x29 < ((n26 : Nat) : Int)) <|
      grd (0 < List.length (List.drop (Int.toNat x29) c27)) <|
      getL (gp c27 (Int.toNat x29)) fun n35 c36 =>
      brn (decide (((n35 : Nat) : Int) > 6)) (
        some (.inl (.int .i64 3))) (
        bnd' (m22_L1 N x22 n26 c27 x29 n35 c36 N 0) fun o =>
        match o with
        | .inl p120 =>
          some (.inl p120)
        | .inr () =>
          m22_L0 N x22 n26 c27 n (IntKind.i64.wrap (x29 + 1)))) (
      some (.inr ()))
def m22 (N : Nat) (p17 : PV) : Option (PV) :=
  getA2 p17 fun p19 p20 =>
  getI .i64 p19 fun x22 =>
  brn (decide (x22 < 1)) (
    some (.int .i64 1)) (
    brn (decide (x22 > 5)) (
      some (.int .i64 1)) (
      getL p20 fun n26 c27 =>
      brn (decide (((n26 : Nat) : Int) > 5)) (
        some (.int .i64 3)) (
        bnd' (m22_L0 N x22 n26 c27 N 0) fun o =>
        match o with
        | .inl p121 =>
          some p121
        | .inr () =>
          some (.int .i64 0))))
theorem c22 (N : Nat) (p17 : PV) (r : PV)  (h : m22 N p17 = some r) : FnP Tryd.prog 22 [p17] r := by
  unfold m22 at h
  refine Fn_of (sz := 69) tab_ok [0, 1, 2, 4, 5, 6, 7, 16, 22, 23, 24, 25, 30, 31, 32, 33, 34, 38, 55, 61] [.tmp 2] Tryd.func22 rfl rfl rfl (by simp) ?_
  simp only [initSt, initEnv, List.map_cons, List.map_nil, List.getD_cons_zero, List.getD_cons_succ, List.getD_nil]
  have hh := getA2_some h; clear h; obtain ⟨p19, p20, h18, h⟩ := hh
  have hh := getI_some h; clear h; obtain ⟨x22, h21, h⟩ := hh
  have hh := brn_some h; clear h; rcases hh with ⟨h23, h⟩ | ⟨h23, h⟩
  · refine W_sound tab_ok mixed 26 _ _ _ ?_
    simp -implicitDefEqProofs only [go_sem, qa, qb, qc, qd, qe, qf, qg, qh, qi, qj, qk, ↓reduceIte, h18, h21, h23]
    repeat with_reducible refine ⟨by first | kernel_rfl | decide, ?_⟩
    obtain rfl := Option.some.inj h
    exact finC [(2, .v (.int .i64 1))] [(2, .v (.int .i64 1))] (by simp [leE, lk_cons]) (.cons _ _ _ _ _ (.v _ _ (.refl _)) .nil) (by rfl) (by simp [leE, lk_cons]) (by decide) (by decide) rfl (by simp only [go_sem, qa, qb, qc, qd, qe, qf, qg, qh, qi, qj, qk, ↓reduceIte, resQ_tmp, resQ_cell, resQ_nil, retD_one, retD_two, retD_three, retD_none]; try simp [R.val, retD_one, retD_two, retD_three, retD_none])
  · have hh := brn_some h; clear h; rcases hh with ⟨h24, h⟩ | ⟨h24, h⟩
    · refine W_sound tab_ok mixed 26 _ _ _ ?_
      simp -implicitDefEqProofs only [go_sem, qa, qb, qc, qd, qe, qf, qg, qh, qi, qj, qk, ↓reduceIte, h18, h21, h23, h24]
      repeat with_reducible refine ⟨by first | kernel_rfl | decide, ?_⟩
      obtain rfl := Option.some.inj h
      exact finC [(2, .v (.int .i64 1))] [(2, .v (.int .i64 1))] (by simp [leE, lk_cons]) (.cons _ _ _ _ _ (.v _ _ (.refl _)) .nil) (by rfl) (by simp [leE, lk_cons]) (by decide) (by decide) rfl (by simp only [go_sem, qa, qb, qc, qd, qe, qf, qg, qh, qi, qj, qk, ↓reduceIte, resQ_tmp, resQ_cell, resQ_nil, retD_one, retD_two, retD_three, retD_none]; try simp [R.val, retD_one, retD_two, retD_three, retD_none])
    · have hh := getL_some h; clear h; obtain ⟨n26, c27, h25, h⟩ := hh
      have hh := brn_some h; clear h; rcases hh with ⟨h28, h⟩ | ⟨h28, h⟩
      · refine W_sound tab_ok mixed 35 _ _ _ ?_
        simp -implicitDefEqProofs only [go_sem, qa, qb, qc, qd, qe, qf, qg, qh, qi, qj, qk, ↓reduceIte, h18, h21, h23, h24, h25, h28]
        repeat with_reducible refine ⟨by first | kernel_rfl | decide, ?_⟩
        obtain rfl := Option.some.inj h
        exact finC [(2, .v (.int .i64 3))] [(2, .v (.int .i64 3))] (by simp [leE, lk_cons]) (.cons _ _ _ _ _ (.v _ _ (.refl _)) .nil) (by rfl) (by simp [leE, lk_cons]) (by decide) (by decide) rfl (by simp only [go_sem, qa, qb, qc, qd, qe, qf, qg, qh, qi, qj, qk, ↓reduceIte, resQ_tmp, resQ_cell, resQ_nil, retD_one, retD_two, retD_three, retD_none]; try simp [R.val, retD_one, retD_two, retD_three, retD_none])
      · refine W_sound tab_ok mixed 39 _ _ _ ?_
        simp -implicitDefEqProofs only [go_sem, qa, qb, qc, qd, qe, qf, qg, qh, qi, qj, qk, ↓reduceIte, h18, h21, h23, h24, h25, h28]
        repeat with_reducible refine ⟨by first | kernel_rfl | decide, ?_⟩
        have hh := bnd'_some h; clear h; obtain ⟨o122, h123, h124⟩ := hh
        refine Wp_cut (fun s => (.inr ()) = o122 ∧ s = ⟨[], [(0, .dead), (1, .dead), (2, .dead), (4, .dead), (5, .dead), (6, .dead), (7, .dead), (16, .dead), (22, .dead), (23, .dead), (24, .dead), (25, .dead), (30, .dead), (31, .dead), (32, .dead), (33, .dead), (34, .dead), (38, .dead), (55, .dead), (61, .dead)], [], 0, []⟩) ?_ ?_
        · refine Wp_block ?_
          refine Wp_loopG (fun n s => ∃ x29, m22_L0 N x22 n26 c27 n x29 = some o122 ∧ s = ⟨[], [(0, .dead), (1, .ptr 0 0), (2, .dead), (4, .dead), (5, .dead), (6, .dead), (7, .dead), (16, .dead), (22, .v (.lst false n26 c27)), (23, .v (.int .i64 ((n26 : Nat) : Int))), (24, .v (.int .i64 x29)), (25, .dead), (30, .dead), (31, .dead), (32, .dead), (33, .dead), (34, .dead), (38, .dead), (55, .dead), (61, .dead)], [(0, .p [(.int .i64 x22), (.lst false n26 c27)])], 1, []⟩) N _ ((Wk_le (.k (.r (.k (.r (.r (.r (.k (.k (.r (.r (.r (.r (.r (.r (.r (.r (.r (.r (.r (.r .nil)))))))))))))))))))) (OLe.refl _)).trans (cmpS_ok (st' := ⟨[], [(0, .dead), (1, .ptr 0 0), (2, .dead), (4, .dead), (5, .dead), (6, .dead), (7, .dead), (16, .dead), (22, .v (.lst false n26 c27)), (23, .v (.int .i64 ((n26 : Nat) : Int))), (24, .v (.int .i64 0)), (25, .dead), (30, .dead), (31, .dead), (32, .dead), (33, .dead), (34, .dead), (38, .dead), (55, .dead), (61, .dead)], [(0, .p [(.int .i64 x22), (.lst false n26 c27)])], 1, []⟩) (by kernel_rfl))) ⟨_, h123, rfl⟩ ?_
          clear h123
          rintro n _ ⟨x29, h123, rfl⟩
          cases n with
          | zero => cases h123
          | succ n =>
            rw [m22_L0] at h123
            have hh := brn_some h123; clear h123; rcases hh with ⟨h30, h123⟩ | ⟨h30, h123⟩
            · have hh := grd_some h123; clear h123; obtain ⟨⟨g31, g32⟩, h123⟩ := hh
              have hh := grd_some h123; clear h123; obtain ⟨g33, h123⟩ := hh
              have hh := getL_some h123; clear h123; obtain ⟨n35, c36, h34, h123⟩ := hh
              have hh := brn_some h123; clear h123; rcases hh with ⟨h37, h123⟩ | ⟨h37, h123⟩
              · refine W_sound tab_ok mixed 29 _ _ _ ?_
                simp -implicitDefEqProofs only [go_sem, qa, qb, qc, qd, qe, qf, qg, qh, qi, qj, qk, ↓reduceIte, h18, h21, h23, h24, h25, h28, h30, g31, g32, g33, h34, h37]
                repeat with_reducible refine ⟨by first | kernel_rfl | decide, ?_⟩
                obtain rfl := Option.some.inj h123
                (try dsimp only at h124)
                obtain rfl := Option.some.inj h124
                exact finC [(2, .v (.int .i64 3))] [(2, .v (.int .i64 3))] (by simp [leE, lk_cons]) (.cons _ _ _ _ _ (.v _ _ (.refl _)) .nil) (by rfl) (by simp [leE, lk_cons]) (by decide) (by decide) rfl (by simp only [go_sem, qa, qb, qc, qd, qe, qf, qg, qh, qi, qj, qk, ↓reduceIte, resQ_tmp, resQ_cell, resQ_nil, retD_one, retD_two, retD_three, retD_none]; try simp [R.val, retD_one, retD_two, retD_three, retD_none])
              · refine W_sound tab_ok mixed 30 _ _ _ ?_
                simp -implicitDefEqProofs only [go_sem, qa, qb, qc, qd, qe, qf, qg, qh, qi, qj, qk, ↓reduceIte, h18, h21, h23, h24, h25, h28, h30, g31, g32, g33, h34, h37]
                repeat with_reducible refine ⟨by first | kernel_rfl | decide, ?_⟩
                have hh := bnd'_some h123; clear h123; obtain ⟨o125, h126, h127⟩ := hh
                refine Wp_cut (fun s => (.inr ()) = o125 ∧ s = ⟨[], [(0, .dead), (1, .ptr 0 0), (2, .dead), (4, .dead), (5, .dead), (6, .dead), (7, .dead), (16, .dead), (22, .v (.lst false n26 c27)), (23, .v (.int .i64 ((n26 : Nat) : Int))), (24, .v (.int .i64 x29)), (25, .dead), (30, .dead), (31, .dead), (32, .dead), (33, .dead), (34, .dead), (38, .dead), (55, .dead), (61, .dead)], [(0, .p [(.int .i64 x22), (.lst false n26 c27)])], 1, []⟩) ?_ ?_
                · refine Wp_block ?_
                  refine Wp_loopG (fun n s => ∃ x38, m22_L1 N x22 n26 c27 x29 n35 c36 n x38 = some o125 ∧ s = ⟨[], [(0, .dead), (1, .ptr 0 0), (2, .dead), (4, .v (.lst false n35 c36)), (5, .dead), (6, .dead), (7, .dead), (16, .dead), (22, .v (.lst false n26 c27)), (23, .v (.int .i64 ((n26 : Nat) : Int))), (24, .v (.int .i64 x29)), (25, .dead), (30, .dead), (31, .v (.lst false n35 c36)), (32, .v (.int .i64 ((n35 : Nat) : Int))), (33, .v (.int .i64 x38)), (34, .dead), (38, .dead), (55, .dead), (61, .dead)], [(0, .p [(.int .i64 x22), (.lst false n26 c27)])], 1, []⟩) N _ ((Wk_le (.r (.r (.r (.r (.r (.r (.r (.r (.r (.r (.r (.k (.k (.r (.r (.r (.r (.r (.r (.r .nil)))))))))))))))))))) (OLe.refl _)).trans (cmpS_ok (st' := ⟨[], [(0, .dead), (1, .ptr 0 0), (2, .dead), (4, .v (.lst false n35 c36)), (5, .dead), (6, .dead), (7, .dead), (16, .dead), (22, .v (.lst false n26 c27)), (23, .v (.int .i64 ((n26 : Nat) : Int))), (24, .v (.int .i64 x29)), (25, .dead), (30, .dead), (31, .v (.lst false n35 c36)), (32, .v (.int .i64 ((n35 : Nat) : Int))), (33, .v (.int .i64 0)), (34, .dead), (38, .dead), (55, .dead), (61, .dead)], [(0, .p [(.int .i64 x22), (.lst false n26 c27)])], 1, []⟩) (by kernel_rfl))) ⟨_, h126, rfl⟩ ?_
                  clear h126
                  rintro n _ ⟨x38, h126, rfl⟩
                  cases n with
                  | zero => cases h126
                  | succ n =>
                    rw [m22_L1] at h126
                    have hh := brn_some h126; clear h126; rcases hh with ⟨h39, h126⟩ | ⟨h39, h126⟩
                    · have hh := grd_some h126; clear h126; obtain ⟨⟨g40, g41⟩, h126⟩ := hh
                      have hh := grd_some h126; clear h126; obtain ⟨g42, h126⟩ := hh
                      have hh := getA2_some h126; clear h126; obtain ⟨p44, p45, h43, h126⟩ := hh
                      injection h43 with h43
                      have hh := getI_some h126; clear h126; obtain ⟨x47, h46, h126⟩ := hh
                      have hh := getI_some h126; clear h126; obtain ⟨x49, h48, h126⟩ := hh
                      have hh := brn_some h126; clear h126; rcases hh with ⟨h50, h126⟩ | ⟨h50, h126⟩
                      · refine W_sound tab_ok mixed 46 _ _ _ ?_
                        simp -implicitDefEqProofs only [go_sem, qa, qb, qc, qd, qe, qf, qg, qh, qi, qj, qk, ↓reduceIte, h18, h21, h23, h24, h25, h28, h30, g31, g32, g33, h34, h37, h39, g40, g41, g42, h43, h46, h48, h50]
                        repeat with_reducible refine ⟨by first | kernel_rfl | decide, ?_⟩
                        obtain rfl := Option.some.inj h126
                        (try dsimp only at h127)
                        obtain rfl := Option.some.inj h127
                        (try dsimp only at h124)
                        obtain rfl := Option.some.inj h124
                        exact finC [(2, .v (.int .i64 2))] [(2, .v (.int .i64 2))] (by simp [leE, lk_cons]) (.cons _ _ _ _ _ (.v _ _ (.refl _)) .nil) (by rfl) (by simp [leE, lk_cons]) (by decide) (by decide) rfl (by simp only [go_sem, qa, qb, qc, qd, qe, qf, qg, qh, qi, qj, qk, ↓reduceIte, resQ_tmp, resQ_cell, resQ_nil, retD_one, retD_two, retD_three, retD_none]; try simp [R.val, retD_one, retD_two, retD_three, retD_none])
                      · have hh := brn_some h126; clear h126; rcases hh with ⟨h51, h126⟩ | ⟨h51, h126⟩
                        · refine W_sound tab_ok mixed 46 _ _ _ ?_
                          simp -implicitDefEqProofs only [go_sem, qa, qb, qc, qd, qe, qf, qg, qh, qi, qj, qk, ↓reduceIte, h18, h21, h23, h24, h25, h28, h30, g31, g32, g33, h34, h37, h39, g40, g41, g42, h43, h46, h48, h50, h51]
                          repeat with_reducible refine ⟨by first | kernel_rfl | decide, ?_⟩
                          obtain rfl := Option.some.inj h126
                          (try dsimp only at h127)
                          obtain rfl := Option.some.inj h127
                          (try dsimp only at h124)
                          obtain rfl := Option.some.inj h124
                          exact finC [(2, .v (.int .i64 2))] [(2, .v (.int .i64 2))] (by simp [leE, lk_cons]) (.cons _ _ _ _ _ (.v _ _ (.refl _)) .nil) (by rfl) (by simp [leE, lk_cons]) (by decide) (by decide) rfl (by simp only [go_sem, qa, qb, qc, qd, qe, qf, qg, qh, qi, qj, qk, ↓reduceIte, resQ_tmp, resQ_cell, resQ_nil, retD_one, retD_two, retD_three, retD_none]; try simp [R.val, retD_one, retD_two, retD_three, retD_none])
                        · have hh := brn_some h126; clear h126; rcases hh with ⟨h52, h126⟩ | ⟨h52, h126⟩
                          · refine W_sound tab_ok mixed 56 _ _ _ ?_
                            simp -implicitDefEqProofs only [go_sem, qa, qb, qc, qd, qe, qf, qg, qh, qi, qj, qk, ↓reduceIte, h18, h21, h23, h24, h25, h28, h30, g31, g32, g33, h34, h37, h39, g40, g41, g42, h43, h46, h48, h50, h51, h52]
                            repeat with_reducible refine ⟨by first | kernel_rfl | decide, ?_⟩
                            obtain rfl := Option.some.inj h126
                            (try dsimp only at h127)
                            obtain rfl := Option.some.inj h127
                            (try dsimp only at h124)
                            obtain rfl := Option.some.inj h124
                            exact finC [(2, .v (.int .i64 7))] [(2, .v (.int .i64 7))] (by simp [leE, lk_cons]) (.cons _ _ _ _ _ (.v _ _ (.refl _)) .nil) (by rfl) (by simp [leE, lk_cons]) (by decide) (by decide) rfl (by simp only [go_sem, qa, qb, qc, qd, qe, qf, qg, qh, qi, qj, qk, ↓reduceIte, resQ_tmp, resQ_cell, resQ_nil, retD_one, retD_two, retD_three, retD_none]; try simp [R.val, retD_one, retD_two, retD_three, retD_none])
                          · have hh := grd_some h126; clear h126; obtain ⟨g53, h126⟩ := hh
                            have hh := grd_some h126; clear h126; obtain ⟨g54, h126⟩ := hh
                            have hh := bnd'_some h126; clear h126; obtain ⟨p115, h116, h126⟩ := hh
                            refine W_sound tab_ok mixed 56 _ _ _ ?_
                            simp -implicitDefEqProofs only [go_sem, qa, qb, qc, qd, qe, qf, qg, qh, qi, qj, qk, ↓reduceIte, h18, h21, h23, h24, h25, h28, h30, g31, g32, g33, h34, h37, h39, g40, g41, g42, h43, h46, h48, h50, h51, h52, g53, g54]
                            repeat with_reducible refine ⟨by first | kernel_rfl | decide, ?_⟩
                            refine Wp_callP (c51 N _ _ _ h116) (by kernel_rfl) rfl rfl rfl rfl (by decide) ?_
                            have hh := getB_some h126; clear h126; obtain ⟨b118, h117, h126⟩ := hh
                            have hh := brn_some h126; clear h126; rcases hh with ⟨h119, h126⟩ | ⟨h119, h126⟩
                            · refine W_sound tab_ok mixed 9 _ _ _ ?_
                              simp -implicitDefEqProofs only [go_sem, qa, qb, qc, qd, qe, qf, qg, qh, qi, qj, qk, ↓reduceIte, h18, h21, h23, h24, h25, h28, h30, g31, g32, g33, h34, h37, h39, g40, g41, g42, h43, h46, h48, h50, h51, h52, g53, g54, h117, h119]
                              repeat with_reducible refine ⟨by first | kernel_rfl | decide, ?_⟩
                              obtain rfl := Option.some.inj h126
                              (try dsimp only at h127)
                              obtain rfl := Option.some.inj h127
                              (try dsimp only at h124)
                              obtain rfl := Option.some.inj h124
                              exact finC [(2, .v (.int .i64 6))] [(2, .v (.int .i64 6))] (by simp [leE, lk_cons]) (.cons _ _ _ _ _ (.v _ _ (.refl _)) .nil) (by rfl) (by simp [leE, lk_cons]) (by decide) (by decide) rfl (by simp only [go_sem, qa, qb, qc, qd, qe, qf, qg, qh, qi, qj, qk, ↓reduceIte, resQ_tmp, resQ_cell, resQ_nil, retD_one, retD_two, retD_three, retD_none]; try simp [R.val, retD_one, retD_two, retD_three, retD_none])
                            · refine W_sound tab_ok mixed 10 _ _ _ ?_
                              simp -implicitDefEqProofs only [go_sem, qa, qb, qc, qd, qe, qf, qg, qh, qi, qj, qk, ↓reduceIte, h18, h21, h23, h24, h25, h28, h30, g31, g32, g33, h34, h37, h39, g40, g41, g42, h43, h46, h48, h50, h51, h52, g53, g54, h117, h119]
                              repeat with_reducible refine ⟨by first | kernel_rfl | decide, ?_⟩
                              exact cutQ _ ((Wk_le (.r (.r (.r (.r (.k (.k (.r (.r (.r (.r (.r (.r (.r (.r (.r (.r (.k (.k (.k (.k .nil)))))))))))))))))))) (OLe.refl _)).trans (cmpS_ok (st' := ⟨[], [(0, .dead), (1, .ptr 0 0), (2, .dead), (4, .v (.lst false n35 c36)), (5, .dead), (6, .dead), (7, .dead), (16, .dead), (22, .v (.lst false n26 c27)), (23, .v (.int .i64 ((n26 : Nat) : Int))), (24, .v (.int .i64 x29)), (25, .dead), (30, .dead), (31, .v (.lst false n35 c36)), (32, .v (.int .i64 ((n35 : Nat) : Int))), (33, .v (.int .i64 (IntKind.i64.wrap (x38 + 1)))), (34, .dead), (38, .dead), (55, .dead), (61, .dead)], [(0, .p [(.int .i64 x22), (.lst false n26 c27)])], 1, []⟩) (by kernel_rfl))) ⟨n, Nat.lt_succ_self n, _, h126, rfl⟩
                    · refine W_sound tab_ok mixed 7 _ _ _ ?_
                      simp -implicitDefEqProofs only [go_sem, qa, qb, qc, qd, qe, qf, qg, qh, qi, qj, qk, ↓reduceIte, h18, h21, h23, h24, h25, h28, h30, g31, g32, g33, h34, h37, h39]
                      repeat with_reducible refine ⟨by first | kernel_rfl | decide, ?_⟩
                      obtain rfl := Option.some.inj h126
                      exact cutQ _ ((Wk_le (.r (.r (.r (.k (.r (.r (.r (.r (.r (.r (.r (.r (.r (.k (.k (.k (.k (.r (.r (.r .nil)))))))))))))))))))) (OLe.refl _)).trans (cmpS_ok (st' := ⟨[], [(0, .dead), (1, .ptr 0 0), (2, .dead), (4, .dead), (5, .dead), (6, .dead), (7, .dead), (16, .dead), (22, .v (.lst false n26 c27)), (23, .v (.int .i64 ((n26 : Nat) : Int))), (24, .v (.int .i64 x29)), (25, .dead), (30, .dead), (31, .dead), (32, .dead), (33, .dead), (34, .dead), (38, .dead), (55, .dead), (61, .dead)], [(0, .p [(.int .i64 x22), (.lst false n26 c27)])], 1, []⟩) (by kernel_rfl))) ⟨rfl, rfl⟩
                · rintro _ ⟨rfl, rfl⟩
                  (try dsimp only at h127)
                  refine W_sound tab_ok mixed 5 _ _ _ ?_
                  simp -implicitDefEqProofs only [go_sem, qa, qb, qc, qd, qe, qf, qg, qh, qi, qj, qk, ↓reduceIte, h18, h21, h23, h24, h25, h28, h30, g31, g32, g33, h34, h37]
                  repeat with_reducible refine ⟨by first | kernel_rfl | decide, ?_⟩
                  exact cutQ _ ((Wk_le (.r (.r (.r (.r (.r (.r (.r (.r (.r (.r (.r (.r (.r (.r (.r (.r (.r (.r (.r (.r .nil)))))))))))))))))))) (OLe.refl _)).trans (cmpS_ok (st' := ⟨[], [(0, .dead), (1, .ptr 0 0), (2, .dead), (4, .dead), (5, .dead), (6, .dead), (7, .dead), (16, .dead), (22, .v (.lst false n26 c27)), (23, .v (.int .i64 ((n26 : Nat) : Int))), (24, .v (.int .i64 (IntKind.i64.wrap (x29 + 1)))), (25, .dead), (30, .dead), (31, .dead), (32, .dead), (33, .dead), (34, .dead), (38, .dead), (55, .dead), (61, .dead)], [(0, .p [(.int .i64 x22), (.lst false n26 c27)])], 1, []⟩) (by kernel_rfl))) ⟨n, Nat.lt_succ_self n, _, h127, rfl⟩
            · refine W_sound tab_ok mixed 7 _ _ _ ?_
              simp -implicitDefEqProofs only [go_sem, qa, qb, qc, qd, qe, qf, qg, qh, qi, qj, qk, ↓reduceIte, h18, h21, h23, h24, h25, h28, h30]
              repeat with_reducible refine ⟨by first | kernel_rfl | decide, ?_⟩
              obtain rfl := Option.some.inj h123
              exact cutQ _ ((Wk_le (.r (.k (.r (.r (.r (.r (.r (.r (.k (.k (.k (.k (.r (.r (.r (.r (.r (.r (.r (.r .nil)))))))))))))))))))) (OLe.refl _)).trans (cmpS_ok (st' := ⟨[], [(0, .dead), (1, .dead), (2, .dead), (4, .dead), (5, .dead), (6, .dead), (7, .dead), (16, .dead), (22, .dead), (23, .dead), (24, .dead), (25, .dead), (30, .dead), (31, .dead), (32, .dead), (33, .dead), (34, .dead), (38, .dead), (55, .dead), (61, .dead)], [], 0, []⟩) (by kernel_rfl))) ⟨rfl, rfl⟩
        · rintro _ ⟨rfl, rfl⟩
          (try dsimp only at h124)
          refine W_sound tab_ok mixed 6 _ _ _ ?_
          simp -implicitDefEqProofs only [go_sem, qa, qb, qc, qd, qe, qf, qg, qh, qi, qj, qk, ↓reduceIte, h18, h21, h23, h24, h25, h28]
          repeat with_reducible refine ⟨by first | kernel_rfl | decide, ?_⟩
          obtain rfl := Option.some.inj h124
          exact finC [(2, .v (.int .i64 0))] [(2, .v (.int .i64 0))] (by simp [leE, lk_cons]) (.cons _ _ _ _ _ (.v _ _ (.refl _)) .nil) (by rfl) (by simp [leE, lk_cons]) (by decide) (by decide) rfl (by simp only [go_sem, qa, qb, qc, qd, qe, qf, qg, qh, qi, qj, qk, ↓reduceIte, resQ_tmp, resQ_cell, resQ_nil, retD_one, retD_two, retD_three, retD_none]; try simp [R.val, retD_one, retD_two, retD_three, retD_none])
def m97_L0 (N : Nat)  : Nat → Int → List PV → Option (List PV)
  | 0, _, _ => none
  | n + 1, x249, c250 =>
    brn (decide (x249 < 5)) (
      grd (0 ≤ x249 ∧ x249 < 5) <|
      grd (((Int.toNat x249) + 1) ≤ List.length c250) <|
      m97_L0 N  n (IntKind.i64.wrap (x249 + 1)) (List.set c250 (Int.toNat x249) (.int .i64 x249))) (
      some c250)
def m97 (N : Nat)  : Option (PV) :=
  bnd' (m97_L0 N  N 0 [(.int .i64 0), (.int .i64 0), (.int .i64 0), (.int .i64 0), (.int .i64 0)]) fun c255 =>
  grd (5 ≤ List.length c255) <|
  getA5 (.agg (List.take 5 c255)) fun p258 p259 p260 p261 p262 =>
  some (.agg [p258, p259, p260, p261, p262])
theorem c97 (N : Nat)  (r : PV)  (h : m97 N  = some r) : FnP Tryd.prog 97 [] r := by
  unfold m97 at h
  refine Fn_of (sz := 11) tab_ok [0, 1, 2, 3, 4] [.cell 0 98] Tryd.func97 rfl rfl rfl (by simp) ?_
  simp only [initSt, initEnv, List.map_cons, List.map_nil, List.getD_cons_zero, List.getD_cons_succ, List.getD_nil]
  refine W_sound tab_ok mixed 13 _ _ _ ?_
  simp -implicitDefEqProofs only [go_sem, qa, qb, qc, qd, qe, qf, qg, qh, qi, qj, qk, ↓reduceIte]
  repeat with_reducible refine ⟨by first | kernel_rfl | decide, ?_⟩
  have hh := bnd'_some h; clear h; obtain ⟨o263, h264, h265⟩ := hh
  refine Wp_cut (fun s => ∃ c255, c255 = o263 ∧ s = ⟨[], [(0, .ptr 0 0), (1, .ptr 1 0), (2, .dead), (3, .dead), (4, .dead)], [(0, .p [(.int .i64 0), (.int .i64 0), (.int .i64 0), (.int .i64 0), (.int .i64 0)]), (1, .p c255)], 2, []⟩) ?_ ?_
  · refine Wp_block ?_
    refine Wp_loopG (fun n s => ∃ x249, ∃ c250, m97_L0 N  n x249 c250 = some o263 ∧ s = ⟨[], [(0, .ptr 0 0), (1, .ptr 1 0), (2, .dead), (3, .v (.int .i64 x249)), (4, .dead)], [(0, .p [(.int .i64 0), (.int .i64 0), (.int .i64 0), (.int .i64 0), (.int .i64 0)]), (1, .p c250)], 2, []⟩) N _ ((Wk_le (.r (.r (.r (.r (.r .nil))))) (OLe.refl _)).trans (cmpS_ok rfl)) ⟨_, _, h264, rfl⟩ ?_
    clear h264
    rintro n _ ⟨x249, c250, h264, rfl⟩
    cases n with
    | zero => cases h264
    | succ n =>
      rw [m97_L0] at h264
      have hh := brn_some h264; clear h264; rcases hh with ⟨h251, h264⟩ | ⟨h251, h264⟩
      · have hh := grd_some h264; clear h264; obtain ⟨⟨g252, g253⟩, h264⟩ := hh
        have hh := grd_some h264; clear h264; obtain ⟨g254, h264⟩ := hh
        refine W_sound tab_ok mixed 25 _ _ _ ?_
        simp -implicitDefEqProofs only [go_sem, qa, qb, qc, qd, qe, qf, qg, qh, qi, qj, qk, ↓reduceIte, h251, g252, g253, g254]
        repeat with_reducible refine ⟨by first | kernel_rfl | decide, ?_⟩
        exact cutQ _ ((Wk_le (.r (.r (.k (.r (.k .nil))))) (OLe.refl _)).trans (cmpS_ok rfl)) ⟨n, Nat.lt_succ_self n, _, _, h264, rfl⟩
      · refine W_sound tab_ok mixed 7 _ _ _ ?_
        simp -implicitDefEqProofs only [go_sem, qa, qb, qc, qd, qe, qf, qg, qh, qi, qj, qk, ↓reduceIte, h251]
        repeat with_reducible refine ⟨by first | kernel_rfl | decide, ?_⟩
        obtain rfl := Option.some.inj h264
        exact cutQ _ ((Wk_le (.r (.r (.r (.k (.k .nil))))) (OLe.refl _)).trans (cmpS_ok rfl)) ⟨_, rfl, rfl⟩
  · rintro _ ⟨c255, rfl, rfl⟩
    have hh := grd_some h265; clear h265; obtain ⟨g256, h265⟩ := hh
    have hh := getA5_some h265; clear h265; obtain ⟨p258, p259, p260, p261, p262, h257, h265⟩ := hh
    injection h257 with h257
    refine W_sound tab_ok mixed 7 _ _ _ ?_
    simp -implicitDefEqProofs only [go_sem, qa, qb, qc, qd, qe, qf, qg, qh, qi, qj, qk, ↓reduceIte, g256, h257]
    repeat with_reducible refine ⟨by first | kernel_rfl | decide, ?_⟩
    refine FinQ_wk (Wk_freeze 0 [p258, p259, p260, p261, p262] (by rfl) (by decide) (by decide)) ?_
    simp -implicitDefEqProofs only [go_sem, qa, qb, qc, qd, qe, qf, qg, qh, qi, qj, qk, ↓reduceIte, g256, h257]
    obtain rfl := Option.some.inj h265
    exact finC [(0, .v (.ipt [p258, p259, p260, p261, p262]))] [(0, .v (.ipt [p258, p259, p260, p261, p262]))] (by simp [leE, lk_cons]) (.cons _ _ _ _ _ (.v _ _ (.refl _)) .nil) (by rfl) (by simp [leE, lk_cons]) (by decide) (by decide) rfl (by simp only [go_sem, qa, qb, qc, qd, qe, qf, qg, qh, qi, qj, qk, ↓reduceIte, resQ_tmp, resQ_cell, resQ_nil, retD_one, retD_two, retD_three, retD_none]; try simp [R.val, retD_one, retD_two, retD_three, retD_none])
def m71 (N : Nat) (p283 : PV) (p284 : PV) : Option (PV) :=
  getA5 p283 fun p286 p287 p288 p289 p290 =>
  getA2 p284 fun p292 p293 =>
  getI .i64 p292 fun x295 =>
  grd (0 ≤ x295 ∧ x295 < 5) <|
  grd ((Int.toNat x295) < 5) <|
  getI .i64 (gp [p286, p287, p288, p289, p290] (Int.toNat x295)) fun x300 =>
  getI .i64 p293 fun x302 =>
  grd (0 ≤ x302 ∧ x302 < 5) <|
  grd ((Int.toNat x302) < 5) <|
  getI .i64 (gp [p286, p287, p288, p289, p290] (Int.toNat x302)) fun x307 =>
  some (.bool (x300 == x307))
theorem c71 (N : Nat) (p283 : PV) (p284 : PV) (r : PV)  (h : m71 N p283 p284 = some r) : FnP Tryd.prog 71 [p283, p284] r := by
  unfold m71 at h
  refine Fn_of (sz := 14) tab_ok [0, 1, 2, 3, 4] [.tmp 4] Tryd.func71 rfl rfl rfl (by simp) ?_
  simp only [initSt, initEnv, List.map_cons, List.map_nil, List.getD_cons_zero, List.getD_cons_succ, List.getD_nil]
  have hh := getA5_some h; clear h; obtain ⟨p286, p287, p288, p289, p290, h285, h⟩ := hh
  have hh := getA2_some h; clear h; obtain ⟨p292, p293, h291, h⟩ := hh
  have hh := getI_some h; clear h; obtain ⟨x295, h294, h⟩ := hh
  have hh := grd_some h; clear h; obtain ⟨⟨g296, g297⟩, h⟩ := hh
  have hh := grd_some h; clear h; obtain ⟨g298, h⟩ := hh
  have hh := getI_some h; clear h; obtain ⟨x300, h299, h⟩ := hh
  have hh := getI_some h; clear h; obtain ⟨x302, h301, h⟩ := hh
  have hh := grd_some h; clear h; obtain ⟨⟨g303, g304⟩, h⟩ := hh
  have hh := grd_some h; clear h; obtain ⟨g305, h⟩ := hh
  have hh := getI_some h; clear h; obtain ⟨x307, h306, h⟩ := hh
  refine W_sound tab_ok mixed 21 _ _ _ ?_
  simp -implicitDefEqProofs only [go_sem, qa, qb, qc, qd, qe, qf, qg, qh, qi, qj, qk, ↓reduceIte, h285, h291, h294, g296, g297, g298, h299, h301, g303, g304, g305, h306]
  repeat with_reducible refine ⟨by first | kernel_rfl | decide, ?_⟩
  obtain rfl := Option.some.inj h
  exact finC [(4, .v (.bool (x300 == x307)))] [(4, .v (.bool (x300 == x307)))] (by simp [leE, lk_cons]) (.cons _ _ _ _ _ (.v _ _ (.refl _)) .nil) (by rfl) (by simp [leE, lk_cons]) (by decide) (by decide) rfl (by simp only [go_sem, qa, qb, qc, qd, qe, qf, qg, qh, qi, qj, qk, ↓reduceIte, resQ_tmp, resQ_cell, resQ_nil, retD_one, retD_two, retD_three, retD_none]; try simp [R.val, retD_one, retD_two, retD_three, retD_none])
def m98_L0 (N : Nat) (p316 : PV) (p317 : PV) (p318 : PV) (p319 : PV) (p320 : PV) (x330 : Int) (x337 : Int) : Nat → Int → List PV → Option (List PV)
  | 0, _, _ => none
  | n + 1, x346, c347 =>
    brn (decide (x346 < 5)) (
      grd (0 ≤ x346 ∧ x346 < 5) <|
      getI .i64 (gp [p316, p317, p318, p319, p320] (Int.toNat x346)) fun x352 =>
      brn (x352 == (maxI x330 x337)) (
        grd (((Int.toNat x346) + 1) ≤ List.length c347) <|
        m98_L0 N p316 p317 p318 p319 p320 x330 x337 n (IntKind.i64.wrap (x346 + 1)) (List.set c347 (Int.toNat x346) (.int .i64 (minI x330 x337)))) (
        m98_L0 N p316 p317 p318 p319 p320 x330 x337 n (IntKind.i64.wrap (x346 + 1)) c347)) (
      some c347)
def m98 (N : Nat) (p313 : PV) (p314 : PV) : Option (PV) :=
  getA5 p313 fun p316 p317 p318 p319 p320 =>
  getA2 p314 fun p322 p323 =>
  getI .i64 p322 fun x325 =>
  grd (0 ≤ x325 ∧ x325 < 5) <|
  grd ((Int.toNat x325) < 5) <|
  getI .i64 (gp [p316, p317, p318, p319, p320] (Int.toNat x325)) fun x330 =>
  getI .i64 p323 fun x332 =>
  grd (0 ≤ x332 ∧ x332 < 5) <|
  grd ((Int.toNat x332) < 5) <|
  getI .i64 (gp [p316, p317, p318, p319, p320] (Int.toNat x332)) fun x337 =>
  bnd' (m98_L0 N p316 p317 p318 p319 p320 x330 x337 N 0 [p316, p317, p318, p319, p320]) fun c355 =>
  grd (5 ≤ List.length c355) <|
  getA5 (.agg (List.take 5 c355)) fun p358 p359 p360 p361 p362 =>
  some (.agg [p358, p359, p360, p361, p362])
theorem c98 (N : Nat) (p313 : PV) (p314 : PV) (r : PV)  (h : m98 N p313 p314 = some r) : FnP Tryd.prog 98 [p313, p314] r := by
  unfold m98 at h
  refine Fn_of (sz := 40) tab_ok [0, 1, 2, 3, 4, 5, 6, 7, 8, 27, 28, 29, 34] [.cell 4 98] Tryd.func98 rfl rfl rfl (by simp) ?_
  simp only [initSt, initEnv, List.map_cons, List.map_nil, List.getD_cons_zero, List.getD_cons_succ, List.getD_nil]
  have hh := getA5_some h; clear h; obtain ⟨p316, p317, p318, p319, p320, h315, h⟩ := hh
  have hh := getA2_some h; clear h; obtain ⟨p322, p323, h321, h⟩ := hh
  have hh := getI_some h; clear h; obtain ⟨x325, h324, h⟩ := hh
  have hh := grd_some h; clear h; obtain ⟨⟨g326, g327⟩, h⟩ := hh
  have hh := grd_some h; clear h; obtain ⟨g328, h⟩ := hh
  have hh := getI_some h; clear h; obtain ⟨x330, h329, h⟩ := hh
  have hh := getI_some h; clear h; obtain ⟨x332, h331, h⟩ := hh
  have hh := grd_some h; clear h; obtain ⟨⟨g333, g334⟩, h⟩ := hh
  have hh := grd_some h; clear h; obtain ⟨g335, h⟩ := hh
  have hh := getI_some h; clear h; obtain ⟨x337, h336, h⟩ := hh
  refine W_sound tab_ok mixed 35 _ _ _ ?_
  simp -implicitDefEqProofs only [go_sem, qa, qb, qc, qd, qe, qf, qg, qh, qi, qj, qk, ↓reduceIte, h315, h321, h324, g326, g327, g328, h329, h331, g333, g334, g335, h336]
  repeat with_reducible refine ⟨by first | kernel_rfl | decide, ?_⟩
  have hh := bnd'_some h; clear h; obtain ⟨o363, h364, h365⟩ := hh
  refine Wp_cut (fun s => ∃ c355, c355 = o363 ∧ s = ⟨[], [(0, .dead), (1, .dead), (2, .ptr 0 0), (3, .dead), (4, .ptr 1 0), (5, .dead), (6, .dead), (7, .dead), (8, .dead), (27, .dead), (28, .dead), (29, .dead), (34, .dead)], [(0, .p c355), (1, .p [(.int .i64 0), (.int .i64 0), (.int .i64 0), (.int .i64 0), (.int .i64 0)])], 2, []⟩) ?_ ?_
  · refine Wp_block ?_
    refine Wp_loopG (fun n s => ∃ x346, ∃ c347, m98_L0 N p316 p317 p318 p319 p320 x330 x337 n x346 c347 = some o363 ∧ s = ⟨[], [(0, .dead), (1, .dead), (2, .ptr 0 0), (3, .dead), (4, .ptr 1 0), (5, .v (.int .i64 (minI x330 x337))), (6, .v (.int .i64 (maxI x330 x337))), (7, .dead), (8, .dead), (27, .v (.agg [p316, p317, p318, p319, p320])), (28, .v (.int .i64 x346)), (29, .dead), (34, .dead)], [(0, .p c347), (1, .p [(.int .i64 0), (.int .i64 0), (.int .i64 0), (.int .i64 0), (.int .i64 0)])], 2, []⟩) N _ ((Wk_le (.k (.k (.r (.k (.r (.r (.r (.r (.r (.r (.r (.r (.r .nil))))))))))))) (OLe.refl _)).trans (cmpS_ok (st' := ⟨[], [(0, .dead), (1, .dead), (2, .ptr 0 0), (3, .dead), (4, .ptr 1 0), (5, .v (.int .i64 (minI x330 x337))), (6, .v (.int .i64 (maxI x330 x337))), (7, .dead), (8, .dead), (27, .v (.agg [p316, p317, p318, p319, p320])), (28, .v (.int .i64 0)), (29, .dead), (34, .dead)], [(0, .p [p316, p317, p318, p319, p320]), (1, .p [(.int .i64 0), (.int .i64 0), (.int .i64 0), (.int .i64 0), (.int .i64 0)])], 2, []⟩) (by kernel_rfl))) ⟨_, _, h364, rfl⟩ ?_
    clear h364
    rintro n _ ⟨x346, c347, h364, rfl⟩
    cases n with
    | zero => cases h364
    | succ n =>
      rw [m98_L0] at h364
      have hh := brn_some h364; clear h364; rcases hh with ⟨h348, h364⟩ | ⟨h348, h364⟩
      · have hh := grd_some h364; clear h364; obtain ⟨⟨g349, g350⟩, h364⟩ := hh
        have hh := getI_some h364; clear h364; obtain ⟨x352, h351, h364⟩ := hh
        have hh := brn_some h364; clear h364; rcases hh with ⟨h353, h364⟩ | ⟨h353, h364⟩
        · have hh := grd_some h364; clear h364; obtain ⟨g354, h364⟩ := hh
          refine W_sound tab_ok mixed 34 _ _ _ ?_
          simp -implicitDefEqProofs only [go_sem, qa, qb, qc, qd, qe, qf, qg, qh, qi, qj, qk, ↓reduceIte, h315, h321, h324, g326, g327, g328, h329, h331, g333, g334, g335, h336, h348, g349, g350, h351, h353, g354]
          repeat with_reducible refine ⟨by first | kernel_rfl | decide, ?_⟩
          exact cutQ _ ((Wk_le (.r (.r (.r (.r (.r (.r (.r (.k (.k (.r (.r (.k (.k .nil))))))))))))) (OLe.refl _)).trans (cmpS_ok (st' := ⟨[], [(0, .dead), (1, .dead), (2, .ptr 0 0), (3, .dead), (4, .ptr 1 0), (5, .v (.int .i64 (minI x330 x337))), (6, .v (.int .i64 (maxI x330 x337))), (7, .dead), (8, .dead), (27, .v (.agg [p316, p317, p318, p319, p320])), (28, .v (.int .i64 (IntKind.i64.wrap (x346 + 1)))), (29, .dead), (34, .dead)], [(0, .p (List.set c347 (Int.toNat x346) (.int .i64 (minI x330 x337)))), (1, .p [(.int .i64 0), (.int .i64 0), (.int .i64 0), (.int .i64 0), (.int .i64 0)])], 2, []⟩) (by kernel_rfl))) ⟨n, Nat.lt_succ_self n, _, _, h364, rfl⟩
        · refine W_sound tab_ok mixed 29 _ _ _ ?_
          simp -implicitDefEqProofs only [go_sem, qa, qb, qc, qd, qe, qf, qg, qh, qi, qj, qk, ↓reduceIte, h315, h321, h324, g326, g327, g328, h329, h331, g333, g334, g335, h336, h348, g349, g350, h351, h353]
          repeat with_reducible refine ⟨by first | kernel_rfl | decide, ?_⟩
          exact cutQ _ ((Wk_le (.r (.r (.r (.r (.r (.r (.r (.k (.k (.r (.r (.k (.k .nil))))))))))))) (OLe.refl _)).trans (cmpS_ok (st' := ⟨[], [(0, .dead), (1, .dead), (2, .ptr 0 0), (3, .dead), (4, .ptr 1 0), (5, .v (.int .i64 (minI x330 x337))), (6, .v (.int .i64 (maxI x330 x337))), (7, .dead), (8, .dead), (27, .v (.agg [p316, p317, p318, p319, p320])), (28, .v (.int .i64 (IntKind.i64.wrap (x346 + 1)))), (29, .dead), (34, .dead)], [(0, .p c347), (1, .p [(.int .i64 0), (.int .i64 0), (.int .i64 0), (.int .i64 0), (.int .i64 0)])], 2, []⟩) (by kernel_rfl))) ⟨n, Nat.lt_succ_self n, _, _, h364, rfl⟩
      · refine W_sound tab_ok mixed 7 _ _ _ ?_
        simp -implicitDefEqProofs only [go_sem, qa, qb, qc, qd, qe, qf, qg, qh, qi, qj, qk, ↓reduceIte, h315, h321, h324, g326, g327, g328, h329, h331, g333, g334, g335, h336, h348]
        repeat with_reducible refine ⟨by first | kernel_rfl | decide, ?_⟩
        obtain rfl := Option.some.inj h364
        exact cutQ _ ((Wk_le (.r (.r (.r (.r (.r (.k (.k (.r (.r (.k (.k (.k (.r .nil))))))))))))) (OLe.refl _)).trans (cmpS_ok (st' := ⟨[], [(0, .dead), (1, .dead), (2, .ptr 0 0), (3, .dead), (4, .ptr 1 0), (5, .dead), (6, .dead), (7, .dead), (8, .dead), (27, .dead), (28, .dead), (29, .dead), (34, .dead)], [(0, .p c347), (1, .p [(.int .i64 0), (.int .i64 0), (.int .i64 0), (.int .i64 0), (.int .i64 0)])], 2, []⟩) (by kernel_rfl))) ⟨_, rfl, rfl⟩
  · rintro _ ⟨c355, rfl, rfl⟩
    have hh := grd_some h365; clear h365; obtain ⟨g356, h365⟩ := hh
    have hh := getA5_some h365; clear h365; obtain ⟨p358, p359, p360, p361, p362, h357, h365⟩ := hh
    injection h357 with h357
    refine W_sound tab_ok mixed 7 _ _ _ ?_
    simp -implicitDefEqProofs only [go_sem, qa, qb, qc, qd, qe, qf, qg, qh, qi, qj, qk, ↓reduceIte, h315, h321, h324, g326, g327, g328, h329, h331, g333, g334, g335, h336, g356, h357]
    repeat with_reducible refine ⟨by first | kernel_rfl | decide, ?_⟩
    refine FinQ_wk (Wk_freeze 1 [p358, p359, p360, p361, p362] (by rfl) (by decide) (by decide)) ?_
    simp -implicitDefEqProofs only [go_sem, qa, qb, qc, qd, qe, qf, qg, qh, qi, qj, qk, ↓reduceIte, h315, h321, h324, g326, g327, g328, h329, h331, g333, g334, g335, h336, g356, h357]
    obtain rfl := Option.some.inj h365
    exact finC [(4, .v (.ipt [p358, p359, p360, p361, p362]))] [(4, .v (.ipt [p358, p359, p360, p361, p362]))] (by simp [leE, lk_cons]) (.cons _ _ _ _ _ (.v _ _ (.refl _)) .nil) (by rfl) (by simp [leE, lk_cons]) (by decide) (by decide) rfl (by simp only [go_sem, qa, qb, qc, qd, qe, qf, qg, qh, qi, qj, qk, ↓reduceIte, resQ_tmp, resQ_cell, resQ_nil, retD_one, retD_two, retD_three, retD_none]; try simp [R.val, retD_one, retD_two, retD_three, retD_none])
def m70_L0 (N : Nat) (n242 : Nat) (c243 : List PV) : Nat → Int → Int → PV → PV → PV → PV → PV → Option (Int)
  | 0, _, _, _, _, _, _, _ => none
  | n + 1, x374, x375, p376, p377, p378, p379, p380 =>
    brn (decide (x375 < ((n242 : Nat) : Int))) (
      grd (0 ≤ x375 ∧ x375 < ((n242 : Nat) : Int)) <|
      grd (2 ≤ List.length (List.drop ((Int.toNat x375) * 2) c243)) <|
      getA2 (.agg (List.take 2 (List.drop ((Int.toNat x375) * 2) c243))) fun p386 p387 =>
      bnd' (m71 N (.agg [p376, p377, p378, p379, p380]) (.agg [p386, p387])) fun p388 =>
      getB p388 fun b391 =>
      brn b391 (
        m70_L0 N n242 c243 n x374 (IntKind.i64.wrap (x375 + 1)) p376 p377 p378 p379 p380) (
        bnd' (m98 N (.agg [p376, p377, p378, p379, p380]) (.agg [p386, p387])) fun p393 =>
        getA5 p393 fun p396 p397 p398 p399 p400 =>
        m70_L0 N n242 c243 n (IntKind.i64.wrap (x374 + 1)) (IntKind.i64.wrap (x375 + 1)) p396 p397 p398 p399 p400)) (
      some x374)
def m70 (N : Nat) (p240 : PV) : Option (PV) :=
  getL p240 fun n242 c243 =>
  bnd' (m97 N ) fun p266 =>
  getA5 p266 fun p269 p270 p271 p272 p273 =>
  bnd' (m70_L0 N n242 c243 N 0 0 p269 p270 p271 p272 p273) fun x401 =>
  some (.int .i64 x401)
theorem c70 (N : Nat) (p240 : PV) (r : PV)  (h : m70 N p240 = some r) : FnP Tryd.prog 70 [p240, (.fn 71 [])] r := by
  unfold m70 at h
  refine Fn_of (sz := 28) tab_ok [0, 1, 4, 5, 6, 8, 10, 11, 12, 13, 20] [.tmp 4] Tryd.func70 rfl rfl rfl (by simp) ?_
  simp only [initSt, initEnv, List.map_cons, List.map_nil, List.getD_cons_zero, List.getD_cons_succ, List.getD_nil]
  have hh := getL_some h; clear h; obtain ⟨n242, c243, h241, h⟩ := hh
  have hh := bnd'_some h; clear h; obtain ⟨p266, h267, h⟩ := hh
  refine W_sound tab_ok mixed 6 _ _ _ ?_
  simp -implicitDefEqProofs only [go_sem, qa, qb, qc, qd, qe, qf, qg, qh, qi, qj, qk, ↓reduceIte, h241]
  repeat with_reducible refine ⟨by first | kernel_rfl | decide, ?_⟩
  refine Wp_callP (c97 N  _ h267) (by kernel_rfl) rfl rfl rfl rfl (by decide) ?_
  have hh := getA5_some h; clear h; obtain ⟨p269, p270, p271, p272, p273, h268, h⟩ := hh
  refine W_sound tab_ok mixed 11 _ _ _ ?_
  simp -implicitDefEqProofs only [go_sem, qa, qb, qc, qd, qe, qf, qg, qh, qi, qj, qk, ↓reduceIte, h241, h268]
  repeat with_reducible refine ⟨by first | kernel_rfl | decide, ?_⟩
  have hh := bnd'_some h; clear h; obtain ⟨o402, h403, h404⟩ := hh
  refine Wp_cut (fun s => ∃ x401, x401 = o402 ∧ s = ⟨[], [(0, .dead), (1, .dead), (4, .dead), (5, .dead), (6, .v (.int .i64 x401)), (8, .dead), (10, .dead), (11, .dead), (12, .dead), (13, .dead), (20, .dead)], [], 0, []⟩) ?_ ?_
  · refine Wp_block ?_
    refine Wp_loopG (fun n s => ∃ x374, ∃ x375, ∃ p376, ∃ p377, ∃ p378, ∃ p379, ∃ p380, m70_L0 N n242 c243 n x374 x375 p376 p377 p378 p379 p380 = some o402 ∧ s = ⟨[], [(0, .dead), (1, .v (.fn 71 [])), (4, .dead), (5, .ptr 0 0), (6, .v (.int .i64 x374)), (8, .dead), (10, .v (.lst false n242 c243)), (11, .v (.int .i64 ((n242 : Nat) : Int))), (12, .v (.int .i64 x375)), (13, .dead), (20, .dead)], [(0, .p [p376, p377, p378, p379, p380])], 1, []⟩) N _ ((Wk_le (.k (.r (.k (.r (.r (.r (.r (.r (.r (.r (.r .nil))))))))))) (OLe.refl _)).trans (cmpS_ok (st' := ⟨[], [(0, .dead), (1, .v (.fn 71 [])), (4, .dead), (5, .ptr 0 0), (6, .v (.int .i64 0)), (8, .dead), (10, .v (.lst false n242 c243)), (11, .v (.int .i64 ((n242 : Nat) : Int))), (12, .v (.int .i64 0)), (13, .dead), (20, .dead)], [(0, .p [p269, p270, p271, p272, p273])], 1, []⟩) (by kernel_rfl))) ⟨_, _, _, _, _, _, _, h403, rfl⟩ ?_
    clear h403
    rintro n _ ⟨x374, x375, p376, p377, p378, p379, p380, h403, rfl⟩
    cases n with
    | zero => cases h403
    | succ n =>
      rw [m70_L0] at h403
      have hh := brn_some h403; clear h403; rcases hh with ⟨h381, h403⟩ | ⟨h381, h403⟩
      · have hh := grd_some h403; clear h403; obtain ⟨⟨g382, g383⟩, h403⟩ := hh
        have hh := grd_some h403; clear h403; obtain ⟨g384, h403⟩ := hh
        have hh := getA2_some h403; clear h403; obtain ⟨p386, p387, h385, h403⟩ := hh
        injection h385 with h385
        have hh := bnd'_some h403; clear h403; obtain ⟨p388, h389, h403⟩ := hh
        refine W_sound tab_ok mixed 21 _ _ _ ?_
        simp -implicitDefEqProofs only [go_sem, qa, qb, qc, qd, qe, qf, qg, qh, qi, qj, qk, ↓reduceIte, h241, h268, h381, g382, g383, g384, h385]
        repeat with_reducible refine ⟨by first | kernel_rfl | decide, ?_⟩
        refine Wp_callP (c71 N _ _ _ h389) (by kernel_rfl) rfl rfl rfl rfl (by decide) ?_
        have hh := getB_some h403; clear h403; obtain ⟨b391, h390, h403⟩ := hh
        have hh := brn_some h403; clear h403; rcases hh with ⟨h392, h403⟩ | ⟨h392, h403⟩
        · refine W_sound tab_ok mixed 9 _ _ _ ?_
          simp -implicitDefEqProofs only [go_sem, qa, qb, qc, qd, qe, qf, qg, qh, qi, qj, qk, ↓reduceIte, h241, h268, h381, g382, g383, g384, h385, h390, h392]
          repeat with_reducible refine ⟨by first | kernel_rfl | decide, ?_⟩
          exact cutQ _ ((Wk_le (.r (.r (.r (.r (.r (.k (.r (.r (.r (.k (.k .nil))))))))))) (OLe.refl _)).trans (cmpS_ok (st' := ⟨[], [(0, .dead), (1, .v (.fn 71 [])), (4, .dead), (5, .ptr 0 0), (6, .v (.int .i64 x374)), (8, .dead), (10, .v (.lst false n242 c243)), (11, .v (.int .i64 ((n242 : Nat) : Int))), (12, .v (.int .i64 (IntKind.i64.wrap (x375 + 1)))), (13, .dead), (20, .dead)], [(0, .p [p376, p377, p378, p379, p380])], 1, []⟩) (by kernel_rfl))) ⟨n, Nat.lt_succ_self n, _, _, _, _, _, _, _, h403, rfl⟩
        · have hh := bnd'_some h403; clear h403; obtain ⟨p393, h394, h403⟩ := hh
          refine W_sound tab_ok mixed 7 _ _ _ ?_
          simp -implicitDefEqProofs only [go_sem, qa, qb, qc, qd, qe, qf, qg, qh, qi, qj, qk, ↓reduceIte, h241, h268, h381, g382, g383, g384, h385, h390, h392]
          repeat with_reducible refine ⟨by first | kernel_rfl | decide, ?_⟩
          refine Wp_callP (c98 N _ _ _ h394) (by kernel_rfl) rfl rfl rfl rfl (by decide) ?_
          have hh := getA5_some h403; clear h403; obtain ⟨p396, p397, p398, p399, p400, h395, h403⟩ := hh
          refine W_sound tab_ok mixed 12 _ _ _ ?_
          simp -implicitDefEqProofs only [go_sem, qa, qb, qc, qd, qe, qf, qg, qh, qi, qj, qk, ↓reduceIte, h241, h268, h381, g382, g383, g384, h385, h390, h392, h395]
          repeat with_reducible refine ⟨by first | kernel_rfl | decide, ?_⟩
          exact cutQ _ ((Wk_le (.r (.r (.r (.r (.r (.k (.r (.r (.r (.k (.k .nil))))))))))) (OLe.refl _)).trans (cmpS_ok (st' := ⟨[], [(0, .dead), (1, .v (.fn 71 [])), (4, .dead), (5, .ptr 0 0), (6, .v (.int .i64 (IntKind.i64.wrap (x374 + 1)))), (8, .dead), (10, .v (.lst false n242 c243)), (11, .v (.int .i64 ((n242 : Nat) : Int))), (12, .v (.int .i64 (IntKind.i64.wrap (x375 + 1)))), (13, .dead), (20, .dead)], [(0, .p [p396, p397, p398, p399, p400])], 1, []⟩) (by kernel_rfl))) ⟨n, Nat.lt_succ_self n, _, _, _, _, _, _, _, h403, rfl⟩
      · refine W_sound tab_ok mixed 7 _ _ _ ?_
        simp -implicitDefEqProofs only [go_sem, qa, qb, qc, qd, qe, qf, qg, qh, qi, qj, qk, ↓reduceIte, h241, h268, h381]
        repeat with_reducible refine ⟨by first | kernel_rfl | decide, ?_⟩
        obtain rfl := Option.some.inj h403
        exact cutQ _ ((Wk_le (.r (.k (.r (.k (.r (.r (.k (.k (.k (.k (.r .nil))))))))))) (OLe.refl _)).trans (cmpS_ok (st' := ⟨[], [(0, .dead), (1, .dead), (4, .dead), (5, .dead), (6, .v (.int .i64 x374)), (8, .dead), (10, .dead), (11, .dead), (12, .dead), (13, .dead), (20, .dead)], [], 0, []⟩) (by kernel_rfl))) ⟨_, rfl, rfl⟩
  · rintro _ ⟨x401, rfl, rfl⟩
    refine W_sound tab_ok mixed 7 _ _ _ ?_
    simp -implicitDefEqProofs only [go_sem, qa, qb, qc, qd, qe, qf, qg, qh, qi, qj, qk, ↓reduceIte, h241, h268]
    repeat with_reducible refine ⟨by first | kernel_rfl | decide, ?_⟩
    obtain rfl := Option.some.inj h404
    exact finC [(4, .v (.int .i64 x401))] [(4, .v (.int .i64 x401))] (by simp [leE, lk_cons]) (.cons _ _ _ _ _ (.v _ _ (.refl _)) .nil) (by rfl) (by simp [leE, lk_cons]) (by decide) (by decide) rfl (by simp only [go_sem, qa, qb, qc, qd, qe, qf, qg, qh, qi, qj, qk, ↓reduceIte, resQ_tmp, resQ_cell, resQ_nil, retD_one, retD_two, retD_three, retD_none]; try simp [R.val, retD_one, retD_two, retD_three, retD_none])
def m64_L0 (N : Nat) (p174 : PV) (n177 : Nat) (c178 : List PV) : Nat → Nat → Int → PV → List PV → Option ((Nat × List PV))
  | 0, _, _, _, _ => none
  | n + 1, n215, x216, p217, c218 =>
    brn (decide (x216 < ((n177 : Nat) : Int))) (
      grd (0 ≤ x216 ∧ x216 < ((n177 : Nat) : Int)) <|
      grd (0 < List.length (List.drop (Int.toNat x216) c178)) <|
      getI .i64 (gp c178 (Int.toNat x216)) fun x224 =>
      getL p217 fun n226 c227 =>
      grd (0 ≤ x224 ∧ x224 < ((n226 : Nat) : Int)) <|
      grd (0 < List.length (List.drop (Int.toNat x224) c227)) <|
      getL (gp c227 (Int.toNat x224)) fun n232 c233 =>
      grd (List.length c233 = (n232 * 2)) <|
      grd ((n215 + n232) ≤ 1099511627776) <|
      grd (List.length c218 = (n215 * 2)) <|
      m64_L0 N p174 n177 c178 n (n215 + n232) (IntKind.i64.wrap (x216 + 1)) (.lst false n226 c227) (c218 ++ c233)) (
      some (n215, c218))
def m64 (N : Nat) (p171 : PV) (p172 : PV) : Option (PV) :=
  getA2 p171 fun p174 p175 =>
  getL p172 fun n177 c178 =>
  bnd' (m64_L0 N p174 n177 c178 N 0 0 p175 []) fun o =>
  match o with
  | (n237, c238) =>
    grd (List.length c238 = (n237 * 2)) <|
    bnd' (m70 N (.lst false n237 c238)) fun p405 =>
    getI .i64 p405 fun x408 =>
    some (.int .i64 x408)
theorem c64 (N : Nat) (p171 : PV) (p172 : PV) (r : PV)  (h : m64 N p171 p172 = some r) : FnP Tryd.prog 64 [p171, p172] r := by
  unfold m64 at h
  refine Fn_of (sz := 24) tab_ok [0, 1, 2, 4, 5, 7, 8, 9, 10, 11] [.tmp 4] Tryd.func64 rfl rfl rfl (by simp) ?_
  simp only [initSt, initEnv, List.map_cons, List.map_nil, List.getD_cons_zero, List.getD_cons_succ, List.getD_nil]
  have hh := getA2_some h; clear h; obtain ⟨p174, p175, h173, h⟩ := hh
  have hh := getL_some h; clear h; obtain ⟨n177, c178, h176, h⟩ := hh
  refine W_sound tab_ok mixed 16 _ _ _ ?_
  simp -implicitDefEqProofs only [go_sem, qa, qb, qc, qd, qe, qf, qg, qh, qi, qj, qk, ↓reduceIte, h173, h176]
  repeat with_reducible refine ⟨by first | kernel_rfl | decide, ?_⟩
  refine Wp_weaken (Wk_ownS 5 2 rfl (by decide) (by decide)) ?_
  simp -implicitDefEqProofs only [go_sem, qa, qb, qc, qd, qe, qf, qg, qh, qi, qj, qk, ↓reduceIte, h173, h176]
  have hh := bnd'_some h; clear h; obtain ⟨o409, h410, h411⟩ := hh
  refine Wp_cut (fun s => ∃ n237, ∃ c238, (n237, c238) = o409 ∧ s = ⟨[], [(0, .dead), (1, .dead), (2, .dead), (4, .dead), (5, .sl false 0 0 n237 2), (7, .dead), (8, .dead), (9, .dead), (10, .dead), (11, .dead)], [(0, .p c238)], 1, []⟩) ?_ ?_
  · refine Wp_block ?_
    refine Wp_loopG (fun n s => ∃ n215, ∃ x216, ∃ p217, ∃ c218, m64_L0 N p174 n177 c178 n n215 x216 p217 c218 = some o409 ∧ s = ⟨[], [(0, .dead), (1, .dead), (2, .ptr 0 0), (4, .dead), (5, .sl false 1 0 n215 2), (7, .dead), (8, .v (.lst false n177 c178)), (9, .v (.int .i64 ((n177 : Nat) : Int))), (10, .v (.int .i64 x216)), (11, .dead)], [(0, .p [p174, p217]), (1, .p c218)], 2, []⟩) N _ ((Wk_le (.k (.k (.r (.k (.r (.r (.r (.r (.r (.r .nil)))))))))) (OLe.refl _)).trans (cmpS_ok rfl)) ⟨_, _, _, _, h410, rfl⟩ ?_
    clear h410
    rintro n _ ⟨n215, x216, p217, c218, h410, rfl⟩
    cases n with
    | zero => cases h410
    | succ n =>
      rw [m64_L0] at h410
      have hh := brn_some h410; clear h410; rcases hh with ⟨h219, h410⟩ | ⟨h219, h410⟩
      · have hh := grd_some h410; clear h410; obtain ⟨⟨g220, g221⟩, h410⟩ := hh
        have hh := grd_some h410; clear h410; obtain ⟨g222, h410⟩ := hh
        have hh := getI_some h410; clear h410; obtain ⟨x224, h223, h410⟩ := hh
        have hh := getL_some h410; clear h410; obtain ⟨n226, c227, h225, h410⟩ := hh
        have hh := grd_some h410; clear h410; obtain ⟨⟨g228, g229⟩, h410⟩ := hh
        have hh := grd_some h410; clear h410; obtain ⟨g230, h410⟩ := hh
        have hh := getL_some h410; clear h410; obtain ⟨n232, c233, h231, h410⟩ := hh
        have hh := grd_some h410; clear h410; obtain ⟨g234, h410⟩ := hh
        have hh := grd_some h410; clear h410; obtain ⟨g235, h410⟩ := hh
        have hh := grd_some h410; clear h410; obtain ⟨g236, h410⟩ := hh
        refine W_sound tab_ok mixed 30 _ _ _ ?_
        simp -implicitDefEqProofs only [go_sem, qa, qb, qc, qd, qe, qf, qg, qh, qi, qj, qk, ↓reduceIte, h173, h176, h219, g220, g221, g222, h223, h225, g228, g229, g230, h231, g234, g235, g236]
        repeat with_reducible refine ⟨by first | kernel_rfl | decide, ?_⟩
        exact cutQ _ ((Wk_le (.r (.r (.r (.r (.r (.k (.r (.r (.r (.k .nil)))))))))) (OLe.refl _)).trans (cmpS_ok rfl)) ⟨n, Nat.lt_succ_self n, _, _, _, _, h410, rfl⟩
      · refine W_sound tab_ok mixed 7 _ _ _ ?_
        simp -implicitDefEqProofs only [go_sem, qa, qb, qc, qd, qe, qf, qg, qh, qi, qj, qk, ↓reduceIte, h173, h176, h219]
        repeat with_reducible refine ⟨by first | kernel_rfl | decide, ?_⟩
        obtain rfl := Option.some.inj h410
        exact cutQ _ ((Wk_le (.r (.r (.k (.r (.r (.r (.k (.k (.k (.k .nil)))))))))) (OLe.refl _)).trans (cmpS_ok rfl)) ⟨_, _, rfl, rfl⟩
  · rintro _ ⟨n237, c238, rfl, rfl⟩
    (try dsimp only at h411)
    refine W_sound tab_ok mixed 1 _ _ _ ?_
    simp -implicitDefEqProofs only [go_sem, qa, qb, qc, qd, qe, qf, qg, qh, qi, qj, qk, ↓reduceIte, h173, h176]
    repeat with_reducible refine ⟨by first | kernel_rfl | decide, ?_⟩
    have hh := grd_some h411; clear h411; obtain ⟨g239, h411⟩ := hh
    refine Wp_wkK (Wk_freeze 0 c238 (by rfl) (by decide) (by decide)) rfl ?_
    simp -implicitDefEqProofs only [go_sem, qa, qb, qc, qd, qe, qf, qg, qh, qi, qj, qk, ↓reduceIte, h173, h176, g239]
    have hh := bnd'_some h411; clear h411; obtain ⟨p405, h406, h411⟩ := hh
    refine W_sound tab_ok mixed 2 _ _ _ ?_
    simp -implicitDefEqProofs only [go_sem, qa, qb, qc, qd, qe, qf, qg, qh, qi, qj, qk, ↓reduceIte, h173, h176, g239]
    repeat with_reducible refine ⟨by first | kernel_rfl | decide, ?_⟩
    refine Wp_callP (c70 N _ _ h406) (by kernel_rfl) rfl rfl rfl rfl (by decide) ?_
    have hh := getI_some h411; clear h411; obtain ⟨x408, h407, h411⟩ := hh
    refine W_sound tab_ok mixed 4 _ _ _ ?_
    simp -implicitDefEqProofs only [go_sem, qa, qb, qc, qd, qe, qf, qg, qh, qi, qj, qk, ↓reduceIte, h173, h176, g239, h407]
    repeat with_reducible refine ⟨by first | kernel_rfl | decide, ?_⟩
    obtain rfl := Option.some.inj h411
    exact finC [(4, .v (.int .i64 x408))] [(4, .v (.int .i64 x408))] (by simp [leE, lk_cons]) (.cons _ _ _ _ _ (.v _ _ (.refl _)) .nil) (by rfl) (by simp [leE, lk_cons]) (by decide) (by decide) rfl (by simp only [go_sem, qa, qb, qc, qd, qe, qf, qg, qh, qi, qj, qk, ↓reduceIte, resQ_tmp, resQ_cell, resQ_nil, retD_one, retD_two, retD_three, retD_none]; try simp [R.val, retD_one, retD_two, retD_three, retD_none])
def gv1 : List PV := (glk Gv 1).getD []
@[local go_sem] theorem ev_gv1 (get : Nat → D) : evG get (.global 1) = .v (.ipt gv1) := rfl
def m103 (N : Nat) (x533 : Int) : Option (PV) :=
  brn (x533 == 0) (
    some (.int .i64 64)) (
    grd (0 ≤ (Int.fdiv (IntKind.u64.wrap ((bitsI .and .u64 x533 (IntKind.u64.wrap (0 - x533))) * 285870213051353865)) (2 ^ (min 58 64))) ∧ (Int.fdiv (IntKind.u64.wrap ((bitsI .and .u64 x533 (IntKind.u64.wrap (0 - x533))) * 285870213051353865)) (2 ^ (min 58 64))) < 64) <|
    grd (0 < List.length (List.drop (Int.toNat (Int.fdiv (IntKind.u64.wrap ((bitsI .and .u64 x533 (IntKind.u64.wrap (0 - x533))) * 285870213051353865)) (2 ^ (min 58 64)))) gv1)) <|
    getI .u8 (gp gv1 (Int.toNat (Int.fdiv (IntKind.u64.wrap ((bitsI .and .u64 x533 (IntKind.u64.wrap (0 - x533))) * 285870213051353865)) (2 ^ (min 58 64))))) fun x539 =>
    some (.int .i64 (IntKind.i64.wrap x539)))
theorem c103 (N : Nat) (x533 : Int) (r : PV)  (h : m103 N x533 = some r) : FnP Tryd.prog 103 [(.int .u64 x533)] r := by
  unfold m103 at h
  refine Fn_of (sz := 14) tab_ok [0, 2, 4] [.tmp 2] Tryd.func103 rfl rfl rfl (by simp) ?_
  simp only [initSt, initEnv, List.map_cons, List.map_nil, List.getD_cons_zero, List.getD_cons_succ, List.getD_nil]
  have hh := brn_some h; clear h; rcases hh with ⟨h534, h⟩ | ⟨h534, h⟩
  · refine W_sound tab_ok mixed 17 _ _ _ ?_
    simp -implicitDefEqProofs only [go_sem, qa, qb, qc, qd, qe, qf, qg, qh, qi, qj, qk, ↓reduceIte, h534]
    repeat with_reducible refine ⟨by first | kernel_rfl | decide, ?_⟩
    obtain rfl := Option.some.inj h
    exact finC [(2, .v (.int .i64 64))] [(2, .v (.int .i64 64))] (by simp [leE, lk_cons]) (.cons _ _ _ _ _ (.v _ _ (.refl _)) .nil) (by rfl) (by simp [leE, lk_cons]) (by decide) (by decide) rfl (by simp only [go_sem, qa, qb, qc, qd, qe, qf, qg, qh, qi, qj, qk, ↓reduceIte, resQ_tmp, resQ_cell, resQ_nil, retD_one, retD_two, retD_three, retD_none]; try simp [R.val, retD_one, retD_two, retD_three, retD_none])
  · have hh := grd_some h; clear h; obtain ⟨⟨g535, g536⟩, h⟩ := hh
    have hh := grd_some h; clear h; obtain ⟨g537, h⟩ := hh
    have hh := getI_some h; clear h; obtain ⟨x539, h538, h⟩ := hh
    refine W_sound tab_ok mixed 27 _ _ _ ?_
    simp -implicitDefEqProofs only [go_sem, qa, qb, qc, qd, qe, qf, qg, qh, qi, qj, qk, ↓reduceIte, h534, g535, g536, g537, h538]
    repeat with_reducible refine ⟨by first | kernel_rfl | decide, ?_⟩
    obtain rfl := Option.some.inj h
    exact finC [(2, .v (.int .i64 (IntKind.i64.wrap x539)))] [(2, .v (.int .i64 (IntKind.i64.wrap x539)))] (by simp [leE, lk_cons]) (.cons _ _ _ _ _ (.v _ _ (.refl _)) .nil) (by rfl) (by simp [leE, lk_cons]) (by decide) (by decide) rfl (by simp only [go_sem, qa, qb, qc, qd, qe, qf, qg, qh, qi, qj, qk, ↓reduceIte, resQ_tmp, resQ_cell, resQ_nil, retD_one, retD_two, retD_three, retD_none]; try simp [R.val, retD_one, retD_two, retD_three, retD_none])
def m90 (N : Nat) (x532 : Int) : Option (PV) :=
  bnd' (m103 N x532) fun p540 =>
  getI .i64 p540 fun x543 =>
  some (.int .i64 x543)
theorem c90 (N : Nat) (x532 : Int) (r : PV)  (h : m90 N x532 = some r) : FnP Tryd.prog 90 [(.int .u64 x532)] r := by
  unfold m90 at h
  refine Fn_of (sz := 8) tab_ok [0, 2] [.tmp 2] Tryd.func90 rfl rfl rfl (by simp) ?_
  simp only [initSt, initEnv, List.map_cons, List.map_nil, List.getD_cons_zero, List.getD_cons_succ, List.getD_nil]
  have hh := bnd'_some h; clear h; obtain ⟨p540, h541, h⟩ := hh
  refine W_sound tab_ok mixed 10 _ _ _ ?_
  simp -implicitDefEqProofs only [go_sem, qa, qb, qc, qd, qe, qf, qg, qh, qi, qj, qk, ↓reduceIte]
  repeat with_reducible refine ⟨by first | kernel_rfl | decide, ?_⟩
  refine Wp_callP (c103 N _ _ h541) (by kernel_rfl) rfl rfl rfl rfl (by decide) ?_
  have hh := getI_some h; clear h; obtain ⟨x543, h542, h⟩ := hh
  refine W_sound tab_ok mixed 4 _ _ _ ?_
  simp -implicitDefEqProofs only [go_sem, qa, qb, qc, qd, qe, qf, qg, qh, qi, qj, qk, ↓reduceIte, h542]
  repeat with_reducible refine ⟨by first | kernel_rfl | decide, ?_⟩
  obtain rfl := Option.some.inj h
  exact finC [(2, .v (.int .i64 x543))] [(2, .v (.int .i64 x543))] (by simp [leE, lk_cons]) (.cons _ _ _ _ _ (.v _ _ (.refl _)) .nil) (by rfl) (by simp [leE, lk_cons]) (by decide) (by decide) rfl (by simp only [go_sem, qa, qb, qc, qd, qe, qf, qg, qh, qi, qj, qk, ↓reduceIte, resQ_tmp, resQ_cell, resQ_nil, retD_one, retD_two, retD_three, retD_none]; try simp [R.val, retD_one, retD_two, retD_three, retD_none])
def m77_L0 (N : Nat)  : Nat → Int → Nat → List PV → Option ((Nat × List PV))
  | 0, _, _, _ => none
  | n + 1, x554, n555, c556 =>
    brn (x554 != 0) (
      bnd' (m90 N x554) fun p558 =>
      getI .i64 p558 fun x561 =>
      grd ((n555 + 1) ≤ 1099511627776) <|
      grd (List.length c556 = n555) <|
      m77_L0 N  n (bitsI .and .u64 x554 (IntKind.u64.wrap (x554 - 1))) (n555 + 1) (c556 ++ [(.int .i64 x561)])) (
      some (n555, c556))
def m77 (N : Nat) (x529 : Int) : Option (PV) :=
  bnd' (m77_L0 N  N x529 0 []) fun o =>
  match o with
  | (n564, c565) =>
    grd (List.length c565 = n564) <|
    some (.lst false n564 c565)
theorem c77 (N : Nat) (x529 : Int) (r : PV)  (h : m77 N x529 = some r) : FnP Tryd.prog 77 [(.int .u64 x529)] r := by
  unfold m77 at h
  refine Fn_of (sz := 16) tab_ok [0, 2, 3, 5] [.tmp 2] Tryd.func77 rfl rfl rfl (by simp) ?_
  simp only [initSt, initEnv, List.map_cons, List.map_nil, List.getD_cons_zero, List.getD_cons_succ, List.getD_nil]
  refine W_sound tab_ok mixed 9 _ _ _ ?_
  simp -implicitDefEqProofs only [go_sem, qa, qb, qc, qd, qe, qf, qg, qh, qi, qj, qk, ↓reduceIte]
  repeat with_reducible refine ⟨by first | kernel_rfl | decide, ?_⟩
  refine Wp_weaken (Wk_ownS 3 1 rfl (by decide) (by decide)) ?_
  simp -implicitDefEqProofs only [go_sem, qa, qb, qc, qd, qe, qf, qg, qh, qi, qj, qk, ↓reduceIte]
  have hh := bnd'_some h; clear h; obtain ⟨o567, h568, h569⟩ := hh
  refine Wp_cut (fun s => ∃ n564, ∃ c565, (n564, c565) = o567 ∧ s = ⟨[], [(0, .dead), (2, .dead), (3, .sl false 0 0 n564 1), (5, .dead)], [(0, .p c565)], 1, []⟩) ?_ ?_
  · refine Wp_block ?_
    refine Wp_loopG (fun n s => ∃ x554, ∃ n555, ∃ c556, m77_L0 N  n x554 n555 c556 = some o567 ∧ s = ⟨[], [(0, .v (.int .u64 x554)), (2, .dead), (3, .sl false 0 0 n555 1), (5, .dead)], [(0, .p c556)], 1, []⟩) N _ ((Wk_le (.r (.k (.r (.r .nil)))) (OLe.refl _)).trans (cmpS_ok rfl)) ⟨_, _, _, h568, rfl⟩ ?_
    clear h568
    rintro n _ ⟨x554, n555, c556, h568, rfl⟩
    cases n with
    | zero => cases h568
    | succ n =>
      rw [m77_L0] at h568
      have hh := brn_some h568; clear h568; rcases hh with ⟨h557, h568⟩ | ⟨h557, h568⟩
      · have hh := bnd'_some h568; clear h568; obtain ⟨p558, h559, h568⟩ := hh
        refine W_sound tab_ok mixed 13 _ _ _ ?_
        simp -implicitDefEqProofs only [go_sem, qa, qb, qc, qd, qe, qf, qg, qh, qi, qj, qk, ↓reduceIte, h557]
        repeat with_reducible refine ⟨by first | kernel_rfl | decide, ?_⟩
        refine Wp_callP (c90 N _ _ h559) (by kernel_rfl) rfl rfl rfl rfl (by decide) ?_
        have hh := getI_some h568; clear h568; obtain ⟨x561, h560, h568⟩ := hh
        have hh := grd_some h568; clear h568; obtain ⟨g562, h568⟩ := hh
        have hh := grd_some h568; clear h568; obtain ⟨g563, h568⟩ := hh
        refine W_sound tab_ok mixed 12 _ _ _ ?_
        simp -implicitDefEqProofs only [go_sem, qa, qb, qc, qd, qe, qf, qg, qh, qi, qj, qk, ↓reduceIte, h557, h560, g562, g563]
        repeat with_reducible refine ⟨by first | kernel_rfl | decide, ?_⟩
        exact cutQ _ ((Wk_le (.r (.r (.r (.k .nil)))) (OLe.refl _)).trans (cmpS_ok rfl)) ⟨n, Nat.lt_succ_self n, _, _, _, h568, rfl⟩
      · refine W_sound tab_ok mixed 8 _ _ _ ?_
        simp -implicitDefEqProofs only [go_sem, qa, qb, qc, qd, qe, qf, qg, qh, qi, qj, qk, ↓reduceIte, h557]
        repeat with_reducible refine ⟨by first | kernel_rfl | decide, ?_⟩
        obtain rfl := Option.some.inj h568
        exact cutQ _ ((Wk_le (.k (.r (.r (.k .nil)))) (OLe.refl _)).trans (cmpS_ok rfl)) ⟨_, _, rfl, rfl⟩
  · rintro _ ⟨n564, c565, rfl, rfl⟩
    (try dsimp only at h569)
    refine W_sound tab_ok mixed 7 _ _ _ ?_
    simp -implicitDefEqProofs only [go_sem, qa, qb, qc, qd, qe, qf, qg, qh, qi, qj, qk, ↓reduceIte]
    repeat with_reducible refine ⟨by first | kernel_rfl | decide, ?_⟩
    have hh := grd_some h569; clear h569; obtain ⟨g566, h569⟩ := hh
    refine FinQ_wk (Wk_freeze 0 c565 (by rfl) (by decide) (by decide)) ?_
    simp -implicitDefEqProofs only [go_sem, qa, qb, qc, qd, qe, qf, qg, qh, qi, qj, qk, ↓reduceIte, g566]
    obtain rfl := Option.some.inj h569
    exact finC [(2, .v (.lst false n564 c565))] [(2, .v (.lst false n564 c565))] (by simp [leE, lk_cons]) (.cons _ _ _ _ _ (.v _ _ (.refl _)) .nil) (by rfl) (by simp [leE, lk_cons]) (by decide) (by decide) rfl (by simp only [go_sem, qa, qb, qc, qd, qe, qf, qg, qh, qi, qj, qk, ↓reduceIte, resQ_tmp, resQ_cell, resQ_nil, retD_one, retD_two, retD_three, retD_none]; try simp [R.val, retD_one, retD_two, retD_three, retD_none])
def m104 (N : Nat) (x682 : Int) : Option (PV) :=
  some (.bool (x682 != x682))
theorem c104 (N : Nat) (x682 : Int) (r : PV)  (h : m104 N x682 = some r) : FnP Tryd.prog 104 [(.int .i64 x682)] r := by
  unfold m104 at h
  refine Fn_of (sz := 6) tab_ok [0, 2] [.tmp 2] Tryd.func104 rfl rfl rfl (by simp) ?_
  simp only [initSt, initEnv, List.map_cons, List.map_nil, List.getD_cons_zero, List.getD_cons_succ, List.getD_nil]
  refine W_sound tab_ok mixed 13 _ _ _ ?_
  simp -implicitDefEqProofs only [go_sem, qa, qb, qc, qd, qe, qf, qg, qh, qi, qj, qk, ↓reduceIte]
  repeat with_reducible refine ⟨by first | kernel_rfl | decide, ?_⟩
  obtain rfl := Option.some.inj h
  exact finC [(2, .v (.bool (x682 != x682)))] [(2, .v (.bool (x682 != x682)))] (by simp [leE, lk_cons]) (.cons _ _ _ _ _ (.v _ _ (.refl _)) .nil) (by rfl) (by simp [leE, lk_cons]) (by decide) (by decide) rfl (by simp only [go_sem, qa, qb, qc, qd, qe, qf, qg, qh, qi, qj, qk, ↓reduceIte, resQ_tmp, resQ_cell, resQ_nil, retD_one, retD_two, retD_three, retD_none]; try simp [R.val, retD_one, retD_two, retD_three, retD_none])
def m91 (N : Nat) (x680 : Int) (x681 : Int) : Option (PV) :=
  bnd' (m104 N x680) fun p683 =>
  getB p683 fun b686 =>
  bnd' (m104 N x681) fun p687 =>
  getB p687 fun b690 =>
  brn b686 (
    brn b690 (
      some (.int .i64 0)) (
      some (.int .i64 (-1)))) (
    brn b690 (
      some (.int .i64 1)) (
      brn (decide (x680 < x681)) (
        some (.int .i64 (-1))) (
        brn (decide (x680 > x681)) (
          some (.int .i64 1)) (
          some (.int .i64 0)))))
theorem c91 (N : Nat) (x680 : Int) (x681 : Int) (r : PV)  (h : m91 N x680 x681 = some r) : FnP Tryd.prog 91 [(.int .i64 x680), (.int .i64 x681)] r := by
  unfold m91 at h
  refine Fn_of (sz := 20) tab_ok [0, 1, 4, 5, 6, 11, 12, 13, 16, 19] [.tmp 4] Tryd.func91 rfl rfl rfl (by simp) ?_
  simp only [initSt, initEnv, List.map_cons, List.map_nil, List.getD_cons_zero, List.getD_cons_succ, List.getD_nil]
  have hh := bnd'_some h; clear h; obtain ⟨p683, h684, h⟩ := hh
  refine W_sound tab_ok mixed 7 _ _ _ ?_
  simp -implicitDefEqProofs only [go_sem, qa, qb, qc, qd, qe, qf, qg, qh, qi, qj, qk, ↓reduceIte]
  repeat with_reducible refine ⟨by first | kernel_rfl | decide, ?_⟩
  refine Wp_callP (c104 N _ _ h684) (by kernel_rfl) rfl rfl rfl rfl (by decide) ?_
  have hh := getB_some h; clear h; obtain ⟨b686, h685, h⟩ := hh
  have hh := bnd'_some h; clear h; obtain ⟨p687, h688, h⟩ := hh
  refine W_sound tab_ok mixed 5 _ _ _ ?_
  simp -implicitDefEqProofs only [go_sem, qa, qb, qc, qd, qe, qf, qg, qh, qi, qj, qk, ↓reduceIte, h685]
  repeat with_reducible refine ⟨by first | kernel_rfl | decide, ?_⟩
  refine Wp_callP (c104 N _ _ h688) (by kernel_rfl) rfl rfl rfl rfl (by decide) ?_
  have hh := getB_some h; clear h; obtain ⟨b690, h689, h⟩ := hh
  have hh := brn_some h; clear h; rcases hh with ⟨h691, h⟩ | ⟨h691, h⟩
  · have hh := brn_some h; clear h; rcases hh with ⟨h692, h⟩ | ⟨h692, h⟩
    · refine W_sound tab_ok mixed 20 _ _ _ ?_
      simp -implicitDefEqProofs only [go_sem, qa, qb, qc, qd, qe, qf, qg, qh, qi, qj, qk, ↓reduceIte, h685, h689, h691, h692]
      repeat with_reducible refine ⟨by first | kernel_rfl | decide, ?_⟩
      obtain rfl := Option.some.inj h
      exact finC [(4, .v (.int .i64 0))] [(4, .v (.int .i64 0))] (by simp [leE, lk_cons]) (.cons _ _ _ _ _ (.v _ _ (.refl _)) .nil) (by rfl) (by simp [leE, lk_cons]) (by decide) (by decide) rfl (by simp only [go_sem, qa, qb, qc, qd, qe, qf, qg, qh, qi, qj, qk, ↓reduceIte, resQ_tmp, resQ_cell, resQ_nil, retD_one, retD_two, retD_three, retD_none]; try simp [R.val, retD_one, retD_two, retD_three, retD_none])
    · refine W_sound tab_ok mixed 21 _ _ _ ?_
      simp -implicitDefEqProofs only [go_sem, qa, qb, qc, qd, qe, qf, qg, qh, qi, qj, qk, ↓reduceIte, h685, h689, h691, h692]
      repeat with_reducible refine ⟨by first | kernel_rfl | decide, ?_⟩
      obtain rfl := Option.some.inj h
      exact finC [(4, .v (.int .i64 (-1)))] [(4, .v (.int .i64 (-1)))] (by simp [leE, lk_cons]) (.cons _ _ _ _ _ (.v _ _ (.refl _)) .nil) (by rfl) (by simp [leE, lk_cons]) (by decide) (by decide) rfl (by simp only [go_sem, qa, qb, qc, qd, qe, qf, qg, qh, qi, qj, qk, ↓reduceIte, resQ_tmp, resQ_cell, resQ_nil, retD_one, retD_two, retD_three, retD_none]; try simp [R.val, retD_one, retD_two, retD_three, retD_none])
  · have hh := brn_some h; clear h; rcases hh with ⟨h693, h⟩ | ⟨h693, h⟩
    · refine W_sound tab_ok mixed 21 _ _ _ ?_
      simp -implicitDefEqProofs only [go_sem, qa, qb, qc, qd, qe, qf, qg, qh, qi, qj, qk, ↓reduceIte, h685, h689, h691, h693]
      repeat with_reducible refine ⟨by first | kernel_rfl | decide, ?_⟩
      obtain rfl := Option.some.inj h
      exact finC [(4, .v (.int .i64 1))] [(4, .v (.int .i64 1))] (by simp [leE, lk_cons]) (.cons _ _ _ _ _ (.v _ _ (.refl _)) .nil) (by rfl) (by simp [leE, lk_cons]) (by decide) (by decide) rfl (by simp only [go_sem, qa, qb, qc, qd, qe, qf, qg, qh, qi, qj, qk, ↓reduceIte, resQ_tmp, resQ_cell, resQ_nil, retD_one, retD_two, retD_three, retD_none]; try simp [R.val, retD_one, retD_two, retD_three, retD_none])
    · have hh := brn_some h; clear h; rcases hh with ⟨h694, h⟩ | ⟨h694, h⟩
      · refine W_sound tab_ok mixed 30 _ _ _ ?_
        simp -implicitDefEqProofs only [go_sem, qa, qb, qc, qd, qe, qf, qg, qh, qi, qj, qk, ↓reduceIte, h685, h689, h691, h693, h694]
        repeat with_reducible refine ⟨by first | kernel_rfl | decide, ?_⟩
        obtain rfl := Option.some.inj h
        exact finC [(4, .v (.int .i64 (-1)))] [(4, .v (.int .i64 (-1)))] (by simp [leE, lk_cons]) (.cons _ _ _ _ _ (.v _ _ (.refl _)) .nil) (by rfl) (by simp [leE, lk_cons]) (by decide) (by decide) rfl (by simp only [go_sem, qa, qb, qc, qd, qe, qf, qg, qh, qi, qj, qk, ↓reduceIte, resQ_tmp, resQ_cell, resQ_nil, retD_one, retD_two, retD_three, retD_none]; try simp [R.val, retD_one, retD_two, retD_three, retD_none])
      · have hh := brn_some h; clear h; rcases hh with ⟨h695, h⟩ | ⟨h695, h⟩
        · refine W_sound tab_ok mixed 39 _ _ _ ?_
          simp -implicitDefEqProofs only [go_sem, qa, qb, qc, qd, qe, qf, qg, qh, qi, qj, qk, ↓reduceIte, h685, h689, h691, h693, h694, h695]
          repeat with_reducible refine ⟨by first | kernel_rfl | decide, ?_⟩
          obtain rfl := Option.some.inj h
          exact finC [(4, .v (.int .i64 1))] [(4, .v (.int .i64 1))] (by simp [leE, lk_cons]) (.cons _ _ _ _ _ (.v _ _ (.refl _)) .nil) (by rfl) (by simp [leE, lk_cons]) (by decide) (by decide) rfl (by simp only [go_sem, qa, qb, qc, qd, qe, qf, qg, qh, qi, qj, qk, ↓reduceIte, resQ_tmp, resQ_cell, resQ_nil, retD_one, retD_two, retD_three, retD_none]; try simp [R.val, retD_one, retD_two, retD_three, retD_none])
        · refine W_sound tab_ok mixed 40 _ _ _ ?_
          simp -implicitDefEqProofs only [go_sem, qa, qb, qc, qd, qe, qf, qg, qh, qi, qj, qk, ↓reduceIte, h685, h689, h691, h693, h694, h695]
          repeat with_reducible refine ⟨by first | kernel_rfl | decide, ?_⟩
          obtain rfl := Option.some.inj h
          exact finC [(4, .v (.int .i64 0))] [(4, .v (.int .i64 0))] (by simp [leE, lk_cons]) (.cons _ _ _ _ _ (.v _ _ (.refl _)) .nil) (by rfl) (by simp [leE, lk_cons]) (by decide) (by decide) rfl (by simp only [go_sem, qa, qb, qc, qd, qe, qf, qg, qh, qi, qj, qk, ↓reduceIte, resQ_tmp, resQ_cell, resQ_nil, retD_one, retD_two, retD_three, retD_none]; try simp [R.val, retD_one, retD_two, retD_three, retD_none])
def m47_L0 (N : Nat) (n663 : Nat) (c664 : List PV) (n666 : Nat) (c667 : List PV) : Nat → Int → Option ((PV ⊕ Unit))
  | 0, _ => none
  | n + 1, x668 =>
    brn (decide (x668 < ((n663 : Nat) : Int))) (
      grd (0 ≤ x668 ∧ x668 < ((n663 : Nat) : Int)) <|
      grd (0 < List.length (List.drop (Int.toNat x668) c664)) <|
      getI .i64 (gp c664 (Int.toNat x668)) fun x674 =>
      brn (decide (x668 ≥ ((n666 : Nat) : Int))) (
        some (.inl (.int .i64 1))) (
        grd (x668 < ((n666 : Nat) : Int)) <|
        grd (0 < List.length (List.drop (Int.toNat x668) c667)) <|
        getI .i64 (gp c667 (Int.toNat x668)) fun x679 =>
        bnd' (m91 N x674 x679) fun p696 =>
        getI .i64 p696 fun x699 =>
        brn (x699 != 0) (
          some (.inl (.int .i64 x699))) (
          m47_L0 N n663 c664 n666 c667 n (IntKind.i64.wrap (x668 + 1))))) (
      some (.inr ()))
def m47 (N : Nat) (p660 : PV) (p661 : PV) : Option (PV) :=
  getL p660 fun n663 c664 =>
  getL p661 fun n666 c667 =>
  bnd' (m47_L0 N n663 c664 n666 c667 N 0) fun o =>
  match o with
  | .inl p701 =>
    some p701
  | .inr () =>
    brn (decide (((n663 : Nat) : Int) < ((n666 : Nat) : Int))) (
      some (.int .i64 (-1))) (
      some (.int .i64 0))
theorem c47 (N : Nat) (p660 : PV) (p661 : PV) (r : PV)  (h : m47 N p660 p661 = some r) : FnP Tryd.prog 47 [p660, p661] r := by
  unfold m47 at h
  refine Fn_of (sz := 36) tab_ok [0, 1, 4, 5, 6, 7, 8, 9, 10, 11, 12, 19, 28, 35] [.tmp 4] Tryd.func47 rfl rfl rfl (by simp) ?_
  simp only [initSt, initEnv, List.map_cons, List.map_nil, List.getD_cons_zero, List.getD_cons_succ, List.getD_nil]
  have hh := getL_some h; clear h; obtain ⟨n663, c664, h662, h⟩ := hh
  have hh := getL_some h; clear h; obtain ⟨n666, c667, h665, h⟩ := hh
  refine W_sound tab_ok mixed 11 _ _ _ ?_
  simp -implicitDefEqProofs only [go_sem, qa, qb, qc, qd, qe, qf, qg, qh, qi, qj, qk, ↓reduceIte, h662, h665]
  repeat with_reducible refine ⟨by first | kernel_rfl | decide, ?_⟩
  have hh := bnd'_some h; clear h; obtain ⟨o703, h704, h705⟩ := hh
  refine Wp_cut (fun s => (.inr ()) = o703 ∧ s = ⟨[], [(0, .v (.lst false n663 c664)), (1, .v (.lst false n666 c667)), (4, .dead), (5, .dead), (6, .dead), (7, .dead), (8, .dead), (9, .dead), (10, .dead), (11, .dead), (12, .dead), (19, .dead), (28, .dead), (35, .dead)], [], 0, []⟩) ?_ ?_
  · refine Wp_block ?_
    refine Wp_loopG (fun n s => ∃ x668, m47_L0 N n663 c664 n666 c667 n x668 = some o703 ∧ s = ⟨[], [(0, .v (.lst false n663 c664)), (1, .v (.lst false n666 c667)), (4, .dead), (5, .dead), (6, .dead), (7, .dead), (8, .dead), (9, .v (.lst false n663 c664)), (10, .v (.int .i64 ((n663 : Nat) : Int))), (11, .v (.int .i64 x668)), (12, .dead), (19, .dead), (28, .dead), (35, .dead)], [], 0, []⟩) N _ ((Wk_le (.r (.r (.k (.r (.r (.r (.r (.r (.r (.r (.r (.r (.r (.r .nil)))))))))))))) (OLe.refl _)).trans (cmpS_ok (st' := ⟨[], [(0, .v (.lst false n663 c664)), (1, .v (.lst false n666 c667)), (4, .dead), (5, .dead), (6, .dead), (7, .dead), (8, .dead), (9, .v (.lst false n663 c664)), (10, .v (.int .i64 ((n663 : Nat) : Int))), (11, .v (.int .i64 0)), (12, .dead), (19, .dead), (28, .dead), (35, .dead)], [], 0, []⟩) (by kernel_rfl))) ⟨_, h704, rfl⟩ ?_
    clear h704
    rintro n _ ⟨x668, h704, rfl⟩
    cases n with
    | zero => cases h704
    | succ n =>
      rw [m47_L0] at h704
      have hh := brn_some h704; clear h704; rcases hh with ⟨h669, h704⟩ | ⟨h669, h704⟩
      · have hh := grd_some h704; clear h704; obtain ⟨⟨g670, g671⟩, h704⟩ := hh
        have hh := grd_some h704; clear h704; obtain ⟨g672, h704⟩ := hh
        have hh := getI_some h704; clear h704; obtain ⟨x674, h673, h704⟩ := hh
        have hh := brn_some h704; clear h704; rcases hh with ⟨h675, h704⟩ | ⟨h675, h704⟩
        · refine W_sound tab_ok mixed 32 _ _ _ ?_
          simp -implicitDefEqProofs only [go_sem, qa, qb, qc, qd, qe, qf, qg, qh, qi, qj, qk, ↓reduceIte, h662, h665, h669, g670, g671, g672, h673, h675]
          repeat with_reducible refine ⟨by first | kernel_rfl | decide, ?_⟩
          obtain rfl := Option.some.inj h704
          (try dsimp only at h705)
          obtain rfl := Option.some.inj h705
          exact finC [(4, .v (.int .i64 1))] [(4, .v (.int .i64 1))] (by simp [leE, lk_cons]) (.cons _ _ _ _ _ (.v _ _ (.refl _)) .nil) (by rfl) (by simp [leE, lk_cons]) (by decide) (by decide) rfl (by simp only [go_sem, qa, qb, qc, qd, qe, qf, qg, qh, qi, qj, qk, ↓reduceIte, resQ_tmp, resQ_cell, resQ_nil, retD_one, retD_two, retD_three, retD_none]; try simp [R.val, retD_one, retD_two, retD_three, retD_none])
        · have hh := grd_some h704; clear h704; obtain ⟨g676, h704⟩ := hh
          have hh := grd_some h704; clear h704; obtain ⟨g677, h704⟩ := hh
          have hh := getI_some h704; clear h704; obtain ⟨x679, h678, h704⟩ := hh
          have hh := bnd'_some h704; clear h704; obtain ⟨p696, h697, h704⟩ := hh
          refine W_sound tab_ok mixed 39 _ _ _ ?_
          simp -implicitDefEqProofs only [go_sem, qa, qb, qc, qd, qe, qf, qg, qh, qi, qj, qk, ↓reduceIte, h662, h665, h669, g670, g671, g672, h673, h675, g676, g677, h678]
          repeat with_reducible refine ⟨by first | kernel_rfl | decide, ?_⟩
          refine Wp_callP (c91 N _ _ _ h697) (by kernel_rfl) rfl rfl rfl rfl (by decide) ?_
          have hh := getI_some h704; clear h704; obtain ⟨x699, h698, h704⟩ := hh
          have hh := brn_some h704; clear h704; rcases hh with ⟨h700, h704⟩ | ⟨h700, h704⟩
          · refine W_sound tab_ok mixed 15 _ _ _ ?_
            simp -implicitDefEqProofs only [go_sem, qa, qb, qc, qd, qe, qf, qg, qh, qi, qj, qk, ↓reduceIte, h662, h665, h669, g670, g671, g672, h673, h675, g676, g677, h678, h698, h700]
            repeat with_reducible refine ⟨by first | kernel_rfl | decide, ?_⟩
            obtain rfl := Option.some.inj h704
            (try dsimp only at h705)
            obtain rfl := Option.some.inj h705
            exact finC [(4, .v (.int .i64 x699))] [(4, .v (.int .i64 x699))] (by simp [leE, lk_cons]) (.cons _ _ _ _ _ (.v _ _ (.refl _)) .nil) (by rfl) (by simp [leE, lk_cons]) (by decide) (by decide) rfl (by simp only [go_sem, qa, qb, qc, qd, qe, qf, qg, qh, qi, qj, qk, ↓reduceIte, resQ_tmp, resQ_cell, resQ_nil, retD_one, retD_two, retD_three, retD_none]; try simp [R.val, retD_one, retD_two, retD_three, retD_none])
          · refine W_sound tab_ok mixed 14 _ _ _ ?_
            simp -implicitDefEqProofs only [go_sem, qa, qb, qc, qd, qe, qf, qg, qh, qi, qj, qk, ↓reduceIte, h662, h665, h669, g670, g671, g672, h673, h675, g676, g677, h678, h698, h700]
            repeat with_reducible refine ⟨by first | kernel_rfl | decide, ?_⟩
            exact cutQ _ ((Wk_le (.r (.r (.r (.k (.k (.k (.k (.r (.r (.r (.k (.k (.k (.r .nil)))))))))))))) (OLe.refl _)).trans (cmpS_ok (st' := ⟨[], [(0, .v (.lst false n663 c664)), (1, .v (.lst false n666 c667)), (4, .dead), (5, .dead), (6, .dead), (7, .dead), (8, .dead), (9, .v (.lst false n663 c664)), (10, .v (.int .i64 ((n663 : Nat) : Int))), (11, .v (.int .i64 (IntKind.i64.wrap (x668 + 1)))), (12, .dead), (19, .dead), (28, .dead), (35, .dead)], [], 0, []⟩) (by kernel_rfl))) ⟨n, Nat.lt_succ_self n, _, h704, rfl⟩
      · refine W_sound tab_ok mixed 7 _ _ _ ?_
        simp -implicitDefEqProofs only [go_sem, qa, qb, qc, qd, qe, qf, qg, qh, qi, qj, qk, ↓reduceIte, h662, h665, h669]
        repeat with_reducible refine ⟨by first | kernel_rfl | decide, ?_⟩
        obtain rfl := Option.some.inj h704
        exact cutQ _ ((Wk_le (.r (.r (.r (.r (.r (.r (.r (.k (.k (.k (.k (.r (.r (.r .nil)))))))))))))) (OLe.refl _)).trans (cmpS_ok (st' := ⟨[], [(0, .v (.lst false n663 c664)), (1, .v (.lst false n666 c667)), (4, .dead), (5, .dead), (6, .dead), (7, .dead), (8, .dead), (9, .dead), (10, .dead), (11, .dead), (12, .dead), (19, .dead), (28, .dead), (35, .dead)], [], 0, []⟩) (by kernel_rfl))) ⟨rfl, rfl⟩
  · rintro _ ⟨rfl, rfl⟩
    (try dsimp only at h705)
    have hh := brn_some h705; clear h705; rcases hh with ⟨h702, h705⟩ | ⟨h702, h705⟩
    · refine W_sound tab_ok mixed 16 _ _ _ ?_
      simp -implicitDefEqProofs only [go_sem, qa, qb, qc, qd, qe, qf, qg, qh, qi, qj, qk, ↓reduceIte, h662, h665, h702]
      repeat with_reducible refine ⟨by first | kernel_rfl | decide, ?_⟩
      obtain rfl := Option.some.inj h705
      exact finC [(4, .v (.int .i64 (-1)))] [(4, .v (.int .i64 (-1)))] (by simp [leE, lk_cons]) (.cons _ _ _ _ _ (.v _ _ (.refl _)) .nil) (by rfl) (by simp [leE, lk_cons]) (by decide) (by decide) rfl (by simp only [go_sem, qa, qb, qc, qd, qe, qf, qg, qh, qi, qj, qk, ↓reduceIte, resQ_tmp, resQ_cell, resQ_nil, retD_one, retD_two, retD_three, retD_none]; try simp [R.val, retD_one, retD_two, retD_three, retD_none])
    · refine W_sound tab_ok mixed 17 _ _ _ ?_
      simp -implicitDefEqProofs only [go_sem, qa, qb, qc, qd, qe, qf, qg, qh, qi, qj, qk, ↓reduceIte, h662, h665, h702]
      repeat with_reducible refine ⟨by first | kernel_rfl | decide, ?_⟩
      obtain rfl := Option.some.inj h705
      exact finC [(4, .v (.int .i64 0))] [(4, .v (.int .i64 0))] (by simp [leE, lk_cons]) (.cons _ _ _ _ _ (.v _ _ (.refl _)) .nil) (by rfl) (by simp [leE, lk_cons]) (by decide) (by decide) rfl (by simp only [go_sem, qa, qb, qc, qd, qe, qf, qg, qh, qi, qj, qk, ↓reduceIte, resQ_tmp, resQ_cell, resQ_nil, retD_one, retD_two, retD_three, retD_none]; try simp [R.val, retD_one, retD_two, retD_three, retD_none])
end Go.Proofs.YtnponojgpkbagaaDoor
namespace Go.Proofs.YtnponojgpkbagaaDoor
open Go.V
set_option maxRecDepth 100000
set_option maxHeartbeats 4000000
set_option linter.unusedSimpArgs false
set_option linter.unusedVariables false
attribute [local go_sem] tl1 tl2 tl3 tl4 tl5 tl9 tl17 tl21 tl22 tl23 tl24 tl25 tl26 tl27 tl28 tl29 tl31 tl32 tl34 tl35 tl36 tl37 tl38 tl39 tl40 tl41 tl42 tl43 tl44 tl45 tl47 tl48 tl49 tl50 tl51 tl52 tl53 tl54 tl55 tl56 tl57 tl58 tl59 tl60 tl61 tl62 tl63 tl64 tl65 tl66 tl67 tl68 tl69 tl70 tl71 tl72 tl73 tl74 tl75 tl76 tl77 tl78 tl79 tl80 tl81 tl82 tl83 tl84 tl85 tl86 tl87 tl88 tl89 tl90 tl92 tl94 tl95 tl96 tl97 tl98 tl99 tl100 tl101 tl102 tl103 tl104 tl105 tl106 tl107 tl108 tl109 tl110 tl111 tl112 tl113 tl114 tl115 tl116 tl118 tl119 tl121 tl122 tl123 tl124 tl125 tl126 tl127 tl128 tl129 tl131 tl133 tl134 tl135 tl136 tl142 tl146
def m16 (N : Nat) : Option PV := some (.bool true)
theorem c16 (N : Nat) (r : PV) (h : m16 N = some r) : FnP Tryd.prog 16 [] r := by
  obtain rfl := Option.some.inj h
  exact k29
end Go.Proofs.YtnponojgpkbagaaDoor
namespace Go.Proofs.YtnponojgpkbagaaDoor
open Go.V
open Nat renaming reduceBEq → qa, reduceAdd → qb, reduceSub → qc, reduceMul → qd, reduceLT → qe, reduceLeDiff → qf
open Int renaming reduceLE → qg, reduceLT → qh, reduceToNat → qi, reduceBEq → qj, reduceBNe → qk
set_option maxRecDepth 100000
set_option maxHeartbeats 4000000
set_option linter.unusedSimpArgs false
set_option linter.unusedVariables false
attribute [local go_sem] tl1 tl2 tl3 tl4 tl5 tl9 tl17 tl21 tl22 tl23 tl24 tl25 tl26 tl27 tl28 tl29 tl31 tl32 tl34 tl35 tl36 tl37 tl38 tl39 tl40 tl41 tl42 tl43 tl44 tl45 tl47 tl48 tl49 tl50 tl51 tl52 tl53 tl54 tl55 tl56 tl57 tl58 tl59 tl60 tl61 tl62 tl63 tl64 tl65 tl66 tl67 tl68 tl69 tl70 tl71 tl72 tl73 tl74 tl75 tl76 tl77 tl78 tl79 tl80 tl81 tl82 tl83 tl84 tl85 tl86 tl87 tl88 tl89 tl90 tl92 tl94 tl95 tl96 tl97 tl98 tl99 tl100 tl101 tl102 tl103 tl104 tl105 tl106 tl107 tl108 tl109 tl110 tl111 tl112 tl113 tl114 tl115 tl116 tl118 tl119 tl121 tl122 tl123 tl124 tl125 tl126 tl127 tl128 tl129 tl131 tl133 tl134 tl135 tl136 tl142 tl146
def m86 (N : Nat) (p2424 : PV) (p2425 : PV) : Option (PV) :=
  getA2 p2424 fun p2427 p2428 =>
  getL p2425 fun n2430 c2431 =>
  bnd' (m64 N (.agg [p2427, p2428]) (.lst false n2430 c2431)) fun p2432 =>
  getI .i64 p2432 fun x2435 =>
  some (.bool (decide (x2435 < ((n2430 : Nat) : Int))))
theorem c86 (N : Nat) (p2424 : PV) (p2425 : PV) (r : PV)  (h : m86 N p2424 p2425 = some r) : FnP Tryd.prog 86 [p2424, p2425] r := by
  unfold m86 at h
  refine Fn_of (sz := 11) tab_ok [0, 1, 2, 4] [.tmp 4] Tryd.func86 rfl rfl rfl (by simp) ?_
  simp only [initSt, initEnv, List.map_cons, List.map_nil, List.getD_cons_zero, List.getD_cons_succ, List.getD_nil]
  have hh := getA2_some h; clear h; obtain ⟨p2427, p2428, h2426, h⟩ := hh
  have hh := getL_some h; clear h; obtain ⟨n2430, c2431, h2429, h⟩ := hh
  have hh := bnd'_some h; clear h; obtain ⟨p2432, h2433, h⟩ := hh
  refine W_sound tab_ok mixed 9 _ _ _ ?_
  simp -implicitDefEqProofs only [go_sem, qa, qb, qc, qd, qe, qf, qg, qh, qi, qj, qk, ↓reduceIte, h2426, h2429]
  repeat with_reducible refine ⟨by first | kernel_rfl | decide, ?_⟩
  refine Wp_callP (c64 N _ _ _ h2433) (by kernel_rfl) rfl rfl rfl rfl (by decide) ?_
  have hh := getI_some h; clear h; obtain ⟨x2435, h2434, h⟩ := hh
  refine W_sound tab_ok mixed 7 _ _ _ ?_
  simp -implicitDefEqProofs only [go_sem, qa, qb, qc, qd, qe, qf, qg, qh, qi, qj, qk, ↓reduceIte, h2426, h2429, h2434]
  repeat with_reducible refine ⟨by first | kernel_rfl | decide, ?_⟩
  obtain rfl := Option.some.inj h
  exact finC [(4, .v (.bool (decide (x2435 < ((n2430 : Nat) : Int)))))] [(4, .v (.bool (decide (x2435 < ((n2430 : Nat) : Int)))))] (by simp [leE, lk_cons]) (.cons _ _ _ _ _ (.v _ _ (.refl _)) .nil) (by rfl) (by simp [leE, lk_cons]) (by decide) (by decide) rfl (by simp only [go_sem, qa, qb, qc, qd, qe, qf, qg, qh, qi, qj, qk, ↓reduceIte, resQ_tmp, resQ_cell, resQ_nil, retD_one, retD_two, retD_three, retD_none]; try simp [R.val, retD_one, retD_two, retD_three, retD_none])
def m68_2_L0 (N : Nat) (x2413 : Int) (b2414 : Bool) (p2415 : PV) : Nat → PV → Int → Option (PV)
  | 0, _, _ => none
  | n + 1, p2441, x2442 =>
    brn (decide (x2442 < (IntKind.u64.wrap (1 * 2 ^ (min (Int.toNat x2413) 64))))) (
      bnd' (m77 N x2442) fun p2444 =>
      getL p2444 fun n2447 c2448 =>
      bnd' (m86 N p2415 (.lst false n2447 c2448)) fun p2449 =>
      getB p2449 fun b2452 =>
      brn b2452 (
        getIf 1000025 p2441 (
          m68_2_L0 N x2413 b2414 p2415 n (.fn 1000025 [(.lst false n2447 c2448)]) (IntKind.u64.wrap (x2442 + 1))) fun p2455 =>
        getL p2455 fun n2457 c2458 =>
        brn (((n2447 : Nat) : Int) == ((n2457 : Nat) : Int)) (
          bnd' (m47 N (.lst false n2447 c2448) (.lst false n2457 c2458)) fun p2460 =>
          getI .i64 p2460 fun x2463 =>
          brn (decide (x2463 < 0)) (
            m68_2_L0 N x2413 b2414 p2415 n (.fn 1000025 [(.lst false n2447 c2448)]) (IntKind.u64.wrap (x2442 + 1))) (
            brn (((n2447 : Nat) : Int) != ((n2457 : Nat) : Int)) (
              brn ((decide (((n2447 : Nat) : Int) > ((n2457 : Nat) : Int))) == b2414) (
                m68_2_L0 N x2413 b2414 p2415 n (.fn 1000025 [(.lst false n2447 c2448)]) (IntKind.u64.wrap (x2442 + 1))) (
                m68_2_L0 N x2413 b2414 p2415 n (.fn 1000025 [(.lst false n2457 c2458)]) (IntKind.u64.wrap (x2442 + 1)))) (
              m68_2_L0 N x2413 b2414 p2415 n (.fn 1000025 [(.lst false n2457 c2458)]) (IntKind.u64.wrap (x2442 + 1))))) (
          brn (((n2447 : Nat) : Int) != ((n2457 : Nat) : Int)) (
            brn ((decide (((n2447 : Nat) : Int) > ((n2457 : Nat) : Int))) == b2414) (
              m68_2_L0 N x2413 b2414 p2415 n (.fn 1000025 [(.lst false n2447 c2448)]) (IntKind.u64.wrap (x2442 + 1))) (
              m68_2_L0 N x2413 b2414 p2415 n (.fn 1000025 [(.lst false n2457 c2458)]) (IntKind.u64.wrap (x2442 + 1)))) (
            m68_2_L0 N x2413 b2414 p2415 n (.fn 1000025 [(.lst false n2457 c2458)]) (IntKind.u64.wrap (x2442 + 1))))) (
        m68_2_L0 N x2413 b2414 p2415 n p2441 (IntKind.u64.wrap (x2442 + 1)))) (
      some p2441)
def m68_2 (N : Nat) (x2413 : Int) (b2414 : Bool) (p2415 : PV) : Option (PV) :=
  grd (0 ≤ x2413) <|
  bnd' (m68_2_L0 N x2413 b2414 p2415 N (.fn 999999 []) 0) fun p2469 =>
  getIf 1000025 p2469 (
    some (.tup [(.lst false 0 []), (.bool false)])) fun p2471 =>
  getL p2471 fun n2473 c2474 =>
  some (.tup [(.lst false n2473 c2474), (.bool true)])
theorem c68_2 (N : Nat) (x2413 : Int) (b2414 : Bool) (p2415 : PV) (r : PV)  (h : m68_2 N x2413 b2414 p2415 = some r) : FnP Tryd.prog 68 [(.int .i64 x2413), (.bool b2414), (.fn 999999 [(.fn 86 []), p2415])] r := by
  unfold m68_2 at h
  refine Fn_of (sz := 74) tab_ok [0, 1, 2, 6, 7, 8, 9, 10, 11, 12, 13, 14, 15, 17, 18, 19, 26, 63] [.tmp 6, .tmp 7] Tryd.func68 rfl rfl rfl (by simp) ?_
  simp only [initSt, initEnv, List.map_cons, List.map_nil, List.getD_cons_zero, List.getD_cons_succ, List.getD_nil]
  have hh := grd_some h; clear h; obtain ⟨g2416, h⟩ := hh
  refine W_sound tab_ok mixed 16 _ _ _ ?_
  simp -implicitDefEqProofs only [go_sem, qa, qb, qc, qd, qe, qf, qg, qh, qi, qj, qk, ↓reduceIte, g2416]
  repeat with_reducible refine ⟨by first | kernel_rfl | decide, ?_⟩
  have hh := bnd'_some h; clear h; obtain ⟨o2475, h2476, h2477⟩ := hh
  refine Wp_cut (fun s => ∃ p2469, p2469 = o2475 ∧ s = ⟨[], [(0, .dead), (1, .dead), (2, .dead), (6, .dead), (7, .dead), (8, .v p2469), (9, .dead), (10, .dead), (11, .dead), (12, .dead), (13, .dead), (14, .dead), (15, .dead), (17, .dead), (18, .dead), (19, .dead), (26, .dead), (63, .dead)], [], 0, []⟩) ?_ ?_
  · refine Wp_block ?_
    refine Wp_loopG (fun n s => ∃ p2441, ∃ x2442, m68_2_L0 N x2413 b2414 p2415 n p2441 x2442 = some o2475 ∧ s = ⟨[], [(0, .dead), (1, .v (.bool b2414)), (2, .v (.fn 999999 [(.fn 86 []), p2415])), (6, .dead), (7, .dead), (8, .v p2441), (9, .dead), (10, .dead), (11, .dead), (12, .dead), (13, .dead), (14, .dead), (15, .dead), (17, .v (.int .u64 (IntKind.u64.wrap (1 * 2 ^ (min (Int.toNat x2413) 64))))), (18, .v (.int .u64 x2442)), (19, .dead), (26, .dead), (63, .dead)], [], 0, []⟩) N _ ((Wk_le (.k (.r (.r (.k (.k (.r (.r (.r (.r (.r (.r (.r (.r (.r (.r (.r (.r (.r .nil)))))))))))))))))) (OLe.refl _)).trans (cmpS_ok (st' := ⟨[], [(0, .dead), (1, .v (.bool b2414)), (2, .v (.fn 999999 [(.fn 86 []), p2415])), (6, .dead), (7, .dead), (8, .v (.fn 999999 [])), (9, .dead), (10, .dead), (11, .dead), (12, .dead), (13, .dead), (14, .dead), (15, .dead), (17, .v (.int .u64 (IntKind.u64.wrap (1 * 2 ^ (min (Int.toNat x2413) 64))))), (18, .v (.int .u64 0)), (19, .dead), (26, .dead), (63, .dead)], [], 0, []⟩) (by kernel_rfl))) ⟨_, _, h2476, rfl⟩ ?_
    clear h2476
    rintro n _ ⟨p2441, x2442, h2476, rfl⟩
    cases n with
    | zero => cases h2476
    | succ n =>
      rw [m68_2_L0] at h2476
      have hh := brn_some h2476; clear h2476; rcases hh with ⟨h2443, h2476⟩ | ⟨h2443, h2476⟩
      · have hh := bnd'_some h2476; clear h2476; obtain ⟨p2444, h2445, h2476⟩ := hh
        refine W_sound tab_ok mixed 17 _ _ _ ?_
        simp -implicitDefEqProofs only [go_sem, qa, qb, qc, qd, qe, qf, qg, qh, qi, qj, qk, ↓reduceIte, g2416, h2443]
        repeat with_reducible refine ⟨by first | kernel_rfl | decide, ?_⟩
        refine Wp_callP (c77 N _ _ h2445) (by kernel_rfl) rfl rfl rfl rfl (by decide) ?_
        have hh := getL_some h2476; clear h2476; obtain ⟨n2447, c2448, h2446, h2476⟩ := hh
        have hh := bnd'_some h2476; clear h2476; obtain ⟨p2449, h2450, h2476⟩ := hh
        refine W_sound tab_ok mixed 7 _ _ _ ?_
        simp -implicitDefEqProofs only [go_sem, qa, qb, qc, qd, qe, qf, qg, qh, qi, qj, qk, ↓reduceIte, g2416, h2443, h2446]
        repeat with_reducible refine ⟨by first | kernel_rfl | decide, ?_⟩
        refine Wp_callP (c86 N _ _ _ h2450) (by kernel_rfl) rfl rfl rfl rfl (by decide) ?_
        have hh := getB_some h2476; clear h2476; obtain ⟨b2452, h2451, h2476⟩ := hh
        have hh := brn_some h2476; clear h2476; rcases hh with ⟨h2453, h2476⟩ | ⟨h2453, h2476⟩
        · have hh := getIf_some h2476; clear h2476; rcases hh with ⟨h2454, h2476⟩ | ⟨p2455, h2454, h2476⟩
          · refine W_sound tab_ok mixed 64 _ _ _ ?_
            simp -implicitDefEqProofs only [go_sem, qa, qb, qc, qd, qe, qf, qg, qh, qi, qj, qk, ↓reduceIte, g2416, h2443, h2446, h2451, h2453, h2454]
            repeat with_reducible refine ⟨by first | kernel_rfl | decide, ?_⟩
            exact cutQ _ ((Wk_le (.r (.r (.r (.r (.r (.r (.k (.k (.k (.k (.k (.r (.r (.r (.r (.k (.k (.k .nil)))))))))))))))))) (OLe.refl _)).trans (cmpS_ok (st' := ⟨[], [(0, .dead), (1, .v (.bool b2414)), (2, .v (.fn 999999 [(.fn 86 []), p2415])), (6, .dead), (7, .dead), (8, .v (.fn 1000025 [(.lst false n2447 c2448)])), (9, .dead), (10, .dead), (11, .dead), (12, .dead), (13, .dead), (14, .dead), (15, .dead), (17, .v (.int .u64 (IntKind.u64.wrap (1 * 2 ^ (min (Int.toNat x2413) 64))))), (18, .v (.int .u64 (IntKind.u64.wrap (x2442 + 1)))), (19, .dead), (26, .dead), (63, .dead)], [], 0, []⟩) (by kernel_rfl))) ⟨n, Nat.lt_succ_self n, _, _, h2476, rfl⟩
          · have hh := getL_some h2476; clear h2476; obtain ⟨n2457, c2458, h2456, h2476⟩ := hh
            have hh := brn_some h2476; clear h2476; rcases hh with ⟨h2459, h2476⟩ | ⟨h2459, h2476⟩
            · have hh := bnd'_some h2476; clear h2476; obtain ⟨p2460, h2461, h2476⟩ := hh
              refine W_sound tab_ok mixed 27 _ _ _ ?_
              simp -implicitDefEqProofs only [go_sem, qa, qb, qc, qd, qe, qf, qg, qh, qi, qj, qk, ↓reduceIte, g2416, h2443, h2446, h2451, h2453, h2454, h2456, h2459]
              repeat with_reducible refine ⟨by first | kernel_rfl | decide, ?_⟩
              refine Wp_callP (c47 N _ _ _ h2461) (by kernel_rfl) rfl rfl rfl rfl (by decide) ?_
              have hh := getI_some h2476; clear h2476; obtain ⟨x2463, h2462, h2476⟩ := hh
              have hh := brn_some h2476; clear h2476; rcases hh with ⟨h2464, h2476⟩ | ⟨h2464, h2476⟩
              · refine W_sound tab_ok mixed 36 _ _ _ ?_
                simp -implicitDefEqProofs only [go_sem, qa, qb, qc, qd, qe, qf, qg, qh, qi, qj, qk, ↓reduceIte, g2416, h2443, h2446, h2451, h2453, h2454, h2456, h2459, h2462, h2464]
                repeat with_reducible refine ⟨by first | kernel_rfl | decide, ?_⟩
                exact cutQ _ ((Wk_le (.r (.r (.r (.r (.r (.r (.k (.k (.k (.k (.k (.r (.r (.r (.r (.k (.k (.k .nil)))))))))))))))))) (OLe.refl _)).trans (cmpS_ok (st' := ⟨[], [(0, .dead), (1, .v (.bool b2414)), (2, .v (.fn 999999 [(.fn 86 []), p2415])), (6, .dead), (7, .dead), (8, .v (.fn 1000025 [(.lst false n2447 c2448)])), (9, .dead), (10, .dead), (11, .dead), (12, .dead), (13, .dead), (14, .dead), (15, .dead), (17, .v (.int .u64 (IntKind.u64.wrap (1 * 2 ^ (min (Int.toNat x2413) 64))))), (18, .v (.int .u64 (IntKind.u64.wrap (x2442 + 1)))), (19, .dead), (26, .dead), (63, .dead)], [], 0, []⟩) (by kernel_rfl))) ⟨n, Nat.lt_succ_self n, _, _, h2476, rfl⟩
              · have hh := brn_some h2476; clear h2476; rcases hh with ⟨h2465, h2476⟩ | ⟨h2465, h2476⟩
                · have hh := brn_some h2476; clear h2476; rcases hh with ⟨h2466, h2476⟩ | ⟨h2466, h2476⟩
                  · refine W_sound tab_ok mixed 36 _ _ _ ?_
                    simp -implicitDefEqProofs only [go_sem, qa, qb, qc, qd, qe, qf, qg, qh, qi, qj, qk, ↓reduceIte, g2416, h2443, h2446, h2451, h2453, h2454, h2456, h2459, h2462, h2464, h2465, h2466]
                    repeat with_reducible refine ⟨by first | kernel_rfl | decide, ?_⟩
                    exact cutQ _ ((Wk_le (.r (.r (.r (.r (.r (.r (.k (.k (.k (.k (.k (.r (.r (.r (.r (.k (.k (.k .nil)))))))))))))))))) (OLe.refl _)).trans (cmpS_ok (st' := ⟨[], [(0, .dead), (1, .v (.bool b2414)), (2, .v (.fn 999999 [(.fn 86 []), p2415])), (6, .dead), (7, .dead), (8, .v (.fn 1000025 [(.lst false n2447 c2448)])), (9, .dead), (10, .dead), (11, .dead), (12, .dead), (13, .dead), (14, .dead), (15, .dead), (17, .v (.int .u64 (IntKind.u64.wrap (1 * 2 ^ (min (Int.toNat x2413) 64))))), (18, .v (.int .u64 (IntKind.u64.wrap (x2442 + 1)))), (19, .dead), (26, .dead), (63, .dead)], [], 0, []⟩) (by kernel_rfl))) ⟨n, Nat.lt_succ_self n, _, _, h2476, rfl⟩
                  · refine W_sound tab_ok mixed 32 _ _ _ ?_
                    simp -implicitDefEqProofs only [go_sem, qa, qb, qc, qd, qe, qf, qg, qh, qi, qj, qk, ↓reduceIte, g2416, h2443, h2446, h2451, h2453, h2454, h2456, h2459, h2462, h2464, h2465, h2466]
                    repeat with_reducible refine ⟨by first | kernel_rfl | decide, ?_⟩
                    exact cutQ _ ((Wk_le (.r (.r (.r (.r (.r (.r (.k (.k (.k (.k (.k (.r (.r (.r (.r (.k (.k (.k .nil)))))))))))))))))) (OLe.refl _)).trans (cmpS_ok (st' := ⟨[], [(0, .dead), (1, .v (.bool b2414)), (2, .v (.fn 999999 [(.fn 86 []), p2415])), (6, .dead), (7, .dead), (8, .v (.fn 1000025 [(.lst false n2457 c2458)])), (9, .dead), (10, .dead), (11, .dead), (12, .dead), (13, .dead), (14, .dead), (15, .dead), (17, .v (.int .u64 (IntKind.u64.wrap (1 * 2 ^ (min (Int.toNat x2413) 64))))), (18, .v (.int .u64 (IntKind.u64.wrap (x2442 + 1)))), (19, .dead), (26, .dead), (63, .dead)], [], 0, []⟩) (by kernel_rfl))) ⟨n, Nat.lt_succ_self n, _, _, h2476, rfl⟩
                · refine W_sound tab_ok mixed 32 _ _ _ ?_
                  simp -implicitDefEqProofs only [go_sem, qa, qb, qc, qd, qe, qf, qg, qh, qi, qj, qk, ↓reduceIte, g2416, h2443, h2446, h2451, h2453, h2454, h2456, h2459, h2462, h2464, h2465]
                  repeat with_reducible refine ⟨by first | kernel_rfl | decide, ?_⟩
                  exact cutQ _ ((Wk_le (.r (.r (.r (.r (.r (.r (.k (.k (.k (.k (.k (.r (.r (.r (.r (.k (.k (.k .nil)))))))))))))))))) (OLe.refl _)).trans (cmpS_ok (st' := ⟨[], [(0, .dead), (1, .v (.bool b2414)), (2, .v (.fn 999999 [(.fn 86 []), p2415])), (6, .dead), (7, .dead), (8, .v (.fn 1000025 [(.lst false n2457 c2458)])), (9, .dead), (10, .dead), (11, .dead), (12, .dead), (13, .dead), (14, .dead), (15, .dead), (17, .v (.int .u64 (IntKind.u64.wrap (1 * 2 ^ (min (Int.toNat x2413) 64))))), (18, .v (.int .u64 (IntKind.u64.wrap (x2442 + 1)))), (19, .dead), (26, .dead), (63, .dead)], [], 0, []⟩) (by kernel_rfl))) ⟨n, Nat.lt_succ_self n, _, _, h2476, rfl⟩
            · have hh := brn_some h2476; clear h2476; rcases hh with ⟨h2467, h2476⟩ | ⟨h2467, h2476⟩
              · have hh := brn_some h2476; clear h2476; rcases hh with ⟨h2468, h2476⟩ | ⟨h2468, h2476⟩
                · refine W_sound tab_ok mixed 64 _ _ _ ?_
                  simp -implicitDefEqProofs only [go_sem, qa, qb, qc, qd, qe, qf, qg, qh, qi, qj, qk, ↓reduceIte, g2416, h2443, h2446, h2451, h2453, h2454, h2456, h2459, h2467, h2468]
                  repeat with_reducible refine ⟨by first | kernel_rfl | decide, ?_⟩
                  exact cutQ _ ((Wk_le (.r (.r (.r (.r (.r (.r (.k (.k (.k (.k (.k (.r (.r (.r (.r (.k (.k (.k .nil)))))))))))))))))) (OLe.refl _)).trans (cmpS_ok (st' := ⟨[], [(0, .dead), (1, .v (.bool b2414)), (2, .v (.fn 999999 [(.fn 86 []), p2415])), (6, .dead), (7, .dead), (8, .v (.fn 1000025 [(.lst false n2447 c2448)])), (9, .dead), (10, .dead), (11, .dead), (12, .dead), (13, .dead), (14, .dead), (15, .dead), (17, .v (.int .u64 (IntKind.u64.wrap (1 * 2 ^ (min (Int.toNat x2413) 64))))), (18, .v (.int .u64 (IntKind.u64.wrap (x2442 + 1)))), (19, .dead), (26, .dead), (63, .dead)], [], 0, []⟩) (by kernel_rfl))) ⟨n, Nat.lt_succ_self n, _, _, h2476, rfl⟩
                · refine W_sound tab_ok mixed 60 _ _ _ ?_
                  simp -implicitDefEqProofs only [go_sem, qa, qb, qc, qd, qe, qf, qg, qh, qi, qj, qk, ↓reduceIte, g2416, h2443, h2446, h2451, h2453, h2454, h2456, h2459, h2467, h2468]
                  repeat with_reducible refine ⟨by first | kernel_rfl | decide, ?_⟩
                  exact cutQ _ ((Wk_le (.r (.r (.r (.r (.r (.r (.k (.k (.k (.k (.k (.r (.r (.r (.r (.k (.k (.k .nil)))))))))))))))))) (OLe.refl _)).trans (cmpS_ok (st' := ⟨[], [(0, .dead), (1, .v (.bool b2414)), (2, .v (.fn 999999 [(.fn 86 []), p2415])), (6, .dead), (7, .dead), (8, .v (.fn 1000025 [(.lst false n2457 c2458)])), (9, .dead), (10, .dead), (11, .dead), (12, .dead), (13, .dead), (14, .dead), (15, .dead), (17, .v (.int .u64 (IntKind.u64.wrap (1 * 2 ^ (min (Int.toNat x2413) 64))))), (18, .v (.int .u64 (IntKind.u64.wrap (x2442 + 1)))), (19, .dead), (26, .dead), (63, .dead)], [], 0, []⟩) (by kernel_rfl))) ⟨n, Nat.lt_succ_self n, _, _, h2476, rfl⟩
              · refine W_sound tab_ok mixed 60 _ _ _ ?_
                simp -implicitDefEqProofs only [go_sem, qa, qb, qc, qd, qe, qf, qg, qh, qi, qj, qk, ↓reduceIte, g2416, h2443, h2446, h2451, h2453, h2454, h2456, h2459, h2467]
                repeat with_reducible refine ⟨by first | kernel_rfl | decide, ?_⟩
                exact cutQ _ ((Wk_le (.r (.r (.r (.r (.r (.r (.k (.k (.k (.k (.k (.r (.r (.r (.r (.k (.k (.k .nil)))))))))))))))))) (OLe.refl _)).trans (cmpS_ok (st' := ⟨[], [(0, .dead), (1, .v (.bool b2414)), (2, .v (.fn 999999 [(.fn 86 []), p2415])), (6, .dead), (7, .dead), (8, .v (.fn 1000025 [(.lst false n2457 c2458)])), (9, .dead), (10, .dead), (11, .dead), (12, .dead), (13, .dead), (14, .dead), (15, .dead), (17, .v (.int .u64 (IntKind.u64.wrap (1 * 2 ^ (min (Int.toNat x2413) 64))))), (18, .v (.int .u64 (IntKind.u64.wrap (x2442 + 1)))), (19, .dead), (26, .dead), (63, .dead)], [], 0, []⟩) (by kernel_rfl))) ⟨n, Nat.lt_succ_self n, _, _, h2476, rfl⟩
        · refine W_sound tab_ok mixed 8 _ _ _ ?_
          simp -implicitDefEqProofs only [go_sem, qa, qb, qc, qd, qe, qf, qg, qh, qi, qj, qk, ↓reduceIte, g2416, h2443, h2446, h2451, h2453]
          repeat with_reducible refine ⟨by first | kernel_rfl | decide, ?_⟩
          exact cutQ _ ((Wk_le (.r (.r (.r (.r (.r (.r (.k (.k (.r (.r (.r (.r (.r (.r (.r (.k (.k (.r .nil)))))))))))))))))) (OLe.refl _)).trans (cmpS_ok (st' := ⟨[], [(0, .dead), (1, .v (.bool b2414)), (2, .v (.fn 999999 [(.fn 86 []), p2415])), (6, .dead), (7, .dead), (8, .v p2441), (9, .dead), (10, .dead), (11, .dead), (12, .dead), (13, .dead), (14, .dead), (15, .dead), (17, .v (.int .u64 (IntKind.u64.wrap (1 * 2 ^ (min (Int.toNat x2413) 64))))), (18, .v (.int .u64 (IntKind.u64.wrap (x2442 + 1)))), (19, .dead), (26, .dead), (63, .dead)], [], 0, []⟩) (by kernel_rfl))) ⟨n, Nat.lt_succ_self n, _, _, h2476, rfl⟩
      · refine W_sound tab_ok mixed 7 _ _ _ ?_
        simp -implicitDefEqProofs only [go_sem, qa, qb, qc, qd, qe, qf, qg, qh, qi, qj, qk, ↓reduceIte, g2416, h2443]
        repeat with_reducible refine ⟨by first | kernel_rfl | decide, ?_⟩
        obtain rfl := Option.some.inj h2476
        exact cutQ _ ((Wk_le (.r (.k (.k (.r (.r (.r (.r (.r (.r (.r (.r (.r (.r (.k (.k (.k (.r (.r .nil)))))))))))))))))) (OLe.refl _)).trans (cmpS_ok (st' := ⟨[], [(0, .dead), (1, .dead), (2, .dead), (6, .dead), (7, .dead), (8, .v p2441), (9, .dead), (10, .dead), (11, .dead), (12, .dead), (13, .dead), (14, .dead), (15, .dead), (17, .dead), (18, .dead), (19, .dead), (26, .dead), (63, .dead)], [], 0, []⟩) (by kernel_rfl))) ⟨_, rfl, rfl⟩
  · rintro _ ⟨p2469, rfl, rfl⟩
    have hh := getIf_some h2477; clear h2477; rcases hh with ⟨h2470, h2477⟩ | ⟨p2471, h2470, h2477⟩
    · refine W_sound tab_ok mixed 19 _ _ _ ?_
      simp -implicitDefEqProofs only [go_sem, qa, qb, qc, qd, qe, qf, qg, qh, qi, qj, qk, ↓reduceIte, g2416, h2470]
      repeat with_reducible refine ⟨by first | kernel_rfl | decide, ?_⟩
      obtain rfl := Option.some.inj h2477
      exact finC [(6, .v .nl), (7, .v (.bool false))] [(6, .v (.lst false 0 [])), (7, .v (.bool false))] (by simp [leE, lk_cons]) (.cons _ _ _ _ _ (.v _ _ (.nl false)) (.cons _ _ _ _ _ (.v _ _ (.refl _)) .nil)) (by rfl) (by simp [leE, lk_cons]) (by decide) (by decide) rfl (by simp only [go_sem, qa, qb, qc, qd, qe, qf, qg, qh, qi, qj, qk, ↓reduceIte, resQ_tmp, resQ_cell, resQ_nil, retD_one, retD_two, retD_three, retD_none]; try simp [R.val, retD_one, retD_two, retD_three, retD_none])
    · have hh := getL_some h2477; clear h2477; obtain ⟨n2473, c2474, h2472, h2477⟩ := hh
      refine W_sound tab_ok mixed 19 _ _ _ ?_
      simp -implicitDefEqProofs only [go_sem, qa, qb, qc, qd, qe, qf, qg, qh, qi, qj, qk, ↓reduceIte, g2416, h2470, h2472]
      repeat with_reducible refine ⟨by first | kernel_rfl | decide, ?_⟩
      obtain rfl := Option.some.inj h2477
      exact finC [(6, .v (.lst false n2473 c2474)), (7, .v (.bool true))] [(6, .v (.lst false n2473 c2474)), (7, .v (.bool true))] (by simp [leE, lk_cons]) (.cons _ _ _ _ _ (.v _ _ (.refl _)) (.cons _ _ _ _ _ (.v _ _ (.refl _)) .nil)) (by rfl) (by simp [leE, lk_cons]) (by decide) (by decide) rfl (by simp only [go_sem, qa, qb, qc, qd, qe, qf, qg, qh, qi, qj, qk, ↓reduceIte, resQ_tmp, resQ_cell, resQ_nil, retD_one, retD_two, retD_three, retD_none]; try simp [R.val, retD_one, retD_two, retD_three, retD_none])
def m36 (N : Nat) (p2401 : PV) : Option (PV) :=
  getA2 p2401 fun p2403 p2404 =>
  bnd' (m22 N (.agg [p2403, p2404])) fun p2405 =>
  getI .i64 p2405 fun x2408 =>
  brn (x2408 != 0) (
    some (.tup [(.lst false 0 []), (.int .i64 x2408)])) (
    getL p2404 fun n2411 c2412 =>
    bnd' (m68_2 N ((n2411 : Nat) : Int) false (.agg [p2403, (.lst false n2411 c2412)])) fun p2478 =>
    getT2 p2478 fun p2481 p2482 =>
    getL p2481 fun n2484 c2485 =>
    getB p2482 fun b2487 =>
    brn b2487 (
      some (.tup [(.lst false n2484 c2485), (.int .i64 0)])) (
      some (.tup [(.lst false 0 []), (.int .i64 13)])))
theorem c36 (N : Nat) (p2401 : PV) (r : PV)  (h : m36 N p2401 = some r) : FnP Tryd.prog 36 [p2401] r := by
  unfold m36 at h
  refine Fn_of (sz := 24) tab_ok [0, 1, 2, 3, 4, 5, 6, 10, 22] [.tmp 2, .tmp 3] Tryd.func36 rfl rfl rfl (by simp) ?_
  simp only [initSt, initEnv, List.map_cons, List.map_nil, List.getD_cons_zero, List.getD_cons_succ, List.getD_nil]
  have hh := getA2_some h; clear h; obtain ⟨p2403, p2404, h2402, h⟩ := hh
  have hh := bnd'_some h; clear h; obtain ⟨p2405, h2406, h⟩ := hh
  refine W_sound tab_ok mixed 10 _ _ _ ?_
  simp -implicitDefEqProofs only [go_sem, qa, qb, qc, qd, qe, qf, qg, qh, qi, qj, qk, ↓reduceIte, h2402]
  repeat with_reducible refine ⟨by first | kernel_rfl | decide, ?_⟩
  refine Wp_callP (c22 N _ _ h2406) (by kernel_rfl) rfl rfl rfl rfl (by decide) ?_
  have hh := getI_some h; clear h; obtain ⟨x2408, h2407, h⟩ := hh
  have hh := brn_some h; clear h; rcases hh with ⟨h2409, h⟩ | ⟨h2409, h⟩
  · refine W_sound tab_ok mixed 16 _ _ _ ?_
    simp -implicitDefEqProofs only [go_sem, qa, qb, qc, qd, qe, qf, qg, qh, qi, qj, qk, ↓reduceIte, h2402, h2407, h2409]
    repeat with_reducible refine ⟨by first | kernel_rfl | decide, ?_⟩
    obtain rfl := Option.some.inj h
    exact finC [(2, .v .nl), (3, .v (.int .i64 x2408))] [(2, .v (.lst false 0 [])), (3, .v (.int .i64 x2408))] (by simp [leE, lk_cons]) (.cons _ _ _ _ _ (.v _ _ (.nl false)) (.cons _ _ _ _ _ (.v _ _ (.refl _)) .nil)) (by rfl) (by simp [leE, lk_cons]) (by decide) (by decide) rfl (by simp only [go_sem, qa, qb, qc, qd, qe, qf, qg, qh, qi, qj, qk, ↓reduceIte, resQ_tmp, resQ_cell, resQ_nil, retD_one, retD_two, retD_three, retD_none]; try simp [R.val, retD_one, retD_two, retD_three, retD_none])
  · have hh := getL_some h; clear h; obtain ⟨n2411, c2412, h2410, h⟩ := hh
    have hh := bnd'_some h; clear h; obtain ⟨p2478, h2479, h⟩ := hh
    refine W_sound tab_ok mixed 16 _ _ _ ?_
    simp -implicitDefEqProofs only [go_sem, qa, qb, qc, qd, qe, qf, qg, qh, qi, qj, qk, ↓reduceIte, h2402, h2407, h2409, h2410]
    repeat with_reducible refine ⟨by first | kernel_rfl | decide, ?_⟩
    refine Wp_callP (c68_2 N _ _ _ _ h2479) (by kernel_rfl) rfl rfl rfl rfl (by decide) ?_
    have hh := getT2_some h; clear h; obtain ⟨p2481, p2482, h2480, h⟩ := hh
    have hh := getL_some h; clear h; obtain ⟨n2484, c2485, h2483, h⟩ := hh
    have hh := getB_some h; clear h; obtain ⟨b2487, h2486, h⟩ := hh
    have hh := brn_some h; clear h; rcases hh with ⟨h2488, h⟩ | ⟨h2488, h⟩
    · refine W_sound tab_ok mixed 22 _ _ _ ?_
      simp -implicitDefEqProofs only [go_sem, qa, qb, qc, qd, qe, qf, qg, qh, qi, qj, qk, ↓reduceIte, h2402, h2407, h2409, h2410, h2480, h2483, h2486, h2488]
      repeat with_reducible refine ⟨by first | kernel_rfl | decide, ?_⟩
      obtain rfl := Option.some.inj h
      exact finC [(2, .v (.lst false n2484 c2485)), (3, .v (.int .i64 0))] [(2, .v (.lst false n2484 c2485)), (3, .v (.int .i64 0))] (by simp [leE, lk_cons]) (.cons _ _ _ _ _ (.v _ _ (.refl _)) (.cons _ _ _ _ _ (.v _ _ (.refl _)) .nil)) (by rfl) (by simp [leE, lk_cons]) (by decide) (by decide) rfl (by simp only [go_sem, qa, qb, qc, qd, qe, qf, qg, qh, qi, qj, qk, ↓reduceIte, resQ_tmp, resQ_cell, resQ_nil, retD_one, retD_two, retD_three, retD_none]; try simp [R.val, retD_one, retD_two, retD_three, retD_none])
    · refine W_sound tab_ok mixed 20 _ _ _ ?_
      simp -implicitDefEqProofs only [go_sem, qa, qb, qc, qd, qe, qf, qg, qh, qi, qj, qk, ↓reduceIte, h2402, h2407, h2409, h2410, h2480, h2483, h2486, h2488]
      repeat with_reducible refine ⟨by first | kernel_rfl | decide, ?_⟩
      obtain rfl := Option.some.inj h
      exact finC [(2, .v .nl), (3, .v (.int .i64 13))] [(2, .v (.lst false 0 [])), (3, .v (.int .i64 13))] (by simp [leE, lk_cons]) (.cons _ _ _ _ _ (.v _ _ (.nl false)) (.cons _ _ _ _ _ (.v _ _ (.refl _)) .nil)) (by rfl) (by simp [leE, lk_cons]) (by decide) (by decide) rfl (by simp only [go_sem, qa, qb, qc, qd, qe, qf, qg, qh, qi, qj, qk, ↓reduceIte, resQ_tmp, resQ_cell, resQ_nil, retD_one, retD_two, retD_three, retD_none]; try simp [R.val, retD_one, retD_two, retD_three, retD_none])
def m81 (N : Nat) (x4094 : Int) : Option ((PV × Int)) :=
  some ((.bool true), (IntKind.i64.wrap (x4094 + 1)))
theorem c81 (N : Nat) (x4094 : Int) (r : PV) (x4096 : Int) (h : m81 N x4094 = some (r, x4096)) : V.Fn Tryd.prog 81 1 [.v .nl, .ptr 0 0] [(0, .p [(.int .i64 x4094)])] (fun d ob' => d = .v r ∧ ob' = [(0, .p [(.int .i64 x4096)])]) := by
  unfold m81 at h
  refine Fn_of (sz := 6) tab_ok [0, 1, 3] [.tmp 3] Tryd.func81 rfl rfl rfl (by simp) ?_
  simp only [initSt, initEnv, List.map_cons, List.map_nil, List.getD_cons_zero, List.getD_cons_succ, List.getD_nil]
  refine W_sound tab_ok mixed 16 _ _ _ ?_
  simp -implicitDefEqProofs only [go_sem, qa, qb, qc, qd, qe, qf, qg, qh, qi, qj, qk, ↓reduceIte]
  repeat with_reducible refine ⟨by first | kernel_rfl | decide, ?_⟩
  simp only [Option.some.injEq, Prod.mk.injEq] at h; obtain ⟨rfl, rfl⟩ := h
  exact finD (e2 := [(0, .dead), (1, .dead), (3, .v (.bool true))]) (ob2 := [(0, .p [(.int .i64 (IntKind.i64.wrap (x4094 + 1)))])]) (st' := ⟨[], [(0, .dead), (1, .dead), (3, .v (.bool true))], [(0, .p [(.int .i64 (IntKind.i64.wrap (x4094 + 1)))])], 1, []⟩) (.k (.k (.r .nil))) (.cons _ _ _ _ _ (DLes.refl _) .nil) (by kernel_rfl) (by simp only [go_sem, qa, qb, qc, qd, qe, qf, qg, qh, qi, qj, qk, ↓reduceIte, resQ_tmp, resQ_cell, resQ_nil, retD_one, retD_two, retD_three, retD_none]; try simp [R.val, retD_one, retD_two, retD_three, retD_none])
def m81_2 (N : Nat) (p4160 : PV) (x4161 : Int) : Option ((PV × Int)) :=
  getL p4160 fun n4164 c4165 =>
  some ((.bool true), (IntKind.i64.wrap (x4161 + 1)))
theorem c81_2 (N : Nat) (p4160 : PV) (x4161 : Int) (r : PV) (x4166 : Int) (h : m81_2 N p4160 x4161 = some (r, x4166)) : V.Fn Tryd.prog 81 1 [.v p4160, .ptr 0 0] [(0, .p [(.int .i64 x4161)])] (fun d ob' => d = .v r ∧ ob' = [(0, .p [(.int .i64 x4166)])]) := by
  unfold m81_2 at h
  refine Fn_of (sz := 6) tab_ok [0, 1, 3] [.tmp 3] Tryd.func81 rfl rfl rfl (by simp) ?_
  simp only [initSt, initEnv, List.map_cons, List.map_nil, List.getD_cons_zero, List.getD_cons_succ, List.getD_nil]
  have hh := getL_some h; clear h; obtain ⟨n4164, c4165, h4163, h⟩ := hh
  refine W_sound tab_ok mixed 16 _ _ _ ?_
  simp -implicitDefEqProofs only [go_sem, qa, qb, qc, qd, qe, qf, qg, qh, qi, qj, qk, ↓reduceIte, h4163]
  repeat with_reducible refine ⟨by first | kernel_rfl | decide, ?_⟩
  simp only [Option.some.injEq, Prod.mk.injEq] at h; obtain ⟨rfl, rfl⟩ := h
  exact finD (e2 := [(0, .dead), (1, .dead), (3, .v (.bool true))]) (ob2 := [(0, .p [(.int .i64 (IntKind.i64.wrap (x4161 + 1)))])]) (st' := ⟨[], [(0, .dead), (1, .dead), (3, .v (.bool true))], [(0, .p [(.int .i64 (IntKind.i64.wrap (x4161 + 1)))])], 1, []⟩) (.k (.k (.r .nil))) (.cons _ _ _ _ _ (DLes.refl _) .nil) (by kernel_rfl) (by simp only [go_sem, qa, qb, qc, qd, qe, qf, qg, qh, qi, qj, qk, ↓reduceIte, resQ_tmp, resQ_cell, resQ_nil, retD_one, retD_two, retD_three, retD_none]; try simp [R.val, retD_one, retD_two, retD_three, retD_none])
def m99_4_L0 (N : Nat) (rec : PV → PV → PV → Int → PV → PV → Option ((PV × PV × Int × PV))) (p4223 : PV) (n4229 : Nat) (c4230 : List PV) (p4232 : PV) (p4233 : PV) (p4234 : PV) (p4235 : PV) (p4236 : PV) (n4258 : Nat) (c4259 : List PV) : Nat → Int → PV → Int → PV → Option (((PV × PV × Int × PV) ⊕ (PV × Int × PV)))
  | 0, _, _, _, _ => none
  | n + 1, x4292, p4293, x4294, p4295 =>
    brn (decide (x4292 < ((n4258 : Nat) : Int))) (
      grd (0 ≤ x4292 ∧ x4292 < ((n4258 : Nat) : Int)) <|
      grd (2 ≤ List.length (List.drop ((Int.toNat x4292) * 2) c4259)) <|
      getA2 (.agg (List.take 2 (List.drop ((Int.toNat x4292) * 2) c4259))) fun p4301 p4302 =>
      bnd' (m71 N (.agg [p4232, p4233, p4234, p4235, p4236]) (.agg [p4301, p4302])) fun p4303 =>
      getB p4303 fun b4306 =>
      brn b4306 (
        m99_4_L0 N rec p4223 n4229 c4230 p4232 p4233 p4234 p4235 p4236 n4258 c4259 n (IntKind.i64.wrap (x4292 + 1)) p4293 x4294 p4295) (
        grd (((n4229 : Nat) : Int) ≤ ((n4229 : Nat) : Int)) <|
        grd (List.length c4230 = n4229) <|
        grd ((n4229 + 1) ≤ 1099511627776) <|
        bnd' (m98 N (.agg [p4232, p4233, p4234, p4235, p4236]) (.agg [p4301, p4302])) fun p4311 =>
        getA5 p4311 fun p4314 p4315 p4316 p4317 p4318 =>
        bnd' (rec (.lst false (n4229 + 1) (c4230 ++ [(.int .i64 x4292)])) (.agg [p4314, p4315, p4316, p4317, p4318]) p4293 x4294 p4223 p4295) fun (p4319, p4321, x4322, p4323) =>
        getB p4319 fun b4325 =>
        brn b4325 (
          m99_4_L0 N rec p4223 n4229 c4230 p4232 p4233 p4234 p4235 p4236 n4258 c4259 n (IntKind.i64.wrap (x4292 + 1)) p4321 x4322 p4323) (
          some (.inl ((.bool false), p4321, x4322, p4323))))) (
      some (.inr (p4293, x4294, p4295)))
def m99_4 (N : Nat) : Nat → PV → PV → PV → Int → PV → PV → Option ((PV × PV × Int × PV))
  | 0, _, _, _, _, _, _ => none
  | fu + 1, p4219, p4220, p4221, x4222, p4223, p4224 =>
    getL p4219 fun n4229 c4230 =>
    getA5 p4220 fun p4232 p4233 p4234 p4235 p4236 =>
    getL p4221 fun n4238 c4239 =>
    brn (((n4229 : Nat) : Int) == ((n4238 : Nat) : Int)) (
      bnd' (m81_2 N (.lst false n4229 c4230) x4222) fun (p4241, x4243) =>
      getB p4241 fun b4245 =>
      some ((.bool b4245), (.lst false n4238 c4239), x4243, p4224)) (
      getL p4224 fun n4247 c4248 =>
      grd (0 ≤ ((n4229 : Nat) : Int) ∧ ((n4229 : Nat) : Int) < ((n4238 : Nat) : Int)) <|
      grd (0 < List.length (List.drop n4229 c4239)) <|
      getI .i64 (gp c4239 n4229) fun x4253 =>
      grd (0 ≤ x4253 ∧ x4253 < ((n4247 : Nat) : Int)) <|
      grd (0 < List.length (List.drop (Int.toNat x4253) c4248)) <|
      getL (gp c4248 (Int.toNat x4253)) fun n4258 c4259 =>
      bnd' (m99_4_L0 N (m99_4 N fu) p4223 n4229 c4230 p4232 p4233 p4234 p4235 p4236 n4258 c4259 N 0 (.lst false n4238 c4239) x4222 (.lst false n4247 c4248)) fun o =>
      match o with
      | .inl p4327 =>
        some p4327
      | .inr (p4328, x4329, p4330) =>
        some ((.bool true), p4328, x4329, p4330))
theorem c99_4 (N : Nat) : ∀ (fu : Nat) (p4219 : PV) (p4220 : PV) (p4221 : PV) (x4222 : Int) (p4223 : PV) (p4224 : PV) (r : PV) (p4334 : PV) (x4335 : Int) (p4336 : PV) (h : m99_4 N fu p4219 p4220 p4221 x4222 p4223 p4224 = some (r, p4334, x4335, p4336)), V.Fn Tryd.prog 99 5 [.v p4219, .v p4220, .ptr 0 0, .ptr 1 0, .ptr 3 0, .ptr 4 0] [(0, .p [p4221]), (1, .r [.fn 81 [.ptr 2 0]]), (2, .p [(.int .i64 x4222)]), (3, .p [p4223, p4224]), (4, .r [.fn 99 [.ptr 0 0, .ptr 1 0, .ptr 3 0, .ptr 4 0]])] (fun d ob' => d = .v r ∧ ob' = [(0, .p [p4334]), (1, .r [.fn 81 [.ptr 2 0]]), (2, .p [(.int .i64 x4335)]), (3, .p [p4223, p4336]), (4, .r [.fn 99 [.ptr 0 0, .ptr 1 0, .ptr 3 0, .ptr 4 0]])]) := by
  intro fu
  induction fu with
  | zero => intro p4219 p4220 p4221 x4222 p4223 p4224 r p4334 x4335 p4336 h; cases h
  | succ fu ih =>
    intro p4219 p4220 p4221 x4222 p4223 p4224 r p4334 x4335 p4336 h
    rw [m99_4] at h
    refine Fn_of (sz := 55) tab_ok [0, 1, 2, 3, 4, 5, 7, 8, 9, 10, 11, 17, 28, 29, 30, 31, 53] [.tmp 8] Tryd.func99 rfl rfl rfl (by simp) ?_
    simp only [initSt, initEnv, List.map_cons, List.map_nil, List.getD_cons_zero, List.getD_cons_succ, List.getD_nil]
    have hh := getL_some h; clear h; obtain ⟨n4229, c4230, h4228, h⟩ := hh
    have hh := getA5_some h; clear h; obtain ⟨p4232, p4233, p4234, p4235, p4236, h4231, h⟩ := hh
    have hh := getL_some h; clear h; obtain ⟨n4238, c4239, h4237, h⟩ := hh
    have hh := brn_some h; clear h; rcases hh with ⟨h4240, h⟩ | ⟨h4240, h⟩
    · have hh := bnd'_some h; clear h; obtain ⟨⟨p4241, x4243⟩, h4242, h⟩ := hh
      (try dsimp only at h)
      refine W_sound tab_ok mixed 24 _ _ _ ?_
      simp -implicitDefEqProofs only [go_sem, qa, qb, qc, qd, qe, qf, qg, qh, qi, qj, qk, ↓reduceIte, h4228, h4231, h4237, h4240]
      repeat with_reducible refine ⟨by first | kernel_rfl | decide, ?_⟩
      refine Wp_callD [2] (c81_2 N _ _ _ _ h4242) rfl rfl rfl (by first | rfl | (simp only [go_sem, qa, qb, qc, qd, qe, qf, qg, qh, qi, qj, qk, ↓reduceIte, h4228, h4231, h4237, h4240] <;> rfl)) rfl (by kernel_rfl) ?_
      have hh := getB_some h; clear h; obtain ⟨b4245, h4244, h⟩ := hh
      refine W_sound tab_ok mixed 4 _ _ _ ?_
      simp -implicitDefEqProofs only [go_sem, qa, qb, qc, qd, qe, qf, qg, qh, qi, qj, qk, ↓reduceIte, h4228, h4231, h4237, h4240, h4244]
      repeat with_reducible refine ⟨by first | kernel_rfl | decide, ?_⟩
      simp only [Option.some.injEq, Prod.mk.injEq] at h; obtain ⟨rfl, rfl, rfl, rfl⟩ := h
      exact finD (e2 := [(0, .dead), (1, .dead), (2, .dead), (3, .dead), (4, .dead), (5, .dead), (7, .dead), (8, .v (.bool b4245)), (9, .dead), (10, .dead), (11, .dead), (17, .dead), (28, .dead), (29, .dead), (30, .dead), (31, .dead), (53, .dead)]) (ob2 := [(0, .p [(.lst false n4238 c4239)]), (1, .r [.fn 81 [.ptr 2 0]]), (3, .p [p4223, p4224]), (4, .r [.fn 99 [.ptr 0 0, .ptr 1 0, .ptr 3 0, .ptr 4 0]]), (12, .p [p4232, p4233, p4234, p4235, p4236]), (2, .p [(.int .i64 x4243)])]) (st' := ⟨[], [(0, .dead), (1, .dead), (2, .dead), (3, .dead), (4, .dead), (5, .dead), (7, .dead), (8, .v (.bool b4245)), (9, .dead), (10, .dead), (11, .dead), (17, .dead), (28, .dead), (29, .dead), (30, .dead), (31, .dead), (53, .dead)], [(0, .p [(.lst false n4238 c4239)]), (1, .r [.fn 81 [.ptr 2 0]]), (2, .p [(.int .i64 x4243)]), (3, .p [p4223, p4224]), (4, .r [.fn 99 [.ptr 0 0, .ptr 1 0, .ptr 3 0, .ptr 4 0]])], 5, []⟩) (.k (.k (.k (.k (.k (.k (.k (.r (.k (.r (.r (.k (.r (.r (.r (.r (.r .nil))))))))))))))))) (.cons _ _ _ _ _ (DLes.refl _) (.cons _ _ _ _ _ (DLes.refl _) (.cons _ _ _ _ _ (DLes.refl _) (.cons _ _ _ _ _ (DLes.refl _) (.cons _ _ _ _ _ (DLes.refl _) (.cons _ _ _ _ _ (DLes.refl _) .nil)))))) (by kernel_rfl) (by simp only [go_sem, qa, qb, qc, qd, qe, qf, qg, qh, qi, qj, qk, ↓reduceIte, resQ_tmp, resQ_cell, resQ_nil, retD_one, retD_two, retD_three, retD_none]; try simp [R.val, retD_one, retD_two, retD_three, retD_none])
    · have hh := getL_some h; clear h; obtain ⟨n4247, c4248, h4246, h⟩ := hh
      have hh := grd_some h; clear h; obtain ⟨⟨g4249, g4250⟩, h⟩ := hh
      have hh := grd_some h; clear h; obtain ⟨g4251, h⟩ := hh
      have hh := getI_some h; clear h; obtain ⟨x4253, h4252, h⟩ := hh
      have hh := grd_some h; clear h; obtain ⟨⟨g4254, g4255⟩, h⟩ := hh
      have hh := grd_some h; clear h; obtain ⟨g4256, h⟩ := hh
      have hh := getL_some h; clear h; obtain ⟨n4258, c4259, h4257, h⟩ := hh
      refine W_sound tab_ok mixed 35 _ _ _ ?_
      simp -implicitDefEqProofs only [go_sem, qa, qb, qc, qd, qe, qf, qg, qh, qi, qj, qk, ↓reduceIte, h4228, h4231, h4237, h4240, h4246, g4249, g4250, g4251, h4252, g4254, g4255, g4256, h4257]
      repeat with_reducible refine ⟨by first | kernel_rfl | decide, ?_⟩
      have hh := bnd'_some h; clear h; obtain ⟨o4337, h4338, h4339⟩ := hh
      refine Wp_cut (fun s => ∃ p4328, ∃ x4329, ∃ p4330, (.inr (p4328, x4329, p4330)) = o4337 ∧ s = ⟨[], [(0, .dead), (1, .dead), (2, .dead), (3, .dead), (4, .dead), (5, .dead), (7, .dead), (8, .dead), (9, .dead), (10, .dead), (11, .dead), (17, .dead), (28, .dead), (29, .dead), (30, .dead), (31, .dead), (53, .dead)], [(0, .p [p4328]), (1, .r [.fn 81 [.ptr 2 0]]), (2, .p [(.int .i64 x4329)]), (3, .p [p4223, p4330]), (4, .r [.fn 99 [.ptr 0 0, .ptr 1 0, .ptr 3 0, .ptr 4 0]])], 5, []⟩) ?_ ?_
      · refine Wp_block ?_
        refine Wp_loopG (fun n s => ∃ x4292, ∃ p4293, ∃ x4294, ∃ p4295, m99_4_L0 N (m99_4 N fu) p4223 n4229 c4230 p4232 p4233 p4234 p4235 p4236 n4258 c4259 n x4292 p4293 x4294 p4295 = some o4337 ∧ s = ⟨[], [(0, .v (.lst false n4229 c4230)), (1, .dead), (2, .dead), (3, .dead), (4, .dead), (5, .ptr 4 0), (7, .ptr 5 0), (8, .dead), (9, .v (.int .i64 ((n4229 : Nat) : Int))), (10, .dead), (11, .dead), (17, .dead), (28, .v (.lst false n4258 c4259)), (29, .v (.int .i64 ((n4258 : Nat) : Int))), (30, .v (.int .i64 x4292)), (31, .dead), (53, .dead)], [(0, .p [p4293]), (1, .r [.fn 81 [.ptr 2 0]]), (2, .p [(.int .i64 x4294)]), (3, .p [p4223, p4295]), (4, .r [.fn 99 [.ptr 0 0, .ptr 1 0, .ptr 3 0, .ptr 4 0]]), (5, .p [p4232, p4233, p4234, p4235, p4236])], 6, []⟩) N _ ((Wk_le (.r (.k (.k (.k (.k (.r (.r (.k (.r (.r (.r (.k (.r (.r (.r (.r (.r .nil))))))))))))))))) (OLe.refl _)).trans (cmpS_ok (st' := ⟨[], [(0, .v (.lst false n4229 c4230)), (1, .dead), (2, .dead), (3, .dead), (4, .dead), (5, .ptr 4 0), (7, .ptr 5 0), (8, .dead), (9, .v (.int .i64 ((n4229 : Nat) : Int))), (10, .dead), (11, .dead), (17, .dead), (28, .v (.lst false n4258 c4259)), (29, .v (.int .i64 ((n4258 : Nat) : Int))), (30, .v (.int .i64 0)), (31, .dead), (53, .dead)], [(0, .p [(.lst false n4238 c4239)]), (1, .r [.fn 81 [.ptr 2 0]]), (2, .p [(.int .i64 x4222)]), (3, .p [p4223, (.lst false n4247 c4248)]), (4, .r [.fn 99 [.ptr 0 0, .ptr 1 0, .ptr 3 0, .ptr 4 0]]), (5, .p [p4232, p4233, p4234, p4235, p4236])], 6, []⟩) (by kernel_rfl))) ⟨_, _, _, _, h4338, rfl⟩ ?_
        clear h4338
        rintro n _ ⟨x4292, p4293, x4294, p4295, h4338, rfl⟩
        cases n with
        | zero => cases h4338
        | succ n =>
          rw [m99_4_L0] at h4338
          have hh := brn_some h4338; clear h4338; rcases hh with ⟨h4296, h4338⟩ | ⟨h4296, h4338⟩
          · have hh := grd_some h4338; clear h4338; obtain ⟨⟨g4297, g4298⟩, h4338⟩ := hh
            have hh := grd_some h4338; clear h4338; obtain ⟨g4299, h4338⟩ := hh
            have hh := getA2_some h4338; clear h4338; obtain ⟨p4301, p4302, h4300, h4338⟩ := hh
            injection h4300 with h4300
            have hh := bnd'_some h4338; clear h4338; obtain ⟨p4303, h4304, h4338⟩ := hh
            refine W_sound tab_ok mixed 22 _ _ _ ?_
            simp -implicitDefEqProofs only [go_sem, qa, qb, qc, qd, qe, qf, qg, qh, qi, qj, qk, ↓reduceIte, h4228, h4231, h4237, h4240, h4246, g4249, g4250, g4251, h4252, g4254, g4255, g4256, h4257, h4296, g4297, g4298, g4299, h4300]
            repeat with_reducible refine ⟨by first | kernel_rfl | decide, ?_⟩
            refine Wp_callP (c71 N _ _ _ h4304) (by kernel_rfl) rfl rfl rfl rfl (by decide) ?_
            have hh := getB_some h4338; clear h4338; obtain ⟨b4306, h4305, h4338⟩ := hh
            have hh := brn_some h4338; clear h4338; rcases hh with ⟨h4307, h4338⟩ | ⟨h4307, h4338⟩
            · refine W_sound tab_ok mixed 24 _ _ _ ?_
              simp -implicitDefEqProofs only [go_sem, qa, qb, qc, qd, qe, qf, qg, qh, qi, qj, qk, ↓reduceIte, h4228, h4231, h4237, h4240, h4246, g4249, g4250, g4251, h4252, g4254, g4255, g4256, h4257, h4296, g4297, g4298, g4299, h4300, h4305, h4307]
              repeat with_reducible refine ⟨by first | kernel_rfl | decide, ?_⟩
              exact cutQ _ ((Wk_le (.r (.r (.r (.r (.r (.r (.r (.r (.r (.k (.k (.r (.r (.r (.r (.k (.k .nil))))))))))))))))) (OLe.refl _)).trans (cmpS_ok (st' := ⟨[], [(0, .v (.lst false n4229 c4230)), (1, .dead), (2, .dead), (3, .dead), (4, .dead), (5, .ptr 4 0), (7, .ptr 5 0), (8, .dead), (9, .v (.int .i64 ((n4229 : Nat) : Int))), (10, .dead), (11, .dead), (17, .dead), (28, .v (.lst false n4258 c4259)), (29, .v (.int .i64 ((n4258 : Nat) : Int))), (30, .v (.int .i64 (IntKind.i64.wrap (x4292 + 1)))), (31, .dead), (53, .dead)], [(0, .p [p4293]), (1, .r [.fn 81 [.ptr 2 0]]), (2, .p [(.int .i64 x4294)]), (3, .p [p4223, p4295]), (4, .r [.fn 99 [.ptr 0 0, .ptr 1 0, .ptr 3 0, .ptr 4 0]]), (5, .p [p4232, p4233, p4234, p4235, p4236])], 6, []⟩) (by kernel_rfl))) ⟨n, Nat.lt_succ_self n, _, _, _, _, h4338, rfl⟩
            · have hh := grd_some h4338; clear h4338; obtain ⟨g4308, h4338⟩ := hh
              have hh := grd_some h4338; clear h4338; obtain ⟨g4309, h4338⟩ := hh
              have hh := grd_some h4338; clear h4338; obtain ⟨g4310, h4338⟩ := hh
              have hh := bnd'_some h4338; clear h4338; obtain ⟨p4311, h4312, h4338⟩ := hh
              refine W_sound tab_ok mixed 12 _ _ _ ?_
              simp -implicitDefEqProofs only [go_sem, qa, qb, qc, qd, qe, qf, qg, qh, qi, qj, qk, ↓reduceIte, h4228, h4231, h4237, h4240, h4246, g4249, g4250, g4251, h4252, g4254, g4255, g4256, h4257, h4296, g4297, g4298, g4299, h4300, h4305, h4307, g4308, g4309, g4310]
              repeat with_reducible refine ⟨by first | kernel_rfl | decide, ?_⟩
              refine Wp_callP (c98 N _ _ _ h4312) (by kernel_rfl) rfl rfl rfl rfl (by decide) ?_
              have hh := getA5_some h4338; clear h4338; obtain ⟨p4314, p4315, p4316, p4317, p4318, h4313, h4338⟩ := hh
              have hh := bnd'_some h4338; clear h4338; obtain ⟨⟨p4319, p4321, x4322, p4323⟩, h4320, h4338⟩ := hh
              (try dsimp only at h4338)
              (try simp -implicitDefEqProofs only [go_sem, qa, qb, qc, qd, qe, qf, qg, qh, qi, qj, qk, ↓reduceIte, h4228, h4231, h4237, h4240, h4246, g4249, g4250, g4251, h4252, g4254, g4255, g4256, h4257, h4296, g4297, g4298, g4299, h4300, h4305, h4307, g4308, g4309, g4310, h4313])
              refine Wp_callDF [(65, (c4230 ++ [(.int .i64 x4292)]))] [0, 1, 2, 3, 4] (ih _ _ _ _ _ _ _ _ _ _ h4320) rfl rfl rfl (by first | rfl | (simp only [go_sem, qa, qb, qc, qd, qe, qf, qg, qh, qi, qj, qk, ↓reduceIte, h4228, h4231, h4237, h4240, h4246, g4249, g4250, g4251, h4252, g4254, g4255, g4256, h4257, h4296, g4297, g4298, g4299, h4300, h4305, h4307, g4308, g4309, g4310, h4313] <;> rfl)) rfl (by kernel_rfl) rfl rfl (by simp [roF, obL]) ?_
              have hh := getB_some h4338; clear h4338; obtain ⟨b4325, h4324, h4338⟩ := hh
              have hh := brn_some h4338; clear h4338; rcases hh with ⟨h4326, h4338⟩ | ⟨h4326, h4338⟩
              · refine W_sound tab_ok mixed 10 _ _ _ ?_
                simp -implicitDefEqProofs only [go_sem, qa, qb, qc, qd, qe, qf, qg, qh, qi, qj, qk, ↓reduceIte, h4228, h4231, h4237, h4240, h4246, g4249, g4250, g4251, h4252, g4254, g4255, g4256, h4257, h4296, g4297, g4298, g4299, h4300, h4305, h4307, g4308, g4309, g4310, h4313, h4324, h4326]
                repeat with_reducible refine ⟨by first | kernel_rfl | decide, ?_⟩
                exact cutQ _ ((Wk_le (.r (.r (.r (.r (.r (.r (.r (.r (.r (.k (.k (.r (.r (.r (.r (.k (.k .nil))))))))))))))))) (OLe.refl _)).trans (cmpS_ok (st' := ⟨[], [(0, .v (.lst false n4229 c4230)), (1, .dead), (2, .dead), (3, .dead), (4, .dead), (5, .ptr 4 0), (7, .ptr 5 0), (8, .dead), (9, .v (.int .i64 ((n4229 : Nat) : Int))), (10, .dead), (11, .dead), (17, .dead), (28, .v (.lst false n4258 c4259)), (29, .v (.int .i64 ((n4258 : Nat) : Int))), (30, .v (.int .i64 (IntKind.i64.wrap (x4292 + 1)))), (31, .dead), (53, .dead)], [(0, .p [p4321]), (1, .r [.fn 81 [.ptr 2 0]]), (2, .p [(.int .i64 x4322)]), (3, .p [p4223, p4323]), (4, .r [.fn 99 [.ptr 0 0, .ptr 1 0, .ptr 3 0, .ptr 4 0]]), (5, .p [p4232, p4233, p4234, p4235, p4236])], 6, []⟩) (by kernel_rfl))) ⟨n, Nat.lt_succ_self n, _, _, _, _, h4338, rfl⟩
              · refine W_sound tab_ok mixed 10 _ _ _ ?_
                simp -implicitDefEqProofs only [go_sem, qa, qb, qc, qd, qe, qf, qg, qh, qi, qj, qk, ↓reduceIte, h4228, h4231, h4237, h4240, h4246, g4249, g4250, g4251, h4252, g4254, g4255, g4256, h4257, h4296, g4297, g4298, g4299, h4300, h4305, h4307, g4308, g4309, g4310, h4313, h4324, h4326]
                repeat with_reducible refine ⟨by first | kernel_rfl | decide, ?_⟩
                obtain rfl := Option.some.inj h4338
                (try dsimp only at h4339)
                simp only [Option.some.injEq, Prod.mk.injEq] at h4339; obtain ⟨rfl, rfl, rfl, rfl⟩ := h4339
                exact finD (e2 := [(0, .dead), (1, .dead), (2, .dead), (3, .dead), (4, .dead), (5, .dead), (7, .dead), (8, .v (.bool false)), (9, .dead), (10, .dead), (11, .dead), (17, .dead), (28, .dead), (29, .dead), (30, .dead), (31, .dead), (53, .dead)]) (ob2 := [(5, .p [p4232, p4233, p4234, p4235, p4236]), (17, .p [p4301, p4302]), (64, .p [(.int .i64 x4292)]), (4, .r [.fn 99 [.ptr 0 0, .ptr 1 0, .ptr 3 0, .ptr 4 0]]), (3, .p [p4223, p4323]), (2, .p [(.int .i64 x4322)]), (1, .r [.fn 81 [.ptr 2 0]]), (0, .p [p4321])]) (st' := ⟨[], [(0, .dead), (1, .dead), (2, .dead), (3, .dead), (4, .dead), (5, .dead), (7, .dead), (8, .v (.bool false)), (9, .dead), (10, .dead), (11, .dead), (17, .dead), (28, .dead), (29, .dead), (30, .dead), (31, .dead), (53, .dead)], [(0, .p [p4321]), (1, .r [.fn 81 [.ptr 2 0]]), (2, .p [(.int .i64 x4322)]), (3, .p [p4223, p4323]), (4, .r [.fn 99 [.ptr 0 0, .ptr 1 0, .ptr 3 0, .ptr 4 0]])], 5, []⟩) (.k (.r (.r (.r (.r (.k (.k (.r (.k (.k (.k (.r (.k (.k (.k (.k (.k .nil))))))))))))))))) (.cons _ _ _ _ _ (DLes.refl _) (.cons _ _ _ _ _ (DLes.refl _) (.cons _ _ _ _ _ (DLes.refl _) (.cons _ _ _ _ _ (DLes.refl _) (.cons _ _ _ _ _ (DLes.refl _) (.cons _ _ _ _ _ (DLes.refl _) (.cons _ _ _ _ _ (DLes.refl _) (.cons _ _ _ _ _ (DLes.refl _) .nil)))))))) (by kernel_rfl) (by simp only [go_sem, qa, qb, qc, qd, qe, qf, qg, qh, qi, qj, qk, ↓reduceIte, resQ_tmp, resQ_cell, resQ_nil, retD_one, retD_two, retD_three, retD_none]; try simp [R.val, retD_one, retD_two, retD_three, retD_none])
          · refine W_sound tab_ok mixed 7 _ _ _ ?_
            simp -implicitDefEqProofs only [go_sem, qa, qb, qc, qd, qe, qf, qg, qh, qi, qj, qk, ↓reduceIte, h4228, h4231, h4237, h4240, h4246, g4249, g4250, g4251, h4252, g4254, g4255, g4256, h4257, h4296]
            repeat with_reducible refine ⟨by first | kernel_rfl | decide, ?_⟩
            obtain rfl := Option.some.inj h4338
            exact cutQ _ ((Wk_le (.k (.r (.r (.r (.r (.k (.k (.r (.k (.r (.r (.r (.k (.k (.k (.k (.r .nil))))))))))))))))) (OLe.refl _)).trans (cmpS_ok (st' := ⟨[], [(0, .dead), (1, .dead), (2, .dead), (3, .dead), (4, .dead), (5, .dead), (7, .dead), (8, .dead), (9, .dead), (10, .dead), (11, .dead), (17, .dead), (28, .dead), (29, .dead), (30, .dead), (31, .dead), (53, .dead)], [(0, .p [p4293]), (1, .r [.fn 81 [.ptr 2 0]]), (2, .p [(.int .i64 x4294)]), (3, .p [p4223, p4295]), (4, .r [.fn 99 [.ptr 0 0, .ptr 1 0, .ptr 3 0, .ptr 4 0]])], 5, []⟩) (by kernel_rfl))) ⟨_, _, _, rfl, rfl⟩
      · rintro _ ⟨p4328, x4329, p4330, rfl, rfl⟩
        (try dsimp only at h4339)
        refine W_sound tab_ok mixed 6 _ _ _ ?_
        simp -implicitDefEqProofs only [go_sem, qa, qb, qc, qd, qe, qf, qg, qh, qi, qj, qk, ↓reduceIte, h4228, h4231, h4237, h4240, h4246, g4249, g4250, g4251, h4252, g4254, g4255, g4256, h4257]
        repeat with_reducible refine ⟨by first | kernel_rfl | decide, ?_⟩
        simp only [Option.some.injEq, Prod.mk.injEq] at h4339; obtain ⟨rfl, rfl, rfl, rfl⟩ := h4339
        exact finD (e2 := [(0, .dead), (1, .dead), (2, .dead), (3, .dead), (4, .dead), (5, .dead), (7, .dead), (8, .v (.bool true)), (9, .dead), (10, .dead), (11, .dead), (17, .dead), (28, .dead), (29, .dead), (30, .dead), (31, .dead), (53, .dead)]) (ob2 := [(0, .p [p4328]), (1, .r [.fn 81 [.ptr 2 0]]), (2, .p [(.int .i64 x4329)]), (3, .p [p4223, p4330]), (4, .r [.fn 99 [.ptr 0 0, .ptr 1 0, .ptr 3 0, .ptr 4 0]])]) (st' := ⟨[], [(0, .dead), (1, .dead), (2, .dead), (3, .dead), (4, .dead), (5, .dead), (7, .dead), (8, .v (.bool true)), (9, .dead), (10, .dead), (11, .dead), (17, .dead), (28, .dead), (29, .dead), (30, .dead), (31, .dead), (53, .dead)], [(0, .p [p4328]), (1, .r [.fn 81 [.ptr 2 0]]), (2, .p [(.int .i64 x4329)]), (3, .p [p4223, p4330]), (4, .r [.fn 99 [.ptr 0 0, .ptr 1 0, .ptr 3 0, .ptr 4 0]])], 5, []⟩) (.r (.r (.r (.r (.r (.r (.r (.r (.r (.r (.r (.r (.r (.r (.r (.r (.r .nil))))))))))))))))) (.cons _ _ _ _ _ (DLes.refl _) (.cons _ _ _ _ _ (DLes.refl _) (.cons _ _ _ _ _ (DLes.refl _) (.cons _ _ _ _ _ (DLes.refl _) (.cons _ _ _ _ _ (DLes.refl _) .nil))))) (by kernel_rfl) (by simp only [go_sem, qa, qb, qc, qd, qe, qf, qg, qh, qi, qj, qk, ↓reduceIte, resQ_tmp, resQ_cell, resQ_nil, retD_one, retD_two, retD_three, retD_none]; try simp [R.val, retD_one, retD_two, retD_three, retD_none])
def m99_3_L0 (N : Nat) (p4390 : PV) (p4396 : PV) (p4397 : PV) (p4398 : PV) (p4399 : PV) (p4400 : PV) (n4421 : Nat) (c4422 : List PV) : Nat → Int → PV → Int → PV → Option (((PV × PV × Int × PV) ⊕ (PV × Int × PV)))
  | 0, _, _, _, _ => none
  | n + 1, x4452, p4453, x4454, p4455 =>
    brn (decide (x4452 < ((n4421 : Nat) : Int))) (
      grd (0 ≤ x4452 ∧ x4452 < ((n4421 : Nat) : Int)) <|
      grd (2 ≤ List.length (List.drop ((Int.toNat x4452) * 2) c4422)) <|
      getA2 (.agg (List.take 2 (List.drop ((Int.toNat x4452) * 2) c4422))) fun p4461 p4462 =>
      bnd' (m71 N (.agg [p4396, p4397, p4398, p4399, p4400]) (.agg [p4461, p4462])) fun p4463 =>
      getB p4463 fun b4466 =>
      brn b4466 (
        m99_3_L0 N p4390 p4396 p4397 p4398 p4399 p4400 n4421 c4422 n (IntKind.i64.wrap (x4452 + 1)) p4453 x4454 p4455) (
        bnd' (m98 N (.agg [p4396, p4397, p4398, p4399, p4400]) (.agg [p4461, p4462])) fun p4468 =>
        getA5 p4468 fun p4471 p4472 p4473 p4474 p4475 =>
        bnd' (m99_4 N N (.lst false 1 [(.int .i64 x4452)]) (.agg [p4471, p4472, p4473, p4474, p4475]) p4453 x4454 p4390 p4455) fun (p4476, p4478, x4479, p4480) =>
        getB p4476 fun b4482 =>
        brn b4482 (
          m99_3_L0 N p4390 p4396 p4397 p4398 p4399 p4400 n4421 c4422 n (IntKind.i64.wrap (x4452 + 1)) p4478 x4479 p4480) (
          some (.inl ((.bool false), p4478, x4479, p4480))))) (
      some (.inr (p4453, x4454, p4455)))
def m99_3 (N : Nat) (p4387 : PV) (p4388 : PV) (x4389 : Int) (p4390 : PV) (p4391 : PV) : Option ((PV × PV × Int × PV)) :=
  getA5 p4387 fun p4396 p4397 p4398 p4399 p4400 =>
  getL p4388 fun n4402 c4403 =>
  brn (0 == ((n4402 : Nat) : Int)) (
    bnd' (m81 N x4389) fun (p4405, x4407) =>
    getB p4405 fun b4409 =>
    some ((.bool b4409), (.lst false n4402 c4403), x4407, p4391)) (
    getL p4391 fun n4411 c4412 =>
    grd (0 < ((n4402 : Nat) : Int)) <|
    grd (0 < List.length c4403) <|
    getI .i64 (gp c4403 0) fun x4416 =>
    grd (0 ≤ x4416 ∧ x4416 < ((n4411 : Nat) : Int)) <|
    grd (0 < List.length (List.drop (Int.toNat x4416) c4412)) <|
    getL (gp c4412 (Int.toNat x4416)) fun n4421 c4422 =>
    bnd' (m99_3_L0 N p4390 p4396 p4397 p4398 p4399 p4400 n4421 c4422 N 0 (.lst false n4402 c4403) x4389 (.lst false n4411 c4412)) fun o =>
    match o with
    | .inl p4484 =>
      some p4484
    | .inr (p4485, x4486, p4487) =>
      some ((.bool true), p4485, x4486, p4487))
theorem c99_3 (N : Nat) (p4387 : PV) (p4388 : PV) (x4389 : Int) (p4390 : PV) (p4391 : PV) (r : PV) (p4491 : PV) (x4492 : Int) (p4493 : PV) (h : m99_3 N p4387 p4388 x4389 p4390 p4391 = some (r, p4491, x4492, p4493)) : V.Fn Tryd.prog 99 5 [.v .nl, .v p4387, .ptr 0 0, .ptr 1 0, .ptr 3 0, .ptr 4 0] [(0, .p [p4388]), (1, .r [.fn 81 [.ptr 2 0]]), (2, .p [(.int .i64 x4389)]), (3, .p [p4390, p4391]), (4, .r [.fn 99 [.ptr 0 0, .ptr 1 0, .ptr 3 0, .ptr 4 0]])] (fun d ob' => d = .v r ∧ ob' = [(0, .p [p4491]), (1, .r [.fn 81 [.ptr 2 0]]), (2, .p [(.int .i64 x4492)]), (3, .p [p4390, p4493]), (4, .r [.fn 99 [.ptr 0 0, .ptr 1 0, .ptr 3 0, .ptr 4 0]])]) := by
  unfold m99_3 at h
  refine Fn_of (sz := 55) tab_ok [0, 1, 2, 3, 4, 5, 7, 8, 9, 10, 11, 17, 28, 29, 30, 31, 53] [.tmp 8] Tryd.func99 rfl rfl rfl (by simp) ?_
  simp only [initSt, initEnv, List.map_cons, List.map_nil, List.getD_cons_zero, List.getD_cons_succ, List.getD_nil]
  have hh := getA5_some h; clear h; obtain ⟨p4396, p4397, p4398, p4399, p4400, h4395, h⟩ := hh
  have hh := getL_some h; clear h; obtain ⟨n4402, c4403, h4401, h⟩ := hh
  have hh := brn_some h; clear h; rcases hh with ⟨h4404, h⟩ | ⟨h4404, h⟩
  · have hh := bnd'_some h; clear h; obtain ⟨⟨p4405, x4407⟩, h4406, h⟩ := hh
    (try dsimp only at h)
    refine W_sound tab_ok mixed 24 _ _ _ ?_
    simp -implicitDefEqProofs only [go_sem, qa, qb, qc, qd, qe, qf, qg, qh, qi, qj, qk, ↓reduceIte, h4395, h4401, h4404]
    repeat with_reducible refine ⟨by first | kernel_rfl | decide, ?_⟩
    refine Wp_callD [2] (c81 N _ _ _ h4406) rfl rfl rfl (by first | rfl | (simp only [go_sem, qa, qb, qc, qd, qe, qf, qg, qh, qi, qj, qk, ↓reduceIte, h4395, h4401, h4404] <;> rfl)) rfl (by kernel_rfl) ?_
    have hh := getB_some h; clear h; obtain ⟨b4409, h4408, h⟩ := hh
    refine W_sound tab_ok mixed 4 _ _ _ ?_
    simp -implicitDefEqProofs only [go_sem, qa, qb, qc, qd, qe, qf, qg, qh, qi, qj, qk, ↓reduceIte, h4395, h4401, h4404, h4408]
    repeat with_reducible refine ⟨by first | kernel_rfl | decide, ?_⟩
    simp only [Option.some.injEq, Prod.mk.injEq] at h; obtain ⟨rfl, rfl, rfl, rfl⟩ := h
    exact finD (e2 := [(0, .dead), (1, .dead), (2, .dead), (3, .dead), (4, .dead), (5, .dead), (7, .dead), (8, .v (.bool b4409)), (9, .dead), (10, .dead), (11, .dead), (17, .dead), (28, .dead), (29, .dead), (30, .dead), (31, .dead), (53, .dead)]) (ob2 := [(0, .p [(.lst false n4402 c4403)]), (1, .r [.fn 81 [.ptr 2 0]]), (3, .p [p4390, p4391]), (4, .r [.fn 99 [.ptr 0 0, .ptr 1 0, .ptr 3 0, .ptr 4 0]]), (12, .p [p4396, p4397, p4398, p4399, p4400]), (2, .p [(.int .i64 x4407)])]) (st' := ⟨[], [(0, .dead), (1, .dead), (2, .dead), (3, .dead), (4, .dead), (5, .dead), (7, .dead), (8, .v (.bool b4409)), (9, .dead), (10, .dead), (11, .dead), (17, .dead), (28, .dead), (29, .dead), (30, .dead), (31, .dead), (53, .dead)], [(0, .p [(.lst false n4402 c4403)]), (1, .r [.fn 81 [.ptr 2 0]]), (2, .p [(.int .i64 x4407)]), (3, .p [p4390, p4391]), (4, .r [.fn 99 [.ptr 0 0, .ptr 1 0, .ptr 3 0, .ptr 4 0]])], 5, []⟩) (.k (.k (.k (.k (.k (.k (.k (.r (.k (.r (.r (.k (.r (.r (.r (.r (.r .nil))))))))))))))))) (.cons _ _ _ _ _ (DLes.refl _) (.cons _ _ _ _ _ (DLes.refl _) (.cons _ _ _ _ _ (DLes.refl _) (.cons _ _ _ _ _ (DLes.refl _) (.cons _ _ _ _ _ (DLes.refl _) (.cons _ _ _ _ _ (DLes.refl _) .nil)))))) (by kernel_rfl) (by simp only [go_sem, qa, qb, qc, qd, qe, qf, qg, qh, qi, qj, qk, ↓reduceIte, resQ_tmp, resQ_cell, resQ_nil, retD_one, retD_two, retD_three, retD_none]; try simp [R.val, retD_one, retD_two, retD_three, retD_none])
  · have hh := getL_some h; clear h; obtain ⟨n4411, c4412, h4410, h⟩ := hh
    have hh := grd_some h; clear h; obtain ⟨g4413, h⟩ := hh
    have hh := grd_some h; clear h; obtain ⟨g4414, h⟩ := hh
    have hh := getI_some h; clear h; obtain ⟨x4416, h4415, h⟩ := hh
    have hh := grd_some h; clear h; obtain ⟨⟨g4417, g4418⟩, h⟩ := hh
    have hh := grd_some h; clear h; obtain ⟨g4419, h⟩ := hh
    have hh := getL_some h; clear h; obtain ⟨n4421, c4422, h4420, h⟩ := hh
    refine W_sound tab_ok mixed 35 _ _ _ ?_
    simp -implicitDefEqProofs only [go_sem, qa, qb, qc, qd, qe, qf, qg, qh, qi, qj, qk, ↓reduceIte, h4395, h4401, h4404, h4410, g4413, g4414, h4415, g4417, g4418, g4419, h4420]
    repeat with_reducible refine ⟨by first | kernel_rfl | decide, ?_⟩
    have hh := bnd'_some h; clear h; obtain ⟨o4494, h4495, h4496⟩ := hh
    refine Wp_cut (fun s => ∃ p4485, ∃ x4486, ∃ p4487, (.inr (p4485, x4486, p4487)) = o4494 ∧ s = ⟨[], [(0, .dead), (1, .dead), (2, .dead), (3, .dead), (4, .dead), (5, .dead), (7, .dead), (8, .dead), (9, .dead), (10, .dead), (11, .dead), (17, .dead), (28, .dead), (29, .dead), (30, .dead), (31, .dead), (53, .dead)], [(0, .p [p4485]), (1, .r [.fn 81 [.ptr 2 0]]), (2, .p [(.int .i64 x4486)]), (3, .p [p4390, p4487]), (4, .r [.fn 99 [.ptr 0 0, .ptr 1 0, .ptr 3 0, .ptr 4 0]])], 5, []⟩) ?_ ?_
    · refine Wp_block ?_
      refine Wp_loopG (fun n s => ∃ x4452, ∃ p4453, ∃ x4454, ∃ p4455, m99_3_L0 N p4390 p4396 p4397 p4398 p4399 p4400 n4421 c4422 n x4452 p4453 x4454 p4455 = some o4494 ∧ s = ⟨[], [(0, .v .nl), (1, .dead), (2, .dead), (3, .dead), (4, .dead), (5, .ptr 4 0), (7, .ptr 5 0), (8, .dead), (9, .v (.int .i64 0)), (10, .dead), (11, .dead), (17, .dead), (28, .v (.lst false n4421 c4422)), (29, .v (.int .i64 ((n4421 : Nat) : Int))), (30, .v (.int .i64 x4452)), (31, .dead), (53, .dead)], [(0, .p [p4453]), (1, .r [.fn 81 [.ptr 2 0]]), (2, .p [(.int .i64 x4454)]), (3, .p [p4390, p4455]), (4, .r [.fn 99 [.ptr 0 0, .ptr 1 0, .ptr 3 0, .ptr 4 0]]), (5, .p [p4396, p4397, p4398, p4399, p4400])], 6, []⟩) N _ ((Wk_le (.r (.k (.k (.k (.k (.r (.r (.k (.r (.r (.r (.k (.r (.r (.r (.r (.r .nil))))))))))))))))) (OLe.refl _)).trans (cmpS_ok (st' := ⟨[], [(0, .v .nl), (1, .dead), (2, .dead), (3, .dead), (4, .dead), (5, .ptr 4 0), (7, .ptr 5 0), (8, .dead), (9, .v (.int .i64 0)), (10, .dead), (11, .dead), (17, .dead), (28, .v (.lst false n4421 c4422)), (29, .v (.int .i64 ((n4421 : Nat) : Int))), (30, .v (.int .i64 0)), (31, .dead), (53, .dead)], [(0, .p [(.lst false n4402 c4403)]), (1, .r [.fn 81 [.ptr 2 0]]), (2, .p [(.int .i64 x4389)]), (3, .p [p4390, (.lst false n4411 c4412)]), (4, .r [.fn 99 [.ptr 0 0, .ptr 1 0, .ptr 3 0, .ptr 4 0]]), (5, .p [p4396, p4397, p4398, p4399, p4400])], 6, []⟩) (by kernel_rfl))) ⟨_, _, _, _, h4495, rfl⟩ ?_
      clear h4495
      rintro n _ ⟨x4452, p4453, x4454, p4455, h4495, rfl⟩
      cases n with
      | zero => cases h4495
      | succ n =>
        rw [m99_3_L0] at h4495
        have hh := brn_some h4495; clear h4495; rcases hh with ⟨h4456, h4495⟩ | ⟨h4456, h4495⟩
        · have hh := grd_some h4495; clear h4495; obtain ⟨⟨g4457, g4458⟩, h4495⟩ := hh
          have hh := grd_some h4495; clear h4495; obtain ⟨g4459, h4495⟩ := hh
          have hh := getA2_some h4495; clear h4495; obtain ⟨p4461, p4462, h4460, h4495⟩ := hh
          injection h4460 with h4460
          have hh := bnd'_some h4495; clear h4495; obtain ⟨p4463, h4464, h4495⟩ := hh
          refine W_sound tab_ok mixed 22 _ _ _ ?_
          simp -implicitDefEqProofs only [go_sem, qa, qb, qc, qd, qe, qf, qg, qh, qi, qj, qk, ↓reduceIte, h4395, h4401, h4404, h4410, g4413, g4414, h4415, g4417, g4418, g4419, h4420, h4456, g4457, g4458, g4459, h4460]
          repeat with_reducible refine ⟨by first | kernel_rfl | decide, ?_⟩
          refine Wp_callP (c71 N _ _ _ h4464) (by kernel_rfl) rfl rfl rfl rfl (by decide) ?_
          have hh := getB_some h4495; clear h4495; obtain ⟨b4466, h4465, h4495⟩ := hh
          have hh := brn_some h4495; clear h4495; rcases hh with ⟨h4467, h4495⟩ | ⟨h4467, h4495⟩
          · refine W_sound tab_ok mixed 24 _ _ _ ?_
            simp -implicitDefEqProofs only [go_sem, qa, qb, qc, qd, qe, qf, qg, qh, qi, qj, qk, ↓reduceIte, h4395, h4401, h4404, h4410, g4413, g4414, h4415, g4417, g4418, g4419, h4420, h4456, g4457, g4458, g4459, h4460, h4465, h4467]
            repeat with_reducible refine ⟨by first | kernel_rfl | decide, ?_⟩
            exact cutQ _ ((Wk_le (.r (.r (.r (.r (.r (.r (.r (.r (.r (.k (.k (.r (.r (.r (.r (.k (.k .nil))))))))))))))))) (OLe.refl _)).trans (cmpS_ok (st' := ⟨[], [(0, .v .nl), (1, .dead), (2, .dead), (3, .dead), (4, .dead), (5, .ptr 4 0), (7, .ptr 5 0), (8, .dead), (9, .v (.int .i64 0)), (10, .dead), (11, .dead), (17, .dead), (28, .v (.lst false n4421 c4422)), (29, .v (.int .i64 ((n4421 : Nat) : Int))), (30, .v (.int .i64 (IntKind.i64.wrap (x4452 + 1)))), (31, .dead), (53, .dead)], [(0, .p [p4453]), (1, .r [.fn 81 [.ptr 2 0]]), (2, .p [(.int .i64 x4454)]), (3, .p [p4390, p4455]), (4, .r [.fn 99 [.ptr 0 0, .ptr 1 0, .ptr 3 0, .ptr 4 0]]), (5, .p [p4396, p4397, p4398, p4399, p4400])], 6, []⟩) (by kernel_rfl))) ⟨n, Nat.lt_succ_self n, _, _, _, _, h4495, rfl⟩
          · have hh := bnd'_some h4495; clear h4495; obtain ⟨p4468, h4469, h4495⟩ := hh
            refine W_sound tab_ok mixed 12 _ _ _ ?_
            simp -implicitDefEqProofs only [go_sem, qa, qb, qc, qd, qe, qf, qg, qh, qi, qj, qk, ↓reduceIte, h4395, h4401, h4404, h4410, g4413, g4414, h4415, g4417, g4418, g4419, h4420, h4456, g4457, g4458, g4459, h4460, h4465, h4467]
            repeat with_reducible refine ⟨by first | kernel_rfl | decide, ?_⟩
            refine Wp_callP (c98 N _ _ _ h4469) (by kernel_rfl) rfl rfl rfl rfl (by decide) ?_
            have hh := getA5_some h4495; clear h4495; obtain ⟨p4471, p4472, p4473, p4474, p4475, h4470, h4495⟩ := hh
            have hh := bnd'_some h4495; clear h4495; obtain ⟨⟨p4476, p4478, x4479, p4480⟩, h4477, h4495⟩ := hh
            (try dsimp only at h4495)
            (try simp -implicitDefEqProofs only [go_sem, qa, qb, qc, qd, qe, qf, qg, qh, qi, qj, qk, ↓reduceIte, h4395, h4401, h4404, h4410, g4413, g4414, h4415, g4417, g4418, g4419, h4420, h4456, g4457, g4458, g4459, h4460, h4465, h4467, h4470])
            refine Wp_callDF [(65, [(.int .i64 x4452)])] [0, 1, 2, 3, 4] (c99_4 N N _ _ _ _ _ _ _ _ _ _ h4477) rfl rfl rfl (by first | rfl | (simp only [go_sem, qa, qb, qc, qd, qe, qf, qg, qh, qi, qj, qk, ↓reduceIte, h4395, h4401, h4404, h4410, g4413, g4414, h4415, g4417, g4418, g4419, h4420, h4456, g4457, g4458, g4459, h4460, h4465, h4467, h4470] <;> rfl)) rfl (by kernel_rfl) rfl rfl (by simp [roF, obL]) ?_
            have hh := getB_some h4495; clear h4495; obtain ⟨b4482, h4481, h4495⟩ := hh
            have hh := brn_some h4495; clear h4495; rcases hh with ⟨h4483, h4495⟩ | ⟨h4483, h4495⟩
            · refine W_sound tab_ok mixed 10 _ _ _ ?_
              simp -implicitDefEqProofs only [go_sem, qa, qb, qc, qd, qe, qf, qg, qh, qi, qj, qk, ↓reduceIte, h4395, h4401, h4404, h4410, g4413, g4414, h4415, g4417, g4418, g4419, h4420, h4456, g4457, g4458, g4459, h4460, h4465, h4467, h4470, h4481, h4483]
              repeat with_reducible refine ⟨by first | kernel_rfl | decide, ?_⟩
              exact cutQ _ ((Wk_le (.r (.r (.r (.r (.r (.r (.r (.r (.r (.k (.k (.r (.r (.r (.r (.k (.k .nil))))))))))))))))) (OLe.refl _)).trans (cmpS_ok (st' := ⟨[], [(0, .v .nl), (1, .dead), (2, .dead), (3, .dead), (4, .dead), (5, .ptr 4 0), (7, .ptr 5 0), (8, .dead), (9, .v (.int .i64 0)), (10, .dead), (11, .dead), (17, .dead), (28, .v (.lst false n4421 c4422)), (29, .v (.int .i64 ((n4421 : Nat) : Int))), (30, .v (.int .i64 (IntKind.i64.wrap (x4452 + 1)))), (31, .dead), (53, .dead)], [(0, .p [p4478]), (1, .r [.fn 81 [.ptr 2 0]]), (2, .p [(.int .i64 x4479)]), (3, .p [p4390, p4480]), (4, .r [.fn 99 [.ptr 0 0, .ptr 1 0, .ptr 3 0, .ptr 4 0]]), (5, .p [p4396, p4397, p4398, p4399, p4400])], 6, []⟩) (by kernel_rfl))) ⟨n, Nat.lt_succ_self n, _, _, _, _, h4495, rfl⟩
            · refine W_sound tab_ok mixed 10 _ _ _ ?_
              simp -implicitDefEqProofs only [go_sem, qa, qb, qc, qd, qe, qf, qg, qh, qi, qj, qk, ↓reduceIte, h4395, h4401, h4404, h4410, g4413, g4414, h4415, g4417, g4418, g4419, h4420, h4456, g4457, g4458, g4459, h4460, h4465, h4467, h4470, h4481, h4483]
              repeat with_reducible refine ⟨by first | kernel_rfl | decide, ?_⟩
              obtain rfl := Option.some.inj h4495
              (try dsimp only at h4496)
              simp only [Option.some.injEq, Prod.mk.injEq] at h4496; obtain ⟨rfl, rfl, rfl, rfl⟩ := h4496
              exact finD (e2 := [(0, .dead), (1, .dead), (2, .dead), (3, .dead), (4, .dead), (5, .dead), (7, .dead), (8, .v (.bool false)), (9, .dead), (10, .dead), (11, .dead), (17, .dead), (28, .dead), (29, .dead), (30, .dead), (31, .dead), (53, .dead)]) (ob2 := [(5, .p [p4396, p4397, p4398, p4399, p4400]), (17, .p [p4461, p4462]), (64, .p [(.int .i64 x4452)]), (4, .r [.fn 99 [.ptr 0 0, .ptr 1 0, .ptr 3 0, .ptr 4 0]]), (3, .p [p4390, p4480]), (2, .p [(.int .i64 x4479)]), (1, .r [.fn 81 [.ptr 2 0]]), (0, .p [p4478])]) (st' := ⟨[], [(0, .dead), (1, .dead), (2, .dead), (3, .dead), (4, .dead), (5, .dead), (7, .dead), (8, .v (.bool false)), (9, .dead), (10, .dead), (11, .dead), (17, .dead), (28, .dead), (29, .dead), (30, .dead), (31, .dead), (53, .dead)], [(0, .p [p4478]), (1, .r [.fn 81 [.ptr 2 0]]), (2, .p [(.int .i64 x4479)]), (3, .p [p4390, p4480]), (4, .r [.fn 99 [.ptr 0 0, .ptr 1 0, .ptr 3 0, .ptr 4 0]])], 5, []⟩) (.k (.r (.r (.r (.r (.k (.k (.r (.k (.k (.k (.r (.k (.k (.k (.k (.k .nil))))))))))))))))) (.cons _ _ _ _ _ (DLes.refl _) (.cons _ _ _ _ _ (DLes.refl _) (.cons _ _ _ _ _ (DLes.refl _) (.cons _ _ _ _ _ (DLes.refl _) (.cons _ _ _ _ _ (DLes.refl _) (.cons _ _ _ _ _ (DLes.refl _) (.cons _ _ _ _ _ (DLes.refl _) (.cons _ _ _ _ _ (DLes.refl _) .nil)))))))) (by kernel_rfl) (by simp only [go_sem, qa, qb, qc, qd, qe, qf, qg, qh, qi, qj, qk, ↓reduceIte, resQ_tmp, resQ_cell, resQ_nil, retD_one, retD_two, retD_three, retD_none]; try simp [R.val, retD_one, retD_two, retD_three, retD_none])
        · refine W_sound tab_ok mixed 7 _ _ _ ?_
          simp -implicitDefEqProofs only [go_sem, qa, qb, qc, qd, qe, qf, qg, qh, qi, qj, qk, ↓reduceIte, h4395, h4401, h4404, h4410, g4413, g4414, h4415, g4417, g4418, g4419, h4420, h4456]
          repeat with_reducible refine ⟨by first | kernel_rfl | decide, ?_⟩
          obtain rfl := Option.some.inj h4495
          exact cutQ _ ((Wk_le (.k (.r (.r (.r (.r (.k (.k (.r (.k (.r (.r (.r (.k (.k (.k (.k (.r .nil))))))))))))))))) (OLe.refl _)).trans (cmpS_ok (st' := ⟨[], [(0, .dead), (1, .dead), (2, .dead), (3, .dead), (4, .dead), (5, .dead), (7, .dead), (8, .dead), (9, .dead), (10, .dead), (11, .dead), (17, .dead), (28, .dead), (29, .dead), (30, .dead), (31, .dead), (53, .dead)], [(0, .p [p4453]), (1, .r [.fn 81 [.ptr 2 0]]), (2, .p [(.int .i64 x4454)]), (3, .p [p4390, p4455]), (4, .r [.fn 99 [.ptr 0 0, .ptr 1 0, .ptr 3 0, .ptr 4 0]])], 5, []⟩) (by kernel_rfl))) ⟨_, _, _, rfl, rfl⟩
    · rintro _ ⟨p4485, x4486, p4487, rfl, rfl⟩
      (try dsimp only at h4496)
      refine W_sound tab_ok mixed 6 _ _ _ ?_
      simp -implicitDefEqProofs only [go_sem, qa, qb, qc, qd, qe, qf, qg, qh, qi, qj, qk, ↓reduceIte, h4395, h4401, h4404, h4410, g4413, g4414, h4415, g4417, g4418, g4419, h4420]
      repeat with_reducible refine ⟨by first | kernel_rfl | decide, ?_⟩
      simp only [Option.some.injEq, Prod.mk.injEq] at h4496; obtain ⟨rfl, rfl, rfl, rfl⟩ := h4496
      exact finD (e2 := [(0, .dead), (1, .dead), (2, .dead), (3, .dead), (4, .dead), (5, .dead), (7, .dead), (8, .v (.bool true)), (9, .dead), (10, .dead), (11, .dead), (17, .dead), (28, .dead), (29, .dead), (30, .dead), (31, .dead), (53, .dead)]) (ob2 := [(0, .p [p4485]), (1, .r [.fn 81 [.ptr 2 0]]), (2, .p [(.int .i64 x4486)]), (3, .p [p4390, p4487]), (4, .r [.fn 99 [.ptr 0 0, .ptr 1 0, .ptr 3 0, .ptr 4 0]])]) (st' := ⟨[], [(0, .dead), (1, .dead), (2, .dead), (3, .dead), (4, .dead), (5, .dead), (7, .dead), (8, .v (.bool true)), (9, .dead), (10, .dead), (11, .dead), (17, .dead), (28, .dead), (29, .dead), (30, .dead), (31, .dead), (53, .dead)], [(0, .p [p4485]), (1, .r [.fn 81 [.ptr 2 0]]), (2, .p [(.int .i64 x4486)]), (3, .p [p4390, p4487]), (4, .r [.fn 99 [.ptr 0 0, .ptr 1 0, .ptr 3 0, .ptr 4 0]])], 5, []⟩) (.r (.r (.r (.r (.r (.r (.r (.r (.r (.r (.r (.r (.r (.r (.r (.r (.r .nil))))))))))))))))) (.cons _ _ _ _ _ (DLes.refl _) (.cons _ _ _ _ _ (DLes.refl _) (.cons _ _ _ _ _ (DLes.refl _) (.cons _ _ _ _ _ (DLes.refl _) (.cons _ _ _ _ _ (DLes.refl _) .nil))))) (by kernel_rfl) (by simp only [go_sem, qa, qb, qc, qd, qe, qf, qg, qh, qi, qj, qk, ↓reduceIte, resQ_tmp, resQ_cell, resQ_nil, retD_one, retD_two, retD_three, retD_none]; try simp [R.val, retD_one, retD_two, retD_three, retD_none])
def m76_2 (N : Nat) (p4505 : PV) (p4506 : PV) (x4507 : Int) : Option ((PV × Int)) :=
  getA2 p4505 fun p4510 p4511 =>
  getL p4506 fun n4513 c4514 =>
  bnd' (m97 N ) fun p4515 =>
  getA5 p4515 fun p4518 p4519 p4520 p4521 p4522 =>
  bnd' (m99_3 N (.agg [p4518, p4519, p4520, p4521, p4522]) (.lst false n4513 c4514) x4507 p4510 p4511) fun (p4523, p4525, x4526, p4527) =>
  getB p4523 fun b4529 =>
  some ((.tup []), x4526)
theorem c76_2 (N : Nat) (p4505 : PV) (p4506 : PV) (x4507 : Int) (r : PV) (x4531 : Int) (h : m76_2 N p4505 p4506 x4507 = some (r, x4531)) : V.Fn Tryd.prog 76 1 [.v p4505, .v p4506, .fn 81 [.ptr 0 0]] [(0, .p [(.int .i64 x4507)])] (fun d ob' => d = .v r ∧ ob' = [(0, .p [(.int .i64 x4531)])]) := by
  unfold m76_2 at h
  refine Fn_of (sz := 11) tab_ok [0, 1, 2, 3, 4, 5, 6] [] Tryd.func76 rfl rfl rfl (by simp) ?_
  simp only [initSt, initEnv, List.map_cons, List.map_nil, List.getD_cons_zero, List.getD_cons_succ, List.getD_nil]
  have hh := getA2_some h; clear h; obtain ⟨p4510, p4511, h4509, h⟩ := hh
  have hh := getL_some h; clear h; obtain ⟨n4513, c4514, h4512, h⟩ := hh
  have hh := bnd'_some h; clear h; obtain ⟨p4515, h4516, h⟩ := hh
  refine W_sound tab_ok mixed 17 _ _ _ ?_
  simp -implicitDefEqProofs only [go_sem, qa, qb, qc, qd, qe, qf, qg, qh, qi, qj, qk, ↓reduceIte, h4509, h4512]
  repeat with_reducible refine ⟨by first | kernel_rfl | decide, ?_⟩
  refine Wp_callP (c97 N  _ h4516) (by kernel_rfl) rfl rfl rfl rfl (by decide) ?_
  have hh := getA5_some h; clear h; obtain ⟨p4518, p4519, p4520, p4521, p4522, h4517, h⟩ := hh
  have hh := bnd'_some h; clear h; obtain ⟨⟨p4523, p4525, x4526, p4527⟩, h4524, h⟩ := hh
  (try dsimp only at h)
  (try simp -implicitDefEqProofs only [go_sem, qa, qb, qc, qd, qe, qf, qg, qh, qi, qj, qk, ↓reduceIte, h4509, h4512, h4517])
  refine Wp_callD [5, 6, 0, 4, 13] (c99_3 N _ _ _ _ _ _ _ _ _ h4524) rfl rfl rfl (by first | rfl | (simp only [go_sem, qa, qb, qc, qd, qe, qf, qg, qh, qi, qj, qk, ↓reduceIte, h4509, h4512, h4517] <;> rfl)) rfl (by kernel_rfl) ?_
  have hh := getB_some h; clear h; obtain ⟨b4529, h4528, h⟩ := hh
  refine W_sound tab_ok mixed 2 _ _ _ ?_
  simp -implicitDefEqProofs only [go_sem, qa, qb, qc, qd, qe, qf, qg, qh, qi, qj, qk, ↓reduceIte, h4509, h4512, h4517, h4528]
  repeat with_reducible refine ⟨by first | kernel_rfl | decide, ?_⟩
  simp only [Option.some.injEq, Prod.mk.injEq] at h; obtain ⟨rfl, rfl⟩ := h
  exact finD (e2 := [(0, .dead), (1, .dead), (2, .dead), (3, .dead), (4, .dead), (5, .dead), (6, .dead)]) (ob2 := [(13, .r [.fn 99 [.ptr 5 0, .ptr 6 0, .ptr 4 0, .ptr 13 0]]), (4, .p [p4510, p4527]), (0, .p [(.int .i64 x4526)]), (6, .r [.fn 81 [.ptr 0 0]]), (5, .p [p4525])]) (st' := ⟨[], [(0, .dead), (1, .dead), (2, .dead), (3, .dead), (4, .dead), (5, .dead), (6, .dead)], [(0, .p [(.int .i64 x4526)])], 1, []⟩) (.k (.k (.k (.k (.k (.k (.k .nil))))))) (.cons _ _ _ _ _ (DLes.refl _) (.cons _ _ _ _ _ (DLes.refl _) (.cons _ _ _ _ _ (DLes.refl _) (.cons _ _ _ _ _ (DLes.refl _) (.cons _ _ _ _ _ (DLes.refl _) .nil))))) (by kernel_rfl) (by simp only [go_sem, qa, qb, qc, qd, qe, qf, qg, qh, qi, qj, qk, ↓reduceIte, resQ_tmp, resQ_cell, resQ_nil, retD_one, retD_two, retD_three, retD_none]; try simp [R.val, retD_one, retD_two, retD_three, retD_none])
def m28 (N : Nat) (p4043 : PV) : Option (PV) :=
  getA2 p4043 fun p4045 p4046 =>
  bnd' (m22 N (.agg [p4045, p4046])) fun p4047 =>
  getI .i64 p4047 fun x4050 =>
  brn (x4050 != 0) (
    some (.tup [(.int .i64 0), (.int .i64 x4050)])) (
    getL p4046 fun n4053 c4054 =>
    grd (0 ≤ ((n4053 : Nat) : Int)) <|
    bnd' (m77 N (IntKind.u64.wrap ((IntKind.u64.wrap (1 * 2 ^ (min n4053 64))) - 1))) fun p4056 =>
    getL p4056 fun n4059 c4060 =>
    bnd' (m76_2 N (.agg [p4045, (.lst false n4053 c4054)]) (.lst false n4059 c4060) 0) fun (p4532, x4534) =>
    getT0 p4532 <|
    some (.tup [(.int .i64 x4534), (.int .i64 0)]))
theorem c28 (N : Nat) (p4043 : PV) (r : PV)  (h : m28 N p4043 = some r) : FnP Tryd.prog 28 [p4043] r := by
  unfold m28 at h
  refine Fn_of (sz := 21) tab_ok [0, 1, 2, 3, 4, 5, 9] [.tmp 2, .tmp 3] Tryd.func28 rfl rfl rfl (by simp) ?_
  simp only [initSt, initEnv, List.map_cons, List.map_nil, List.getD_cons_zero, List.getD_cons_succ, List.getD_nil]
  have hh := getA2_some h; clear h; obtain ⟨p4045, p4046, h4044, h⟩ := hh
  have hh := bnd'_some h; clear h; obtain ⟨p4047, h4048, h⟩ := hh
  refine W_sound tab_ok mixed 10 _ _ _ ?_
  simp -implicitDefEqProofs only [go_sem, qa, qb, qc, qd, qe, qf, qg, qh, qi, qj, qk, ↓reduceIte, h4044]
  repeat with_reducible refine ⟨by first | kernel_rfl | decide, ?_⟩
  refine Wp_callP (c22 N _ _ h4048) (by kernel_rfl) rfl rfl rfl rfl (by decide) ?_
  have hh := getI_some h; clear h; obtain ⟨x4050, h4049, h⟩ := hh
  have hh := brn_some h; clear h; rcases hh with ⟨h4051, h⟩ | ⟨h4051, h⟩
  · refine W_sound tab_ok mixed 16 _ _ _ ?_
    simp -implicitDefEqProofs only [go_sem, qa, qb, qc, qd, qe, qf, qg, qh, qi, qj, qk, ↓reduceIte, h4044, h4049, h4051]
    repeat with_reducible refine ⟨by first | kernel_rfl | decide, ?_⟩
    obtain rfl := Option.some.inj h
    exact finC [(2, .v (.int .i64 0)), (3, .v (.int .i64 x4050))] [(2, .v (.int .i64 0)), (3, .v (.int .i64 x4050))] (by simp [leE, lk_cons]) (.cons _ _ _ _ _ (.v _ _ (.refl _)) (.cons _ _ _ _ _ (.v _ _ (.refl _)) .nil)) (by rfl) (by simp [leE, lk_cons]) (by decide) (by decide) rfl (by simp only [go_sem, qa, qb, qc, qd, qe, qf, qg, qh, qi, qj, qk, ↓reduceIte, resQ_tmp, resQ_cell, resQ_nil, retD_one, retD_two, retD_three, retD_none]; try simp [R.val, retD_one, retD_two, retD_three, retD_none])
  · have hh := getL_some h; clear h; obtain ⟨n4053, c4054, h4052, h⟩ := hh
    have hh := grd_some h; clear h; obtain ⟨g4055, h⟩ := hh
    have hh := bnd'_some h; clear h; obtain ⟨p4056, h4057, h⟩ := hh
    refine W_sound tab_ok mixed 22 _ _ _ ?_
    simp -implicitDefEqProofs only [go_sem, qa, qb, qc, qd, qe, qf, qg, qh, qi, qj, qk, ↓reduceIte, h4044, h4049, h4051, h4052, g4055]
    repeat with_reducible refine ⟨by first | kernel_rfl | decide, ?_⟩
    refine Wp_callP (c77 N _ _ h4057) (by kernel_rfl) rfl rfl rfl rfl (by decide) ?_
    have hh := getL_some h; clear h; obtain ⟨n4059, c4060, h4058, h⟩ := hh
    have hh := bnd'_some h; clear h; obtain ⟨⟨p4532, x4534⟩, h4533, h⟩ := hh
    (try dsimp only at h)
    refine W_sound tab_ok mixed 1 _ _ _ ?_
    simp -implicitDefEqProofs only [go_sem, qa, qb, qc, qd, qe, qf, qg, qh, qi, qj, qk, ↓reduceIte, h4044, h4049, h4051, h4052, g4055, h4058]
    repeat with_reducible refine ⟨by first | kernel_rfl | decide, ?_⟩
    refine Wp_callD [7] (c76_2 N _ _ _ _ _ h4533) rfl rfl rfl (by first | rfl | (simp only [go_sem, qa, qb, qc, qd, qe, qf, qg, qh, qi, qj, qk, ↓reduceIte, h4044, h4049, h4051, h4052, g4055, h4058] <;> rfl)) rfl (by kernel_rfl) ?_
    have hh := getT0_some h; clear h; obtain ⟨h4535, h⟩ := hh
    refine W_sound tab_ok mixed 9 _ _ _ ?_
    simp -implicitDefEqProofs only [go_sem, qa, qb, qc, qd, qe, qf, qg, qh, qi, qj, qk, ↓reduceIte, h4044, h4049, h4051, h4052, g4055, h4058, h4535]
    repeat with_reducible refine ⟨by first | kernel_rfl | decide, ?_⟩
    obtain rfl := Option.some.inj h
    exact finC [(2, .v (.int .i64 x4534)), (3, .v (.int .i64 0))] [(2, .v (.int .i64 x4534)), (3, .v (.int .i64 0))] (by simp [leE, lk_cons]) (.cons _ _ _ _ _ (.v _ _ (.refl _)) (.cons _ _ _ _ _ (.v _ _ (.refl _)) .nil)) (by rfl) (by simp [leE, lk_cons]) (by decide) (by decide) rfl (by simp only [go_sem, qa, qb, qc, qd, qe, qf, qg, qh, qi, qj, qk, ↓reduceIte, resQ_tmp, resQ_cell, resQ_nil, retD_one, retD_two, retD_three, retD_none]; try simp [R.val, retD_one, retD_two, retD_three, retD_none])
end Go.Proofs.YtnponojgpkbagaaDoor
