/-
  Copies of lists of nothing.
-/
import Derived.Test.YtnponojgpkbagaaDoorProg
import Derived.Test.YtnponojgpkbagaaDoorYV30
import Derived.KernelRfl
import Derived.Test.YtnponojgpkbagaaDoorRows
import Derived.Test.YtnponojgpkbagaaDoorYV26
import Derived.ProofKit
import Derived.Lib.LaidTab
import Derived.Stop.LaidErr
import Derived.MakeChecks
import Derived.Test.YtnponojgpkbagaaDoorYV35
import Derived.Test.YtnponojgpkbagaaDoorYV36
set_option linter.unusedSimpArgs false
set_option linter.unusedVariables false
namespace Go.Proofs.YtnponojgpkbagaaDoor
open Go.V
def tab : Tab := [
  (1, ⟨.other, 1, 8, [.dead]⟩),
  (2, ⟨.int .i64, 1, 8, [.v (.int .i64 0)]⟩),
  (3, ⟨.int .i64, 1, 8, [.v (.int .i64 0)]⟩),
  (4, ⟨.bool, 1, 1, [.v (.bool false)]⟩),
  (5, ⟨.int .u8, 1, 1, [.v (.int .u8 0)]⟩),
  (9, ⟨.str, 1, 16, [.v (.str ⟨#[]⟩)]⟩),
  (17, ⟨.other, 1, 8, [.dead]⟩),
  (21, ⟨.int .i32, 1, 4, [.v (.int .i32 0)]⟩),
  (22, ⟨.slice 70, 1, 24, [.v .nl]⟩),
  (23, ⟨.struct [(0, 3), (1, 22)], 2, 32, [.v (.int .i64 0), .v .nl]⟩),
  (24, ⟨.struct [(0, 3), (1, 22)], 2, 32, [.v (.int .i64 0), .v .nl]⟩),
  (25, ⟨.slice 3, 1, 24, [.v .nl]⟩),
  (26, ⟨.other, 1, 8, [.dead]⟩),
  (27, ⟨.other, 1, 8, [.dead]⟩),
  (28, ⟨.struct [(0, 3), (1, 22)], 2, 32, [.v (.int .i64 0), .v .nl]⟩),
  (29, ⟨.int .i64, 1, 8, [.v (.int .i64 0)]⟩),
  (31, ⟨.other, 1, 8, [.dead]⟩),
  (32, ⟨.other, 1, 8, [.dead]⟩),
  (34, ⟨.other, 1, 8, [.dead]⟩),
  (35, ⟨.other, 1, 8, [.dead]⟩),
  (36, ⟨.other, 1, 8, [.dead]⟩),
  (37, ⟨.other, 1, 8, [.dead]⟩),
  (38, ⟨.other, 1, 8, [.dead]⟩),
  (39, ⟨.other, 1, 8, [.dead]⟩),
  (40, ⟨.other, 1, 8, [.dead]⟩),
  (41, ⟨.other, 1, 8, [.dead]⟩),
  (42, ⟨.other, 1, 8, [.dead]⟩),
  (43, ⟨.other, 1, 8, [.dead]⟩),
  (44, ⟨.other, 1, 8, [.dead]⟩),
  (45, ⟨.other, 1, 8, [.dead]⟩),
  (47, ⟨.other, 1, 8, [.dead]⟩),
  (48, ⟨.other, 1, 8, [.dead]⟩),
  (49, ⟨.other, 1, 8, [.dead]⟩),
  (50, ⟨.other, 1, 8, [.dead]⟩),
  (51, ⟨.other, 1, 8, [.dead]⟩),
  (52, ⟨.int .u16, 1, 2, [.v (.int .u16 0)]⟩),
  (53, ⟨.arr 5 52, 5, 10, [.v (.int .u16 0), .v (.int .u16 0), .v (.int .u16 0), .v (.int .u16 0), .v (.int .u16 0)]⟩),
  (54, ⟨.struct [(0, 5), (1, 5), (2, 53)], 7, 12, [.v (.int .u8 0), .v (.int .u8 0), .v (.int .u16 0), .v (.int .u16 0), .v (.int .u16 0), .v (.int .u16 0), .v (.int .u16 0)]⟩),
  (55, ⟨.struct [(0, 5), (1, 5), (2, 53)], 7, 12, [.v (.int .u8 0), .v (.int .u8 0), .v (.int .u16 0), .v (.int .u16 0), .v (.int .u16 0), .v (.int .u16 0), .v (.int .u16 0)]⟩),
  (56, ⟨.other, 1, 8, [.dead]⟩),
  (57, ⟨.other, 1, 8, [.dead]⟩),
  (58, ⟨.int .u64, 1, 8, [.v (.int .u64 0)]⟩),
  (59, ⟨.other, 1, 8, [.dead]⟩),
  (60, ⟨.other, 1, 8, [.dead]⟩),
  (61, ⟨.other, 1, 8, [.dead]⟩),
  (62, ⟨.other, 1, 8, [.dead]⟩),
  (63, ⟨.other, 1, 8, [.dead]⟩),
  (64, ⟨.other, 1, 8, [.dead]⟩),
  (65, ⟨.other, 1, 8, [.dead]⟩),
  (66, ⟨.slice 4, 1, 24, [.v .nl]⟩),
  (67, ⟨.other, 1, 8, [.dead]⟩),
  (68, ⟨.other, 1, 8, [.dead]⟩),
  (69, ⟨.arr 5 5, 5, 5, [.v (.int .u8 0), .v (.int .u8 0), .v (.int .u8 0), .v (.int .u8 0), .v (.int .u8 0)]⟩),
  (70, ⟨.slice 71, 1, 24, [.v .nl]⟩),
  (71, ⟨.arr 2 3, 2, 16, [.v (.int .i64 0), .v (.int .i64 0)]⟩),
  (72, ⟨.other, 1, 8, [.dead]⟩),
  (73, ⟨.arr 5 3, 5, 40, [.v (.int .i64 0), .v (.int .i64 0), .v (.int .i64 0), .v (.int .i64 0), .v (.int .i64 0)]⟩),
  (74, ⟨.other, 1, 8, [.dead]⟩),
  (75, ⟨.other, 1, 8, [.dead]⟩),
  (76, ⟨.other, 1, 8, [.dead]⟩),
  (77, ⟨.other, 1, 8, [.dead]⟩),
  (78, ⟨.other, 1, 8, [.dead]⟩),
  (79, ⟨.other, 1, 8, [.dead]⟩),
  (80, ⟨.other, 1, 8, [.dead]⟩),
  (81, ⟨.other, 1, 8, [.dead]⟩),
  (82, ⟨.other, 1, 8, [.dead]⟩),
  (83, ⟨.other, 1, 8, [.dead]⟩),
  (84, ⟨.other, 1, 8, [.dead]⟩),
  (85, ⟨.other, 1, 8, [.dead]⟩),
  (86, ⟨.other, 1, 8, [.dead]⟩),
  (87, ⟨.other, 1, 8, [.dead]⟩),
  (88, ⟨.other, 1, 8, [.dead]⟩),
  (89, ⟨.other, 1, 8, [.dead]⟩),
  (90, ⟨.other, 1, 8, [.dead]⟩),
  (92, ⟨.other, 1, 8, [.dead]⟩),
  (94, ⟨.other, 1, 8, [.dead]⟩),
  (95, ⟨.other, 1, 8, [.dead]⟩),
  (96, ⟨.other, 1, 8, [.dead]⟩),
  (97, ⟨.other, 1, 8, [.dead]⟩),
  (98, ⟨.arr 5 3, 5, 40, [.v (.int .i64 0), .v (.int .i64 0), .v (.int .i64 0), .v (.int .i64 0), .v (.int .i64 0)]⟩),
  (99, ⟨.other, 1, 8, [.dead]⟩),
  (100, ⟨.other, 1, 8, [.dead]⟩),
  (101, ⟨.slice 25, 1, 24, [.v .nl]⟩),
  (102, ⟨.other, 1, 8, [.dead]⟩),
  (103, ⟨.other, 1, 8, [.dead]⟩),
  (104, ⟨.other, 1, 8, [.dead]⟩),
  (105, ⟨.other, 1, 8, [.dead]⟩),
  (106, ⟨.other, 1, 8, [.dead]⟩),
  (107, ⟨.other, 1, 8, [.dead]⟩),
  (108, ⟨.other, 1, 8, [.dead]⟩),
  (109, ⟨.other, 1, 8, [.dead]⟩),
  (110, ⟨.other, 1, 8, [.dead]⟩),
  (111, ⟨.slice 52, 1, 24, [.v .nl]⟩),
  (112, ⟨.other, 1, 8, [.dead]⟩),
  (113, ⟨.other, 1, 8, [.dead]⟩),
  (114, ⟨.other, 1, 8, [.dead]⟩),
  (115, ⟨.other, 1, 8, [.dead]⟩),
  (116, ⟨.other, 1, 8, [.dead]⟩),
  (118, ⟨.other, 1, 8, [.dead]⟩),
  (119, ⟨.other, 1, 8, [.dead]⟩),
  (121, ⟨.other, 1, 8, [.dead]⟩),
  (122, ⟨.other, 1, 8, [.dead]⟩),
  (123, ⟨.other, 1, 8, [.dead]⟩),
  (124, ⟨.other, 1, 8, [.dead]⟩),
  (125, ⟨.other, 1, 8, [.dead]⟩),
  (126, ⟨.int .u32, 1, 4, [.v (.int .u32 0)]⟩),
  (127, ⟨.other, 1, 8, [.dead]⟩),
  (128, ⟨.int .u64, 1, 8, [.v (.int .u64 0)]⟩),
  (129, ⟨.other, 1, 8, [.dead]⟩),
  (131, ⟨.other, 1, 8, [.dead]⟩),
  (133, ⟨.other, 1, 8, [.dead]⟩),
  (134, ⟨.arr 32 5, 32, 32, [.v (.int .u8 0), .v (.int .u8 0), .v (.int .u8 0), .v (.int .u8 0), .v (.int .u8 0), .v (.int .u8 0), .v (.int .u8 0), .v (.int .u8 0), .v (.int .u8 0), .v (.int .u8 0), .v (.int .u8 0), .v (.int .u8 0), .v (.int .u8 0), .v (.int .u8 0), .v (.int .u8 0), .v (.int .u8 0), .v (.int .u8 0), .v (.int .u8 0), .v (.int .u8 0), .v (.int .u8 0), .v (.int .u8 0), .v (.int .u8 0), .v (.int .u8 0), .v (.int .u8 0), .v (.int .u8 0), .v (.int .u8 0), .v (.int .u8 0), .v (.int .u8 0), .v (.int .u8 0), .v (.int .u8 0), .v (.int .u8 0), .v (.int .u8 0)]⟩),
  (135, ⟨.arr 64 5, 64, 64, [.v (.int .u8 0), .v (.int .u8 0), .v (.int .u8 0), .v (.int .u8 0), .v (.int .u8 0), .v (.int .u8 0), .v (.int .u8 0), .v (.int .u8 0), .v (.int .u8 0), .v (.int .u8 0), .v (.int .u8 0), .v (.int .u8 0), .v (.int .u8 0), .v (.int .u8 0), .v (.int .u8 0), .v (.int .u8 0), .v (.int .u8 0), .v (.int .u8 0), .v (.int .u8 0), .v (.int .u8 0), .v (.int .u8 0), .v (.int .u8 0), .v (.int .u8 0), .v (.int .u8 0), .v (.int .u8 0), .v (.int .u8 0), .v (.int .u8 0), .v (.int .u8 0), .v (.int .u8 0), .v (.int .u8 0), .v (.int .u8 0), .v (.int .u8 0), .v (.int .u8 0), .v (.int .u8 0), .v (.int .u8 0), .v (.int .u8 0), .v (.int .u8 0), .v (.int .u8 0), .v (.int .u8 0), .v (.int .u8 0), .v (.int .u8 0), .v (.int .u8 0), .v (.int .u8 0), .v (.int .u8 0), .v (.int .u8 0), .v (.int .u8 0), .v (.int .u8 0), .v (.int .u8 0), .v (.int .u8 0), .v (.int .u8 0), .v (.int .u8 0), .v (.int .u8 0), .v (.int .u8 0), .v (.int .u8 0), .v (.int .u8 0), .v (.int .u8 0), .v (.int .u8 0), .v (.int .u8 0), .v (.int .u8 0), .v (.int .u8 0), .v (.int .u8 0), .v (.int .u8 0), .v (.int .u8 0), .v (.int .u8 0)]⟩),
  (136, ⟨.other, 1, 8, [.dead]⟩),
  (142, ⟨.other, 1, 8, [.dead]⟩),
  (146, ⟨.other, 1, 8, [.dead]⟩)]
theorem tl1 : tl tab 1 = some ⟨.other, 1, 8, [.dead]⟩ := rfl
theorem tl2 : tl tab 2 = some ⟨.int .i64, 1, 8, [.v (.int .i64 0)]⟩ := rfl
theorem tl3 : tl tab 3 = some ⟨.int .i64, 1, 8, [.v (.int .i64 0)]⟩ := rfl
theorem tl4 : tl tab 4 = some ⟨.bool, 1, 1, [.v (.bool false)]⟩ := rfl
theorem tl5 : tl tab 5 = some ⟨.int .u8, 1, 1, [.v (.int .u8 0)]⟩ := rfl
theorem tl9 : tl tab 9 = some ⟨.str, 1, 16, [.v (.str ⟨#[]⟩)]⟩ := rfl
theorem tl17 : tl tab 17 = some ⟨.other, 1, 8, [.dead]⟩ := rfl
theorem tl21 : tl tab 21 = some ⟨.int .i32, 1, 4, [.v (.int .i32 0)]⟩ := rfl
theorem tl22 : tl tab 22 = some ⟨.slice 70, 1, 24, [.v .nl]⟩ := rfl
theorem tl23 : tl tab 23 = some ⟨.struct [(0, 3), (1, 22)], 2, 32, [.v (.int .i64 0), .v .nl]⟩ := rfl
theorem tl24 : tl tab 24 = some ⟨.struct [(0, 3), (1, 22)], 2, 32, [.v (.int .i64 0), .v .nl]⟩ := rfl
theorem tl25 : tl tab 25 = some ⟨.slice 3, 1, 24, [.v .nl]⟩ := rfl
theorem tl26 : tl tab 26 = some ⟨.other, 1, 8, [.dead]⟩ := rfl
theorem tl27 : tl tab 27 = some ⟨.other, 1, 8, [.dead]⟩ := rfl
theorem tl28 : tl tab 28 = some ⟨.struct [(0, 3), (1, 22)], 2, 32, [.v (.int .i64 0), .v .nl]⟩ := rfl
theorem tl29 : tl tab 29 = some ⟨.int .i64, 1, 8, [.v (.int .i64 0)]⟩ := rfl
theorem tl31 : tl tab 31 = some ⟨.other, 1, 8, [.dead]⟩ := rfl
theorem tl32 : tl tab 32 = some ⟨.other, 1, 8, [.dead]⟩ := rfl
theorem tl34 : tl tab 34 = some ⟨.other, 1, 8, [.dead]⟩ := rfl
theorem tl35 : tl tab 35 = some ⟨.other, 1, 8, [.dead]⟩ := rfl
theorem tl36 : tl tab 36 = some ⟨.other, 1, 8, [.dead]⟩ := rfl
theorem tl37 : tl tab 37 = some ⟨.other, 1, 8, [.dead]⟩ := rfl
theorem tl38 : tl tab 38 = some ⟨.other, 1, 8, [.dead]⟩ := rfl
theorem tl39 : tl tab 39 = some ⟨.other, 1, 8, [.dead]⟩ := rfl
theorem tl40 : tl tab 40 = some ⟨.other, 1, 8, [.dead]⟩ := rfl
theorem tl41 : tl tab 41 = some ⟨.other, 1, 8, [.dead]⟩ := rfl
theorem tl42 : tl tab 42 = some ⟨.other, 1, 8, [.dead]⟩ := rfl
theorem tl43 : tl tab 43 = some ⟨.other, 1, 8, [.dead]⟩ := rfl
theorem tl44 : tl tab 44 = some ⟨.other, 1, 8, [.dead]⟩ := rfl
theorem tl45 : tl tab 45 = some ⟨.other, 1, 8, [.dead]⟩ := rfl
theorem tl47 : tl tab 47 = some ⟨.other, 1, 8, [.dead]⟩ := rfl
theorem tl48 : tl tab 48 = some ⟨.other, 1, 8, [.dead]⟩ := rfl
theorem tl49 : tl tab 49 = some ⟨.other, 1, 8, [.dead]⟩ := rfl
theorem tl50 : tl tab 50 = some ⟨.other, 1, 8, [.dead]⟩ := rfl
theorem tl51 : tl tab 51 = some ⟨.other, 1, 8, [.dead]⟩ := rfl
theorem tl52 : tl tab 52 = some ⟨.int .u16, 1, 2, [.v (.int .u16 0)]⟩ := rfl
theorem tl53 : tl tab 53 = some ⟨.arr 5 52, 5, 10, [.v (.int .u16 0), .v (.int .u16 0), .v (.int .u16 0), .v (.int .u16 0), .v (.int .u16 0)]⟩ := rfl
theorem tl54 : tl tab 54 = some ⟨.struct [(0, 5), (1, 5), (2, 53)], 7, 12, [.v (.int .u8 0), .v (.int .u8 0), .v (.int .u16 0), .v (.int .u16 0), .v (.int .u16 0), .v (.int .u16 0), .v (.int .u16 0)]⟩ := rfl
theorem tl55 : tl tab 55 = some ⟨.struct [(0, 5), (1, 5), (2, 53)], 7, 12, [.v (.int .u8 0), .v (.int .u8 0), .v (.int .u16 0), .v (.int .u16 0), .v (.int .u16 0), .v (.int .u16 0), .v (.int .u16 0)]⟩ := rfl
theorem tl56 : tl tab 56 = some ⟨.other, 1, 8, [.dead]⟩ := rfl
theorem tl57 : tl tab 57 = some ⟨.other, 1, 8, [.dead]⟩ := rfl
theorem tl58 : tl tab 58 = some ⟨.int .u64, 1, 8, [.v (.int .u64 0)]⟩ := rfl
theorem tl59 : tl tab 59 = some ⟨.other, 1, 8, [.dead]⟩ := rfl
theorem tl60 : tl tab 60 = some ⟨.other, 1, 8, [.dead]⟩ := rfl
theorem tl61 : tl tab 61 = some ⟨.other, 1, 8, [.dead]⟩ := rfl
theorem tl62 : tl tab 62 = some ⟨.other, 1, 8, [.dead]⟩ := rfl
theorem tl63 : tl tab 63 = some ⟨.other, 1, 8, [.dead]⟩ := rfl
theorem tl64 : tl tab 64 = some ⟨.other, 1, 8, [.dead]⟩ := rfl
theorem tl65 : tl tab 65 = some ⟨.other, 1, 8, [.dead]⟩ := rfl
theorem tl66 : tl tab 66 = some ⟨.slice 4, 1, 24, [.v .nl]⟩ := rfl
theorem tl67 : tl tab 67 = some ⟨.other, 1, 8, [.dead]⟩ := rfl
theorem tl68 : tl tab 68 = some ⟨.other, 1, 8, [.dead]⟩ := rfl
theorem tl69 : tl tab 69 = some ⟨.arr 5 5, 5, 5, [.v (.int .u8 0), .v (.int .u8 0), .v (.int .u8 0), .v (.int .u8 0), .v (.int .u8 0)]⟩ := rfl
theorem tl70 : tl tab 70 = some ⟨.slice 71, 1, 24, [.v .nl]⟩ := rfl
theorem tl71 : tl tab 71 = some ⟨.arr 2 3, 2, 16, [.v (.int .i64 0), .v (.int .i64 0)]⟩ := rfl
theorem tl72 : tl tab 72 = some ⟨.other, 1, 8, [.dead]⟩ := rfl
theorem tl73 : tl tab 73 = some ⟨.arr 5 3, 5, 40, [.v (.int .i64 0), .v (.int .i64 0), .v (.int .i64 0), .v (.int .i64 0), .v (.int .i64 0)]⟩ := rfl
theorem tl74 : tl tab 74 = some ⟨.other, 1, 8, [.dead]⟩ := rfl
theorem tl75 : tl tab 75 = some ⟨.other, 1, 8, [.dead]⟩ := rfl
theorem tl76 : tl tab 76 = some ⟨.other, 1, 8, [.dead]⟩ := rfl
theorem tl77 : tl tab 77 = some ⟨.other, 1, 8, [.dead]⟩ := rfl
theorem tl78 : tl tab 78 = some ⟨.other, 1, 8, [.dead]⟩ := rfl
theorem tl79 : tl tab 79 = some ⟨.other, 1, 8, [.dead]⟩ := rfl
theorem tl80 : tl tab 80 = some ⟨.other, 1, 8, [.dead]⟩ := rfl
theorem tl81 : tl tab 81 = some ⟨.other, 1, 8, [.dead]⟩ := rfl
theorem tl82 : tl tab 82 = some ⟨.other, 1, 8, [.dead]⟩ := rfl
theorem tl83 : tl tab 83 = some ⟨.other, 1, 8, [.dead]⟩ := rfl
theorem tl84 : tl tab 84 = some ⟨.other, 1, 8, [.dead]⟩ := rfl
theorem tl85 : tl tab 85 = some ⟨.other, 1, 8, [.dead]⟩ := rfl
theorem tl86 : tl tab 86 = some ⟨.other, 1, 8, [.dead]⟩ := rfl
theorem tl87 : tl tab 87 = some ⟨.other, 1, 8, [.dead]⟩ := rfl
theorem tl88 : tl tab 88 = some ⟨.other, 1, 8, [.dead]⟩ := rfl
theorem tl89 : tl tab 89 = some ⟨.other, 1, 8, [.dead]⟩ := rfl
theorem tl90 : tl tab 90 = some ⟨.other, 1, 8, [.dead]⟩ := rfl
theorem tl92 : tl tab 92 = some ⟨.other, 1, 8, [.dead]⟩ := rfl
theorem tl94 : tl tab 94 = some ⟨.other, 1, 8, [.dead]⟩ := rfl
theorem tl95 : tl tab 95 = some ⟨.other, 1, 8, [.dead]⟩ := rfl
theorem tl96 : tl tab 96 = some ⟨.other, 1, 8, [.dead]⟩ := rfl
theorem tl97 : tl tab 97 = some ⟨.other, 1, 8, [.dead]⟩ := rfl
theorem tl98 : tl tab 98 = some ⟨.arr 5 3, 5, 40, [.v (.int .i64 0), .v (.int .i64 0), .v (.int .i64 0), .v (.int .i64 0), .v (.int .i64 0)]⟩ := rfl
theorem tl99 : tl tab 99 = some ⟨.other, 1, 8, [.dead]⟩ := rfl
theorem tl100 : tl tab 100 = some ⟨.other, 1, 8, [.dead]⟩ := rfl
theorem tl101 : tl tab 101 = some ⟨.slice 25, 1, 24, [.v .nl]⟩ := rfl
theorem tl102 : tl tab 102 = some ⟨.other, 1, 8, [.dead]⟩ := rfl
theorem tl103 : tl tab 103 = some ⟨.other, 1, 8, [.dead]⟩ := rfl
theorem tl104 : tl tab 104 = some ⟨.other, 1, 8, [.dead]⟩ := rfl
theorem tl105 : tl tab 105 = some ⟨.other, 1, 8, [.dead]⟩ := rfl
theorem tl106 : tl tab 106 = some ⟨.other, 1, 8, [.dead]⟩ := rfl
theorem tl107 : tl tab 107 = some ⟨.other, 1, 8, [.dead]⟩ := rfl
theorem tl108 : tl tab 108 = some ⟨.other, 1, 8, [.dead]⟩ := rfl
theorem tl109 : tl tab 109 = some ⟨.other, 1, 8, [.dead]⟩ := rfl
theorem tl110 : tl tab 110 = some ⟨.other, 1, 8, [.dead]⟩ := rfl
theorem tl111 : tl tab 111 = some ⟨.slice 52, 1, 24, [.v .nl]⟩ := rfl
theorem tl112 : tl tab 112 = some ⟨.other, 1, 8, [.dead]⟩ := rfl
theorem tl113 : tl tab 113 = some ⟨.other, 1, 8, [.dead]⟩ := rfl
theorem tl114 : tl tab 114 = some ⟨.other, 1, 8, [.dead]⟩ := rfl
theorem tl115 : tl tab 115 = some ⟨.other, 1, 8, [.dead]⟩ := rfl
theorem tl116 : tl tab 116 = some ⟨.other, 1, 8, [.dead]⟩ := rfl
theorem tl118 : tl tab 118 = some ⟨.other, 1, 8, [.dead]⟩ := rfl
theorem tl119 : tl tab 119 = some ⟨.other, 1, 8, [.dead]⟩ := rfl
theorem tl121 : tl tab 121 = some ⟨.other, 1, 8, [.dead]⟩ := rfl
theorem tl122 : tl tab 122 = some ⟨.other, 1, 8, [.dead]⟩ := rfl
theorem tl123 : tl tab 123 = some ⟨.other, 1, 8, [.dead]⟩ := rfl
theorem tl124 : tl tab 124 = some ⟨.other, 1, 8, [.dead]⟩ := rfl
theorem tl125 : tl tab 125 = some ⟨.other, 1, 8, [.dead]⟩ := rfl
theorem tl126 : tl tab 126 = some ⟨.int .u32, 1, 4, [.v (.int .u32 0)]⟩ := rfl
theorem tl127 : tl tab 127 = some ⟨.other, 1, 8, [.dead]⟩ := rfl
theorem tl128 : tl tab 128 = some ⟨.int .u64, 1, 8, [.v (.int .u64 0)]⟩ := rfl
theorem tl129 : tl tab 129 = some ⟨.other, 1, 8, [.dead]⟩ := rfl
theorem tl131 : tl tab 131 = some ⟨.other, 1, 8, [.dead]⟩ := rfl
theorem tl133 : tl tab 133 = some ⟨.other, 1, 8, [.dead]⟩ := rfl
theorem tl134 : tl tab 134 = some ⟨.arr 32 5, 32, 32, [.v (.int .u8 0), .v (.int .u8 0), .v (.int .u8 0), .v (.int .u8 0), .v (.int .u8 0), .v (.int .u8 0), .v (.int .u8 0), .v (.int .u8 0), .v (.int .u8 0), .v (.int .u8 0), .v (.int .u8 0), .v (.int .u8 0), .v (.int .u8 0), .v (.int .u8 0), .v (.int .u8 0), .v (.int .u8 0), .v (.int .u8 0), .v (.int .u8 0), .v (.int .u8 0), .v (.int .u8 0), .v (.int .u8 0), .v (.int .u8 0), .v (.int .u8 0), .v (.int .u8 0), .v (.int .u8 0), .v (.int .u8 0), .v (.int .u8 0), .v (.int .u8 0), .v (.int .u8 0), .v (.int .u8 0), .v (.int .u8 0), .v (.int .u8 0)]⟩ := rfl
theorem tl135 : tl tab 135 = some ⟨.arr 64 5, 64, 64, [.v (.int .u8 0), .v (.int .u8 0), .v (.int .u8 0), .v (.int .u8 0), .v (.int .u8 0), .v (.int .u8 0), .v (.int .u8 0), .v (.int .u8 0), .v (.int .u8 0), .v (.int .u8 0), .v (.int .u8 0), .v (.int .u8 0), .v (.int .u8 0), .v (.int .u8 0), .v (.int .u8 0), .v (.int .u8 0), .v (.int .u8 0), .v (.int .u8 0), .v (.int .u8 0), .v (.int .u8 0), .v (.int .u8 0), .v (.int .u8 0), .v (.int .u8 0), .v (.int .u8 0), .v (.int .u8 0), .v (.int .u8 0), .v (.int .u8 0), .v (.int .u8 0), .v (.int .u8 0), .v (.int .u8 0), .v (.int .u8 0), .v (.int .u8 0), .v (.int .u8 0), .v (.int .u8 0), .v (.int .u8 0), .v (.int .u8 0), .v (.int .u8 0), .v (.int .u8 0), .v (.int .u8 0), .v (.int .u8 0), .v (.int .u8 0), .v (.int .u8 0), .v (.int .u8 0), .v (.int .u8 0), .v (.int .u8 0), .v (.int .u8 0), .v (.int .u8 0), .v (.int .u8 0), .v (.int .u8 0), .v (.int .u8 0), .v (.int .u8 0), .v (.int .u8 0), .v (.int .u8 0), .v (.int .u8 0), .v (.int .u8 0), .v (.int .u8 0), .v (.int .u8 0), .v (.int .u8 0), .v (.int .u8 0), .v (.int .u8 0), .v (.int .u8 0), .v (.int .u8 0), .v (.int .u8 0), .v (.int .u8 0)]⟩ := rfl
theorem tl136 : tl tab 136 = some ⟨.other, 1, 8, [.dead]⟩ := rfl
theorem tl142 : tl tab 142 = some ⟨.other, 1, 8, [.dead]⟩ := rfl
theorem tl146 : tl tab 146 = some ⟨.other, 1, 8, [.dead]⟩ := rfl
theorem tab_ok : TOk Tryd.prog tab := tabB_ok (by kernel_rfl)
theorem mixed : Tryd.prog.follows .mixedOrders = true := by kernel_rfl
end Go.Proofs.YtnponojgpkbagaaDoor
namespace Go.Proofs.YtnponojgpkbagaaDoor
open Go.V
set_option maxRecDepth 100000
def tab32 : List Int := [0, 1, 28, 2, 29, 14, 24, 3, 30, 22, 20, 15, 25, 17, 4, 8, 31, 27, 13, 23, 21, 19, 16, 7, 26, 12, 18, 6, 11, 5, 10, 9]
def tab64 : List Int := [0, 1, 56, 2, 57, 49, 28, 3, 61, 58, 42, 50, 38, 29, 17, 4, 62, 47, 59, 36, 45, 43, 51, 22, 53, 39, 33, 30, 24, 18, 12, 5, 63, 55, 48, 27, 60, 41, 37, 16, 46, 35, 44, 21, 52, 32, 23, 11, 54, 26, 40, 15, 34, 20, 31, 10, 25, 14, 19, 9, 13, 8, 7, 6]
theorem rc_tab {W : World} {b : Nat} : ∀ (zs : List Int) (off : Nat), (∀ i, i < zs.length → W.cell? ⟨b, off + i, none⟩ = some (.int .u8 (zs.getD i 0))) → RC W (fun _ => False) b off (zs.map (PV.int .u8))
  | [], off, _ => .nil b off
  | z :: zs, off, h => .cons b off (.int .u8 z) (.int .u8 z) _ (by simpa using h 0 (by simp)) rfl (fun h => h) (.int _ _) (rc_tab zs (off + 1) fun i hi => by
      have := h (i + 1) (by simpa using hi)
      rw [show off + (i + 1) = off + 1 + i by omega] at this
      simpa using this)
theorem laidG {W : World} (h : laidMetH Tryd.prog [("math/bits.deBruijn32tab", Rows.laid_math_bits_deBruijn32tab), ("math/bits.deBruijn64tab", Rows.laid_math_bits_deBruijn64tab)] W) : ∀ x ∈ Gv, RC W (fun _ => False) x.1 0 x.2 := by
  rw [MakeChecks.laidMetH_plain _ _ _ (by kernel_rfl)] at h
  have h1 : laidMet Tryd.prog (("math/bits.deBruijn32tab", Lib.tabData .u8 tab32) :: [("math/bits.deBruijn64tab", Rows.laid_math_bits_deBruijn64tab)]) W := h
  have h2 : laidMet Tryd.prog (("math/bits.deBruijn64tab", Lib.tabData .u8 tab64) :: []) W := laidMet.tail h
  have g1 : Tryd.prog.globalNamed "math/bits.deBruijn32tab" = some 0 := by kernel_rfl
  have g2 : Tryd.prog.globalNamed "math/bits.deBruijn64tab" = some 1 := by kernel_rfl
  have t1 := Lib.tabIs_of_head g1 (t := 134) (e := 5) (n := 32) (by kernel_rfl) (by kernel_rfl) (by kernel_rfl) (by kernel_rfl) (by kernel_rfl) h1
  have t2 := Lib.tabIs_of_head g2 (t := 135) (e := 5) (n := 64) (by kernel_rfl) (by kernel_rfl) (by kernel_rfl) (by kernel_rfl) (by kernel_rfl) h2
  intro x hx
  have hx' : x = (0, tab32.map (PV.int .u8)) ∨ x = (1, tab64.map (PV.int .u8)) := by
    have e : Gv = [(0, tab32.map (PV.int .u8)), (1, tab64.map (PV.int .u8))] := rfl
    rw [e] at hx
    simpa using hx
  rcases hx' with rfl | rfl
  · exact rc_tab tab32 0 fun i hi => by rw [Nat.zero_add]; exact t1.cell g1 i hi
  · exact rc_tab tab64 0 fun i hi => by rw [Nat.zero_add]; exact t2.cell g2 i hi
def domL : List (List Nat) := [[], [], [], [0, 1, 2, 3, 6, 7, 8, 9, 10, 11, 12, 13, 14, 15, 27], [0, 1, 2, 3, 4, 5, 6, 7, 8, 9, 10, 11, 13], [0, 1, 2, 3, 6, 7, 8, 9, 10, 11, 12, 13, 14, 15, 16, 17, 18, 19, 31], [0, 1, 2, 4, 5, 6, 7, 8, 9, 16], [0, 1, 2, 3, 4, 5, 6, 7, 8, 9, 10, 11, 12, 13, 14, 15, 16, 17, 18, 19, 20, 21, 22, 35, 36, 37, 63, 85, 100, 150, 151], [0, 1, 2, 4, 5, 6, 7, 8, 9, 10, 11, 12, 13, 14, 15, 16, 17, 18, 19, 20, 21, 23, 28, 29, 30, 31, 58, 72, 86, 88, 89, 90, 93, 94, 95, 110, 129, 135, 140, 146, 147, 148, 149, 150, 170, 183], [0, 1, 2, 3, 4, 5, 6, 7, 8, 9, 10, 11, 12, 13, 15, 16, 17, 18, 19, 21, 23, 27, 28, 29, 30, 36, 70, 71, 72, 76, 77, 78, 79, 116, 129, 144, 145, 146, 147, 169, 170, 171, 178], [0, 1, 2, 3, 6, 7, 8, 9, 10, 11, 12, 13, 14, 15, 16, 17, 18, 20, 78, 83, 84, 85, 86], [0, 1, 2, 3, 6, 7, 8, 9, 10, 11, 12, 13, 14, 15, 16, 17, 18, 23, 90, 94, 108], [0, 1, 2, 3, 4, 5, 6, 7, 8, 9, 10, 11, 12, 13, 14, 15, 16, 17, 18, 106, 210], [0, 1, 2, 3, 4, 6, 7, 8, 9, 10, 11, 12, 13, 14, 15, 17, 18, 19, 20, 21, 22, 23, 24, 25, 26, 27, 28, 29, 33, 34, 35, 43, 44, 45, 72, 73, 74, 87, 88, 89, 90, 168], [0, 1, 4, 5, 6, 7, 8, 9, 10, 11, 12, 13, 14, 15, 16, 21, 22, 23, 29, 69], [0, 1, 2, 3, 7, 12, 21], [0, 1, 2, 3, 4, 5, 6, 7, 8, 9, 10, 11, 12, 13, 14, 15, 75], [0, 1, 2, 4, 5, 6, 11], [0, 1, 2, 4, 5, 6, 11], [0, 1, 2, 4, 5, 6, 7, 8, 9, 17, 27], [0, 1, 2, 4, 5, 6, 7, 8, 9, 10, 11, 12, 20, 25, 35, 40, 60], [0, 1, 4, 5, 10, 14, 25], [0, 1, 2, 4, 5, 6, 7, 16, 22, 23, 24, 25, 30, 31, 32, 33, 34, 38, 55, 61], [0, 1, 2, 3, 4, 5, 6, 10, 14, 19, 29, 33, 57, 68, 71, 82], [0, 1, 2, 4, 5, 6, 13, 17], [0, 1, 2, 4, 5, 6, 21], [0, 1, 2, 3, 4, 5, 6, 10, 21], [0, 1, 2, 3, 4, 5, 9, 17], [0, 1, 2, 3, 4, 5, 9], [0, 1, 2, 3, 4, 8], [0, 1, 2, 4, 5, 6, 11], [0, 1, 2, 4, 5, 6, 11], [0, 1, 2, 3, 4, 5, 10], [0, 1, 2, 3, 4, 5, 6, 7, 11, 17, 28, 36], [0, 1, 2, 3, 6, 7, 9, 10, 12, 15, 16, 17, 18, 25, 28, 39, 45, 46, 47, 48, 63], [0, 1, 2, 3, 6, 7, 8, 9, 10, 11, 16, 33, 42, 44, 49, 56, 69, 85], [0, 1, 2, 3, 4, 5, 6, 10, 22], [0, 1, 2, 3, 4, 5, 6, 10, 18, 26], [0, 1, 2, 4, 5, 9, 13], [0, 1, 2, 4, 5, 16], [0, 1, 2, 3, 4, 8, 9, 11, 12, 13, 14, 15, 30, 31, 32, 33, 37, 38, 39, 46, 59], [0, 1, 2, 3, 5, 6, 7], [0, 1, 2], [0, 1, 2, 5], [0, 2, 4], [0, 2, 3, 5], [0, 1, 2, 4, 5, 7, 9, 10, 11, 12, 14, 16, 17, 18, 19, 26, 27, 28, 29, 35, 44, 45, 46, 49, 50, 51, 52, 70], [0, 1, 4, 5, 6, 7, 8, 9, 10, 11, 12, 19, 28, 35], [0, 1, 2, 3, 4, 11, 12, 13], [0, 2, 3, 5, 6, 7, 8, 9, 11, 12, 13, 14, 29, 30, 31, 32, 33, 39], [0, 2, 4], [0, 1, 3, 4], [0, 2, 4], [0], [0, 2], [0], [0, 1, 4], [0, 2, 3, 4, 9], [0], [0, 1, 2, 6, 7, 16], [0, 2, 3, 9], [0, 1, 4, 5, 6, 7, 8, 10, 26, 37], [0, 1, 2, 6, 7, 16], [0, 1, 2, 4, 5, 6, 8, 12, 14, 15, 16, 17, 20, 30], [0, 1, 2, 4, 5, 7, 8, 9, 10, 11], [0, 1, 2, 4, 5, 6, 16, 28, 42], [0, 1, 2, 4, 5, 6, 10], [0, 1, 2, 4, 5, 6, 7, 8, 9, 12, 16, 23, 24, 25, 26, 41], [0, 1, 2, 6, 7, 8, 9, 10, 11, 12, 13, 14, 15, 17, 18, 19, 26, 63], [0, 1, 3, 4, 6, 7, 8, 9, 10], [0, 1, 4, 5, 6, 8, 10, 11, 12, 13, 20], [0, 1, 2, 3, 4], [0, 1, 2, 4, 5, 6, 7, 8, 20, 28, 43], [0, 1, 2, 6, 7, 8, 9, 13, 18, 29], [0, 1, 4], [0, 1, 2, 6], [0, 1, 2, 3, 4, 5, 6], [0, 2, 3, 5], [0, 1, 2, 4], [0, 1, 2, 3, 4, 8, 9, 10, 11, 12, 17, 32, 47], [0, 1, 2, 3, 4, 9], [0, 1, 3], [0, 1, 2, 4, 5], [0, 1, 2, 4, 5, 6, 12, 20], [0, 1, 4], [0, 1, 4, 5, 9, 17], [0, 1, 2, 4], [0, 2, 3, 4, 5, 6, 7, 8, 12, 22, 27], [0, 1, 2, 4], [0, 1, 2, 3, 4, 5, 8, 9, 10, 16, 18, 29, 30, 31, 32], [0, 2], [0, 1, 4, 5, 6, 11, 12, 13, 16, 19], [0, 1, 2], [0, 1, 3, 4, 5, 7, 8, 9, 16], [0], [0, 1, 4, 5, 6, 7, 8, 9], [0, 1, 4, 5, 6, 7, 8, 9, 10, 13, 21, 36, 58, 86, 95], [0, 1, 2, 3, 4], [0, 1, 2, 3, 4, 5, 6, 7, 8, 27, 28, 29, 34], [0, 1, 2, 3, 4, 5, 7, 8, 9, 10, 11, 17, 28, 29, 30, 31, 53], [0, 1, 3], [0, 1, 4, 5, 7, 8, 9, 16], [0, 2, 4], [0, 2, 4], [0, 2], [0, 1, 4, 5, 6], [0, 1, 4, 5, 6, 7, 8, 9, 10, 11, 12, 13], [0], [0], [0], [0], [0], [0], [0], [0], [0], [0], [0], [0], [0], [0], [0], [0], [], [], [], [], []]
def nthL : List (List Nat) → Nat → List Nat
  | [], _ => []
  | x :: _, 0 => x
  | _ :: l, n + 1 => nthL l n
def noFz (n : Nat) : Bool := bif Nat.beq n 0 then false else false
def kn0 : Known := ⟨[], []⟩
theorem kn0_ok : KnOk Tryd.prog kn0 := KnOk.nil
def ka0 : List PV := []
def kr0 : PV := (.agg [(.int .i64 3), (.lst true 3 [(.lst false 1 [(.int .i64 0), (.int .i64 1)]), (.lst false 2 [(.int .i64 0), (.int .i64 1), (.int .i64 1), (.int .i64 2)]), (.lst false 1 [(.int .i64 0), (.int .i64 2)])])])
theorem k0 : FnP Tryd.prog 53 ka0 kr0 := runE_ok (doms := nthL domL) (fzr := noFz) (n := 6000) tab_ok mixed kn0_ok (by kernel_rfl)
def kn1 : Known := ⟨(53, ka0, kr0) :: kn0.p, kn0.i⟩
theorem kn1_ok : KnOk Tryd.prog kn1 := KnOk.cons k0 kn0_ok
def ka1 : List PV := [(.agg [(.int .i64 3), (.lst true 3 [(.lst false 1 [(.int .i64 0), (.int .i64 1)]), (.lst false 2 [(.int .i64 0), (.int .i64 1), (.int .i64 1), (.int .i64 2)]), (.lst false 1 [(.int .i64 0), (.int .i64 2)])])])]
def kr1 : PV := (.int .i64 0)
theorem k1 : FnP Tryd.prog 22 ka1 kr1 := runE_ok (doms := nthL domL) (fzr := noFz) (n := 6000) tab_ok mixed kn1_ok (by kernel_rfl)
def kn2 : Known := ⟨(22, ka1, kr1) :: kn1.p, kn1.i⟩
theorem kn2_ok : KnOk Tryd.prog kn2 := KnOk.cons k1 kn1_ok
def ka2 : List PV := [(.agg [(.int .i64 3), (.lst true 3 [(.lst false 1 [(.int .i64 0), (.int .i64 1)]), (.lst false 2 [(.int .i64 0), (.int .i64 1), (.int .i64 1), (.int .i64 2)]), (.lst false 1 [(.int .i64 0), (.int .i64 2)])])]), .nl]
def kr2 : PV := (.int .i64 0)
theorem k2 : FnP Tryd.prog 64 ka2 kr2 := runE_ok (doms := nthL domL) (fzr := noFz) (n := 6000) tab_ok mixed kn2_ok (by kernel_rfl)
def kn3 : Known := ⟨(64, ka2, kr2) :: kn2.p, kn2.i⟩
theorem kn3_ok : KnOk Tryd.prog kn3 := KnOk.cons k2 kn2_ok
def ka3 : List PV := [(.agg [(.int .i64 3), (.lst true 3 [(.lst false 1 [(.int .i64 0), (.int .i64 1)]), (.lst false 2 [(.int .i64 0), (.int .i64 1), (.int .i64 1), (.int .i64 2)]), (.lst false 1 [(.int .i64 0), (.int .i64 2)])])]), .nl]
def kr3 : PV := (.tup [(.int .i64 0), (.int .i64 0)])
theorem k3 : FnP Tryd.prog 17 ka3 kr3 := runE_ok (doms := nthL domL) (fzr := noFz) (n := 6000) tab_ok mixed kn3_ok (by kernel_rfl)
def kn4 : Known := ⟨(17, ka3, kr3) :: kn3.p, kn3.i⟩
theorem kn4_ok : KnOk Tryd.prog kn4 := KnOk.cons k3 kn3_ok
def ka4 : List PV := []
def kr4 : PV := (.agg [(.int .i64 3), (.lst true 3 [(.lst false 2 [(.int .i64 0), (.int .i64 1), (.int .i64 1), (.int .i64 2)]), (.lst false 2 [(.int .i64 0), (.int .i64 1), (.int .i64 0), (.int .i64 2)]), (.lst false 2 [(.int .i64 1), (.int .i64 2), (.int .i64 0), (.int .i64 2)])])])
theorem k4 : FnP Tryd.prog 55 ka4 kr4 := runE_ok (doms := nthL domL) (fzr := noFz) (n := 6000) tab_ok mixed kn4_ok (by kernel_rfl)
def kn5 : Known := ⟨(55, ka4, kr4) :: kn4.p, kn4.i⟩
theorem kn5_ok : KnOk Tryd.prog kn5 := KnOk.cons k4 kn4_ok
def ka5 : List PV := [(.agg [(.int .i64 3), (.lst true 3 [(.lst false 2 [(.int .i64 0), (.int .i64 1), (.int .i64 1), (.int .i64 2)]), (.lst false 2 [(.int .i64 0), (.int .i64 1), (.int .i64 0), (.int .i64 2)]), (.lst false 2 [(.int .i64 1), (.int .i64 2), (.int .i64 0), (.int .i64 2)])])])]
def kr5 : PV := (.int .i64 0)
theorem k5 : FnP Tryd.prog 22 ka5 kr5 := runE_ok (doms := nthL domL) (fzr := noFz) (n := 6000) tab_ok mixed kn5_ok (by kernel_rfl)
def kn6 : Known := ⟨(22, ka5, kr5) :: kn5.p, kn5.i⟩
theorem kn6_ok : KnOk Tryd.prog kn6 := KnOk.cons k5 kn5_ok
def ka6 : List PV := [(.int .u64 3)]
def kr6 : PV := (.int .i64 0)
theorem k6 : FnP Tryd.prog 103 ka6 kr6 := runE_ok (doms := nthL domL) (fzr := noFz) (n := 6000) tab_ok mixed kn6_ok (by kernel_rfl)
def kn7 : Known := ⟨(103, ka6, kr6) :: kn6.p, kn6.i⟩
theorem kn7_ok : KnOk Tryd.prog kn7 := KnOk.cons k6 kn6_ok
def ka7 : List PV := [(.int .u64 2)]
def kr7 : PV := (.int .i64 1)
theorem k7 : FnP Tryd.prog 103 ka7 kr7 := runE_ok (doms := nthL domL) (fzr := noFz) (n := 6000) tab_ok mixed kn7_ok (by kernel_rfl)
def kn8 : Known := ⟨(103, ka7, kr7) :: kn7.p, kn7.i⟩
theorem kn8_ok : KnOk Tryd.prog kn8 := KnOk.cons k7 kn7_ok
def ka8 : List PV := [(.int .u64 7)]
def kr8 : PV := (.int .i64 0)
theorem k8 : FnP Tryd.prog 103 ka8 kr8 := runE_ok (doms := nthL domL) (fzr := noFz) (n := 6000) tab_ok mixed kn8_ok (by kernel_rfl)
def kn9 : Known := ⟨(103, ka8, kr8) :: kn8.p, kn8.i⟩
theorem kn9_ok : KnOk Tryd.prog kn9 := KnOk.cons k8 kn8_ok
def ka9 : List PV := [(.int .u64 6)]
def kr9 : PV := (.int .i64 1)
theorem k9 : FnP Tryd.prog 103 ka9 kr9 := runE_ok (doms := nthL domL) (fzr := noFz) (n := 6000) tab_ok mixed kn9_ok (by kernel_rfl)
def kn10 : Known := ⟨(103, ka9, kr9) :: kn9.p, kn9.i⟩
theorem kn10_ok : KnOk Tryd.prog kn10 := KnOk.cons k9 kn9_ok
def ka10 : List PV := [(.int .u64 4)]
def kr10 : PV := (.int .i64 2)
theorem k10 : FnP Tryd.prog 103 ka10 kr10 := runE_ok (doms := nthL domL) (fzr := noFz) (n := 6000) tab_ok mixed kn10_ok (by kernel_rfl)
def kn11 : Known := ⟨(103, ka10, kr10) :: kn10.p, kn10.i⟩
theorem kn11_ok : KnOk Tryd.prog kn11 := KnOk.cons k10 kn10_ok
def ka11 : List PV := [(.agg [(.int .i64 3), (.lst true 3 [(.lst false 2 [(.int .i64 0), (.int .i64 1), (.int .i64 1), (.int .i64 2)]), (.lst false 2 [(.int .i64 0), (.int .i64 1), (.int .i64 0), (.int .i64 2)]), (.lst false 2 [(.int .i64 1), (.int .i64 2), (.int .i64 0), (.int .i64 2)])])])]
def kr11 : PV := (.tup [(.int .i64 0), (.int .i64 0)])
theorem k11 : FnP Tryd.prog 28 ka11 kr11 := runE_ok (doms := nthL domL) (fzr := noFz) (n := 6000) tab_ok mixed kn11_ok (by kernel_rfl)
def kn12 : Known := ⟨(28, ka11, kr11) :: kn11.p, kn11.i⟩
theorem kn12_ok : KnOk Tryd.prog kn12 := KnOk.cons k11 kn11_ok
def ka12 : List PV := [(.agg [(.int .i64 3), .nl])]
def kr12 : PV := (.int .i64 0)
theorem k12 : FnP Tryd.prog 22 ka12 kr12 := runE_ok (doms := nthL domL) (fzr := noFz) (n := 6000) tab_ok mixed kn12_ok (by kernel_rfl)
def kn13 : Known := ⟨(22, ka12, kr12) :: kn12.p, kn12.i⟩
theorem kn13_ok : KnOk Tryd.prog kn13 := KnOk.cons k12 kn12_ok
def ka13 : List PV := [(.agg [(.int .i64 3), .nl])]
def kr13 : PV := (.tup [(.int .i64 1), (.int .i64 0)])
theorem k13 : FnP Tryd.prog 28 ka13 kr13 := runE_ok (doms := nthL domL) (fzr := noFz) (n := 6000) tab_ok mixed kn13_ok (by kernel_rfl)
def kn14 : Known := ⟨(28, ka13, kr13) :: kn13.p, kn13.i⟩
theorem kn14_ok : KnOk Tryd.prog kn14 := KnOk.cons k13 kn13_ok
def ka14 : List PV := []
def kr14 : PV := (.agg [(.int .i64 4), (.lst true 3 [(.lst false 6 [(.int .i64 0), (.int .i64 1), (.int .i64 0), (.int .i64 2), (.int .i64 0), (.int .i64 3), (.int .i64 1), (.int .i64 2), (.int .i64 1), (.int .i64 3), (.int .i64 2), (.int .i64 3)]), (.lst false 6 [(.int .i64 0), (.int .i64 1), (.int .i64 0), (.int .i64 2), (.int .i64 0), (.int .i64 3), (.int .i64 1), (.int .i64 2), (.int .i64 1), (.int .i64 3), (.int .i64 2), (.int .i64 3)]), (.lst false 6 [(.int .i64 0), (.int .i64 1), (.int .i64 0), (.int .i64 2), (.int .i64 0), (.int .i64 3), (.int .i64 1), (.int .i64 2), (.int .i64 1), (.int .i64 3), (.int .i64 2), (.int .i64 3)])])])
theorem k14 : FnP Tryd.prog 58 ka14 kr14 := runE_ok (doms := nthL domL) (fzr := noFz) (n := 6000) tab_ok mixed kn14_ok (by kernel_rfl)
def kn15 : Known := ⟨(58, ka14, kr14) :: kn14.p, kn14.i⟩
theorem kn15_ok : KnOk Tryd.prog kn15 := KnOk.cons k14 kn14_ok
def ka15 : List PV := [(.agg [(.int .i64 4), (.lst true 3 [(.lst false 6 [(.int .i64 0), (.int .i64 1), (.int .i64 0), (.int .i64 2), (.int .i64 0), (.int .i64 3), (.int .i64 1), (.int .i64 2), (.int .i64 1), (.int .i64 3), (.int .i64 2), (.int .i64 3)]), (.lst false 6 [(.int .i64 0), (.int .i64 1), (.int .i64 0), (.int .i64 2), (.int .i64 0), (.int .i64 3), (.int .i64 1), (.int .i64 2), (.int .i64 1), (.int .i64 3), (.int .i64 2), (.int .i64 3)]), (.lst false 6 [(.int .i64 0), (.int .i64 1), (.int .i64 0), (.int .i64 2), (.int .i64 0), (.int .i64 3), (.int .i64 1), (.int .i64 2), (.int .i64 1), (.int .i64 3), (.int .i64 2), (.int .i64 3)])])])]
def kr15 : PV := (.int .i64 0)
theorem k15 : FnP Tryd.prog 22 ka15 kr15 := runE_ok (doms := nthL domL) (fzr := noFz) (n := 6000) tab_ok mixed kn15_ok (by kernel_rfl)
def kn16 : Known := ⟨(22, ka15, kr15) :: kn15.p, kn15.i⟩
theorem kn16_ok : KnOk Tryd.prog kn16 := KnOk.cons k15 kn15_ok
def ka16 : List PV := [(.int .u64 1)]
def kr16 : PV := (.int .i64 0)
theorem k16 : FnP Tryd.prog 103 ka16 kr16 := runE_ok (doms := nthL domL) (fzr := noFz) (n := 6000) tab_ok mixed kn16_ok (by kernel_rfl)
def kn17 : Known := ⟨(103, ka16, kr16) :: kn16.p, kn16.i⟩
theorem kn17_ok : KnOk Tryd.prog kn17 := KnOk.cons k16 kn16_ok
def ka17 : List PV := [(.int .u64 5)]
def kr17 : PV := (.int .i64 0)
theorem k17 : FnP Tryd.prog 103 ka17 kr17 := runE_ok (doms := nthL domL) (fzr := noFz) (n := 6000) tab_ok mixed kn17_ok (by kernel_rfl)
def kn18 : Known := ⟨(103, ka17, kr17) :: kn17.p, kn17.i⟩
theorem kn18_ok : KnOk Tryd.prog kn18 := KnOk.cons k17 kn17_ok
def ka18 : List PV := [(.agg [(.int .i64 3), (.lst true 3 [(.lst false 2 [(.int .i64 0), (.int .i64 1), (.int .i64 1), (.int .i64 2)]), (.lst false 2 [(.int .i64 0), (.int .i64 1), (.int .i64 0), (.int .i64 2)]), (.lst false 2 [(.int .i64 1), (.int .i64 2), (.int .i64 0), (.int .i64 2)])])])]
def kr18 : PV := (.tup [(.lst false 2 [(.int .i64 0), (.int .i64 1)]), (.int .i64 0)])
theorem k18 : FnP Tryd.prog 32 ka18 kr18 := runE_ok (doms := nthL domL) (fzr := noFz) (n := 6000) tab_ok mixed kn18_ok (by kernel_rfl)
def kn19 : Known := ⟨(32, ka18, kr18) :: kn18.p, kn18.i⟩
theorem kn19_ok : KnOk Tryd.prog kn19 := KnOk.cons k18 kn18_ok
def ka19 : List PV := [(.agg [(.int .i64 3), (.lst true 3 [(.lst false 1 [(.int .i64 0), (.int .i64 1)]), (.lst false 2 [(.int .i64 0), (.int .i64 1), (.int .i64 1), (.int .i64 2)]), (.lst false 1 [(.int .i64 0), (.int .i64 2)])])])]
def kr19 : PV := (.tup [(.lst false 3 [(.int .i64 0), (.int .i64 1), (.int .i64 2)]), (.int .i64 0)])
theorem k19 : FnP Tryd.prog 36 ka19 kr19 := runE_ok (doms := nthL domL) (fzr := noFz) (n := 6000) tab_ok mixed kn19_ok (by kernel_rfl)
def kn20 : Known := ⟨(36, ka19, kr19) :: kn19.p, kn19.i⟩
theorem kn20_ok : KnOk Tryd.prog kn20 := KnOk.cons k19 kn19_ok
def ka20 : List PV := [(.agg [(.int .i64 6), .nl])]
def kr20 : PV := (.int .i64 1)
theorem k20 : FnP Tryd.prog 22 ka20 kr20 := runE_ok (doms := nthL domL) (fzr := noFz) (n := 6000) tab_ok mixed kn20_ok (by kernel_rfl)
def kn21 : Known := ⟨(22, ka20, kr20) :: kn20.p, kn20.i⟩
theorem kn21_ok : KnOk Tryd.prog kn21 := KnOk.cons k20 kn20_ok
def ka21 : List PV := [(.agg [(.int .i64 4), (.lst true 3 [(.lst false 6 [(.int .i64 0), (.int .i64 1), (.int .i64 0), (.int .i64 2), (.int .i64 0), (.int .i64 3), (.int .i64 1), (.int .i64 2), (.int .i64 1), (.int .i64 3), (.int .i64 2), (.int .i64 3)]), (.lst false 6 [(.int .i64 0), (.int .i64 1), (.int .i64 0), (.int .i64 2), (.int .i64 0), (.int .i64 3), (.int .i64 1), (.int .i64 2), (.int .i64 1), (.int .i64 3), (.int .i64 2), (.int .i64 3)]), (.lst false 6 [(.int .i64 0), (.int .i64 1), (.int .i64 0), (.int .i64 2), (.int .i64 0), (.int .i64 3), (.int .i64 1), (.int .i64 2), (.int .i64 1), (.int .i64 3), (.int .i64 2), (.int .i64 3)])])])]
def kr21 : PV := (.tup [(.lst false 3 [(.int .i64 0), (.int .i64 1), (.int .i64 2)]), (.int .i64 0)])
theorem k21 : FnP Tryd.prog 26 ka21 kr21 := runE_ok (doms := nthL domL) (fzr := noFz) (n := 6000) tab_ok mixed kn21_ok (by kernel_rfl)
def kn22 : Known := ⟨(26, ka21, kr21) :: kn21.p, kn21.i⟩
theorem kn22_ok : KnOk Tryd.prog kn22 := KnOk.cons k21 kn21_ok
def ka22 : List PV := [(.agg [(.int .i64 4), (.lst true 3 [(.lst false 6 [(.int .i64 0), (.int .i64 1), (.int .i64 0), (.int .i64 2), (.int .i64 0), (.int .i64 3), (.int .i64 1), (.int .i64 2), (.int .i64 1), (.int .i64 3), (.int .i64 2), (.int .i64 3)]), (.lst false 6 [(.int .i64 0), (.int .i64 1), (.int .i64 0), (.int .i64 2), (.int .i64 0), (.int .i64 3), (.int .i64 1), (.int .i64 2), (.int .i64 1), (.int .i64 3), (.int .i64 2), (.int .i64 3)]), (.lst false 6 [(.int .i64 0), (.int .i64 1), (.int .i64 0), (.int .i64 2), (.int .i64 0), (.int .i64 3), (.int .i64 1), (.int .i64 2), (.int .i64 1), (.int .i64 3), (.int .i64 2), (.int .i64 3)])])])]
def kr22 : PV := (.tup [(.int .i64 96), (.int .i64 0)])
theorem k22 : FnP Tryd.prog 28 ka22 kr22 := runE_ok (doms := nthL domL) (fzr := noFz) (n := 6000) tab_ok mixed kn22_ok (by kernel_rfl)
def kn23 : Known := ⟨(28, ka22, kr22) :: kn22.p, kn22.i⟩
theorem kn23_ok : KnOk Tryd.prog kn23 := KnOk.cons k22 kn22_ok
def ka23 : List PV := [(.agg [(.int .i64 3), (.lst true 3 [(.lst false 1 [(.int .i64 0), (.int .i64 1)]), (.lst false 2 [(.int .i64 0), (.int .i64 1), (.int .i64 1), (.int .i64 2)]), (.lst false 1 [(.int .i64 0), (.int .i64 2)])])])]
def kr23 : PV := (.tup [(.lst false 2 [(.int .i64 0), (.int .i64 1)]), (.int .i64 0)])
theorem k23 : FnP Tryd.prog 32 ka23 kr23 := runE_ok (doms := nthL domL) (fzr := noFz) (n := 6000) tab_ok mixed kn23_ok (by kernel_rfl)
def kn24 : Known := ⟨(32, ka23, kr23) :: kn23.p, kn23.i⟩
theorem kn24_ok : KnOk Tryd.prog kn24 := KnOk.cons k23 kn23_ok
def ka24 : List PV := [(.agg [(.int .i64 3), (.lst true 3 [(.lst false 2 [(.int .i64 0), (.int .i64 1), (.int .i64 1), (.int .i64 2)]), (.lst false 2 [(.int .i64 0), (.int .i64 1), (.int .i64 0), (.int .i64 2)]), (.lst false 2 [(.int .i64 1), (.int .i64 2), (.int .i64 0), (.int .i64 2)])])]), .nl]
def kr24 : PV := (.int .i64 0)
theorem k24 : FnP Tryd.prog 64 ka24 kr24 := runE_ok (doms := nthL domL) (fzr := noFz) (n := 6000) tab_ok mixed kn24_ok (by kernel_rfl)
def kn25 : Known := ⟨(64, ka24, kr24) :: kn24.p, kn24.i⟩
theorem kn25_ok : KnOk Tryd.prog kn25 := KnOk.cons k24 kn24_ok
def ka25 : List PV := [(.agg [(.int .i64 3), (.lst true 3 [(.lst false 2 [(.int .i64 0), (.int .i64 1), (.int .i64 1), (.int .i64 2)]), (.lst false 2 [(.int .i64 0), (.int .i64 1), (.int .i64 0), (.int .i64 2)]), (.lst false 2 [(.int .i64 1), (.int .i64 2), (.int .i64 0), (.int .i64 2)])])])]
def kr25 : PV := (.tup [(.lst false 3 [(.int .i64 0), (.int .i64 1), (.int .i64 2)]), (.int .i64 0)])
theorem k25 : FnP Tryd.prog 36 ka25 kr25 := runE_ok (doms := nthL domL) (fzr := noFz) (n := 6000) tab_ok mixed kn25_ok (by kernel_rfl)
def kn26 : Known := ⟨(36, ka25, kr25) :: kn25.p, kn25.i⟩
theorem kn26_ok : KnOk Tryd.prog kn26 := KnOk.cons k25 kn25_ok
def ka26 : List PV := [(.agg [(.int .i64 3), (.lst true 3 [(.lst false 1 [(.int .i64 0), (.int .i64 1)]), (.lst false 2 [(.int .i64 0), (.int .i64 1), (.int .i64 1), (.int .i64 2)]), (.lst false 1 [(.int .i64 0), (.int .i64 2)])])])]
def kr26 : PV := (.tup [.nl, (.int .i64 12)])
theorem k26 : FnP Tryd.prog 26 ka26 kr26 := runE_ok (doms := nthL domL) (fzr := noFz) (n := 6000) tab_ok mixed kn26_ok (by kernel_rfl)
def kn27 : Known := ⟨(26, ka26, kr26) :: kn26.p, kn26.i⟩
theorem kn27_ok : KnOk Tryd.prog kn27 := KnOk.cons k26 kn26_ok
def ka27 : List PV := [(.agg [(.int .i64 4), (.lst true 3 [(.lst false 6 [(.int .i64 0), (.int .i64 1), (.int .i64 0), (.int .i64 2), (.int .i64 0), (.int .i64 3), (.int .i64 1), (.int .i64 2), (.int .i64 1), (.int .i64 3), (.int .i64 2), (.int .i64 3)]), (.lst false 6 [(.int .i64 0), (.int .i64 1), (.int .i64 0), (.int .i64 2), (.int .i64 0), (.int .i64 3), (.int .i64 1), (.int .i64 2), (.int .i64 1), (.int .i64 3), (.int .i64 2), (.int .i64 3)]), (.lst false 6 [(.int .i64 0), (.int .i64 1), (.int .i64 0), (.int .i64 2), (.int .i64 0), (.int .i64 3), (.int .i64 1), (.int .i64 2), (.int .i64 1), (.int .i64 3), (.int .i64 2), (.int .i64 3)])])]), .nl]
def kr27 : PV := (.int .i64 0)
theorem k27 : FnP Tryd.prog 64 ka27 kr27 := runE_ok (doms := nthL domL) (fzr := noFz) (n := 6000) tab_ok mixed kn27_ok (by kernel_rfl)
def kn28 : Known := ⟨(64, ka27, kr27) :: kn27.p, kn27.i⟩
theorem kn28_ok : KnOk Tryd.prog kn28 := KnOk.cons k27 kn27_ok
def ka28 : List PV := [(.agg [(.int .i64 4), (.lst true 3 [(.lst false 6 [(.int .i64 0), (.int .i64 1), (.int .i64 0), (.int .i64 2), (.int .i64 0), (.int .i64 3), (.int .i64 1), (.int .i64 2), (.int .i64 1), (.int .i64 3), (.int .i64 2), (.int .i64 3)]), (.lst false 6 [(.int .i64 0), (.int .i64 1), (.int .i64 0), (.int .i64 2), (.int .i64 0), (.int .i64 3), (.int .i64 1), (.int .i64 2), (.int .i64 1), (.int .i64 3), (.int .i64 2), (.int .i64 3)]), (.lst false 6 [(.int .i64 0), (.int .i64 1), (.int .i64 0), (.int .i64 2), (.int .i64 0), (.int .i64 3), (.int .i64 1), (.int .i64 2), (.int .i64 1), (.int .i64 3), (.int .i64 2), (.int .i64 3)])])])]
def kr28 : PV := (.tup [.nl, (.int .i64 13)])
theorem k28 : FnP Tryd.prog 36 ka28 kr28 := runE_ok (doms := nthL domL) (fzr := noFz) (n := 6000) tab_ok mixed kn28_ok (by kernel_rfl)
def kn29 : Known := ⟨(36, ka28, kr28) :: kn28.p, kn28.i⟩
theorem kn29_ok : KnOk Tryd.prog kn29 := KnOk.cons k28 kn28_ok
def ka29 : List PV := []
def kr29 : PV := (.bool true)
theorem k29 : FnP Tryd.prog 16 ka29 kr29 := runE_ok (doms := nthL domL) (fzr := noFz) (n := 6000) tab_ok mixed kn29_ok (by kernel_rfl)
end Go.Proofs.YtnponojgpkbagaaDoor
namespace Go.Proofs.YtnponojgpkbagaaDoor
open Go.V
open Nat renaming reduceBEq → qa, reduceAdd → qb, reduceSub → qc, reduceMul → qd, reduceLT → qe, reduceLeDiff → qf
open Int renaming reduceLE → qg, reduceLT → qh, reduceToNat → qi, reduceBEq → qj, reduceBNe → qk
set_option maxRecDepth 100000
set_option maxHeartbeats 4000000
set_option linter.unusedSimpArgs false
set_option linter.unusedVariables false
attribute [local go_sem] tl1 tl2 tl3 tl4 tl5 tl9 tl17 tl21 tl22 tl23 tl24 tl25 tl26 tl27 tl28 tl29 tl31 tl32 tl34 tl35 tl36 tl37 tl38 tl39 tl40 tl41 tl42 tl43 tl44 tl45 tl47 tl48 tl49 tl50 tl51 tl52 tl53 tl54 tl55 tl56 tl57 tl58 tl59 tl60 tl61 tl62 tl63 tl64 tl65 tl66 tl67 tl68 tl69 tl70 tl71 tl72 tl73 tl74 tl75 tl76 tl77 tl78 tl79 tl80 tl81 tl82 tl83 tl84 tl85 tl86 tl87 tl88 tl89 tl90 tl92 tl94 tl95 tl96 tl97 tl98 tl99 tl100 tl101 tl102 tl103 tl104 tl105 tl106 tl107 tl108 tl109 tl110 tl111 tl112 tl113 tl114 tl115 tl116 tl118 tl119 tl121 tl122 tl123 tl124 tl125 tl126 tl127 tl128 tl129 tl131 tl133 tl134 tl135 tl136 tl142 tl146
def getA5 {α : Type} (p : PV) (k : PV → PV → PV → PV → PV → Option α) : Option α := match p with | .agg [a0, a1, a2, a3, a4] => k a0 a1 a2 a3 a4 | _ => none
theorem getA5_some {α : Type} {p : PV} {k : PV → PV → PV → PV → PV → Option α} {r : α} (h : getA5 p k = some r) : ∃ a0 a1 a2 a3 a4, p = .agg [a0, a1, a2, a3, a4] ∧ k a0 a1 a2 a3 a4 = some r := by
  unfold getA5 at h; split at h
  · exact ⟨_, _, _, _, _, rfl, h⟩
  · cases h
def m93_L0 (N : Nat) (n66 : Nat) (c67 : List PV) : Nat → Int → PV → PV → Option ((PV ⊕ Unit))
  | 0, _, _, _ => none
  | n + 1, x88, p89, p90 =>
    brn (decide (x88 < ((n66 : Nat) : Int))) (
      grd (0 ≤ x88 ∧ x88 < ((n66 : Nat) : Int)) <|
      grd (2 ≤ List.length (List.drop ((Int.toNat x88) * 2) c67)) <|
      getA2 (.agg (List.take 2 (List.drop ((Int.toNat x88) * 2) c67))) fun p96 p97 =>
      getI .i64 p90 fun x99 =>
      getI .i64 p97 fun x101 =>
      getI .i64 p89 fun x103 =>
      getI .i64 p96 fun x105 =>
      brn ((x103 == x105) && (x99 == x101)) (
        some (.inl (.int .i64 x88))) (
        m93_L0 N n66 c67 n (IntKind.i64.wrap (x88 + 1)) (.int .i64 x103) (.int .i64 x99))) (
      some (.inr ()))
def m93 (N : Nat) (p63 : PV) (p64 : PV) : Option (PV) :=
  getL p63 fun n66 c67 =>
  getA2 p64 fun p69 p70 =>
  bnd' (m93_L0 N n66 c67 N 0 p69 p70) fun o =>
  match o with
  | .inl p107 =>
    some p107
  | .inr () =>
    some (.int .i64 (-1))
theorem c93 (N : Nat) (p63 : PV) (p64 : PV) (r : PV)  (h : m93 N p63 p64 = some r) : FnP Tryd.prog 93 [p63, p64] r := by
  unfold m93 at h
  refine Fn_of (sz := 19) tab_ok [0, 1, 3, 4, 5, 7, 8, 9, 16] [.tmp 4] Tryd.func93 rfl rfl rfl (by simp) ?_
  simp only [initSt, initEnv, List.map_cons, List.map_nil, List.getD_cons_zero, List.getD_cons_succ, List.getD_nil]
  have hh := getL_some h; clear h; obtain ⟨n66, c67, h65, h⟩ := hh
  have hh := getA2_some h; clear h; obtain ⟨p69, p70, h68, h⟩ := hh
  refine W_sound tab_ok mixed 12 _ _ _ ?_
  simp -implicitDefEqProofs only [go_sem, qa, qb, qc, qd, qe, qf, qg, qh, qi, qj, qk, ↓reduceIte, h65, h68]
  repeat with_reducible refine ⟨by first | kernel_rfl | decide, ?_⟩
  have hh := bnd'_some h; clear h; obtain ⟨o108, h109, h110⟩ := hh
  refine Wp_cut (fun s => (.inr ()) = o108 ∧ s = ⟨[], [(0, .dead), (1, .dead), (3, .dead), (4, .dead), (5, .dead), (7, .dead), (8, .dead), (9, .dead), (16, .dead)], [], 0, []⟩) ?_ ?_
  · refine Wp_block ?_
    refine Wp_loopG (fun n s => ∃ x88, ∃ p89, ∃ p90, m93_L0 N n66 c67 n x88 p89 p90 = some o108 ∧ s = ⟨[], [(0, .v (.lst false n66 c67)), (1, .dead), (3, .ptr 0 0), (4, .dead), (5, .dead), (7, .v (.int .i64 ((n66 : Nat) : Int))), (8, .v (.int .i64 x88)), (9, .dead), (16, .dead)], [(0, .p [p89, p90])], 1, []⟩) N _ ((Wk_le (.r (.k (.r (.k (.r (.r (.r (.r (.r .nil))))))))) (OLe.refl _)).trans (cmpS_ok rfl)) ⟨_, _, _, h109, rfl⟩ ?_
    clear h109
    rintro n _ ⟨x88, p89, p90, h109, rfl⟩
    cases n with
    | zero => cases h109
    | succ n =>
      rw [m93_L0] at h109
      have hh := brn_some h109; clear h109; rcases hh with ⟨h91, h109⟩ | ⟨h91, h109⟩
      · have hh := grd_some h109; clear h109; obtain ⟨⟨g92, g93⟩, h109⟩ := hh
        have hh := grd_some h109; clear h109; obtain ⟨g94, h109⟩ := hh
        have hh := getA2_some h109; clear h109; obtain ⟨p96, p97, h95, h109⟩ := hh
        injection h95 with h95
        have hh := getI_some h109; clear h109; obtain ⟨x99, h98, h109⟩ := hh
        have hh := getI_some h109; clear h109; obtain ⟨x101, h100, h109⟩ := hh
        have hh := getI_some h109; clear h109; obtain ⟨x103, h102, h109⟩ := hh
        have hh := getI_some h109; clear h109; obtain ⟨x105, h104, h109⟩ := hh
        have hh := brn_some h109; clear h109; rcases hh with ⟨h106, h109⟩ | ⟨h106, h109⟩
        · refine W_sound tab_ok mixed 31 _ _ _ ?_
          simp -implicitDefEqProofs only [go_sem, qa, qb, qc, qd, qe, qf, qg, qh, qi, qj, qk, ↓reduceIte, h65, h68, h91, g92, g93, g94, h95, h98, h100, h102, h104, h106]
          repeat with_reducible refine ⟨by first | kernel_rfl | decide, ?_⟩
          obtain rfl := Option.some.inj h109
          (try dsimp only at h110)
          obtain rfl := Option.some.inj h110
          exact finC [(4, .v (.int .i64 x88))] [(4, .v (.int .i64 x88))] (by simp [leE, lk_cons]) (.cons _ _ _ _ _ (.v _ _ (.refl _)) .nil) (by rfl) (by simp [leE, lk_cons]) (by decide) (by decide) rfl (by simp only [go_sem, qa, qb, qc, qd, qe, qf, qg, qh, qi, qj, qk, ↓reduceIte, resQ_tmp, resQ_cell, resQ_nil, retD_one, retD_two, retD_three, retD_none]; try simp [R.val, retD_one, retD_two, retD_three, retD_none])
        · refine W_sound tab_ok mixed 30 _ _ _ ?_
          simp -implicitDefEqProofs only [go_sem, qa, qb, qc, qd, qe, qf, qg, qh, qi, qj, qk, ↓reduceIte, h65, h68, h91, g92, g93, g94, h95, h98, h100, h102, h104, h106]
          repeat with_reducible refine ⟨by first | kernel_rfl | decide, ?_⟩
          exact cutQ _ ((Wk_le (.r (.r (.r (.r (.k (.r (.r (.k (.k .nil))))))))) (OLe.refl _)).trans (cmpS_ok rfl)) ⟨n, Nat.lt_succ_self n, _, _, _, h109, rfl⟩
      · refine W_sound tab_ok mixed 7 _ _ _ ?_
        simp -implicitDefEqProofs only [go_sem, qa, qb, qc, qd, qe, qf, qg, qh, qi, qj, qk, ↓reduceIte, h65, h68, h91]
        repeat with_reducible refine ⟨by first | kernel_rfl | decide, ?_⟩
        obtain rfl := Option.some.inj h109
        exact cutQ _ ((Wk_le (.k (.r (.k (.r (.r (.k (.k (.k (.r .nil))))))))) (OLe.refl _)).trans (cmpS_ok rfl)) ⟨rfl, rfl⟩
  · rintro _ ⟨rfl, rfl⟩
    (try dsimp only at h110)
    refine W_sound tab_ok mixed 6 _ _ _ ?_
    simp -implicitDefEqProofs only [go_sem, qa, qb, qc, qd, qe, qf, qg, qh, qi, qj, qk, ↓reduceIte, h65, h68]
    repeat with_reducible refine ⟨by first | kernel_rfl | decide, ?_⟩
    obtain rfl := Option.some.inj h110
    exact finC [(4, .v (.int .i64 (-1)))] [(4, .v (.int .i64 (-1)))] (by simp [leE, lk_cons]) (.cons _ _ _ _ _ (.v _ _ (.refl _)) .nil) (by rfl) (by simp [leE, lk_cons]) (by decide) (by decide) rfl (by simp only [go_sem, qa, qb, qc, qd, qe, qf, qg, qh, qi, qj, qk, ↓reduceIte, resQ_tmp, resQ_cell, resQ_nil, retD_one, retD_two, retD_three, retD_none]; try simp [R.val, retD_one, retD_two, retD_three, retD_none])
def m51 (N : Nat) (p55 : PV) (p56 : PV) : Option (PV) :=
  getL p55 fun n58 c59 =>
  getA2 p56 fun p61 p62 =>
  bnd' (m93 N (.lst false n58 c59) (.agg [p61, p62])) fun p111 =>
  getI .i64 p111 fun x114 =>
  some (.bool (decide (x114 ≥ 0)))
theorem c51 (N : Nat) (p55 : PV) (p56 : PV) (r : PV)  (h : m51 N p55 p56 = some r) : FnP Tryd.prog 51 [p55, p56] r := by
  unfold m51 at h
  refine Fn_of (sz := 9) tab_ok [0, 1, 3, 4] [.tmp 4] Tryd.func51 rfl rfl rfl (by simp) ?_
  simp only [initSt, initEnv, List.map_cons, List.map_nil, List.getD_cons_zero, List.getD_cons_succ, List.getD_nil]
  have hh := getL_some h; clear h; obtain ⟨n58, c59, h57, h⟩ := hh
  have hh := getA2_some h; clear h; obtain ⟨p61, p62, h60, h⟩ := hh
  have hh := bnd'_some h; clear h; obtain ⟨p111, h112, h⟩ := hh
  refine W_sound tab_ok mixed 9 _ _ _ ?_
  simp -implicitDefEqProofs only [go_sem, qa, qb, qc, qd, qe, qf, qg, qh, qi, qj, qk, ↓reduceIte, h57, h60]
  repeat with_reducible refine ⟨by first | kernel_rfl | decide, ?_⟩
  refine Wp_callP (c93 N _ _ _ h112) (by kernel_rfl) rfl rfl rfl rfl (by decide) ?_
  have hh := getI_some h; clear h; obtain ⟨x114, h113, h⟩ := hh
  refine W_sound tab_ok mixed 5 _ _ _ ?_
  simp -implicitDefEqProofs only [go_sem, qa, qb, qc, qd, qe, qf, qg, qh, qi, qj, qk, ↓reduceIte, h57, h60, h113]
  repeat with_reducible refine ⟨by first | kernel_rfl | decide, ?_⟩
  obtain rfl := Option.some.inj h
  exact finC [(4, .v (.bool (decide (x114 ≥ 0))))] [(4, .v (.bool (decide (x114 ≥ 0))))] (by simp [leE, lk_cons]) (.cons _ _ _ _ _ (.v _ _ (.refl _)) .nil) (by rfl) (by simp [leE, lk_cons]) (by decide) (by decide) rfl (by simp only [go_sem, qa, qb, qc, qd, qe, qf, qg, qh, qi, qj, qk, ↓reduceIte, resQ_tmp, resQ_cell, resQ_nil, retD_one, retD_two, retD_three, retD_none]; try simp [R.val, retD_one, retD_two, retD_three, retD_none])
def m22_L1 (N : Nat) (x22 : Int) (n26 : Nat) (c27 : List PV) (x29 : Int) (n35 : Nat) (c36 : List PV) : Nat → Int → Option ((PV ⊕ Unit))
  | 0, _ => none
  | n + 1, x38 =>
    brn (decide (x38 < ((n35 : Nat) : Int))) (
      grd (0 ≤ x38 ∧ x38 < ((n35 : Nat) : Int)) <|
      grd (2 ≤ List.length (List.drop ((Int.toNat x38) * 2) c36)) <|
      getA2 (.agg (List.take 2 (List.drop ((Int.toNat x38) * 2) c36))) fun p44 p45 =>
      getI .i64 p44 fun x47 =>
      getI .i64 p45 fun x49 =>
      brn (decide ((minI x47 x49) < 0)) (
        some (.inl (.int .i64 2))) (
        brn (decide ((maxI x47 x49) ≥ x22)) (
          some (.inl (.int .i64 2))) (
          brn (decide (x47 ≥ x49)) (
            some (.inl (.int .i64 7))) (
            grd (x38 ≤ ((n35 : Nat) : Int)) <|
            grd (List.length c36 = (n35 * 2)) <|
            bnd' (m51 N (.lst false (Int.toNat x38) (List.take ((Int.toNat x38) * 2) c36)) (.agg [(.int .i64 x47), (.int .i64 x49)])) fun p115 =>
            getB p115 fun b118 =>
            brn b118 (
              some (.inl (.int .i64 6))) (
              m22_L1 N x22 n26 c27 x29 n35 c36 n (IntKind.i64.wrap (x38 + 1))))))) (
      some (.inr ()))
def m22_L0 (N : Nat) (x22 : Int) (n26 : Nat) (c27 : List PV) : Nat → Int → Option ((PV ⊕ Unit))
  | 0, _ => none
  | n + 1, x29 =>
    brn (decide (x29 < ((n26 : Nat) : Int))) (
      grd (0 ≤ x29 ∧ x29 < ((n26 : Nat) : Int)) <|
      grd (0 < List.length (List.drop (Int.toNat x29) c27)) <|
      getL (gp c27 (Int.toNat x29)) fun n35 c36 =>
      brn (decide (((n35 : Nat) : Int) > 6)) (
        some (.inl (.int .i64 3))) (
        bnd' (m22_L1 N x22 n26 c27 x29 n35 c36 N 0) fun o =>
        match o with
        | .inl p120 =>
          some (.inl p120)
        | .inr () =>
          m22_L0 N x22 n26 c27 n (IntKind.i64.wrap (x29 + 1)))) (
      some (.inr ()))
def m22 (N : Nat) (p17 : PV) : Option (PV) :=
  getA2 p17 fun p19 p20 =>
  getI .i64 p19 fun x22 =>
  brn (decide (x22 < 1)) (
    some (.int .i64 1)) (
    brn (decide (x22 > 5)) (
      some (.int .i64 1)) (
      getL p20 fun n26 c27 =>
      brn (decide (((n26 : Nat) : Int) > 5)) (
        some (.int .i64 3)) (
        bnd' (m22_L0 N x22 n26 c27 N 0) fun o =>
        match o with
        | .inl p121 =>
          some p121
        | .inr () =>
          some (.int .i64 0))))
theorem c22 (N : Nat) (p17 : PV) (r : PV)  (h : m22 N p17 = some r) : FnP Tryd.prog 22 [p17] r := by
  unfold m22 at h
  refine Fn_of (sz := 69) tab_ok [0, 1, 2, 4, 5, 6, 7, 16, 22, 23, 24, 25, 30, 31, 32, 33, 34, 38, 55, 61] [.tmp 2] Tryd.func22 rfl rfl rfl (by simp) ?_
  simp only [initSt, initEnv, List.map_cons, List.map_nil, List.getD_cons_zero, List.getD_cons_succ, List.getD_nil]
  have hh := getA2_some h; clear h; obtain ⟨p19, p20, h18, h⟩ := hh
  have hh := getI_some h; clear h; obtain ⟨x22, h21, h⟩ := hh
  have hh := brn_some h; clear h; rcases hh with ⟨h23, h⟩ | ⟨h23, h⟩
  · refine W_sound tab_ok mixed 26 _ _ _ ?_
    simp -implicitDefEqProofs only [go_sem, qa, qb, qc, qd, qe, qf, qg, qh, qi, qj, qk, ↓reduceIte, h18, h21, h23]
    repeat with_reducible refine ⟨by first | kernel_rfl | decide, ?_⟩
    obtain rfl := Option.some.inj h
    exact finC [(2, .v (.int .i64 1))] [(2, .v (.int .i64 1))] (by simp [leE, lk_cons]) (.cons _ _ _ _ _ (.v _ _ (.refl _)) .nil) (by rfl) (by simp [leE, lk_cons]) (by decide) (by decide) rfl (by simp only [go_sem, qa, qb, qc, qd, qe, qf, qg, qh, qi, qj, qk, ↓reduceIte, resQ_tmp, resQ_cell, resQ_nil, retD_one, retD_two, retD_three, retD_none]; try simp [R.val, retD_one, retD_two, retD_three, retD_none])
  · have hh := brn_some h; clear h; rcases hh with ⟨h24, h⟩ | ⟨h24, h⟩
    · refine W_sound tab_ok mixed 26 _ _ _ ?_
      simp -implicitDefEqProofs only [go_sem, qa, qb, qc, qd, qe, qf, qg, qh, qi, qj, qk, ↓reduceIte, h18, h21, h23, h24]
      repeat with_reducible refine ⟨by first | kernel_rfl | decide, ?_⟩
      obtain rfl := Option.some.inj h
      exact finC [(2, .v (.int .i64 1))] [(2, .v (.int .i64 1))] (by simp [leE, lk_cons]) (.cons _ _ _ _ _ (.v _ _ (.refl _)) .nil) (by rfl) (by simp [leE, lk_cons]) (by decide) (by decide) rfl (by simp only [go_sem, qa, qb, qc, qd, qe, qf, qg, qh, qi, qj, qk, ↓reduceIte, resQ_tmp, resQ_cell, resQ_nil, retD_one, retD_two, retD_three, retD_none]; try simp [R.val, retD_one, retD_two, retD_three, retD_none])
    · have hh := getL_some h; clear h; obtain ⟨n26, c27, h25, h⟩ := hh
      have hh := brn_some h; clear h; rcases hh with ⟨h28, h⟩ | ⟨h28, h⟩
      · refine W_sound tab_ok mixed 35 _ _ _ ?_
        simp -implicitDefEqProofs only [go_sem, qa, qb, qc, qd, qe, qf, qg, qh, qi, qj, qk, ↓reduceIte, h18, h21, h23, h24, h25, h28]
        repeat with_reducible refine ⟨by first | kernel_rfl | decide, ?_⟩
        obtain rfl := Option.some.inj h
        exact finC [(2, .v (.int .i64 3))] [(2, .v (.int .i64 3))] (by simp [leE, lk_cons]) (.cons _ _ _ _ _ (.v _ _ (.refl _)) .nil) (by rfl) (by simp [leE, lk_cons]) (by decide) (by decide) rfl (by simp only [go_sem, qa, qb, qc, qd, qe, qf, qg, qh, qi, qj, qk, ↓reduceIte, resQ_tmp, resQ_cell, resQ_nil, retD_one, retD_two, retD_three, retD_none]; try simp [R.val, retD_one, retD_two, retD_three, retD_none])
      · refine W_sound tab_ok mixed 39 _ _ _ ?_
        simp -implicitDefEqProofs only [go_sem, qa, qb, qc, qd, qe, qf, qg, qh, qi, qj, qk, ↓reduceIte, h18, h21, h23, h24, h25, h28]
        repeat with_reducible refine ⟨by first | kernel_rfl | decide, ?_⟩
        have hh := bnd'_some h; clear h; obtain ⟨o122, h123, h124⟩ := hh
        refine Wp_cut (fun s => (.inr ()) = o122 ∧ s = ⟨[], [(0, .dead), (1, .dead), (2, .dead), (4, .dead), (5, .dead), (6, .dead), (7, .dead), (16, .dead), (22, .dead), (23, .dead), (24, .dead), (25, .dead), (30, .dead), (31, .dead), (32, .dead), (33, .dead), (34, .dead), (38, .dead), (55, .dead), (61, .dead)], [], 0, []⟩) ?_ ?_
        · refine Wp_block ?_
          refine Wp_loopG (fun n s => ∃ x29, m22_L0 N x22 n26 c27 n x29 = some o122 ∧ s = ⟨[], [(0, .dead), (1, .ptr 0 0), (2, .dead), (4, .dead), (5, .dead), (6, .dead), (7, .dead), (16, .dead), (22, .v (.lst false n26 c27)), (23, .v (.int .i64 ((n26 : Nat) : Int))), (24, .v (.int .i64 x29)), (25, .dead), (30, .dead), (31, .dead), (32, .dead), (33, .dead), (34, .dead), (38, .dead), (55, .dead), (61, .dead)], [(0, .p [(.int .i64 x22), (.lst false n26 c27)])], 1, []⟩) N _ ((Wk_le (.k (.r (.k (.r (.r (.r (.k (.k (.r (.r (.r (.r (.r (.r (.r (.r (.r (.r (.r (.r .nil)))))))))))))))))))) (OLe.refl _)).trans (cmpS_ok (st' := ⟨[], [(0, .dead), (1, .ptr 0 0), (2, .dead), (4, .dead), (5, .dead), (6, .dead), (7, .dead), (16, .dead), (22, .v (.lst false n26 c27)), (23, .v (.int .i64 ((n26 : Nat) : Int))), (24, .v (.int .i64 0)), (25, .dead), (30, .dead), (31, .dead), (32, .dead), (33, .dead), (34, .dead), (38, .dead), (55, .dead), (61, .dead)], [(0, .p [(.int .i64 x22), (.lst false n26 c27)])], 1, []⟩) (by kernel_rfl))) ⟨_, h123, rfl⟩ ?_
          clear h123
          rintro n _ ⟨x29, h123, rfl⟩
          cases n with
          | zero => cases h123
          | succ n =>
            rw [m22_L0] at h123
            have hh := brn_some h123; clear h123; rcases hh with ⟨h30, h123⟩ | ⟨h30, h123⟩
            · have hh := grd_some h123; clear h123; obtain ⟨⟨g31, g32⟩, h123⟩ := hh
              have hh := grd_some h123; clear h123; obtain ⟨g33, h123⟩ := hh
              have hh := getL_some h123; clear h123; obtain ⟨n35, c36, h34, h123⟩ := hh
              have hh := brn_some h123; clear h123; rcases hh with ⟨h37, h123⟩ | ⟨h37, h123⟩
              · refine W_sound tab_ok mixed 29 _ _ _ ?_
                simp -implicitDefEqProofs only [go_sem, qa, qb, qc, qd, qe, qf, qg, qh, qi, qj, qk, ↓reduceIte, h18, h21, h23, h24, h25, h28, h30, g31, g32, g33, h34, h37]
                repeat with_reducible refine ⟨by first | kernel_rfl | decide, ?_⟩
                obtain rfl := Option.some.inj h123
                (try dsimp only at h124)
                obtain rfl := Option.some.inj h124
                exact finC [(2, .v (.int .i64 3))] [(2, .v (.int .i64 3))] (by simp [leE, lk_cons]) (.cons _ _ _ _ _ (.v _ _ (.refl _)) .nil) (by rfl) (by simp [leE, lk_cons]) (by decide) (by decide) rfl (by simp only [go_sem, qa, qb, qc, qd, qe, qf, qg, qh, qi, qj, qk, ↓reduceIte, resQ_tmp, resQ_cell, resQ_nil, retD_one, retD_two, retD_three, retD_none]; try simp [R.val, retD_one, retD_two, retD_three, retD_none])
              · refine W_sound tab_ok mixed 30 _ _ _ ?_
                simp -implicitDefEqProofs only [go_sem, qa, qb, qc, qd, qe, qf, qg, qh, qi, qj, qk, ↓reduceIte, h18, h21, h23, h24, h25, h28, h30, g31, g32, g33, h34, h37]
                repeat with_reducible refine ⟨by first | kernel_rfl | decide, ?_⟩
                have hh := bnd'_some h123; clear h123; obtain ⟨o125, h126, h127⟩ := hh
                refine Wp_cut (fun s => (.inr ()) = o125 ∧ s = ⟨[], [(0, .dead), (1, .ptr 0 0), (2, .dead), (4, .dead), (5, .dead), (6, .dead), (7, .dead), (16, .dead), (22, .v (.lst false n26 c27)), (23, .v (.int .i64 ((n26 : Nat) : Int))), (24, .v (.int .i64 x29)), (25, .dead), (30, .dead), (31, .dead), (32, .dead), (33, .dead), (34, .dead), (38, .dead), (55, .dead), (61, .dead)], [(0, .p [(.int .i64 x22), (.lst false n26 c27)])], 1, []⟩) ?_ ?_
                · refine Wp_block ?_
                  refine Wp_loopG (fun n s => ∃ x38, m22_L1 N x22 n26 c27 x29 n35 c36 n x38 = some o125 ∧ s = ⟨[], [(0, .dead), (1, .ptr 0 0), (2, .dead), (4, .v (.lst false n35 c36)), (5, .dead), (6, .dead), (7, .dead), (16, .dead), (22, .v (.lst false n26 c27)), (23, .v (.int .i64 ((n26 : Nat) : Int))), (24, .v (.int .i64 x29)), (25, .dead), (30, .dead), (31, .v (.lst false n35 c36)), (32, .v (.int .i64 ((n35 : Nat) : Int))), (33, .v (.int .i64 x38)), (34, .dead), (38, .dead), (55, .dead), (61, .dead)], [(0, .p [(.int .i64 x22), (.lst false n26 c27)])], 1, []⟩) N _ ((Wk_le (.r (.r (.r (.r (.r (.r (.r (.r (.r (.r (.r (.k (.k (.r (.r (.r (.r (.r (.r (.r .nil)))))))))))))))))))) (OLe.refl _)).trans (cmpS_ok (st' := ⟨[], [(0, .dead), (1, .ptr 0 0), (2, .dead), (4, .v (.lst false n35 c36)), (5, .dead), (6, .dead), (7, .dead), (16, .dead), (22, .v (.lst false n26 c27)), (23, .v (.int .i64 ((n26 : Nat) : Int))), (24, .v (.int .i64 x29)), (25, .dead), (30, .dead), (31, .v (.lst false n35 c36)), (32, .v (.int .i64 ((n35 : Nat) : Int))), (33, .v (.int .i64 0)), (34, .dead), (38, .dead), (55, .dead), (61, .dead)], [(0, .p [(.int .i64 x22), (.lst false n26 c27)])], 1, []⟩) (by kernel_rfl))) ⟨_, h126, rfl⟩ ?_
                  clear h126
                  rintro n _ ⟨x38, h126, rfl⟩
                  cases n with
                  | zero => cases h126
                  | succ n =>
                    rw [m22_L1] at h126
                    have hh := brn_some h126; clear h126; rcases hh with ⟨h39, h126⟩ | ⟨h39, h126⟩
                    · have hh := grd_some h126; clear h126; obtain ⟨⟨g40, g41⟩, h126⟩ := hh
                      have hh := grd_some h126; clear h126; obtain ⟨g42, h126⟩ := hh
                      have hh := getA2_some h126; clear h126; obtain ⟨p44, p45, h43, h126⟩ := hh
                      injection h43 with h43
                      have hh := getI_some h126; clear h126; obtain ⟨x47, h46, h126⟩ := hh
                      have hh := getI_some h126; clear h126; obtain ⟨x49, h48, h126⟩ := hh
                      have hh := brn_some h126; clear h126; rcases hh with ⟨h50, h126⟩ | ⟨h50, h126⟩
                      · refine W_sound tab_ok mixed 46 _ _ _ ?_
                        simp -implicitDefEqProofs only [go_sem, qa, qb, qc, qd, qe, qf, qg, qh, qi, qj, qk, ↓reduceIte, h18, h21, h23, h24, h25, h28, h30, g31, g32, g33, h34, h37, h39, g40, g41, g42, h43, h46, h48, h50]
                        repeat with_reducible refine ⟨by first | kernel_rfl | decide, ?_⟩
                        obtain rfl := Option.some.inj h126
                        (try dsimp only at h127)
                        obtain rfl := Option.some.inj h127
                        (try dsimp only at h124)
                        obtain rfl := Option.some.inj h124
                        exact finC [(2, .v (.int .i64 2))] [(2, .v (.int .i64 2))] (by simp [leE, lk_cons]) (.cons _ _ _ _ _ (.v _ _ (.refl _)) .nil) (by rfl) (by simp [leE, lk_cons]) (by decide) (by decide) rfl (by simp only [go_sem, qa, qb, qc, qd, qe, qf, qg, qh, qi, qj, qk, ↓reduceIte, resQ_tmp, resQ_cell, resQ_nil, retD_one, retD_two, retD_three, retD_none]; try simp [R.val, retD_one, retD_two, retD_three, retD_none])
                      · have hh := brn_some h126; clear h126; rcases hh with ⟨h51, h126⟩ | ⟨h51, h126⟩
                        · refine W_sound tab_ok mixed 46 _ _ _ ?_
                          simp -implicitDefEqProofs only [go_sem, qa, qb, qc, qd, qe, qf, qg, qh, qi, qj, qk, ↓reduceIte, h18, h21, h23, h24, h25, h28, h30, g31, g32, g33, h34, h37, h39, g40, g41, g42, h43, h46, h48, h50, h51]
                          repeat with_reducible refine ⟨by first | kernel_rfl | decide, ?_⟩
                          obtain rfl := Option.some.inj h126
                          (try dsimp only at h127)
                          obtain rfl := Option.some.inj h127
                          (try dsimp only at h124)
                          obtain rfl := Option.some.inj h124
                          exact finC [(2, .v (.int .i64 2))] [(2, .v (.int .i64 2))] (by simp [leE, lk_cons]) (.cons _ _ _ _ _ (.v _ _ (.refl _)) .nil) (by rfl) (by simp [leE, lk_cons]) (by decide) (by decide) rfl (by simp only [go_sem, qa, qb, qc, qd, qe, qf, qg, qh, qi, qj, qk, ↓reduceIte, resQ_tmp, resQ_cell, resQ_nil, retD_one, retD_two, retD_three, retD_none]; try simp [R.val, retD_one, retD_two, retD_three, retD_none])
                        · have hh := brn_some h126; clear h126; rcases hh with ⟨h52, h126⟩ | ⟨h52, h126⟩
                          · refine W_sound tab_ok mixed 56 _ _ _ ?_
                            simp -implicitDefEqProofs only [go_sem, qa, qb, qc, qd, qe, qf, qg, qh, qi, qj, qk, ↓reduceIte, h18, h21, h23, h24, h25, h28, h30, g31, g32, g33, h34, h37, h39, g40, g41, g42, h43, h46, h48, h50, h51, h52]
                            repeat with_reducible refine ⟨by first | kernel_rfl | decide, ?_⟩
                            obtain rfl := Option.some.inj h126
                            (try dsimp only at h127)
                            obtain rfl := Option.some.inj h127
                            (try dsimp only at h124)
                            obtain rfl := Option.some.inj h124
                            exact finC [(2, .v (.int .i64 7))] [(2, .v (.int .i64 7))] (by simp [leE, lk_cons]) (.cons _ _ _ _ _ (.v _ _ (.refl _)) .nil) (by rfl) (by simp [leE, lk_cons]) (by decide) (by decide) rfl (by simp only [go_sem, qa, qb, qc, qd, qe, qf, qg, qh, qi, qj, qk, ↓reduceIte, resQ_tmp, resQ_cell, resQ_nil, retD_one, retD_two, retD_three, retD_none]; try simp [R.val, retD_one, retD_two, retD_three, retD_none])
                          · have hh := grd_some h126; clear h126; obtain ⟨g53, h126⟩ := hh
                            have hh := grd_some h126; clear h126; obtain ⟨g54, h126⟩ := hh
                            have hh := bnd'_some h126; clear h126; obtain ⟨p115, h116, h126⟩ := hh
                            refine W_sound tab_ok mixed 56 _ _ _ ?_
                            simp -implicitDefEqProofs only [go_sem, qa, qb, qc, qd, qe, qf, qg, qh, qi, qj, qk, ↓reduceIte, h18, h21, h23, h24, h25, h28, h30, g31, g32, g33, h34, h37, h39, g40, g41, g42, h43, h46, h48, h50, h51, h52, g53, g54]
                            repeat with_reducible refine ⟨by first | kernel_rfl | decide, ?_⟩
                            refine Wp_callP (c51 N _ _ _ h116) (by kernel_rfl) rfl rfl rfl rfl (by decide) ?_
                            have hh := getB_some h126; clear h126; obtain ⟨b118, h117, h126⟩ := hh
                            have hh := brn_some h126; clear h126; rcases hh with ⟨h119, h126⟩ | ⟨h119, h126⟩
                            · refine W_sound tab_ok mixed 9 _ _ _ ?_
                              simp -implicitDefEqProofs only [go_sem, qa, qb, qc, qd, qe, qf, qg, qh, qi, qj, qk, ↓reduceIte, h18, h21, h23, h24, h25, h28, h30, g31, g32, g33, h34, h37, h39, g40, g41, g42, h43, h46, h48, h50, h51, h52, g53, g54, h117, h119]
                              repeat with_reducible refine ⟨by first | kernel_rfl | decide, ?_⟩
                              obtain rfl := Option.some.inj h126
                              (try dsimp only at h127)
                              obtain rfl := Option.some.inj h127
                              (try dsimp only at h124)
                              obtain rfl := Option.some.inj h124
                              exact finC [(2, .v (.int .i64 6))] [(2, .v (.int .i64 6))] (by simp [leE, lk_cons]) (.cons _ _ _ _ _ (.v _ _ (.refl _)) .nil) (by rfl) (by simp [leE, lk_cons]) (by decide) (by decide) rfl (by simp only [go_sem, qa, qb, qc, qd, qe, qf, qg, qh, qi, qj, qk, ↓reduceIte, resQ_tmp, resQ_cell, resQ_nil, retD_one, retD_two, retD_three, retD_none]; try simp [R.val, retD_one, retD_two, retD_three, retD_none])
                            · refine W_sound tab_ok mixed 10 _ _ _ ?_
                              simp -implicitDefEqProofs only [go_sem, qa, qb, qc, qd, qe, qf, qg, qh, qi, qj, qk, ↓reduceIte, h18, h21, h23, h24, h25, h28, h30, g31, g32, g33, h34, h37, h39, g40, g41, g42, h43, h46, h48, h50, h51, h52, g53, g54, h117, h119]
                              repeat with_reducible refine ⟨by first | kernel_rfl | decide, ?_⟩
                              exact cutQ _ ((Wk_le (.r (.r (.r (.r (.k (.k (.r (.r (.r (.r (.r (.r (.r (.r (.r (.r (.k (.k (.k (.k .nil)))))))))))))))))))) (OLe.refl _)).trans (cmpS_ok (st' := ⟨[], [(0, .dead), (1, .ptr 0 0), (2, .dead), (4, .v (.lst false n35 c36)), (5, .dead), (6, .dead), (7, .dead), (16, .dead), (22, .v (.lst false n26 c27)), (23, .v (.int .i64 ((n26 : Nat) : Int))), (24, .v (.int .i64 x29)), (25, .dead), (30, .dead), (31, .v (.lst false n35 c36)), (32, .v (.int .i64 ((n35 : Nat) : Int))), (33, .v (.int .i64 (IntKind.i64.wrap (x38 + 1)))), (34, .dead), (38, .dead), (55, .dead), (61, .dead)], [(0, .p [(.int .i64 x22), (.lst false n26 c27)])], 1, []⟩) (by kernel_rfl))) ⟨n, Nat.lt_succ_self n, _, h126, rfl⟩
                    · refine W_sound tab_ok mixed 7 _ _ _ ?_
                      simp -implicitDefEqProofs only [go_sem, qa, qb, qc, qd, qe, qf, qg, qh, qi, qj, qk, ↓reduceIte, h18, h21, h23, h24, h25, h28, h30, g31, g32, g33, h34, h37, h39]
                      repeat with_reducible refine ⟨by first | kernel_rfl | decide, ?_⟩
                      obtain rfl := Option.some.inj h126
                      exact cutQ _ ((Wk_le (.r (.r (.r (.k (.r (.r (.r (.r (.r (.r (.r (.r (.r (.k (.k (.k (.k (.r (.r (.r .nil)))))))))))))))))))) (OLe.refl _)).trans (cmpS_ok (st' := ⟨[], [(0, .dead), (1, .ptr 0 0), (2, .dead), (4, .dead), (5, .dead), (6, .dead), (7, .dead), (16, .dead), (22, .v (.lst false n26 c27)), (23, .v (.int .i64 ((n26 : Nat) : Int))), (24, .v (.int .i64 x29)), (25, .dead), (30, .dead), (31, .dead), (32, .dead), (33, .dead), (34, .dead), (38, .dead), (55, .dead), (61, .dead)], [(0, .p [(.int .i64 x22), (.lst false n26 c27)])], 1, []⟩) (by kernel_rfl))) ⟨rfl, rfl⟩
                · rintro _ ⟨rfl, rfl⟩
                  (try dsimp only at h127)
                  refine W_sound tab_ok mixed 5 _ _ _ ?_
                  simp -implicitDefEqProofs only [go_sem, qa, qb, qc, qd, qe, qf, qg, qh, qi, qj, qk, ↓reduceIte, h18, h21, h23, h24, h25, h28, h30, g31, g32, g33, h34, h37]
                  repeat with_reducible refine ⟨by first | kernel_rfl | decide, ?_⟩
                  exact cutQ _ ((Wk_le (.r (.r (.r (.r (.r (.r (.r (.r (.r (.r (.r (.r (.r (.r (.r (.r (.r (.r (.r (.r .nil)))))))))))))))))))) (OLe.refl _)).trans (cmpS_ok (st' := ⟨[], [(0, .dead), (1, .ptr 0 0), (2, .dead), (4, .dead), (5, .dead), (6, .dead), (7, .dead), (16, .dead), (22, .v (.lst false n26 c27)), (23, .v (.int .i64 ((n26 : Nat) : Int))), (24, .v (.int .i64 (IntKind.i64.wrap (x29 + 1)))), (25, .dead), (30, .dead), (31, .dead), (32, .dead), (33, .dead), (34, .dead), (38, .dead), (55, .dead), (61, .dead)], [(0, .p [(.int .i64 x22), (.lst false n26 c27)])], 1, []⟩) (by kernel_rfl))) ⟨n, Nat.lt_succ_self n, _, h127, rfl⟩
            · refine W_sound tab_ok mixed 7 _ _ _ ?_
              simp -implicitDefEqProofs only [go_sem, qa, qb, qc, qd, qe, qf, qg, qh, qi, qj, qk, ↓reduceIte, h18, h21, h23, h24, h25, h28, h30]
              repeat with_reducible refine ⟨by first | kernel_rfl | decide, ?_⟩
              obtain rfl := Option.some.inj h123
              exact cutQ _ ((Wk_le (.r (.k (.r (.r (.r (.r (.r (.r (.k (.k (.k (.k (.r (.r (.r (.r (.r (.r (.r (.r .nil)))))))))))))))))))) (OLe.refl _)).trans (cmpS_ok (st' := ⟨[], [(0, .dead), (1, .dead), (2, .dead), (4, .dead), (5, .dead), (6, .dead), (7, .dead), (16, .dead), (22, .dead), (23, .dead), (24, .dead), (25, .dead), (30, .dead), (31, .dead), (32, .dead), (33, .dead), (34, .dead), (38, .dead), (55, .dead), (61, .dead)], [], 0, []⟩) (by kernel_rfl))) ⟨rfl, rfl⟩
        · rintro _ ⟨rfl, rfl⟩
          (try dsimp only at h124)
          refine W_sound tab_ok mixed 6 _ _ _ ?_
          simp -implicitDefEqProofs only [go_sem, qa, qb, qc, qd, qe, qf, qg, qh, qi, qj, qk, ↓reduceIte, h18, h21, h23, h24, h25, h28]
          repeat with_reducible refine ⟨by first | kernel_rfl | decide, ?_⟩
          obtain rfl := Option.some.inj h124
          exact finC [(2, .v (.int .i64 0))] [(2, .v (.int .i64 0))] (by simp [leE, lk_cons]) (.cons _ _ _ _ _ (.v _ _ (.refl _)) .nil) (by rfl) (by simp [leE, lk_cons]) (by decide) (by decide) rfl (by simp only [go_sem, qa, qb, qc, qd, qe, qf, qg, qh, qi, qj, qk, ↓reduceIte, resQ_tmp, resQ_cell, resQ_nil, retD_one, retD_two, retD_three, retD_none]; try simp [R.val, retD_one, retD_two, retD_three, retD_none])
def m97_L0 (N : Nat)  : Nat → Int → List PV → Option (List PV)
  | 0, _, _ => none
  | n + 1, x249, c250 =>
    brn (decide (x249 < 5)) (
      grd (0 ≤ x249 ∧ x249 < 5) <|
      grd (((Int.toNat x249) + 1) ≤ List.length c250) <|
      m97_L0 N  n (IntKind.i64.wrap (x249 + 1)) (List.set c250 (Int.toNat x249) (.int .i64 x249))) (
      some c250)
def m97 (N : Nat)  : Option (PV) :=
  bnd' (m97_L0 N  N 0 [(.int .i64 0), (.int .i64 0), (.int .i64 0), (.int .i64 0), (.int .i64 0)]) fun c255 =>
  grd (5 ≤ List.length c255) <|
  getA5 (.agg (List.take 5 c255)) fun p258 p259 p260 p261 p262 =>
  some (.agg [p258, p259, p260, p261, p262])
theorem c97 (N : Nat)  (r : PV)  (h : m97 N  = some r) : FnP Tryd.prog 97 [] r := by
  unfold m97 at h
  refine Fn_of (sz := 11) tab_ok [0, 1, 2, 3, 4] [.cell 0 98] Tryd.func97 rfl rfl rfl (by simp) ?_
  simp only [initSt, initEnv, List.map_cons, List.map_nil, List.getD_cons_zero, List.getD_cons_succ, List.getD_nil]
  refine W_sound tab_ok mixed 13 _ _ _ ?_
  simp -implicitDefEqProofs only [go_sem, qa, qb, qc, qd, qe, qf, qg, qh, qi, qj, qk, ↓reduceIte]
  repeat with_reducible refine ⟨by first | kernel_rfl | decide, ?_⟩
  have hh := bnd'_some h; clear h; obtain ⟨o263, h264, h265⟩ := hh
  refine Wp_cut (fun s => ∃ c255, c255 = o263 ∧ s = ⟨[], [(0, .ptr 0 0), (1, .ptr 1 0), (2, .dead), (3, .dead), (4, .dead)], [(0, .p [(.int .i64 0), (.int .i64 0), (.int .i64 0), (.int .i64 0), (.int .i64 0)]), (1, .p c255)], 2, []⟩) ?_ ?_
  · refine Wp_block ?_
    refine Wp_loopG (fun n s => ∃ x249, ∃ c250, m97_L0 N  n x249 c250 = some o263 ∧ s = ⟨[], [(0, .ptr 0 0), (1, .ptr 1 0), (2, .dead), (3, .v (.int .i64 x249)), (4, .dead)], [(0, .p [(.int .i64 0), (.int .i64 0), (.int .i64 0), (.int .i64 0), (.int .i64 0)]), (1, .p c250)], 2, []⟩) N _ ((Wk_le (.r (.r (.r (.r (.r .nil))))) (OLe.refl _)).trans (cmpS_ok rfl)) ⟨_, _, h264, rfl⟩ ?_
    clear h264
    rintro n _ ⟨x249, c250, h264, rfl⟩
    cases n with
    | zero => cases h264
    | succ n =>
      rw [m97_L0] at h264
      have hh := brn_some h264; clear h264; rcases hh with ⟨h251, h264⟩ | ⟨h251, h264⟩
      · have hh := grd_some h264; clear h264; obtain ⟨⟨g252, g253⟩, h264⟩ := hh
        have hh := grd_some h264; clear h264; obtain ⟨g254, h264⟩ := hh
        refine W_sound tab_ok mixed 25 _ _ _ ?_
        simp -implicitDefEqProofs only [go_sem, qa, qb, qc, qd, qe, qf, qg, qh, qi, qj, qk, ↓reduceIte, h251, g252, g253, g254]
        repeat with_reducible refine ⟨by first | kernel_rfl | decide, ?_⟩
        exact cutQ _ ((Wk_le (.r (.r (.k (.r (.k .nil))))) (OLe.refl _)).trans (cmpS_ok rfl)) ⟨n, Nat.lt_succ_self n, _, _, h264, rfl⟩
      · refine W_sound tab_ok mixed 7 _ _ _ ?_
        simp -implicitDefEqProofs only [go_sem, qa, qb, qc, qd, qe, qf, qg, qh, qi, qj, qk, ↓reduceIte, h251]
        repeat with_reducible refine ⟨by first | kernel_rfl | decide, ?_⟩
        obtain rfl := Option.some.inj h264
        exact cutQ _ ((Wk_le (.r (.r (.r (.k (.k .nil))))) (OLe.refl _)).trans (cmpS_ok rfl)) ⟨_, rfl, rfl⟩
  · rintro _ ⟨c255, rfl, rfl⟩
    have hh := grd_some h265; clear h265; obtain ⟨g256, h265⟩ := hh
    have hh := getA5_some h265; clear h265; obtain ⟨p258, p259, p260, p261, p262, h257, h265⟩ := hh
    injection h257 with h257
    refine W_sound tab_ok mixed 7 _ _ _ ?_
    simp -implicitDefEqProofs only [go_sem, qa, qb, qc, qd, qe, qf, qg, qh, qi, qj, qk, ↓reduceIte, g256, h257]
    repeat with_reducible refine ⟨by first | kernel_rfl | decide, ?_⟩
    refine FinQ_wk (Wk_freeze 0 [p258, p259, p260, p261, p262] (by rfl) (by decide) (by decide)) ?_
    simp -implicitDefEqProofs only [go_sem, qa, qb, qc, qd, qe, qf, qg, qh, qi, qj, qk, ↓reduceIte, g256, h257]
    obtain rfl := Option.some.inj h265
    exact finC [(0, .v (.ipt [p258, p259, p260, p261, p262]))] [(0, .v (.ipt [p258, p259, p260, p261, p262]))] (by simp [leE, lk_cons]) (.cons _ _ _ _ _ (.v _ _ (.refl _)) .nil) (by rfl) (by simp [leE, lk_cons]) (by decide) (by decide) rfl (by simp only [go_sem, qa, qb, qc, qd, qe, qf, qg, qh, qi, qj, qk, ↓reduceIte, resQ_tmp, resQ_cell, resQ_nil, retD_one, retD_two, retD_three, retD_none]; try simp [R.val, retD_one, retD_two, retD_three, retD_none])
def m71 (N : Nat) (p283 : PV) (p284 : PV) : Option (PV) :=
  getA5 p283 fun p286 p287 p288 p289 p290 =>
  getA2 p284 fun p292 p293 =>
  getI .i64 p292 fun x295 =>
  grd (0 ≤ x295 ∧ x295 < 5) <|
  grd ((Int.toNat x295) < 5) <|
  getI .i64 (gp [p286, p287, p288, p289, p290] (Int.toNat x295)) fun x300 =>
  getI .i64 p293 fun x302 =>
  grd (0 ≤ x302 ∧ x302 < 5) <|
  grd ((Int.toNat x302) < 5) <|
  getI .i64 (gp [p286, p287, p288, p289, p290] (Int.toNat x302)) fun x307 =>
  some (.bool (x300 == x307))
theorem c71 (N : Nat) (p283 : PV) (p284 : PV) (r : PV)  (h : m71 N p283 p284 = some r) : FnP Tryd.prog 71 [p283, p284] r := by
  unfold m71 at h
  refine Fn_of (sz := 14) tab_ok [0, 1, 2, 3, 4] [.tmp 4] Tryd.func71 rfl rfl rfl (by simp) ?_
  simp only [initSt, initEnv, List.map_cons, List.map_nil, List.getD_cons_zero, List.getD_cons_succ, List.getD_nil]
  have hh := getA5_some h; clear h; obtain ⟨p286, p287, p288, p289, p290, h285, h⟩ := hh
  have hh := getA2_some h; clear h; obtain ⟨p292, p293, h291, h⟩ := hh
  have hh := getI_some h; clear h; obtain ⟨x295, h294, h⟩ := hh
  have hh := grd_some h; clear h; obtain ⟨⟨g296, g297⟩, h⟩ := hh
  have hh := grd_some h; clear h; obtain ⟨g298, h⟩ := hh
  have hh := getI_some h; clear h; obtain ⟨x300, h299, h⟩ := hh
  have hh := getI_some h; clear h; obtain ⟨x302, h301, h⟩ := hh
  have hh := grd_some h; clear h; obtain ⟨⟨g303, g304⟩, h⟩ := hh
  have hh := grd_some h; clear h; obtain ⟨g305, h⟩ := hh
  have hh := getI_some h; clear h; obtain ⟨x307, h306, h⟩ := hh
  refine W_sound tab_ok mixed 21 _ _ _ ?_
  simp -implicitDefEqProofs only [go_sem, qa, qb, qc, qd, qe, qf, qg, qh, qi, qj, qk, ↓reduceIte, h285, h291, h294, g296, g297, g298, h299, h301, g303, g304, g305, h306]
  repeat with_reducible refine ⟨by first | kernel_rfl | decide, ?_⟩
  obtain rfl := Option.some.inj h
  exact finC [(4, .v (.bool (x300 == x307)))] [(4, .v (.bool (x300 == x307)))] (by simp [leE, lk_cons]) (.cons _ _ _ _ _ (.v _ _ (.refl _)) .nil) (by rfl) (by simp [leE, lk_cons]) (by decide) (by decide) rfl (by simp only [go_sem, qa, qb, qc, qd, qe, qf, qg, qh, qi, qj, qk, ↓reduceIte, resQ_tmp, resQ_cell, resQ_nil, retD_one, retD_two, retD_three, retD_none]; try simp [R.val, retD_one, retD_two, retD_three, retD_none])
def m98_L0 (N : Nat) (p316 : PV) (p317 : PV) (p318 : PV) (p319 : PV) (p320 : PV) (x330 : Int) (x337 : Int) : Nat → Int → List PV → Option (List PV)
  | 0, _, _ => none
  | n + 1, x346, c347 =>
    brn (decide (x346 < 5)) (
      grd (0 ≤ x346 ∧ x346 < 5) <|
      getI .i64 (gp [p316, p317, p318, p319, p320] (Int.toNat x346)) fun x352 =>
      brn (x352 == (maxI x330 x337)) (
        grd (((Int.toNat x346) + 1) ≤ List.length c347) <|
        m98_L0 N p316 p317 p318 p319 p320 x330 x337 n (IntKind.i64.wrap (x346 + 1)) (List.set c347 (Int.toNat x346) (.int .i64 (minI x330 x337)))) (
        m98_L0 N p316 p317 p318 p319 p320 x330 x337 n (IntKind.i64.wrap (x346 + 1)) c347)) (
      some c347)
def m98 (N : Nat) (p313 : PV) (p314 : PV) : Option (PV) :=
  getA5 p313 fun p316 p317 p318 p319 p320 =>
  getA2 p314 fun p322 p323 =>
  getI .i64 p322 fun x325 =>
  grd (0 ≤ x325 ∧ x325 < 5) <|
  grd ((Int.toNat x325) < 5) <|
  getI .i64 (gp [p316, p317, p318, p319, p320] (Int.toNat x325)) fun x330 =>
  getI .i64 p323 fun x332 =>
  grd (0 ≤ x332 ∧ x332 < 5) <|
  grd ((Int.toNat x332) < 5) <|
  getI .i64 (gp [p316, p317, p318, p319, p320] (Int.toNat x332)) fun x337 =>
  bnd' (m98_L0 N p316 p317 p318 p319 p320 x330 x337 N 0 [p316, p317, p318, p319, p320]) fun c355 =>
  grd (5 ≤ List.length c355) <|
  getA5 (.agg (List.take 5 c355)) fun p358 p359 p360 p361 p362 =>
  some (.agg [p358, p359, p360, p361, p362])
theorem c98 (N : Nat) (p313 : PV) (p314 : PV) (r : PV)  (h : m98 N p313 p314 = some r) : FnP Tryd.prog 98 [p313, p314] r := by
  unfold m98 at h
  refine Fn_of (sz := 40) tab_ok [0, 1, 2, 3, 4, 5, 6, 7, 8, 27, 28, 29, 34] [.cell 4 98] Tryd.func98 rfl rfl rfl (by simp) ?_
  simp only [initSt, initEnv, List.map_cons, List.map_nil, List.getD_cons_zero, List.getD_cons_succ, List.getD_nil]
  have hh := getA5_some h; clear h; obtain ⟨p316, p317, p318, p319, p320, h315, h⟩ := hh
  have hh := getA2_some h; clear h; obtain ⟨p322, p323, h321, h⟩ := hh
  have hh := getI_some h; clear h; obtain ⟨x325, h324, h⟩ := hh
  have hh := grd_some h; clear h; obtain ⟨⟨g326, g327⟩, h⟩ := hh
  have hh := grd_some h; clear h; obtain ⟨g328, h⟩ := hh
  have hh := getI_some h; clear h; obtain ⟨x330, h329, h⟩ := hh
  have hh := getI_some h; clear h; obtain ⟨x332, h331, h⟩ := hh
  have hh := grd_some h; clear h; obtain ⟨⟨g333, g334⟩, h⟩ := hh
  have hh := grd_some h; clear h; obtain ⟨g335, h⟩ := hh
  have hh := getI_some h; clear h; obtain ⟨x337, h336, h⟩ := hh
  refine W_sound tab_ok mixed 35 _ _ _ ?_
  simp -implicitDefEqProofs only [go_sem, qa, qb, qc, qd, qe, qf, qg, qh, qi, qj, qk, ↓reduceIte, h315, h321, h324, g326, g327, g328, h329, h331, g333, g334, g335, h336]
  repeat with_reducible refine ⟨by first | kernel_rfl | decide, ?_⟩
  have hh := bnd'_some h; clear h; obtain ⟨o363, h364, h365⟩ := hh
  refine Wp_cut (fun s => ∃ c355, c355 = o363 ∧ s = ⟨[], [(0, .dead), (1, .dead), (2, .ptr 0 0), (3, .dead), (4, .ptr 1 0), (5, .dead), (6, .dead), (7, .dead), (8, .dead), (27, .dead), (28, .dead), (29, .dead), (34, .dead)], [(0, .p c355), (1, .p [(.int .i64 0), (.int .i64 0), (.int .i64 0), (.int .i64 0), (.int .i64 0)])], 2, []⟩) ?_ ?_
  · refine Wp_block ?_
    refine Wp_loopG (fun n s => ∃ x346, ∃ c347, m98_L0 N p316 p317 p318 p319 p320 x330 x337 n x346 c347 = some o363 ∧ s = ⟨[], [(0, .dead), (1, .dead), (2, .ptr 0 0), (3, .dead), (4, .ptr 1 0), (5, .v (.int .i64 (minI x330 x337))), (6, .v (.int .i64 (maxI x330 x337))), (7, .dead), (8, .dead), (27, .v (.agg [p316, p317, p318, p319, p320])), (28, .v (.int .i64 x346)), (29, .dead), (34, .dead)], [(0, .p c347), (1, .p [(.int .i64 0), (.int .i64 0), (.int .i64 0), (.int .i64 0), (.int .i64 0)])], 2, []⟩) N _ ((Wk_le (.k (.k (.r (.k (.r (.r (.r (.r (.r (.r (.r (.r (.r .nil))))))))))))) (OLe.refl _)).trans (cmpS_ok (st' := ⟨[], [(0, .dead), (1, .dead), (2, .ptr 0 0), (3, .dead), (4, .ptr 1 0), (5, .v (.int .i64 (minI x330 x337))), (6, .v (.int .i64 (maxI x330 x337))), (7, .dead), (8, .dead), (27, .v (.agg [p316, p317, p318, p319, p320])), (28, .v (.int .i64 0)), (29, .dead), (34, .dead)], [(0, .p [p316, p317, p318, p319, p320]), (1, .p [(.int .i64 0), (.int .i64 0), (.int .i64 0), (.int .i64 0), (.int .i64 0)])], 2, []⟩) (by kernel_rfl))) ⟨_, _, h364, rfl⟩ ?_
    clear h364
    rintro n _ ⟨x346, c347, h364, rfl⟩
    cases n with
    | zero => cases h364
    | succ n =>
      rw [m98_L0] at h364
      have hh := brn_some h364; clear h364; rcases hh with ⟨h348, h364⟩ | ⟨h348, h364⟩
      · have hh := grd_some h364; clear h364; obtain ⟨⟨g349, g350⟩, h364⟩ := hh
        have hh := getI_some h364; clear h364; obtain ⟨x352, h351, h364⟩ := hh
        have hh := brn_some h364; clear h364; rcases hh with ⟨h353, h364⟩ | ⟨h353, h364⟩
        · have hh := grd_some h364; clear h364; obtain ⟨g354, h364⟩ := hh
          refine W_sound tab_ok mixed 34 _ _ _ ?_
          simp -implicitDefEqProofs only [go_sem, qa, qb, qc, qd, qe, qf, qg, qh, qi, qj, qk, ↓reduceIte, h315, h321, h324, g326, g327, g328, h329, h331, g333, g334, g335, h336, h348, g349, g350, h351, h353, g354]
          repeat with_reducible refine ⟨by first | kernel_rfl | decide, ?_⟩
          exact cutQ _ ((Wk_le (.r (.r (.r (.r (.r (.r (.r (.k (.k (.r (.r (.k (.k .nil))))))))))))) (OLe.refl _)).trans (cmpS_ok (st' := ⟨[], [(0, .dead), (1, .dead), (2, .ptr 0 0), (3, .dead), (4, .ptr 1 0), (5, .v (.int .i64 (minI x330 x337))), (6, .v (.int .i64 (maxI x330 x337))), (7, .dead), (8, .dead), (27, .v (.agg [p316, p317, p318, p319, p320])), (28, .v (.int .i64 (IntKind.i64.wrap (x346 + 1)))), (29, .dead), (34, .dead)], [(0, .p (List.set c347 (Int.toNat x346) (.int .i64 (minI x330 x337)))), (1, .p [(.int .i64 0), (.int .i64 0), (.int .i64 0), (.int .i64 0), (.int .i64 0)])], 2, []⟩) (by kernel_rfl))) ⟨n, Nat.lt_succ_self n, _, _, h364, rfl⟩
        · refine W_sound tab_ok mixed 29 _ _ _ ?_
          simp -implicitDefEqProofs only [go_sem, qa, qb, qc, qd, qe, qf, qg, qh, qi, qj, qk, ↓reduceIte, h315, h321, h324, g326, g327, g328, h329, h331, g333, g334, g335, h336, h348, g349, g350, h351, h353]
          repeat with_reducible refine ⟨by first | kernel_rfl | decide, ?_⟩
          exact cutQ _ ((Wk_le (.r (.r (.r (.r (.r (.r (.r (.k (.k (.r (.r (.k (.k .nil))))))))))))) (OLe.refl _)).trans (cmpS_ok (st' := ⟨[], [(0, .dead), (1, .dead), (2, .ptr 0 0), (3, .dead), (4, .ptr 1 0), (5, .v (.int .i64 (minI x330 x337))), (6, .v (.int .i64 (maxI x330 x337))), (7, .dead), (8, .dead), (27, .v (.agg [p316, p317, p318, p319, p320])), (28, .v (.int .i64 (IntKind.i64.wrap (x346 + 1)))), (29, .dead), (34, .dead)], [(0, .p c347), (1, .p [(.int .i64 0), (.int .i64 0), (.int .i64 0), (.int .i64 0), (.int .i64 0)])], 2, []⟩) (by kernel_rfl))) ⟨n, Nat.lt_succ_self n, _, _, h364, rfl⟩
      · refine W_sound tab_ok mixed 7 _ _ _ ?_
        simp -implicitDefEqProofs only [go_sem, qa, qb, qc, qd, qe, qf, qg, qh, qi, qj, qk, ↓reduceIte, h315, h321, h324, g326, g327, g328, h329, h331, g333, g334, g335, h336, h348]
        repeat with_reducible refine ⟨by first | kernel_rfl | decide, ?_⟩
        obtain rfl := Option.some.inj h364
        exact cutQ _ ((Wk_le (.r (.r (.r (.r (.r (.k (.k (.r (.r (.k (.k (.k (.r .nil))))))))))))) (OLe.refl _)).trans (cmpS_ok (st' := ⟨[], [(0, .dead), (1, .dead), (2, .ptr 0 0), (3, .dead), (4, .ptr 1 0), (5, .dead), (6, .dead), (7, .dead), (8, .dead), (27, .dead), (28, .dead), (29, .dead), (34, .dead)], [(0, .p c347), (1, .p [(.int .i64 0), (.int .i64 0), (.int .i64 0), (.int .i64 0), (.int .i64 0)])], 2, []⟩) (by kernel_rfl))) ⟨_, rfl, rfl⟩
  · rintro _ ⟨c355, rfl, rfl⟩
    have hh := grd_some h365; clear h365; obtain ⟨g356, h365⟩ := hh
    have hh := getA5_some h365; clear h365; obtain ⟨p358, p359, p360, p361, p362, h357, h365⟩ := hh
    injection h357 with h357
    refine W_sound tab_ok mixed 7 _ _ _ ?_
    simp -implicitDefEqProofs only [go_sem, qa, qb, qc, qd, qe, qf, qg, qh, qi, qj, qk, ↓reduceIte, h315, h321, h324, g326, g327, g328, h329, h331, g333, g334, g335, h336, g356, h357]
    repeat with_reducible refine ⟨by first | kernel_rfl | decide, ?_⟩
    refine FinQ_wk (Wk_freeze 1 [p358, p359, p360, p361, p362] (by rfl) (by decide) (by decide)) ?_
    simp -implicitDefEqProofs only [go_sem, qa, qb, qc, qd, qe, qf, qg, qh, qi, qj, qk, ↓reduceIte, h315, h321, h324, g326, g327, g328, h329, h331, g333, g334, g335, h336, g356, h357]
    obtain rfl := Option.some.inj h365
    exact finC [(4, .v (.ipt [p358, p359, p360, p361, p362]))] [(4, .v (.ipt [p358, p359, p360, p361, p362]))] (by simp [leE, lk_cons]) (.cons _ _ _ _ _ (.v _ _ (.refl _)) .nil) (by rfl) (by simp [leE, lk_cons]) (by decide) (by decide) rfl (by simp only [go_sem, qa, qb, qc, qd, qe, qf, qg, qh, qi, qj, qk, ↓reduceIte, resQ_tmp, resQ_cell, resQ_nil, retD_one, retD_two, retD_three, retD_none]; try simp [R.val, retD_one, retD_two, retD_three, retD_none])
def gv1 : List PV := (glk Gv 1).getD []
@[local go_sem] theorem ev_gv1 (get : Nat → D) : evG get (.global 1) = .v (.ipt gv1) := rfl
def m103 (N : Nat) (x533 : Int) : Option (PV) :=
  brn (x533 == 0) (
    some (.int .i64 64)) (
    grd (0 ≤ (Int.fdiv (IntKind.u64.wrap ((bitsI .and .u64 x533 (IntKind.u64.wrap (0 - x533))) * 285870213051353865)) (2 ^ (min 58 64))) ∧ (Int.fdiv (IntKind.u64.wrap ((bitsI .and .u64 x533 (IntKind.u64.wrap (0 - x533))) * 285870213051353865)) (2 ^ (min 58 64))) < 64) <|
    grd (0 < List.length (List.drop (Int.toNat (Int.fdiv (IntKind.u64.wrap ((bitsI .and .u64 x533 (IntKind.u64.wrap (0 - x533))) * 285870213051353865)) (2 ^ (min 58 64)))) gv1)) <|
    getI .u8 (gp gv1 (Int.toNat (Int.fdiv (IntKind.u64.wrap ((bitsI .and .u64 x533 (IntKind.u64.wrap (0 - x533))) * 285870213051353865)) (2 ^ (min 58 64))))) fun x539 =>
    some (.int .i64 (IntKind.i64.wrap x539)))
theorem c103 (N : Nat) (x533 : Int) (r : PV)  (h : m103 N x533 = some r) : FnP Tryd.prog 103 [(.int .u64 x533)] r := by
  unfold m103 at h
  refine Fn_of (sz := 14) tab_ok [0, 2, 4] [.tmp 2] Tryd.func103 rfl rfl rfl (by simp) ?_
  simp only [initSt, initEnv, List.map_cons, List.map_nil, List.getD_cons_zero, List.getD_cons_succ, List.getD_nil]
  have hh := brn_some h; clear h; rcases hh with ⟨h534, h⟩ | ⟨h534, h⟩
  · refine W_sound tab_ok mixed 17 _ _ _ ?_
    simp -implicitDefEqProofs only [go_sem, qa, qb, qc, qd, qe, qf, qg, qh, qi, qj, qk, ↓reduceIte, h534]
    repeat with_reducible refine ⟨by first | kernel_rfl | decide, ?_⟩
    obtain rfl := Option.some.inj h
    exact finC [(2, .v (.int .i64 64))] [(2, .v (.int .i64 64))] (by simp [leE, lk_cons]) (.cons _ _ _ _ _ (.v _ _ (.refl _)) .nil) (by rfl) (by simp [leE, lk_cons]) (by decide) (by decide) rfl (by simp only [go_sem, qa, qb, qc, qd, qe, qf, qg, qh, qi, qj, qk, ↓reduceIte, resQ_tmp, resQ_cell, resQ_nil, retD_one, retD_two, retD_three, retD_none]; try simp [R.val, retD_one, retD_two, retD_three, retD_none])
  · have hh := grd_some h; clear h; obtain ⟨⟨g535, g536⟩, h⟩ := hh
    have hh := grd_some h; clear h; obtain ⟨g537, h⟩ := hh
    have hh := getI_some h; clear h; obtain ⟨x539, h538, h⟩ := hh
    refine W_sound tab_ok mixed 27 _ _ _ ?_
    simp -implicitDefEqProofs only [go_sem, qa, qb, qc, qd, qe, qf, qg, qh, qi, qj, qk, ↓reduceIte, h534, g535, g536, g537, h538]
    repeat with_reducible refine ⟨by first | kernel_rfl | decide, ?_⟩
    obtain rfl := Option.some.inj h
    exact finC [(2, .v (.int .i64 (IntKind.i64.wrap x539)))] [(2, .v (.int .i64 (IntKind.i64.wrap x539)))] (by simp [leE, lk_cons]) (.cons _ _ _ _ _ (.v _ _ (.refl _)) .nil) (by rfl) (by simp [leE, lk_cons]) (by decide) (by decide) rfl (by simp only [go_sem, qa, qb, qc, qd, qe, qf, qg, qh, qi, qj, qk, ↓reduceIte, resQ_tmp, resQ_cell, resQ_nil, retD_one, retD_two, retD_three, retD_none]; try simp [R.val, retD_one, retD_two, retD_three, retD_none])
def m90 (N : Nat) (x532 : Int) : Option (PV) :=
  bnd' (m103 N x532) fun p540 =>
  getI .i64 p540 fun x543 =>
  some (.int .i64 x543)
theorem c90 (N : Nat) (x532 : Int) (r : PV)  (h : m90 N x532 = some r) : FnP Tryd.prog 90 [(.int .u64 x532)] r := by
  unfold m90 at h
  refine Fn_of (sz := 8) tab_ok [0, 2] [.tmp 2] Tryd.func90 rfl rfl rfl (by simp) ?_
  simp only [initSt, initEnv, List.map_cons, List.map_nil, List.getD_cons_zero, List.getD_cons_succ, List.getD_nil]
  have hh := bnd'_some h; clear h; obtain ⟨p540, h541, h⟩ := hh
  refine W_sound tab_ok mixed 10 _ _ _ ?_
  simp -implicitDefEqProofs only [go_sem, qa, qb, qc, qd, qe, qf, qg, qh, qi, qj, qk, ↓reduceIte]
  repeat with_reducible refine ⟨by first | kernel_rfl | decide, ?_⟩
  refine Wp_callP (c103 N _ _ h541) (by kernel_rfl) rfl rfl rfl rfl (by decide) ?_
  have hh := getI_some h; clear h; obtain ⟨x543, h542, h⟩ := hh
  refine W_sound tab_ok mixed 4 _ _ _ ?_
  simp -implicitDefEqProofs only [go_sem, qa, qb, qc, qd, qe, qf, qg, qh, qi, qj, qk, ↓reduceIte, h542]
  repeat with_reducible refine ⟨by first | kernel_rfl | decide, ?_⟩
  obtain rfl := Option.some.inj h
  exact finC [(2, .v (.int .i64 x543))] [(2, .v (.int .i64 x543))] (by simp [leE, lk_cons]) (.cons _ _ _ _ _ (.v _ _ (.refl _)) .nil) (by rfl) (by simp [leE, lk_cons]) (by decide) (by decide) rfl (by simp only [go_sem, qa, qb, qc, qd, qe, qf, qg, qh, qi, qj, qk, ↓reduceIte, resQ_tmp, resQ_cell, resQ_nil, retD_one, retD_two, retD_three, retD_none]; try simp [R.val, retD_one, retD_two, retD_three, retD_none])
def m77_L0 (N : Nat)  : Nat → Int → Nat → List PV → Option ((Nat × List PV))
  | 0, _, _, _ => none
  | n + 1, x554, n555, c556 =>
    brn (x554 != 0) (
      bnd' (m90 N x554) fun p558 =>
      getI .i64 p558 fun x561 =>
      grd ((n555 + 1) ≤ 1099511627776) <|
      grd (List.length c556 = n555) <|
      m77_L0 N  n (bitsI .and .u64 x554 (IntKind.u64.wrap (x554 - 1))) (n555 + 1) (c556 ++ [(.int .i64 x561)])) (
      some (n555, c556))
def m77 (N : Nat) (x529 : Int) : Option (PV) :=
  bnd' (m77_L0 N  N x529 0 []) fun o =>
  match o with
  | (n564, c565) =>
    grd (List.length c565 = n564) <|
    some (.lst false n564 c565)
theorem c77 (N : Nat) (x529 : Int) (r : PV)  (h : m77 N x529 = some r) : FnP Tryd.prog 77 [(.int .u64 x529)] r := by
  unfold m77 at h
  refine Fn_of (sz := 16) tab_ok [0, 2, 3, 5] [.tmp 2] Tryd.func77 rfl rfl rfl (by simp) ?_
  simp only [initSt, initEnv, List.map_cons, List.map_nil, List.getD_cons_zero, List.getD_cons_succ, List.getD_nil]
  refine W_sound tab_ok mixed 9 _ _ _ ?_
  simp -implicitDefEqProofs only [go_sem, qa, qb, qc, qd, qe, qf, qg, qh, qi, qj, qk, ↓reduceIte]
  repeat with_reducible refine ⟨by first | kernel_rfl | decide, ?_⟩
  refine Wp_weaken (Wk_ownS 3 1 rfl (by decide) (by decide)) ?_
  simp -implicitDefEqProofs only [go_sem, qa, qb, qc, qd, qe, qf, qg, qh, qi, qj, qk, ↓reduceIte]
  have hh := bnd'_some h; clear h; obtain ⟨o567, h568, h569⟩ := hh
  refine Wp_cut (fun s => ∃ n564, ∃ c565, (n564, c565) = o567 ∧ s = ⟨[], [(0, .dead), (2, .dead), (3, .sl false 0 0 n564 1), (5, .dead)], [(0, .p c565)], 1, []⟩) ?_ ?_
  · refine Wp_block ?_
    refine Wp_loopG (fun n s => ∃ x554, ∃ n555, ∃ c556, m77_L0 N  n x554 n555 c556 = some o567 ∧ s = ⟨[], [(0, .v (.int .u64 x554)), (2, .dead), (3, .sl false 0 0 n555 1), (5, .dead)], [(0, .p c556)], 1, []⟩) N _ ((Wk_le (.r (.k (.r (.r .nil)))) (OLe.refl _)).trans (cmpS_ok rfl)) ⟨_, _, _, h568, rfl⟩ ?_
    clear h568
    rintro n _ ⟨x554, n555, c556, h568, rfl⟩
    cases n with
    | zero => cases h568
    | succ n =>
      rw [m77_L0] at h568
      have hh := brn_some h568; clear h568; rcases hh with ⟨h557, h568⟩ | ⟨h557, h568⟩
      · have hh := bnd'_some h568; clear h568; obtain ⟨p558, h559, h568⟩ := hh
        refine W_sound tab_ok mixed 13 _ _ _ ?_
        simp -implicitDefEqProofs only [go_sem, qa, qb, qc, qd, qe, qf, qg, qh, qi, qj, qk, ↓reduceIte, h557]
        repeat with_reducible refine ⟨by first | kernel_rfl | decide, ?_⟩
        refine Wp_callP (c90 N _ _ h559) (by kernel_rfl) rfl rfl rfl rfl (by decide) ?_
        have hh := getI_some h568; clear h568; obtain ⟨x561, h560, h568⟩ := hh
        have hh := grd_some h568; clear h568; obtain ⟨g562, h568⟩ := hh
        have hh := grd_some h568; clear h568; obtain ⟨g563, h568⟩ := hh
        refine W_sound tab_ok mixed 12 _ _ _ ?_
        simp -implicitDefEqProofs only [go_sem, qa, qb, qc, qd, qe, qf, qg, qh, qi, qj, qk, ↓reduceIte, h557, h560, g562, g563]
        repeat with_reducible refine ⟨by first | kernel_rfl | decide, ?_⟩
        exact cutQ _ ((Wk_le (.r (.r (.r (.k .nil)))) (OLe.refl _)).trans (cmpS_ok rfl)) ⟨n, Nat.lt_succ_self n, _, _, _, h568, rfl⟩
      · refine W_sound tab_ok mixed 8 _ _ _ ?_
        simp -implicitDefEqProofs only [go_sem, qa, qb, qc, qd, qe, qf, qg, qh, qi, qj, qk, ↓reduceIte, h557]
        repeat with_reducible refine ⟨by first | kernel_rfl | decide, ?_⟩
        obtain rfl := Option.some.inj h568
        exact cutQ _ ((Wk_le (.k (.r (.r (.k .nil)))) (OLe.refl _)).trans (cmpS_ok rfl)) ⟨_, _, rfl, rfl⟩
  · rintro _ ⟨n564, c565, rfl, rfl⟩
    (try dsimp only at h569)
    refine W_sound tab_ok mixed 7 _ _ _ ?_
    simp -implicitDefEqProofs only [go_sem, qa, qb, qc, qd, qe, qf, qg, qh, qi, qj, qk, ↓reduceIte]
    repeat with_reducible refine ⟨by first | kernel_rfl | decide, ?_⟩
    have hh := grd_some h569; clear h569; obtain ⟨g566, h569⟩ := hh
    refine FinQ_wk (Wk_freeze 0 c565 (by rfl) (by decide) (by decide)) ?_
    simp -implicitDefEqProofs only [go_sem, qa, qb, qc, qd, qe, qf, qg, qh, qi, qj, qk, ↓reduceIte, g566]
    obtain rfl := Option.some.inj h569
    exact finC [(2, .v (.lst false n564 c565))] [(2, .v (.lst false n564 c565))] (by simp [leE, lk_cons]) (.cons _ _ _ _ _ (.v _ _ (.refl _)) .nil) (by rfl) (by simp [leE, lk_cons]) (by decide) (by decide) rfl (by simp only [go_sem, qa, qb, qc, qd, qe, qf, qg, qh, qi, qj, qk, ↓reduceIte, resQ_tmp, resQ_cell, resQ_nil, retD_one, retD_two, retD_three, retD_none]; try simp [R.val, retD_one, retD_two, retD_three, retD_none])
def m104 (N : Nat) (x682 : Int) : Option (PV) :=
  some (.bool (x682 != x682))
theorem c104 (N : Nat) (x682 : Int) (r : PV)  (h : m104 N x682 = some r) : FnP Tryd.prog 104 [(.int .i64 x682)] r := by
  unfold m104 at h
  refine Fn_of (sz := 6) tab_ok [0, 2] [.tmp 2] Tryd.func104 rfl rfl rfl (by simp) ?_
  simp only [initSt, initEnv, List.map_cons, List.map_nil, List.getD_cons_zero, List.getD_cons_succ, List.getD_nil]
  refine W_sound tab_ok mixed 13 _ _ _ ?_
  simp -implicitDefEqProofs only [go_sem, qa, qb, qc, qd, qe, qf, qg, qh, qi, qj, qk, ↓reduceIte]
  repeat with_reducible refine ⟨by first | kernel_rfl | decide, ?_⟩
  obtain rfl := Option.some.inj h
  exact finC [(2, .v (.bool (x682 != x682)))] [(2, .v (.bool (x682 != x682)))] (by simp [leE, lk_cons]) (.cons _ _ _ _ _ (.v _ _ (.refl _)) .nil) (by rfl) (by simp [leE, lk_cons]) (by decide) (by decide) rfl (by simp only [go_sem, qa, qb, qc, qd, qe, qf, qg, qh, qi, qj, qk, ↓reduceIte, resQ_tmp, resQ_cell, resQ_nil, retD_one, retD_two, retD_three, retD_none]; try simp [R.val, retD_one, retD_two, retD_three, retD_none])
def m91 (N : Nat) (x680 : Int) (x681 : Int) : Option (PV) :=
  bnd' (m104 N x680) fun p683 =>
  getB p683 fun b686 =>
  bnd' (m104 N x681) fun p687 =>
  getB p687 fun b690 =>
  brn b686 (
    brn b690 (
      some (.int .i64 0)) (
      some (.int .i64 (-1)))) (
    brn b690 (
      some (.int .i64 1)) (
      brn (decide (x680 < x681)) (
        some (.int .i64 (-1))) (
        brn (decide (x680 > x681)) (
          some (.int .i64 1)) (
          some (.int .i64 0)))))
theorem c91 (N : Nat) (x680 : Int) (x681 : Int) (r : PV)  (h : m91 N x680 x681 = some r) : FnP Tryd.prog 91 [(.int .i64 x680), (.int .i64 x681)] r := by
  unfold m91 at h
  refine Fn_of (sz := 20) tab_ok [0, 1, 4, 5, 6, 11, 12, 13, 16, 19] [.tmp 4] Tryd.func91 rfl rfl rfl (by simp) ?_
  simp only [initSt, initEnv, List.map_cons, List.map_nil, List.getD_cons_zero, List.getD_cons_succ, List.getD_nil]
  have hh := bnd'_some h; clear h; obtain ⟨p683, h684, h⟩ := hh
  refine W_sound tab_ok mixed 7 _ _ _ ?_
  simp -implicitDefEqProofs only [go_sem, qa, qb, qc, qd, qe, qf, qg, qh, qi, qj, qk, ↓reduceIte]
  repeat with_reducible refine ⟨by first | kernel_rfl | decide, ?_⟩
  refine Wp_callP (c104 N _ _ h684) (by kernel_rfl) rfl rfl rfl rfl (by decide) ?_
  have hh := getB_some h; clear h; obtain ⟨b686, h685, h⟩ := hh
  have hh := bnd'_some h; clear h; obtain ⟨p687, h688, h⟩ := hh
  refine W_sound tab_ok mixed 5 _ _ _ ?_
  simp -implicitDefEqProofs only [go_sem, qa, qb, qc, qd, qe, qf, qg, qh, qi, qj, qk, ↓reduceIte, h685]
  repeat with_reducible refine ⟨by first | kernel_rfl | decide, ?_⟩
  refine Wp_callP (c104 N _ _ h688) (by kernel_rfl) rfl rfl rfl rfl (by decide) ?_
  have hh := getB_some h; clear h; obtain ⟨b690, h689, h⟩ := hh
  have hh := brn_some h; clear h; rcases hh with ⟨h691, h⟩ | ⟨h691, h⟩
  · have hh := brn_some h; clear h; rcases hh with ⟨h692, h⟩ | ⟨h692, h⟩
    · refine W_sound tab_ok mixed 20 _ _ _ ?_
      simp -implicitDefEqProofs only [go_sem, qa, qb, qc, qd, qe, qf, qg, qh, qi, qj, qk, ↓reduceIte, h685, h689, h691, h692]
      repeat with_reducible refine ⟨by first | kernel_rfl | decide, ?_⟩
      obtain rfl := Option.some.inj h
      exact finC [(4, .v (.int .i64 0))] [(4, .v (.int .i64 0))] (by simp [leE, lk_cons]) (.cons _ _ _ _ _ (.v _ _ (.refl _)) .nil) (by rfl) (by simp [leE, lk_cons]) (by decide) (by decide) rfl (by simp only [go_sem, qa, qb, qc, qd, qe, qf, qg, qh, qi, qj, qk, ↓reduceIte, resQ_tmp, resQ_cell, resQ_nil, retD_one, retD_two, retD_three, retD_none]; try simp [R.val, retD_one, retD_two, retD_three, retD_none])
    · refine W_sound tab_ok mixed 21 _ _ _ ?_
      simp -implicitDefEqProofs only [go_sem, qa, qb, qc, qd, qe, qf, qg, qh, qi, qj, qk, ↓reduceIte, h685, h689, h691, h692]
      repeat with_reducible refine ⟨by first | kernel_rfl | decide, ?_⟩
      obtain rfl := Option.some.inj h
      exact finC [(4, .v (.int .i64 (-1)))] [(4, .v (.int .i64 (-1)))] (by simp [leE, lk_cons]) (.cons _ _ _ _ _ (.v _ _ (.refl _)) .nil) (by rfl) (by simp [leE, lk_cons]) (by decide) (by decide) rfl (by simp only [go_sem, qa, qb, qc, qd, qe, qf, qg, qh, qi, qj, qk, ↓reduceIte, resQ_tmp, resQ_cell, resQ_nil, retD_one, retD_two, retD_three, retD_none]; try simp [R.val, retD_one, retD_two, retD_three, retD_none])
  · have hh := brn_some h; clear h; rcases hh with ⟨h693, h⟩ | ⟨h693, h⟩
    · refine W_sound tab_ok mixed 21 _ _ _ ?_
      simp -implicitDefEqProofs only [go_sem, qa, qb, qc, qd, qe, qf, qg, qh, qi, qj, qk, ↓reduceIte, h685, h689, h691, h693]
      repeat with_reducible refine ⟨by first | kernel_rfl | decide, ?_⟩
      obtain rfl := Option.some.inj h
      exact finC [(4, .v (.int .i64 1))] [(4, .v (.int .i64 1))] (by simp [leE, lk_cons]) (.cons _ _ _ _ _ (.v _ _ (.refl _)) .nil) (by rfl) (by simp [leE, lk_cons]) (by decide) (by decide) rfl (by simp only [go_sem, qa, qb, qc, qd, qe, qf, qg, qh, qi, qj, qk, ↓reduceIte, resQ_tmp, resQ_cell, resQ_nil, retD_one, retD_two, retD_three, retD_none]; try simp [R.val, retD_one, retD_two, retD_three, retD_none])
    · have hh := brn_some h; clear h; rcases hh with ⟨h694, h⟩ | ⟨h694, h⟩
      · refine W_sound tab_ok mixed 30 _ _ _ ?_
        simp -implicitDefEqProofs only [go_sem, qa, qb, qc, qd, qe, qf, qg, qh, qi, qj, qk, ↓reduceIte, h685, h689, h691, h693, h694]
        repeat with_reducible refine ⟨by first | kernel_rfl | decide, ?_⟩
        obtain rfl := Option.some.inj h
        exact finC [(4, .v (.int .i64 (-1)))] [(4, .v (.int .i64 (-1)))] (by simp [leE, lk_cons]) (.cons _ _ _ _ _ (.v _ _ (.refl _)) .nil) (by rfl) (by simp [leE, lk_cons]) (by decide) (by decide) rfl (by simp only [go_sem, qa, qb, qc, qd, qe, qf, qg, qh, qi, qj, qk, ↓reduceIte, resQ_tmp, resQ_cell, resQ_nil, retD_one, retD_two, retD_three, retD_none]; try simp [R.val, retD_one, retD_two, retD_three, retD_none])
      · have hh := brn_some h; clear h; rcases hh with ⟨h695, h⟩ | ⟨h695, h⟩
        · refine W_sound tab_ok mixed 39 _ _ _ ?_
          simp -implicitDefEqProofs only [go_sem, qa, qb, qc, qd, qe, qf, qg, qh, qi, qj, qk, ↓reduceIte, h685, h689, h691, h693, h694, h695]
          repeat with_reducible refine ⟨by first | kernel_rfl | decide, ?_⟩
          obtain rfl := Option.some.inj h
          exact finC [(4, .v (.int .i64 1))] [(4, .v (.int .i64 1))] (by simp [leE, lk_cons]) (.cons _ _ _ _ _ (.v _ _ (.refl _)) .nil) (by rfl) (by simp [leE, lk_cons]) (by decide) (by decide) rfl (by simp only [go_sem, qa, qb, qc, qd, qe, qf, qg, qh, qi, qj, qk, ↓reduceIte, resQ_tmp, resQ_cell, resQ_nil, retD_one, retD_two, retD_three, retD_none]; try simp [R.val, retD_one, retD_two, retD_three, retD_none])
        · refine W_sound tab_ok mixed 40 _ _ _ ?_
          simp -implicitDefEqProofs only [go_sem, qa, qb, qc, qd, qe, qf, qg, qh, qi, qj, qk, ↓reduceIte, h685, h689, h691, h693, h694, h695]
          repeat with_reducible refine ⟨by first | kernel_rfl | decide, ?_⟩
          obtain rfl := Option.some.inj h
          exact finC [(4, .v (.int .i64 0))] [(4, .v (.int .i64 0))] (by simp [leE, lk_cons]) (.cons _ _ _ _ _ (.v _ _ (.refl _)) .nil) (by rfl) (by simp [leE, lk_cons]) (by decide) (by decide) rfl (by simp only [go_sem, qa, qb, qc, qd, qe, qf, qg, qh, qi, qj, qk, ↓reduceIte, resQ_tmp, resQ_cell, resQ_nil, retD_one, retD_two, retD_three, retD_none]; try simp [R.val, retD_one, retD_two, retD_three, retD_none])
def m47_L0 (N : Nat) (n663 : Nat) (c664 : List PV) (n666 : Nat) (c667 : List PV) : Nat → Int → Option ((PV ⊕ Unit))
  | 0, _ => none
  | n + 1, x668 =>
    brn (decide (x668 < ((n663 : Nat) : Int))) (
      grd (0 ≤ x668 ∧ x668 < ((n663 : Nat) : Int)) <|
      grd (0 < List.length (List.drop (Int.toNat x668) c664)) <|
      getI .i64 (gp c664 (Int.toNat x668)) fun x674 =>
      brn (decide (x668 ≥ ((n666 : Nat) : Int))) (
        some (.inl (.int .i64 1))) (
        grd (x668 < ((n666 : Nat) : Int)) <|
        grd (0 < List.length (List.drop (Int.toNat x668) c667)) <|
        getI .i64 (gp c667 (Int.toNat x668)) fun x679 =>
        bnd' (m91 N x674 x679) fun p696 =>
        getI .i64 p696 fun x699 =>
        brn (x699 != 0) (
          some (.inl (.int .i64 x699))) (
          m47_L0 N n663 c664 n666 c667 n (IntKind.i64.wrap (x668 + 1))))) (
      some (.inr ()))
def m47 (N : Nat) (p660 : PV) (p661 : PV) : Option (PV) :=
  getL p660 fun n663 c664 =>
  getL p661 fun n666 c667 =>
  bnd' (m47_L0 N n663 c664 n666 c667 N 0) fun o =>
  match o with
  | .inl p701 =>
    some p701
  | .inr () =>
    brn (decide (((n663 : Nat) : Int) < ((n666 : Nat) : Int))) (
      some (.int .i64 (-1))) (
      some (.int .i64 0))
theorem c47 (N : Nat) (p660 : PV) (p661 : PV) (r : PV)  (h : m47 N p660 p661 = some r) : FnP Tryd.prog 47 [p660, p661] r := by
  unfold m47 at h
  refine Fn_of (sz := 36) tab_ok [0, 1, 4, 5, 6, 7, 8, 9, 10, 11, 12, 19, 28, 35] [.tmp 4] Tryd.func47 rfl rfl rfl (by simp) ?_
  simp only [initSt, initEnv, List.map_cons, List.map_nil, List.getD_cons_zero, List.getD_cons_succ, List.getD_nil]
  have hh := getL_some h; clear h; obtain ⟨n663, c664, h662, h⟩ := hh
  have hh := getL_some h; clear h; obtain ⟨n666, c667, h665, h⟩ := hh
  refine W_sound tab_ok mixed 11 _ _ _ ?_
  simp -implicitDefEqProofs only [go_sem, qa, qb, qc, qd, qe, qf, qg, qh, qi, qj, qk, ↓reduceIte, h662, h665]
  repeat with_reducible refine ⟨by first | kernel_rfl | decide, ?_⟩
  have hh := bnd'_some h; clear h; obtain ⟨o703, h704, h705⟩ := hh
  refine Wp_cut (fun s => (.inr ()) = o703 ∧ s = ⟨[], [(0, .v (.lst false n663 c664)), (1, .v (.lst false n666 c667)), (4, .dead), (5, .dead), (6, .dead), (7, .dead), (8, .dead), (9, .dead), (10, .dead), (11, .dead), (12, .dead), (19, .dead), (28, .dead), (35, .dead)], [], 0, []⟩) ?_ ?_
  · refine Wp_block ?_
    refine Wp_loopG (fun n s => ∃ x668, m47_L0 N n663 c664 n666 c667 n x668 = some o703 ∧ s = ⟨[], [(0, .v (.lst false n663 c664)), (1, .v (.lst false n666 c667)), (4, .dead), (5, .dead), (6, .dead), (7, .dead), (8, .dead), (9, .v (.lst false n663 c664)), (10, .v (.int .i64 ((n663 : Nat) : Int))), (11, .v (.int .i64 x668)), (12, .dead), (19, .dead), (28, .dead), (35, .dead)], [], 0, []⟩) N _ ((Wk_le (.r (.r (.k (.r (.r (.r (.r (.r (.r (.r (.r (.r (.r (.r .nil)))))))))))))) (OLe.refl _)).trans (cmpS_ok (st' := ⟨[], [(0, .v (.lst false n663 c664)), (1, .v (.lst false n666 c667)), (4, .dead), (5, .dead), (6, .dead), (7, .dead), (8, .dead), (9, .v (.lst false n663 c664)), (10, .v (.int .i64 ((n663 : Nat) : Int))), (11, .v (.int .i64 0)), (12, .dead), (19, .dead), (28, .dead), (35, .dead)], [], 0, []⟩) (by kernel_rfl))) ⟨_, h704, rfl⟩ ?_
    clear h704
    rintro n _ ⟨x668, h704, rfl⟩
    cases n with
    | zero => cases h704
    | succ n =>
      rw [m47_L0] at h704
      have hh := brn_some h704; clear h704; rcases hh with ⟨h669, h704⟩ | ⟨h669, h704⟩
      · have hh := grd_some h704; clear h704; obtain ⟨⟨g670, g671⟩, h704⟩ := hh
        have hh := grd_some h704; clear h704; obtain ⟨g672, h704⟩ := hh
        have hh := getI_some h704; clear h704; obtain ⟨x674, h673, h704⟩ := hh
        have hh := brn_some h704; clear h704; rcases hh with ⟨h675, h704⟩ | ⟨h675, h704⟩
        · refine W_sound tab_ok mixed 32 _ _ _ ?_
          simp -implicitDefEqProofs only [go_sem, qa, qb, qc, qd, qe, qf, qg, qh, qi, qj, qk, ↓reduceIte, h662, h665, h669, g670, g671, g672, h673, h675]
          repeat with_reducible refine ⟨by first | kernel_rfl | decide, ?_⟩
          obtain rfl := Option.some.inj h704
          (try dsimp only at h705)
          obtain rfl := Option.some.inj h705
          exact finC [(4, .v (.int .i64 1))] [(4, .v (.int .i64 1))] (by simp [leE, lk_cons]) (.cons _ _ _ _ _ (.v _ _ (.refl _)) .nil) (by rfl) (by simp [leE, lk_cons]) (by decide) (by decide) rfl (by simp only [go_sem, qa, qb, qc, qd, qe, qf, qg, qh, qi, qj, qk, ↓reduceIte, resQ_tmp, resQ_cell, resQ_nil, retD_one, retD_two, retD_three, retD_none]; try simp [R.val, retD_one, retD_two, retD_three, retD_none])
        · have hh := grd_some h704; clear h704; obtain ⟨g676, h704⟩ := hh
          have hh := grd_some h704; clear h704; obtain ⟨g677, h704⟩ := hh
          have hh := getI_some h704; clear h704; obtain ⟨x679, h678, h704⟩ := hh
          have hh := bnd'_some h704; clear h704; obtain ⟨p696, h697, h704⟩ := hh
          refine W_sound tab_ok mixed 39 _ _ _ ?_
          simp -implicitDefEqProofs only [go_sem, qa, qb, qc, qd, qe, qf, qg, qh, qi, qj, qk, ↓reduceIte, h662, h665, h669, g670, g671, g672, h673, h675, g676, g677, h678]
          repeat with_reducible refine ⟨by first | kernel_rfl | decide, ?_⟩
          refine Wp_callP (c91 N _ _ _ h697) (by kernel_rfl) rfl rfl rfl rfl (by decide) ?_
          have hh := getI_some h704; clear h704; obtain ⟨x699, h698, h704⟩ := hh
          have hh := brn_some h704; clear h704; rcases hh with ⟨h700, h704⟩ | ⟨h700, h704⟩
          · refine W_sound tab_ok mixed 15 _ _ _ ?_
            simp -implicitDefEqProofs only [go_sem, qa, qb, qc, qd, qe, qf, qg, qh, qi, qj, qk, ↓reduceIte, h662, h665, h669, g670, g671, g672, h673, h675, g676, g677, h678, h698, h700]
            repeat with_reducible refine ⟨by first | kernel_rfl | decide, ?_⟩
            obtain rfl := Option.some.inj h704
            (try dsimp only at h705)
            obtain rfl := Option.some.inj h705
            exact finC [(4, .v (.int .i64 x699))] [(4, .v (.int .i64 x699))] (by simp [leE, lk_cons]) (.cons _ _ _ _ _ (.v _ _ (.refl _)) .nil) (by rfl) (by simp [leE, lk_cons]) (by decide) (by decide) rfl (by simp only [go_sem, qa, qb, qc, qd, qe, qf, qg, qh, qi, qj, qk, ↓reduceIte, resQ_tmp, resQ_cell, resQ_nil, retD_one, retD_two, retD_three, retD_none]; try simp [R.val, retD_one, retD_two, retD_three, retD_none])
          · refine W_sound tab_ok mixed 14 _ _ _ ?_
            simp -implicitDefEqProofs only [go_sem, qa, qb, qc, qd, qe, qf, qg, qh, qi, qj, qk, ↓reduceIte, h662, h665, h669, g670, g671, g672, h673, h675, g676, g677, h678, h698, h700]
            repeat with_reducible refine ⟨by first | kernel_rfl | decide, ?_⟩
            exact cutQ _ ((Wk_le (.r (.r (.r (.k (.k (.k (.k (.r (.r (.r (.k (.k (.k (.r .nil)))))))))))))) (OLe.refl _)).trans (cmpS_ok (st' := ⟨[], [(0, .v (.lst false n663 c664)), (1, .v (.lst false n666 c667)), (4, .dead), (5, .dead), (6, .dead), (7, .dead), (8, .dead), (9, .v (.lst false n663 c664)), (10, .v (.int .i64 ((n663 : Nat) : Int))), (11, .v (.int .i64 (IntKind.i64.wrap (x668 + 1)))), (12, .dead), (19, .dead), (28, .dead), (35, .dead)], [], 0, []⟩) (by kernel_rfl))) ⟨n, Nat.lt_succ_self n, _, h704, rfl⟩
      · refine W_sound tab_ok mixed 7 _ _ _ ?_
        simp -implicitDefEqProofs only [go_sem, qa, qb, qc, qd, qe, qf, qg, qh, qi, qj, qk, ↓reduceIte, h662, h665, h669]
        repeat with_reducible refine ⟨by first | kernel_rfl | decide, ?_⟩
        obtain rfl := Option.some.inj h704
        exact cutQ _ ((Wk_le (.r (.r (.r (.r (.r (.r (.r (.k (.k (.k (.k (.r (.r (.r .nil)))))))))))))) (OLe.refl _)).trans (cmpS_ok (st' := ⟨[], [(0, .v (.lst false n663 c664)), (1, .v (.lst false n666 c667)), (4, .dead), (5, .dead), (6, .dead), (7, .dead), (8, .dead), (9, .dead), (10, .dead), (11, .dead), (12, .dead), (19, .dead), (28, .dead), (35, .dead)], [], 0, []⟩) (by kernel_rfl))) ⟨rfl, rfl⟩
  · rintro _ ⟨rfl, rfl⟩
    (try dsimp only at h705)
    have hh := brn_some h705; clear h705; rcases hh with ⟨h702, h705⟩ | ⟨h702, h705⟩
    · refine W_sound tab_ok mixed 16 _ _ _ ?_
      simp -implicitDefEqProofs only [go_sem, qa, qb, qc, qd, qe, qf, qg, qh, qi, qj, qk, ↓reduceIte, h662, h665, h702]
      repeat with_reducible refine ⟨by first | kernel_rfl | decide, ?_⟩
      obtain rfl := Option.some.inj h705
      exact finC [(4, .v (.int .i64 (-1)))] [(4, .v (.int .i64 (-1)))] (by simp [leE, lk_cons]) (.cons _ _ _ _ _ (.v _ _ (.refl _)) .nil) (by rfl) (by simp [leE, lk_cons]) (by decide) (by decide) rfl (by simp only [go_sem, qa, qb, qc, qd, qe, qf, qg, qh, qi, qj, qk, ↓reduceIte, resQ_tmp, resQ_cell, resQ_nil, retD_one, retD_two, retD_three, retD_none]; try simp [R.val, retD_one, retD_two, retD_three, retD_none])
    · refine W_sound tab_ok mixed 17 _ _ _ ?_
      simp -implicitDefEqProofs only [go_sem, qa, qb, qc, qd, qe, qf, qg, qh, qi, qj, qk, ↓reduceIte, h662, h665, h702]
      repeat with_reducible refine ⟨by first | kernel_rfl | decide, ?_⟩
      obtain rfl := Option.some.inj h705
      exact finC [(4, .v (.int .i64 0))] [(4, .v (.int .i64 0))] (by simp [leE, lk_cons]) (.cons _ _ _ _ _ (.v _ _ (.refl _)) .nil) (by rfl) (by simp [leE, lk_cons]) (by decide) (by decide) rfl (by simp only [go_sem, qa, qb, qc, qd, qe, qf, qg, qh, qi, qj, qk, ↓reduceIte, resQ_tmp, resQ_cell, resQ_nil, retD_one, retD_two, retD_three, retD_none]; try simp [R.val, retD_one, retD_two, retD_three, retD_none])
end Go.Proofs.YtnponojgpkbagaaDoor
namespace Go.Proofs.YtnponojgpkbagaaDoor
open Go.V
set_option maxRecDepth 100000
set_option maxHeartbeats 4000000
set_option linter.unusedSimpArgs false
set_option linter.unusedVariables false
attribute [local go_sem] tl1 tl2 tl3 tl4 tl5 tl9 tl17 tl21 tl22 tl23 tl24 tl25 tl26 tl27 tl28 tl29 tl31 tl32 tl34 tl35 tl36 tl37 tl38 tl39 tl40 tl41 tl42 tl43 tl44 tl45 tl47 tl48 tl49 tl50 tl51 tl52 tl53 tl54 tl55 tl56 tl57 tl58 tl59 tl60 tl61 tl62 tl63 tl64 tl65 tl66 tl67 tl68 tl69 tl70 tl71 tl72 tl73 tl74 tl75 tl76 tl77 tl78 tl79 tl80 tl81 tl82 tl83 tl84 tl85 tl86 tl87 tl88 tl89 tl90 tl92 tl94 tl95 tl96 tl97 tl98 tl99 tl100 tl101 tl102 tl103 tl104 tl105 tl106 tl107 tl108 tl109 tl110 tl111 tl112 tl113 tl114 tl115 tl116 tl118 tl119 tl121 tl122 tl123 tl124 tl125 tl126 tl127 tl128 tl129 tl131 tl133 tl134 tl135 tl136 tl142 tl146
def m16 (N : Nat) : Option PV := some (.bool true)
theorem c16 (N : Nat) (r : PV) (h : m16 N = some r) : FnP Tryd.prog 16 [] r := by
  obtain rfl := Option.some.inj h
  exact k29
end Go.Proofs.YtnponojgpkbagaaDoor
namespace Go.Proofs.YtnponojgpkbagaaDoor
open Go.V
open Nat renaming reduceBEq → qa, reduceAdd → qb, reduceSub → qc, reduceMul → qd, reduceLT → qe, reduceLeDiff → qf
open Int renaming reduceLE → qg, reduceLT → qh, reduceToNat → qi, reduceBEq → qj, reduceBNe → qk
set_option maxRecDepth 100000
set_option maxHeartbeats 4000000
set_option linter.unusedSimpArgs false
set_option linter.unusedVariables false
attribute [local go_sem] tl1 tl2 tl3 tl4 tl5 tl9 tl17 tl21 tl22 tl23 tl24 tl25 tl26 tl27 tl28 tl29 tl31 tl32 tl34 tl35 tl36 tl37 tl38 tl39 tl40 tl41 tl42 tl43 tl44 tl45 tl47 tl48 tl49 tl50 tl51 tl52 tl53 tl54 tl55 tl56 tl57 tl58 tl59 tl60 tl61 tl62 tl63 tl64 tl65 tl66 tl67 tl68 tl69 tl70 tl71 tl72 tl73 tl74 tl75 tl76 tl77 tl78 tl79 tl80 tl81 tl82 tl83 tl84 tl85 tl86 tl87 tl88 tl89 tl90 tl92 tl94 tl95 tl96 tl97 tl98 tl99 tl100 tl101 tl102 tl103 tl104 tl105 tl106 tl107 tl108 tl109 tl110 tl111 tl112 tl113 tl114 tl115 tl116 tl118 tl119 tl121 tl122 tl123 tl124 tl125 tl126 tl127 tl128 tl129 tl131 tl133 tl134 tl135 tl136 tl142 tl146
def m100 (N : Nat) (b4649 : Bool) : Option ((PV × Bool)) :=
  some ((.bool false), true)
theorem c100 (N : Nat) (b4649 : Bool) (r : PV) (b4651 : Bool) (h : m100 N b4649 = some (r, b4651)) : V.Fn Tryd.prog 100 1 [.v .nl, .ptr 0 0] [(0, .p [(.bool b4649)])] (fun d ob' => d = .v r ∧ ob' = [(0, .p [(.bool b4651)])]) := by
  unfold m100 at h
  refine Fn_of (sz := 4) tab_ok [0, 1, 3] [.tmp 3] Tryd.func100 rfl rfl rfl (by simp) ?_
  simp only [initSt, initEnv, List.map_cons, List.map_nil, List.getD_cons_zero, List.getD_cons_succ, List.getD_nil]
  refine W_sound tab_ok mixed 14 _ _ _ ?_
  simp -implicitDefEqProofs only [go_sem, qa, qb, qc, qd, qe, qf, qg, qh, qi, qj, qk, ↓reduceIte]
  repeat with_reducible refine ⟨by first | kernel_rfl | decide, ?_⟩
  simp only [Option.some.injEq, Prod.mk.injEq] at h; obtain ⟨rfl, rfl⟩ := h
  exact finD (e2 := [(0, .dead), (1, .dead), (3, .v (.bool false))]) (ob2 := [(0, .p [(.bool true)])]) (st' := ⟨[], [(0, .dead), (1, .dead), (3, .v (.bool false))], [(0, .p [(.bool true)])], 1, []⟩) (.k (.k (.r .nil))) (.cons _ _ _ _ _ (DLes.refl _) .nil) (by kernel_rfl) (by simp only [go_sem, qa, qb, qc, qd, qe, qf, qg, qh, qi, qj, qk, ↓reduceIte, resQ_tmp, resQ_cell, resQ_nil, retD_one, retD_two, retD_three, retD_none]; try simp [R.val, retD_one, retD_two, retD_three, retD_none])
def m100_2 (N : Nat) (p4715 : PV) (b4716 : Bool) : Option ((PV × Bool)) :=
  getL p4715 fun n4719 c4720 =>
  some ((.bool false), true)
theorem c100_2 (N : Nat) (p4715 : PV) (b4716 : Bool) (r : PV) (b4721 : Bool) (h : m100_2 N p4715 b4716 = some (r, b4721)) : V.Fn Tryd.prog 100 1 [.v p4715, .ptr 0 0] [(0, .p [(.bool b4716)])] (fun d ob' => d = .v r ∧ ob' = [(0, .p [(.bool b4721)])]) := by
  unfold m100_2 at h
  refine Fn_of (sz := 4) tab_ok [0, 1, 3] [.tmp 3] Tryd.func100 rfl rfl rfl (by simp) ?_
  simp only [initSt, initEnv, List.map_cons, List.map_nil, List.getD_cons_zero, List.getD_cons_succ, List.getD_nil]
  have hh := getL_some h; clear h; obtain ⟨n4719, c4720, h4718, h⟩ := hh
  refine W_sound tab_ok mixed 14 _ _ _ ?_
  simp -implicitDefEqProofs only [go_sem, qa, qb, qc, qd, qe, qf, qg, qh, qi, qj, qk, ↓reduceIte, h4718]
  repeat with_reducible refine ⟨by first | kernel_rfl | decide, ?_⟩
  simp only [Option.some.injEq, Prod.mk.injEq] at h; obtain ⟨rfl, rfl⟩ := h
  exact finD (e2 := [(0, .dead), (1, .dead), (3, .v (.bool false))]) (ob2 := [(0, .p [(.bool true)])]) (st' := ⟨[], [(0, .dead), (1, .dead), (3, .v (.bool false))], [(0, .p [(.bool true)])], 1, []⟩) (.k (.k (.r .nil))) (.cons _ _ _ _ _ (DLes.refl _) .nil) (by kernel_rfl) (by simp only [go_sem, qa, qb, qc, qd, qe, qf, qg, qh, qi, qj, qk, ↓reduceIte, resQ_tmp, resQ_cell, resQ_nil, retD_one, retD_two, retD_three, retD_none]; try simp [R.val, retD_one, retD_two, retD_three, retD_none])
def m99_6_L0 (N : Nat) (rec : PV → PV → PV → Bool → PV → PV → Option ((PV × PV × Bool × PV))) (p4778 : PV) (n4784 : Nat) (c4785 : List PV) (p4787 : PV) (p4788 : PV) (p4789 : PV) (p4790 : PV) (p4791 : PV) (n4813 : Nat) (c4814 : List PV) : Nat → Int → PV → Bool → PV → Option (((PV × PV × Bool × PV) ⊕ (PV × Bool × PV)))
  | 0, _, _, _, _ => none
  | n + 1, x4847, p4848, b4849, p4850 =>
    brn (decide (x4847 < ((n4813 : Nat) : Int))) (
      grd (0 ≤ x4847 ∧ x4847 < ((n4813 : Nat) : Int)) <|
      grd (2 ≤ List.length (List.drop ((Int.toNat x4847) * 2) c4814)) <|
      getA2 (.agg (List.take 2 (List.drop ((Int.toNat x4847) * 2) c4814))) fun p4856 p4857 =>
      bnd' (m71 N (.agg [p4787, p4788, p4789, p4790, p4791]) (.agg [p4856, p4857])) fun p4858 =>
      getB p4858 fun b4861 =>
      brn b4861 (
        m99_6_L0 N rec p4778 n4784 c4785 p4787 p4788 p4789 p4790 p4791 n4813 c4814 n (IntKind.i64.wrap (x4847 + 1)) p4848 b4849 p4850) (
        grd (((n4784 : Nat) : Int) ≤ ((n4784 : Nat) : Int)) <|
        grd (List.length c4785 = n4784) <|
        grd ((n4784 + 1) ≤ 1099511627776) <|
        bnd' (m98 N (.agg [p4787, p4788, p4789, p4790, p4791]) (.agg [p4856, p4857])) fun p4866 =>
        getA5 p4866 fun p4869 p4870 p4871 p4872 p4873 =>
        bnd' (rec (.lst false (n4784 + 1) (c4785 ++ [(.int .i64 x4847)])) (.agg [p4869, p4870, p4871, p4872, p4873]) p4848 b4849 p4778 p4850) fun (p4874, p4876, b4877, p4878) =>
        getB p4874 fun b4880 =>
        brn b4880 (
          m99_6_L0 N rec p4778 n4784 c4785 p4787 p4788 p4789 p4790 p4791 n4813 c4814 n (IntKind.i64.wrap (x4847 + 1)) p4876 b4877 p4878) (
          some (.inl ((.bool false), p4876, b4877, p4878))))) (
      some (.inr (p4848, b4849, p4850)))
def m99_6 (N : Nat) : Nat → PV → PV → PV → Bool → PV → PV → Option ((PV × PV × Bool × PV))
  | 0, _, _, _, _, _, _ => none
  | fu + 1, p4774, p4775, p4776, b4777, p4778, p4779 =>
    getL p4774 fun n4784 c4785 =>
    getA5 p4775 fun p4787 p4788 p4789 p4790 p4791 =>
    getL p4776 fun n4793 c4794 =>
    brn (((n4784 : Nat) : Int) == ((n4793 : Nat) : Int)) (
      bnd' (m100_2 N (.lst false n4784 c4785) b4777) fun (p4796, b4798) =>
      getB p4796 fun b4800 =>
      some ((.bool b4800), (.lst false n4793 c4794), b4798, p4779)) (
      getL p4779 fun n4802 c4803 =>
      grd (0 ≤ ((n4784 : Nat) : Int) ∧ ((n4784 : Nat) : Int) < ((n4793 : Nat) : Int)) <|
      grd (0 < List.length (List.drop n4784 c4794)) <|
      getI .i64 (gp c4794 n4784) fun x4808 =>
      grd (0 ≤ x4808 ∧ x4808 < ((n4802 : Nat) : Int)) <|
      grd (0 < List.length (List.drop (Int.toNat x4808) c4803)) <|
      getL (gp c4803 (Int.toNat x4808)) fun n4813 c4814 =>
      bnd' (m99_6_L0 N (m99_6 N fu) p4778 n4784 c4785 p4787 p4788 p4789 p4790 p4791 n4813 c4814 N 0 (.lst false n4793 c4794) b4777 (.lst false n4802 c4803)) fun o =>
      match o with
      | .inl p4882 =>
        some p4882
      | .inr (p4883, b4884, p4885) =>
        some ((.bool true), p4883, b4884, p4885))
theorem c99_6 (N : Nat) : ∀ (fu : Nat) (p4774 : PV) (p4775 : PV) (p4776 : PV) (b4777 : Bool) (p4778 : PV) (p4779 : PV) (r : PV) (p4889 : PV) (b4890 : Bool) (p4891 : PV) (h : m99_6 N fu p4774 p4775 p4776 b4777 p4778 p4779 = some (r, p4889, b4890, p4891)), V.Fn Tryd.prog 99 5 [.v p4774, .v p4775, .ptr 0 0, .ptr 1 0, .ptr 3 0, .ptr 4 0] [(0, .p [p4776]), (1, .r [.fn 100 [.ptr 2 0]]), (2, .p [(.bool b4777)]), (3, .p [p4778, p4779]), (4, .r [.fn 99 [.ptr 0 0, .ptr 1 0, .ptr 3 0, .ptr 4 0]])] (fun d ob' => d = .v r ∧ ob' = [(0, .p [p4889]), (1, .r [.fn 100 [.ptr 2 0]]), (2, .p [(.bool b4890)]), (3, .p [p4778, p4891]), (4, .r [.fn 99 [.ptr 0 0, .ptr 1 0, .ptr 3 0, .ptr 4 0]])]) := by
  intro fu
  induction fu with
  | zero => intro p4774 p4775 p4776 b4777 p4778 p4779 r p4889 b4890 p4891 h; cases h
  | succ fu ih =>
    intro p4774 p4775 p4776 b4777 p4778 p4779 r p4889 b4890 p4891 h
    rw [m99_6] at h
    refine Fn_of (sz := 55) tab_ok [0, 1, 2, 3, 4, 5, 7, 8, 9, 10, 11, 17, 28, 29, 30, 31, 53] [.tmp 8] Tryd.func99 rfl rfl rfl (by simp) ?_
    simp only [initSt, initEnv, List.map_cons, List.map_nil, List.getD_cons_zero, List.getD_cons_succ, List.getD_nil]
    have hh := getL_some h; clear h; obtain ⟨n4784, c4785, h4783, h⟩ := hh
    have hh := getA5_some h; clear h; obtain ⟨p4787, p4788, p4789, p4790, p4791, h4786, h⟩ := hh
    have hh := getL_some h; clear h; obtain ⟨n4793, c4794, h4792, h⟩ := hh
    have hh := brn_some h; clear h; rcases hh with ⟨h4795, h⟩ | ⟨h4795, h⟩
    · have hh := bnd'_some h; clear h; obtain ⟨⟨p4796, b4798⟩, h4797, h⟩ := hh
      (try dsimp only at h)
      refine W_sound tab_ok mixed 24 _ _ _ ?_
      simp -implicitDefEqProofs only [go_sem, qa, qb, qc, qd, qe, qf, qg, qh, qi, qj, qk, ↓reduceIte, h4783, h4786, h4792, h4795]
      repeat with_reducible refine ⟨by first | kernel_rfl | decide, ?_⟩
      refine Wp_callD [2] (c100_2 N _ _ _ _ h4797) rfl rfl rfl (by first | rfl | (simp only [go_sem, qa, qb, qc, qd, qe, qf, qg, qh, qi, qj, qk, ↓reduceIte, h4783, h4786, h4792, h4795] <;> rfl)) rfl (by kernel_rfl) ?_
      have hh := getB_some h; clear h; obtain ⟨b4800, h4799, h⟩ := hh
      refine W_sound tab_ok mixed 4 _ _ _ ?_
      simp -implicitDefEqProofs only [go_sem, qa, qb, qc, qd, qe, qf, qg, qh, qi, qj, qk, ↓reduceIte, h4783, h4786, h4792, h4795, h4799]
      repeat with_reducible refine ⟨by first | kernel_rfl | decide, ?_⟩
      simp only [Option.some.injEq, Prod.mk.injEq] at h; obtain ⟨rfl, rfl, rfl, rfl⟩ := h
      exact finD (e2 := [(0, .dead), (1, .dead), (2, .dead), (3, .dead), (4, .dead), (5, .dead), (7, .dead), (8, .v (.bool b4800)), (9, .dead), (10, .dead), (11, .dead), (17, .dead), (28, .dead), (29, .dead), (30, .dead), (31, .dead), (53, .dead)]) (ob2 := [(0, .p [(.lst false n4793 c4794)]), (1, .r [.fn 100 [.ptr 2 0]]), (3, .p [p4778, p4779]), (4, .r [.fn 99 [.ptr 0 0, .ptr 1 0, .ptr 3 0, .ptr 4 0]]), (12, .p [p4787, p4788, p4789, p4790, p4791]), (2, .p [(.bool b4798)])]) (st' := ⟨[], [(0, .dead), (1, .dead), (2, .dead), (3, .dead), (4, .dead), (5, .dead), (7, .dead), (8, .v (.bool b4800)), (9, .dead), (10, .dead), (11, .dead), (17, .dead), (28, .dead), (29, .dead), (30, .dead), (31, .dead), (53, .dead)], [(0, .p [(.lst false n4793 c4794)]), (1, .r [.fn 100 [.ptr 2 0]]), (2, .p [(.bool b4798)]), (3, .p [p4778, p4779]), (4, .r [.fn 99 [.ptr 0 0, .ptr 1 0, .ptr 3 0, .ptr 4 0]])], 5, []⟩) (.k (.k (.k (.k (.k (.k (.k (.r (.k (.r (.r (.k (.r (.r (.r (.r (.r .nil))))))))))))))))) (.cons _ _ _ _ _ (DLes.refl _) (.cons _ _ _ _ _ (DLes.refl _) (.cons _ _ _ _ _ (DLes.refl _) (.cons _ _ _ _ _ (DLes.refl _) (.cons _ _ _ _ _ (DLes.refl _) (.cons _ _ _ _ _ (DLes.refl _) .nil)))))) (by kernel_rfl) (by simp only [go_sem, qa, qb, qc, qd, qe, qf, qg, qh, qi, qj, qk, ↓reduceIte, resQ_tmp, resQ_cell, resQ_nil, retD_one, retD_two, retD_three, retD_none]; try simp [R.val, retD_one, retD_two, retD_three, retD_none])
    · have hh := getL_some h; clear h; obtain ⟨n4802, c4803, h4801, h⟩ := hh
      have hh := grd_some h; clear h; obtain ⟨⟨g4804, g4805⟩, h⟩ := hh
      have hh := grd_some h; clear h; obtain ⟨g4806, h⟩ := hh
      have hh := getI_some h; clear h; obtain ⟨x4808, h4807, h⟩ := hh
      have hh := grd_some h; clear h; obtain ⟨⟨g4809, g4810⟩, h⟩ := hh
      have hh := grd_some h; clear h; obtain ⟨g4811, h⟩ := hh
      have hh := getL_some h; clear h; obtain ⟨n4813, c4814, h4812, h⟩ := hh
      refine W_sound tab_ok mixed 35 _ _ _ ?_
      simp -implicitDefEqProofs only [go_sem, qa, qb, qc, qd, qe, qf, qg, qh, qi, qj, qk, ↓reduceIte, h4783, h4786, h4792, h4795, h4801, g4804, g4805, g4806, h4807, g4809, g4810, g4811, h4812]
      repeat with_reducible refine ⟨by first | kernel_rfl | decide, ?_⟩
      have hh := bnd'_some h; clear h; obtain ⟨o4892, h4893, h4894⟩ := hh
      refine Wp_cut (fun s => ∃ p4883, ∃ b4884, ∃ p4885, (.inr (p4883, b4884, p4885)) = o4892 ∧ s = ⟨[], [(0, .dead), (1, .dead), (2, .dead), (3, .dead), (4, .dead), (5, .dead), (7, .dead), (8, .dead), (9, .dead), (10, .dead), (11, .dead), (17, .dead), (28, .dead), (29, .dead), (30, .dead), (31, .dead), (53, .dead)], [(0, .p [p4883]), (1, .r [.fn 100 [.ptr 2 0]]), (2, .p [(.bool b4884)]), (3, .p [p4778, p4885]), (4, .r [.fn 99 [.ptr 0 0, .ptr 1 0, .ptr 3 0, .ptr 4 0]])], 5, []⟩) ?_ ?_
      · refine Wp_block ?_
        refine Wp_loopG (fun n s => ∃ x4847, ∃ p4848, ∃ b4849, ∃ p4850, m99_6_L0 N (m99_6 N fu) p4778 n4784 c4785 p4787 p4788 p4789 p4790 p4791 n4813 c4814 n x4847 p4848 b4849 p4850 = some o4892 ∧ s = ⟨[], [(0, .v (.lst false n4784 c4785)), (1, .dead), (2, .dead), (3, .dead), (4, .dead), (5, .ptr 4 0), (7, .ptr 5 0), (8, .dead), (9, .v (.int .i64 ((n4784 : Nat) : Int))), (10, .dead), (11, .dead), (17, .dead), (28, .v (.lst false n4813 c4814)), (29, .v (.int .i64 ((n4813 : Nat) : Int))), (30, .v (.int .i64 x4847)), (31, .dead), (53, .dead)], [(0, .p [p4848]), (1, .r [.fn 100 [.ptr 2 0]]), (2, .p [(.bool b4849)]), (3, .p [p4778, p4850]), (4, .r [.fn 99 [.ptr 0 0, .ptr 1 0, .ptr 3 0, .ptr 4 0]]), (5, .p [p4787, p4788, p4789, p4790, p4791])], 6, []⟩) N _ ((Wk_le (.r (.k (.k (.k (.k (.r (.r (.k (.r (.r (.r (.k (.r (.r (.r (.r (.r .nil))))))))))))))))) (OLe.refl _)).trans (cmpS_ok (st' := ⟨[], [(0, .v (.lst false n4784 c4785)), (1, .dead), (2, .dead), (3, .dead), (4, .dead), (5, .ptr 4 0), (7, .ptr 5 0), (8, .dead), (9, .v (.int .i64 ((n4784 : Nat) : Int))), (10, .dead), (11, .dead), (17, .dead), (28, .v (.lst false n4813 c4814)), (29, .v (.int .i64 ((n4813 : Nat) : Int))), (30, .v (.int .i64 0)), (31, .dead), (53, .dead)], [(0, .p [(.lst false n4793 c4794)]), (1, .r [.fn 100 [.ptr 2 0]]), (2, .p [(.bool b4777)]), (3, .p [p4778, (.lst false n4802 c4803)]), (4, .r [.fn 99 [.ptr 0 0, .ptr 1 0, .ptr 3 0, .ptr 4 0]]), (5, .p [p4787, p4788, p4789, p4790, p4791])], 6, []⟩) (by kernel_rfl))) ⟨_, _, _, _, h4893, rfl⟩ ?_
        clear h4893
        rintro n _ ⟨x4847, p4848, b4849, p4850, h4893, rfl⟩
        cases n with
        | zero => cases h4893
        | succ n =>
          rw [m99_6_L0] at h4893
          have hh := brn_some h4893; clear h4893; rcases hh with ⟨h4851, h4893⟩ | ⟨h4851, h4893⟩
          · have hh := grd_some h4893; clear h4893; obtain ⟨⟨g4852, g4853⟩, h4893⟩ := hh
            have hh := grd_some h4893; clear h4893; obtain ⟨g4854, h4893⟩ := hh
            have hh := getA2_some h4893; clear h4893; obtain ⟨p4856, p4857, h4855, h4893⟩ := hh
            injection h4855 with h4855
            have hh := bnd'_some h4893; clear h4893; obtain ⟨p4858, h4859, h4893⟩ := hh
            refine W_sound tab_ok mixed 22 _ _ _ ?_
            simp -implicitDefEqProofs only [go_sem, qa, qb, qc, qd, qe, qf, qg, qh, qi, qj, qk, ↓reduceIte, h4783, h4786, h4792, h4795, h4801, g4804, g4805, g4806, h4807, g4809, g4810, g4811, h4812, h4851, g4852, g4853, g4854, h4855]
            repeat with_reducible refine ⟨by first | kernel_rfl | decide, ?_⟩
            refine Wp_callP (c71 N _ _ _ h4859) (by kernel_rfl) rfl rfl rfl rfl (by decide) ?_
            have hh := getB_some h4893; clear h4893; obtain ⟨b4861, h4860, h4893⟩ := hh
            have hh := brn_some h4893; clear h4893; rcases hh with ⟨h4862, h4893⟩ | ⟨h4862, h4893⟩
            · refine W_sound tab_ok mixed 24 _ _ _ ?_
              simp -implicitDefEqProofs only [go_sem, qa, qb, qc, qd, qe, qf, qg, qh, qi, qj, qk, ↓reduceIte, h4783, h4786, h4792, h4795, h4801, g4804, g4805, g4806, h4807, g4809, g4810, g4811, h4812, h4851, g4852, g4853, g4854, h4855, h4860, h4862]
              repeat with_reducible refine ⟨by first | kernel_rfl | decide, ?_⟩
              exact cutQ _ ((Wk_le (.r (.r (.r (.r (.r (.r (.r (.r (.r (.k (.k (.r (.r (.r (.r (.k (.k .nil))))))))))))))))) (OLe.refl _)).trans (cmpS_ok (st' := ⟨[], [(0, .v (.lst false n4784 c4785)), (1, .dead), (2, .dead), (3, .dead), (4, .dead), (5, .ptr 4 0), (7, .ptr 5 0), (8, .dead), (9, .v (.int .i64 ((n4784 : Nat) : Int))), (10, .dead), (11, .dead), (17, .dead), (28, .v (.lst false n4813 c4814)), (29, .v (.int .i64 ((n4813 : Nat) : Int))), (30, .v (.int .i64 (IntKind.i64.wrap (x4847 + 1)))), (31, .dead), (53, .dead)], [(0, .p [p4848]), (1, .r [.fn 100 [.ptr 2 0]]), (2, .p [(.bool b4849)]), (3, .p [p4778, p4850]), (4, .r [.fn 99 [.ptr 0 0, .ptr 1 0, .ptr 3 0, .ptr 4 0]]), (5, .p [p4787, p4788, p4789, p4790, p4791])], 6, []⟩) (by kernel_rfl))) ⟨n, Nat.lt_succ_self n, _, _, _, _, h4893, rfl⟩
            · have hh := grd_some h4893; clear h4893; obtain ⟨g4863, h4893⟩ := hh
              have hh := grd_some h4893; clear h4893; obtain ⟨g4864, h4893⟩ := hh
              have hh := grd_some h4893; clear h4893; obtain ⟨g4865, h4893⟩ := hh
              have hh := bnd'_some h4893; clear h4893; obtain ⟨p4866, h4867, h4893⟩ := hh
              refine W_sound tab_ok mixed 12 _ _ _ ?_
              simp -implicitDefEqProofs only [go_sem, qa, qb, qc, qd, qe, qf, qg, qh, qi, qj, qk, ↓reduceIte, h4783, h4786, h4792, h4795, h4801, g4804, g4805, g4806, h4807, g4809, g4810, g4811, h4812, h4851, g4852, g4853, g4854, h4855, h4860, h4862, g4863, g4864, g4865]
              repeat with_reducible refine ⟨by first | kernel_rfl | decide, ?_⟩
              refine Wp_callP (c98 N _ _ _ h4867) (by kernel_rfl) rfl rfl rfl rfl (by decide) ?_
              have hh := getA5_some h4893; clear h4893; obtain ⟨p4869, p4870, p4871, p4872, p4873, h4868, h4893⟩ := hh
              have hh := bnd'_some h4893; clear h4893; obtain ⟨⟨p4874, p4876, b4877, p4878⟩, h4875, h4893⟩ := hh
              (try dsimp only at h4893)
              (try simp -implicitDefEqProofs only [go_sem, qa, qb, qc, qd, qe, qf, qg, qh, qi, qj, qk, ↓reduceIte, h4783, h4786, h4792, h4795, h4801, g4804, g4805, g4806, h4807, g4809, g4810, g4811, h4812, h4851, g4852, g4853, g4854, h4855, h4860, h4862, g4863, g4864, g4865, h4868])
              refine Wp_callDF [(65, (c4785 ++ [(.int .i64 x4847)]))] [0, 1, 2, 3, 4] (ih _ _ _ _ _ _ _ _ _ _ h4875) rfl rfl rfl (by first | rfl | (simp only [go_sem, qa, qb, qc, qd, qe, qf, qg, qh, qi, qj, qk, ↓reduceIte, h4783, h4786, h4792, h4795, h4801, g4804, g4805, g4806, h4807, g4809, g4810, g4811, h4812, h4851, g4852, g4853, g4854, h4855, h4860, h4862, g4863, g4864, g4865, h4868] <;> rfl)) rfl (by kernel_rfl) rfl rfl (by simp [roF, obL]) ?_
              have hh := getB_some h4893; clear h4893; obtain ⟨b4880, h4879, h4893⟩ := hh
              have hh := brn_some h4893; clear h4893; rcases hh with ⟨h4881, h4893⟩ | ⟨h4881, h4893⟩
              · refine W_sound tab_ok mixed 10 _ _ _ ?_
                simp -implicitDefEqProofs only [go_sem, qa, qb, qc, qd, qe, qf, qg, qh, qi, qj, qk, ↓reduceIte, h4783, h4786, h4792, h4795, h4801, g4804, g4805, g4806, h4807, g4809, g4810, g4811, h4812, h4851, g4852, g4853, g4854, h4855, h4860, h4862, g4863, g4864, g4865, h4868, h4879, h4881]
                repeat with_reducible refine ⟨by first | kernel_rfl | decide, ?_⟩
                exact cutQ _ ((Wk_le (.r (.r (.r (.r (.r (.r (.r (.r (.r (.k (.k (.r (.r (.r (.r (.k (.k .nil))))))))))))))))) (OLe.refl _)).trans (cmpS_ok (st' := ⟨[], [(0, .v (.lst false n4784 c4785)), (1, .dead), (2, .dead), (3, .dead), (4, .dead), (5, .ptr 4 0), (7, .ptr 5 0), (8, .dead), (9, .v (.int .i64 ((n4784 : Nat) : Int))), (10, .dead), (11, .dead), (17, .dead), (28, .v (.lst false n4813 c4814)), (29, .v (.int .i64 ((n4813 : Nat) : Int))), (30, .v (.int .i64 (IntKind.i64.wrap (x4847 + 1)))), (31, .dead), (53, .dead)], [(0, .p [p4876]), (1, .r [.fn 100 [.ptr 2 0]]), (2, .p [(.bool b4877)]), (3, .p [p4778, p4878]), (4, .r [.fn 99 [.ptr 0 0, .ptr 1 0, .ptr 3 0, .ptr 4 0]]), (5, .p [p4787, p4788, p4789, p4790, p4791])], 6, []⟩) (by kernel_rfl))) ⟨n, Nat.lt_succ_self n, _, _, _, _, h4893, rfl⟩
              · refine W_sound tab_ok mixed 10 _ _ _ ?_
                simp -implicitDefEqProofs only [go_sem, qa, qb, qc, qd, qe, qf, qg, qh, qi, qj, qk, ↓reduceIte, h4783, h4786, h4792, h4795, h4801, g4804, g4805, g4806, h4807, g4809, g4810, g4811, h4812, h4851, g4852, g4853, g4854, h4855, h4860, h4862, g4863, g4864, g4865, h4868, h4879, h4881]
                repeat with_reducible refine ⟨by first | kernel_rfl | decide, ?_⟩
                obtain rfl := Option.some.inj h4893
                (try dsimp only at h4894)
                simp only [Option.some.injEq, Prod.mk.injEq] at h4894; obtain ⟨rfl, rfl, rfl, rfl⟩ := h4894
                exact finD (e2 := [(0, .dead), (1, .dead), (2, .dead), (3, .dead), (4, .dead), (5, .dead), (7, .dead), (8, .v (.bool false)), (9, .dead), (10, .dead), (11, .dead), (17, .dead), (28, .dead), (29, .dead), (30, .dead), (31, .dead), (53, .dead)]) (ob2 := [(5, .p [p4787, p4788, p4789, p4790, p4791]), (17, .p [p4856, p4857]), (64, .p [(.int .i64 x4847)]), (4, .r [.fn 99 [.ptr 0 0, .ptr 1 0, .ptr 3 0, .ptr 4 0]]), (3, .p [p4778, p4878]), (2, .p [(.bool b4877)]), (1, .r [.fn 100 [.ptr 2 0]]), (0, .p [p4876])]) (st' := ⟨[], [(0, .dead), (1, .dead), (2, .dead), (3, .dead), (4, .dead), (5, .dead), (7, .dead), (8, .v (.bool false)), (9, .dead), (10, .dead), (11, .dead), (17, .dead), (28, .dead), (29, .dead), (30, .dead), (31, .dead), (53, .dead)], [(0, .p [p4876]), (1, .r [.fn 100 [.ptr 2 0]]), (2, .p [(.bool b4877)]), (3, .p [p4778, p4878]), (4, .r [.fn 99 [.ptr 0 0, .ptr 1 0, .ptr 3 0, .ptr 4 0]])], 5, []⟩) (.k (.r (.r (.r (.r (.k (.k (.r (.k (.k (.k (.r (.k (.k (.k (.k (.k .nil))))))))))))))))) (.cons _ _ _ _ _ (DLes.refl _) (.cons _ _ _ _ _ (DLes.refl _) (.cons _ _ _ _ _ (DLes.refl _) (.cons _ _ _ _ _ (DLes.refl _) (.cons _ _ _ _ _ (DLes.refl _) (.cons _ _ _ _ _ (DLes.refl _) (.cons _ _ _ _ _ (DLes.refl _) (.cons _ _ _ _ _ (DLes.refl _) .nil)))))))) (by kernel_rfl) (by simp only [go_sem, qa, qb, qc, qd, qe, qf, qg, qh, qi, qj, qk, ↓reduceIte, resQ_tmp, resQ_cell, resQ_nil, retD_one, retD_two, retD_three, retD_none]; try simp [R.val, retD_one, retD_two, retD_three, retD_none])
          · refine W_sound tab_ok mixed 7 _ _ _ ?_
            simp -implicitDefEqProofs only [go_sem, qa, qb, qc, qd, qe, qf, qg, qh, qi, qj, qk, ↓reduceIte, h4783, h4786, h4792, h4795, h4801, g4804, g4805, g4806, h4807, g4809, g4810, g4811, h4812, h4851]
            repeat with_reducible refine ⟨by first | kernel_rfl | decide, ?_⟩
            obtain rfl := Option.some.inj h4893
            exact cutQ _ ((Wk_le (.k (.r (.r (.r (.r (.k (.k (.r (.k (.r (.r (.r (.k (.k (.k (.k (.r .nil))))))))))))))))) (OLe.refl _)).trans (cmpS_ok (st' := ⟨[], [(0, .dead), (1, .dead), (2, .dead), (3, .dead), (4, .dead), (5, .dead), (7, .dead), (8, .dead), (9, .dead), (10, .dead), (11, .dead), (17, .dead), (28, .dead), (29, .dead), (30, .dead), (31, .dead), (53, .dead)], [(0, .p [p4848]), (1, .r [.fn 100 [.ptr 2 0]]), (2, .p [(.bool b4849)]), (3, .p [p4778, p4850]), (4, .r [.fn 99 [.ptr 0 0, .ptr 1 0, .ptr 3 0, .ptr 4 0]])], 5, []⟩) (by kernel_rfl))) ⟨_, _, _, rfl, rfl⟩
      · rintro _ ⟨p4883, b4884, p4885, rfl, rfl⟩
        (try dsimp only at h4894)
        refine W_sound tab_ok mixed 6 _ _ _ ?_
        simp -implicitDefEqProofs only [go_sem, qa, qb, qc, qd, qe, qf, qg, qh, qi, qj, qk, ↓reduceIte, h4783, h4786, h4792, h4795, h4801, g4804, g4805, g4806, h4807, g4809, g4810, g4811, h4812]
        repeat with_reducible refine ⟨by first | kernel_rfl | decide, ?_⟩
        simp only [Option.some.injEq, Prod.mk.injEq] at h4894; obtain ⟨rfl, rfl, rfl, rfl⟩ := h4894
        exact finD (e2 := [(0, .dead), (1, .dead), (2, .dead), (3, .dead), (4, .dead), (5, .dead), (7, .dead), (8, .v (.bool true)), (9, .dead), (10, .dead), (11, .dead), (17, .dead), (28, .dead), (29, .dead), (30, .dead), (31, .dead), (53, .dead)]) (ob2 := [(0, .p [p4883]), (1, .r [.fn 100 [.ptr 2 0]]), (2, .p [(.bool b4884)]), (3, .p [p4778, p4885]), (4, .r [.fn 99 [.ptr 0 0, .ptr 1 0, .ptr 3 0, .ptr 4 0]])]) (st' := ⟨[], [(0, .dead), (1, .dead), (2, .dead), (3, .dead), (4, .dead), (5, .dead), (7, .dead), (8, .v (.bool true)), (9, .dead), (10, .dead), (11, .dead), (17, .dead), (28, .dead), (29, .dead), (30, .dead), (31, .dead), (53, .dead)], [(0, .p [p4883]), (1, .r [.fn 100 [.ptr 2 0]]), (2, .p [(.bool b4884)]), (3, .p [p4778, p4885]), (4, .r [.fn 99 [.ptr 0 0, .ptr 1 0, .ptr 3 0, .ptr 4 0]])], 5, []⟩) (.r (.r (.r (.r (.r (.r (.r (.r (.r (.r (.r (.r (.r (.r (.r (.r (.r .nil))))))))))))))))) (.cons _ _ _ _ _ (DLes.refl _) (.cons _ _ _ _ _ (DLes.refl _) (.cons _ _ _ _ _ (DLes.refl _) (.cons _ _ _ _ _ (DLes.refl _) (.cons _ _ _ _ _ (DLes.refl _) .nil))))) (by kernel_rfl) (by simp only [go_sem, qa, qb, qc, qd, qe, qf, qg, qh, qi, qj, qk, ↓reduceIte, resQ_tmp, resQ_cell, resQ_nil, retD_one, retD_two, retD_three, retD_none]; try simp [R.val, retD_one, retD_two, retD_three, retD_none])
def m99_5_L0 (N : Nat) (p4945 : PV) (p4951 : PV) (p4952 : PV) (p4953 : PV) (p4954 : PV) (p4955 : PV) (n4976 : Nat) (c4977 : List PV) : Nat → Int → PV → Bool → PV → Option (((PV × PV × Bool × PV) ⊕ (PV × Bool × PV)))
  | 0, _, _, _, _ => none
  | n + 1, x5007, p5008, b5009, p5010 =>
    brn (decide (x5007 < ((n4976 : Nat) : Int))) (
      grd (0 ≤ x5007 ∧ x5007 < ((n4976 : Nat) : Int)) <|
      grd (2 ≤ List.length (List.drop ((Int.toNat x5007) * 2) c4977)) <|
      getA2 (.agg (List.take 2 (List.drop ((Int.toNat x5007) * 2) c4977))) fun p5016 p5017 =>
      bnd' (m71 N (.agg [p4951, p4952, p4953, p4954, p4955]) (.agg [p5016, p5017])) fun p5018 =>
      getB p5018 fun b5021 =>
      brn b5021 (
        m99_5_L0 N p4945 p4951 p4952 p4953 p4954 p4955 n4976 c4977 n (IntKind.i64.wrap (x5007 + 1)) p5008 b5009 p5010) (
        bnd' (m98 N (.agg [p4951, p4952, p4953, p4954, p4955]) (.agg [p5016, p5017])) fun p5023 =>
        getA5 p5023 fun p5026 p5027 p5028 p5029 p5030 =>
        bnd' (m99_6 N N (.lst false 1 [(.int .i64 x5007)]) (.agg [p5026, p5027, p5028, p5029, p5030]) p5008 b5009 p4945 p5010) fun (p5031, p5033, b5034, p5035) =>
        getB p5031 fun b5037 =>
        brn b5037 (
          m99_5_L0 N p4945 p4951 p4952 p4953 p4954 p4955 n4976 c4977 n (IntKind.i64.wrap (x5007 + 1)) p5033 b5034 p5035) (
          some (.inl ((.bool false), p5033, b5034, p5035))))) (
      some (.inr (p5008, b5009, p5010)))
def m99_5 (N : Nat) (p4942 : PV) (p4943 : PV) (b4944 : Bool) (p4945 : PV) (p4946 : PV) : Option ((PV × PV × Bool × PV)) :=
  getA5 p4942 fun p4951 p4952 p4953 p4954 p4955 =>
  getL p4943 fun n4957 c4958 =>
  brn (0 == ((n4957 : Nat) : Int)) (
    bnd' (m100 N b4944) fun (p4960, b4962) =>
    getB p4960 fun b4964 =>
    some ((.bool b4964), (.lst false n4957 c4958), b4962, p4946)) (
    getL p4946 fun n4966 c4967 =>
    grd (0 < ((n4957 : Nat) : Int)) <|
    grd (0 < List.length c4958) <|
    getI .i64 (gp c4958 0) fun x4971 =>
    grd (0 ≤ x4971 ∧ x4971 < ((n4966 : Nat) : Int)) <|
    grd (0 < List.length (List.drop (Int.toNat x4971) c4967)) <|
    getL (gp c4967 (Int.toNat x4971)) fun n4976 c4977 =>
    bnd' (m99_5_L0 N p4945 p4951 p4952 p4953 p4954 p4955 n4976 c4977 N 0 (.lst false n4957 c4958) b4944 (.lst false n4966 c4967)) fun o =>
    match o with
    | .inl p5039 =>
      some p5039
    | .inr (p5040, b5041, p5042) =>
      some ((.bool true), p5040, b5041, p5042))
theorem c99_5 (N : Nat) (p4942 : PV) (p4943 : PV) (b4944 : Bool) (p4945 : PV) (p4946 : PV) (r : PV) (p5046 : PV) (b5047 : Bool) (p5048 : PV) (h : m99_5 N p4942 p4943 b4944 p4945 p4946 = some (r, p5046, b5047, p5048)) : V.Fn Tryd.prog 99 5 [.v .nl, .v p4942, .ptr 0 0, .ptr 1 0, .ptr 3 0, .ptr 4 0] [(0, .p [p4943]), (1, .r [.fn 100 [.ptr 2 0]]), (2, .p [(.bool b4944)]), (3, .p [p4945, p4946]), (4, .r [.fn 99 [.ptr 0 0, .ptr 1 0, .ptr 3 0, .ptr 4 0]])] (fun d ob' => d = .v r ∧ ob' = [(0, .p [p5046]), (1, .r [.fn 100 [.ptr 2 0]]), (2, .p [(.bool b5047)]), (3, .p [p4945, p5048]), (4, .r [.fn 99 [.ptr 0 0, .ptr 1 0, .ptr 3 0, .ptr 4 0]])]) := by
  unfold m99_5 at h
  refine Fn_of (sz := 55) tab_ok [0, 1, 2, 3, 4, 5, 7, 8, 9, 10, 11, 17, 28, 29, 30, 31, 53] [.tmp 8] Tryd.func99 rfl rfl rfl (by simp) ?_
  simp only [initSt, initEnv, List.map_cons, List.map_nil, List.getD_cons_zero, List.getD_cons_succ, List.getD_nil]
  have hh := getA5_some h; clear h; obtain ⟨p4951, p4952, p4953, p4954, p4955, h4950, h⟩ := hh
  have hh := getL_some h; clear h; obtain ⟨n4957, c4958, h4956, h⟩ := hh
  have hh := brn_some h; clear h; rcases hh with ⟨h4959, h⟩ | ⟨h4959, h⟩
  · have hh := bnd'_some h; clear h; obtain ⟨⟨p4960, b4962⟩, h4961, h⟩ := hh
    (try dsimp only at h)
    refine W_sound tab_ok mixed 24 _ _ _ ?_
    simp -implicitDefEqProofs only [go_sem, qa, qb, qc, qd, qe, qf, qg, qh, qi, qj, qk, ↓reduceIte, h4950, h4956, h4959]
    repeat with_reducible refine ⟨by first | kernel_rfl | decide, ?_⟩
    refine Wp_callD [2] (c100 N _ _ _ h4961) rfl rfl rfl (by first | rfl | (simp only [go_sem, qa, qb, qc, qd, qe, qf, qg, qh, qi, qj, qk, ↓reduceIte, h4950, h4956, h4959] <;> rfl)) rfl (by kernel_rfl) ?_
    have hh := getB_some h; clear h; obtain ⟨b4964, h4963, h⟩ := hh
    refine W_sound tab_ok mixed 4 _ _ _ ?_
    simp -implicitDefEqProofs only [go_sem, qa, qb, qc, qd, qe, qf, qg, qh, qi, qj, qk, ↓reduceIte, h4950, h4956, h4959, h4963]
    repeat with_reducible refine ⟨by first | kernel_rfl | decide, ?_⟩
    simp only [Option.some.injEq, Prod.mk.injEq] at h; obtain ⟨rfl, rfl, rfl, rfl⟩ := h
    exact finD (e2 := [(0, .dead), (1, .dead), (2, .dead), (3, .dead), (4, .dead), (5, .dead), (7, .dead), (8, .v (.bool b4964)), (9, .dead), (10, .dead), (11, .dead), (17, .dead), (28, .dead), (29, .dead), (30, .dead), (31, .dead), (53, .dead)]) (ob2 := [(0, .p [(.lst false n4957 c4958)]), (1, .r [.fn 100 [.ptr 2 0]]), (3, .p [p4945, p4946]), (4, .r [.fn 99 [.ptr 0 0, .ptr 1 0, .ptr 3 0, .ptr 4 0]]), (12, .p [p4951, p4952, p4953, p4954, p4955]), (2, .p [(.bool b4962)])]) (st' := ⟨[], [(0, .dead), (1, .dead), (2, .dead), (3, .dead), (4, .dead), (5, .dead), (7, .dead), (8, .v (.bool b4964)), (9, .dead), (10, .dead), (11, .dead), (17, .dead), (28, .dead), (29, .dead), (30, .dead), (31, .dead), (53, .dead)], [(0, .p [(.lst false n4957 c4958)]), (1, .r [.fn 100 [.ptr 2 0]]), (2, .p [(.bool b4962)]), (3, .p [p4945, p4946]), (4, .r [.fn 99 [.ptr 0 0, .ptr 1 0, .ptr 3 0, .ptr 4 0]])], 5, []⟩) (.k (.k (.k (.k (.k (.k (.k (.r (.k (.r (.r (.k (.r (.r (.r (.r (.r .nil))))))))))))))))) (.cons _ _ _ _ _ (DLes.refl _) (.cons _ _ _ _ _ (DLes.refl _) (.cons _ _ _ _ _ (DLes.refl _) (.cons _ _ _ _ _ (DLes.refl _) (.cons _ _ _ _ _ (DLes.refl _) (.cons _ _ _ _ _ (DLes.refl _) .nil)))))) (by kernel_rfl) (by simp only [go_sem, qa, qb, qc, qd, qe, qf, qg, qh, qi, qj, qk, ↓reduceIte, resQ_tmp, resQ_cell, resQ_nil, retD_one, retD_two, retD_three, retD_none]; try simp [R.val, retD_one, retD_two, retD_three, retD_none])
  · have hh := getL_some h; clear h; obtain ⟨n4966, c4967, h4965, h⟩ := hh
    have hh := grd_some h; clear h; obtain ⟨g4968, h⟩ := hh
    have hh := grd_some h; clear h; obtain ⟨g4969, h⟩ := hh
    have hh := getI_some h; clear h; obtain ⟨x4971, h4970, h⟩ := hh
    have hh := grd_some h; clear h; obtain ⟨⟨g4972, g4973⟩, h⟩ := hh
    have hh := grd_some h; clear h; obtain ⟨g4974, h⟩ := hh
    have hh := getL_some h; clear h; obtain ⟨n4976, c4977, h4975, h⟩ := hh
    refine W_sound tab_ok mixed 35 _ _ _ ?_
    simp -implicitDefEqProofs only [go_sem, qa, qb, qc, qd, qe, qf, qg, qh, qi, qj, qk, ↓reduceIte, h4950, h4956, h4959, h4965, g4968, g4969, h4970, g4972, g4973, g4974, h4975]
    repeat with_reducible refine ⟨by first | kernel_rfl | decide, ?_⟩
    have hh := bnd'_some h; clear h; obtain ⟨o5049, h5050, h5051⟩ := hh
    refine Wp_cut (fun s => ∃ p5040, ∃ b5041, ∃ p5042, (.inr (p5040, b5041, p5042)) = o5049 ∧ s = ⟨[], [(0, .dead), (1, .dead), (2, .dead), (3, .dead), (4, .dead), (5, .dead), (7, .dead), (8, .dead), (9, .dead), (10, .dead), (11, .dead), (17, .dead), (28, .dead), (29, .dead), (30, .dead), (31, .dead), (53, .dead)], [(0, .p [p5040]), (1, .r [.fn 100 [.ptr 2 0]]), (2, .p [(.bool b5041)]), (3, .p [p4945, p5042]), (4, .r [.fn 99 [.ptr 0 0, .ptr 1 0, .ptr 3 0, .ptr 4 0]])], 5, []⟩) ?_ ?_
    · refine Wp_block ?_
      refine Wp_loopG (fun n s => ∃ x5007, ∃ p5008, ∃ b5009, ∃ p5010, m99_5_L0 N p4945 p4951 p4952 p4953 p4954 p4955 n4976 c4977 n x5007 p5008 b5009 p5010 = some o5049 ∧ s = ⟨[], [(0, .v .nl), (1, .dead), (2, .dead), (3, .dead), (4, .dead), (5, .ptr 4 0), (7, .ptr 5 0), (8, .dead), (9, .v (.int .i64 0)), (10, .dead), (11, .dead), (17, .dead), (28, .v (.lst false n4976 c4977)), (29, .v (.int .i64 ((n4976 : Nat) : Int))), (30, .v (.int .i64 x5007)), (31, .dead), (53, .dead)], [(0, .p [p5008]), (1, .r [.fn 100 [.ptr 2 0]]), (2, .p [(.bool b5009)]), (3, .p [p4945, p5010]), (4, .r [.fn 99 [.ptr 0 0, .ptr 1 0, .ptr 3 0, .ptr 4 0]]), (5, .p [p4951, p4952, p4953, p4954, p4955])], 6, []⟩) N _ ((Wk_le (.r (.k (.k (.k (.k (.r (.r (.k (.r (.r (.r (.k (.r (.r (.r (.r (.r .nil))))))))))))))))) (OLe.refl _)).trans (cmpS_ok (st' := ⟨[], [(0, .v .nl), (1, .dead), (2, .dead), (3, .dead), (4, .dead), (5, .ptr 4 0), (7, .ptr 5 0), (8, .dead), (9, .v (.int .i64 0)), (10, .dead), (11, .dead), (17, .dead), (28, .v (.lst false n4976 c4977)), (29, .v (.int .i64 ((n4976 : Nat) : Int))), (30, .v (.int .i64 0)), (31, .dead), (53, .dead)], [(0, .p [(.lst false n4957 c4958)]), (1, .r [.fn 100 [.ptr 2 0]]), (2, .p [(.bool b4944)]), (3, .p [p4945, (.lst false n4966 c4967)]), (4, .r [.fn 99 [.ptr 0 0, .ptr 1 0, .ptr 3 0, .ptr 4 0]]), (5, .p [p4951, p4952, p4953, p4954, p4955])], 6, []⟩) (by kernel_rfl))) ⟨_, _, _, _, h5050, rfl⟩ ?_
      clear h5050
      rintro n _ ⟨x5007, p5008, b5009, p5010, h5050, rfl⟩
      cases n with
      | zero => cases h5050
      | succ n =>
        rw [m99_5_L0] at h5050
        have hh := brn_some h5050; clear h5050; rcases hh with ⟨h5011, h5050⟩ | ⟨h5011, h5050⟩
        · have hh := grd_some h5050; clear h5050; obtain ⟨⟨g5012, g5013⟩, h5050⟩ := hh
          have hh := grd_some h5050; clear h5050; obtain ⟨g5014, h5050⟩ := hh
          have hh := getA2_some h5050; clear h5050; obtain ⟨p5016, p5017, h5015, h5050⟩ := hh
          injection h5015 with h5015
          have hh := bnd'_some h5050; clear h5050; obtain ⟨p5018, h5019, h5050⟩ := hh
          refine W_sound tab_ok mixed 22 _ _ _ ?_
          simp -implicitDefEqProofs only [go_sem, qa, qb, qc, qd, qe, qf, qg, qh, qi, qj, qk, ↓reduceIte, h4950, h4956, h4959, h4965, g4968, g4969, h4970, g4972, g4973, g4974, h4975, h5011, g5012, g5013, g5014, h5015]
          repeat with_reducible refine ⟨by first | kernel_rfl | decide, ?_⟩
          refine Wp_callP (c71 N _ _ _ h5019) (by kernel_rfl) rfl rfl rfl rfl (by decide) ?_
          have hh := getB_some h5050; clear h5050; obtain ⟨b5021, h5020, h5050⟩ := hh
          have hh := brn_some h5050; clear h5050; rcases hh with ⟨h5022, h5050⟩ | ⟨h5022, h5050⟩
          · refine W_sound tab_ok mixed 24 _ _ _ ?_
            simp -implicitDefEqProofs only [go_sem, qa, qb, qc, qd, qe, qf, qg, qh, qi, qj, qk, ↓reduceIte, h4950, h4956, h4959, h4965, g4968, g4969, h4970, g4972, g4973, g4974, h4975, h5011, g5012, g5013, g5014, h5015, h5020, h5022]
            repeat with_reducible refine ⟨by first | kernel_rfl | decide, ?_⟩
            exact cutQ _ ((Wk_le (.r (.r (.r (.r (.r (.r (.r (.r (.r (.k (.k (.r (.r (.r (.r (.k (.k .nil))))))))))))))))) (OLe.refl _)).trans (cmpS_ok (st' := ⟨[], [(0, .v .nl), (1, .dead), (2, .dead), (3, .dead), (4, .dead), (5, .ptr 4 0), (7, .ptr 5 0), (8, .dead), (9, .v (.int .i64 0)), (10, .dead), (11, .dead), (17, .dead), (28, .v (.lst false n4976 c4977)), (29, .v (.int .i64 ((n4976 : Nat) : Int))), (30, .v (.int .i64 (IntKind.i64.wrap (x5007 + 1)))), (31, .dead), (53, .dead)], [(0, .p [p5008]), (1, .r [.fn 100 [.ptr 2 0]]), (2, .p [(.bool b5009)]), (3, .p [p4945, p5010]), (4, .r [.fn 99 [.ptr 0 0, .ptr 1 0, .ptr 3 0, .ptr 4 0]]), (5, .p [p4951, p4952, p4953, p4954, p4955])], 6, []⟩) (by kernel_rfl))) ⟨n, Nat.lt_succ_self n, _, _, _, _, h5050, rfl⟩
          · have hh := bnd'_some h5050; clear h5050; obtain ⟨p5023, h5024, h5050⟩ := hh
            refine W_sound tab_ok mixed 12 _ _ _ ?_
            simp -implicitDefEqProofs only [go_sem, qa, qb, qc, qd, qe, qf, qg, qh, qi, qj, qk, ↓reduceIte, h4950, h4956, h4959, h4965, g4968, g4969, h4970, g4972, g4973, g4974, h4975, h5011, g5012, g5013, g5014, h5015, h5020, h5022]
            repeat with_reducible refine ⟨by first | kernel_rfl | decide, ?_⟩
            refine Wp_callP (c98 N _ _ _ h5024) (by kernel_rfl) rfl rfl rfl rfl (by decide) ?_
            have hh := getA5_some h5050; clear h5050; obtain ⟨p5026, p5027, p5028, p5029, p5030, h5025, h5050⟩ := hh
            have hh := bnd'_some h5050; clear h5050; obtain ⟨⟨p5031, p5033, b5034, p5035⟩, h5032, h5050⟩ := hh
            (try dsimp only at h5050)
            (try simp -implicitDefEqProofs only [go_sem, qa, qb, qc, qd, qe, qf, qg, qh, qi, qj, qk, ↓reduceIte, h4950, h4956, h4959, h4965, g4968, g4969, h4970, g4972, g4973, g4974, h4975, h5011, g5012, g5013, g5014, h5015, h5020, h5022, h5025])
            refine Wp_callDF [(65, [(.int .i64 x5007)])] [0, 1, 2, 3, 4] (c99_6 N N _ _ _ _ _ _ _ _ _ _ h5032) rfl rfl rfl (by first | rfl | (simp only [go_sem, qa, qb, qc, qd, qe, qf, qg, qh, qi, qj, qk, ↓reduceIte, h4950, h4956, h4959, h4965, g4968, g4969, h4970, g4972, g4973, g4974, h4975, h5011, g5012, g5013, g5014, h5015, h5020, h5022, h5025] <;> rfl)) rfl (by kernel_rfl) rfl rfl (by simp [roF, obL]) ?_
            have hh := getB_some h5050; clear h5050; obtain ⟨b5037, h5036, h5050⟩ := hh
            have hh := brn_some h5050; clear h5050; rcases hh with ⟨h5038, h5050⟩ | ⟨h5038, h5050⟩
            · refine W_sound tab_ok mixed 10 _ _ _ ?_
              simp -implicitDefEqProofs only [go_sem, qa, qb, qc, qd, qe, qf, qg, qh, qi, qj, qk, ↓reduceIte, h4950, h4956, h4959, h4965, g4968, g4969, h4970, g4972, g4973, g4974, h4975, h5011, g5012, g5013, g5014, h5015, h5020, h5022, h5025, h5036, h5038]
              repeat with_reducible refine ⟨by first | kernel_rfl | decide, ?_⟩
              exact cutQ _ ((Wk_le (.r (.r (.r (.r (.r (.r (.r (.r (.r (.k (.k (.r (.r (.r (.r (.k (.k .nil))))))))))))))))) (OLe.refl _)).trans (cmpS_ok (st' := ⟨[], [(0, .v .nl), (1, .dead), (2, .dead), (3, .dead), (4, .dead), (5, .ptr 4 0), (7, .ptr 5 0), (8, .dead), (9, .v (.int .i64 0)), (10, .dead), (11, .dead), (17, .dead), (28, .v (.lst false n4976 c4977)), (29, .v (.int .i64 ((n4976 : Nat) : Int))), (30, .v (.int .i64 (IntKind.i64.wrap (x5007 + 1)))), (31, .dead), (53, .dead)], [(0, .p [p5033]), (1, .r [.fn 100 [.ptr 2 0]]), (2, .p [(.bool b5034)]), (3, .p [p4945, p5035]), (4, .r [.fn 99 [.ptr 0 0, .ptr 1 0, .ptr 3 0, .ptr 4 0]]), (5, .p [p4951, p4952, p4953, p4954, p4955])], 6, []⟩) (by kernel_rfl))) ⟨n, Nat.lt_succ_self n, _, _, _, _, h5050, rfl⟩
            · refine W_sound tab_ok mixed 10 _ _ _ ?_
              simp -implicitDefEqProofs only [go_sem, qa, qb, qc, qd, qe, qf, qg, qh, qi, qj, qk, ↓reduceIte, h4950, h4956, h4959, h4965, g4968, g4969, h4970, g4972, g4973, g4974, h4975, h5011, g5012, g5013, g5014, h5015, h5020, h5022, h5025, h5036, h5038]
              repeat with_reducible refine ⟨by first | kernel_rfl | decide, ?_⟩
              obtain rfl := Option.some.inj h5050
              (try dsimp only at h5051)
              simp only [Option.some.injEq, Prod.mk.injEq] at h5051; obtain ⟨rfl, rfl, rfl, rfl⟩ := h5051
              exact finD (e2 := [(0, .dead), (1, .dead), (2, .dead), (3, .dead), (4, .dead), (5, .dead), (7, .dead), (8, .v (.bool false)), (9, .dead), (10, .dead), (11, .dead), (17, .dead), (28, .dead), (29, .dead), (30, .dead), (31, .dead), (53, .dead)]) (ob2 := [(5, .p [p4951, p4952, p4953, p4954, p4955]), (17, .p [p5016, p5017]), (64, .p [(.int .i64 x5007)]), (4, .r [.fn 99 [.ptr 0 0, .ptr 1 0, .ptr 3 0, .ptr 4 0]]), (3, .p [p4945, p5035]), (2, .p [(.bool b5034)]), (1, .r [.fn 100 [.ptr 2 0]]), (0, .p [p5033])]) (st' := ⟨[], [(0, .dead), (1, .dead), (2, .dead), (3, .dead), (4, .dead), (5, .dead), (7, .dead), (8, .v (.bool false)), (9, .dead), (10, .dead), (11, .dead), (17, .dead), (28, .dead), (29, .dead), (30, .dead), (31, .dead), (53, .dead)], [(0, .p [p5033]), (1, .r [.fn 100 [.ptr 2 0]]), (2, .p [(.bool b5034)]), (3, .p [p4945, p5035]), (4, .r [.fn 99 [.ptr 0 0, .ptr 1 0, .ptr 3 0, .ptr 4 0]])], 5, []⟩) (.k (.r (.r (.r (.r (.k (.k (.r (.k (.k (.k (.r (.k (.k (.k (.k (.k .nil))))))))))))))))) (.cons _ _ _ _ _ (DLes.refl _) (.cons _ _ _ _ _ (DLes.refl _) (.cons _ _ _ _ _ (DLes.refl _) (.cons _ _ _ _ _ (DLes.refl _) (.cons _ _ _ _ _ (DLes.refl _) (.cons _ _ _ _ _ (DLes.refl _) (.cons _ _ _ _ _ (DLes.refl _) (.cons _ _ _ _ _ (DLes.refl _) .nil)))))))) (by kernel_rfl) (by simp only [go_sem, qa, qb, qc, qd, qe, qf, qg, qh, qi, qj, qk, ↓reduceIte, resQ_tmp, resQ_cell, resQ_nil, retD_one, retD_two, retD_three, retD_none]; try simp [R.val, retD_one, retD_two, retD_three, retD_none])
        · refine W_sound tab_ok mixed 7 _ _ _ ?_
          simp -implicitDefEqProofs only [go_sem, qa, qb, qc, qd, qe, qf, qg, qh, qi, qj, qk, ↓reduceIte, h4950, h4956, h4959, h4965, g4968, g4969, h4970, g4972, g4973, g4974, h4975, h5011]
          repeat with_reducible refine ⟨by first | kernel_rfl | decide, ?_⟩
          obtain rfl := Option.some.inj h5050
          exact cutQ _ ((Wk_le (.k (.r (.r (.r (.r (.k (.k (.r (.k (.r (.r (.r (.k (.k (.k (.k (.r .nil))))))))))))))))) (OLe.refl _)).trans (cmpS_ok (st' := ⟨[], [(0, .dead), (1, .dead), (2, .dead), (3, .dead), (4, .dead), (5, .dead), (7, .dead), (8, .dead), (9, .dead), (10, .dead), (11, .dead), (17, .dead), (28, .dead), (29, .dead), (30, .dead), (31, .dead), (53, .dead)], [(0, .p [p5008]), (1, .r [.fn 100 [.ptr 2 0]]), (2, .p [(.bool b5009)]), (3, .p [p4945, p5010]), (4, .r [.fn 99 [.ptr 0 0, .ptr 1 0, .ptr 3 0, .ptr 4 0]])], 5, []⟩) (by kernel_rfl))) ⟨_, _, _, rfl, rfl⟩
    · rintro _ ⟨p5040, b5041, p5042, rfl, rfl⟩
      (try dsimp only at h5051)
      refine W_sound tab_ok mixed 6 _ _ _ ?_
      simp -implicitDefEqProofs only [go_sem, qa, qb, qc, qd, qe, qf, qg, qh, qi, qj, qk, ↓reduceIte, h4950, h4956, h4959, h4965, g4968, g4969, h4970, g4972, g4973, g4974, h4975]
      repeat with_reducible refine ⟨by first | kernel_rfl | decide, ?_⟩
      simp only [Option.some.injEq, Prod.mk.injEq] at h5051; obtain ⟨rfl, rfl, rfl, rfl⟩ := h5051
      exact finD (e2 := [(0, .dead), (1, .dead), (2, .dead), (3, .dead), (4, .dead), (5, .dead), (7, .dead), (8, .v (.bool true)), (9, .dead), (10, .dead), (11, .dead), (17, .dead), (28, .dead), (29, .dead), (30, .dead), (31, .dead), (53, .dead)]) (ob2 := [(0, .p [p5040]), (1, .r [.fn 100 [.ptr 2 0]]), (2, .p [(.bool b5041)]), (3, .p [p4945, p5042]), (4, .r [.fn 99 [.ptr 0 0, .ptr 1 0, .ptr 3 0, .ptr 4 0]])]) (st' := ⟨[], [(0, .dead), (1, .dead), (2, .dead), (3, .dead), (4, .dead), (5, .dead), (7, .dead), (8, .v (.bool true)), (9, .dead), (10, .dead), (11, .dead), (17, .dead), (28, .dead), (29, .dead), (30, .dead), (31, .dead), (53, .dead)], [(0, .p [p5040]), (1, .r [.fn 100 [.ptr 2 0]]), (2, .p [(.bool b5041)]), (3, .p [p4945, p5042]), (4, .r [.fn 99 [.ptr 0 0, .ptr 1 0, .ptr 3 0, .ptr 4 0]])], 5, []⟩) (.r (.r (.r (.r (.r (.r (.r (.r (.r (.r (.r (.r (.r (.r (.r (.r (.r .nil))))))))))))))))) (.cons _ _ _ _ _ (DLes.refl _) (.cons _ _ _ _ _ (DLes.refl _) (.cons _ _ _ _ _ (DLes.refl _) (.cons _ _ _ _ _ (DLes.refl _) (.cons _ _ _ _ _ (DLes.refl _) .nil))))) (by kernel_rfl) (by simp only [go_sem, qa, qb, qc, qd, qe, qf, qg, qh, qi, qj, qk, ↓reduceIte, resQ_tmp, resQ_cell, resQ_nil, retD_one, retD_two, retD_three, retD_none]; try simp [R.val, retD_one, retD_two, retD_three, retD_none])
def m76_3 (N : Nat) (p5060 : PV) (p5061 : PV) (b5062 : Bool) : Option ((PV × Bool)) :=
  getA2 p5060 fun p5065 p5066 =>
  getL p5061 fun n5068 c5069 =>
  bnd' (m97 N ) fun p5070 =>
  getA5 p5070 fun p5073 p5074 p5075 p5076 p5077 =>
  bnd' (m99_5 N (.agg [p5073, p5074, p5075, p5076, p5077]) (.lst false n5068 c5069) b5062 p5065 p5066) fun (p5078, p5080, b5081, p5082) =>
  getB p5078 fun b5084 =>
  some ((.tup []), b5081)
theorem c76_3 (N : Nat) (p5060 : PV) (p5061 : PV) (b5062 : Bool) (r : PV) (b5086 : Bool) (h : m76_3 N p5060 p5061 b5062 = some (r, b5086)) : V.Fn Tryd.prog 76 1 [.v p5060, .v p5061, .fn 100 [.ptr 0 0]] [(0, .p [(.bool b5062)])] (fun d ob' => d = .v r ∧ ob' = [(0, .p [(.bool b5086)])]) := by
  unfold m76_3 at h
  refine Fn_of (sz := 11) tab_ok [0, 1, 2, 3, 4, 5, 6] [] Tryd.func76 rfl rfl rfl (by simp) ?_
  simp only [initSt, initEnv, List.map_cons, List.map_nil, List.getD_cons_zero, List.getD_cons_succ, List.getD_nil]
  have hh := getA2_some h; clear h; obtain ⟨p5065, p5066, h5064, h⟩ := hh
  have hh := getL_some h; clear h; obtain ⟨n5068, c5069, h5067, h⟩ := hh
  have hh := bnd'_some h; clear h; obtain ⟨p5070, h5071, h⟩ := hh
  refine W_sound tab_ok mixed 17 _ _ _ ?_
  simp -implicitDefEqProofs only [go_sem, qa, qb, qc, qd, qe, qf, qg, qh, qi, qj, qk, ↓reduceIte, h5064, h5067]
  repeat with_reducible refine ⟨by first | kernel_rfl | decide, ?_⟩
  refine Wp_callP (c97 N  _ h5071) (by kernel_rfl) rfl rfl rfl rfl (by decide) ?_
  have hh := getA5_some h; clear h; obtain ⟨p5073, p5074, p5075, p5076, p5077, h5072, h⟩ := hh
  have hh := bnd'_some h; clear h; obtain ⟨⟨p5078, p5080, b5081, p5082⟩, h5079, h⟩ := hh
  (try dsimp only at h)
  (try simp -implicitDefEqProofs only [go_sem, qa, qb, qc, qd, qe, qf, qg, qh, qi, qj, qk, ↓reduceIte, h5064, h5067, h5072])
  refine Wp_callD [5, 6, 0, 4, 13] (c99_5 N _ _ _ _ _ _ _ _ _ h5079) rfl rfl rfl (by first | rfl | (simp only [go_sem, qa, qb, qc, qd, qe, qf, qg, qh, qi, qj, qk, ↓reduceIte, h5064, h5067, h5072] <;> rfl)) rfl (by kernel_rfl) ?_
  have hh := getB_some h; clear h; obtain ⟨b5084, h5083, h⟩ := hh
  refine W_sound tab_ok mixed 2 _ _ _ ?_
  simp -implicitDefEqProofs only [go_sem, qa, qb, qc, qd, qe, qf, qg, qh, qi, qj, qk, ↓reduceIte, h5064, h5067, h5072, h5083]
  repeat with_reducible refine ⟨by first | kernel_rfl | decide, ?_⟩
  simp only [Option.some.injEq, Prod.mk.injEq] at h; obtain ⟨rfl, rfl⟩ := h
  exact finD (e2 := [(0, .dead), (1, .dead), (2, .dead), (3, .dead), (4, .dead), (5, .dead), (6, .dead)]) (ob2 := [(13, .r [.fn 99 [.ptr 5 0, .ptr 6 0, .ptr 4 0, .ptr 13 0]]), (4, .p [p5065, p5082]), (0, .p [(.bool b5081)]), (6, .r [.fn 100 [.ptr 0 0]]), (5, .p [p5080])]) (st' := ⟨[], [(0, .dead), (1, .dead), (2, .dead), (3, .dead), (4, .dead), (5, .dead), (6, .dead)], [(0, .p [(.bool b5081)])], 1, []⟩) (.k (.k (.k (.k (.k (.k (.k .nil))))))) (.cons _ _ _ _ _ (DLes.refl _) (.cons _ _ _ _ _ (DLes.refl _) (.cons _ _ _ _ _ (DLes.refl _) (.cons _ _ _ _ _ (DLes.refl _) (.cons _ _ _ _ _ (DLes.refl _) .nil))))) (by kernel_rfl) (by simp only [go_sem, qa, qb, qc, qd, qe, qf, qg, qh, qi, qj, qk, ↓reduceIte, resQ_tmp, resQ_cell, resQ_nil, retD_one, retD_two, retD_three, retD_none]; try simp [R.val, retD_one, retD_two, retD_three, retD_none])
def m82 (N : Nat) (p4608 : PV) (p4609 : PV) : Option (PV) :=
  getA2 p4608 fun p4611 p4612 =>
  getL p4609 fun n4614 c4615 =>
  bnd' (m76_3 N (.agg [p4611, p4612]) (.lst false n4614 c4615) false) fun (p5087, b5089) =>
  getT0 p5087 <|
  some (.bool b5089)
theorem c82 (N : Nat) (p4608 : PV) (p4609 : PV) (r : PV)  (h : m82 N p4608 p4609 = some r) : FnP Tryd.prog 82 [p4608, p4609] r := by
  unfold m82 at h
  refine Fn_of (sz := 11) tab_ok [0, 1, 2, 4, 5] [.tmp 4] Tryd.func82 rfl rfl rfl (by simp) ?_
  simp only [initSt, initEnv, List.map_cons, List.map_nil, List.getD_cons_zero, List.getD_cons_succ, List.getD_nil]
  have hh := getA2_some h; clear h; obtain ⟨p4611, p4612, h4610, h⟩ := hh
  have hh := getL_some h; clear h; obtain ⟨n4614, c4615, h4613, h⟩ := hh
  have hh := bnd'_some h; clear h; obtain ⟨⟨p5087, b5089⟩, h5088, h⟩ := hh
  (try dsimp only at h)
  refine W_sound tab_ok mixed 15 _ _ _ ?_
  simp -implicitDefEqProofs only [go_sem, qa, qb, qc, qd, qe, qf, qg, qh, qi, qj, qk, ↓reduceIte, h4610, h4613]
  repeat with_reducible refine ⟨by first | kernel_rfl | decide, ?_⟩
  refine Wp_callD [8] (c76_3 N _ _ _ _ _ h5088) rfl rfl rfl (by first | rfl | (simp only [go_sem, qa, qb, qc, qd, qe, qf, qg, qh, qi, qj, qk, ↓reduceIte, h4610, h4613] <;> rfl)) rfl (by kernel_rfl) ?_
  have hh := getT0_some h; clear h; obtain ⟨h5090, h⟩ := hh
  refine W_sound tab_ok mixed 8 _ _ _ ?_
  simp -implicitDefEqProofs only [go_sem, qa, qb, qc, qd, qe, qf, qg, qh, qi, qj, qk, ↓reduceIte, h4610, h4613, h5090]
  repeat with_reducible refine ⟨by first | kernel_rfl | decide, ?_⟩
  obtain rfl := Option.some.inj h
  exact finC [(4, .v (.bool b5089))] [(4, .v (.bool b5089))] (by simp [leE, lk_cons]) (.cons _ _ _ _ _ (.v _ _ (.refl _)) .nil) (by rfl) (by simp [leE, lk_cons]) (by decide) (by decide) rfl (by simp only [go_sem, qa, qb, qc, qd, qe, qf, qg, qh, qi, qj, qk, ↓reduceIte, resQ_tmp, resQ_cell, resQ_nil, retD_one, retD_two, retD_three, retD_none]; try simp [R.val, retD_one, retD_two, retD_three, retD_none])
def m68_3_L0 (N : Nat) (x4597 : Int) (b4598 : Bool) (p4599 : PV) : Nat → PV → Int → Option (PV)
  | 0, _, _ => none
  | n + 1, p5096, x5097 =>
    brn (decide (x5097 < (IntKind.u64.wrap (1 * 2 ^ (min (Int.toNat x4597) 64))))) (
      bnd' (m77 N x5097) fun p5099 =>
      getL p5099 fun n5102 c5103 =>
      bnd' (m82 N p4599 (.lst false n5102 c5103)) fun p5104 =>
      getB p5104 fun b5107 =>
      brn b5107 (
        getIf 1000025 p5096 (
          m68_3_L0 N x4597 b4598 p4599 n (.fn 1000025 [(.lst false n5102 c5103)]) (IntKind.u64.wrap (x5097 + 1))) fun p5110 =>
        getL p5110 fun n5112 c5113 =>
        brn (((n5102 : Nat) : Int) == ((n5112 : Nat) : Int)) (
          bnd' (m47 N (.lst false n5102 c5103) (.lst false n5112 c5113)) fun p5115 =>
          getI .i64 p5115 fun x5118 =>
          brn (decide (x5118 < 0)) (
            m68_3_L0 N x4597 b4598 p4599 n (.fn 1000025 [(.lst false n5102 c5103)]) (IntKind.u64.wrap (x5097 + 1))) (
            brn (((n5102 : Nat) : Int) != ((n5112 : Nat) : Int)) (
              brn ((decide (((n5102 : Nat) : Int) > ((n5112 : Nat) : Int))) == b4598) (
                m68_3_L0 N x4597 b4598 p4599 n (.fn 1000025 [(.lst false n5102 c5103)]) (IntKind.u64.wrap (x5097 + 1))) (
                m68_3_L0 N x4597 b4598 p4599 n (.fn 1000025 [(.lst false n5112 c5113)]) (IntKind.u64.wrap (x5097 + 1)))) (
              m68_3_L0 N x4597 b4598 p4599 n (.fn 1000025 [(.lst false n5112 c5113)]) (IntKind.u64.wrap (x5097 + 1))))) (
          brn (((n5102 : Nat) : Int) != ((n5112 : Nat) : Int)) (
            brn ((decide (((n5102 : Nat) : Int) > ((n5112 : Nat) : Int))) == b4598) (
              m68_3_L0 N x4597 b4598 p4599 n (.fn 1000025 [(.lst false n5102 c5103)]) (IntKind.u64.wrap (x5097 + 1))) (
              m68_3_L0 N x4597 b4598 p4599 n (.fn 1000025 [(.lst false n5112 c5113)]) (IntKind.u64.wrap (x5097 + 1)))) (
            m68_3_L0 N x4597 b4598 p4599 n (.fn 1000025 [(.lst false n5112 c5113)]) (IntKind.u64.wrap (x5097 + 1))))) (
        m68_3_L0 N x4597 b4598 p4599 n p5096 (IntKind.u64.wrap (x5097 + 1)))) (
      some p5096)
def m68_3 (N : Nat) (x4597 : Int) (b4598 : Bool) (p4599 : PV) : Option (PV) :=
  grd (0 ≤ x4597) <|
  bnd' (m68_3_L0 N x4597 b4598 p4599 N (.fn 999999 []) 0) fun p5124 =>
  getIf 1000025 p5124 (
    some (.tup [(.lst false 0 []), (.bool false)])) fun p5126 =>
  getL p5126 fun n5128 c5129 =>
  some (.tup [(.lst false n5128 c5129), (.bool true)])
theorem c68_3 (N : Nat) (x4597 : Int) (b4598 : Bool) (p4599 : PV) (r : PV)  (h : m68_3 N x4597 b4598 p4599 = some r) : FnP Tryd.prog 68 [(.int .i64 x4597), (.bool b4598), (.fn 999999 [(.fn 82 []), p4599])] r := by
  unfold m68_3 at h
  refine Fn_of (sz := 74) tab_ok [0, 1, 2, 6, 7, 8, 9, 10, 11, 12, 13, 14, 15, 17, 18, 19, 26, 63] [.tmp 6, .tmp 7] Tryd.func68 rfl rfl rfl (by simp) ?_
  simp only [initSt, initEnv, List.map_cons, List.map_nil, List.getD_cons_zero, List.getD_cons_succ, List.getD_nil]
  have hh := grd_some h; clear h; obtain ⟨g4600, h⟩ := hh
  refine W_sound tab_ok mixed 16 _ _ _ ?_
  simp -implicitDefEqProofs only [go_sem, qa, qb, qc, qd, qe, qf, qg, qh, qi, qj, qk, ↓reduceIte, g4600]
  repeat with_reducible refine ⟨by first | kernel_rfl | decide, ?_⟩
  have hh := bnd'_some h; clear h; obtain ⟨o5130, h5131, h5132⟩ := hh
  refine Wp_cut (fun s => ∃ p5124, p5124 = o5130 ∧ s = ⟨[], [(0, .dead), (1, .dead), (2, .dead), (6, .dead), (7, .dead), (8, .v p5124), (9, .dead), (10, .dead), (11, .dead), (12, .dead), (13, .dead), (14, .dead), (15, .dead), (17, .dead), (18, .dead), (19, .dead), (26, .dead), (63, .dead)], [], 0, []⟩) ?_ ?_
  · refine Wp_block ?_
    refine Wp_loopG (fun n s => ∃ p5096, ∃ x5097, m68_3_L0 N x4597 b4598 p4599 n p5096 x5097 = some o5130 ∧ s = ⟨[], [(0, .dead), (1, .v (.bool b4598)), (2, .v (.fn 999999 [(.fn 82 []), p4599])), (6, .dead), (7, .dead), (8, .v p5096), (9, .dead), (10, .dead), (11, .dead), (12, .dead), (13, .dead), (14, .dead), (15, .dead), (17, .v (.int .u64 (IntKind.u64.wrap (1 * 2 ^ (min (Int.toNat x4597) 64))))), (18, .v (.int .u64 x5097)), (19, .dead), (26, .dead), (63, .dead)], [], 0, []⟩) N _ ((Wk_le (.k (.r (.r (.k (.k (.r (.r (.r (.r (.r (.r (.r (.r (.r (.r (.r (.r (.r .nil)))))))))))))))))) (OLe.refl _)).trans (cmpS_ok (st' := ⟨[], [(0, .dead), (1, .v (.bool b4598)), (2, .v (.fn 999999 [(.fn 82 []), p4599])), (6, .dead), (7, .dead), (8, .v (.fn 999999 [])), (9, .dead), (10, .dead), (11, .dead), (12, .dead), (13, .dead), (14, .dead), (15, .dead), (17, .v (.int .u64 (IntKind.u64.wrap (1 * 2 ^ (min (Int.toNat x4597) 64))))), (18, .v (.int .u64 0)), (19, .dead), (26, .dead), (63, .dead)], [], 0, []⟩) (by kernel_rfl))) ⟨_, _, h5131, rfl⟩ ?_
    clear h5131
    rintro n _ ⟨p5096, x5097, h5131, rfl⟩
    cases n with
    | zero => cases h5131
    | succ n =>
      rw [m68_3_L0] at h5131
      have hh := brn_some h5131; clear h5131; rcases hh with ⟨h5098, h5131⟩ | ⟨h5098, h5131⟩
      · have hh := bnd'_some h5131; clear h5131; obtain ⟨p5099, h5100, h5131⟩ := hh
        refine W_sound tab_ok mixed 17 _ _ _ ?_
        simp -implicitDefEqProofs only [go_sem, qa, qb, qc, qd, qe, qf, qg, qh, qi, qj, qk, ↓reduceIte, g4600, h5098]
        repeat with_reducible refine ⟨by first | kernel_rfl | decide, ?_⟩
        refine Wp_callP (c77 N _ _ h5100) (by kernel_rfl) rfl rfl rfl rfl (by decide) ?_
        have hh := getL_some h5131; clear h5131; obtain ⟨n5102, c5103, h5101, h5131⟩ := hh
        have hh := bnd'_some h5131; clear h5131; obtain ⟨p5104, h5105, h5131⟩ := hh
        refine W_sound tab_ok mixed 7 _ _ _ ?_
        simp -implicitDefEqProofs only [go_sem, qa, qb, qc, qd, qe, qf, qg, qh, qi, qj, qk, ↓reduceIte, g4600, h5098, h5101]
        repeat with_reducible refine ⟨by first | kernel_rfl | decide, ?_⟩
        refine Wp_callP (c82 N _ _ _ h5105) (by kernel_rfl) rfl rfl rfl rfl (by decide) ?_
        have hh := getB_some h5131; clear h5131; obtain ⟨b5107, h5106, h5131⟩ := hh
        have hh := brn_some h5131; clear h5131; rcases hh with ⟨h5108, h5131⟩ | ⟨h5108, h5131⟩
        · have hh := getIf_some h5131; clear h5131; rcases hh with ⟨h5109, h5131⟩ | ⟨p5110, h5109, h5131⟩
          · refine W_sound tab_ok mixed 64 _ _ _ ?_
            simp -implicitDefEqProofs only [go_sem, qa, qb, qc, qd, qe, qf, qg, qh, qi, qj, qk, ↓reduceIte, g4600, h5098, h5101, h5106, h5108, h5109]
            repeat with_reducible refine ⟨by first | kernel_rfl | decide, ?_⟩
            exact cutQ _ ((Wk_le (.r (.r (.r (.r (.r (.r (.k (.k (.k (.k (.k (.r (.r (.r (.r (.k (.k (.k .nil)))))))))))))))))) (OLe.refl _)).trans (cmpS_ok (st' := ⟨[], [(0, .dead), (1, .v (.bool b4598)), (2, .v (.fn 999999 [(.fn 82 []), p4599])), (6, .dead), (7, .dead), (8, .v (.fn 1000025 [(.lst false n5102 c5103)])), (9, .dead), (10, .dead), (11, .dead), (12, .dead), (13, .dead), (14, .dead), (15, .dead), (17, .v (.int .u64 (IntKind.u64.wrap (1 * 2 ^ (min (Int.toNat x4597) 64))))), (18, .v (.int .u64 (IntKind.u64.wrap (x5097 + 1)))), (19, .dead), (26, .dead), (63, .dead)], [], 0, []⟩) (by kernel_rfl))) ⟨n, Nat.lt_succ_self n, _, _, h5131, rfl⟩
          · have hh := getL_some h5131; clear h5131; obtain ⟨n5112, c5113, h5111, h5131⟩ := hh
            have hh := brn_some h5131; clear h5131; rcases hh with ⟨h5114, h5131⟩ | ⟨h5114, h5131⟩
            · have hh := bnd'_some h5131; clear h5131; obtain ⟨p5115, h5116, h5131⟩ := hh
              refine W_sound tab_ok mixed 27 _ _ _ ?_
              simp -implicitDefEqProofs only [go_sem, qa, qb, qc, qd, qe, qf, qg, qh, qi, qj, qk, ↓reduceIte, g4600, h5098, h5101, h5106, h5108, h5109, h5111, h5114]
              repeat with_reducible refine ⟨by first | kernel_rfl | decide, ?_⟩
              refine Wp_callP (c47 N _ _ _ h5116) (by kernel_rfl) rfl rfl rfl rfl (by decide) ?_
              have hh := getI_some h5131; clear h5131; obtain ⟨x5118, h5117, h5131⟩ := hh
              have hh := brn_some h5131; clear h5131; rcases hh with ⟨h5119, h5131⟩ | ⟨h5119, h5131⟩
              · refine W_sound tab_ok mixed 36 _ _ _ ?_
                simp -implicitDefEqProofs only [go_sem, qa, qb, qc, qd, qe, qf, qg, qh, qi, qj, qk, ↓reduceIte, g4600, h5098, h5101, h5106, h5108, h5109, h5111, h5114, h5117, h5119]
                repeat with_reducible refine ⟨by first | kernel_rfl | decide, ?_⟩
                exact cutQ _ ((Wk_le (.r (.r (.r (.r (.r (.r (.k (.k (.k (.k (.k (.r (.r (.r (.r (.k (.k (.k .nil)))))))))))))))))) (OLe.refl _)).trans (cmpS_ok (st' := ⟨[], [(0, .dead), (1, .v (.bool b4598)), (2, .v (.fn 999999 [(.fn 82 []), p4599])), (6, .dead), (7, .dead), (8, .v (.fn 1000025 [(.lst false n5102 c5103)])), (9, .dead), (10, .dead), (11, .dead), (12, .dead), (13, .dead), (14, .dead), (15, .dead), (17, .v (.int .u64 (IntKind.u64.wrap (1 * 2 ^ (min (Int.toNat x4597) 64))))), (18, .v (.int .u64 (IntKind.u64.wrap (x5097 + 1)))), (19, .dead), (26, .dead), (63, .dead)], [], 0, []⟩) (by kernel_rfl))) ⟨n, Nat.lt_succ_self n, _, _, h5131, rfl⟩
              · have hh := brn_some h5131; clear h5131; rcases hh with ⟨h5120, h5131⟩ | ⟨h5120, h5131⟩
                · have hh := brn_some h5131; clear h5131; rcases hh with ⟨h5121, h5131⟩ | ⟨h5121, h5131⟩
                  · refine W_sound tab_ok mixed 36 _ _ _ ?_
                    simp -implicitDefEqProofs only [go_sem, qa, qb, qc, qd, qe, qf, qg, qh, qi, qj, qk, ↓reduceIte, g4600, h5098, h5101, h5106, h5108, h5109, h5111, h5114, h5117, h5119, h5120, h5121]
                    repeat with_reducible refine ⟨by first | kernel_rfl | decide, ?_⟩
                    exact cutQ _ ((Wk_le (.r (.r (.r (.r (.r (.r (.k (.k (.k (.k (.k (.r (.r (.r (.r (.k (.k (.k .nil)))))))))))))))))) (OLe.refl _)).trans (cmpS_ok (st' := ⟨[], [(0, .dead), (1, .v (.bool b4598)), (2, .v (.fn 999999 [(.fn 82 []), p4599])), (6, .dead), (7, .dead), (8, .v (.fn 1000025 [(.lst false n5102 c5103)])), (9, .dead), (10, .dead), (11, .dead), (12, .dead), (13, .dead), (14, .dead), (15, .dead), (17, .v (.int .u64 (IntKind.u64.wrap (1 * 2 ^ (min (Int.toNat x4597) 64))))), (18, .v (.int .u64 (IntKind.u64.wrap (x5097 + 1)))), (19, .dead), (26, .dead), (63, .dead)], [], 0, []⟩) (by kernel_rfl))) ⟨n, Nat.lt_succ_self n, _, _, h5131, rfl⟩
                  · refine W_sound tab_ok mixed 32 _ _ _ ?_
                    simp -implicitDefEqProofs only [go_sem, qa, qb, qc, qd, qe, qf, qg, qh, qi, qj, qk, ↓reduceIte, g4600, h5098, h5101, h5106, h5108, h5109, h5111, h5114, h5117, h5119, h5120, h5121]
                    repeat with_reducible refine ⟨by first | kernel_rfl | decide, ?_⟩
                    exact cutQ _ ((Wk_le (.r (.r (.r (.r (.r (.r (.k (.k (.k (.k (.k (.r (.r (.r (.r (.k (.k (.k .nil)))))))))))))))))) (OLe.refl _)).trans (cmpS_ok (st' := ⟨[], [(0, .dead), (1, .v (.bool b4598)), (2, .v (.fn 999999 [(.fn 82 []), p4599])), (6, .dead), (7, .dead), (8, .v (.fn 1000025 [(.lst false n5112 c5113)])), (9, .dead), (10, .dead), (11, .dead), (12, .dead), (13, .dead), (14, .dead), (15, .dead), (17, .v (.int .u64 (IntKind.u64.wrap (1 * 2 ^ (min (Int.toNat x4597) 64))))), (18, .v (.int .u64 (IntKind.u64.wrap (x5097 + 1)))), (19, .dead), (26, .dead), (63, .dead)], [], 0, []⟩) (by kernel_rfl))) ⟨n, Nat.lt_succ_self n, _, _, h5131, rfl⟩
                · refine W_sound tab_ok mixed 32 _ _ _ ?_
                  simp -implicitDefEqProofs only [go_sem, qa, qb, qc, qd, qe, qf, qg, qh, qi, qj, qk, ↓reduceIte, g4600, h5098, h5101, h5106, h5108, h5109, h5111, h5114, h5117, h5119, h5120]
                  repeat with_reducible refine ⟨by first | kernel_rfl | decide, ?_⟩
                  exact cutQ _ ((Wk_le (.r (.r (.r (.r (.r (.r (.k (.k (.k (.k (.k (.r (.r (.r (.r (.k (.k (.k .nil)))))))))))))))))) (OLe.refl _)).trans (cmpS_ok (st' := ⟨[], [(0, .dead), (1, .v (.bool b4598)), (2, .v (.fn 999999 [(.fn 82 []), p4599])), (6, .dead), (7, .dead), (8, .v (.fn 1000025 [(.lst false n5112 c5113)])), (9, .dead), (10, .dead), (11, .dead), (12, .dead), (13, .dead), (14, .dead), (15, .dead), (17, .v (.int .u64 (IntKind.u64.wrap (1 * 2 ^ (min (Int.toNat x4597) 64))))), (18, .v (.int .u64 (IntKind.u64.wrap (x5097 + 1)))), (19, .dead), (26, .dead), (63, .dead)], [], 0, []⟩) (by kernel_rfl))) ⟨n, Nat.lt_succ_self n, _, _, h5131, rfl⟩
            · have hh := brn_some h5131; clear h5131; rcases hh with ⟨h5122, h5131⟩ | ⟨h5122, h5131⟩
              · have hh := brn_some h5131; clear h5131; rcases hh with ⟨h5123, h5131⟩ | ⟨h5123, h5131⟩
                · refine W_sound tab_ok mixed 64 _ _ _ ?_
                  simp -implicitDefEqProofs only [go_sem, qa, qb, qc, qd, qe, qf, qg, qh, qi, qj, qk, ↓reduceIte, g4600, h5098, h5101, h5106, h5108, h5109, h5111, h5114, h5122, h5123]
                  repeat with_reducible refine ⟨by first | kernel_rfl | decide, ?_⟩
                  exact cutQ _ ((Wk_le (.r (.r (.r (.r (.r (.r (.k (.k (.k (.k (.k (.r (.r (.r (.r (.k (.k (.k .nil)))))))))))))))))) (OLe.refl _)).trans (cmpS_ok (st' := ⟨[], [(0, .dead), (1, .v (.bool b4598)), (2, .v (.fn 999999 [(.fn 82 []), p4599])), (6, .dead), (7, .dead), (8, .v (.fn 1000025 [(.lst false n5102 c5103)])), (9, .dead), (10, .dead), (11, .dead), (12, .dead), (13, .dead), (14, .dead), (15, .dead), (17, .v (.int .u64 (IntKind.u64.wrap (1 * 2 ^ (min (Int.toNat x4597) 64))))), (18, .v (.int .u64 (IntKind.u64.wrap (x5097 + 1)))), (19, .dead), (26, .dead), (63, .dead)], [], 0, []⟩) (by kernel_rfl))) ⟨n, Nat.lt_succ_self n, _, _, h5131, rfl⟩
                · refine W_sound tab_ok mixed 60 _ _ _ ?_
                  simp -implicitDefEqProofs only [go_sem, qa, qb, qc, qd, qe, qf, qg, qh, qi, qj, qk, ↓reduceIte, g4600, h5098, h5101, h5106, h5108, h5109, h5111, h5114, h5122, h5123]
                  repeat with_reducible refine ⟨by first | kernel_rfl | decide, ?_⟩
                  exact cutQ _ ((Wk_le (.r (.r (.r (.r (.r (.r (.k (.k (.k (.k (.k (.r (.r (.r (.r (.k (.k (.k .nil)))))))))))))))))) (OLe.refl _)).trans (cmpS_ok (st' := ⟨[], [(0, .dead), (1, .v (.bool b4598)), (2, .v (.fn 999999 [(.fn 82 []), p4599])), (6, .dead), (7, .dead), (8, .v (.fn 1000025 [(.lst false n5112 c5113)])), (9, .dead), (10, .dead), (11, .dead), (12, .dead), (13, .dead), (14, .dead), (15, .dead), (17, .v (.int .u64 (IntKind.u64.wrap (1 * 2 ^ (min (Int.toNat x4597) 64))))), (18, .v (.int .u64 (IntKind.u64.wrap (x5097 + 1)))), (19, .dead), (26, .dead), (63, .dead)], [], 0, []⟩) (by kernel_rfl))) ⟨n, Nat.lt_succ_self n, _, _, h5131, rfl⟩
              · refine W_sound tab_ok mixed 60 _ _ _ ?_
                simp -implicitDefEqProofs only [go_sem, qa, qb, qc, qd, qe, qf, qg, qh, qi, qj, qk, ↓reduceIte, g4600, h5098, h5101, h5106, h5108, h5109, h5111, h5114, h5122]
                repeat with_reducible refine ⟨by first | kernel_rfl | decide, ?_⟩
                exact cutQ _ ((Wk_le (.r (.r (.r (.r (.r (.r (.k (.k (.k (.k (.k (.r (.r (.r (.r (.k (.k (.k .nil)))))))))))))))))) (OLe.refl _)).trans (cmpS_ok (st' := ⟨[], [(0, .dead), (1, .v (.bool b4598)), (2, .v (.fn 999999 [(.fn 82 []), p4599])), (6, .dead), (7, .dead), (8, .v (.fn 1000025 [(.lst false n5112 c5113)])), (9, .dead), (10, .dead), (11, .dead), (12, .dead), (13, .dead), (14, .dead), (15, .dead), (17, .v (.int .u64 (IntKind.u64.wrap (1 * 2 ^ (min (Int.toNat x4597) 64))))), (18, .v (.int .u64 (IntKind.u64.wrap (x5097 + 1)))), (19, .dead), (26, .dead), (63, .dead)], [], 0, []⟩) (by kernel_rfl))) ⟨n, Nat.lt_succ_self n, _, _, h5131, rfl⟩
        · refine W_sound tab_ok mixed 8 _ _ _ ?_
          simp -implicitDefEqProofs only [go_sem, qa, qb, qc, qd, qe, qf, qg, qh, qi, qj, qk, ↓reduceIte, g4600, h5098, h5101, h5106, h5108]
          repeat with_reducible refine ⟨by first | kernel_rfl | decide, ?_⟩
          exact cutQ _ ((Wk_le (.r (.r (.r (.r (.r (.r (.k (.k (.r (.r (.r (.r (.r (.r (.r (.k (.k (.r .nil)))))))))))))))))) (OLe.refl _)).trans (cmpS_ok (st' := ⟨[], [(0, .dead), (1, .v (.bool b4598)), (2, .v (.fn 999999 [(.fn 82 []), p4599])), (6, .dead), (7, .dead), (8, .v p5096), (9, .dead), (10, .dead), (11, .dead), (12, .dead), (13, .dead), (14, .dead), (15, .dead), (17, .v (.int .u64 (IntKind.u64.wrap (1 * 2 ^ (min (Int.toNat x4597) 64))))), (18, .v (.int .u64 (IntKind.u64.wrap (x5097 + 1)))), (19, .dead), (26, .dead), (63, .dead)], [], 0, []⟩) (by kernel_rfl))) ⟨n, Nat.lt_succ_self n, _, _, h5131, rfl⟩
      · refine W_sound tab_ok mixed 7 _ _ _ ?_
        simp -implicitDefEqProofs only [go_sem, qa, qb, qc, qd, qe, qf, qg, qh, qi, qj, qk, ↓reduceIte, g4600, h5098]
        repeat with_reducible refine ⟨by first | kernel_rfl | decide, ?_⟩
        obtain rfl := Option.some.inj h5131
        exact cutQ _ ((Wk_le (.r (.k (.k (.r (.r (.r (.r (.r (.r (.r (.r (.r (.r (.k (.k (.k (.r (.r .nil)))))))))))))))))) (OLe.refl _)).trans (cmpS_ok (st' := ⟨[], [(0, .dead), (1, .dead), (2, .dead), (6, .dead), (7, .dead), (8, .v p5096), (9, .dead), (10, .dead), (11, .dead), (12, .dead), (13, .dead), (14, .dead), (15, .dead), (17, .dead), (18, .dead), (19, .dead), (26, .dead), (63, .dead)], [], 0, []⟩) (by kernel_rfl))) ⟨_, rfl, rfl⟩
  · rintro _ ⟨p5124, rfl, rfl⟩
    have hh := getIf_some h5132; clear h5132; rcases hh with ⟨h5125, h5132⟩ | ⟨p5126, h5125, h5132⟩
    · refine W_sound tab_ok mixed 19 _ _ _ ?_
      simp -implicitDefEqProofs only [go_sem, qa, qb, qc, qd, qe, qf, qg, qh, qi, qj, qk, ↓reduceIte, g4600, h5125]
      repeat with_reducible refine ⟨by first | kernel_rfl | decide, ?_⟩
      obtain rfl := Option.some.inj h5132
      exact finC [(6, .v .nl), (7, .v (.bool false))] [(6, .v (.lst false 0 [])), (7, .v (.bool false))] (by simp [leE, lk_cons]) (.cons _ _ _ _ _ (.v _ _ (.nl false)) (.cons _ _ _ _ _ (.v _ _ (.refl _)) .nil)) (by rfl) (by simp [leE, lk_cons]) (by decide) (by decide) rfl (by simp only [go_sem, qa, qb, qc, qd, qe, qf, qg, qh, qi, qj, qk, ↓reduceIte, resQ_tmp, resQ_cell, resQ_nil, retD_one, retD_two, retD_three, retD_none]; try simp [R.val, retD_one, retD_two, retD_three, retD_none])
    · have hh := getL_some h5132; clear h5132; obtain ⟨n5128, c5129, h5127, h5132⟩ := hh
      refine W_sound tab_ok mixed 19 _ _ _ ?_
      simp -implicitDefEqProofs only [go_sem, qa, qb, qc, qd, qe, qf, qg, qh, qi, qj, qk, ↓reduceIte, g4600, h5125, h5127]
      repeat with_reducible refine ⟨by first | kernel_rfl | decide, ?_⟩
      obtain rfl := Option.some.inj h5132
      exact finC [(6, .v (.lst false n5128 c5129)), (7, .v (.bool true))] [(6, .v (.lst false n5128 c5129)), (7, .v (.bool true))] (by simp [leE, lk_cons]) (.cons _ _ _ _ _ (.v _ _ (.refl _)) (.cons _ _ _ _ _ (.v _ _ (.refl _)) .nil)) (by rfl) (by simp [leE, lk_cons]) (by decide) (by decide) rfl (by simp only [go_sem, qa, qb, qc, qd, qe, qf, qg, qh, qi, qj, qk, ↓reduceIte, resQ_tmp, resQ_cell, resQ_nil, retD_one, retD_two, retD_three, retD_none]; try simp [R.val, retD_one, retD_two, retD_three, retD_none])
def m32 (N : Nat) (p4585 : PV) : Option (PV) :=
  getA2 p4585 fun p4587 p4588 =>
  bnd' (m22 N (.agg [p4587, p4588])) fun p4589 =>
  getI .i64 p4589 fun x4592 =>
  brn (x4592 != 0) (
    some (.tup [(.lst false 0 []), (.int .i64 x4592)])) (
    getL p4588 fun n4595 c4596 =>
    bnd' (m68_3 N ((n4595 : Nat) : Int) true (.agg [p4587, (.lst false n4595 c4596)])) fun p5133 =>
    getT2 p5133 fun p5136 p5137 =>
    getL p5136 fun n5139 c5140 =>
    getB p5137 fun b5142 =>
    some (.tup [(.lst false n5139 c5140), (.int .i64 0)]))
theorem c32 (N : Nat) (p4585 : PV) (r : PV)  (h : m32 N p4585 = some r) : FnP Tryd.prog 32 [p4585] r := by
  unfold m32 at h
  refine Fn_of (sz := 22) tab_ok [0, 1, 2, 3, 4, 5, 10] [.tmp 2, .tmp 3] Tryd.func32 rfl rfl rfl (by simp) ?_
  simp only [initSt, initEnv, List.map_cons, List.map_nil, List.getD_cons_zero, List.getD_cons_succ, List.getD_nil]
  have hh := getA2_some h; clear h; obtain ⟨p4587, p4588, h4586, h⟩ := hh
  have hh := bnd'_some h; clear h; obtain ⟨p4589, h4590, h⟩ := hh
  refine W_sound tab_ok mixed 10 _ _ _ ?_
  simp -implicitDefEqProofs only [go_sem, qa, qb, qc, qd, qe, qf, qg, qh, qi, qj, qk, ↓reduceIte, h4586]
  repeat with_reducible refine ⟨by first | kernel_rfl | decide, ?_⟩
  refine Wp_callP (c22 N _ _ h4590) (by kernel_rfl) rfl rfl rfl rfl (by decide) ?_
  have hh := getI_some h; clear h; obtain ⟨x4592, h4591, h⟩ := hh
  have hh := brn_some h; clear h; rcases hh with ⟨h4593, h⟩ | ⟨h4593, h⟩
  · refine W_sound tab_ok mixed 16 _ _ _ ?_
    simp -implicitDefEqProofs only [go_sem, qa, qb, qc, qd, qe, qf, qg, qh, qi, qj, qk, ↓reduceIte, h4586, h4591, h4593]
    repeat with_reducible refine ⟨by first | kernel_rfl | decide, ?_⟩
    obtain rfl := Option.some.inj h
    exact finC [(2, .v .nl), (3, .v (.int .i64 x4592))] [(2, .v (.lst false 0 [])), (3, .v (.int .i64 x4592))] (by simp [leE, lk_cons]) (.cons _ _ _ _ _ (.v _ _ (.nl false)) (.cons _ _ _ _ _ (.v _ _ (.refl _)) .nil)) (by rfl) (by simp [leE, lk_cons]) (by decide) (by decide) rfl (by simp only [go_sem, qa, qb, qc, qd, qe, qf, qg, qh, qi, qj, qk, ↓reduceIte, resQ_tmp, resQ_cell, resQ_nil, retD_one, retD_two, retD_three, retD_none]; try simp [R.val, retD_one, retD_two, retD_three, retD_none])
  · have hh := getL_some h; clear h; obtain ⟨n4595, c4596, h4594, h⟩ := hh
    have hh := bnd'_some h; clear h; obtain ⟨p5133, h5134, h⟩ := hh
    refine W_sound tab_ok mixed 16 _ _ _ ?_
    simp -implicitDefEqProofs only [go_sem, qa, qb, qc, qd, qe, qf, qg, qh, qi, qj, qk, ↓reduceIte, h4586, h4591, h4593, h4594]
    repeat with_reducible refine ⟨by first | kernel_rfl | decide, ?_⟩
    refine Wp_callP (c68_3 N _ _ _ _ h5134) (by kernel_rfl) rfl rfl rfl rfl (by decide) ?_
    have hh := getT2_some h; clear h; obtain ⟨p5136, p5137, h5135, h⟩ := hh
    have hh := getL_some h; clear h; obtain ⟨n5139, c5140, h5138, h⟩ := hh
    have hh := getB_some h; clear h; obtain ⟨b5142, h5141, h⟩ := hh
    refine W_sound tab_ok mixed 14 _ _ _ ?_
    simp -implicitDefEqProofs only [go_sem, qa, qb, qc, qd, qe, qf, qg, qh, qi, qj, qk, ↓reduceIte, h4586, h4591, h4593, h4594, h5135, h5138, h5141]
    repeat with_reducible refine ⟨by first | kernel_rfl | decide, ?_⟩
    obtain rfl := Option.some.inj h
    exact finC [(2, .v (.lst false n5139 c5140)), (3, .v (.int .i64 0))] [(2, .v (.lst false n5139 c5140)), (3, .v (.int .i64 0))] (by simp [leE, lk_cons]) (.cons _ _ _ _ _ (.v _ _ (.refl _)) (.cons _ _ _ _ _ (.v _ _ (.refl _)) .nil)) (by rfl) (by simp [leE, lk_cons]) (by decide) (by decide) rfl (by simp only [go_sem, qa, qb, qc, qd, qe, qf, qg, qh, qi, qj, qk, ↓reduceIte, resQ_tmp, resQ_cell, resQ_nil, retD_one, retD_two, retD_three, retD_none]; try simp [R.val, retD_one, retD_two, retD_three, retD_none])
def getA7 {α : Type} (p : PV) (k : PV → PV → PV → PV → PV → PV → PV → Option α) : Option α := match p with | .agg [a0, a1, a2, a3, a4, a5, a6] => k a0 a1 a2 a3 a4 a5 a6 | _ => none
theorem getA7_some {α : Type} {p : PV} {k : PV → PV → PV → PV → PV → PV → PV → Option α} {r : α} (h : getA7 p k = some r) : ∃ a0 a1 a2 a3 a4 a5 a6, p = .agg [a0, a1, a2, a3, a4, a5, a6] ∧ k a0 a1 a2 a3 a4 a5 a6 = some r := by
  unfold getA7 at h; split at h
  · exact ⟨_, _, _, _, _, _, _, rfl, h⟩
  · cases h
def m40_L2 (N : Nat) (x5144 : Int) (x5145 : Int) (x5146 : Int) (p5150 : PV) (p5151 : PV) (p5152 : PV) (p5153 : PV) (p5154 : PV) (x5156 : Int) (x5159 : Int) (x5335 : Int) (n5336 : Nat) (c5337 : List PV) (x5343 : Int) (x5396 : Int) : Nat → Nat → Int → Int → List PV → Option ((Nat × Int × List PV))
  | 0, _, _, _, _ => none
  | n + 1, n5407, x5408, x5409, c5410 =>
    brn (decide (x5409 < (IntKind.i64.wrap (1 + (Int.tmod (IntKind.i64.wrap x5156) x5144))))) (
      grd (0 ≤ x5408) <|
      brn ((bitsI .and .u16 (Int.fdiv x5343 (2 ^ (min (Int.toNat x5408) 16))) 1) == 1) (
        brn (decide (((n5407 : Nat) : Int) < x5146)) (
          grd ((n5407 + 1) ≤ 1099511627776) <|
          grd (List.length c5410 = (n5407 * 2)) <|
          m40_L2 N x5144 x5145 x5146 p5150 p5151 p5152 p5153 p5154 x5156 x5159 x5335 n5336 c5337 x5343 x5396 n (n5407 + 1) (IntKind.i64.wrap (x5408 + 1)) (IntKind.i64.wrap (x5409 + 1)) (c5410 ++ [(.int .i64 x5396), (.int .i64 x5409)])) (
          m40_L2 N x5144 x5145 x5146 p5150 p5151 p5152 p5153 p5154 x5156 x5159 x5335 n5336 c5337 x5343 x5396 n n5407 (IntKind.i64.wrap (x5408 + 1)) (IntKind.i64.wrap (x5409 + 1)) c5410)) (
        m40_L2 N x5144 x5145 x5146 p5150 p5151 p5152 p5153 p5154 x5156 x5159 x5335 n5336 c5337 x5343 x5396 n n5407 (IntKind.i64.wrap (x5408 + 1)) (IntKind.i64.wrap (x5409 + 1)) c5410)) (
      some (n5407, x5408, c5410))
def m40_L1 (N : Nat) (x5144 : Int) (x5145 : Int) (x5146 : Int) (p5150 : PV) (p5151 : PV) (p5152 : PV) (p5153 : PV) (p5154 : PV) (x5156 : Int) (x5159 : Int) (x5335 : Int) (n5336 : Nat) (c5337 : List PV) (x5343 : Int) : Nat → Nat → Int → Int → List PV → Option ((Nat × List PV))
  | 0, _, _, _, _ => none
  | n + 1, n5394, x5395, x5396, c5397 =>
    brn (decide (x5396 < (IntKind.i64.wrap (1 + (Int.tmod (IntKind.i64.wrap x5156) x5144))))) (
      bnd' (m40_L2 N x5144 x5145 x5146 p5150 p5151 p5152 p5153 p5154 x5156 x5159 x5335 n5336 c5337 x5343 x5396 N n5394 x5395 (IntKind.i64.wrap (x5396 + 1)) c5397) fun o =>
      match o with
      | (n5417, x5418, c5419) =>
        m40_L1 N x5144 x5145 x5146 p5150 p5151 p5152 p5153 p5154 x5156 x5159 x5335 n5336 c5337 x5343 n n5417 x5418 (IntKind.i64.wrap (x5396 + 1)) c5419) (
      some (n5394, c5397))
def m40_L0 (N : Nat) (x5144 : Int) (x5145 : Int) (x5146 : Int) (p5150 : PV) (p5151 : PV) (p5152 : PV) (p5153 : PV) (p5154 : PV) (x5156 : Int) (x5159 : Int) : Nat → Int → Nat → List PV → Option ((Nat × List PV))
  | 0, _, _, _ => none
  | n + 1, x5335, n5336, c5337 =>
    brn (decide (x5335 < (((Int.toNat (Int.tmod (IntKind.i64.wrap x5159) (IntKind.i64.wrap (x5145 + 1)))) : Nat) : Int))) (
      grd (0 ≤ x5335 ∧ x5335 < (((Int.toNat (Int.tmod (IntKind.i64.wrap x5159) (IntKind.i64.wrap (x5145 + 1)))) : Nat) : Int)) <|
      grd ((2 + (Int.toNat x5335)) < 7) <|
      getI .u16 (gp [(.int .u8 x5156), (.int .u8 x5159), p5150, p5151, p5152, p5153, p5154] (2 + (Int.toNat x5335))) fun x5343 =>
      bnd' (m40_L1 N x5144 x5145 x5146 p5150 p5151 p5152 p5153 p5154 x5156 x5159 x5335 n5336 c5337 x5343 N 0 0 0 []) fun o =>
      match o with
      | (n5420, c5421) =>
        grd ((n5336 + 1) ≤ 1099511627776) <|
        grd (List.length c5337 = n5336) <|
        grd (List.length c5421 = (n5420 * 2)) <|
        m40_L0 N x5144 x5145 x5146 p5150 p5151 p5152 p5153 p5154 x5156 x5159 n (IntKind.i64.wrap (x5335 + 1)) (n5336 + 1) (c5337 ++ [(.lst false n5420 c5421)])) (
      some (n5336, c5337))
def m40 (N : Nat) (p5143 : PV) (x5144 : Int) (x5145 : Int) (x5146 : Int) : Option (PV) :=
  getA7 p5143 fun p5148 p5149 p5150 p5151 p5152 p5153 p5154 =>
  getI .u8 p5148 fun x5156 =>
  grd (x5144 ≠ 0) <|
  getI .u8 p5149 fun x5159 =>
  grd ((IntKind.i64.wrap (x5145 + 1)) ≠ 0) <|
  grd (0 ≤ (Int.tmod (IntKind.i64.wrap x5159) (IntKind.i64.wrap (x5145 + 1))) ∧ (Int.tmod (IntKind.i64.wrap x5159) (IntKind.i64.wrap (x5145 + 1))) ≤ 5) <|
  bnd' (m40_L0 N x5144 x5145 x5146 p5150 p5151 p5152 p5153 p5154 x5156 x5159 N 0 0 []) fun o =>
  match o with
  | (n5425, c5426) =>
    grd (List.length c5426 = n5425) <|
    some (.agg [(.int .i64 (IntKind.i64.wrap (1 + (Int.tmod (IntKind.i64.wrap x5156) x5144)))), (.lst false n5425 c5426)])
theorem c40 (N : Nat) (p5143 : PV) (x5144 : Int) (x5145 : Int) (x5146 : Int) (r : PV)  (h : m40 N p5143 x5144 x5145 x5146 = some r) : FnP Tryd.prog 40 [p5143, (.int .i64 x5144), (.int .i64 x5145), (.int .i64 x5146)] r := by
  unfold m40 at h
  refine Fn_of (sz := 77) tab_ok [0, 1, 2, 3, 4, 8, 9, 11, 12, 13, 14, 15, 30, 31, 32, 33, 37, 38, 39, 46, 59] [.cell 8 24] Tryd.func40 rfl rfl rfl (by simp) ?_
  simp only [initSt, initEnv, List.map_cons, List.map_nil, List.getD_cons_zero, List.getD_cons_succ, List.getD_nil]
  have hh := getA7_some h; clear h; obtain ⟨p5148, p5149, p5150, p5151, p5152, p5153, p5154, h5147, h⟩ := hh
  have hh := getI_some h; clear h; obtain ⟨x5156, h5155, h⟩ := hh
  have hh := grd_some h; clear h; obtain ⟨g5157, h⟩ := hh
  have hh := getI_some h; clear h; obtain ⟨x5159, h5158, h⟩ := hh
  have hh := grd_some h; clear h; obtain ⟨g5160, h⟩ := hh
  have hh := grd_some h; clear h; obtain ⟨⟨g5161, g5162⟩, h⟩ := hh
  refine W_sound tab_ok mixed 31 _ _ _ ?_
  simp -implicitDefEqProofs only [go_sem, qa, qb, qc, qd, qe, qf, qg, qh, qi, qj, qk, ↓reduceIte, h5147, h5155, g5157, h5158, g5160, g5161, g5162]
  repeat with_reducible refine ⟨by first | kernel_rfl | decide, ?_⟩
  refine Wp_wkK Wk_norm rfl ?_
  simp -implicitDefEqProofs only [go_sem, qa, qb, qc, qd, qe, qf, qg, qh, qi, qj, qk, ↓reduceIte, normE, h5147, h5155, g5157, h5158, g5160, g5161, g5162]
  (try simp -implicitDefEqProofs only [go_sem, qa, qb, qc, qd, qe, qf, qg, qh, qi, qj, qk, ↓reduceIte, h5147, h5155, g5157, h5158, g5160, g5161, g5162])
  refine Wp_weaken (Wk_ownC 18 1 1 rfl rfl (by decide) (by decide)) ?_
  simp -implicitDefEqProofs only [go_sem, qa, qb, qc, qd, qe, qf, qg, qh, qi, qj, qk, ↓reduceIte, setO, h5147, h5155, g5157, h5158, g5160, g5161, g5162]
  have hh := bnd'_some h; clear h; obtain ⟨o5428, h5429, h5430⟩ := hh
  refine Wp_cut (fun s => ∃ n5425, ∃ c5426, (n5425, c5426) = o5428 ∧ s = ⟨[], [(0, .dead), (1, .dead), (2, .dead), (3, .dead), (4, .dead), (8, .ptr 0 0), (9, .ptr 1 0), (11, .dead), (12, .dead), (13, .dead), (14, .dead), (15, .dead), (30, .dead), (31, .dead), (32, .dead), (33, .dead), (37, .dead), (38, .dead), (39, .dead), (46, .dead), (59, .dead)], [(0, .p [(.int .i64 0), .nl]), (1, .r [.v (.int .i64 (IntKind.i64.wrap (1 + (Int.tmod (IntKind.i64.wrap x5156) x5144)))), .sl false 2 0 n5425 1]), (2, .p c5426)], 3, []⟩) ?_ ?_
  · refine Wp_block ?_
    refine Wp_loopG (fun n s => ∃ x5335, ∃ n5336, ∃ c5337, m40_L0 N x5144 x5145 x5146 p5150 p5151 p5152 p5153 p5154 x5156 x5159 n x5335 n5336 c5337 = some o5428 ∧ s = ⟨[], [(0, .dead), (1, .dead), (2, .dead), (3, .v (.int .i64 x5146)), (4, .dead), (8, .ptr 0 0), (9, .ptr 1 0), (11, .dead), (12, .dead), (13, .dead), (14, .dead), (15, .dead), (30, .sl false 2 2 (Int.toNat (Int.tmod (IntKind.i64.wrap x5159) (IntKind.i64.wrap (x5145 + 1)))) 1), (31, .v (.int .i64 (((Int.toNat (Int.tmod (IntKind.i64.wrap x5159) (IntKind.i64.wrap (x5145 + 1)))) : Nat) : Int))), (32, .v (.int .i64 x5335)), (33, .dead), (37, .dead), (38, .dead), (39, .dead), (46, .dead), (59, .dead)], [(0, .p [(.int .i64 0), .nl]), (1, .r [.v (.int .i64 (IntKind.i64.wrap (1 + (Int.tmod (IntKind.i64.wrap x5156) x5144)))), .sl false 3 0 n5336 1]), (2, .p [(.int .u8 x5156), (.int .u8 x5159), p5150, p5151, p5152, p5153, p5154]), (3, .p c5337)], 4, []⟩) N _ ((Wk_le (.k (.k (.k (.r (.k (.r (.r (.r (.r (.r (.r (.r (.r (.r (.r (.r (.r (.r (.r (.r (.r .nil))))))))))))))))))))) (OLe.refl _)).trans (cmpS_ok (st' := ⟨[], [(0, .dead), (1, .dead), (2, .dead), (3, .v (.int .i64 x5146)), (4, .dead), (8, .ptr 0 0), (9, .ptr 1 0), (11, .dead), (12, .dead), (13, .dead), (14, .dead), (15, .dead), (30, .sl false 2 2 (Int.toNat (Int.tmod (IntKind.i64.wrap x5159) (IntKind.i64.wrap (x5145 + 1)))) 1), (31, .v (.int .i64 (((Int.toNat (Int.tmod (IntKind.i64.wrap x5159) (IntKind.i64.wrap (x5145 + 1)))) : Nat) : Int))), (32, .v (.int .i64 0)), (33, .dead), (37, .dead), (38, .dead), (39, .dead), (46, .dead), (59, .dead)], [(0, .p [(.int .i64 0), .nl]), (1, .r [.v (.int .i64 (IntKind.i64.wrap (1 + (Int.tmod (IntKind.i64.wrap x5156) x5144)))), .sl false 3 0 0 1]), (2, .p [(.int .u8 x5156), (.int .u8 x5159), p5150, p5151, p5152, p5153, p5154]), (3, .p [])], 4, []⟩) (by kernel_rfl))) ⟨_, _, _, h5429, rfl⟩ ?_
    clear h5429
    rintro n _ ⟨x5335, n5336, c5337, h5429, rfl⟩
    cases n with
    | zero => cases h5429
    | succ n =>
      rw [m40_L0] at h5429
      have hh := brn_some h5429; clear h5429; rcases hh with ⟨h5338, h5429⟩ | ⟨h5338, h5429⟩
      · have hh := grd_some h5429; clear h5429; obtain ⟨⟨g5339, g5340⟩, h5429⟩ := hh
        have hh := grd_some h5429; clear h5429; obtain ⟨g5341, h5429⟩ := hh
        have hh := getI_some h5429; clear h5429; obtain ⟨x5343, h5342, h5429⟩ := hh
        refine W_sound tab_ok mixed 30 _ _ _ ?_
        simp -implicitDefEqProofs only [go_sem, qa, qb, qc, qd, qe, qf, qg, qh, qi, qj, qk, ↓reduceIte, h5147, h5155, g5157, h5158, g5160, g5161, g5162, h5338, g5339, g5340, g5341, h5342]
        repeat with_reducible refine ⟨by first | kernel_rfl | decide, ?_⟩
        refine Wp_weaken (Wk_ownS 12 2 rfl (by decide) (by decide)) ?_
        simp -implicitDefEqProofs only [go_sem, qa, qb, qc, qd, qe, qf, qg, qh, qi, qj, qk, ↓reduceIte, h5147, h5155, g5157, h5158, g5160, g5161, g5162, h5338, g5339, g5340, g5341, h5342]
        have hh := bnd'_some h5429; clear h5429; obtain ⟨o5431, h5432, h5433⟩ := hh
        refine Wp_cut (fun s => ∃ n5420, ∃ c5421, (n5420, c5421) = o5431 ∧ s = ⟨[], [(0, .dead), (1, .dead), (2, .dead), (3, .v (.int .i64 x5146)), (4, .dead), (8, .ptr 0 0), (9, .ptr 1 0), (11, .dead), (12, .sl false 2 0 n5420 2), (13, .dead), (14, .dead), (15, .dead), (30, .sl false 3 2 (Int.toNat (Int.tmod (IntKind.i64.wrap x5159) (IntKind.i64.wrap (x5145 + 1)))) 1), (31, .v (.int .i64 (((Int.toNat (Int.tmod (IntKind.i64.wrap x5159) (IntKind.i64.wrap (x5145 + 1)))) : Nat) : Int))), (32, .v (.int .i64 x5335)), (33, .dead), (37, .dead), (38, .dead), (39, .dead), (46, .dead), (59, .dead)], [(0, .p [(.int .i64 0), .nl]), (1, .r [.v (.int .i64 (IntKind.i64.wrap (1 + (Int.tmod (IntKind.i64.wrap x5156) x5144)))), .sl false 4 0 n5336 1]), (2, .p c5421), (3, .p [(.int .u8 x5156), (.int .u8 x5159), p5150, p5151, p5152, p5153, p5154]), (4, .p c5337)], 5, []⟩) ?_ ?_
        · refine Wp_block ?_
          refine Wp_loopG (fun n s => ∃ n5394, ∃ x5395, ∃ x5396, ∃ c5397, m40_L1 N x5144 x5145 x5146 p5150 p5151 p5152 p5153 p5154 x5156 x5159 x5335 n5336 c5337 x5343 n n5394 x5395 x5396 c5397 = some o5431 ∧ s = ⟨[], [(0, .dead), (1, .dead), (2, .dead), (3, .v (.int .i64 x5146)), (4, .dead), (8, .ptr 0 0), (9, .ptr 1 0), (11, .v (.int .u16 x5343)), (12, .sl false 2 0 n5394 2), (13, .v (.int .i64 x5395)), (14, .dead), (15, .dead), (30, .sl false 3 2 (Int.toNat (Int.tmod (IntKind.i64.wrap x5159) (IntKind.i64.wrap (x5145 + 1)))) 1), (31, .v (.int .i64 (((Int.toNat (Int.tmod (IntKind.i64.wrap x5159) (IntKind.i64.wrap (x5145 + 1)))) : Nat) : Int))), (32, .v (.int .i64 x5335)), (33, .dead), (37, .v (.int .i64 (IntKind.i64.wrap (1 + (Int.tmod (IntKind.i64.wrap x5156) x5144))))), (38, .v (.int .i64 x5396)), (39, .dead), (46, .dead), (59, .dead)], [(0, .p [(.int .i64 0), .nl]), (1, .r [.v (.int .i64 (IntKind.i64.wrap (1 + (Int.tmod (IntKind.i64.wrap x5156) x5144)))), .sl false 4 0 n5336 1]), (2, .p c5397), (3, .p [(.int .u8 x5156), (.int .u8 x5159), p5150, p5151, p5152, p5153, p5154]), (4, .p c5337)], 5, []⟩) N _ ((Wk_le (.r (.r (.r (.r (.r (.r (.r (.r (.r (.r (.r (.r (.r (.r (.r (.k (.r (.r (.r (.r (.r .nil))))))))))))))))))))) (OLe.refl _)).trans (cmpS_ok (st' := ⟨[], [(0, .dead), (1, .dead), (2, .dead), (3, .v (.int .i64 x5146)), (4, .dead), (8, .ptr 0 0), (9, .ptr 1 0), (11, .v (.int .u16 x5343)), (12, .sl false 2 0 0 2), (13, .v (.int .i64 0)), (14, .dead), (15, .dead), (30, .sl false 3 2 (Int.toNat (Int.tmod (IntKind.i64.wrap x5159) (IntKind.i64.wrap (x5145 + 1)))) 1), (31, .v (.int .i64 (((Int.toNat (Int.tmod (IntKind.i64.wrap x5159) (IntKind.i64.wrap (x5145 + 1)))) : Nat) : Int))), (32, .v (.int .i64 x5335)), (33, .dead), (37, .v (.int .i64 (IntKind.i64.wrap (1 + (Int.tmod (IntKind.i64.wrap x5156) x5144))))), (38, .v (.int .i64 0)), (39, .dead), (46, .dead), (59, .dead)], [(0, .p [(.int .i64 0), .nl]), (1, .r [.v (.int .i64 (IntKind.i64.wrap (1 + (Int.tmod (IntKind.i64.wrap x5156) x5144)))), .sl false 4 0 n5336 1]), (2, .p []), (3, .p [(.int .u8 x5156), (.int .u8 x5159), p5150, p5151, p5152, p5153, p5154]), (4, .p c5337)], 5, []⟩) (by kernel_rfl))) ⟨_, _, _, _, h5432, rfl⟩ ?_
          clear h5432
          rintro n _ ⟨n5394, x5395, x5396, c5397, h5432, rfl⟩
          cases n with
          | zero => cases h5432
          | succ n =>
            rw [m40_L1] at h5432
            have hh := brn_some h5432; clear h5432; rcases hh with ⟨h5398, h5432⟩ | ⟨h5398, h5432⟩
            · refine W_sound tab_ok mixed 20 _ _ _ ?_
              simp -implicitDefEqProofs only [go_sem, qa, qb, qc, qd, qe, qf, qg, qh, qi, qj, qk, ↓reduceIte, h5147, h5155, g5157, h5158, g5160, g5161, g5162, h5338, g5339, g5340, g5341, h5342, h5398]
              repeat with_reducible refine ⟨by first | kernel_rfl | decide, ?_⟩
              have hh := bnd'_some h5432; clear h5432; obtain ⟨o5434, h5435, h5436⟩ := hh
              refine Wp_cut (fun s => ∃ n5417, ∃ x5418, ∃ c5419, (n5417, x5418, c5419) = o5434 ∧ s = ⟨[], [(0, .dead), (1, .dead), (2, .dead), (3, .v (.int .i64 x5146)), (4, .dead), (8, .ptr 0 0), (9, .ptr 1 0), (11, .v (.int .u16 x5343)), (12, .sl false 2 0 n5417 2), (13, .v (.int .i64 x5418)), (14, .dead), (15, .dead), (30, .sl false 3 2 (Int.toNat (Int.tmod (IntKind.i64.wrap x5159) (IntKind.i64.wrap (x5145 + 1)))) 1), (31, .v (.int .i64 (((Int.toNat (Int.tmod (IntKind.i64.wrap x5159) (IntKind.i64.wrap (x5145 + 1)))) : Nat) : Int))), (32, .v (.int .i64 x5335)), (33, .dead), (37, .v (.int .i64 (IntKind.i64.wrap (1 + (Int.tmod (IntKind.i64.wrap x5156) x5144))))), (38, .v (.int .i64 x5396)), (39, .dead), (46, .dead), (59, .dead)], [(0, .p [(.int .i64 0), .nl]), (1, .r [.v (.int .i64 (IntKind.i64.wrap (1 + (Int.tmod (IntKind.i64.wrap x5156) x5144)))), .sl false 4 0 n5336 1]), (2, .p c5419), (3, .p [(.int .u8 x5156), (.int .u8 x5159), p5150, p5151, p5152, p5153, p5154]), (4, .p c5337)], 5, []⟩) ?_ ?_
              · refine Wp_block ?_
                refine Wp_loopG (fun n s => ∃ n5407, ∃ x5408, ∃ x5409, ∃ c5410, m40_L2 N x5144 x5145 x5146 p5150 p5151 p5152 p5153 p5154 x5156 x5159 x5335 n5336 c5337 x5343 x5396 n n5407 x5408 x5409 c5410 = some o5434 ∧ s = ⟨[], [(0, .dead), (1, .dead), (2, .dead), (3, .v (.int .i64 x5146)), (4, .dead), (8, .ptr 0 0), (9, .ptr 1 0), (11, .v (.int .u16 x5343)), (12, .sl false 2 0 n5407 2), (13, .v (.int .i64 x5408)), (14, .v (.int .i64 x5396)), (15, .v (.int .i64 x5409)), (30, .sl false 3 2 (Int.toNat (Int.tmod (IntKind.i64.wrap x5159) (IntKind.i64.wrap (x5145 + 1)))) 1), (31, .v (.int .i64 (((Int.toNat (Int.tmod (IntKind.i64.wrap x5159) (IntKind.i64.wrap (x5145 + 1)))) : Nat) : Int))), (32, .v (.int .i64 x5335)), (33, .dead), (37, .v (.int .i64 (IntKind.i64.wrap (1 + (Int.tmod (IntKind.i64.wrap x5156) x5144))))), (38, .v (.int .i64 x5396)), (39, .dead), (46, .dead), (59, .dead)], [(0, .p [(.int .i64 0), .nl]), (1, .r [.v (.int .i64 (IntKind.i64.wrap (1 + (Int.tmod (IntKind.i64.wrap x5156) x5144)))), .sl false 4 0 n5336 1]), (2, .p c5410), (3, .p [(.int .u8 x5156), (.int .u8 x5159), p5150, p5151, p5152, p5153, p5154]), (4, .p c5337)], 5, []⟩) N _ ((Wk_le (.r (.r (.r (.r (.r (.r (.r (.r (.r (.r (.r (.r (.r (.r (.r (.r (.r (.r (.k (.r (.r .nil))))))))))))))))))))) (OLe.refl _)).trans (cmpS_ok (st' := ⟨[], [(0, .dead), (1, .dead), (2, .dead), (3, .v (.int .i64 x5146)), (4, .dead), (8, .ptr 0 0), (9, .ptr 1 0), (11, .v (.int .u16 x5343)), (12, .sl false 2 0 n5394 2), (13, .v (.int .i64 x5395)), (14, .v (.int .i64 x5396)), (15, .v (.int .i64 (IntKind.i64.wrap (x5396 + 1)))), (30, .sl false 3 2 (Int.toNat (Int.tmod (IntKind.i64.wrap x5159) (IntKind.i64.wrap (x5145 + 1)))) 1), (31, .v (.int .i64 (((Int.toNat (Int.tmod (IntKind.i64.wrap x5159) (IntKind.i64.wrap (x5145 + 1)))) : Nat) : Int))), (32, .v (.int .i64 x5335)), (33, .dead), (37, .v (.int .i64 (IntKind.i64.wrap (1 + (Int.tmod (IntKind.i64.wrap x5156) x5144))))), (38, .v (.int .i64 x5396)), (39, .dead), (46, .dead), (59, .dead)], [(0, .p [(.int .i64 0), .nl]), (1, .r [.v (.int .i64 (IntKind.i64.wrap (1 + (Int.tmod (IntKind.i64.wrap x5156) x5144)))), .sl false 4 0 n5336 1]), (2, .p c5397), (3, .p [(.int .u8 x5156), (.int .u8 x5159), p5150, p5151, p5152, p5153, p5154]), (4, .p c5337)], 5, []⟩) (by kernel_rfl))) ⟨_, _, _, _, h5435, rfl⟩ ?_
                clear h5435
                rintro n _ ⟨n5407, x5408, x5409, c5410, h5435, rfl⟩
                cases n with
                | zero => cases h5435
                | succ n =>
                  rw [m40_L2] at h5435
                  have hh := brn_some h5435; clear h5435; rcases hh with ⟨h5411, h5435⟩ | ⟨h5411, h5435⟩
                  · have hh := grd_some h5435; clear h5435; obtain ⟨g5412, h5435⟩ := hh
                    have hh := brn_some h5435; clear h5435; rcases hh with ⟨h5413, h5435⟩ | ⟨h5413, h5435⟩
                    · have hh := brn_some h5435; clear h5435; rcases hh with ⟨h5414, h5435⟩ | ⟨h5414, h5435⟩
                      · have hh := grd_some h5435; clear h5435; obtain ⟨g5415, h5435⟩ := hh
                        have hh := grd_some h5435; clear h5435; obtain ⟨g5416, h5435⟩ := hh
                        refine W_sound tab_ok mixed 48 _ _ _ ?_
                        simp -implicitDefEqProofs only [go_sem, qa, qb, qc, qd, qe, qf, qg, qh, qi, qj, qk, ↓reduceIte, h5147, h5155, g5157, h5158, g5160, g5161, g5162, h5338, g5339, g5340, g5341, h5342, h5398, h5411, g5412, h5413, h5414, g5415, g5416]
                        repeat with_reducible refine ⟨by first | kernel_rfl | decide, ?_⟩
                        exact cutQ _ ((Wk_le (.r (.r (.r (.r (.r (.r (.r (.r (.r (.r (.r (.r (.r (.r (.r (.r (.r (.r (.r (.k (.k .nil))))))))))))))))))))) (OLe.refl _)).trans (cmpS_ok (st' := ⟨[], [(0, .dead), (1, .dead), (2, .dead), (3, .v (.int .i64 x5146)), (4, .dead), (8, .ptr 0 0), (9, .ptr 1 0), (11, .v (.int .u16 x5343)), (12, .sl false 2 0 (n5407 + 1) 2), (13, .v (.int .i64 (IntKind.i64.wrap (x5408 + 1)))), (14, .v (.int .i64 x5396)), (15, .v (.int .i64 (IntKind.i64.wrap (x5409 + 1)))), (30, .sl false 3 2 (Int.toNat (Int.tmod (IntKind.i64.wrap x5159) (IntKind.i64.wrap (x5145 + 1)))) 1), (31, .v (.int .i64 (((Int.toNat (Int.tmod (IntKind.i64.wrap x5159) (IntKind.i64.wrap (x5145 + 1)))) : Nat) : Int))), (32, .v (.int .i64 x5335)), (33, .dead), (37, .v (.int .i64 (IntKind.i64.wrap (1 + (Int.tmod (IntKind.i64.wrap x5156) x5144))))), (38, .v (.int .i64 x5396)), (39, .dead), (46, .dead), (59, .dead)], [(0, .p [(.int .i64 0), .nl]), (1, .r [.v (.int .i64 (IntKind.i64.wrap (1 + (Int.tmod (IntKind.i64.wrap x5156) x5144)))), .sl false 4 0 n5336 1]), (2, .p (c5410 ++ [(.int .i64 x5396), (.int .i64 x5409)])), (3, .p [(.int .u8 x5156), (.int .u8 x5159), p5150, p5151, p5152, p5153, p5154]), (4, .p c5337)], 5, []⟩) (by kernel_rfl))) ⟨n, Nat.lt_succ_self n, _, _, _, _, h5435, rfl⟩
                      · refine W_sound tab_ok mixed 40 _ _ _ ?_
                        simp -implicitDefEqProofs only [go_sem, qa, qb, qc, qd, qe, qf, qg, qh, qi, qj, qk, ↓reduceIte, h5147, h5155, g5157, h5158, g5160, g5161, g5162, h5338, g5339, g5340, g5341, h5342, h5398, h5411, g5412, h5413, h5414]
                        repeat with_reducible refine ⟨by first | kernel_rfl | decide, ?_⟩
                        exact cutQ _ ((Wk_le (.r (.r (.r (.r (.r (.r (.r (.r (.r (.r (.r (.r (.r (.r (.r (.r (.r (.r (.r (.k (.k .nil))))))))))))))))))))) (OLe.refl _)).trans (cmpS_ok (st' := ⟨[], [(0, .dead), (1, .dead), (2, .dead), (3, .v (.int .i64 x5146)), (4, .dead), (8, .ptr 0 0), (9, .ptr 1 0), (11, .v (.int .u16 x5343)), (12, .sl false 2 0 n5407 2), (13, .v (.int .i64 (IntKind.i64.wrap (x5408 + 1)))), (14, .v (.int .i64 x5396)), (15, .v (.int .i64 (IntKind.i64.wrap (x5409 + 1)))), (30, .sl false 3 2 (Int.toNat (Int.tmod (IntKind.i64.wrap x5159) (IntKind.i64.wrap (x5145 + 1)))) 1), (31, .v (.int .i64 (((Int.toNat (Int.tmod (IntKind.i64.wrap x5159) (IntKind.i64.wrap (x5145 + 1)))) : Nat) : Int))), (32, .v (.int .i64 x5335)), (33, .dead), (37, .v (.int .i64 (IntKind.i64.wrap (1 + (Int.tmod (IntKind.i64.wrap x5156) x5144))))), (38, .v (.int .i64 x5396)), (39, .dead), (46, .dead), (59, .dead)], [(0, .p [(.int .i64 0), .nl]), (1, .r [.v (.int .i64 (IntKind.i64.wrap (1 + (Int.tmod (IntKind.i64.wrap x5156) x5144)))), .sl false 4 0 n5336 1]), (2, .p c5410), (3, .p [(.int .u8 x5156), (.int .u8 x5159), p5150, p5151, p5152, p5153, p5154]), (4, .p c5337)], 5, []⟩) (by kernel_rfl))) ⟨n, Nat.lt_succ_self n, _, _, _, _, h5435, rfl⟩
                    · refine W_sound tab_ok mixed 40 _ _ _ ?_
                      simp -implicitDefEqProofs only [go_sem, qa, qb, qc, qd, qe, qf, qg, qh, qi, qj, qk, ↓reduceIte, h5147, h5155, g5157, h5158, g5160, g5161, g5162, h5338, g5339, g5340, g5341, h5342, h5398, h5411, g5412, h5413]
                      repeat with_reducible refine ⟨by first | kernel_rfl | decide, ?_⟩
                      exact cutQ _ ((Wk_le (.r (.r (.r (.r (.r (.r (.r (.r (.r (.r (.r (.r (.r (.r (.r (.r (.r (.r (.r (.k (.k .nil))))))))))))))))))))) (OLe.refl _)).trans (cmpS_ok (st' := ⟨[], [(0, .dead), (1, .dead), (2, .dead), (3, .v (.int .i64 x5146)), (4, .dead), (8, .ptr 0 0), (9, .ptr 1 0), (11, .v (.int .u16 x5343)), (12, .sl false 2 0 n5407 2), (13, .v (.int .i64 (IntKind.i64.wrap (x5408 + 1)))), (14, .v (.int .i64 x5396)), (15, .v (.int .i64 (IntKind.i64.wrap (x5409 + 1)))), (30, .sl false 3 2 (Int.toNat (Int.tmod (IntKind.i64.wrap x5159) (IntKind.i64.wrap (x5145 + 1)))) 1), (31, .v (.int .i64 (((Int.toNat (Int.tmod (IntKind.i64.wrap x5159) (IntKind.i64.wrap (x5145 + 1)))) : Nat) : Int))), (32, .v (.int .i64 x5335)), (33, .dead), (37, .v (.int .i64 (IntKind.i64.wrap (1 + (Int.tmod (IntKind.i64.wrap x5156) x5144))))), (38, .v (.int .i64 x5396)), (39, .dead), (46, .dead), (59, .dead)], [(0, .p [(.int .i64 0), .nl]), (1, .r [.v (.int .i64 (IntKind.i64.wrap (1 + (Int.tmod (IntKind.i64.wrap x5156) x5144)))), .sl false 4 0 n5336 1]), (2, .p c5410), (3, .p [(.int .u8 x5156), (.int .u8 x5159), p5150, p5151, p5152, p5153, p5154]), (4, .p c5337)], 5, []⟩) (by kernel_rfl))) ⟨n, Nat.lt_succ_self n, _, _, _, _, h5435, rfl⟩
                  · refine W_sound tab_ok mixed 10 _ _ _ ?_
                    simp -implicitDefEqProofs only [go_sem, qa, qb, qc, qd, qe, qf, qg, qh, qi, qj, qk, ↓reduceIte, h5147, h5155, g5157, h5158, g5160, g5161, g5162, h5338, g5339, g5340, g5341, h5342, h5398, h5411]
                    repeat with_reducible refine ⟨by first | kernel_rfl | decide, ?_⟩
                    obtain rfl := Option.some.inj h5435
                    exact cutQ _ ((Wk_le (.r (.r (.r (.r (.r (.r (.r (.r (.r (.r (.k (.k (.r (.r (.r (.r (.r (.r (.r (.k (.r .nil))))))))))))))))))))) (OLe.refl _)).trans (cmpS_ok (st' := ⟨[], [(0, .dead), (1, .dead), (2, .dead), (3, .v (.int .i64 x5146)), (4, .dead), (8, .ptr 0 0), (9, .ptr 1 0), (11, .v (.int .u16 x5343)), (12, .sl false 2 0 n5407 2), (13, .v (.int .i64 x5408)), (14, .dead), (15, .dead), (30, .sl false 3 2 (Int.toNat (Int.tmod (IntKind.i64.wrap x5159) (IntKind.i64.wrap (x5145 + 1)))) 1), (31, .v (.int .i64 (((Int.toNat (Int.tmod (IntKind.i64.wrap x5159) (IntKind.i64.wrap (x5145 + 1)))) : Nat) : Int))), (32, .v (.int .i64 x5335)), (33, .dead), (37, .v (.int .i64 (IntKind.i64.wrap (1 + (Int.tmod (IntKind.i64.wrap x5156) x5144))))), (38, .v (.int .i64 x5396)), (39, .dead), (46, .dead), (59, .dead)], [(0, .p [(.int .i64 0), .nl]), (1, .r [.v (.int .i64 (IntKind.i64.wrap (1 + (Int.tmod (IntKind.i64.wrap x5156) x5144)))), .sl false 4 0 n5336 1]), (2, .p c5410), (3, .p [(.int .u8 x5156), (.int .u8 x5159), p5150, p5151, p5152, p5153, p5154]), (4, .p c5337)], 5, []⟩) (by kernel_rfl))) ⟨_, _, _, rfl, rfl⟩
              · rintro _ ⟨n5417, x5418, c5419, rfl, rfl⟩
                (try dsimp only at h5436)
                refine W_sound tab_ok mixed 5 _ _ _ ?_
                simp -implicitDefEqProofs only [go_sem, qa, qb, qc, qd, qe, qf, qg, qh, qi, qj, qk, ↓reduceIte, h5147, h5155, g5157, h5158, g5160, g5161, g5162, h5338, g5339, g5340, g5341, h5342, h5398]
                repeat with_reducible refine ⟨by first | kernel_rfl | decide, ?_⟩
                exact cutQ _ ((Wk_le (.r (.r (.r (.r (.r (.r (.r (.r (.r (.r (.r (.r (.r (.r (.r (.r (.r (.r (.r (.r (.r .nil))))))))))))))))))))) (OLe.refl _)).trans (cmpS_ok (st' := ⟨[], [(0, .dead), (1, .dead), (2, .dead), (3, .v (.int .i64 x5146)), (4, .dead), (8, .ptr 0 0), (9, .ptr 1 0), (11, .v (.int .u16 x5343)), (12, .sl false 2 0 n5417 2), (13, .v (.int .i64 x5418)), (14, .dead), (15, .dead), (30, .sl false 3 2 (Int.toNat (Int.tmod (IntKind.i64.wrap x5159) (IntKind.i64.wrap (x5145 + 1)))) 1), (31, .v (.int .i64 (((Int.toNat (Int.tmod (IntKind.i64.wrap x5159) (IntKind.i64.wrap (x5145 + 1)))) : Nat) : Int))), (32, .v (.int .i64 x5335)), (33, .dead), (37, .v (.int .i64 (IntKind.i64.wrap (1 + (Int.tmod (IntKind.i64.wrap x5156) x5144))))), (38, .v (.int .i64 (IntKind.i64.wrap (x5396 + 1)))), (39, .dead), (46, .dead), (59, .dead)], [(0, .p [(.int .i64 0), .nl]), (1, .r [.v (.int .i64 (IntKind.i64.wrap (1 + (Int.tmod (IntKind.i64.wrap x5156) x5144)))), .sl false 4 0 n5336 1]), (2, .p c5419), (3, .p [(.int .u8 x5156), (.int .u8 x5159), p5150, p5151, p5152, p5153, p5154]), (4, .p c5337)], 5, []⟩) (by kernel_rfl))) ⟨n, Nat.lt_succ_self n, _, _, _, _, h5436, rfl⟩
            · refine W_sound tab_ok mixed 7 _ _ _ ?_
              simp -implicitDefEqProofs only [go_sem, qa, qb, qc, qd, qe, qf, qg, qh, qi, qj, qk, ↓reduceIte, h5147, h5155, g5157, h5158, g5160, g5161, g5162, h5338, g5339, g5340, g5341, h5342, h5398]
              repeat with_reducible refine ⟨by first | kernel_rfl | decide, ?_⟩
              obtain rfl := Option.some.inj h5432
              exact cutQ _ ((Wk_le (.r (.r (.r (.r (.r (.r (.r (.k (.r (.k (.r (.r (.r (.r (.r (.r (.k (.k (.k (.r (.r .nil))))))))))))))))))))) (OLe.refl _)).trans (cmpS_ok (st' := ⟨[], [(0, .dead), (1, .dead), (2, .dead), (3, .v (.int .i64 x5146)), (4, .dead), (8, .ptr 0 0), (9, .ptr 1 0), (11, .dead), (12, .sl false 2 0 n5394 2), (13, .dead), (14, .dead), (15, .dead), (30, .sl false 3 2 (Int.toNat (Int.tmod (IntKind.i64.wrap x5159) (IntKind.i64.wrap (x5145 + 1)))) 1), (31, .v (.int .i64 (((Int.toNat (Int.tmod (IntKind.i64.wrap x5159) (IntKind.i64.wrap (x5145 + 1)))) : Nat) : Int))), (32, .v (.int .i64 x5335)), (33, .dead), (37, .dead), (38, .dead), (39, .dead), (46, .dead), (59, .dead)], [(0, .p [(.int .i64 0), .nl]), (1, .r [.v (.int .i64 (IntKind.i64.wrap (1 + (Int.tmod (IntKind.i64.wrap x5156) x5144)))), .sl false 4 0 n5336 1]), (2, .p c5397), (3, .p [(.int .u8 x5156), (.int .u8 x5159), p5150, p5151, p5152, p5153, p5154]), (4, .p c5337)], 5, []⟩) (by kernel_rfl))) ⟨_, _, rfl, rfl⟩
        · rintro _ ⟨n5420, c5421, rfl, rfl⟩
          (try dsimp only at h5433)
          have hh := grd_some h5433; clear h5433; obtain ⟨g5422, h5433⟩ := hh
          have hh := grd_some h5433; clear h5433; obtain ⟨g5423, h5433⟩ := hh
          refine W_sound tab_ok mixed 9 _ _ _ ?_
          simp -implicitDefEqProofs only [go_sem, qa, qb, qc, qd, qe, qf, qg, qh, qi, qj, qk, ↓reduceIte, h5147, h5155, g5157, h5158, g5160, g5161, g5162, h5338, g5339, g5340, g5341, h5342, g5422, g5423]
          repeat with_reducible refine ⟨by first | kernel_rfl | decide, ?_⟩
          have hh := grd_some h5433; clear h5433; obtain ⟨g5424, h5433⟩ := hh
          refine Wp_wkK (Wk_freeze 2 c5421 (by rfl) (by decide) (by decide)) rfl ?_
          simp -implicitDefEqProofs only [go_sem, qa, qb, qc, qd, qe, qf, qg, qh, qi, qj, qk, ↓reduceIte, h5147, h5155, g5157, h5158, g5160, g5161, g5162, h5338, g5339, g5340, g5341, h5342, g5422, g5423, g5424]
          refine W_sound tab_ok mixed 5 _ _ _ ?_
          simp -implicitDefEqProofs only [go_sem, qa, qb, qc, qd, qe, qf, qg, qh, qi, qj, qk, ↓reduceIte, h5147, h5155, g5157, h5158, g5160, g5161, g5162, h5338, g5339, g5340, g5341, h5342, g5422, g5423, g5424]
          repeat with_reducible refine ⟨by first | kernel_rfl | decide, ?_⟩
          exact cutQ _ ((Wk_le (.r (.r (.r (.r (.r (.r (.r (.r (.k (.r (.r (.r (.r (.r (.r (.r (.r (.r (.r (.r (.r .nil))))))))))))))))))))) (OLe.refl _)).trans (cmpS_ok (st' := ⟨[], [(0, .dead), (1, .dead), (2, .dead), (3, .v (.int .i64 x5146)), (4, .dead), (8, .ptr 0 0), (9, .ptr 1 0), (11, .dead), (12, .dead), (13, .dead), (14, .dead), (15, .dead), (30, .sl false 2 2 (Int.toNat (Int.tmod (IntKind.i64.wrap x5159) (IntKind.i64.wrap (x5145 + 1)))) 1), (31, .v (.int .i64 (((Int.toNat (Int.tmod (IntKind.i64.wrap x5159) (IntKind.i64.wrap (x5145 + 1)))) : Nat) : Int))), (32, .v (.int .i64 (IntKind.i64.wrap (x5335 + 1)))), (33, .dead), (37, .dead), (38, .dead), (39, .dead), (46, .dead), (59, .dead)], [(0, .p [(.int .i64 0), .nl]), (1, .r [.v (.int .i64 (IntKind.i64.wrap (1 + (Int.tmod (IntKind.i64.wrap x5156) x5144)))), .sl false 3 0 (n5336 + 1) 1]), (2, .p [(.int .u8 x5156), (.int .u8 x5159), p5150, p5151, p5152, p5153, p5154]), (3, .p (c5337 ++ [(.lst false n5420 c5421)]))], 4, []⟩) (by kernel_rfl))) ⟨n, Nat.lt_succ_self n, _, _, _, h5433, rfl⟩
      · refine W_sound tab_ok mixed 7 _ _ _ ?_
        simp -implicitDefEqProofs only [go_sem, qa, qb, qc, qd, qe, qf, qg, qh, qi, qj, qk, ↓reduceIte, h5147, h5155, g5157, h5158, g5160, g5161, g5162, h5338]
        repeat with_reducible refine ⟨by first | kernel_rfl | decide, ?_⟩
        obtain rfl := Option.some.inj h5429
        exact cutQ _ ((Wk_le (.r (.r (.r (.k (.r (.r (.r (.r (.r (.r (.r (.r (.k (.k (.k (.k (.r (.r (.r (.r (.r .nil))))))))))))))))))))) (OLe.refl _)).trans (cmpS_ok (st' := ⟨[], [(0, .dead), (1, .dead), (2, .dead), (3, .dead), (4, .dead), (8, .ptr 0 0), (9, .ptr 1 0), (11, .dead), (12, .dead), (13, .dead), (14, .dead), (15, .dead), (30, .dead), (31, .dead), (32, .dead), (33, .dead), (37, .dead), (38, .dead), (39, .dead), (46, .dead), (59, .dead)], [(0, .p [(.int .i64 0), .nl]), (1, .r [.v (.int .i64 (IntKind.i64.wrap (1 + (Int.tmod (IntKind.i64.wrap x5156) x5144)))), .sl false 2 0 n5336 1]), (2, .p c5337)], 3, []⟩) (by kernel_rfl))) ⟨_, _, rfl, rfl⟩
  · rintro _ ⟨n5425, c5426, rfl, rfl⟩
    (try dsimp only at h5430)
    refine W_sound tab_ok mixed 7 _ _ _ ?_
    simp -implicitDefEqProofs only [go_sem, qa, qb, qc, qd, qe, qf, qg, qh, qi, qj, qk, ↓reduceIte, h5147, h5155, g5157, h5158, g5160, g5161, g5162]
    repeat with_reducible refine ⟨by first | kernel_rfl | decide, ?_⟩
    have hh := grd_some h5430; clear h5430; obtain ⟨g5427, h5430⟩ := hh
    refine FinQ_wk (Wk_freeze 2 c5426 (by rfl) (by decide) (by decide)) ?_
    simp -implicitDefEqProofs only [go_sem, qa, qb, qc, qd, qe, qf, qg, qh, qi, qj, qk, ↓reduceIte, h5147, h5155, g5157, h5158, g5160, g5161, g5162, g5427]
    refine FinQ_wk (Wk_freeze 0 [(.int .i64 (IntKind.i64.wrap (1 + (Int.tmod (IntKind.i64.wrap x5156) x5144)))), (.lst false n5425 c5426)] (by rfl) (by decide) (by decide)) ?_
    simp -implicitDefEqProofs only [go_sem, qa, qb, qc, qd, qe, qf, qg, qh, qi, qj, qk, ↓reduceIte, h5147, h5155, g5157, h5158, g5160, g5161, g5162, g5427]
    obtain rfl := Option.some.inj h5430
    exact finC [(8, .v (.ipt [(.int .i64 (IntKind.i64.wrap (1 + (Int.tmod (IntKind.i64.wrap x5156) x5144)))), (.lst false n5425 c5426)]))] [(8, .v (.ipt [(.int .i64 (IntKind.i64.wrap (1 + (Int.tmod (IntKind.i64.wrap x5156) x5144)))), (.lst false n5425 c5426)]))] (by simp [leE, lk_cons]) (.cons _ _ _ _ _ (.v _ _ (.refl _)) .nil) (by rfl) (by simp [leE, lk_cons]) (by decide) (by decide) rfl (by simp only [go_sem, qa, qb, qc, qd, qe, qf, qg, qh, qi, qj, qk, ↓reduceIte, resQ_tmp, resQ_cell, resQ_nil, retD_one, retD_two, retD_three, retD_none]; try simp [R.val, retD_one, retD_two, retD_three, retD_none])
end Go.Proofs.YtnponojgpkbagaaDoor
namespace Go.Proofs.YtnponojgpkbagaaDoor
open Go.V
def domC : Nat → List Nat := fun n => if n = 44 ∨ n = 50 ∨ n = 52 then [0, 2, 4] else []
theorem cloneN {f : FuncId} (h1 : runE Tryd.prog tab domC (fun _ => false) ⟨[], []⟩ 100 f ([.nl].map .v) = some .nl) (h2 : runE Tryd.prog tab domC (fun _ => false) ⟨[], []⟩ 100 f ([nnP].map .v) = some (.lst true 0 [])) : FnP Tryd.prog f [.lst false 0 []] (.lst true 0 []) :=
  FnP_nil (FnP_le (runE_ok tab_ok mixed KnOk.nil h1) (.cons _ _ _ _ (.refl _) .nil) (.nl true)) (runE_ok tab_ok mixed KnOk.nil h2)
theorem ofZ {f : FuncId} (h : FnP Tryd.prog f [.lst false 0 []] (.lst true 0 [])) {n k : Nat} {c : List PV} (hn : decide (0 < n) = false) (hc : c.length = n * k) : FnP Tryd.prog f [.lst false n c] (.lst true 0 []) := by
  have e : n = 0 := by simpa using hn
  subst e
  have : c = [] := List.eq_nil_of_length_eq_zero (by simpa using hc)
  subst this
  exact h
theorem e50 : FnP Tryd.prog 50 [.lst false 0 []] (.lst true 0 []) := cloneN (by kernel_rfl) (by kernel_rfl)
theorem e52 : FnP Tryd.prog 52 [.lst false 0 []] (.lst true 0 []) := cloneN (by kernel_rfl) (by kernel_rfl)
theorem e50' {n : Nat} {c : List PV} (hn : decide (0 < n) = false) (hc : c.length = n) : FnP Tryd.prog 50 [.lst false n c] (.lst true 0 []) := ofZ (k := 1) e50 hn (by omega)
theorem e52' {n : Nat} {c : List PV} (hn : decide (0 < n) = false) (hc : c.length = n * 2) : FnP Tryd.prog 52 [.lst false n c] (.lst true 0 []) := ofZ (k := 2) e52 hn hc
end Go.Proofs.YtnponojgpkbagaaDoor
