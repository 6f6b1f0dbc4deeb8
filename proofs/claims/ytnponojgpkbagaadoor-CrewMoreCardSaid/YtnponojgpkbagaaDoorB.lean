/-
  The table of types of this dump, for the engine.
-/
import Derived.Test.YtnponojgpkbagaaDoorProg
import Derived.Test.YtnponojgpkbagaaDoorV30
import Derived.KernelRfl
namespace Go.Proofs.YtnponojgpkbagaaDoor
open Go.V
def tab : Tab := [
  (1, ⟨.other, 1, 8, [.dead]⟩),
  (2, ⟨.int .i64, 1, 8, [.v (.int .i64 0)]⟩),
  (3, ⟨.int .i64, 1, 8, [.v (.int .i64 0)]⟩),
  (4, ⟨.bool, 1, 1, [.v (.bool false)]⟩),
  (5, ⟨.int .u8, 1, 1, [.v (.int .u8 0)]⟩),
  (9, ⟨.str, 1, 16, [.v (.str ⟨#[]⟩)]⟩),
  (17, ⟨.other, 1, 8, [.dead]⟩),
  (21, ⟨.int .i32, 1, 4, [.v (.int .i32 0)]⟩),
  (22, ⟨.slice 70, 1, 24, [.v .nl]⟩),
  (23, ⟨.struct [(0, 3), (1, 22)], 2, 32, [.v (.int .i64 0), .v .nl]⟩),
  (24, ⟨.struct [(0, 3), (1, 22)], 2, 32, [.v (.int .i64 0), .v .nl]⟩),
  (25, ⟨.slice 3, 1, 24, [.v .nl]⟩),
  (26, ⟨.other, 1, 8, [.dead]⟩),
  (27, ⟨.other, 1, 8, [.dead]⟩),
  (28, ⟨.struct [(0, 3), (1, 22)], 2, 32, [.v (.int .i64 0), .v .nl]⟩),
  (29, ⟨.int .i64, 1, 8, [.v (.int .i64 0)]⟩),
  (31, ⟨.other, 1, 8, [.dead]⟩),
  (32, ⟨.other, 1, 8, [.dead]⟩),
  (34, ⟨.other, 1, 8, [.dead]⟩),
  (35, ⟨.other, 1, 8, [.dead]⟩),
  (36, ⟨.other, 1, 8, [.dead]⟩),
  (37, ⟨.other, 1, 8, [.dead]⟩),
  (38, ⟨.other, 1, 8, [.dead]⟩),
  (39, ⟨.other, 1, 8, [.dead]⟩),
  (40, ⟨.other, 1, 8, [.dead]⟩),
  (41, ⟨.other, 1, 8, [.dead]⟩),
  (42, ⟨.other, 1, 8, [.dead]⟩),
  (43, ⟨.other, 1, 8, [.dead]⟩),
  (44, ⟨.other, 1, 8, [.dead]⟩),
  (45, ⟨.other, 1, 8, [.dead]⟩),
  (47, ⟨.other, 1, 8, [.dead]⟩),
  (48, ⟨.other, 1, 8, [.dead]⟩),
  (49, ⟨.other, 1, 8, [.dead]⟩),
  (50, ⟨.other, 1, 8, [.dead]⟩),
  (51, ⟨.other, 1, 8, [.dead]⟩),
  (52, ⟨.int .u16, 1, 2, [.v (.int .u16 0)]⟩),
  (53, ⟨.arr 5 52, 5, 10, [.v (.int .u16 0), .v (.int .u16 0), .v (.int .u16 0), .v (.int .u16 0), .v (.int .u16 0)]⟩),
  (54, ⟨.struct [(0, 5), (1, 5), (2, 53)], 7, 12, [.v (.int .u8 0), .v (.int .u8 0), .v (.int .u16 0), .v (.int .u16 0), .v (.int .u16 0), .v (.int .u16 0), .v (.int .u16 0)]⟩),
  (55, ⟨.struct [(0, 5), (1, 5), (2, 53)], 7, 12, [.v (.int .u8 0), .v (.int .u8 0), .v (.int .u16 0), .v (.int .u16 0), .v (.int .u16 0), .v (.int .u16 0), .v (.int .u16 0)]⟩),
  (56, ⟨.other, 1, 8, [.dead]⟩),
  (57, ⟨.other, 1, 8, [.dead]⟩),
  (58, ⟨.int .u64, 1, 8, [.v (.int .u64 0)]⟩),
  (59, ⟨.other, 1, 8, [.dead]⟩),
  (60, ⟨.other, 1, 8, [.dead]⟩),
  (61, ⟨.other, 1, 8, [.dead]⟩),
  (62, ⟨.other, 1, 8, [.dead]⟩),
  (63, ⟨.other, 1, 8, [.dead]⟩),
  (64, ⟨.other, 1, 8, [.dead]⟩),
  (65, ⟨.other, 1, 8, [.dead]⟩),
  (66, ⟨.slice 4, 1, 24, [.v .nl]⟩),
  (67, ⟨.other, 1, 8, [.dead]⟩),
  (68, ⟨.other, 1, 8, [.dead]⟩),
  (69, ⟨.arr 5 5, 5, 5, [.v (.int .u8 0), .v (.int .u8 0), .v (.int .u8 0), .v (.int .u8 0), .v (.int .u8 0)]⟩),
  (70, ⟨.slice 71, 1, 24, [.v .nl]⟩),
  (71, ⟨.arr 2 3, 2, 16, [.v (.int .i64 0), .v (.int .i64 0)]⟩),
  (72, ⟨.other, 1, 8, [.dead]⟩),
  (73, ⟨.arr 5 3, 5, 40, [.v (.int .i64 0), .v (.int .i64 0), .v (.int .i64 0), .v (.int .i64 0), .v (.int .i64 0)]⟩),
  (74, ⟨.other, 1, 8, [.dead]⟩),
  (75, ⟨.other, 1, 8, [.dead]⟩),
  (76, ⟨.other, 1, 8, [.dead]⟩),
  (77, ⟨.other, 1, 8, [.dead]⟩),
  (78, ⟨.other, 1, 8, [.dead]⟩),
  (79, ⟨.other, 1, 8, [.dead]⟩),
  (80, ⟨.other, 1, 8, [.dead]⟩),
  (81, ⟨.other, 1, 8, [.dead]⟩),
  (82, ⟨.other, 1, 8, [.dead]⟩),
  (83, ⟨.other, 1, 8, [.dead]⟩),
  (84, ⟨.other, 1, 8, [.dead]⟩),
  (85, ⟨.other, 1, 8, [.dead]⟩),
  (86, ⟨.other, 1, 8, [.dead]⟩),
  (87, ⟨.other, 1, 8, [.dead]⟩),
  (88, ⟨.other, 1, 8, [.dead]⟩),
  (89, ⟨.other, 1, 8, [.dead]⟩),
  (90, ⟨.other, 1, 8, [.dead]⟩),
  (92, ⟨.other, 1, 8, [.dead]⟩),
  (94, ⟨.other, 1, 8, [.dead]⟩),
  (95, ⟨.other, 1, 8, [.dead]⟩),
  (96, ⟨.other, 1, 8, [.dead]⟩),
  (97, ⟨.other, 1, 8, [.dead]⟩),
  (98, ⟨.arr 5 3, 5, 40, [.v (.int .i64 0), .v (.int .i64 0), .v (.int .i64 0), .v (.int .i64 0), .v (.int .i64 0)]⟩),
  (99, ⟨.other, 1, 8, [.dead]⟩),
  (100, ⟨.other, 1, 8, [.dead]⟩),
  (101, ⟨.slice 25, 1, 24, [.v .nl]⟩),
  (102, ⟨.other, 1, 8, [.dead]⟩),
  (103, ⟨.other, 1, 8, [.dead]⟩),
  (104, ⟨.other, 1, 8, [.dead]⟩),
  (105, ⟨.other, 1, 8, [.dead]⟩),
  (106, ⟨.other, 1, 8, [.dead]⟩),
  (107, ⟨.other, 1, 8, [.dead]⟩),
  (108, ⟨.other, 1, 8, [.dead]⟩),
  (109, ⟨.other, 1, 8, [.dead]⟩),
  (110, ⟨.other, 1, 8, [.dead]⟩),
  (111, ⟨.slice 52, 1, 24, [.v .nl]⟩),
  (112, ⟨.other, 1, 8, [.dead]⟩),
  (113, ⟨.other, 1, 8, [.dead]⟩),
  (114, ⟨.other, 1, 8, [.dead]⟩),
  (115, ⟨.other, 1, 8, [.dead]⟩),
  (116, ⟨.other, 1, 8, [.dead]⟩),
  (118, ⟨.other, 1, 8, [.dead]⟩),
  (119, ⟨.other, 1, 8, [.dead]⟩),
  (121, ⟨.other, 1, 8, [.dead]⟩),
  (122, ⟨.other, 1, 8, [.dead]⟩),
  (123, ⟨.other, 1, 8, [.dead]⟩),
  (124, ⟨.other, 1, 8, [.dead]⟩),
  (125, ⟨.other, 1, 8, [.dead]⟩),
  (126, ⟨.int .u32, 1, 4, [.v (.int .u32 0)]⟩),
  (127, ⟨.other, 1, 8, [.dead]⟩),
  (128, ⟨.int .u64, 1, 8, [.v (.int .u64 0)]⟩),
  (129, ⟨.other, 1, 8, [.dead]⟩),
  (131, ⟨.other, 1, 8, [.dead]⟩),
  (133, ⟨.other, 1, 8, [.dead]⟩),
  (134, ⟨.arr 32 5, 32, 32, [.v (.int .u8 0), .v (.int .u8 0), .v (.int .u8 0), .v (.int .u8 0), .v (.int .u8 0), .v (.int .u8 0), .v (.int .u8 0), .v (.int .u8 0), .v (.int .u8 0), .v (.int .u8 0), .v (.int .u8 0), .v (.int .u8 0), .v (.int .u8 0), .v (.int .u8 0), .v (.int .u8 0), .v (.int .u8 0), .v (.int .u8 0), .v (.int .u8 0), .v (.int .u8 0), .v (.int .u8 0), .v (.int .u8 0), .v (.int .u8 0), .v (.int .u8 0), .v (.int .u8 0), .v (.int .u8 0), .v (.int .u8 0), .v (.int .u8 0), .v (.int .u8 0), .v (.int .u8 0), .v (.int .u8 0), .v (.int .u8 0), .v (.int .u8 0)]⟩),
  (135, ⟨.arr 64 5, 64, 64, [.v (.int .u8 0), .v (.int .u8 0), .v (.int .u8 0), .v (.int .u8 0), .v (.int .u8 0), .v (.int .u8 0), .v (.int .u8 0), .v (.int .u8 0), .v (.int .u8 0), .v (.int .u8 0), .v (.int .u8 0), .v (.int .u8 0), .v (.int .u8 0), .v (.int .u8 0), .v (.int .u8 0), .v (.int .u8 0), .v (.int .u8 0), .v (.int .u8 0), .v (.int .u8 0), .v (.int .u8 0), .v (.int .u8 0), .v (.int .u8 0), .v (.int .u8 0), .v (.int .u8 0), .v (.int .u8 0), .v (.int .u8 0), .v (.int .u8 0), .v (.int .u8 0), .v (.int .u8 0), .v (.int .u8 0), .v (.int .u8 0), .v (.int .u8 0), .v (.int .u8 0), .v (.int .u8 0), .v (.int .u8 0), .v (.int .u8 0), .v (.int .u8 0), .v (.int .u8 0), .v (.int .u8 0), .v (.int .u8 0), .v (.int .u8 0), .v (.int .u8 0), .v (.int .u8 0), .v (.int .u8 0), .v (.int .u8 0), .v (.int .u8 0), .v (.int .u8 0), .v (.int .u8 0), .v (.int .u8 0), .v (.int .u8 0), .v (.int .u8 0), .v (.int .u8 0), .v (.int .u8 0), .v (.int .u8 0), .v (.int .u8 0), .v (.int .u8 0), .v (.int .u8 0), .v (.int .u8 0), .v (.int .u8 0), .v (.int .u8 0), .v (.int .u8 0), .v (.int .u8 0), .v (.int .u8 0), .v (.int .u8 0)]⟩),
  (136, ⟨.other, 1, 8, [.dead]⟩),
  (142, ⟨.other, 1, 8, [.dead]⟩),
  (146, ⟨.other, 1, 8, [.dead]⟩)]
theorem tl1 : tl tab 1 = some ⟨.other, 1, 8, [.dead]⟩ := rfl
theorem tl2 : tl tab 2 = some ⟨.int .i64, 1, 8, [.v (.int .i64 0)]⟩ := rfl
theorem tl3 : tl tab 3 = some ⟨.int .i64, 1, 8, [.v (.int .i64 0)]⟩ := rfl
theorem tl4 : tl tab 4 = some ⟨.bool, 1, 1, [.v (.bool false)]⟩ := rfl
theorem tl5 : tl tab 5 = some ⟨.int .u8, 1, 1, [.v (.int .u8 0)]⟩ := rfl
theorem tl9 : tl tab 9 = some ⟨.str, 1, 16, [.v (.str ⟨#[]⟩)]⟩ := rfl
theorem tl17 : tl tab 17 = some ⟨.other, 1, 8, [.dead]⟩ := rfl
theorem tl21 : tl tab 21 = some ⟨.int .i32, 1, 4, [.v (.int .i32 0)]⟩ := rfl
theorem tl22 : tl tab 22 = some ⟨.slice 70, 1, 24, [.v .nl]⟩ := rfl
theorem tl23 : tl tab 23 = some ⟨.struct [(0, 3), (1, 22)], 2, 32, [.v (.int .i64 0), .v .nl]⟩ := rfl
theorem tl24 : tl tab 24 = some ⟨.struct [(0, 3), (1, 22)], 2, 32, [.v (.int .i64 0), .v .nl]⟩ := rfl
theorem tl25 : tl tab 25 = some ⟨.slice 3, 1, 24, [.v .nl]⟩ := rfl
theorem tl26 : tl tab 26 = some ⟨.other, 1, 8, [.dead]⟩ := rfl
theorem tl27 : tl tab 27 = some ⟨.other, 1, 8, [.dead]⟩ := rfl
theorem tl28 : tl tab 28 = some ⟨.struct [(0, 3), (1, 22)], 2, 32, [.v (.int .i64 0), .v .nl]⟩ := rfl
theorem tl29 : tl tab 29 = some ⟨.int .i64, 1, 8, [.v (.int .i64 0)]⟩ := rfl
theorem tl31 : tl tab 31 = some ⟨.other, 1, 8, [.dead]⟩ := rfl
theorem tl32 : tl tab 32 = some ⟨.other, 1, 8, [.dead]⟩ := rfl
theorem tl34 : tl tab 34 = some ⟨.other, 1, 8, [.dead]⟩ := rfl
theorem tl35 : tl tab 35 = some ⟨.other, 1, 8, [.dead]⟩ := rfl
theorem tl36 : tl tab 36 = some ⟨.other, 1, 8, [.dead]⟩ := rfl
theorem tl37 : tl tab 37 = some ⟨.other, 1, 8, [.dead]⟩ := rfl
theorem tl38 : tl tab 38 = some ⟨.other, 1, 8, [.dead]⟩ := rfl
theorem tl39 : tl tab 39 = some ⟨.other, 1, 8, [.dead]⟩ := rfl
theorem tl40 : tl tab 40 = some ⟨.other, 1, 8, [.dead]⟩ := rfl
theorem tl41 : tl tab 41 = some ⟨.other, 1, 8, [.dead]⟩ := rfl
theorem tl42 : tl tab 42 = some ⟨.other, 1, 8, [.dead]⟩ := rfl
theorem tl43 : tl tab 43 = some ⟨.other, 1, 8, [.dead]⟩ := rfl
theorem tl44 : tl tab 44 = some ⟨.other, 1, 8, [.dead]⟩ := rfl
theorem tl45 : tl tab 45 = some ⟨.other, 1, 8, [.dead]⟩ := rfl
theorem tl47 : tl tab 47 = some ⟨.other, 1, 8, [.dead]⟩ := rfl
theorem tl48 : tl tab 48 = some ⟨.other, 1, 8, [.dead]⟩ := rfl
theorem tl49 : tl tab 49 = some ⟨.other, 1, 8, [.dead]⟩ := rfl
theorem tl50 : tl tab 50 = some ⟨.other, 1, 8, [.dead]⟩ := rfl
theorem tl51 : tl tab 51 = some ⟨.other, 1, 8, [.dead]⟩ := rfl
theorem tl52 : tl tab 52 = some ⟨.int .u16, 1, 2, [.v (.int .u16 0)]⟩ := rfl
theorem tl53 : tl tab 53 = some ⟨.arr 5 52, 5, 10, [.v (.int .u16 0), .v (.int .u16 0), .v (.int .u16 0), .v (.int .u16 0), .v (.int .u16 0)]⟩ := rfl
theorem tl54 : tl tab 54 = some ⟨.struct [(0, 5), (1, 5), (2, 53)], 7, 12, [.v (.int .u8 0), .v (.int .u8 0), .v (.int .u16 0), .v (.int .u16 0), .v (.int .u16 0), .v (.int .u16 0), .v (.int .u16 0)]⟩ := rfl
theorem tl55 : tl tab 55 = some ⟨.struct [(0, 5), (1, 5), (2, 53)], 7, 12, [.v (.int .u8 0), .v (.int .u8 0), .v (.int .u16 0), .v (.int .u16 0), .v (.int .u16 0), .v (.int .u16 0), .v (.int .u16 0)]⟩ := rfl
theorem tl56 : tl tab 56 = some ⟨.other, 1, 8, [.dead]⟩ := rfl
theorem tl57 : tl tab 57 = some ⟨.other, 1, 8, [.dead]⟩ := rfl
theorem tl58 : tl tab 58 = some ⟨.int .u64, 1, 8, [.v (.int .u64 0)]⟩ := rfl
theorem tl59 : tl tab 59 = some ⟨.other, 1, 8, [.dead]⟩ := rfl
theorem tl60 : tl tab 60 = some ⟨.other, 1, 8, [.dead]⟩ := rfl
theorem tl61 : tl tab 61 = some ⟨.other, 1, 8, [.dead]⟩ := rfl
theorem tl62 : tl tab 62 = some ⟨.other, 1, 8, [.dead]⟩ := rfl
theorem tl63 : tl tab 63 = some ⟨.other, 1, 8, [.dead]⟩ := rfl
theorem tl64 : tl tab 64 = some ⟨.other, 1, 8, [.dead]⟩ := rfl
theorem tl65 : tl tab 65 = some ⟨.other, 1, 8, [.dead]⟩ := rfl
theorem tl66 : tl tab 66 = some ⟨.slice 4, 1, 24, [.v .nl]⟩ := rfl
theorem tl67 : tl tab 67 = some ⟨.other, 1, 8, [.dead]⟩ := rfl
theorem tl68 : tl tab 68 = some ⟨.other, 1, 8, [.dead]⟩ := rfl
theorem tl69 : tl tab 69 = some ⟨.arr 5 5, 5, 5, [.v (.int .u8 0), .v (.int .u8 0), .v (.int .u8 0), .v (.int .u8 0), .v (.int .u8 0)]⟩ := rfl
theorem tl70 : tl tab 70 = some ⟨.slice 71, 1, 24, [.v .nl]⟩ := rfl
theorem tl71 : tl tab 71 = some ⟨.arr 2 3, 2, 16, [.v (.int .i64 0), .v (.int .i64 0)]⟩ := rfl
theorem tl72 : tl tab 72 = some ⟨.other, 1, 8, [.dead]⟩ := rfl
theorem tl73 : tl tab 73 = some ⟨.arr 5 3, 5, 40, [.v (.int .i64 0), .v (.int .i64 0), .v (.int .i64 0), .v (.int .i64 0), .v (.int .i64 0)]⟩ := rfl
theorem tl74 : tl tab 74 = some ⟨.other, 1, 8, [.dead]⟩ := rfl
theorem tl75 : tl tab 75 = some ⟨.other, 1, 8, [.dead]⟩ := rfl
theorem tl76 : tl tab 76 = some ⟨.other, 1, 8, [.dead]⟩ := rfl
theorem tl77 : tl tab 77 = some ⟨.other, 1, 8, [.dead]⟩ := rfl
theorem tl78 : tl tab 78 = some ⟨.other, 1, 8, [.dead]⟩ := rfl
theorem tl79 : tl tab 79 = some ⟨.other, 1, 8, [.dead]⟩ := rfl
theorem tl80 : tl tab 80 = some ⟨.other, 1, 8, [.dead]⟩ := rfl
theorem tl81 : tl tab 81 = some ⟨.other, 1, 8, [.dead]⟩ := rfl
theorem tl82 : tl tab 82 = some ⟨.other, 1, 8, [.dead]⟩ := rfl
theorem tl83 : tl tab 83 = some ⟨.other, 1, 8, [.dead]⟩ := rfl
theorem tl84 : tl tab 84 = some ⟨.other, 1, 8, [.dead]⟩ := rfl
theorem tl85 : tl tab 85 = some ⟨.other, 1, 8, [.dead]⟩ := rfl
theorem tl86 : tl tab 86 = some ⟨.other, 1, 8, [.dead]⟩ := rfl
theorem tl87 : tl tab 87 = some ⟨.other, 1, 8, [.dead]⟩ := rfl
theorem tl88 : tl tab 88 = some ⟨.other, 1, 8, [.dead]⟩ := rfl
theorem tl89 : tl tab 89 = some ⟨.other, 1, 8, [.dead]⟩ := rfl
theorem tl90 : tl tab 90 = some ⟨.other, 1, 8, [.dead]⟩ := rfl
theorem tl92 : tl tab 92 = some ⟨.other, 1, 8, [.dead]⟩ := rfl
theorem tl94 : tl tab 94 = some ⟨.other, 1, 8, [.dead]⟩ := rfl
theorem tl95 : tl tab 95 = some ⟨.other, 1, 8, [.dead]⟩ := rfl
theorem tl96 : tl tab 96 = some ⟨.other, 1, 8, [.dead]⟩ := rfl
theorem tl97 : tl tab 97 = some ⟨.other, 1, 8, [.dead]⟩ := rfl
theorem tl98 : tl tab 98 = some ⟨.arr 5 3, 5, 40, [.v (.int .i64 0), .v (.int .i64 0), .v (.int .i64 0), .v (.int .i64 0), .v (.int .i64 0)]⟩ := rfl
theorem tl99 : tl tab 99 = some ⟨.other, 1, 8, [.dead]⟩ := rfl
theorem tl100 : tl tab 100 = some ⟨.other, 1, 8, [.dead]⟩ := rfl
theorem tl101 : tl tab 101 = some ⟨.slice 25, 1, 24, [.v .nl]⟩ := rfl
theorem tl102 : tl tab 102 = some ⟨.other, 1, 8, [.dead]⟩ := rfl
theorem tl103 : tl tab 103 = some ⟨.other, 1, 8, [.dead]⟩ := rfl
theorem tl104 : tl tab 104 = some ⟨.other, 1, 8, [.dead]⟩ := rfl
theorem tl105 : tl tab 105 = some ⟨.other, 1, 8, [.dead]⟩ := rfl
theorem tl106 : tl tab 106 = some ⟨.other, 1, 8, [.dead]⟩ := rfl
theorem tl107 : tl tab 107 = some ⟨.other, 1, 8, [.dead]⟩ := rfl
theorem tl108 : tl tab 108 = some ⟨.other, 1, 8, [.dead]⟩ := rfl
theorem tl109 : tl tab 109 = some ⟨.other, 1, 8, [.dead]⟩ := rfl
theorem tl110 : tl tab 110 = some ⟨.other, 1, 8, [.dead]⟩ := rfl
theorem tl111 : tl tab 111 = some ⟨.slice 52, 1, 24, [.v .nl]⟩ := rfl
theorem tl112 : tl tab 112 = some ⟨.other, 1, 8, [.dead]⟩ := rfl
theorem tl113 : tl tab 113 = some ⟨.other, 1, 8, [.dead]⟩ := rfl
theorem tl114 : tl tab 114 = some ⟨.other, 1, 8, [.dead]⟩ := rfl
theorem tl115 : tl tab 115 = some ⟨.other, 1, 8, [.dead]⟩ := rfl
theorem tl116 : tl tab 116 = some ⟨.other, 1, 8, [.dead]⟩ := rfl
theorem tl118 : tl tab 118 = some ⟨.other, 1, 8, [.dead]⟩ := rfl
theorem tl119 : tl tab 119 = some ⟨.other, 1, 8, [.dead]⟩ := rfl
theorem tl121 : tl tab 121 = some ⟨.other, 1, 8, [.dead]⟩ := rfl
theorem tl122 : tl tab 122 = some ⟨.other, 1, 8, [.dead]⟩ := rfl
theorem tl123 : tl tab 123 = some ⟨.other, 1, 8, [.dead]⟩ := rfl
theorem tl124 : tl tab 124 = some ⟨.other, 1, 8, [.dead]⟩ := rfl
theorem tl125 : tl tab 125 = some ⟨.other, 1, 8, [.dead]⟩ := rfl
theorem tl126 : tl tab 126 = some ⟨.int .u32, 1, 4, [.v (.int .u32 0)]⟩ := rfl
theorem tl127 : tl tab 127 = some ⟨.other, 1, 8, [.dead]⟩ := rfl
theorem tl128 : tl tab 128 = some ⟨.int .u64, 1, 8, [.v (.int .u64 0)]⟩ := rfl
theorem tl129 : tl tab 129 = some ⟨.other, 1, 8, [.dead]⟩ := rfl
theorem tl131 : tl tab 131 = some ⟨.other, 1, 8, [.dead]⟩ := rfl
theorem tl133 : tl tab 133 = some ⟨.other, 1, 8, [.dead]⟩ := rfl
theorem tl134 : tl tab 134 = some ⟨.arr 32 5, 32, 32, [.v (.int .u8 0), .v (.int .u8 0), .v (.int .u8 0), .v (.int .u8 0), .v (.int .u8 0), .v (.int .u8 0), .v (.int .u8 0), .v (.int .u8 0), .v (.int .u8 0), .v (.int .u8 0), .v (.int .u8 0), .v (.int .u8 0), .v (.int .u8 0), .v (.int .u8 0), .v (.int .u8 0), .v (.int .u8 0), .v (.int .u8 0), .v (.int .u8 0), .v (.int .u8 0), .v (.int .u8 0), .v (.int .u8 0), .v (.int .u8 0), .v (.int .u8 0), .v (.int .u8 0), .v (.int .u8 0), .v (.int .u8 0), .v (.int .u8 0), .v (.int .u8 0), .v (.int .u8 0), .v (.int .u8 0), .v (.int .u8 0), .v (.int .u8 0)]⟩ := rfl
theorem tl135 : tl tab 135 = some ⟨.arr 64 5, 64, 64, [.v (.int .u8 0), .v (.int .u8 0), .v (.int .u8 0), .v (.int .u8 0), .v (.int .u8 0), .v (.int .u8 0), .v (.int .u8 0), .v (.int .u8 0), .v (.int .u8 0), .v (.int .u8 0), .v (.int .u8 0), .v (.int .u8 0), .v (.int .u8 0), .v (.int .u8 0), .v (.int .u8 0), .v (.int .u8 0), .v (.int .u8 0), .v (.int .u8 0), .v (.int .u8 0), .v (.int .u8 0), .v (.int .u8 0), .v (.int .u8 0), .v (.int .u8 0), .v (.int .u8 0), .v (.int .u8 0), .v (.int .u8 0), .v (.int .u8 0), .v (.int .u8 0), .v (.int .u8 0), .v (.int .u8 0), .v (.int .u8 0), .v (.int .u8 0), .v (.int .u8 0), .v (.int .u8 0), .v (.int .u8 0), .v (.int .u8 0), .v (.int .u8 0), .v (.int .u8 0), .v (.int .u8 0), .v (.int .u8 0), .v (.int .u8 0), .v (.int .u8 0), .v (.int .u8 0), .v (.int .u8 0), .v (.int .u8 0), .v (.int .u8 0), .v (.int .u8 0), .v (.int .u8 0), .v (.int .u8 0), .v (.int .u8 0), .v (.int .u8 0), .v (.int .u8 0), .v (.int .u8 0), .v (.int .u8 0), .v (.int .u8 0), .v (.int .u8 0), .v (.int .u8 0), .v (.int .u8 0), .v (.int .u8 0), .v (.int .u8 0), .v (.int .u8 0), .v (.int .u8 0), .v (.int .u8 0), .v (.int .u8 0)]⟩ := rfl
theorem tl136 : tl tab 136 = some ⟨.other, 1, 8, [.dead]⟩ := rfl
theorem tl142 : tl tab 142 = some ⟨.other, 1, 8, [.dead]⟩ := rfl
theorem tl146 : tl tab 146 = some ⟨.other, 1, 8, [.dead]⟩ := rfl
theorem tab_ok : TOk Tryd.prog tab := tabB_ok (by kernel_rfl)
theorem mixed : Tryd.prog.follows .mixedOrders = true := by kernel_rfl
end Go.Proofs.YtnponojgpkbagaaDoor
