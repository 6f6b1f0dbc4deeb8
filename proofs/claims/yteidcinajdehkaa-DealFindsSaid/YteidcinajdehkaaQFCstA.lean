/-
  Models and laws.
-/
import Derived.Test.YteidcinajdehkaaProg
import Derived.Test.YteidcinajdehkaaQFV30
import Derived.KernelRfl
set_option linter.unusedSimpArgs false
set_option linter.unusedVariables false
namespace Go.Proofs.Yteidcinajdehkaa
open Go.V
def tab : Tab := [
  (1, ⟨.other, 1, 8, [.dead]⟩),
  (2, ⟨.int .i64, 1, 8, [.v (.int .i64 0)]⟩),
  (3, ⟨.int .i64, 1, 8, [.v (.int .i64 0)]⟩),
  (4, ⟨.bool, 1, 1, [.v (.bool false)]⟩),
  (5, ⟨.int .u8, 1, 1, [.v (.int .u8 0)]⟩),
  (9, ⟨.str, 1, 16, [.v (.str ⟨#[]⟩)]⟩),
  (17, ⟨.ptr, 1, 8, [.dead]⟩),
  (21, ⟨.int .i32, 1, 4, [.v (.int .i32 0)]⟩),
  (22, ⟨.slice 23, 1, 24, [.v .nl]⟩),
  (23, ⟨.slice 3, 1, 24, [.v .nl]⟩),
  (24, ⟨.struct [(0, 23), (1, 23)], 2, 48, [.v .nl, .v .nl]⟩),
  (25, ⟨.struct [(0, 23), (1, 23)], 2, 48, [.v .nl, .v .nl]⟩),
  (26, ⟨.other, 1, 8, [.dead]⟩),
  (27, ⟨.other, 1, 8, [.dead]⟩),
  (28, ⟨.other, 1, 8, [.dead]⟩),
  (29, ⟨.struct [(0, 23), (1, 23)], 2, 48, [.v .nl, .v .nl]⟩),
  (30, ⟨.int .i64, 1, 8, [.v (.int .i64 0)]⟩),
  (32, ⟨.other, 1, 8, [.dead]⟩),
  (33, ⟨.other, 1, 8, [.dead]⟩),
  (35, ⟨.other, 1, 8, [.dead]⟩),
  (36, ⟨.other, 1, 8, [.dead]⟩),
  (37, ⟨.other, 1, 8, [.dead]⟩),
  (38, ⟨.other, 1, 8, [.dead]⟩),
  (39, ⟨.other, 1, 8, [.dead]⟩),
  (40, ⟨.other, 1, 8, [.dead]⟩),
  (41, ⟨.other, 1, 8, [.dead]⟩),
  (42, ⟨.other, 1, 8, [.dead]⟩),
  (43, ⟨.other, 1, 8, [.dead]⟩),
  (44, ⟨.other, 1, 8, [.dead]⟩),
  (46, ⟨.other, 1, 8, [.dead]⟩),
  (48, ⟨.other, 1, 8, [.dead]⟩),
  (50, ⟨.other, 1, 8, [.dead]⟩),
  (51, ⟨.other, 1, 8, [.dead]⟩),
  (52, ⟨.struct [(0, 23), (1, 23)], 2, 48, [.v .nl, .v .nl]⟩),
  (53, ⟨.struct [(0, 23), (1, 23)], 2, 48, [.v .nl, .v .nl]⟩),
  (54, ⟨.struct [(0, 23), (1, 23)], 2, 48, [.v .nl, .v .nl]⟩),
  (56, ⟨.other, 1, 8, [.dead]⟩),
  (58, ⟨.other, 1, 8, [.dead]⟩),
  (59, ⟨.other, 1, 8, [.dead]⟩),
  (60, ⟨.other, 1, 8, [.dead]⟩),
  (61, ⟨.other, 1, 8, [.dead]⟩),
  (62, ⟨.other, 1, 8, [.dead]⟩),
  (63, ⟨.other, 1, 8, [.dead]⟩),
  (64, ⟨.arr 4 5, 4, 4, [.v (.int .u8 0), .v (.int .u8 0), .v (.int .u8 0), .v (.int .u8 0)]⟩),
  (65, ⟨.arr 3 64, 12, 12, [.v (.int .u8 0), .v (.int .u8 0), .v (.int .u8 0), .v (.int .u8 0), .v (.int .u8 0), .v (.int .u8 0), .v (.int .u8 0), .v (.int .u8 0), .v (.int .u8 0), .v (.int .u8 0), .v (.int .u8 0), .v (.int .u8 0)]⟩),
  (66, ⟨.arr 3 5, 3, 3, [.v (.int .u8 0), .v (.int .u8 0), .v (.int .u8 0)]⟩),
  (67, ⟨.arr 2 5, 2, 2, [.v (.int .u8 0), .v (.int .u8 0)]⟩),
  (68, ⟨.arr 7 67, 14, 14, [.v (.int .u8 0), .v (.int .u8 0), .v (.int .u8 0), .v (.int .u8 0), .v (.int .u8 0), .v (.int .u8 0), .v (.int .u8 0), .v (.int .u8 0), .v (.int .u8 0), .v (.int .u8 0), .v (.int .u8 0), .v (.int .u8 0), .v (.int .u8 0), .v (.int .u8 0)]⟩),
  (69, ⟨.struct [(0, 5), (1, 5), (2, 5), (3, 65), (15, 66), (18, 64), (22, 68), (36, 5)], 37, 37, [.v (.int .u8 0), .v (.int .u8 0), .v (.int .u8 0), .v (.int .u8 0), .v (.int .u8 0), .v (.int .u8 0), .v (.int .u8 0), .v (.int .u8 0), .v (.int .u8 0), .v (.int .u8 0), .v (.int .u8 0), .v (.int .u8 0), .v (.int .u8 0), .v (.int .u8 0), .v (.int .u8 0), .v (.int .u8 0), .v (.int .u8 0), .v (.int .u8 0), .v (.int .u8 0), .v (.int .u8 0), .v (.int .u8 0), .v (.int .u8 0), .v (.int .u8 0), .v (.int .u8 0), .v (.int .u8 0), .v (.int .u8 0), .v (.int .u8 0), .v (.int .u8 0), .v (.int .u8 0), .v (.int .u8 0), .v (.int .u8 0), .v (.int .u8 0), .v (.int .u8 0), .v (.int .u8 0), .v (.int .u8 0), .v (.int .u8 0), .v (.int .u8 0)]⟩),
  (70, ⟨.struct [(0, 5), (1, 5), (2, 5), (3, 65), (15, 66), (18, 64), (22, 68), (36, 5)], 37, 37, [.v (.int .u8 0), .v (.int .u8 0), .v (.int .u8 0), .v (.int .u8 0), .v (.int .u8 0), .v (.int .u8 0), .v (.int .u8 0), .v (.int .u8 0), .v (.int .u8 0), .v (.int .u8 0), .v (.int .u8 0), .v (.int .u8 0), .v (.int .u8 0), .v (.int .u8 0), .v (.int .u8 0), .v (.int .u8 0), .v (.int .u8 0), .v (.int .u8 0), .v (.int .u8 0), .v (.int .u8 0), .v (.int .u8 0), .v (.int .u8 0), .v (.int .u8 0), .v (.int .u8 0), .v (.int .u8 0), .v (.int .u8 0), .v (.int .u8 0), .v (.int .u8 0), .v (.int .u8 0), .v (.int .u8 0), .v (.int .u8 0), .v (.int .u8 0), .v (.int .u8 0), .v (.int .u8 0), .v (.int .u8 0), .v (.int .u8 0), .v (.int .u8 0)]⟩),
  (72, ⟨.other, 1, 8, [.dead]⟩),
  (74, ⟨.other, 1, 8, [.dead]⟩),
  (75, ⟨.other, 1, 8, [.dead]⟩),
  (76, ⟨.other, 1, 8, [.dead]⟩),
  (77, ⟨.other, 1, 8, [.dead]⟩),
  (78, ⟨.int .i8, 1, 1, [.v (.int .i8 0)]⟩),
  (79, ⟨.arr 3 78, 3, 3, [.v (.int .i8 0), .v (.int .i8 0), .v (.int .i8 0)]⟩),
  (80, ⟨.arr 4 78, 4, 4, [.v (.int .i8 0), .v (.int .i8 0), .v (.int .i8 0), .v (.int .i8 0)]⟩),
  (81, ⟨.other, 1, 8, [.dead]⟩),
  (82, ⟨.other, 1, 8, [.dead]⟩),
  (83, ⟨.other, 1, 8, [.dead]⟩),
  (84, ⟨.other, 1, 8, [.dead]⟩),
  (85, ⟨.other, 1, 8, [.dead]⟩),
  (86, ⟨.other, 1, 8, [.dead]⟩),
  (87, ⟨.other, 1, 8, [.dead]⟩),
  (88, ⟨.other, 1, 8, [.dead]⟩),
  (89, ⟨.other, 1, 8, [.dead]⟩),
  (90, ⟨.other, 1, 8, [.dead]⟩),
  (91, ⟨.other, 1, 8, [.dead]⟩),
  (92, ⟨.other, 1, 8, [.dead]⟩),
  (93, ⟨.slice 95, 1, 24, [.v .nl]⟩),
  (94, ⟨.other, 1, 8, [.dead]⟩),
  (95, ⟨.arr 2 3, 2, 16, [.v (.int .i64 0), .v (.int .i64 0)]⟩),
  (96, ⟨.other, 1, 8, [.dead]⟩),
  (97, ⟨.other, 1, 8, [.dead]⟩),
  (98, ⟨.other, 1, 8, [.dead]⟩),
  (99, ⟨.other, 1, 8, [.dead]⟩),
  (100, ⟨.other, 1, 8, [.dead]⟩),
  (101, ⟨.other, 1, 8, [.dead]⟩),
  (102, ⟨.slice 22, 1, 24, [.v .nl]⟩),
  (103, ⟨.other, 1, 8, [.dead]⟩),
  (104, ⟨.other, 1, 8, [.dead]⟩),
  (105, ⟨.other, 1, 8, [.dead]⟩),
  (106, ⟨.other, 1, 8, [.dead]⟩),
  (107, ⟨.other, 1, 8, [.dead]⟩),
  (108, ⟨.slice 67, 1, 24, [.v .nl]⟩),
  (109, ⟨.other, 1, 8, [.dead]⟩),
  (110, ⟨.other, 1, 8, [.dead]⟩),
  (111, ⟨.other, 1, 8, [.dead]⟩),
  (112, ⟨.other, 1, 8, [.dead]⟩),
  (113, ⟨.other, 1, 8, [.dead]⟩),
  (114, ⟨.other, 1, 8, [.dead]⟩),
  (115, ⟨.arr 4 23, 4, 96, [.v .nl, .v .nl, .v .nl, .v .nl]⟩),
  (116, ⟨.other, 1, 8, [.dead]⟩),
  (117, ⟨.other, 1, 8, [.dead]⟩),
  (118, ⟨.other, 1, 8, [.dead]⟩),
  (119, ⟨.other, 1, 8, [.dead]⟩),
  (120, ⟨.other, 1, 8, [.dead]⟩),
  (121, ⟨.other, 1, 8, [.dead]⟩),
  (122, ⟨.other, 1, 8, [.dead]⟩),
  (128, ⟨.other, 1, 8, [.dead]⟩),
  (129, ⟨.int .u32, 1, 4, [.v (.int .u32 0)]⟩),
  (133, ⟨.ptr, 1, 8, [.dead]⟩)]
theorem tl1 : tl tab 1 = some ⟨.other, 1, 8, [.dead]⟩ := rfl
theorem tl2 : tl tab 2 = some ⟨.int .i64, 1, 8, [.v (.int .i64 0)]⟩ := rfl
theorem tl3 : tl tab 3 = some ⟨.int .i64, 1, 8, [.v (.int .i64 0)]⟩ := rfl
theorem tl4 : tl tab 4 = some ⟨.bool, 1, 1, [.v (.bool false)]⟩ := rfl
theorem tl5 : tl tab 5 = some ⟨.int .u8, 1, 1, [.v (.int .u8 0)]⟩ := rfl
theorem tl9 : tl tab 9 = some ⟨.str, 1, 16, [.v (.str ⟨#[]⟩)]⟩ := rfl
theorem tl17 : tl tab 17 = some ⟨.ptr, 1, 8, [.dead]⟩ := rfl
theorem tl21 : tl tab 21 = some ⟨.int .i32, 1, 4, [.v (.int .i32 0)]⟩ := rfl
theorem tl22 : tl tab 22 = some ⟨.slice 23, 1, 24, [.v .nl]⟩ := rfl
theorem tl23 : tl tab 23 = some ⟨.slice 3, 1, 24, [.v .nl]⟩ := rfl
theorem tl24 : tl tab 24 = some ⟨.struct [(0, 23), (1, 23)], 2, 48, [.v .nl, .v .nl]⟩ := rfl
theorem tl25 : tl tab 25 = some ⟨.struct [(0, 23), (1, 23)], 2, 48, [.v .nl, .v .nl]⟩ := rfl
theorem tl26 : tl tab 26 = some ⟨.other, 1, 8, [.dead]⟩ := rfl
theorem tl27 : tl tab 27 = some ⟨.other, 1, 8, [.dead]⟩ := rfl
theorem tl28 : tl tab 28 = some ⟨.other, 1, 8, [.dead]⟩ := rfl
theorem tl29 : tl tab 29 = some ⟨.struct [(0, 23), (1, 23)], 2, 48, [.v .nl, .v .nl]⟩ := rfl
theorem tl30 : tl tab 30 = some ⟨.int .i64, 1, 8, [.v (.int .i64 0)]⟩ := rfl
theorem tl32 : tl tab 32 = some ⟨.other, 1, 8, [.dead]⟩ := rfl
theorem tl33 : tl tab 33 = some ⟨.other, 1, 8, [.dead]⟩ := rfl
theorem tl35 : tl tab 35 = some ⟨.other, 1, 8, [.dead]⟩ := rfl
theorem tl36 : tl tab 36 = some ⟨.other, 1, 8, [.dead]⟩ := rfl
theorem tl37 : tl tab 37 = some ⟨.other, 1, 8, [.dead]⟩ := rfl
theorem tl38 : tl tab 38 = some ⟨.other, 1, 8, [.dead]⟩ := rfl
theorem tl39 : tl tab 39 = some ⟨.other, 1, 8, [.dead]⟩ := rfl
theorem tl40 : tl tab 40 = some ⟨.other, 1, 8, [.dead]⟩ := rfl
theorem tl41 : tl tab 41 = some ⟨.other, 1, 8, [.dead]⟩ := rfl
theorem tl42 : tl tab 42 = some ⟨.other, 1, 8, [.dead]⟩ := rfl
theorem tl43 : tl tab 43 = some ⟨.other, 1, 8, [.dead]⟩ := rfl
theorem tl44 : tl tab 44 = some ⟨.other, 1, 8, [.dead]⟩ := rfl
theorem tl46 : tl tab 46 = some ⟨.other, 1, 8, [.dead]⟩ := rfl
theorem tl48 : tl tab 48 = some ⟨.other, 1, 8, [.dead]⟩ := rfl
theorem tl50 : tl tab 50 = some ⟨.other, 1, 8, [.dead]⟩ := rfl
theorem tl51 : tl tab 51 = some ⟨.other, 1, 8, [.dead]⟩ := rfl
theorem tl52 : tl tab 52 = some ⟨.struct [(0, 23), (1, 23)], 2, 48, [.v .nl, .v .nl]⟩ := rfl
theorem tl53 : tl tab 53 = some ⟨.struct [(0, 23), (1, 23)], 2, 48, [.v .nl, .v .nl]⟩ := rfl
theorem tl54 : tl tab 54 = some ⟨.struct [(0, 23), (1, 23)], 2, 48, [.v .nl, .v .nl]⟩ := rfl
theorem tl56 : tl tab 56 = some ⟨.other, 1, 8, [.dead]⟩ := rfl
theorem tl58 : tl tab 58 = some ⟨.other, 1, 8, [.dead]⟩ := rfl
theorem tl59 : tl tab 59 = some ⟨.other, 1, 8, [.dead]⟩ := rfl
theorem tl60 : tl tab 60 = some ⟨.other, 1, 8, [.dead]⟩ := rfl
theorem tl61 : tl tab 61 = some ⟨.other, 1, 8, [.dead]⟩ := rfl
theorem tl62 : tl tab 62 = some ⟨.other, 1, 8, [.dead]⟩ := rfl
theorem tl63 : tl tab 63 = some ⟨.other, 1, 8, [.dead]⟩ := rfl
theorem tl64 : tl tab 64 = some ⟨.arr 4 5, 4, 4, [.v (.int .u8 0), .v (.int .u8 0), .v (.int .u8 0), .v (.int .u8 0)]⟩ := rfl
theorem tl65 : tl tab 65 = some ⟨.arr 3 64, 12, 12, [.v (.int .u8 0), .v (.int .u8 0), .v (.int .u8 0), .v (.int .u8 0), .v (.int .u8 0), .v (.int .u8 0), .v (.int .u8 0), .v (.int .u8 0), .v (.int .u8 0), .v (.int .u8 0), .v (.int .u8 0), .v (.int .u8 0)]⟩ := rfl
theorem tl66 : tl tab 66 = some ⟨.arr 3 5, 3, 3, [.v (.int .u8 0), .v (.int .u8 0), .v (.int .u8 0)]⟩ := rfl
theorem tl67 : tl tab 67 = some ⟨.arr 2 5, 2, 2, [.v (.int .u8 0), .v (.int .u8 0)]⟩ := rfl
theorem tl68 : tl tab 68 = some ⟨.arr 7 67, 14, 14, [.v (.int .u8 0), .v (.int .u8 0), .v (.int .u8 0), .v (.int .u8 0), .v (.int .u8 0), .v (.int .u8 0), .v (.int .u8 0), .v (.int .u8 0), .v (.int .u8 0), .v (.int .u8 0), .v (.int .u8 0), .v (.int .u8 0), .v (.int .u8 0), .v (.int .u8 0)]⟩ := rfl
theorem tl69 : tl tab 69 = some ⟨.struct [(0, 5), (1, 5), (2, 5), (3, 65), (15, 66), (18, 64), (22, 68), (36, 5)], 37, 37, [.v (.int .u8 0), .v (.int .u8 0), .v (.int .u8 0), .v (.int .u8 0), .v (.int .u8 0), .v (.int .u8 0), .v (.int .u8 0), .v (.int .u8 0), .v (.int .u8 0), .v (.int .u8 0), .v (.int .u8 0), .v (.int .u8 0), .v (.int .u8 0), .v (.int .u8 0), .v (.int .u8 0), .v (.int .u8 0), .v (.int .u8 0), .v (.int .u8 0), .v (.int .u8 0), .v (.int .u8 0), .v (.int .u8 0), .v (.int .u8 0), .v (.int .u8 0), .v (.int .u8 0), .v (.int .u8 0), .v (.int .u8 0), .v (.int .u8 0), .v (.int .u8 0), .v (.int .u8 0), .v (.int .u8 0), .v (.int .u8 0), .v (.int .u8 0), .v (.int .u8 0), .v (.int .u8 0), .v (.int .u8 0), .v (.int .u8 0), .v (.int .u8 0)]⟩ := rfl
theorem tl70 : tl tab 70 = some ⟨.struct [(0, 5), (1, 5), (2, 5), (3, 65), (15, 66), (18, 64), (22, 68), (36, 5)], 37, 37, [.v (.int .u8 0), .v (.int .u8 0), .v (.int .u8 0), .v (.int .u8 0), .v (.int .u8 0), .v (.int .u8 0), .v (.int .u8 0), .v (.int .u8 0), .v (.int .u8 0), .v (.int .u8 0), .v (.int .u8 0), .v (.int .u8 0), .v (.int .u8 0), .v (.int .u8 0), .v (.int .u8 0), .v (.int .u8 0), .v (.int .u8 0), .v (.int .u8 0), .v (.int .u8 0), .v (.int .u8 0), .v (.int .u8 0), .v (.int .u8 0), .v (.int .u8 0), .v (.int .u8 0), .v (.int .u8 0), .v (.int .u8 0), .v (.int .u8 0), .v (.int .u8 0), .v (.int .u8 0), .v (.int .u8 0), .v (.int .u8 0), .v (.int .u8 0), .v (.int .u8 0), .v (.int .u8 0), .v (.int .u8 0), .v (.int .u8 0), .v (.int .u8 0)]⟩ := rfl
theorem tl72 : tl tab 72 = some ⟨.other, 1, 8, [.dead]⟩ := rfl
theorem tl74 : tl tab 74 = some ⟨.other, 1, 8, [.dead]⟩ := rfl
theorem tl75 : tl tab 75 = some ⟨.other, 1, 8, [.dead]⟩ := rfl
theorem tl76 : tl tab 76 = some ⟨.other, 1, 8, [.dead]⟩ := rfl
theorem tl77 : tl tab 77 = some ⟨.other, 1, 8, [.dead]⟩ := rfl
theorem tl78 : tl tab 78 = some ⟨.int .i8, 1, 1, [.v (.int .i8 0)]⟩ := rfl
theorem tl79 : tl tab 79 = some ⟨.arr 3 78, 3, 3, [.v (.int .i8 0), .v (.int .i8 0), .v (.int .i8 0)]⟩ := rfl
theorem tl80 : tl tab 80 = some ⟨.arr 4 78, 4, 4, [.v (.int .i8 0), .v (.int .i8 0), .v (.int .i8 0), .v (.int .i8 0)]⟩ := rfl
theorem tl81 : tl tab 81 = some ⟨.other, 1, 8, [.dead]⟩ := rfl
theorem tl82 : tl tab 82 = some ⟨.other, 1, 8, [.dead]⟩ := rfl
theorem tl83 : tl tab 83 = some ⟨.other, 1, 8, [.dead]⟩ := rfl
theorem tl84 : tl tab 84 = some ⟨.other, 1, 8, [.dead]⟩ := rfl
theorem tl85 : tl tab 85 = some ⟨.other, 1, 8, [.dead]⟩ := rfl
theorem tl86 : tl tab 86 = some ⟨.other, 1, 8, [.dead]⟩ := rfl
theorem tl87 : tl tab 87 = some ⟨.other, 1, 8, [.dead]⟩ := rfl
theorem tl88 : tl tab 88 = some ⟨.other, 1, 8, [.dead]⟩ := rfl
theorem tl89 : tl tab 89 = some ⟨.other, 1, 8, [.dead]⟩ := rfl
theorem tl90 : tl tab 90 = some ⟨.other, 1, 8, [.dead]⟩ := rfl
theorem tl91 : tl tab 91 = some ⟨.other, 1, 8, [.dead]⟩ := rfl
theorem tl92 : tl tab 92 = some ⟨.other, 1, 8, [.dead]⟩ := rfl
theorem tl93 : tl tab 93 = some ⟨.slice 95, 1, 24, [.v .nl]⟩ := rfl
theorem tl94 : tl tab 94 = some ⟨.other, 1, 8, [.dead]⟩ := rfl
theorem tl95 : tl tab 95 = some ⟨.arr 2 3, 2, 16, [.v (.int .i64 0), .v (.int .i64 0)]⟩ := rfl
theorem tl96 : tl tab 96 = some ⟨.other, 1, 8, [.dead]⟩ := rfl
theorem tl97 : tl tab 97 = some ⟨.other, 1, 8, [.dead]⟩ := rfl
theorem tl98 : tl tab 98 = some ⟨.other, 1, 8, [.dead]⟩ := rfl
theorem tl99 : tl tab 99 = some ⟨.other, 1, 8, [.dead]⟩ := rfl
theorem tl100 : tl tab 100 = some ⟨.other, 1, 8, [.dead]⟩ := rfl
theorem tl101 : tl tab 101 = some ⟨.other, 1, 8, [.dead]⟩ := rfl
theorem tl102 : tl tab 102 = some ⟨.slice 22, 1, 24, [.v .nl]⟩ := rfl
theorem tl103 : tl tab 103 = some ⟨.other, 1, 8, [.dead]⟩ := rfl
theorem tl104 : tl tab 104 = some ⟨.other, 1, 8, [.dead]⟩ := rfl
theorem tl105 : tl tab 105 = some ⟨.other, 1, 8, [.dead]⟩ := rfl
theorem tl106 : tl tab 106 = some ⟨.other, 1, 8, [.dead]⟩ := rfl
theorem tl107 : tl tab 107 = some ⟨.other, 1, 8, [.dead]⟩ := rfl
theorem tl108 : tl tab 108 = some ⟨.slice 67, 1, 24, [.v .nl]⟩ := rfl
theorem tl109 : tl tab 109 = some ⟨.other, 1, 8, [.dead]⟩ := rfl
theorem tl110 : tl tab 110 = some ⟨.other, 1, 8, [.dead]⟩ := rfl
theorem tl111 : tl tab 111 = some ⟨.other, 1, 8, [.dead]⟩ := rfl
theorem tl112 : tl tab 112 = some ⟨.other, 1, 8, [.dead]⟩ := rfl
theorem tl113 : tl tab 113 = some ⟨.other, 1, 8, [.dead]⟩ := rfl
theorem tl114 : tl tab 114 = some ⟨.other, 1, 8, [.dead]⟩ := rfl
theorem tl115 : tl tab 115 = some ⟨.arr 4 23, 4, 96, [.v .nl, .v .nl, .v .nl, .v .nl]⟩ := rfl
theorem tl116 : tl tab 116 = some ⟨.other, 1, 8, [.dead]⟩ := rfl
theorem tl117 : tl tab 117 = some ⟨.other, 1, 8, [.dead]⟩ := rfl
theorem tl118 : tl tab 118 = some ⟨.other, 1, 8, [.dead]⟩ := rfl
theorem tl119 : tl tab 119 = some ⟨.other, 1, 8, [.dead]⟩ := rfl
theorem tl120 : tl tab 120 = some ⟨.other, 1, 8, [.dead]⟩ := rfl
theorem tl121 : tl tab 121 = some ⟨.other, 1, 8, [.dead]⟩ := rfl
theorem tl122 : tl tab 122 = some ⟨.other, 1, 8, [.dead]⟩ := rfl
theorem tl128 : tl tab 128 = some ⟨.other, 1, 8, [.dead]⟩ := rfl
theorem tl129 : tl tab 129 = some ⟨.int .u32, 1, 4, [.v (.int .u32 0)]⟩ := rfl
theorem tl133 : tl tab 133 = some ⟨.ptr, 1, 8, [.dead]⟩ := rfl
theorem tab_ok : TOk Try.prog tab := tabB_ok (by kernel_rfl)
theorem mixed : Try.prog.follows .mixedOrders = true := by kernel_rfl
end Go.Proofs.Yteidcinajdehkaa
namespace Go.Proofs.Yteidcinajdehkaa
open Go.V
set_option maxRecDepth 100000
def domL : List (List Nat) := [[], [], [], [0, 1, 2, 4, 6, 7, 8, 9, 10, 11, 12, 13, 14, 15, 25], [0, 1, 3, 4, 5, 6, 7, 8, 9, 10, 11, 12, 13, 19], [0, 2, 3, 4, 5, 6, 7, 8, 9, 10, 11, 12, 13, 14, 15, 16, 18], [0, 1, 2, 3, 5, 7, 8, 9, 10, 11, 12, 13, 14, 36], [0, 1, 2, 3, 4, 5, 6, 7, 8, 9, 10, 11, 12, 13, 14, 15, 16, 17, 18, 19, 20, 21, 22, 23, 24, 25, 121, 133, 134], [0, 1, 2, 3, 4, 5, 6, 7, 8, 9, 10, 12, 13, 14, 15, 16, 17, 18, 19, 20, 21, 22, 23, 24, 25, 26, 27, 28, 51, 92, 94, 95, 96, 101, 102, 103, 104, 130, 144, 147, 148, 149, 150, 174, 175, 176, 177, 200, 201, 202, 203, 207, 208, 209, 210, 226, 242, 249], [0, 1, 2, 3, 4, 5, 8, 9, 10, 11, 12, 13, 14, 15, 16, 38, 39, 42, 43, 44, 47, 48, 49, 74, 75, 76, 81, 82, 83, 84, 110], [0, 1, 2, 3, 4, 6, 8, 9, 10, 11, 12, 13, 14, 15, 16, 137], [0, 1, 2, 3, 4, 5, 6, 7, 8, 9, 10, 11, 12, 13, 14, 15, 16, 17, 18, 19, 20, 21, 22, 23, 24, 25, 26, 27, 28, 29, 31, 33, 34, 35, 36, 37, 52, 53, 54, 73, 74, 75, 76, 172, 221, 222, 223, 224, 225, 228, 229, 230, 231, 235, 244, 246], [0, 1, 2, 3, 4, 8, 9, 10, 11, 12, 13, 15, 16, 17, 18, 19, 20, 21, 22, 23, 24, 25, 26, 27, 28, 29, 30, 31, 32, 33, 34, 35, 36, 37, 38, 39, 57, 58, 59, 60, 84, 85, 86, 100, 101, 102, 122, 123, 124, 183], [0, 1, 2, 3, 4, 8, 9, 10, 11, 12, 13, 15, 16, 17, 18, 19, 20, 21, 22, 23, 24, 26, 28, 29, 30, 31, 32, 33, 34, 35, 36, 54, 55, 56, 57, 130, 133, 134, 135, 136, 148, 149, 150, 151, 171], [0, 1, 2, 3, 5, 6, 7, 8, 9, 10, 11, 12, 34], [0, 2, 3, 6, 10, 18], [0, 1, 2], [0, 1, 2, 3, 4, 5, 6, 7, 8, 9, 10, 11, 12, 13, 14, 15, 16, 17, 79], [0, 1, 3, 4, 5, 6, 7, 12], [0, 1, 3, 4, 5, 6, 7, 8, 9, 10, 11, 12, 13, 14, 15, 20, 26, 41, 62], [0, 1, 2, 4, 6, 7, 8, 9, 10, 11, 12, 13, 14, 18, 22, 33, 39, 40, 41, 42, 53, 54, 55, 56, 57, 82], [0, 1, 2, 4, 6, 7, 8, 9, 10, 11, 12, 13, 14, 19, 26, 30, 41, 49, 57, 61, 80, 93, 97, 109], [0, 1, 4, 5, 10, 14, 26], [0, 2, 4, 5, 16, 27, 28, 29, 30, 33, 41], [0, 2, 3, 13, 23, 27, 39, 45], [0, 1, 3, 4, 5, 9, 11, 28, 37], [0, 1, 3, 4, 5, 9, 26, 36, 43], [0, 1, 2, 3, 4, 5, 6, 7, 8, 13], [0, 1, 3, 4, 5, 6, 7, 8, 9, 14, 27, 39], [0, 1, 3, 4, 5, 6, 7, 12], [0, 1, 3, 4, 5, 6, 11], [0, 2, 3, 4, 8], [0, 2, 3, 4, 8], [0, 2, 3, 4, 5, 6, 7, 8, 12, 15, 16, 17, 24, 30, 31, 32, 41, 52], [0, 2, 3, 4, 5, 9, 15], [0, 1, 2, 3, 4, 5, 6, 10, 17], [0, 2, 3, 4, 5, 6, 7, 8, 9, 10, 11, 12, 13, 17, 30, 36, 45, 54, 86], [0, 1, 4, 5, 10, 14, 25], [0, 1, 2, 3, 4, 5, 6, 7, 9, 14, 23], [0, 1, 3, 4, 5, 6, 7, 8, 9, 10, 11, 22, 24, 49, 69], [0, 1, 3, 4, 5, 6, 7, 8, 9, 12, 16, 33, 42, 43, 44, 45, 49, 50, 51, 52, 68], [0, 1, 3, 4, 5, 9], [0, 1, 2, 3, 5, 7, 8, 9, 10, 11, 12, 13, 14, 15, 24, 30, 33, 34, 35, 36, 51, 52, 53, 54, 69], [0, 1, 2, 3, 5, 7, 8, 9, 10, 11, 12, 13, 22, 27, 33, 53, 71], [0, 1, 2, 3, 4, 5, 6, 7, 8, 9, 10, 11, 12, 14, 15, 16, 29, 30, 31, 33, 34, 35, 48, 65, 70, 105, 106, 107, 108, 134], [0, 1, 2, 3, 4, 5, 6], [0, 1, 2, 3, 4, 5, 6, 7, 8, 9, 10, 16, 17, 18, 29, 30, 31, 32, 36, 37, 38, 46, 47, 48, 49, 53, 54, 55], [0, 2, 3, 4, 5, 6, 8, 9, 10, 17, 23, 24, 25, 34, 42], [0], [0], [0, 2], [0, 2], [0], [0, 2, 4], [0, 2, 3, 9], [0, 2, 3, 4, 7, 15], [0, 1, 2, 3, 4], [0, 1, 2, 3, 4, 5, 6], [0, 1, 2, 3, 4, 5, 7, 9, 10, 12, 13, 14, 15, 16, 17, 20, 21, 22, 23, 44], [0], [0, 1, 2, 3, 4, 5, 6, 18, 19, 20], [0, 1, 2, 4, 5, 6, 7, 8, 31, 49], [0, 1, 2, 3], [0, 1, 2, 3, 4, 5, 6, 7, 8, 20, 61], [0, 2, 3, 4, 8], [0, 1, 4], [0, 1, 3], [0, 2], [0, 1, 2, 4, 5, 6], [0, 2, 3, 5, 6, 7, 8, 9], [0, 1, 2, 6, 7, 11, 21], [0, 1, 4, 5, 6, 7, 11, 20], [0, 1, 2, 4, 5, 6, 7, 8, 33, 47, 48, 49, 50, 75, 79], [0, 1, 2, 3, 4, 6, 7, 8, 9, 10, 11, 12, 13, 14, 15, 16, 20, 21, 22, 23, 46, 50, 51, 52, 53], [0, 1, 4, 5, 6, 7, 8, 9, 10, 11, 14, 25, 31, 56], [0, 1], [0, 1, 2, 6, 7, 8, 9, 10, 11, 12, 16, 37, 67], [0, 2, 3, 4, 8, 9, 10], [0, 2, 3, 4, 5, 6, 10, 18, 26, 36, 69], [0, 1, 3, 4, 5], [0, 1, 2, 3, 4, 5], [0, 1, 2, 3, 4, 6], [0, 1, 4, 5, 6, 10, 15, 21], [0, 1, 2, 3, 4, 12], [0, 1, 3, 4, 5, 6, 22, 32, 36, 45, 66], [0, 1, 2, 3, 4, 5, 6, 7, 8, 9, 10, 20, 21, 22], [0, 1, 2, 3, 4, 6, 8, 18, 20, 21, 22, 23], [0, 1, 4, 5, 6, 7, 8, 9, 10, 11, 12, 13, 17, 18, 19, 20], [0, 1, 2, 3, 4, 10], [0, 1, 2, 3, 5, 9, 13, 14, 15, 20], [0, 1, 4], [0, 1, 4, 5, 7, 8, 9, 16], [0, 1, 4], [0, 1, 2, 4], [0, 1, 2, 6], [0, 1, 2, 6, 11], [0, 1, 4, 5, 6, 11, 26], [0, 1, 4, 5, 6, 7, 8, 11, 13, 25, 37], [0, 1, 2, 3, 6, 7, 8, 11, 15, 16, 17, 18, 38], [0, 1, 2, 6, 7, 16], [0, 1, 4, 5, 9, 17], [0, 1, 2, 3, 4, 5, 6, 7, 9, 10, 11, 16, 36, 64], [0, 1, 4, 5, 7, 8, 9, 16], [0, 1, 4, 5, 7, 8, 9, 16], [0], [0], [0], [0], [0], [0], [0], [0], [0], [0], [0], [0], [0], [0], [0], [0]]
def nthL : List (List Nat) → Nat → List Nat
  | [], _ => []
  | x :: _, 0 => x
  | _ :: l, n + 1 => nthL l n
def noFz (n : Nat) : Bool := bif Nat.beq n 0 then false else false
def kn0 : Known := ⟨[], []⟩
theorem kn0_ok : KnOk Try.prog kn0 := KnOk.nil
def ka0 : List PV := []
def kr0 : PV := (.lst true 2 [(.lst true 2 [(.int .i64 1), (.int .i64 2)]), (.lst true 2 [(.int .i64 2), (.int .i64 1)])])
theorem k0 : FnP Try.prog 48 ka0 kr0 := runE_ok (doms := nthL domL) (fzr := noFz) (n := 4000) tab_ok mixed kn0_ok (by kernel_rfl)
def kn1 : Known := ⟨(48, ka0, kr0) :: kn0.p, kn0.i⟩
theorem kn1_ok : KnOk Try.prog kn1 := KnOk.cons k0 kn0_ok
def ka1 : List PV := []
def kr1 : PV := (.agg [(.lst true 2 [(.int .i64 2), (.int .i64 1)]), (.lst true 2 [(.int .i64 1), (.int .i64 2)])])
theorem k1 : FnP Try.prog 49 ka1 kr1 := runE_ok (doms := nthL domL) (fzr := noFz) (n := 4000) tab_ok mixed kn1_ok (by kernel_rfl)
def kn2 : Known := ⟨(49, ka1, kr1) :: kn1.p, kn1.i⟩
theorem kn2_ok : KnOk Try.prog kn2 := KnOk.cons k1 kn1_ok
def ka2 : List PV := [(.lst true 2 [(.lst true 2 [(.int .i64 1), (.int .i64 2)]), (.lst true 2 [(.int .i64 2), (.int .i64 1)])])]
def kr2 : PV := (.int .i64 0)
theorem k2 : FnP Try.prog 23 ka2 kr2 := runE_ok (doms := nthL domL) (fzr := noFz) (n := 4000) tab_ok mixed kn2_ok (by kernel_rfl)
def kn3 : Known := ⟨(23, ka2, kr2) :: kn2.p, kn2.i⟩
theorem kn3_ok : KnOk Try.prog kn3 := KnOk.cons k2 kn2_ok
def ka3 : List PV := [(.lst true 2 [(.lst true 2 [(.int .i64 1), (.int .i64 2)]), (.lst true 2 [(.int .i64 2), (.int .i64 1)])]), (.agg [(.lst true 2 [(.int .i64 2), (.int .i64 1)]), (.lst true 2 [(.int .i64 1), (.int .i64 2)])])]
def kr3 : PV := (.int .i64 0)
theorem k3 : FnP Try.prog 25 ka3 kr3 := runE_ok (doms := nthL domL) (fzr := noFz) (n := 4000) tab_ok mixed kn3_ok (by kernel_rfl)
def kn4 : Known := ⟨(25, ka3, kr3) :: kn3.p, kn3.i⟩
theorem kn4_ok : KnOk Try.prog kn4 := KnOk.cons k3 kn3_ok
def ka4 : List PV := [(.lst true 2 [(.lst true 2 [(.int .i64 1), (.int .i64 2)]), (.lst true 2 [(.int .i64 2), (.int .i64 1)])]), (.agg [(.lst true 2 [(.int .i64 2), (.int .i64 1)]), (.lst true 2 [(.int .i64 1), (.int .i64 2)])])]
def kr4 : PV := (.tup [(.lst false 2 [(.lst true 2 [(.int .i64 1), (.int .i64 1)]), (.lst true 2 [(.int .i64 0), (.int .i64 1)])]), (.int .i64 0)])
theorem k4 : FnP Try.prog 27 ka4 kr4 := runE_ok (doms := nthL domL) (fzr := noFz) (n := 4000) tab_ok mixed kn4_ok (by kernel_rfl)
def kn5 : Known := ⟨(27, ka4, kr4) :: kn4.p, kn4.i⟩
theorem kn5_ok : KnOk Try.prog kn5 := KnOk.cons k4 kn4_ok
def ka5 : List PV := []
def kr5 : PV := (.lst true 2 [(.lst true 2 [(.int .i64 2), (.int .i64 1)]), (.lst true 2 [(.int .i64 1), (.int .i64 2)])])
theorem k5 : FnP Try.prog 52 ka5 kr5 := runE_ok (doms := nthL domL) (fzr := noFz) (n := 4000) tab_ok mixed kn5_ok (by kernel_rfl)
def kn6 : Known := ⟨(52, ka5, kr5) :: kn5.p, kn5.i⟩
theorem kn6_ok : KnOk Try.prog kn6 := KnOk.cons k5 kn5_ok
def ka6 : List PV := [(.lst true 2 [(.lst true 2 [(.int .i64 2), (.int .i64 1)]), (.lst true 2 [(.int .i64 1), (.int .i64 2)])])]
def kr6 : PV := (.int .i64 0)
theorem k6 : FnP Try.prog 23 ka6 kr6 := runE_ok (doms := nthL domL) (fzr := noFz) (n := 4000) tab_ok mixed kn6_ok (by kernel_rfl)
def kn7 : Known := ⟨(23, ka6, kr6) :: kn6.p, kn6.i⟩
theorem kn7_ok : KnOk Try.prog kn7 := KnOk.cons k6 kn6_ok
def ka7 : List PV := [(.lst true 2 [(.lst true 2 [(.int .i64 2), (.int .i64 1)]), (.lst true 2 [(.int .i64 1), (.int .i64 2)])])]
def kr7 : PV := (.tup [(.bool false), (.int .i64 0)])
theorem k7 : FnP Try.prog 31 ka7 kr7 := runE_ok (doms := nthL domL) (fzr := noFz) (n := 4000) tab_ok mixed kn7_ok (by kernel_rfl)
def kn8 : Known := ⟨(31, ka7, kr7) :: kn7.p, kn7.i⟩
theorem kn8_ok : KnOk Try.prog kn8 := KnOk.cons k7 kn7_ok
def ka8 : List PV := [(.lst true 2 [(.lst true 2 [(.int .i64 2), (.int .i64 1)]), (.lst true 2 [(.int .i64 1), (.int .i64 2)])])]
def kr8 : PV := (.tup [(.lst true 4 [(.int .i64 0), (.int .i64 1), (.int .i64 0), (.int .i64 1)]), (.int .i64 0)])
theorem k8 : FnP Try.prog 33 ka8 kr8 := runE_ok (doms := nthL domL) (fzr := noFz) (n := 4000) tab_ok mixed kn8_ok (by kernel_rfl)
def kn9 : Known := ⟨(33, ka8, kr8) :: kn8.p, kn8.i⟩
theorem kn9_ok : KnOk Try.prog kn9 := KnOk.cons k8 kn8_ok
def ka9 : List PV := [(.lst true 2 [(.lst true 2 [(.int .i64 1), (.int .i64 2)]), (.lst true 2 [(.int .i64 2), (.int .i64 1)])])]
def kr9 : PV := (.tup [(.lst false 2 [(.int .i64 0), (.int .i64 1)]), (.lst false 2 [(.int .i64 0), (.int .i64 1)]), (.int .i64 0)])
theorem k9 : FnP Try.prog 35 ka9 kr9 := runE_ok (doms := nthL domL) (fzr := noFz) (n := 4000) tab_ok mixed kn9_ok (by kernel_rfl)
def kn10 : Known := ⟨(35, ka9, kr9) :: kn9.p, kn9.i⟩
theorem kn10_ok : KnOk Try.prog kn10 := KnOk.cons k9 kn9_ok
def ka10 : List PV := [.nl]
def kr10 : PV := (.int .i64 4)
theorem k10 : FnP Try.prog 23 ka10 kr10 := runE_ok (doms := nthL domL) (fzr := noFz) (n := 4000) tab_ok mixed kn10_ok (by kernel_rfl)
def kn11 : Known := ⟨(23, ka10, kr10) :: kn10.p, kn10.i⟩
theorem kn11_ok : KnOk Try.prog kn11 := KnOk.cons k10 kn10_ok
def ka11 : List PV := [(.lst true 2 [(.lst true 2 [(.int .i64 1), (.int .i64 2)]), (.lst true 2 [(.int .i64 2), (.int .i64 1)])]), (.agg [(.lst true 2 [(.int .i64 2), (.int .i64 1)]), (.lst true 2 [(.int .i64 1), (.int .i64 2)])])]
def kr11 : PV := (.tup [(.lst false 2 [(.lst true 2 [(.int .i64 1), (.int .i64 1)]), (.lst true 2 [(.int .i64 0), (.int .i64 1)])]), (.int .i64 0)])
theorem k11 : FnP Try.prog 18 ka11 kr11 := runE_ok (doms := nthL domL) (fzr := noFz) (n := 4000) tab_ok mixed kn11_ok (by kernel_rfl)
def kn12 : Known := ⟨(18, ka11, kr11) :: kn11.p, kn11.i⟩
theorem kn12_ok : KnOk Try.prog kn12 := KnOk.cons k11 kn11_ok
def ka12 : List PV := [(.lst true 2 [(.lst true 2 [(.int .i64 2), (.int .i64 1)]), (.lst true 2 [(.int .i64 1), (.int .i64 2)])]), (.agg [(.lst true 2 [(.int .i64 2), (.int .i64 1)]), (.lst true 2 [(.int .i64 1), (.int .i64 2)])])]
def kr12 : PV := (.int .i64 0)
theorem k12 : FnP Try.prog 25 ka12 kr12 := runE_ok (doms := nthL domL) (fzr := noFz) (n := 4000) tab_ok mixed kn12_ok (by kernel_rfl)
def kn13 : Known := ⟨(25, ka12, kr12) :: kn12.p, kn12.i⟩
theorem kn13_ok : KnOk Try.prog kn13 := KnOk.cons k12 kn12_ok
def ka13 : List PV := [(.lst true 2 [(.lst true 2 [(.int .i64 2), (.int .i64 1)]), (.lst true 2 [(.int .i64 1), (.int .i64 2)])]), (.agg [(.lst true 2 [(.int .i64 2), (.int .i64 1)]), (.lst true 2 [(.int .i64 1), (.int .i64 2)])])]
def kr13 : PV := (.tup [(.lst false 2 [(.lst true 2 [(.int .i64 0), (.int .i64 2)]), (.lst true 2 [(.int .i64 1), (.int .i64 0)])]), (.int .i64 0)])
theorem k13 : FnP Try.prog 27 ka13 kr13 := runE_ok (doms := nthL domL) (fzr := noFz) (n := 4000) tab_ok mixed kn13_ok (by kernel_rfl)
def kn14 : Known := ⟨(27, ka13, kr13) :: kn13.p, kn13.i⟩
theorem kn14_ok : KnOk Try.prog kn14 := KnOk.cons k13 kn13_ok
def ka14 : List PV := [(.lst true 2 [(.lst true 2 [(.int .i64 1), (.int .i64 2)]), (.lst true 2 [(.int .i64 2), (.int .i64 1)])]), (.agg [(.lst true 2 [(.int .i64 2), (.int .i64 1)]), (.lst true 2 [(.int .i64 1), (.int .i64 2)])])]
def kr14 : PV := (.tup [(.int .i64 2), (.int .i64 0)])
theorem k14 : FnP Try.prog 29 ka14 kr14 := runE_ok (doms := nthL domL) (fzr := noFz) (n := 4000) tab_ok mixed kn14_ok (by kernel_rfl)
def kn15 : Known := ⟨(29, ka14, kr14) :: kn14.p, kn14.i⟩
theorem kn15_ok : KnOk Try.prog kn15 := KnOk.cons k14 kn14_ok
def ka15 : List PV := [(.lst true 2 [(.lst true 2 [(.int .i64 1), (.int .i64 2)]), (.lst true 2 [(.int .i64 2), (.int .i64 1)])])]
def kr15 : PV := (.tup [(.bool true), (.int .i64 0)])
theorem k15 : FnP Try.prog 31 ka15 kr15 := runE_ok (doms := nthL domL) (fzr := noFz) (n := 4000) tab_ok mixed kn15_ok (by kernel_rfl)
def kn16 : Known := ⟨(31, ka15, kr15) :: kn15.p, kn15.i⟩
theorem kn16_ok : KnOk Try.prog kn16 := KnOk.cons k15 kn15_ok
def ka16 : List PV := []
def kr16 : PV := (.lst true 3 [(.lst true 3 [(.int .i64 0), (.int .i64 1), (.int .i64 1)]), (.lst true 3 [(.int .i64 1), (.int .i64 0), (.int .i64 1)]), (.lst true 3 [(.int .i64 1), (.int .i64 1), (.int .i64 0)])])
theorem k16 : FnP Try.prog 59 ka16 kr16 := runE_ok (doms := nthL domL) (fzr := noFz) (n := 4000) tab_ok mixed kn16_ok (by kernel_rfl)
def kn17 : Known := ⟨(59, ka16, kr16) :: kn16.p, kn16.i⟩
theorem kn17_ok : KnOk Try.prog kn17 := KnOk.cons k16 kn16_ok
def ka17 : List PV := [(.lst true 3 [(.lst true 3 [(.int .i64 0), (.int .i64 1), (.int .i64 1)]), (.lst true 3 [(.int .i64 1), (.int .i64 0), (.int .i64 1)]), (.lst true 3 [(.int .i64 1), (.int .i64 1), (.int .i64 0)])])]
def kr17 : PV := (.int .i64 0)
theorem k17 : FnP Try.prog 23 ka17 kr17 := runE_ok (doms := nthL domL) (fzr := noFz) (n := 4000) tab_ok mixed kn17_ok (by kernel_rfl)
def kn18 : Known := ⟨(23, ka17, kr17) :: kn17.p, kn17.i⟩
theorem kn18_ok : KnOk Try.prog kn18 := KnOk.cons k17 kn17_ok
def ka18 : List PV := [(.lst true 3 [(.lst true 3 [(.int .i64 0), (.int .i64 1), (.int .i64 1)]), (.lst true 3 [(.int .i64 1), (.int .i64 0), (.int .i64 1)]), (.lst true 3 [(.int .i64 1), (.int .i64 1), (.int .i64 0)])])]
def kr18 : PV := (.tup [(.bool false), (.int .i64 0)])
theorem k18 : FnP Try.prog 31 ka18 kr18 := runE_ok (doms := nthL domL) (fzr := noFz) (n := 4000) tab_ok mixed kn18_ok (by kernel_rfl)
def kn19 : Known := ⟨(31, ka18, kr18) :: kn18.p, kn18.i⟩
theorem kn19_ok : KnOk Try.prog kn19 := KnOk.cons k18 kn18_ok
def ka19 : List PV := [(.lst true 3 [(.lst true 3 [(.int .i64 0), (.int .i64 1), (.int .i64 1)]), (.lst true 3 [(.int .i64 1), (.int .i64 0), (.int .i64 1)]), (.lst true 3 [(.int .i64 1), (.int .i64 1), (.int .i64 0)])])]
def kr19 : PV := (.tup [(.lst true 4 [(.int .i64 0), (.int .i64 1), (.int .i64 1), (.int .i64 2)]), (.int .i64 0)])
theorem k19 : FnP Try.prog 33 ka19 kr19 := runE_ok (doms := nthL domL) (fzr := noFz) (n := 4000) tab_ok mixed kn19_ok (by kernel_rfl)
def kn20 : Known := ⟨(33, ka19, kr19) :: kn19.p, kn19.i⟩
theorem kn20_ok : KnOk Try.prog kn20 := KnOk.cons k19 kn19_ok
def ka20 : List PV := [(.lst true 2 [(.lst true 2 [(.int .i64 2), (.int .i64 1)]), (.lst true 2 [(.int .i64 1), (.int .i64 2)])])]
def kr20 : PV := (.tup [(.lst false 2 [(.int .i64 0), (.int .i64 1)]), (.lst false 2 [(.int .i64 1), (.int .i64 0)]), (.int .i64 0)])
theorem k20 : FnP Try.prog 35 ka20 kr20 := runE_ok (doms := nthL domL) (fzr := noFz) (n := 4000) tab_ok mixed kn20_ok (by kernel_rfl)
def kn21 : Known := ⟨(35, ka20, kr20) :: kn20.p, kn20.i⟩
theorem kn21_ok : KnOk Try.prog kn21 := KnOk.cons k20 kn20_ok
def ka21 : List PV := [(.lst true 3 [(.lst true 3 [(.int .i64 0), (.int .i64 1), (.int .i64 1)]), (.lst true 3 [(.int .i64 1), (.int .i64 0), (.int .i64 1)]), (.lst true 3 [(.int .i64 1), (.int .i64 1), (.int .i64 0)])])]
def kr21 : PV := (.tup [.nl, .nl, (.int .i64 12)])
theorem k21 : FnP Try.prog 35 ka21 kr21 := runE_ok (doms := nthL domL) (fzr := noFz) (n := 4000) tab_ok mixed kn21_ok (by kernel_rfl)
def kn22 : Known := ⟨(35, ka21, kr21) :: kn21.p, kn21.i⟩
theorem kn22_ok : KnOk Try.prog kn22 := KnOk.cons k21 kn21_ok
def ka22 : List PV := [(.lst true 2 [(.lst true 2 [(.int .i64 1), (.int .i64 2)]), (.lst true 2 [(.int .i64 2), (.int .i64 1)])]), (.agg [(.lst true 2 [(.int .i64 2), (.int .i64 1)]), (.lst true 2 [(.int .i64 1), (.int .i64 2)])])]
def kr22 : PV := (.tup [(.agg [(.lst false 2 [(.int .i64 0), (.int .i64 (-1))]), (.lst false 2 [(.int .i64 1), (.int .i64 2)])]), (.int .i64 0)])
theorem k22 : FnP Try.prog 38 ka22 kr22 := runE_ok (doms := nthL domL) (fzr := noFz) (n := 4000) tab_ok mixed kn22_ok (by kernel_rfl)
def kn23 : Known := ⟨(38, ka22, kr22) :: kn22.p, kn22.i⟩
theorem kn23_ok : KnOk Try.prog kn23 := KnOk.cons k22 kn22_ok
def ka23 : List PV := [(.lst true 2 [(.lst true 2 [(.int .i64 2), (.int .i64 1)]), (.lst true 2 [(.int .i64 1), (.int .i64 2)])]), (.agg [(.lst true 2 [(.int .i64 2), (.int .i64 1)]), (.lst true 2 [(.int .i64 1), (.int .i64 2)])])]
def kr23 : PV := (.tup [(.agg [.nl, .nl]), (.int .i64 13)])
theorem k23 : FnP Try.prog 38 ka23 kr23 := runE_ok (doms := nthL domL) (fzr := noFz) (n := 4000) tab_ok mixed kn23_ok (by kernel_rfl)
def kn24 : Known := ⟨(38, ka23, kr23) :: kn23.p, kn23.i⟩
theorem kn24_ok : KnOk Try.prog kn24 := KnOk.cons k23 kn23_ok
def ka24 : List PV := [(.lst true 2 [(.lst true 2 [(.int .i64 1), (.int .i64 2)]), (.lst true 2 [(.int .i64 2), (.int .i64 1)])])]
def kr24 : PV := (.tup [.nl, (.int .i64 13)])
theorem k24 : FnP Try.prog 33 ka24 kr24 := runE_ok (doms := nthL domL) (fzr := noFz) (n := 4000) tab_ok mixed kn24_ok (by kernel_rfl)
def kn25 : Known := ⟨(33, ka24, kr24) :: kn24.p, kn24.i⟩
theorem kn25_ok : KnOk Try.prog kn25 := KnOk.cons k24 kn24_ok
def ka25 : List PV := []
def kr25 : PV := (.bool true)
theorem k25 : FnP Try.prog 17 ka25 kr25 := runE_ok (doms := nthL domL) (fzr := noFz) (n := 4000) tab_ok mixed kn25_ok (by kernel_rfl)
end Go.Proofs.Yteidcinajdehkaa
namespace Go.Proofs.Yteidcinajdehkaa
open Go.V
set_option maxRecDepth 100000
set_option maxHeartbeats 4000000
set_option linter.unusedSimpArgs false
set_option linter.unusedVariables false
attribute [local go_sem] tl1 tl2 tl3 tl4 tl5 tl9 tl17 tl21 tl22 tl23 tl24 tl25 tl26 tl27 tl28 tl29 tl30 tl32 tl33 tl35 tl36 tl37 tl38 tl39 tl40 tl41 tl42 tl43 tl44 tl46 tl48 tl50 tl51 tl52 tl53 tl54 tl56 tl58 tl59 tl60 tl61 tl62 tl63 tl64 tl65 tl66 tl67 tl68 tl69 tl70 tl72 tl74 tl75 tl76 tl77 tl78 tl79 tl80 tl81 tl82 tl83 tl84 tl85 tl86 tl87 tl88 tl89 tl90 tl91 tl92 tl93 tl94 tl95 tl96 tl97 tl98 tl99 tl100 tl101 tl102 tl103 tl104 tl105 tl106 tl107 tl108 tl109 tl110 tl111 tl112 tl113 tl114 tl115 tl116 tl117 tl118 tl119 tl120 tl121 tl122 tl128 tl129 tl133
def m15_L0 (N : Nat) (n3 : Nat) (c4 : List PV) : Nat → Int → Option ((PV ⊕ Unit))
 | 0, _ => none
 | n + 1, x6 =>
  brn (decide (x6 < ((n3 : Nat) : Int))) (
   grd (0 ≤ x6 ∧ x6 < ((n3 : Nat) : Int)) <|
   grd (0 < List.length (List.drop (Int.toNat x6) c4)) <|
   getL (gp c4 (Int.toNat x6)) fun n12 c13 =>
   brn (decide (((n12 : Nat) : Int) > 20)) (
    some (.inl (.bool true))) (
    m15_L0 N n3 c4 n (IntKind.i64.wrap (x6 + 1)))) (
   some (.inr ()))
def m15 (N : Nat) (p1 : PV) : Option (PV) :=
 getL p1 fun n3 c4 =>
 brn (decide (((n3 : Nat) : Int) > 20)) (
  some (.bool true)) (
  bnd' (m15_L0 N n3 c4 N 0) fun o =>
  match o with
  | .inl p15 =>
   some p15
  | .inr () =>
   some (.bool false))
theorem c15 (N : Nat) (p1 : PV) (r : PV)  (h : m15 N p1 = some r) : FnP Try.prog 15 [p1] r := by
 unfold m15 at h
 refine Fn_of (sz := 19) tab_ok [0, 2, 3, 6, 10, 18] [.tmp 2] Try.func15 rfl rfl rfl (by simp) ?_
 simp only [initSt, initEnv, List.map_cons, List.map_nil, List.getD_cons_zero, List.getD_cons_succ, List.getD_nil]
 replace h := getL_some h; obtain ⟨n3, c4, h2, h⟩ := h
 replace h := brn_some h; rcases h with ⟨h5, h⟩ | ⟨h5, h⟩
 ·refine W_sound tab_ok mixed 18 _ _ _ ?_
  simp -implicitDefEqProofs only [go_sem, Nat.reduceBEq, Nat.reduceLT, Int.reduceLE, Int.reduceToNat, ↓reduceIte, h2, h5]
  repeat with_reducible refine And.intro (by first | kernel_rfl | decide) ?_
  obtain rfl := Option.some.inj h
  exact finC [(2, .v (.bool true))] [(2, .v (.bool true))] (by simp [leE, lk_cons]) (.cons _ _ _ _ _ (.v _ _ (.refl _)) .nil) (by rfl) (by simp [leE, lk_cons]) (by decide) (by decide) rfl (by simp only [go_sem, Nat.reduceBEq, resQ_tmp, resQ_nil, retD_one]; try simp [R.val, retD_one, retD_two, retD_three, retD_none])
 ·refine W_sound tab_ok mixed 18 _ _ _ ?_
  simp -implicitDefEqProofs only [go_sem, Nat.reduceBEq, Nat.reduceLT, Int.reduceLE, Int.reduceToNat, ↓reduceIte, h2, h5]
  repeat with_reducible refine And.intro (by first | kernel_rfl | decide) ?_
  replace h := bnd'_some h; obtain ⟨o16, h17, h18⟩ := h
  refine Wp_cut (fun s => (.inr ()) = o16 ∧ s = ⟨[], [(0, .dead), (2, .dead), (3, .dead), (6, .dead), (10, .dead), (18, .dead)], [], 0, []⟩) ?_ ?_
  ·refine Wp_block ?_
   refine Wp_loopG (fun n s => ∃ x6, m15_L0 N n3 c4 n x6 = some o16 ∧ s = ⟨[], [(0, .v (.lst false n3 c4)), (2, .dead), (3, .v (.int .i64 x6)), (6, .dead), (10, .dead), (18, .dead)], [], 0, []⟩) N _ ((Wk_le (.cons _ _ _ _ _ (.refl _) (.cons _ _ _ _ _ (.dead _) (.cons _ _ _ _ _ (.refl _) (.cons _ _ _ _ _ (.dead _) (.cons _ _ _ _ _ (.refl _) (.cons _ _ _ _ _ (.refl _) .nil)))))) (OLe.refl _)).trans (cmpS_ok rfl)) ⟨_, h17, rfl⟩ ?_
   clear h17
   rintro n _ ⟨x6, h17, rfl⟩
   cases n with
   | zero => cases h17
   | succ n =>
    rw [m15_L0] at h17
    replace h17 := brn_some h17; rcases h17 with ⟨h7, h17⟩ | ⟨h7, h17⟩
    ·replace h17 := grd_some h17; obtain ⟨⟨g8, g9⟩, h17⟩ := h17
     replace h17 := grd_some h17; obtain ⟨g10, h17⟩ := h17
     replace h17 := getL_some h17; obtain ⟨n12, c13, h11, h17⟩ := h17
     replace h17 := brn_some h17; rcases h17 with ⟨h14, h17⟩ | ⟨h14, h17⟩
     ·refine W_sound tab_ok mixed 28 _ _ _ ?_
      simp -implicitDefEqProofs only [go_sem, Nat.reduceBEq, Nat.reduceLT, Int.reduceLE, Int.reduceToNat, decide_true, ↓reduceIte, g8, g9, g10, h11, h14]
      repeat with_reducible refine And.intro (by first | kernel_rfl | decide) ?_
      obtain rfl := Option.some.inj h17
      (try dsimp only at h18)
      obtain rfl := Option.some.inj h18
      exact finC [(2, .v (.bool true))] [(2, .v (.bool true))] (by simp [leE, lk_cons]) (.cons _ _ _ _ _ (.v _ _ (.refl _)) .nil) (by rfl) (by simp [leE, lk_cons]) (by decide) (by decide) rfl (by simp only [go_sem, Nat.reduceBEq, resQ_tmp, resQ_nil, retD_one]; try simp [R.val, retD_one, retD_two, retD_three, retD_none])
     ·refine W_sound tab_ok mixed 29 _ _ _ ?_
      simp -implicitDefEqProofs only [go_sem, Nat.reduceBEq, Nat.reduceLT, Int.reduceLE, Int.reduceToNat, decide_true, ↓reduceIte, g8, g9, g10, h11, h14]
      repeat with_reducible refine And.intro (by first | kernel_rfl | decide) ?_
      exact cutQ _ ((Wk_le (.cons _ _ _ _ _ (.refl _) (.cons _ _ _ _ _ (.refl _) (.cons _ _ _ _ _ (.refl _) (.cons _ _ _ _ _ (.refl _) (.cons _ _ _ _ _ (.dead _) (.cons _ _ _ _ _ (.dead _) .nil)))))) (OLe.refl _)).trans (cmpS_ok rfl)) ⟨n, Nat.lt_succ_self n, _, h17, rfl⟩
    ·refine W_sound tab_ok mixed 10 _ _ _ ?_
     simp -implicitDefEqProofs only [go_sem, Nat.reduceBEq, Nat.reduceLT, ↓reduceIte, h7]
     repeat with_reducible refine And.intro (by first | kernel_rfl | decide) ?_
     obtain rfl := Option.some.inj h17
     exact cutQ _ ((Wk_le (.cons _ _ _ _ _ (.dead _) (.cons _ _ _ _ _ (.refl _) (.cons _ _ _ _ _ (.dead _) (.cons _ _ _ _ _ (.refl _) (.cons _ _ _ _ _ (.dead _) (.cons _ _ _ _ _ (.refl _) .nil)))))) (OLe.refl _)).trans (cmpS_ok rfl)) ⟨rfl, rfl⟩
  ·rintro _ ⟨rfl, rfl⟩
   (try dsimp only at h18)
   refine W_sound tab_ok mixed 6 _ _ _ ?_
   simp -implicitDefEqProofs only [go_sem, Nat.reduceBEq, Nat.reduceLT]
   repeat with_reducible refine And.intro (by first | kernel_rfl | decide) ?_
   obtain rfl := Option.some.inj h18
   exact finC [(2, .v (.bool false))] [(2, .v (.bool false))] (by simp [leE, lk_cons]) (.cons _ _ _ _ _ (.v _ _ (.refl _)) .nil) (by rfl) (by simp [leE, lk_cons]) (by decide) (by decide) rfl (by simp only [go_sem, Nat.reduceBEq, resQ_tmp, resQ_nil, retD_one]; try simp [R.val, retD_one, retD_two, retD_three, retD_none])
def m17 (N : Nat) : Option PV := some (.bool true)
theorem c17 (N : Nat) (r : PV) (h : m17 N = some r) : FnP Try.prog 17 [] r := by
 obtain rfl := Option.some.inj h
 exact k25
def m93 (N : Nat) (x70 : Int) (x71 : Int) (x72 : Int) : Option (PV) :=
 brn (decide (x70 < x71)) (
  some (.bool true)) (
  some (.bool (decide (x70 > x72))))
theorem c93 (N : Nat) (x70 : Int) (x71 : Int) (x72 : Int) (r : PV)  (h : m93 N x70 x71 x72 = some r) : FnP Try.prog 93 [(.int .i64 x70), (.ipt [(.int .i64 x71)]), (.ipt [(.int .i64 x72)])] r := by
 unfold m93 at h
 refine Fn_of (sz := 13) tab_ok [0, 1, 2, 4] [.tmp 4] Try.func93 rfl rfl rfl (by simp) ?_
 simp only [initSt, initEnv, List.map_cons, List.map_nil, List.getD_cons_zero, List.getD_cons_succ, List.getD_nil]
 replace h := brn_some h; rcases h with ⟨h73, h⟩ | ⟨h73, h⟩
 ·refine W_sound tab_ok mixed 18 _ _ _ ?_
  simp -implicitDefEqProofs only [go_sem, Nat.reduceBEq, Nat.reduceLT, Nat.le_refl, ↓reduceIte, h73]
  repeat with_reducible refine And.intro (by first | kernel_rfl | decide) ?_
  obtain rfl := Option.some.inj h
  exact finC [(4, .v (.bool true))] [(4, .v (.bool true))] (by simp [leE, lk_cons]) (.cons _ _ _ _ _ (.v _ _ (.refl _)) .nil) (by rfl) (by simp [leE, lk_cons]) (by decide) (by decide) rfl (by simp only [go_sem, Nat.reduceBEq, resQ_tmp, resQ_nil, retD_one]; try simp [R.val, retD_one, retD_two, retD_three, retD_none])
 ·refine W_sound tab_ok mixed 18 _ _ _ ?_
  simp -implicitDefEqProofs only [go_sem, Nat.reduceBEq, Nat.reduceLT, Nat.le_refl, ↓reduceIte, h73]
  repeat with_reducible refine And.intro (by first | kernel_rfl | decide) ?_
  obtain rfl := Option.some.inj h
  exact finC [(4, .v (.bool (decide (x70 > x72))))] [(4, .v (.bool (decide (x70 > x72))))] (by simp [leE, lk_cons]) (.cons _ _ _ _ _ (.v _ _ (.refl _)) .nil) (by rfl) (by simp [leE, lk_cons]) (by decide) (by decide) rfl (by simp only [go_sem, Nat.reduceBEq, resQ_tmp, resQ_nil, retD_one]; try simp [R.val, retD_one, retD_two, retD_three, retD_none])
def m103_L0 (N : Nat) (x58 : Int) (x59 : Int) (n61 : Nat) (c62 : List PV) : Nat → Int → Option ((PV ⊕ Unit))
 | 0, _ => none
 | n + 1, x63 =>
  brn (decide (x63 < ((n61 : Nat) : Int))) (
   grd (0 ≤ x63 ∧ x63 < ((n61 : Nat) : Int)) <|
   grd (0 < List.length (List.drop (Int.toNat x63) c62)) <|
   getI .i64 (gp c62 (Int.toNat x63)) fun x69 =>
   bnd' (m93 N x69 x58 x59) fun p74 =>
   getB p74 fun b77 =>
   brn b77 (
    some (.inl (.int .i64 x63))) (
    m103_L0 N x58 x59 n61 c62 n (IntKind.i64.wrap (x63 + 1)))) (
   some (.inr ()))
def m103 (N : Nat) (p57 : PV) (x58 : Int) (x59 : Int) : Option (PV) :=
 getL p57 fun n61 c62 =>
 bnd' (m103_L0 N x58 x59 n61 c62 N 0) fun o =>
 match o with
 | .inl p79 =>
  some p79
 | .inr () =>
  some (.int .i64 (-1))
theorem c103 (N : Nat) (p57 : PV) (x58 : Int) (x59 : Int) (r : PV)  (h : m103 N p57 x58 x59 = some r) : FnP Try.prog 103 [p57, (.fn 93 [(.ipt [(.int .i64 x58)]), (.ipt [(.int .i64 x59)])])] r := by
 unfold m103 at h
 refine Fn_of (sz := 19) tab_ok [0, 1, 4, 5, 7, 8, 9, 16] [.tmp 4] Try.func103 rfl rfl rfl (by simp) ?_
 simp only [initSt, initEnv, List.map_cons, List.map_nil, List.getD_cons_zero, List.getD_cons_succ, List.getD_nil]
 replace h := getL_some h; obtain ⟨n61, c62, h60, h⟩ := h
 refine W_sound tab_ok mixed 11 _ _ _ ?_
 simp -implicitDefEqProofs only [go_sem, Nat.reduceBEq, Nat.reduceLT, h60]
 repeat with_reducible refine And.intro (by first | kernel_rfl | decide) ?_
 replace h := bnd'_some h; obtain ⟨o80, h81, h82⟩ := h
 refine Wp_cut (fun s => (.inr ()) = o80 ∧ s = ⟨[], [(0, .dead), (1, .dead), (4, .dead), (5, .dead), (7, .dead), (8, .dead), (9, .dead), (16, .dead)], [], 0, []⟩) ?_ ?_
 ·refine Wp_block ?_
  refine Wp_loopG (fun n s => ∃ x63, m103_L0 N x58 x59 n61 c62 n x63 = some o80 ∧ s = ⟨[], [(0, .v (.lst false n61 c62)), (1, .v (.fn 93 [(.ipt [(.int .i64 x58)]), (.ipt [(.int .i64 x59)])])), (4, .dead), (5, .dead), (7, .v (.int .i64 ((n61 : Nat) : Int))), (8, .v (.int .i64 x63)), (9, .dead), (16, .dead)], [], 0, []⟩) N _ ((Wk_le (.cons _ _ _ _ _ (.refl _) (.cons _ _ _ _ _ (.refl _) (.cons _ _ _ _ _ (.dead _) (.cons _ _ _ _ _ (.refl _) (.cons _ _ _ _ _ (.refl _) (.cons _ _ _ _ _ (.refl _) (.cons _ _ _ _ _ (.refl _) (.cons _ _ _ _ _ (.refl _) .nil)))))))) (OLe.refl _)).trans (cmpS_ok rfl)) ⟨_, h81, rfl⟩ ?_
  clear h81
  rintro n _ ⟨x63, h81, rfl⟩
  cases n with
  | zero => cases h81
  | succ n =>
   rw [m103_L0] at h81
   replace h81 := brn_some h81; rcases h81 with ⟨h64, h81⟩ | ⟨h64, h81⟩
   ·replace h81 := grd_some h81; obtain ⟨⟨g65, g66⟩, h81⟩ := h81
    replace h81 := grd_some h81; obtain ⟨g67, h81⟩ := h81
    replace h81 := getI_some h81; obtain ⟨x69, h68, h81⟩ := h81
    replace h81 := bnd'_some h81; obtain ⟨p74, h75, h81⟩ := h81
    refine W_sound tab_ok mixed 21 _ _ _ ?_
    simp -implicitDefEqProofs only [go_sem, Nat.reduceBEq, Nat.reduceLT, decide_true, ↓reduceIte, g65, g66, g67, h68]
    repeat with_reducible refine And.intro (by first | kernel_rfl | decide) ?_
    refine Wp_callP (c93 N _ _ _ _ h75) (by kernel_rfl) rfl rfl rfl rfl (by decide) ?_
    replace h81 := getB_some h81; obtain ⟨b77, h76, h81⟩ := h81
    replace h81 := brn_some h81; rcases h81 with ⟨h78, h81⟩ | ⟨h78, h81⟩
    ·refine W_sound tab_ok mixed 9 _ _ _ ?_
     simp -implicitDefEqProofs only [go_sem, Nat.reduceBEq, Nat.reduceLT, h76, h78]
     repeat with_reducible refine And.intro (by first | kernel_rfl | decide) ?_
     obtain rfl := Option.some.inj h81
     (try dsimp only at h82)
     obtain rfl := Option.some.inj h82
     exact finC [(4, .v (.int .i64 x63))] [(4, .v (.int .i64 x63))] (by simp [leE, lk_cons]) (.cons _ _ _ _ _ (.v _ _ (.refl _)) .nil) (by rfl) (by simp [leE, lk_cons]) (by decide) (by decide) rfl (by simp only [go_sem, Nat.reduceBEq, resQ_tmp, resQ_nil, retD_one]; try simp [R.val, retD_one, retD_two, retD_three, retD_none])
    ·refine W_sound tab_ok mixed 8 _ _ _ ?_
     simp -implicitDefEqProofs only [go_sem, Nat.reduceBEq, Nat.reduceLT, Int.reduceLE, Int.reduceToNat, ↓reduceIte, h76, h78]
     repeat with_reducible refine And.intro (by first | kernel_rfl | decide) ?_
     exact cutQ _ ((Wk_le (.cons _ _ _ _ _ (.refl _) (.cons _ _ _ _ _ (.refl _) (.cons _ _ _ _ _ (.refl _) (.cons _ _ _ _ _ (.dead _) (.cons _ _ _ _ _ (.refl _) (.cons _ _ _ _ _ (.refl _) (.cons _ _ _ _ _ (.dead _) (.cons _ _ _ _ _ (.dead _) .nil)))))))) (OLe.refl _)).trans (cmpS_ok rfl)) ⟨n, Nat.lt_succ_self n, _, h81, rfl⟩
   ·refine W_sound tab_ok mixed 7 _ _ _ ?_
    simp -implicitDefEqProofs only [go_sem, Nat.reduceBEq, Nat.reduceLT, ↓reduceIte, h64]
    repeat with_reducible refine And.intro (by first | kernel_rfl | decide) ?_
    obtain rfl := Option.some.inj h81
    exact cutQ _ ((Wk_le (.cons _ _ _ _ _ (.dead _) (.cons _ _ _ _ _ (.dead _) (.cons _ _ _ _ _ (.refl _) (.cons _ _ _ _ _ (.refl _) (.cons _ _ _ _ _ (.dead _) (.cons _ _ _ _ _ (.dead _) (.cons _ _ _ _ _ (.dead _) (.cons _ _ _ _ _ (.refl _) .nil)))))))) (OLe.refl _)).trans (cmpS_ok rfl)) ⟨rfl, rfl⟩
 ·rintro _ ⟨rfl, rfl⟩
  (try dsimp only at h82)
  refine W_sound tab_ok mixed 6 _ _ _ ?_
  simp -implicitDefEqProofs only [go_sem, Nat.reduceBEq, Nat.reduceLT]
  repeat with_reducible refine And.intro (by first | kernel_rfl | decide) ?_
  obtain rfl := Option.some.inj h82
  exact finC [(4, .v (.int .i64 (-1)))] [(4, .v (.int .i64 (-1)))] (by simp [leE, lk_cons]) (.cons _ _ _ _ _ (.v _ _ (.refl _)) .nil) (by rfl) (by simp [leE, lk_cons]) (by decide) (by decide) rfl (by simp only [go_sem, Nat.reduceBEq, resQ_tmp, resQ_nil, retD_one]; try simp [R.val, retD_one, retD_two, retD_three, retD_none])
def m92 (N : Nat) (p51 : PV) (x52 : Int) (x53 : Int) : Option (PV) :=
 getL p51 fun n55 c56 =>
 bnd' (m103 N (.lst false n55 c56) x52 x53) fun p83 =>
 getI .i64 p83 fun x86 =>
 some (.bool (decide (x86 ≥ 0)))
theorem c92 (N : Nat) (p51 : PV) (x52 : Int) (x53 : Int) (r : PV)  (h : m92 N p51 x52 x53 = some r) : FnP Try.prog 92 [p51, (.fn 93 [(.ipt [(.int .i64 x52)]), (.ipt [(.int .i64 x53)])])] r := by
 unfold m92 at h
 refine Fn_of (sz := 9) tab_ok [0, 1, 4] [.tmp 4] Try.func92 rfl rfl rfl (by simp) ?_
 simp only [initSt, initEnv, List.map_cons, List.map_nil, List.getD_cons_zero, List.getD_cons_succ, List.getD_nil]
 replace h := getL_some h; obtain ⟨n55, c56, h54, h⟩ := h
 replace h := bnd'_some h; obtain ⟨p83, h84, h⟩ := h
 refine W_sound tab_ok mixed 8 _ _ _ ?_
 simp -implicitDefEqProofs only [go_sem, Nat.reduceBEq, Nat.reduceLT, h54]
 repeat with_reducible refine And.intro (by first | kernel_rfl | decide) ?_
 refine Wp_callP (c103 N _ _ _ _ h84) (by kernel_rfl) rfl rfl rfl rfl (by decide) ?_
 replace h := getI_some h; obtain ⟨x86, h85, h⟩ := h
 refine W_sound tab_ok mixed 5 _ _ _ ?_
 simp -implicitDefEqProofs only [go_sem, Nat.reduceBEq, Nat.reduceLT, Int.le_refl, ↓reduceIte, h85]
 repeat with_reducible refine And.intro (by first | kernel_rfl | decide) ?_
 obtain rfl := Option.some.inj h
 exact finC [(4, .v (.bool (decide (x86 ≥ 0))))] [(4, .v (.bool (decide (x86 ≥ 0))))] (by simp [leE, lk_cons]) (.cons _ _ _ _ _ (.v _ _ (.refl _)) .nil) (by rfl) (by simp [leE, lk_cons]) (by decide) (by decide) rfl (by simp only [go_sem, Nat.reduceBEq, resQ_tmp, resQ_nil, retD_one]; try simp [R.val, retD_one, retD_two, retD_three, retD_none])
def m68 (N : Nat) (p45 : PV) (x46 : Int) (x47 : Int) : Option (PV) :=
 getL p45 fun n49 c50 =>
 bnd' (m92 N (.lst false n49 c50) x46 x47) fun p87 =>
 getB p87 fun b90 =>
 some (.bool b90)
theorem c68 (N : Nat) (p45 : PV) (x46 : Int) (x47 : Int) (r : PV)  (h : m68 N p45 x46 x47 = some r) : FnP Try.prog 68 [p45, (.int .i64 x46), (.int .i64 x47)] r := by
 unfold m68 at h
 refine Fn_of (sz := 10) tab_ok [0, 1, 2, 4, 5, 6] [.tmp 6] Try.func68 rfl rfl rfl (by simp) ?_
 simp only [initSt, initEnv, List.map_cons, List.map_nil, List.getD_cons_zero, List.getD_cons_succ, List.getD_nil]
 replace h := getL_some h; obtain ⟨n49, c50, h48, h⟩ := h
 refine W_sound tab_ok mixed 7 _ _ _ ?_
 simp -implicitDefEqProofs only [go_sem, Nat.reduceBEq, Nat.reduceAdd, Nat.reduceLT, Nat.reduceLeDiff, decide_true, decide_false, h48]
 repeat with_reducible refine And.intro (by first | kernel_rfl | decide) ?_
 refine Wp_wkK (Wk_freeze 4 [(.int .i64 x46)] (by rfl) (by decide) (by decide)) rfl ?_
 simp -implicitDefEqProofs only [go_sem, Nat.reduceBEq]
 refine Wp_wkK (Wk_freeze 5 [(.int .i64 x47)] (by rfl) (by decide) (by decide)) rfl ?_
 simp -implicitDefEqProofs only [go_sem, Nat.reduceBEq]
 replace h := bnd'_some h; obtain ⟨p87, h88, h⟩ := h
 refine W_sound tab_ok mixed 3 _ _ _ ?_
 simp -implicitDefEqProofs only [go_sem, Nat.reduceBEq, Nat.reduceLT, decide_true]
 repeat with_reducible refine And.intro (by first | kernel_rfl | decide) ?_
 refine Wp_callP (c92 N _ _ _ _ h88) (by kernel_rfl) rfl rfl rfl rfl (by decide) ?_
 replace h := getB_some h; obtain ⟨b90, h89, h⟩ := h
 refine W_sound tab_ok mixed 4 _ _ _ ?_
 simp -implicitDefEqProofs only [go_sem, Nat.reduceBEq, Nat.reduceLT, h89]
 repeat with_reducible refine And.intro (by first | kernel_rfl | decide) ?_
 obtain rfl := Option.some.inj h
 exact finC [(6, .v (.bool b90))] [(6, .v (.bool b90))] (by simp [leE, lk_cons]) (.cons _ _ _ _ _ (.v _ _ (.refl _)) .nil) (by rfl) (by simp [leE, lk_cons]) (by decide) (by decide) rfl (by simp only [go_sem, Nat.reduceBEq, resQ_tmp, resQ_nil, retD_one]; try simp [R.val, retD_one, retD_two, retD_three, retD_none])
def m23_L0 (N : Nat) (n25 : Nat) (c26 : List PV) (n31 : Nat) : Nat → Int → Option ((PV ⊕ Unit))
 | 0, _ => none
 | n + 1, x36 =>
  brn (decide (x36 < ((n25 : Nat) : Int))) (
   grd (0 ≤ x36 ∧ x36 < ((n25 : Nat) : Int)) <|
   grd (0 < List.length (List.drop (Int.toNat x36) c26)) <|
   getL (gp c26 (Int.toNat x36)) fun n42 c43 =>
   brn (((n42 : Nat) : Int) != ((n31 : Nat) : Int)) (
    some (.inl (.int .i64 5))) (
    bnd' (m68 N (.lst false n42 c43) 0 20) fun p91 =>
    getB p91 fun b94 =>
    brn b94 (
     some (.inl (.int .i64 1))) (
     m23_L0 N n25 c26 n31 n (IntKind.i64.wrap (x36 + 1))))) (
   some (.inr ()))
def m23 (N : Nat) (p23 : PV) : Option (PV) :=
 getL p23 fun n25 c26 =>
 brn (((n25 : Nat) : Int) == 0) (
  some (.int .i64 4)) (
  grd (0 < ((n25 : Nat) : Int)) <|
  grd (0 < List.length c26) <|
  getL (gp c26 0) fun n31 c32 =>
  brn (((n31 : Nat) : Int) == 0) (
   some (.int .i64 4)) (
   brn (decide (((n25 : Nat) : Int) > 3)) (
    some (.int .i64 3)) (
    brn (decide (((n31 : Nat) : Int) > 4)) (
     some (.int .i64 3)) (
     bnd' (m23_L0 N n25 c26 n31 N 0) fun o =>
     match o with
     | .inl p96 =>
      some p96
     | .inr () =>
      some (.int .i64 0)))))
theorem c23 (N : Nat) (p23 : PV) (r : PV)  (h : m23 N p23 = some r) : FnP Try.prog 23 [p23] r := by
 unfold m23 at h
 refine Fn_of (sz := 45) tab_ok [0, 2, 4, 5, 16, 27, 28, 29, 30, 33, 41] [.tmp 2] Try.func23 rfl rfl rfl (by simp) ?_
 simp only [initSt, initEnv, List.map_cons, List.map_nil, List.getD_cons_zero, List.getD_cons_succ, List.getD_nil]
 replace h := getL_some h; obtain ⟨n25, c26, h24, h⟩ := h
 replace h := brn_some h; rcases h with ⟨h27, h⟩ | ⟨h27, h⟩
 ·refine W_sound tab_ok mixed 27 _ _ _ ?_
  simp -implicitDefEqProofs only [go_sem, Nat.reduceBEq, Nat.reduceLT, Int.le_refl, ↓reduceIte, h24, h27]
  repeat with_reducible refine And.intro (by first | kernel_rfl | decide) ?_
  obtain rfl := Option.some.inj h
  exact finC [(2, .v (.int .i64 4))] [(2, .v (.int .i64 4))] (by simp [leE, lk_cons]) (.cons _ _ _ _ _ (.v _ _ (.refl _)) .nil) (by rfl) (by simp [leE, lk_cons]) (by decide) (by decide) rfl (by simp only [go_sem, Nat.reduceBEq, resQ_tmp, resQ_nil, retD_one]; try simp [R.val, retD_one, retD_two, retD_three, retD_none])
 ·replace h := grd_some h; obtain ⟨g28, h⟩ := h
  replace h := grd_some h; obtain ⟨g29, h⟩ := h
  replace h := getL_some h; obtain ⟨n31, c32, h30, h⟩ := h
  replace h := brn_some h; rcases h with ⟨h33, h⟩ | ⟨h33, h⟩
  ·refine W_sound tab_ok mixed 27 _ _ _ ?_
   simp -implicitDefEqProofs only [go_sem, Nat.reduceBEq, Nat.reduceLT, Int.le_refl, ↓reduceIte, h24, h27, g28, g29, h30, h33]
   repeat with_reducible refine And.intro (by first | kernel_rfl | decide) ?_
   obtain rfl := Option.some.inj h
   exact finC [(2, .v (.int .i64 4))] [(2, .v (.int .i64 4))] (by simp [leE, lk_cons]) (.cons _ _ _ _ _ (.v _ _ (.refl _)) .nil) (by rfl) (by simp [leE, lk_cons]) (by decide) (by decide) rfl (by simp only [go_sem, Nat.reduceBEq, resQ_tmp, resQ_nil, retD_one]; try simp [R.val, retD_one, retD_two, retD_three, retD_none])
  ·replace h := brn_some h; rcases h with ⟨h34, h⟩ | ⟨h34, h⟩
   ·refine W_sound tab_ok mixed 42 _ _ _ ?_
    simp -implicitDefEqProofs only [go_sem, Nat.reduceBEq, Nat.reduceLT, Int.reduceLE, Int.reduceToNat, Int.le_refl, ↓reduceIte, h24, h27, g28, g29, h30, h33, h34]
    repeat with_reducible refine And.intro (by first | kernel_rfl | decide) ?_
    obtain rfl := Option.some.inj h
    exact finC [(2, .v (.int .i64 3))] [(2, .v (.int .i64 3))] (by simp [leE, lk_cons]) (.cons _ _ _ _ _ (.v _ _ (.refl _)) .nil) (by rfl) (by simp [leE, lk_cons]) (by decide) (by decide) rfl (by simp only [go_sem, Nat.reduceBEq, resQ_tmp, resQ_nil, retD_one]; try simp [R.val, retD_one, retD_two, retD_three, retD_none])
   ·replace h := brn_some h; rcases h with ⟨h35, h⟩ | ⟨h35, h⟩
    ·refine W_sound tab_ok mixed 42 _ _ _ ?_
     simp -implicitDefEqProofs only [go_sem, Nat.reduceBEq, Nat.reduceLT, Int.reduceLE, Int.reduceToNat, Int.le_refl, ↓reduceIte, h24, h27, g28, g29, h30, h33, h34, h35]
     repeat with_reducible refine And.intro (by first | kernel_rfl | decide) ?_
     obtain rfl := Option.some.inj h
     exact finC [(2, .v (.int .i64 3))] [(2, .v (.int .i64 3))] (by simp [leE, lk_cons]) (.cons _ _ _ _ _ (.v _ _ (.refl _)) .nil) (by rfl) (by simp [leE, lk_cons]) (by decide) (by decide) rfl (by simp only [go_sem, Nat.reduceBEq, resQ_tmp, resQ_nil, retD_one]; try simp [R.val, retD_one, retD_two, retD_three, retD_none])
    ·refine W_sound tab_ok mixed 45 _ _ _ ?_
     simp -implicitDefEqProofs only [go_sem, Nat.reduceBEq, Nat.reduceLT, Int.reduceLE, Int.reduceToNat, Int.le_refl, ↓reduceIte, h24, h27, g28, g29, h30, h33, h34, h35]
     repeat with_reducible refine And.intro (by first | kernel_rfl | decide) ?_
     replace h := bnd'_some h; obtain ⟨o97, h98, h99⟩ := h
     refine Wp_cut (fun s => (.inr ()) = o97 ∧ s = ⟨[], [(0, .dead), (2, .dead), (4, .dead), (5, .dead), (16, .dead), (27, .dead), (28, .dead), (29, .dead), (30, .dead), (33, .dead), (41, .dead)], [], 0, []⟩) ?_ ?_
     ·refine Wp_block ?_
      refine Wp_loopG (fun n s => ∃ x36, m23_L0 N n25 c26 n31 n x36 = some o97 ∧ s = ⟨[], [(0, .v (.lst false n25 c26)), (2, .dead), (4, .dead), (5, .dead), (16, .dead), (27, .v (.lst false n25 c26)), (28, .v (.int .i64 ((n25 : Nat) : Int))), (29, .v (.int .i64 x36)), (30, .dead), (33, .dead), (41, .dead)], [], 0, []⟩) N _ ((Wk_le (.cons _ _ _ _ _ (.refl _) (.cons _ _ _ _ _ (.dead _) (.cons _ _ _ _ _ (.refl _) (.cons _ _ _ _ _ (.dead _) (.cons _ _ _ _ _ (.dead _) (.cons _ _ _ _ _ (.refl _) (.cons _ _ _ _ _ (.refl _) (.cons _ _ _ _ _ (.refl _) (.cons _ _ _ _ _ (.refl _) (.cons _ _ _ _ _ (.refl _) (.cons _ _ _ _ _ (.refl _) .nil))))))))))) (OLe.refl _)).trans (cmpS_ok (st' := ⟨[], [(0, .v (.lst false n25 c26)), (2, .dead), (4, .dead), (5, .dead), (16, .dead), (27, .v (.lst false n25 c26)), (28, .v (.int .i64 ((n25 : Nat) : Int))), (29, .v (.int .i64 0)), (30, .dead), (33, .dead), (41, .dead)], [], 0, []⟩) (by kernel_rfl))) ⟨_, h98, rfl⟩ ?_
      clear h98
      rintro n _ ⟨x36, h98, rfl⟩
      cases n with
      | zero => cases h98
      | succ n =>
       rw [m23_L0] at h98
       replace h98 := brn_some h98; rcases h98 with ⟨h37, h98⟩ | ⟨h37, h98⟩
       ·replace h98 := grd_some h98; obtain ⟨⟨g38, g39⟩, h98⟩ := h98
        replace h98 := grd_some h98; obtain ⟨g40, h98⟩ := h98
        replace h98 := getL_some h98; obtain ⟨n42, c43, h41, h98⟩ := h98
        replace h98 := brn_some h98; rcases h98 with ⟨h44, h98⟩ | ⟨h44, h98⟩
        ·refine W_sound tab_ok mixed 34 _ _ _ ?_
         simp -implicitDefEqProofs only [go_sem, Nat.reduceBEq, Nat.reduceLT, Int.le_refl, decide_true, ↓reduceIte, g28, g29, h30, g38, g39, g40, h41, h44]
         repeat with_reducible refine And.intro (by first | kernel_rfl | decide) ?_
         obtain rfl := Option.some.inj h98
         (try dsimp only at h99)
         obtain rfl := Option.some.inj h99
         exact finC [(2, .v (.int .i64 5))] [(2, .v (.int .i64 5))] (by simp [leE, lk_cons]) (.cons _ _ _ _ _ (.v _ _ (.refl _)) .nil) (by rfl) (by simp [leE, lk_cons]) (by decide) (by decide) rfl (by simp only [go_sem, Nat.reduceBEq, resQ_tmp, resQ_nil, retD_one]; try simp [R.val, retD_one, retD_two, retD_three, retD_none])
        ·replace h98 := bnd'_some h98; obtain ⟨p91, h92, h98⟩ := h98
         refine W_sound tab_ok mixed 31 _ _ _ ?_
         simp -implicitDefEqProofs only [go_sem, Nat.reduceBEq, Nat.reduceLT, Int.le_refl, decide_true, ↓reduceIte, g28, g29, h30, g38, g39, g40, h41, h44]
         repeat with_reducible refine And.intro (by first | kernel_rfl | decide) ?_
         refine Wp_callP (c68 N _ _ _ _ h92) (by kernel_rfl) rfl rfl rfl rfl (by decide) ?_
         replace h98 := getB_some h98; obtain ⟨b94, h93, h98⟩ := h98
         replace h98 := brn_some h98; rcases h98 with ⟨h95, h98⟩ | ⟨h95, h98⟩
         ·refine W_sound tab_ok mixed 9 _ _ _ ?_
          simp -implicitDefEqProofs only [go_sem, Nat.reduceBEq, Nat.reduceLT, h93, h95]
          repeat with_reducible refine And.intro (by first | kernel_rfl | decide) ?_
          obtain rfl := Option.some.inj h98
          (try dsimp only at h99)
          obtain rfl := Option.some.inj h99
          exact finC [(2, .v (.int .i64 1))] [(2, .v (.int .i64 1))] (by simp [leE, lk_cons]) (.cons _ _ _ _ _ (.v _ _ (.refl _)) .nil) (by rfl) (by simp [leE, lk_cons]) (by decide) (by decide) rfl (by simp only [go_sem, Nat.reduceBEq, resQ_tmp, resQ_nil, retD_one]; try simp [R.val, retD_one, retD_two, retD_three, retD_none])
         ·refine W_sound tab_ok mixed 10 _ _ _ ?_
          simp -implicitDefEqProofs only [go_sem, Nat.reduceBEq, Nat.reduceLT, Int.reduceLE, Int.reduceToNat, ↓reduceIte, h93, h95]
          repeat with_reducible refine And.intro (by first | kernel_rfl | decide) ?_
          exact cutQ _ ((Wk_le (.cons _ _ _ _ _ (.refl _) (.cons _ _ _ _ _ (.refl _) (.cons _ _ _ _ _ (.dead _) (.cons _ _ _ _ _ (.refl _) (.cons _ _ _ _ _ (.refl _) (.cons _ _ _ _ _ (.refl _) (.cons _ _ _ _ _ (.refl _) (.cons _ _ _ _ _ (.refl _) (.cons _ _ _ _ _ (.dead _) (.cons _ _ _ _ _ (.dead _) (.cons _ _ _ _ _ (.dead _) .nil))))))))))) (OLe.refl _)).trans (cmpS_ok (st' := ⟨[], [(0, .v (.lst false n25 c26)), (2, .dead), (4, .dead), (5, .dead), (16, .dead), (27, .v (.lst false n25 c26)), (28, .v (.int .i64 ((n25 : Nat) : Int))), (29, .v (.int .i64 (IntKind.i64.wrap (x36 + 1)))), (30, .dead), (33, .dead), (41, .dead)], [], 0, []⟩) (by kernel_rfl))) ⟨n, Nat.lt_succ_self n, _, h98, rfl⟩
       ·refine W_sound tab_ok mixed 7 _ _ _ ?_
        simp -implicitDefEqProofs only [go_sem, Nat.reduceBEq, Nat.reduceLT, ↓reduceIte, h37]
        repeat with_reducible refine And.intro (by first | kernel_rfl | decide) ?_
        obtain rfl := Option.some.inj h98
        exact cutQ _ ((Wk_le (.cons _ _ _ _ _ (.dead _) (.cons _ _ _ _ _ (.refl _) (.cons _ _ _ _ _ (.refl _) (.cons _ _ _ _ _ (.refl _) (.cons _ _ _ _ _ (.refl _) (.cons _ _ _ _ _ (.dead _) (.cons _ _ _ _ _ (.dead _) (.cons _ _ _ _ _ (.dead _) (.cons _ _ _ _ _ (.dead _) (.cons _ _ _ _ _ (.refl _) (.cons _ _ _ _ _ (.refl _) .nil))))))))))) (OLe.refl _)).trans (cmpS_ok (st' := ⟨[], [(0, .dead), (2, .dead), (4, .dead), (5, .dead), (16, .dead), (27, .dead), (28, .dead), (29, .dead), (30, .dead), (33, .dead), (41, .dead)], [], 0, []⟩) (by kernel_rfl))) ⟨rfl, rfl⟩
     ·rintro _ ⟨rfl, rfl⟩
      (try dsimp only at h99)
      refine W_sound tab_ok mixed 6 _ _ _ ?_
      simp -implicitDefEqProofs only [go_sem, Nat.reduceBEq, Nat.reduceLT]
      repeat with_reducible refine And.intro (by first | kernel_rfl | decide) ?_
      obtain rfl := Option.some.inj h99
      exact finC [(2, .v (.int .i64 0))] [(2, .v (.int .i64 0))] (by simp [leE, lk_cons]) (.cons _ _ _ _ _ (.v _ _ (.refl _)) .nil) (by rfl) (by simp [leE, lk_cons]) (by decide) (by decide) rfl (by simp only [go_sem, Nat.reduceBEq, resQ_tmp, resQ_nil, retD_one]; try simp [R.val, retD_one, retD_two, retD_three, retD_none])
def m94 (N : Nat) (x301 : Int) (x302 : Int) (x303 : Int) : Option (PV) :=
 brn (decide (x301 ≥ x302)) (
  some (.bool (decide (x301 ≤ x303)))) (
  some (.bool false))
theorem c94 (N : Nat) (x301 : Int) (x302 : Int) (x303 : Int) (r : PV)  (h : m94 N x301 x302 x303 = some r) : FnP Try.prog 94 [(.int .i64 x301), (.int .i64 x302), (.int .i64 x303)] r := by
 unfold m94 at h
 refine Fn_of (sz := 15) tab_ok [0, 1, 2, 6] [.tmp 6] Try.func94 rfl rfl rfl (by simp) ?_
 simp only [initSt, initEnv, List.map_cons, List.map_nil, List.getD_cons_zero, List.getD_cons_succ, List.getD_nil]
 replace h := brn_some h; rcases h with ⟨h304, h⟩ | ⟨h304, h⟩
 ·refine W_sound tab_ok mixed 18 _ _ _ ?_
  simp -implicitDefEqProofs only [go_sem, Nat.reduceBEq, Nat.reduceLT, ↓reduceIte, h304]
  repeat with_reducible refine And.intro (by first | kernel_rfl | decide) ?_
  obtain rfl := Option.some.inj h
  exact finC [(6, .v (.bool (decide (x301 ≤ x303))))] [(6, .v (.bool (decide (x301 ≤ x303))))] (by simp [leE, lk_cons]) (.cons _ _ _ _ _ (.v _ _ (.refl _)) .nil) (by rfl) (by simp [leE, lk_cons]) (by decide) (by decide) rfl (by simp only [go_sem, Nat.reduceBEq, resQ_tmp, resQ_nil, retD_one]; try simp [R.val, retD_one, retD_two, retD_three, retD_none])
 ·refine W_sound tab_ok mixed 18 _ _ _ ?_
  simp -implicitDefEqProofs only [go_sem, Nat.reduceBEq, Nat.reduceLT, ↓reduceIte, h304]
  repeat with_reducible refine And.intro (by first | kernel_rfl | decide) ?_
  obtain rfl := Option.some.inj h
  exact finC [(6, .v (.bool false))] [(6, .v (.bool false))] (by simp [leE, lk_cons]) (.cons _ _ _ _ _ (.v _ _ (.refl _)) .nil) (by rfl) (by simp [leE, lk_cons]) (by decide) (by decide) rfl (by simp only [go_sem, Nat.reduceBEq, resQ_tmp, resQ_nil, retD_one]; try simp [R.val, retD_one, retD_two, retD_three, retD_none])
def m70_L0 (N : Nat) (x289 : Int) (x290 : Int) (n292 : Nat) (c293 : List PV) : Nat → Int → Option ((PV ⊕ Unit))
 | 0, _ => none
 | n + 1, x294 =>
  brn (decide (x294 < ((n292 : Nat) : Int))) (
   grd (0 ≤ x294 ∧ x294 < ((n292 : Nat) : Int)) <|
   grd (0 < List.length (List.drop (Int.toNat x294) c293)) <|
   getI .i64 (gp c293 (Int.toNat x294)) fun x300 =>
   bnd' (m94 N x300 x289 x290) fun p305 =>
   getB p305 fun b308 =>
   brn b308 (
    m70_L0 N x289 x290 n292 c293 n (IntKind.i64.wrap (x294 + 1))) (
    some (.inl (.bool false)))) (
   some (.inr ()))
def m70 (N : Nat) (p288 : PV) (x289 : Int) (x290 : Int) : Option (PV) :=
 getL p288 fun n292 c293 =>
 bnd' (m70_L0 N x289 x290 n292 c293 N 0) fun o =>
 match o with
 | .inl p310 =>
  some p310
 | .inr () =>
  some (.bool true)
theorem c70 (N : Nat) (p288 : PV) (x289 : Int) (x290 : Int) (r : PV)  (h : m70 N p288 x289 x290 = some r) : FnP Try.prog 70 [p288, (.int .i64 x289), (.int .i64 x290)] r := by
 unfold m70 at h
 refine Fn_of (sz := 22) tab_ok [0, 1, 2, 6, 7, 11, 21] [.tmp 6] Try.func70 rfl rfl rfl (by simp) ?_
 simp only [initSt, initEnv, List.map_cons, List.map_nil, List.getD_cons_zero, List.getD_cons_succ, List.getD_nil]
 replace h := getL_some h; obtain ⟨n292, c293, h291, h⟩ := h
 refine W_sound tab_ok mixed 9 _ _ _ ?_
 simp -implicitDefEqProofs only [go_sem, Nat.reduceBEq, Nat.reduceLT, h291]
 repeat with_reducible refine And.intro (by first | kernel_rfl | decide) ?_
 replace h := bnd'_some h; obtain ⟨o311, h312, h313⟩ := h
 refine Wp_cut (fun s => (.inr ()) = o311 ∧ s = ⟨[], [(0, .dead), (1, .dead), (2, .dead), (6, .dead), (7, .dead), (11, .dead), (21, .dead)], [], 0, []⟩) ?_ ?_
 ·refine Wp_block ?_
  refine Wp_loopG (fun n s => ∃ x294, m70_L0 N x289 x290 n292 c293 n x294 = some o311 ∧ s = ⟨[], [(0, .v (.lst false n292 c293)), (1, .v (.int .i64 x289)), (2, .v (.int .i64 x290)), (6, .dead), (7, .v (.int .i64 x294)), (11, .dead), (21, .dead)], [], 0, []⟩) N _ ((Wk_le (.cons _ _ _ _ _ (.refl _) (.cons _ _ _ _ _ (.refl _) (.cons _ _ _ _ _ (.refl _) (.cons _ _ _ _ _ (.dead _) (.cons _ _ _ _ _ (.refl _) (.cons _ _ _ _ _ (.refl _) (.cons _ _ _ _ _ (.refl _) .nil))))))) (OLe.refl _)).trans (cmpS_ok rfl)) ⟨_, h312, rfl⟩ ?_
  clear h312
  rintro n _ ⟨x294, h312, rfl⟩
  cases n with
  | zero => cases h312
  | succ n =>
   rw [m70_L0] at h312
   replace h312 := brn_some h312; rcases h312 with ⟨h295, h312⟩ | ⟨h295, h312⟩
   ·replace h312 := grd_some h312; obtain ⟨⟨g296, g297⟩, h312⟩ := h312
    replace h312 := grd_some h312; obtain ⟨g298, h312⟩ := h312
    replace h312 := getI_some h312; obtain ⟨x300, h299, h312⟩ := h312
    replace h312 := bnd'_some h312; obtain ⟨p305, h306, h312⟩ := h312
    refine W_sound tab_ok mixed 20 _ _ _ ?_
    simp -implicitDefEqProofs only [go_sem, Nat.reduceBEq, Nat.reduceLT, decide_true, ↓reduceIte, g296, g297, g298, h299]
    repeat with_reducible refine And.intro (by first | kernel_rfl | decide) ?_
    refine Wp_callP (c94 N _ _ _ _ h306) (by kernel_rfl) rfl rfl rfl rfl (by decide) ?_
    replace h312 := getB_some h312; obtain ⟨b308, h307, h312⟩ := h312
    replace h312 := brn_some h312; rcases h312 with ⟨h309, h312⟩ | ⟨h309, h312⟩
    ·refine W_sound tab_ok mixed 10 _ _ _ ?_
     simp -implicitDefEqProofs only [go_sem, Nat.reduceBEq, Nat.reduceLT, Int.reduceLE, Int.reduceToNat, ↓reduceIte, h307, h309]
     repeat with_reducible refine And.intro (by first | kernel_rfl | decide) ?_
     exact cutQ _ ((Wk_le (.cons _ _ _ _ _ (.refl _) (.cons _ _ _ _ _ (.refl _) (.cons _ _ _ _ _ (.refl _) (.cons _ _ _ _ _ (.refl _) (.cons _ _ _ _ _ (.refl _) (.cons _ _ _ _ _ (.dead _) (.cons _ _ _ _ _ (.dead _) .nil))))))) (OLe.refl _)).trans (cmpS_ok rfl)) ⟨n, Nat.lt_succ_self n, _, h312, rfl⟩
    ·refine W_sound tab_ok mixed 9 _ _ _ ?_
     simp -implicitDefEqProofs only [go_sem, Nat.reduceBEq, Nat.reduceLT, h307, h309]
     repeat with_reducible refine And.intro (by first | kernel_rfl | decide) ?_
     obtain rfl := Option.some.inj h312
     (try dsimp only at h313)
     obtain rfl := Option.some.inj h313
     exact finC [(6, .v (.bool false))] [(6, .v (.bool false))] (by simp [leE, lk_cons]) (.cons _ _ _ _ _ (.v _ _ (.refl _)) .nil) (by rfl) (by simp [leE, lk_cons]) (by decide) (by decide) rfl (by simp only [go_sem, Nat.reduceBEq, resQ_tmp, resQ_nil, retD_one]; try simp [R.val, retD_one, retD_two, retD_three, retD_none])
   ·refine W_sound tab_ok mixed 10 _ _ _ ?_
    simp -implicitDefEqProofs only [go_sem, Nat.reduceBEq, Nat.reduceLT, ↓reduceIte, h295]
    repeat with_reducible refine And.intro (by first | kernel_rfl | decide) ?_
    obtain rfl := Option.some.inj h312
    exact cutQ _ ((Wk_le (.cons _ _ _ _ _ (.dead _) (.cons _ _ _ _ _ (.dead _) (.cons _ _ _ _ _ (.dead _) (.cons _ _ _ _ _ (.refl _) (.cons _ _ _ _ _ (.dead _) (.cons _ _ _ _ _ (.dead _) (.cons _ _ _ _ _ (.refl _) .nil))))))) (OLe.refl _)).trans (cmpS_ok rfl)) ⟨rfl, rfl⟩
 ·rintro _ ⟨rfl, rfl⟩
  (try dsimp only at h313)
  refine W_sound tab_ok mixed 6 _ _ _ ?_
  simp -implicitDefEqProofs only [go_sem, Nat.reduceBEq, Nat.reduceLT]
  repeat with_reducible refine And.intro (by first | kernel_rfl | decide) ?_
  obtain rfl := Option.some.inj h313
  exact finC [(6, .v (.bool true))] [(6, .v (.bool true))] (by simp [leE, lk_cons]) (.cons _ _ _ _ _ (.v _ _ (.refl _)) .nil) (by rfl) (by simp [leE, lk_cons]) (by decide) (by decide) rfl (by simp only [go_sem, Nat.reduceBEq, resQ_tmp, resQ_nil, retD_one]; try simp [R.val, retD_one, retD_two, retD_three, retD_none])
def m24_L0 (N : Nat) (n268 : Nat) (c269 : List PV) (n274 : Nat) : Nat → Int → Option ((PV ⊕ Unit))
 | 0, _ => none
 | n + 1, x279 =>
  brn (decide (x279 < ((n268 : Nat) : Int))) (
   grd (0 ≤ x279 ∧ x279 < ((n268 : Nat) : Int)) <|
   grd (0 < List.length (List.drop (Int.toNat x279) c269)) <|
   getL (gp c269 (Int.toNat x279)) fun n285 c286 =>
   brn (((n285 : Nat) : Int) != ((n274 : Nat) : Int)) (
    some (.inl (.int .i64 5))) (
    bnd' (m70 N (.lst false n285 c286) 0 20) fun p314 =>
    getB p314 fun b317 =>
    brn b317 (
     m24_L0 N n268 c269 n274 n (IntKind.i64.wrap (x279 + 1))) (
     some (.inl (.int .i64 1))))) (
   some (.inr ()))
def m24 (N : Nat) (p266 : PV) : Option (PV) :=
 getL p266 fun n268 c269 =>
 brn (((n268 : Nat) : Int) == 0) (
  some (.int .i64 4)) (
  grd (0 < ((n268 : Nat) : Int)) <|
  grd (0 < List.length c269) <|
  getL (gp c269 0) fun n274 c275 =>
  brn (((n274 : Nat) : Int) == 0) (
   some (.int .i64 4)) (
   brn (decide (((n268 : Nat) : Int) > 3)) (
    some (.int .i64 3)) (
    brn (decide (((n274 : Nat) : Int) > 4)) (
     some (.int .i64 3)) (
     bnd' (m24_L0 N n268 c269 n274 N 0) fun o =>
     match o with
     | .inl p319 =>
      some p319
     | .inr () =>
      some (.int .i64 0)))))
theorem c24 (N : Nat) (p266 : PV) (r : PV)  (h : m24 N p266 = some r) : FnP Try.prog 24 [p266] r := by
 unfold m24 at h
 refine Fn_of (sz := 46) tab_ok [0, 2, 3, 13, 23, 27, 39, 45] [.tmp 2] Try.func24 rfl rfl rfl (by simp) ?_
 simp only [initSt, initEnv, List.map_cons, List.map_nil, List.getD_cons_zero, List.getD_cons_succ, List.getD_nil]
 replace h := getL_some h; obtain ⟨n268, c269, h267, h⟩ := h
 replace h := brn_some h; rcases h with ⟨h270, h⟩ | ⟨h270, h⟩
 ·refine W_sound tab_ok mixed 25 _ _ _ ?_
  simp -implicitDefEqProofs only [go_sem, Nat.reduceBEq, Nat.reduceLT, Int.le_refl, ↓reduceIte, h267, h270]
  repeat with_reducible refine And.intro (by first | kernel_rfl | decide) ?_
  obtain rfl := Option.some.inj h
  exact finC [(2, .v (.int .i64 4))] [(2, .v (.int .i64 4))] (by simp [leE, lk_cons]) (.cons _ _ _ _ _ (.v _ _ (.refl _)) .nil) (by rfl) (by simp [leE, lk_cons]) (by decide) (by decide) rfl (by simp only [go_sem, Nat.reduceBEq, resQ_tmp, resQ_nil, retD_one]; try simp [R.val, retD_one, retD_two, retD_three, retD_none])
 ·replace h := grd_some h; obtain ⟨g271, h⟩ := h
  replace h := grd_some h; obtain ⟨g272, h⟩ := h
  replace h := getL_some h; obtain ⟨n274, c275, h273, h⟩ := h
  replace h := brn_some h; rcases h with ⟨h276, h⟩ | ⟨h276, h⟩
  ·refine W_sound tab_ok mixed 25 _ _ _ ?_
   simp -implicitDefEqProofs only [go_sem, Nat.reduceBEq, Nat.reduceLT, Int.le_refl, ↓reduceIte, h267, h270, g271, g272, h273, h276]
   repeat with_reducible refine And.intro (by first | kernel_rfl | decide) ?_
   obtain rfl := Option.some.inj h
   exact finC [(2, .v (.int .i64 4))] [(2, .v (.int .i64 4))] (by simp [leE, lk_cons]) (.cons _ _ _ _ _ (.v _ _ (.refl _)) .nil) (by rfl) (by simp [leE, lk_cons]) (by decide) (by decide) rfl (by simp only [go_sem, Nat.reduceBEq, resQ_tmp, resQ_nil, retD_one]; try simp [R.val, retD_one, retD_two, retD_three, retD_none])
  ·replace h := brn_some h; rcases h with ⟨h277, h⟩ | ⟨h277, h⟩
   ·refine W_sound tab_ok mixed 41 _ _ _ ?_
    simp -implicitDefEqProofs only [go_sem, Nat.reduceBEq, Nat.reduceLT, Int.reduceLE, Int.reduceToNat, Int.le_refl, ↓reduceIte, h267, h270, g271, g272, h273, h276, h277]
    repeat with_reducible refine And.intro (by first | kernel_rfl | decide) ?_
    obtain rfl := Option.some.inj h
    exact finC [(2, .v (.int .i64 3))] [(2, .v (.int .i64 3))] (by simp [leE, lk_cons]) (.cons _ _ _ _ _ (.v _ _ (.refl _)) .nil) (by rfl) (by simp [leE, lk_cons]) (by decide) (by decide) rfl (by simp only [go_sem, Nat.reduceBEq, resQ_tmp, resQ_nil, retD_one]; try simp [R.val, retD_one, retD_two, retD_three, retD_none])
   ·replace h := brn_some h; rcases h with ⟨h278, h⟩ | ⟨h278, h⟩
    ·refine W_sound tab_ok mixed 41 _ _ _ ?_
     simp -implicitDefEqProofs only [go_sem, Nat.reduceBEq, Nat.reduceLT, Int.reduceLE, Int.reduceToNat, Int.le_refl, ↓reduceIte, h267, h270, g271, g272, h273, h276, h277, h278]
     repeat with_reducible refine And.intro (by first | kernel_rfl | decide) ?_
     obtain rfl := Option.some.inj h
     exact finC [(2, .v (.int .i64 3))] [(2, .v (.int .i64 3))] (by simp [leE, lk_cons]) (.cons _ _ _ _ _ (.v _ _ (.refl _)) .nil) (by rfl) (by simp [leE, lk_cons]) (by decide) (by decide) rfl (by simp only [go_sem, Nat.reduceBEq, resQ_tmp, resQ_nil, retD_one]; try simp [R.val, retD_one, retD_two, retD_three, retD_none])
    ·refine W_sound tab_ok mixed 41 _ _ _ ?_
     simp -implicitDefEqProofs only [go_sem, Nat.reduceBEq, Nat.reduceLT, Int.reduceLE, Int.reduceToNat, Int.le_refl, ↓reduceIte, h267, h270, g271, g272, h273, h276, h277, h278]
     repeat with_reducible refine And.intro (by first | kernel_rfl | decide) ?_
     replace h := bnd'_some h; obtain ⟨o320, h321, h322⟩ := h
     refine Wp_cut (fun s => (.inr ()) = o320 ∧ s = ⟨[], [(0, .dead), (2, .dead), (3, .dead), (13, .dead), (23, .dead), (27, .dead), (39, .dead), (45, .dead)], [], 0, []⟩) ?_ ?_
     ·refine Wp_block ?_
      refine Wp_loopG (fun n s => ∃ x279, m24_L0 N n268 c269 n274 n x279 = some o320 ∧ s = ⟨[], [(0, .v (.lst false n268 c269)), (2, .dead), (3, .v (.int .i64 x279)), (13, .dead), (23, .dead), (27, .dead), (39, .dead), (45, .dead)], [], 0, []⟩) N _ ((Wk_le (.cons _ _ _ _ _ (.refl _) (.cons _ _ _ _ _ (.dead _) (.cons _ _ _ _ _ (.refl _) (.cons _ _ _ _ _ (.dead _) (.cons _ _ _ _ _ (.dead _) (.cons _ _ _ _ _ (.refl _) (.cons _ _ _ _ _ (.refl _) (.cons _ _ _ _ _ (.refl _) .nil)))))))) (OLe.refl _)).trans (cmpS_ok rfl)) ⟨_, h321, rfl⟩ ?_
      clear h321
      rintro n _ ⟨x279, h321, rfl⟩
      cases n with
      | zero => cases h321
      | succ n =>
       rw [m24_L0] at h321
       replace h321 := brn_some h321; rcases h321 with ⟨h280, h321⟩ | ⟨h280, h321⟩
       ·replace h321 := grd_some h321; obtain ⟨⟨g281, g282⟩, h321⟩ := h321
        replace h321 := grd_some h321; obtain ⟨g283, h321⟩ := h321
        replace h321 := getL_some h321; obtain ⟨n285, c286, h284, h321⟩ := h321
        replace h321 := brn_some h321; rcases h321 with ⟨h287, h321⟩ | ⟨h287, h321⟩
        ·refine W_sound tab_ok mixed 33 _ _ _ ?_
         simp -implicitDefEqProofs only [go_sem, Nat.reduceBEq, Nat.reduceLT, Int.le_refl, decide_true, ↓reduceIte, g271, g272, h273, g281, g282, g283, h284, h287]
         repeat with_reducible refine And.intro (by first | kernel_rfl | decide) ?_
         obtain rfl := Option.some.inj h321
         (try dsimp only at h322)
         obtain rfl := Option.some.inj h322
         exact finC [(2, .v (.int .i64 5))] [(2, .v (.int .i64 5))] (by simp [leE, lk_cons]) (.cons _ _ _ _ _ (.v _ _ (.refl _)) .nil) (by rfl) (by simp [leE, lk_cons]) (by decide) (by decide) rfl (by simp only [go_sem, Nat.reduceBEq, resQ_tmp, resQ_nil, retD_one]; try simp [R.val, retD_one, retD_two, retD_three, retD_none])
        ·replace h321 := bnd'_some h321; obtain ⟨p314, h315, h321⟩ := h321
         refine W_sound tab_ok mixed 34 _ _ _ ?_
         simp -implicitDefEqProofs only [go_sem, Nat.reduceBEq, Nat.reduceLT, Int.le_refl, decide_true, ↓reduceIte, g271, g272, h273, g281, g282, g283, h284, h287]
         repeat with_reducible refine And.intro (by first | kernel_rfl | decide) ?_
         refine Wp_callP (c70 N _ _ _ _ h315) (by kernel_rfl) rfl rfl rfl rfl (by decide) ?_
         replace h321 := getB_some h321; obtain ⟨b317, h316, h321⟩ := h321
         replace h321 := brn_some h321; rcases h321 with ⟨h318, h321⟩ | ⟨h318, h321⟩
         ·refine W_sound tab_ok mixed 10 _ _ _ ?_
          simp -implicitDefEqProofs only [go_sem, Nat.reduceBEq, Nat.reduceLT, Int.reduceLE, Int.reduceToNat, ↓reduceIte, h316, h318]
          repeat with_reducible refine And.intro (by first | kernel_rfl | decide) ?_
          exact cutQ _ ((Wk_le (.cons _ _ _ _ _ (.refl _) (.cons _ _ _ _ _ (.refl _) (.cons _ _ _ _ _ (.refl _) (.cons _ _ _ _ _ (.refl _) (.cons _ _ _ _ _ (.refl _) (.cons _ _ _ _ _ (.dead _) (.cons _ _ _ _ _ (.dead _) (.cons _ _ _ _ _ (.dead _) .nil)))))))) (OLe.refl _)).trans (cmpS_ok rfl)) ⟨n, Nat.lt_succ_self n, _, h321, rfl⟩
         ·refine W_sound tab_ok mixed 9 _ _ _ ?_
          simp -implicitDefEqProofs only [go_sem, Nat.reduceBEq, Nat.reduceLT, h316, h318]
          repeat with_reducible refine And.intro (by first | kernel_rfl | decide) ?_
          obtain rfl := Option.some.inj h321
          (try dsimp only at h322)
          obtain rfl := Option.some.inj h322
          exact finC [(2, .v (.int .i64 1))] [(2, .v (.int .i64 1))] (by simp [leE, lk_cons]) (.cons _ _ _ _ _ (.v _ _ (.refl _)) .nil) (by rfl) (by simp [leE, lk_cons]) (by decide) (by decide) rfl (by simp only [go_sem, Nat.reduceBEq, resQ_tmp, resQ_nil, retD_one]; try simp [R.val, retD_one, retD_two, retD_three, retD_none])
       ·refine W_sound tab_ok mixed 10 _ _ _ ?_
        simp -implicitDefEqProofs only [go_sem, Nat.reduceBEq, Nat.reduceLT, ↓reduceIte, h280]
        repeat with_reducible refine And.intro (by first | kernel_rfl | decide) ?_
        obtain rfl := Option.some.inj h321
        exact cutQ _ ((Wk_le (.cons _ _ _ _ _ (.dead _) (.cons _ _ _ _ _ (.refl _) (.cons _ _ _ _ _ (.dead _) (.cons _ _ _ _ _ (.refl _) (.cons _ _ _ _ _ (.refl _) (.cons _ _ _ _ _ (.dead _) (.cons _ _ _ _ _ (.refl _) (.cons _ _ _ _ _ (.refl _) .nil)))))))) (OLe.refl _)).trans (cmpS_ok rfl)) ⟨rfl, rfl⟩
     ·rintro _ ⟨rfl, rfl⟩
      (try dsimp only at h322)
      refine W_sound tab_ok mixed 6 _ _ _ ?_
      simp -implicitDefEqProofs only [go_sem, Nat.reduceBEq, Nat.reduceLT]
      repeat with_reducible refine And.intro (by first | kernel_rfl | decide) ?_
      obtain rfl := Option.some.inj h322
      exact finC [(2, .v (.int .i64 0))] [(2, .v (.int .i64 0))] (by simp [leE, lk_cons]) (.cons _ _ _ _ _ (.v _ _ (.refl _)) .nil) (by rfl) (by simp [leE, lk_cons]) (by decide) (by decide) rfl (by simp only [go_sem, Nat.reduceBEq, resQ_tmp, resQ_nil, retD_one]; try simp [R.val, retD_one, retD_two, retD_three, retD_none])
def m37_L0 (N : Nat) (n415 : Nat) (c416 : List PV) (n418 : Nat) (c419 : List PV) : Nat → Int → Option ((PV ⊕ Unit))
 | 0, _ => none
 | n + 1, x421 =>
  brn (decide (x421 < ((n415 : Nat) : Int))) (
   grd (0 ≤ x421 ∧ x421 < ((n415 : Nat) : Int)) <|
   grd (0 < List.length (List.drop (Int.toNat x421) c416)) <|
   getI .i64 (gp c416 (Int.toNat x421)) fun x427 =>
   grd (x421 < ((n418 : Nat) : Int)) <|
   grd (0 < List.length (List.drop (Int.toNat x421) c419)) <|
   getI .i64 (gp c419 (Int.toNat x421)) fun x431 =>
   brn (x427 != x431) (
    some (.inl (.bool false))) (
    m37_L0 N n415 c416 n418 c419 n (IntKind.i64.wrap (x421 + 1)))) (
   some (.inr ()))
def m37 (N : Nat) (p412 : PV) (p413 : PV) : Option (PV) :=
 getL p412 fun n415 c416 =>
 getL p413 fun n418 c419 =>
 brn (((n415 : Nat) : Int) != ((n418 : Nat) : Int)) (
  some (.bool false)) (
  bnd' (m37_L0 N n415 c416 n418 c419 N 0) fun o =>
  match o with
  | .inl p433 =>
   some p433
  | .inr () =>
   some (.bool true))
theorem c37 (N : Nat) (p412 : PV) (p413 : PV) (r : PV)  (h : m37 N p412 p413 = some r) : FnP Try.prog 37 [p412, p413] r := by
 unfold m37 at h
 refine Fn_of (sz := 26) tab_ok [0, 1, 4, 5, 10, 14, 25] [.tmp 4] Try.func37 rfl rfl rfl (by simp) ?_
 simp only [initSt, initEnv, List.map_cons, List.map_nil, List.getD_cons_zero, List.getD_cons_succ, List.getD_nil]
 replace h := getL_some h; obtain ⟨n415, c416, h414, h⟩ := h
 replace h := getL_some h; obtain ⟨n418, c419, h417, h⟩ := h
 replace h := brn_some h; rcases h with ⟨h420, h⟩ | ⟨h420, h⟩
 ·refine W_sound tab_ok mixed 20 _ _ _ ?_
  simp -implicitDefEqProofs only [go_sem, Nat.reduceBEq, Nat.reduceLT, ↓reduceIte, h414, h417, h420]
  repeat with_reducible refine And.intro (by first | kernel_rfl | decide) ?_
  obtain rfl := Option.some.inj h
  exact finC [(4, .v (.bool false))] [(4, .v (.bool false))] (by simp [leE, lk_cons]) (.cons _ _ _ _ _ (.v _ _ (.refl _)) .nil) (by rfl) (by simp [leE, lk_cons]) (by decide) (by decide) rfl (by simp only [go_sem, Nat.reduceBEq, resQ_tmp, resQ_nil, retD_one]; try simp [R.val, retD_one, retD_two, retD_three, retD_none])
 ·refine W_sound tab_ok mixed 20 _ _ _ ?_
  simp -implicitDefEqProofs only [go_sem, Nat.reduceBEq, Nat.reduceLT, ↓reduceIte, h414, h417, h420]
  repeat with_reducible refine And.intro (by first | kernel_rfl | decide) ?_
  replace h := bnd'_some h; obtain ⟨o434, h435, h436⟩ := h
  refine Wp_cut (fun s => (.inr ()) = o434 ∧ s = ⟨[], [(0, .dead), (1, .dead), (4, .dead), (5, .dead), (10, .dead), (14, .dead), (25, .dead)], [], 0, []⟩) ?_ ?_
  ·refine Wp_block ?_
   refine Wp_loopG (fun n s => ∃ x421, m37_L0 N n415 c416 n418 c419 n x421 = some o434 ∧ s = ⟨[], [(0, .v (.lst false n415 c416)), (1, .v (.lst false n418 c419)), (4, .dead), (5, .v (.int .i64 x421)), (10, .dead), (14, .dead), (25, .dead)], [], 0, []⟩) N _ ((Wk_le (.cons _ _ _ _ _ (.refl _) (.cons _ _ _ _ _ (.refl _) (.cons _ _ _ _ _ (.dead _) (.cons _ _ _ _ _ (.refl _) (.cons _ _ _ _ _ (.dead _) (.cons _ _ _ _ _ (.refl _) (.cons _ _ _ _ _ (.refl _) .nil))))))) (OLe.refl _)).trans (cmpS_ok rfl)) ⟨_, h435, rfl⟩ ?_
   clear h435
   rintro n _ ⟨x421, h435, rfl⟩
   cases n with
   | zero => cases h435
   | succ n =>
    rw [m37_L0] at h435
    replace h435 := brn_some h435; rcases h435 with ⟨h422, h435⟩ | ⟨h422, h435⟩
    ·replace h435 := grd_some h435; obtain ⟨⟨g423, g424⟩, h435⟩ := h435
     replace h435 := grd_some h435; obtain ⟨g425, h435⟩ := h435
     replace h435 := getI_some h435; obtain ⟨x427, h426, h435⟩ := h435
     replace h435 := grd_some h435; obtain ⟨g428, h435⟩ := h435
     replace h435 := grd_some h435; obtain ⟨g429, h435⟩ := h435
     replace h435 := getI_some h435; obtain ⟨x431, h430, h435⟩ := h435
     replace h435 := brn_some h435; rcases h435 with ⟨h432, h435⟩ | ⟨h432, h435⟩
     ·refine W_sound tab_ok mixed 31 _ _ _ ?_
      simp -implicitDefEqProofs only [go_sem, Nat.reduceBEq, Nat.reduceLT, decide_true, ↓reduceIte, g423, g424, g425, h426, g428, g429, h430, h432]
      repeat with_reducible refine And.intro (by first | kernel_rfl | decide) ?_
      obtain rfl := Option.some.inj h435
      (try dsimp only at h436)
      obtain rfl := Option.some.inj h436
      exact finC [(4, .v (.bool false))] [(4, .v (.bool false))] (by simp [leE, lk_cons]) (.cons _ _ _ _ _ (.v _ _ (.refl _)) .nil) (by rfl) (by simp [leE, lk_cons]) (by decide) (by decide) rfl (by simp only [go_sem, Nat.reduceBEq, resQ_tmp, resQ_nil, retD_one]; try simp [R.val, retD_one, retD_two, retD_three, retD_none])
     ·refine W_sound tab_ok mixed 32 _ _ _ ?_
      simp -implicitDefEqProofs only [go_sem, Nat.reduceBEq, Nat.reduceLT, Int.reduceLE, Int.reduceToNat, decide_true, ↓reduceIte, g423, g424, g425, h426, g428, g429, h430, h432]
      repeat with_reducible refine And.intro (by first | kernel_rfl | decide) ?_
      exact cutQ _ ((Wk_le (.cons _ _ _ _ _ (.refl _) (.cons _ _ _ _ _ (.refl _) (.cons _ _ _ _ _ (.refl _) (.cons _ _ _ _ _ (.refl _) (.cons _ _ _ _ _ (.refl _) (.cons _ _ _ _ _ (.dead _) (.cons _ _ _ _ _ (.dead _) .nil))))))) (OLe.refl _)).trans (cmpS_ok rfl)) ⟨n, Nat.lt_succ_self n, _, h435, rfl⟩
    ·refine W_sound tab_ok mixed 10 _ _ _ ?_
     simp -implicitDefEqProofs only [go_sem, Nat.reduceBEq, Nat.reduceLT, ↓reduceIte, h422]
     repeat with_reducible refine And.intro (by first | kernel_rfl | decide) ?_
     obtain rfl := Option.some.inj h435
     exact cutQ _ ((Wk_le (.cons _ _ _ _ _ (.dead _) (.cons _ _ _ _ _ (.dead _) (.cons _ _ _ _ _ (.refl _) (.cons _ _ _ _ _ (.dead _) (.cons _ _ _ _ _ (.refl _) (.cons _ _ _ _ _ (.dead _) (.cons _ _ _ _ _ (.refl _) .nil))))))) (OLe.refl _)).trans (cmpS_ok rfl)) ⟨rfl, rfl⟩
  ·rintro _ ⟨rfl, rfl⟩
   (try dsimp only at h436)
   refine W_sound tab_ok mixed 6 _ _ _ ?_
   simp -implicitDefEqProofs only [go_sem, Nat.reduceBEq, Nat.reduceLT]
   repeat with_reducible refine And.intro (by first | kernel_rfl | decide) ?_
   obtain rfl := Option.some.inj h436
   exact finC [(4, .v (.bool true))] [(4, .v (.bool true))] (by simp [leE, lk_cons]) (.cons _ _ _ _ _ (.v _ _ (.refl _)) .nil) (by rfl) (by simp [leE, lk_cons]) (by decide) (by decide) rfl (by simp only [go_sem, Nat.reduceBEq, resQ_tmp, resQ_nil, retD_one]; try simp [R.val, retD_one, retD_two, retD_three, retD_none])
def m16 (N : Nat) (p437 : PV) : Option (PV) :=
 getA2 p437 fun p439 p440 =>
 getL p439 fun n442 c443 =>
 brn (decide (((n442 : Nat) : Int) > 20)) (
  some (.bool true)) (
  getL p440 fun n446 c447 =>
  some (.bool (decide (((n446 : Nat) : Int) > 20))))
theorem c16 (N : Nat) (p437 : PV) (r : PV)  (h : m16 N p437 = some r) : FnP Try.prog 16 [p437] r := by
 unfold m16 at h
 refine Fn_of (sz := 13) tab_ok [0, 1, 2] [.tmp 2] Try.func16 rfl rfl rfl (by simp) ?_
 simp only [initSt, initEnv, List.map_cons, List.map_nil, List.getD_cons_zero, List.getD_cons_succ, List.getD_nil]
 replace h := getA2_some h; obtain ⟨p439, p440, h438, h⟩ := h
 replace h := getL_some h; obtain ⟨n442, c443, h441, h⟩ := h
 replace h := brn_some h; rcases h with ⟨h444, h⟩ | ⟨h444, h⟩
 ·refine W_sound tab_ok mixed 21 _ _ _ ?_
  simp -implicitDefEqProofs only [go_sem, Nat.reduceBEq, Nat.reduceAdd, Nat.reduceLT, Nat.reduceLeDiff, Int.reduceLE, Int.reduceToNat, decide_true, ↓reduceIte, h438, h441, h444]
  repeat with_reducible refine And.intro (by first | kernel_rfl | decide) ?_
  obtain rfl := Option.some.inj h
  exact finC [(2, .v (.bool true))] [(2, .v (.bool true))] (by simp [leE, lk_cons]) (.cons _ _ _ _ _ (.v _ _ (.refl _)) .nil) (by rfl) (by simp [leE, lk_cons]) (by decide) (by decide) rfl (by simp only [go_sem, Nat.reduceBEq, resQ_tmp, resQ_nil, retD_one]; try simp [R.val, retD_one, retD_two, retD_three, retD_none])
 ·replace h := getL_some h; obtain ⟨n446, c447, h445, h⟩ := h
  refine W_sound tab_ok mixed 21 _ _ _ ?_
  simp -implicitDefEqProofs only [go_sem, Nat.reduceBEq, Nat.reduceAdd, Nat.reduceLT, Nat.reduceLeDiff, Int.reduceLE, Int.reduceToNat, Nat.le_refl, decide_true, ↓reduceIte, h438, h441, h444, h445]
  repeat with_reducible refine And.intro (by first | kernel_rfl | decide) ?_
  obtain rfl := Option.some.inj h
  exact finC [(2, .v (.bool (decide (((n446 : Nat) : Int) > 20))))] [(2, .v (.bool (decide (((n446 : Nat) : Int) > 20))))] (by simp [leE, lk_cons]) (.cons _ _ _ _ _ (.v _ _ (.refl _)) .nil) (by rfl) (by simp [leE, lk_cons]) (by decide) (by decide) rfl (by simp only [go_sem, Nat.reduceBEq, resQ_tmp, resQ_nil, retD_one]; try simp [R.val, retD_one, retD_two, retD_three, retD_none])
def m69_L0 (N : Nat) (n486 : Nat) (c487 : List PV) : Nat → Int → Int → Option (Int)
 | 0, _, _ => none
 | n + 1, x488, x489 =>
  brn (decide (x489 < ((n486 : Nat) : Int))) (
   grd (0 ≤ x489 ∧ x489 < ((n486 : Nat) : Int)) <|
   grd (0 < List.length (List.drop (Int.toNat x489) c487)) <|
   getI .i64 (gp c487 (Int.toNat x489)) fun x495 =>
   m69_L0 N n486 c487 n (IntKind.i64.wrap (x488 + x495)) (IntKind.i64.wrap (x489 + 1))) (
   some x488)
def m69 (N : Nat) (p484 : PV) : Option (PV) :=
 getL p484 fun n486 c487 =>
 bnd' (m69_L0 N n486 c487 N 0 0) fun x496 =>
 some (.int .i64 x496)
theorem c69 (N : Nat) (p484 : PV) (r : PV)  (h : m69 N p484 = some r) : FnP Try.prog 69 [p484] r := by
 unfold m69 at h
 refine Fn_of (sz := 17) tab_ok [0, 2, 3, 5, 6, 7, 8, 9] [.tmp 2] Try.func69 rfl rfl rfl (by simp) ?_
 simp only [initSt, initEnv, List.map_cons, List.map_nil, List.getD_cons_zero, List.getD_cons_succ, List.getD_nil]
 replace h := getL_some h; obtain ⟨n486, c487, h485, h⟩ := h
 refine W_sound tab_ok mixed 15 _ _ _ ?_
 simp -implicitDefEqProofs only [go_sem, Nat.reduceBEq, Nat.reduceLT, h485]
 repeat with_reducible refine And.intro (by first | kernel_rfl | decide) ?_
 replace h := bnd'_some h; obtain ⟨o497, h498, h499⟩ := h
 refine Wp_cut (fun s => ∃ x496, x496 = o497 ∧ s = ⟨[], [(0, .dead), (2, .dead), (3, .v (.int .i64 x496)), (5, .dead), (6, .dead), (7, .dead), (8, .dead), (9, .dead)], [], 0, []⟩) ?_ ?_
 ·refine Wp_block ?_
  refine Wp_loopG (fun n s => ∃ x488, ∃ x489, m69_L0 N n486 c487 n x488 x489 = some o497 ∧ s = ⟨[], [(0, .dead), (2, .dead), (3, .v (.int .i64 x488)), (5, .dead), (6, .v (.lst false n486 c487)), (7, .v (.int .i64 ((n486 : Nat) : Int))), (8, .v (.int .i64 x489)), (9, .dead)], [], 0, []⟩) N _ ((Wk_le (.cons _ _ _ _ _ (.dead _) (.cons _ _ _ _ _ (.dead _) (.cons _ _ _ _ _ (.refl _) (.cons _ _ _ _ _ (.refl _) (.cons _ _ _ _ _ (.refl _) (.cons _ _ _ _ _ (.refl _) (.cons _ _ _ _ _ (.refl _) (.cons _ _ _ _ _ (.refl _) .nil)))))))) (OLe.refl _)).trans (cmpS_ok (st' := ⟨[], [(0, .dead), (2, .dead), (3, .v (.int .i64 0)), (5, .dead), (6, .v (.lst false n486 c487)), (7, .v (.int .i64 ((n486 : Nat) : Int))), (8, .v (.int .i64 0)), (9, .dead)], [], 0, []⟩) (by kernel_rfl))) ⟨_, _, h498, rfl⟩ ?_
  clear h498
  rintro n _ ⟨x488, x489, h498, rfl⟩
  cases n with
  | zero => cases h498
  | succ n =>
   rw [m69_L0] at h498
   replace h498 := brn_some h498; rcases h498 with ⟨h490, h498⟩ | ⟨h490, h498⟩
   ·replace h498 := grd_some h498; obtain ⟨⟨g491, g492⟩, h498⟩ := h498
    replace h498 := grd_some h498; obtain ⟨g493, h498⟩ := h498
    replace h498 := getI_some h498; obtain ⟨x495, h494, h498⟩ := h498
    refine W_sound tab_ok mixed 26 _ _ _ ?_
    simp -implicitDefEqProofs only [go_sem, Nat.reduceBEq, Nat.reduceLT, Int.reduceLE, Int.reduceToNat, decide_true, ↓reduceIte, g491, g492, g493, h494]
    repeat with_reducible refine And.intro (by first | kernel_rfl | decide) ?_
    exact cutQ _ ((Wk_le (.cons _ _ _ _ _ (.refl _) (.cons _ _ _ _ _ (.refl _) (.cons _ _ _ _ _ (.refl _) (.cons _ _ _ _ _ (.dead _) (.cons _ _ _ _ _ (.refl _) (.cons _ _ _ _ _ (.refl _) (.cons _ _ _ _ _ (.refl _) (.cons _ _ _ _ _ (.dead _) .nil)))))))) (OLe.refl _)).trans (cmpS_ok (st' := ⟨[], [(0, .dead), (2, .dead), (3, .v (.int .i64 (IntKind.i64.wrap (x488 + x495)))), (5, .dead), (6, .v (.lst false n486 c487)), (7, .v (.int .i64 ((n486 : Nat) : Int))), (8, .v (.int .i64 (IntKind.i64.wrap (x489 + 1)))), (9, .dead)], [], 0, []⟩) (by kernel_rfl))) ⟨n, Nat.lt_succ_self n, _, _, h498, rfl⟩
   ·refine W_sound tab_ok mixed 7 _ _ _ ?_
    simp -implicitDefEqProofs only [go_sem, Nat.reduceBEq, Nat.reduceLT, ↓reduceIte, h490]
    repeat with_reducible refine And.intro (by first | kernel_rfl | decide) ?_
    obtain rfl := Option.some.inj h498
    exact cutQ _ ((Wk_le (.cons _ _ _ _ _ (.refl _) (.cons _ _ _ _ _ (.refl _) (.cons _ _ _ _ _ (.refl _) (.cons _ _ _ _ _ (.refl _) (.cons _ _ _ _ _ (.dead _) (.cons _ _ _ _ _ (.dead _) (.cons _ _ _ _ _ (.dead _) (.cons _ _ _ _ _ (.dead _) .nil)))))))) (OLe.refl _)).trans (cmpS_ok (st' := ⟨[], [(0, .dead), (2, .dead), (3, .v (.int .i64 x488)), (5, .dead), (6, .dead), (7, .dead), (8, .dead), (9, .dead)], [], 0, []⟩) (by kernel_rfl))) ⟨_, rfl, rfl⟩
 ·rintro _ ⟨x496, rfl, rfl⟩
  refine W_sound tab_ok mixed 7 _ _ _ ?_
  simp -implicitDefEqProofs only [go_sem, Nat.reduceBEq, Nat.reduceLT]
  repeat with_reducible refine And.intro (by first | kernel_rfl | decide) ?_
  obtain rfl := Option.some.inj h499
  exact finC [(2, .v (.int .i64 x496))] [(2, .v (.int .i64 x496))] (by simp [leE, lk_cons]) (.cons _ _ _ _ _ (.v _ _ (.refl _)) .nil) (by rfl) (by simp [leE, lk_cons]) (by decide) (by decide) rfl (by simp only [go_sem, Nat.reduceBEq, resQ_tmp, resQ_nil, retD_one]; try simp [R.val, retD_one, retD_two, retD_three, retD_none])
def m25 (N : Nat) (p448 : PV) (p449 : PV) : Option (PV) :=
 getL p448 fun n451 c452 =>
 getA2 p449 fun p454 p455 =>
 bnd' (m23 N (.lst false n451 c452)) fun p456 =>
 getI .i64 p456 fun x459 =>
 brn (x459 != 0) (
  some (.int .i64 x459)) (
  getL p454 fun n462 c463 =>
  brn (((n462 : Nat) : Int) != ((n451 : Nat) : Int)) (
   some (.int .i64 5)) (
   getL p455 fun n466 c467 =>
   grd (0 < ((n451 : Nat) : Int)) <|
   grd (0 < List.length c452) <|
   getL (gp c452 0) fun n471 c472 =>
   brn (((n466 : Nat) : Int) != ((n471 : Nat) : Int)) (
    some (.int .i64 5)) (
    bnd' (m68 N (.lst false n462 c463) 0 5) fun p474 =>
    getB p474 fun b477 =>
    brn b477 (
     some (.int .i64 1)) (
     bnd' (m68 N (.lst false n466 c467) 0 5) fun p479 =>
     getB p479 fun b482 =>
     brn b482 (
      some (.int .i64 1)) (
      bnd' (m69 N (.lst false n462 c463)) fun p500 =>
      getI .i64 p500 fun x503 =>
      bnd' (m69 N (.lst false n466 c467)) fun p504 =>
      getI .i64 p504 fun x507 =>
      brn (x503 != x507) (
       some (.int .i64 17)) (
       some (.int .i64 0)))))))
theorem c25 (N : Nat) (p448 : PV) (p449 : PV) (r : PV)  (h : m25 N p448 p449 = some r) : FnP Try.prog 25 [p448, p449] r := by
 unfold m25 at h
 refine Fn_of (sz := 45) tab_ok [0, 1, 3, 4, 5, 9, 11, 28, 37] [.tmp 4] Try.func25 rfl rfl rfl (by simp) ?_
 simp only [initSt, initEnv, List.map_cons, List.map_nil, List.getD_cons_zero, List.getD_cons_succ, List.getD_nil]
 replace h := getL_some h; obtain ⟨n451, c452, h450, h⟩ := h
 replace h := getA2_some h; obtain ⟨p454, p455, h453, h⟩ := h
 replace h := bnd'_some h; obtain ⟨p456, h457, h⟩ := h
 refine W_sound tab_ok mixed 9 _ _ _ ?_
 simp -implicitDefEqProofs only [go_sem, Nat.reduceBEq, Nat.reduceAdd, Nat.reduceLT, Nat.reduceLeDiff, decide_true, h450, h453]
 repeat with_reducible refine And.intro (by first | kernel_rfl | decide) ?_
 refine Wp_callP (c23 N _ _ h457) (by kernel_rfl) rfl rfl rfl rfl (by decide) ?_
 replace h := getI_some h; obtain ⟨x459, h458, h⟩ := h
 replace h := brn_some h; rcases h with ⟨h460, h⟩ | ⟨h460, h⟩
 ·refine W_sound tab_ok mixed 15 _ _ _ ?_
  simp -implicitDefEqProofs only [go_sem, Nat.reduceBEq, Nat.reduceLT, Int.le_refl, ↓reduceIte, h458, h460]
  repeat with_reducible refine And.intro (by first | kernel_rfl | decide) ?_
  obtain rfl := Option.some.inj h
  exact finC [(4, .v (.int .i64 x459))] [(4, .v (.int .i64 x459))] (by simp [leE, lk_cons]) (.cons _ _ _ _ _ (.v _ _ (.refl _)) .nil) (by rfl) (by simp [leE, lk_cons]) (by decide) (by decide) rfl (by simp only [go_sem, Nat.reduceBEq, resQ_tmp, resQ_nil, retD_one]; try simp [R.val, retD_one, retD_two, retD_three, retD_none])
 ·replace h := getL_some h; obtain ⟨n462, c463, h461, h⟩ := h
  replace h := brn_some h; rcases h with ⟨h464, h⟩ | ⟨h464, h⟩
  ·refine W_sound tab_ok mixed 38 _ _ _ ?_
   simp -implicitDefEqProofs only [go_sem, Nat.reduceBEq, Nat.reduceAdd, Nat.reduceLT, Nat.reduceLeDiff, Int.le_refl, ↓reduceIte, h458, h460, h461, h464]
   repeat with_reducible refine And.intro (by first | kernel_rfl | decide) ?_
   obtain rfl := Option.some.inj h
   exact finC [(4, .v (.int .i64 5))] [(4, .v (.int .i64 5))] (by simp [leE, lk_cons]) (.cons _ _ _ _ _ (.v _ _ (.refl _)) .nil) (by rfl) (by simp [leE, lk_cons]) (by decide) (by decide) rfl (by simp only [go_sem, Nat.reduceBEq, resQ_tmp, resQ_nil, retD_one]; try simp [R.val, retD_one, retD_two, retD_three, retD_none])
  ·replace h := getL_some h; obtain ⟨n466, c467, h465, h⟩ := h
   replace h := grd_some h; obtain ⟨g468, h⟩ := h
   replace h := grd_some h; obtain ⟨g469, h⟩ := h
   replace h := getL_some h; obtain ⟨n471, c472, h470, h⟩ := h
   replace h := brn_some h; rcases h with ⟨h473, h⟩ | ⟨h473, h⟩
   ·refine W_sound tab_ok mixed 38 _ _ _ ?_
    simp -implicitDefEqProofs only [go_sem, Nat.reduceBEq, Nat.reduceAdd, Nat.reduceLT, Nat.reduceLeDiff, Int.le_refl, Nat.le_refl, ↓reduceIte, h458, h460, h461, h464, h465, g468, g469, h470, h473]
    repeat with_reducible refine And.intro (by first | kernel_rfl | decide) ?_
    obtain rfl := Option.some.inj h
    exact finC [(4, .v (.int .i64 5))] [(4, .v (.int .i64 5))] (by simp [leE, lk_cons]) (.cons _ _ _ _ _ (.v _ _ (.refl _)) .nil) (by rfl) (by simp [leE, lk_cons]) (by decide) (by decide) rfl (by simp only [go_sem, Nat.reduceBEq, resQ_tmp, resQ_nil, retD_one]; try simp [R.val, retD_one, retD_two, retD_three, retD_none])
   ·replace h := bnd'_some h; obtain ⟨p474, h475, h⟩ := h
    refine W_sound tab_ok mixed 36 _ _ _ ?_
    simp -implicitDefEqProofs only [go_sem, Nat.reduceBEq, Nat.reduceAdd, Nat.reduceLT, Nat.reduceLeDiff, Int.le_refl, Nat.le_refl, ↓reduceIte, h458, h460, h461, h464, h465, g468, g469, h470, h473]
    repeat with_reducible refine And.intro (by first | kernel_rfl | decide) ?_
    refine Wp_callP (c68 N _ _ _ _ h475) (by kernel_rfl) rfl rfl rfl rfl (by decide) ?_
    replace h := getB_some h; obtain ⟨b477, h476, h⟩ := h
    replace h := brn_some h; rcases h with ⟨h478, h⟩ | ⟨h478, h⟩
    ·refine W_sound tab_ok mixed 14 _ _ _ ?_
     simp -implicitDefEqProofs only [go_sem, Nat.reduceBEq, Nat.reduceLT, h476, h478]
     repeat with_reducible refine And.intro (by first | kernel_rfl | decide) ?_
     obtain rfl := Option.some.inj h
     exact finC [(4, .v (.int .i64 1))] [(4, .v (.int .i64 1))] (by simp [leE, lk_cons]) (.cons _ _ _ _ _ (.v _ _ (.refl _)) .nil) (by rfl) (by simp [leE, lk_cons]) (by decide) (by decide) rfl (by simp only [go_sem, Nat.reduceBEq, resQ_tmp, resQ_nil, retD_one]; try simp [R.val, retD_one, retD_two, retD_three, retD_none])
    ·replace h := bnd'_some h; obtain ⟨p479, h480, h⟩ := h
     refine W_sound tab_ok mixed 3 _ _ _ ?_
     simp -implicitDefEqProofs only [go_sem, Nat.reduceBEq, Nat.reduceAdd, Nat.reduceLT, Nat.le_refl, h476, h478]
     repeat with_reducible refine And.intro (by first | kernel_rfl | decide) ?_
     refine Wp_callP (c68 N _ _ _ _ h480) (by kernel_rfl) rfl rfl rfl rfl (by decide) ?_
     replace h := getB_some h; obtain ⟨b482, h481, h⟩ := h
     replace h := brn_some h; rcases h with ⟨h483, h⟩ | ⟨h483, h⟩
     ·refine W_sound tab_ok mixed 10 _ _ _ ?_
      simp -implicitDefEqProofs only [go_sem, Nat.reduceBEq, Nat.reduceLT, h481, h483]
      repeat with_reducible refine And.intro (by first | kernel_rfl | decide) ?_
      obtain rfl := Option.some.inj h
      exact finC [(4, .v (.int .i64 1))] [(4, .v (.int .i64 1))] (by simp [leE, lk_cons]) (.cons _ _ _ _ _ (.v _ _ (.refl _)) .nil) (by rfl) (by simp [leE, lk_cons]) (by decide) (by decide) rfl (by simp only [go_sem, Nat.reduceBEq, resQ_tmp, resQ_nil, retD_one]; try simp [R.val, retD_one, retD_two, retD_three, retD_none])
     ·replace h := bnd'_some h; obtain ⟨p500, h501, h⟩ := h
      refine W_sound tab_ok mixed 8 _ _ _ ?_
      simp -implicitDefEqProofs only [go_sem, Nat.reduceBEq, Nat.reduceAdd, Nat.reduceLT, Nat.reduceLeDiff, h481, h483]
      repeat with_reducible refine And.intro (by first | kernel_rfl | decide) ?_
      refine Wp_callP (c69 N _ _ h501) (by kernel_rfl) rfl rfl rfl rfl (by decide) ?_
      replace h := getI_some h; obtain ⟨x503, h502, h⟩ := h
      replace h := bnd'_some h; obtain ⟨p504, h505, h⟩ := h
      refine W_sound tab_ok mixed 2 _ _ _ ?_
      simp -implicitDefEqProofs only [go_sem, Nat.reduceBEq, Nat.reduceAdd, Nat.reduceLT, Nat.le_refl, h502]
      repeat with_reducible refine And.intro (by first | kernel_rfl | decide) ?_
      refine Wp_callP (c69 N _ _ h505) (by kernel_rfl) rfl rfl rfl rfl (by decide) ?_
      replace h := getI_some h; obtain ⟨x507, h506, h⟩ := h
      replace h := brn_some h; rcases h with ⟨h508, h⟩ | ⟨h508, h⟩
      ·refine W_sound tab_ok mixed 10 _ _ _ ?_
       simp -implicitDefEqProofs only [go_sem, Nat.reduceBEq, Nat.reduceLT, ↓reduceIte, h506, h508]
       repeat with_reducible refine And.intro (by first | kernel_rfl | decide) ?_
       obtain rfl := Option.some.inj h
       exact finC [(4, .v (.int .i64 17))] [(4, .v (.int .i64 17))] (by simp [leE, lk_cons]) (.cons _ _ _ _ _ (.v _ _ (.refl _)) .nil) (by rfl) (by simp [leE, lk_cons]) (by decide) (by decide) rfl (by simp only [go_sem, Nat.reduceBEq, resQ_tmp, resQ_nil, retD_one]; try simp [R.val, retD_one, retD_two, retD_three, retD_none])
      ·refine W_sound tab_ok mixed 12 _ _ _ ?_
       simp -implicitDefEqProofs only [go_sem, Nat.reduceBEq, Nat.reduceLT, ↓reduceIte, h506, h508]
       repeat with_reducible refine And.intro (by first | kernel_rfl | decide) ?_
       obtain rfl := Option.some.inj h
       exact finC [(4, .v (.int .i64 0))] [(4, .v (.int .i64 0))] (by simp [leE, lk_cons]) (.cons _ _ _ _ _ (.v _ _ (.refl _)) .nil) (by rfl) (by simp [leE, lk_cons]) (by decide) (by decide) rfl (by simp only [go_sem, Nat.reduceBEq, resQ_tmp, resQ_nil, retD_one]; try simp [R.val, retD_one, retD_two, retD_three, retD_none])
def m64_L0 (N : Nat) (n547 : Nat) (c548 : List PV) : Nat → Int → Int → Option (Int)
 | 0, _, _ => none
 | n + 1, x549, x550 =>
  brn (decide (x550 < ((n547 : Nat) : Int))) (
   grd (0 ≤ x550 ∧ x550 < ((n547 : Nat) : Int)) <|
   grd (0 < List.length (List.drop (Int.toNat x550) c548)) <|
   getI .i64 (gp c548 (Int.toNat x550)) fun x556 =>
   m64_L0 N n547 c548 n (IntKind.i64.wrap (x549 + x556)) (IntKind.i64.wrap (x550 + 1))) (
   some x549)
def m64 (N : Nat) (p545 : PV) : Option (PV) :=
 getL p545 fun n547 c548 =>
 bnd' (m64_L0 N n547 c548 N 0 0) fun x557 =>
 some (.int .i64 x557)
theorem c64 (N : Nat) (p545 : PV) (r : PV)  (h : m64 N p545 = some r) : FnP Try.prog 64 [p545] r := by
 unfold m64 at h
 refine Fn_of (sz := 18) tab_ok [0, 2, 3, 4, 8] [.tmp 2] Try.func64 rfl rfl rfl (by simp) ?_
 simp only [initSt, initEnv, List.map_cons, List.map_nil, List.getD_cons_zero, List.getD_cons_succ, List.getD_nil]
 replace h := getL_some h; obtain ⟨n547, c548, h546, h⟩ := h
 refine W_sound tab_ok mixed 13 _ _ _ ?_
 simp -implicitDefEqProofs only [go_sem, Nat.reduceBEq, Nat.reduceLT, h546]
 repeat with_reducible refine And.intro (by first | kernel_rfl | decide) ?_
 replace h := bnd'_some h; obtain ⟨o558, h559, h560⟩ := h
 refine Wp_cut (fun s => ∃ x557, x557 = o558 ∧ s = ⟨[], [(0, .dead), (2, .dead), (3, .v (.int .i64 x557)), (4, .dead), (8, .dead)], [], 0, []⟩) ?_ ?_
 ·refine Wp_block ?_
  refine Wp_loopG (fun n s => ∃ x549, ∃ x550, m64_L0 N n547 c548 n x549 x550 = some o558 ∧ s = ⟨[], [(0, .v (.lst false n547 c548)), (2, .dead), (3, .v (.int .i64 x549)), (4, .v (.int .i64 x550)), (8, .dead)], [], 0, []⟩) N _ ((Wk_le (.cons _ _ _ _ _ (.refl _) (.cons _ _ _ _ _ (.dead _) (.cons _ _ _ _ _ (.refl _) (.cons _ _ _ _ _ (.refl _) (.cons _ _ _ _ _ (.refl _) .nil))))) (OLe.refl _)).trans (cmpS_ok rfl)) ⟨_, _, h559, rfl⟩ ?_
  clear h559
  rintro n _ ⟨x549, x550, h559, rfl⟩
  cases n with
  | zero => cases h559
  | succ n =>
   rw [m64_L0] at h559
   replace h559 := brn_some h559; rcases h559 with ⟨h551, h559⟩ | ⟨h551, h559⟩
   ·replace h559 := grd_some h559; obtain ⟨⟨g552, g553⟩, h559⟩ := h559
    replace h559 := grd_some h559; obtain ⟨g554, h559⟩ := h559
    replace h559 := getI_some h559; obtain ⟨x556, h555, h559⟩ := h559
    refine W_sound tab_ok mixed 27 _ _ _ ?_
    simp -implicitDefEqProofs only [go_sem, Nat.reduceBEq, Nat.reduceLT, Int.reduceLE, Int.reduceToNat, decide_true, ↓reduceIte, g552, g553, g554, h555]
    repeat with_reducible refine And.intro (by first | kernel_rfl | decide) ?_
    exact cutQ _ ((Wk_le (.cons _ _ _ _ _ (.refl _) (.cons _ _ _ _ _ (.refl _) (.cons _ _ _ _ _ (.refl _) (.cons _ _ _ _ _ (.refl _) (.cons _ _ _ _ _ (.dead _) .nil))))) (OLe.refl _)).trans (cmpS_ok rfl)) ⟨n, Nat.lt_succ_self n, _, _, h559, rfl⟩
   ·refine W_sound tab_ok mixed 10 _ _ _ ?_
    simp -implicitDefEqProofs only [go_sem, Nat.reduceBEq, Nat.reduceLT, ↓reduceIte, h551]
    repeat with_reducible refine And.intro (by first | kernel_rfl | decide) ?_
    obtain rfl := Option.some.inj h559
    exact cutQ _ ((Wk_le (.cons _ _ _ _ _ (.dead _) (.cons _ _ _ _ _ (.refl _) (.cons _ _ _ _ _ (.refl _) (.cons _ _ _ _ _ (.dead _) (.cons _ _ _ _ _ (.dead _) .nil))))) (OLe.refl _)).trans (cmpS_ok rfl)) ⟨_, rfl, rfl⟩
 ·rintro _ ⟨x557, rfl, rfl⟩
  refine W_sound tab_ok mixed 7 _ _ _ ?_
  simp -implicitDefEqProofs only [go_sem, Nat.reduceBEq, Nat.reduceLT]
  repeat with_reducible refine And.intro (by first | kernel_rfl | decide) ?_
  obtain rfl := Option.some.inj h560
  exact finC [(2, .v (.int .i64 x557))] [(2, .v (.int .i64 x557))] (by simp [leE, lk_cons]) (.cons _ _ _ _ _ (.v _ _ (.refl _)) .nil) (by rfl) (by simp [leE, lk_cons]) (by decide) (by decide) rfl (by simp only [go_sem, Nat.reduceBEq, resQ_tmp, resQ_nil, retD_one]; try simp [R.val, retD_one, retD_two, retD_three, retD_none])
def m26 (N : Nat) (p509 : PV) (p510 : PV) : Option (PV) :=
 getL p509 fun n512 c513 =>
 getA2 p510 fun p515 p516 =>
 bnd' (m24 N (.lst false n512 c513)) fun p517 =>
 getI .i64 p517 fun x520 =>
 brn (x520 != 0) (
  some (.int .i64 x520)) (
  getL p515 fun n523 c524 =>
  brn (((n523 : Nat) : Int) != ((n512 : Nat) : Int)) (
   some (.int .i64 5)) (
   getL p516 fun n527 c528 =>
   grd (0 < ((n512 : Nat) : Int)) <|
   grd (0 < List.length c513) <|
   getL (gp c513 0) fun n532 c533 =>
   brn (((n527 : Nat) : Int) != ((n532 : Nat) : Int)) (
    some (.int .i64 5)) (
    bnd' (m70 N (.lst false n523 c524) 0 5) fun p535 =>
    getB p535 fun b538 =>
    brn b538 (
     bnd' (m70 N (.lst false n527 c528) 0 5) fun p540 =>
     getB p540 fun b543 =>
     brn b543 (
      bnd' (m64 N (.lst false n523 c524)) fun p561 =>
      getI .i64 p561 fun x564 =>
      bnd' (m64 N (.lst false n527 c528)) fun p565 =>
      getI .i64 p565 fun x568 =>
      brn (x564 != x568) (
       some (.int .i64 17)) (
       some (.int .i64 0))) (
      some (.int .i64 1))) (
     some (.int .i64 1)))))
theorem c26 (N : Nat) (p509 : PV) (p510 : PV) (r : PV)  (h : m26 N p509 p510 = some r) : FnP Try.prog 26 [p509, p510] r := by
 unfold m26 at h
 refine Fn_of (sz := 44) tab_ok [0, 1, 3, 4, 5, 9, 26, 36, 43] [.tmp 4] Try.func26 rfl rfl rfl (by simp) ?_
 simp only [initSt, initEnv, List.map_cons, List.map_nil, List.getD_cons_zero, List.getD_cons_succ, List.getD_nil]
 replace h := getL_some h; obtain ⟨n512, c513, h511, h⟩ := h
 replace h := getA2_some h; obtain ⟨p515, p516, h514, h⟩ := h
 replace h := bnd'_some h; obtain ⟨p517, h518, h⟩ := h
 refine W_sound tab_ok mixed 8 _ _ _ ?_
 simp -implicitDefEqProofs only [go_sem, Nat.reduceBEq, Nat.reduceAdd, Nat.reduceLT, Nat.reduceLeDiff, decide_true, h511, h514]
 repeat with_reducible refine And.intro (by first | kernel_rfl | decide) ?_
 refine Wp_callP (c24 N _ _ h518) (by kernel_rfl) rfl rfl rfl rfl (by decide) ?_
 replace h := getI_some h; obtain ⟨x520, h519, h⟩ := h
 replace h := brn_some h; rcases h with ⟨h521, h⟩ | ⟨h521, h⟩
 ·refine W_sound tab_ok mixed 16 _ _ _ ?_
  simp -implicitDefEqProofs only [go_sem, Nat.reduceBEq, Nat.reduceLT, Int.le_refl, ↓reduceIte, h519, h521]
  repeat with_reducible refine And.intro (by first | kernel_rfl | decide) ?_
  obtain rfl := Option.some.inj h
  exact finC [(4, .v (.int .i64 x520))] [(4, .v (.int .i64 x520))] (by simp [leE, lk_cons]) (.cons _ _ _ _ _ (.v _ _ (.refl _)) .nil) (by rfl) (by simp [leE, lk_cons]) (by decide) (by decide) rfl (by simp only [go_sem, Nat.reduceBEq, resQ_tmp, resQ_nil, retD_one]; try simp [R.val, retD_one, retD_two, retD_three, retD_none])
 ·replace h := getL_some h; obtain ⟨n523, c524, h522, h⟩ := h
  replace h := brn_some h; rcases h with ⟨h525, h⟩ | ⟨h525, h⟩
  ·refine W_sound tab_ok mixed 37 _ _ _ ?_
   simp -implicitDefEqProofs only [go_sem, Nat.reduceBEq, Nat.reduceAdd, Nat.reduceLT, Nat.reduceLeDiff, Int.le_refl, ↓reduceIte, h519, h521, h522, h525]
   repeat with_reducible refine And.intro (by first | kernel_rfl | decide) ?_
   obtain rfl := Option.some.inj h
   exact finC [(4, .v (.int .i64 5))] [(4, .v (.int .i64 5))] (by simp [leE, lk_cons]) (.cons _ _ _ _ _ (.v _ _ (.refl _)) .nil) (by rfl) (by simp [leE, lk_cons]) (by decide) (by decide) rfl (by simp only [go_sem, Nat.reduceBEq, resQ_tmp, resQ_nil, retD_one]; try simp [R.val, retD_one, retD_two, retD_three, retD_none])
  ·replace h := getL_some h; obtain ⟨n527, c528, h526, h⟩ := h
   replace h := grd_some h; obtain ⟨g529, h⟩ := h
   replace h := grd_some h; obtain ⟨g530, h⟩ := h
   replace h := getL_some h; obtain ⟨n532, c533, h531, h⟩ := h
   replace h := brn_some h; rcases h with ⟨h534, h⟩ | ⟨h534, h⟩
   ·refine W_sound tab_ok mixed 37 _ _ _ ?_
    simp -implicitDefEqProofs only [go_sem, Nat.reduceBEq, Nat.reduceAdd, Nat.reduceLT, Nat.reduceLeDiff, Int.le_refl, Nat.le_refl, ↓reduceIte, h519, h521, h522, h525, h526, g529, g530, h531, h534]
    repeat with_reducible refine And.intro (by first | kernel_rfl | decide) ?_
    obtain rfl := Option.some.inj h
    exact finC [(4, .v (.int .i64 5))] [(4, .v (.int .i64 5))] (by simp [leE, lk_cons]) (.cons _ _ _ _ _ (.v _ _ (.refl _)) .nil) (by rfl) (by simp [leE, lk_cons]) (by decide) (by decide) rfl (by simp only [go_sem, Nat.reduceBEq, resQ_tmp, resQ_nil, retD_one]; try simp [R.val, retD_one, retD_two, retD_three, retD_none])
   ·replace h := bnd'_some h; obtain ⟨p535, h536, h⟩ := h
    refine W_sound tab_ok mixed 37 _ _ _ ?_
    simp -implicitDefEqProofs only [go_sem, Nat.reduceBEq, Nat.reduceAdd, Nat.reduceLT, Nat.reduceLeDiff, Int.le_refl, Nat.le_refl, ↓reduceIte, h519, h521, h522, h525, h526, g529, g530, h531, h534]
    repeat with_reducible refine And.intro (by first | kernel_rfl | decide) ?_
    refine Wp_callP (c70 N _ _ _ _ h536) (by kernel_rfl) rfl rfl rfl rfl (by decide) ?_
    replace h := getB_some h; obtain ⟨b538, h537, h⟩ := h
    replace h := brn_some h; rcases h with ⟨h539, h⟩ | ⟨h539, h⟩
    ·replace h := bnd'_some h; obtain ⟨p540, h541, h⟩ := h
     refine W_sound tab_ok mixed 4 _ _ _ ?_
     simp -implicitDefEqProofs only [go_sem, Nat.reduceBEq, Nat.reduceAdd, Nat.reduceLT, Nat.le_refl, h537, h539]
     repeat with_reducible refine And.intro (by first | kernel_rfl | decide) ?_
     refine Wp_callP (c70 N _ _ _ _ h541) (by kernel_rfl) rfl rfl rfl rfl (by decide) ?_
     replace h := getB_some h; obtain ⟨b543, h542, h⟩ := h
     replace h := brn_some h; rcases h with ⟨h544, h⟩ | ⟨h544, h⟩
     ·replace h := bnd'_some h; obtain ⟨p561, h562, h⟩ := h
      refine W_sound tab_ok mixed 10 _ _ _ ?_
      simp -implicitDefEqProofs only [go_sem, Nat.reduceBEq, Nat.reduceAdd, Nat.reduceLT, Nat.reduceLeDiff, h542, h544]
      repeat with_reducible refine And.intro (by first | kernel_rfl | decide) ?_
      refine Wp_callP (c64 N _ _ h562) (by kernel_rfl) rfl rfl rfl rfl (by decide) ?_
      replace h := getI_some h; obtain ⟨x564, h563, h⟩ := h
      replace h := bnd'_some h; obtain ⟨p565, h566, h⟩ := h
      refine W_sound tab_ok mixed 2 _ _ _ ?_
      simp -implicitDefEqProofs only [go_sem, Nat.reduceBEq, Nat.reduceAdd, Nat.reduceLT, Nat.le_refl, h563]
      repeat with_reducible refine And.intro (by first | kernel_rfl | decide) ?_
      refine Wp_callP (c64 N _ _ h566) (by kernel_rfl) rfl rfl rfl rfl (by decide) ?_
      replace h := getI_some h; obtain ⟨x568, h567, h⟩ := h
      replace h := brn_some h; rcases h with ⟨h569, h⟩ | ⟨h569, h⟩
      ·refine W_sound tab_ok mixed 9 _ _ _ ?_
       simp -implicitDefEqProofs only [go_sem, Nat.reduceBEq, Nat.reduceLT, ↓reduceIte, h567, h569]
       repeat with_reducible refine And.intro (by first | kernel_rfl | decide) ?_
       obtain rfl := Option.some.inj h
       exact finC [(4, .v (.int .i64 17))] [(4, .v (.int .i64 17))] (by simp [leE, lk_cons]) (.cons _ _ _ _ _ (.v _ _ (.refl _)) .nil) (by rfl) (by simp [leE, lk_cons]) (by decide) (by decide) rfl (by simp only [go_sem, Nat.reduceBEq, resQ_tmp, resQ_nil, retD_one]; try simp [R.val, retD_one, retD_two, retD_three, retD_none])
      ·refine W_sound tab_ok mixed 10 _ _ _ ?_
       simp -implicitDefEqProofs only [go_sem, Nat.reduceBEq, Nat.reduceLT, ↓reduceIte, h567, h569]
       repeat with_reducible refine And.intro (by first | kernel_rfl | decide) ?_
       obtain rfl := Option.some.inj h
       exact finC [(4, .v (.int .i64 0))] [(4, .v (.int .i64 0))] (by simp [leE, lk_cons]) (.cons _ _ _ _ _ (.v _ _ (.refl _)) .nil) (by rfl) (by simp [leE, lk_cons]) (by decide) (by decide) rfl (by simp only [go_sem, Nat.reduceBEq, resQ_tmp, resQ_nil, retD_one]; try simp [R.val, retD_one, retD_two, retD_three, retD_none])
     ·refine W_sound tab_ok mixed 10 _ _ _ ?_
      simp -implicitDefEqProofs only [go_sem, Nat.reduceBEq, Nat.reduceLT, h542, h544]
      repeat with_reducible refine And.intro (by first | kernel_rfl | decide) ?_
      obtain rfl := Option.some.inj h
      exact finC [(4, .v (.int .i64 1))] [(4, .v (.int .i64 1))] (by simp [leE, lk_cons]) (.cons _ _ _ _ _ (.v _ _ (.refl _)) .nil) (by rfl) (by simp [leE, lk_cons]) (by decide) (by decide) rfl (by simp only [go_sem, Nat.reduceBEq, resQ_tmp, resQ_nil, retD_one]; try simp [R.val, retD_one, retD_two, retD_three, retD_none])
    ·refine W_sound tab_ok mixed 15 _ _ _ ?_
     simp -implicitDefEqProofs only [go_sem, Nat.reduceBEq, Nat.reduceLT, h537, h539]
     repeat with_reducible refine And.intro (by first | kernel_rfl | decide) ?_
     obtain rfl := Option.some.inj h
     exact finC [(4, .v (.int .i64 1))] [(4, .v (.int .i64 1))] (by simp [leE, lk_cons]) (.cons _ _ _ _ _ (.v _ _ (.refl _)) .nil) (by rfl) (by simp [leE, lk_cons]) (by decide) (by decide) rfl (by simp only [go_sem, Nat.reduceBEq, resQ_tmp, resQ_nil, retD_one]; try simp [R.val, retD_one, retD_two, retD_three, retD_none])
def m53 (N : Nat) (p680 : PV) : Option (Nat × List PV) :=
 getL p680 fun n682 c683 =>
 grd (0 < n682) <|
 grd (List.length c683 = n682) <|
 grd (n682 ≤ 1099511627776) <|
 some (n682, c683)
theorem c53 (N : Nat) (p680 : PV) (rn : Nat) (rc : List PV) (h : m53 N p680 = some (rn, rc)) : V.Fn Try.prog 53 0 [.v p680] [] (fun d ob' => d = .sl false 0 0 rn 1 ∧ ob' = [(0, .p rc)]) := by
 unfold m53 at h
 refine Fn_of (sz := 8) tab_ok [0, 2, 4] [.tmp 2] Try.func53 rfl rfl rfl (by simp) ?_
 simp only [initSt, initEnv, List.getD_cons_zero, List.getD_cons_succ, List.getD_nil]
 replace h := getL_some h; obtain ⟨n682, c683, h681, h⟩ := h
 replace h := grd_some h; obtain ⟨g684, h⟩ := h
 replace h := grd_some h; obtain ⟨g685, h⟩ := h
 replace h := grd_some h; obtain ⟨g686, h⟩ := h
 refine W_sound tab_ok mixed 21 _ _ _ ?_
 simp -implicitDefEqProofs only [go_sem, Nat.reduceBEq, Nat.reduceAdd, Nat.reduceLT, Nat.reduceLeDiff, Nat.le_refl, decide_true, decide_false, h681, g684, g685, g686]
 repeat with_reducible refine And.intro (by first | kernel_rfl | decide) ?_
 simp only [Option.some.injEq, Prod.mk.injEq] at h; obtain ⟨rfl, rfl⟩ := h
 exact finD (e2 := [(0, .dead), (2, .sl false 7 0 n682 1), (4, .dead)]) (ob2 := [(5, .p []), (7, .p c683)]) (st' := ⟨[], [(0, .dead), (2, .sl false 0 0 n682 1), (4, .dead)], [(0, .p c683)], 1, []⟩) (.cons _ _ _ _ _ (.dead _) (.cons _ _ _ _ _ (.refl _) (.cons _ _ _ _ _ (.dead _) .nil))) (.cons _ _ _ _ _ (DLes.refl _) (.cons _ _ _ _ _ (DLes.refl _) .nil)) (by kernel_rfl) (by simp only [go_sem, Nat.reduceBEq, resQ_tmp, resQ_nil, retD_one]; first | done | exact ⟨rfl, rfl⟩ | (try simp [R.val, retD_one]))
def m71_L1 (N : Nat) (n1011 : Nat) (c1012 : List PV) (n1014 : Nat) (c1015 : List PV) (x1017 : Int) : Nat → Int → Int → Option (Int)
 | 0, _, _ => none
 | n + 1, x1019, x1020 =>
  grd (0 ≤ x1017 ∧ x1017 < ((n1011 : Nat) : Int)) <|
  grd (0 < List.length (List.drop (Int.toNat x1017) c1012)) <|
  getL (gp c1012 (Int.toNat x1017)) fun n1025 c1026 =>
  brn (decide (x1020 < ((n1025 : Nat) : Int))) (
   grd (0 ≤ x1020 ∧ x1020 < ((n1025 : Nat) : Int)) <|
   grd (0 < List.length (List.drop (Int.toNat x1020) c1026)) <|
   getI .i64 (gp c1026 (Int.toNat x1020)) fun x1032 =>
   grd (x1017 < ((n1014 : Nat) : Int)) <|
   grd (0 < List.length (List.drop (Int.toNat x1017) c1015)) <|
   getL (gp c1015 (Int.toNat x1017)) fun n1036 c1037 =>
   grd (x1020 < ((n1036 : Nat) : Int)) <|
   grd (0 < List.length (List.drop (Int.toNat x1020) c1037)) <|
   getI .i64 (gp c1037 (Int.toNat x1020)) fun x1041 =>
   m71_L1 N n1011 c1012 n1014 c1015 x1017 n (IntKind.i64.wrap (x1019 + (IntKind.i64.wrap (x1032 * x1041)))) (IntKind.i64.wrap (x1020 + 1))) (
   some x1019)
def m71_L0 (N : Nat) (n1011 : Nat) (c1012 : List PV) (n1014 : Nat) (c1015 : List PV) : Nat → Int → Int → Option (Int)
 | 0, _, _ => none
 | n + 1, x1016, x1017 =>
  brn (decide (x1017 < ((n1011 : Nat) : Int))) (
   bnd' (m71_L1 N n1011 c1012 n1014 c1015 x1017 N x1016 0) fun x1042 =>
   m71_L0 N n1011 c1012 n1014 c1015 n x1042 (IntKind.i64.wrap (x1017 + 1))) (
   some x1016)
def m71 (N : Nat) (p1008 : PV) (p1009 : PV) : Option (PV) :=
 getL p1008 fun n1011 c1012 =>
 getL p1009 fun n1014 c1015 =>
 bnd' (m71_L0 N n1011 c1012 n1014 c1015 N 0 0) fun x1043 =>
 some (.int .i64 x1043)
theorem c71 (N : Nat) (p1008 : PV) (p1009 : PV) (r : PV)  (h : m71 N p1008 p1009 = some r) : FnP Try.prog 71 [p1008, p1009] r := by
 unfold m71 at h
 refine Fn_of (sz := 41) tab_ok [0, 1, 4, 5, 6, 7, 11, 20] [.tmp 4] Try.func71 rfl rfl rfl (by simp) ?_
 simp only [initSt, initEnv, List.map_cons, List.map_nil, List.getD_cons_zero, List.getD_cons_succ, List.getD_nil]
 replace h := getL_some h; obtain ⟨n1011, c1012, h1010, h⟩ := h
 replace h := getL_some h; obtain ⟨n1014, c1015, h1013, h⟩ := h
 refine W_sound tab_ok mixed 13 _ _ _ ?_
 simp -implicitDefEqProofs only [go_sem, Nat.reduceBEq, Nat.reduceLT, h1010, h1013]
 repeat with_reducible refine And.intro (by first | kernel_rfl | decide) ?_
 replace h := bnd'_some h; obtain ⟨o1044, h1045, h1046⟩ := h
 refine Wp_cut (fun s => ∃ x1043, x1043 = o1044 ∧ s = ⟨[], [(0, .dead), (1, .dead), (4, .dead), (5, .v (.int .i64 x1043)), (6, .dead), (7, .dead), (11, .dead), (20, .dead)], [], 0, []⟩) ?_ ?_
 ·refine Wp_block ?_
  refine Wp_loopG (fun n s => ∃ x1016, ∃ x1017, m71_L0 N n1011 c1012 n1014 c1015 n x1016 x1017 = some o1044 ∧ s = ⟨[], [(0, .v (.lst false n1011 c1012)), (1, .v (.lst false n1014 c1015)), (4, .dead), (5, .v (.int .i64 x1016)), (6, .v (.int .i64 x1017)), (7, .dead), (11, .dead), (20, .dead)], [], 0, []⟩) N _ ((Wk_le (.cons _ _ _ _ _ (.refl _) (.cons _ _ _ _ _ (.refl _) (.cons _ _ _ _ _ (.dead _) (.cons _ _ _ _ _ (.refl _) (.cons _ _ _ _ _ (.refl _) (.cons _ _ _ _ _ (.refl _) (.cons _ _ _ _ _ (.refl _) (.cons _ _ _ _ _ (.refl _) .nil)))))))) (OLe.refl _)).trans (cmpS_ok (st' := ⟨[], [(0, .v (.lst false n1011 c1012)), (1, .v (.lst false n1014 c1015)), (4, .dead), (5, .v (.int .i64 0)), (6, .v (.int .i64 0)), (7, .dead), (11, .dead), (20, .dead)], [], 0, []⟩) (by kernel_rfl))) ⟨_, _, h1045, rfl⟩ ?_
  clear h1045
  rintro n _ ⟨x1016, x1017, h1045, rfl⟩
  cases n with
  | zero => cases h1045
  | succ n =>
   rw [m71_L0] at h1045
   replace h1045 := brn_some h1045; rcases h1045 with ⟨h1018, h1045⟩ | ⟨h1018, h1045⟩
   ·refine W_sound tab_ok mixed 16 _ _ _ ?_
    simp -implicitDefEqProofs only [go_sem, Nat.reduceBEq, Nat.reduceLT, ↓reduceIte, h1018]
    repeat with_reducible refine And.intro (by first | kernel_rfl | decide) ?_
    replace h1045 := bnd'_some h1045; obtain ⟨o1047, h1048, h1049⟩ := h1045
    refine Wp_cut (fun s => ∃ x1042, x1042 = o1047 ∧ s = ⟨[], [(0, .v (.lst false n1011 c1012)), (1, .v (.lst false n1014 c1015)), (4, .dead), (5, .v (.int .i64 x1042)), (6, .v (.int .i64 x1017)), (7, .dead), (11, .dead), (20, .dead)], [], 0, []⟩) ?_ ?_
    ·refine Wp_block ?_
     refine Wp_loopG (fun n s => ∃ x1019, ∃ x1020, m71_L1 N n1011 c1012 n1014 c1015 x1017 n x1019 x1020 = some o1047 ∧ s = ⟨[], [(0, .v (.lst false n1011 c1012)), (1, .v (.lst false n1014 c1015)), (4, .dead), (5, .v (.int .i64 x1019)), (6, .v (.int .i64 x1017)), (7, .v (.int .i64 x1020)), (11, .dead), (20, .dead)], [], 0, []⟩) N _ ((Wk_le (.cons _ _ _ _ _ (.refl _) (.cons _ _ _ _ _ (.refl _) (.cons _ _ _ _ _ (.refl _) (.cons _ _ _ _ _ (.refl _) (.cons _ _ _ _ _ (.refl _) (.cons _ _ _ _ _ (.refl _) (.cons _ _ _ _ _ (.dead _) (.cons _ _ _ _ _ (.refl _) .nil)))))))) (OLe.refl _)).trans (cmpS_ok (st' := ⟨[], [(0, .v (.lst false n1011 c1012)), (1, .v (.lst false n1014 c1015)), (4, .dead), (5, .v (.int .i64 x1016)), (6, .v (.int .i64 x1017)), (7, .v (.int .i64 0)), (11, .dead), (20, .dead)], [], 0, []⟩) (by kernel_rfl))) ⟨_, _, h1048, rfl⟩ ?_
     clear h1048
     rintro n _ ⟨x1019, x1020, h1048, rfl⟩
     cases n with
     | zero => cases h1048
     | succ n =>
      rw [m71_L1] at h1048
      replace h1048 := grd_some h1048; obtain ⟨⟨g1021, g1022⟩, h1048⟩ := h1048
      replace h1048 := grd_some h1048; obtain ⟨g1023, h1048⟩ := h1048
      replace h1048 := getL_some h1048; obtain ⟨n1025, c1026, h1024, h1048⟩ := h1048
      replace h1048 := brn_some h1048; rcases h1048 with ⟨h1027, h1048⟩ | ⟨h1027, h1048⟩
      ·replace h1048 := grd_some h1048; obtain ⟨⟨g1028, g1029⟩, h1048⟩ := h1048
       replace h1048 := grd_some h1048; obtain ⟨g1030, h1048⟩ := h1048
       replace h1048 := getI_some h1048; obtain ⟨x1032, h1031, h1048⟩ := h1048
       replace h1048 := grd_some h1048; obtain ⟨g1033, h1048⟩ := h1048
       replace h1048 := grd_some h1048; obtain ⟨g1034, h1048⟩ := h1048
       replace h1048 := getL_some h1048; obtain ⟨n1036, c1037, h1035, h1048⟩ := h1048
       replace h1048 := grd_some h1048; obtain ⟨g1038, h1048⟩ := h1048
       replace h1048 := grd_some h1048; obtain ⟨g1039, h1048⟩ := h1048
       replace h1048 := getI_some h1048; obtain ⟨x1041, h1040, h1048⟩ := h1048
       refine W_sound tab_ok mixed 41 _ _ _ ?_
       simp -implicitDefEqProofs only [go_sem, Nat.reduceBEq, Nat.reduceLT, Int.reduceLE, Int.reduceToNat, decide_true, ↓reduceIte, g1021, g1022, g1023, h1024, g1028, g1029, g1030, h1031, g1033, g1034, h1035, g1038, g1039, h1040]
       repeat with_reducible refine And.intro (by first | kernel_rfl | decide) ?_
       exact cutQ _ ((Wk_le (.cons _ _ _ _ _ (.refl _) (.cons _ _ _ _ _ (.refl _) (.cons _ _ _ _ _ (.refl _) (.cons _ _ _ _ _ (.refl _) (.cons _ _ _ _ _ (.refl _) (.cons _ _ _ _ _ (.refl _) (.cons _ _ _ _ _ (.refl _) (.cons _ _ _ _ _ (.dead _) .nil)))))))) (OLe.refl _)).trans (cmpS_ok (st' := ⟨[], [(0, .v (.lst false n1011 c1012)), (1, .v (.lst false n1014 c1015)), (4, .dead), (5, .v (.int .i64 (IntKind.i64.wrap (x1019 + (IntKind.i64.wrap (x1032 * x1041)))))), (6, .v (.int .i64 x1017)), (7, .v (.int .i64 (IntKind.i64.wrap (x1020 + 1)))), (11, .dead), (20, .dead)], [], 0, []⟩) (by kernel_rfl))) ⟨n, Nat.lt_succ_self n, _, _, h1048, rfl⟩
      ·refine W_sound tab_ok mixed 13 _ _ _ ?_
       simp -implicitDefEqProofs only [go_sem, Nat.reduceBEq, Nat.reduceLT, ↓reduceIte, g1021, g1022, g1023, h1024, h1027]
       repeat with_reducible refine And.intro (by first | kernel_rfl | decide) ?_
       obtain rfl := Option.some.inj h1048
       exact cutQ _ ((Wk_le (.cons _ _ _ _ _ (.refl _) (.cons _ _ _ _ _ (.refl _) (.cons _ _ _ _ _ (.refl _) (.cons _ _ _ _ _ (.refl _) (.cons _ _ _ _ _ (.refl _) (.cons _ _ _ _ _ (.dead _) (.cons _ _ _ _ _ (.refl _) (.cons _ _ _ _ _ (.dead _) .nil)))))))) (OLe.refl _)).trans (cmpS_ok (st' := ⟨[], [(0, .v (.lst false n1011 c1012)), (1, .v (.lst false n1014 c1015)), (4, .dead), (5, .v (.int .i64 x1019)), (6, .v (.int .i64 x1017)), (7, .dead), (11, .dead), (20, .dead)], [], 0, []⟩) (by kernel_rfl))) ⟨_, rfl, rfl⟩
    ·rintro _ ⟨x1042, rfl, rfl⟩
     refine W_sound tab_ok mixed 6 _ _ _ ?_
     simp -implicitDefEqProofs only [go_sem, Nat.reduceBEq, Nat.reduceLT, Int.reduceLE, Int.reduceToNat, ↓reduceIte]
     repeat with_reducible refine And.intro (by first | kernel_rfl | decide) ?_
     exact cutQ _ ((Wk_le (.cons _ _ _ _ _ (.refl _) (.cons _ _ _ _ _ (.refl _) (.cons _ _ _ _ _ (.refl _) (.cons _ _ _ _ _ (.refl _) (.cons _ _ _ _ _ (.refl _) (.cons _ _ _ _ _ (.refl _) (.cons _ _ _ _ _ (.refl _) (.cons _ _ _ _ _ (.refl _) .nil)))))))) (OLe.refl _)).trans (cmpS_ok (st' := ⟨[], [(0, .v (.lst false n1011 c1012)), (1, .v (.lst false n1014 c1015)), (4, .dead), (5, .v (.int .i64 x1042)), (6, .v (.int .i64 (IntKind.i64.wrap (x1017 + 1)))), (7, .dead), (11, .dead), (20, .dead)], [], 0, []⟩) (by kernel_rfl))) ⟨n, Nat.lt_succ_self n, _, _, h1049, rfl⟩
   ·refine W_sound tab_ok mixed 10 _ _ _ ?_
    simp -implicitDefEqProofs only [go_sem, Nat.reduceBEq, Nat.reduceLT, ↓reduceIte, h1018]
    repeat with_reducible refine And.intro (by first | kernel_rfl | decide) ?_
    obtain rfl := Option.some.inj h1045
    exact cutQ _ ((Wk_le (.cons _ _ _ _ _ (.dead _) (.cons _ _ _ _ _ (.dead _) (.cons _ _ _ _ _ (.refl _) (.cons _ _ _ _ _ (.refl _) (.cons _ _ _ _ _ (.dead _) (.cons _ _ _ _ _ (.refl _) (.cons _ _ _ _ _ (.dead _) (.cons _ _ _ _ _ (.refl _) .nil)))))))) (OLe.refl _)).trans (cmpS_ok (st' := ⟨[], [(0, .dead), (1, .dead), (4, .dead), (5, .v (.int .i64 x1016)), (6, .dead), (7, .dead), (11, .dead), (20, .dead)], [], 0, []⟩) (by kernel_rfl))) ⟨_, rfl, rfl⟩
 ·rintro _ ⟨x1043, rfl, rfl⟩
  refine W_sound tab_ok mixed 7 _ _ _ ?_
  simp -implicitDefEqProofs only [go_sem, Nat.reduceBEq, Nat.reduceLT]
  repeat with_reducible refine And.intro (by first | kernel_rfl | decide) ?_
  obtain rfl := Option.some.inj h1046
  exact finC [(4, .v (.int .i64 x1043))] [(4, .v (.int .i64 x1043))] (by simp [leE, lk_cons]) (.cons _ _ _ _ _ (.v _ _ (.refl _)) .nil) (by rfl) (by simp [leE, lk_cons]) (by decide) (by decide) rfl (by simp only [go_sem, Nat.reduceBEq, resQ_tmp, resQ_nil, retD_one]; try simp [R.val, retD_one, retD_two, retD_three, retD_none])
end Go.Proofs.Yteidcinajdehkaa
