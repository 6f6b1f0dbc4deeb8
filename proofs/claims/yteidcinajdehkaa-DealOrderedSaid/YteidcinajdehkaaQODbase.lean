/-
  Lists of numbers, and lists of them, as the functions of the chapter see them; checks of costs.
-/
import Derived.Test.YteidcinajdehkaaProg
import Derived.Test.YteidcinajdehkaaQOV30
import Derived.KernelRfl
import Derived.Test.YteidcinajdehkaaQOV36
import Derived.Test.YteidcinajdehkaaQOV34
set_option linter.unusedSimpArgs false
set_option linter.unusedVariables false
namespace Go.Proofs.Yteidcinajdehkaa
open Go.V
def tab : Tab := [
  (1, ⟨.other, 1, 8, [.dead]⟩),
  (2, ⟨.int .i64, 1, 8, [.v (.int .i64 0)]⟩),
  (3, ⟨.int .i64, 1, 8, [.v (.int .i64 0)]⟩),
  (4, ⟨.bool, 1, 1, [.v (.bool false)]⟩),
  (5, ⟨.int .u8, 1, 1, [.v (.int .u8 0)]⟩),
  (9, ⟨.str, 1, 16, [.v (.str ⟨#[]⟩)]⟩),
  (17, ⟨.ptr, 1, 8, [.dead]⟩),
  (21, ⟨.int .i32, 1, 4, [.v (.int .i32 0)]⟩),
  (22, ⟨.slice 23, 1, 24, [.v .nl]⟩),
  (23, ⟨.slice 3, 1, 24, [.v .nl]⟩),
  (24, ⟨.struct [(0, 23), (1, 23)], 2, 48, [.v .nl, .v .nl]⟩),
  (25, ⟨.struct [(0, 23), (1, 23)], 2, 48, [.v .nl, .v .nl]⟩),
  (26, ⟨.other, 1, 8, [.dead]⟩),
  (27, ⟨.other, 1, 8, [.dead]⟩),
  (28, ⟨.other, 1, 8, [.dead]⟩),
  (29, ⟨.struct [(0, 23), (1, 23)], 2, 48, [.v .nl, .v .nl]⟩),
  (30, ⟨.int .i64, 1, 8, [.v (.int .i64 0)]⟩),
  (32, ⟨.other, 1, 8, [.dead]⟩),
  (33, ⟨.other, 1, 8, [.dead]⟩),
  (35, ⟨.other, 1, 8, [.dead]⟩),
  (36, ⟨.other, 1, 8, [.dead]⟩),
  (37, ⟨.other, 1, 8, [.dead]⟩),
  (38, ⟨.other, 1, 8, [.dead]⟩),
  (39, ⟨.other, 1, 8, [.dead]⟩),
  (40, ⟨.other, 1, 8, [.dead]⟩),
  (41, ⟨.other, 1, 8, [.dead]⟩),
  (42, ⟨.other, 1, 8, [.dead]⟩),
  (43, ⟨.other, 1, 8, [.dead]⟩),
  (44, ⟨.other, 1, 8, [.dead]⟩),
  (46, ⟨.other, 1, 8, [.dead]⟩),
  (48, ⟨.other, 1, 8, [.dead]⟩),
  (50, ⟨.other, 1, 8, [.dead]⟩),
  (51, ⟨.other, 1, 8, [.dead]⟩),
  (52, ⟨.struct [(0, 23), (1, 23)], 2, 48, [.v .nl, .v .nl]⟩),
  (53, ⟨.struct [(0, 23), (1, 23)], 2, 48, [.v .nl, .v .nl]⟩),
  (54, ⟨.struct [(0, 23), (1, 23)], 2, 48, [.v .nl, .v .nl]⟩),
  (56, ⟨.other, 1, 8, [.dead]⟩),
  (58, ⟨.other, 1, 8, [.dead]⟩),
  (59, ⟨.other, 1, 8, [.dead]⟩),
  (60, ⟨.other, 1, 8, [.dead]⟩),
  (61, ⟨.other, 1, 8, [.dead]⟩),
  (62, ⟨.other, 1, 8, [.dead]⟩),
  (63, ⟨.other, 1, 8, [.dead]⟩),
  (64, ⟨.arr 4 5, 4, 4, [.v (.int .u8 0), .v (.int .u8 0), .v (.int .u8 0), .v (.int .u8 0)]⟩),
  (65, ⟨.arr 3 64, 12, 12, [.v (.int .u8 0), .v (.int .u8 0), .v (.int .u8 0), .v (.int .u8 0), .v (.int .u8 0), .v (.int .u8 0), .v (.int .u8 0), .v (.int .u8 0), .v (.int .u8 0), .v (.int .u8 0), .v (.int .u8 0), .v (.int .u8 0)]⟩),
  (66, ⟨.arr 3 5, 3, 3, [.v (.int .u8 0), .v (.int .u8 0), .v (.int .u8 0)]⟩),
  (67, ⟨.arr 2 5, 2, 2, [.v (.int .u8 0), .v (.int .u8 0)]⟩),
  (68, ⟨.arr 7 67, 14, 14, [.v (.int .u8 0), .v (.int .u8 0), .v (.int .u8 0), .v (.int .u8 0), .v (.int .u8 0), .v (.int .u8 0), .v (.int .u8 0), .v (.int .u8 0), .v (.int .u8 0), .v (.int .u8 0), .v (.int .u8 0), .v (.int .u8 0), .v (.int .u8 0), .v (.int .u8 0)]⟩),
  (69, ⟨.struct [(0, 5), (1, 5), (2, 5), (3, 65), (15, 66), (18, 64), (22, 68), (36, 5)], 37, 37, [.v (.int .u8 0), .v (.int .u8 0), .v (.int .u8 0), .v (.int .u8 0), .v (.int .u8 0), .v (.int .u8 0), .v (.int .u8 0), .v (.int .u8 0), .v (.int .u8 0), .v (.int .u8 0), .v (.int .u8 0), .v (.int .u8 0), .v (.int .u8 0), .v (.int .u8 0), .v (.int .u8 0), .v (.int .u8 0), .v (.int .u8 0), .v (.int .u8 0), .v (.int .u8 0), .v (.int .u8 0), .v (.int .u8 0), .v (.int .u8 0), .v (.int .u8 0), .v (.int .u8 0), .v (.int .u8 0), .v (.int .u8 0), .v (.int .u8 0), .v (.int .u8 0), .v (.int .u8 0), .v (.int .u8 0), .v (.int .u8 0), .v (.int .u8 0), .v (.int .u8 0), .v (.int .u8 0), .v (.int .u8 0), .v (.int .u8 0), .v (.int .u8 0)]⟩),
  (70, ⟨.struct [(0, 5), (1, 5), (2, 5), (3, 65), (15, 66), (18, 64), (22, 68), (36, 5)], 37, 37, [.v (.int .u8 0), .v (.int .u8 0), .v (.int .u8 0), .v (.int .u8 0), .v (.int .u8 0), .v (.int .u8 0), .v (.int .u8 0), .v (.int .u8 0), .v (.int .u8 0), .v (.int .u8 0), .v (.int .u8 0), .v (.int .u8 0), .v (.int .u8 0), .v (.int .u8 0), .v (.int .u8 0), .v (.int .u8 0), .v (.int .u8 0), .v (.int .u8 0), .v (.int .u8 0), .v (.int .u8 0), .v (.int .u8 0), .v (.int .u8 0), .v (.int .u8 0), .v (.int .u8 0), .v (.int .u8 0), .v (.int .u8 0), .v (.int .u8 0), .v (.int .u8 0), .v (.int .u8 0), .v (.int .u8 0), .v (.int .u8 0), .v (.int .u8 0), .v (.int .u8 0), .v (.int .u8 0), .v (.int .u8 0), .v (.int .u8 0), .v (.int .u8 0)]⟩),
  (72, ⟨.other, 1, 8, [.dead]⟩),
  (74, ⟨.other, 1, 8, [.dead]⟩),
  (75, ⟨.other, 1, 8, [.dead]⟩),
  (76, ⟨.other, 1, 8, [.dead]⟩),
  (77, ⟨.other, 1, 8, [.dead]⟩),
  (78, ⟨.int .i8, 1, 1, [.v (.int .i8 0)]⟩),
  (79, ⟨.arr 3 78, 3, 3, [.v (.int .i8 0), .v (.int .i8 0), .v (.int .i8 0)]⟩),
  (80, ⟨.arr 4 78, 4, 4, [.v (.int .i8 0), .v (.int .i8 0), .v (.int .i8 0), .v (.int .i8 0)]⟩),
  (81, ⟨.other, 1, 8, [.dead]⟩),
  (82, ⟨.other, 1, 8, [.dead]⟩),
  (83, ⟨.other, 1, 8, [.dead]⟩),
  (84, ⟨.other, 1, 8, [.dead]⟩),
  (85, ⟨.other, 1, 8, [.dead]⟩),
  (86, ⟨.other, 1, 8, [.dead]⟩),
  (87, ⟨.other, 1, 8, [.dead]⟩),
  (88, ⟨.other, 1, 8, [.dead]⟩),
  (89, ⟨.other, 1, 8, [.dead]⟩),
  (90, ⟨.other, 1, 8, [.dead]⟩),
  (91, ⟨.other, 1, 8, [.dead]⟩),
  (92, ⟨.other, 1, 8, [.dead]⟩),
  (93, ⟨.slice 95, 1, 24, [.v .nl]⟩),
  (94, ⟨.other, 1, 8, [.dead]⟩),
  (95, ⟨.arr 2 3, 2, 16, [.v (.int .i64 0), .v (.int .i64 0)]⟩),
  (96, ⟨.other, 1, 8, [.dead]⟩),
  (97, ⟨.other, 1, 8, [.dead]⟩),
  (98, ⟨.other, 1, 8, [.dead]⟩),
  (99, ⟨.other, 1, 8, [.dead]⟩),
  (100, ⟨.other, 1, 8, [.dead]⟩),
  (101, ⟨.other, 1, 8, [.dead]⟩),
  (102, ⟨.slice 22, 1, 24, [.v .nl]⟩),
  (103, ⟨.other, 1, 8, [.dead]⟩),
  (104, ⟨.other, 1, 8, [.dead]⟩),
  (105, ⟨.other, 1, 8, [.dead]⟩),
  (106, ⟨.other, 1, 8, [.dead]⟩),
  (107, ⟨.other, 1, 8, [.dead]⟩),
  (108, ⟨.slice 67, 1, 24, [.v .nl]⟩),
  (109, ⟨.other, 1, 8, [.dead]⟩),
  (110, ⟨.other, 1, 8, [.dead]⟩),
  (111, ⟨.other, 1, 8, [.dead]⟩),
  (112, ⟨.other, 1, 8, [.dead]⟩),
  (113, ⟨.other, 1, 8, [.dead]⟩),
  (114, ⟨.other, 1, 8, [.dead]⟩),
  (115, ⟨.arr 4 23, 4, 96, [.v .nl, .v .nl, .v .nl, .v .nl]⟩),
  (116, ⟨.other, 1, 8, [.dead]⟩),
  (117, ⟨.other, 1, 8, [.dead]⟩),
  (118, ⟨.other, 1, 8, [.dead]⟩),
  (119, ⟨.other, 1, 8, [.dead]⟩),
  (120, ⟨.other, 1, 8, [.dead]⟩),
  (121, ⟨.other, 1, 8, [.dead]⟩),
  (122, ⟨.other, 1, 8, [.dead]⟩),
  (128, ⟨.other, 1, 8, [.dead]⟩),
  (129, ⟨.int .u32, 1, 4, [.v (.int .u32 0)]⟩),
  (133, ⟨.ptr, 1, 8, [.dead]⟩)]
theorem tl1 : tl tab 1 = some ⟨.other, 1, 8, [.dead]⟩ := rfl
theorem tl2 : tl tab 2 = some ⟨.int .i64, 1, 8, [.v (.int .i64 0)]⟩ := rfl
theorem tl3 : tl tab 3 = some ⟨.int .i64, 1, 8, [.v (.int .i64 0)]⟩ := rfl
theorem tl4 : tl tab 4 = some ⟨.bool, 1, 1, [.v (.bool false)]⟩ := rfl
theorem tl5 : tl tab 5 = some ⟨.int .u8, 1, 1, [.v (.int .u8 0)]⟩ := rfl
theorem tl9 : tl tab 9 = some ⟨.str, 1, 16, [.v (.str ⟨#[]⟩)]⟩ := rfl
theorem tl17 : tl tab 17 = some ⟨.ptr, 1, 8, [.dead]⟩ := rfl
theorem tl21 : tl tab 21 = some ⟨.int .i32, 1, 4, [.v (.int .i32 0)]⟩ := rfl
theorem tl22 : tl tab 22 = some ⟨.slice 23, 1, 24, [.v .nl]⟩ := rfl
theorem tl23 : tl tab 23 = some ⟨.slice 3, 1, 24, [.v .nl]⟩ := rfl
theorem tl24 : tl tab 24 = some ⟨.struct [(0, 23), (1, 23)], 2, 48, [.v .nl, .v .nl]⟩ := rfl
theorem tl25 : tl tab 25 = some ⟨.struct [(0, 23), (1, 23)], 2, 48, [.v .nl, .v .nl]⟩ := rfl
theorem tl26 : tl tab 26 = some ⟨.other, 1, 8, [.dead]⟩ := rfl
theorem tl27 : tl tab 27 = some ⟨.other, 1, 8, [.dead]⟩ := rfl
theorem tl28 : tl tab 28 = some ⟨.other, 1, 8, [.dead]⟩ := rfl
theorem tl29 : tl tab 29 = some ⟨.struct [(0, 23), (1, 23)], 2, 48, [.v .nl, .v .nl]⟩ := rfl
theorem tl30 : tl tab 30 = some ⟨.int .i64, 1, 8, [.v (.int .i64 0)]⟩ := rfl
theorem tl32 : tl tab 32 = some ⟨.other, 1, 8, [.dead]⟩ := rfl
theorem tl33 : tl tab 33 = some ⟨.other, 1, 8, [.dead]⟩ := rfl
theorem tl35 : tl tab 35 = some ⟨.other, 1, 8, [.dead]⟩ := rfl
theorem tl36 : tl tab 36 = some ⟨.other, 1, 8, [.dead]⟩ := rfl
theorem tl37 : tl tab 37 = some ⟨.other, 1, 8, [.dead]⟩ := rfl
theorem tl38 : tl tab 38 = some ⟨.other, 1, 8, [.dead]⟩ := rfl
theorem tl39 : tl tab 39 = some ⟨.other, 1, 8, [.dead]⟩ := rfl
theorem tl40 : tl tab 40 = some ⟨.other, 1, 8, [.dead]⟩ := rfl
theorem tl41 : tl tab 41 = some ⟨.other, 1, 8, [.dead]⟩ := rfl
theorem tl42 : tl tab 42 = some ⟨.other, 1, 8, [.dead]⟩ := rfl
theorem tl43 : tl tab 43 = some ⟨.other, 1, 8, [.dead]⟩ := rfl
theorem tl44 : tl tab 44 = some ⟨.other, 1, 8, [.dead]⟩ := rfl
theorem tl46 : tl tab 46 = some ⟨.other, 1, 8, [.dead]⟩ := rfl
theorem tl48 : tl tab 48 = some ⟨.other, 1, 8, [.dead]⟩ := rfl
theorem tl50 : tl tab 50 = some ⟨.other, 1, 8, [.dead]⟩ := rfl
theorem tl51 : tl tab 51 = some ⟨.other, 1, 8, [.dead]⟩ := rfl
theorem tl52 : tl tab 52 = some ⟨.struct [(0, 23), (1, 23)], 2, 48, [.v .nl, .v .nl]⟩ := rfl
theorem tl53 : tl tab 53 = some ⟨.struct [(0, 23), (1, 23)], 2, 48, [.v .nl, .v .nl]⟩ := rfl
theorem tl54 : tl tab 54 = some ⟨.struct [(0, 23), (1, 23)], 2, 48, [.v .nl, .v .nl]⟩ := rfl
theorem tl56 : tl tab 56 = some ⟨.other, 1, 8, [.dead]⟩ := rfl
theorem tl58 : tl tab 58 = some ⟨.other, 1, 8, [.dead]⟩ := rfl
theorem tl59 : tl tab 59 = some ⟨.other, 1, 8, [.dead]⟩ := rfl
theorem tl60 : tl tab 60 = some ⟨.other, 1, 8, [.dead]⟩ := rfl
theorem tl61 : tl tab 61 = some ⟨.other, 1, 8, [.dead]⟩ := rfl
theorem tl62 : tl tab 62 = some ⟨.other, 1, 8, [.dead]⟩ := rfl
theorem tl63 : tl tab 63 = some ⟨.other, 1, 8, [.dead]⟩ := rfl
theorem tl64 : tl tab 64 = some ⟨.arr 4 5, 4, 4, [.v (.int .u8 0), .v (.int .u8 0), .v (.int .u8 0), .v (.int .u8 0)]⟩ := rfl
theorem tl65 : tl tab 65 = some ⟨.arr 3 64, 12, 12, [.v (.int .u8 0), .v (.int .u8 0), .v (.int .u8 0), .v (.int .u8 0), .v (.int .u8 0), .v (.int .u8 0), .v (.int .u8 0), .v (.int .u8 0), .v (.int .u8 0), .v (.int .u8 0), .v (.int .u8 0), .v (.int .u8 0)]⟩ := rfl
theorem tl66 : tl tab 66 = some ⟨.arr 3 5, 3, 3, [.v (.int .u8 0), .v (.int .u8 0), .v (.int .u8 0)]⟩ := rfl
theorem tl67 : tl tab 67 = some ⟨.arr 2 5, 2, 2, [.v (.int .u8 0), .v (.int .u8 0)]⟩ := rfl
theorem tl68 : tl tab 68 = some ⟨.arr 7 67, 14, 14, [.v (.int .u8 0), .v (.int .u8 0), .v (.int .u8 0), .v (.int .u8 0), .v (.int .u8 0), .v (.int .u8 0), .v (.int .u8 0), .v (.int .u8 0), .v (.int .u8 0), .v (.int .u8 0), .v (.int .u8 0), .v (.int .u8 0), .v (.int .u8 0), .v (.int .u8 0)]⟩ := rfl
theorem tl69 : tl tab 69 = some ⟨.struct [(0, 5), (1, 5), (2, 5), (3, 65), (15, 66), (18, 64), (22, 68), (36, 5)], 37, 37, [.v (.int .u8 0), .v (.int .u8 0), .v (.int .u8 0), .v (.int .u8 0), .v (.int .u8 0), .v (.int .u8 0), .v (.int .u8 0), .v (.int .u8 0), .v (.int .u8 0), .v (.int .u8 0), .v (.int .u8 0), .v (.int .u8 0), .v (.int .u8 0), .v (.int .u8 0), .v (.int .u8 0), .v (.int .u8 0), .v (.int .u8 0), .v (.int .u8 0), .v (.int .u8 0), .v (.int .u8 0), .v (.int .u8 0), .v (.int .u8 0), .v (.int .u8 0), .v (.int .u8 0), .v (.int .u8 0), .v (.int .u8 0), .v (.int .u8 0), .v (.int .u8 0), .v (.int .u8 0), .v (.int .u8 0), .v (.int .u8 0), .v (.int .u8 0), .v (.int .u8 0), .v (.int .u8 0), .v (.int .u8 0), .v (.int .u8 0), .v (.int .u8 0)]⟩ := rfl
theorem tl70 : tl tab 70 = some ⟨.struct [(0, 5), (1, 5), (2, 5), (3, 65), (15, 66), (18, 64), (22, 68), (36, 5)], 37, 37, [.v (.int .u8 0), .v (.int .u8 0), .v (.int .u8 0), .v (.int .u8 0), .v (.int .u8 0), .v (.int .u8 0), .v (.int .u8 0), .v (.int .u8 0), .v (.int .u8 0), .v (.int .u8 0), .v (.int .u8 0), .v (.int .u8 0), .v (.int .u8 0), .v (.int .u8 0), .v (.int .u8 0), .v (.int .u8 0), .v (.int .u8 0), .v (.int .u8 0), .v (.int .u8 0), .v (.int .u8 0), .v (.int .u8 0), .v (.int .u8 0), .v (.int .u8 0), .v (.int .u8 0), .v (.int .u8 0), .v (.int .u8 0), .v (.int .u8 0), .v (.int .u8 0), .v (.int .u8 0), .v (.int .u8 0), .v (.int .u8 0), .v (.int .u8 0), .v (.int .u8 0), .v (.int .u8 0), .v (.int .u8 0), .v (.int .u8 0), .v (.int .u8 0)]⟩ := rfl
theorem tl72 : tl tab 72 = some ⟨.other, 1, 8, [.dead]⟩ := rfl
theorem tl74 : tl tab 74 = some ⟨.other, 1, 8, [.dead]⟩ := rfl
theorem tl75 : tl tab 75 = some ⟨.other, 1, 8, [.dead]⟩ := rfl
theorem tl76 : tl tab 76 = some ⟨.other, 1, 8, [.dead]⟩ := rfl
theorem tl77 : tl tab 77 = some ⟨.other, 1, 8, [.dead]⟩ := rfl
theorem tl78 : tl tab 78 = some ⟨.int .i8, 1, 1, [.v (.int .i8 0)]⟩ := rfl
theorem tl79 : tl tab 79 = some ⟨.arr 3 78, 3, 3, [.v (.int .i8 0), .v (.int .i8 0), .v (.int .i8 0)]⟩ := rfl
theorem tl80 : tl tab 80 = some ⟨.arr 4 78, 4, 4, [.v (.int .i8 0), .v (.int .i8 0), .v (.int .i8 0), .v (.int .i8 0)]⟩ := rfl
theorem tl81 : tl tab 81 = some ⟨.other, 1, 8, [.dead]⟩ := rfl
theorem tl82 : tl tab 82 = some ⟨.other, 1, 8, [.dead]⟩ := rfl
theorem tl83 : tl tab 83 = some ⟨.other, 1, 8, [.dead]⟩ := rfl
theorem tl84 : tl tab 84 = some ⟨.other, 1, 8, [.dead]⟩ := rfl
theorem tl85 : tl tab 85 = some ⟨.other, 1, 8, [.dead]⟩ := rfl
theorem tl86 : tl tab 86 = some ⟨.other, 1, 8, [.dead]⟩ := rfl
theorem tl87 : tl tab 87 = some ⟨.other, 1, 8, [.dead]⟩ := rfl
theorem tl88 : tl tab 88 = some ⟨.other, 1, 8, [.dead]⟩ := rfl
theorem tl89 : tl tab 89 = some ⟨.other, 1, 8, [.dead]⟩ := rfl
theorem tl90 : tl tab 90 = some ⟨.other, 1, 8, [.dead]⟩ := rfl
theorem tl91 : tl tab 91 = some ⟨.other, 1, 8, [.dead]⟩ := rfl
theorem tl92 : tl tab 92 = some ⟨.other, 1, 8, [.dead]⟩ := rfl
theorem tl93 : tl tab 93 = some ⟨.slice 95, 1, 24, [.v .nl]⟩ := rfl
theorem tl94 : tl tab 94 = some ⟨.other, 1, 8, [.dead]⟩ := rfl
theorem tl95 : tl tab 95 = some ⟨.arr 2 3, 2, 16, [.v (.int .i64 0), .v (.int .i64 0)]⟩ := rfl
theorem tl96 : tl tab 96 = some ⟨.other, 1, 8, [.dead]⟩ := rfl
theorem tl97 : tl tab 97 = some ⟨.other, 1, 8, [.dead]⟩ := rfl
theorem tl98 : tl tab 98 = some ⟨.other, 1, 8, [.dead]⟩ := rfl
theorem tl99 : tl tab 99 = some ⟨.other, 1, 8, [.dead]⟩ := rfl
theorem tl100 : tl tab 100 = some ⟨.other, 1, 8, [.dead]⟩ := rfl
theorem tl101 : tl tab 101 = some ⟨.other, 1, 8, [.dead]⟩ := rfl
theorem tl102 : tl tab 102 = some ⟨.slice 22, 1, 24, [.v .nl]⟩ := rfl
theorem tl103 : tl tab 103 = some ⟨.other, 1, 8, [.dead]⟩ := rfl
theorem tl104 : tl tab 104 = some ⟨.other, 1, 8, [.dead]⟩ := rfl
theorem tl105 : tl tab 105 = some ⟨.other, 1, 8, [.dead]⟩ := rfl
theorem tl106 : tl tab 106 = some ⟨.other, 1, 8, [.dead]⟩ := rfl
theorem tl107 : tl tab 107 = some ⟨.other, 1, 8, [.dead]⟩ := rfl
theorem tl108 : tl tab 108 = some ⟨.slice 67, 1, 24, [.v .nl]⟩ := rfl
theorem tl109 : tl tab 109 = some ⟨.other, 1, 8, [.dead]⟩ := rfl
theorem tl110 : tl tab 110 = some ⟨.other, 1, 8, [.dead]⟩ := rfl
theorem tl111 : tl tab 111 = some ⟨.other, 1, 8, [.dead]⟩ := rfl
theorem tl112 : tl tab 112 = some ⟨.other, 1, 8, [.dead]⟩ := rfl
theorem tl113 : tl tab 113 = some ⟨.other, 1, 8, [.dead]⟩ := rfl
theorem tl114 : tl tab 114 = some ⟨.other, 1, 8, [.dead]⟩ := rfl
theorem tl115 : tl tab 115 = some ⟨.arr 4 23, 4, 96, [.v .nl, .v .nl, .v .nl, .v .nl]⟩ := rfl
theorem tl116 : tl tab 116 = some ⟨.other, 1, 8, [.dead]⟩ := rfl
theorem tl117 : tl tab 117 = some ⟨.other, 1, 8, [.dead]⟩ := rfl
theorem tl118 : tl tab 118 = some ⟨.other, 1, 8, [.dead]⟩ := rfl
theorem tl119 : tl tab 119 = some ⟨.other, 1, 8, [.dead]⟩ := rfl
theorem tl120 : tl tab 120 = some ⟨.other, 1, 8, [.dead]⟩ := rfl
theorem tl121 : tl tab 121 = some ⟨.other, 1, 8, [.dead]⟩ := rfl
theorem tl122 : tl tab 122 = some ⟨.other, 1, 8, [.dead]⟩ := rfl
theorem tl128 : tl tab 128 = some ⟨.other, 1, 8, [.dead]⟩ := rfl
theorem tl129 : tl tab 129 = some ⟨.int .u32, 1, 4, [.v (.int .u32 0)]⟩ := rfl
theorem tl133 : tl tab 133 = some ⟨.ptr, 1, 8, [.dead]⟩ := rfl
theorem tab_ok : TOk Try.prog tab := tabB_ok (by kernel_rfl)
theorem mixed : Try.prog.follows .mixedOrders = true := by kernel_rfl
end Go.Proofs.Yteidcinajdehkaa
namespace Go.Proofs.Yteidcinajdehkaa
open Go.V
set_option maxRecDepth 100000
def domL : List (List Nat) := [[], [], [], [0, 1, 2, 4, 6, 7, 8, 9, 10, 11, 12, 13, 14, 15, 25], [0, 1, 3, 4, 5, 6, 7, 8, 9, 10, 11, 12, 13, 19], [0, 2, 3, 4, 5, 6, 7, 8, 9, 10, 11, 12, 13, 14, 15, 16, 18], [0, 1, 2, 3, 5, 7, 8, 9, 10, 11, 12, 13, 14, 36], [0, 1, 2, 3, 4, 5, 6, 7, 8, 9, 10, 11, 12, 13, 14, 15, 16, 17, 18, 19, 20, 21, 22, 23, 24, 25, 121, 133, 134], [0, 1, 2, 3, 4, 5, 6, 7, 8, 9, 10, 12, 13, 14, 15, 16, 17, 18, 19, 20, 21, 22, 23, 24, 25, 26, 27, 28, 51, 92, 94, 95, 96, 101, 102, 103, 104, 130, 144, 147, 148, 149, 150, 174, 175, 176, 177, 200, 201, 202, 203, 207, 208, 209, 210, 226, 242, 249], [0, 1, 2, 3, 4, 5, 8, 9, 10, 11, 12, 13, 14, 15, 16, 38, 39, 42, 43, 44, 47, 48, 49, 74, 75, 76, 81, 82, 83, 84, 110], [0, 1, 2, 3, 4, 6, 8, 9, 10, 11, 12, 13, 14, 15, 16, 137], [0, 1, 2, 3, 4, 5, 6, 7, 8, 9, 10, 11, 12, 13, 14, 15, 16, 17, 18, 19, 20, 21, 22, 23, 24, 25, 26, 27, 28, 29, 31, 33, 34, 35, 36, 37, 52, 53, 54, 73, 74, 75, 76, 172, 221, 222, 223, 224, 225, 228, 229, 230, 231, 235, 244, 246], [0, 1, 2, 3, 4, 8, 9, 10, 11, 12, 13, 15, 16, 17, 18, 19, 20, 21, 22, 23, 24, 25, 26, 27, 28, 29, 30, 31, 32, 33, 34, 35, 36, 37, 38, 39, 57, 58, 59, 60, 84, 85, 86, 100, 101, 102, 122, 123, 124, 183], [0, 1, 2, 3, 4, 8, 9, 10, 11, 12, 13, 15, 16, 17, 18, 19, 20, 21, 22, 23, 24, 26, 28, 29, 30, 31, 32, 33, 34, 35, 36, 54, 55, 56, 57, 130, 133, 134, 135, 136, 148, 149, 150, 151, 171], [0, 1, 2, 3, 5, 6, 7, 8, 9, 10, 11, 12, 34], [0, 2, 3, 6, 10, 18], [0, 1, 2], [0, 1, 2, 3, 4, 5, 6, 7, 8, 9, 10, 11, 12, 13, 14, 15, 16, 17, 79], [0, 1, 3, 4, 5, 6, 7, 12], [0, 1, 3, 4, 5, 6, 7, 8, 9, 10, 11, 12, 13, 14, 15, 20, 26, 41, 62], [0, 1, 2, 4, 6, 7, 8, 9, 10, 11, 12, 13, 14, 18, 22, 33, 39, 40, 41, 42, 53, 54, 55, 56, 57, 82], [0, 1, 2, 4, 6, 7, 8, 9, 10, 11, 12, 13, 14, 19, 26, 30, 41, 49, 57, 61, 80, 93, 97, 109], [0, 1, 4, 5, 10, 14, 26], [0, 2, 4, 5, 16, 27, 28, 29, 30, 33, 41], [0, 2, 3, 13, 23, 27, 39, 45], [0, 1, 3, 4, 5, 9, 11, 28, 37], [0, 1, 3, 4, 5, 9, 26, 36, 43], [0, 1, 2, 3, 4, 5, 6, 7, 8, 13], [0, 1, 3, 4, 5, 6, 7, 8, 9, 14, 27, 39], [0, 1, 3, 4, 5, 6, 7, 12], [0, 1, 3, 4, 5, 6, 11], [0, 2, 3, 4, 8], [0, 2, 3, 4, 8], [0, 2, 3, 4, 5, 6, 7, 8, 12, 15, 16, 17, 24, 30, 31, 32, 41, 52], [0, 2, 3, 4, 5, 9, 15], [0, 1, 2, 3, 4, 5, 6, 10, 17], [0, 2, 3, 4, 5, 6, 7, 8, 9, 10, 11, 12, 13, 17, 30, 36, 45, 54, 86], [0, 1, 4, 5, 10, 14, 25], [0, 1, 2, 3, 4, 5, 6, 7, 9, 14, 23], [0, 1, 3, 4, 5, 6, 7, 8, 9, 10, 11, 22, 24, 49, 69], [0, 1, 3, 4, 5, 6, 7, 8, 9, 12, 16, 33, 42, 43, 44, 45, 49, 50, 51, 52, 68], [0, 1, 3, 4, 5, 9], [0, 1, 2, 3, 5, 7, 8, 9, 10, 11, 12, 13, 14, 15, 24, 30, 33, 34, 35, 36, 51, 52, 53, 54, 69], [0, 1, 2, 3, 5, 7, 8, 9, 10, 11, 12, 13, 22, 27, 33, 53, 71], [0, 1, 2, 3, 4, 5, 6, 7, 8, 9, 10, 11, 12, 14, 15, 16, 29, 30, 31, 33, 34, 35, 48, 65, 70, 105, 106, 107, 108, 134], [0, 1, 2, 3, 4, 5, 6], [0, 1, 2, 3, 4, 5, 6, 7, 8, 9, 10, 16, 17, 18, 29, 30, 31, 32, 36, 37, 38, 46, 47, 48, 49, 53, 54, 55], [0, 2, 3, 4, 5, 6, 8, 9, 10, 17, 23, 24, 25, 34, 42], [0], [0], [0, 2], [0, 2], [0], [0, 2, 4], [0, 2, 3, 9], [0, 2, 3, 4, 7, 15], [0, 1, 2, 3, 4], [0, 1, 2, 3, 4, 5, 6], [0, 1, 2, 3, 4, 5, 7, 9, 10, 12, 13, 14, 15, 16, 17, 20, 21, 22, 23, 44], [0], [0, 1, 2, 3, 4, 5, 6, 18, 19, 20], [0, 1, 2, 4, 5, 6, 7, 8, 31, 49], [0, 1, 2, 3], [0, 1, 2, 3, 4, 5, 6, 7, 8, 20, 61], [0, 2, 3, 4, 8], [0, 1, 4], [0, 1, 3], [0, 2], [0, 1, 2, 4, 5, 6], [0, 2, 3, 5, 6, 7, 8, 9], [0, 1, 2, 6, 7, 11, 21], [0, 1, 4, 5, 6, 7, 11, 20], [0, 1, 2, 4, 5, 6, 7, 8, 33, 47, 48, 49, 50, 75, 79], [0, 1, 2, 3, 4, 6, 7, 8, 9, 10, 11, 12, 13, 14, 15, 16, 20, 21, 22, 23, 46, 50, 51, 52, 53], [0, 1, 4, 5, 6, 7, 8, 9, 10, 11, 14, 25, 31, 56], [0, 1], [0, 1, 2, 6, 7, 8, 9, 10, 11, 12, 16, 37, 67], [0, 2, 3, 4, 8, 9, 10], [0, 2, 3, 4, 5, 6, 10, 18, 26, 36, 69], [0, 1, 3, 4, 5], [0, 1, 2, 3, 4, 5], [0, 1, 2, 3, 4, 6], [0, 1, 4, 5, 6, 10, 15, 21], [0, 1, 2, 3, 4, 12], [0, 1, 3, 4, 5, 6, 22, 32, 36, 45, 66], [0, 1, 2, 3, 4, 5, 6, 7, 8, 9, 10, 20, 21, 22], [0, 1, 2, 3, 4, 6, 8, 18, 20, 21, 22, 23], [0, 1, 4, 5, 6, 7, 8, 9, 10, 11, 12, 13, 17, 18, 19, 20], [0, 1, 2, 3, 4, 10], [0, 1, 2, 3, 5, 9, 13, 14, 15, 20], [0, 1, 4], [0, 1, 4, 5, 7, 8, 9, 16], [0, 1, 4], [0, 1, 2, 4], [0, 1, 2, 6], [0, 1, 2, 6, 11], [0, 1, 4, 5, 6, 11, 26], [0, 1, 4, 5, 6, 7, 8, 11, 13, 25, 37], [0, 1, 2, 3, 6, 7, 8, 11, 15, 16, 17, 18, 38], [0, 1, 2, 6, 7, 16], [0, 1, 4, 5, 9, 17], [0, 1, 2, 3, 4, 5, 6, 7, 9, 10, 11, 16, 36, 64], [0, 1, 4, 5, 7, 8, 9, 16], [0, 1, 4, 5, 7, 8, 9, 16], [0], [0], [0], [0], [0], [0], [0], [0], [0], [0], [0], [0], [0], [0], [0], [0]]
def nthL : List (List Nat) → Nat → List Nat
  | [], _ => []
  | x :: _, 0 => x
  | _ :: l, n + 1 => nthL l n
def noFz (n : Nat) : Bool := bif Nat.beq n 0 then false else false
def kn0 : Known := ⟨[], []⟩
theorem kn0_ok : KnOk Try.prog kn0 := KnOk.nil
def ka0 : List PV := []
def kr0 : PV := (.lst true 2 [(.lst true 2 [(.int .i64 1), (.int .i64 2)]), (.lst true 2 [(.int .i64 2), (.int .i64 1)])])
theorem k0 : FnP Try.prog 48 ka0 kr0 := runE_ok (doms := nthL domL) (fzr := noFz) (n := 4000) tab_ok mixed kn0_ok (by kernel_rfl)
def kn1 : Known := ⟨(48, ka0, kr0) :: kn0.p, kn0.i⟩
theorem kn1_ok : KnOk Try.prog kn1 := KnOk.cons k0 kn0_ok
def ka1 : List PV := []
def kr1 : PV := (.agg [(.lst true 2 [(.int .i64 2), (.int .i64 1)]), (.lst true 2 [(.int .i64 1), (.int .i64 2)])])
theorem k1 : FnP Try.prog 49 ka1 kr1 := runE_ok (doms := nthL domL) (fzr := noFz) (n := 4000) tab_ok mixed kn1_ok (by kernel_rfl)
def kn2 : Known := ⟨(49, ka1, kr1) :: kn1.p, kn1.i⟩
theorem kn2_ok : KnOk Try.prog kn2 := KnOk.cons k1 kn1_ok
def ka2 : List PV := [(.lst true 2 [(.lst true 2 [(.int .i64 1), (.int .i64 2)]), (.lst true 2 [(.int .i64 2), (.int .i64 1)])])]
def kr2 : PV := (.int .i64 0)
theorem k2 : FnP Try.prog 23 ka2 kr2 := runE_ok (doms := nthL domL) (fzr := noFz) (n := 4000) tab_ok mixed kn2_ok (by kernel_rfl)
def kn3 : Known := ⟨(23, ka2, kr2) :: kn2.p, kn2.i⟩
theorem kn3_ok : KnOk Try.prog kn3 := KnOk.cons k2 kn2_ok
def ka3 : List PV := [(.lst true 2 [(.lst true 2 [(.int .i64 1), (.int .i64 2)]), (.lst true 2 [(.int .i64 2), (.int .i64 1)])]), (.agg [(.lst true 2 [(.int .i64 2), (.int .i64 1)]), (.lst true 2 [(.int .i64 1), (.int .i64 2)])])]
def kr3 : PV := (.int .i64 0)
theorem k3 : FnP Try.prog 25 ka3 kr3 := runE_ok (doms := nthL domL) (fzr := noFz) (n := 4000) tab_ok mixed kn3_ok (by kernel_rfl)
def kn4 : Known := ⟨(25, ka3, kr3) :: kn3.p, kn3.i⟩
theorem kn4_ok : KnOk Try.prog kn4 := KnOk.cons k3 kn3_ok
def ka4 : List PV := [(.lst true 2 [(.lst true 2 [(.int .i64 1), (.int .i64 2)]), (.lst true 2 [(.int .i64 2), (.int .i64 1)])]), (.agg [(.lst true 2 [(.int .i64 2), (.int .i64 1)]), (.lst true 2 [(.int .i64 1), (.int .i64 2)])])]
def kr4 : PV := (.tup [(.lst false 2 [(.lst true 2 [(.int .i64 1), (.int .i64 1)]), (.lst true 2 [(.int .i64 0), (.int .i64 1)])]), (.int .i64 0)])
theorem k4 : FnP Try.prog 27 ka4 kr4 := runE_ok (doms := nthL domL) (fzr := noFz) (n := 4000) tab_ok mixed kn4_ok (by kernel_rfl)
def kn5 : Known := ⟨(27, ka4, kr4) :: kn4.p, kn4.i⟩
theorem kn5_ok : KnOk Try.prog kn5 := KnOk.cons k4 kn4_ok
def ka5 : List PV := []
def kr5 : PV := (.lst true 2 [(.lst true 2 [(.int .i64 2), (.int .i64 1)]), (.lst true 2 [(.int .i64 1), (.int .i64 2)])])
theorem k5 : FnP Try.prog 52 ka5 kr5 := runE_ok (doms := nthL domL) (fzr := noFz) (n := 4000) tab_ok mixed kn5_ok (by kernel_rfl)
def kn6 : Known := ⟨(52, ka5, kr5) :: kn5.p, kn5.i⟩
theorem kn6_ok : KnOk Try.prog kn6 := KnOk.cons k5 kn5_ok
def ka6 : List PV := [(.lst true 2 [(.lst true 2 [(.int .i64 2), (.int .i64 1)]), (.lst true 2 [(.int .i64 1), (.int .i64 2)])])]
def kr6 : PV := (.int .i64 0)
theorem k6 : FnP Try.prog 23 ka6 kr6 := runE_ok (doms := nthL domL) (fzr := noFz) (n := 4000) tab_ok mixed kn6_ok (by kernel_rfl)
def kn7 : Known := ⟨(23, ka6, kr6) :: kn6.p, kn6.i⟩
theorem kn7_ok : KnOk Try.prog kn7 := KnOk.cons k6 kn6_ok
def ka7 : List PV := [(.lst true 2 [(.lst true 2 [(.int .i64 2), (.int .i64 1)]), (.lst true 2 [(.int .i64 1), (.int .i64 2)])])]
def kr7 : PV := (.tup [(.bool false), (.int .i64 0)])
theorem k7 : FnP Try.prog 31 ka7 kr7 := runE_ok (doms := nthL domL) (fzr := noFz) (n := 4000) tab_ok mixed kn7_ok (by kernel_rfl)
def kn8 : Known := ⟨(31, ka7, kr7) :: kn7.p, kn7.i⟩
theorem kn8_ok : KnOk Try.prog kn8 := KnOk.cons k7 kn7_ok
def ka8 : List PV := [(.lst true 2 [(.lst true 2 [(.int .i64 2), (.int .i64 1)]), (.lst true 2 [(.int .i64 1), (.int .i64 2)])])]
def kr8 : PV := (.tup [(.lst true 4 [(.int .i64 0), (.int .i64 1), (.int .i64 0), (.int .i64 1)]), (.int .i64 0)])
theorem k8 : FnP Try.prog 33 ka8 kr8 := runE_ok (doms := nthL domL) (fzr := noFz) (n := 4000) tab_ok mixed kn8_ok (by kernel_rfl)
def kn9 : Known := ⟨(33, ka8, kr8) :: kn8.p, kn8.i⟩
theorem kn9_ok : KnOk Try.prog kn9 := KnOk.cons k8 kn8_ok
def ka9 : List PV := [(.lst true 2 [(.lst true 2 [(.int .i64 1), (.int .i64 2)]), (.lst true 2 [(.int .i64 2), (.int .i64 1)])])]
def kr9 : PV := (.tup [(.lst false 2 [(.int .i64 0), (.int .i64 1)]), (.lst false 2 [(.int .i64 0), (.int .i64 1)]), (.int .i64 0)])
theorem k9 : FnP Try.prog 35 ka9 kr9 := runE_ok (doms := nthL domL) (fzr := noFz) (n := 4000) tab_ok mixed kn9_ok (by kernel_rfl)
def kn10 : Known := ⟨(35, ka9, kr9) :: kn9.p, kn9.i⟩
theorem kn10_ok : KnOk Try.prog kn10 := KnOk.cons k9 kn9_ok
def ka10 : List PV := [.nl]
def kr10 : PV := (.int .i64 4)
theorem k10 : FnP Try.prog 23 ka10 kr10 := runE_ok (doms := nthL domL) (fzr := noFz) (n := 4000) tab_ok mixed kn10_ok (by kernel_rfl)
def kn11 : Known := ⟨(23, ka10, kr10) :: kn10.p, kn10.i⟩
theorem kn11_ok : KnOk Try.prog kn11 := KnOk.cons k10 kn10_ok
def ka11 : List PV := [(.lst true 2 [(.lst true 2 [(.int .i64 1), (.int .i64 2)]), (.lst true 2 [(.int .i64 2), (.int .i64 1)])]), (.agg [(.lst true 2 [(.int .i64 2), (.int .i64 1)]), (.lst true 2 [(.int .i64 1), (.int .i64 2)])])]
def kr11 : PV := (.tup [(.lst false 2 [(.lst true 2 [(.int .i64 1), (.int .i64 1)]), (.lst true 2 [(.int .i64 0), (.int .i64 1)])]), (.int .i64 0)])
theorem k11 : FnP Try.prog 18 ka11 kr11 := runE_ok (doms := nthL domL) (fzr := noFz) (n := 4000) tab_ok mixed kn11_ok (by kernel_rfl)
def kn12 : Known := ⟨(18, ka11, kr11) :: kn11.p, kn11.i⟩
theorem kn12_ok : KnOk Try.prog kn12 := KnOk.cons k11 kn11_ok
def ka12 : List PV := [(.lst true 2 [(.lst true 2 [(.int .i64 2), (.int .i64 1)]), (.lst true 2 [(.int .i64 1), (.int .i64 2)])]), (.agg [(.lst true 2 [(.int .i64 2), (.int .i64 1)]), (.lst true 2 [(.int .i64 1), (.int .i64 2)])])]
def kr12 : PV := (.int .i64 0)
theorem k12 : FnP Try.prog 25 ka12 kr12 := runE_ok (doms := nthL domL) (fzr := noFz) (n := 4000) tab_ok mixed kn12_ok (by kernel_rfl)
def kn13 : Known := ⟨(25, ka12, kr12) :: kn12.p, kn12.i⟩
theorem kn13_ok : KnOk Try.prog kn13 := KnOk.cons k12 kn12_ok
def ka13 : List PV := [(.lst true 2 [(.lst true 2 [(.int .i64 2), (.int .i64 1)]), (.lst true 2 [(.int .i64 1), (.int .i64 2)])]), (.agg [(.lst true 2 [(.int .i64 2), (.int .i64 1)]), (.lst true 2 [(.int .i64 1), (.int .i64 2)])])]
def kr13 : PV := (.tup [(.lst false 2 [(.lst true 2 [(.int .i64 0), (.int .i64 2)]), (.lst true 2 [(.int .i64 1), (.int .i64 0)])]), (.int .i64 0)])
theorem k13 : FnP Try.prog 27 ka13 kr13 := runE_ok (doms := nthL domL) (fzr := noFz) (n := 4000) tab_ok mixed kn13_ok (by kernel_rfl)
def kn14 : Known := ⟨(27, ka13, kr13) :: kn13.p, kn13.i⟩
theorem kn14_ok : KnOk Try.prog kn14 := KnOk.cons k13 kn13_ok
def ka14 : List PV := [(.lst true 2 [(.lst true 2 [(.int .i64 1), (.int .i64 2)]), (.lst true 2 [(.int .i64 2), (.int .i64 1)])]), (.agg [(.lst true 2 [(.int .i64 2), (.int .i64 1)]), (.lst true 2 [(.int .i64 1), (.int .i64 2)])])]
def kr14 : PV := (.tup [(.int .i64 2), (.int .i64 0)])
theorem k14 : FnP Try.prog 29 ka14 kr14 := runE_ok (doms := nthL domL) (fzr := noFz) (n := 4000) tab_ok mixed kn14_ok (by kernel_rfl)
def kn15 : Known := ⟨(29, ka14, kr14) :: kn14.p, kn14.i⟩
theorem kn15_ok : KnOk Try.prog kn15 := KnOk.cons k14 kn14_ok
def ka15 : List PV := [(.lst true 2 [(.lst true 2 [(.int .i64 1), (.int .i64 2)]), (.lst true 2 [(.int .i64 2), (.int .i64 1)])])]
def kr15 : PV := (.tup [(.bool true), (.int .i64 0)])
theorem k15 : FnP Try.prog 31 ka15 kr15 := runE_ok (doms := nthL domL) (fzr := noFz) (n := 4000) tab_ok mixed kn15_ok (by kernel_rfl)
def kn16 : Known := ⟨(31, ka15, kr15) :: kn15.p, kn15.i⟩
theorem kn16_ok : KnOk Try.prog kn16 := KnOk.cons k15 kn15_ok
def ka16 : List PV := []
def kr16 : PV := (.lst true 3 [(.lst true 3 [(.int .i64 0), (.int .i64 1), (.int .i64 1)]), (.lst true 3 [(.int .i64 1), (.int .i64 0), (.int .i64 1)]), (.lst true 3 [(.int .i64 1), (.int .i64 1), (.int .i64 0)])])
theorem k16 : FnP Try.prog 59 ka16 kr16 := runE_ok (doms := nthL domL) (fzr := noFz) (n := 4000) tab_ok mixed kn16_ok (by kernel_rfl)
def kn17 : Known := ⟨(59, ka16, kr16) :: kn16.p, kn16.i⟩
theorem kn17_ok : KnOk Try.prog kn17 := KnOk.cons k16 kn16_ok
def ka17 : List PV := [(.lst true 3 [(.lst true 3 [(.int .i64 0), (.int .i64 1), (.int .i64 1)]), (.lst true 3 [(.int .i64 1), (.int .i64 0), (.int .i64 1)]), (.lst true 3 [(.int .i64 1), (.int .i64 1), (.int .i64 0)])])]
def kr17 : PV := (.int .i64 0)
theorem k17 : FnP Try.prog 23 ka17 kr17 := runE_ok (doms := nthL domL) (fzr := noFz) (n := 4000) tab_ok mixed kn17_ok (by kernel_rfl)
def kn18 : Known := ⟨(23, ka17, kr17) :: kn17.p, kn17.i⟩
theorem kn18_ok : KnOk Try.prog kn18 := KnOk.cons k17 kn17_ok
def ka18 : List PV := [(.lst true 3 [(.lst true 3 [(.int .i64 0), (.int .i64 1), (.int .i64 1)]), (.lst true 3 [(.int .i64 1), (.int .i64 0), (.int .i64 1)]), (.lst true 3 [(.int .i64 1), (.int .i64 1), (.int .i64 0)])])]
def kr18 : PV := (.tup [(.bool false), (.int .i64 0)])
theorem k18 : FnP Try.prog 31 ka18 kr18 := runE_ok (doms := nthL domL) (fzr := noFz) (n := 4000) tab_ok mixed kn18_ok (by kernel_rfl)
def kn19 : Known := ⟨(31, ka18, kr18) :: kn18.p, kn18.i⟩
theorem kn19_ok : KnOk Try.prog kn19 := KnOk.cons k18 kn18_ok
def ka19 : List PV := [(.lst true 3 [(.lst true 3 [(.int .i64 0), (.int .i64 1), (.int .i64 1)]), (.lst true 3 [(.int .i64 1), (.int .i64 0), (.int .i64 1)]), (.lst true 3 [(.int .i64 1), (.int .i64 1), (.int .i64 0)])])]
def kr19 : PV := (.tup [(.lst true 4 [(.int .i64 0), (.int .i64 1), (.int .i64 1), (.int .i64 2)]), (.int .i64 0)])
theorem k19 : FnP Try.prog 33 ka19 kr19 := runE_ok (doms := nthL domL) (fzr := noFz) (n := 4000) tab_ok mixed kn19_ok (by kernel_rfl)
def kn20 : Known := ⟨(33, ka19, kr19) :: kn19.p, kn19.i⟩
theorem kn20_ok : KnOk Try.prog kn20 := KnOk.cons k19 kn19_ok
def ka20 : List PV := [(.lst true 2 [(.lst true 2 [(.int .i64 2), (.int .i64 1)]), (.lst true 2 [(.int .i64 1), (.int .i64 2)])])]
def kr20 : PV := (.tup [(.lst false 2 [(.int .i64 0), (.int .i64 1)]), (.lst false 2 [(.int .i64 1), (.int .i64 0)]), (.int .i64 0)])
theorem k20 : FnP Try.prog 35 ka20 kr20 := runE_ok (doms := nthL domL) (fzr := noFz) (n := 4000) tab_ok mixed kn20_ok (by kernel_rfl)
def kn21 : Known := ⟨(35, ka20, kr20) :: kn20.p, kn20.i⟩
theorem kn21_ok : KnOk Try.prog kn21 := KnOk.cons k20 kn20_ok
def ka21 : List PV := [(.lst true 3 [(.lst true 3 [(.int .i64 0), (.int .i64 1), (.int .i64 1)]), (.lst true 3 [(.int .i64 1), (.int .i64 0), (.int .i64 1)]), (.lst true 3 [(.int .i64 1), (.int .i64 1), (.int .i64 0)])])]
def kr21 : PV := (.tup [.nl, .nl, (.int .i64 12)])
theorem k21 : FnP Try.prog 35 ka21 kr21 := runE_ok (doms := nthL domL) (fzr := noFz) (n := 4000) tab_ok mixed kn21_ok (by kernel_rfl)
def kn22 : Known := ⟨(35, ka21, kr21) :: kn21.p, kn21.i⟩
theorem kn22_ok : KnOk Try.prog kn22 := KnOk.cons k21 kn21_ok
def ka22 : List PV := [(.lst true 2 [(.lst true 2 [(.int .i64 1), (.int .i64 2)]), (.lst true 2 [(.int .i64 2), (.int .i64 1)])]), (.agg [(.lst true 2 [(.int .i64 2), (.int .i64 1)]), (.lst true 2 [(.int .i64 1), (.int .i64 2)])])]
def kr22 : PV := (.tup [(.agg [(.lst false 2 [(.int .i64 0), (.int .i64 (-1))]), (.lst false 2 [(.int .i64 1), (.int .i64 2)])]), (.int .i64 0)])
theorem k22 : FnP Try.prog 38 ka22 kr22 := runE_ok (doms := nthL domL) (fzr := noFz) (n := 4000) tab_ok mixed kn22_ok (by kernel_rfl)
def kn23 : Known := ⟨(38, ka22, kr22) :: kn22.p, kn22.i⟩
theorem kn23_ok : KnOk Try.prog kn23 := KnOk.cons k22 kn22_ok
def ka23 : List PV := [(.lst true 2 [(.lst true 2 [(.int .i64 2), (.int .i64 1)]), (.lst true 2 [(.int .i64 1), (.int .i64 2)])]), (.agg [(.lst true 2 [(.int .i64 2), (.int .i64 1)]), (.lst true 2 [(.int .i64 1), (.int .i64 2)])])]
def kr23 : PV := (.tup [(.agg [.nl, .nl]), (.int .i64 13)])
theorem k23 : FnP Try.prog 38 ka23 kr23 := runE_ok (doms := nthL domL) (fzr := noFz) (n := 4000) tab_ok mixed kn23_ok (by kernel_rfl)
def kn24 : Known := ⟨(38, ka23, kr23) :: kn23.p, kn23.i⟩
theorem kn24_ok : KnOk Try.prog kn24 := KnOk.cons k23 kn23_ok
def ka24 : List PV := [(.lst true 2 [(.lst true 2 [(.int .i64 1), (.int .i64 2)]), (.lst true 2 [(.int .i64 2), (.int .i64 1)])])]
def kr24 : PV := (.tup [.nl, (.int .i64 13)])
theorem k24 : FnP Try.prog 33 ka24 kr24 := runE_ok (doms := nthL domL) (fzr := noFz) (n := 4000) tab_ok mixed kn24_ok (by kernel_rfl)
def kn25 : Known := ⟨(33, ka24, kr24) :: kn24.p, kn24.i⟩
theorem kn25_ok : KnOk Try.prog kn25 := KnOk.cons k24 kn24_ok
def ka25 : List PV := []
def kr25 : PV := (.bool true)
theorem k25 : FnP Try.prog 17 ka25 kr25 := runE_ok (doms := nthL domL) (fzr := noFz) (n := 4000) tab_ok mixed kn25_ok (by kernel_rfl)
end Go.Proofs.Yteidcinajdehkaa
namespace Go.Proofs.Yteidcinajdehkaa
open Go.V
open Nat renaming reduceBEq → qa, reduceAdd → qb, reduceSub → qc, reduceMul → qd, reduceLT → qe, reduceLeDiff → qf
open Int renaming reduceLE → qg, reduceLT → qh, reduceToNat → qi, reduceBEq → qj, reduceBNe → qk
set_option maxRecDepth 100000
set_option maxHeartbeats 4000000
set_option linter.unusedSimpArgs false
set_option linter.unusedVariables false
attribute [local go_sem] tl1 tl2 tl3 tl4 tl5 tl9 tl17 tl21 tl22 tl23 tl24 tl25 tl26 tl27 tl28 tl29 tl30 tl32 tl33 tl35 tl36 tl37 tl38 tl39 tl40 tl41 tl42 tl43 tl44 tl46 tl48 tl50 tl51 tl52 tl53 tl54 tl56 tl58 tl59 tl60 tl61 tl62 tl63 tl64 tl65 tl66 tl67 tl68 tl69 tl70 tl72 tl74 tl75 tl76 tl77 tl78 tl79 tl80 tl81 tl82 tl83 tl84 tl85 tl86 tl87 tl88 tl89 tl90 tl91 tl92 tl93 tl94 tl95 tl96 tl97 tl98 tl99 tl100 tl101 tl102 tl103 tl104 tl105 tl106 tl107 tl108 tl109 tl110 tl111 tl112 tl113 tl114 tl115 tl116 tl117 tl118 tl119 tl120 tl121 tl122 tl128 tl129 tl133
def m15_L0 (N : Nat) (n3 : Nat) (c4 : List PV) : Nat → Int → Option ((PV ⊕ Unit))
  | 0, _ => none
  | n + 1, x6 =>
    brn (decide (x6 < ((n3 : Nat) : Int))) (
      grd (0 ≤ x6 ∧ x6 < ((n3 : Nat) : Int)) <|
      grd (0 < List.length (List.drop (Int.toNat x6) c4)) <|
      getL (gp c4 (Int.toNat x6)) fun n12 c13 =>
      brn (decide (((n12 : Nat) : Int) > 20)) (
        some (.inl (.bool true))) (
        m15_L0 N n3 c4 n (IntKind.i64.wrap (x6 + 1)))) (
      some (.inr ()))
def m15 (N : Nat) (p1 : PV) : Option (PV) :=
  getL p1 fun n3 c4 =>
  brn (decide (((n3 : Nat) : Int) > 20)) (
    some (.bool true)) (
    bnd' (m15_L0 N n3 c4 N 0) fun o =>
    match o with
    | .inl p15 =>
      some p15
    | .inr () =>
      some (.bool false))
def m17 (N : Nat) : Option PV := some (.bool true)
theorem c17 (N : Nat) (r : PV) (h : m17 N = some r) : FnP Try.prog 17 [] r := by
  obtain rfl := Option.some.inj h
  exact k25
def m93 (N : Nat) (x70 : Int) (x71 : Int) (x72 : Int) : Option (PV) :=
  brn (decide (x70 < x71)) (
    some (.bool true)) (
    some (.bool (decide (x70 > x72))))
theorem c93 (N : Nat) (x70 : Int) (x71 : Int) (x72 : Int) (r : PV)  (h : m93 N x70 x71 x72 = some r) : FnP Try.prog 93 [(.int .i64 x70), (.ipt [(.int .i64 x71)]), (.ipt [(.int .i64 x72)])] r := by
  unfold m93 at h
  refine Fn_of (sz := 13) tab_ok [0, 1, 2, 4] [.tmp 4] Try.func93 rfl rfl rfl (by simp) ?_
  simp only [initSt, initEnv, List.map_cons, List.map_nil, List.getD_cons_zero, List.getD_cons_succ, List.getD_nil]
  have hh := brn_some h; clear h; rcases hh with ⟨h73, h⟩ | ⟨h73, h⟩
  · refine W_sound tab_ok mixed 18 _ _ _ ?_
    simp -implicitDefEqProofs only [go_sem, qa, qb, qc, qd, qe, qf, qg, qh, qi, qj, qk, ↓reduceIte, h73]
    repeat with_reducible refine ⟨by first | kernel_rfl | decide, ?_⟩
    obtain rfl := Option.some.inj h
    exact finC [(4, .v (.bool true))] [(4, .v (.bool true))] (by simp [leE, lk_cons]) (.cons _ _ _ _ _ (.v _ _ (.refl _)) .nil) (by rfl) (by simp [leE, lk_cons]) (by decide) (by decide) rfl (by simp only [go_sem, qa, qb, qc, qd, qe, qf, qg, qh, qi, qj, qk, ↓reduceIte, resQ_tmp, resQ_cell, resQ_nil, retD_one, retD_two, retD_three, retD_none]; try simp [R.val, retD_one, retD_two, retD_three, retD_none])
  · refine W_sound tab_ok mixed 18 _ _ _ ?_
    simp -implicitDefEqProofs only [go_sem, qa, qb, qc, qd, qe, qf, qg, qh, qi, qj, qk, ↓reduceIte, h73]
    repeat with_reducible refine ⟨by first | kernel_rfl | decide, ?_⟩
    obtain rfl := Option.some.inj h
    exact finC [(4, .v (.bool (decide (x70 > x72))))] [(4, .v (.bool (decide (x70 > x72))))] (by simp [leE, lk_cons]) (.cons _ _ _ _ _ (.v _ _ (.refl _)) .nil) (by rfl) (by simp [leE, lk_cons]) (by decide) (by decide) rfl (by simp only [go_sem, qa, qb, qc, qd, qe, qf, qg, qh, qi, qj, qk, ↓reduceIte, resQ_tmp, resQ_cell, resQ_nil, retD_one, retD_two, retD_three, retD_none]; try simp [R.val, retD_one, retD_two, retD_three, retD_none])
def m103_L0 (N : Nat) (x58 : Int) (x59 : Int) (n61 : Nat) (c62 : List PV) : Nat → Int → Option ((PV ⊕ Unit))
  | 0, _ => none
  | n + 1, x63 =>
    brn (decide (x63 < ((n61 : Nat) : Int))) (
      grd (0 ≤ x63 ∧ x63 < ((n61 : Nat) : Int)) <|
      grd (0 < List.length (List.drop (Int.toNat x63) c62)) <|
      getI .i64 (gp c62 (Int.toNat x63)) fun x69 =>
      bnd' (m93 N x69 x58 x59) fun p74 =>
      getB p74 fun b77 =>
      brn b77 (
        some (.inl (.int .i64 x63))) (
        m103_L0 N x58 x59 n61 c62 n (IntKind.i64.wrap (x63 + 1)))) (
      some (.inr ()))
def m103 (N : Nat) (p57 : PV) (x58 : Int) (x59 : Int) : Option (PV) :=
  getL p57 fun n61 c62 =>
  bnd' (m103_L0 N x58 x59 n61 c62 N 0) fun o =>
  match o with
  | .inl p79 =>
    some p79
  | .inr () =>
    some (.int .i64 (-1))
theorem c103 (N : Nat) (p57 : PV) (x58 : Int) (x59 : Int) (r : PV)  (h : m103 N p57 x58 x59 = some r) : FnP Try.prog 103 [p57, (.fn 93 [(.ipt [(.int .i64 x58)]), (.ipt [(.int .i64 x59)])])] r := by
  unfold m103 at h
  refine Fn_of (sz := 19) tab_ok [0, 1, 4, 5, 7, 8, 9, 16] [.tmp 4] Try.func103 rfl rfl rfl (by simp) ?_
  simp only [initSt, initEnv, List.map_cons, List.map_nil, List.getD_cons_zero, List.getD_cons_succ, List.getD_nil]
  have hh := getL_some h; clear h; obtain ⟨n61, c62, h60, h⟩ := hh
  refine W_sound tab_ok mixed 11 _ _ _ ?_
  simp -implicitDefEqProofs only [go_sem, qa, qb, qc, qd, qe, qf, qg, qh, qi, qj, qk, ↓reduceIte, h60]
  repeat with_reducible refine ⟨by first | kernel_rfl | decide, ?_⟩
  have hh := bnd'_some h; clear h; obtain ⟨o80, h81, h82⟩ := hh
  refine Wp_cut (fun s => (.inr ()) = o80 ∧ s = ⟨[], [(0, .dead), (1, .dead), (4, .dead), (5, .dead), (7, .dead), (8, .dead), (9, .dead), (16, .dead)], [], 0, []⟩) ?_ ?_
  · refine Wp_block ?_
    refine Wp_loopG (fun n s => ∃ x63, m103_L0 N x58 x59 n61 c62 n x63 = some o80 ∧ s = ⟨[], [(0, .v (.lst false n61 c62)), (1, .v (.fn 93 [(.ipt [(.int .i64 x58)]), (.ipt [(.int .i64 x59)])])), (4, .dead), (5, .dead), (7, .v (.int .i64 ((n61 : Nat) : Int))), (8, .v (.int .i64 x63)), (9, .dead), (16, .dead)], [], 0, []⟩) N _ ((Wk_le (.r (.r (.k (.r (.r (.r (.r (.r .nil)))))))) (OLe.refl _)).trans (cmpS_ok rfl)) ⟨_, h81, rfl⟩ ?_
    clear h81
    rintro n _ ⟨x63, h81, rfl⟩
    cases n with
    | zero => cases h81
    | succ n =>
      rw [m103_L0] at h81
      have hh := brn_some h81; clear h81; rcases hh with ⟨h64, h81⟩ | ⟨h64, h81⟩
      · have hh := grd_some h81; clear h81; obtain ⟨⟨g65, g66⟩, h81⟩ := hh
        have hh := grd_some h81; clear h81; obtain ⟨g67, h81⟩ := hh
        have hh := getI_some h81; clear h81; obtain ⟨x69, h68, h81⟩ := hh
        have hh := bnd'_some h81; clear h81; obtain ⟨p74, h75, h81⟩ := hh
        refine W_sound tab_ok mixed 21 _ _ _ ?_
        simp -implicitDefEqProofs only [go_sem, qa, qb, qc, qd, qe, qf, qg, qh, qi, qj, qk, ↓reduceIte, h60, h64, g65, g66, g67, h68]
        repeat with_reducible refine ⟨by first | kernel_rfl | decide, ?_⟩
        refine Wp_callP (c93 N _ _ _ _ h75) (by kernel_rfl) rfl rfl rfl rfl (by decide) ?_
        have hh := getB_some h81; clear h81; obtain ⟨b77, h76, h81⟩ := hh
        have hh := brn_some h81; clear h81; rcases hh with ⟨h78, h81⟩ | ⟨h78, h81⟩
        · refine W_sound tab_ok mixed 9 _ _ _ ?_
          simp -implicitDefEqProofs only [go_sem, qa, qb, qc, qd, qe, qf, qg, qh, qi, qj, qk, ↓reduceIte, h60, h64, g65, g66, g67, h68, h76, h78]
          repeat with_reducible refine ⟨by first | kernel_rfl | decide, ?_⟩
          obtain rfl := Option.some.inj h81
          (try dsimp only at h82)
          obtain rfl := Option.some.inj h82
          exact finC [(4, .v (.int .i64 x63))] [(4, .v (.int .i64 x63))] (by simp [leE, lk_cons]) (.cons _ _ _ _ _ (.v _ _ (.refl _)) .nil) (by rfl) (by simp [leE, lk_cons]) (by decide) (by decide) rfl (by simp only [go_sem, qa, qb, qc, qd, qe, qf, qg, qh, qi, qj, qk, ↓reduceIte, resQ_tmp, resQ_cell, resQ_nil, retD_one, retD_two, retD_three, retD_none]; try simp [R.val, retD_one, retD_two, retD_three, retD_none])
        · refine W_sound tab_ok mixed 8 _ _ _ ?_
          simp -implicitDefEqProofs only [go_sem, qa, qb, qc, qd, qe, qf, qg, qh, qi, qj, qk, ↓reduceIte, h60, h64, g65, g66, g67, h68, h76, h78]
          repeat with_reducible refine ⟨by first | kernel_rfl | decide, ?_⟩
          exact cutQ _ ((Wk_le (.r (.r (.r (.k (.r (.r (.k (.k .nil)))))))) (OLe.refl _)).trans (cmpS_ok rfl)) ⟨n, Nat.lt_succ_self n, _, h81, rfl⟩
      · refine W_sound tab_ok mixed 7 _ _ _ ?_
        simp -implicitDefEqProofs only [go_sem, qa, qb, qc, qd, qe, qf, qg, qh, qi, qj, qk, ↓reduceIte, h60, h64]
        repeat with_reducible refine ⟨by first | kernel_rfl | decide, ?_⟩
        obtain rfl := Option.some.inj h81
        exact cutQ _ ((Wk_le (.k (.k (.r (.r (.k (.k (.k (.r .nil)))))))) (OLe.refl _)).trans (cmpS_ok rfl)) ⟨rfl, rfl⟩
  · rintro _ ⟨rfl, rfl⟩
    (try dsimp only at h82)
    refine W_sound tab_ok mixed 6 _ _ _ ?_
    simp -implicitDefEqProofs only [go_sem, qa, qb, qc, qd, qe, qf, qg, qh, qi, qj, qk, ↓reduceIte, h60]
    repeat with_reducible refine ⟨by first | kernel_rfl | decide, ?_⟩
    obtain rfl := Option.some.inj h82
    exact finC [(4, .v (.int .i64 (-1)))] [(4, .v (.int .i64 (-1)))] (by simp [leE, lk_cons]) (.cons _ _ _ _ _ (.v _ _ (.refl _)) .nil) (by rfl) (by simp [leE, lk_cons]) (by decide) (by decide) rfl (by simp only [go_sem, qa, qb, qc, qd, qe, qf, qg, qh, qi, qj, qk, ↓reduceIte, resQ_tmp, resQ_cell, resQ_nil, retD_one, retD_two, retD_three, retD_none]; try simp [R.val, retD_one, retD_two, retD_three, retD_none])
def m92 (N : Nat) (p51 : PV) (x52 : Int) (x53 : Int) : Option (PV) :=
  getL p51 fun n55 c56 =>
  bnd' (m103 N (.lst false n55 c56) x52 x53) fun p83 =>
  getI .i64 p83 fun x86 =>
  some (.bool (decide (x86 ≥ 0)))
theorem c92 (N : Nat) (p51 : PV) (x52 : Int) (x53 : Int) (r : PV)  (h : m92 N p51 x52 x53 = some r) : FnP Try.prog 92 [p51, (.fn 93 [(.ipt [(.int .i64 x52)]), (.ipt [(.int .i64 x53)])])] r := by
  unfold m92 at h
  refine Fn_of (sz := 9) tab_ok [0, 1, 4] [.tmp 4] Try.func92 rfl rfl rfl (by simp) ?_
  simp only [initSt, initEnv, List.map_cons, List.map_nil, List.getD_cons_zero, List.getD_cons_succ, List.getD_nil]
  have hh := getL_some h; clear h; obtain ⟨n55, c56, h54, h⟩ := hh
  have hh := bnd'_some h; clear h; obtain ⟨p83, h84, h⟩ := hh
  refine W_sound tab_ok mixed 8 _ _ _ ?_
  simp -implicitDefEqProofs only [go_sem, qa, qb, qc, qd, qe, qf, qg, qh, qi, qj, qk, ↓reduceIte, h54]
  repeat with_reducible refine ⟨by first | kernel_rfl | decide, ?_⟩
  refine Wp_callP (c103 N _ _ _ _ h84) (by kernel_rfl) rfl rfl rfl rfl (by decide) ?_
  have hh := getI_some h; clear h; obtain ⟨x86, h85, h⟩ := hh
  refine W_sound tab_ok mixed 5 _ _ _ ?_
  simp -implicitDefEqProofs only [go_sem, qa, qb, qc, qd, qe, qf, qg, qh, qi, qj, qk, ↓reduceIte, h54, h85]
  repeat with_reducible refine ⟨by first | kernel_rfl | decide, ?_⟩
  obtain rfl := Option.some.inj h
  exact finC [(4, .v (.bool (decide (x86 ≥ 0))))] [(4, .v (.bool (decide (x86 ≥ 0))))] (by simp [leE, lk_cons]) (.cons _ _ _ _ _ (.v _ _ (.refl _)) .nil) (by rfl) (by simp [leE, lk_cons]) (by decide) (by decide) rfl (by simp only [go_sem, qa, qb, qc, qd, qe, qf, qg, qh, qi, qj, qk, ↓reduceIte, resQ_tmp, resQ_cell, resQ_nil, retD_one, retD_two, retD_three, retD_none]; try simp [R.val, retD_one, retD_two, retD_three, retD_none])
def m68 (N : Nat) (p45 : PV) (x46 : Int) (x47 : Int) : Option (PV) :=
  getL p45 fun n49 c50 =>
  bnd' (m92 N (.lst false n49 c50) x46 x47) fun p87 =>
  getB p87 fun b90 =>
  some (.bool b90)
theorem c68 (N : Nat) (p45 : PV) (x46 : Int) (x47 : Int) (r : PV)  (h : m68 N p45 x46 x47 = some r) : FnP Try.prog 68 [p45, (.int .i64 x46), (.int .i64 x47)] r := by
  unfold m68 at h
  refine Fn_of (sz := 10) tab_ok [0, 1, 2, 4, 5, 6] [.tmp 6] Try.func68 rfl rfl rfl (by simp) ?_
  simp only [initSt, initEnv, List.map_cons, List.map_nil, List.getD_cons_zero, List.getD_cons_succ, List.getD_nil]
  have hh := getL_some h; clear h; obtain ⟨n49, c50, h48, h⟩ := hh
  refine W_sound tab_ok mixed 7 _ _ _ ?_
  simp -implicitDefEqProofs only [go_sem, qa, qb, qc, qd, qe, qf, qg, qh, qi, qj, qk, ↓reduceIte, h48]
  repeat with_reducible refine ⟨by first | kernel_rfl | decide, ?_⟩
  refine Wp_wkK (Wk_freeze 4 [(.int .i64 x46)] (by rfl) (by decide) (by decide)) rfl ?_
  simp -implicitDefEqProofs only [go_sem, qa, qb, qc, qd, qe, qf, qg, qh, qi, qj, qk, ↓reduceIte, h48]
  refine Wp_wkK (Wk_freeze 5 [(.int .i64 x47)] (by rfl) (by decide) (by decide)) rfl ?_
  simp -implicitDefEqProofs only [go_sem, qa, qb, qc, qd, qe, qf, qg, qh, qi, qj, qk, ↓reduceIte, h48]
  have hh := bnd'_some h; clear h; obtain ⟨p87, h88, h⟩ := hh
  refine W_sound tab_ok mixed 3 _ _ _ ?_
  simp -implicitDefEqProofs only [go_sem, qa, qb, qc, qd, qe, qf, qg, qh, qi, qj, qk, ↓reduceIte, h48]
  repeat with_reducible refine ⟨by first | kernel_rfl | decide, ?_⟩
  refine Wp_callP (c92 N _ _ _ _ h88) (by kernel_rfl) rfl rfl rfl rfl (by decide) ?_
  have hh := getB_some h; clear h; obtain ⟨b90, h89, h⟩ := hh
  refine W_sound tab_ok mixed 4 _ _ _ ?_
  simp -implicitDefEqProofs only [go_sem, qa, qb, qc, qd, qe, qf, qg, qh, qi, qj, qk, ↓reduceIte, h48, h89]
  repeat with_reducible refine ⟨by first | kernel_rfl | decide, ?_⟩
  obtain rfl := Option.some.inj h
  exact finC [(6, .v (.bool b90))] [(6, .v (.bool b90))] (by simp [leE, lk_cons]) (.cons _ _ _ _ _ (.v _ _ (.refl _)) .nil) (by rfl) (by simp [leE, lk_cons]) (by decide) (by decide) rfl (by simp only [go_sem, qa, qb, qc, qd, qe, qf, qg, qh, qi, qj, qk, ↓reduceIte, resQ_tmp, resQ_cell, resQ_nil, retD_one, retD_two, retD_three, retD_none]; try simp [R.val, retD_one, retD_two, retD_three, retD_none])
def m23_L0 (N : Nat) (n25 : Nat) (c26 : List PV) (n31 : Nat) : Nat → Int → Option ((PV ⊕ Unit))
  | 0, _ => none
  | n + 1, x36 =>
    brn (decide (x36 < ((n25 : Nat) : Int))) (
      grd (0 ≤ x36 ∧ x36 < ((n25 : Nat) : Int)) <|
      grd (0 < List.length (List.drop (Int.toNat x36) c26)) <|
      getL (gp c26 (Int.toNat x36)) fun n42 c43 =>
      brn (((n42 : Nat) : Int) != ((n31 : Nat) : Int)) (
        some (.inl (.int .i64 5))) (
        bnd' (m68 N (.lst false n42 c43) 0 20) fun p91 =>
        getB p91 fun b94 =>
        brn b94 (
          some (.inl (.int .i64 1))) (
          m23_L0 N n25 c26 n31 n (IntKind.i64.wrap (x36 + 1))))) (
      some (.inr ()))
def m23 (N : Nat) (p23 : PV) : Option (PV) :=
  getL p23 fun n25 c26 =>
  brn (((n25 : Nat) : Int) == 0) (
    some (.int .i64 4)) (
    grd (0 < ((n25 : Nat) : Int)) <|
    grd (0 < List.length c26) <|
    getL (gp c26 0) fun n31 c32 =>
    brn (((n31 : Nat) : Int) == 0) (
      some (.int .i64 4)) (
      brn (decide (((n25 : Nat) : Int) > 3)) (
        some (.int .i64 3)) (
        brn (decide (((n31 : Nat) : Int) > 4)) (
          some (.int .i64 3)) (
          bnd' (m23_L0 N n25 c26 n31 N 0) fun o =>
          match o with
          | .inl p96 =>
            some p96
          | .inr () =>
            some (.int .i64 0)))))
theorem c23 (N : Nat) (p23 : PV) (r : PV)  (h : m23 N p23 = some r) : FnP Try.prog 23 [p23] r := by
  unfold m23 at h
  refine Fn_of (sz := 45) tab_ok [0, 2, 4, 5, 16, 27, 28, 29, 30, 33, 41] [.tmp 2] Try.func23 rfl rfl rfl (by simp) ?_
  simp only [initSt, initEnv, List.map_cons, List.map_nil, List.getD_cons_zero, List.getD_cons_succ, List.getD_nil]
  have hh := getL_some h; clear h; obtain ⟨n25, c26, h24, h⟩ := hh
  have hh := brn_some h; clear h; rcases hh with ⟨h27, h⟩ | ⟨h27, h⟩
  · refine W_sound tab_ok mixed 27 _ _ _ ?_
    simp -implicitDefEqProofs only [go_sem, qa, qb, qc, qd, qe, qf, qg, qh, qi, qj, qk, ↓reduceIte, h24, h27]
    repeat with_reducible refine ⟨by first | kernel_rfl | decide, ?_⟩
    obtain rfl := Option.some.inj h
    exact finC [(2, .v (.int .i64 4))] [(2, .v (.int .i64 4))] (by simp [leE, lk_cons]) (.cons _ _ _ _ _ (.v _ _ (.refl _)) .nil) (by rfl) (by simp [leE, lk_cons]) (by decide) (by decide) rfl (by simp only [go_sem, qa, qb, qc, qd, qe, qf, qg, qh, qi, qj, qk, ↓reduceIte, resQ_tmp, resQ_cell, resQ_nil, retD_one, retD_two, retD_three, retD_none]; try simp [R.val, retD_one, retD_two, retD_three, retD_none])
  · have hh := grd_some h; clear h; obtain ⟨g28, h⟩ := hh
    have hh := grd_some h; clear h; obtain ⟨g29, h⟩ := hh
    have hh := getL_some h; clear h; obtain ⟨n31, c32, h30, h⟩ := hh
    have hh := brn_some h; clear h; rcases hh with ⟨h33, h⟩ | ⟨h33, h⟩
    · refine W_sound tab_ok mixed 27 _ _ _ ?_
      simp -implicitDefEqProofs only [go_sem, qa, qb, qc, qd, qe, qf, qg, qh, qi, qj, qk, ↓reduceIte, h24, h27, g28, g29, h30, h33]
      repeat with_reducible refine ⟨by first | kernel_rfl | decide, ?_⟩
      obtain rfl := Option.some.inj h
      exact finC [(2, .v (.int .i64 4))] [(2, .v (.int .i64 4))] (by simp [leE, lk_cons]) (.cons _ _ _ _ _ (.v _ _ (.refl _)) .nil) (by rfl) (by simp [leE, lk_cons]) (by decide) (by decide) rfl (by simp only [go_sem, qa, qb, qc, qd, qe, qf, qg, qh, qi, qj, qk, ↓reduceIte, resQ_tmp, resQ_cell, resQ_nil, retD_one, retD_two, retD_three, retD_none]; try simp [R.val, retD_one, retD_two, retD_three, retD_none])
    · have hh := brn_some h; clear h; rcases hh with ⟨h34, h⟩ | ⟨h34, h⟩
      · refine W_sound tab_ok mixed 42 _ _ _ ?_
        simp -implicitDefEqProofs only [go_sem, qa, qb, qc, qd, qe, qf, qg, qh, qi, qj, qk, ↓reduceIte, h24, h27, g28, g29, h30, h33, h34]
        repeat with_reducible refine ⟨by first | kernel_rfl | decide, ?_⟩
        obtain rfl := Option.some.inj h
        exact finC [(2, .v (.int .i64 3))] [(2, .v (.int .i64 3))] (by simp [leE, lk_cons]) (.cons _ _ _ _ _ (.v _ _ (.refl _)) .nil) (by rfl) (by simp [leE, lk_cons]) (by decide) (by decide) rfl (by simp only [go_sem, qa, qb, qc, qd, qe, qf, qg, qh, qi, qj, qk, ↓reduceIte, resQ_tmp, resQ_cell, resQ_nil, retD_one, retD_two, retD_three, retD_none]; try simp [R.val, retD_one, retD_two, retD_three, retD_none])
      · have hh := brn_some h; clear h; rcases hh with ⟨h35, h⟩ | ⟨h35, h⟩
        · refine W_sound tab_ok mixed 42 _ _ _ ?_
          simp -implicitDefEqProofs only [go_sem, qa, qb, qc, qd, qe, qf, qg, qh, qi, qj, qk, ↓reduceIte, h24, h27, g28, g29, h30, h33, h34, h35]
          repeat with_reducible refine ⟨by first | kernel_rfl | decide, ?_⟩
          obtain rfl := Option.some.inj h
          exact finC [(2, .v (.int .i64 3))] [(2, .v (.int .i64 3))] (by simp [leE, lk_cons]) (.cons _ _ _ _ _ (.v _ _ (.refl _)) .nil) (by rfl) (by simp [leE, lk_cons]) (by decide) (by decide) rfl (by simp only [go_sem, qa, qb, qc, qd, qe, qf, qg, qh, qi, qj, qk, ↓reduceIte, resQ_tmp, resQ_cell, resQ_nil, retD_one, retD_two, retD_three, retD_none]; try simp [R.val, retD_one, retD_two, retD_three, retD_none])
        · refine W_sound tab_ok mixed 45 _ _ _ ?_
          simp -implicitDefEqProofs only [go_sem, qa, qb, qc, qd, qe, qf, qg, qh, qi, qj, qk, ↓reduceIte, h24, h27, g28, g29, h30, h33, h34, h35]
          repeat with_reducible refine ⟨by first | kernel_rfl | decide, ?_⟩
          have hh := bnd'_some h; clear h; obtain ⟨o97, h98, h99⟩ := hh
          refine Wp_cut (fun s => (.inr ()) = o97 ∧ s = ⟨[], [(0, .dead), (2, .dead), (4, .dead), (5, .dead), (16, .dead), (27, .dead), (28, .dead), (29, .dead), (30, .dead), (33, .dead), (41, .dead)], [], 0, []⟩) ?_ ?_
          · refine Wp_block ?_
            refine Wp_loopG (fun n s => ∃ x36, m23_L0 N n25 c26 n31 n x36 = some o97 ∧ s = ⟨[], [(0, .v (.lst false n25 c26)), (2, .dead), (4, .dead), (5, .dead), (16, .dead), (27, .v (.lst false n25 c26)), (28, .v (.int .i64 ((n25 : Nat) : Int))), (29, .v (.int .i64 x36)), (30, .dead), (33, .dead), (41, .dead)], [], 0, []⟩) N _ ((Wk_le (.r (.k (.r (.k (.k (.r (.r (.r (.r (.r (.r .nil))))))))))) (OLe.refl _)).trans (cmpS_ok (st' := ⟨[], [(0, .v (.lst false n25 c26)), (2, .dead), (4, .dead), (5, .dead), (16, .dead), (27, .v (.lst false n25 c26)), (28, .v (.int .i64 ((n25 : Nat) : Int))), (29, .v (.int .i64 0)), (30, .dead), (33, .dead), (41, .dead)], [], 0, []⟩) (by kernel_rfl))) ⟨_, h98, rfl⟩ ?_
            clear h98
            rintro n _ ⟨x36, h98, rfl⟩
            cases n with
            | zero => cases h98
            | succ n =>
              rw [m23_L0] at h98
              have hh := brn_some h98; clear h98; rcases hh with ⟨h37, h98⟩ | ⟨h37, h98⟩
              · have hh := grd_some h98; clear h98; obtain ⟨⟨g38, g39⟩, h98⟩ := hh
                have hh := grd_some h98; clear h98; obtain ⟨g40, h98⟩ := hh
                have hh := getL_some h98; clear h98; obtain ⟨n42, c43, h41, h98⟩ := hh
                have hh := brn_some h98; clear h98; rcases hh with ⟨h44, h98⟩ | ⟨h44, h98⟩
                · refine W_sound tab_ok mixed 34 _ _ _ ?_
                  simp -implicitDefEqProofs only [go_sem, qa, qb, qc, qd, qe, qf, qg, qh, qi, qj, qk, ↓reduceIte, h24, h27, g28, g29, h30, h33, h34, h35, h37, g38, g39, g40, h41, h44]
                  repeat with_reducible refine ⟨by first | kernel_rfl | decide, ?_⟩
                  obtain rfl := Option.some.inj h98
                  (try dsimp only at h99)
                  obtain rfl := Option.some.inj h99
                  exact finC [(2, .v (.int .i64 5))] [(2, .v (.int .i64 5))] (by simp [leE, lk_cons]) (.cons _ _ _ _ _ (.v _ _ (.refl _)) .nil) (by rfl) (by simp [leE, lk_cons]) (by decide) (by decide) rfl (by simp only [go_sem, qa, qb, qc, qd, qe, qf, qg, qh, qi, qj, qk, ↓reduceIte, resQ_tmp, resQ_cell, resQ_nil, retD_one, retD_two, retD_three, retD_none]; try simp [R.val, retD_one, retD_two, retD_three, retD_none])
                · have hh := bnd'_some h98; clear h98; obtain ⟨p91, h92, h98⟩ := hh
                  refine W_sound tab_ok mixed 31 _ _ _ ?_
                  simp -implicitDefEqProofs only [go_sem, qa, qb, qc, qd, qe, qf, qg, qh, qi, qj, qk, ↓reduceIte, h24, h27, g28, g29, h30, h33, h34, h35, h37, g38, g39, g40, h41, h44]
                  repeat with_reducible refine ⟨by first | kernel_rfl | decide, ?_⟩
                  refine Wp_callP (c68 N _ _ _ _ h92) (by kernel_rfl) rfl rfl rfl rfl (by decide) ?_
                  have hh := getB_some h98; clear h98; obtain ⟨b94, h93, h98⟩ := hh
                  have hh := brn_some h98; clear h98; rcases hh with ⟨h95, h98⟩ | ⟨h95, h98⟩
                  · refine W_sound tab_ok mixed 9 _ _ _ ?_
                    simp -implicitDefEqProofs only [go_sem, qa, qb, qc, qd, qe, qf, qg, qh, qi, qj, qk, ↓reduceIte, h24, h27, g28, g29, h30, h33, h34, h35, h37, g38, g39, g40, h41, h44, h93, h95]
                    repeat with_reducible refine ⟨by first | kernel_rfl | decide, ?_⟩
                    obtain rfl := Option.some.inj h98
                    (try dsimp only at h99)
                    obtain rfl := Option.some.inj h99
                    exact finC [(2, .v (.int .i64 1))] [(2, .v (.int .i64 1))] (by simp [leE, lk_cons]) (.cons _ _ _ _ _ (.v _ _ (.refl _)) .nil) (by rfl) (by simp [leE, lk_cons]) (by decide) (by decide) rfl (by simp only [go_sem, qa, qb, qc, qd, qe, qf, qg, qh, qi, qj, qk, ↓reduceIte, resQ_tmp, resQ_cell, resQ_nil, retD_one, retD_two, retD_three, retD_none]; try simp [R.val, retD_one, retD_two, retD_three, retD_none])
                  · refine W_sound tab_ok mixed 10 _ _ _ ?_
                    simp -implicitDefEqProofs only [go_sem, qa, qb, qc, qd, qe, qf, qg, qh, qi, qj, qk, ↓reduceIte, h24, h27, g28, g29, h30, h33, h34, h35, h37, g38, g39, g40, h41, h44, h93, h95]
                    repeat with_reducible refine ⟨by first | kernel_rfl | decide, ?_⟩
                    exact cutQ _ ((Wk_le (.r (.r (.k (.r (.r (.r (.r (.r (.k (.k (.k .nil))))))))))) (OLe.refl _)).trans (cmpS_ok (st' := ⟨[], [(0, .v (.lst false n25 c26)), (2, .dead), (4, .dead), (5, .dead), (16, .dead), (27, .v (.lst false n25 c26)), (28, .v (.int .i64 ((n25 : Nat) : Int))), (29, .v (.int .i64 (IntKind.i64.wrap (x36 + 1)))), (30, .dead), (33, .dead), (41, .dead)], [], 0, []⟩) (by kernel_rfl))) ⟨n, Nat.lt_succ_self n, _, h98, rfl⟩
              · refine W_sound tab_ok mixed 7 _ _ _ ?_
                simp -implicitDefEqProofs only [go_sem, qa, qb, qc, qd, qe, qf, qg, qh, qi, qj, qk, ↓reduceIte, h24, h27, g28, g29, h30, h33, h34, h35, h37]
                repeat with_reducible refine ⟨by first | kernel_rfl | decide, ?_⟩
                obtain rfl := Option.some.inj h98
                exact cutQ _ ((Wk_le (.k (.r (.r (.r (.r (.k (.k (.k (.k (.r (.r .nil))))))))))) (OLe.refl _)).trans (cmpS_ok (st' := ⟨[], [(0, .dead), (2, .dead), (4, .dead), (5, .dead), (16, .dead), (27, .dead), (28, .dead), (29, .dead), (30, .dead), (33, .dead), (41, .dead)], [], 0, []⟩) (by kernel_rfl))) ⟨rfl, rfl⟩
          · rintro _ ⟨rfl, rfl⟩
            (try dsimp only at h99)
            refine W_sound tab_ok mixed 6 _ _ _ ?_
            simp -implicitDefEqProofs only [go_sem, qa, qb, qc, qd, qe, qf, qg, qh, qi, qj, qk, ↓reduceIte, h24, h27, g28, g29, h30, h33, h34, h35]
            repeat with_reducible refine ⟨by first | kernel_rfl | decide, ?_⟩
            obtain rfl := Option.some.inj h99
            exact finC [(2, .v (.int .i64 0))] [(2, .v (.int .i64 0))] (by simp [leE, lk_cons]) (.cons _ _ _ _ _ (.v _ _ (.refl _)) .nil) (by rfl) (by simp [leE, lk_cons]) (by decide) (by decide) rfl (by simp only [go_sem, qa, qb, qc, qd, qe, qf, qg, qh, qi, qj, qk, ↓reduceIte, resQ_tmp, resQ_cell, resQ_nil, retD_one, retD_two, retD_three, retD_none]; try simp [R.val, retD_one, retD_two, retD_three, retD_none])
def m77_L0 (N : Nat) (x105 : Int) : Nat → Int → List PV → Option (List PV)
  | 0, _, _ => none
  | n + 1, x114, c115 =>
    brn (decide (x114 < (((Int.toNat x105) : Nat) : Int))) (
      grd (0 ≤ x114 ∧ x114 < (((Int.toNat x105) : Nat) : Int)) <|
      grd (((Int.toNat x114) + 1) ≤ List.length c115) <|
      m77_L0 N x105 n (IntKind.i64.wrap (x114 + 1)) (List.set c115 (Int.toNat x114) (.int .i64 x114))) (
      some c115)
def m77 (N : Nat) (x105 : Int) : Option (PV) :=
  grd (0 ≤ x105 ∧ x105 ≤ x105 ∧ x105 ≤ 1099511627776) <|
  bnd' (m77_L0 N x105 N 0 (List.replicate (Int.toNat x105) (.int .i64 0))) fun c120 =>
  grd (List.length c120 = (Int.toNat x105)) <|
  some (.lst false (Int.toNat x105) c120)
theorem c77 (N : Nat) (x105 : Int) (r : PV)  (h : m77 N x105 = some r) : FnP Try.prog 77 [(.int .i64 x105)] r := by
  unfold m77 at h
  refine Fn_of (sz := 18) tab_ok [0, 2, 3, 4, 8, 9, 10] [.tmp 2] Try.func77 rfl rfl rfl (by simp) ?_
  simp only [initSt, initEnv, List.map_cons, List.map_nil, List.getD_cons_zero, List.getD_cons_succ, List.getD_nil]
  have hh := grd_some h; clear h; obtain ⟨⟨g106, g107, g108⟩, h⟩ := hh
  refine W_sound tab_ok mixed 17 _ _ _ ?_
  simp -implicitDefEqProofs only [go_sem, qa, qb, qc, qd, qe, qf, qg, qh, qi, qj, qk, ↓reduceIte, g106, g107, g108]
  repeat with_reducible refine ⟨by first | kernel_rfl | decide, ?_⟩
  have hh := bnd'_some h; clear h; obtain ⟨o122, h123, h124⟩ := hh
  refine Wp_cut (fun s => ∃ c120, c120 = o122 ∧ s = ⟨[], [(0, .dead), (2, .dead), (3, .sl false 0 0 (Int.toNat x105) 1), (4, .dead), (8, .dead), (9, .dead), (10, .dead)], [(0, .p c120)], 1, []⟩) ?_ ?_
  · refine Wp_block ?_
    refine Wp_loopG (fun n s => ∃ x114, ∃ c115, m77_L0 N x105 n x114 c115 = some o122 ∧ s = ⟨[], [(0, .dead), (2, .dead), (3, .sl false 0 0 (Int.toNat x105) 1), (4, .dead), (8, .v (.int .i64 (((Int.toNat x105) : Nat) : Int))), (9, .v (.int .i64 x114)), (10, .dead)], [(0, .p c115)], 1, []⟩) N _ ((Wk_le (.k (.k (.r (.r (.r (.r (.r .nil))))))) (OLe.refl _)).trans (cmpS_ok rfl)) ⟨_, _, h123, rfl⟩ ?_
    clear h123
    rintro n _ ⟨x114, c115, h123, rfl⟩
    cases n with
    | zero => cases h123
    | succ n =>
      rw [m77_L0] at h123
      have hh := brn_some h123; clear h123; rcases hh with ⟨h116, h123⟩ | ⟨h116, h123⟩
      · have hh := grd_some h123; clear h123; obtain ⟨⟨g117, g118⟩, h123⟩ := hh
        have hh := grd_some h123; clear h123; obtain ⟨g119, h123⟩ := hh
        refine W_sound tab_ok mixed 26 _ _ _ ?_
        simp -implicitDefEqProofs only [go_sem, qa, qb, qc, qd, qe, qf, qg, qh, qi, qj, qk, ↓reduceIte, g106, g107, g108, h116, g117, g118, g119]
        repeat with_reducible refine ⟨by first | kernel_rfl | decide, ?_⟩
        exact cutQ _ ((Wk_le (.r (.r (.r (.k (.r (.r (.k .nil))))))) (OLe.refl _)).trans (cmpS_ok rfl)) ⟨n, Nat.lt_succ_self n, _, _, h123, rfl⟩
      · refine W_sound tab_ok mixed 7 _ _ _ ?_
        simp -implicitDefEqProofs only [go_sem, qa, qb, qc, qd, qe, qf, qg, qh, qi, qj, qk, ↓reduceIte, g106, g107, g108, h116]
        repeat with_reducible refine ⟨by first | kernel_rfl | decide, ?_⟩
        obtain rfl := Option.some.inj h123
        exact cutQ _ ((Wk_le (.r (.r (.r (.r (.k (.k (.k .nil))))))) (OLe.refl _)).trans (cmpS_ok rfl)) ⟨_, rfl, rfl⟩
  · rintro _ ⟨c120, rfl, rfl⟩
    refine W_sound tab_ok mixed 7 _ _ _ ?_
    simp -implicitDefEqProofs only [go_sem, qa, qb, qc, qd, qe, qf, qg, qh, qi, qj, qk, ↓reduceIte, g106, g107, g108]
    repeat with_reducible refine ⟨by first | kernel_rfl | decide, ?_⟩
    have hh := grd_some h124; clear h124; obtain ⟨g121, h124⟩ := hh
    refine FinQ_wk (Wk_freeze 0 c120 (by rfl) (by decide) (by decide)) ?_
    simp -implicitDefEqProofs only [go_sem, qa, qb, qc, qd, qe, qf, qg, qh, qi, qj, qk, ↓reduceIte, g106, g107, g108, g121]
    obtain rfl := Option.some.inj h124
    exact finC [(2, .v (.lst false (Int.toNat x105) c120))] [(2, .v (.lst false (Int.toNat x105) c120))] (by simp [leE, lk_cons]) (.cons _ _ _ _ _ (.v _ _ (.refl _)) .nil) (by rfl) (by simp [leE, lk_cons]) (by decide) (by decide) rfl (by simp only [go_sem, qa, qb, qc, qd, qe, qf, qg, qh, qi, qj, qk, ↓reduceIte, resQ_tmp, resQ_cell, resQ_nil, retD_one, retD_two, retD_three, retD_none]; try simp [R.val, retD_one, retD_two, retD_three, retD_none])
def m76_L1 (N : Nat) (n144 : Nat) (c145 : List PV) (n147 : Nat) (c148 : List PV) (n150 : Nat) (c151 : List PV) (x152 : Int) (n163 : Nat) (c164 : List PV) (n174 : Nat) (c175 : List PV) : Nat → Int → Option ((PV ⊕ Unit))
  | 0, _ => none
  | n + 1, x176 =>
    brn (decide (x176 < ((n150 : Nat) : Int))) (
      grd (0 ≤ (IntKind.i64.wrap (x176 - 1)) ∧ (IntKind.i64.wrap (x176 - 1)) < ((n150 : Nat) : Int)) <|
      grd (0 < List.length (List.drop (Int.toNat (IntKind.i64.wrap (x176 - 1))) c151)) <|
      getI .i64 (gp c151 (Int.toNat (IntKind.i64.wrap (x176 - 1)))) fun x182 =>
      grd (0 ≤ x176 ∧ x176 < ((n150 : Nat) : Int)) <|
      grd (0 < List.length (List.drop (Int.toNat x176) c151)) <|
      getI .i64 (gp c151 (Int.toNat x176)) fun x187 =>
      grd (0 ≤ x182 ∧ x182 < ((n163 : Nat) : Int)) <|
      grd (0 < List.length (List.drop (Int.toNat x182) c164)) <|
      getI .i64 (gp c164 (Int.toNat x182)) fun x192 =>
      grd (0 ≤ x187 ∧ x187 < ((n174 : Nat) : Int)) <|
      grd (0 < List.length (List.drop (Int.toNat x187) c175)) <|
      getI .i64 (gp c175 (Int.toNat x187)) fun x197 =>
      grd (x187 < ((n163 : Nat) : Int)) <|
      grd (0 < List.length (List.drop (Int.toNat x187) c164)) <|
      getI .i64 (gp c164 (Int.toNat x187)) fun x201 =>
      grd (x182 < ((n174 : Nat) : Int)) <|
      grd (0 < List.length (List.drop (Int.toNat x182) c175)) <|
      getI .i64 (gp c175 (Int.toNat x182)) fun x205 =>
      brn (decide ((IntKind.i64.wrap (x192 + x197)) > (IntKind.i64.wrap (x201 + x205)))) (
        some (.inl (.bool false))) (
        m76_L1 N n144 c145 n147 c148 n150 c151 x152 n163 c164 n174 c175 n (IntKind.i64.wrap (x176 + 1)))) (
      some (.inr ()))
def m76_L0 (N : Nat) (n144 : Nat) (c145 : List PV) (n147 : Nat) (c148 : List PV) (n150 : Nat) (c151 : List PV) : Nat → Int → Option ((PV ⊕ Unit))
  | 0, _ => none
  | n + 1, x152 =>
    brn (decide (x152 < ((n147 : Nat) : Int))) (
      grd (0 ≤ (IntKind.i64.wrap (x152 - 1)) ∧ (IntKind.i64.wrap (x152 - 1)) < ((n147 : Nat) : Int)) <|
      grd (0 < List.length (List.drop (Int.toNat (IntKind.i64.wrap (x152 - 1))) c148)) <|
      getI .i64 (gp c148 (Int.toNat (IntKind.i64.wrap (x152 - 1)))) fun x158 =>
      grd (0 ≤ x158 ∧ x158 < ((n144 : Nat) : Int)) <|
      grd (0 < List.length (List.drop (Int.toNat x158) c145)) <|
      getL (gp c145 (Int.toNat x158)) fun n163 c164 =>
      grd (0 ≤ x152 ∧ x152 < ((n147 : Nat) : Int)) <|
      grd (0 < List.length (List.drop (Int.toNat x152) c148)) <|
      getI .i64 (gp c148 (Int.toNat x152)) fun x169 =>
      grd (0 ≤ x169 ∧ x169 < ((n144 : Nat) : Int)) <|
      grd (0 < List.length (List.drop (Int.toNat x169) c145)) <|
      getL (gp c145 (Int.toNat x169)) fun n174 c175 =>
      bnd' (m76_L1 N n144 c145 n147 c148 n150 c151 x152 n163 c164 n174 c175 N 1) fun o =>
      match o with
      | .inl p207 =>
        some (.inl p207)
      | .inr () =>
        m76_L0 N n144 c145 n147 c148 n150 c151 n (IntKind.i64.wrap (x152 + 1))) (
      some (.inr ()))
def m76 (N : Nat) (p140 : PV) (p141 : PV) (p142 : PV) : Option (PV) :=
  getL p140 fun n144 c145 =>
  getL p141 fun n147 c148 =>
  getL p142 fun n150 c151 =>
  bnd' (m76_L0 N n144 c145 n147 c148 n150 c151 N 1) fun o =>
  match o with
  | .inl p208 =>
    some p208
  | .inr () =>
    some (.bool true)
theorem c76 (N : Nat) (p140 : PV) (p141 : PV) (p142 : PV) (r : PV)  (h : m76 N p140 p141 p142 = some r) : FnP Try.prog 76 [p140, p141, p142] r := by
  unfold m76 at h
  refine Fn_of (sz := 68) tab_ok [0, 1, 2, 6, 7, 8, 9, 10, 11, 12, 16, 37, 67] [.tmp 6] Try.func76 rfl rfl rfl (by simp) ?_
  simp only [initSt, initEnv, List.map_cons, List.map_nil, List.getD_cons_zero, List.getD_cons_succ, List.getD_nil]
  have hh := getL_some h; clear h; obtain ⟨n144, c145, h143, h⟩ := hh
  have hh := getL_some h; clear h; obtain ⟨n147, c148, h146, h⟩ := hh
  have hh := getL_some h; clear h; obtain ⟨n150, c151, h149, h⟩ := hh
  refine W_sound tab_ok mixed 9 _ _ _ ?_
  simp -implicitDefEqProofs only [go_sem, qa, qb, qc, qd, qe, qf, qg, qh, qi, qj, qk, ↓reduceIte, h143, h146, h149]
  repeat with_reducible refine ⟨by first | kernel_rfl | decide, ?_⟩
  have hh := bnd'_some h; clear h; obtain ⟨o209, h210, h211⟩ := hh
  refine Wp_cut (fun s => (.inr ()) = o209 ∧ s = ⟨[], [(0, .dead), (1, .dead), (2, .dead), (6, .dead), (7, .dead), (8, .dead), (9, .dead), (10, .dead), (11, .dead), (12, .dead), (16, .dead), (37, .dead), (67, .dead)], [], 0, []⟩) ?_ ?_
  · refine Wp_block ?_
    refine Wp_loopG (fun n s => ∃ x152, m76_L0 N n144 c145 n147 c148 n150 c151 n x152 = some o209 ∧ s = ⟨[], [(0, .v (.lst false n144 c145)), (1, .v (.lst false n147 c148)), (2, .v (.lst false n150 c151)), (6, .dead), (7, .v (.int .i64 x152)), (8, .dead), (9, .dead), (10, .dead), (11, .dead), (12, .dead), (16, .dead), (37, .dead), (67, .dead)], [], 0, []⟩) N _ ((Wk_le (.r (.r (.r (.k (.r (.r (.r (.r (.r (.r (.r (.r (.r .nil))))))))))))) (OLe.refl _)).trans (cmpS_ok (st' := ⟨[], [(0, .v (.lst false n144 c145)), (1, .v (.lst false n147 c148)), (2, .v (.lst false n150 c151)), (6, .dead), (7, .v (.int .i64 1)), (8, .dead), (9, .dead), (10, .dead), (11, .dead), (12, .dead), (16, .dead), (37, .dead), (67, .dead)], [], 0, []⟩) (by kernel_rfl))) ⟨_, h210, rfl⟩ ?_
    clear h210
    rintro n _ ⟨x152, h210, rfl⟩
    cases n with
    | zero => cases h210
    | succ n =>
      rw [m76_L0] at h210
      have hh := brn_some h210; clear h210; rcases hh with ⟨h153, h210⟩ | ⟨h153, h210⟩
      · have hh := grd_some h210; clear h210; obtain ⟨⟨g154, g155⟩, h210⟩ := hh
        have hh := grd_some h210; clear h210; obtain ⟨g156, h210⟩ := hh
        have hh := getI_some h210; clear h210; obtain ⟨x158, h157, h210⟩ := hh
        have hh := grd_some h210; clear h210; obtain ⟨⟨g159, g160⟩, h210⟩ := hh
        have hh := grd_some h210; clear h210; obtain ⟨g161, h210⟩ := hh
        have hh := getL_some h210; clear h210; obtain ⟨n163, c164, h162, h210⟩ := hh
        have hh := grd_some h210; clear h210; obtain ⟨⟨g165, g166⟩, h210⟩ := hh
        have hh := grd_some h210; clear h210; obtain ⟨g167, h210⟩ := hh
        have hh := getI_some h210; clear h210; obtain ⟨x169, h168, h210⟩ := hh
        have hh := grd_some h210; clear h210; obtain ⟨⟨g170, g171⟩, h210⟩ := hh
        have hh := grd_some h210; clear h210; obtain ⟨g172, h210⟩ := hh
        have hh := getL_some h210; clear h210; obtain ⟨n174, c175, h173, h210⟩ := hh
        refine W_sound tab_ok mixed 36 _ _ _ ?_
        simp -implicitDefEqProofs only [go_sem, qa, qb, qc, qd, qe, qf, qg, qh, qi, qj, qk, ↓reduceIte, h143, h146, h149, h153, g154, g155, g156, h157, g159, g160, g161, h162, g165, g166, g167, h168, g170, g171, g172, h173]
        repeat with_reducible refine ⟨by first | kernel_rfl | decide, ?_⟩
        have hh := bnd'_some h210; clear h210; obtain ⟨o212, h213, h214⟩ := hh
        refine Wp_cut (fun s => (.inr ()) = o212 ∧ s = ⟨[], [(0, .v (.lst false n144 c145)), (1, .v (.lst false n147 c148)), (2, .v (.lst false n150 c151)), (6, .dead), (7, .v (.int .i64 x152)), (8, .dead), (9, .dead), (10, .dead), (11, .dead), (12, .dead), (16, .dead), (37, .dead), (67, .dead)], [], 0, []⟩) ?_ ?_
        · refine Wp_block ?_
          refine Wp_loopG (fun n s => ∃ x176, m76_L1 N n144 c145 n147 c148 n150 c151 x152 n163 c164 n174 c175 n x176 = some o212 ∧ s = ⟨[], [(0, .v (.lst false n144 c145)), (1, .v (.lst false n147 c148)), (2, .v (.lst false n150 c151)), (6, .dead), (7, .v (.int .i64 x152)), (8, .v (.lst false n163 c164)), (9, .v (.lst false n174 c175)), (10, .v (.int .i64 x176)), (11, .dead), (12, .dead), (16, .dead), (37, .dead), (67, .dead)], [], 0, []⟩) N _ ((Wk_le (.r (.r (.r (.r (.r (.r (.r (.r (.r (.r (.k (.r (.r .nil))))))))))))) (OLe.refl _)).trans (cmpS_ok (st' := ⟨[], [(0, .v (.lst false n144 c145)), (1, .v (.lst false n147 c148)), (2, .v (.lst false n150 c151)), (6, .dead), (7, .v (.int .i64 x152)), (8, .v (.lst false n163 c164)), (9, .v (.lst false n174 c175)), (10, .v (.int .i64 1)), (11, .dead), (12, .dead), (16, .dead), (37, .dead), (67, .dead)], [], 0, []⟩) (by kernel_rfl))) ⟨_, h213, rfl⟩ ?_
          clear h213
          rintro n _ ⟨x176, h213, rfl⟩
          cases n with
          | zero => cases h213
          | succ n =>
            rw [m76_L1] at h213
            have hh := brn_some h213; clear h213; rcases hh with ⟨h177, h213⟩ | ⟨h177, h213⟩
            · have hh := grd_some h213; clear h213; obtain ⟨⟨g178, g179⟩, h213⟩ := hh
              have hh := grd_some h213; clear h213; obtain ⟨g180, h213⟩ := hh
              have hh := getI_some h213; clear h213; obtain ⟨x182, h181, h213⟩ := hh
              have hh := grd_some h213; clear h213; obtain ⟨⟨g183, g184⟩, h213⟩ := hh
              have hh := grd_some h213; clear h213; obtain ⟨g185, h213⟩ := hh
              have hh := getI_some h213; clear h213; obtain ⟨x187, h186, h213⟩ := hh
              have hh := grd_some h213; clear h213; obtain ⟨⟨g188, g189⟩, h213⟩ := hh
              have hh := grd_some h213; clear h213; obtain ⟨g190, h213⟩ := hh
              have hh := getI_some h213; clear h213; obtain ⟨x192, h191, h213⟩ := hh
              have hh := grd_some h213; clear h213; obtain ⟨⟨g193, g194⟩, h213⟩ := hh
              have hh := grd_some h213; clear h213; obtain ⟨g195, h213⟩ := hh
              have hh := getI_some h213; clear h213; obtain ⟨x197, h196, h213⟩ := hh
              have hh := grd_some h213; clear h213; obtain ⟨g198, h213⟩ := hh
              have hh := grd_some h213; clear h213; obtain ⟨g199, h213⟩ := hh
              have hh := getI_some h213; clear h213; obtain ⟨x201, h200, h213⟩ := hh
              have hh := grd_some h213; clear h213; obtain ⟨g202, h213⟩ := hh
              have hh := grd_some h213; clear h213; obtain ⟨g203, h213⟩ := hh
              have hh := getI_some h213; clear h213; obtain ⟨x205, h204, h213⟩ := hh
              have hh := brn_some h213; clear h213; rcases hh with ⟨h206, h213⟩ | ⟨h206, h213⟩
              · refine W_sound tab_ok mixed 55 _ _ _ ?_
                simp -implicitDefEqProofs only [go_sem, qa, qb, qc, qd, qe, qf, qg, qh, qi, qj, qk, ↓reduceIte, h143, h146, h149, h153, g154, g155, g156, h157, g159, g160, g161, h162, g165, g166, g167, h168, g170, g171, g172, h173, h177, g178, g179, g180, h181, g183, g184, g185, h186, g188, g189, g190, h191, g193, g194, g195, h196, g198, g199, h200, g202, g203, h204, h206]
                repeat with_reducible refine ⟨by first | kernel_rfl | decide, ?_⟩
                obtain rfl := Option.some.inj h213
                (try dsimp only at h214)
                obtain rfl := Option.some.inj h214
                (try dsimp only at h211)
                obtain rfl := Option.some.inj h211
                exact finC [(6, .v (.bool false))] [(6, .v (.bool false))] (by simp [leE, lk_cons]) (.cons _ _ _ _ _ (.v _ _ (.refl _)) .nil) (by rfl) (by simp [leE, lk_cons]) (by decide) (by decide) rfl (by simp only [go_sem, qa, qb, qc, qd, qe, qf, qg, qh, qi, qj, qk, ↓reduceIte, resQ_tmp, resQ_cell, resQ_nil, retD_one, retD_two, retD_three, retD_none]; try simp [R.val, retD_one, retD_two, retD_three, retD_none])
              · refine W_sound tab_ok mixed 56 _ _ _ ?_
                simp -implicitDefEqProofs only [go_sem, qa, qb, qc, qd, qe, qf, qg, qh, qi, qj, qk, ↓reduceIte, h143, h146, h149, h153, g154, g155, g156, h157, g159, g160, g161, h162, g165, g166, g167, h168, g170, g171, g172, h173, h177, g178, g179, g180, h181, g183, g184, g185, h186, g188, g189, g190, h191, g193, g194, g195, h196, g198, g199, h200, g202, g203, h204, h206]
                repeat with_reducible refine ⟨by first | kernel_rfl | decide, ?_⟩
                exact cutQ _ ((Wk_le (.r (.r (.r (.r (.r (.r (.r (.r (.k (.k (.r (.k (.k .nil))))))))))))) (OLe.refl _)).trans (cmpS_ok (st' := ⟨[], [(0, .v (.lst false n144 c145)), (1, .v (.lst false n147 c148)), (2, .v (.lst false n150 c151)), (6, .dead), (7, .v (.int .i64 x152)), (8, .v (.lst false n163 c164)), (9, .v (.lst false n174 c175)), (10, .v (.int .i64 (IntKind.i64.wrap (x176 + 1)))), (11, .dead), (12, .dead), (16, .dead), (37, .dead), (67, .dead)], [], 0, []⟩) (by kernel_rfl))) ⟨n, Nat.lt_succ_self n, _, h213, rfl⟩
            · refine W_sound tab_ok mixed 10 _ _ _ ?_
              simp -implicitDefEqProofs only [go_sem, qa, qb, qc, qd, qe, qf, qg, qh, qi, qj, qk, ↓reduceIte, h143, h146, h149, h153, g154, g155, g156, h157, g159, g160, g161, h162, g165, g166, g167, h168, g170, g171, g172, h173, h177]
              repeat with_reducible refine ⟨by first | kernel_rfl | decide, ?_⟩
              obtain rfl := Option.some.inj h213
              exact cutQ _ ((Wk_le (.r (.r (.r (.r (.r (.k (.k (.k (.r (.r (.r (.k (.r .nil))))))))))))) (OLe.refl _)).trans (cmpS_ok (st' := ⟨[], [(0, .v (.lst false n144 c145)), (1, .v (.lst false n147 c148)), (2, .v (.lst false n150 c151)), (6, .dead), (7, .v (.int .i64 x152)), (8, .dead), (9, .dead), (10, .dead), (11, .dead), (12, .dead), (16, .dead), (37, .dead), (67, .dead)], [], 0, []⟩) (by kernel_rfl))) ⟨rfl, rfl⟩
        · rintro _ ⟨rfl, rfl⟩
          (try dsimp only at h214)
          refine W_sound tab_ok mixed 6 _ _ _ ?_
          simp -implicitDefEqProofs only [go_sem, qa, qb, qc, qd, qe, qf, qg, qh, qi, qj, qk, ↓reduceIte, h143, h146, h149, h153, g154, g155, g156, h157, g159, g160, g161, h162, g165, g166, g167, h168, g170, g171, g172, h173]
          repeat with_reducible refine ⟨by first | kernel_rfl | decide, ?_⟩
          exact cutQ _ ((Wk_le (.r (.r (.r (.r (.r (.r (.r (.r (.r (.r (.r (.r (.r .nil))))))))))))) (OLe.refl _)).trans (cmpS_ok (st' := ⟨[], [(0, .v (.lst false n144 c145)), (1, .v (.lst false n147 c148)), (2, .v (.lst false n150 c151)), (6, .dead), (7, .v (.int .i64 (IntKind.i64.wrap (x152 + 1)))), (8, .dead), (9, .dead), (10, .dead), (11, .dead), (12, .dead), (16, .dead), (37, .dead), (67, .dead)], [], 0, []⟩) (by kernel_rfl))) ⟨n, Nat.lt_succ_self n, _, h214, rfl⟩
      · refine W_sound tab_ok mixed 10 _ _ _ ?_
        simp -implicitDefEqProofs only [go_sem, qa, qb, qc, qd, qe, qf, qg, qh, qi, qj, qk, ↓reduceIte, h143, h146, h149, h153]
        repeat with_reducible refine ⟨by first | kernel_rfl | decide, ?_⟩
        obtain rfl := Option.some.inj h210
        exact cutQ _ ((Wk_le (.k (.k (.k (.r (.k (.r (.r (.r (.r (.r (.k (.r (.r .nil))))))))))))) (OLe.refl _)).trans (cmpS_ok (st' := ⟨[], [(0, .dead), (1, .dead), (2, .dead), (6, .dead), (7, .dead), (8, .dead), (9, .dead), (10, .dead), (11, .dead), (12, .dead), (16, .dead), (37, .dead), (67, .dead)], [], 0, []⟩) (by kernel_rfl))) ⟨rfl, rfl⟩
  · rintro _ ⟨rfl, rfl⟩
    (try dsimp only at h211)
    refine W_sound tab_ok mixed 6 _ _ _ ?_
    simp -implicitDefEqProofs only [go_sem, qa, qb, qc, qd, qe, qf, qg, qh, qi, qj, qk, ↓reduceIte, h143, h146, h149]
    repeat with_reducible refine ⟨by first | kernel_rfl | decide, ?_⟩
    obtain rfl := Option.some.inj h211
    exact finC [(6, .v (.bool true))] [(6, .v (.bool true))] (by simp [leE, lk_cons]) (.cons _ _ _ _ _ (.v _ _ (.refl _)) .nil) (by rfl) (by simp [leE, lk_cons]) (by decide) (by decide) rfl (by simp only [go_sem, qa, qb, qc, qd, qe, qf, qg, qh, qi, qj, qk, ↓reduceIte, resQ_tmp, resQ_cell, resQ_nil, retD_one, retD_two, retD_three, retD_none]; try simp [R.val, retD_one, retD_two, retD_three, retD_none])
def m31 (N : Nat) (p19 : PV) : Option (PV) :=
  getL p19 fun n21 c22 =>
  bnd' (m23 N (.lst false n21 c22)) fun p100 =>
  getI .i64 p100 fun x103 =>
  brn (x103 != 0) (
    some (.tup [(.bool false), (.int .i64 x103)])) (
    bnd' (m77 N ((n21 : Nat) : Int)) fun p125 =>
    getL p125 fun n128 c129 =>
    grd (0 < ((n21 : Nat) : Int)) <|
    grd (0 < List.length c22) <|
    getL (gp c22 0) fun n133 c134 =>
    bnd' (m77 N ((n133 : Nat) : Int)) fun p135 =>
    getL p135 fun n138 c139 =>
    bnd' (m76 N (.lst false n21 c22) (.lst false n128 c129) (.lst false n138 c139)) fun p215 =>
    getB p215 fun b218 =>
    some (.tup [(.bool b218), (.int .i64 0)]))
def m33_L3 (N : Nat) (n221 : Nat) (c222 : List PV) (x228 : Int) (x230 : Int) (n235 : Nat) (x237 : Int) : Nat → Int → Option ((PV ⊕ Unit))
  | 0, _ => none
  | n + 1, x239 =>
    brn (decide (x239 < ((n235 : Nat) : Int))) (
      bnd' (m76 N (.lst false n221 c222) (.lst false 2 [(.int .i64 x228), (.int .i64 x230)]) (.lst false 2 [(.int .i64 x237), (.int .i64 x239)])) fun p241 =>
      getB p241 fun b244 =>
      brn b244 (
        m33_L3 N n221 c222 x228 x230 n235 x237 n (IntKind.i64.wrap (x239 + 1))) (
        some (.inl (.tup [(.lst false 4 [(.int .i64 x228), (.int .i64 x230), (.int .i64 x237), (.int .i64 x239)]), (.int .i64 0)])))) (
      some (.inr ()))
def m33_L2 (N : Nat) (n221 : Nat) (c222 : List PV) (x228 : Int) (x230 : Int) (n235 : Nat) : Nat → Int → Option ((PV ⊕ Unit))
  | 0, _ => none
  | n + 1, x237 =>
    brn (decide (x237 < ((n235 : Nat) : Int))) (
      bnd' (m33_L3 N n221 c222 x228 x230 n235 x237 N (IntKind.i64.wrap (x237 + 1))) fun o =>
      match o with
      | .inl p246 =>
        some (.inl p246)
      | .inr () =>
        m33_L2 N n221 c222 x228 x230 n235 n (IntKind.i64.wrap (x237 + 1))) (
      some (.inr ()))
def m33_L1 (N : Nat) (n221 : Nat) (c222 : List PV) (x228 : Int) : Nat → Int → Option ((PV ⊕ Unit))
  | 0, _ => none
  | n + 1, x230 =>
    brn (decide (x230 < ((n221 : Nat) : Int))) (
      grd (0 < ((n221 : Nat) : Int)) <|
      grd (0 < List.length c222) <|
      getL (gp c222 0) fun n235 c236 =>
      bnd' (m33_L2 N n221 c222 x228 x230 n235 N 0) fun o =>
      match o with
      | .inl p247 =>
        some (.inl p247)
      | .inr () =>
        m33_L1 N n221 c222 x228 n (IntKind.i64.wrap (x230 + 1))) (
      some (.inr ()))
def m33_L0 (N : Nat) (n221 : Nat) (c222 : List PV) : Nat → Int → Option ((PV ⊕ Unit))
  | 0, _ => none
  | n + 1, x228 =>
    brn (decide (x228 < ((n221 : Nat) : Int))) (
      bnd' (m33_L1 N n221 c222 x228 N (IntKind.i64.wrap (x228 + 1))) fun o =>
      match o with
      | .inl p248 =>
        some (.inl p248)
      | .inr () =>
        m33_L0 N n221 c222 n (IntKind.i64.wrap (x228 + 1))) (
      some (.inr ()))
def m33 (N : Nat) (p219 : PV) : Option (PV) :=
  getL p219 fun n221 c222 =>
  bnd' (m23 N (.lst false n221 c222)) fun p223 =>
  getI .i64 p223 fun x226 =>
  brn (x226 != 0) (
    some (.tup [(.lst false 0 []), (.int .i64 x226)])) (
    bnd' (m33_L0 N n221 c222 N 0) fun o =>
    match o with
    | .inl p249 =>
      some p249
    | .inr () =>
      some (.tup [(.lst false 0 []), (.int .i64 13)]))
def m94 (N : Nat) (x301 : Int) (x302 : Int) (x303 : Int) : Option (PV) :=
  brn (decide (x301 ≥ x302)) (
    some (.bool (decide (x301 ≤ x303)))) (
    some (.bool false))
def m70_L0 (N : Nat) (x289 : Int) (x290 : Int) (n292 : Nat) (c293 : List PV) : Nat → Int → Option ((PV ⊕ Unit))
  | 0, _ => none
  | n + 1, x294 =>
    brn (decide (x294 < ((n292 : Nat) : Int))) (
      grd (0 ≤ x294 ∧ x294 < ((n292 : Nat) : Int)) <|
      grd (0 < List.length (List.drop (Int.toNat x294) c293)) <|
      getI .i64 (gp c293 (Int.toNat x294)) fun x300 =>
      bnd' (m94 N x300 x289 x290) fun p305 =>
      getB p305 fun b308 =>
      brn b308 (
        m70_L0 N x289 x290 n292 c293 n (IntKind.i64.wrap (x294 + 1))) (
        some (.inl (.bool false)))) (
      some (.inr ()))
def m70 (N : Nat) (p288 : PV) (x289 : Int) (x290 : Int) : Option (PV) :=
  getL p288 fun n292 c293 =>
  bnd' (m70_L0 N x289 x290 n292 c293 N 0) fun o =>
  match o with
  | .inl p310 =>
    some p310
  | .inr () =>
    some (.bool true)
def m24_L0 (N : Nat) (n268 : Nat) (c269 : List PV) (n274 : Nat) : Nat → Int → Option ((PV ⊕ Unit))
  | 0, _ => none
  | n + 1, x279 =>
    brn (decide (x279 < ((n268 : Nat) : Int))) (
      grd (0 ≤ x279 ∧ x279 < ((n268 : Nat) : Int)) <|
      grd (0 < List.length (List.drop (Int.toNat x279) c269)) <|
      getL (gp c269 (Int.toNat x279)) fun n285 c286 =>
      brn (((n285 : Nat) : Int) != ((n274 : Nat) : Int)) (
        some (.inl (.int .i64 5))) (
        bnd' (m70 N (.lst false n285 c286) 0 20) fun p314 =>
        getB p314 fun b317 =>
        brn b317 (
          m24_L0 N n268 c269 n274 n (IntKind.i64.wrap (x279 + 1))) (
          some (.inl (.int .i64 1))))) (
      some (.inr ()))
def m24 (N : Nat) (p266 : PV) : Option (PV) :=
  getL p266 fun n268 c269 =>
  brn (((n268 : Nat) : Int) == 0) (
    some (.int .i64 4)) (
    grd (0 < ((n268 : Nat) : Int)) <|
    grd (0 < List.length c269) <|
    getL (gp c269 0) fun n274 c275 =>
    brn (((n274 : Nat) : Int) == 0) (
      some (.int .i64 4)) (
      brn (decide (((n268 : Nat) : Int) > 3)) (
        some (.int .i64 3)) (
        brn (decide (((n274 : Nat) : Int) > 4)) (
          some (.int .i64 3)) (
          bnd' (m24_L0 N n268 c269 n274 N 0) fun o =>
          match o with
          | .inl p319 =>
            some p319
          | .inr () =>
            some (.int .i64 0)))))
def m78_L3 (N : Nat) (n330 : Nat) (c331 : List PV) (x332 : Int) (x334 : Int) (x336 : Int) (n340 : Nat) : Nat → Int → Option ((PV ⊕ Unit))
  | 0, _ => none
  | n + 1, x343 =>
    brn (decide (x343 < ((n340 : Nat) : Int))) (
      grd (0 ≤ x332 ∧ x332 < ((n330 : Nat) : Int)) <|
      grd (0 < List.length (List.drop (Int.toNat x332) c331)) <|
      getL (gp c331 (Int.toNat x332)) fun n349 c350 =>
      grd (0 ≤ x336 ∧ x336 < ((n349 : Nat) : Int)) <|
      grd (0 < List.length (List.drop (Int.toNat x336) c350)) <|
      getI .i64 (gp c350 (Int.toNat x336)) fun x355 =>
      grd (0 ≤ x334 ∧ x334 < ((n330 : Nat) : Int)) <|
      grd (0 < List.length (List.drop (Int.toNat x334) c331)) <|
      getL (gp c331 (Int.toNat x334)) fun n360 c361 =>
      grd (0 ≤ x343 ∧ x343 < ((n360 : Nat) : Int)) <|
      grd (0 < List.length (List.drop (Int.toNat x343) c361)) <|
      getI .i64 (gp c361 (Int.toNat x343)) fun x366 =>
      grd (x343 < ((n349 : Nat) : Int)) <|
      grd (0 < List.length (List.drop (Int.toNat x343) c350)) <|
      getI .i64 (gp c350 (Int.toNat x343)) fun x370 =>
      grd (x336 < ((n360 : Nat) : Int)) <|
      grd (0 < List.length (List.drop (Int.toNat x336) c361)) <|
      getI .i64 (gp c361 (Int.toNat x336)) fun x374 =>
      brn (decide ((IntKind.i64.wrap (x355 + x366)) > (IntKind.i64.wrap (x370 + x374)))) (
        some (.inl (.lst false 4 [(.int .i64 x332), (.int .i64 x334), (.int .i64 x336), (.int .i64 x343)]))) (
        m78_L3 N n330 c331 x332 x334 x336 n340 n (IntKind.i64.wrap (x343 + 1)))) (
      some (.inr ()))
def m78_L2 (N : Nat) (n330 : Nat) (c331 : List PV) (x332 : Int) (x334 : Int) : Nat → Int → Option ((PV ⊕ Unit))
  | 0, _ => none
  | n + 1, x336 =>
    grd (0 < ((n330 : Nat) : Int)) <|
    grd (0 < List.length c331) <|
    getL (gp c331 0) fun n340 c341 =>
    brn (decide (x336 < ((n340 : Nat) : Int))) (
      bnd' (m78_L3 N n330 c331 x332 x334 x336 n340 N (IntKind.i64.wrap (x336 + 1))) fun o =>
      match o with
      | .inl p376 =>
        some (.inl p376)
      | .inr () =>
        m78_L2 N n330 c331 x332 x334 n (IntKind.i64.wrap (x336 + 1))) (
      some (.inr ()))
def m78_L1 (N : Nat) (n330 : Nat) (c331 : List PV) (x332 : Int) : Nat → Int → Option ((PV ⊕ Unit))
  | 0, _ => none
  | n + 1, x334 =>
    brn (decide (x334 < ((n330 : Nat) : Int))) (
      bnd' (m78_L2 N n330 c331 x332 x334 N 0) fun o =>
      match o with
      | .inl p377 =>
        some (.inl p377)
      | .inr () =>
        m78_L1 N n330 c331 x332 n (IntKind.i64.wrap (x334 + 1))) (
      some (.inr ()))
def m78_L0 (N : Nat) (n330 : Nat) (c331 : List PV) : Nat → Int → Option ((PV ⊕ Unit))
  | 0, _ => none
  | n + 1, x332 =>
    brn (decide (x332 < ((n330 : Nat) : Int))) (
      bnd' (m78_L1 N n330 c331 x332 N (IntKind.i64.wrap (x332 + 1))) fun o =>
      match o with
      | .inl p378 =>
        some (.inl p378)
      | .inr () =>
        m78_L0 N n330 c331 n (IntKind.i64.wrap (x332 + 1))) (
      some (.inr ()))
def m78 (N : Nat) (p328 : PV) : Option (PV) :=
  getL p328 fun n330 c331 =>
  bnd' (m78_L0 N n330 c331 N 0) fun o =>
  match o with
  | .inl p379 =>
    some p379
  | .inr () =>
    some (.lst false 0 [])
def m32 (N : Nat) (p262 : PV) : Option (PV) :=
  getL p262 fun n264 c265 =>
  bnd' (m24 N (.lst false n264 c265)) fun p323 =>
  getI .i64 p323 fun x326 =>
  brn (x326 != 0) (
    some (.tup [(.bool false), (.int .i64 x326)])) (
    bnd' (m78 N (.lst false n264 c265)) fun p392 =>
    getL p392 fun n395 c396 =>
    some (.tup [(.bool (((n395 : Nat) : Int) == 0)), (.int .i64 0)]))
def m34 (N : Nat) (p397 : PV) : Option (PV) :=
  getL p397 fun n399 c400 =>
  bnd' (m24 N (.lst false n399 c400)) fun p401 =>
  getI .i64 p401 fun x404 =>
  brn (x404 != 0) (
    some (.tup [(.lst false 0 []), (.int .i64 x404)])) (
    bnd' (m78 N (.lst false n399 c400)) fun p406 =>
    getL p406 fun n409 c410 =>
    brn (((n409 : Nat) : Int) == 0) (
      some (.tup [(.lst false 0 []), (.int .i64 13)])) (
      some (.tup [(.lst false n409 c410), (.int .i64 0)])))
def m37_L0 (N : Nat) (n415 : Nat) (c416 : List PV) (n418 : Nat) (c419 : List PV) : Nat → Int → Option ((PV ⊕ Unit))
  | 0, _ => none
  | n + 1, x421 =>
    brn (decide (x421 < ((n415 : Nat) : Int))) (
      grd (0 ≤ x421 ∧ x421 < ((n415 : Nat) : Int)) <|
      grd (0 < List.length (List.drop (Int.toNat x421) c416)) <|
      getI .i64 (gp c416 (Int.toNat x421)) fun x427 =>
      grd (x421 < ((n418 : Nat) : Int)) <|
      grd (0 < List.length (List.drop (Int.toNat x421) c419)) <|
      getI .i64 (gp c419 (Int.toNat x421)) fun x431 =>
      brn (x427 != x431) (
        some (.inl (.bool false))) (
        m37_L0 N n415 c416 n418 c419 n (IntKind.i64.wrap (x421 + 1)))) (
      some (.inr ()))
def m37 (N : Nat) (p412 : PV) (p413 : PV) : Option (PV) :=
  getL p412 fun n415 c416 =>
  getL p413 fun n418 c419 =>
  brn (((n415 : Nat) : Int) != ((n418 : Nat) : Int)) (
    some (.bool false)) (
    bnd' (m37_L0 N n415 c416 n418 c419 N 0) fun o =>
    match o with
    | .inl p433 =>
      some p433
    | .inr () =>
      some (.bool true))
theorem c37 (N : Nat) (p412 : PV) (p413 : PV) (r : PV)  (h : m37 N p412 p413 = some r) : FnP Try.prog 37 [p412, p413] r := by
  unfold m37 at h
  refine Fn_of (sz := 26) tab_ok [0, 1, 4, 5, 10, 14, 25] [.tmp 4] Try.func37 rfl rfl rfl (by simp) ?_
  simp only [initSt, initEnv, List.map_cons, List.map_nil, List.getD_cons_zero, List.getD_cons_succ, List.getD_nil]
  have hh := getL_some h; clear h; obtain ⟨n415, c416, h414, h⟩ := hh
  have hh := getL_some h; clear h; obtain ⟨n418, c419, h417, h⟩ := hh
  have hh := brn_some h; clear h; rcases hh with ⟨h420, h⟩ | ⟨h420, h⟩
  · refine W_sound tab_ok mixed 20 _ _ _ ?_
    simp -implicitDefEqProofs only [go_sem, qa, qb, qc, qd, qe, qf, qg, qh, qi, qj, qk, ↓reduceIte, h414, h417, h420]
    repeat with_reducible refine ⟨by first | kernel_rfl | decide, ?_⟩
    obtain rfl := Option.some.inj h
    exact finC [(4, .v (.bool false))] [(4, .v (.bool false))] (by simp [leE, lk_cons]) (.cons _ _ _ _ _ (.v _ _ (.refl _)) .nil) (by rfl) (by simp [leE, lk_cons]) (by decide) (by decide) rfl (by simp only [go_sem, qa, qb, qc, qd, qe, qf, qg, qh, qi, qj, qk, ↓reduceIte, resQ_tmp, resQ_cell, resQ_nil, retD_one, retD_two, retD_three, retD_none]; try simp [R.val, retD_one, retD_two, retD_three, retD_none])
  · refine W_sound tab_ok mixed 20 _ _ _ ?_
    simp -implicitDefEqProofs only [go_sem, qa, qb, qc, qd, qe, qf, qg, qh, qi, qj, qk, ↓reduceIte, h414, h417, h420]
    repeat with_reducible refine ⟨by first | kernel_rfl | decide, ?_⟩
    have hh := bnd'_some h; clear h; obtain ⟨o434, h435, h436⟩ := hh
    refine Wp_cut (fun s => (.inr ()) = o434 ∧ s = ⟨[], [(0, .dead), (1, .dead), (4, .dead), (5, .dead), (10, .dead), (14, .dead), (25, .dead)], [], 0, []⟩) ?_ ?_
    · refine Wp_block ?_
      refine Wp_loopG (fun n s => ∃ x421, m37_L0 N n415 c416 n418 c419 n x421 = some o434 ∧ s = ⟨[], [(0, .v (.lst false n415 c416)), (1, .v (.lst false n418 c419)), (4, .dead), (5, .v (.int .i64 x421)), (10, .dead), (14, .dead), (25, .dead)], [], 0, []⟩) N _ ((Wk_le (.r (.r (.k (.r (.k (.r (.r .nil))))))) (OLe.refl _)).trans (cmpS_ok rfl)) ⟨_, h435, rfl⟩ ?_
      clear h435
      rintro n _ ⟨x421, h435, rfl⟩
      cases n with
      | zero => cases h435
      | succ n =>
        rw [m37_L0] at h435
        have hh := brn_some h435; clear h435; rcases hh with ⟨h422, h435⟩ | ⟨h422, h435⟩
        · have hh := grd_some h435; clear h435; obtain ⟨⟨g423, g424⟩, h435⟩ := hh
          have hh := grd_some h435; clear h435; obtain ⟨g425, h435⟩ := hh
          have hh := getI_some h435; clear h435; obtain ⟨x427, h426, h435⟩ := hh
          have hh := grd_some h435; clear h435; obtain ⟨g428, h435⟩ := hh
          have hh := grd_some h435; clear h435; obtain ⟨g429, h435⟩ := hh
          have hh := getI_some h435; clear h435; obtain ⟨x431, h430, h435⟩ := hh
          have hh := brn_some h435; clear h435; rcases hh with ⟨h432, h435⟩ | ⟨h432, h435⟩
          · refine W_sound tab_ok mixed 31 _ _ _ ?_
            simp -implicitDefEqProofs only [go_sem, qa, qb, qc, qd, qe, qf, qg, qh, qi, qj, qk, ↓reduceIte, h414, h417, h420, h422, g423, g424, g425, h426, g428, g429, h430, h432]
            repeat with_reducible refine ⟨by first | kernel_rfl | decide, ?_⟩
            obtain rfl := Option.some.inj h435
            (try dsimp only at h436)
            obtain rfl := Option.some.inj h436
            exact finC [(4, .v (.bool false))] [(4, .v (.bool false))] (by simp [leE, lk_cons]) (.cons _ _ _ _ _ (.v _ _ (.refl _)) .nil) (by rfl) (by simp [leE, lk_cons]) (by decide) (by decide) rfl (by simp only [go_sem, qa, qb, qc, qd, qe, qf, qg, qh, qi, qj, qk, ↓reduceIte, resQ_tmp, resQ_cell, resQ_nil, retD_one, retD_two, retD_three, retD_none]; try simp [R.val, retD_one, retD_two, retD_three, retD_none])
          · refine W_sound tab_ok mixed 32 _ _ _ ?_
            simp -implicitDefEqProofs only [go_sem, qa, qb, qc, qd, qe, qf, qg, qh, qi, qj, qk, ↓reduceIte, h414, h417, h420, h422, g423, g424, g425, h426, g428, g429, h430, h432]
            repeat with_reducible refine ⟨by first | kernel_rfl | decide, ?_⟩
            exact cutQ _ ((Wk_le (.r (.r (.r (.r (.r (.k (.k .nil))))))) (OLe.refl _)).trans (cmpS_ok rfl)) ⟨n, Nat.lt_succ_self n, _, h435, rfl⟩
        · refine W_sound tab_ok mixed 10 _ _ _ ?_
          simp -implicitDefEqProofs only [go_sem, qa, qb, qc, qd, qe, qf, qg, qh, qi, qj, qk, ↓reduceIte, h414, h417, h420, h422]
          repeat with_reducible refine ⟨by first | kernel_rfl | decide, ?_⟩
          obtain rfl := Option.some.inj h435
          exact cutQ _ ((Wk_le (.k (.k (.r (.k (.r (.k (.r .nil))))))) (OLe.refl _)).trans (cmpS_ok rfl)) ⟨rfl, rfl⟩
    · rintro _ ⟨rfl, rfl⟩
      (try dsimp only at h436)
      refine W_sound tab_ok mixed 6 _ _ _ ?_
      simp -implicitDefEqProofs only [go_sem, qa, qb, qc, qd, qe, qf, qg, qh, qi, qj, qk, ↓reduceIte, h414, h417, h420]
      repeat with_reducible refine ⟨by first | kernel_rfl | decide, ?_⟩
      obtain rfl := Option.some.inj h436
      exact finC [(4, .v (.bool true))] [(4, .v (.bool true))] (by simp [leE, lk_cons]) (.cons _ _ _ _ _ (.v _ _ (.refl _)) .nil) (by rfl) (by simp [leE, lk_cons]) (by decide) (by decide) rfl (by simp only [go_sem, qa, qb, qc, qd, qe, qf, qg, qh, qi, qj, qk, ↓reduceIte, resQ_tmp, resQ_cell, resQ_nil, retD_one, retD_two, retD_three, retD_none]; try simp [R.val, retD_one, retD_two, retD_three, retD_none])
def m81 (N : Nat) (p509 : PV) (p510 : PV) (p511 : PV) (p512 : PV) : Option ((PV × PV × PV × PV)) :=
  getL p510 fun n517 c518 =>
  getL p509 fun n520 c521 =>
  bnd' (m76 N (.lst false n520 c521) (.lst false n517 c518) (.lst false 0 [])) fun p522 =>
  getB p522 fun b525 =>
  some ((.bool b525), (.lst false n517 c518), (.lst false n517 c518), (.lst false 0 []))
theorem c81 (N : Nat) (p509 : PV) (p510 : PV) (p511 : PV) (p512 : PV) (r : PV) (p528 : PV) (p529 : PV) (p530 : PV) (h : m81 N p509 p510 p511 p512 = some (r, p528, p529, p530)) : V.Fn Try.prog 81 3 [.v .nl, .ptr 0 0, .ptr 1 0, .ptr 2 0, .v (.ipt [p509])] [(0, .p [p510]), (1, .p [p511]), (2, .p [p512])] (fun d ob' => d = .v r ∧ ob' = [(0, .p [p528]), (1, .p [p529]), (2, .p [p530])]) := by
  unfold m81 at h
  refine Fn_of (sz := 13) tab_ok [0, 1, 2, 3, 4, 6] [.tmp 6] Try.func81 rfl rfl rfl (by simp) ?_
  simp only [initSt, initEnv, List.map_cons, List.map_nil, List.getD_cons_zero, List.getD_cons_succ, List.getD_nil]
  have hh := getL_some h; clear h; obtain ⟨n517, c518, h516, h⟩ := hh
  have hh := getL_some h; clear h; obtain ⟨n520, c521, h519, h⟩ := hh
  have hh := bnd'_some h; clear h; obtain ⟨p522, h523, h⟩ := hh
  refine W_sound tab_ok mixed 16 _ _ _ ?_
  simp -implicitDefEqProofs only [go_sem, qa, qb, qc, qd, qe, qf, qg, qh, qi, qj, qk, ↓reduceIte, h516, h519]
  repeat with_reducible refine ⟨by first | kernel_rfl | decide, ?_⟩
  refine Wp_callP (FnP_le (c76 N _ _ _ _ h523) (.cons _ _ _ _ (.refl _) (.cons _ _ _ _ (.refl _) (.cons _ _ _ _ (.nl false) .nil))) (.refl _)) (by kernel_rfl) rfl rfl rfl rfl (by decide) ?_
  have hh := getB_some h; clear h; obtain ⟨b525, h524, h⟩ := hh
  refine W_sound tab_ok mixed 4 _ _ _ ?_
  simp -implicitDefEqProofs only [go_sem, qa, qb, qc, qd, qe, qf, qg, qh, qi, qj, qk, ↓reduceIte, h516, h519, h524]
  repeat with_reducible refine ⟨by first | kernel_rfl | decide, ?_⟩
  simp only [Option.some.injEq, Prod.mk.injEq] at h; obtain ⟨rfl, rfl, rfl, rfl⟩ := h
  exact finD (e2 := [(0, .dead), (1, .dead), (2, .dead), (3, .dead), (4, .dead), (6, .v (.bool b525))]) (ob2 := [(0, .p [(.lst false n517 c518)]), (1, .p [(.lst false n517 c518)]), (2, .p [(.lst false 0 [])])]) (st' := ⟨[], [(0, .dead), (1, .dead), (2, .dead), (3, .dead), (4, .dead), (6, .v (.bool b525))], [(0, .p [(.lst false n517 c518)]), (1, .p [(.lst false n517 c518)]), (2, .p [(.lst false 0 [])])], 3, []⟩) (.k (.k (.k (.k (.k (.r .nil)))))) (.cons _ _ _ _ _ (DLes.refl _) (.cons _ _ _ _ _ (DLes.refl _) (.cons _ _ _ _ _ (DLes.of_p (.cons _ _ _ _ (.nl false) .nil)) .nil))) (by kernel_rfl) (by simp only [go_sem, qa, qb, qc, qd, qe, qf, qg, qh, qi, qj, qk, ↓reduceIte, resQ_tmp, resQ_cell, resQ_nil, retD_one, retD_two, retD_three, retD_none]; try simp [R.val, retD_one, retD_two, retD_three, retD_none])
def m53 (N : Nat) (p545 : PV) : Option (Nat × List PV) :=
  getL p545 fun n547 c548 =>
  grd (0 < n547) <|
  grd (List.length c548 = n547) <|
  grd (n547 ≤ 1099511627776) <|
  some (n547, c548)
theorem c53 (N : Nat) (p545 : PV) (rn : Nat) (rc : List PV) (h : m53 N p545 = some (rn, rc)) : V.Fn Try.prog 53 0 [.v p545] [] (fun d ob' => d = .sl false 0 0 rn 1 ∧ ob' = [(0, .p rc)]) := by
  unfold m53 at h
  refine Fn_of (sz := 8) tab_ok [0, 2, 4] [.tmp 2] Try.func53 rfl rfl rfl (by simp) ?_
  simp only [initSt, initEnv, List.map_cons, List.map_nil, List.getD_cons_zero, List.getD_cons_succ, List.getD_nil]
  have hh := getL_some h; clear h; obtain ⟨n547, c548, h546, h⟩ := hh
  have hh := grd_some h; clear h; obtain ⟨g549, h⟩ := hh
  have hh := grd_some h; clear h; obtain ⟨g550, h⟩ := hh
  have hh := grd_some h; clear h; obtain ⟨g551, h⟩ := hh
  refine W_sound tab_ok mixed 21 _ _ _ ?_
  simp -implicitDefEqProofs only [go_sem, qa, qb, qc, qd, qe, qf, qg, qh, qi, qj, qk, ↓reduceIte, h546, g549, g550, g551]
  repeat with_reducible refine ⟨by first | kernel_rfl | decide, ?_⟩
  simp only [Option.some.injEq, Prod.mk.injEq] at h; obtain ⟨rfl, rfl⟩ := h
  exact finD (e2 := [(0, .dead), (2, .sl false 7 0 n547 1), (4, .dead)]) (ob2 := [(5, .p []), (7, .p c548)]) (st' := ⟨[], [(0, .dead), (2, .sl false 0 0 n547 1), (4, .dead)], [(0, .p c548)], 1, []⟩) (.k (.r (.k .nil))) (.cons _ _ _ _ _ (DLes.refl _) (.cons _ _ _ _ _ (DLes.refl _) .nil)) (by kernel_rfl) (by simp only [go_sem, qa, qb, qc, qd, qe, qf, qg, qh, qi, qj, qk, ↓reduceIte, resQ_tmp, resQ_cell, resQ_nil, retD_one, retD_two, retD_three, retD_none]; first | done | exact ⟨rfl, rfl⟩ | (try simp [R.val, retD_one]))
def m99 (N : Nat) (n555 : Nat) (x556 : Int) (x557 : Int) (c558 : List PV) : Option (Nat × List PV) :=
  brn (decide (x557 = ((n555 : Nat) : Int))) (
    grd (0 ≤ x556 ∧ x556 ≤ x557 ∧ x557 ≤ ((n555 : Nat) : Int) ∧ eqI ((n555 : Nat) : Int) x557) <|
    brn (x556 == x557) (
      some (n555, c558)) (
      grd (x556 ≤ ((n555 : Nat) : Int)) <|
      grd (0 ≤ x557) <|
      grd (List.length (List.take (Int.toNat (((n555 : Nat) : Int) - x557)) (List.drop (Int.toNat x557) c558)) = (Int.toNat (((n555 : Nat) : Int) - x557))) <|
      brn (decide (((Int.toNat x556) + (Int.toNat (((n555 : Nat) : Int) - x557))) ≤ (n555 - 0))) (
        grd (cutG ((Int.toNat x556) + (Int.toNat (((n555 : Nat) : Int) - x557))) c558 ∧ (Int.toNat x556) ≤ List.length c558) <|
        grd (0 ≤ ((((Int.toNat x556) + (Int.toNat (((n555 : Nat) : Int) - x557))) : Nat) : Int) ∧ ((((Int.toNat x556) + (Int.toNat (((n555 : Nat) : Int) - x557))) : Nat) : Int) ≤ ((n555 : Nat) : Int) ∧ ((n555 : Nat) : Int) ≤ (((n555 - 0) : Nat) : Int)) <|
        grd ((((Int.toNat x556) + (Int.toNat (((n555 : Nat) : Int) - x557))) + (Int.toNat (((n555 : Nat) : Int) - ((((Int.toNat x556) + (Int.toNat (((n555 : Nat) : Int) - x557))) : Nat) : Int)))) ≤ List.length c558) <|
        some (((Int.toNat x556) + (Int.toNat (((n555 : Nat) : Int) - x557))), (putP (putP c558 (Int.toNat x556) (List.take (Int.toNat (((n555 : Nat) : Int) - x557)) (List.drop (Int.toNat x557) c558))) ((Int.toNat x556) + (Int.toNat (((n555 : Nat) : Int) - x557))) (List.replicate (Int.toNat (((n555 : Nat) : Int) - ((((Int.toNat x556) + (Int.toNat (((n555 : Nat) : Int) - x557))) : Nat) : Int))) (.int .i64 0))))) (
        none))) (
    grd (0 ≤ x556 ∧ x556 ≤ x557 ∧ x557 ≤ ((n555 : Nat) : Int) ∧ ((n555 : Nat) : Int) ≤ ((n555 : Nat) : Int)) <|
    brn (x556 == x557) (
      some (n555, c558)) (
      grd (x556 ≤ ((n555 : Nat) : Int)) <|
      grd (0 ≤ x557) <|
      grd (List.length (List.take (Int.toNat (((n555 : Nat) : Int) - x557)) (List.drop (Int.toNat x557) c558)) = (Int.toNat (((n555 : Nat) : Int) - x557))) <|
      brn (decide (((Int.toNat x556) + (Int.toNat (((n555 : Nat) : Int) - x557))) ≤ (n555 - 0))) (
        grd (cutG ((Int.toNat x556) + (Int.toNat (((n555 : Nat) : Int) - x557))) c558 ∧ (Int.toNat x556) ≤ List.length c558) <|
        grd (0 ≤ ((((Int.toNat x556) + (Int.toNat (((n555 : Nat) : Int) - x557))) : Nat) : Int) ∧ ((((Int.toNat x556) + (Int.toNat (((n555 : Nat) : Int) - x557))) : Nat) : Int) ≤ ((n555 : Nat) : Int) ∧ ((n555 : Nat) : Int) ≤ (((n555 - 0) : Nat) : Int)) <|
        grd ((((Int.toNat x556) + (Int.toNat (((n555 : Nat) : Int) - x557))) + (Int.toNat (((n555 : Nat) : Int) - ((((Int.toNat x556) + (Int.toNat (((n555 : Nat) : Int) - x557))) : Nat) : Int)))) ≤ List.length c558) <|
        some (((Int.toNat x556) + (Int.toNat (((n555 : Nat) : Int) - x557))), (putP (putP c558 (Int.toNat x556) (List.take (Int.toNat (((n555 : Nat) : Int) - x557)) (List.drop (Int.toNat x557) c558))) ((Int.toNat x556) + (Int.toNat (((n555 : Nat) : Int) - x557))) (List.replicate (Int.toNat (((n555 : Nat) : Int) - ((((Int.toNat x556) + (Int.toNat (((n555 : Nat) : Int) - x557))) : Nat) : Int))) (.int .i64 0))))) (
        none)))
theorem c99 (N : Nat) (n555 : Nat) (x556 : Int) (x557 : Int) (c558 : List PV) (rn : Nat) (rc : List PV) (h : m99 N n555 x556 x557 c558 = some (rn, rc)) : V.Fn Try.prog 99 1 [.sl false 0 0 n555 1, .v (.int .i64 x556), .v (.int .i64 x557)] [(0, .p c558)] (fun d ob' => d = .sl false 0 0 rn 1 ∧ ob' = [(0, .p rc)]) := by
  unfold m99 at h
  refine Fn_of (sz := 33) tab_ok [0, 1, 2, 6, 7, 16] [.tmp 6] Try.func99 rfl rfl rfl (by simp) ?_
  simp only [initSt, initEnv, List.map_cons, List.map_nil, List.getD_cons_zero, List.getD_cons_succ, List.getD_nil]
  have hh := brn_some h; clear h; rcases hh with ⟨h559, h⟩ | ⟨h559, h⟩
  · have hh := grd_some h; clear h; obtain ⟨⟨g560, g561, g562, g563⟩, h⟩ := hh
    have hh := brn_some h; clear h; rcases hh with ⟨h564, h⟩ | ⟨h564, h⟩
    · refine W_sound tab_ok mixed 28 _ _ _ ?_
      simp -implicitDefEqProofs only [go_sem, qa, qb, qc, qd, qe, qf, qg, qh, qi, qj, qk, ↓reduceIte, h559, eqI_t, g560, g561, g562, g563, h564]
      repeat with_reducible refine ⟨by first | kernel_rfl | decide, ?_⟩
      simp only [Option.some.injEq, Prod.mk.injEq] at h; obtain ⟨rfl, rfl⟩ := h
      exact finD (e2 := [(0, .dead), (1, .dead), (2, .dead), (6, .sl false 0 0 n555 1), (7, .dead), (16, .dead)]) (ob2 := [(0, .p c558)]) (st' := ⟨[], [(0, .dead), (1, .dead), (2, .dead), (6, .sl false 0 0 n555 1), (7, .dead), (16, .dead)], [(0, .p c558)], 1, []⟩) (.k (.k (.k (.r (.r (.k .nil)))))) (.cons _ _ _ _ _ (DLes.refl _) .nil) (by kernel_rfl) (by simp only [go_sem, qa, qb, qc, qd, qe, qf, qg, qh, qi, qj, qk, ↓reduceIte, resQ_tmp, resQ_cell, resQ_nil, retD_one, retD_two, retD_three, retD_none]; first | done | exact ⟨rfl, rfl⟩ | (try simp [R.val, retD_one]))
    · have hh := grd_some h; clear h; obtain ⟨g565, h⟩ := hh
      have hh := grd_some h; clear h; obtain ⟨g566, h⟩ := hh
      have hh := grd_some h; clear h; obtain ⟨g567, h⟩ := hh
      have hh := brn_some h; clear h; rcases hh with ⟨h568, h⟩ | ⟨h568, h⟩
      · have hh := grd_some h; clear h; obtain ⟨⟨g569, g570⟩, h⟩ := hh
        have hh := grd_some h; clear h; obtain ⟨⟨g571, g572, g573⟩, h⟩ := hh
        have hh := grd_some h; clear h; obtain ⟨g574, h⟩ := hh
        refine W_sound tab_ok mixed 53 _ _ _ ?_
        simp -implicitDefEqProofs only [go_sem, qa, qb, qc, qd, qe, qf, qg, qh, qi, qj, qk, ↓reduceIte, h559, eqI_t, g560, g561, g562, g563, h564, g565, g566, g567, h568, g569, g570, cutG_le, extO_cut, normE, g571, g572, g573, g574]
        repeat with_reducible refine ⟨by first | kernel_rfl | decide, ?_⟩
        refine Wp_wkK Wk_norm rfl ?_
        simp -implicitDefEqProofs only [go_sem, qa, qb, qc, qd, qe, qf, qg, qh, qi, qj, qk, ↓reduceIte, normE, h559, eqI_t, g560, g561, g562, g563, h564, g565, g566, g567, h568, g569, g570, cutG_le, extO_cut, normE, g571, g572, g573, g574]
        refine W_sound tab_ok mixed 2 _ _ _ ?_
        simp -implicitDefEqProofs only [go_sem, qa, qb, qc, qd, qe, qf, qg, qh, qi, qj, qk, ↓reduceIte, h559, eqI_t, g560, g561, g562, g563, h564, g565, g566, g567, h568, g569, g570, cutG_le, extO_cut, normE, g571, g572, g573, g574]
        repeat with_reducible refine ⟨by first | kernel_rfl | decide, ?_⟩
        simp only [Option.some.injEq, Prod.mk.injEq] at h; obtain ⟨rfl, rfl⟩ := h
        exact finD (e2 := [(0, .dead), (1, .dead), (2, .dead), (6, .sl false 0 0 ((Int.toNat x556) + (Int.toNat (((n555 : Nat) : Int) - x557))) 1), (7, .dead), (16, .dead)]) (ob2 := [(0, .p (putP (putP c558 (Int.toNat x556) (List.take (Int.toNat (((n555 : Nat) : Int) - x557)) (List.drop (Int.toNat x557) c558))) ((Int.toNat x556) + (Int.toNat (((n555 : Nat) : Int) - x557))) (List.replicate (Int.toNat (((n555 : Nat) : Int) - ((((Int.toNat x556) + (Int.toNat (((n555 : Nat) : Int) - x557))) : Nat) : Int))) (.int .i64 0))))]) (st' := ⟨[], [(0, .dead), (1, .dead), (2, .dead), (6, .sl false 0 0 ((Int.toNat x556) + (Int.toNat (((n555 : Nat) : Int) - x557))) 1), (7, .dead), (16, .dead)], [(0, .p (putP (putP c558 (Int.toNat x556) (List.take (Int.toNat (((n555 : Nat) : Int) - x557)) (List.drop (Int.toNat x557) c558))) ((Int.toNat x556) + (Int.toNat (((n555 : Nat) : Int) - x557))) (List.replicate (Int.toNat (((n555 : Nat) : Int) - ((((Int.toNat x556) + (Int.toNat (((n555 : Nat) : Int) - x557))) : Nat) : Int))) (.int .i64 0))))], 1, []⟩) (.k (.k (.k (.r (.k (.k .nil)))))) (.cons _ _ _ _ _ (DLes.refl _) .nil) (by kernel_rfl) (by simp only [go_sem, qa, qb, qc, qd, qe, qf, qg, qh, qi, qj, qk, ↓reduceIte, resQ_tmp, resQ_cell, resQ_nil, retD_one, retD_two, retD_three, retD_none]; first | done | exact ⟨rfl, rfl⟩ | (try simp [R.val, retD_one]))
      · cases h
  · have hh := grd_some h; clear h; obtain ⟨⟨g575, g576, g577, g578⟩, h⟩ := hh
    have hh := brn_some h; clear h; rcases hh with ⟨h579, h⟩ | ⟨h579, h⟩
    · refine W_sound tab_ok mixed 28 _ _ _ ?_
      simp -implicitDefEqProofs only [go_sem, qa, qb, qc, qd, qe, qf, qg, qh, qi, qj, qk, ↓reduceIte, h559, g575, g576, g577, g578, h579]
      repeat with_reducible refine ⟨by first | kernel_rfl | decide, ?_⟩
      simp only [Option.some.injEq, Prod.mk.injEq] at h; obtain ⟨rfl, rfl⟩ := h
      exact finD (e2 := [(0, .dead), (1, .dead), (2, .dead), (6, .sl false 0 0 n555 1), (7, .dead), (16, .dead)]) (ob2 := [(0, .p c558)]) (st' := ⟨[], [(0, .dead), (1, .dead), (2, .dead), (6, .sl false 0 0 n555 1), (7, .dead), (16, .dead)], [(0, .p c558)], 1, []⟩) (.k (.k (.k (.r (.r (.k .nil)))))) (.cons _ _ _ _ _ (DLes.refl _) .nil) (by kernel_rfl) (by simp only [go_sem, qa, qb, qc, qd, qe, qf, qg, qh, qi, qj, qk, ↓reduceIte, resQ_tmp, resQ_cell, resQ_nil, retD_one, retD_two, retD_three, retD_none]; first | done | exact ⟨rfl, rfl⟩ | (try simp [R.val, retD_one]))
    · have hh := grd_some h; clear h; obtain ⟨g580, h⟩ := hh
      have hh := grd_some h; clear h; obtain ⟨g581, h⟩ := hh
      have hh := grd_some h; clear h; obtain ⟨g582, h⟩ := hh
      have hh := brn_some h; clear h; rcases hh with ⟨h583, h⟩ | ⟨h583, h⟩
      · have hh := grd_some h; clear h; obtain ⟨⟨g584, g585⟩, h⟩ := hh
        have hh := grd_some h; clear h; obtain ⟨⟨g586, g587, g588⟩, h⟩ := hh
        have hh := grd_some h; clear h; obtain ⟨g589, h⟩ := hh
        refine W_sound tab_ok mixed 53 _ _ _ ?_
        simp -implicitDefEqProofs only [go_sem, qa, qb, qc, qd, qe, qf, qg, qh, qi, qj, qk, ↓reduceIte, h559, g575, g576, g577, g578, h579, g580, g581, g582, h583, g584, g585, cutG_le, extO_cut, normE, g586, g587, g588, g589]
        repeat with_reducible refine ⟨by first | kernel_rfl | decide, ?_⟩
        refine Wp_wkK Wk_norm rfl ?_
        simp -implicitDefEqProofs only [go_sem, qa, qb, qc, qd, qe, qf, qg, qh, qi, qj, qk, ↓reduceIte, normE, h559, g575, g576, g577, g578, h579, g580, g581, g582, h583, g584, g585, cutG_le, extO_cut, normE, g586, g587, g588, g589]
        refine W_sound tab_ok mixed 2 _ _ _ ?_
        simp -implicitDefEqProofs only [go_sem, qa, qb, qc, qd, qe, qf, qg, qh, qi, qj, qk, ↓reduceIte, h559, g575, g576, g577, g578, h579, g580, g581, g582, h583, g584, g585, cutG_le, extO_cut, normE, g586, g587, g588, g589]
        repeat with_reducible refine ⟨by first | kernel_rfl | decide, ?_⟩
        simp only [Option.some.injEq, Prod.mk.injEq] at h; obtain ⟨rfl, rfl⟩ := h
        exact finD (e2 := [(0, .dead), (1, .dead), (2, .dead), (6, .sl false 0 0 ((Int.toNat x556) + (Int.toNat (((n555 : Nat) : Int) - x557))) 1), (7, .dead), (16, .dead)]) (ob2 := [(0, .p (putP (putP c558 (Int.toNat x556) (List.take (Int.toNat (((n555 : Nat) : Int) - x557)) (List.drop (Int.toNat x557) c558))) ((Int.toNat x556) + (Int.toNat (((n555 : Nat) : Int) - x557))) (List.replicate (Int.toNat (((n555 : Nat) : Int) - ((((Int.toNat x556) + (Int.toNat (((n555 : Nat) : Int) - x557))) : Nat) : Int))) (.int .i64 0))))]) (st' := ⟨[], [(0, .dead), (1, .dead), (2, .dead), (6, .sl false 0 0 ((Int.toNat x556) + (Int.toNat (((n555 : Nat) : Int) - x557))) 1), (7, .dead), (16, .dead)], [(0, .p (putP (putP c558 (Int.toNat x556) (List.take (Int.toNat (((n555 : Nat) : Int) - x557)) (List.drop (Int.toNat x557) c558))) ((Int.toNat x556) + (Int.toNat (((n555 : Nat) : Int) - x557))) (List.replicate (Int.toNat (((n555 : Nat) : Int) - ((((Int.toNat x556) + (Int.toNat (((n555 : Nat) : Int) - x557))) : Nat) : Int))) (.int .i64 0))))], 1, []⟩) (.k (.k (.k (.r (.k (.k .nil)))))) (.cons _ _ _ _ _ (DLes.refl _) .nil) (by kernel_rfl) (by simp only [go_sem, qa, qb, qc, qd, qe, qf, qg, qh, qi, qj, qk, ↓reduceIte, resQ_tmp, resQ_cell, resQ_nil, retD_one, retD_two, retD_three, retD_none]; first | done | exact ⟨rfl, rfl⟩ | (try simp [R.val, retD_one]))
      · cases h
def m81_2 (N : Nat) (p627 : PV) (p628 : PV) (p629 : PV) (p630 : PV) (p631 : PV) : Option ((PV × PV × PV × PV)) :=
  getL p627 fun n636 c637 =>
  getL p629 fun n639 c640 =>
  getL p628 fun n642 c643 =>
  bnd' (m76 N (.lst false n642 c643) (.lst false n639 c640) (.lst false n636 c637)) fun p644 =>
  getB p644 fun b647 =>
  some ((.bool b647), (.lst false n639 c640), (.lst false n639 c640), (.lst false n636 c637))
theorem c81_2 (N : Nat) (p627 : PV) (p628 : PV) (p629 : PV) (p630 : PV) (p631 : PV) (r : PV) (p651 : PV) (p652 : PV) (p653 : PV) (h : m81_2 N p627 p628 p629 p630 p631 = some (r, p651, p652, p653)) : V.Fn Try.prog 81 3 [.v p627, .ptr 0 0, .ptr 1 0, .ptr 2 0, .v (.ipt [p628])] [(0, .p [p629]), (1, .p [p630]), (2, .p [p631])] (fun d ob' => d = .v r ∧ ob' = [(0, .p [p651]), (1, .p [p652]), (2, .p [p653])]) := by
  unfold m81_2 at h
  refine Fn_of (sz := 13) tab_ok [0, 1, 2, 3, 4, 6] [.tmp 6] Try.func81 rfl rfl rfl (by simp) ?_
  simp only [initSt, initEnv, List.map_cons, List.map_nil, List.getD_cons_zero, List.getD_cons_succ, List.getD_nil]
  have hh := getL_some h; clear h; obtain ⟨n636, c637, h635, h⟩ := hh
  have hh := getL_some h; clear h; obtain ⟨n639, c640, h638, h⟩ := hh
  have hh := getL_some h; clear h; obtain ⟨n642, c643, h641, h⟩ := hh
  have hh := bnd'_some h; clear h; obtain ⟨p644, h645, h⟩ := hh
  refine W_sound tab_ok mixed 16 _ _ _ ?_
  simp -implicitDefEqProofs only [go_sem, qa, qb, qc, qd, qe, qf, qg, qh, qi, qj, qk, ↓reduceIte, h635, h638, h641]
  repeat with_reducible refine ⟨by first | kernel_rfl | decide, ?_⟩
  refine Wp_callP (c76 N _ _ _ _ h645) (by kernel_rfl) rfl rfl rfl rfl (by decide) ?_
  have hh := getB_some h; clear h; obtain ⟨b647, h646, h⟩ := hh
  refine W_sound tab_ok mixed 4 _ _ _ ?_
  simp -implicitDefEqProofs only [go_sem, qa, qb, qc, qd, qe, qf, qg, qh, qi, qj, qk, ↓reduceIte, h635, h638, h641, h646]
  repeat with_reducible refine ⟨by first | kernel_rfl | decide, ?_⟩
  simp only [Option.some.injEq, Prod.mk.injEq] at h; obtain ⟨rfl, rfl, rfl, rfl⟩ := h
  exact finD (e2 := [(0, .dead), (1, .dead), (2, .dead), (3, .dead), (4, .dead), (6, .v (.bool b647))]) (ob2 := [(0, .p [(.lst false n639 c640)]), (1, .p [(.lst false n639 c640)]), (2, .p [(.lst false n636 c637)])]) (st' := ⟨[], [(0, .dead), (1, .dead), (2, .dead), (3, .dead), (4, .dead), (6, .v (.bool b647))], [(0, .p [(.lst false n639 c640)]), (1, .p [(.lst false n639 c640)]), (2, .p [(.lst false n636 c637)])], 3, []⟩) (.k (.k (.k (.k (.k (.r .nil)))))) (.cons _ _ _ _ _ (DLes.refl _) (.cons _ _ _ _ _ (DLes.refl _) (.cons _ _ _ _ _ (DLes.refl _) .nil))) (by kernel_rfl) (by simp only [go_sem, qa, qb, qc, qd, qe, qf, qg, qh, qi, qj, qk, ↓reduceIte, resQ_tmp, resQ_cell, resQ_nil, retD_one, retD_two, retD_three, retD_none]; try simp [R.val, retD_one, retD_two, retD_three, retD_none])
def m98_3_L0 (N : Nat) (rec : PV → PV → PV → PV → PV → PV → Option ((PV × PV × PV × PV))) (p689 : PV) (n697 : Nat) (c698 : List PV) (n700 : Nat) (c701 : List PV) : Nat → Int → PV → PV → PV → Option (((PV × PV × PV × PV) ⊕ (PV × PV × PV)))
  | 0, _, _, _, _ => none
  | n + 1, x735, p736, p737, p738 =>
    brn (decide (x735 < ((n700 : Nat) : Int))) (
      grd (0 ≤ x735 ∧ x735 < ((n700 : Nat) : Int)) <|
      grd (0 < List.length (List.drop (Int.toNat x735) c701)) <|
      getI .i64 (gp c701 (Int.toNat x735)) fun x744 =>
      grd (0 ≤ ((n697 : Nat) : Int) ∧ ((n697 : Nat) : Int) ≤ ((n697 : Nat) : Int)) <|
      grd (List.length c698 = n697) <|
      grd ((n697 + 1) ≤ 1099511627776) <|
      bnd' (m53 N (.lst false n700 c701)) fun (n749, c750) =>
      bnd' (m99 N n749 x735 (IntKind.i64.wrap (x735 + 1)) c750) fun (n752, c753) =>
      bnd' (rec (.lst false (n697 + 1) (c698 ++ [(.int .i64 x744)])) (.lst false n752 (List.take n752 c753)) p689 p736 p737 p738) fun (p755, p757, p758, p759) =>
      getB p755 fun b761 =>
      brn b761 (
        some (.inl ((.bool true), p757, p758, p759))) (
        m98_3_L0 N rec p689 n697 c698 n700 c701 n (IntKind.i64.wrap (x735 + 1)) p757 p758 p759)) (
      some (.inr (p736, p737, p738)))
def m98_3 (N : Nat) : Nat → PV → PV → PV → PV → PV → PV → Option ((PV × PV × PV × PV))
  | 0, _, _, _, _, _, _ => none
  | fu + 1, p687, p688, p689, p690, p691, p692 =>
    getL p687 fun n697 c698 =>
    getL p688 fun n700 c701 =>
    brn (((n700 : Nat) : Int) == 0) (
      bnd' (m81_2 N (.lst false n697 c698) p689 p690 p691 p692) fun (p703, p705, p706, p707) =>
      getB p703 fun b709 =>
      some ((.bool b709), p705, p706, p707)) (
      bnd' (m98_3_L0 N (m98_3 N fu) p689 n697 c698 n700 c701 N 0 p690 p691 p692) fun o =>
      match o with
      | .inl p763 =>
        some p763
      | .inr (p764, p765, p766) =>
        some ((.bool false), p764, p765, p766))
theorem c98_3 (N : Nat) : ∀ (fu : Nat) (p687 : PV) (p688 : PV) (p689 : PV) (p690 : PV) (p691 : PV) (p692 : PV) (r : PV) (p770 : PV) (p771 : PV) (p772 : PV) (h : m98_3 N fu p687 p688 p689 p690 p691 p692 = some (r, p770, p771, p772)), V.Fn Try.prog 98 5 [.v p687, .v p688, .ptr 0 0, .ptr 4 0] [(0, .r [.fn 81 [.ptr 1 0, .ptr 2 0, .ptr 3 0, .v (.ipt [p689])]]), (1, .p [p690]), (2, .p [p691]), (3, .p [p692]), (4, .r [.fn 98 [.ptr 0 0, .ptr 4 0]])] (fun d ob' => d = .v r ∧ ob' = [(0, .r [.fn 81 [.ptr 1 0, .ptr 2 0, .ptr 3 0, .v (.ipt [p689])]]), (1, .p [p770]), (2, .p [p771]), (3, .p [p772]), (4, .r [.fn 98 [.ptr 0 0, .ptr 4 0]])]) := by
  intro fu
  induction fu with
  | zero => intro p687 p688 p689 p690 p691 p692 r p770 p771 p772 h; cases h
  | succ fu ih =>
    intro p687 p688 p689 p690 p691 p692 r p770 p771 p772 h
    rw [m98_3] at h
    refine Fn_of (sz := 40) tab_ok [0, 1, 2, 3, 6, 7, 8, 11, 15, 16, 17, 18, 38] [.tmp 6] Try.func98 rfl rfl rfl (by simp) ?_
    simp only [initSt, initEnv, List.map_cons, List.map_nil, List.getD_cons_zero, List.getD_cons_succ, List.getD_nil]
    have hh := getL_some h; clear h; obtain ⟨n697, c698, h696, h⟩ := hh
    have hh := getL_some h; clear h; obtain ⟨n700, c701, h699, h⟩ := hh
    have hh := brn_some h; clear h; rcases hh with ⟨h702, h⟩ | ⟨h702, h⟩
    · have hh := bnd'_some h; clear h; obtain ⟨⟨p703, p705, p706, p707⟩, h704, h⟩ := hh
      (try dsimp only at h)
      refine W_sound tab_ok mixed 16 _ _ _ ?_
      simp -implicitDefEqProofs only [go_sem, qa, qb, qc, qd, qe, qf, qg, qh, qi, qj, qk, ↓reduceIte, h696, h699, h702]
      repeat with_reducible refine ⟨by first | kernel_rfl | decide, ?_⟩
      refine Wp_callD [1, 2, 3] (c81_2 N _ _ _ _ _ _ _ _ _ h704) rfl rfl rfl (by first | rfl | (simp only [go_sem, qa, qb, qc, qd, qe, qf, qg, qh, qi, qj, qk, ↓reduceIte, h696, h699, h702] <;> rfl)) rfl (by kernel_rfl) ?_
      have hh := getB_some h; clear h; obtain ⟨b709, h708, h⟩ := hh
      refine W_sound tab_ok mixed 4 _ _ _ ?_
      simp -implicitDefEqProofs only [go_sem, qa, qb, qc, qd, qe, qf, qg, qh, qi, qj, qk, ↓reduceIte, h696, h699, h702, h708]
      repeat with_reducible refine ⟨by first | kernel_rfl | decide, ?_⟩
      simp only [Option.some.injEq, Prod.mk.injEq] at h; obtain ⟨rfl, rfl, rfl, rfl⟩ := h
      exact finD (e2 := [(0, .dead), (1, .dead), (2, .dead), (3, .dead), (6, .v (.bool b709)), (7, .dead), (8, .dead), (11, .dead), (15, .dead), (16, .dead), (17, .dead), (18, .dead), (38, .dead)]) (ob2 := [(0, .r [.fn 81 [.ptr 1 0, .ptr 2 0, .ptr 3 0, .v (.ipt [p689])]]), (4, .r [.fn 98 [.ptr 0 0, .ptr 4 0]]), (3, .p [p707]), (2, .p [p706]), (1, .p [p705])]) (st' := ⟨[], [(0, .dead), (1, .dead), (2, .dead), (3, .dead), (6, .v (.bool b709)), (7, .dead), (8, .dead), (11, .dead), (15, .dead), (16, .dead), (17, .dead), (18, .dead), (38, .dead)], [(0, .r [.fn 81 [.ptr 1 0, .ptr 2 0, .ptr 3 0, .v (.ipt [p689])]]), (1, .p [p705]), (2, .p [p706]), (3, .p [p707]), (4, .r [.fn 98 [.ptr 0 0, .ptr 4 0]])], 5, []⟩) (.k (.k (.k (.k (.r (.r (.r (.k (.r (.r (.r (.r (.r .nil))))))))))))) (.cons _ _ _ _ _ (DLes.refl _) (.cons _ _ _ _ _ (DLes.refl _) (.cons _ _ _ _ _ (DLes.refl _) (.cons _ _ _ _ _ (DLes.refl _) (.cons _ _ _ _ _ (DLes.refl _) .nil))))) (by kernel_rfl) (by simp only [go_sem, qa, qb, qc, qd, qe, qf, qg, qh, qi, qj, qk, ↓reduceIte, resQ_tmp, resQ_cell, resQ_nil, retD_one, retD_two, retD_three, retD_none]; try simp [R.val, retD_one, retD_two, retD_three, retD_none])
    · refine W_sound tab_ok mixed 20 _ _ _ ?_
      simp -implicitDefEqProofs only [go_sem, qa, qb, qc, qd, qe, qf, qg, qh, qi, qj, qk, ↓reduceIte, h696, h699, h702]
      repeat with_reducible refine ⟨by first | kernel_rfl | decide, ?_⟩
      have hh := bnd'_some h; clear h; obtain ⟨o773, h774, h775⟩ := hh
      refine Wp_cut (fun s => ∃ p764, ∃ p765, ∃ p766, (.inr (p764, p765, p766)) = o773 ∧ s = ⟨[], [(0, .dead), (1, .dead), (2, .dead), (3, .dead), (6, .dead), (7, .dead), (8, .dead), (11, .dead), (15, .dead), (16, .dead), (17, .dead), (18, .dead), (38, .dead)], [(0, .r [.fn 81 [.ptr 1 0, .ptr 2 0, .ptr 3 0, .v (.ipt [p689])]]), (1, .p [p764]), (2, .p [p765]), (3, .p [p766]), (4, .r [.fn 98 [.ptr 0 0, .ptr 4 0]])], 5, []⟩) ?_ ?_
      · refine Wp_block ?_
        refine Wp_loopG (fun n s => ∃ x735, ∃ p736, ∃ p737, ∃ p738, m98_3_L0 N (m98_3 N fu) p689 n697 c698 n700 c701 n x735 p736 p737 p738 = some o773 ∧ s = ⟨[], [(0, .v (.lst false n697 c698)), (1, .v (.lst false n700 c701)), (2, .dead), (3, .ptr 4 0), (6, .dead), (7, .dead), (8, .dead), (11, .dead), (15, .v (.lst false n700 c701)), (16, .v (.int .i64 ((n700 : Nat) : Int))), (17, .v (.int .i64 x735)), (18, .dead), (38, .dead)], [(0, .r [.fn 81 [.ptr 1 0, .ptr 2 0, .ptr 3 0, .v (.ipt [p689])]]), (1, .p [p736]), (2, .p [p737]), (3, .p [p738]), (4, .r [.fn 98 [.ptr 0 0, .ptr 4 0]])], 5, []⟩) N _ ((Wk_le (.r (.r (.k (.r (.k (.r (.r (.k (.r (.r (.r (.r (.r .nil))))))))))))) (OLe.refl _)).trans (cmpS_ok (st' := ⟨[], [(0, .v (.lst false n697 c698)), (1, .v (.lst false n700 c701)), (2, .dead), (3, .ptr 4 0), (6, .dead), (7, .dead), (8, .dead), (11, .dead), (15, .v (.lst false n700 c701)), (16, .v (.int .i64 ((n700 : Nat) : Int))), (17, .v (.int .i64 0)), (18, .dead), (38, .dead)], [(0, .r [.fn 81 [.ptr 1 0, .ptr 2 0, .ptr 3 0, .v (.ipt [p689])]]), (1, .p [p690]), (2, .p [p691]), (3, .p [p692]), (4, .r [.fn 98 [.ptr 0 0, .ptr 4 0]])], 5, []⟩) (by kernel_rfl))) ⟨_, _, _, _, h774, rfl⟩ ?_
        clear h774
        rintro n _ ⟨x735, p736, p737, p738, h774, rfl⟩
        cases n with
        | zero => cases h774
        | succ n =>
          rw [m98_3_L0] at h774
          have hh := brn_some h774; clear h774; rcases hh with ⟨h739, h774⟩ | ⟨h739, h774⟩
          · have hh := grd_some h774; clear h774; obtain ⟨⟨g740, g741⟩, h774⟩ := hh
            have hh := grd_some h774; clear h774; obtain ⟨g742, h774⟩ := hh
            have hh := getI_some h774; clear h774; obtain ⟨x744, h743, h774⟩ := hh
            have hh := grd_some h774; clear h774; obtain ⟨⟨g745, g746⟩, h774⟩ := hh
            have hh := grd_some h774; clear h774; obtain ⟨g747, h774⟩ := hh
            have hh := grd_some h774; clear h774; obtain ⟨g748, h774⟩ := hh
            have hh := bnd'_some h774; clear h774; obtain ⟨⟨n749, c750⟩, h751, h774⟩ := hh
            (try dsimp only at h774)
            refine W_sound tab_ok mixed 30 _ _ _ ?_
            simp -implicitDefEqProofs only [go_sem, qa, qb, qc, qd, qe, qf, qg, qh, qi, qj, qk, ↓reduceIte, h696, h699, h702, h739, g740, g741, g742, h743, g745, g746, g747, g748]
            repeat with_reducible refine ⟨by first | kernel_rfl | decide, ?_⟩
            refine Wp_callD [] (c53 N _ _ _ h751) rfl rfl rfl (by first | rfl | (simp only [go_sem, qa, qb, qc, qd, qe, qf, qg, qh, qi, qj, qk, ↓reduceIte, h696, h699, h702, h739, g740, g741, g742, h743, g745, g746, g747, g748] <;> rfl)) rfl (by kernel_rfl) ?_
            have hh := bnd'_some h774; clear h774; obtain ⟨⟨n752, c753⟩, h754, h774⟩ := hh
            (try dsimp only at h774)
            refine W_sound tab_ok mixed 3 _ _ _ ?_
            simp -implicitDefEqProofs only [go_sem, qa, qb, qc, qd, qe, qf, qg, qh, qi, qj, qk, ↓reduceIte, h696, h699, h702, h739, g740, g741, g742, h743, g745, g746, g747, g748]
            repeat with_reducible refine ⟨by first | kernel_rfl | decide, ?_⟩
            refine Wp_callD [38] (c99 N _ _ _ _ _ _ h754) rfl rfl rfl (by first | rfl | (simp only [go_sem, qa, qb, qc, qd, qe, qf, qg, qh, qi, qj, qk, ↓reduceIte, h696, h699, h702, h739, g740, g741, g742, h743, g745, g746, g747, g748] <;> rfl)) rfl (by kernel_rfl) ?_
            have hh := bnd'_some h774; clear h774; obtain ⟨⟨p755, p757, p758, p759⟩, h756, h774⟩ := hh
            (try dsimp only at h774)
            (try simp -implicitDefEqProofs only [go_sem, qa, qb, qc, qd, qe, qf, qg, qh, qi, qj, qk, ↓reduceIte, h696, h699, h702, h739, g740, g741, g742, h743, g745, g746, g747, g748])
            refine Wp_callDF [(36, (c698 ++ [(.int .i64 x744)])), (38, c753)] [0, 1, 2, 3, 4] (ih _ _ _ _ _ _ _ _ _ _ h756) rfl rfl rfl (by first | rfl | (simp only [go_sem, qa, qb, qc, qd, qe, qf, qg, qh, qi, qj, qk, ↓reduceIte, h696, h699, h702, h739, g740, g741, g742, h743, g745, g746, g747, g748] <;> rfl)) rfl (by kernel_rfl) rfl rfl (by simp [roF, obL]) ?_
            have hh := getB_some h774; clear h774; obtain ⟨b761, h760, h774⟩ := hh
            have hh := brn_some h774; clear h774; rcases hh with ⟨h762, h774⟩ | ⟨h762, h774⟩
            · refine W_sound tab_ok mixed 8 _ _ _ ?_
              simp -implicitDefEqProofs only [go_sem, qa, qb, qc, qd, qe, qf, qg, qh, qi, qj, qk, ↓reduceIte, h696, h699, h702, h739, g740, g741, g742, h743, g745, g746, g747, g748, h760, h762]
              repeat with_reducible refine ⟨by first | kernel_rfl | decide, ?_⟩
              obtain rfl := Option.some.inj h774
              (try dsimp only at h775)
              simp only [Option.some.injEq, Prod.mk.injEq] at h775; obtain ⟨rfl, rfl, rfl, rfl⟩ := h775
              exact finD (e2 := [(0, .dead), (1, .dead), (2, .dead), (3, .dead), (6, .v (.bool true)), (7, .dead), (8, .dead), (11, .dead), (15, .dead), (16, .dead), (17, .dead), (18, .dead), (38, .dead)]) (ob2 := [(35, .p [(.int .i64 x744)]), (4, .r [.fn 98 [.ptr 0 0, .ptr 4 0]]), (3, .p [p759]), (2, .p [p758]), (1, .p [p757]), (0, .r [.fn 81 [.ptr 1 0, .ptr 2 0, .ptr 3 0, .v (.ipt [p689])]])]) (st' := ⟨[], [(0, .dead), (1, .dead), (2, .dead), (3, .dead), (6, .v (.bool true)), (7, .dead), (8, .dead), (11, .dead), (15, .dead), (16, .dead), (17, .dead), (18, .dead), (38, .dead)], [(0, .r [.fn 81 [.ptr 1 0, .ptr 2 0, .ptr 3 0, .v (.ipt [p689])]]), (1, .p [p757]), (2, .p [p758]), (3, .p [p759]), (4, .r [.fn 98 [.ptr 0 0, .ptr 4 0]])], 5, []⟩) (.k (.k (.r (.k (.r (.k (.k (.r (.k (.k (.k (.k (.k .nil))))))))))))) (.cons _ _ _ _ _ (DLes.refl _) (.cons _ _ _ _ _ (DLes.refl _) (.cons _ _ _ _ _ (DLes.refl _) (.cons _ _ _ _ _ (DLes.refl _) (.cons _ _ _ _ _ (DLes.refl _) (.cons _ _ _ _ _ (DLes.refl _) .nil)))))) (by kernel_rfl) (by simp only [go_sem, qa, qb, qc, qd, qe, qf, qg, qh, qi, qj, qk, ↓reduceIte, resQ_tmp, resQ_cell, resQ_nil, retD_one, retD_two, retD_three, retD_none]; try simp [R.val, retD_one, retD_two, retD_three, retD_none])
            · refine W_sound tab_ok mixed 8 _ _ _ ?_
              simp -implicitDefEqProofs only [go_sem, qa, qb, qc, qd, qe, qf, qg, qh, qi, qj, qk, ↓reduceIte, h696, h699, h702, h739, g740, g741, g742, h743, g745, g746, g747, g748, h760, h762]
              repeat with_reducible refine ⟨by first | kernel_rfl | decide, ?_⟩
              exact cutQ _ ((Wk_le (.r (.r (.r (.r (.r (.k (.k (.r (.r (.r (.r (.k (.k .nil))))))))))))) (OLe.refl _)).trans (cmpS_ok (st' := ⟨[], [(0, .v (.lst false n697 c698)), (1, .v (.lst false n700 c701)), (2, .dead), (3, .ptr 4 0), (6, .dead), (7, .dead), (8, .dead), (11, .dead), (15, .v (.lst false n700 c701)), (16, .v (.int .i64 ((n700 : Nat) : Int))), (17, .v (.int .i64 (IntKind.i64.wrap (x735 + 1)))), (18, .dead), (38, .dead)], [(0, .r [.fn 81 [.ptr 1 0, .ptr 2 0, .ptr 3 0, .v (.ipt [p689])]]), (1, .p [p757]), (2, .p [p758]), (3, .p [p759]), (4, .r [.fn 98 [.ptr 0 0, .ptr 4 0]])], 5, []⟩) (by kernel_rfl))) ⟨n, Nat.lt_succ_self n, _, _, _, _, h774, rfl⟩
          · refine W_sound tab_ok mixed 7 _ _ _ ?_
            simp -implicitDefEqProofs only [go_sem, qa, qb, qc, qd, qe, qf, qg, qh, qi, qj, qk, ↓reduceIte, h696, h699, h702, h739]
            repeat with_reducible refine ⟨by first | kernel_rfl | decide, ?_⟩
            obtain rfl := Option.some.inj h774
            exact cutQ _ ((Wk_le (.k (.k (.r (.k (.r (.r (.r (.r (.k (.k (.k (.k (.r .nil))))))))))))) (OLe.refl _)).trans (cmpS_ok (st' := ⟨[], [(0, .dead), (1, .dead), (2, .dead), (3, .dead), (6, .dead), (7, .dead), (8, .dead), (11, .dead), (15, .dead), (16, .dead), (17, .dead), (18, .dead), (38, .dead)], [(0, .r [.fn 81 [.ptr 1 0, .ptr 2 0, .ptr 3 0, .v (.ipt [p689])]]), (1, .p [p736]), (2, .p [p737]), (3, .p [p738]), (4, .r [.fn 98 [.ptr 0 0, .ptr 4 0]])], 5, []⟩) (by kernel_rfl))) ⟨_, _, _, rfl, rfl⟩
      · rintro _ ⟨p764, p765, p766, rfl, rfl⟩
        (try dsimp only at h775)
        refine W_sound tab_ok mixed 6 _ _ _ ?_
        simp -implicitDefEqProofs only [go_sem, qa, qb, qc, qd, qe, qf, qg, qh, qi, qj, qk, ↓reduceIte, h696, h699, h702]
        repeat with_reducible refine ⟨by first | kernel_rfl | decide, ?_⟩
        simp only [Option.some.injEq, Prod.mk.injEq] at h775; obtain ⟨rfl, rfl, rfl, rfl⟩ := h775
        exact finD (e2 := [(0, .dead), (1, .dead), (2, .dead), (3, .dead), (6, .v (.bool false)), (7, .dead), (8, .dead), (11, .dead), (15, .dead), (16, .dead), (17, .dead), (18, .dead), (38, .dead)]) (ob2 := [(0, .r [.fn 81 [.ptr 1 0, .ptr 2 0, .ptr 3 0, .v (.ipt [p689])]]), (1, .p [p764]), (2, .p [p765]), (3, .p [p766]), (4, .r [.fn 98 [.ptr 0 0, .ptr 4 0]])]) (st' := ⟨[], [(0, .dead), (1, .dead), (2, .dead), (3, .dead), (6, .v (.bool false)), (7, .dead), (8, .dead), (11, .dead), (15, .dead), (16, .dead), (17, .dead), (18, .dead), (38, .dead)], [(0, .r [.fn 81 [.ptr 1 0, .ptr 2 0, .ptr 3 0, .v (.ipt [p689])]]), (1, .p [p764]), (2, .p [p765]), (3, .p [p766]), (4, .r [.fn 98 [.ptr 0 0, .ptr 4 0]])], 5, []⟩) (.r (.r (.r (.r (.r (.r (.r (.r (.r (.r (.r (.r (.r .nil))))))))))))) (.cons _ _ _ _ _ (DLes.refl _) (.cons _ _ _ _ _ (DLes.refl _) (.cons _ _ _ _ _ (DLes.refl _) (.cons _ _ _ _ _ (DLes.refl _) (.cons _ _ _ _ _ (DLes.refl _) .nil))))) (by kernel_rfl) (by simp only [go_sem, qa, qb, qc, qd, qe, qf, qg, qh, qi, qj, qk, ↓reduceIte, resQ_tmp, resQ_cell, resQ_nil, retD_one, retD_two, retD_three, retD_none]; try simp [R.val, retD_one, retD_two, retD_three, retD_none])
def m98_2_L0 (N : Nat) (p816 : PV) (n824 : Nat) (c825 : List PV) : Nat → Int → PV → PV → PV → Option (((PV × PV × PV × PV) ⊕ (PV × PV × PV)))
  | 0, _, _, _, _ => none
  | n + 1, x855, p856, p857, p858 =>
    brn (decide (x855 < ((n824 : Nat) : Int))) (
      grd (0 ≤ x855 ∧ x855 < ((n824 : Nat) : Int)) <|
      grd (0 < List.length (List.drop (Int.toNat x855) c825)) <|
      getI .i64 (gp c825 (Int.toNat x855)) fun x864 =>
      bnd' (m53 N (.lst false n824 c825)) fun (n865, c866) =>
      bnd' (m99 N n865 x855 (IntKind.i64.wrap (x855 + 1)) c866) fun (n868, c869) =>
      bnd' (m98_3 N N (.lst false 1 [(.int .i64 x864)]) (.lst false n868 (List.take n868 c869)) p816 p856 p857 p858) fun (p871, p873, p874, p875) =>
      getB p871 fun b877 =>
      brn b877 (
        some (.inl ((.bool true), p873, p874, p875))) (
        m98_2_L0 N p816 n824 c825 n (IntKind.i64.wrap (x855 + 1)) p873 p874 p875)) (
      some (.inr (p856, p857, p858)))
def m98_2 (N : Nat) (p815 : PV) (p816 : PV) (p817 : PV) (p818 : PV) (p819 : PV) : Option ((PV × PV × PV × PV)) :=
  getL p815 fun n824 c825 =>
  brn (((n824 : Nat) : Int) == 0) (
    bnd' (m81 N p816 p817 p818 p819) fun (p827, p829, p830, p831) =>
    getB p827 fun b833 =>
    some ((.bool b833), p829, p830, p831)) (
    bnd' (m98_2_L0 N p816 n824 c825 N 0 p817 p818 p819) fun o =>
    match o with
    | .inl p879 =>
      some p879
    | .inr (p880, p881, p882) =>
      some ((.bool false), p880, p881, p882))
theorem c98_2 (N : Nat) (p815 : PV) (p816 : PV) (p817 : PV) (p818 : PV) (p819 : PV) (r : PV) (p886 : PV) (p887 : PV) (p888 : PV) (h : m98_2 N p815 p816 p817 p818 p819 = some (r, p886, p887, p888)) : V.Fn Try.prog 98 5 [.v .nl, .v p815, .ptr 0 0, .ptr 4 0] [(0, .r [.fn 81 [.ptr 1 0, .ptr 2 0, .ptr 3 0, .v (.ipt [p816])]]), (1, .p [p817]), (2, .p [p818]), (3, .p [p819]), (4, .r [.fn 98 [.ptr 0 0, .ptr 4 0]])] (fun d ob' => d = .v r ∧ ob' = [(0, .r [.fn 81 [.ptr 1 0, .ptr 2 0, .ptr 3 0, .v (.ipt [p816])]]), (1, .p [p886]), (2, .p [p887]), (3, .p [p888]), (4, .r [.fn 98 [.ptr 0 0, .ptr 4 0]])]) := by
  unfold m98_2 at h
  refine Fn_of (sz := 40) tab_ok [0, 1, 2, 3, 6, 7, 8, 11, 15, 16, 17, 18, 38] [.tmp 6] Try.func98 rfl rfl rfl (by simp) ?_
  simp only [initSt, initEnv, List.map_cons, List.map_nil, List.getD_cons_zero, List.getD_cons_succ, List.getD_nil]
  have hh := getL_some h; clear h; obtain ⟨n824, c825, h823, h⟩ := hh
  have hh := brn_some h; clear h; rcases hh with ⟨h826, h⟩ | ⟨h826, h⟩
  · have hh := bnd'_some h; clear h; obtain ⟨⟨p827, p829, p830, p831⟩, h828, h⟩ := hh
    (try dsimp only at h)
    refine W_sound tab_ok mixed 16 _ _ _ ?_
    simp -implicitDefEqProofs only [go_sem, qa, qb, qc, qd, qe, qf, qg, qh, qi, qj, qk, ↓reduceIte, h823, h826]
    repeat with_reducible refine ⟨by first | kernel_rfl | decide, ?_⟩
    refine Wp_callD [1, 2, 3] (c81 N _ _ _ _ _ _ _ _ h828) rfl rfl rfl (by first | rfl | (simp only [go_sem, qa, qb, qc, qd, qe, qf, qg, qh, qi, qj, qk, ↓reduceIte, h823, h826] <;> rfl)) rfl (by kernel_rfl) ?_
    have hh := getB_some h; clear h; obtain ⟨b833, h832, h⟩ := hh
    refine W_sound tab_ok mixed 4 _ _ _ ?_
    simp -implicitDefEqProofs only [go_sem, qa, qb, qc, qd, qe, qf, qg, qh, qi, qj, qk, ↓reduceIte, h823, h826, h832]
    repeat with_reducible refine ⟨by first | kernel_rfl | decide, ?_⟩
    simp only [Option.some.injEq, Prod.mk.injEq] at h; obtain ⟨rfl, rfl, rfl, rfl⟩ := h
    exact finD (e2 := [(0, .dead), (1, .dead), (2, .dead), (3, .dead), (6, .v (.bool b833)), (7, .dead), (8, .dead), (11, .dead), (15, .dead), (16, .dead), (17, .dead), (18, .dead), (38, .dead)]) (ob2 := [(0, .r [.fn 81 [.ptr 1 0, .ptr 2 0, .ptr 3 0, .v (.ipt [p816])]]), (4, .r [.fn 98 [.ptr 0 0, .ptr 4 0]]), (3, .p [p831]), (2, .p [p830]), (1, .p [p829])]) (st' := ⟨[], [(0, .dead), (1, .dead), (2, .dead), (3, .dead), (6, .v (.bool b833)), (7, .dead), (8, .dead), (11, .dead), (15, .dead), (16, .dead), (17, .dead), (18, .dead), (38, .dead)], [(0, .r [.fn 81 [.ptr 1 0, .ptr 2 0, .ptr 3 0, .v (.ipt [p816])]]), (1, .p [p829]), (2, .p [p830]), (3, .p [p831]), (4, .r [.fn 98 [.ptr 0 0, .ptr 4 0]])], 5, []⟩) (.k (.k (.k (.k (.r (.r (.r (.k (.r (.r (.r (.r (.r .nil))))))))))))) (.cons _ _ _ _ _ (DLes.refl _) (.cons _ _ _ _ _ (DLes.refl _) (.cons _ _ _ _ _ (DLes.refl _) (.cons _ _ _ _ _ (DLes.refl _) (.cons _ _ _ _ _ (DLes.refl _) .nil))))) (by kernel_rfl) (by simp only [go_sem, qa, qb, qc, qd, qe, qf, qg, qh, qi, qj, qk, ↓reduceIte, resQ_tmp, resQ_cell, resQ_nil, retD_one, retD_two, retD_three, retD_none]; try simp [R.val, retD_one, retD_two, retD_three, retD_none])
  · refine W_sound tab_ok mixed 20 _ _ _ ?_
    simp -implicitDefEqProofs only [go_sem, qa, qb, qc, qd, qe, qf, qg, qh, qi, qj, qk, ↓reduceIte, h823, h826]
    repeat with_reducible refine ⟨by first | kernel_rfl | decide, ?_⟩
    have hh := bnd'_some h; clear h; obtain ⟨o889, h890, h891⟩ := hh
    refine Wp_cut (fun s => ∃ p880, ∃ p881, ∃ p882, (.inr (p880, p881, p882)) = o889 ∧ s = ⟨[], [(0, .dead), (1, .dead), (2, .dead), (3, .dead), (6, .dead), (7, .dead), (8, .dead), (11, .dead), (15, .dead), (16, .dead), (17, .dead), (18, .dead), (38, .dead)], [(0, .r [.fn 81 [.ptr 1 0, .ptr 2 0, .ptr 3 0, .v (.ipt [p816])]]), (1, .p [p880]), (2, .p [p881]), (3, .p [p882]), (4, .r [.fn 98 [.ptr 0 0, .ptr 4 0]])], 5, []⟩) ?_ ?_
    · refine Wp_block ?_
      refine Wp_loopG (fun n s => ∃ x855, ∃ p856, ∃ p857, ∃ p858, m98_2_L0 N p816 n824 c825 n x855 p856 p857 p858 = some o889 ∧ s = ⟨[], [(0, .v .nl), (1, .v (.lst false n824 c825)), (2, .dead), (3, .ptr 4 0), (6, .dead), (7, .dead), (8, .dead), (11, .dead), (15, .v (.lst false n824 c825)), (16, .v (.int .i64 ((n824 : Nat) : Int))), (17, .v (.int .i64 x855)), (18, .dead), (38, .dead)], [(0, .r [.fn 81 [.ptr 1 0, .ptr 2 0, .ptr 3 0, .v (.ipt [p816])]]), (1, .p [p856]), (2, .p [p857]), (3, .p [p858]), (4, .r [.fn 98 [.ptr 0 0, .ptr 4 0]])], 5, []⟩) N _ ((Wk_le (.r (.r (.k (.r (.k (.r (.r (.k (.r (.r (.r (.r (.r .nil))))))))))))) (OLe.refl _)).trans (cmpS_ok (st' := ⟨[], [(0, .v .nl), (1, .v (.lst false n824 c825)), (2, .dead), (3, .ptr 4 0), (6, .dead), (7, .dead), (8, .dead), (11, .dead), (15, .v (.lst false n824 c825)), (16, .v (.int .i64 ((n824 : Nat) : Int))), (17, .v (.int .i64 0)), (18, .dead), (38, .dead)], [(0, .r [.fn 81 [.ptr 1 0, .ptr 2 0, .ptr 3 0, .v (.ipt [p816])]]), (1, .p [p817]), (2, .p [p818]), (3, .p [p819]), (4, .r [.fn 98 [.ptr 0 0, .ptr 4 0]])], 5, []⟩) (by kernel_rfl))) ⟨_, _, _, _, h890, rfl⟩ ?_
      clear h890
      rintro n _ ⟨x855, p856, p857, p858, h890, rfl⟩
      cases n with
      | zero => cases h890
      | succ n =>
        rw [m98_2_L0] at h890
        have hh := brn_some h890; clear h890; rcases hh with ⟨h859, h890⟩ | ⟨h859, h890⟩
        · have hh := grd_some h890; clear h890; obtain ⟨⟨g860, g861⟩, h890⟩ := hh
          have hh := grd_some h890; clear h890; obtain ⟨g862, h890⟩ := hh
          have hh := getI_some h890; clear h890; obtain ⟨x864, h863, h890⟩ := hh
          have hh := bnd'_some h890; clear h890; obtain ⟨⟨n865, c866⟩, h867, h890⟩ := hh
          (try dsimp only at h890)
          refine W_sound tab_ok mixed 30 _ _ _ ?_
          simp -implicitDefEqProofs only [go_sem, qa, qb, qc, qd, qe, qf, qg, qh, qi, qj, qk, ↓reduceIte, h823, h826, h859, g860, g861, g862, h863]
          repeat with_reducible refine ⟨by first | kernel_rfl | decide, ?_⟩
          refine Wp_callD [] (c53 N _ _ _ h867) rfl rfl rfl (by first | rfl | (simp only [go_sem, qa, qb, qc, qd, qe, qf, qg, qh, qi, qj, qk, ↓reduceIte, h823, h826, h859, g860, g861, g862, h863] <;> rfl)) rfl (by kernel_rfl) ?_
          have hh := bnd'_some h890; clear h890; obtain ⟨⟨n868, c869⟩, h870, h890⟩ := hh
          (try dsimp only at h890)
          refine W_sound tab_ok mixed 3 _ _ _ ?_
          simp -implicitDefEqProofs only [go_sem, qa, qb, qc, qd, qe, qf, qg, qh, qi, qj, qk, ↓reduceIte, h823, h826, h859, g860, g861, g862, h863]
          repeat with_reducible refine ⟨by first | kernel_rfl | decide, ?_⟩
          refine Wp_callD [38] (c99 N _ _ _ _ _ _ h870) rfl rfl rfl (by first | rfl | (simp only [go_sem, qa, qb, qc, qd, qe, qf, qg, qh, qi, qj, qk, ↓reduceIte, h823, h826, h859, g860, g861, g862, h863] <;> rfl)) rfl (by kernel_rfl) ?_
          have hh := bnd'_some h890; clear h890; obtain ⟨⟨p871, p873, p874, p875⟩, h872, h890⟩ := hh
          (try dsimp only at h890)
          (try simp -implicitDefEqProofs only [go_sem, qa, qb, qc, qd, qe, qf, qg, qh, qi, qj, qk, ↓reduceIte, h823, h826, h859, g860, g861, g862, h863])
          refine Wp_callDF [(36, [(.int .i64 x864)]), (38, c869)] [0, 1, 2, 3, 4] (c98_3 N N _ _ _ _ _ _ _ _ _ _ h872) rfl rfl rfl (by first | rfl | (simp only [go_sem, qa, qb, qc, qd, qe, qf, qg, qh, qi, qj, qk, ↓reduceIte, h823, h826, h859, g860, g861, g862, h863] <;> rfl)) rfl (by kernel_rfl) rfl rfl (by simp [roF, obL]) ?_
          have hh := getB_some h890; clear h890; obtain ⟨b877, h876, h890⟩ := hh
          have hh := brn_some h890; clear h890; rcases hh with ⟨h878, h890⟩ | ⟨h878, h890⟩
          · refine W_sound tab_ok mixed 8 _ _ _ ?_
            simp -implicitDefEqProofs only [go_sem, qa, qb, qc, qd, qe, qf, qg, qh, qi, qj, qk, ↓reduceIte, h823, h826, h859, g860, g861, g862, h863, h876, h878]
            repeat with_reducible refine ⟨by first | kernel_rfl | decide, ?_⟩
            obtain rfl := Option.some.inj h890
            (try dsimp only at h891)
            simp only [Option.some.injEq, Prod.mk.injEq] at h891; obtain ⟨rfl, rfl, rfl, rfl⟩ := h891
            exact finD (e2 := [(0, .dead), (1, .dead), (2, .dead), (3, .dead), (6, .v (.bool true)), (7, .dead), (8, .dead), (11, .dead), (15, .dead), (16, .dead), (17, .dead), (18, .dead), (38, .dead)]) (ob2 := [(35, .p [(.int .i64 x864)]), (4, .r [.fn 98 [.ptr 0 0, .ptr 4 0]]), (3, .p [p875]), (2, .p [p874]), (1, .p [p873]), (0, .r [.fn 81 [.ptr 1 0, .ptr 2 0, .ptr 3 0, .v (.ipt [p816])]])]) (st' := ⟨[], [(0, .dead), (1, .dead), (2, .dead), (3, .dead), (6, .v (.bool true)), (7, .dead), (8, .dead), (11, .dead), (15, .dead), (16, .dead), (17, .dead), (18, .dead), (38, .dead)], [(0, .r [.fn 81 [.ptr 1 0, .ptr 2 0, .ptr 3 0, .v (.ipt [p816])]]), (1, .p [p873]), (2, .p [p874]), (3, .p [p875]), (4, .r [.fn 98 [.ptr 0 0, .ptr 4 0]])], 5, []⟩) (.k (.k (.r (.k (.r (.k (.k (.r (.k (.k (.k (.k (.k .nil))))))))))))) (.cons _ _ _ _ _ (DLes.refl _) (.cons _ _ _ _ _ (DLes.refl _) (.cons _ _ _ _ _ (DLes.refl _) (.cons _ _ _ _ _ (DLes.refl _) (.cons _ _ _ _ _ (DLes.refl _) (.cons _ _ _ _ _ (DLes.refl _) .nil)))))) (by kernel_rfl) (by simp only [go_sem, qa, qb, qc, qd, qe, qf, qg, qh, qi, qj, qk, ↓reduceIte, resQ_tmp, resQ_cell, resQ_nil, retD_one, retD_two, retD_three, retD_none]; try simp [R.val, retD_one, retD_two, retD_three, retD_none])
          · refine W_sound tab_ok mixed 8 _ _ _ ?_
            simp -implicitDefEqProofs only [go_sem, qa, qb, qc, qd, qe, qf, qg, qh, qi, qj, qk, ↓reduceIte, h823, h826, h859, g860, g861, g862, h863, h876, h878]
            repeat with_reducible refine ⟨by first | kernel_rfl | decide, ?_⟩
            exact cutQ _ ((Wk_le (.r (.r (.r (.r (.r (.k (.k (.r (.r (.r (.r (.k (.k .nil))))))))))))) (OLe.refl _)).trans (cmpS_ok (st' := ⟨[], [(0, .v .nl), (1, .v (.lst false n824 c825)), (2, .dead), (3, .ptr 4 0), (6, .dead), (7, .dead), (8, .dead), (11, .dead), (15, .v (.lst false n824 c825)), (16, .v (.int .i64 ((n824 : Nat) : Int))), (17, .v (.int .i64 (IntKind.i64.wrap (x855 + 1)))), (18, .dead), (38, .dead)], [(0, .r [.fn 81 [.ptr 1 0, .ptr 2 0, .ptr 3 0, .v (.ipt [p816])]]), (1, .p [p873]), (2, .p [p874]), (3, .p [p875]), (4, .r [.fn 98 [.ptr 0 0, .ptr 4 0]])], 5, []⟩) (by kernel_rfl))) ⟨n, Nat.lt_succ_self n, _, _, _, _, h890, rfl⟩
        · refine W_sound tab_ok mixed 7 _ _ _ ?_
          simp -implicitDefEqProofs only [go_sem, qa, qb, qc, qd, qe, qf, qg, qh, qi, qj, qk, ↓reduceIte, h823, h826, h859]
          repeat with_reducible refine ⟨by first | kernel_rfl | decide, ?_⟩
          obtain rfl := Option.some.inj h890
          exact cutQ _ ((Wk_le (.k (.k (.r (.k (.r (.r (.r (.r (.k (.k (.k (.k (.r .nil))))))))))))) (OLe.refl _)).trans (cmpS_ok (st' := ⟨[], [(0, .dead), (1, .dead), (2, .dead), (3, .dead), (6, .dead), (7, .dead), (8, .dead), (11, .dead), (15, .dead), (16, .dead), (17, .dead), (18, .dead), (38, .dead)], [(0, .r [.fn 81 [.ptr 1 0, .ptr 2 0, .ptr 3 0, .v (.ipt [p816])]]), (1, .p [p856]), (2, .p [p857]), (3, .p [p858]), (4, .r [.fn 98 [.ptr 0 0, .ptr 4 0]])], 5, []⟩) (by kernel_rfl))) ⟨_, _, _, rfl, rfl⟩
    · rintro _ ⟨p880, p881, p882, rfl, rfl⟩
      (try dsimp only at h891)
      refine W_sound tab_ok mixed 6 _ _ _ ?_
      simp -implicitDefEqProofs only [go_sem, qa, qb, qc, qd, qe, qf, qg, qh, qi, qj, qk, ↓reduceIte, h823, h826]
      repeat with_reducible refine ⟨by first | kernel_rfl | decide, ?_⟩
      simp only [Option.some.injEq, Prod.mk.injEq] at h891; obtain ⟨rfl, rfl, rfl, rfl⟩ := h891
      exact finD (e2 := [(0, .dead), (1, .dead), (2, .dead), (3, .dead), (6, .v (.bool false)), (7, .dead), (8, .dead), (11, .dead), (15, .dead), (16, .dead), (17, .dead), (18, .dead), (38, .dead)]) (ob2 := [(0, .r [.fn 81 [.ptr 1 0, .ptr 2 0, .ptr 3 0, .v (.ipt [p816])]]), (1, .p [p880]), (2, .p [p881]), (3, .p [p882]), (4, .r [.fn 98 [.ptr 0 0, .ptr 4 0]])]) (st' := ⟨[], [(0, .dead), (1, .dead), (2, .dead), (3, .dead), (6, .v (.bool false)), (7, .dead), (8, .dead), (11, .dead), (15, .dead), (16, .dead), (17, .dead), (18, .dead), (38, .dead)], [(0, .r [.fn 81 [.ptr 1 0, .ptr 2 0, .ptr 3 0, .v (.ipt [p816])]]), (1, .p [p880]), (2, .p [p881]), (3, .p [p882]), (4, .r [.fn 98 [.ptr 0 0, .ptr 4 0]])], 5, []⟩) (.r (.r (.r (.r (.r (.r (.r (.r (.r (.r (.r (.r (.r .nil))))))))))))) (.cons _ _ _ _ _ (DLes.refl _) (.cons _ _ _ _ _ (DLes.refl _) (.cons _ _ _ _ _ (DLes.refl _) (.cons _ _ _ _ _ (DLes.refl _) (.cons _ _ _ _ _ (DLes.refl _) .nil))))) (by kernel_rfl) (by simp only [go_sem, qa, qb, qc, qd, qe, qf, qg, qh, qi, qj, qk, ↓reduceIte, resQ_tmp, resQ_cell, resQ_nil, retD_one, retD_two, retD_three, retD_none]; try simp [R.val, retD_one, retD_two, retD_three, retD_none])
def m79_2 (N : Nat) (x902 : Int) (p903 : PV) (p904 : PV) (p905 : PV) (p906 : PV) : Option ((PV × PV × PV × PV)) :=
  bnd' (m77 N x902) fun p910 =>
  getL p910 fun n913 c914 =>
  bnd' (m98_2 N (.lst false n913 c914) p903 p904 p905 p906) fun (p915, p917, p918, p919) =>
  getB p915 fun b921 =>
  some ((.bool b921), p917, p918, p919)
theorem c79_2 (N : Nat) (x902 : Int) (p903 : PV) (p904 : PV) (p905 : PV) (p906 : PV) (r : PV) (p925 : PV) (p926 : PV) (p927 : PV) (h : m79_2 N x902 p903 p904 p905 p906 = some (r, p925, p926, p927)) : V.Fn Try.prog 79 3 [.v (.int .i64 x902), .fn 81 [.ptr 0 0, .ptr 1 0, .ptr 2 0, .v (.ipt [p903])]] [(0, .p [p904]), (1, .p [p905]), (2, .p [p906])] (fun d ob' => d = .v r ∧ ob' = [(0, .p [p925]), (1, .p [p926]), (2, .p [p927])]) := by
  unfold m79_2 at h
  refine Fn_of (sz := 11) tab_ok [0, 1, 3, 4, 5] [.tmp 4] Try.func79 rfl rfl rfl (by simp) ?_
  simp only [initSt, initEnv, List.map_cons, List.map_nil, List.getD_cons_zero, List.getD_cons_succ, List.getD_nil]
  have hh := bnd'_some h; clear h; obtain ⟨p910, h911, h⟩ := hh
  refine W_sound tab_ok mixed 18 _ _ _ ?_
  simp -implicitDefEqProofs only [go_sem, qa, qb, qc, qd, qe, qf, qg, qh, qi, qj, qk, ↓reduceIte]
  repeat with_reducible refine ⟨by first | kernel_rfl | decide, ?_⟩
  refine Wp_callP (c77 N _ _ h911) (by kernel_rfl) rfl rfl rfl rfl (by decide) ?_
  have hh := getL_some h; clear h; obtain ⟨n913, c914, h912, h⟩ := hh
  have hh := bnd'_some h; clear h; obtain ⟨⟨p915, p917, p918, p919⟩, h916, h⟩ := hh
  (try dsimp only at h)
  (try simp -implicitDefEqProofs only [go_sem, qa, qb, qc, qd, qe, qf, qg, qh, qi, qj, qk, ↓reduceIte, h912])
  refine Wp_callD [6, 0, 1, 2, 12] (c98_2 N _ _ _ _ _ _ _ _ _ h916) rfl rfl rfl (by first | rfl | (simp only [go_sem, qa, qb, qc, qd, qe, qf, qg, qh, qi, qj, qk, ↓reduceIte, h912] <;> rfl)) rfl (by kernel_rfl) ?_
  have hh := getB_some h; clear h; obtain ⟨b921, h920, h⟩ := hh
  refine W_sound tab_ok mixed 4 _ _ _ ?_
  simp -implicitDefEqProofs only [go_sem, qa, qb, qc, qd, qe, qf, qg, qh, qi, qj, qk, ↓reduceIte, h912, h920]
  repeat with_reducible refine ⟨by first | kernel_rfl | decide, ?_⟩
  simp only [Option.some.injEq, Prod.mk.injEq] at h; obtain ⟨rfl, rfl, rfl, rfl⟩ := h
  exact finD (e2 := [(0, .dead), (1, .dead), (3, .dead), (4, .v (.bool b921)), (5, .dead)]) (ob2 := [(12, .r [.fn 98 [.ptr 6 0, .ptr 12 0]]), (2, .p [p919]), (1, .p [p918]), (0, .p [p917]), (6, .r [.fn 81 [.ptr 0 0, .ptr 1 0, .ptr 2 0, .v (.ipt [p903])]])]) (st' := ⟨[], [(0, .dead), (1, .dead), (3, .dead), (4, .v (.bool b921)), (5, .dead)], [(0, .p [p917]), (1, .p [p918]), (2, .p [p919])], 3, []⟩) (.k (.k (.k (.r (.k .nil))))) (.cons _ _ _ _ _ (DLes.refl _) (.cons _ _ _ _ _ (DLes.refl _) (.cons _ _ _ _ _ (DLes.refl _) (.cons _ _ _ _ _ (DLes.refl _) (.cons _ _ _ _ _ (DLes.refl _) .nil))))) (by kernel_rfl) (by simp only [go_sem, qa, qb, qc, qd, qe, qf, qg, qh, qi, qj, qk, ↓reduceIte, resQ_tmp, resQ_cell, resQ_nil, retD_one, retD_two, retD_three, retD_none]; try simp [R.val, retD_one, retD_two, retD_three, retD_none])
def m80 (N : Nat) (p937 : PV) (p938 : PV) (p939 : PV) : Option ((PV × PV × PV)) :=
  getL p937 fun n943 c944 =>
  grd (0 < ((n943 : Nat) : Int)) <|
  grd (0 < List.length c944) <|
  getL (gp c944 0) fun n948 c949 =>
  bnd' (m79_2 N ((n948 : Nat) : Int) (.lst false n943 c944) .nl p938 p939) fun (p950, p952, p953, p954) =>
  getB p950 fun b956 =>
  some ((.bool b956), p953, p954)
theorem c80 (N : Nat) (p937 : PV) (p938 : PV) (p939 : PV) (r : PV) (p959 : PV) (p960 : PV) (h : m80 N p937 p938 p939 = some (r, p959, p960)) : V.Fn Try.prog 80 2 [.v .nl, .v (.ipt [p937]), .ptr 0 0, .ptr 1 0] [(0, .p [p938]), (1, .p [p939])] (fun d ob' => d = .v r ∧ ob' = [(0, .p [p959]), (1, .p [p960])]) := by
  unfold m80 at h
  refine Fn_of (sz := 12) tab_ok [0, 1, 2, 3, 4, 5] [.tmp 5] Try.func80 rfl rfl rfl (by simp) ?_
  simp only [initSt, initEnv, List.map_cons, List.map_nil, List.getD_cons_zero, List.getD_cons_succ, List.getD_nil]
  have hh := getL_some h; clear h; obtain ⟨n943, c944, h942, h⟩ := hh
  have hh := grd_some h; clear h; obtain ⟨g945, h⟩ := hh
  have hh := grd_some h; clear h; obtain ⟨g946, h⟩ := hh
  have hh := getL_some h; clear h; obtain ⟨n948, c949, h947, h⟩ := hh
  have hh := bnd'_some h; clear h; obtain ⟨⟨p950, p952, p953, p954⟩, h951, h⟩ := hh
  (try dsimp only at h)
  refine W_sound tab_ok mixed 12 _ _ _ ?_
  simp -implicitDefEqProofs only [go_sem, qa, qb, qc, qd, qe, qf, qg, qh, qi, qj, qk, ↓reduceIte, h942, g945, g946, h947]
  repeat with_reducible refine ⟨by first | kernel_rfl | decide, ?_⟩
  refine Wp_callD [6, 0, 1] (c79_2 N _ _ _ _ _ _ _ _ _ h951) rfl rfl rfl (by first | rfl | (simp only [go_sem, qa, qb, qc, qd, qe, qf, qg, qh, qi, qj, qk, ↓reduceIte, h942, g945, g946, h947] <;> rfl)) rfl (by kernel_rfl) ?_
  have hh := getB_some h; clear h; obtain ⟨b956, h955, h⟩ := hh
  refine W_sound tab_ok mixed 4 _ _ _ ?_
  simp -implicitDefEqProofs only [go_sem, qa, qb, qc, qd, qe, qf, qg, qh, qi, qj, qk, ↓reduceIte, h942, g945, g946, h947, h955]
  repeat with_reducible refine ⟨by first | kernel_rfl | decide, ?_⟩
  simp only [Option.some.injEq, Prod.mk.injEq] at h; obtain ⟨rfl, rfl, rfl⟩ := h
  exact finD (e2 := [(0, .dead), (1, .dead), (2, .dead), (3, .dead), (4, .dead), (5, .v (.bool b956))]) (ob2 := [(1, .p [p954]), (0, .p [p953]), (6, .p [p952])]) (st' := ⟨[], [(0, .dead), (1, .dead), (2, .dead), (3, .dead), (4, .dead), (5, .v (.bool b956))], [(0, .p [p953]), (1, .p [p954])], 2, []⟩) (.k (.k (.k (.k (.k (.r .nil)))))) (.cons _ _ _ _ _ (DLes.refl _) (.cons _ _ _ _ _ (DLes.refl _) (.cons _ _ _ _ _ (DLes.refl _) .nil))) (by kernel_rfl) (by simp only [go_sem, qa, qb, qc, qd, qe, qf, qg, qh, qi, qj, qk, ↓reduceIte, resQ_tmp, resQ_cell, resQ_nil, retD_one, retD_two, retD_three, retD_none]; try simp [R.val, retD_one, retD_two, retD_three, retD_none])
def m80_2 (N : Nat) (p1016 : PV) (p1017 : PV) (p1018 : PV) (p1019 : PV) : Option ((PV × PV × PV)) :=
  getL p1016 fun n1023 c1024 =>
  getL p1017 fun n1026 c1027 =>
  grd (0 < ((n1026 : Nat) : Int)) <|
  grd (0 < List.length c1027) <|
  getL (gp c1027 0) fun n1031 c1032 =>
  bnd' (m79_2 N ((n1031 : Nat) : Int) (.lst false n1026 c1027) (.lst false n1023 c1024) p1018 p1019) fun (p1033, p1035, p1036, p1037) =>
  getB p1033 fun b1039 =>
  some ((.bool b1039), p1036, p1037)
theorem c80_2 (N : Nat) (p1016 : PV) (p1017 : PV) (p1018 : PV) (p1019 : PV) (r : PV) (p1042 : PV) (p1043 : PV) (h : m80_2 N p1016 p1017 p1018 p1019 = some (r, p1042, p1043)) : V.Fn Try.prog 80 2 [.v p1016, .v (.ipt [p1017]), .ptr 0 0, .ptr 1 0] [(0, .p [p1018]), (1, .p [p1019])] (fun d ob' => d = .v r ∧ ob' = [(0, .p [p1042]), (1, .p [p1043])]) := by
  unfold m80_2 at h
  refine Fn_of (sz := 12) tab_ok [0, 1, 2, 3, 4, 5] [.tmp 5] Try.func80 rfl rfl rfl (by simp) ?_
  simp only [initSt, initEnv, List.map_cons, List.map_nil, List.getD_cons_zero, List.getD_cons_succ, List.getD_nil]
  have hh := getL_some h; clear h; obtain ⟨n1023, c1024, h1022, h⟩ := hh
  have hh := getL_some h; clear h; obtain ⟨n1026, c1027, h1025, h⟩ := hh
  have hh := grd_some h; clear h; obtain ⟨g1028, h⟩ := hh
  have hh := grd_some h; clear h; obtain ⟨g1029, h⟩ := hh
  have hh := getL_some h; clear h; obtain ⟨n1031, c1032, h1030, h⟩ := hh
  have hh := bnd'_some h; clear h; obtain ⟨⟨p1033, p1035, p1036, p1037⟩, h1034, h⟩ := hh
  (try dsimp only at h)
  refine W_sound tab_ok mixed 12 _ _ _ ?_
  simp -implicitDefEqProofs only [go_sem, qa, qb, qc, qd, qe, qf, qg, qh, qi, qj, qk, ↓reduceIte, h1022, h1025, g1028, g1029, h1030]
  repeat with_reducible refine ⟨by first | kernel_rfl | decide, ?_⟩
  refine Wp_callD [6, 0, 1] (c79_2 N _ _ _ _ _ _ _ _ _ h1034) rfl rfl rfl (by first | rfl | (simp only [go_sem, qa, qb, qc, qd, qe, qf, qg, qh, qi, qj, qk, ↓reduceIte, h1022, h1025, g1028, g1029, h1030] <;> rfl)) rfl (by kernel_rfl) ?_
  have hh := getB_some h; clear h; obtain ⟨b1039, h1038, h⟩ := hh
  refine W_sound tab_ok mixed 4 _ _ _ ?_
  simp -implicitDefEqProofs only [go_sem, qa, qb, qc, qd, qe, qf, qg, qh, qi, qj, qk, ↓reduceIte, h1022, h1025, g1028, g1029, h1030, h1038]
  repeat with_reducible refine ⟨by first | kernel_rfl | decide, ?_⟩
  simp only [Option.some.injEq, Prod.mk.injEq] at h; obtain ⟨rfl, rfl, rfl⟩ := h
  exact finD (e2 := [(0, .dead), (1, .dead), (2, .dead), (3, .dead), (4, .dead), (5, .v (.bool b1039))]) (ob2 := [(1, .p [p1037]), (0, .p [p1036]), (6, .p [p1035])]) (st' := ⟨[], [(0, .dead), (1, .dead), (2, .dead), (3, .dead), (4, .dead), (5, .v (.bool b1039))], [(0, .p [p1036]), (1, .p [p1037])], 2, []⟩) (.k (.k (.k (.k (.k (.r .nil)))))) (.cons _ _ _ _ _ (DLes.refl _) (.cons _ _ _ _ _ (DLes.refl _) (.cons _ _ _ _ _ (DLes.refl _) .nil))) (by kernel_rfl) (by simp only [go_sem, qa, qb, qc, qd, qe, qf, qg, qh, qi, qj, qk, ↓reduceIte, resQ_tmp, resQ_cell, resQ_nil, retD_one, retD_two, retD_three, retD_none]; try simp [R.val, retD_one, retD_two, retD_three, retD_none])
def m98_4_L0 (N : Nat) (rec : PV → PV → PV → PV → PV → Option ((PV × PV × PV))) (p1077 : PV) (n1083 : Nat) (c1084 : List PV) (n1086 : Nat) (c1087 : List PV) : Nat → Int → PV → PV → Option (((PV × PV × PV) ⊕ (PV × PV)))
  | 0, _, _, _ => none
  | n + 1, x1119, p1120, p1121 =>
    brn (decide (x1119 < ((n1086 : Nat) : Int))) (
      grd (0 ≤ x1119 ∧ x1119 < ((n1086 : Nat) : Int)) <|
      grd (0 < List.length (List.drop (Int.toNat x1119) c1087)) <|
      getI .i64 (gp c1087 (Int.toNat x1119)) fun x1127 =>
      grd (0 ≤ ((n1083 : Nat) : Int) ∧ ((n1083 : Nat) : Int) ≤ ((n1083 : Nat) : Int)) <|
      grd (List.length c1084 = n1083) <|
      grd ((n1083 + 1) ≤ 1099511627776) <|
      bnd' (m53 N (.lst false n1086 c1087)) fun (n1132, c1133) =>
      bnd' (m99 N n1132 x1119 (IntKind.i64.wrap (x1119 + 1)) c1133) fun (n1135, c1136) =>
      bnd' (rec (.lst false (n1083 + 1) (c1084 ++ [(.int .i64 x1127)])) (.lst false n1135 (List.take n1135 c1136)) p1077 p1120 p1121) fun (p1138, p1140, p1141) =>
      getB p1138 fun b1143 =>
      brn b1143 (
        some (.inl ((.bool true), p1140, p1141))) (
        m98_4_L0 N rec p1077 n1083 c1084 n1086 c1087 n (IntKind.i64.wrap (x1119 + 1)) p1140 p1141)) (
      some (.inr (p1120, p1121)))
def m98_4 (N : Nat) : Nat → PV → PV → PV → PV → PV → Option ((PV × PV × PV))
  | 0, _, _, _, _, _ => none
  | fu + 1, p1075, p1076, p1077, p1078, p1079 =>
    getL p1075 fun n1083 c1084 =>
    getL p1076 fun n1086 c1087 =>
    brn (((n1086 : Nat) : Int) == 0) (
      bnd' (m80_2 N (.lst false n1083 c1084) p1077 p1078 p1079) fun (p1089, p1091, p1092) =>
      getB p1089 fun b1094 =>
      some ((.bool b1094), p1091, p1092)) (
      bnd' (m98_4_L0 N (m98_4 N fu) p1077 n1083 c1084 n1086 c1087 N 0 p1078 p1079) fun o =>
      match o with
      | .inl p1145 =>
        some p1145
      | .inr (p1146, p1147) =>
        some ((.bool false), p1146, p1147))
theorem c98_4 (N : Nat) : ∀ (fu : Nat) (p1075 : PV) (p1076 : PV) (p1077 : PV) (p1078 : PV) (p1079 : PV) (r : PV) (p1150 : PV) (p1151 : PV) (h : m98_4 N fu p1075 p1076 p1077 p1078 p1079 = some (r, p1150, p1151)), V.Fn Try.prog 98 4 [.v p1075, .v p1076, .ptr 0 0, .ptr 3 0] [(0, .r [.fn 80 [.v (.ipt [p1077]), .ptr 1 0, .ptr 2 0]]), (1, .p [p1078]), (2, .p [p1079]), (3, .r [.fn 98 [.ptr 0 0, .ptr 3 0]])] (fun d ob' => d = .v r ∧ ob' = [(0, .r [.fn 80 [.v (.ipt [p1077]), .ptr 1 0, .ptr 2 0]]), (1, .p [p1150]), (2, .p [p1151]), (3, .r [.fn 98 [.ptr 0 0, .ptr 3 0]])]) := by
  intro fu
  induction fu with
  | zero => intro p1075 p1076 p1077 p1078 p1079 r p1150 p1151 h; cases h
  | succ fu ih =>
    intro p1075 p1076 p1077 p1078 p1079 r p1150 p1151 h
    rw [m98_4] at h
    refine Fn_of (sz := 40) tab_ok [0, 1, 2, 3, 6, 7, 8, 11, 15, 16, 17, 18, 38] [.tmp 6] Try.func98 rfl rfl rfl (by simp) ?_
    simp only [initSt, initEnv, List.map_cons, List.map_nil, List.getD_cons_zero, List.getD_cons_succ, List.getD_nil]
    have hh := getL_some h; clear h; obtain ⟨n1083, c1084, h1082, h⟩ := hh
    have hh := getL_some h; clear h; obtain ⟨n1086, c1087, h1085, h⟩ := hh
    have hh := brn_some h; clear h; rcases hh with ⟨h1088, h⟩ | ⟨h1088, h⟩
    · have hh := bnd'_some h; clear h; obtain ⟨⟨p1089, p1091, p1092⟩, h1090, h⟩ := hh
      (try dsimp only at h)
      refine W_sound tab_ok mixed 16 _ _ _ ?_
      simp -implicitDefEqProofs only [go_sem, qa, qb, qc, qd, qe, qf, qg, qh, qi, qj, qk, ↓reduceIte, h1082, h1085, h1088]
      repeat with_reducible refine ⟨by first | kernel_rfl | decide, ?_⟩
      refine Wp_callD [1, 2] (c80_2 N _ _ _ _ _ _ _ h1090) rfl rfl rfl (by first | rfl | (simp only [go_sem, qa, qb, qc, qd, qe, qf, qg, qh, qi, qj, qk, ↓reduceIte, h1082, h1085, h1088] <;> rfl)) rfl (by kernel_rfl) ?_
      have hh := getB_some h; clear h; obtain ⟨b1094, h1093, h⟩ := hh
      refine W_sound tab_ok mixed 4 _ _ _ ?_
      simp -implicitDefEqProofs only [go_sem, qa, qb, qc, qd, qe, qf, qg, qh, qi, qj, qk, ↓reduceIte, h1082, h1085, h1088, h1093]
      repeat with_reducible refine ⟨by first | kernel_rfl | decide, ?_⟩
      simp only [Option.some.injEq, Prod.mk.injEq] at h; obtain ⟨rfl, rfl, rfl⟩ := h
      exact finD (e2 := [(0, .dead), (1, .dead), (2, .dead), (3, .dead), (6, .v (.bool b1094)), (7, .dead), (8, .dead), (11, .dead), (15, .dead), (16, .dead), (17, .dead), (18, .dead), (38, .dead)]) (ob2 := [(0, .r [.fn 80 [.v (.ipt [p1077]), .ptr 1 0, .ptr 2 0]]), (3, .r [.fn 98 [.ptr 0 0, .ptr 3 0]]), (2, .p [p1092]), (1, .p [p1091])]) (st' := ⟨[], [(0, .dead), (1, .dead), (2, .dead), (3, .dead), (6, .v (.bool b1094)), (7, .dead), (8, .dead), (11, .dead), (15, .dead), (16, .dead), (17, .dead), (18, .dead), (38, .dead)], [(0, .r [.fn 80 [.v (.ipt [p1077]), .ptr 1 0, .ptr 2 0]]), (1, .p [p1091]), (2, .p [p1092]), (3, .r [.fn 98 [.ptr 0 0, .ptr 3 0]])], 4, []⟩) (.k (.k (.k (.k (.r (.r (.r (.k (.r (.r (.r (.r (.r .nil))))))))))))) (.cons _ _ _ _ _ (DLes.refl _) (.cons _ _ _ _ _ (DLes.refl _) (.cons _ _ _ _ _ (DLes.refl _) (.cons _ _ _ _ _ (DLes.refl _) .nil)))) (by kernel_rfl) (by simp only [go_sem, qa, qb, qc, qd, qe, qf, qg, qh, qi, qj, qk, ↓reduceIte, resQ_tmp, resQ_cell, resQ_nil, retD_one, retD_two, retD_three, retD_none]; try simp [R.val, retD_one, retD_two, retD_three, retD_none])
    · refine W_sound tab_ok mixed 20 _ _ _ ?_
      simp -implicitDefEqProofs only [go_sem, qa, qb, qc, qd, qe, qf, qg, qh, qi, qj, qk, ↓reduceIte, h1082, h1085, h1088]
      repeat with_reducible refine ⟨by first | kernel_rfl | decide, ?_⟩
      have hh := bnd'_some h; clear h; obtain ⟨o1152, h1153, h1154⟩ := hh
      refine Wp_cut (fun s => ∃ p1146, ∃ p1147, (.inr (p1146, p1147)) = o1152 ∧ s = ⟨[], [(0, .dead), (1, .dead), (2, .dead), (3, .dead), (6, .dead), (7, .dead), (8, .dead), (11, .dead), (15, .dead), (16, .dead), (17, .dead), (18, .dead), (38, .dead)], [(0, .r [.fn 80 [.v (.ipt [p1077]), .ptr 1 0, .ptr 2 0]]), (1, .p [p1146]), (2, .p [p1147]), (3, .r [.fn 98 [.ptr 0 0, .ptr 3 0]])], 4, []⟩) ?_ ?_
      · refine Wp_block ?_
        refine Wp_loopG (fun n s => ∃ x1119, ∃ p1120, ∃ p1121, m98_4_L0 N (m98_4 N fu) p1077 n1083 c1084 n1086 c1087 n x1119 p1120 p1121 = some o1152 ∧ s = ⟨[], [(0, .v (.lst false n1083 c1084)), (1, .v (.lst false n1086 c1087)), (2, .dead), (3, .ptr 3 0), (6, .dead), (7, .dead), (8, .dead), (11, .dead), (15, .v (.lst false n1086 c1087)), (16, .v (.int .i64 ((n1086 : Nat) : Int))), (17, .v (.int .i64 x1119)), (18, .dead), (38, .dead)], [(0, .r [.fn 80 [.v (.ipt [p1077]), .ptr 1 0, .ptr 2 0]]), (1, .p [p1120]), (2, .p [p1121]), (3, .r [.fn 98 [.ptr 0 0, .ptr 3 0]])], 4, []⟩) N _ ((Wk_le (.r (.r (.k (.r (.k (.r (.r (.k (.r (.r (.r (.r (.r .nil))))))))))))) (OLe.refl _)).trans (cmpS_ok (st' := ⟨[], [(0, .v (.lst false n1083 c1084)), (1, .v (.lst false n1086 c1087)), (2, .dead), (3, .ptr 3 0), (6, .dead), (7, .dead), (8, .dead), (11, .dead), (15, .v (.lst false n1086 c1087)), (16, .v (.int .i64 ((n1086 : Nat) : Int))), (17, .v (.int .i64 0)), (18, .dead), (38, .dead)], [(0, .r [.fn 80 [.v (.ipt [p1077]), .ptr 1 0, .ptr 2 0]]), (1, .p [p1078]), (2, .p [p1079]), (3, .r [.fn 98 [.ptr 0 0, .ptr 3 0]])], 4, []⟩) (by kernel_rfl))) ⟨_, _, _, h1153, rfl⟩ ?_
        clear h1153
        rintro n _ ⟨x1119, p1120, p1121, h1153, rfl⟩
        cases n with
        | zero => cases h1153
        | succ n =>
          rw [m98_4_L0] at h1153
          have hh := brn_some h1153; clear h1153; rcases hh with ⟨h1122, h1153⟩ | ⟨h1122, h1153⟩
          · have hh := grd_some h1153; clear h1153; obtain ⟨⟨g1123, g1124⟩, h1153⟩ := hh
            have hh := grd_some h1153; clear h1153; obtain ⟨g1125, h1153⟩ := hh
            have hh := getI_some h1153; clear h1153; obtain ⟨x1127, h1126, h1153⟩ := hh
            have hh := grd_some h1153; clear h1153; obtain ⟨⟨g1128, g1129⟩, h1153⟩ := hh
            have hh := grd_some h1153; clear h1153; obtain ⟨g1130, h1153⟩ := hh
            have hh := grd_some h1153; clear h1153; obtain ⟨g1131, h1153⟩ := hh
            have hh := bnd'_some h1153; clear h1153; obtain ⟨⟨n1132, c1133⟩, h1134, h1153⟩ := hh
            (try dsimp only at h1153)
            refine W_sound tab_ok mixed 30 _ _ _ ?_
            simp -implicitDefEqProofs only [go_sem, qa, qb, qc, qd, qe, qf, qg, qh, qi, qj, qk, ↓reduceIte, h1082, h1085, h1088, h1122, g1123, g1124, g1125, h1126, g1128, g1129, g1130, g1131]
            repeat with_reducible refine ⟨by first | kernel_rfl | decide, ?_⟩
            refine Wp_callD [] (c53 N _ _ _ h1134) rfl rfl rfl (by first | rfl | (simp only [go_sem, qa, qb, qc, qd, qe, qf, qg, qh, qi, qj, qk, ↓reduceIte, h1082, h1085, h1088, h1122, g1123, g1124, g1125, h1126, g1128, g1129, g1130, g1131] <;> rfl)) rfl (by kernel_rfl) ?_
            have hh := bnd'_some h1153; clear h1153; obtain ⟨⟨n1135, c1136⟩, h1137, h1153⟩ := hh
            (try dsimp only at h1153)
            refine W_sound tab_ok mixed 3 _ _ _ ?_
            simp -implicitDefEqProofs only [go_sem, qa, qb, qc, qd, qe, qf, qg, qh, qi, qj, qk, ↓reduceIte, h1082, h1085, h1088, h1122, g1123, g1124, g1125, h1126, g1128, g1129, g1130, g1131]
            repeat with_reducible refine ⟨by first | kernel_rfl | decide, ?_⟩
            refine Wp_callD [37] (c99 N _ _ _ _ _ _ h1137) rfl rfl rfl (by first | rfl | (simp only [go_sem, qa, qb, qc, qd, qe, qf, qg, qh, qi, qj, qk, ↓reduceIte, h1082, h1085, h1088, h1122, g1123, g1124, g1125, h1126, g1128, g1129, g1130, g1131] <;> rfl)) rfl (by kernel_rfl) ?_
            have hh := bnd'_some h1153; clear h1153; obtain ⟨⟨p1138, p1140, p1141⟩, h1139, h1153⟩ := hh
            (try dsimp only at h1153)
            (try simp -implicitDefEqProofs only [go_sem, qa, qb, qc, qd, qe, qf, qg, qh, qi, qj, qk, ↓reduceIte, h1082, h1085, h1088, h1122, g1123, g1124, g1125, h1126, g1128, g1129, g1130, g1131])
            refine Wp_callDF [(35, (c1084 ++ [(.int .i64 x1127)])), (37, c1136)] [0, 1, 2, 3] (ih _ _ _ _ _ _ _ _ h1139) rfl rfl rfl (by first | rfl | (simp only [go_sem, qa, qb, qc, qd, qe, qf, qg, qh, qi, qj, qk, ↓reduceIte, h1082, h1085, h1088, h1122, g1123, g1124, g1125, h1126, g1128, g1129, g1130, g1131] <;> rfl)) rfl (by kernel_rfl) rfl rfl (by simp [roF, obL]) ?_
            have hh := getB_some h1153; clear h1153; obtain ⟨b1143, h1142, h1153⟩ := hh
            have hh := brn_some h1153; clear h1153; rcases hh with ⟨h1144, h1153⟩ | ⟨h1144, h1153⟩
            · refine W_sound tab_ok mixed 8 _ _ _ ?_
              simp -implicitDefEqProofs only [go_sem, qa, qb, qc, qd, qe, qf, qg, qh, qi, qj, qk, ↓reduceIte, h1082, h1085, h1088, h1122, g1123, g1124, g1125, h1126, g1128, g1129, g1130, g1131, h1142, h1144]
              repeat with_reducible refine ⟨by first | kernel_rfl | decide, ?_⟩
              obtain rfl := Option.some.inj h1153
              (try dsimp only at h1154)
              simp only [Option.some.injEq, Prod.mk.injEq] at h1154; obtain ⟨rfl, rfl, rfl⟩ := h1154
              exact finD (e2 := [(0, .dead), (1, .dead), (2, .dead), (3, .dead), (6, .v (.bool true)), (7, .dead), (8, .dead), (11, .dead), (15, .dead), (16, .dead), (17, .dead), (18, .dead), (38, .dead)]) (ob2 := [(34, .p [(.int .i64 x1127)]), (3, .r [.fn 98 [.ptr 0 0, .ptr 3 0]]), (2, .p [p1141]), (1, .p [p1140]), (0, .r [.fn 80 [.v (.ipt [p1077]), .ptr 1 0, .ptr 2 0]])]) (st' := ⟨[], [(0, .dead), (1, .dead), (2, .dead), (3, .dead), (6, .v (.bool true)), (7, .dead), (8, .dead), (11, .dead), (15, .dead), (16, .dead), (17, .dead), (18, .dead), (38, .dead)], [(0, .r [.fn 80 [.v (.ipt [p1077]), .ptr 1 0, .ptr 2 0]]), (1, .p [p1140]), (2, .p [p1141]), (3, .r [.fn 98 [.ptr 0 0, .ptr 3 0]])], 4, []⟩) (.k (.k (.r (.k (.r (.k (.k (.r (.k (.k (.k (.k (.k .nil))))))))))))) (.cons _ _ _ _ _ (DLes.refl _) (.cons _ _ _ _ _ (DLes.refl _) (.cons _ _ _ _ _ (DLes.refl _) (.cons _ _ _ _ _ (DLes.refl _) (.cons _ _ _ _ _ (DLes.refl _) .nil))))) (by kernel_rfl) (by simp only [go_sem, qa, qb, qc, qd, qe, qf, qg, qh, qi, qj, qk, ↓reduceIte, resQ_tmp, resQ_cell, resQ_nil, retD_one, retD_two, retD_three, retD_none]; try simp [R.val, retD_one, retD_two, retD_three, retD_none])
            · refine W_sound tab_ok mixed 8 _ _ _ ?_
              simp -implicitDefEqProofs only [go_sem, qa, qb, qc, qd, qe, qf, qg, qh, qi, qj, qk, ↓reduceIte, h1082, h1085, h1088, h1122, g1123, g1124, g1125, h1126, g1128, g1129, g1130, g1131, h1142, h1144]
              repeat with_reducible refine ⟨by first | kernel_rfl | decide, ?_⟩
              exact cutQ _ ((Wk_le (.r (.r (.r (.r (.r (.k (.k (.r (.r (.r (.r (.k (.k .nil))))))))))))) (OLe.refl _)).trans (cmpS_ok (st' := ⟨[], [(0, .v (.lst false n1083 c1084)), (1, .v (.lst false n1086 c1087)), (2, .dead), (3, .ptr 3 0), (6, .dead), (7, .dead), (8, .dead), (11, .dead), (15, .v (.lst false n1086 c1087)), (16, .v (.int .i64 ((n1086 : Nat) : Int))), (17, .v (.int .i64 (IntKind.i64.wrap (x1119 + 1)))), (18, .dead), (38, .dead)], [(0, .r [.fn 80 [.v (.ipt [p1077]), .ptr 1 0, .ptr 2 0]]), (1, .p [p1140]), (2, .p [p1141]), (3, .r [.fn 98 [.ptr 0 0, .ptr 3 0]])], 4, []⟩) (by kernel_rfl))) ⟨n, Nat.lt_succ_self n, _, _, _, h1153, rfl⟩
          · refine W_sound tab_ok mixed 7 _ _ _ ?_
            simp -implicitDefEqProofs only [go_sem, qa, qb, qc, qd, qe, qf, qg, qh, qi, qj, qk, ↓reduceIte, h1082, h1085, h1088, h1122]
            repeat with_reducible refine ⟨by first | kernel_rfl | decide, ?_⟩
            obtain rfl := Option.some.inj h1153
            exact cutQ _ ((Wk_le (.k (.k (.r (.k (.r (.r (.r (.r (.k (.k (.k (.k (.r .nil))))))))))))) (OLe.refl _)).trans (cmpS_ok (st' := ⟨[], [(0, .dead), (1, .dead), (2, .dead), (3, .dead), (6, .dead), (7, .dead), (8, .dead), (11, .dead), (15, .dead), (16, .dead), (17, .dead), (18, .dead), (38, .dead)], [(0, .r [.fn 80 [.v (.ipt [p1077]), .ptr 1 0, .ptr 2 0]]), (1, .p [p1120]), (2, .p [p1121]), (3, .r [.fn 98 [.ptr 0 0, .ptr 3 0]])], 4, []⟩) (by kernel_rfl))) ⟨_, _, rfl, rfl⟩
      · rintro _ ⟨p1146, p1147, rfl, rfl⟩
        (try dsimp only at h1154)
        refine W_sound tab_ok mixed 6 _ _ _ ?_
        simp -implicitDefEqProofs only [go_sem, qa, qb, qc, qd, qe, qf, qg, qh, qi, qj, qk, ↓reduceIte, h1082, h1085, h1088]
        repeat with_reducible refine ⟨by first | kernel_rfl | decide, ?_⟩
        simp only [Option.some.injEq, Prod.mk.injEq] at h1154; obtain ⟨rfl, rfl, rfl⟩ := h1154
        exact finD (e2 := [(0, .dead), (1, .dead), (2, .dead), (3, .dead), (6, .v (.bool false)), (7, .dead), (8, .dead), (11, .dead), (15, .dead), (16, .dead), (17, .dead), (18, .dead), (38, .dead)]) (ob2 := [(0, .r [.fn 80 [.v (.ipt [p1077]), .ptr 1 0, .ptr 2 0]]), (1, .p [p1146]), (2, .p [p1147]), (3, .r [.fn 98 [.ptr 0 0, .ptr 3 0]])]) (st' := ⟨[], [(0, .dead), (1, .dead), (2, .dead), (3, .dead), (6, .v (.bool false)), (7, .dead), (8, .dead), (11, .dead), (15, .dead), (16, .dead), (17, .dead), (18, .dead), (38, .dead)], [(0, .r [.fn 80 [.v (.ipt [p1077]), .ptr 1 0, .ptr 2 0]]), (1, .p [p1146]), (2, .p [p1147]), (3, .r [.fn 98 [.ptr 0 0, .ptr 3 0]])], 4, []⟩) (.r (.r (.r (.r (.r (.r (.r (.r (.r (.r (.r (.r (.r .nil))))))))))))) (.cons _ _ _ _ _ (DLes.refl _) (.cons _ _ _ _ _ (DLes.refl _) (.cons _ _ _ _ _ (DLes.refl _) (.cons _ _ _ _ _ (DLes.refl _) .nil)))) (by kernel_rfl) (by simp only [go_sem, qa, qb, qc, qd, qe, qf, qg, qh, qi, qj, qk, ↓reduceIte, resQ_tmp, resQ_cell, resQ_nil, retD_one, retD_two, retD_three, retD_none]; try simp [R.val, retD_one, retD_two, retD_three, retD_none])
def m98_L0 (N : Nat) (p1190 : PV) (n1196 : Nat) (c1197 : List PV) : Nat → Int → PV → PV → Option (((PV × PV × PV) ⊕ (PV × PV)))
  | 0, _, _, _ => none
  | n + 1, x1225, p1226, p1227 =>
    brn (decide (x1225 < ((n1196 : Nat) : Int))) (
      grd (0 ≤ x1225 ∧ x1225 < ((n1196 : Nat) : Int)) <|
      grd (0 < List.length (List.drop (Int.toNat x1225) c1197)) <|
      getI .i64 (gp c1197 (Int.toNat x1225)) fun x1233 =>
      bnd' (m53 N (.lst false n1196 c1197)) fun (n1234, c1235) =>
      bnd' (m99 N n1234 x1225 (IntKind.i64.wrap (x1225 + 1)) c1235) fun (n1237, c1238) =>
      bnd' (m98_4 N N (.lst false 1 [(.int .i64 x1233)]) (.lst false n1237 (List.take n1237 c1238)) p1190 p1226 p1227) fun (p1240, p1242, p1243) =>
      getB p1240 fun b1245 =>
      brn b1245 (
        some (.inl ((.bool true), p1242, p1243))) (
        m98_L0 N p1190 n1196 c1197 n (IntKind.i64.wrap (x1225 + 1)) p1242 p1243)) (
      some (.inr (p1226, p1227)))
def m98 (N : Nat) (p1189 : PV) (p1190 : PV) (p1191 : PV) (p1192 : PV) : Option ((PV × PV × PV)) :=
  getL p1189 fun n1196 c1197 =>
  brn (((n1196 : Nat) : Int) == 0) (
    bnd' (m80 N p1190 p1191 p1192) fun (p1199, p1201, p1202) =>
    getB p1199 fun b1204 =>
    some ((.bool b1204), p1201, p1202)) (
    bnd' (m98_L0 N p1190 n1196 c1197 N 0 p1191 p1192) fun o =>
    match o with
    | .inl p1247 =>
      some p1247
    | .inr (p1248, p1249) =>
      some ((.bool false), p1248, p1249))
theorem c98 (N : Nat) (p1189 : PV) (p1190 : PV) (p1191 : PV) (p1192 : PV) (r : PV) (p1252 : PV) (p1253 : PV) (h : m98 N p1189 p1190 p1191 p1192 = some (r, p1252, p1253)) : V.Fn Try.prog 98 4 [.v .nl, .v p1189, .ptr 0 0, .ptr 3 0] [(0, .r [.fn 80 [.v (.ipt [p1190]), .ptr 1 0, .ptr 2 0]]), (1, .p [p1191]), (2, .p [p1192]), (3, .r [.fn 98 [.ptr 0 0, .ptr 3 0]])] (fun d ob' => d = .v r ∧ ob' = [(0, .r [.fn 80 [.v (.ipt [p1190]), .ptr 1 0, .ptr 2 0]]), (1, .p [p1252]), (2, .p [p1253]), (3, .r [.fn 98 [.ptr 0 0, .ptr 3 0]])]) := by
  unfold m98 at h
  refine Fn_of (sz := 40) tab_ok [0, 1, 2, 3, 6, 7, 8, 11, 15, 16, 17, 18, 38] [.tmp 6] Try.func98 rfl rfl rfl (by simp) ?_
  simp only [initSt, initEnv, List.map_cons, List.map_nil, List.getD_cons_zero, List.getD_cons_succ, List.getD_nil]
  have hh := getL_some h; clear h; obtain ⟨n1196, c1197, h1195, h⟩ := hh
  have hh := brn_some h; clear h; rcases hh with ⟨h1198, h⟩ | ⟨h1198, h⟩
  · have hh := bnd'_some h; clear h; obtain ⟨⟨p1199, p1201, p1202⟩, h1200, h⟩ := hh
    (try dsimp only at h)
    refine W_sound tab_ok mixed 16 _ _ _ ?_
    simp -implicitDefEqProofs only [go_sem, qa, qb, qc, qd, qe, qf, qg, qh, qi, qj, qk, ↓reduceIte, h1195, h1198]
    repeat with_reducible refine ⟨by first | kernel_rfl | decide, ?_⟩
    refine Wp_callD [1, 2] (c80 N _ _ _ _ _ _ h1200) rfl rfl rfl (by first | rfl | (simp only [go_sem, qa, qb, qc, qd, qe, qf, qg, qh, qi, qj, qk, ↓reduceIte, h1195, h1198] <;> rfl)) rfl (by kernel_rfl) ?_
    have hh := getB_some h; clear h; obtain ⟨b1204, h1203, h⟩ := hh
    refine W_sound tab_ok mixed 4 _ _ _ ?_
    simp -implicitDefEqProofs only [go_sem, qa, qb, qc, qd, qe, qf, qg, qh, qi, qj, qk, ↓reduceIte, h1195, h1198, h1203]
    repeat with_reducible refine ⟨by first | kernel_rfl | decide, ?_⟩
    simp only [Option.some.injEq, Prod.mk.injEq] at h; obtain ⟨rfl, rfl, rfl⟩ := h
    exact finD (e2 := [(0, .dead), (1, .dead), (2, .dead), (3, .dead), (6, .v (.bool b1204)), (7, .dead), (8, .dead), (11, .dead), (15, .dead), (16, .dead), (17, .dead), (18, .dead), (38, .dead)]) (ob2 := [(0, .r [.fn 80 [.v (.ipt [p1190]), .ptr 1 0, .ptr 2 0]]), (3, .r [.fn 98 [.ptr 0 0, .ptr 3 0]]), (2, .p [p1202]), (1, .p [p1201])]) (st' := ⟨[], [(0, .dead), (1, .dead), (2, .dead), (3, .dead), (6, .v (.bool b1204)), (7, .dead), (8, .dead), (11, .dead), (15, .dead), (16, .dead), (17, .dead), (18, .dead), (38, .dead)], [(0, .r [.fn 80 [.v (.ipt [p1190]), .ptr 1 0, .ptr 2 0]]), (1, .p [p1201]), (2, .p [p1202]), (3, .r [.fn 98 [.ptr 0 0, .ptr 3 0]])], 4, []⟩) (.k (.k (.k (.k (.r (.r (.r (.k (.r (.r (.r (.r (.r .nil))))))))))))) (.cons _ _ _ _ _ (DLes.refl _) (.cons _ _ _ _ _ (DLes.refl _) (.cons _ _ _ _ _ (DLes.refl _) (.cons _ _ _ _ _ (DLes.refl _) .nil)))) (by kernel_rfl) (by simp only [go_sem, qa, qb, qc, qd, qe, qf, qg, qh, qi, qj, qk, ↓reduceIte, resQ_tmp, resQ_cell, resQ_nil, retD_one, retD_two, retD_three, retD_none]; try simp [R.val, retD_one, retD_two, retD_three, retD_none])
  · refine W_sound tab_ok mixed 20 _ _ _ ?_
    simp -implicitDefEqProofs only [go_sem, qa, qb, qc, qd, qe, qf, qg, qh, qi, qj, qk, ↓reduceIte, h1195, h1198]
    repeat with_reducible refine ⟨by first | kernel_rfl | decide, ?_⟩
    have hh := bnd'_some h; clear h; obtain ⟨o1254, h1255, h1256⟩ := hh
    refine Wp_cut (fun s => ∃ p1248, ∃ p1249, (.inr (p1248, p1249)) = o1254 ∧ s = ⟨[], [(0, .dead), (1, .dead), (2, .dead), (3, .dead), (6, .dead), (7, .dead), (8, .dead), (11, .dead), (15, .dead), (16, .dead), (17, .dead), (18, .dead), (38, .dead)], [(0, .r [.fn 80 [.v (.ipt [p1190]), .ptr 1 0, .ptr 2 0]]), (1, .p [p1248]), (2, .p [p1249]), (3, .r [.fn 98 [.ptr 0 0, .ptr 3 0]])], 4, []⟩) ?_ ?_
    · refine Wp_block ?_
      refine Wp_loopG (fun n s => ∃ x1225, ∃ p1226, ∃ p1227, m98_L0 N p1190 n1196 c1197 n x1225 p1226 p1227 = some o1254 ∧ s = ⟨[], [(0, .v .nl), (1, .v (.lst false n1196 c1197)), (2, .dead), (3, .ptr 3 0), (6, .dead), (7, .dead), (8, .dead), (11, .dead), (15, .v (.lst false n1196 c1197)), (16, .v (.int .i64 ((n1196 : Nat) : Int))), (17, .v (.int .i64 x1225)), (18, .dead), (38, .dead)], [(0, .r [.fn 80 [.v (.ipt [p1190]), .ptr 1 0, .ptr 2 0]]), (1, .p [p1226]), (2, .p [p1227]), (3, .r [.fn 98 [.ptr 0 0, .ptr 3 0]])], 4, []⟩) N _ ((Wk_le (.r (.r (.k (.r (.k (.r (.r (.k (.r (.r (.r (.r (.r .nil))))))))))))) (OLe.refl _)).trans (cmpS_ok (st' := ⟨[], [(0, .v .nl), (1, .v (.lst false n1196 c1197)), (2, .dead), (3, .ptr 3 0), (6, .dead), (7, .dead), (8, .dead), (11, .dead), (15, .v (.lst false n1196 c1197)), (16, .v (.int .i64 ((n1196 : Nat) : Int))), (17, .v (.int .i64 0)), (18, .dead), (38, .dead)], [(0, .r [.fn 80 [.v (.ipt [p1190]), .ptr 1 0, .ptr 2 0]]), (1, .p [p1191]), (2, .p [p1192]), (3, .r [.fn 98 [.ptr 0 0, .ptr 3 0]])], 4, []⟩) (by kernel_rfl))) ⟨_, _, _, h1255, rfl⟩ ?_
      clear h1255
      rintro n _ ⟨x1225, p1226, p1227, h1255, rfl⟩
      cases n with
      | zero => cases h1255
      | succ n =>
        rw [m98_L0] at h1255
        have hh := brn_some h1255; clear h1255; rcases hh with ⟨h1228, h1255⟩ | ⟨h1228, h1255⟩
        · have hh := grd_some h1255; clear h1255; obtain ⟨⟨g1229, g1230⟩, h1255⟩ := hh
          have hh := grd_some h1255; clear h1255; obtain ⟨g1231, h1255⟩ := hh
          have hh := getI_some h1255; clear h1255; obtain ⟨x1233, h1232, h1255⟩ := hh
          have hh := bnd'_some h1255; clear h1255; obtain ⟨⟨n1234, c1235⟩, h1236, h1255⟩ := hh
          (try dsimp only at h1255)
          refine W_sound tab_ok mixed 30 _ _ _ ?_
          simp -implicitDefEqProofs only [go_sem, qa, qb, qc, qd, qe, qf, qg, qh, qi, qj, qk, ↓reduceIte, h1195, h1198, h1228, g1229, g1230, g1231, h1232]
          repeat with_reducible refine ⟨by first | kernel_rfl | decide, ?_⟩
          refine Wp_callD [] (c53 N _ _ _ h1236) rfl rfl rfl (by first | rfl | (simp only [go_sem, qa, qb, qc, qd, qe, qf, qg, qh, qi, qj, qk, ↓reduceIte, h1195, h1198, h1228, g1229, g1230, g1231, h1232] <;> rfl)) rfl (by kernel_rfl) ?_
          have hh := bnd'_some h1255; clear h1255; obtain ⟨⟨n1237, c1238⟩, h1239, h1255⟩ := hh
          (try dsimp only at h1255)
          refine W_sound tab_ok mixed 3 _ _ _ ?_
          simp -implicitDefEqProofs only [go_sem, qa, qb, qc, qd, qe, qf, qg, qh, qi, qj, qk, ↓reduceIte, h1195, h1198, h1228, g1229, g1230, g1231, h1232]
          repeat with_reducible refine ⟨by first | kernel_rfl | decide, ?_⟩
          refine Wp_callD [37] (c99 N _ _ _ _ _ _ h1239) rfl rfl rfl (by first | rfl | (simp only [go_sem, qa, qb, qc, qd, qe, qf, qg, qh, qi, qj, qk, ↓reduceIte, h1195, h1198, h1228, g1229, g1230, g1231, h1232] <;> rfl)) rfl (by kernel_rfl) ?_
          have hh := bnd'_some h1255; clear h1255; obtain ⟨⟨p1240, p1242, p1243⟩, h1241, h1255⟩ := hh
          (try dsimp only at h1255)
          (try simp -implicitDefEqProofs only [go_sem, qa, qb, qc, qd, qe, qf, qg, qh, qi, qj, qk, ↓reduceIte, h1195, h1198, h1228, g1229, g1230, g1231, h1232])
          refine Wp_callDF [(35, [(.int .i64 x1233)]), (37, c1238)] [0, 1, 2, 3] (c98_4 N N _ _ _ _ _ _ _ _ h1241) rfl rfl rfl (by first | rfl | (simp only [go_sem, qa, qb, qc, qd, qe, qf, qg, qh, qi, qj, qk, ↓reduceIte, h1195, h1198, h1228, g1229, g1230, g1231, h1232] <;> rfl)) rfl (by kernel_rfl) rfl rfl (by simp [roF, obL]) ?_
          have hh := getB_some h1255; clear h1255; obtain ⟨b1245, h1244, h1255⟩ := hh
          have hh := brn_some h1255; clear h1255; rcases hh with ⟨h1246, h1255⟩ | ⟨h1246, h1255⟩
          · refine W_sound tab_ok mixed 8 _ _ _ ?_
            simp -implicitDefEqProofs only [go_sem, qa, qb, qc, qd, qe, qf, qg, qh, qi, qj, qk, ↓reduceIte, h1195, h1198, h1228, g1229, g1230, g1231, h1232, h1244, h1246]
            repeat with_reducible refine ⟨by first | kernel_rfl | decide, ?_⟩
            obtain rfl := Option.some.inj h1255
            (try dsimp only at h1256)
            simp only [Option.some.injEq, Prod.mk.injEq] at h1256; obtain ⟨rfl, rfl, rfl⟩ := h1256
            exact finD (e2 := [(0, .dead), (1, .dead), (2, .dead), (3, .dead), (6, .v (.bool true)), (7, .dead), (8, .dead), (11, .dead), (15, .dead), (16, .dead), (17, .dead), (18, .dead), (38, .dead)]) (ob2 := [(34, .p [(.int .i64 x1233)]), (3, .r [.fn 98 [.ptr 0 0, .ptr 3 0]]), (2, .p [p1243]), (1, .p [p1242]), (0, .r [.fn 80 [.v (.ipt [p1190]), .ptr 1 0, .ptr 2 0]])]) (st' := ⟨[], [(0, .dead), (1, .dead), (2, .dead), (3, .dead), (6, .v (.bool true)), (7, .dead), (8, .dead), (11, .dead), (15, .dead), (16, .dead), (17, .dead), (18, .dead), (38, .dead)], [(0, .r [.fn 80 [.v (.ipt [p1190]), .ptr 1 0, .ptr 2 0]]), (1, .p [p1242]), (2, .p [p1243]), (3, .r [.fn 98 [.ptr 0 0, .ptr 3 0]])], 4, []⟩) (.k (.k (.r (.k (.r (.k (.k (.r (.k (.k (.k (.k (.k .nil))))))))))))) (.cons _ _ _ _ _ (DLes.refl _) (.cons _ _ _ _ _ (DLes.refl _) (.cons _ _ _ _ _ (DLes.refl _) (.cons _ _ _ _ _ (DLes.refl _) (.cons _ _ _ _ _ (DLes.refl _) .nil))))) (by kernel_rfl) (by simp only [go_sem, qa, qb, qc, qd, qe, qf, qg, qh, qi, qj, qk, ↓reduceIte, resQ_tmp, resQ_cell, resQ_nil, retD_one, retD_two, retD_three, retD_none]; try simp [R.val, retD_one, retD_two, retD_three, retD_none])
          · refine W_sound tab_ok mixed 8 _ _ _ ?_
            simp -implicitDefEqProofs only [go_sem, qa, qb, qc, qd, qe, qf, qg, qh, qi, qj, qk, ↓reduceIte, h1195, h1198, h1228, g1229, g1230, g1231, h1232, h1244, h1246]
            repeat with_reducible refine ⟨by first | kernel_rfl | decide, ?_⟩
            exact cutQ _ ((Wk_le (.r (.r (.r (.r (.r (.k (.k (.r (.r (.r (.r (.k (.k .nil))))))))))))) (OLe.refl _)).trans (cmpS_ok (st' := ⟨[], [(0, .v .nl), (1, .v (.lst false n1196 c1197)), (2, .dead), (3, .ptr 3 0), (6, .dead), (7, .dead), (8, .dead), (11, .dead), (15, .v (.lst false n1196 c1197)), (16, .v (.int .i64 ((n1196 : Nat) : Int))), (17, .v (.int .i64 (IntKind.i64.wrap (x1225 + 1)))), (18, .dead), (38, .dead)], [(0, .r [.fn 80 [.v (.ipt [p1190]), .ptr 1 0, .ptr 2 0]]), (1, .p [p1242]), (2, .p [p1243]), (3, .r [.fn 98 [.ptr 0 0, .ptr 3 0]])], 4, []⟩) (by kernel_rfl))) ⟨n, Nat.lt_succ_self n, _, _, _, h1255, rfl⟩
        · refine W_sound tab_ok mixed 7 _ _ _ ?_
          simp -implicitDefEqProofs only [go_sem, qa, qb, qc, qd, qe, qf, qg, qh, qi, qj, qk, ↓reduceIte, h1195, h1198, h1228]
          repeat with_reducible refine ⟨by first | kernel_rfl | decide, ?_⟩
          obtain rfl := Option.some.inj h1255
          exact cutQ _ ((Wk_le (.k (.k (.r (.k (.r (.r (.r (.r (.k (.k (.k (.k (.r .nil))))))))))))) (OLe.refl _)).trans (cmpS_ok (st' := ⟨[], [(0, .dead), (1, .dead), (2, .dead), (3, .dead), (6, .dead), (7, .dead), (8, .dead), (11, .dead), (15, .dead), (16, .dead), (17, .dead), (18, .dead), (38, .dead)], [(0, .r [.fn 80 [.v (.ipt [p1190]), .ptr 1 0, .ptr 2 0]]), (1, .p [p1226]), (2, .p [p1227]), (3, .r [.fn 98 [.ptr 0 0, .ptr 3 0]])], 4, []⟩) (by kernel_rfl))) ⟨_, _, rfl, rfl⟩
    · rintro _ ⟨p1248, p1249, rfl, rfl⟩
      (try dsimp only at h1256)
      refine W_sound tab_ok mixed 6 _ _ _ ?_
      simp -implicitDefEqProofs only [go_sem, qa, qb, qc, qd, qe, qf, qg, qh, qi, qj, qk, ↓reduceIte, h1195, h1198]
      repeat with_reducible refine ⟨by first | kernel_rfl | decide, ?_⟩
      simp only [Option.some.injEq, Prod.mk.injEq] at h1256; obtain ⟨rfl, rfl, rfl⟩ := h1256
      exact finD (e2 := [(0, .dead), (1, .dead), (2, .dead), (3, .dead), (6, .v (.bool false)), (7, .dead), (8, .dead), (11, .dead), (15, .dead), (16, .dead), (17, .dead), (18, .dead), (38, .dead)]) (ob2 := [(0, .r [.fn 80 [.v (.ipt [p1190]), .ptr 1 0, .ptr 2 0]]), (1, .p [p1248]), (2, .p [p1249]), (3, .r [.fn 98 [.ptr 0 0, .ptr 3 0]])]) (st' := ⟨[], [(0, .dead), (1, .dead), (2, .dead), (3, .dead), (6, .v (.bool false)), (7, .dead), (8, .dead), (11, .dead), (15, .dead), (16, .dead), (17, .dead), (18, .dead), (38, .dead)], [(0, .r [.fn 80 [.v (.ipt [p1190]), .ptr 1 0, .ptr 2 0]]), (1, .p [p1248]), (2, .p [p1249]), (3, .r [.fn 98 [.ptr 0 0, .ptr 3 0]])], 4, []⟩) (.r (.r (.r (.r (.r (.r (.r (.r (.r (.r (.r (.r (.r .nil))))))))))))) (.cons _ _ _ _ _ (DLes.refl _) (.cons _ _ _ _ _ (DLes.refl _) (.cons _ _ _ _ _ (DLes.refl _) (.cons _ _ _ _ _ (DLes.refl _) .nil)))) (by kernel_rfl) (by simp only [go_sem, qa, qb, qc, qd, qe, qf, qg, qh, qi, qj, qk, ↓reduceIte, resQ_tmp, resQ_cell, resQ_nil, retD_one, retD_two, retD_three, retD_none]; try simp [R.val, retD_one, retD_two, retD_three, retD_none])
def m79 (N : Nat) (x1265 : Int) (p1266 : PV) (p1267 : PV) (p1268 : PV) : Option ((PV × PV × PV)) :=
  bnd' (m77 N x1265) fun p1271 =>
  getL p1271 fun n1274 c1275 =>
  bnd' (m98 N (.lst false n1274 c1275) p1266 p1267 p1268) fun (p1276, p1278, p1279) =>
  getB p1276 fun b1281 =>
  some ((.bool b1281), p1278, p1279)
theorem c79 (N : Nat) (x1265 : Int) (p1266 : PV) (p1267 : PV) (p1268 : PV) (r : PV) (p1284 : PV) (p1285 : PV) (h : m79 N x1265 p1266 p1267 p1268 = some (r, p1284, p1285)) : V.Fn Try.prog 79 2 [.v (.int .i64 x1265), .fn 80 [.v (.ipt [p1266]), .ptr 0 0, .ptr 1 0]] [(0, .p [p1267]), (1, .p [p1268])] (fun d ob' => d = .v r ∧ ob' = [(0, .p [p1284]), (1, .p [p1285])]) := by
  unfold m79 at h
  refine Fn_of (sz := 11) tab_ok [0, 1, 3, 4, 5] [.tmp 4] Try.func79 rfl rfl rfl (by simp) ?_
  simp only [initSt, initEnv, List.map_cons, List.map_nil, List.getD_cons_zero, List.getD_cons_succ, List.getD_nil]
  have hh := bnd'_some h; clear h; obtain ⟨p1271, h1272, h⟩ := hh
  refine W_sound tab_ok mixed 18 _ _ _ ?_
  simp -implicitDefEqProofs only [go_sem, qa, qb, qc, qd, qe, qf, qg, qh, qi, qj, qk, ↓reduceIte]
  repeat with_reducible refine ⟨by first | kernel_rfl | decide, ?_⟩
  refine Wp_callP (c77 N _ _ h1272) (by kernel_rfl) rfl rfl rfl rfl (by decide) ?_
  have hh := getL_some h; clear h; obtain ⟨n1274, c1275, h1273, h⟩ := hh
  have hh := bnd'_some h; clear h; obtain ⟨⟨p1276, p1278, p1279⟩, h1277, h⟩ := hh
  (try dsimp only at h)
  (try simp -implicitDefEqProofs only [go_sem, qa, qb, qc, qd, qe, qf, qg, qh, qi, qj, qk, ↓reduceIte, h1273])
  refine Wp_callD [5, 0, 1, 11] (c98 N _ _ _ _ _ _ _ h1277) rfl rfl rfl (by first | rfl | (simp only [go_sem, qa, qb, qc, qd, qe, qf, qg, qh, qi, qj, qk, ↓reduceIte, h1273] <;> rfl)) rfl (by kernel_rfl) ?_
  have hh := getB_some h; clear h; obtain ⟨b1281, h1280, h⟩ := hh
  refine W_sound tab_ok mixed 4 _ _ _ ?_
  simp -implicitDefEqProofs only [go_sem, qa, qb, qc, qd, qe, qf, qg, qh, qi, qj, qk, ↓reduceIte, h1273, h1280]
  repeat with_reducible refine ⟨by first | kernel_rfl | decide, ?_⟩
  simp only [Option.some.injEq, Prod.mk.injEq] at h; obtain ⟨rfl, rfl, rfl⟩ := h
  exact finD (e2 := [(0, .dead), (1, .dead), (3, .dead), (4, .v (.bool b1281)), (5, .dead)]) (ob2 := [(11, .r [.fn 98 [.ptr 5 0, .ptr 11 0]]), (1, .p [p1279]), (0, .p [p1278]), (5, .r [.fn 80 [.v (.ipt [p1266]), .ptr 0 0, .ptr 1 0]])]) (st' := ⟨[], [(0, .dead), (1, .dead), (3, .dead), (4, .v (.bool b1281)), (5, .dead)], [(0, .p [p1278]), (1, .p [p1279])], 2, []⟩) (.k (.k (.k (.r (.k .nil))))) (.cons _ _ _ _ _ (DLes.refl _) (.cons _ _ _ _ _ (DLes.refl _) (.cons _ _ _ _ _ (DLes.refl _) (.cons _ _ _ _ _ (DLes.refl _) .nil)))) (by kernel_rfl) (by simp only [go_sem, qa, qb, qc, qd, qe, qf, qg, qh, qi, qj, qk, ↓reduceIte, resQ_tmp, resQ_cell, resQ_nil, retD_one, retD_two, retD_three, retD_none]; try simp [R.val, retD_one, retD_two, retD_three, retD_none])
def m35 (N : Nat) (p437 : PV) : Option (PV) :=
  getL p437 fun n439 c440 =>
  bnd' (m23 N (.lst false n439 c440)) fun p441 =>
  getI .i64 p441 fun x444 =>
  brn (x444 != 0) (
    some (.tup [(.lst false 0 []), (.lst false 0 []), (.int .i64 x444)])) (
    bnd' (m79 N ((n439 : Nat) : Int) (.lst false n439 c440) .nl .nl) fun (p1286, p1288, p1289) =>
    getB p1286 fun b1291 =>
    brn b1291 (
      getL p1288 fun n1294 c1295 =>
      getL p1289 fun n1297 c1298 =>
      some (.tup [(.lst false n1294 c1295), (.lst false n1297 c1298), (.int .i64 0)])) (
      some (.tup [(.lst false 0 []), (.lst false 0 []), (.int .i64 12)])))
theorem c35 (N : Nat) (p437 : PV) (r : PV)  (h : m35 N p437 = some r) : FnP Try.prog 35 [p437] r := by
  unfold m35 at h
  refine Fn_of (sz := 20) tab_ok [0, 1, 2, 3, 4, 5, 6, 10, 17] [.cell 2 23, .cell 3 23, .tmp 4] Try.func35 rfl rfl rfl (by simp) ?_
  simp only [initSt, initEnv, List.map_cons, List.map_nil, List.getD_cons_zero, List.getD_cons_succ, List.getD_nil]
  have hh := getL_some h; clear h; obtain ⟨n439, c440, h438, h⟩ := hh
  have hh := bnd'_some h; clear h; obtain ⟨p441, h442, h⟩ := hh
  refine W_sound tab_ok mixed 11 _ _ _ ?_
  simp -implicitDefEqProofs only [go_sem, qa, qb, qc, qd, qe, qf, qg, qh, qi, qj, qk, ↓reduceIte, h438]
  repeat with_reducible refine ⟨by first | kernel_rfl | decide, ?_⟩
  refine Wp_callP (c23 N _ _ h442) (by kernel_rfl) rfl rfl rfl rfl (by decide) ?_
  have hh := getI_some h; clear h; obtain ⟨x444, h443, h⟩ := hh
  have hh := brn_some h; clear h; rcases hh with ⟨h445, h⟩ | ⟨h445, h⟩
  · refine W_sound tab_ok mixed 17 _ _ _ ?_
    simp -implicitDefEqProofs only [go_sem, qa, qb, qc, qd, qe, qf, qg, qh, qi, qj, qk, ↓reduceIte, h438, h443, h445]
    repeat with_reducible refine ⟨by first | kernel_rfl | decide, ?_⟩
    refine FinQ_wk (Wk_freeze 2 [.nl] (by rfl) (by decide) (by decide)) ?_
    simp -implicitDefEqProofs only [go_sem, qa, qb, qc, qd, qe, qf, qg, qh, qi, qj, qk, ↓reduceIte, h438, h443, h445]
    refine FinQ_wk (Wk_freeze 3 [.nl] (by rfl) (by decide) (by decide)) ?_
    simp -implicitDefEqProofs only [go_sem, qa, qb, qc, qd, qe, qf, qg, qh, qi, qj, qk, ↓reduceIte, h438, h443, h445]
    obtain rfl := Option.some.inj h
    exact finC [(2, .v (.ipt [.nl])), (3, .v (.ipt [.nl])), (4, .v (.int .i64 x444))] [(2, .v (.ipt [(.lst false 0 [])])), (3, .v (.ipt [(.lst false 0 [])])), (4, .v (.int .i64 x444))] (by simp [leE, lk_cons]) (.cons _ _ _ _ _ (.v _ _ (.ipt _ _ (.cons _ _ _ _ (.nl false) .nil))) (.cons _ _ _ _ _ (.v _ _ (.ipt _ _ (.cons _ _ _ _ (.nl false) .nil))) (.cons _ _ _ _ _ (.v _ _ (.refl _)) .nil))) (by rfl) (by simp [leE, lk_cons]) (by decide) (by decide) rfl (by simp only [go_sem, qa, qb, qc, qd, qe, qf, qg, qh, qi, qj, qk, ↓reduceIte, resQ_tmp, resQ_cell, resQ_nil, retD_one, retD_two, retD_three, retD_none]; try simp [R.val, retD_one, retD_two, retD_three, retD_none])
  · refine W_sound tab_ok mixed 10 _ _ _ ?_
    simp -implicitDefEqProofs only [go_sem, qa, qb, qc, qd, qe, qf, qg, qh, qi, qj, qk, ↓reduceIte, h438, h443, h445]
    repeat with_reducible refine ⟨by first | kernel_rfl | decide, ?_⟩
    refine Wp_wkK (Wk_freeze 1 [(.lst false n439 c440)] (by rfl) (by decide) (by decide)) rfl ?_
    simp -implicitDefEqProofs only [go_sem, qa, qb, qc, qd, qe, qf, qg, qh, qi, qj, qk, ↓reduceIte, h438, h443, h445]
    have hh := bnd'_some h; clear h; obtain ⟨⟨p1286, p1288, p1289⟩, h1287, h⟩ := hh
    (try dsimp only at h)
    refine W_sound tab_ok mixed 4 _ _ _ ?_
    simp -implicitDefEqProofs only [go_sem, qa, qb, qc, qd, qe, qf, qg, qh, qi, qj, qk, ↓reduceIte, h438, h443, h445]
    repeat with_reducible refine ⟨by first | kernel_rfl | decide, ?_⟩
    refine Wp_callD [2, 3] (c79 N _ _ _ _ _ _ _ h1287) rfl rfl rfl (by first | rfl | (simp only [go_sem, qa, qb, qc, qd, qe, qf, qg, qh, qi, qj, qk, ↓reduceIte, h438, h443, h445] <;> rfl)) rfl (by kernel_rfl) ?_
    have hh := getB_some h; clear h; obtain ⟨b1291, h1290, h⟩ := hh
    have hh := brn_some h; clear h; rcases hh with ⟨h1292, h⟩ | ⟨h1292, h⟩
    · have hh := getL_some h; clear h; obtain ⟨n1294, c1295, h1293, h⟩ := hh
      have hh := getL_some h; clear h; obtain ⟨n1297, c1298, h1296, h⟩ := hh
      refine W_sound tab_ok mixed 20 _ _ _ ?_
      simp -implicitDefEqProofs only [go_sem, qa, qb, qc, qd, qe, qf, qg, qh, qi, qj, qk, ↓reduceIte, h438, h443, h445, h1290, h1292, h1293, h1296]
      repeat with_reducible refine ⟨by first | kernel_rfl | decide, ?_⟩
      refine FinQ_wk (Wk_freeze 2 [(.lst false n1294 c1295)] (by rfl) (by decide) (by decide)) ?_
      simp -implicitDefEqProofs only [go_sem, qa, qb, qc, qd, qe, qf, qg, qh, qi, qj, qk, ↓reduceIte, h438, h443, h445, h1290, h1292, h1293, h1296]
      refine FinQ_wk (Wk_freeze 3 [(.lst false n1297 c1298)] (by rfl) (by decide) (by decide)) ?_
      simp -implicitDefEqProofs only [go_sem, qa, qb, qc, qd, qe, qf, qg, qh, qi, qj, qk, ↓reduceIte, h438, h443, h445, h1290, h1292, h1293, h1296]
      obtain rfl := Option.some.inj h
      exact finC [(2, .v (.ipt [(.lst false n1294 c1295)])), (3, .v (.ipt [(.lst false n1297 c1298)])), (4, .v (.int .i64 0))] [(2, .v (.ipt [(.lst false n1294 c1295)])), (3, .v (.ipt [(.lst false n1297 c1298)])), (4, .v (.int .i64 0))] (by simp [leE, lk_cons]) (.cons _ _ _ _ _ (.v _ _ (.refl _)) (.cons _ _ _ _ _ (.v _ _ (.refl _)) (.cons _ _ _ _ _ (.v _ _ (.refl _)) .nil))) (by rfl) (by simp [leE, lk_cons]) (by decide) (by decide) rfl (by simp only [go_sem, qa, qb, qc, qd, qe, qf, qg, qh, qi, qj, qk, ↓reduceIte, resQ_tmp, resQ_cell, resQ_nil, retD_one, retD_two, retD_three, retD_none]; try simp [R.val, retD_one, retD_two, retD_three, retD_none])
    · refine W_sound tab_ok mixed 17 _ _ _ ?_
      simp -implicitDefEqProofs only [go_sem, qa, qb, qc, qd, qe, qf, qg, qh, qi, qj, qk, ↓reduceIte, h438, h443, h445, h1290, h1292]
      repeat with_reducible refine ⟨by first | kernel_rfl | decide, ?_⟩
      refine FinQ_wk (Wk_freeze 2 [.nl] (by rfl) (by decide) (by decide)) ?_
      simp -implicitDefEqProofs only [go_sem, qa, qb, qc, qd, qe, qf, qg, qh, qi, qj, qk, ↓reduceIte, h438, h443, h445, h1290, h1292]
      refine FinQ_wk (Wk_freeze 3 [.nl] (by rfl) (by decide) (by decide)) ?_
      simp -implicitDefEqProofs only [go_sem, qa, qb, qc, qd, qe, qf, qg, qh, qi, qj, qk, ↓reduceIte, h438, h443, h445, h1290, h1292]
      obtain rfl := Option.some.inj h
      exact finC [(2, .v (.ipt [.nl])), (3, .v (.ipt [.nl])), (4, .v (.int .i64 12))] [(2, .v (.ipt [(.lst false 0 [])])), (3, .v (.ipt [(.lst false 0 [])])), (4, .v (.int .i64 12))] (by simp [leE, lk_cons]) (.cons _ _ _ _ _ (.v _ _ (.ipt _ _ (.cons _ _ _ _ (.nl false) .nil))) (.cons _ _ _ _ _ (.v _ _ (.ipt _ _ (.cons _ _ _ _ (.nl false) .nil))) (.cons _ _ _ _ _ (.v _ _ (.refl _)) .nil))) (by rfl) (by simp [leE, lk_cons]) (by decide) (by decide) rfl (by simp only [go_sem, qa, qb, qc, qd, qe, qf, qg, qh, qi, qj, qk, ↓reduceIte, resQ_tmp, resQ_cell, resQ_nil, retD_one, retD_two, retD_three, retD_none]; try simp [R.val, retD_one, retD_two, retD_three, retD_none])
end Go.Proofs.Yteidcinajdehkaa
namespace Go.Proofs.Yteidcinajdehkaa
open Go.V
set_option maxRecDepth 100000
set_option maxHeartbeats 4000000
set_option linter.unusedSimpArgs false
set_option linter.unusedVariables false
attribute [local go_sem] tl1 tl2 tl3 tl4 tl5 tl9 tl17 tl21 tl22 tl23 tl24 tl25 tl26 tl27 tl28 tl29 tl30 tl32 tl33 tl35 tl36 tl37 tl38 tl39 tl40 tl41 tl42 tl43 tl44 tl46 tl48 tl50 tl51 tl52 tl53 tl54 tl56 tl58 tl59 tl60 tl61 tl62 tl63 tl64 tl65 tl66 tl67 tl68 tl69 tl70 tl72 tl74 tl75 tl76 tl77 tl78 tl79 tl80 tl81 tl82 tl83 tl84 tl85 tl86 tl87 tl88 tl89 tl90 tl91 tl92 tl93 tl94 tl95 tl96 tl97 tl98 tl99 tl100 tl101 tl102 tl103 tl104 tl105 tl106 tl107 tl108 tl109 tl110 tl111 tl112 tl113 tl114 tl115 tl116 tl117 tl118 tl119 tl120 tl121 tl122 tl128 tl129 tl133
def m100_L0 (N : Nat) (x1317 : Int) (n1319 : Nat) (c1320 : List PV) : Nat → Int → Option ((PV ⊕ Unit))
  | 0, _ => none
  | n + 1, x1321 =>
    brn (decide (x1321 < ((n1319 : Nat) : Int))) (
      grd (0 ≤ x1321 ∧ x1321 < ((n1319 : Nat) : Int)) <|
      grd (0 < List.length (List.drop (Int.toNat x1321) c1320)) <|
      getI .i64 (gp c1320 (Int.toNat x1321)) fun x1327 =>
      brn (x1327 == x1317) (
        some (.inl (.bool true))) (
        m100_L0 N x1317 n1319 c1320 n (IntKind.i64.wrap (x1321 + 1)))) (
      some (.inr ()))
def m100 (N : Nat) (p1316 : PV) (x1317 : Int) : Option (PV) :=
  getL p1316 fun n1319 c1320 =>
  bnd' (m100_L0 N x1317 n1319 c1320 N 0) fun o =>
  match o with
  | .inl p1329 =>
    some p1329
  | .inr () =>
    some (.bool false)
def m82_L0 (N : Nat) (rec : Int → PV → Option (PV)) (x1308 : Int) (n1311 : Nat) (c1312 : List PV) : Nat → Nat → Int → List PV → Option ((Nat × List PV))
  | 0, _, _, _ => none
  | n + 1, n1385, x1386, c1387 =>
    brn (decide (x1386 < x1308)) (
      bnd' (m100 N (.lst false n1311 c1312) x1386) fun p1389 =>
      getB p1389 fun b1392 =>
      brn b1392 (
        m82_L0 N rec x1308 n1311 c1312 n n1385 (IntKind.i64.wrap (x1386 + 1)) c1387) (
        grd (List.length c1312 = n1311) <|
        brn (decide (0 < n1311)) (
          grd (n1311 ≤ 1099511627776) <|
          grd ((n1311 + 1) ≤ 1099511627776) <|
          bnd' (rec x1308 (.lst false (n1311 + 1) (c1312 ++ [(.int .i64 x1386)]))) fun p1398 =>
          getL p1398 fun n1401 c1402 =>
          grd (List.length c1402 = n1401) <|
          grd ((n1385 + n1401) ≤ 1099511627776) <|
          grd (List.length c1387 = n1385) <|
          m82_L0 N rec x1308 n1311 c1312 n (n1385 + n1401) (IntKind.i64.wrap (x1386 + 1)) (c1387 ++ c1402)) (
          grd (n1311 ≤ 1099511627776) <|
          grd ((n1311 + 1) ≤ 1099511627776) <|
          bnd' (rec x1308 (.lst false (n1311 + 1) (c1312 ++ [(.int .i64 x1386)]))) fun p1408 =>
          getL p1408 fun n1411 c1412 =>
          grd (List.length c1412 = n1411) <|
          grd ((n1385 + n1411) ≤ 1099511627776) <|
          grd (List.length c1387 = n1385) <|
          m82_L0 N rec x1308 n1311 c1312 n (n1385 + n1411) (IntKind.i64.wrap (x1386 + 1)) (c1387 ++ c1412)))) (
      some (n1385, c1387))
def m82 (N : Nat) : Nat → Int → PV → Option (PV)
  | 0, _, _ => none
  | fu + 1, x1308, p1309 =>
    getL p1309 fun n1311 c1312 =>
    brn (((n1311 : Nat) : Int) == x1308) (
      some (.lst false 1 [(.lst false n1311 c1312)])) (
      bnd' (m82_L0 N (m82 N fu) x1308 n1311 c1312 N 0 0 []) fun o =>
      match o with
      | (n1416, c1417) =>
        grd (List.length c1417 = n1416) <|
        some (.lst false n1416 c1417))
def m36_L3 (N : Nat) (n1301 : Nat) (c1302 : List PV) (n1425 : Nat) (c1426 : List PV) (n1435 : Nat) (c1436 : List PV) (x1437 : Int) (x1439 : Int) (n1644 : Nat) (x1645 : Int) (c1646 : List PV) (n1651 : Nat) (c1652 : List PV) : Nat → Nat → Int → List PV → Option ((Nat × List PV))
  | 0, _, _, _ => none
  | n + 1, n1712, x1713, c1714 =>
    grd (0 ≤ x1439 ∧ x1439 < ((n1435 : Nat) : Int)) <|
    grd (0 < List.length (List.drop (Int.toNat x1439) c1436)) <|
    getL (gp c1436 (Int.toNat x1439)) fun n1719 c1720 =>
    brn (decide (x1713 < ((n1719 : Nat) : Int))) (
      grd (0 ≤ x1645 ∧ x1645 < ((n1651 : Nat) : Int)) <|
      grd (0 < List.length (List.drop (Int.toNat x1645) c1652)) <|
      getI .i64 (gp c1652 (Int.toNat x1645)) fun x1726 =>
      grd (0 ≤ x1726 ∧ x1726 < ((n1301 : Nat) : Int)) <|
      grd (0 < List.length (List.drop (Int.toNat x1726) c1302)) <|
      getL (gp c1302 (Int.toNat x1726)) fun n1731 c1732 =>
      grd (0 ≤ x1713 ∧ x1713 < ((n1719 : Nat) : Int)) <|
      grd (0 < List.length (List.drop (Int.toNat x1713) c1720)) <|
      getI .i64 (gp c1720 (Int.toNat x1713)) fun x1737 =>
      grd (0 ≤ x1737 ∧ x1737 < ((n1731 : Nat) : Int)) <|
      grd (0 < List.length (List.drop (Int.toNat x1737) c1732)) <|
      getI .i64 (gp c1732 (Int.toNat x1737)) fun x1742 =>
      grd ((n1712 + 1) ≤ 1099511627776) <|
      grd (List.length c1714 = n1712) <|
      m36_L3 N n1301 c1302 n1425 c1426 n1435 c1436 x1437 x1439 n1644 x1645 c1646 n1651 c1652 n (n1712 + 1) (IntKind.i64.wrap (x1713 + 1)) (c1714 ++ [(.int .i64 x1742)])) (
      some (n1712, c1714))
def m36_L2 (N : Nat) (n1301 : Nat) (c1302 : List PV) (n1425 : Nat) (c1426 : List PV) (n1435 : Nat) (c1436 : List PV) (x1437 : Int) (x1439 : Int) : Nat → Nat → Int → List PV → Option ((Nat × List PV))
  | 0, _, _, _ => none
  | n + 1, n1644, x1645, c1646 =>
    grd (0 ≤ x1437 ∧ x1437 < ((n1425 : Nat) : Int)) <|
    grd (0 < List.length (List.drop (Int.toNat x1437) c1426)) <|
    getL (gp c1426 (Int.toNat x1437)) fun n1651 c1652 =>
    brn (decide (x1645 < ((n1651 : Nat) : Int))) (
      bnd' (m36_L3 N n1301 c1302 n1425 c1426 n1435 c1436 x1437 x1439 n1644 x1645 c1646 n1651 c1652 N 0 0 []) fun o =>
      match o with
      | (n1745, c1746) =>
        grd ((n1644 + 1) ≤ 1099511627776) <|
        grd (List.length c1646 = n1644) <|
        grd (List.length c1746 = n1745) <|
        m36_L2 N n1301 c1302 n1425 c1426 n1435 c1436 x1437 x1439 n (n1644 + 1) (IntKind.i64.wrap (x1645 + 1)) (c1646 ++ [(.lst false n1745 c1746)])) (
      some (n1644, c1646))
def m36_L1 (N : Nat) (n1301 : Nat) (c1302 : List PV) (n1425 : Nat) (c1426 : List PV) (n1435 : Nat) (c1436 : List PV) (x1437 : Int) : Nat → Int → Option ((PV ⊕ Unit))
  | 0, _ => none
  | n + 1, x1439 =>
    brn (decide (x1439 < ((n1435 : Nat) : Int))) (
      bnd' (m36_L2 N n1301 c1302 n1425 c1426 n1435 c1436 x1437 x1439 N 0 0 []) fun o =>
      match o with
      | (n1750, c1751) =>
        grd (List.length c1751 = n1750) <|
        bnd' (m78 N (.lst false n1750 c1751)) fun p1753 =>
        getL p1753 fun n1756 c1757 =>
        brn (((n1756 : Nat) : Int) == 0) (
          grd (0 ≤ x1437 ∧ x1437 < ((n1425 : Nat) : Int)) <|
          grd (0 < List.length (List.drop (Int.toNat x1437) c1426)) <|
          getL (gp c1426 (Int.toNat x1437)) fun n1763 c1764 =>
          grd (0 ≤ x1439 ∧ x1439 < ((n1435 : Nat) : Int)) <|
          grd (0 < List.length (List.drop (Int.toNat x1439) c1436)) <|
          getL (gp c1436 (Int.toNat x1439)) fun n1769 c1770 =>
          some (.inl (.tup [(.lst false n1763 c1764), (.lst false n1769 c1770), (.int .i64 0)]))) (
          m36_L1 N n1301 c1302 n1425 c1426 n1435 c1436 x1437 n (IntKind.i64.wrap (x1439 + 1)))) (
      some (.inr ()))
def m36_L0 (N : Nat) (n1301 : Nat) (c1302 : List PV) (n1425 : Nat) (c1426 : List PV) (n1435 : Nat) (c1436 : List PV) : Nat → Int → Option ((PV ⊕ Unit))
  | 0, _ => none
  | n + 1, x1437 =>
    brn (decide (x1437 < ((n1425 : Nat) : Int))) (
      bnd' (m36_L1 N n1301 c1302 n1425 c1426 n1435 c1436 x1437 N 0) fun o =>
      match o with
      | .inl p1771 =>
        some (.inl p1771)
      | .inr () =>
        m36_L0 N n1301 c1302 n1425 c1426 n1435 c1436 n (IntKind.i64.wrap (x1437 + 1))) (
      some (.inr ()))
def m36 (N : Nat) (p1299 : PV) : Option (PV) :=
  getL p1299 fun n1301 c1302 =>
  bnd' (m24 N (.lst false n1301 c1302)) fun p1303 =>
  getI .i64 p1303 fun x1306 =>
  brn (x1306 != 0) (
    some (.tup [(.lst false 0 []), (.lst false 0 []), (.int .i64 x1306)])) (
    bnd' (m82 N N ((n1301 : Nat) : Int) (.lst false 0 [])) fun p1422 =>
    getL p1422 fun n1425 c1426 =>
    grd (0 < ((n1301 : Nat) : Int)) <|
    grd (0 < List.length c1302) <|
    getL (gp c1302 0) fun n1430 c1431 =>
    bnd' (m82 N N ((n1430 : Nat) : Int) (.lst false 0 [])) fun p1432 =>
    getL p1432 fun n1435 c1436 =>
    bnd' (m36_L0 N n1301 c1302 n1425 c1426 n1435 c1436 N 0) fun o =>
    match o with
    | .inl p1772 =>
      some p1772
    | .inr () =>
      some (.tup [(.lst false 0 []), (.lst false 0 []), (.int .i64 12)]))
def m5 (N : Nat) (p1785 : PV) : Option (PV) :=
  getL p1785 fun n1787 c1788 =>
  bnd' (m15 N (.lst false n1787 c1788)) fun p1789 =>
  getB p1789 fun b1792 =>
  brn b1792 (
    bnd' (m17 N ) fun p1794 =>
    getB p1794 fun b1797 =>
    some (.bool b1797)) (
    bnd' (m31 N (.lst false n1787 c1788)) fun p1798 =>
    getT2 p1798 fun p1801 p1802 =>
    getB p1801 fun b1804 =>
    getI .i64 p1802 fun x1806 =>
    bnd' (m32 N (.lst false n1787 c1788)) fun p1807 =>
    getT2 p1807 fun p1810 p1811 =>
    getB p1810 fun b1813 =>
    getI .i64 p1811 fun x1815 =>
    bnd' (m33 N (.lst false n1787 c1788)) fun p1816 =>
    getT2 p1816 fun p1819 p1820 =>
    getL p1819 fun n1822 c1823 =>
    getI .i64 p1820 fun x1825 =>
    bnd' (m34 N (.lst false n1787 c1788)) fun p1826 =>
    getT2 p1826 fun p1829 p1830 =>
    getL p1829 fun n1832 c1833 =>
    getI .i64 p1830 fun x1835 =>
    bnd' (m35 N (.lst false n1787 c1788)) fun p1836 =>
    getT3 p1836 fun p1839 p1840 p1841 =>
    getL p1839 fun n1843 c1844 =>
    getL p1840 fun n1846 c1847 =>
    getI .i64 p1841 fun x1849 =>
    bnd' (m36 N (.lst false n1787 c1788)) fun p1850 =>
    getT3 p1850 fun p1853 p1854 p1855 =>
    getL p1853 fun n1857 c1858 =>
    getL p1854 fun n1860 c1861 =>
    getI .i64 p1855 fun x1863 =>
    brn (b1804 == b1813) (
      brn (x1806 == x1815) (
        bnd' (m37 N (.lst false n1822 c1823) (.lst false n1832 c1833)) fun p1866 =>
        getB p1866 fun b1869 =>
        brn b1869 (
          brn (x1825 == x1835) (
            bnd' (m37 N (.lst false n1843 c1844) (.lst false n1857 c1858)) fun p1872 =>
            getB p1872 fun b1875 =>
            brn b1875 (
              bnd' (m37 N (.lst false n1846 c1847) (.lst false n1860 c1861)) fun p1877 =>
              getB p1877 fun b1880 =>
              brn b1880 (
                brn (x1849 == x1863) (
                  bnd' (m17 N ) fun p1883 =>
                  getB p1883 fun b1886 =>
                  some (.bool b1886)) (
                  some (.bool false))) (
                some (.bool false))) (
              some (.bool false))) (
            some (.bool false))) (
          some (.bool false))) (
        some (.bool false))) (
      some (.bool false)))
end Go.Proofs.Yteidcinajdehkaa
namespace Go.Proofs.Yteidcinajdehkaa
open Go.V
theorem brn_t {α : Type} {b : Bool} {x y : Option α} (h : b = true) : brn b x y = x := by subst h; rfl
theorem brn_f {α : Type} {b : Bool} {x y : Option α} (h : b = false) : brn b x y = y := by subst h; rfl
theorem grd_t {α : Type} {p : Prop} [Decidable p] {k : Option α} (h : p) : grd p k = k := by simp [grd, h]
theorem wrapN {n : Nat} (h : n ≤ 100000) : IntKind.i64.wrap ((n : Int) + 1) = ((n + 1 : Nat) : Int) := by
  rw [wrap64 (by omega) (by omega)]; omega
theorem toNatN (n : Nat) : Int.toNat (n : Int) = n := by omega
theorem eq0_t {n : Nat} (h : n = 0) : ((n : Int) == 0) = true := by subst h; rfl
theorem eq0_f {n : Nat} (h : n ≠ 0) : ((n : Int) == 0) = false := by
  rw [beq_eq_false_iff_ne]; omega
theorem range'_step {i n : Nat} (h : i < n) : List.range' i (n - i) = i :: List.range' (i + 1) (n - (i + 1)) := by
  rw [show n - i = (n - (i + 1)) + 1 by omega, List.range'_succ]
def iL (X : List Int) : List PV := X.map (PV.int .i64)
theorem iL_len (X : List Int) : (iL X).length = X.length := by simp [iL]
def en (X : List Int) (i : Nat) : Int := X.getD i 0
theorem iL_gp {X : List Int} {i : Nat} (h : i < X.length) : gp (iL X) i = .int .i64 (en X i) := by
  simp [iL, gp, en, List.getD, h]
def nL (X : List Nat) : List PV := X.map fun (k : Nat) => PV.int .i64 (k : Int)
theorem nL_len (X : List Nat) : (nL X).length = X.length := by simp [nL]
def nn (X : List Nat) (i : Nat) : Nat := X.getD i 0
theorem nL_gp {X : List Nat} {i : Nat} (h : i < X.length) : gp (nL X) i = .int .i64 (nn X i : Int) := by
  simp [nL, gp, nn, List.getD, h]
theorem nn_mem {X : List Nat} {i : Nat} (h : i < X.length) : nn X i ∈ X := by
  simp [nn, List.getD, h]
def rwP (r : List Int) : PV := .lst false r.length (iL r)
def rwN (r : List Nat) : PV := .lst false r.length (nL r)
def rwsP (L : List (List Int)) : List PV := L.map rwP
theorem rws_len (L : List (List Int)) : (rwsP L).length = L.length := by simp [rwsP]
def ro (L : List (List Int)) (i : Nat) : List Int := L.getD i []
theorem rws_gp {L : List (List Int)} {i : Nat} (h : i < L.length) : gp (rwsP L) i = .lst false (ro L i).length (iL (ro L i)) := by
  simp [rwsP, gp, ro, rwP, List.getD, h]
theorem ro_mem {L : List (List Int)} {i : Nat} (h : i < L.length) : ro L i ∈ L := by
  simp [ro, List.getD, h]
theorem en_mem {X : List Int} {i : Nat} (h : i < X.length) : en X i ∈ X := by
  simp [en, List.getD, h]
theorem drop_ro {L : List (List Int)} {i : Nat} (h : i < L.length) : L.drop i = ro L i :: L.drop (i + 1) := by
  rw [List.drop_eq_getElem_cons h]; simp [ro, List.getD, h]
theorem drop_en {L : List Int} {i : Nat} (h : i < L.length) : L.drop i = en L i :: L.drop (i + 1) := by
  rw [List.drop_eq_getElem_cons h]; simp [en, List.getD, h]
def lgL (L : List (List Int)) : Bool := decide (20 < L.length) || L.any fun r => decide (20 < r.length)
theorem large_L (N : Nat) (L : List (List Int)) (hL : L.length ≤ 20) : ∀ (r i fuel : Nat), L.length - i = r → r < fuel →
    m15_L0 N L.length (rwsP L) fuel (i : Int) = some (if (L.drop i).any (fun r => decide (20 < r.length)) then .inl (.bool true) else .inr ())
  | r, i, 0, _, h => by omega
  | r, i, f + 1, hr, hf => by
    have hl := rws_len L
    rw [m15_L0]
    by_cases hi : i < L.length
    · have ih := large_L N L hL (r - 1) (i + 1) f (by omega) (by omega)
      rw [brn_t (by simp; omega), toNatN, grd_t ⟨by omega, by omega⟩, grd_t (by simp only [List.length_drop]; omega), rws_gp hi, drop_ro hi]
      simp only [getL, List.any_cons]
      by_cases h : 20 < (ro L i).length
      · rw [brn_t (by simp; omega)]; simp [h]
      · rw [brn_f (by simp; omega), wrapN (by omega), ih]; simp [h]
    · rw [brn_f (by simp; omega), List.drop_eq_nil_of_le (by omega)]; rfl
theorem large_ok (N : Nat) (hN : 100 ≤ N) (L : List (List Int)) : m15 N (.lst false L.length (rwsP L)) = some (.bool (lgL L)) := by
  simp only [m15, getL]
  by_cases h : 20 < L.length
  · rw [brn_t (by simp; omega)]; simp [lgL, h]
  · have := large_L N L (by omega) L.length 0 N (by omega) (by omega)
    rw [brn_f (by simp; omega), show m15_L0 N L.length (rwsP L) N 0 = _ from this, List.drop_zero]
    simp only [lgL, h, decide_false, Bool.false_or]
    cases L.any fun r => decide (20 < r.length) <;> rfl
def bad (lo hi n : Int) : Bool := decide (n < lo) || decide (n > hi)
theorem wrong_L (N : Nat) (lo hi : Int) (X : List Int) (hX : X.length ≤ 1000) : ∀ (r i fuel : Nat), X.length - i = r → r < fuel →
    ∃ o, m103_L0 N lo hi X.length (iL X) fuel (i : Int) = some o ∧ ((X.drop i).any (bad lo hi) = true → ∃ k : Nat, o = .inl (.int .i64 (k : Int))) ∧ ((X.drop i).any (bad lo hi) = false → o = .inr ())
  | r, i, 0, _, h => by omega
  | r, i, f + 1, hr, hf => by
    have hl := iL_len X
    rw [m103_L0]
    by_cases hi' : i < X.length
    · obtain ⟨o, o1, o2, o3⟩ := wrong_L N lo hi X hX (r - 1) (i + 1) f (by omega) (by omega)
      have hb : m93 N (en X i) lo hi = some (.bool (bad lo hi (en X i))) := by
        unfold m93 bad
        by_cases h : en X i < lo
        · rw [brn_t (by simpa using h)]; simp [h]
        · rw [brn_f (by simpa using h)]; simp [h]
      rw [brn_t (by simp; omega), toNatN, grd_t ⟨by omega, by omega⟩, grd_t (by simp only [List.length_drop]; omega), iL_gp hi', drop_en hi']
      simp only [getI, if_true, hb, bnd', getB, List.any_cons]
      cases h : bad lo hi (en X i) with
      | true => rw [brn_t rfl]; exact ⟨_, rfl, fun _ => ⟨i, rfl⟩, fun h => by simp at h⟩
      | false =>
        rw [brn_f rfl, wrapN (by omega)]
        exact ⟨o, o1, fun h => o2 (by simpa using h), fun h => o3 (by simpa using h)⟩
    · rw [brn_f (by simp; omega), List.drop_eq_nil_of_le (by omega)]
      exact ⟨_, rfl, fun h => by simp at h, fun _ => rfl⟩
theorem wrong_ok (N : Nat) (hN : 2000 ≤ N) (lo hi : Int) (X : List Int) (hX : X.length ≤ 1000) : m68 N (.lst false X.length (iL X)) lo hi = some (.bool (X.any (bad lo hi))) := by
  obtain ⟨o, o1, o2, o3⟩ := wrong_L N lo hi X hX X.length 0 N (by omega) (by omega)
  rw [List.drop_zero] at o2 o3
  simp only [m68, m92, m103, getL]
  rw [show m103_L0 N lo hi X.length (iL X) N 0 = some o from o1]
  cases h : X.any (bad lo hi) with
  | true =>
    obtain ⟨k, hk⟩ := o2 h
    rw [hk]; simp [bnd', getI, getB]
  | false => rw [o3 h]; simp [bnd', getI, getB]
def selF : Bool → PV ⊕ Unit
  | true => .inl (.bool false)
  | false => .inr ()
theorem within_L (N : Nat) (lo hi : Int) (X : List Int) (hX : X.length ≤ 1000) : ∀ (r i fuel : Nat), X.length - i = r → r < fuel →
    m70_L0 N lo hi X.length (iL X) fuel (i : Int) = some (selF ((X.drop i).any (bad lo hi)))
  | r, i, 0, _, h => by omega
  | r, i, f + 1, hr, hf => by
    have hl := iL_len X
    rw [m70_L0]
    by_cases hi' : i < X.length
    · have ih := within_L N lo hi X hX (r - 1) (i + 1) f (by omega) (by omega)
      have hb : m94 N (en X i) lo hi = some (.bool (!bad lo hi (en X i))) := by
        unfold m94 bad
        by_cases h : en X i < lo
        · rw [brn_f (by simp; omega)]; simp [h]
        · rw [brn_t (by simp; omega)]
          by_cases h2 : en X i > hi
          · have : ¬ en X i ≤ hi := by omega
            simp [h, h2, this]
          · have : en X i ≤ hi := by omega
            simp [h, h2, this]
      rw [brn_t (by simp; omega), toNatN, grd_t ⟨by omega, by omega⟩, grd_t (by simp only [List.length_drop]; omega), iL_gp hi', drop_en hi']
      simp only [getI, if_true, hb, bnd', getB, List.any_cons]
      rcases Bool.eq_false_or_eq_true (bad lo hi (en X i)) with h | h
      · rw [h, Bool.not_true, brn_f rfl, Bool.true_or]; rfl
      · rw [h, Bool.not_false, brn_t rfl, wrapN (by omega), ih, Bool.false_or]
    · rw [brn_f (by simp; omega), List.drop_eq_nil_of_le (by omega)]; rfl
theorem within_ok (N : Nat) (hN : 2000 ≤ N) (lo hi : Int) (X : List Int) (hX : X.length ≤ 1000) : m70 N (.lst false X.length (iL X)) lo hi = some (.bool (!X.any (bad lo hi))) := by
  have := within_L N lo hi X hX X.length 0 N (by omega) (by omega)
  simp only [m70, getL]
  rw [show m70_L0 N lo hi X.length (iL X) N 0 = _ from this, List.drop_zero]
  cases X.any (bad lo hi) <;> rfl
def chR (c : Nat) : List (List Int) → Int
  | [] => 0
  | r :: rs => if r.length ≠ c then 5 else if r.any (bad 0 20) then 1 else chR c rs
def chk (L : List (List Int)) : Int :=
  if L.length = 0 then 4 else if (ro L 0).length = 0 then 4 else if 3 < L.length then 3 else if 4 < (ro L 0).length then 3 else chR (ro L 0).length L
def outE (e : Int) : PV ⊕ Unit := if e = 0 then .inr () else .inl (.int .i64 e)
theorem check_L (N : Nat) (hN : 2000 ≤ N) (L : List (List Int)) (hL : L.length ≤ 20) (hr20 : ∀ r ∈ L, r.length ≤ 20) (c : Nat) : ∀ (r i fuel : Nat), L.length - i = r → r < fuel →
    m23_L0 N L.length (rwsP L) c fuel (i : Int) = some (outE (chR c (L.drop i))) ∧ m24_L0 N L.length (rwsP L) c fuel (i : Int) = some (outE (chR c (L.drop i)))
  | r, i, 0, _, h => by omega
  | r, i, f + 1, hr, hf => by
    have hl := rws_len L
    rw [m23_L0, m24_L0]
    by_cases hi : i < L.length
    · obtain ⟨i1, i2⟩ := check_L N hN L hL hr20 c (r - 1) (i + 1) f (by omega) (by omega)
      have hm := hr20 _ (ro_mem hi)
      have q1 : ∀ {α : Type} (y z : Option α), brn (decide ((i : Int) < (L.length : Int))) y z = y := fun y z => brn_t (by simp; omega)
      rw [q1, q1, toNatN, grd_t ⟨by omega, by omega⟩, grd_t (by simp only [List.length_drop]; omega), grd_t ⟨by omega, by omega⟩, grd_t (by simp only [List.length_drop]; omega), rws_gp hi, drop_ro hi]
      simp only [getL, wrong_ok N hN 0 20 (ro L i) (by omega), within_ok N hN 0 20 (ro L i) (by omega), bnd', getB, chR]
      by_cases h : (ro L i).length = c
      · have q2 : ∀ {α : Type} (y z : Option α), brn (((ro L i).length : Int) != (c : Int)) y z = z := fun y z => brn_f (by simp; omega)
        rw [q2, q2, if_neg (by simpa using h)]
        cases hb : (ro L i).any (bad 0 20) with
        | true => rw [brn_t rfl, if_pos rfl]; exact ⟨rfl, rfl⟩
        | false =>
          rw [brn_f rfl, wrapN (by omega), if_neg (by simp)]
          exact ⟨i1, i2⟩
      · have q2 : ∀ {α : Type} (y z : Option α), brn (((ro L i).length : Int) != (c : Int)) y z = y := fun y z => brn_t (by simp; omega)
        rw [q2, q2, if_pos h]
        exact ⟨rfl, rfl⟩
    · have q1 : ∀ {α : Type} (y z : Option α), brn (decide ((i : Int) < (L.length : Int))) y z = z := fun y z => brn_f (by simp; omega)
      rw [q1, q1, List.drop_eq_nil_of_le (by omega)]
      exact ⟨rfl, rfl⟩
theorem outE_end {x : Int} : (match outE x with | .inl p => some p | .inr () => some (PV.int .i64 0)) = some (.int .i64 x) := by
  unfold outE
  by_cases h : x = 0
  · rw [if_pos h, h]
  · rw [if_neg h]
theorem check_ok (N : Nat) (hN : 2000 ≤ N) (L : List (List Int)) (hL : lgL L = false) : m23 N (.lst false L.length (rwsP L)) = some (.int .i64 (chk L)) ∧ m24 N (.lst false L.length (rwsP L)) = some (.int .i64 (chk L)) := by
  simp only [lgL, Bool.or_eq_false_iff, decide_eq_false_iff_not] at hL
  have hL1 : L.length ≤ 20 := by omega
  have hr20 : ∀ r ∈ L, r.length ≤ 20 := fun r hr => by
    have h := hL.2
    rw [List.any_eq_false] at h
    have := h r hr
    simp at this; exact this
  have hl := rws_len L
  simp only [m23, m24, getL]
  unfold chk
  by_cases h0 : L.length = 0
  · have q : ∀ {α : Type} (y z : Option α), brn ((L.length : Int) == 0) y z = y := fun y z => brn_t (eq0_t h0)
    rw [q, q, if_pos h0]; exact ⟨rfl, rfl⟩
  · have q : ∀ {α : Type} (y z : Option α), brn ((L.length : Int) == 0) y z = z := fun y z => brn_f (eq0_f h0)
    rw [q, q, if_neg h0, grd_t (by omega), grd_t (by omega), grd_t (by omega), grd_t (by omega), rws_gp (by omega)]
    simp only []
    by_cases h1 : (ro L 0).length = 0
    · have q : ∀ {α : Type} (y z : Option α), brn (((ro L 0).length : Int) == 0) y z = y := fun y z => brn_t (eq0_t h1)
      rw [q, q, if_pos h1]; exact ⟨rfl, rfl⟩
    · have q : ∀ {α : Type} (y z : Option α), brn (((ro L 0).length : Int) == 0) y z = z := fun y z => brn_f (eq0_f h1)
      rw [q, q, if_neg h1]
      by_cases h2 : 3 < L.length
      · have q : ∀ {α : Type} (y z : Option α), brn (decide ((L.length : Int) > 3)) y z = y := fun y z => brn_t (by simp; omega)
        rw [q, q, if_pos h2]; exact ⟨rfl, rfl⟩
      · have q : ∀ {α : Type} (y z : Option α), brn (decide ((L.length : Int) > 3)) y z = z := fun y z => brn_f (by simp; omega)
        rw [q, q, if_neg h2]
        by_cases h3 : 4 < (ro L 0).length
        · have q : ∀ {α : Type} (y z : Option α), brn (decide (((ro L 0).length : Int) > 4)) y z = y := fun y z => brn_t (by simp; omega)
          rw [q, q, if_pos h3]; exact ⟨rfl, rfl⟩
        · have q : ∀ {α : Type} (y z : Option α), brn (decide (((ro L 0).length : Int) > 4)) y z = z := fun y z => brn_f (by simp; omega)
          obtain ⟨e1, e2⟩ := check_L N hN L hL1 hr20 (ro L 0).length L.length 0 N (by omega) (by omega)
          rw [List.drop_zero] at e1 e2
          rw [q, q, if_neg h3, show m23_L0 N L.length (rwsP L) (ro L 0).length N 0 = _ from e1, show m24_L0 N L.length (rwsP L) (ro L 0).length N 0 = _ from e2]
          simp only [bnd']
          exact ⟨outE_end, outE_end⟩
structure Okc (L : List (List Int)) (c : Nat) : Prop where
  r1 : 1 ≤ L.length
  r3 : L.length ≤ 3
  c1 : 1 ≤ c
  c4 : c ≤ 4
  row : ∀ i, i < L.length → (ro L i).length = c
  val : ∀ i j, i < L.length → j < c → 0 ≤ en (ro L i) j ∧ en (ro L i) j ≤ 20
theorem chR_zero {c : Nat} : ∀ {L : List (List Int)}, chR c L = 0 → ∀ r ∈ L, r.length = c ∧ r.any (bad 0 20) = false
  | [], _, _, h => by simp at h
  | r :: rs, h, x, hx => by
    unfold chR at h
    split at h
    · cases h
    · rename_i h1
      split at h
      · cases h
      · rename_i h2
        rcases List.mem_cons.1 hx with rfl | hx
        · exact ⟨by omega, by simpa using h2⟩
        · exact chR_zero h x hx
theorem chk_zero {L : List (List Int)} (h : chk L = 0) : Okc L (ro L 0).length := by
  unfold chk at h
  split at h
  · cases h
  · split at h
    · cases h
    · split at h
      · cases h
      · split at h
        · cases h
        · have hz := chR_zero h
          refine ⟨by omega, by omega, by omega, by omega, fun i hi => (hz _ (ro_mem hi)).1, fun i j hi hj => ?_⟩
          obtain ⟨h1, h2⟩ := hz _ (ro_mem hi)
          rw [List.any_eq_false] at h2
          have := h2 _ (en_mem (X := ro L i) (i := j) (by omega))
          simp only [bad, Bool.or_eq_true, decide_eq_true_eq, not_or] at this
          omega
theorem numbers_L (N n : Nat) (hn : n ≤ 1000) : ∀ (r i fuel : Nat), n - i = r → i ≤ n → r < fuel →
    m77_L0 N (n : Int) fuel (i : Int) (nL (List.range i) ++ List.replicate (n - i) (.int .i64 0)) = some (nL (List.range n))
  | r, i, 0, _, _, h => by omega
  | r, i, f + 1, hr, hi, hf => by
    have hl := nL_len (List.range i)
    simp only [List.length_range] at hl
    rw [m77_L0, toNatN]
    by_cases h : i < n
    · have ih := numbers_L N n hn (r - 1) (i + 1) f (by omega) (by omega) (by omega)
      have e : (nL (List.range i) ++ List.replicate (n - i) (PV.int .i64 0)).set i (.int .i64 (i : Int)) = nL (List.range (i + 1)) ++ List.replicate (n - (i + 1)) (.int .i64 0) := by
        rw [show n - i = (n - (i + 1)) + 1 by omega, List.replicate_succ, List.set_append_right _ _ (by omega), hl, Nat.sub_self, List.set_cons_zero]
        simp [nL, List.range_succ]
      rw [brn_t (by simp; omega), grd_t ⟨by omega, by omega⟩, toNatN, grd_t (by simp only [List.length_append, List.length_replicate]; omega), e, wrapN (by omega), ih]
    · have : i = n := by omega
      subst this
      rw [brn_f (by simp)]; simp
theorem numbers_ok (N n : Nat) (hN : 2000 ≤ N) (hn : n ≤ 1000) : m77 N (n : Int) = some (rwN (List.range n)) := by
  have := numbers_L N n hn n 0 N (by omega) (by omega) (by omega)
  simp only [List.range_zero, Nat.sub_zero] at this
  rw [m77, grd_t ⟨by omega, by omega, by omega⟩, toNatN]
  rw [show m77_L0 N (n : Int) N 0 (List.replicate n (.int .i64 0)) = _ from this]
  simp only [bnd']
  rw [grd_t (by rw [nL_len]; simp)]
  simp [rwN]
end Go.Proofs.Yteidcinajdehkaa
