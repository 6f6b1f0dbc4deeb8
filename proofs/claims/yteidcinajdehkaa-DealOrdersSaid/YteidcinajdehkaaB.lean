/-
  The table of types of this dump, for the engine.
-/
import Derived.Test.YteidcinajdehkaaProg
import Derived.Test.YteidcinajdehkaaV30
import Derived.KernelRfl
namespace Go.Proofs.Yteidcinajdehkaa
open Go.V
def tab : Tab := [
  (1, ⟨.other, 1, 8, [.dead]⟩),
  (2, ⟨.int .i64, 1, 8, [.v (.int .i64 0)]⟩),
  (3, ⟨.int .i64, 1, 8, [.v (.int .i64 0)]⟩),
  (4, ⟨.bool, 1, 1, [.v (.bool false)]⟩),
  (5, ⟨.int .u8, 1, 1, [.v (.int .u8 0)]⟩),
  (9, ⟨.str, 1, 16, [.v (.str ⟨#[]⟩)]⟩),
  (17, ⟨.ptr, 1, 8, [.dead]⟩),
  (21, ⟨.int .i32, 1, 4, [.v (.int .i32 0)]⟩),
  (22, ⟨.slice 23, 1, 24, [.v .nl]⟩),
  (23, ⟨.slice 3, 1, 24, [.v .nl]⟩),
  (24, ⟨.struct [(0, 23), (1, 23)], 2, 48, [.v .nl, .v .nl]⟩),
  (25, ⟨.struct [(0, 23), (1, 23)], 2, 48, [.v .nl, .v .nl]⟩),
  (26, ⟨.other, 1, 8, [.dead]⟩),
  (27, ⟨.other, 1, 8, [.dead]⟩),
  (28, ⟨.other, 1, 8, [.dead]⟩),
  (29, ⟨.struct [(0, 23), (1, 23)], 2, 48, [.v .nl, .v .nl]⟩),
  (30, ⟨.int .i64, 1, 8, [.v (.int .i64 0)]⟩),
  (32, ⟨.other, 1, 8, [.dead]⟩),
  (33, ⟨.other, 1, 8, [.dead]⟩),
  (35, ⟨.other, 1, 8, [.dead]⟩),
  (36, ⟨.other, 1, 8, [.dead]⟩),
  (37, ⟨.other, 1, 8, [.dead]⟩),
  (38, ⟨.other, 1, 8, [.dead]⟩),
  (39, ⟨.other, 1, 8, [.dead]⟩),
  (40, ⟨.other, 1, 8, [.dead]⟩),
  (41, ⟨.other, 1, 8, [.dead]⟩),
  (42, ⟨.other, 1, 8, [.dead]⟩),
  (43, ⟨.other, 1, 8, [.dead]⟩),
  (44, ⟨.other, 1, 8, [.dead]⟩),
  (46, ⟨.other, 1, 8, [.dead]⟩),
  (48, ⟨.other, 1, 8, [.dead]⟩),
  (50, ⟨.other, 1, 8, [.dead]⟩),
  (51, ⟨.other, 1, 8, [.dead]⟩),
  (52, ⟨.struct [(0, 23), (1, 23)], 2, 48, [.v .nl, .v .nl]⟩),
  (53, ⟨.struct [(0, 23), (1, 23)], 2, 48, [.v .nl, .v .nl]⟩),
  (54, ⟨.struct [(0, 23), (1, 23)], 2, 48, [.v .nl, .v .nl]⟩),
  (56, ⟨.other, 1, 8, [.dead]⟩),
  (58, ⟨.other, 1, 8, [.dead]⟩),
  (59, ⟨.other, 1, 8, [.dead]⟩),
  (60, ⟨.other, 1, 8, [.dead]⟩),
  (61, ⟨.other, 1, 8, [.dead]⟩),
  (62, ⟨.other, 1, 8, [.dead]⟩),
  (63, ⟨.other, 1, 8, [.dead]⟩),
  (64, ⟨.arr 4 5, 4, 4, [.v (.int .u8 0), .v (.int .u8 0), .v (.int .u8 0), .v (.int .u8 0)]⟩),
  (65, ⟨.arr 3 64, 12, 12, [.v (.int .u8 0), .v (.int .u8 0), .v (.int .u8 0), .v (.int .u8 0), .v (.int .u8 0), .v (.int .u8 0), .v (.int .u8 0), .v (.int .u8 0), .v (.int .u8 0), .v (.int .u8 0), .v (.int .u8 0), .v (.int .u8 0)]⟩),
  (66, ⟨.arr 3 5, 3, 3, [.v (.int .u8 0), .v (.int .u8 0), .v (.int .u8 0)]⟩),
  (67, ⟨.arr 2 5, 2, 2, [.v (.int .u8 0), .v (.int .u8 0)]⟩),
  (68, ⟨.arr 7 67, 14, 14, [.v (.int .u8 0), .v (.int .u8 0), .v (.int .u8 0), .v (.int .u8 0), .v (.int .u8 0), .v (.int .u8 0), .v (.int .u8 0), .v (.int .u8 0), .v (.int .u8 0), .v (.int .u8 0), .v (.int .u8 0), .v (.int .u8 0), .v (.int .u8 0), .v (.int .u8 0)]⟩),
  (69, ⟨.struct [(0, 5), (1, 5), (2, 5), (3, 65), (15, 66), (18, 64), (22, 68), (36, 5)], 37, 37, [.v (.int .u8 0), .v (.int .u8 0), .v (.int .u8 0), .v (.int .u8 0), .v (.int .u8 0), .v (.int .u8 0), .v (.int .u8 0), .v (.int .u8 0), .v (.int .u8 0), .v (.int .u8 0), .v (.int .u8 0), .v (.int .u8 0), .v (.int .u8 0), .v (.int .u8 0), .v (.int .u8 0), .v (.int .u8 0), .v (.int .u8 0), .v (.int .u8 0), .v (.int .u8 0), .v (.int .u8 0), .v (.int .u8 0), .v (.int .u8 0), .v (.int .u8 0), .v (.int .u8 0), .v (.int .u8 0), .v (.int .u8 0), .v (.int .u8 0), .v (.int .u8 0), .v (.int .u8 0), .v (.int .u8 0), .v (.int .u8 0), .v (.int .u8 0), .v (.int .u8 0), .v (.int .u8 0), .v (.int .u8 0), .v (.int .u8 0), .v (.int .u8 0)]⟩),
  (70, ⟨.struct [(0, 5), (1, 5), (2, 5), (3, 65), (15, 66), (18, 64), (22, 68), (36, 5)], 37, 37, [.v (.int .u8 0), .v (.int .u8 0), .v (.int .u8 0), .v (.int .u8 0), .v (.int .u8 0), .v (.int .u8 0), .v (.int .u8 0), .v (.int .u8 0), .v (.int .u8 0), .v (.int .u8 0), .v (.int .u8 0), .v (.int .u8 0), .v (.int .u8 0), .v (.int .u8 0), .v (.int .u8 0), .v (.int .u8 0), .v (.int .u8 0), .v (.int .u8 0), .v (.int .u8 0), .v (.int .u8 0), .v (.int .u8 0), .v (.int .u8 0), .v (.int .u8 0), .v (.int .u8 0), .v (.int .u8 0), .v (.int .u8 0), .v (.int .u8 0), .v (.int .u8 0), .v (.int .u8 0), .v (.int .u8 0), .v (.int .u8 0), .v (.int .u8 0), .v (.int .u8 0), .v (.int .u8 0), .v (.int .u8 0), .v (.int .u8 0), .v (.int .u8 0)]⟩),
  (72, ⟨.other, 1, 8, [.dead]⟩),
  (74, ⟨.other, 1, 8, [.dead]⟩),
  (75, ⟨.other, 1, 8, [.dead]⟩),
  (76, ⟨.other, 1, 8, [.dead]⟩),
  (77, ⟨.other, 1, 8, [.dead]⟩),
  (78, ⟨.int .i8, 1, 1, [.v (.int .i8 0)]⟩),
  (79, ⟨.arr 3 78, 3, 3, [.v (.int .i8 0), .v (.int .i8 0), .v (.int .i8 0)]⟩),
  (80, ⟨.arr 4 78, 4, 4, [.v (.int .i8 0), .v (.int .i8 0), .v (.int .i8 0), .v (.int .i8 0)]⟩),
  (81, ⟨.other, 1, 8, [.dead]⟩),
  (82, ⟨.other, 1, 8, [.dead]⟩),
  (83, ⟨.other, 1, 8, [.dead]⟩),
  (84, ⟨.other, 1, 8, [.dead]⟩),
  (85, ⟨.other, 1, 8, [.dead]⟩),
  (86, ⟨.other, 1, 8, [.dead]⟩),
  (87, ⟨.other, 1, 8, [.dead]⟩),
  (88, ⟨.other, 1, 8, [.dead]⟩),
  (89, ⟨.other, 1, 8, [.dead]⟩),
  (90, ⟨.other, 1, 8, [.dead]⟩),
  (91, ⟨.other, 1, 8, [.dead]⟩),
  (92, ⟨.other, 1, 8, [.dead]⟩),
  (93, ⟨.slice 95, 1, 24, [.v .nl]⟩),
  (94, ⟨.other, 1, 8, [.dead]⟩),
  (95, ⟨.arr 2 3, 2, 16, [.v (.int .i64 0), .v (.int .i64 0)]⟩),
  (96, ⟨.other, 1, 8, [.dead]⟩),
  (97, ⟨.other, 1, 8, [.dead]⟩),
  (98, ⟨.other, 1, 8, [.dead]⟩),
  (99, ⟨.other, 1, 8, [.dead]⟩),
  (100, ⟨.other, 1, 8, [.dead]⟩),
  (101, ⟨.other, 1, 8, [.dead]⟩),
  (102, ⟨.slice 22, 1, 24, [.v .nl]⟩),
  (103, ⟨.other, 1, 8, [.dead]⟩),
  (104, ⟨.other, 1, 8, [.dead]⟩),
  (105, ⟨.other, 1, 8, [.dead]⟩),
  (106, ⟨.other, 1, 8, [.dead]⟩),
  (107, ⟨.other, 1, 8, [.dead]⟩),
  (108, ⟨.slice 67, 1, 24, [.v .nl]⟩),
  (109, ⟨.other, 1, 8, [.dead]⟩),
  (110, ⟨.other, 1, 8, [.dead]⟩),
  (111, ⟨.other, 1, 8, [.dead]⟩),
  (112, ⟨.other, 1, 8, [.dead]⟩),
  (113, ⟨.other, 1, 8, [.dead]⟩),
  (114, ⟨.other, 1, 8, [.dead]⟩),
  (115, ⟨.arr 4 23, 4, 96, [.v .nl, .v .nl, .v .nl, .v .nl]⟩),
  (116, ⟨.other, 1, 8, [.dead]⟩),
  (117, ⟨.other, 1, 8, [.dead]⟩),
  (118, ⟨.other, 1, 8, [.dead]⟩),
  (119, ⟨.other, 1, 8, [.dead]⟩),
  (120, ⟨.other, 1, 8, [.dead]⟩),
  (121, ⟨.other, 1, 8, [.dead]⟩),
  (122, ⟨.other, 1, 8, [.dead]⟩),
  (128, ⟨.other, 1, 8, [.dead]⟩),
  (129, ⟨.int .u32, 1, 4, [.v (.int .u32 0)]⟩),
  (133, ⟨.ptr, 1, 8, [.dead]⟩)]
theorem tl1 : tl tab 1 = some ⟨.other, 1, 8, [.dead]⟩ := rfl
theorem tl2 : tl tab 2 = some ⟨.int .i64, 1, 8, [.v (.int .i64 0)]⟩ := rfl
theorem tl3 : tl tab 3 = some ⟨.int .i64, 1, 8, [.v (.int .i64 0)]⟩ := rfl
theorem tl4 : tl tab 4 = some ⟨.bool, 1, 1, [.v (.bool false)]⟩ := rfl
theorem tl5 : tl tab 5 = some ⟨.int .u8, 1, 1, [.v (.int .u8 0)]⟩ := rfl
theorem tl9 : tl tab 9 = some ⟨.str, 1, 16, [.v (.str ⟨#[]⟩)]⟩ := rfl
theorem tl17 : tl tab 17 = some ⟨.ptr, 1, 8, [.dead]⟩ := rfl
theorem tl21 : tl tab 21 = some ⟨.int .i32, 1, 4, [.v (.int .i32 0)]⟩ := rfl
theorem tl22 : tl tab 22 = some ⟨.slice 23, 1, 24, [.v .nl]⟩ := rfl
theorem tl23 : tl tab 23 = some ⟨.slice 3, 1, 24, [.v .nl]⟩ := rfl
theorem tl24 : tl tab 24 = some ⟨.struct [(0, 23), (1, 23)], 2, 48, [.v .nl, .v .nl]⟩ := rfl
theorem tl25 : tl tab 25 = some ⟨.struct [(0, 23), (1, 23)], 2, 48, [.v .nl, .v .nl]⟩ := rfl
theorem tl26 : tl tab 26 = some ⟨.other, 1, 8, [.dead]⟩ := rfl
theorem tl27 : tl tab 27 = some ⟨.other, 1, 8, [.dead]⟩ := rfl
theorem tl28 : tl tab 28 = some ⟨.other, 1, 8, [.dead]⟩ := rfl
theorem tl29 : tl tab 29 = some ⟨.struct [(0, 23), (1, 23)], 2, 48, [.v .nl, .v .nl]⟩ := rfl
theorem tl30 : tl tab 30 = some ⟨.int .i64, 1, 8, [.v (.int .i64 0)]⟩ := rfl
theorem tl32 : tl tab 32 = some ⟨.other, 1, 8, [.dead]⟩ := rfl
theorem tl33 : tl tab 33 = some ⟨.other, 1, 8, [.dead]⟩ := rfl
theorem tl35 : tl tab 35 = some ⟨.other, 1, 8, [.dead]⟩ := rfl
theorem tl36 : tl tab 36 = some ⟨.other, 1, 8, [.dead]⟩ := rfl
theorem tl37 : tl tab 37 = some ⟨.other, 1, 8, [.dead]⟩ := rfl
theorem tl38 : tl tab 38 = some ⟨.other, 1, 8, [.dead]⟩ := rfl
theorem tl39 : tl tab 39 = some ⟨.other, 1, 8, [.dead]⟩ := rfl
theorem tl40 : tl tab 40 = some ⟨.other, 1, 8, [.dead]⟩ := rfl
theorem tl41 : tl tab 41 = some ⟨.other, 1, 8, [.dead]⟩ := rfl
theorem tl42 : tl tab 42 = some ⟨.other, 1, 8, [.dead]⟩ := rfl
theorem tl43 : tl tab 43 = some ⟨.other, 1, 8, [.dead]⟩ := rfl
theorem tl44 : tl tab 44 = some ⟨.other, 1, 8, [.dead]⟩ := rfl
theorem tl46 : tl tab 46 = some ⟨.other, 1, 8, [.dead]⟩ := rfl
theorem tl48 : tl tab 48 = some ⟨.other, 1, 8, [.dead]⟩ := rfl
theorem tl50 : tl tab 50 = some ⟨.other, 1, 8, [.dead]⟩ := rfl
theorem tl51 : tl tab 51 = some ⟨.other, 1, 8, [.dead]⟩ := rfl
theorem tl52 : tl tab 52 = some ⟨.struct [(0, 23), (1, 23)], 2, 48, [.v .nl, .v .nl]⟩ := rfl
theorem tl53 : tl tab 53 = some ⟨.struct [(0, 23), (1, 23)], 2, 48, [.v .nl, .v .nl]⟩ := rfl
theorem tl54 : tl tab 54 = some ⟨.struct [(0, 23), (1, 23)], 2, 48, [.v .nl, .v .nl]⟩ := rfl
theorem tl56 : tl tab 56 = some ⟨.other, 1, 8, [.dead]⟩ := rfl
theorem tl58 : tl tab 58 = some ⟨.other, 1, 8, [.dead]⟩ := rfl
theorem tl59 : tl tab 59 = some ⟨.other, 1, 8, [.dead]⟩ := rfl
theorem tl60 : tl tab 60 = some ⟨.other, 1, 8, [.dead]⟩ := rfl
theorem tl61 : tl tab 61 = some ⟨.other, 1, 8, [.dead]⟩ := rfl
theorem tl62 : tl tab 62 = some ⟨.other, 1, 8, [.dead]⟩ := rfl
theorem tl63 : tl tab 63 = some ⟨.other, 1, 8, [.dead]⟩ := rfl
theorem tl64 : tl tab 64 = some ⟨.arr 4 5, 4, 4, [.v (.int .u8 0), .v (.int .u8 0), .v (.int .u8 0), .v (.int .u8 0)]⟩ := rfl
theorem tl65 : tl tab 65 = some ⟨.arr 3 64, 12, 12, [.v (.int .u8 0), .v (.int .u8 0), .v (.int .u8 0), .v (.int .u8 0), .v (.int .u8 0), .v (.int .u8 0), .v (.int .u8 0), .v (.int .u8 0), .v (.int .u8 0), .v (.int .u8 0), .v (.int .u8 0), .v (.int .u8 0)]⟩ := rfl
theorem tl66 : tl tab 66 = some ⟨.arr 3 5, 3, 3, [.v (.int .u8 0), .v (.int .u8 0), .v (.int .u8 0)]⟩ := rfl
theorem tl67 : tl tab 67 = some ⟨.arr 2 5, 2, 2, [.v (.int .u8 0), .v (.int .u8 0)]⟩ := rfl
theorem tl68 : tl tab 68 = some ⟨.arr 7 67, 14, 14, [.v (.int .u8 0), .v (.int .u8 0), .v (.int .u8 0), .v (.int .u8 0), .v (.int .u8 0), .v (.int .u8 0), .v (.int .u8 0), .v (.int .u8 0), .v (.int .u8 0), .v (.int .u8 0), .v (.int .u8 0), .v (.int .u8 0), .v (.int .u8 0), .v (.int .u8 0)]⟩ := rfl
theorem tl69 : tl tab 69 = some ⟨.struct [(0, 5), (1, 5), (2, 5), (3, 65), (15, 66), (18, 64), (22, 68), (36, 5)], 37, 37, [.v (.int .u8 0), .v (.int .u8 0), .v (.int .u8 0), .v (.int .u8 0), .v (.int .u8 0), .v (.int .u8 0), .v (.int .u8 0), .v (.int .u8 0), .v (.int .u8 0), .v (.int .u8 0), .v (.int .u8 0), .v (.int .u8 0), .v (.int .u8 0), .v (.int .u8 0), .v (.int .u8 0), .v (.int .u8 0), .v (.int .u8 0), .v (.int .u8 0), .v (.int .u8 0), .v (.int .u8 0), .v (.int .u8 0), .v (.int .u8 0), .v (.int .u8 0), .v (.int .u8 0), .v (.int .u8 0), .v (.int .u8 0), .v (.int .u8 0), .v (.int .u8 0), .v (.int .u8 0), .v (.int .u8 0), .v (.int .u8 0), .v (.int .u8 0), .v (.int .u8 0), .v (.int .u8 0), .v (.int .u8 0), .v (.int .u8 0), .v (.int .u8 0)]⟩ := rfl
theorem tl70 : tl tab 70 = some ⟨.struct [(0, 5), (1, 5), (2, 5), (3, 65), (15, 66), (18, 64), (22, 68), (36, 5)], 37, 37, [.v (.int .u8 0), .v (.int .u8 0), .v (.int .u8 0), .v (.int .u8 0), .v (.int .u8 0), .v (.int .u8 0), .v (.int .u8 0), .v (.int .u8 0), .v (.int .u8 0), .v (.int .u8 0), .v (.int .u8 0), .v (.int .u8 0), .v (.int .u8 0), .v (.int .u8 0), .v (.int .u8 0), .v (.int .u8 0), .v (.int .u8 0), .v (.int .u8 0), .v (.int .u8 0), .v (.int .u8 0), .v (.int .u8 0), .v (.int .u8 0), .v (.int .u8 0), .v (.int .u8 0), .v (.int .u8 0), .v (.int .u8 0), .v (.int .u8 0), .v (.int .u8 0), .v (.int .u8 0), .v (.int .u8 0), .v (.int .u8 0), .v (.int .u8 0), .v (.int .u8 0), .v (.int .u8 0), .v (.int .u8 0), .v (.int .u8 0), .v (.int .u8 0)]⟩ := rfl
theorem tl72 : tl tab 72 = some ⟨.other, 1, 8, [.dead]⟩ := rfl
theorem tl74 : tl tab 74 = some ⟨.other, 1, 8, [.dead]⟩ := rfl
theorem tl75 : tl tab 75 = some ⟨.other, 1, 8, [.dead]⟩ := rfl
theorem tl76 : tl tab 76 = some ⟨.other, 1, 8, [.dead]⟩ := rfl
theorem tl77 : tl tab 77 = some ⟨.other, 1, 8, [.dead]⟩ := rfl
theorem tl78 : tl tab 78 = some ⟨.int .i8, 1, 1, [.v (.int .i8 0)]⟩ := rfl
theorem tl79 : tl tab 79 = some ⟨.arr 3 78, 3, 3, [.v (.int .i8 0), .v (.int .i8 0), .v (.int .i8 0)]⟩ := rfl
theorem tl80 : tl tab 80 = some ⟨.arr 4 78, 4, 4, [.v (.int .i8 0), .v (.int .i8 0), .v (.int .i8 0), .v (.int .i8 0)]⟩ := rfl
theorem tl81 : tl tab 81 = some ⟨.other, 1, 8, [.dead]⟩ := rfl
theorem tl82 : tl tab 82 = some ⟨.other, 1, 8, [.dead]⟩ := rfl
theorem tl83 : tl tab 83 = some ⟨.other, 1, 8, [.dead]⟩ := rfl
theorem tl84 : tl tab 84 = some ⟨.other, 1, 8, [.dead]⟩ := rfl
theorem tl85 : tl tab 85 = some ⟨.other, 1, 8, [.dead]⟩ := rfl
theorem tl86 : tl tab 86 = some ⟨.other, 1, 8, [.dead]⟩ := rfl
theorem tl87 : tl tab 87 = some ⟨.other, 1, 8, [.dead]⟩ := rfl
theorem tl88 : tl tab 88 = some ⟨.other, 1, 8, [.dead]⟩ := rfl
theorem tl89 : tl tab 89 = some ⟨.other, 1, 8, [.dead]⟩ := rfl
theorem tl90 : tl tab 90 = some ⟨.other, 1, 8, [.dead]⟩ := rfl
theorem tl91 : tl tab 91 = some ⟨.other, 1, 8, [.dead]⟩ := rfl
theorem tl92 : tl tab 92 = some ⟨.other, 1, 8, [.dead]⟩ := rfl
theorem tl93 : tl tab 93 = some ⟨.slice 95, 1, 24, [.v .nl]⟩ := rfl
theorem tl94 : tl tab 94 = some ⟨.other, 1, 8, [.dead]⟩ := rfl
theorem tl95 : tl tab 95 = some ⟨.arr 2 3, 2, 16, [.v (.int .i64 0), .v (.int .i64 0)]⟩ := rfl
theorem tl96 : tl tab 96 = some ⟨.other, 1, 8, [.dead]⟩ := rfl
theorem tl97 : tl tab 97 = some ⟨.other, 1, 8, [.dead]⟩ := rfl
theorem tl98 : tl tab 98 = some ⟨.other, 1, 8, [.dead]⟩ := rfl
theorem tl99 : tl tab 99 = some ⟨.other, 1, 8, [.dead]⟩ := rfl
theorem tl100 : tl tab 100 = some ⟨.other, 1, 8, [.dead]⟩ := rfl
theorem tl101 : tl tab 101 = some ⟨.other, 1, 8, [.dead]⟩ := rfl
theorem tl102 : tl tab 102 = some ⟨.slice 22, 1, 24, [.v .nl]⟩ := rfl
theorem tl103 : tl tab 103 = some ⟨.other, 1, 8, [.dead]⟩ := rfl
theorem tl104 : tl tab 104 = some ⟨.other, 1, 8, [.dead]⟩ := rfl
theorem tl105 : tl tab 105 = some ⟨.other, 1, 8, [.dead]⟩ := rfl
theorem tl106 : tl tab 106 = some ⟨.other, 1, 8, [.dead]⟩ := rfl
theorem tl107 : tl tab 107 = some ⟨.other, 1, 8, [.dead]⟩ := rfl
theorem tl108 : tl tab 108 = some ⟨.slice 67, 1, 24, [.v .nl]⟩ := rfl
theorem tl109 : tl tab 109 = some ⟨.other, 1, 8, [.dead]⟩ := rfl
theorem tl110 : tl tab 110 = some ⟨.other, 1, 8, [.dead]⟩ := rfl
theorem tl111 : tl tab 111 = some ⟨.other, 1, 8, [.dead]⟩ := rfl
theorem tl112 : tl tab 112 = some ⟨.other, 1, 8, [.dead]⟩ := rfl
theorem tl113 : tl tab 113 = some ⟨.other, 1, 8, [.dead]⟩ := rfl
theorem tl114 : tl tab 114 = some ⟨.other, 1, 8, [.dead]⟩ := rfl
theorem tl115 : tl tab 115 = some ⟨.arr 4 23, 4, 96, [.v .nl, .v .nl, .v .nl, .v .nl]⟩ := rfl
theorem tl116 : tl tab 116 = some ⟨.other, 1, 8, [.dead]⟩ := rfl
theorem tl117 : tl tab 117 = some ⟨.other, 1, 8, [.dead]⟩ := rfl
theorem tl118 : tl tab 118 = some ⟨.other, 1, 8, [.dead]⟩ := rfl
theorem tl119 : tl tab 119 = some ⟨.other, 1, 8, [.dead]⟩ := rfl
theorem tl120 : tl tab 120 = some ⟨.other, 1, 8, [.dead]⟩ := rfl
theorem tl121 : tl tab 121 = some ⟨.other, 1, 8, [.dead]⟩ := rfl
theorem tl122 : tl tab 122 = some ⟨.other, 1, 8, [.dead]⟩ := rfl
theorem tl128 : tl tab 128 = some ⟨.other, 1, 8, [.dead]⟩ := rfl
theorem tl129 : tl tab 129 = some ⟨.int .u32, 1, 4, [.v (.int .u32 0)]⟩ := rfl
theorem tl133 : tl tab 133 = some ⟨.ptr, 1, 8, [.dead]⟩ := rfl
theorem tab_ok : TOk Try.prog tab := tabB_ok (by kernel_rfl)
theorem mixed : Try.prog.follows .mixedOrders = true := by kernel_rfl
end Go.Proofs.Yteidcinajdehkaa
