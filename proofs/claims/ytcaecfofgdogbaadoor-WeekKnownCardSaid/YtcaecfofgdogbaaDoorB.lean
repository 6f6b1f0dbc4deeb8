/-
  The table of types of this dump, for the engine.
-/
import Derived.Test.YtcaecfofgdogbaaDoorProg
import Derived.Test.YtcaecfofgdogbaaDoorV30
import Derived.KernelRfl
namespace Go.Proofs.YtcaecfofgdogbaaDoor
open Go.V
def tab : Tab := [
  (1, ⟨.other, 1, 8, [.dead]⟩),
  (2, ⟨.int .i64, 1, 8, [.v (.int .i64 0)]⟩),
  (3, ⟨.int .i64, 1, 8, [.v (.int .i64 0)]⟩),
  (4, ⟨.bool, 1, 1, [.v (.bool false)]⟩),
  (5, ⟨.int .u8, 1, 1, [.v (.int .u8 0)]⟩),
  (9, ⟨.str, 1, 16, [.v (.str ⟨#[]⟩)]⟩),
  (17, ⟨.other, 1, 8, [.dead]⟩),
  (21, ⟨.int .i32, 1, 4, [.v (.int .i32 0)]⟩),
  (22, ⟨.slice 28, 1, 24, [.v .nl]⟩),
  (23, ⟨.other, 1, 8, [.dead]⟩),
  (24, ⟨.other, 1, 8, [.dead]⟩),
  (25, ⟨.int .i64, 1, 8, [.v (.int .i64 0)]⟩),
  (27, ⟨.other, 1, 8, [.dead]⟩),
  (28, ⟨.slice 3, 1, 24, [.v .nl]⟩),
  (30, ⟨.other, 1, 8, [.dead]⟩),
  (31, ⟨.other, 1, 8, [.dead]⟩),
  (32, ⟨.other, 1, 8, [.dead]⟩),
  (33, ⟨.other, 1, 8, [.dead]⟩),
  (35, ⟨.other, 1, 8, [.dead]⟩),
  (36, ⟨.other, 1, 8, [.dead]⟩),
  (37, ⟨.other, 1, 8, [.dead]⟩),
  (38, ⟨.arr 5 5, 5, 5, [.v (.int .u8 0), .v (.int .u8 0), .v (.int .u8 0), .v (.int .u8 0), .v (.int .u8 0)]⟩),
  (39, ⟨.struct [(0, 5), (1, 5), (2, 38)], 7, 7, [.v (.int .u8 0), .v (.int .u8 0), .v (.int .u8 0), .v (.int .u8 0), .v (.int .u8 0), .v (.int .u8 0), .v (.int .u8 0)]⟩),
  (40, ⟨.struct [(0, 5), (1, 5), (2, 38)], 7, 7, [.v (.int .u8 0), .v (.int .u8 0), .v (.int .u8 0), .v (.int .u8 0), .v (.int .u8 0), .v (.int .u8 0), .v (.int .u8 0)]⟩),
  (42, ⟨.other, 1, 8, [.dead]⟩),
  (43, ⟨.other, 1, 8, [.dead]⟩),
  (44, ⟨.other, 1, 8, [.dead]⟩),
  (45, ⟨.other, 1, 8, [.dead]⟩),
  (46, ⟨.other, 1, 8, [.dead]⟩),
  (47, ⟨.other, 1, 8, [.dead]⟩),
  (48, ⟨.other, 1, 8, [.dead]⟩),
  (49, ⟨.other, 1, 8, [.dead]⟩),
  (50, ⟨.other, 1, 8, [.dead]⟩),
  (51, ⟨.other, 1, 8, [.dead]⟩),
  (52, ⟨.other, 1, 8, [.dead]⟩),
  (53, ⟨.other, 1, 8, [.dead]⟩),
  (54, ⟨.other, 1, 8, [.dead]⟩),
  (55, ⟨.arr 2 5, 2, 2, [.v (.int .u8 0), .v (.int .u8 0)]⟩),
  (56, ⟨.other, 1, 8, [.dead]⟩),
  (57, ⟨.other, 1, 8, [.dead]⟩),
  (58, ⟨.other, 1, 8, [.dead]⟩),
  (59, ⟨.other, 1, 8, [.dead]⟩),
  (61, ⟨.other, 1, 8, [.dead]⟩),
  (62, ⟨.other, 1, 8, [.dead]⟩),
  (63, ⟨.int .u64, 1, 8, [.v (.int .u64 0)]⟩),
  (64, ⟨.arr 5 3, 5, 40, [.v (.int .i64 0), .v (.int .i64 0), .v (.int .i64 0), .v (.int .i64 0), .v (.int .i64 0)]⟩),
  (65, ⟨.arr 5 64, 25, 200, [.v (.int .i64 0), .v (.int .i64 0), .v (.int .i64 0), .v (.int .i64 0), .v (.int .i64 0), .v (.int .i64 0), .v (.int .i64 0), .v (.int .i64 0), .v (.int .i64 0), .v (.int .i64 0), .v (.int .i64 0), .v (.int .i64 0), .v (.int .i64 0), .v (.int .i64 0), .v (.int .i64 0), .v (.int .i64 0), .v (.int .i64 0), .v (.int .i64 0), .v (.int .i64 0), .v (.int .i64 0), .v (.int .i64 0), .v (.int .i64 0), .v (.int .i64 0), .v (.int .i64 0), .v (.int .i64 0)]⟩),
  (66, ⟨.arr 5 63, 5, 40, [.v (.int .u64 0), .v (.int .u64 0), .v (.int .u64 0), .v (.int .u64 0), .v (.int .u64 0)]⟩),
  (67, ⟨.struct [(0, 3), (1, 65), (26, 66), (31, 66)], 36, 288, [.v (.int .i64 0), .v (.int .i64 0), .v (.int .i64 0), .v (.int .i64 0), .v (.int .i64 0), .v (.int .i64 0), .v (.int .i64 0), .v (.int .i64 0), .v (.int .i64 0), .v (.int .i64 0), .v (.int .i64 0), .v (.int .i64 0), .v (.int .i64 0), .v (.int .i64 0), .v (.int .i64 0), .v (.int .i64 0), .v (.int .i64 0), .v (.int .i64 0), .v (.int .i64 0), .v (.int .i64 0), .v (.int .i64 0), .v (.int .i64 0), .v (.int .i64 0), .v (.int .i64 0), .v (.int .i64 0), .v (.int .i64 0), .v (.int .u64 0), .v (.int .u64 0), .v (.int .u64 0), .v (.int .u64 0), .v (.int .u64 0), .v (.int .u64 0), .v (.int .u64 0), .v (.int .u64 0), .v (.int .u64 0), .v (.int .u64 0)]⟩),
  (68, ⟨.struct [(0, 3), (1, 65), (26, 66), (31, 66)], 36, 288, [.v (.int .i64 0), .v (.int .i64 0), .v (.int .i64 0), .v (.int .i64 0), .v (.int .i64 0), .v (.int .i64 0), .v (.int .i64 0), .v (.int .i64 0), .v (.int .i64 0), .v (.int .i64 0), .v (.int .i64 0), .v (.int .i64 0), .v (.int .i64 0), .v (.int .i64 0), .v (.int .i64 0), .v (.int .i64 0), .v (.int .i64 0), .v (.int .i64 0), .v (.int .i64 0), .v (.int .i64 0), .v (.int .i64 0), .v (.int .i64 0), .v (.int .i64 0), .v (.int .i64 0), .v (.int .i64 0), .v (.int .i64 0), .v (.int .u64 0), .v (.int .u64 0), .v (.int .u64 0), .v (.int .u64 0), .v (.int .u64 0), .v (.int .u64 0), .v (.int .u64 0), .v (.int .u64 0), .v (.int .u64 0), .v (.int .u64 0)]⟩),
  (69, ⟨.other, 1, 8, [.dead]⟩),
  (70, ⟨.other, 1, 8, [.dead]⟩),
  (71, ⟨.struct [(0, 3), (1, 3), (2, 4), (3, 65)], 28, 224, [.v (.int .i64 0), .v (.int .i64 0), .v (.bool false), .v (.int .i64 0), .v (.int .i64 0), .v (.int .i64 0), .v (.int .i64 0), .v (.int .i64 0), .v (.int .i64 0), .v (.int .i64 0), .v (.int .i64 0), .v (.int .i64 0), .v (.int .i64 0), .v (.int .i64 0), .v (.int .i64 0), .v (.int .i64 0), .v (.int .i64 0), .v (.int .i64 0), .v (.int .i64 0), .v (.int .i64 0), .v (.int .i64 0), .v (.int .i64 0), .v (.int .i64 0), .v (.int .i64 0), .v (.int .i64 0), .v (.int .i64 0), .v (.int .i64 0), .v (.int .i64 0)]⟩),
  (72, ⟨.struct [(0, 3), (1, 3), (2, 4), (3, 65)], 28, 224, [.v (.int .i64 0), .v (.int .i64 0), .v (.bool false), .v (.int .i64 0), .v (.int .i64 0), .v (.int .i64 0), .v (.int .i64 0), .v (.int .i64 0), .v (.int .i64 0), .v (.int .i64 0), .v (.int .i64 0), .v (.int .i64 0), .v (.int .i64 0), .v (.int .i64 0), .v (.int .i64 0), .v (.int .i64 0), .v (.int .i64 0), .v (.int .i64 0), .v (.int .i64 0), .v (.int .i64 0), .v (.int .i64 0), .v (.int .i64 0), .v (.int .i64 0), .v (.int .i64 0), .v (.int .i64 0), .v (.int .i64 0), .v (.int .i64 0), .v (.int .i64 0)]⟩),
  (73, ⟨.other, 1, 8, [.dead]⟩),
  (74, ⟨.other, 1, 8, [.dead]⟩),
  (75, ⟨.other, 1, 8, [.dead]⟩),
  (76, ⟨.struct [(0, 3), (1, 3)], 2, 16, [.v (.int .i64 0), .v (.int .i64 0)]⟩),
  (77, ⟨.struct [(0, 3), (1, 3)], 2, 16, [.v (.int .i64 0), .v (.int .i64 0)]⟩),
  (78, ⟨.other, 1, 8, [.dead]⟩),
  (79, ⟨.other, 1, 8, [.dead]⟩),
  (80, ⟨.other, 1, 8, [.dead]⟩),
  (81, ⟨.other, 1, 8, [.dead]⟩),
  (82, ⟨.other, 1, 8, [.dead]⟩),
  (83, ⟨.other, 1, 8, [.dead]⟩),
  (84, ⟨.other, 1, 8, [.dead]⟩),
  (85, ⟨.other, 1, 8, [.dead]⟩),
  (87, ⟨.other, 1, 8, [.dead]⟩),
  (89, ⟨.other, 1, 8, [.dead]⟩),
  (90, ⟨.other, 1, 8, [.dead]⟩),
  (91, ⟨.other, 1, 8, [.dead]⟩),
  (92, ⟨.other, 1, 8, [.dead]⟩),
  (93, ⟨.ifc, 1, 16, [.dead]⟩),
  (94, ⟨.ifc, 1, 16, [.dead]⟩),
  (96, ⟨.other, 1, 8, [.dead]⟩),
  (97, ⟨.other, 1, 8, [.dead]⟩),
  (98, ⟨.other, 1, 8, [.dead]⟩),
  (99, ⟨.other, 1, 8, [.dead]⟩),
  (100, ⟨.other, 1, 8, [.dead]⟩),
  (101, ⟨.other, 1, 8, [.dead]⟩),
  (102, ⟨.other, 1, 8, [.dead]⟩),
  (103, ⟨.other, 1, 8, [.dead]⟩),
  (104, ⟨.int .u32, 1, 4, [.v (.int .u32 0)]⟩),
  (105, ⟨.other, 1, 8, [.dead]⟩),
  (106, ⟨.int .u64, 1, 8, [.v (.int .u64 0)]⟩),
  (107, ⟨.arr 32 5, 32, 32, [.v (.int .u8 0), .v (.int .u8 0), .v (.int .u8 0), .v (.int .u8 0), .v (.int .u8 0), .v (.int .u8 0), .v (.int .u8 0), .v (.int .u8 0), .v (.int .u8 0), .v (.int .u8 0), .v (.int .u8 0), .v (.int .u8 0), .v (.int .u8 0), .v (.int .u8 0), .v (.int .u8 0), .v (.int .u8 0), .v (.int .u8 0), .v (.int .u8 0), .v (.int .u8 0), .v (.int .u8 0), .v (.int .u8 0), .v (.int .u8 0), .v (.int .u8 0), .v (.int .u8 0), .v (.int .u8 0), .v (.int .u8 0), .v (.int .u8 0), .v (.int .u8 0), .v (.int .u8 0), .v (.int .u8 0), .v (.int .u8 0), .v (.int .u8 0)]⟩),
  (108, ⟨.arr 64 5, 64, 64, [.v (.int .u8 0), .v (.int .u8 0), .v (.int .u8 0), .v (.int .u8 0), .v (.int .u8 0), .v (.int .u8 0), .v (.int .u8 0), .v (.int .u8 0), .v (.int .u8 0), .v (.int .u8 0), .v (.int .u8 0), .v (.int .u8 0), .v (.int .u8 0), .v (.int .u8 0), .v (.int .u8 0), .v (.int .u8 0), .v (.int .u8 0), .v (.int .u8 0), .v (.int .u8 0), .v (.int .u8 0), .v (.int .u8 0), .v (.int .u8 0), .v (.int .u8 0), .v (.int .u8 0), .v (.int .u8 0), .v (.int .u8 0), .v (.int .u8 0), .v (.int .u8 0), .v (.int .u8 0), .v (.int .u8 0), .v (.int .u8 0), .v (.int .u8 0), .v (.int .u8 0), .v (.int .u8 0), .v (.int .u8 0), .v (.int .u8 0), .v (.int .u8 0), .v (.int .u8 0), .v (.int .u8 0), .v (.int .u8 0), .v (.int .u8 0), .v (.int .u8 0), .v (.int .u8 0), .v (.int .u8 0), .v (.int .u8 0), .v (.int .u8 0), .v (.int .u8 0), .v (.int .u8 0), .v (.int .u8 0), .v (.int .u8 0), .v (.int .u8 0), .v (.int .u8 0), .v (.int .u8 0), .v (.int .u8 0), .v (.int .u8 0), .v (.int .u8 0), .v (.int .u8 0), .v (.int .u8 0), .v (.int .u8 0), .v (.int .u8 0), .v (.int .u8 0), .v (.int .u8 0), .v (.int .u8 0), .v (.int .u8 0)]⟩),
  (109, ⟨.other, 1, 8, [.dead]⟩),
  (115, ⟨.other, 1, 8, [.dead]⟩),
  (119, ⟨.other, 1, 8, [.dead]⟩)]
theorem tl1 : tl tab 1 = some ⟨.other, 1, 8, [.dead]⟩ := rfl
theorem tl2 : tl tab 2 = some ⟨.int .i64, 1, 8, [.v (.int .i64 0)]⟩ := rfl
theorem tl3 : tl tab 3 = some ⟨.int .i64, 1, 8, [.v (.int .i64 0)]⟩ := rfl
theorem tl4 : tl tab 4 = some ⟨.bool, 1, 1, [.v (.bool false)]⟩ := rfl
theorem tl5 : tl tab 5 = some ⟨.int .u8, 1, 1, [.v (.int .u8 0)]⟩ := rfl
theorem tl9 : tl tab 9 = some ⟨.str, 1, 16, [.v (.str ⟨#[]⟩)]⟩ := rfl
theorem tl17 : tl tab 17 = some ⟨.other, 1, 8, [.dead]⟩ := rfl
theorem tl21 : tl tab 21 = some ⟨.int .i32, 1, 4, [.v (.int .i32 0)]⟩ := rfl
theorem tl22 : tl tab 22 = some ⟨.slice 28, 1, 24, [.v .nl]⟩ := rfl
theorem tl23 : tl tab 23 = some ⟨.other, 1, 8, [.dead]⟩ := rfl
theorem tl24 : tl tab 24 = some ⟨.other, 1, 8, [.dead]⟩ := rfl
theorem tl25 : tl tab 25 = some ⟨.int .i64, 1, 8, [.v (.int .i64 0)]⟩ := rfl
theorem tl27 : tl tab 27 = some ⟨.other, 1, 8, [.dead]⟩ := rfl
theorem tl28 : tl tab 28 = some ⟨.slice 3, 1, 24, [.v .nl]⟩ := rfl
theorem tl30 : tl tab 30 = some ⟨.other, 1, 8, [.dead]⟩ := rfl
theorem tl31 : tl tab 31 = some ⟨.other, 1, 8, [.dead]⟩ := rfl
theorem tl32 : tl tab 32 = some ⟨.other, 1, 8, [.dead]⟩ := rfl
theorem tl33 : tl tab 33 = some ⟨.other, 1, 8, [.dead]⟩ := rfl
theorem tl35 : tl tab 35 = some ⟨.other, 1, 8, [.dead]⟩ := rfl
theorem tl36 : tl tab 36 = some ⟨.other, 1, 8, [.dead]⟩ := rfl
theorem tl37 : tl tab 37 = some ⟨.other, 1, 8, [.dead]⟩ := rfl
theorem tl38 : tl tab 38 = some ⟨.arr 5 5, 5, 5, [.v (.int .u8 0), .v (.int .u8 0), .v (.int .u8 0), .v (.int .u8 0), .v (.int .u8 0)]⟩ := rfl
theorem tl39 : tl tab 39 = some ⟨.struct [(0, 5), (1, 5), (2, 38)], 7, 7, [.v (.int .u8 0), .v (.int .u8 0), .v (.int .u8 0), .v (.int .u8 0), .v (.int .u8 0), .v (.int .u8 0), .v (.int .u8 0)]⟩ := rfl
theorem tl40 : tl tab 40 = some ⟨.struct [(0, 5), (1, 5), (2, 38)], 7, 7, [.v (.int .u8 0), .v (.int .u8 0), .v (.int .u8 0), .v (.int .u8 0), .v (.int .u8 0), .v (.int .u8 0), .v (.int .u8 0)]⟩ := rfl
theorem tl42 : tl tab 42 = some ⟨.other, 1, 8, [.dead]⟩ := rfl
theorem tl43 : tl tab 43 = some ⟨.other, 1, 8, [.dead]⟩ := rfl
theorem tl44 : tl tab 44 = some ⟨.other, 1, 8, [.dead]⟩ := rfl
theorem tl45 : tl tab 45 = some ⟨.other, 1, 8, [.dead]⟩ := rfl
theorem tl46 : tl tab 46 = some ⟨.other, 1, 8, [.dead]⟩ := rfl
theorem tl47 : tl tab 47 = some ⟨.other, 1, 8, [.dead]⟩ := rfl
theorem tl48 : tl tab 48 = some ⟨.other, 1, 8, [.dead]⟩ := rfl
theorem tl49 : tl tab 49 = some ⟨.other, 1, 8, [.dead]⟩ := rfl
theorem tl50 : tl tab 50 = some ⟨.other, 1, 8, [.dead]⟩ := rfl
theorem tl51 : tl tab 51 = some ⟨.other, 1, 8, [.dead]⟩ := rfl
theorem tl52 : tl tab 52 = some ⟨.other, 1, 8, [.dead]⟩ := rfl
theorem tl53 : tl tab 53 = some ⟨.other, 1, 8, [.dead]⟩ := rfl
theorem tl54 : tl tab 54 = some ⟨.other, 1, 8, [.dead]⟩ := rfl
theorem tl55 : tl tab 55 = some ⟨.arr 2 5, 2, 2, [.v (.int .u8 0), .v (.int .u8 0)]⟩ := rfl
theorem tl56 : tl tab 56 = some ⟨.other, 1, 8, [.dead]⟩ := rfl
theorem tl57 : tl tab 57 = some ⟨.other, 1, 8, [.dead]⟩ := rfl
theorem tl58 : tl tab 58 = some ⟨.other, 1, 8, [.dead]⟩ := rfl
theorem tl59 : tl tab 59 = some ⟨.other, 1, 8, [.dead]⟩ := rfl
theorem tl61 : tl tab 61 = some ⟨.other, 1, 8, [.dead]⟩ := rfl
theorem tl62 : tl tab 62 = some ⟨.other, 1, 8, [.dead]⟩ := rfl
theorem tl63 : tl tab 63 = some ⟨.int .u64, 1, 8, [.v (.int .u64 0)]⟩ := rfl
theorem tl64 : tl tab 64 = some ⟨.arr 5 3, 5, 40, [.v (.int .i64 0), .v (.int .i64 0), .v (.int .i64 0), .v (.int .i64 0), .v (.int .i64 0)]⟩ := rfl
theorem tl65 : tl tab 65 = some ⟨.arr 5 64, 25, 200, [.v (.int .i64 0), .v (.int .i64 0), .v (.int .i64 0), .v (.int .i64 0), .v (.int .i64 0), .v (.int .i64 0), .v (.int .i64 0), .v (.int .i64 0), .v (.int .i64 0), .v (.int .i64 0), .v (.int .i64 0), .v (.int .i64 0), .v (.int .i64 0), .v (.int .i64 0), .v (.int .i64 0), .v (.int .i64 0), .v (.int .i64 0), .v (.int .i64 0), .v (.int .i64 0), .v (.int .i64 0), .v (.int .i64 0), .v (.int .i64 0), .v (.int .i64 0), .v (.int .i64 0), .v (.int .i64 0)]⟩ := rfl
theorem tl66 : tl tab 66 = some ⟨.arr 5 63, 5, 40, [.v (.int .u64 0), .v (.int .u64 0), .v (.int .u64 0), .v (.int .u64 0), .v (.int .u64 0)]⟩ := rfl
theorem tl67 : tl tab 67 = some ⟨.struct [(0, 3), (1, 65), (26, 66), (31, 66)], 36, 288, [.v (.int .i64 0), .v (.int .i64 0), .v (.int .i64 0), .v (.int .i64 0), .v (.int .i64 0), .v (.int .i64 0), .v (.int .i64 0), .v (.int .i64 0), .v (.int .i64 0), .v (.int .i64 0), .v (.int .i64 0), .v (.int .i64 0), .v (.int .i64 0), .v (.int .i64 0), .v (.int .i64 0), .v (.int .i64 0), .v (.int .i64 0), .v (.int .i64 0), .v (.int .i64 0), .v (.int .i64 0), .v (.int .i64 0), .v (.int .i64 0), .v (.int .i64 0), .v (.int .i64 0), .v (.int .i64 0), .v (.int .i64 0), .v (.int .u64 0), .v (.int .u64 0), .v (.int .u64 0), .v (.int .u64 0), .v (.int .u64 0), .v (.int .u64 0), .v (.int .u64 0), .v (.int .u64 0), .v (.int .u64 0), .v (.int .u64 0)]⟩ := rfl
theorem tl68 : tl tab 68 = some ⟨.struct [(0, 3), (1, 65), (26, 66), (31, 66)], 36, 288, [.v (.int .i64 0), .v (.int .i64 0), .v (.int .i64 0), .v (.int .i64 0), .v (.int .i64 0), .v (.int .i64 0), .v (.int .i64 0), .v (.int .i64 0), .v (.int .i64 0), .v (.int .i64 0), .v (.int .i64 0), .v (.int .i64 0), .v (.int .i64 0), .v (.int .i64 0), .v (.int .i64 0), .v (.int .i64 0), .v (.int .i64 0), .v (.int .i64 0), .v (.int .i64 0), .v (.int .i64 0), .v (.int .i64 0), .v (.int .i64 0), .v (.int .i64 0), .v (.int .i64 0), .v (.int .i64 0), .v (.int .i64 0), .v (.int .u64 0), .v (.int .u64 0), .v (.int .u64 0), .v (.int .u64 0), .v (.int .u64 0), .v (.int .u64 0), .v (.int .u64 0), .v (.int .u64 0), .v (.int .u64 0), .v (.int .u64 0)]⟩ := rfl
theorem tl69 : tl tab 69 = some ⟨.other, 1, 8, [.dead]⟩ := rfl
theorem tl70 : tl tab 70 = some ⟨.other, 1, 8, [.dead]⟩ := rfl
theorem tl71 : tl tab 71 = some ⟨.struct [(0, 3), (1, 3), (2, 4), (3, 65)], 28, 224, [.v (.int .i64 0), .v (.int .i64 0), .v (.bool false), .v (.int .i64 0), .v (.int .i64 0), .v (.int .i64 0), .v (.int .i64 0), .v (.int .i64 0), .v (.int .i64 0), .v (.int .i64 0), .v (.int .i64 0), .v (.int .i64 0), .v (.int .i64 0), .v (.int .i64 0), .v (.int .i64 0), .v (.int .i64 0), .v (.int .i64 0), .v (.int .i64 0), .v (.int .i64 0), .v (.int .i64 0), .v (.int .i64 0), .v (.int .i64 0), .v (.int .i64 0), .v (.int .i64 0), .v (.int .i64 0), .v (.int .i64 0), .v (.int .i64 0), .v (.int .i64 0)]⟩ := rfl
theorem tl72 : tl tab 72 = some ⟨.struct [(0, 3), (1, 3), (2, 4), (3, 65)], 28, 224, [.v (.int .i64 0), .v (.int .i64 0), .v (.bool false), .v (.int .i64 0), .v (.int .i64 0), .v (.int .i64 0), .v (.int .i64 0), .v (.int .i64 0), .v (.int .i64 0), .v (.int .i64 0), .v (.int .i64 0), .v (.int .i64 0), .v (.int .i64 0), .v (.int .i64 0), .v (.int .i64 0), .v (.int .i64 0), .v (.int .i64 0), .v (.int .i64 0), .v (.int .i64 0), .v (.int .i64 0), .v (.int .i64 0), .v (.int .i64 0), .v (.int .i64 0), .v (.int .i64 0), .v (.int .i64 0), .v (.int .i64 0), .v (.int .i64 0), .v (.int .i64 0)]⟩ := rfl
theorem tl73 : tl tab 73 = some ⟨.other, 1, 8, [.dead]⟩ := rfl
theorem tl74 : tl tab 74 = some ⟨.other, 1, 8, [.dead]⟩ := rfl
theorem tl75 : tl tab 75 = some ⟨.other, 1, 8, [.dead]⟩ := rfl
theorem tl76 : tl tab 76 = some ⟨.struct [(0, 3), (1, 3)], 2, 16, [.v (.int .i64 0), .v (.int .i64 0)]⟩ := rfl
theorem tl77 : tl tab 77 = some ⟨.struct [(0, 3), (1, 3)], 2, 16, [.v (.int .i64 0), .v (.int .i64 0)]⟩ := rfl
theorem tl78 : tl tab 78 = some ⟨.other, 1, 8, [.dead]⟩ := rfl
theorem tl79 : tl tab 79 = some ⟨.other, 1, 8, [.dead]⟩ := rfl
theorem tl80 : tl tab 80 = some ⟨.other, 1, 8, [.dead]⟩ := rfl
theorem tl81 : tl tab 81 = some ⟨.other, 1, 8, [.dead]⟩ := rfl
theorem tl82 : tl tab 82 = some ⟨.other, 1, 8, [.dead]⟩ := rfl
theorem tl83 : tl tab 83 = some ⟨.other, 1, 8, [.dead]⟩ := rfl
theorem tl84 : tl tab 84 = some ⟨.other, 1, 8, [.dead]⟩ := rfl
theorem tl85 : tl tab 85 = some ⟨.other, 1, 8, [.dead]⟩ := rfl
theorem tl87 : tl tab 87 = some ⟨.other, 1, 8, [.dead]⟩ := rfl
theorem tl89 : tl tab 89 = some ⟨.other, 1, 8, [.dead]⟩ := rfl
theorem tl90 : tl tab 90 = some ⟨.other, 1, 8, [.dead]⟩ := rfl
theorem tl91 : tl tab 91 = some ⟨.other, 1, 8, [.dead]⟩ := rfl
theorem tl92 : tl tab 92 = some ⟨.other, 1, 8, [.dead]⟩ := rfl
theorem tl93 : tl tab 93 = some ⟨.ifc, 1, 16, [.dead]⟩ := rfl
theorem tl94 : tl tab 94 = some ⟨.ifc, 1, 16, [.dead]⟩ := rfl
theorem tl96 : tl tab 96 = some ⟨.other, 1, 8, [.dead]⟩ := rfl
theorem tl97 : tl tab 97 = some ⟨.other, 1, 8, [.dead]⟩ := rfl
theorem tl98 : tl tab 98 = some ⟨.other, 1, 8, [.dead]⟩ := rfl
theorem tl99 : tl tab 99 = some ⟨.other, 1, 8, [.dead]⟩ := rfl
theorem tl100 : tl tab 100 = some ⟨.other, 1, 8, [.dead]⟩ := rfl
theorem tl101 : tl tab 101 = some ⟨.other, 1, 8, [.dead]⟩ := rfl
theorem tl102 : tl tab 102 = some ⟨.other, 1, 8, [.dead]⟩ := rfl
theorem tl103 : tl tab 103 = some ⟨.other, 1, 8, [.dead]⟩ := rfl
theorem tl104 : tl tab 104 = some ⟨.int .u32, 1, 4, [.v (.int .u32 0)]⟩ := rfl
theorem tl105 : tl tab 105 = some ⟨.other, 1, 8, [.dead]⟩ := rfl
theorem tl106 : tl tab 106 = some ⟨.int .u64, 1, 8, [.v (.int .u64 0)]⟩ := rfl
theorem tl107 : tl tab 107 = some ⟨.arr 32 5, 32, 32, [.v (.int .u8 0), .v (.int .u8 0), .v (.int .u8 0), .v (.int .u8 0), .v (.int .u8 0), .v (.int .u8 0), .v (.int .u8 0), .v (.int .u8 0), .v (.int .u8 0), .v (.int .u8 0), .v (.int .u8 0), .v (.int .u8 0), .v (.int .u8 0), .v (.int .u8 0), .v (.int .u8 0), .v (.int .u8 0), .v (.int .u8 0), .v (.int .u8 0), .v (.int .u8 0), .v (.int .u8 0), .v (.int .u8 0), .v (.int .u8 0), .v (.int .u8 0), .v (.int .u8 0), .v (.int .u8 0), .v (.int .u8 0), .v (.int .u8 0), .v (.int .u8 0), .v (.int .u8 0), .v (.int .u8 0), .v (.int .u8 0), .v (.int .u8 0)]⟩ := rfl
theorem tl108 : tl tab 108 = some ⟨.arr 64 5, 64, 64, [.v (.int .u8 0), .v (.int .u8 0), .v (.int .u8 0), .v (.int .u8 0), .v (.int .u8 0), .v (.int .u8 0), .v (.int .u8 0), .v (.int .u8 0), .v (.int .u8 0), .v (.int .u8 0), .v (.int .u8 0), .v (.int .u8 0), .v (.int .u8 0), .v (.int .u8 0), .v (.int .u8 0), .v (.int .u8 0), .v (.int .u8 0), .v (.int .u8 0), .v (.int .u8 0), .v (.int .u8 0), .v (.int .u8 0), .v (.int .u8 0), .v (.int .u8 0), .v (.int .u8 0), .v (.int .u8 0), .v (.int .u8 0), .v (.int .u8 0), .v (.int .u8 0), .v (.int .u8 0), .v (.int .u8 0), .v (.int .u8 0), .v (.int .u8 0), .v (.int .u8 0), .v (.int .u8 0), .v (.int .u8 0), .v (.int .u8 0), .v (.int .u8 0), .v (.int .u8 0), .v (.int .u8 0), .v (.int .u8 0), .v (.int .u8 0), .v (.int .u8 0), .v (.int .u8 0), .v (.int .u8 0), .v (.int .u8 0), .v (.int .u8 0), .v (.int .u8 0), .v (.int .u8 0), .v (.int .u8 0), .v (.int .u8 0), .v (.int .u8 0), .v (.int .u8 0), .v (.int .u8 0), .v (.int .u8 0), .v (.int .u8 0), .v (.int .u8 0), .v (.int .u8 0), .v (.int .u8 0), .v (.int .u8 0), .v (.int .u8 0), .v (.int .u8 0), .v (.int .u8 0), .v (.int .u8 0), .v (.int .u8 0)]⟩ := rfl
theorem tl109 : tl tab 109 = some ⟨.other, 1, 8, [.dead]⟩ := rfl
theorem tl115 : tl tab 115 = some ⟨.other, 1, 8, [.dead]⟩ := rfl
theorem tl119 : tl tab 119 = some ⟨.other, 1, 8, [.dead]⟩ := rfl
theorem tab_ok : TOk Tryd.prog tab := tabB_ok (by kernel_rfl)
theorem mixed : Tryd.prog.follows .mixedOrders = true := by kernel_rfl
end Go.Proofs.YtcaecfofgdogbaaDoor
