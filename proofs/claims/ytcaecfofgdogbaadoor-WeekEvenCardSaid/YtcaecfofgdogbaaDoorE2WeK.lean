/-
  The round plan, made: its rows are owned.
-/
import Derived.Test.YtcaecfofgdogbaaDoorProg
import Derived.Test.YtcaecfofgdogbaaDoorE2V30
import Derived.KernelRfl
import Derived.Test.YtcaecfofgdogbaaDoorRows
import Derived.Test.YtcaecfofgdogbaaDoorE2V26
import Derived.ProofKit
import Derived.Lib.LaidTab
import Derived.Stop.LaidErr
import Derived.MakeChecks
import Derived.Test.YtcaecfofgdogbaaDoorE2V41
import Derived.Test.YtcaecfofgdogbaaDoorE2V39
set_option linter.unusedSimpArgs false
set_option linter.unusedVariables false
namespace Go.Proofs.YtcaecfofgdogbaaDoor
open Go.V
def tab : Tab := [
  (1, ⟨.other, 1, 8, [.dead]⟩),
  (2, ⟨.int .i64, 1, 8, [.v (.int .i64 0)]⟩),
  (3, ⟨.int .i64, 1, 8, [.v (.int .i64 0)]⟩),
  (4, ⟨.bool, 1, 1, [.v (.bool false)]⟩),
  (5, ⟨.int .u8, 1, 1, [.v (.int .u8 0)]⟩),
  (9, ⟨.str, 1, 16, [.v (.str ⟨#[]⟩)]⟩),
  (17, ⟨.other, 1, 8, [.dead]⟩),
  (21, ⟨.int .i32, 1, 4, [.v (.int .i32 0)]⟩),
  (22, ⟨.slice 28, 1, 24, [.v .nl]⟩),
  (23, ⟨.other, 1, 8, [.dead]⟩),
  (24, ⟨.other, 1, 8, [.dead]⟩),
  (25, ⟨.int .i64, 1, 8, [.v (.int .i64 0)]⟩),
  (27, ⟨.other, 1, 8, [.dead]⟩),
  (28, ⟨.slice 3, 1, 24, [.v .nl]⟩),
  (30, ⟨.other, 1, 8, [.dead]⟩),
  (31, ⟨.other, 1, 8, [.dead]⟩),
  (32, ⟨.other, 1, 8, [.dead]⟩),
  (33, ⟨.other, 1, 8, [.dead]⟩),
  (35, ⟨.other, 1, 8, [.dead]⟩),
  (36, ⟨.other, 1, 8, [.dead]⟩),
  (37, ⟨.other, 1, 8, [.dead]⟩),
  (38, ⟨.arr 5 5, 5, 5, [.v (.int .u8 0), .v (.int .u8 0), .v (.int .u8 0), .v (.int .u8 0), .v (.int .u8 0)]⟩),
  (39, ⟨.struct [(0, 5), (1, 5), (2, 38)], 7, 7, [.v (.int .u8 0), .v (.int .u8 0), .v (.int .u8 0), .v (.int .u8 0), .v (.int .u8 0), .v (.int .u8 0), .v (.int .u8 0)]⟩),
  (40, ⟨.struct [(0, 5), (1, 5), (2, 38)], 7, 7, [.v (.int .u8 0), .v (.int .u8 0), .v (.int .u8 0), .v (.int .u8 0), .v (.int .u8 0), .v (.int .u8 0), .v (.int .u8 0)]⟩),
  (42, ⟨.other, 1, 8, [.dead]⟩),
  (43, ⟨.other, 1, 8, [.dead]⟩),
  (44, ⟨.other, 1, 8, [.dead]⟩),
  (45, ⟨.other, 1, 8, [.dead]⟩),
  (46, ⟨.other, 1, 8, [.dead]⟩),
  (47, ⟨.other, 1, 8, [.dead]⟩),
  (48, ⟨.other, 1, 8, [.dead]⟩),
  (49, ⟨.other, 1, 8, [.dead]⟩),
  (50, ⟨.other, 1, 8, [.dead]⟩),
  (51, ⟨.other, 1, 8, [.dead]⟩),
  (52, ⟨.other, 1, 8, [.dead]⟩),
  (53, ⟨.other, 1, 8, [.dead]⟩),
  (54, ⟨.other, 1, 8, [.dead]⟩),
  (55, ⟨.arr 2 5, 2, 2, [.v (.int .u8 0), .v (.int .u8 0)]⟩),
  (56, ⟨.other, 1, 8, [.dead]⟩),
  (57, ⟨.other, 1, 8, [.dead]⟩),
  (58, ⟨.other, 1, 8, [.dead]⟩),
  (59, ⟨.other, 1, 8, [.dead]⟩),
  (61, ⟨.other, 1, 8, [.dead]⟩),
  (62, ⟨.other, 1, 8, [.dead]⟩),
  (63, ⟨.int .u64, 1, 8, [.v (.int .u64 0)]⟩),
  (64, ⟨.arr 5 3, 5, 40, [.v (.int .i64 0), .v (.int .i64 0), .v (.int .i64 0), .v (.int .i64 0), .v (.int .i64 0)]⟩),
  (65, ⟨.arr 5 64, 25, 200, [.v (.int .i64 0), .v (.int .i64 0), .v (.int .i64 0), .v (.int .i64 0), .v (.int .i64 0), .v (.int .i64 0), .v (.int .i64 0), .v (.int .i64 0), .v (.int .i64 0), .v (.int .i64 0), .v (.int .i64 0), .v (.int .i64 0), .v (.int .i64 0), .v (.int .i64 0), .v (.int .i64 0), .v (.int .i64 0), .v (.int .i64 0), .v (.int .i64 0), .v (.int .i64 0), .v (.int .i64 0), .v (.int .i64 0), .v (.int .i64 0), .v (.int .i64 0), .v (.int .i64 0), .v (.int .i64 0)]⟩),
  (66, ⟨.arr 5 63, 5, 40, [.v (.int .u64 0), .v (.int .u64 0), .v (.int .u64 0), .v (.int .u64 0), .v (.int .u64 0)]⟩),
  (67, ⟨.struct [(0, 3), (1, 65), (26, 66), (31, 66)], 36, 288, [.v (.int .i64 0), .v (.int .i64 0), .v (.int .i64 0), .v (.int .i64 0), .v (.int .i64 0), .v (.int .i64 0), .v (.int .i64 0), .v (.int .i64 0), .v (.int .i64 0), .v (.int .i64 0), .v (.int .i64 0), .v (.int .i64 0), .v (.int .i64 0), .v (.int .i64 0), .v (.int .i64 0), .v (.int .i64 0), .v (.int .i64 0), .v (.int .i64 0), .v (.int .i64 0), .v (.int .i64 0), .v (.int .i64 0), .v (.int .i64 0), .v (.int .i64 0), .v (.int .i64 0), .v (.int .i64 0), .v (.int .i64 0), .v (.int .u64 0), .v (.int .u64 0), .v (.int .u64 0), .v (.int .u64 0), .v (.int .u64 0), .v (.int .u64 0), .v (.int .u64 0), .v (.int .u64 0), .v (.int .u64 0), .v (.int .u64 0)]⟩),
  (68, ⟨.struct [(0, 3), (1, 65), (26, 66), (31, 66)], 36, 288, [.v (.int .i64 0), .v (.int .i64 0), .v (.int .i64 0), .v (.int .i64 0), .v (.int .i64 0), .v (.int .i64 0), .v (.int .i64 0), .v (.int .i64 0), .v (.int .i64 0), .v (.int .i64 0), .v (.int .i64 0), .v (.int .i64 0), .v (.int .i64 0), .v (.int .i64 0), .v (.int .i64 0), .v (.int .i64 0), .v (.int .i64 0), .v (.int .i64 0), .v (.int .i64 0), .v (.int .i64 0), .v (.int .i64 0), .v (.int .i64 0), .v (.int .i64 0), .v (.int .i64 0), .v (.int .i64 0), .v (.int .i64 0), .v (.int .u64 0), .v (.int .u64 0), .v (.int .u64 0), .v (.int .u64 0), .v (.int .u64 0), .v (.int .u64 0), .v (.int .u64 0), .v (.int .u64 0), .v (.int .u64 0), .v (.int .u64 0)]⟩),
  (69, ⟨.other, 1, 8, [.dead]⟩),
  (70, ⟨.other, 1, 8, [.dead]⟩),
  (71, ⟨.struct [(0, 3), (1, 3), (2, 4), (3, 65)], 28, 224, [.v (.int .i64 0), .v (.int .i64 0), .v (.bool false), .v (.int .i64 0), .v (.int .i64 0), .v (.int .i64 0), .v (.int .i64 0), .v (.int .i64 0), .v (.int .i64 0), .v (.int .i64 0), .v (.int .i64 0), .v (.int .i64 0), .v (.int .i64 0), .v (.int .i64 0), .v (.int .i64 0), .v (.int .i64 0), .v (.int .i64 0), .v (.int .i64 0), .v (.int .i64 0), .v (.int .i64 0), .v (.int .i64 0), .v (.int .i64 0), .v (.int .i64 0), .v (.int .i64 0), .v (.int .i64 0), .v (.int .i64 0), .v (.int .i64 0), .v (.int .i64 0)]⟩),
  (72, ⟨.struct [(0, 3), (1, 3), (2, 4), (3, 65)], 28, 224, [.v (.int .i64 0), .v (.int .i64 0), .v (.bool false), .v (.int .i64 0), .v (.int .i64 0), .v (.int .i64 0), .v (.int .i64 0), .v (.int .i64 0), .v (.int .i64 0), .v (.int .i64 0), .v (.int .i64 0), .v (.int .i64 0), .v (.int .i64 0), .v (.int .i64 0), .v (.int .i64 0), .v (.int .i64 0), .v (.int .i64 0), .v (.int .i64 0), .v (.int .i64 0), .v (.int .i64 0), .v (.int .i64 0), .v (.int .i64 0), .v (.int .i64 0), .v (.int .i64 0), .v (.int .i64 0), .v (.int .i64 0), .v (.int .i64 0), .v (.int .i64 0)]⟩),
  (73, ⟨.other, 1, 8, [.dead]⟩),
  (74, ⟨.other, 1, 8, [.dead]⟩),
  (75, ⟨.other, 1, 8, [.dead]⟩),
  (76, ⟨.struct [(0, 3), (1, 3)], 2, 16, [.v (.int .i64 0), .v (.int .i64 0)]⟩),
  (77, ⟨.struct [(0, 3), (1, 3)], 2, 16, [.v (.int .i64 0), .v (.int .i64 0)]⟩),
  (78, ⟨.other, 1, 8, [.dead]⟩),
  (79, ⟨.other, 1, 8, [.dead]⟩),
  (80, ⟨.other, 1, 8, [.dead]⟩),
  (81, ⟨.other, 1, 8, [.dead]⟩),
  (82, ⟨.other, 1, 8, [.dead]⟩),
  (83, ⟨.other, 1, 8, [.dead]⟩),
  (84, ⟨.other, 1, 8, [.dead]⟩),
  (85, ⟨.other, 1, 8, [.dead]⟩),
  (87, ⟨.other, 1, 8, [.dead]⟩),
  (89, ⟨.other, 1, 8, [.dead]⟩),
  (90, ⟨.other, 1, 8, [.dead]⟩),
  (91, ⟨.other, 1, 8, [.dead]⟩),
  (92, ⟨.other, 1, 8, [.dead]⟩),
  (93, ⟨.ifc, 1, 16, [.dead]⟩),
  (94, ⟨.ifc, 1, 16, [.dead]⟩),
  (96, ⟨.other, 1, 8, [.dead]⟩),
  (97, ⟨.other, 1, 8, [.dead]⟩),
  (98, ⟨.other, 1, 8, [.dead]⟩),
  (99, ⟨.other, 1, 8, [.dead]⟩),
  (100, ⟨.other, 1, 8, [.dead]⟩),
  (101, ⟨.other, 1, 8, [.dead]⟩),
  (102, ⟨.other, 1, 8, [.dead]⟩),
  (103, ⟨.other, 1, 8, [.dead]⟩),
  (104, ⟨.int .u32, 1, 4, [.v (.int .u32 0)]⟩),
  (105, ⟨.other, 1, 8, [.dead]⟩),
  (106, ⟨.int .u64, 1, 8, [.v (.int .u64 0)]⟩),
  (107, ⟨.arr 32 5, 32, 32, [.v (.int .u8 0), .v (.int .u8 0), .v (.int .u8 0), .v (.int .u8 0), .v (.int .u8 0), .v (.int .u8 0), .v (.int .u8 0), .v (.int .u8 0), .v (.int .u8 0), .v (.int .u8 0), .v (.int .u8 0), .v (.int .u8 0), .v (.int .u8 0), .v (.int .u8 0), .v (.int .u8 0), .v (.int .u8 0), .v (.int .u8 0), .v (.int .u8 0), .v (.int .u8 0), .v (.int .u8 0), .v (.int .u8 0), .v (.int .u8 0), .v (.int .u8 0), .v (.int .u8 0), .v (.int .u8 0), .v (.int .u8 0), .v (.int .u8 0), .v (.int .u8 0), .v (.int .u8 0), .v (.int .u8 0), .v (.int .u8 0), .v (.int .u8 0)]⟩),
  (108, ⟨.arr 64 5, 64, 64, [.v (.int .u8 0), .v (.int .u8 0), .v (.int .u8 0), .v (.int .u8 0), .v (.int .u8 0), .v (.int .u8 0), .v (.int .u8 0), .v (.int .u8 0), .v (.int .u8 0), .v (.int .u8 0), .v (.int .u8 0), .v (.int .u8 0), .v (.int .u8 0), .v (.int .u8 0), .v (.int .u8 0), .v (.int .u8 0), .v (.int .u8 0), .v (.int .u8 0), .v (.int .u8 0), .v (.int .u8 0), .v (.int .u8 0), .v (.int .u8 0), .v (.int .u8 0), .v (.int .u8 0), .v (.int .u8 0), .v (.int .u8 0), .v (.int .u8 0), .v (.int .u8 0), .v (.int .u8 0), .v (.int .u8 0), .v (.int .u8 0), .v (.int .u8 0), .v (.int .u8 0), .v (.int .u8 0), .v (.int .u8 0), .v (.int .u8 0), .v (.int .u8 0), .v (.int .u8 0), .v (.int .u8 0), .v (.int .u8 0), .v (.int .u8 0), .v (.int .u8 0), .v (.int .u8 0), .v (.int .u8 0), .v (.int .u8 0), .v (.int .u8 0), .v (.int .u8 0), .v (.int .u8 0), .v (.int .u8 0), .v (.int .u8 0), .v (.int .u8 0), .v (.int .u8 0), .v (.int .u8 0), .v (.int .u8 0), .v (.int .u8 0), .v (.int .u8 0), .v (.int .u8 0), .v (.int .u8 0), .v (.int .u8 0), .v (.int .u8 0), .v (.int .u8 0), .v (.int .u8 0), .v (.int .u8 0), .v (.int .u8 0)]⟩),
  (109, ⟨.other, 1, 8, [.dead]⟩),
  (115, ⟨.other, 1, 8, [.dead]⟩),
  (119, ⟨.other, 1, 8, [.dead]⟩)]
theorem tl1 : tl tab 1 = some ⟨.other, 1, 8, [.dead]⟩ := rfl
theorem tl2 : tl tab 2 = some ⟨.int .i64, 1, 8, [.v (.int .i64 0)]⟩ := rfl
theorem tl3 : tl tab 3 = some ⟨.int .i64, 1, 8, [.v (.int .i64 0)]⟩ := rfl
theorem tl4 : tl tab 4 = some ⟨.bool, 1, 1, [.v (.bool false)]⟩ := rfl
theorem tl5 : tl tab 5 = some ⟨.int .u8, 1, 1, [.v (.int .u8 0)]⟩ := rfl
theorem tl9 : tl tab 9 = some ⟨.str, 1, 16, [.v (.str ⟨#[]⟩)]⟩ := rfl
theorem tl17 : tl tab 17 = some ⟨.other, 1, 8, [.dead]⟩ := rfl
theorem tl21 : tl tab 21 = some ⟨.int .i32, 1, 4, [.v (.int .i32 0)]⟩ := rfl
theorem tl22 : tl tab 22 = some ⟨.slice 28, 1, 24, [.v .nl]⟩ := rfl
theorem tl23 : tl tab 23 = some ⟨.other, 1, 8, [.dead]⟩ := rfl
theorem tl24 : tl tab 24 = some ⟨.other, 1, 8, [.dead]⟩ := rfl
theorem tl25 : tl tab 25 = some ⟨.int .i64, 1, 8, [.v (.int .i64 0)]⟩ := rfl
theorem tl27 : tl tab 27 = some ⟨.other, 1, 8, [.dead]⟩ := rfl
theorem tl28 : tl tab 28 = some ⟨.slice 3, 1, 24, [.v .nl]⟩ := rfl
theorem tl30 : tl tab 30 = some ⟨.other, 1, 8, [.dead]⟩ := rfl
theorem tl31 : tl tab 31 = some ⟨.other, 1, 8, [.dead]⟩ := rfl
theorem tl32 : tl tab 32 = some ⟨.other, 1, 8, [.dead]⟩ := rfl
theorem tl33 : tl tab 33 = some ⟨.other, 1, 8, [.dead]⟩ := rfl
theorem tl35 : tl tab 35 = some ⟨.other, 1, 8, [.dead]⟩ := rfl
theorem tl36 : tl tab 36 = some ⟨.other, 1, 8, [.dead]⟩ := rfl
theorem tl37 : tl tab 37 = some ⟨.other, 1, 8, [.dead]⟩ := rfl
theorem tl38 : tl tab 38 = some ⟨.arr 5 5, 5, 5, [.v (.int .u8 0), .v (.int .u8 0), .v (.int .u8 0), .v (.int .u8 0), .v (.int .u8 0)]⟩ := rfl
theorem tl39 : tl tab 39 = some ⟨.struct [(0, 5), (1, 5), (2, 38)], 7, 7, [.v (.int .u8 0), .v (.int .u8 0), .v (.int .u8 0), .v (.int .u8 0), .v (.int .u8 0), .v (.int .u8 0), .v (.int .u8 0)]⟩ := rfl
theorem tl40 : tl tab 40 = some ⟨.struct [(0, 5), (1, 5), (2, 38)], 7, 7, [.v (.int .u8 0), .v (.int .u8 0), .v (.int .u8 0), .v (.int .u8 0), .v (.int .u8 0), .v (.int .u8 0), .v (.int .u8 0)]⟩ := rfl
theorem tl42 : tl tab 42 = some ⟨.other, 1, 8, [.dead]⟩ := rfl
theorem tl43 : tl tab 43 = some ⟨.other, 1, 8, [.dead]⟩ := rfl
theorem tl44 : tl tab 44 = some ⟨.other, 1, 8, [.dead]⟩ := rfl
theorem tl45 : tl tab 45 = some ⟨.other, 1, 8, [.dead]⟩ := rfl
theorem tl46 : tl tab 46 = some ⟨.other, 1, 8, [.dead]⟩ := rfl
theorem tl47 : tl tab 47 = some ⟨.other, 1, 8, [.dead]⟩ := rfl
theorem tl48 : tl tab 48 = some ⟨.other, 1, 8, [.dead]⟩ := rfl
theorem tl49 : tl tab 49 = some ⟨.other, 1, 8, [.dead]⟩ := rfl
theorem tl50 : tl tab 50 = some ⟨.other, 1, 8, [.dead]⟩ := rfl
theorem tl51 : tl tab 51 = some ⟨.other, 1, 8, [.dead]⟩ := rfl
theorem tl52 : tl tab 52 = some ⟨.other, 1, 8, [.dead]⟩ := rfl
theorem tl53 : tl tab 53 = some ⟨.other, 1, 8, [.dead]⟩ := rfl
theorem tl54 : tl tab 54 = some ⟨.other, 1, 8, [.dead]⟩ := rfl
theorem tl55 : tl tab 55 = some ⟨.arr 2 5, 2, 2, [.v (.int .u8 0), .v (.int .u8 0)]⟩ := rfl
theorem tl56 : tl tab 56 = some ⟨.other, 1, 8, [.dead]⟩ := rfl
theorem tl57 : tl tab 57 = some ⟨.other, 1, 8, [.dead]⟩ := rfl
theorem tl58 : tl tab 58 = some ⟨.other, 1, 8, [.dead]⟩ := rfl
theorem tl59 : tl tab 59 = some ⟨.other, 1, 8, [.dead]⟩ := rfl
theorem tl61 : tl tab 61 = some ⟨.other, 1, 8, [.dead]⟩ := rfl
theorem tl62 : tl tab 62 = some ⟨.other, 1, 8, [.dead]⟩ := rfl
theorem tl63 : tl tab 63 = some ⟨.int .u64, 1, 8, [.v (.int .u64 0)]⟩ := rfl
theorem tl64 : tl tab 64 = some ⟨.arr 5 3, 5, 40, [.v (.int .i64 0), .v (.int .i64 0), .v (.int .i64 0), .v (.int .i64 0), .v (.int .i64 0)]⟩ := rfl
theorem tl65 : tl tab 65 = some ⟨.arr 5 64, 25, 200, [.v (.int .i64 0), .v (.int .i64 0), .v (.int .i64 0), .v (.int .i64 0), .v (.int .i64 0), .v (.int .i64 0), .v (.int .i64 0), .v (.int .i64 0), .v (.int .i64 0), .v (.int .i64 0), .v (.int .i64 0), .v (.int .i64 0), .v (.int .i64 0), .v (.int .i64 0), .v (.int .i64 0), .v (.int .i64 0), .v (.int .i64 0), .v (.int .i64 0), .v (.int .i64 0), .v (.int .i64 0), .v (.int .i64 0), .v (.int .i64 0), .v (.int .i64 0), .v (.int .i64 0), .v (.int .i64 0)]⟩ := rfl
theorem tl66 : tl tab 66 = some ⟨.arr 5 63, 5, 40, [.v (.int .u64 0), .v (.int .u64 0), .v (.int .u64 0), .v (.int .u64 0), .v (.int .u64 0)]⟩ := rfl
theorem tl67 : tl tab 67 = some ⟨.struct [(0, 3), (1, 65), (26, 66), (31, 66)], 36, 288, [.v (.int .i64 0), .v (.int .i64 0), .v (.int .i64 0), .v (.int .i64 0), .v (.int .i64 0), .v (.int .i64 0), .v (.int .i64 0), .v (.int .i64 0), .v (.int .i64 0), .v (.int .i64 0), .v (.int .i64 0), .v (.int .i64 0), .v (.int .i64 0), .v (.int .i64 0), .v (.int .i64 0), .v (.int .i64 0), .v (.int .i64 0), .v (.int .i64 0), .v (.int .i64 0), .v (.int .i64 0), .v (.int .i64 0), .v (.int .i64 0), .v (.int .i64 0), .v (.int .i64 0), .v (.int .i64 0), .v (.int .i64 0), .v (.int .u64 0), .v (.int .u64 0), .v (.int .u64 0), .v (.int .u64 0), .v (.int .u64 0), .v (.int .u64 0), .v (.int .u64 0), .v (.int .u64 0), .v (.int .u64 0), .v (.int .u64 0)]⟩ := rfl
theorem tl68 : tl tab 68 = some ⟨.struct [(0, 3), (1, 65), (26, 66), (31, 66)], 36, 288, [.v (.int .i64 0), .v (.int .i64 0), .v (.int .i64 0), .v (.int .i64 0), .v (.int .i64 0), .v (.int .i64 0), .v (.int .i64 0), .v (.int .i64 0), .v (.int .i64 0), .v (.int .i64 0), .v (.int .i64 0), .v (.int .i64 0), .v (.int .i64 0), .v (.int .i64 0), .v (.int .i64 0), .v (.int .i64 0), .v (.int .i64 0), .v (.int .i64 0), .v (.int .i64 0), .v (.int .i64 0), .v (.int .i64 0), .v (.int .i64 0), .v (.int .i64 0), .v (.int .i64 0), .v (.int .i64 0), .v (.int .i64 0), .v (.int .u64 0), .v (.int .u64 0), .v (.int .u64 0), .v (.int .u64 0), .v (.int .u64 0), .v (.int .u64 0), .v (.int .u64 0), .v (.int .u64 0), .v (.int .u64 0), .v (.int .u64 0)]⟩ := rfl
theorem tl69 : tl tab 69 = some ⟨.other, 1, 8, [.dead]⟩ := rfl
theorem tl70 : tl tab 70 = some ⟨.other, 1, 8, [.dead]⟩ := rfl
theorem tl71 : tl tab 71 = some ⟨.struct [(0, 3), (1, 3), (2, 4), (3, 65)], 28, 224, [.v (.int .i64 0), .v (.int .i64 0), .v (.bool false), .v (.int .i64 0), .v (.int .i64 0), .v (.int .i64 0), .v (.int .i64 0), .v (.int .i64 0), .v (.int .i64 0), .v (.int .i64 0), .v (.int .i64 0), .v (.int .i64 0), .v (.int .i64 0), .v (.int .i64 0), .v (.int .i64 0), .v (.int .i64 0), .v (.int .i64 0), .v (.int .i64 0), .v (.int .i64 0), .v (.int .i64 0), .v (.int .i64 0), .v (.int .i64 0), .v (.int .i64 0), .v (.int .i64 0), .v (.int .i64 0), .v (.int .i64 0), .v (.int .i64 0), .v (.int .i64 0)]⟩ := rfl
theorem tl72 : tl tab 72 = some ⟨.struct [(0, 3), (1, 3), (2, 4), (3, 65)], 28, 224, [.v (.int .i64 0), .v (.int .i64 0), .v (.bool false), .v (.int .i64 0), .v (.int .i64 0), .v (.int .i64 0), .v (.int .i64 0), .v (.int .i64 0), .v (.int .i64 0), .v (.int .i64 0), .v (.int .i64 0), .v (.int .i64 0), .v (.int .i64 0), .v (.int .i64 0), .v (.int .i64 0), .v (.int .i64 0), .v (.int .i64 0), .v (.int .i64 0), .v (.int .i64 0), .v (.int .i64 0), .v (.int .i64 0), .v (.int .i64 0), .v (.int .i64 0), .v (.int .i64 0), .v (.int .i64 0), .v (.int .i64 0), .v (.int .i64 0), .v (.int .i64 0)]⟩ := rfl
theorem tl73 : tl tab 73 = some ⟨.other, 1, 8, [.dead]⟩ := rfl
theorem tl74 : tl tab 74 = some ⟨.other, 1, 8, [.dead]⟩ := rfl
theorem tl75 : tl tab 75 = some ⟨.other, 1, 8, [.dead]⟩ := rfl
theorem tl76 : tl tab 76 = some ⟨.struct [(0, 3), (1, 3)], 2, 16, [.v (.int .i64 0), .v (.int .i64 0)]⟩ := rfl
theorem tl77 : tl tab 77 = some ⟨.struct [(0, 3), (1, 3)], 2, 16, [.v (.int .i64 0), .v (.int .i64 0)]⟩ := rfl
theorem tl78 : tl tab 78 = some ⟨.other, 1, 8, [.dead]⟩ := rfl
theorem tl79 : tl tab 79 = some ⟨.other, 1, 8, [.dead]⟩ := rfl
theorem tl80 : tl tab 80 = some ⟨.other, 1, 8, [.dead]⟩ := rfl
theorem tl81 : tl tab 81 = some ⟨.other, 1, 8, [.dead]⟩ := rfl
theorem tl82 : tl tab 82 = some ⟨.other, 1, 8, [.dead]⟩ := rfl
theorem tl83 : tl tab 83 = some ⟨.other, 1, 8, [.dead]⟩ := rfl
theorem tl84 : tl tab 84 = some ⟨.other, 1, 8, [.dead]⟩ := rfl
theorem tl85 : tl tab 85 = some ⟨.other, 1, 8, [.dead]⟩ := rfl
theorem tl87 : tl tab 87 = some ⟨.other, 1, 8, [.dead]⟩ := rfl
theorem tl89 : tl tab 89 = some ⟨.other, 1, 8, [.dead]⟩ := rfl
theorem tl90 : tl tab 90 = some ⟨.other, 1, 8, [.dead]⟩ := rfl
theorem tl91 : tl tab 91 = some ⟨.other, 1, 8, [.dead]⟩ := rfl
theorem tl92 : tl tab 92 = some ⟨.other, 1, 8, [.dead]⟩ := rfl
theorem tl93 : tl tab 93 = some ⟨.ifc, 1, 16, [.dead]⟩ := rfl
theorem tl94 : tl tab 94 = some ⟨.ifc, 1, 16, [.dead]⟩ := rfl
theorem tl96 : tl tab 96 = some ⟨.other, 1, 8, [.dead]⟩ := rfl
theorem tl97 : tl tab 97 = some ⟨.other, 1, 8, [.dead]⟩ := rfl
theorem tl98 : tl tab 98 = some ⟨.other, 1, 8, [.dead]⟩ := rfl
theorem tl99 : tl tab 99 = some ⟨.other, 1, 8, [.dead]⟩ := rfl
theorem tl100 : tl tab 100 = some ⟨.other, 1, 8, [.dead]⟩ := rfl
theorem tl101 : tl tab 101 = some ⟨.other, 1, 8, [.dead]⟩ := rfl
theorem tl102 : tl tab 102 = some ⟨.other, 1, 8, [.dead]⟩ := rfl
theorem tl103 : tl tab 103 = some ⟨.other, 1, 8, [.dead]⟩ := rfl
theorem tl104 : tl tab 104 = some ⟨.int .u32, 1, 4, [.v (.int .u32 0)]⟩ := rfl
theorem tl105 : tl tab 105 = some ⟨.other, 1, 8, [.dead]⟩ := rfl
theorem tl106 : tl tab 106 = some ⟨.int .u64, 1, 8, [.v (.int .u64 0)]⟩ := rfl
theorem tl107 : tl tab 107 = some ⟨.arr 32 5, 32, 32, [.v (.int .u8 0), .v (.int .u8 0), .v (.int .u8 0), .v (.int .u8 0), .v (.int .u8 0), .v (.int .u8 0), .v (.int .u8 0), .v (.int .u8 0), .v (.int .u8 0), .v (.int .u8 0), .v (.int .u8 0), .v (.int .u8 0), .v (.int .u8 0), .v (.int .u8 0), .v (.int .u8 0), .v (.int .u8 0), .v (.int .u8 0), .v (.int .u8 0), .v (.int .u8 0), .v (.int .u8 0), .v (.int .u8 0), .v (.int .u8 0), .v (.int .u8 0), .v (.int .u8 0), .v (.int .u8 0), .v (.int .u8 0), .v (.int .u8 0), .v (.int .u8 0), .v (.int .u8 0), .v (.int .u8 0), .v (.int .u8 0), .v (.int .u8 0)]⟩ := rfl
theorem tl108 : tl tab 108 = some ⟨.arr 64 5, 64, 64, [.v (.int .u8 0), .v (.int .u8 0), .v (.int .u8 0), .v (.int .u8 0), .v (.int .u8 0), .v (.int .u8 0), .v (.int .u8 0), .v (.int .u8 0), .v (.int .u8 0), .v (.int .u8 0), .v (.int .u8 0), .v (.int .u8 0), .v (.int .u8 0), .v (.int .u8 0), .v (.int .u8 0), .v (.int .u8 0), .v (.int .u8 0), .v (.int .u8 0), .v (.int .u8 0), .v (.int .u8 0), .v (.int .u8 0), .v (.int .u8 0), .v (.int .u8 0), .v (.int .u8 0), .v (.int .u8 0), .v (.int .u8 0), .v (.int .u8 0), .v (.int .u8 0), .v (.int .u8 0), .v (.int .u8 0), .v (.int .u8 0), .v (.int .u8 0), .v (.int .u8 0), .v (.int .u8 0), .v (.int .u8 0), .v (.int .u8 0), .v (.int .u8 0), .v (.int .u8 0), .v (.int .u8 0), .v (.int .u8 0), .v (.int .u8 0), .v (.int .u8 0), .v (.int .u8 0), .v (.int .u8 0), .v (.int .u8 0), .v (.int .u8 0), .v (.int .u8 0), .v (.int .u8 0), .v (.int .u8 0), .v (.int .u8 0), .v (.int .u8 0), .v (.int .u8 0), .v (.int .u8 0), .v (.int .u8 0), .v (.int .u8 0), .v (.int .u8 0), .v (.int .u8 0), .v (.int .u8 0), .v (.int .u8 0), .v (.int .u8 0), .v (.int .u8 0), .v (.int .u8 0), .v (.int .u8 0), .v (.int .u8 0)]⟩ := rfl
theorem tl109 : tl tab 109 = some ⟨.other, 1, 8, [.dead]⟩ := rfl
theorem tl115 : tl tab 115 = some ⟨.other, 1, 8, [.dead]⟩ := rfl
theorem tl119 : tl tab 119 = some ⟨.other, 1, 8, [.dead]⟩ := rfl
theorem tab_ok : TOk Tryd.prog tab := tabB_ok (by kernel_rfl)
theorem mixed : Tryd.prog.follows .mixedOrders = true := by kernel_rfl
end Go.Proofs.YtcaecfofgdogbaaDoor
namespace Go.Proofs.YtcaecfofgdogbaaDoor
open Go.V
set_option maxRecDepth 100000
def tab32 : List Int := [0, 1, 28, 2, 29, 14, 24, 3, 30, 22, 20, 15, 25, 17, 4, 8, 31, 27, 13, 23, 21, 19, 16, 7, 26, 12, 18, 6, 11, 5, 10, 9]
def tab64 : List Int := [0, 1, 56, 2, 57, 49, 28, 3, 61, 58, 42, 50, 38, 29, 17, 4, 62, 47, 59, 36, 45, 43, 51, 22, 53, 39, 33, 30, 24, 18, 12, 5, 63, 55, 48, 27, 60, 41, 37, 16, 46, 35, 44, 21, 52, 32, 23, 11, 54, 26, 40, 15, 34, 20, 31, 10, 25, 14, 19, 9, 13, 8, 7, 6]
theorem rc_tab {W : World} {b : Nat} : ∀ (zs : List Int) (off : Nat), (∀ i, i < zs.length → W.cell? ⟨b, off + i, none⟩ = some (.int .u8 (zs.getD i 0))) → RC W (fun _ => False) b off (zs.map (PV.int .u8))
  | [], off, _ => .nil b off
  | z :: zs, off, h => .cons b off (.int .u8 z) (.int .u8 z) _ (by simpa using h 0 (by simp)) rfl (fun h => h) (.int _ _) (rc_tab zs (off + 1) fun i hi => by
      have := h (i + 1) (by simpa using hi)
      rw [show off + (i + 1) = off + 1 + i by omega] at this
      simpa using this)
theorem laidG {W : World} (h : laidMetH Tryd.prog [("math/bits.deBruijn32tab", Rows.laid_math_bits_deBruijn32tab), ("math/bits.deBruijn64tab", Rows.laid_math_bits_deBruijn64tab)] W) : ∀ x ∈ Gv, RC W (fun _ => False) x.1 0 x.2 := by
  rw [MakeChecks.laidMetH_plain _ _ _ (by kernel_rfl)] at h
  have h1 : laidMet Tryd.prog (("math/bits.deBruijn32tab", Lib.tabData .u8 tab32) :: [("math/bits.deBruijn64tab", Rows.laid_math_bits_deBruijn64tab)]) W := h
  have h2 : laidMet Tryd.prog (("math/bits.deBruijn64tab", Lib.tabData .u8 tab64) :: []) W := laidMet.tail h
  have g1 : Tryd.prog.globalNamed "math/bits.deBruijn32tab" = some 0 := by kernel_rfl
  have g2 : Tryd.prog.globalNamed "math/bits.deBruijn64tab" = some 1 := by kernel_rfl
  have t1 := Lib.tabIs_of_head g1 (t := 107) (e := 5) (n := 32) (by kernel_rfl) (by kernel_rfl) (by kernel_rfl) (by kernel_rfl) (by kernel_rfl) h1
  have t2 := Lib.tabIs_of_head g2 (t := 108) (e := 5) (n := 64) (by kernel_rfl) (by kernel_rfl) (by kernel_rfl) (by kernel_rfl) (by kernel_rfl) h2
  intro x hx
  have hx' : x = (0, tab32.map (PV.int .u8)) ∨ x = (1, tab64.map (PV.int .u8)) := by
    have e : Gv = [(0, tab32.map (PV.int .u8)), (1, tab64.map (PV.int .u8))] := rfl
    rw [e] at hx
    simpa using hx
  rcases hx' with rfl | rfl
  · exact rc_tab tab32 0 fun i hi => by rw [Nat.zero_add]; exact t1.cell g1 i hi
  · exact rc_tab tab64 0 fun i hi => by rw [Nat.zero_add]; exact t2.cell g2 i hi
def domL : List (List Nat) := [[], [], [], [0, 1, 4, 5, 6, 7, 8, 9, 10, 11, 12, 13, 14, 15, 16, 18, 72], [0, 1, 4, 5, 6, 7, 8, 9, 10, 11, 12, 13, 14, 15, 16, 18, 61], [0, 1, 2, 3, 4, 5, 6, 7, 8, 9, 10, 11, 35, 39, 61, 62, 63], [0, 1, 2, 3, 4, 5, 6, 7, 8, 9, 10, 11, 13, 15, 16, 17, 18, 19, 38, 41, 42, 43, 44, 48, 49, 50, 51, 74, 75, 76, 77, 78, 86, 96, 97, 98, 99, 107, 114, 128], [0, 1, 2, 3, 4, 5, 6, 7, 8, 9, 10, 11, 12, 13, 14, 40, 41, 42, 43, 44, 48, 49, 50, 51, 63, 79], [0, 1, 2, 3, 4, 5, 6, 7, 8, 9, 10, 12, 22, 73, 76], [0, 1, 2, 4, 5, 6, 7, 8, 9, 10, 11, 12, 13, 15, 16, 18, 36, 37, 38, 39, 63, 64, 65, 74, 75, 76, 77], [0, 2, 3, 4, 5, 6], [0, 1, 2, 6, 7, 8, 9, 10, 11, 12, 13, 14, 16], [0, 1, 2, 3, 4, 5, 6, 8, 9, 10, 11, 12, 13, 14, 15, 16], [0, 1, 2, 3, 4, 5, 6, 8, 9, 10, 11, 12, 13, 14, 15, 16, 17, 18, 19, 21, 22, 24, 25, 26, 27, 28, 30, 45, 46, 47, 80, 108, 109, 110, 111, 114, 115, 116, 117, 173], [0, 1, 2, 3, 5, 6, 7, 8, 9, 10, 12, 13, 14, 15, 16, 17, 18, 19, 21, 23, 25, 26, 27, 28, 30, 31, 32, 33, 34, 35, 36, 37, 38, 49, 50, 51, 52, 69, 95, 96, 97, 98, 102, 103, 104, 105, 111, 112, 113, 114, 122, 128, 130, 164, 167, 168, 169, 170, 175, 191, 198, 221, 223], [0, 2, 3, 6, 10, 18], [0, 1, 2, 3, 4, 5, 6, 7, 8, 9, 10, 11, 12, 13, 14, 15, 16, 17, 80], [0, 1, 4, 5, 6, 7, 8, 9, 18, 20, 21, 22], [0, 1, 4, 5, 6, 7, 8, 9, 10, 15, 19, 24, 31], [0, 1, 4, 5, 6, 7, 8, 16, 20], [0, 1, 4, 5, 6, 11], [0, 1, 4, 5, 10, 14, 26], [0, 1, 4, 5, 10, 14, 25], [0, 1, 4, 6], [0, 1, 4], [0, 1, 4, 5, 6, 7, 8, 16, 20], [0, 1, 4, 5, 6, 11], [0, 1, 4, 5, 6, 7, 9, 10, 11, 12, 17, 19, 20, 21, 22, 27, 28, 29, 30], [0, 1, 4, 5, 6, 7, 8, 9, 10, 15, 20, 27], [0, 1, 4, 5, 6, 7, 8, 17], [0, 1, 4, 5, 6, 11], [0, 2, 3, 4, 5, 6, 7, 13, 16, 17, 18, 20, 21, 22, 29], [0, 2, 3, 4, 5, 6, 7, 10, 13, 18], [0, 1, 4, 5, 6, 7, 17], [0, 1, 4, 5, 6, 7, 12, 18], [0, 1, 4, 5, 6, 7], [0, 1, 4, 5, 6, 11], [0, 1, 2, 4, 5, 6, 7, 8, 9, 21, 22, 23], [0, 1, 2, 3, 4, 5, 6], [0, 2, 4], [0, 1, 4, 5, 6, 7, 8, 10, 14, 15, 16, 17, 18, 25, 26, 27, 28, 29, 46, 49, 50, 51, 52, 60], [0, 1, 2, 3, 4, 5], [0, 2, 3, 4, 5, 6, 9, 14], [0, 2], [0, 1, 2, 3, 4, 6, 7, 8, 10, 18, 40, 41, 42, 43], [0, 1, 4, 5, 6, 7, 14, 18], [0, 1, 4, 5, 6, 7, 12, 16, 22], [0, 1, 4, 5, 6, 8, 9, 18, 30], [0, 1, 4, 5, 6, 7, 8, 13, 22], [0, 1, 4, 7], [0, 1, 4], [0, 1, 2, 6, 7, 8, 15, 19, 27], [0, 1, 2, 6, 7, 19, 28], [0], [0], [0, 2, 3, 9], [0, 2, 4], [0, 1, 4], [0, 1, 2, 3, 4, 5, 7, 9, 10, 12, 13, 14, 19, 23, 24, 25, 26, 42, 43, 44, 45, 48, 49, 50, 51, 79], [0, 1, 4, 5, 10, 12, 13, 14, 24], [0], [0, 1, 2, 6, 7, 8, 9, 10, 11, 12, 13, 20, 27, 28, 29, 30, 42, 43, 44, 45, 46, 50, 58, 69], [0, 2, 3, 5], [0, 1, 2, 6, 7, 11, 31], [0, 1, 2, 3, 4, 5, 6], [0, 1, 2, 4, 5, 6, 7, 8, 9], [0, 1, 4, 5, 16], [0, 1, 4, 5, 6, 7, 8, 9, 15, 20, 37], [0, 1, 2, 6, 7, 8, 11, 15, 19, 33, 36, 49, 63, 75], [0, 2, 3, 4, 5, 7, 8, 14, 15, 19], [0, 1, 4, 5, 11], [0, 2, 3, 4, 5, 9, 10, 12, 13], [0, 1, 2, 3], [0, 1, 2, 6], [0, 1, 2, 3, 5, 6, 7, 8, 9, 17, 21], [0, 1, 3], [0, 1, 4, 5, 16], [0, 2, 3, 4, 5, 6, 7, 14, 20, 38, 59], [0, 1, 3], [0, 1, 2, 3, 4, 6, 7, 9, 13, 18, 19, 20, 25, 26, 27, 28, 43], [0, 1, 2, 3, 4, 5, 8, 9, 13, 22, 23, 24, 25, 38], [0, 1, 4, 5, 6, 7, 8, 9, 10, 11, 12, 21, 23, 24, 25, 28, 29, 30, 52], [0, 1, 2, 6, 7, 8, 12, 20], [0, 1, 4, 5, 6, 7, 8, 9, 12], [0, 1, 2, 6, 7, 8, 9, 10, 11, 12, 13, 14, 20, 31, 36, 70, 85], [0, 2, 5], [0, 1, 4, 5, 7, 8, 9, 16], [0, 2], [0, 1, 2, 3, 4, 5, 8, 9, 10, 17, 28, 48, 63], [0, 1, 2, 6], [0, 1, 2, 6], [0, 1, 4, 5, 6, 10, 15, 21], [0, 1, 4, 5, 9, 17], [0, 2, 3, 4, 8], [0, 1, 2, 3, 4, 5, 6, 10, 11, 12, 16, 28, 29, 30, 31, 63], [0, 2, 4], [0, 2, 4], [0], [0], [0], [0], [0], [0], [0], [0], [0], [0], [0], [0], [0], [0], [0], [0, 2, 3], [0, 1, 4], [0, 2, 3], [0, 1, 4], [0], [], [], [], [], []]
def nthL : List (List Nat) → Nat → List Nat
  | [], _ => []
  | x :: _, 0 => x
  | _ :: l, n + 1 => nthL l n
def noFz (n : Nat) : Bool := Nat.beq n 94
def kn0 : Known := ⟨[], []⟩
theorem kn0_ok : KnOk Tryd.prog kn0 := KnOk.nil
def ka0 : List PV := [(.int .u64 31)]
def kr0 : PV := (.int .i64 0)
theorem k0 : FnP Tryd.prog 87 ka0 kr0 := runE_ok (doms := nthL domL) (fzr := noFz) (n := 6000) tab_ok mixed kn0_ok (by kernel_rfl)
def kn1 : Known := ⟨(87, ka0, kr0) :: kn0.p, kn0.i⟩
theorem kn1_ok : KnOk Tryd.prog kn1 := KnOk.cons k0 kn0_ok
def ka1 : List PV := [(.int .u64 30)]
def kr1 : PV := (.int .i64 1)
theorem k1 : FnP Tryd.prog 87 ka1 kr1 := runE_ok (doms := nthL domL) (fzr := noFz) (n := 6000) tab_ok mixed kn1_ok (by kernel_rfl)
def kn2 : Known := ⟨(87, ka1, kr1) :: kn1.p, kn1.i⟩
theorem kn2_ok : KnOk Tryd.prog kn2 := KnOk.cons k1 kn1_ok
def ka2 : List PV := [(.int .u64 29)]
def kr2 : PV := (.int .i64 0)
theorem k2 : FnP Tryd.prog 87 ka2 kr2 := runE_ok (doms := nthL domL) (fzr := noFz) (n := 6000) tab_ok mixed kn2_ok (by kernel_rfl)
def kn3 : Known := ⟨(87, ka2, kr2) :: kn2.p, kn2.i⟩
theorem kn3_ok : KnOk Tryd.prog kn3 := KnOk.cons k2 kn2_ok
def ka3 : List PV := [(.int .u64 28)]
def kr3 : PV := (.int .i64 2)
theorem k3 : FnP Tryd.prog 87 ka3 kr3 := runE_ok (doms := nthL domL) (fzr := noFz) (n := 6000) tab_ok mixed kn3_ok (by kernel_rfl)
def kn4 : Known := ⟨(87, ka3, kr3) :: kn3.p, kn3.i⟩
theorem kn4_ok : KnOk Tryd.prog kn4 := KnOk.cons k3 kn3_ok
def ka4 : List PV := [(.int .u64 27)]
def kr4 : PV := (.int .i64 0)
theorem k4 : FnP Tryd.prog 87 ka4 kr4 := runE_ok (doms := nthL domL) (fzr := noFz) (n := 6000) tab_ok mixed kn4_ok (by kernel_rfl)
def kn5 : Known := ⟨(87, ka4, kr4) :: kn4.p, kn4.i⟩
theorem kn5_ok : KnOk Tryd.prog kn5 := KnOk.cons k4 kn4_ok
def ka5 : List PV := [(.int .u64 26)]
def kr5 : PV := (.int .i64 1)
theorem k5 : FnP Tryd.prog 87 ka5 kr5 := runE_ok (doms := nthL domL) (fzr := noFz) (n := 6000) tab_ok mixed kn5_ok (by kernel_rfl)
def kn6 : Known := ⟨(87, ka5, kr5) :: kn5.p, kn5.i⟩
theorem kn6_ok : KnOk Tryd.prog kn6 := KnOk.cons k5 kn5_ok
def ka6 : List PV := [(.int .u64 25)]
def kr6 : PV := (.int .i64 0)
theorem k6 : FnP Tryd.prog 87 ka6 kr6 := runE_ok (doms := nthL domL) (fzr := noFz) (n := 6000) tab_ok mixed kn6_ok (by kernel_rfl)
def kn7 : Known := ⟨(87, ka6, kr6) :: kn6.p, kn6.i⟩
theorem kn7_ok : KnOk Tryd.prog kn7 := KnOk.cons k6 kn6_ok
def ka7 : List PV := [(.int .u64 24)]
def kr7 : PV := (.int .i64 3)
theorem k7 : FnP Tryd.prog 87 ka7 kr7 := runE_ok (doms := nthL domL) (fzr := noFz) (n := 6000) tab_ok mixed kn7_ok (by kernel_rfl)
def kn8 : Known := ⟨(87, ka7, kr7) :: kn7.p, kn7.i⟩
theorem kn8_ok : KnOk Tryd.prog kn8 := KnOk.cons k7 kn7_ok
def ka8 : List PV := [(.int .u64 23)]
def kr8 : PV := (.int .i64 0)
theorem k8 : FnP Tryd.prog 87 ka8 kr8 := runE_ok (doms := nthL domL) (fzr := noFz) (n := 6000) tab_ok mixed kn8_ok (by kernel_rfl)
def kn9 : Known := ⟨(87, ka8, kr8) :: kn8.p, kn8.i⟩
theorem kn9_ok : KnOk Tryd.prog kn9 := KnOk.cons k8 kn8_ok
def ka9 : List PV := [(.int .u64 22)]
def kr9 : PV := (.int .i64 1)
theorem k9 : FnP Tryd.prog 87 ka9 kr9 := runE_ok (doms := nthL domL) (fzr := noFz) (n := 6000) tab_ok mixed kn9_ok (by kernel_rfl)
def kn10 : Known := ⟨(87, ka9, kr9) :: kn9.p, kn9.i⟩
theorem kn10_ok : KnOk Tryd.prog kn10 := KnOk.cons k9 kn9_ok
def ka10 : List PV := [(.int .u64 21)]
def kr10 : PV := (.int .i64 0)
theorem k10 : FnP Tryd.prog 87 ka10 kr10 := runE_ok (doms := nthL domL) (fzr := noFz) (n := 6000) tab_ok mixed kn10_ok (by kernel_rfl)
def kn11 : Known := ⟨(87, ka10, kr10) :: kn10.p, kn10.i⟩
theorem kn11_ok : KnOk Tryd.prog kn11 := KnOk.cons k10 kn10_ok
def ka11 : List PV := [(.int .u64 20)]
def kr11 : PV := (.int .i64 2)
theorem k11 : FnP Tryd.prog 87 ka11 kr11 := runE_ok (doms := nthL domL) (fzr := noFz) (n := 6000) tab_ok mixed kn11_ok (by kernel_rfl)
def kn12 : Known := ⟨(87, ka11, kr11) :: kn11.p, kn11.i⟩
theorem kn12_ok : KnOk Tryd.prog kn12 := KnOk.cons k11 kn11_ok
def ka12 : List PV := [(.int .u64 19)]
def kr12 : PV := (.int .i64 0)
theorem k12 : FnP Tryd.prog 87 ka12 kr12 := runE_ok (doms := nthL domL) (fzr := noFz) (n := 6000) tab_ok mixed kn12_ok (by kernel_rfl)
def kn13 : Known := ⟨(87, ka12, kr12) :: kn12.p, kn12.i⟩
theorem kn13_ok : KnOk Tryd.prog kn13 := KnOk.cons k12 kn12_ok
def ka13 : List PV := [(.int .u64 18)]
def kr13 : PV := (.int .i64 1)
theorem k13 : FnP Tryd.prog 87 ka13 kr13 := runE_ok (doms := nthL domL) (fzr := noFz) (n := 6000) tab_ok mixed kn13_ok (by kernel_rfl)
def kn14 : Known := ⟨(87, ka13, kr13) :: kn13.p, kn13.i⟩
theorem kn14_ok : KnOk Tryd.prog kn14 := KnOk.cons k13 kn13_ok
def ka14 : List PV := [(.int .u64 17)]
def kr14 : PV := (.int .i64 0)
theorem k14 : FnP Tryd.prog 87 ka14 kr14 := runE_ok (doms := nthL domL) (fzr := noFz) (n := 6000) tab_ok mixed kn14_ok (by kernel_rfl)
def kn15 : Known := ⟨(87, ka14, kr14) :: kn14.p, kn14.i⟩
theorem kn15_ok : KnOk Tryd.prog kn15 := KnOk.cons k14 kn14_ok
def ka15 : List PV := [(.int .u64 16)]
def kr15 : PV := (.int .i64 4)
theorem k15 : FnP Tryd.prog 87 ka15 kr15 := runE_ok (doms := nthL domL) (fzr := noFz) (n := 6000) tab_ok mixed kn15_ok (by kernel_rfl)
def kn16 : Known := ⟨(87, ka15, kr15) :: kn15.p, kn15.i⟩
theorem kn16_ok : KnOk Tryd.prog kn16 := KnOk.cons k15 kn15_ok
def ka16 : List PV := [(.int .u64 13)]
def kr16 : PV := (.int .i64 0)
theorem k16 : FnP Tryd.prog 87 ka16 kr16 := runE_ok (doms := nthL domL) (fzr := noFz) (n := 6000) tab_ok mixed kn16_ok (by kernel_rfl)
def kn17 : Known := ⟨(87, ka16, kr16) :: kn16.p, kn16.i⟩
theorem kn17_ok : KnOk Tryd.prog kn17 := KnOk.cons k16 kn16_ok
def ka17 : List PV := [(.int .u64 12)]
def kr17 : PV := (.int .i64 2)
theorem k17 : FnP Tryd.prog 87 ka17 kr17 := runE_ok (doms := nthL domL) (fzr := noFz) (n := 6000) tab_ok mixed kn17_ok (by kernel_rfl)
def kn18 : Known := ⟨(87, ka17, kr17) :: kn17.p, kn17.i⟩
theorem kn18_ok : KnOk Tryd.prog kn18 := KnOk.cons k17 kn17_ok
def ka18 : List PV := [(.int .u64 11)]
def kr18 : PV := (.int .i64 0)
theorem k18 : FnP Tryd.prog 87 ka18 kr18 := runE_ok (doms := nthL domL) (fzr := noFz) (n := 6000) tab_ok mixed kn18_ok (by kernel_rfl)
def kn19 : Known := ⟨(87, ka18, kr18) :: kn18.p, kn18.i⟩
theorem kn19_ok : KnOk Tryd.prog kn19 := KnOk.cons k18 kn18_ok
def ka19 : List PV := [(.int .u64 10)]
def kr19 : PV := (.int .i64 1)
theorem k19 : FnP Tryd.prog 87 ka19 kr19 := runE_ok (doms := nthL domL) (fzr := noFz) (n := 6000) tab_ok mixed kn19_ok (by kernel_rfl)
def kn20 : Known := ⟨(87, ka19, kr19) :: kn19.p, kn19.i⟩
theorem kn20_ok : KnOk Tryd.prog kn20 := KnOk.cons k19 kn19_ok
def ka20 : List PV := [(.int .u64 9)]
def kr20 : PV := (.int .i64 0)
theorem k20 : FnP Tryd.prog 87 ka20 kr20 := runE_ok (doms := nthL domL) (fzr := noFz) (n := 6000) tab_ok mixed kn20_ok (by kernel_rfl)
def kn21 : Known := ⟨(87, ka20, kr20) :: kn20.p, kn20.i⟩
theorem kn21_ok : KnOk Tryd.prog kn21 := KnOk.cons k20 kn20_ok
def ka21 : List PV := [(.int .u64 8)]
def kr21 : PV := (.int .i64 3)
theorem k21 : FnP Tryd.prog 87 ka21 kr21 := runE_ok (doms := nthL domL) (fzr := noFz) (n := 6000) tab_ok mixed kn21_ok (by kernel_rfl)
def kn22 : Known := ⟨(87, ka21, kr21) :: kn21.p, kn21.i⟩
theorem kn22_ok : KnOk Tryd.prog kn22 := KnOk.cons k21 kn21_ok
def ka22 : List PV := [(.int .u64 7)]
def kr22 : PV := (.int .i64 0)
theorem k22 : FnP Tryd.prog 87 ka22 kr22 := runE_ok (doms := nthL domL) (fzr := noFz) (n := 6000) tab_ok mixed kn22_ok (by kernel_rfl)
def kn23 : Known := ⟨(87, ka22, kr22) :: kn22.p, kn22.i⟩
theorem kn23_ok : KnOk Tryd.prog kn23 := KnOk.cons k22 kn22_ok
def ka23 : List PV := [(.int .u64 3)]
def kr23 : PV := (.int .i64 0)
theorem k23 : FnP Tryd.prog 87 ka23 kr23 := runE_ok (doms := nthL domL) (fzr := noFz) (n := 6000) tab_ok mixed kn23_ok (by kernel_rfl)
def kn24 : Known := ⟨(87, ka23, kr23) :: kn23.p, kn23.i⟩
theorem kn24_ok : KnOk Tryd.prog kn24 := KnOk.cons k23 kn23_ok
def ka24 : List PV := []
def kr24 : PV := (.lst true 1 [(.lst true 3 [(.int .i64 0), (.int .i64 1), (.int .i64 2)])])
theorem k24 : FnP Tryd.prog 53 ka24 kr24 := runE_ok (doms := nthL domL) (fzr := noFz) (n := 6000) tab_ok mixed kn24_ok (by kernel_rfl)
def kn25 : Known := ⟨(53, ka24, kr24) :: kn24.p, kn24.i⟩
theorem kn25_ok : KnOk Tryd.prog kn25 := KnOk.cons k24 kn24_ok
def ka25 : List PV := [(.int .u64 6)]
def kr25 : PV := (.int .i64 1)
theorem k25 : FnP Tryd.prog 87 ka25 kr25 := runE_ok (doms := nthL domL) (fzr := noFz) (n := 6000) tab_ok mixed kn25_ok (by kernel_rfl)
def kn26 : Known := ⟨(87, ka25, kr25) :: kn25.p, kn25.i⟩
theorem kn26_ok : KnOk Tryd.prog kn26 := KnOk.cons k25 kn25_ok
def ka26 : List PV := [(.int .u64 5)]
def kr26 : PV := (.int .i64 0)
theorem k26 : FnP Tryd.prog 87 ka26 kr26 := runE_ok (doms := nthL domL) (fzr := noFz) (n := 6000) tab_ok mixed kn26_ok (by kernel_rfl)
def kn27 : Known := ⟨(87, ka26, kr26) :: kn26.p, kn26.i⟩
theorem kn27_ok : KnOk Tryd.prog kn27 := KnOk.cons k26 kn26_ok
def ka27 : List PV := [(.int .u64 4)]
def kr27 : PV := (.int .i64 2)
theorem k27 : FnP Tryd.prog 87 ka27 kr27 := runE_ok (doms := nthL domL) (fzr := noFz) (n := 6000) tab_ok mixed kn27_ok (by kernel_rfl)
def kn28 : Known := ⟨(87, ka27, kr27) :: kn27.p, kn27.i⟩
theorem kn28_ok : KnOk Tryd.prog kn28 := KnOk.cons k27 kn27_ok
def ka28 : List PV := [(.int .u64 1)]
def kr28 : PV := (.int .i64 0)
theorem k28 : FnP Tryd.prog 87 ka28 kr28 := runE_ok (doms := nthL domL) (fzr := noFz) (n := 6000) tab_ok mixed kn28_ok (by kernel_rfl)
def kn29 : Known := ⟨(87, ka28, kr28) :: kn28.p, kn28.i⟩
theorem kn29_ok : KnOk Tryd.prog kn29 := KnOk.cons k28 kn28_ok
def ka29 : List PV := [(.int .u64 2)]
def kr29 : PV := (.int .i64 1)
theorem k29 : FnP Tryd.prog 87 ka29 kr29 := runE_ok (doms := nthL domL) (fzr := noFz) (n := 6000) tab_ok mixed kn29_ok (by kernel_rfl)
def kn30 : Known := ⟨(87, ka29, kr29) :: kn29.p, kn29.i⟩
theorem kn30_ok : KnOk Tryd.prog kn30 := KnOk.cons k29 kn29_ok
def ka30 : List PV := [(.int .i64 3), (.lst true 1 [(.lst true 3 [(.int .i64 0), (.int .i64 1), (.int .i64 2)])])]
def kr30 : PV := (.tup [(.int .i64 2), (.int .i64 0)])
theorem k30 : FnP Tryd.prog 25 ka30 kr30 := runE_ok (doms := nthL domL) (fzr := noFz) (n := 6000) tab_ok mixed kn30_ok (by kernel_rfl)
def kn31 : Known := ⟨(25, ka30, kr30) :: kn30.p, kn30.i⟩
theorem kn31_ok : KnOk Tryd.prog kn31 := KnOk.cons k30 kn30_ok
def ka31 : List PV := [(.int .u64 15)]
def kr31 : PV := (.int .i64 0)
theorem k31 : FnP Tryd.prog 87 ka31 kr31 := runE_ok (doms := nthL domL) (fzr := noFz) (n := 6000) tab_ok mixed kn31_ok (by kernel_rfl)
def kn32 : Known := ⟨(87, ka31, kr31) :: kn31.p, kn31.i⟩
theorem kn32_ok : KnOk Tryd.prog kn32 := KnOk.cons k31 kn31_ok
def ka32 : List PV := [(.int .u64 14)]
def kr32 : PV := (.int .i64 1)
theorem k32 : FnP Tryd.prog 87 ka32 kr32 := runE_ok (doms := nthL domL) (fzr := noFz) (n := 6000) tab_ok mixed kn32_ok (by kernel_rfl)
def kn33 : Known := ⟨(87, ka32, kr32) :: kn32.p, kn32.i⟩
theorem kn33_ok : KnOk Tryd.prog kn33 := KnOk.cons k32 kn32_ok
def ka33 : List PV := [(.int .i64 4), .nl]
def kr33 : PV := (.tup [(.int .i64 24), (.int .i64 0)])
theorem k33 : FnP Tryd.prog 25 ka33 kr33 := runE_ok (doms := nthL domL) (fzr := noFz) (n := 6000) tab_ok mixed kn33_ok (by kernel_rfl)
def kn34 : Known := ⟨(25, ka33, kr33) :: kn33.p, kn33.i⟩
theorem kn34_ok : KnOk Tryd.prog kn34 := KnOk.cons k33 kn33_ok
def ka34 : List PV := [(.int .i64 4)]
def kr34 : PV := (.lst false 4 [(.lst false 4 [(.int .i64 0), (.int .i64 1), (.int .i64 2), (.int .i64 3)]), (.lst false 4 [(.int .i64 1), (.int .i64 2), (.int .i64 3), (.int .i64 0)]), (.lst false 4 [(.int .i64 2), (.int .i64 3), (.int .i64 0), (.int .i64 1)]), (.lst false 4 [(.int .i64 3), (.int .i64 0), (.int .i64 1), (.int .i64 2)])])
theorem k34 : FnP Tryd.prog 42 ka34 kr34 := runE_ok (doms := nthL domL) (fzr := noFz) (n := 6000) tab_ok mixed kn34_ok (by kernel_rfl)
def kn35 : Known := ⟨(42, ka34, kr34) :: kn34.p, kn34.i⟩
theorem kn35_ok : KnOk Tryd.prog kn35 := KnOk.cons k34 kn34_ok
def ka35 : List PV := [(.int .i64 4), (.lst false 1 [(.lst false 4 [(.int .i64 0), (.int .i64 1), (.int .i64 2), (.int .i64 3)])])]
def kr35 : PV := (.tup [(.int .i64 9), (.int .i64 0)])
theorem k35 : FnP Tryd.prog 25 ka35 kr35 := runE_ok (doms := nthL domL) (fzr := noFz) (n := 6000) tab_ok mixed kn35_ok (by kernel_rfl)
def kn36 : Known := ⟨(25, ka35, kr35) :: kn35.p, kn35.i⟩
theorem kn36_ok : KnOk Tryd.prog kn36 := KnOk.cons k35 kn35_ok
def ka36 : List PV := [(.int .i64 4), (.lst false 4 [(.lst false 4 [(.int .i64 0), (.int .i64 1), (.int .i64 2), (.int .i64 3)]), (.lst false 4 [(.int .i64 1), (.int .i64 2), (.int .i64 3), (.int .i64 0)]), (.lst false 4 [(.int .i64 2), (.int .i64 3), (.int .i64 0), (.int .i64 1)]), (.lst false 4 [(.int .i64 3), (.int .i64 0), (.int .i64 1), (.int .i64 2)])])]
def kr36 : PV := (.tup [(.int .i64 0), (.int .i64 16)])
theorem k36 : FnP Tryd.prog 25 ka36 kr36 := runE_ok (doms := nthL domL) (fzr := noFz) (n := 6000) tab_ok mixed kn36_ok (by kernel_rfl)
def kn37 : Known := ⟨(25, ka36, kr36) :: kn36.p, kn36.i⟩
theorem kn37_ok : KnOk Tryd.prog kn37 := KnOk.cons k36 kn36_ok
def ka37 : List PV := [(.agg [(.int .i64 0), (.int .i64 1), (.int .i64 (-1)), (.int .i64 (-1)), (.int .i64 (-1)), (.int .i64 1), (.int .i64 0), (.int .i64 (-1)), (.int .i64 (-1)), (.int .i64 (-1)), (.int .i64 (-1)), (.int .i64 (-1)), (.int .i64 (-1)), (.int .i64 (-1)), (.int .i64 (-1)), (.int .i64 (-1)), (.int .i64 (-1)), (.int .i64 (-1)), (.int .i64 (-1)), (.int .i64 (-1)), (.int .i64 (-1)), (.int .i64 (-1)), (.int .i64 (-1)), (.int .i64 (-1)), (.int .i64 (-1))]), (.int .i64 2)]
def kr37 : PV := (.lst false 2 [(.lst false 2 [(.int .i64 0), (.int .i64 1)]), (.lst false 2 [(.int .i64 1), (.int .i64 0)])])
theorem k37 : FnP Tryd.prog 65 ka37 kr37 := runE_ok (doms := nthL domL) (fzr := noFz) (n := 6000) tab_ok mixed kn37_ok (by kernel_rfl)
def kn38 : Known := ⟨(65, ka37, kr37) :: kn37.p, kn37.i⟩
theorem kn38_ok : KnOk Tryd.prog kn38 := KnOk.cons k37 kn37_ok
def ka38 : List PV := [(.int .i64 2)]
def kr38 : PV := (.tup [(.lst false 2 [(.lst false 2 [(.int .i64 0), (.int .i64 1)]), (.lst false 2 [(.int .i64 1), (.int .i64 0)])]), (.int .i64 0)])
theorem k38 : FnP Tryd.prog 31 ka38 kr38 := runE_ok (doms := nthL domL) (fzr := noFz) (n := 6000) tab_ok mixed kn38_ok (by kernel_rfl)
def kn39 : Known := ⟨(31, ka38, kr38) :: kn38.p, kn38.i⟩
theorem kn39_ok : KnOk Tryd.prog kn39 := KnOk.cons k38 kn38_ok
def ka39 : List PV := [(.int .i64 2), .nl]
def kr39 : PV := (.tup [(.lst false 2 [(.lst false 2 [(.int .i64 0), (.int .i64 1)]), (.lst false 2 [(.int .i64 1), (.int .i64 0)])]), (.int .i64 0)])
theorem k39 : FnP Tryd.prog 47 ka39 kr39 := runE_ok (doms := nthL domL) (fzr := noFz) (n := 6000) tab_ok mixed kn39_ok (by kernel_rfl)
def kn40 : Known := ⟨(47, ka39, kr39) :: kn39.p, kn39.i⟩
theorem kn40_ok : KnOk Tryd.prog kn40 := KnOk.cons k39 kn39_ok
def ka40 : List PV := [(.int .i64 5)]
def kr40 : PV := (.lst false 5 [(.lst false 5 [(.int .i64 0), (.int .i64 1), (.int .i64 2), (.int .i64 3), (.int .i64 4)]), (.lst false 5 [(.int .i64 1), (.int .i64 2), (.int .i64 3), (.int .i64 4), (.int .i64 0)]), (.lst false 5 [(.int .i64 2), (.int .i64 3), (.int .i64 4), (.int .i64 0), (.int .i64 1)]), (.lst false 5 [(.int .i64 3), (.int .i64 4), (.int .i64 0), (.int .i64 1), (.int .i64 2)]), (.lst false 5 [(.int .i64 4), (.int .i64 0), (.int .i64 1), (.int .i64 2), (.int .i64 3)])])
theorem k40 : FnP Tryd.prog 42 ka40 kr40 := runE_ok (doms := nthL domL) (fzr := noFz) (n := 6000) tab_ok mixed kn40_ok (by kernel_rfl)
def kn41 : Known := ⟨(42, ka40, kr40) :: kn40.p, kn40.i⟩
theorem kn41_ok : KnOk Tryd.prog kn41 := KnOk.cons k40 kn40_ok
def ka41 : List D := [(.sl false 0 0 1 1), (.v (.int .u64 1)), (.v (.int .u64 1)), (.ptr 1 0), (.ptr 2 0), (.ptr 3 0), (.ptr 4 0)]
def ko41 : Obs := [(0, (.p [(.int .i64 0)])), (1, (.p [(.int .i64 5)])), (2, (.r [(.fn 78 [(.ptr 5 0)])])), (3, (.r [(.ptr 6 0)])), (4, (.r [(.fn 94 [(.ptr 1 0), (.ptr 2 0), (.ptr 3 0), (.ptr 4 0)])])), (5, (.p [(.int .i64 0)])), (6, (.p [(.int .i64 5), (.int .i64 0), (.int .i64 1), (.int .i64 2), (.int .i64 3), (.int .i64 4), (.int .i64 1), (.int .i64 2), (.int .i64 3), (.int .i64 4), (.int .i64 0), (.int .i64 2), (.int .i64 3), (.int .i64 4), (.int .i64 0), (.int .i64 1), (.int .i64 3), (.int .i64 4), (.int .i64 0), (.int .i64 1), (.int .i64 2), (.int .i64 4), (.int .i64 0), (.int .i64 1), (.int .i64 2), (.int .i64 3), (.int .u64 31), (.int .u64 31), (.int .u64 31), (.int .u64 31), (.int .u64 31), (.int .u64 31), (.int .u64 31), (.int .u64 31), (.int .u64 31), (.int .u64 31)]))]
def kr41 : D := (.v (.bool true))
def kq41 : Obs := [(0, (.p [(.int .i64 0)])), (1, (.p [(.int .i64 5)])), (2, (.r [(.fn 78 [(.ptr 5 0)])])), (3, (.r [(.ptr 6 0)])), (4, (.r [(.fn 94 [(.ptr 1 0), (.ptr 2 0), (.ptr 3 0), (.ptr 4 0)])])), (5, (.p [(.int .i64 3)])), (6, (.p [(.int .i64 5), (.int .i64 0), (.int .i64 1), (.int .i64 2), (.int .i64 3), (.int .i64 4), (.int .i64 1), (.int .i64 2), (.int .i64 3), (.int .i64 4), (.int .i64 0), (.int .i64 2), (.int .i64 3), (.int .i64 4), (.int .i64 0), (.int .i64 1), (.int .i64 3), (.int .i64 4), (.int .i64 0), (.int .i64 1), (.int .i64 2), (.int .i64 4), (.int .i64 0), (.int .i64 1), (.int .i64 2), (.int .i64 3), (.int .u64 31), (.int .u64 31), (.int .u64 31), (.int .u64 31), (.int .u64 31), (.int .u64 31), (.int .u64 31), (.int .u64 31), (.int .u64 31), (.int .u64 31)]))]
theorem k41 : Go.V.Fn Tryd.prog 94 7 ka41 ko41 (fun d ob' => d = kr41 ∧ ob' = kq41) := runI_ok (doms := nthL domL) (fzr := noFz) (n := 6000) tab_ok mixed kn41_ok (by kernel_rfl)
def kn42 : Known := ⟨kn41.p, ⟨94, 7, ka41, ko41, kr41, kq41⟩ :: kn41.i⟩
theorem kn42_ok : KnOk Tryd.prog kn42 := KnOk.consI k41 kn41_ok
def ka42 : List D := [(.sl false 0 0 1 1), (.v (.int .u64 2)), (.v (.int .u64 2)), (.ptr 1 0), (.ptr 2 0), (.ptr 3 0), (.ptr 4 0)]
def ko42 : Obs := [(0, (.p [(.int .i64 1)])), (1, (.p [(.int .i64 5)])), (2, (.r [(.fn 78 [(.ptr 5 0)])])), (3, (.r [(.ptr 6 0)])), (4, (.r [(.fn 94 [(.ptr 1 0), (.ptr 2 0), (.ptr 3 0), (.ptr 4 0)])])), (5, (.p [(.int .i64 3)])), (6, (.p [(.int .i64 5), (.int .i64 0), (.int .i64 1), (.int .i64 2), (.int .i64 3), (.int .i64 4), (.int .i64 1), (.int .i64 2), (.int .i64 3), (.int .i64 4), (.int .i64 0), (.int .i64 2), (.int .i64 3), (.int .i64 4), (.int .i64 0), (.int .i64 1), (.int .i64 3), (.int .i64 4), (.int .i64 0), (.int .i64 1), (.int .i64 2), (.int .i64 4), (.int .i64 0), (.int .i64 1), (.int .i64 2), (.int .i64 3), (.int .u64 31), (.int .u64 31), (.int .u64 31), (.int .u64 31), (.int .u64 31), (.int .u64 31), (.int .u64 31), (.int .u64 31), (.int .u64 31), (.int .u64 31)]))]
def kr42 : D := (.v (.bool true))
def kq42 : Obs := [(0, (.p [(.int .i64 1)])), (1, (.p [(.int .i64 5)])), (2, (.r [(.fn 78 [(.ptr 5 0)])])), (3, (.r [(.ptr 6 0)])), (4, (.r [(.fn 94 [(.ptr 1 0), (.ptr 2 0), (.ptr 3 0), (.ptr 4 0)])])), (5, (.p [(.int .i64 6)])), (6, (.p [(.int .i64 5), (.int .i64 0), (.int .i64 1), (.int .i64 2), (.int .i64 3), (.int .i64 4), (.int .i64 1), (.int .i64 2), (.int .i64 3), (.int .i64 4), (.int .i64 0), (.int .i64 2), (.int .i64 3), (.int .i64 4), (.int .i64 0), (.int .i64 1), (.int .i64 3), (.int .i64 4), (.int .i64 0), (.int .i64 1), (.int .i64 2), (.int .i64 4), (.int .i64 0), (.int .i64 1), (.int .i64 2), (.int .i64 3), (.int .u64 31), (.int .u64 31), (.int .u64 31), (.int .u64 31), (.int .u64 31), (.int .u64 31), (.int .u64 31), (.int .u64 31), (.int .u64 31), (.int .u64 31)]))]
theorem k42 : Go.V.Fn Tryd.prog 94 7 ka42 ko42 (fun d ob' => d = kr42 ∧ ob' = kq42) := runI_ok (doms := nthL domL) (fzr := noFz) (n := 6000) tab_ok mixed kn42_ok (by kernel_rfl)
def kn43 : Known := ⟨kn42.p, ⟨94, 7, ka42, ko42, kr42, kq42⟩ :: kn42.i⟩
theorem kn43_ok : KnOk Tryd.prog kn43 := KnOk.consI k42 kn42_ok
def ka43 : List D := [(.sl false 0 0 1 1), (.v (.int .u64 4)), (.v (.int .u64 4)), (.ptr 1 0), (.ptr 2 0), (.ptr 3 0), (.ptr 4 0)]
def ko43 : Obs := [(0, (.p [(.int .i64 2)])), (1, (.p [(.int .i64 5)])), (2, (.r [(.fn 78 [(.ptr 5 0)])])), (3, (.r [(.ptr 6 0)])), (4, (.r [(.fn 94 [(.ptr 1 0), (.ptr 2 0), (.ptr 3 0), (.ptr 4 0)])])), (5, (.p [(.int .i64 6)])), (6, (.p [(.int .i64 5), (.int .i64 0), (.int .i64 1), (.int .i64 2), (.int .i64 3), (.int .i64 4), (.int .i64 1), (.int .i64 2), (.int .i64 3), (.int .i64 4), (.int .i64 0), (.int .i64 2), (.int .i64 3), (.int .i64 4), (.int .i64 0), (.int .i64 1), (.int .i64 3), (.int .i64 4), (.int .i64 0), (.int .i64 1), (.int .i64 2), (.int .i64 4), (.int .i64 0), (.int .i64 1), (.int .i64 2), (.int .i64 3), (.int .u64 31), (.int .u64 31), (.int .u64 31), (.int .u64 31), (.int .u64 31), (.int .u64 31), (.int .u64 31), (.int .u64 31), (.int .u64 31), (.int .u64 31)]))]
def kr43 : D := (.v (.bool true))
def kq43 : Obs := [(0, (.p [(.int .i64 2)])), (1, (.p [(.int .i64 5)])), (2, (.r [(.fn 78 [(.ptr 5 0)])])), (3, (.r [(.ptr 6 0)])), (4, (.r [(.fn 94 [(.ptr 1 0), (.ptr 2 0), (.ptr 3 0), (.ptr 4 0)])])), (5, (.p [(.int .i64 9)])), (6, (.p [(.int .i64 5), (.int .i64 0), (.int .i64 1), (.int .i64 2), (.int .i64 3), (.int .i64 4), (.int .i64 1), (.int .i64 2), (.int .i64 3), (.int .i64 4), (.int .i64 0), (.int .i64 2), (.int .i64 3), (.int .i64 4), (.int .i64 0), (.int .i64 1), (.int .i64 3), (.int .i64 4), (.int .i64 0), (.int .i64 1), (.int .i64 2), (.int .i64 4), (.int .i64 0), (.int .i64 1), (.int .i64 2), (.int .i64 3), (.int .u64 31), (.int .u64 31), (.int .u64 31), (.int .u64 31), (.int .u64 31), (.int .u64 31), (.int .u64 31), (.int .u64 31), (.int .u64 31), (.int .u64 31)]))]
theorem k43 : Go.V.Fn Tryd.prog 94 7 ka43 ko43 (fun d ob' => d = kr43 ∧ ob' = kq43) := runI_ok (doms := nthL domL) (fzr := noFz) (n := 6000) tab_ok mixed kn43_ok (by kernel_rfl)
def kn44 : Known := ⟨kn43.p, ⟨94, 7, ka43, ko43, kr43, kq43⟩ :: kn43.i⟩
theorem kn44_ok : KnOk Tryd.prog kn44 := KnOk.consI k43 kn43_ok
def ka44 : List D := [(.sl false 0 0 1 1), (.v (.int .u64 8)), (.v (.int .u64 8)), (.ptr 1 0), (.ptr 2 0), (.ptr 3 0), (.ptr 4 0)]
def ko44 : Obs := [(0, (.p [(.int .i64 3)])), (1, (.p [(.int .i64 5)])), (2, (.r [(.fn 78 [(.ptr 5 0)])])), (3, (.r [(.ptr 6 0)])), (4, (.r [(.fn 94 [(.ptr 1 0), (.ptr 2 0), (.ptr 3 0), (.ptr 4 0)])])), (5, (.p [(.int .i64 9)])), (6, (.p [(.int .i64 5), (.int .i64 0), (.int .i64 1), (.int .i64 2), (.int .i64 3), (.int .i64 4), (.int .i64 1), (.int .i64 2), (.int .i64 3), (.int .i64 4), (.int .i64 0), (.int .i64 2), (.int .i64 3), (.int .i64 4), (.int .i64 0), (.int .i64 1), (.int .i64 3), (.int .i64 4), (.int .i64 0), (.int .i64 1), (.int .i64 2), (.int .i64 4), (.int .i64 0), (.int .i64 1), (.int .i64 2), (.int .i64 3), (.int .u64 31), (.int .u64 31), (.int .u64 31), (.int .u64 31), (.int .u64 31), (.int .u64 31), (.int .u64 31), (.int .u64 31), (.int .u64 31), (.int .u64 31)]))]
def kr44 : D := (.v (.bool true))
def kq44 : Obs := [(0, (.p [(.int .i64 3)])), (1, (.p [(.int .i64 5)])), (2, (.r [(.fn 78 [(.ptr 5 0)])])), (3, (.r [(.ptr 6 0)])), (4, (.r [(.fn 94 [(.ptr 1 0), (.ptr 2 0), (.ptr 3 0), (.ptr 4 0)])])), (5, (.p [(.int .i64 12)])), (6, (.p [(.int .i64 5), (.int .i64 0), (.int .i64 1), (.int .i64 2), (.int .i64 3), (.int .i64 4), (.int .i64 1), (.int .i64 2), (.int .i64 3), (.int .i64 4), (.int .i64 0), (.int .i64 2), (.int .i64 3), (.int .i64 4), (.int .i64 0), (.int .i64 1), (.int .i64 3), (.int .i64 4), (.int .i64 0), (.int .i64 1), (.int .i64 2), (.int .i64 4), (.int .i64 0), (.int .i64 1), (.int .i64 2), (.int .i64 3), (.int .u64 31), (.int .u64 31), (.int .u64 31), (.int .u64 31), (.int .u64 31), (.int .u64 31), (.int .u64 31), (.int .u64 31), (.int .u64 31), (.int .u64 31)]))]
theorem k44 : Go.V.Fn Tryd.prog 94 7 ka44 ko44 (fun d ob' => d = kr44 ∧ ob' = kq44) := runI_ok (doms := nthL domL) (fzr := noFz) (n := 6000) tab_ok mixed kn44_ok (by kernel_rfl)
def kn45 : Known := ⟨kn44.p, ⟨94, 7, ka44, ko44, kr44, kq44⟩ :: kn44.i⟩
theorem kn45_ok : KnOk Tryd.prog kn45 := KnOk.consI k44 kn44_ok
def ka45 : List D := [(.sl false 0 0 1 1), (.v (.int .u64 16)), (.v (.int .u64 16)), (.ptr 1 0), (.ptr 2 0), (.ptr 3 0), (.ptr 4 0)]
def ko45 : Obs := [(0, (.p [(.int .i64 4)])), (1, (.p [(.int .i64 5)])), (2, (.r [(.fn 78 [(.ptr 5 0)])])), (3, (.r [(.ptr 6 0)])), (4, (.r [(.fn 94 [(.ptr 1 0), (.ptr 2 0), (.ptr 3 0), (.ptr 4 0)])])), (5, (.p [(.int .i64 12)])), (6, (.p [(.int .i64 5), (.int .i64 0), (.int .i64 1), (.int .i64 2), (.int .i64 3), (.int .i64 4), (.int .i64 1), (.int .i64 2), (.int .i64 3), (.int .i64 4), (.int .i64 0), (.int .i64 2), (.int .i64 3), (.int .i64 4), (.int .i64 0), (.int .i64 1), (.int .i64 3), (.int .i64 4), (.int .i64 0), (.int .i64 1), (.int .i64 2), (.int .i64 4), (.int .i64 0), (.int .i64 1), (.int .i64 2), (.int .i64 3), (.int .u64 31), (.int .u64 31), (.int .u64 31), (.int .u64 31), (.int .u64 31), (.int .u64 31), (.int .u64 31), (.int .u64 31), (.int .u64 31), (.int .u64 31)]))]
def kr45 : D := (.v (.bool true))
def kq45 : Obs := [(0, (.p [(.int .i64 4)])), (1, (.p [(.int .i64 5)])), (2, (.r [(.fn 78 [(.ptr 5 0)])])), (3, (.r [(.ptr 6 0)])), (4, (.r [(.fn 94 [(.ptr 1 0), (.ptr 2 0), (.ptr 3 0), (.ptr 4 0)])])), (5, (.p [(.int .i64 15)])), (6, (.p [(.int .i64 5), (.int .i64 0), (.int .i64 1), (.int .i64 2), (.int .i64 3), (.int .i64 4), (.int .i64 1), (.int .i64 2), (.int .i64 3), (.int .i64 4), (.int .i64 0), (.int .i64 2), (.int .i64 3), (.int .i64 4), (.int .i64 0), (.int .i64 1), (.int .i64 3), (.int .i64 4), (.int .i64 0), (.int .i64 1), (.int .i64 2), (.int .i64 4), (.int .i64 0), (.int .i64 1), (.int .i64 2), (.int .i64 3), (.int .u64 31), (.int .u64 31), (.int .u64 31), (.int .u64 31), (.int .u64 31), (.int .u64 31), (.int .u64 31), (.int .u64 31), (.int .u64 31), (.int .u64 31)]))]
theorem k45 : Go.V.Fn Tryd.prog 94 7 ka45 ko45 (fun d ob' => d = kr45 ∧ ob' = kq45) := runI_ok (doms := nthL domL) (fzr := noFz) (n := 6000) tab_ok mixed kn45_ok (by kernel_rfl)
def kn46 : Known := ⟨kn45.p, ⟨94, 7, ka45, ko45, kr45, kq45⟩ :: kn45.i⟩
theorem kn46_ok : KnOk Tryd.prog kn46 := KnOk.consI k45 kn45_ok
def ka46 : List PV := [(.int .i64 5), (.lst false 5 [(.lst false 5 [(.int .i64 0), (.int .i64 1), (.int .i64 2), (.int .i64 3), (.int .i64 4)]), (.lst false 5 [(.int .i64 1), (.int .i64 2), (.int .i64 3), (.int .i64 4), (.int .i64 0)]), (.lst false 5 [(.int .i64 2), (.int .i64 3), (.int .i64 4), (.int .i64 0), (.int .i64 1)]), (.lst false 5 [(.int .i64 3), (.int .i64 4), (.int .i64 0), (.int .i64 1), (.int .i64 2)]), (.lst false 5 [(.int .i64 4), (.int .i64 0), (.int .i64 1), (.int .i64 2), (.int .i64 3)])])]
def kr46 : PV := (.tup [(.int .i64 15), (.int .i64 0)])
theorem k46 : FnP Tryd.prog 35 ka46 kr46 := runE_ok (doms := nthL domL) (fzr := noFz) (n := 6000) tab_ok mixed kn46_ok (by kernel_rfl)
def kn47 : Known := ⟨(35, ka46, kr46) :: kn46.p, kn46.i⟩
theorem kn47_ok : KnOk Tryd.prog kn47 := KnOk.cons k46 kn46_ok
def ka47 : List D := [(.sl false 0 0 1 1), (.v (.int .u64 1)), (.v (.int .u64 1)), (.ptr 1 0), (.ptr 2 0), (.ptr 3 0), (.ptr 4 0)]
def ko47 : Obs := [(0, (.p [(.int .i64 0)])), (1, (.p [(.int .i64 4)])), (2, (.r [(.fn 78 [(.ptr 5 0)])])), (3, (.r [(.ptr 6 0)])), (4, (.r [(.fn 94 [(.ptr 1 0), (.ptr 2 0), (.ptr 3 0), (.ptr 4 0)])])), (5, (.p [(.int .i64 0)])), (6, (.p [(.int .i64 4), (.int .i64 0), (.int .i64 1), (.int .i64 2), (.int .i64 3), (.int .i64 (-1)), (.int .i64 1), (.int .i64 2), (.int .i64 3), (.int .i64 0), (.int .i64 (-1)), (.int .i64 2), (.int .i64 3), (.int .i64 0), (.int .i64 1), (.int .i64 (-1)), (.int .i64 3), (.int .i64 0), (.int .i64 1), (.int .i64 2), (.int .i64 (-1)), (.int .i64 (-1)), (.int .i64 (-1)), (.int .i64 (-1)), (.int .i64 (-1)), (.int .i64 (-1)), (.int .u64 15), (.int .u64 15), (.int .u64 15), (.int .u64 15), (.int .u64 0), (.int .u64 15), (.int .u64 15), (.int .u64 15), (.int .u64 15), (.int .u64 0)]))]
def kr47 : D := (.v (.bool true))
def kq47 : Obs := [(0, (.p [(.int .i64 0)])), (1, (.p [(.int .i64 4)])), (2, (.r [(.fn 78 [(.ptr 5 0)])])), (3, (.r [(.ptr 6 0)])), (4, (.r [(.fn 94 [(.ptr 1 0), (.ptr 2 0), (.ptr 3 0), (.ptr 4 0)])])), (5, (.p [(.int .i64 0)])), (6, (.p [(.int .i64 4), (.int .i64 0), (.int .i64 1), (.int .i64 2), (.int .i64 3), (.int .i64 (-1)), (.int .i64 1), (.int .i64 2), (.int .i64 3), (.int .i64 0), (.int .i64 (-1)), (.int .i64 2), (.int .i64 3), (.int .i64 0), (.int .i64 1), (.int .i64 (-1)), (.int .i64 3), (.int .i64 0), (.int .i64 1), (.int .i64 2), (.int .i64 (-1)), (.int .i64 (-1)), (.int .i64 (-1)), (.int .i64 (-1)), (.int .i64 (-1)), (.int .i64 (-1)), (.int .u64 15), (.int .u64 15), (.int .u64 15), (.int .u64 15), (.int .u64 0), (.int .u64 15), (.int .u64 15), (.int .u64 15), (.int .u64 15), (.int .u64 0)]))]
theorem k47 : Go.V.Fn Tryd.prog 94 7 ka47 ko47 (fun d ob' => d = kr47 ∧ ob' = kq47) := runI_ok (doms := nthL domL) (fzr := noFz) (n := 6000) tab_ok mixed kn47_ok (by kernel_rfl)
def kn48 : Known := ⟨kn47.p, ⟨94, 7, ka47, ko47, kr47, kq47⟩ :: kn47.i⟩
theorem kn48_ok : KnOk Tryd.prog kn48 := KnOk.consI k47 kn47_ok
def ka48 : List D := [(.sl false 0 0 1 1), (.v (.int .u64 2)), (.v (.int .u64 2)), (.ptr 1 0), (.ptr 2 0), (.ptr 3 0), (.ptr 4 0)]
def ko48 : Obs := [(0, (.p [(.int .i64 1)])), (1, (.p [(.int .i64 4)])), (2, (.r [(.fn 78 [(.ptr 5 0)])])), (3, (.r [(.ptr 6 0)])), (4, (.r [(.fn 94 [(.ptr 1 0), (.ptr 2 0), (.ptr 3 0), (.ptr 4 0)])])), (5, (.p [(.int .i64 0)])), (6, (.p [(.int .i64 4), (.int .i64 0), (.int .i64 1), (.int .i64 2), (.int .i64 3), (.int .i64 (-1)), (.int .i64 1), (.int .i64 2), (.int .i64 3), (.int .i64 0), (.int .i64 (-1)), (.int .i64 2), (.int .i64 3), (.int .i64 0), (.int .i64 1), (.int .i64 (-1)), (.int .i64 3), (.int .i64 0), (.int .i64 1), (.int .i64 2), (.int .i64 (-1)), (.int .i64 (-1)), (.int .i64 (-1)), (.int .i64 (-1)), (.int .i64 (-1)), (.int .i64 (-1)), (.int .u64 15), (.int .u64 15), (.int .u64 15), (.int .u64 15), (.int .u64 0), (.int .u64 15), (.int .u64 15), (.int .u64 15), (.int .u64 15), (.int .u64 0)]))]
def kr48 : D := (.v (.bool true))
def kq48 : Obs := [(0, (.p [(.int .i64 1)])), (1, (.p [(.int .i64 4)])), (2, (.r [(.fn 78 [(.ptr 5 0)])])), (3, (.r [(.ptr 6 0)])), (4, (.r [(.fn 94 [(.ptr 1 0), (.ptr 2 0), (.ptr 3 0), (.ptr 4 0)])])), (5, (.p [(.int .i64 0)])), (6, (.p [(.int .i64 4), (.int .i64 0), (.int .i64 1), (.int .i64 2), (.int .i64 3), (.int .i64 (-1)), (.int .i64 1), (.int .i64 2), (.int .i64 3), (.int .i64 0), (.int .i64 (-1)), (.int .i64 2), (.int .i64 3), (.int .i64 0), (.int .i64 1), (.int .i64 (-1)), (.int .i64 3), (.int .i64 0), (.int .i64 1), (.int .i64 2), (.int .i64 (-1)), (.int .i64 (-1)), (.int .i64 (-1)), (.int .i64 (-1)), (.int .i64 (-1)), (.int .i64 (-1)), (.int .u64 15), (.int .u64 15), (.int .u64 15), (.int .u64 15), (.int .u64 0), (.int .u64 15), (.int .u64 15), (.int .u64 15), (.int .u64 15), (.int .u64 0)]))]
theorem k48 : Go.V.Fn Tryd.prog 94 7 ka48 ko48 (fun d ob' => d = kr48 ∧ ob' = kq48) := runI_ok (doms := nthL domL) (fzr := noFz) (n := 6000) tab_ok mixed kn48_ok (by kernel_rfl)
def kn49 : Known := ⟨kn48.p, ⟨94, 7, ka48, ko48, kr48, kq48⟩ :: kn48.i⟩
theorem kn49_ok : KnOk Tryd.prog kn49 := KnOk.consI k48 kn48_ok
def ka49 : List D := [(.sl false 0 0 1 1), (.v (.int .u64 4)), (.v (.int .u64 4)), (.ptr 1 0), (.ptr 2 0), (.ptr 3 0), (.ptr 4 0)]
def ko49 : Obs := [(0, (.p [(.int .i64 2)])), (1, (.p [(.int .i64 4)])), (2, (.r [(.fn 78 [(.ptr 5 0)])])), (3, (.r [(.ptr 6 0)])), (4, (.r [(.fn 94 [(.ptr 1 0), (.ptr 2 0), (.ptr 3 0), (.ptr 4 0)])])), (5, (.p [(.int .i64 0)])), (6, (.p [(.int .i64 4), (.int .i64 0), (.int .i64 1), (.int .i64 2), (.int .i64 3), (.int .i64 (-1)), (.int .i64 1), (.int .i64 2), (.int .i64 3), (.int .i64 0), (.int .i64 (-1)), (.int .i64 2), (.int .i64 3), (.int .i64 0), (.int .i64 1), (.int .i64 (-1)), (.int .i64 3), (.int .i64 0), (.int .i64 1), (.int .i64 2), (.int .i64 (-1)), (.int .i64 (-1)), (.int .i64 (-1)), (.int .i64 (-1)), (.int .i64 (-1)), (.int .i64 (-1)), (.int .u64 15), (.int .u64 15), (.int .u64 15), (.int .u64 15), (.int .u64 0), (.int .u64 15), (.int .u64 15), (.int .u64 15), (.int .u64 15), (.int .u64 0)]))]
def kr49 : D := (.v (.bool true))
def kq49 : Obs := [(0, (.p [(.int .i64 2)])), (1, (.p [(.int .i64 4)])), (2, (.r [(.fn 78 [(.ptr 5 0)])])), (3, (.r [(.ptr 6 0)])), (4, (.r [(.fn 94 [(.ptr 1 0), (.ptr 2 0), (.ptr 3 0), (.ptr 4 0)])])), (5, (.p [(.int .i64 0)])), (6, (.p [(.int .i64 4), (.int .i64 0), (.int .i64 1), (.int .i64 2), (.int .i64 3), (.int .i64 (-1)), (.int .i64 1), (.int .i64 2), (.int .i64 3), (.int .i64 0), (.int .i64 (-1)), (.int .i64 2), (.int .i64 3), (.int .i64 0), (.int .i64 1), (.int .i64 (-1)), (.int .i64 3), (.int .i64 0), (.int .i64 1), (.int .i64 2), (.int .i64 (-1)), (.int .i64 (-1)), (.int .i64 (-1)), (.int .i64 (-1)), (.int .i64 (-1)), (.int .i64 (-1)), (.int .u64 15), (.int .u64 15), (.int .u64 15), (.int .u64 15), (.int .u64 0), (.int .u64 15), (.int .u64 15), (.int .u64 15), (.int .u64 15), (.int .u64 0)]))]
theorem k49 : Go.V.Fn Tryd.prog 94 7 ka49 ko49 (fun d ob' => d = kr49 ∧ ob' = kq49) := runI_ok (doms := nthL domL) (fzr := noFz) (n := 6000) tab_ok mixed kn49_ok (by kernel_rfl)
def kn50 : Known := ⟨kn49.p, ⟨94, 7, ka49, ko49, kr49, kq49⟩ :: kn49.i⟩
theorem kn50_ok : KnOk Tryd.prog kn50 := KnOk.consI k49 kn49_ok
def ka50 : List D := [(.sl false 0 0 1 1), (.v (.int .u64 8)), (.v (.int .u64 8)), (.ptr 1 0), (.ptr 2 0), (.ptr 3 0), (.ptr 4 0)]
def ko50 : Obs := [(0, (.p [(.int .i64 3)])), (1, (.p [(.int .i64 4)])), (2, (.r [(.fn 78 [(.ptr 5 0)])])), (3, (.r [(.ptr 6 0)])), (4, (.r [(.fn 94 [(.ptr 1 0), (.ptr 2 0), (.ptr 3 0), (.ptr 4 0)])])), (5, (.p [(.int .i64 0)])), (6, (.p [(.int .i64 4), (.int .i64 0), (.int .i64 1), (.int .i64 2), (.int .i64 3), (.int .i64 (-1)), (.int .i64 1), (.int .i64 2), (.int .i64 3), (.int .i64 0), (.int .i64 (-1)), (.int .i64 2), (.int .i64 3), (.int .i64 0), (.int .i64 1), (.int .i64 (-1)), (.int .i64 3), (.int .i64 0), (.int .i64 1), (.int .i64 2), (.int .i64 (-1)), (.int .i64 (-1)), (.int .i64 (-1)), (.int .i64 (-1)), (.int .i64 (-1)), (.int .i64 (-1)), (.int .u64 15), (.int .u64 15), (.int .u64 15), (.int .u64 15), (.int .u64 0), (.int .u64 15), (.int .u64 15), (.int .u64 15), (.int .u64 15), (.int .u64 0)]))]
def kr50 : D := (.v (.bool true))
def kq50 : Obs := [(0, (.p [(.int .i64 3)])), (1, (.p [(.int .i64 4)])), (2, (.r [(.fn 78 [(.ptr 5 0)])])), (3, (.r [(.ptr 6 0)])), (4, (.r [(.fn 94 [(.ptr 1 0), (.ptr 2 0), (.ptr 3 0), (.ptr 4 0)])])), (5, (.p [(.int .i64 0)])), (6, (.p [(.int .i64 4), (.int .i64 0), (.int .i64 1), (.int .i64 2), (.int .i64 3), (.int .i64 (-1)), (.int .i64 1), (.int .i64 2), (.int .i64 3), (.int .i64 0), (.int .i64 (-1)), (.int .i64 2), (.int .i64 3), (.int .i64 0), (.int .i64 1), (.int .i64 (-1)), (.int .i64 3), (.int .i64 0), (.int .i64 1), (.int .i64 2), (.int .i64 (-1)), (.int .i64 (-1)), (.int .i64 (-1)), (.int .i64 (-1)), (.int .i64 (-1)), (.int .i64 (-1)), (.int .u64 15), (.int .u64 15), (.int .u64 15), (.int .u64 15), (.int .u64 0), (.int .u64 15), (.int .u64 15), (.int .u64 15), (.int .u64 15), (.int .u64 0)]))]
theorem k50 : Go.V.Fn Tryd.prog 94 7 ka50 ko50 (fun d ob' => d = kr50 ∧ ob' = kq50) := runI_ok (doms := nthL domL) (fzr := noFz) (n := 6000) tab_ok mixed kn50_ok (by kernel_rfl)
def kn51 : Known := ⟨kn50.p, ⟨94, 7, ka50, ko50, kr50, kq50⟩ :: kn50.i⟩
theorem kn51_ok : KnOk Tryd.prog kn51 := KnOk.consI k50 kn50_ok
def ka51 : List PV := [(.int .i64 4), (.lst false 4 [(.lst false 4 [(.int .i64 0), (.int .i64 1), (.int .i64 2), (.int .i64 3)]), (.lst false 4 [(.int .i64 1), (.int .i64 2), (.int .i64 3), (.int .i64 0)]), (.lst false 4 [(.int .i64 2), (.int .i64 3), (.int .i64 0), (.int .i64 1)]), (.lst false 4 [(.int .i64 3), (.int .i64 0), (.int .i64 1), (.int .i64 2)])])]
def kr51 : PV := (.tup [(.int .i64 0), (.int .i64 0)])
theorem k51 : FnP Tryd.prog 35 ka51 kr51 := runE_ok (doms := nthL domL) (fzr := noFz) (n := 6000) tab_ok mixed kn51_ok (by kernel_rfl)
def kn52 : Known := ⟨(35, ka51, kr51) :: kn51.p, kn51.i⟩
theorem kn52_ok : KnOk Tryd.prog kn52 := KnOk.cons k51 kn51_ok
def ka52 : List PV := [(.lst false 2 [(.int .i64 0), (.int .i64 1)]), (.lst false 2 [(.int .i64 0), (.int .i64 1)])]
def kr52 : PV := (.bool true)
theorem k52 : FnP Tryd.prog 22 ka52 kr52 := runE_ok (doms := nthL domL) (fzr := noFz) (n := 6000) tab_ok mixed kn52_ok (by kernel_rfl)
def kn53 : Known := ⟨(22, ka52, kr52) :: kn52.p, kn52.i⟩
theorem kn53_ok : KnOk Tryd.prog kn53 := KnOk.cons k52 kn52_ok
def ka53 : List PV := [(.lst false 2 [(.int .i64 1), (.int .i64 0)]), (.lst false 2 [(.int .i64 1), (.int .i64 0)])]
def kr53 : PV := (.bool true)
theorem k53 : FnP Tryd.prog 22 ka53 kr53 := runE_ok (doms := nthL domL) (fzr := noFz) (n := 6000) tab_ok mixed kn53_ok (by kernel_rfl)
def kn54 : Known := ⟨(22, ka53, kr53) :: kn53.p, kn53.i⟩
theorem kn54_ok : KnOk Tryd.prog kn54 := KnOk.cons k53 kn53_ok
def ka54 : List PV := [(.lst false 2 [(.lst false 2 [(.int .i64 0), (.int .i64 1)]), (.lst false 2 [(.int .i64 1), (.int .i64 0)])]), (.lst false 2 [(.lst false 2 [(.int .i64 0), (.int .i64 1)]), (.lst false 2 [(.int .i64 1), (.int .i64 0)])])]
def kr54 : PV := (.bool true)
theorem k54 : FnP Tryd.prog 21 ka54 kr54 := runE_ok (doms := nthL domL) (fzr := noFz) (n := 6000) tab_ok mixed kn54_ok (by kernel_rfl)
def kn55 : Known := ⟨(21, ka54, kr54) :: kn54.p, kn54.i⟩
theorem kn55_ok : KnOk Tryd.prog kn55 := KnOk.cons k54 kn54_ok
def ka55 : List PV := []
def kr55 : PV := (.lst true 2 [(.lst true 2 [(.int .i64 0), (.int .i64 1)]), (.lst true 2 [(.int .i64 1), (.int .i64 0)])])
theorem k55 : FnP Tryd.prog 54 ka55 kr55 := runE_ok (doms := nthL domL) (fzr := noFz) (n := 6000) tab_ok mixed kn55_ok (by kernel_rfl)
def kn56 : Known := ⟨(54, ka55, kr55) :: kn55.p, kn55.i⟩
theorem kn56_ok : KnOk Tryd.prog kn56 := KnOk.cons k55 kn55_ok
def ka56 : List PV := [(.int .i64 3), (.lst true 2 [(.lst true 2 [(.int .i64 0), (.int .i64 1)]), (.lst true 2 [(.int .i64 1), (.int .i64 0)])]), (.int .i64 3)]
def kr56 : PV := (.int .i64 2)
theorem k56 : FnP Tryd.prog 51 ka56 kr56 := runE_ok (doms := nthL domL) (fzr := noFz) (n := 6000) tab_ok mixed kn56_ok (by kernel_rfl)
def kn57 : Known := ⟨(51, ka56, kr56) :: kn56.p, kn56.i⟩
theorem kn57_ok : KnOk Tryd.prog kn57 := KnOk.cons k56 kn56_ok
def ka57 : List PV := [(.int .i64 6), .nl]
def kr57 : PV := (.int .i64 1)
theorem k57 : FnP Tryd.prog 49 ka57 kr57 := runE_ok (doms := nthL domL) (fzr := noFz) (n := 6000) tab_ok mixed kn57_ok (by kernel_rfl)
def kn58 : Known := ⟨(49, ka57, kr57) :: kn57.p, kn57.i⟩
theorem kn58_ok : KnOk Tryd.prog kn58 := KnOk.cons k57 kn57_ok
def ka58 : List PV := [(.int .u64 6)]
def kr58 : PV := (.lst false 2 [(.int .i64 1), (.int .i64 2)])
theorem k58 : FnP Tryd.prog 62 ka58 kr58 := runE_ok (doms := nthL domL) (fzr := noFz) (n := 6000) tab_ok mixed kn58_ok (by kernel_rfl)
def kn59 : Known := ⟨(62, ka58, kr58) :: kn58.p, kn58.i⟩
theorem kn59_ok : KnOk Tryd.prog kn59 := KnOk.cons k58 kn58_ok
def ka59 : List PV := [(.int .u64 5)]
def kr59 : PV := (.lst false 2 [(.int .i64 0), (.int .i64 2)])
theorem k59 : FnP Tryd.prog 62 ka59 kr59 := runE_ok (doms := nthL domL) (fzr := noFz) (n := 6000) tab_ok mixed kn59_ok (by kernel_rfl)
def kn60 : Known := ⟨(62, ka59, kr59) :: kn59.p, kn59.i⟩
theorem kn60_ok : KnOk Tryd.prog kn60 := KnOk.cons k59 kn59_ok
def ka60 : List PV := [(.int .u64 3)]
def kr60 : PV := (.lst false 2 [(.int .i64 0), (.int .i64 1)])
theorem k60 : FnP Tryd.prog 62 ka60 kr60 := runE_ok (doms := nthL domL) (fzr := noFz) (n := 6000) tab_ok mixed kn60_ok (by kernel_rfl)
def kn61 : Known := ⟨(62, ka60, kr60) :: kn60.p, kn60.i⟩
theorem kn61_ok : KnOk Tryd.prog kn61 := KnOk.cons k60 kn60_ok
def ka61 : List PV := [(.int .i64 3), (.lst true 1 [(.lst true 3 [(.int .i64 0), (.int .i64 1), (.int .i64 2)])])]
def kr61 : PV := (.tup [(.lst false 3 [(.lst false 2 [(.int .i64 1), (.int .i64 2)]), (.lst false 2 [(.int .i64 0), (.int .i64 2)]), (.lst false 2 [(.int .i64 0), (.int .i64 1)])]), (.int .i64 0)])
theorem k61 : FnP Tryd.prog 17 ka61 kr61 := runE_ok (doms := nthL domL) (fzr := noFz) (n := 6000) tab_ok mixed kn61_ok (by kernel_rfl)
def kn62 : Known := ⟨(17, ka61, kr61) :: kn61.p, kn61.i⟩
theorem kn62_ok : KnOk Tryd.prog kn62 := KnOk.cons k61 kn61_ok
def ka62 : List PV := [(.agg [(.int .i64 0), (.int .i64 1), (.int .i64 2), (.int .i64 (-1)), (.int .i64 (-1)), (.int .i64 1), (.int .i64 2), (.int .i64 0), (.int .i64 (-1)), (.int .i64 (-1)), (.int .i64 (-1)), (.int .i64 (-1)), (.int .i64 (-1)), (.int .i64 (-1)), (.int .i64 (-1)), (.int .i64 (-1)), (.int .i64 (-1)), (.int .i64 (-1)), (.int .i64 (-1)), (.int .i64 (-1)), (.int .i64 (-1)), (.int .i64 (-1)), (.int .i64 (-1)), (.int .i64 (-1)), (.int .i64 (-1))]), (.int .i64 3)]
def kr62 : PV := (.lst false 3 [(.lst false 3 [(.int .i64 0), (.int .i64 1), (.int .i64 2)]), (.lst false 3 [(.int .i64 1), (.int .i64 2), (.int .i64 0)]), (.lst false 3 [(.int .i64 (-1)), (.int .i64 (-1)), (.int .i64 (-1))])])
theorem k62 : FnP Tryd.prog 65 ka62 kr62 := runE_ok (doms := nthL domL) (fzr := noFz) (n := 6000) tab_ok mixed kn62_ok (by kernel_rfl)
def kn63 : Known := ⟨(65, ka62, kr62) :: kn62.p, kn62.i⟩
theorem kn63_ok : KnOk Tryd.prog kn63 := KnOk.cons k62 kn62_ok
def ka63 : List PV := [(.int .i64 3), (.lst true 1 [(.lst true 3 [(.int .i64 0), (.int .i64 1), (.int .i64 2)])])]
def kr63 : PV := (.tup [(.lst false 3 [(.int .i64 1), (.int .i64 2), (.int .i64 0)]), (.int .i64 0)])
theorem k63 : FnP Tryd.prog 19 ka63 kr63 := runE_ok (doms := nthL domL) (fzr := noFz) (n := 6000) tab_ok mixed kn63_ok (by kernel_rfl)
def kn64 : Known := ⟨(19, ka63, kr63) :: kn63.p, kn63.i⟩
theorem kn64_ok : KnOk Tryd.prog kn64 := KnOk.cons k63 kn63_ok
def ka64 : List PV := [(.int .i64 4), (.lst false 2 [(.lst false 4 [(.int .i64 0), (.int .i64 1), (.int .i64 2), (.int .i64 3)]), (.lst false 4 [(.int .i64 1), (.int .i64 2), (.int .i64 3), (.int .i64 0)])])]
def kr64 : PV := (.tup [(.int .i64 2), (.int .i64 0)])
theorem k64 : FnP Tryd.prog 25 ka64 kr64 := runE_ok (doms := nthL domL) (fzr := noFz) (n := 6000) tab_ok mixed kn64_ok (by kernel_rfl)
def kn65 : Known := ⟨(25, ka64, kr64) :: kn64.p, kn64.i⟩
theorem kn65_ok : KnOk Tryd.prog kn65 := KnOk.cons k64 kn64_ok
def ka65 : List PV := [(.agg [(.int .i64 0), (.int .i64 1), (.int .i64 2), (.int .i64 (-1)), (.int .i64 (-1)), (.int .i64 1), (.int .i64 2), (.int .i64 0), (.int .i64 (-1)), (.int .i64 (-1)), (.int .i64 2), (.int .i64 0), (.int .i64 1), (.int .i64 (-1)), (.int .i64 (-1)), (.int .i64 (-1)), (.int .i64 (-1)), (.int .i64 (-1)), (.int .i64 (-1)), (.int .i64 (-1)), (.int .i64 (-1)), (.int .i64 (-1)), (.int .i64 (-1)), (.int .i64 (-1)), (.int .i64 (-1))]), (.int .i64 3)]
def kr65 : PV := (.lst false 3 [(.lst false 3 [(.int .i64 0), (.int .i64 1), (.int .i64 2)]), (.lst false 3 [(.int .i64 1), (.int .i64 2), (.int .i64 0)]), (.lst false 3 [(.int .i64 2), (.int .i64 0), (.int .i64 1)])])
theorem k65 : FnP Tryd.prog 65 ka65 kr65 := runE_ok (doms := nthL domL) (fzr := noFz) (n := 6000) tab_ok mixed kn65_ok (by kernel_rfl)
def kn66 : Known := ⟨(65, ka65, kr65) :: kn65.p, kn65.i⟩
theorem kn66_ok : KnOk Tryd.prog kn66 := KnOk.cons k65 kn65_ok
def ka66 : List PV := [(.int .i64 3), (.lst true 1 [(.lst true 3 [(.int .i64 0), (.int .i64 1), (.int .i64 2)])])]
def kr66 : PV := (.tup [(.lst false 3 [(.lst false 3 [(.int .i64 0), (.int .i64 1), (.int .i64 2)]), (.lst false 3 [(.int .i64 1), (.int .i64 2), (.int .i64 0)]), (.lst false 3 [(.int .i64 2), (.int .i64 0), (.int .i64 1)])]), (.int .i64 0)])
theorem k66 : FnP Tryd.prog 29 ka66 kr66 := runE_ok (doms := nthL domL) (fzr := noFz) (n := 6000) tab_ok mixed kn66_ok (by kernel_rfl)
def kn67 : Known := ⟨(29, ka66, kr66) :: kn66.p, kn66.i⟩
theorem kn67_ok : KnOk Tryd.prog kn67 := KnOk.cons k66 kn66_ok
def ka67 : List PV := [(.int .i64 3), (.lst true 2 [(.lst true 2 [(.int .i64 0), (.int .i64 1)]), (.lst true 2 [(.int .i64 1), (.int .i64 0)])])]
def kr67 : PV := (.tup [(.int .i64 2), (.int .i64 0)])
theorem k67 : FnP Tryd.prog 45 ka67 kr67 := runE_ok (doms := nthL domL) (fzr := noFz) (n := 6000) tab_ok mixed kn67_ok (by kernel_rfl)
def kn68 : Known := ⟨(45, ka67, kr67) :: kn67.p, kn67.i⟩
theorem kn68_ok : KnOk Tryd.prog kn68 := KnOk.cons k67 kn67_ok
def ka68 : List PV := []
def kr68 : PV := (.lst true 2 [(.lst true 2 [(.int .i64 0), (.int .i64 1)]), (.lst true 2 [(.int .i64 1), (.int .i64 2)])])
theorem k68 : FnP Tryd.prog 60 ka68 kr68 := runE_ok (doms := nthL domL) (fzr := noFz) (n := 6000) tab_ok mixed kn68_ok (by kernel_rfl)
def kn69 : Known := ⟨(60, ka68, kr68) :: kn68.p, kn68.i⟩
theorem kn69_ok : KnOk Tryd.prog kn69 := KnOk.cons k68 kn68_ok
def ka69 : List PV := [(.int .i64 3), (.lst true 2 [(.lst true 2 [(.int .i64 0), (.int .i64 1)]), (.lst true 2 [(.int .i64 1), (.int .i64 2)])])]
def kr69 : PV := (.tup [(.lst false 3 [(.lst false 3 [(.int .i64 0), (.int .i64 1), (.int .i64 2)]), (.lst false 3 [(.int .i64 1), (.int .i64 2), (.int .i64 0)]), (.lst false 3 [(.int .i64 2), (.int .i64 0), (.int .i64 1)])]), (.int .i64 0)])
theorem k69 : FnP Tryd.prog 47 ka69 kr69 := runE_ok (doms := nthL domL) (fzr := noFz) (n := 6000) tab_ok mixed kn69_ok (by kernel_rfl)
def kn70 : Known := ⟨(47, ka69, kr69) :: kn69.p, kn69.i⟩
theorem kn70_ok : KnOk Tryd.prog kn70 := KnOk.cons k69 kn69_ok
def ka70 : List PV := [(.int .i64 3)]
def kr70 : PV := (.tup [(.lst false 3 [(.lst false 3 [(.int .i64 0), (.int .i64 1), (.int .i64 2)]), (.lst false 3 [(.int .i64 1), (.int .i64 2), (.int .i64 0)]), (.lst false 3 [(.int .i64 2), (.int .i64 0), (.int .i64 1)])]), (.int .i64 0)])
theorem k70 : FnP Tryd.prog 31 ka70 kr70 := runE_ok (doms := nthL domL) (fzr := noFz) (n := 6000) tab_ok mixed kn70_ok (by kernel_rfl)
def kn71 : Known := ⟨(31, ka70, kr70) :: kn70.p, kn70.i⟩
theorem kn71_ok : KnOk Tryd.prog kn71 := KnOk.cons k70 kn70_ok
def ka71 : List PV := [(.int .i64 3)]
def kr71 : PV := (.lst false 3 [(.lst false 3 [(.int .i64 0), (.int .i64 1), (.int .i64 2)]), (.lst false 3 [(.int .i64 1), (.int .i64 2), (.int .i64 0)]), (.lst false 3 [(.int .i64 2), (.int .i64 0), (.int .i64 1)])])
theorem k71 : FnP Tryd.prog 42 ka71 kr71 := runE_ok (doms := nthL domL) (fzr := noFz) (n := 6000) tab_ok mixed kn71_ok (by kernel_rfl)
def kn72 : Known := ⟨(42, ka71, kr71) :: kn71.p, kn71.i⟩
theorem kn72_ok : KnOk Tryd.prog kn72 := KnOk.cons k71 kn71_ok
def ka72 : List D := [(.sl false 0 0 1 1), (.v (.int .u64 1)), (.v (.int .u64 1)), (.ptr 1 0), (.ptr 2 0), (.ptr 3 0), (.ptr 4 0)]
def ko72 : Obs := [(0, (.p [(.int .i64 0)])), (1, (.p [(.int .i64 3)])), (2, (.r [(.fn 75 [(.ptr 5 0)])])), (3, (.r [(.ptr 6 0)])), (4, (.r [(.fn 94 [(.ptr 1 0), (.ptr 2 0), (.ptr 3 0), (.ptr 4 0)])])), (5, (.p [.nl])), (6, (.p [(.int .i64 3), (.int .i64 0), (.int .i64 1), (.int .i64 2), (.int .i64 (-1)), (.int .i64 (-1)), (.int .i64 1), (.int .i64 2), (.int .i64 0), (.int .i64 (-1)), (.int .i64 (-1)), (.int .i64 2), (.int .i64 0), (.int .i64 1), (.int .i64 (-1)), (.int .i64 (-1)), (.int .i64 (-1)), (.int .i64 (-1)), (.int .i64 (-1)), (.int .i64 (-1)), (.int .i64 (-1)), (.int .i64 (-1)), (.int .i64 (-1)), (.int .i64 (-1)), (.int .i64 (-1)), (.int .i64 (-1)), (.int .u64 7), (.int .u64 7), (.int .u64 7), (.int .u64 0), (.int .u64 0), (.int .u64 7), (.int .u64 7), (.int .u64 7), (.int .u64 0), (.int .u64 0)]))]
def kr72 : D := (.v (.bool false))
def kq72 : Obs := [(0, (.p [(.int .i64 0)])), (1, (.p [(.int .i64 3)])), (2, (.r [(.fn 75 [(.ptr 5 0)])])), (3, (.r [(.ptr 6 0)])), (4, (.r [(.fn 94 [(.ptr 1 0), (.ptr 2 0), (.ptr 3 0), (.ptr 4 0)])])), (5, (.r [(.sl false 7 0 3 1)])), (6, (.p [(.int .i64 3), (.int .i64 0), (.int .i64 1), (.int .i64 2), (.int .i64 (-1)), (.int .i64 (-1)), (.int .i64 1), (.int .i64 2), (.int .i64 0), (.int .i64 (-1)), (.int .i64 (-1)), (.int .i64 2), (.int .i64 0), (.int .i64 1), (.int .i64 (-1)), (.int .i64 (-1)), (.int .i64 (-1)), (.int .i64 (-1)), (.int .i64 (-1)), (.int .i64 (-1)), (.int .i64 (-1)), (.int .i64 (-1)), (.int .i64 (-1)), (.int .i64 (-1)), (.int .i64 (-1)), (.int .i64 (-1)), (.int .u64 7), (.int .u64 7), (.int .u64 7), (.int .u64 0), (.int .u64 0), (.int .u64 7), (.int .u64 7), (.int .u64 7), (.int .u64 0), (.int .u64 0)])), (7, (.p [(.int .i64 0), (.int .i64 1), (.int .i64 2)]))]
theorem k72 : Go.V.Fn Tryd.prog 94 7 ka72 ko72 (fun d ob' => d = kr72 ∧ ob' = kq72) := runI_ok (doms := nthL domL) (fzr := noFz) (n := 6000) tab_ok mixed kn72_ok (by kernel_rfl)
def kn73 : Known := ⟨kn72.p, ⟨94, 7, ka72, ko72, kr72, kq72⟩ :: kn72.i⟩
theorem kn73_ok : KnOk Tryd.prog kn73 := KnOk.consI k72 kn72_ok
def ka73 : List PV := [(.int .i64 3), (.lst false 3 [(.lst false 3 [(.int .i64 0), (.int .i64 1), (.int .i64 2)]), (.lst false 3 [(.int .i64 1), (.int .i64 2), (.int .i64 0)]), (.lst false 3 [(.int .i64 2), (.int .i64 0), (.int .i64 1)])])]
def kr73 : PV := (.tup [(.lst false 3 [(.int .i64 0), (.int .i64 1), (.int .i64 2)]), (.int .i64 0)])
theorem k73 : FnP Tryd.prog 33 ka73 kr73 := runE_ok (doms := nthL domL) (fzr := noFz) (n := 6000) tab_ok mixed kn73_ok (by kernel_rfl)
def kn74 : Known := ⟨(33, ka73, kr73) :: kn73.p, kn73.i⟩
theorem kn74_ok : KnOk Tryd.prog kn74 := KnOk.cons k73 kn73_ok
def ka74 : List D := [(.sl false 0 0 1 1), (.v (.int .u64 1)), (.v (.int .u64 1)), (.ptr 1 0), (.ptr 2 0), (.ptr 3 0), (.ptr 4 0)]
def ko74 : Obs := [(0, (.p [(.int .i64 0)])), (1, (.p [(.int .i64 3)])), (2, (.r [(.fn 78 [(.ptr 5 0)])])), (3, (.r [(.ptr 6 0)])), (4, (.r [(.fn 94 [(.ptr 1 0), (.ptr 2 0), (.ptr 3 0), (.ptr 4 0)])])), (5, (.p [(.int .i64 0)])), (6, (.p [(.int .i64 3), (.int .i64 0), (.int .i64 1), (.int .i64 2), (.int .i64 (-1)), (.int .i64 (-1)), (.int .i64 1), (.int .i64 2), (.int .i64 0), (.int .i64 (-1)), (.int .i64 (-1)), (.int .i64 2), (.int .i64 0), (.int .i64 1), (.int .i64 (-1)), (.int .i64 (-1)), (.int .i64 (-1)), (.int .i64 (-1)), (.int .i64 (-1)), (.int .i64 (-1)), (.int .i64 (-1)), (.int .i64 (-1)), (.int .i64 (-1)), (.int .i64 (-1)), (.int .i64 (-1)), (.int .i64 (-1)), (.int .u64 7), (.int .u64 7), (.int .u64 7), (.int .u64 0), (.int .u64 0), (.int .u64 7), (.int .u64 7), (.int .u64 7), (.int .u64 0), (.int .u64 0)]))]
def kr74 : D := (.v (.bool true))
def kq74 : Obs := [(0, (.p [(.int .i64 0)])), (1, (.p [(.int .i64 3)])), (2, (.r [(.fn 78 [(.ptr 5 0)])])), (3, (.r [(.ptr 6 0)])), (4, (.r [(.fn 94 [(.ptr 1 0), (.ptr 2 0), (.ptr 3 0), (.ptr 4 0)])])), (5, (.p [(.int .i64 1)])), (6, (.p [(.int .i64 3), (.int .i64 0), (.int .i64 1), (.int .i64 2), (.int .i64 (-1)), (.int .i64 (-1)), (.int .i64 1), (.int .i64 2), (.int .i64 0), (.int .i64 (-1)), (.int .i64 (-1)), (.int .i64 2), (.int .i64 0), (.int .i64 1), (.int .i64 (-1)), (.int .i64 (-1)), (.int .i64 (-1)), (.int .i64 (-1)), (.int .i64 (-1)), (.int .i64 (-1)), (.int .i64 (-1)), (.int .i64 (-1)), (.int .i64 (-1)), (.int .i64 (-1)), (.int .i64 (-1)), (.int .i64 (-1)), (.int .u64 7), (.int .u64 7), (.int .u64 7), (.int .u64 0), (.int .u64 0), (.int .u64 7), (.int .u64 7), (.int .u64 7), (.int .u64 0), (.int .u64 0)]))]
theorem k74 : Go.V.Fn Tryd.prog 94 7 ka74 ko74 (fun d ob' => d = kr74 ∧ ob' = kq74) := runI_ok (doms := nthL domL) (fzr := noFz) (n := 6000) tab_ok mixed kn74_ok (by kernel_rfl)
def kn75 : Known := ⟨kn74.p, ⟨94, 7, ka74, ko74, kr74, kq74⟩ :: kn74.i⟩
theorem kn75_ok : KnOk Tryd.prog kn75 := KnOk.consI k74 kn74_ok
def ka75 : List D := [(.sl false 0 0 1 1), (.v (.int .u64 2)), (.v (.int .u64 2)), (.ptr 1 0), (.ptr 2 0), (.ptr 3 0), (.ptr 4 0)]
def ko75 : Obs := [(0, (.p [(.int .i64 1)])), (1, (.p [(.int .i64 3)])), (2, (.r [(.fn 78 [(.ptr 5 0)])])), (3, (.r [(.ptr 6 0)])), (4, (.r [(.fn 94 [(.ptr 1 0), (.ptr 2 0), (.ptr 3 0), (.ptr 4 0)])])), (5, (.p [(.int .i64 1)])), (6, (.p [(.int .i64 3), (.int .i64 0), (.int .i64 1), (.int .i64 2), (.int .i64 (-1)), (.int .i64 (-1)), (.int .i64 1), (.int .i64 2), (.int .i64 0), (.int .i64 (-1)), (.int .i64 (-1)), (.int .i64 2), (.int .i64 0), (.int .i64 1), (.int .i64 (-1)), (.int .i64 (-1)), (.int .i64 (-1)), (.int .i64 (-1)), (.int .i64 (-1)), (.int .i64 (-1)), (.int .i64 (-1)), (.int .i64 (-1)), (.int .i64 (-1)), (.int .i64 (-1)), (.int .i64 (-1)), (.int .i64 (-1)), (.int .u64 7), (.int .u64 7), (.int .u64 7), (.int .u64 0), (.int .u64 0), (.int .u64 7), (.int .u64 7), (.int .u64 7), (.int .u64 0), (.int .u64 0)]))]
def kr75 : D := (.v (.bool true))
def kq75 : Obs := [(0, (.p [(.int .i64 1)])), (1, (.p [(.int .i64 3)])), (2, (.r [(.fn 78 [(.ptr 5 0)])])), (3, (.r [(.ptr 6 0)])), (4, (.r [(.fn 94 [(.ptr 1 0), (.ptr 2 0), (.ptr 3 0), (.ptr 4 0)])])), (5, (.p [(.int .i64 2)])), (6, (.p [(.int .i64 3), (.int .i64 0), (.int .i64 1), (.int .i64 2), (.int .i64 (-1)), (.int .i64 (-1)), (.int .i64 1), (.int .i64 2), (.int .i64 0), (.int .i64 (-1)), (.int .i64 (-1)), (.int .i64 2), (.int .i64 0), (.int .i64 1), (.int .i64 (-1)), (.int .i64 (-1)), (.int .i64 (-1)), (.int .i64 (-1)), (.int .i64 (-1)), (.int .i64 (-1)), (.int .i64 (-1)), (.int .i64 (-1)), (.int .i64 (-1)), (.int .i64 (-1)), (.int .i64 (-1)), (.int .i64 (-1)), (.int .u64 7), (.int .u64 7), (.int .u64 7), (.int .u64 0), (.int .u64 0), (.int .u64 7), (.int .u64 7), (.int .u64 7), (.int .u64 0), (.int .u64 0)]))]
theorem k75 : Go.V.Fn Tryd.prog 94 7 ka75 ko75 (fun d ob' => d = kr75 ∧ ob' = kq75) := runI_ok (doms := nthL domL) (fzr := noFz) (n := 6000) tab_ok mixed kn75_ok (by kernel_rfl)
def kn76 : Known := ⟨kn75.p, ⟨94, 7, ka75, ko75, kr75, kq75⟩ :: kn75.i⟩
theorem kn76_ok : KnOk Tryd.prog kn76 := KnOk.consI k75 kn75_ok
def ka76 : List D := [(.sl false 0 0 1 1), (.v (.int .u64 4)), (.v (.int .u64 4)), (.ptr 1 0), (.ptr 2 0), (.ptr 3 0), (.ptr 4 0)]
def ko76 : Obs := [(0, (.p [(.int .i64 2)])), (1, (.p [(.int .i64 3)])), (2, (.r [(.fn 78 [(.ptr 5 0)])])), (3, (.r [(.ptr 6 0)])), (4, (.r [(.fn 94 [(.ptr 1 0), (.ptr 2 0), (.ptr 3 0), (.ptr 4 0)])])), (5, (.p [(.int .i64 2)])), (6, (.p [(.int .i64 3), (.int .i64 0), (.int .i64 1), (.int .i64 2), (.int .i64 (-1)), (.int .i64 (-1)), (.int .i64 1), (.int .i64 2), (.int .i64 0), (.int .i64 (-1)), (.int .i64 (-1)), (.int .i64 2), (.int .i64 0), (.int .i64 1), (.int .i64 (-1)), (.int .i64 (-1)), (.int .i64 (-1)), (.int .i64 (-1)), (.int .i64 (-1)), (.int .i64 (-1)), (.int .i64 (-1)), (.int .i64 (-1)), (.int .i64 (-1)), (.int .i64 (-1)), (.int .i64 (-1)), (.int .i64 (-1)), (.int .u64 7), (.int .u64 7), (.int .u64 7), (.int .u64 0), (.int .u64 0), (.int .u64 7), (.int .u64 7), (.int .u64 7), (.int .u64 0), (.int .u64 0)]))]
def kr76 : D := (.v (.bool true))
def kq76 : Obs := [(0, (.p [(.int .i64 2)])), (1, (.p [(.int .i64 3)])), (2, (.r [(.fn 78 [(.ptr 5 0)])])), (3, (.r [(.ptr 6 0)])), (4, (.r [(.fn 94 [(.ptr 1 0), (.ptr 2 0), (.ptr 3 0), (.ptr 4 0)])])), (5, (.p [(.int .i64 3)])), (6, (.p [(.int .i64 3), (.int .i64 0), (.int .i64 1), (.int .i64 2), (.int .i64 (-1)), (.int .i64 (-1)), (.int .i64 1), (.int .i64 2), (.int .i64 0), (.int .i64 (-1)), (.int .i64 (-1)), (.int .i64 2), (.int .i64 0), (.int .i64 1), (.int .i64 (-1)), (.int .i64 (-1)), (.int .i64 (-1)), (.int .i64 (-1)), (.int .i64 (-1)), (.int .i64 (-1)), (.int .i64 (-1)), (.int .i64 (-1)), (.int .i64 (-1)), (.int .i64 (-1)), (.int .i64 (-1)), (.int .i64 (-1)), (.int .u64 7), (.int .u64 7), (.int .u64 7), (.int .u64 0), (.int .u64 0), (.int .u64 7), (.int .u64 7), (.int .u64 7), (.int .u64 0), (.int .u64 0)]))]
theorem k76 : Go.V.Fn Tryd.prog 94 7 ka76 ko76 (fun d ob' => d = kr76 ∧ ob' = kq76) := runI_ok (doms := nthL domL) (fzr := noFz) (n := 6000) tab_ok mixed kn76_ok (by kernel_rfl)
def kn77 : Known := ⟨kn76.p, ⟨94, 7, ka76, ko76, kr76, kq76⟩ :: kn76.i⟩
theorem kn77_ok : KnOk Tryd.prog kn77 := KnOk.consI k76 kn76_ok
def ka77 : List PV := [(.int .i64 3), (.lst false 3 [(.lst false 3 [(.int .i64 0), (.int .i64 1), (.int .i64 2)]), (.lst false 3 [(.int .i64 1), (.int .i64 2), (.int .i64 0)]), (.lst false 3 [(.int .i64 2), (.int .i64 0), (.int .i64 1)])])]
def kr77 : PV := (.tup [(.int .i64 3), (.int .i64 0)])
theorem k77 : FnP Tryd.prog 35 ka77 kr77 := runE_ok (doms := nthL domL) (fzr := noFz) (n := 6000) tab_ok mixed kn77_ok (by kernel_rfl)
def kn78 : Known := ⟨(35, ka77, kr77) :: kn77.p, kn77.i⟩
theorem kn78_ok : KnOk Tryd.prog kn78 := KnOk.cons k77 kn77_ok
def ka78 : List D := [(.sl false 0 0 1 1), (.v (.int .u64 1)), (.v (.int .u64 1)), (.ptr 1 0), (.ptr 2 0), (.ptr 3 0), (.ptr 4 0)]
def ko78 : Obs := [(0, (.p [(.int .i64 0)])), (1, (.p [(.int .i64 4)])), (2, (.r [(.fn 75 [(.ptr 5 0)])])), (3, (.r [(.ptr 6 0)])), (4, (.r [(.fn 94 [(.ptr 1 0), (.ptr 2 0), (.ptr 3 0), (.ptr 4 0)])])), (5, (.p [.nl])), (6, (.p [(.int .i64 4), (.int .i64 0), (.int .i64 1), (.int .i64 2), (.int .i64 3), (.int .i64 (-1)), (.int .i64 1), (.int .i64 2), (.int .i64 3), (.int .i64 0), (.int .i64 (-1)), (.int .i64 2), (.int .i64 3), (.int .i64 0), (.int .i64 1), (.int .i64 (-1)), (.int .i64 3), (.int .i64 0), (.int .i64 1), (.int .i64 2), (.int .i64 (-1)), (.int .i64 (-1)), (.int .i64 (-1)), (.int .i64 (-1)), (.int .i64 (-1)), (.int .i64 (-1)), (.int .u64 15), (.int .u64 15), (.int .u64 15), (.int .u64 15), (.int .u64 0), (.int .u64 15), (.int .u64 15), (.int .u64 15), (.int .u64 15), (.int .u64 0)]))]
def kr78 : D := (.v (.bool true))
def kq78 : Obs := [(0, (.p [(.int .i64 0)])), (1, (.p [(.int .i64 4)])), (2, (.r [(.fn 75 [(.ptr 5 0)])])), (3, (.r [(.ptr 6 0)])), (4, (.r [(.fn 94 [(.ptr 1 0), (.ptr 2 0), (.ptr 3 0), (.ptr 4 0)])])), (5, (.p [.nl])), (6, (.p [(.int .i64 4), (.int .i64 0), (.int .i64 1), (.int .i64 2), (.int .i64 3), (.int .i64 (-1)), (.int .i64 1), (.int .i64 2), (.int .i64 3), (.int .i64 0), (.int .i64 (-1)), (.int .i64 2), (.int .i64 3), (.int .i64 0), (.int .i64 1), (.int .i64 (-1)), (.int .i64 3), (.int .i64 0), (.int .i64 1), (.int .i64 2), (.int .i64 (-1)), (.int .i64 (-1)), (.int .i64 (-1)), (.int .i64 (-1)), (.int .i64 (-1)), (.int .i64 (-1)), (.int .u64 15), (.int .u64 15), (.int .u64 15), (.int .u64 15), (.int .u64 0), (.int .u64 15), (.int .u64 15), (.int .u64 15), (.int .u64 15), (.int .u64 0)]))]
theorem k78 : Go.V.Fn Tryd.prog 94 7 ka78 ko78 (fun d ob' => d = kr78 ∧ ob' = kq78) := runI_ok (doms := nthL domL) (fzr := noFz) (n := 6000) tab_ok mixed kn78_ok (by kernel_rfl)
def kn79 : Known := ⟨kn78.p, ⟨94, 7, ka78, ko78, kr78, kq78⟩ :: kn78.i⟩
theorem kn79_ok : KnOk Tryd.prog kn79 := KnOk.consI k78 kn78_ok
def ka79 : List D := [(.sl false 0 0 1 1), (.v (.int .u64 2)), (.v (.int .u64 2)), (.ptr 1 0), (.ptr 2 0), (.ptr 3 0), (.ptr 4 0)]
def ko79 : Obs := [(0, (.p [(.int .i64 1)])), (1, (.p [(.int .i64 4)])), (2, (.r [(.fn 75 [(.ptr 5 0)])])), (3, (.r [(.ptr 6 0)])), (4, (.r [(.fn 94 [(.ptr 1 0), (.ptr 2 0), (.ptr 3 0), (.ptr 4 0)])])), (5, (.p [.nl])), (6, (.p [(.int .i64 4), (.int .i64 0), (.int .i64 1), (.int .i64 2), (.int .i64 3), (.int .i64 (-1)), (.int .i64 1), (.int .i64 2), (.int .i64 3), (.int .i64 0), (.int .i64 (-1)), (.int .i64 2), (.int .i64 3), (.int .i64 0), (.int .i64 1), (.int .i64 (-1)), (.int .i64 3), (.int .i64 0), (.int .i64 1), (.int .i64 2), (.int .i64 (-1)), (.int .i64 (-1)), (.int .i64 (-1)), (.int .i64 (-1)), (.int .i64 (-1)), (.int .i64 (-1)), (.int .u64 15), (.int .u64 15), (.int .u64 15), (.int .u64 15), (.int .u64 0), (.int .u64 15), (.int .u64 15), (.int .u64 15), (.int .u64 15), (.int .u64 0)]))]
def kr79 : D := (.v (.bool true))
def kq79 : Obs := [(0, (.p [(.int .i64 1)])), (1, (.p [(.int .i64 4)])), (2, (.r [(.fn 75 [(.ptr 5 0)])])), (3, (.r [(.ptr 6 0)])), (4, (.r [(.fn 94 [(.ptr 1 0), (.ptr 2 0), (.ptr 3 0), (.ptr 4 0)])])), (5, (.p [.nl])), (6, (.p [(.int .i64 4), (.int .i64 0), (.int .i64 1), (.int .i64 2), (.int .i64 3), (.int .i64 (-1)), (.int .i64 1), (.int .i64 2), (.int .i64 3), (.int .i64 0), (.int .i64 (-1)), (.int .i64 2), (.int .i64 3), (.int .i64 0), (.int .i64 1), (.int .i64 (-1)), (.int .i64 3), (.int .i64 0), (.int .i64 1), (.int .i64 2), (.int .i64 (-1)), (.int .i64 (-1)), (.int .i64 (-1)), (.int .i64 (-1)), (.int .i64 (-1)), (.int .i64 (-1)), (.int .u64 15), (.int .u64 15), (.int .u64 15), (.int .u64 15), (.int .u64 0), (.int .u64 15), (.int .u64 15), (.int .u64 15), (.int .u64 15), (.int .u64 0)]))]
theorem k79 : Go.V.Fn Tryd.prog 94 7 ka79 ko79 (fun d ob' => d = kr79 ∧ ob' = kq79) := runI_ok (doms := nthL domL) (fzr := noFz) (n := 6000) tab_ok mixed kn79_ok (by kernel_rfl)
def kn80 : Known := ⟨kn79.p, ⟨94, 7, ka79, ko79, kr79, kq79⟩ :: kn79.i⟩
theorem kn80_ok : KnOk Tryd.prog kn80 := KnOk.consI k79 kn79_ok
def ka80 : List D := [(.sl false 0 0 1 1), (.v (.int .u64 4)), (.v (.int .u64 4)), (.ptr 1 0), (.ptr 2 0), (.ptr 3 0), (.ptr 4 0)]
def ko80 : Obs := [(0, (.p [(.int .i64 2)])), (1, (.p [(.int .i64 4)])), (2, (.r [(.fn 75 [(.ptr 5 0)])])), (3, (.r [(.ptr 6 0)])), (4, (.r [(.fn 94 [(.ptr 1 0), (.ptr 2 0), (.ptr 3 0), (.ptr 4 0)])])), (5, (.p [.nl])), (6, (.p [(.int .i64 4), (.int .i64 0), (.int .i64 1), (.int .i64 2), (.int .i64 3), (.int .i64 (-1)), (.int .i64 1), (.int .i64 2), (.int .i64 3), (.int .i64 0), (.int .i64 (-1)), (.int .i64 2), (.int .i64 3), (.int .i64 0), (.int .i64 1), (.int .i64 (-1)), (.int .i64 3), (.int .i64 0), (.int .i64 1), (.int .i64 2), (.int .i64 (-1)), (.int .i64 (-1)), (.int .i64 (-1)), (.int .i64 (-1)), (.int .i64 (-1)), (.int .i64 (-1)), (.int .u64 15), (.int .u64 15), (.int .u64 15), (.int .u64 15), (.int .u64 0), (.int .u64 15), (.int .u64 15), (.int .u64 15), (.int .u64 15), (.int .u64 0)]))]
def kr80 : D := (.v (.bool true))
def kq80 : Obs := [(0, (.p [(.int .i64 2)])), (1, (.p [(.int .i64 4)])), (2, (.r [(.fn 75 [(.ptr 5 0)])])), (3, (.r [(.ptr 6 0)])), (4, (.r [(.fn 94 [(.ptr 1 0), (.ptr 2 0), (.ptr 3 0), (.ptr 4 0)])])), (5, (.p [.nl])), (6, (.p [(.int .i64 4), (.int .i64 0), (.int .i64 1), (.int .i64 2), (.int .i64 3), (.int .i64 (-1)), (.int .i64 1), (.int .i64 2), (.int .i64 3), (.int .i64 0), (.int .i64 (-1)), (.int .i64 2), (.int .i64 3), (.int .i64 0), (.int .i64 1), (.int .i64 (-1)), (.int .i64 3), (.int .i64 0), (.int .i64 1), (.int .i64 2), (.int .i64 (-1)), (.int .i64 (-1)), (.int .i64 (-1)), (.int .i64 (-1)), (.int .i64 (-1)), (.int .i64 (-1)), (.int .u64 15), (.int .u64 15), (.int .u64 15), (.int .u64 15), (.int .u64 0), (.int .u64 15), (.int .u64 15), (.int .u64 15), (.int .u64 15), (.int .u64 0)]))]
theorem k80 : Go.V.Fn Tryd.prog 94 7 ka80 ko80 (fun d ob' => d = kr80 ∧ ob' = kq80) := runI_ok (doms := nthL domL) (fzr := noFz) (n := 6000) tab_ok mixed kn80_ok (by kernel_rfl)
def kn81 : Known := ⟨kn80.p, ⟨94, 7, ka80, ko80, kr80, kq80⟩ :: kn80.i⟩
theorem kn81_ok : KnOk Tryd.prog kn81 := KnOk.consI k80 kn80_ok
def ka81 : List D := [(.sl false 0 0 1 1), (.v (.int .u64 8)), (.v (.int .u64 8)), (.ptr 1 0), (.ptr 2 0), (.ptr 3 0), (.ptr 4 0)]
def ko81 : Obs := [(0, (.p [(.int .i64 3)])), (1, (.p [(.int .i64 4)])), (2, (.r [(.fn 75 [(.ptr 5 0)])])), (3, (.r [(.ptr 6 0)])), (4, (.r [(.fn 94 [(.ptr 1 0), (.ptr 2 0), (.ptr 3 0), (.ptr 4 0)])])), (5, (.p [.nl])), (6, (.p [(.int .i64 4), (.int .i64 0), (.int .i64 1), (.int .i64 2), (.int .i64 3), (.int .i64 (-1)), (.int .i64 1), (.int .i64 2), (.int .i64 3), (.int .i64 0), (.int .i64 (-1)), (.int .i64 2), (.int .i64 3), (.int .i64 0), (.int .i64 1), (.int .i64 (-1)), (.int .i64 3), (.int .i64 0), (.int .i64 1), (.int .i64 2), (.int .i64 (-1)), (.int .i64 (-1)), (.int .i64 (-1)), (.int .i64 (-1)), (.int .i64 (-1)), (.int .i64 (-1)), (.int .u64 15), (.int .u64 15), (.int .u64 15), (.int .u64 15), (.int .u64 0), (.int .u64 15), (.int .u64 15), (.int .u64 15), (.int .u64 15), (.int .u64 0)]))]
def kr81 : D := (.v (.bool true))
def kq81 : Obs := [(0, (.p [(.int .i64 3)])), (1, (.p [(.int .i64 4)])), (2, (.r [(.fn 75 [(.ptr 5 0)])])), (3, (.r [(.ptr 6 0)])), (4, (.r [(.fn 94 [(.ptr 1 0), (.ptr 2 0), (.ptr 3 0), (.ptr 4 0)])])), (5, (.p [.nl])), (6, (.p [(.int .i64 4), (.int .i64 0), (.int .i64 1), (.int .i64 2), (.int .i64 3), (.int .i64 (-1)), (.int .i64 1), (.int .i64 2), (.int .i64 3), (.int .i64 0), (.int .i64 (-1)), (.int .i64 2), (.int .i64 3), (.int .i64 0), (.int .i64 1), (.int .i64 (-1)), (.int .i64 3), (.int .i64 0), (.int .i64 1), (.int .i64 2), (.int .i64 (-1)), (.int .i64 (-1)), (.int .i64 (-1)), (.int .i64 (-1)), (.int .i64 (-1)), (.int .i64 (-1)), (.int .u64 15), (.int .u64 15), (.int .u64 15), (.int .u64 15), (.int .u64 0), (.int .u64 15), (.int .u64 15), (.int .u64 15), (.int .u64 15), (.int .u64 0)]))]
theorem k81 : Go.V.Fn Tryd.prog 94 7 ka81 ko81 (fun d ob' => d = kr81 ∧ ob' = kq81) := runI_ok (doms := nthL domL) (fzr := noFz) (n := 6000) tab_ok mixed kn81_ok (by kernel_rfl)
def kn82 : Known := ⟨kn81.p, ⟨94, 7, ka81, ko81, kr81, kq81⟩ :: kn81.i⟩
theorem kn82_ok : KnOk Tryd.prog kn82 := KnOk.consI k81 kn81_ok
def ka82 : List PV := [(.int .i64 4), (.lst false 4 [(.lst false 4 [(.int .i64 0), (.int .i64 1), (.int .i64 2), (.int .i64 3)]), (.lst false 4 [(.int .i64 1), (.int .i64 2), (.int .i64 3), (.int .i64 0)]), (.lst false 4 [(.int .i64 2), (.int .i64 3), (.int .i64 0), (.int .i64 1)]), (.lst false 4 [(.int .i64 3), (.int .i64 0), (.int .i64 1), (.int .i64 2)])])]
def kr82 : PV := (.tup [.nl, (.int .i64 12)])
theorem k82 : FnP Tryd.prog 33 ka82 kr82 := runE_ok (doms := nthL domL) (fzr := noFz) (n := 6000) tab_ok mixed kn82_ok (by kernel_rfl)
def kn83 : Known := ⟨(33, ka82, kr82) :: kn82.p, kn82.i⟩
theorem kn83_ok : KnOk Tryd.prog kn83 := KnOk.cons k82 kn82_ok
def ka83 : List PV := [(.int .i64 3), (.lst true 2 [(.lst true 2 [(.int .i64 0), (.int .i64 1)]), (.lst true 2 [(.int .i64 1), (.int .i64 0)])])]
def kr83 : PV := (.tup [.nl, (.int .i64 12)])
theorem k83 : FnP Tryd.prog 47 ka83 kr83 := runE_ok (doms := nthL domL) (fzr := noFz) (n := 6000) tab_ok mixed kn83_ok (by kernel_rfl)
def kn84 : Known := ⟨(47, ka83, kr83) :: kn83.p, kn83.i⟩
theorem kn84_ok : KnOk Tryd.prog kn84 := KnOk.cons k83 kn83_ok
def ka84 : List PV := [(.int .i64 3), (.lst true 2 [(.lst true 2 [(.int .i64 0), (.int .i64 1)]), (.lst true 2 [(.int .i64 1), (.int .i64 2)])])]
def kr84 : PV := (.tup [(.int .i64 0), (.int .i64 13)])
theorem k84 : FnP Tryd.prog 45 ka84 kr84 := runE_ok (doms := nthL domL) (fzr := noFz) (n := 6000) tab_ok mixed kn84_ok (by kernel_rfl)
def kn85 : Known := ⟨(45, ka84, kr84) :: kn84.p, kn84.i⟩
theorem kn85_ok : KnOk Tryd.prog kn85 := KnOk.cons k84 kn84_ok
def ka85 : List PV := [(.int .i64 3), (.lst true 1 [(.lst true 3 [(.int .i64 0), (.int .i64 1), (.int .i64 2)])])]
def kr85 : PV := (.tup [.nl, (.int .i64 21)])
theorem k85 : FnP Tryd.prog 33 ka85 kr85 := runE_ok (doms := nthL domL) (fzr := noFz) (n := 6000) tab_ok mixed kn85_ok (by kernel_rfl)
def kn86 : Known := ⟨(33, ka85, kr85) :: kn85.p, kn85.i⟩
theorem kn86_ok : KnOk Tryd.prog kn86 := KnOk.cons k85 kn85_ok
def ka86 : List PV := [(.lst false 3 [(.int .i64 0), (.int .i64 1), (.int .i64 2)]), (.lst false 3 [(.int .i64 0), (.int .i64 1), (.int .i64 2)])]
def kr86 : PV := (.bool true)
theorem k86 : FnP Tryd.prog 22 ka86 kr86 := runE_ok (doms := nthL domL) (fzr := noFz) (n := 6000) tab_ok mixed kn86_ok (by kernel_rfl)
def kn87 : Known := ⟨(22, ka86, kr86) :: kn86.p, kn86.i⟩
theorem kn87_ok : KnOk Tryd.prog kn87 := KnOk.cons k86 kn86_ok
def ka87 : List PV := [(.lst false 3 [(.int .i64 1), (.int .i64 2), (.int .i64 0)]), (.lst false 3 [(.int .i64 1), (.int .i64 2), (.int .i64 0)])]
def kr87 : PV := (.bool true)
theorem k87 : FnP Tryd.prog 22 ka87 kr87 := runE_ok (doms := nthL domL) (fzr := noFz) (n := 6000) tab_ok mixed kn87_ok (by kernel_rfl)
def kn88 : Known := ⟨(22, ka87, kr87) :: kn87.p, kn87.i⟩
theorem kn88_ok : KnOk Tryd.prog kn88 := KnOk.cons k87 kn87_ok
def ka88 : List PV := [(.lst false 3 [(.int .i64 2), (.int .i64 0), (.int .i64 1)]), (.lst false 3 [(.int .i64 2), (.int .i64 0), (.int .i64 1)])]
def kr88 : PV := (.bool true)
theorem k88 : FnP Tryd.prog 22 ka88 kr88 := runE_ok (doms := nthL domL) (fzr := noFz) (n := 6000) tab_ok mixed kn88_ok (by kernel_rfl)
def kn89 : Known := ⟨(22, ka88, kr88) :: kn88.p, kn88.i⟩
theorem kn89_ok : KnOk Tryd.prog kn89 := KnOk.cons k88 kn88_ok
def ka89 : List PV := [(.lst false 3 [(.lst false 3 [(.int .i64 0), (.int .i64 1), (.int .i64 2)]), (.lst false 3 [(.int .i64 1), (.int .i64 2), (.int .i64 0)]), (.lst false 3 [(.int .i64 2), (.int .i64 0), (.int .i64 1)])]), (.lst false 3 [(.lst false 3 [(.int .i64 0), (.int .i64 1), (.int .i64 2)]), (.lst false 3 [(.int .i64 1), (.int .i64 2), (.int .i64 0)]), (.lst false 3 [(.int .i64 2), (.int .i64 0), (.int .i64 1)])])]
def kr89 : PV := (.bool true)
theorem k89 : FnP Tryd.prog 21 ka89 kr89 := runE_ok (doms := nthL domL) (fzr := noFz) (n := 6000) tab_ok mixed kn89_ok (by kernel_rfl)
def kn90 : Known := ⟨(21, ka89, kr89) :: kn89.p, kn89.i⟩
theorem kn90_ok : KnOk Tryd.prog kn90 := KnOk.cons k89 kn89_ok
def ka90 : List PV := [(.int .i64 3), (.lst true 2 [(.lst true 2 [(.int .i64 0), (.int .i64 1)]), (.lst true 2 [(.int .i64 1), (.int .i64 0)])]), (.int .i64 2)]
def kr90 : PV := (.int .i64 0)
theorem k90 : FnP Tryd.prog 51 ka90 kr90 := runE_ok (doms := nthL domL) (fzr := noFz) (n := 6000) tab_ok mixed kn90_ok (by kernel_rfl)
def kn91 : Known := ⟨(51, ka90, kr90) :: kn90.p, kn90.i⟩
theorem kn91_ok : KnOk Tryd.prog kn91 := KnOk.cons k90 kn90_ok
def ka91 : List PV := [(.int .i64 3), (.lst true 2 [(.lst true 2 [(.int .i64 0), (.int .i64 1)]), (.lst true 2 [(.int .i64 1), (.int .i64 0)])]), (.int .i64 0)]
def kr91 : PV := (.int .i64 14)
theorem k91 : FnP Tryd.prog 51 ka91 kr91 := runE_ok (doms := nthL domL) (fzr := noFz) (n := 6000) tab_ok mixed kn91_ok (by kernel_rfl)
def kn92 : Known := ⟨(51, ka91, kr91) :: kn91.p, kn91.i⟩
theorem kn92_ok : KnOk Tryd.prog kn92 := KnOk.cons k91 kn91_ok
def ka92 : List PV := []
def kr92 : PV := (.bool true)
theorem k92 : FnP Tryd.prog 16 ka92 kr92 := runE_ok (doms := nthL domL) (fzr := noFz) (n := 6000) tab_ok mixed kn92_ok (by kernel_rfl)
end Go.Proofs.YtcaecfofgdogbaaDoor
namespace Go.Proofs.YtcaecfofgdogbaaDoor
open Go.V
set_option maxRecDepth 100000
set_option maxHeartbeats 4000000
set_option linter.unusedSimpArgs false
set_option linter.unusedVariables false
attribute [local go_sem] tl1 tl2 tl3 tl4 tl5 tl9 tl17 tl21 tl22 tl23 tl24 tl25 tl27 tl28 tl30 tl31 tl32 tl33 tl35 tl36 tl37 tl38 tl39 tl40 tl42 tl43 tl44 tl45 tl46 tl47 tl48 tl49 tl50 tl51 tl52 tl53 tl54 tl55 tl56 tl57 tl58 tl59 tl61 tl62 tl63 tl64 tl65 tl66 tl67 tl68 tl69 tl70 tl71 tl72 tl73 tl74 tl75 tl76 tl77 tl78 tl79 tl80 tl81 tl82 tl83 tl84 tl85 tl87 tl89 tl90 tl91 tl92 tl93 tl94 tl96 tl97 tl98 tl99 tl100 tl101 tl102 tl103 tl104 tl105 tl106 tl107 tl108 tl109 tl115 tl119 ne_eq not_false_eq_true Int.le_refl Nat.le_refl Int.cast_ofNat_Int
def gv1 : List PV := (glk Gv 1).getD []
@[local go_sem] theorem ev_gv1 (get : Nat → D) : evG get (.global 1) = .v (.ipt gv1) := rfl
def m71_L1 (N : Nat) (x111 : Int) : Nat → Int → List PV → Option (List PV)
 | 0, _, _ => none
 | n + 1, x121, c122 =>
  brn (decide (x121 < 5)) (
   grd (0 ≤ x111 ∧ x111 < 5) <|
   grd (0 ≤ x121 ∧ x121 < 5) <|
   grd ((((1 + ((Int.toNat x111) * 5)) + (Int.toNat x121)) + 1) ≤ List.length c122) <|
   m71_L1 N x111 n (IntKind.i64.wrap (x121 + 1)) (List.set c122 ((1 + ((Int.toNat x111) * 5)) + (Int.toNat x121)) (.int .i64 (-1)))) (
   some c122)
def m71_L0 (N : Nat)  : Nat → Int → List PV → Option (List PV)
 | 0, _, _ => none
 | n + 1, x111, c112 =>
  brn (decide (x111 < 5)) (
   bnd' (m71_L1 N x111 N 0 c112) fun c129 =>
   m71_L0 N  n (IntKind.i64.wrap (x111 + 1)) c129) (
   some c112)
def m71 (N : Nat) (x92 : Int) : Option (List PV) :=
 bnd' (m71_L0 N  N 0 [(.int .i64 x92), (.int .i64 0), (.int .i64 0), (.int .i64 0), (.int .i64 0), (.int .i64 0), (.int .i64 0), (.int .i64 0), (.int .i64 0), (.int .i64 0), (.int .i64 0), (.int .i64 0), (.int .i64 0), (.int .i64 0), (.int .i64 0), (.int .i64 0), (.int .i64 0), (.int .i64 0), (.int .i64 0), (.int .i64 0), (.int .i64 0), (.int .i64 0), (.int .i64 0), (.int .i64 0), (.int .i64 0), (.int .i64 0), (.int .u64 0), (.int .u64 0), (.int .u64 0), (.int .u64 0), (.int .u64 0), (.int .u64 0), (.int .u64 0), (.int .u64 0), (.int .u64 0), (.int .u64 0)]) fun c130 =>
 some c130
theorem c71 (N : Nat) (x92 : Int) (r : List PV)  (h : m71 N x92 = some r) : V.Fn Tryd.prog 71 0 [.v (.int .i64 x92)] [] (fun d ob' => match (generalizing := false) r with | c131 => d = .ptr 0 0 ∧ ob' = [(0, .p c131)]) := by
 unfold m71 at h
 refine Fn_of (sz := 25) tab_ok [0, 2, 3, 4, 5, 9, 10, 12, 13] [.tmp 2] Tryd.func71 rfl rfl rfl (by simp) ?_
 simp only [initSt, initEnv, List.getD_cons_zero, List.getD_cons_succ, List.getD_nil]
 refine W_sound tab_ok mixed 16 _ _ _ ?_
 simp -implicitDefEqProofs only [go_sem, Nat.reduceBEq, Nat.reduceAdd, Nat.reduceLT, Nat.reduceLeDiff]
 repeat with_reducible refine And.intro (by first | kernel_rfl | decide) ?_
 replace h := bnd'_some h; obtain ⟨o132, h133, h134⟩ := h
 refine Wp_cut (fun s => ∃ c130, c130 = o132 ∧ s = ⟨[], [(0, .dead), (2, .dead), (3, .ptr 0 0), (4, .dead), (5, .dead), (9, .dead), (10, .dead), (12, .dead), (13, .dead)], [(0, .p c130)], 1, []⟩) ?_ ?_
 ·refine Wp_block ?_
  refine Wp_loopG (fun n s => ∃ x111, ∃ c112, m71_L0 N  n x111 c112 = some o132 ∧ s = ⟨[], [(0, .dead), (2, .dead), (3, .ptr 0 0), (4, .dead), (5, .dead), (9, .v (.int .i64 x111)), (10, .dead), (12, .dead), (13, .dead)], [(0, .p c112)], 1, []⟩) N _ ?_ ⟨_, _, h133, rfl⟩ ?_
  ·exact Wk_keep [3, 9] (by kernel_rfl)
  clear h133
  rintro n _ ⟨x111, c112, h133, rfl⟩
  cases n with
  | zero => cases h133
  | succ n =>
   rw [m71_L0] at h133
   replace h133 := brn_some h133; rcases h133 with ⟨h113, h133⟩ | ⟨h113, h133⟩
   ·refine W_sound tab_ok mixed 18 _ _ _ ?_
    simp -implicitDefEqProofs only [go_sem, Nat.reduceBEq, Nat.reduceLT, Int.reduceLE, Int.reduceToNat, ↓reduceIte, h113]
    repeat with_reducible refine And.intro (by first | kernel_rfl | decide) ?_
    replace h133 := bnd'_some h133; obtain ⟨o135, h136, h137⟩ := h133
    refine Wp_cut (fun s => ∃ c129, c129 = o135 ∧ s = ⟨[], [(0, .dead), (2, .dead), (3, .ptr 0 0), (4, .dead), (5, .dead), (9, .v (.int .i64 x111)), (10, .dead), (12, .dead), (13, .dead)], [(0, .p c129)], 1, []⟩) ?_ ?_
    ·refine Wp_block ?_
     refine Wp_loopG (fun n s => ∃ x121, ∃ c122, m71_L1 N x111 n x121 c122 = some o135 ∧ s = ⟨[], [(0, .dead), (2, .dead), (3, .ptr 0 0), (4, .v (.int .i64 x111)), (5, .dead), (9, .v (.int .i64 x111)), (10, .dead), (12, .v (.int .i64 x121)), (13, .dead)], [(0, .p c122)], 1, []⟩) N _ ?_ ⟨_, _, h136, rfl⟩ ?_
     ·exact Wk_keep [3, 4, 9, 12] (by kernel_rfl)
     clear h136
     rintro n _ ⟨x121, c122, h136, rfl⟩
     cases n with
     | zero => cases h136
     | succ n =>
      rw [m71_L1] at h136
      replace h136 := brn_some h136; rcases h136 with ⟨h123, h136⟩ | ⟨h123, h136⟩
      ·replace h136 := grd_some h136; obtain ⟨⟨g124, g125⟩, h136⟩ := h136
       replace h136 := grd_some h136; obtain ⟨⟨g126, g127⟩, h136⟩ := h136
       replace h136 := grd_some h136; obtain ⟨g128, h136⟩ := h136
       refine W_sound tab_ok mixed 29 _ _ _ ?_
       simp -implicitDefEqProofs only [go_sem, Nat.reduceBEq, Nat.reduceLT, Int.reduceLE, Int.reduceToNat, ↓reduceIte, g124, g125, g126, g127, g128]
       repeat with_reducible refine And.intro (by first | kernel_rfl | decide) ?_
       refine cutQ _ ?_ ⟨n, Nat.lt_succ_self n, _, _, h136, rfl⟩
       exact Wk_keep [3, 4, 9, 12] (by kernel_rfl)
      ·refine W_sound tab_ok mixed 7 _ _ _ ?_
       simp -implicitDefEqProofs only [go_sem, Nat.reduceBEq, Nat.reduceLT, Int.reduceLE, Int.reduceToNat, ↓reduceIte, h123]
       repeat with_reducible refine And.intro (by first | kernel_rfl | decide) ?_
       obtain rfl := Option.some.inj h136
       refine cutQ _ ?_ ⟨_, rfl, rfl⟩
       exact Wk_keep [3, 9] (by kernel_rfl)
    ·rintro _ ⟨c129, rfl, rfl⟩
     refine W_sound tab_ok mixed 5 _ _ _ ?_
     simp -implicitDefEqProofs only [go_sem, Nat.reduceBEq, Nat.reduceLT, Int.reduceLE, Int.reduceToNat, ↓reduceIte]
     repeat with_reducible refine And.intro (by first | kernel_rfl | decide) ?_
     refine cutQ _ ?_ ⟨n, Nat.lt_succ_self n, _, _, h137, rfl⟩
     exact Wk_keep [3, 9] (by kernel_rfl)
   ·refine W_sound tab_ok mixed 7 _ _ _ ?_
    simp -implicitDefEqProofs only [go_sem, Nat.reduceBEq, Nat.reduceLT, Int.reduceLE, Int.reduceToNat, ↓reduceIte, h113]
    repeat with_reducible refine And.intro (by first | kernel_rfl | decide) ?_
    obtain rfl := Option.some.inj h133
    refine cutQ _ ?_ ⟨_, rfl, rfl⟩
    exact Wk_keep [3] (by kernel_rfl)
 ·rintro _ ⟨c130, rfl, rfl⟩
  refine W_sound tab_ok mixed 7 _ _ _ ?_
  simp -implicitDefEqProofs only [go_sem, Nat.reduceBEq, Nat.reduceLT]
  repeat with_reducible refine And.intro (by first | kernel_rfl | decide) ?_
  obtain rfl := Option.some.inj h134
  exact finD (st' := ⟨[], [(0, .dead), (2, .ptr 0 0), (3, .dead), (4, .dead), (5, .dead), (9, .dead), (10, .dead), (12, .dead), (13, .dead)], [(0, .p c130)], 1, []⟩) (keepE_le [2] _) (OLe.refl _) (by kernel_rfl) (by simp only [go_sem, Nat.reduceBEq, resQ_tmp, resQ_nil, retD_one] <;> first | rfl | exact ⟨rfl, rfl⟩ | (try simp [R.val, retD_one, retD_two, retD_three, retD_none]))
theorem c71_a (N : Nat) (x92 : Int) (c131 : List PV) (h : m71 N x92 = some c131) : V.Fn Tryd.prog 71 0 [.v (.int .i64 x92)] [] (fun d ob' => d = .ptr 0 0 ∧ ob' = [(0, .p c131)]) := c71 N x92 _ h
def m72 (N : Nat) (x195 : Int) (x196 : Int) (x197 : Int) (c198 : List PV) : Option ((PV × List PV)) :=
 grd (0 ≤ x195 ∧ x195 < 5) <|
 grd (0 ≤ x196 ∧ x196 < 5) <|
 grd ((((1 + ((Int.toNat x195) * 5)) + (Int.toNat x196)) + 1) ≤ List.length c198) <|
 grd ((26 + (Int.toNat x195)) < List.length c198) <|
 getI .u64 (gp (List.set c198 ((1 + ((Int.toNat x195) * 5)) + (Int.toNat x196)) (.int .i64 x197)) (26 + (Int.toNat x195))) fun x207 =>
 grd (0 ≤ x197) <|
 grd (((26 + (Int.toNat x195)) + 1) ≤ List.length c198) <|
 grd ((31 + (Int.toNat x196)) < List.length c198) <|
 getI .u64 (gp (List.set (List.set c198 ((1 + ((Int.toNat x195) * 5)) + (Int.toNat x196)) (.int .i64 x197)) (26 + (Int.toNat x195)) (.int .u64 (bitsI .or .u64 x207 (IntKind.u64.wrap (1 * 2 ^ (min (Int.toNat x197) 64)))))) (31 + (Int.toNat x196))) fun x212 =>
 grd (((31 + (Int.toNat x196)) + 1) ≤ List.length c198) <|
 some ((.tup []), (List.set (List.set (List.set c198 ((1 + ((Int.toNat x195) * 5)) + (Int.toNat x196)) (.int .i64 x197)) (26 + (Int.toNat x195)) (.int .u64 (bitsI .or .u64 x207 (IntKind.u64.wrap (1 * 2 ^ (min (Int.toNat x197) 64)))))) (31 + (Int.toNat x196)) (.int .u64 (bitsI .or .u64 x212 (IntKind.u64.wrap (1 * 2 ^ (min (Int.toNat x197) 64)))))))
theorem c72 (N : Nat) (x195 : Int) (x196 : Int) (x197 : Int) (c198 : List PV) (r : PV) (c215 : List PV) (h : m72 N x195 x196 x197 c198 = some (r, c215)) : V.Fn Tryd.prog 72 1 [.ptr 0 0, .v (.int .i64 x195), .v (.int .i64 x196), .v (.int .i64 x197)] [(0, .p c198)] (fun d ob' => d = .v r ∧ ob' = [(0, .p c215)]) := by
 unfold m72 at h
 refine Fn_of (sz := 40) tab_ok [0, 1, 2, 3] [] Tryd.func72 rfl rfl rfl (by simp) ?_
 simp only [initSt, initEnv, List.getD_cons_zero, List.getD_cons_succ]
 replace h := grd_some h; obtain ⟨⟨g200, g201⟩, h⟩ := h
 replace h := grd_some h; obtain ⟨⟨g202, g203⟩, h⟩ := h
 replace h := grd_some h; obtain ⟨g204, h⟩ := h
 replace h := grd_some h; obtain ⟨g205, h⟩ := h
 replace h := getI_some h; obtain ⟨x207, h206, h⟩ := h
 replace h := grd_some h; obtain ⟨g208, h⟩ := h
 replace h := grd_some h; obtain ⟨g209, h⟩ := h
 replace h := grd_some h; obtain ⟨g210, h⟩ := h
 replace h := getI_some h; obtain ⟨x212, h211, h⟩ := h
 replace h := grd_some h; obtain ⟨g213, h⟩ := h
 refine W_sound tab_ok mixed 44 _ _ _ ?_
 simp -implicitDefEqProofs only [go_sem, Nat.reduceBEq, Nat.reduceLT, ↓reduceIte, g200, g201, g202, g203, g204, g205, h206, g208, g209, g210, h211, g213]
 repeat with_reducible refine And.intro (by first | kernel_rfl | decide) ?_
 simp only [Option.some.injEq, Prod.mk.injEq] at h; obtain ⟨rfl, rfl⟩ := h
 exact finD (st' := ⟨[], [(0, .dead), (1, .dead), (2, .dead), (3, .dead)], [(0, .p (List.set (List.set (List.set c198 ((1 + ((Int.toNat x195) * 5)) + (Int.toNat x196)) (.int .i64 x197)) (26 + (Int.toNat x195)) (.int .u64 (bitsI .or .u64 x207 (IntKind.u64.wrap (1 * 2 ^ (min (Int.toNat x197) 64)))))) (31 + (Int.toNat x196)) (.int .u64 (bitsI .or .u64 x212 (IntKind.u64.wrap (1 * 2 ^ (min (Int.toNat x197) 64)))))))], 1, []⟩) (keepE_le [] _) (OLe.refl _) (by kernel_rfl) (by simp only [go_sem, resQ_nil, retD_none]; try simp [R.val, retD_one, retD_two, retD_three, retD_none])
def m61_L1 (N : Nat) (x80 : Int) (x82 : Int) (n84 : Nat) (c85 : List PV) (x251 : Int) (n258 : Nat) (c259 : List PV) : Nat → Int → List PV → Option (((Int ⊕ (Int × List PV)) ⊕ List PV))
 | 0, _, _ => none
 | n + 1, x292, c293 =>
  brn (decide (x292 < ((n258 : Nat) : Int))) (
   grd (0 ≤ x292 ∧ x292 < ((n258 : Nat) : Int)) <|
   grd (0 < List.length (List.drop (Int.toNat x292) c259)) <|
   getI .i64 (gp c259 (Int.toNat x292)) fun x299 =>
   brn (decide (x299 < 0)) (
    some (.inl (.inl 2))) (
    brn (decide (x299 ≥ x80)) (
     some (.inl (.inl 2))) (
     grd (x251 < 5) <|
     grd ((26 + (Int.toNat x251)) < List.length c293) <|
     getI .u64 (gp c293 (26 + (Int.toNat x251))) fun x307 =>
     grd (0 ≤ x299) <|
     brn ((bitsI .and .u64 (Int.fdiv x307 (2 ^ (min (Int.toNat x299) 64))) 1) == 1) (
      some (.inl (.inl 6))) (
      grd (x292 < 5) <|
      grd ((31 + (Int.toNat x292)) < List.length c293) <|
      getI .u64 (gp c293 (31 + (Int.toNat x292))) fun x314 =>
      brn ((bitsI .and .u64 (Int.fdiv x314 (2 ^ (min (Int.toNat x299) 64))) 1) == 1) (
       some (.inl (.inl 13))) (
       bnd' (m72 N x251 x292 x299 c293) fun (p317, c319) =>
       getT0 p317 <|
       m61_L1 N x80 x82 n84 c85 x251 n258 c259 n (IntKind.i64.wrap (x292 + 1)) c319))))) (
   some (.inr c293))
def m61_L0 (N : Nat) (x80 : Int) (x82 : Int) (n84 : Nat) (c85 : List PV) : Nat → Int → List PV → Option (((Int ⊕ (Int × List PV)) ⊕ List PV))
 | 0, _, _ => none
 | n + 1, x251, c252 =>
  brn (decide (x251 < ((n84 : Nat) : Int))) (
   grd (0 ≤ x251 ∧ x251 < ((n84 : Nat) : Int)) <|
   grd (0 < List.length (List.drop (Int.toNat x251) c85)) <|
   getL (gp c85 (Int.toNat x251)) fun n258 c259 =>
   brn (((n258 : Nat) : Int) != x82) (
    some (.inl (.inl 5))) (
    brn (decide (x82 > x80)) (
     some (.inl (.inl 5))) (
     bnd' (m61_L1 N x80 x82 n84 c85 x251 n258 c259 N 0 c252) fun o =>
     match o with
     | .inl p321 =>
      some (.inl p321)
     | .inr c322 =>
      m61_L0 N x80 x82 n84 c85 n (IntKind.i64.wrap (x251 + 1)) c322))) (
   some (.inr c252))
def m61 (N : Nat) (x80 : Int) (p81 : PV) (x82 : Int) : Option ((Int ⊕ (Int × List PV))) :=
 getL p81 fun n84 c85 =>
 brn (decide (x80 < 1)) (
  some (.inl 1)) (
  brn (decide (x80 > 5)) (
   some (.inl 1)) (
   brn (decide (((n84 : Nat) : Int) > x80)) (
    some (.inl 3)) (
    bnd' (m71 N x80) fun o =>
    match o with
    | c139 =>
     bnd' (m61_L0 N x80 x82 n84 c85 N 0 c139) fun o =>
     match o with
     | .inl p323 =>
      some p323
     | .inr c324 =>
      some (.inr (0, c324)))))
theorem c61 (N : Nat) (x80 : Int) (p81 : PV) (x82 : Int) (r : (Int ⊕ (Int × List PV)))  (h : m61 N x80 p81 x82 = some r) : V.Fn Tryd.prog 61 0 [.v (.int .i64 x80), .v p81, .v (.int .i64 x82)] [] (fun d ob' => match (generalizing := false) r with | .inl x87 => d = .v (.tup [(.fn 999999 [.bool true]), (.int .i64 x87)]) ∧ ob' = [] | .inr (x325, c326) => d = .tup [.ptr 0 0, .v (.int .i64 x325)] ∧ ob' = [(0, .p c326)]) := by
 unfold m61 at h
 refine Fn_of (sz := 88) tab_ok [0, 1, 2, 6, 7, 8, 9, 10, 11, 12, 13, 20, 27, 28, 29, 30, 42, 43, 44, 45, 46, 50, 58, 69] [.tmp 6, .tmp 7] Tryd.func61 rfl rfl rfl (by simp) ?_
 simp only [initSt, initEnv, List.getD_cons_zero, List.getD_cons_succ, List.getD_nil]
 replace h := getL_some h; obtain ⟨n84, c85, h83, h⟩ := h
 replace h := brn_some h; rcases h with ⟨h86, h⟩ | ⟨h86, h⟩
 ·refine W_sound tab_ok mixed 25 _ _ _ ?_
  simp -implicitDefEqProofs only [go_sem, Nat.reduceBEq, Nat.reduceLT, Int.reduceLE, Int.reduceToNat, ↓reduceIte, h83, h86]
  repeat with_reducible refine And.intro (by first | kernel_rfl | decide) ?_
  obtain rfl := Option.some.inj h
  exact finD (st' := ⟨[], [(0, .dead), (1, .dead), (2, .dead), (6, .v (.fn 999999 [.bool true])), (7, .v (.int .i64 1)), (8, .dead), (9, .dead), (10, .dead), (11, .dead), (12, .dead), (13, .dead), (20, .dead), (27, .dead), (28, .dead), (29, .dead), (30, .dead), (42, .dead), (43, .dead), (44, .dead), (45, .dead), (46, .dead), (50, .dead), (58, .dead), (69, .dead)], [], 0, []⟩) (keepE_le [6, 7] _) (OLe.refl _) (by kernel_rfl) (by simp only [go_sem, Nat.reduceBEq, resQ_tmp, resQ_nil, retD_two] <;> first | rfl | exact ⟨rfl, rfl⟩ | (try simp [R.val, retD_one, retD_two, retD_three, retD_none]))
 ·replace h := brn_some h; rcases h with ⟨h88, h⟩ | ⟨h88, h⟩
  ·refine W_sound tab_ok mixed 25 _ _ _ ?_
   simp -implicitDefEqProofs only [go_sem, Nat.reduceBEq, Nat.reduceLT, Int.reduceLE, Int.reduceToNat, ↓reduceIte, h83, h86, h88]
   repeat with_reducible refine And.intro (by first | kernel_rfl | decide) ?_
   obtain rfl := Option.some.inj h
   exact finD (st' := ⟨[], [(0, .dead), (1, .dead), (2, .dead), (6, .v (.fn 999999 [.bool true])), (7, .v (.int .i64 1)), (8, .dead), (9, .dead), (10, .dead), (11, .dead), (12, .dead), (13, .dead), (20, .dead), (27, .dead), (28, .dead), (29, .dead), (30, .dead), (42, .dead), (43, .dead), (44, .dead), (45, .dead), (46, .dead), (50, .dead), (58, .dead), (69, .dead)], [], 0, []⟩) (keepE_le [6, 7] _) (OLe.refl _) (by kernel_rfl) (by simp only [go_sem, Nat.reduceBEq, resQ_tmp, resQ_nil, retD_two] <;> first | rfl | exact ⟨rfl, rfl⟩ | (try simp [R.val, retD_one, retD_two, retD_three, retD_none]))
  ·replace h := brn_some h; rcases h with ⟨h90, h⟩ | ⟨h90, h⟩
   ·refine W_sound tab_ok mixed 34 _ _ _ ?_
    simp -implicitDefEqProofs only [go_sem, Nat.reduceBEq, Nat.reduceLT, Int.reduceLE, Int.reduceToNat, ↓reduceIte, h83, h86, h88, h90]
    repeat with_reducible refine And.intro (by first | kernel_rfl | decide) ?_
    obtain rfl := Option.some.inj h
    exact finD (st' := ⟨[], [(0, .dead), (1, .dead), (2, .dead), (6, .v (.fn 999999 [.bool true])), (7, .v (.int .i64 3)), (8, .dead), (9, .dead), (10, .dead), (11, .dead), (12, .dead), (13, .dead), (20, .dead), (27, .dead), (28, .dead), (29, .dead), (30, .dead), (42, .dead), (43, .dead), (44, .dead), (45, .dead), (46, .dead), (50, .dead), (58, .dead), (69, .dead)], [], 0, []⟩) (keepE_le [6, 7] _) (OLe.refl _) (by kernel_rfl) (by simp only [go_sem, Nat.reduceBEq, resQ_tmp, resQ_nil, retD_two] <;> first | rfl | exact ⟨rfl, rfl⟩ | (try simp [R.val, retD_one, retD_two, retD_three, retD_none]))
   ·replace h := bnd'_some h; obtain ⟨c139, h138, h⟩ := h
    (try dsimp only at h)
    refine W_sound tab_ok mixed 32 _ _ _ ?_
    simp -implicitDefEqProofs only [go_sem, Nat.reduceBEq, Nat.reduceLT, Int.reduceLE, Int.reduceToNat, ↓reduceIte, h83, h86, h88, h90]
    repeat with_reducible refine And.intro (by first | kernel_rfl | decide) ?_
    refine Wp_callD [] (c71_a N _ _ h138) rfl rfl rfl (by first | rfl | (simp only [go_sem, Nat.reduceBEq, Nat.reduceAdd, Nat.reduceSub, Nat.reduceMul, Nat.reduceLT, Nat.reduceLeDiff, Int.reduceLE, Int.reduceLT, Int.reduceToNat, Int.reduceBEq, Int.reduceBNe, ↓reduceIte, h83, h86, h88, h90] <;> rfl)) rfl (by kernel_rfl) ?_
    refine W_sound tab_ok mixed 9 _ _ _ ?_
    simp -implicitDefEqProofs only [go_sem, Nat.reduceBEq, Nat.reduceAdd, Nat.reduceSub, Nat.reduceMul, Nat.reduceLT, Nat.reduceLeDiff]
    repeat with_reducible refine And.intro (by first | kernel_rfl | decide) ?_
    replace h := bnd'_some h; obtain ⟨o327, h328, h329⟩ := h
    refine Wp_cut (fun s => ∃ c324, (.inr c324) = o327 ∧ s = ⟨[], [(0, .dead), (1, .dead), (2, .dead), (6, .dead), (7, .dead), (8, .ptr 0 0), (9, .dead), (10, .dead), (11, .dead), (12, .dead), (13, .dead), (20, .dead), (27, .dead), (28, .dead), (29, .dead), (30, .dead), (42, .dead), (43, .dead), (44, .dead), (45, .dead), (46, .dead), (50, .dead), (58, .dead), (69, .dead)], [(0, .p c324)], 1, []⟩) ?_ ?_
    ·refine Wp_block ?_
     refine Wp_loopG (fun n s => ∃ x251, ∃ c252, m61_L0 N x80 x82 n84 c85 n x251 c252 = some o327 ∧ s = ⟨[], [(0, .v (.int .i64 x80)), (1, .dead), (2, .v (.int .i64 x82)), (6, .dead), (7, .dead), (8, .ptr 0 0), (9, .dead), (10, .dead), (11, .dead), (12, .dead), (13, .dead), (20, .dead), (27, .v (.lst false n84 c85)), (28, .v (.int .i64 ((n84 : Nat) : Int))), (29, .v (.int .i64 x251)), (30, .dead), (42, .dead), (43, .dead), (44, .dead), (45, .dead), (46, .dead), (50, .dead), (58, .dead), (69, .dead)], [(0, .p c252)], 1, []⟩) N _ ?_ ⟨_, _, h328, rfl⟩ ?_
     ·exact Wk_keep [0, 2, 8, 27, 28, 29] (by kernel_rfl)
     clear h328
     rintro n _ ⟨x251, c252, h328, rfl⟩
     cases n with
     | zero => cases h328
     | succ n =>
      rw [m61_L0] at h328
      replace h328 := brn_some h328; rcases h328 with ⟨h253, h328⟩ | ⟨h253, h328⟩
      ·replace h328 := grd_some h328; obtain ⟨⟨g254, g255⟩, h328⟩ := h328
       replace h328 := grd_some h328; obtain ⟨g256, h328⟩ := h328
       replace h328 := getL_some h328; obtain ⟨n258, c259, h257, h328⟩ := h328
       replace h328 := brn_some h328; rcases h328 with ⟨h260, h328⟩ | ⟨h260, h328⟩
       ·refine W_sound tab_ok mixed 38 _ _ _ ?_
        simp -implicitDefEqProofs only [go_sem, Nat.reduceBEq, Nat.reduceLT, ↓reduceIte, g254, g255, g256, h257, h260]
        repeat with_reducible refine And.intro (by first | kernel_rfl | decide) ?_
        obtain rfl := Option.some.inj h328
        (try dsimp only at h329)
        obtain rfl := Option.some.inj h329
        exact finD (st' := ⟨[], [(0, .dead), (1, .dead), (2, .dead), (6, .v (.fn 999999 [.bool true])), (7, .v (.int .i64 5)), (8, .dead), (9, .dead), (10, .dead), (11, .dead), (12, .dead), (13, .dead), (20, .dead), (27, .dead), (28, .dead), (29, .dead), (30, .dead), (42, .dead), (43, .dead), (44, .dead), (45, .dead), (46, .dead), (50, .dead), (58, .dead), (69, .dead)], [], 0, []⟩) (keepE_le [6, 7] _) (OLe.refl _) (by kernel_rfl) (by simp only [go_sem, Nat.reduceBEq, resQ_tmp, resQ_nil, retD_two] <;> first | rfl | exact ⟨rfl, rfl⟩ | (try simp [R.val, retD_one, retD_two, retD_three, retD_none]))
       ·replace h328 := brn_some h328; rcases h328 with ⟨h262, h328⟩ | ⟨h262, h328⟩
        ·refine W_sound tab_ok mixed 38 _ _ _ ?_
         simp -implicitDefEqProofs only [go_sem, Nat.reduceBEq, Nat.reduceLT, ↓reduceIte, g254, g255, g256, h257, h260, h262]
         repeat with_reducible refine And.intro (by first | kernel_rfl | decide) ?_
         obtain rfl := Option.some.inj h328
         (try dsimp only at h329)
         obtain rfl := Option.some.inj h329
         exact finD (st' := ⟨[], [(0, .dead), (1, .dead), (2, .dead), (6, .v (.fn 999999 [.bool true])), (7, .v (.int .i64 5)), (8, .dead), (9, .dead), (10, .dead), (11, .dead), (12, .dead), (13, .dead), (20, .dead), (27, .dead), (28, .dead), (29, .dead), (30, .dead), (42, .dead), (43, .dead), (44, .dead), (45, .dead), (46, .dead), (50, .dead), (58, .dead), (69, .dead)], [], 0, []⟩) (keepE_le [6, 7] _) (OLe.refl _) (by kernel_rfl) (by simp only [go_sem, Nat.reduceBEq, resQ_tmp, resQ_nil, retD_two] <;> first | rfl | exact ⟨rfl, rfl⟩ | (try simp [R.val, retD_one, retD_two, retD_three, retD_none]))
        ·refine W_sound tab_ok mixed 38 _ _ _ ?_
         simp -implicitDefEqProofs only [go_sem, Nat.reduceBEq, Nat.reduceLT, ↓reduceIte, g254, g255, g256, h257, h260, h262]
         repeat with_reducible refine And.intro (by first | kernel_rfl | decide) ?_
         replace h328 := bnd'_some h328; obtain ⟨o330, h331, h332⟩ := h328
         refine Wp_cut (fun s => ∃ c322, (.inr c322) = o330 ∧ s = ⟨[], [(0, .v (.int .i64 x80)), (1, .dead), (2, .v (.int .i64 x82)), (6, .dead), (7, .dead), (8, .ptr 0 0), (9, .dead), (10, .dead), (11, .dead), (12, .dead), (13, .dead), (20, .dead), (27, .v (.lst false n84 c85)), (28, .v (.int .i64 ((n84 : Nat) : Int))), (29, .v (.int .i64 x251)), (30, .dead), (42, .dead), (43, .dead), (44, .dead), (45, .dead), (46, .dead), (50, .dead), (58, .dead), (69, .dead)], [(0, .p c322)], 1, []⟩) ?_ ?_
         ·refine Wp_block ?_
          refine Wp_loopG (fun n s => ∃ x292, ∃ c293, m61_L1 N x80 x82 n84 c85 x251 n258 c259 n x292 c293 = some o330 ∧ s = ⟨[], [(0, .v (.int .i64 x80)), (1, .dead), (2, .v (.int .i64 x82)), (6, .dead), (7, .dead), (8, .ptr 0 0), (9, .v (.int .i64 x251)), (10, .dead), (11, .dead), (12, .dead), (13, .dead), (20, .dead), (27, .v (.lst false n84 c85)), (28, .v (.int .i64 ((n84 : Nat) : Int))), (29, .v (.int .i64 x251)), (30, .dead), (42, .dead), (43, .v (.lst false n258 c259)), (44, .v (.int .i64 ((n258 : Nat) : Int))), (45, .v (.int .i64 x292)), (46, .dead), (50, .dead), (58, .dead), (69, .dead)], [(0, .p c293)], 1, []⟩) N _ ?_ ⟨_, _, h331, rfl⟩ ?_
          ·exact Wk_keep [0, 2, 8, 9, 27, 28, 29, 43, 44, 45] (by kernel_rfl)
          clear h331
          rintro n _ ⟨x292, c293, h331, rfl⟩
          cases n with
          | zero => cases h331
          | succ n =>
           rw [m61_L1] at h331
           replace h331 := brn_some h331; rcases h331 with ⟨h294, h331⟩ | ⟨h294, h331⟩
           ·replace h331 := grd_some h331; obtain ⟨⟨g295, g296⟩, h331⟩ := h331
            replace h331 := grd_some h331; obtain ⟨g297, h331⟩ := h331
            replace h331 := getI_some h331; obtain ⟨x299, h298, h331⟩ := h331
            replace h331 := brn_some h331; rcases h331 with ⟨h300, h331⟩ | ⟨h300, h331⟩
            ·refine W_sound tab_ok mixed 38 _ _ _ ?_
             simp -implicitDefEqProofs only [go_sem, Nat.reduceBEq, Nat.reduceLT, ↓reduceIte, g295, g296, g297, h298, h300]
             repeat with_reducible refine And.intro (by first | kernel_rfl | decide) ?_
             obtain rfl := Option.some.inj h331
             (try dsimp only at h332)
             obtain rfl := Option.some.inj h332
             (try dsimp only at h329)
             obtain rfl := Option.some.inj h329
             exact finD (st' := ⟨[], [(0, .dead), (1, .dead), (2, .dead), (6, .v (.fn 999999 [.bool true])), (7, .v (.int .i64 2)), (8, .dead), (9, .dead), (10, .dead), (11, .dead), (12, .dead), (13, .dead), (20, .dead), (27, .dead), (28, .dead), (29, .dead), (30, .dead), (42, .dead), (43, .dead), (44, .dead), (45, .dead), (46, .dead), (50, .dead), (58, .dead), (69, .dead)], [], 0, []⟩) (keepE_le [6, 7] _) (OLe.refl _) (by kernel_rfl) (by simp only [go_sem, Nat.reduceBEq, resQ_tmp, resQ_nil, retD_two] <;> first | rfl | exact ⟨rfl, rfl⟩ | (try simp [R.val, retD_one, retD_two, retD_three, retD_none]))
            ·replace h331 := brn_some h331; rcases h331 with ⟨h302, h331⟩ | ⟨h302, h331⟩
             ·refine W_sound tab_ok mixed 38 _ _ _ ?_
              simp -implicitDefEqProofs only [go_sem, Nat.reduceBEq, Nat.reduceLT, ↓reduceIte, g295, g296, g297, h298, h300, h302]
              repeat with_reducible refine And.intro (by first | kernel_rfl | decide) ?_
              obtain rfl := Option.some.inj h331
              (try dsimp only at h332)
              obtain rfl := Option.some.inj h332
              (try dsimp only at h329)
              obtain rfl := Option.some.inj h329
              exact finD (st' := ⟨[], [(0, .dead), (1, .dead), (2, .dead), (6, .v (.fn 999999 [.bool true])), (7, .v (.int .i64 2)), (8, .dead), (9, .dead), (10, .dead), (11, .dead), (12, .dead), (13, .dead), (20, .dead), (27, .dead), (28, .dead), (29, .dead), (30, .dead), (42, .dead), (43, .dead), (44, .dead), (45, .dead), (46, .dead), (50, .dead), (58, .dead), (69, .dead)], [], 0, []⟩) (keepE_le [6, 7] _) (OLe.refl _) (by kernel_rfl) (by simp only [go_sem, Nat.reduceBEq, resQ_tmp, resQ_nil, retD_two] <;> first | rfl | exact ⟨rfl, rfl⟩ | (try simp [R.val, retD_one, retD_two, retD_three, retD_none]))
             ·replace h331 := grd_some h331; obtain ⟨g304, h331⟩ := h331
              replace h331 := grd_some h331; obtain ⟨g305, h331⟩ := h331
              replace h331 := getI_some h331; obtain ⟨x307, h306, h331⟩ := h331
              replace h331 := grd_some h331; obtain ⟨g308, h331⟩ := h331
              replace h331 := brn_some h331; rcases h331 with ⟨h309, h331⟩ | ⟨h309, h331⟩
              ·refine W_sound tab_ok mixed 53 _ _ _ ?_
               simp -implicitDefEqProofs only [go_sem, Nat.reduceBEq, Nat.reduceLT, Int.reduceLE, Int.reduceToNat, ↓reduceIte, g254, g295, g296, g297, h298, h300, h302, g304, g305, h306, g308, h309]
               repeat with_reducible refine And.intro (by first | kernel_rfl | decide) ?_
               obtain rfl := Option.some.inj h331
               (try dsimp only at h332)
               obtain rfl := Option.some.inj h332
               (try dsimp only at h329)
               obtain rfl := Option.some.inj h329
               exact finD (st' := ⟨[], [(0, .dead), (1, .dead), (2, .dead), (6, .v (.fn 999999 [.bool true])), (7, .v (.int .i64 6)), (8, .dead), (9, .dead), (10, .dead), (11, .dead), (12, .dead), (13, .dead), (20, .dead), (27, .dead), (28, .dead), (29, .dead), (30, .dead), (42, .dead), (43, .dead), (44, .dead), (45, .dead), (46, .dead), (50, .dead), (58, .dead), (69, .dead)], [], 0, []⟩) (keepE_le [6, 7] _) (OLe.refl _) (by kernel_rfl) (by simp only [go_sem, Nat.reduceBEq, resQ_tmp, resQ_nil, retD_two] <;> first | rfl | exact ⟨rfl, rfl⟩ | (try simp [R.val, retD_one, retD_two, retD_three, retD_none]))
              ·replace h331 := grd_some h331; obtain ⟨g311, h331⟩ := h331
               replace h331 := grd_some h331; obtain ⟨g312, h331⟩ := h331
               replace h331 := getI_some h331; obtain ⟨x314, h313, h331⟩ := h331
               replace h331 := brn_some h331; rcases h331 with ⟨h315, h331⟩ | ⟨h315, h331⟩
               ·refine W_sound tab_ok mixed 68 _ _ _ ?_
                simp -implicitDefEqProofs only [go_sem, Nat.reduceBEq, Nat.reduceLT, Int.reduceLE, Int.reduceToNat, ↓reduceIte, g254, g295, g296, g297, h298, h300, h302, g304, g305, h306, g308, h309, g311, g312, h313, h315]
                repeat with_reducible refine And.intro (by first | kernel_rfl | decide) ?_
                obtain rfl := Option.some.inj h331
                (try dsimp only at h332)
                obtain rfl := Option.some.inj h332
                (try dsimp only at h329)
                obtain rfl := Option.some.inj h329
                exact finD (st' := ⟨[], [(0, .dead), (1, .dead), (2, .dead), (6, .v (.fn 999999 [.bool true])), (7, .v (.int .i64 13)), (8, .dead), (9, .dead), (10, .dead), (11, .dead), (12, .dead), (13, .dead), (20, .dead), (27, .dead), (28, .dead), (29, .dead), (30, .dead), (42, .dead), (43, .dead), (44, .dead), (45, .dead), (46, .dead), (50, .dead), (58, .dead), (69, .dead)], [], 0, []⟩) (keepE_le [6, 7] _) (OLe.refl _) (by kernel_rfl) (by simp only [go_sem, Nat.reduceBEq, resQ_tmp, resQ_nil, retD_two] <;> first | rfl | exact ⟨rfl, rfl⟩ | (try simp [R.val, retD_one, retD_two, retD_three, retD_none]))
               ·replace h331 := bnd'_some h331; obtain ⟨⟨p317, c319⟩, h318, h331⟩ := h331
                (try dsimp only at h331)
                refine W_sound tab_ok mixed 68 _ _ _ ?_
                simp -implicitDefEqProofs only [go_sem, Nat.reduceBEq, Nat.reduceLT, Int.reduceLE, Int.reduceToNat, ↓reduceIte, g254, g295, g296, g297, h298, h300, h302, g304, g305, h306, g308, h309, g311, g312, h313, h315]
                repeat with_reducible refine And.intro (by first | kernel_rfl | decide) ?_
                refine Wp_callD [0] (c72 N _ _ _ _ _ _ h318) rfl rfl rfl (by first | rfl | (simp only [go_sem, Nat.reduceBEq, Nat.reduceAdd, Nat.reduceSub, Nat.reduceMul, Nat.reduceLT, Nat.reduceLeDiff, Int.reduceLE, Int.reduceLT, Int.reduceToNat, Int.reduceBEq, Int.reduceBNe, ↓reduceIte, h83, h86, h88, h90, h253, g254, g255, g256, h257, h260, h262, h294, g295, g296, g297, h298, h300, h302, g304, g305, h306, g308, h309, g311, g312, h313, h315] <;> rfl)) rfl (by kernel_rfl) ?_
                replace h331 := getT0_some h331; obtain ⟨h320, h331⟩ := h331
                refine W_sound tab_ok mixed 6 _ _ _ ?_
                simp -implicitDefEqProofs only [go_sem, Nat.reduceBEq, Nat.reduceAdd, Nat.reduceSub, Nat.reduceMul, Nat.reduceLT, Int.reduceLE, Int.reduceToNat, ↓reduceIte, h320]
                repeat with_reducible refine And.intro (by first | kernel_rfl | decide) ?_
                refine cutQ _ ?_ ⟨n, Nat.lt_succ_self n, _, _, h331, rfl⟩
                exact Wk_keep [0, 2, 8, 9, 27, 28, 29, 43, 44, 45] (by kernel_rfl)
           ·refine W_sound tab_ok mixed 7 _ _ _ ?_
            simp -implicitDefEqProofs only [go_sem, Nat.reduceBEq, Nat.reduceLT, ↓reduceIte, h294]
            repeat with_reducible refine And.intro (by first | kernel_rfl | decide) ?_
            obtain rfl := Option.some.inj h331
            refine cutQ _ ?_ ⟨_, rfl, rfl⟩
            exact Wk_keep [0, 2, 8, 27, 28, 29] (by kernel_rfl)
         ·rintro _ ⟨c322, rfl, rfl⟩
          (try dsimp only at h332)
          refine W_sound tab_ok mixed 5 _ _ _ ?_
          simp -implicitDefEqProofs only [go_sem, Nat.reduceBEq, Nat.reduceLT, Int.reduceLE, Int.reduceToNat, ↓reduceIte]
          repeat with_reducible refine And.intro (by first | kernel_rfl | decide) ?_
          refine cutQ _ ?_ ⟨n, Nat.lt_succ_self n, _, _, h332, rfl⟩
          exact Wk_keep [0, 2, 8, 27, 28, 29] (by kernel_rfl)
      ·refine W_sound tab_ok mixed 7 _ _ _ ?_
       simp -implicitDefEqProofs only [go_sem, Nat.reduceBEq, Nat.reduceLT, ↓reduceIte, h253]
       repeat with_reducible refine And.intro (by first | kernel_rfl | decide) ?_
       obtain rfl := Option.some.inj h328
       refine cutQ _ ?_ ⟨_, rfl, rfl⟩
       exact Wk_keep [8] (by kernel_rfl)
    ·rintro _ ⟨c324, rfl, rfl⟩
     (try dsimp only at h329)
     refine W_sound tab_ok mixed 8 _ _ _ ?_
     simp -implicitDefEqProofs only [go_sem, Nat.reduceBEq, Nat.reduceLT]
     repeat with_reducible refine And.intro (by first | kernel_rfl | decide) ?_
     obtain rfl := Option.some.inj h329
     exact finD (st' := ⟨[], [(0, .dead), (1, .dead), (2, .dead), (6, .ptr 0 0), (7, .v (.int .i64 0)), (8, .dead), (9, .dead), (10, .dead), (11, .dead), (12, .dead), (13, .dead), (20, .dead), (27, .dead), (28, .dead), (29, .dead), (30, .dead), (42, .dead), (43, .dead), (44, .dead), (45, .dead), (46, .dead), (50, .dead), (58, .dead), (69, .dead)], [(0, .p c324)], 1, []⟩) (keepE_le [6, 7] _) (OLe.refl _) (by kernel_rfl) (by simp only [go_sem, Nat.reduceBEq, resQ_tmp, resQ_nil] <;> first | rfl | exact ⟨rfl, rfl⟩ | (try simp [R.val, retD_one, retD_two, retD_three, retD_none]))
theorem c61_a (N : Nat) (x80 : Int) (p81 : PV) (x82 : Int) (x87 : Int) (h : m61 N x80 p81 x82 = some (.inl x87)) : V.Fn Tryd.prog 61 0 [.v (.int .i64 x80), .v p81, .v (.int .i64 x82)] [] (fun d ob' => d = .v (.tup [(.fn 999999 [.bool true]), (.int .i64 x87)]) ∧ ob' = []) := c61 N x80 p81 x82 _ h
theorem c61_b (N : Nat) (x80 : Int) (p81 : PV) (x82 : Int) (x325 : Int) (c326 : List PV) (h : m61 N x80 p81 x82 = some (.inr (x325, c326))) : V.Fn Tryd.prog 61 0 [.v (.int .i64 x80), .v p81, .v (.int .i64 x82)] [] (fun d ob' => d = .tup [.ptr 0 0, .v (.int .i64 x325)] ∧ ob' = [(0, .p c326)]) := c61 N x80 p81 x82 _ h
def m56 (N : Nat) (p770 : PV) : Option (PV) :=
 getL p770 fun n772 c773 =>
 grd (0 < n772) <|
 grd (List.length c773 = n772) <|
 grd (n772 ≤ 1099511627776) <|
 some (.lst false n772 c773)
theorem c56 (N : Nat) (p770 : PV) (r : PV)  (h : m56 N p770 = some r) : FnP Tryd.prog 56 [p770] r := by
 unfold m56 at h
 refine Fn_of (sz := 8) tab_ok [0, 2, 4] [.tmp 2] Tryd.func56 rfl rfl rfl (by simp) ?_
 simp only [initSt, initEnv, List.map_cons, List.map_nil, List.getD_cons_zero, List.getD_cons_succ, List.getD_nil]
 replace h := getL_some h; obtain ⟨n772, c773, h771, h⟩ := h
 replace h := grd_some h; obtain ⟨g774, h⟩ := h
 replace h := grd_some h; obtain ⟨g775, h⟩ := h
 replace h := grd_some h; obtain ⟨g776, h⟩ := h
 refine W_sound tab_ok mixed 21 _ _ _ ?_
 simp -implicitDefEqProofs only [go_sem, Nat.reduceBEq, Nat.reduceAdd, Nat.reduceLT, Nat.reduceLeDiff, h771, g774, g775, g776]
 repeat with_reducible refine And.intro (by first | kernel_rfl | decide) ?_
 refine FinQ_wk (Wk_freeze 7 c773 (by rfl) (by decide) (by decide)) ?_
 simp -implicitDefEqProofs only [go_sem, Nat.reduceBEq, g775]
 obtain rfl := Option.some.inj h
 exact finC [(2, .v (.lst false n772 c773))] [(2, .v (.lst false n772 c773))] (by simp [leE, lk_cons]) (.cons _ _ _ _ _ (.v _ _ (.refl _)) .nil) (by rfl) (by simp [leE, lk_cons]) (by decide) (by decide) rfl (by simp only [go_sem, Nat.reduceBEq, resQ_tmp, resQ_nil, retD_one]; try simp [R.val, retD_one, retD_two, retD_three, retD_none])
def m65_L0 (N : Nat) (x761 : Int) (c763 : List PV) : Nat → Nat → Int → List PV → Option ((Nat × List PV))
 | 0, _, _, _ => none
 | n + 1, n815, x816, c817 =>
  brn (decide (x816 < x761)) (
   grd (0 ≤ x816 ∧ x816 < 5) <|
   grd (0 ≤ x761 ∧ x761 ≤ 5) <|
   bnd' (m56 N (.lst false (Int.toNat x761) (List.take (Int.toNat x761) (List.drop ((Int.toNat x816) * 5) c763)))) fun p823 =>
   getL p823 fun n826 c827 =>
   grd ((n815 + 1) ≤ 1099511627776) <|
   grd (List.length c817 = n815) <|
   m65_L0 N x761 c763 n (n815 + 1) (IntKind.i64.wrap (x816 + 1)) (c817 ++ [(.lst false n826 c827)])) (
   some (n815, c817))
def m65 (N : Nat) (p760 : PV) (x761 : Int) : Option (PV) :=
 getA p760 fun c763 =>
 bnd' (m65_L0 N x761 c763 N 0 0 []) fun o =>
 match o with
 | (n830, c831) =>
  grd (List.length c831 = n830) <|
  some (.lst false n830 c831)
theorem c65 (N : Nat) (p760 : PV) (x761 : Int) (r : PV)  (h : m65 N p760 x761 = some r) : FnP Tryd.prog 65 [p760, (.int .i64 x761)] r := by
 unfold m65 at h
 refine Fn_of (sz := 21) tab_ok [0, 1, 2, 4, 5, 6, 7, 8, 9] [.tmp 4] Tryd.func65 rfl rfl rfl (by simp) ?_
 simp only [initSt, initEnv, List.map_cons, List.map_nil, List.getD_cons_zero, List.getD_cons_succ, List.getD_nil]
 replace h := getA_some h; obtain ⟨c763, h762, h⟩ := h
 refine W_sound tab_ok mixed 15 _ _ _ ?_
 simp -implicitDefEqProofs only [go_sem, Nat.reduceBEq, Nat.reduceAdd, Nat.reduceLT, Nat.reduceLeDiff, h762]
 repeat with_reducible refine And.intro (by first | kernel_rfl | decide) ?_
 refine Wp_wkK (Wk_freeze 2 c763 (by rfl) (by decide) (by decide)) rfl ?_
 simp -implicitDefEqProofs only [go_sem, Nat.reduceBEq]
 (try simp -implicitDefEqProofs only [go_sem, Nat.reduceBEq, Nat.reduceAdd, Nat.reduceSub, Nat.reduceMul, Nat.reduceLT, Nat.reduceLeDiff, Int.reduceLE, Int.reduceLT, Int.reduceToNat, Int.reduceBEq, Int.reduceBNe, ↓reduceIte, h762])
 refine Wp_weaken (Wk_ownS 5 1 rfl (by decide) (by decide)) ?_
 simp -implicitDefEqProofs only [go_sem, Nat.reduceBEq, Nat.reduceAdd]
 replace h := bnd'_some h; obtain ⟨o833, h834, h835⟩ := h
 refine Wp_cut (fun s => ∃ n830, ∃ c831, (n830, c831) = o833 ∧ s = ⟨[], [(0, .dead), (1, .dead), (2, .dead), (4, .dead), (5, .sl false 0 0 n830 1), (6, .dead), (7, .dead), (8, .dead), (9, .dead)], [(0, .p c831)], 1, []⟩) ?_ ?_
 ·refine Wp_block ?_
  refine Wp_loopG (fun n s => ∃ n815, ∃ x816, ∃ c817, m65_L0 N x761 c763 n n815 x816 c817 = some o833 ∧ s = ⟨[], [(0, .dead), (1, .v (.int .i64 x761)), (2, .v (.ipt c763)), (4, .dead), (5, .sl false 0 0 n815 1), (6, .dead), (7, .v (.int .i64 x761)), (8, .v (.int .i64 x816)), (9, .dead)], [(0, .p c817)], 1, []⟩) N _ ?_ ⟨_, _, _, h834, rfl⟩ ?_
  ·exact Wk_keep [1, 2, 5, 7, 8] (by kernel_rfl)
  clear h834
  rintro n _ ⟨n815, x816, c817, h834, rfl⟩
  cases n with
  | zero => cases h834
  | succ n =>
   rw [m65_L0] at h834
   replace h834 := brn_some h834; rcases h834 with ⟨h818, h834⟩ | ⟨h818, h834⟩
   ·replace h834 := grd_some h834; obtain ⟨⟨g819, g820⟩, h834⟩ := h834
    replace h834 := grd_some h834; obtain ⟨⟨g821, g822⟩, h834⟩ := h834
    replace h834 := bnd'_some h834; obtain ⟨p823, h824, h834⟩ := h834
    refine W_sound tab_ok mixed 20 _ _ _ ?_
    simp -implicitDefEqProofs only [go_sem, Nat.reduceBEq, Nat.reduceLT, Nat.reduceLeDiff, ↓reduceIte, h818, g819, g820, g821, g822]
    repeat with_reducible refine And.intro (by first | kernel_rfl | decide) ?_
    refine Wp_callP (c56 N _ _ h824) (by kernel_rfl) rfl rfl rfl rfl (by decide) ?_
    replace h834 := getL_some h834; obtain ⟨n826, c827, h825, h834⟩ := h834
    replace h834 := grd_some h834; obtain ⟨g828, h834⟩ := h834
    replace h834 := grd_some h834; obtain ⟨g829, h834⟩ := h834
    refine W_sound tab_ok mixed 9 _ _ _ ?_
    simp -implicitDefEqProofs only [go_sem, Nat.reduceBEq, Nat.reduceAdd, Nat.reduceLT, Nat.reduceLeDiff, Int.reduceLE, Int.reduceToNat, ↓reduceIte, h825, g828, g829]
    repeat with_reducible refine And.intro (by first | kernel_rfl | decide) ?_
    refine cutQ _ ?_ ⟨n, Nat.lt_succ_self n, _, _, _, h834, rfl⟩
    exact Wk_keep [1, 2, 5, 7, 8] (by kernel_rfl)
   ·refine W_sound tab_ok mixed 7 _ _ _ ?_
    simp -implicitDefEqProofs only [go_sem, Nat.reduceBEq, Nat.reduceLT, ↓reduceIte, h818]
    repeat with_reducible refine And.intro (by first | kernel_rfl | decide) ?_
    obtain rfl := Option.some.inj h834
    refine cutQ _ ?_ ⟨_, _, rfl, rfl⟩
    exact Wk_keep [5] (by kernel_rfl)
 ·rintro _ ⟨n830, c831, rfl, rfl⟩
  (try dsimp only at h835)
  refine W_sound tab_ok mixed 7 _ _ _ ?_
  simp -implicitDefEqProofs only [go_sem, Nat.reduceBEq, Nat.reduceLT]
  repeat with_reducible refine And.intro (by first | kernel_rfl | decide) ?_
  replace h835 := grd_some h835; obtain ⟨g832, h835⟩ := h835
  refine FinQ_wk (Wk_freeze 0 c831 (by rfl) (by decide) (by decide)) ?_
  simp -implicitDefEqProofs only [go_sem, Nat.reduceBEq, g832]
  obtain rfl := Option.some.inj h835
  exact finC [(4, .v (.lst false n830 c831))] [(4, .v (.lst false n830 c831))] (by simp [leE, lk_cons]) (.cons _ _ _ _ _ (.v _ _ (.refl _)) .nil) (by rfl) (by simp [leE, lk_cons]) (by decide) (by decide) rfl (by simp only [go_sem, Nat.reduceBEq, resQ_tmp, resQ_nil, retD_one]; try simp [R.val, retD_one, retD_two, retD_three, retD_none])
end Go.Proofs.YtcaecfofgdogbaaDoor
namespace Go.Proofs.YtcaecfofgdogbaaDoor
open Go.V
set_option maxRecDepth 100000
set_option maxHeartbeats 4000000
set_option linter.unusedSimpArgs false
set_option linter.unusedVariables false
attribute [local go_sem] tl1 tl2 tl3 tl4 tl5 tl9 tl17 tl21 tl22 tl23 tl24 tl25 tl27 tl28 tl30 tl31 tl32 tl33 tl35 tl36 tl37 tl38 tl39 tl40 tl42 tl43 tl44 tl45 tl46 tl47 tl48 tl49 tl50 tl51 tl52 tl53 tl54 tl55 tl56 tl57 tl58 tl59 tl61 tl62 tl63 tl64 tl65 tl66 tl67 tl68 tl69 tl70 tl71 tl72 tl73 tl74 tl75 tl76 tl77 tl78 tl79 tl80 tl81 tl82 tl83 tl84 tl85 tl87 tl89 tl90 tl91 tl92 tl93 tl94 tl96 tl97 tl98 tl99 tl100 tl101 tl102 tl103 tl104 tl105 tl106 tl107 tl108 tl109 tl115 tl119
end Go.Proofs.YtcaecfofgdogbaaDoor
namespace Go.Proofs.YtcaecfofgdogbaaDoor
open Go.V
set_option maxRecDepth 100000
set_option maxHeartbeats 4000000
set_option linter.unusedSimpArgs false
set_option linter.unusedVariables false
attribute [local go_sem] tl1 tl2 tl3 tl4 tl5 tl9 tl17 tl21 tl22 tl23 tl24 tl25 tl27 tl28 tl30 tl31 tl32 tl33 tl35 tl36 tl37 tl38 tl39 tl40 tl42 tl43 tl44 tl45 tl46 tl47 tl48 tl49 tl50 tl51 tl52 tl53 tl54 tl55 tl56 tl57 tl58 tl59 tl61 tl62 tl63 tl64 tl65 tl66 tl67 tl68 tl69 tl70 tl71 tl72 tl73 tl74 tl75 tl76 tl77 tl78 tl79 tl80 tl81 tl82 tl83 tl84 tl85 tl87 tl89 tl90 tl91 tl92 tl93 tl94 tl96 tl97 tl98 tl99 tl100 tl101 tl102 tl103 tl104 tl105 tl106 tl107 tl108 tl109 tl115 tl119 ne_eq not_false_eq_true Int.le_refl Nat.le_refl Int.cast_ofNat_Int
def m75 (N : Nat) (p1255 : PV) (p1256 : PV) : Option ((PV × PV)) :=
 getL p1255 fun n1259 c1260 =>
 some ((.bool false), (.lst false n1259 c1260))
def m94 (N : Nat) (x1269 : Int) (x1270 : Int) (x1271 : Int) (p1272 : PV) : Option ((PV × PV)) :=
 brn (0 == x1271) (
  bnd' (m56 N (.lst false 0 [])) fun p1275 =>
  getL p1275 fun n1278 c1279 =>
  bnd' (m75 N (.lst false n1278 c1279) p1272) fun (p1280, p1282) =>
  getB p1280 fun b1284 =>
  some ((.bool b1284), p1282)) (
  none)
def m56_2 (N : Nat) (n1340 : Nat) (c1341 : List PV) : Option (PV) :=
 grd (0 < n1340) <|
 grd (List.length c1341 = n1340) <|
 grd (n1340 ≤ 1099511627776) <|
 some (.lst false n1340 c1341)
theorem c56_2 (N : Nat) (n1340 : Nat) (c1341 : List PV) (r : PV)  (h : m56_2 N n1340 c1341 = some r) : V.Fn Tryd.prog 56 1 [.sl true 0 0 n1340 1] [(0, .p c1341)] (fun d ob' => d = .v r ∧ ob' = [(0, .p c1341)]) := by
 unfold m56_2 at h
 refine Fn_of (sz := 8) tab_ok [0, 2, 4] [.tmp 2] Tryd.func56 rfl rfl rfl (by simp) ?_
 simp only [initSt, initEnv, List.getD_cons_zero, List.getD_cons_succ, List.getD_nil]
 replace h := grd_some h; obtain ⟨g1342, h⟩ := h
 replace h := grd_some h; obtain ⟨g1343, h⟩ := h
 replace h := grd_some h; obtain ⟨g1344, h⟩ := h
 refine W_sound tab_ok mixed 21 _ _ _ ?_
 simp -implicitDefEqProofs only [go_sem, Nat.reduceBEq, Nat.reduceAdd, Nat.reduceLT, Nat.reduceLeDiff, g1342, g1343, g1344]
 repeat with_reducible refine And.intro (by first | kernel_rfl | decide) ?_
 refine FinQ_wk (Wk_freeze 8 c1341 (by rfl) (by decide) (by decide)) ?_
 simp -implicitDefEqProofs only [go_sem, Nat.reduceBEq, g1343]
 obtain rfl := Option.some.inj h
 exact finD (st' := ⟨[], [(0, .dead), (2, .v (.lst false n1340 c1341)), (4, .dead)], [(0, .p c1341)], 1, []⟩) (keepE_le [2] _) (OLe.refl _) (by kernel_rfl) (by simp only [go_sem, Nat.reduceBEq, resQ_tmp, resQ_nil, retD_one]; try simp [R.val, retD_one, retD_two, retD_three, retD_none])
def m56_3 (N : Nat) (n1388 : Nat) (c1389 : List PV) : Option (PV) :=
 grd (0 < n1388) <|
 grd (List.length c1389 = n1388) <|
 grd (n1388 ≤ 1099511627776) <|
 some (.lst false n1388 c1389)
theorem c56_3 (N : Nat) (n1388 : Nat) (c1389 : List PV) (r : PV)  (h : m56_3 N n1388 c1389 = some r) : V.Fn Tryd.prog 56 1 [.sl false 0 0 n1388 1] [(0, .p c1389)] (fun d ob' => d = .v r ∧ ob' = [(0, .p c1389)]) := by
 unfold m56_3 at h
 refine Fn_of (sz := 8) tab_ok [0, 2, 4] [.tmp 2] Tryd.func56 rfl rfl rfl (by simp) ?_
 simp only [initSt, initEnv, List.getD_cons_zero, List.getD_cons_succ, List.getD_nil]
 replace h := grd_some h; obtain ⟨g1390, h⟩ := h
 replace h := grd_some h; obtain ⟨g1391, h⟩ := h
 replace h := grd_some h; obtain ⟨g1392, h⟩ := h
 refine W_sound tab_ok mixed 21 _ _ _ ?_
 simp -implicitDefEqProofs only [go_sem, Nat.reduceBEq, Nat.reduceAdd, Nat.reduceLT, Nat.reduceLeDiff, g1390, g1391, g1392]
 repeat with_reducible refine And.intro (by first | kernel_rfl | decide) ?_
 refine FinQ_wk (Wk_freeze 8 c1389 (by rfl) (by decide) (by decide)) ?_
 simp -implicitDefEqProofs only [go_sem, Nat.reduceBEq, g1391]
 obtain rfl := Option.some.inj h
 exact finD (st' := ⟨[], [(0, .dead), (2, .v (.lst false n1388 c1389)), (4, .dead)], [(0, .p c1389)], 1, []⟩) (keepE_le [2] _) (OLe.refl _) (by kernel_rfl) (by simp only [go_sem, Nat.reduceBEq, resQ_tmp, resQ_nil, retD_one]; try simp [R.val, retD_one, retD_two, retD_three, retD_none])
noncomputable def m94_3_A_L0 (N : Nat) (rec : Nat → Int → Int → List PV → Int → PV → List PV → Option ((PV × PV))) (n1433 : Nat) (x1434 : Int) (x1435 : Int) (c1436 : List PV) (x1437 : Int) (c1439 : List PV) : Nat → Int → PV → Option (((PV × PV) ⊕ PV))
 | 0, _, _ => none
 | n + 1, x1475, p1476 =>
  brn (decide (x1475 < (((Int.toNat x1437) : Nat) : Int))) (
   grd (0 ≤ x1475 ∧ x1475 < (((Int.toNat x1437) : Nat) : Int)) <|
   grd (((1 + (n1433 * 5)) + (Int.toNat x1475)) < List.length c1439) <|
   getI .i64 (gp c1439 ((1 + (n1433 * 5)) + (Int.toNat x1475))) fun x1482 =>
   brn ((bitsI .and .u64 (Int.fdiv x1434 (2 ^ (min (Int.toNat x1475) 64))) 1) == 0) (
    grd (0 ≤ x1482) <|
    brn ((bitsI .and .u64 (Int.fdiv x1435 (2 ^ (min (Int.toNat x1482) 64))) 1) == 0) (
     grd ((n1433 + 1) ≤ 1099511627776) <|
     grd (List.length c1436 = n1433) <|
     bnd' (rec (n1433 + 1) (bitsI .or .u64 x1434 (IntKind.u64.wrap (1 * 2 ^ (min (Int.toNat x1475) 64)))) (bitsI .or .u64 x1435 (IntKind.u64.wrap (1 * 2 ^ (min (Int.toNat x1482) 64)))) (c1436 ++ [(.int .i64 x1475)]) x1437 p1476 c1439) fun (p1488, p1490) =>
     getB p1488 fun b1492 =>
     brn b1492 (
      m94_3_A_L0 N rec n1433 x1434 x1435 c1436 x1437 c1439 n (IntKind.i64.wrap (x1475 + 1)) p1490) (
      some (.inl ((.bool false), p1490)))) (
     m94_3_A_L0 N rec n1433 x1434 x1435 c1436 x1437 c1439 n (IntKind.i64.wrap (x1475 + 1)) p1476)) (
    m94_3_A_L0 N rec n1433 x1434 x1435 c1436 x1437 c1439 n (IntKind.i64.wrap (x1475 + 1)) p1476)) (
   some (.inr p1476))
noncomputable def m94_3_A (N : Nat) (rec : Nat → Int → Int → List PV → Int → PV → List PV → Option ((PV × PV))) (n1433 : Nat) (x1434 : Int) (x1435 : Int) (c1436 : List PV) (x1437 : Int) (p1438 : PV) (c1439 : List PV) : Option ((PV × PV)) :=
 brn (((n1433 : Nat) : Int) == x1437) (
  bnd' (m56_2 N n1433 c1436) fun p1442 =>
  getL p1442 fun n1445 c1446 =>
  bnd' (m75 N (.lst false n1445 c1446) p1438) fun (p1447, p1449) =>
  getB p1447 fun b1451 =>
  some ((.bool b1451), p1449)) (
  grd (0 ≤ ((n1433 : Nat) : Int) ∧ ((n1433 : Nat) : Int) < 5) <|
  grd (0 ≤ x1437 ∧ x1437 ≤ 5 ∧ ((1 + (n1433 * 5)) + 5) ≤ List.length c1439) <|
  bnd' (m94_3_A_L0 N rec n1433 x1434 x1435 c1436 x1437 c1439 N 0 p1438) fun o =>
  match o with
  | .inl p1494 =>
   some p1494
  | .inr p1495 =>
   some ((.bool true), p1495))
noncomputable def m94_3_B_L0 (N : Nat) (rec : Nat → Int → Int → List PV → Int → PV → List PV → Option ((PV × PV))) (n1497 : Nat) (x1498 : Int) (x1499 : Int) (c1500 : List PV) (x1501 : Int) (c1503 : List PV) : Nat → Int → PV → Option (((PV × PV) ⊕ PV))
 | 0, _, _ => none
 | n + 1, x1538, p1539 =>
  brn (decide (x1538 < (((Int.toNat x1501) : Nat) : Int))) (
   grd (0 ≤ x1538 ∧ x1538 < (((Int.toNat x1501) : Nat) : Int)) <|
   grd (((1 + (n1497 * 5)) + (Int.toNat x1538)) < List.length c1503) <|
   getI .i64 (gp c1503 ((1 + (n1497 * 5)) + (Int.toNat x1538))) fun x1545 =>
   brn ((bitsI .and .u64 (Int.fdiv x1498 (2 ^ (min (Int.toNat x1538) 64))) 1) == 0) (
    grd (0 ≤ x1545) <|
    brn ((bitsI .and .u64 (Int.fdiv x1499 (2 ^ (min (Int.toNat x1545) 64))) 1) == 0) (
     bnd' (rec (n1497 + 1) (bitsI .or .u64 x1498 (IntKind.u64.wrap (1 * 2 ^ (min (Int.toNat x1538) 64)))) (bitsI .or .u64 x1499 (IntKind.u64.wrap (1 * 2 ^ (min (Int.toNat x1545) 64)))) (c1500 ++ [(.int .i64 x1538)]) x1501 p1539 c1503) fun (p1549, p1551) =>
     getB p1549 fun b1553 =>
     brn b1553 (
      m94_3_B_L0 N rec n1497 x1498 x1499 c1500 x1501 c1503 n (IntKind.i64.wrap (x1538 + 1)) p1551) (
      some (.inl ((.bool false), p1551)))) (
     m94_3_B_L0 N rec n1497 x1498 x1499 c1500 x1501 c1503 n (IntKind.i64.wrap (x1538 + 1)) p1539)) (
    m94_3_B_L0 N rec n1497 x1498 x1499 c1500 x1501 c1503 n (IntKind.i64.wrap (x1538 + 1)) p1539)) (
   some (.inr p1539))
noncomputable def m94_3_B (N : Nat) (rec : Nat → Int → Int → List PV → Int → PV → List PV → Option ((PV × PV))) (n1497 : Nat) (x1498 : Int) (x1499 : Int) (c1500 : List PV) (x1501 : Int) (p1502 : PV) (c1503 : List PV) : Option ((PV × PV)) :=
 grd (List.length c1500 = n1497) <|
 brn (((n1497 : Nat) : Int) == x1501) (
  bnd' (m56_3 N n1497 c1500) fun p1507 =>
  getL p1507 fun n1510 c1511 =>
  bnd' (m75 N (.lst false n1510 c1511) p1502) fun (p1512, p1514) =>
  getB p1512 fun b1516 =>
  some ((.bool b1516), p1514)) (
  grd (0 ≤ ((n1497 : Nat) : Int) ∧ ((n1497 : Nat) : Int) < 5) <|
  grd (0 ≤ x1501 ∧ x1501 ≤ 5 ∧ ((1 + (n1497 * 5)) + 5) ≤ List.length c1503) <|
  bnd' (m94_3_B_L0 N rec n1497 x1498 x1499 c1500 x1501 c1503 N 0 p1502) fun o =>
  match o with
  | .inl p1555 =>
   some p1555
  | .inr p1556 =>
   some ((.bool true), p1556))
noncomputable def m94_3 (N : Nat) : Nat → Nat → Int → Int → List PV → Int → PV → List PV → Option ((PV × PV))
 | 0, _, _, _, _, _, _, _ => none
 | fu + 1, n1425, x1426, x1427, c1428, x1429, p1430, c1431 => both (m94_3_A N (m94_3 N fu) n1425 x1426 x1427 c1428 x1429 p1430 c1431) (m94_3_B N (m94_3 N fu) n1425 x1426 x1427 c1428 x1429 p1430 c1431)
noncomputable def m94_2_L0 (N : Nat) (x1590 : Int) (x1591 : Int) (x1592 : Int) (c1594 : List PV) : Nat → Int → PV → Option (((PV × PV) ⊕ PV))
 | 0, _, _ => none
 | n + 1, x1626, p1627 =>
  brn (decide (x1626 < (((Int.toNat x1592) : Nat) : Int))) (
   grd (0 ≤ x1626 ∧ x1626 < (((Int.toNat x1592) : Nat) : Int)) <|
   grd ((1 + (Int.toNat x1626)) < List.length c1594) <|
   getI .i64 (gp c1594 (1 + (Int.toNat x1626))) fun x1633 =>
   brn ((bitsI .and .u64 (Int.fdiv x1590 (2 ^ (min (Int.toNat x1626) 64))) 1) == 0) (
    grd (0 ≤ x1633) <|
    brn ((bitsI .and .u64 (Int.fdiv x1591 (2 ^ (min (Int.toNat x1633) 64))) 1) == 0) (
     bnd' (m94_3 N N 1 (bitsI .or .u64 x1590 (IntKind.u64.wrap (1 * 2 ^ (min (Int.toNat x1626) 64)))) (bitsI .or .u64 x1591 (IntKind.u64.wrap (1 * 2 ^ (min (Int.toNat x1633) 64)))) [(.int .i64 x1626)] x1592 p1627 c1594) fun (p1637, p1639) =>
     getB p1637 fun b1641 =>
     brn b1641 (
      m94_2_L0 N x1590 x1591 x1592 c1594 n (IntKind.i64.wrap (x1626 + 1)) p1639) (
      some (.inl ((.bool false), p1639)))) (
     m94_2_L0 N x1590 x1591 x1592 c1594 n (IntKind.i64.wrap (x1626 + 1)) p1627)) (
    m94_2_L0 N x1590 x1591 x1592 c1594 n (IntKind.i64.wrap (x1626 + 1)) p1627)) (
   some (.inr p1627))
noncomputable def m94_2 (N : Nat) (x1590 : Int) (x1591 : Int) (x1592 : Int) (p1593 : PV) (c1594 : List PV) : Option ((PV × PV)) :=
 brn (0 == x1592) (
  bnd' (m56 N (.lst false 0 [])) fun p1597 =>
  getL p1597 fun n1600 c1601 =>
  bnd' (m75 N (.lst false n1600 c1601) p1593) fun (p1602, p1604) =>
  getB p1602 fun b1606 =>
  some ((.bool b1606), p1604)) (
  grd (0 ≤ x1592 ∧ x1592 ≤ 5 ∧ 6 ≤ List.length c1594) <|
  bnd' (m94_2_L0 N x1590 x1591 x1592 c1594 N 0 p1593) fun o =>
  match o with
  | .inl p1643 =>
   some p1643
  | .inr p1644 =>
   some ((.bool true), p1644))
noncomputable def m74 (N : Nat) (x1656 : Int) (p1657 : PV) : Option ((PV × PV)) :=
 getL p1657 fun n1660 c1661 =>
 bnd' (m61 N x1656 (.lst false n1660 c1661) x1656) fun o =>
 match o with
 | .inl x1663 =>
  brn (x1663 != 0) (
   some ((.int .i64 x1663), (.lst false 0 []))) (
   brn (decide (((n1660 : Nat) : Int) < x1656)) (
    some ((.int .i64 21), (.lst false 0 []))) (
    bnd' (m94 N 0 0 x1656 .nl) fun (p1666, p1668) =>
    getB p1666 fun b1670 =>
    some ((.int .i64 0), p1668)))
 | .inr (x1671, c1672) =>
  brn (x1671 != 0) (
   some ((.int .i64 x1671), (.lst false 0 []))) (
   brn (decide (((n1660 : Nat) : Int) < x1656)) (
    some ((.int .i64 21), (.lst false 0 []))) (
    bnd' (m94_2 N 0 0 x1656 .nl c1672) fun (p1675, p1677) =>
    getB p1675 fun b1679 =>
    some ((.int .i64 0), p1677)))
noncomputable def m33 (N : Nat) (x1225 : Int) (p1226 : PV) : Option (PV) :=
 getL p1226 fun n1228 c1229 =>
 bnd' (m74 N x1225 (.lst false n1228 c1229)) fun (p1682, p1684) =>
 getI .i64 p1682 fun x1686 =>
 brn (x1686 == 0) (
  getN p1684 (
   some (.tup [(.lst false 0 []), (.int .i64 12)])) fun n1690 c1691 =>
  grd (0 < n1690) <|
  some (.tup [(.lst false n1690 c1691), (.int .i64 x1686)])) (
  getN p1684 (
   some (.tup [(.lst false 0 []), (.int .i64 x1686)])) fun n1695 c1696 =>
  some (.tup [(.lst false n1695 c1696), (.int .i64 x1686)]))
noncomputable def m78 (N : Nat) (p1727 : PV) (x1728 : Int) : Option ((PV × Int)) :=
 getL p1727 fun n1731 c1732 =>
 some ((.bool true), (IntKind.i64.wrap (x1728 + 1)))
theorem c78 (N : Nat) (p1727 : PV) (x1728 : Int) (r : PV) (x1733 : Int) (h : m78 N p1727 x1728 = some (r, x1733)) : V.Fn Tryd.prog 78 1 [.v p1727, .ptr 0 0] [(0, .p [(.int .i64 x1728)])] (fun d ob' => d = .v r ∧ ob' = [(0, .p [(.int .i64 x1733)])]) := by
 unfold m78 at h
 refine Fn_of (sz := 6) tab_ok [0, 1, 3] [.tmp 3] Tryd.func78 rfl rfl rfl (by simp) ?_
 simp only [initSt, initEnv, List.getD_cons_zero, List.getD_cons_succ, List.getD_nil]
 replace h := getL_some h; obtain ⟨n1731, c1732, h1730, h⟩ := h
 refine W_sound tab_ok mixed 16 _ _ _ ?_
 simp -implicitDefEqProofs only [go_sem, Nat.reduceBEq, Nat.reduceLT, Int.reduceLE, Int.reduceToNat, ↓reduceIte, h1730]
 repeat with_reducible refine And.intro (by first | kernel_rfl | decide) ?_
 simp only [Option.some.injEq, Prod.mk.injEq] at h; obtain ⟨rfl, rfl⟩ := h
 exact finD (st' := ⟨[], [(0, .dead), (1, .dead), (3, .v (.bool true))], [(0, .p [(.int .i64 (IntKind.i64.wrap (x1728 + 1)))])], 1, []⟩) (keepE_le [3] _) (OLe.refl _) (by kernel_rfl) (by simp only [go_sem, Nat.reduceBEq, resQ_tmp, resQ_nil, retD_one]; try simp [R.val, retD_one, retD_two, retD_three, retD_none])
noncomputable def m94_4 (N : Nat) (x1740 : Int) (x1741 : Int) (x1742 : Int) (x1743 : Int) : Option ((PV × Int)) :=
 brn (0 == x1742) (
  bnd' (m56 N (.lst false 0 [])) fun p1746 =>
  getL p1746 fun n1749 c1750 =>
  bnd' (m78 N (.lst false n1749 c1750) x1743) fun (p1751, x1753) =>
  getB p1751 fun b1755 =>
  some ((.bool b1755), x1753)) (
  none)
theorem c94_4 (N : Nat) (x1740 : Int) (x1741 : Int) (x1742 : Int) (x1743 : Int) (r : PV) (x1757 : Int) (h : m94_4 N x1740 x1741 x1742 x1743 = some (r, x1757)) : V.Fn Tryd.prog 94 5 [.v .nl, .v (.int .u64 x1740), .v (.int .u64 x1741), .ptr 0 0, .ptr 1 0, .ptr 3 0, .ptr 4 0] [(0, .p [(.int .i64 x1742)]), (1, .r [.fn 78 [.ptr 2 0]]), (2, .p [(.int .i64 x1743)]), (3, .r [.v (.fn 999999 [.bool true])]), (4, .r [.fn 94 [.ptr 0 0, .ptr 1 0, .ptr 3 0, .ptr 4 0]])] (fun d ob' => d = .v r ∧ ob' = [(0, .p [(.int .i64 x1742)]), (1, .r [.fn 78 [.ptr 2 0]]), (2, .p [(.int .i64 x1757)]), (3, .r [.v (.fn 999999 [.bool true])]), (4, .r [.fn 94 [.ptr 0 0, .ptr 1 0, .ptr 3 0, .ptr 4 0]])]) := by
 unfold m94_4 at h
 refine Fn_of (sz := 65) tab_ok [0, 1, 2, 3, 4, 5, 6, 10, 11, 12, 16, 28, 29, 30, 31, 63] [.tmp 10] Tryd.func94 rfl rfl rfl (by simp) ?_
 simp only [initSt, initEnv, List.getD_cons_zero, List.getD_cons_succ, List.getD_nil]
 replace h := brn_some h; rcases h with ⟨h1745, h⟩ | ⟨h1745, h⟩
 ·replace h := bnd'_some h; obtain ⟨p1746, h1747, h⟩ := h
  refine W_sound tab_ok mixed 17 _ _ _ ?_
  simp -implicitDefEqProofs only [go_sem, Nat.reduceBEq, Nat.reduceLT, ↓reduceIte, h1745]
  repeat with_reducible refine And.intro (by first | kernel_rfl | decide) ?_
  refine Wp_callP (FnP_le (c56 N _ _ h1747) (.cons _ _ _ _ (.nl false) .nil) (.refl _)) (by kernel_rfl) rfl rfl rfl rfl (by decide) ?_
  replace h := getL_some h; obtain ⟨n1749, c1750, h1748, h⟩ := h
  replace h := bnd'_some h; obtain ⟨⟨p1751, x1753⟩, h1752, h⟩ := h
  (try dsimp only at h)
  (try simp -implicitDefEqProofs only [go_sem, h1748])
  refine Wp_callD [2] (c78 N _ _ _ _ h1752) rfl rfl rfl (by first | rfl | (simp only [go_sem, Nat.reduceBEq, Nat.reduceAdd, Nat.reduceSub, Nat.reduceMul, Nat.reduceLT, Nat.reduceLeDiff, Int.reduceLE, Int.reduceLT, Int.reduceToNat, Int.reduceBEq, Int.reduceBNe, ↓reduceIte, h1745, h1748] <;> rfl)) rfl (by kernel_rfl) ?_
  replace h := getB_some h; obtain ⟨b1755, h1754, h⟩ := h
  refine W_sound tab_ok mixed 4 _ _ _ ?_
  simp -implicitDefEqProofs only [go_sem, Nat.reduceBEq, Nat.reduceAdd, Nat.reduceSub, Nat.reduceMul, Nat.reduceLT, h1754]
  repeat with_reducible refine And.intro (by first | kernel_rfl | decide) ?_
  simp only [Option.some.injEq, Prod.mk.injEq] at h; obtain ⟨rfl, rfl⟩ := h
  exact finD (st' := ⟨[], [(0, .dead), (1, .dead), (2, .dead), (3, .dead), (4, .dead), (5, .dead), (6, .dead), (10, .v (.bool b1755)), (11, .dead), (12, .dead), (16, .dead), (28, .dead), (29, .dead), (30, .dead), (31, .dead), (63, .dead)], [(0, .p [(.int .i64 x1742)]), (1, .r [.fn 78 [.ptr 2 0]]), (2, .p [(.int .i64 x1753)]), (3, .r [.v (.fn 999999 [.bool true])]), (4, .r [.fn 94 [.ptr 0 0, .ptr 1 0, .ptr 3 0, .ptr 4 0]])], 5, []⟩) (keepE_le [10] _) (OLe.refl _) (by kernel_rfl) (by simp only [go_sem, Nat.reduceBEq, resQ_tmp, resQ_nil, retD_one]; try simp [R.val, retD_one, retD_two, retD_three, retD_none])
 ·cases h
noncomputable def m94_6_A_L0 (N : Nat) (rec : Nat → Int → Int → List PV → Int → Int → List PV → Option ((PV × Int))) (n1894 : Nat) (x1895 : Int) (x1896 : Int) (c1897 : List PV) (x1898 : Int) (c1900 : List PV) : Nat → Int → Int → Option (((PV × Int) ⊕ Int))
 | 0, _, _ => none
 | n + 1, x1936, x1937 =>
  brn (decide (x1936 < (((Int.toNat x1898) : Nat) : Int))) (
   grd (0 ≤ x1936 ∧ x1936 < (((Int.toNat x1898) : Nat) : Int)) <|
   grd (((1 + (n1894 * 5)) + (Int.toNat x1936)) < List.length c1900) <|
   getI .i64 (gp c1900 ((1 + (n1894 * 5)) + (Int.toNat x1936))) fun x1943 =>
   brn ((bitsI .and .u64 (Int.fdiv x1895 (2 ^ (min (Int.toNat x1936) 64))) 1) == 0) (
    grd (0 ≤ x1943) <|
    brn ((bitsI .and .u64 (Int.fdiv x1896 (2 ^ (min (Int.toNat x1943) 64))) 1) == 0) (
     grd ((n1894 + 1) ≤ 1099511627776) <|
     grd (List.length c1897 = n1894) <|
     bnd' (rec (n1894 + 1) (bitsI .or .u64 x1895 (IntKind.u64.wrap (1 * 2 ^ (min (Int.toNat x1936) 64)))) (bitsI .or .u64 x1896 (IntKind.u64.wrap (1 * 2 ^ (min (Int.toNat x1943) 64)))) (c1897 ++ [(.int .i64 x1936)]) x1898 x1937 c1900) fun (p1949, x1951) =>
     getB p1949 fun b1953 =>
     brn b1953 (
      m94_6_A_L0 N rec n1894 x1895 x1896 c1897 x1898 c1900 n (IntKind.i64.wrap (x1936 + 1)) x1951) (
      some (.inl ((.bool false), x1951)))) (
     m94_6_A_L0 N rec n1894 x1895 x1896 c1897 x1898 c1900 n (IntKind.i64.wrap (x1936 + 1)) x1937)) (
    m94_6_A_L0 N rec n1894 x1895 x1896 c1897 x1898 c1900 n (IntKind.i64.wrap (x1936 + 1)) x1937)) (
   some (.inr x1937))
noncomputable def m94_6_A (N : Nat) (rec : Nat → Int → Int → List PV → Int → Int → List PV → Option ((PV × Int))) (n1894 : Nat) (x1895 : Int) (x1896 : Int) (c1897 : List PV) (x1898 : Int) (x1899 : Int) (c1900 : List PV) : Option ((PV × Int)) :=
 brn (((n1894 : Nat) : Int) == x1898) (
  bnd' (m56_2 N n1894 c1897) fun p1903 =>
  getL p1903 fun n1906 c1907 =>
  bnd' (m78 N (.lst false n1906 c1907) x1899) fun (p1908, x1910) =>
  getB p1908 fun b1912 =>
  some ((.bool b1912), x1910)) (
  grd (0 ≤ ((n1894 : Nat) : Int) ∧ ((n1894 : Nat) : Int) < 5) <|
  grd (0 ≤ x1898 ∧ x1898 ≤ 5 ∧ ((1 + (n1894 * 5)) + 5) ≤ List.length c1900) <|
  bnd' (m94_6_A_L0 N rec n1894 x1895 x1896 c1897 x1898 c1900 N 0 x1899) fun o =>
  match o with
  | .inl p1955 =>
   some p1955
  | .inr x1956 =>
   some ((.bool true), x1956))
noncomputable def m94_6_B_L0 (N : Nat) (rec : Nat → Int → Int → List PV → Int → Int → List PV → Option ((PV × Int))) (n1958 : Nat) (x1959 : Int) (x1960 : Int) (c1961 : List PV) (x1962 : Int) (c1964 : List PV) : Nat → Int → Int → Option (((PV × Int) ⊕ Int))
 | 0, _, _ => none
 | n + 1, x1999, x2000 =>
  brn (decide (x1999 < (((Int.toNat x1962) : Nat) : Int))) (
   grd (0 ≤ x1999 ∧ x1999 < (((Int.toNat x1962) : Nat) : Int)) <|
   grd (((1 + (n1958 * 5)) + (Int.toNat x1999)) < List.length c1964) <|
   getI .i64 (gp c1964 ((1 + (n1958 * 5)) + (Int.toNat x1999))) fun x2006 =>
   brn ((bitsI .and .u64 (Int.fdiv x1959 (2 ^ (min (Int.toNat x1999) 64))) 1) == 0) (
    grd (0 ≤ x2006) <|
    brn ((bitsI .and .u64 (Int.fdiv x1960 (2 ^ (min (Int.toNat x2006) 64))) 1) == 0) (
     bnd' (rec (n1958 + 1) (bitsI .or .u64 x1959 (IntKind.u64.wrap (1 * 2 ^ (min (Int.toNat x1999) 64)))) (bitsI .or .u64 x1960 (IntKind.u64.wrap (1 * 2 ^ (min (Int.toNat x2006) 64)))) (c1961 ++ [(.int .i64 x1999)]) x1962 x2000 c1964) fun (p2010, x2012) =>
     getB p2010 fun b2014 =>
     brn b2014 (
      m94_6_B_L0 N rec n1958 x1959 x1960 c1961 x1962 c1964 n (IntKind.i64.wrap (x1999 + 1)) x2012) (
      some (.inl ((.bool false), x2012)))) (
     m94_6_B_L0 N rec n1958 x1959 x1960 c1961 x1962 c1964 n (IntKind.i64.wrap (x1999 + 1)) x2000)) (
    m94_6_B_L0 N rec n1958 x1959 x1960 c1961 x1962 c1964 n (IntKind.i64.wrap (x1999 + 1)) x2000)) (
   some (.inr x2000))
noncomputable def m94_6_B (N : Nat) (rec : Nat → Int → Int → List PV → Int → Int → List PV → Option ((PV × Int))) (n1958 : Nat) (x1959 : Int) (x1960 : Int) (c1961 : List PV) (x1962 : Int) (x1963 : Int) (c1964 : List PV) : Option ((PV × Int)) :=
 grd (List.length c1961 = n1958) <|
 brn (((n1958 : Nat) : Int) == x1962) (
  bnd' (m56_3 N n1958 c1961) fun p1968 =>
  getL p1968 fun n1971 c1972 =>
  bnd' (m78 N (.lst false n1971 c1972) x1963) fun (p1973, x1975) =>
  getB p1973 fun b1977 =>
  some ((.bool b1977), x1975)) (
  grd (0 ≤ ((n1958 : Nat) : Int) ∧ ((n1958 : Nat) : Int) < 5) <|
  grd (0 ≤ x1962 ∧ x1962 ≤ 5 ∧ ((1 + (n1958 * 5)) + 5) ≤ List.length c1964) <|
  bnd' (m94_6_B_L0 N rec n1958 x1959 x1960 c1961 x1962 c1964 N 0 x1963) fun o =>
  match o with
  | .inl p2016 =>
   some p2016
  | .inr x2017 =>
   some ((.bool true), x2017))
noncomputable def m94_6 (N : Nat) : Nat → Nat → Int → Int → List PV → Int → Int → List PV → Option ((PV × Int))
 | 0, _, _, _, _, _, _, _ => none
 | fu + 1, n1886, x1887, x1888, c1889, x1890, x1891, c1892 => both (m94_6_A N (m94_6 N fu) n1886 x1887 x1888 c1889 x1890 x1891 c1892) (m94_6_B N (m94_6 N fu) n1886 x1887 x1888 c1889 x1890 x1891 c1892)
theorem c94_6_A (N : Nat) (rec : Nat → Int → Int → List PV → Int → Int → List PV → Option ((PV × Int))) (ih : ∀ (n1886 : Nat) (x1887 : Int) (x1888 : Int) (c1889 : List PV) (x1890 : Int) (x1891 : Int) (c1892 : List PV) (r : PV) (x1893 : Int) (h : rec n1886 x1887 x1888 c1889 x1890 x1891 c1892 = some (r, x1893)), V.Fn Tryd.prog 94 7 [.sl false 0 0 n1886 1, .v (.int .u64 x1887), .v (.int .u64 x1888), .ptr 1 0, .ptr 2 0, .ptr 4 0, .ptr 6 0] [(0, .p c1889), (1, .p [(.int .i64 x1890)]), (2, .r [.fn 78 [.ptr 3 0]]), (3, .p [(.int .i64 x1891)]), (4, .r [.ptr 5 0]), (5, .p c1892), (6, .r [.fn 94 [.ptr 1 0, .ptr 2 0, .ptr 4 0, .ptr 6 0]])] (fun d ob' => d = .v r ∧ ob' = [(0, .p c1889), (1, .p [(.int .i64 x1890)]), (2, .r [.fn 78 [.ptr 3 0]]), (3, .p [(.int .i64 x1893)]), (4, .r [.ptr 5 0]), (5, .p c1892), (6, .r [.fn 94 [.ptr 1 0, .ptr 2 0, .ptr 4 0, .ptr 6 0]])])) (n1894 : Nat) (x1895 : Int) (x1896 : Int) (c1897 : List PV) (x1898 : Int) (x1899 : Int) (c1900 : List PV) (r : PV) (x1901 : Int) (h : m94_6_A N rec n1894 x1895 x1896 c1897 x1898 x1899 c1900 = some (r, x1901)) : V.Fn Tryd.prog 94 7 [.sl true 0 0 n1894 1, .v (.int .u64 x1895), .v (.int .u64 x1896), .ptr 1 0, .ptr 2 0, .ptr 4 0, .ptr 6 0] [(0, .p c1897), (1, .p [(.int .i64 x1898)]), (2, .r [.fn 78 [.ptr 3 0]]), (3, .p [(.int .i64 x1899)]), (4, .r [.ptr 5 0]), (5, .p c1900), (6, .r [.fn 94 [.ptr 1 0, .ptr 2 0, .ptr 4 0, .ptr 6 0]])] (fun d ob' => d = .v r ∧ ob' = [(0, .p c1897), (1, .p [(.int .i64 x1898)]), (2, .r [.fn 78 [.ptr 3 0]]), (3, .p [(.int .i64 x1901)]), (4, .r [.ptr 5 0]), (5, .p c1900), (6, .r [.fn 94 [.ptr 1 0, .ptr 2 0, .ptr 4 0, .ptr 6 0]])]) := by
 unfold m94_6_A at h
 refine Fn_of (sz := 65) tab_ok [0, 1, 2, 3, 4, 5, 6, 10, 11, 12, 16, 28, 29, 30, 31, 63] [.tmp 10] Tryd.func94 rfl rfl rfl (by simp) ?_
 simp only [initSt, initEnv, List.getD_cons_zero, List.getD_cons_succ, List.getD_nil]
 replace h := brn_some h; rcases h with ⟨h1902, h⟩ | ⟨h1902, h⟩
 ·replace h := bnd'_some h; obtain ⟨p1903, h1904, h⟩ := h
  (try dsimp only at h)
  refine W_sound tab_ok mixed 17 _ _ _ ?_
  simp -implicitDefEqProofs only [go_sem, Nat.reduceBEq, Nat.reduceLT, ↓reduceIte, h1902]
  repeat with_reducible refine And.intro (by first | kernel_rfl | decide) ?_
  refine Wp_callD [0] (c56_2 N _ _ _ h1904) rfl rfl rfl (by first | rfl | (simp only [go_sem, Nat.reduceBEq, Nat.reduceAdd, Nat.reduceSub, Nat.reduceMul, Nat.reduceLT, Nat.reduceLeDiff, Int.reduceLE, Int.reduceLT, Int.reduceToNat, Int.reduceBEq, Int.reduceBNe, ↓reduceIte, h1902] <;> rfl)) rfl (by kernel_rfl) ?_
  replace h := getL_some h; obtain ⟨n1906, c1907, h1905, h⟩ := h
  replace h := bnd'_some h; obtain ⟨⟨p1908, x1910⟩, h1909, h⟩ := h
  (try dsimp only at h)
  (try simp -implicitDefEqProofs only [go_sem, Nat.reduceBEq, Nat.reduceAdd, Nat.reduceSub, Nat.reduceMul, Nat.reduceLT, h1905])
  refine Wp_callD [3] (c78 N _ _ _ _ h1909) rfl rfl rfl (by first | rfl | (simp only [go_sem, Nat.reduceBEq, Nat.reduceAdd, Nat.reduceSub, Nat.reduceMul, Nat.reduceLT, Nat.reduceLeDiff, Int.reduceLE, Int.reduceLT, Int.reduceToNat, Int.reduceBEq, Int.reduceBNe, ↓reduceIte, h1902, h1905] <;> rfl)) rfl (by kernel_rfl) ?_
  replace h := getB_some h; obtain ⟨b1912, h1911, h⟩ := h
  refine W_sound tab_ok mixed 4 _ _ _ ?_
  simp -implicitDefEqProofs only [go_sem, Nat.reduceBEq, Nat.reduceAdd, Nat.reduceSub, Nat.reduceMul, Nat.reduceLT, h1911]
  repeat with_reducible refine And.intro (by first | kernel_rfl | decide) ?_
  simp only [Option.some.injEq, Prod.mk.injEq] at h; obtain ⟨rfl, rfl⟩ := h
  exact finD (st' := ⟨[], [(0, .dead), (1, .dead), (2, .dead), (3, .dead), (4, .dead), (5, .dead), (6, .dead), (10, .v (.bool b1912)), (11, .dead), (12, .dead), (16, .dead), (28, .dead), (29, .dead), (30, .dead), (31, .dead), (63, .dead)], [(0, .p c1897), (1, .p [(.int .i64 x1898)]), (2, .r [.fn 78 [.ptr 3 0]]), (3, .p [(.int .i64 x1910)]), (4, .r [.ptr 5 0]), (5, .p c1900), (6, .r [.fn 94 [.ptr 1 0, .ptr 2 0, .ptr 4 0, .ptr 6 0]])], 7, []⟩) (keepE_le [10] _) (OLe.refl _) (by kernel_rfl) (by simp only [go_sem, Nat.reduceBEq, resQ_tmp, resQ_nil, retD_one]; try simp [R.val, retD_one, retD_two, retD_three, retD_none])
 ·replace h := grd_some h; obtain ⟨⟨g1913, g1914⟩, h⟩ := h
  replace h := grd_some h; obtain ⟨⟨g1915, g1916, g1917⟩, h⟩ := h
  refine W_sound tab_ok mixed 28 _ _ _ ?_
  simp -implicitDefEqProofs only [go_sem, Nat.reduceBEq, Nat.reduceSub, Nat.reduceLT, Nat.reduceLeDiff, ↓reduceIte, h1902, g1913, g1914, g1915, g1916, g1917]
  repeat with_reducible refine And.intro (by first | kernel_rfl | decide) ?_
  refine Wp_wkK Wk_norm rfl ?_
  simp -implicitDefEqProofs only [go_sem, normE]
  (try simp -implicitDefEqProofs only [go_sem, Nat.reduceBEq, Nat.reduceAdd, Nat.reduceSub, Nat.reduceMul, Nat.reduceLT, Nat.reduceLeDiff, Int.reduceLE, Int.reduceLT, Int.reduceToNat, Int.reduceBEq, Int.reduceBNe, ↓reduceIte, h1902, g1913, g1914, g1915, g1916, g1917])
  replace h := bnd'_some h; obtain ⟨o2019, h2020, h2021⟩ := h
  refine Wp_cut (fun s => ∃ x1956, (.inr x1956) = o2019 ∧ s = ⟨[], [(0, .dead), (1, .dead), (2, .dead), (3, .dead), (4, .dead), (5, .dead), (6, .dead), (10, .dead), (11, .dead), (12, .dead), (16, .dead), (28, .dead), (29, .dead), (30, .dead), (31, .dead), (63, .dead)], [(0, .p c1897), (1, .p [(.int .i64 x1898)]), (2, .r [.fn 78 [.ptr 3 0]]), (3, .p [(.int .i64 x1956)]), (4, .r [.ptr 5 0]), (5, .p c1900), (6, .r [.fn 94 [.ptr 1 0, .ptr 2 0, .ptr 4 0, .ptr 6 0]])], 7, []⟩) ?_ ?_
  ·refine Wp_block ?_
   refine Wp_loopG (fun n s => ∃ x1936, ∃ x1937, m94_6_A_L0 N rec n1894 x1895 x1896 c1897 x1898 c1900 n x1936 x1937 = some o2019 ∧ s = ⟨[], [(0, .sl true 0 0 n1894 1), (1, .v (.int .u64 x1895)), (2, .v (.int .u64 x1896)), (3, .dead), (4, .dead), (5, .dead), (6, .ptr 6 0), (10, .dead), (11, .dead), (12, .dead), (16, .dead), (28, .sl false 5 (1 + (n1894 * 5)) (Int.toNat x1898) 1), (29, .v (.int .i64 (((Int.toNat x1898) : Nat) : Int))), (30, .v (.int .i64 x1936)), (31, .dead), (63, .dead)], [(0, .p c1897), (1, .p [(.int .i64 x1898)]), (2, .r [.fn 78 [.ptr 3 0]]), (3, .p [(.int .i64 x1937)]), (4, .r [.ptr 5 0]), (5, .p c1900), (6, .r [.fn 94 [.ptr 1 0, .ptr 2 0, .ptr 4 0, .ptr 6 0]])], 7, []⟩) N _ ?_ ⟨_, _, h2020, rfl⟩ ?_
   ·exact Wk_keep [0, 1, 2, 6, 28, 29, 30] (by kernel_rfl)
   clear h2020
   rintro n _ ⟨x1936, x1937, h2020, rfl⟩
   cases n with
   | zero => cases h2020
   | succ n =>
    rw [m94_6_A_L0] at h2020
    replace h2020 := brn_some h2020; rcases h2020 with ⟨h1938, h2020⟩ | ⟨h1938, h2020⟩
    ·replace h2020 := grd_some h2020; obtain ⟨⟨g1939, g1940⟩, h2020⟩ := h2020
     replace h2020 := grd_some h2020; obtain ⟨g1941, h2020⟩ := h2020
     replace h2020 := getI_some h2020; obtain ⟨x1943, h1942, h2020⟩ := h2020
     replace h2020 := brn_some h2020; rcases h2020 with ⟨h1944, h2020⟩ | ⟨h1944, h2020⟩
     ·replace h2020 := grd_some h2020; obtain ⟨g1945, h2020⟩ := h2020
      replace h2020 := brn_some h2020; rcases h2020 with ⟨h1946, h2020⟩ | ⟨h1946, h2020⟩
      ·replace h2020 := grd_some h2020; obtain ⟨g1947, h2020⟩ := h2020
       replace h2020 := grd_some h2020; obtain ⟨g1948, h2020⟩ := h2020
       replace h2020 := bnd'_some h2020; obtain ⟨⟨p1949, x1951⟩, h1950, h2020⟩ := h2020
       (try dsimp only at h2020)
       refine W_sound tab_ok mixed 45 _ _ _ ?_
       simp -implicitDefEqProofs only [go_sem, Nat.reduceBEq, Nat.reduceAdd, Nat.reduceLT, Nat.reduceLeDiff, Int.reduceLE, Int.reduceToNat, ↓reduceIte, g1939, g1940, g1941, h1942, h1944, g1945, h1946, g1947, g1948]
       repeat with_reducible refine And.intro (by first | kernel_rfl | decide) ?_
       refine Wp_callD [59, 1, 2, 3, 4, 5, 6] (ih _ _ _ _ _ _ _ _ _ h1950) rfl rfl rfl (by first | rfl | (simp only [go_sem, Nat.reduceBEq, Nat.reduceAdd, Nat.reduceSub, Nat.reduceMul, Nat.reduceLT, Nat.reduceLeDiff, Int.reduceLE, Int.reduceLT, Int.reduceToNat, Int.reduceBEq, Int.reduceBNe, ↓reduceIte, h1902, g1913, g1914, g1915, g1916, g1917, h1938, g1939, g1940, g1941, h1942, h1944, g1945, h1946, g1947, g1948] <;> rfl)) rfl (by kernel_rfl) ?_
       replace h2020 := getB_some h2020; obtain ⟨b1953, h1952, h2020⟩ := h2020
       replace h2020 := brn_some h2020; rcases h2020 with ⟨h1954, h2020⟩ | ⟨h1954, h2020⟩
       ·refine W_sound tab_ok mixed 10 _ _ _ ?_
        simp -implicitDefEqProofs only [go_sem, Nat.reduceBEq, Nat.reduceAdd, Nat.reduceSub, Nat.reduceMul, Nat.reduceLT, Nat.reduceLeDiff, Int.reduceLE, Int.reduceToNat, ↓reduceIte, h1952, h1954]
        repeat with_reducible refine And.intro (by first | kernel_rfl | decide) ?_
        refine cutQ _ ?_ ⟨n, Nat.lt_succ_self n, _, _, h2020, rfl⟩
        exact Wk_keep [0, 1, 2, 6, 28, 29, 30] (by kernel_rfl)
       ·refine W_sound tab_ok mixed 10 _ _ _ ?_
        simp -implicitDefEqProofs only [go_sem, Nat.reduceBEq, Nat.reduceAdd, Nat.reduceSub, Nat.reduceMul, Nat.reduceLT, Nat.reduceLeDiff, h1952, h1954]
        repeat with_reducible refine And.intro (by first | kernel_rfl | decide) ?_
        obtain rfl := Option.some.inj h2020
        (try dsimp only at h2021)
        simp only [Option.some.injEq, Prod.mk.injEq] at h2021; obtain ⟨rfl, rfl⟩ := h2021
        exact finD (st' := ⟨[], [(0, .dead), (1, .dead), (2, .dead), (3, .dead), (4, .dead), (5, .dead), (6, .dead), (10, .v (.bool false)), (11, .dead), (12, .dead), (16, .dead), (28, .dead), (29, .dead), (30, .dead), (31, .dead), (63, .dead)], [(0, .p c1897), (1, .p [(.int .i64 x1898)]), (2, .r [.fn 78 [.ptr 3 0]]), (3, .p [(.int .i64 x1951)]), (4, .r [.ptr 5 0]), (5, .p c1900), (6, .r [.fn 94 [.ptr 1 0, .ptr 2 0, .ptr 4 0, .ptr 6 0]])], 7, []⟩) (keepE_le [10] _) (OLe.refl _) (by kernel_rfl) (by simp only [go_sem, Nat.reduceBEq, resQ_tmp, resQ_nil, retD_one]; try simp [R.val, retD_one, retD_two, retD_three, retD_none])
      ·refine W_sound tab_ok mixed 56 _ _ _ ?_
       simp -implicitDefEqProofs only [go_sem, Nat.reduceBEq, Nat.reduceLT, Int.reduceLE, Int.reduceToNat, ↓reduceIte, g1939, g1940, g1941, h1942, h1944, g1945, h1946]
       repeat with_reducible refine And.intro (by first | kernel_rfl | decide) ?_
       refine cutQ _ ?_ ⟨n, Nat.lt_succ_self n, _, _, h2020, rfl⟩
       exact Wk_keep [0, 1, 2, 6, 28, 29, 30] (by kernel_rfl)
     ·refine W_sound tab_ok mixed 56 _ _ _ ?_
      simp -implicitDefEqProofs only [go_sem, Nat.reduceBEq, Nat.reduceLT, Int.reduceLE, Int.reduceToNat, ↓reduceIte, g1939, g1940, g1941, h1942, h1944]
      repeat with_reducible refine And.intro (by first | kernel_rfl | decide) ?_
      refine cutQ _ ?_ ⟨n, Nat.lt_succ_self n, _, _, h2020, rfl⟩
      exact Wk_keep [0, 1, 2, 6, 28, 29, 30] (by kernel_rfl)
    ·refine W_sound tab_ok mixed 7 _ _ _ ?_
     simp -implicitDefEqProofs only [go_sem, Nat.reduceBEq, Nat.reduceLT, ↓reduceIte, h1938]
     repeat with_reducible refine And.intro (by first | kernel_rfl | decide) ?_
     obtain rfl := Option.some.inj h2020
     refine cutQ _ ?_ ⟨_, rfl, rfl⟩
     exact Wk_keep [] (by kernel_rfl)
  ·rintro _ ⟨x1956, rfl, rfl⟩
   (try dsimp only at h2021)
   refine W_sound tab_ok mixed 6 _ _ _ ?_
   simp -implicitDefEqProofs only [go_sem, Nat.reduceBEq, Nat.reduceLT]
   repeat with_reducible refine And.intro (by first | kernel_rfl | decide) ?_
   simp only [Option.some.injEq, Prod.mk.injEq] at h2021; obtain ⟨rfl, rfl⟩ := h2021
   exact finD (st' := ⟨[], [(0, .dead), (1, .dead), (2, .dead), (3, .dead), (4, .dead), (5, .dead), (6, .dead), (10, .v (.bool true)), (11, .dead), (12, .dead), (16, .dead), (28, .dead), (29, .dead), (30, .dead), (31, .dead), (63, .dead)], [(0, .p c1897), (1, .p [(.int .i64 x1898)]), (2, .r [.fn 78 [.ptr 3 0]]), (3, .p [(.int .i64 x1956)]), (4, .r [.ptr 5 0]), (5, .p c1900), (6, .r [.fn 94 [.ptr 1 0, .ptr 2 0, .ptr 4 0, .ptr 6 0]])], 7, []⟩) (keepE_le [10] _) (OLe.refl _) (by kernel_rfl) (by simp only [go_sem, Nat.reduceBEq, resQ_tmp, resQ_nil, retD_one]; try simp [R.val, retD_one, retD_two, retD_three, retD_none])
theorem c94_6_B (N : Nat) (rec : Nat → Int → Int → List PV → Int → Int → List PV → Option ((PV × Int))) (ih : ∀ (n1886 : Nat) (x1887 : Int) (x1888 : Int) (c1889 : List PV) (x1890 : Int) (x1891 : Int) (c1892 : List PV) (r : PV) (x1893 : Int) (h : rec n1886 x1887 x1888 c1889 x1890 x1891 c1892 = some (r, x1893)), V.Fn Tryd.prog 94 7 [.sl false 0 0 n1886 1, .v (.int .u64 x1887), .v (.int .u64 x1888), .ptr 1 0, .ptr 2 0, .ptr 4 0, .ptr 6 0] [(0, .p c1889), (1, .p [(.int .i64 x1890)]), (2, .r [.fn 78 [.ptr 3 0]]), (3, .p [(.int .i64 x1891)]), (4, .r [.ptr 5 0]), (5, .p c1892), (6, .r [.fn 94 [.ptr 1 0, .ptr 2 0, .ptr 4 0, .ptr 6 0]])] (fun d ob' => d = .v r ∧ ob' = [(0, .p c1889), (1, .p [(.int .i64 x1890)]), (2, .r [.fn 78 [.ptr 3 0]]), (3, .p [(.int .i64 x1893)]), (4, .r [.ptr 5 0]), (5, .p c1892), (6, .r [.fn 94 [.ptr 1 0, .ptr 2 0, .ptr 4 0, .ptr 6 0]])])) (n1958 : Nat) (x1959 : Int) (x1960 : Int) (c1961 : List PV) (x1962 : Int) (x1963 : Int) (c1964 : List PV) (r : PV) (x1965 : Int) (h : m94_6_B N rec n1958 x1959 x1960 c1961 x1962 x1963 c1964 = some (r, x1965)) : V.Fn Tryd.prog 94 7 [.slr 0 0 n1958 (n1958 + 1) 1, .v (.int .u64 x1959), .v (.int .u64 x1960), .ptr 1 0, .ptr 2 0, .ptr 4 0, .ptr 6 0] [(0, .p c1961), (1, .p [(.int .i64 x1962)]), (2, .r [.fn 78 [.ptr 3 0]]), (3, .p [(.int .i64 x1963)]), (4, .r [.ptr 5 0]), (5, .p c1964), (6, .r [.fn 94 [.ptr 1 0, .ptr 2 0, .ptr 4 0, .ptr 6 0]])] (fun d ob' => d = .v r ∧ ob' = [(0, .p c1961), (1, .p [(.int .i64 x1962)]), (2, .r [.fn 78 [.ptr 3 0]]), (3, .p [(.int .i64 x1965)]), (4, .r [.ptr 5 0]), (5, .p c1964), (6, .r [.fn 94 [.ptr 1 0, .ptr 2 0, .ptr 4 0, .ptr 6 0]])]) := by
 unfold m94_6_B at h
 refine Fn_of (sz := 65) tab_ok [0, 1, 2, 3, 4, 5, 6, 10, 11, 12, 16, 28, 29, 30, 31, 63] [.tmp 10] Tryd.func94 rfl rfl rfl (by simp) ?_
 simp only [initSt, initEnv, List.getD_cons_zero, List.getD_cons_succ, List.getD_nil]
 replace h := grd_some h; obtain ⟨g1966, h⟩ := h
 replace h := brn_some h; rcases h with ⟨h1967, h⟩ | ⟨h1967, h⟩
 ·replace h := bnd'_some h; obtain ⟨p1968, h1969, h⟩ := h
  (try dsimp only at h)
  refine W_sound tab_ok mixed 17 _ _ _ ?_
  simp -implicitDefEqProofs only [go_sem, Nat.reduceBEq, Nat.reduceLT, ↓reduceIte, h1967]
  repeat with_reducible refine And.intro (by first | kernel_rfl | decide) ?_
  refine Wp_callD [0] (Fn_slr (room := (n1958 + 1)) (c56_3 N _ _ _ h1969)) rfl rfl rfl (by first | rfl | (simp only [go_sem, Nat.reduceBEq, Nat.reduceAdd, Nat.reduceSub, Nat.reduceMul, Nat.reduceLT, Nat.reduceLeDiff, Int.reduceLE, Int.reduceLT, Int.reduceToNat, Int.reduceBEq, Int.reduceBNe, ↓reduceIte, g1966, h1967] <;> rfl)) rfl (by kernel_rfl) ?_
  replace h := getL_some h; obtain ⟨n1971, c1972, h1970, h⟩ := h
  replace h := bnd'_some h; obtain ⟨⟨p1973, x1975⟩, h1974, h⟩ := h
  (try dsimp only at h)
  (try simp -implicitDefEqProofs only [go_sem, Nat.reduceBEq, Nat.reduceAdd, Nat.reduceSub, Nat.reduceMul, Nat.reduceLT, h1970])
  refine Wp_callD [3] (c78 N _ _ _ _ h1974) rfl rfl rfl (by first | rfl | (simp only [go_sem, Nat.reduceBEq, Nat.reduceAdd, Nat.reduceSub, Nat.reduceMul, Nat.reduceLT, Nat.reduceLeDiff, Int.reduceLE, Int.reduceLT, Int.reduceToNat, Int.reduceBEq, Int.reduceBNe, ↓reduceIte, g1966, h1967, h1970] <;> rfl)) rfl (by kernel_rfl) ?_
  replace h := getB_some h; obtain ⟨b1977, h1976, h⟩ := h
  refine W_sound tab_ok mixed 4 _ _ _ ?_
  simp -implicitDefEqProofs only [go_sem, Nat.reduceBEq, Nat.reduceAdd, Nat.reduceSub, Nat.reduceMul, Nat.reduceLT, h1976]
  repeat with_reducible refine And.intro (by first | kernel_rfl | decide) ?_
  simp only [Option.some.injEq, Prod.mk.injEq] at h; obtain ⟨rfl, rfl⟩ := h
  exact finD (st' := ⟨[], [(0, .dead), (1, .dead), (2, .dead), (3, .dead), (4, .dead), (5, .dead), (6, .dead), (10, .v (.bool b1977)), (11, .dead), (12, .dead), (16, .dead), (28, .dead), (29, .dead), (30, .dead), (31, .dead), (63, .dead)], [(0, .p c1961), (1, .p [(.int .i64 x1962)]), (2, .r [.fn 78 [.ptr 3 0]]), (3, .p [(.int .i64 x1975)]), (4, .r [.ptr 5 0]), (5, .p c1964), (6, .r [.fn 94 [.ptr 1 0, .ptr 2 0, .ptr 4 0, .ptr 6 0]])], 7, []⟩) (keepE_le [10] _) (OLe.refl _) (by kernel_rfl) (by simp only [go_sem, Nat.reduceBEq, resQ_tmp, resQ_nil, retD_one]; try simp [R.val, retD_one, retD_two, retD_three, retD_none])
 ·replace h := grd_some h; obtain ⟨⟨g1978, g1979⟩, h⟩ := h
  replace h := grd_some h; obtain ⟨⟨g1980, g1981, g1982⟩, h⟩ := h
  refine W_sound tab_ok mixed 28 _ _ _ ?_
  simp -implicitDefEqProofs only [go_sem, Nat.reduceBEq, Nat.reduceSub, Nat.reduceLT, Nat.reduceLeDiff, ↓reduceIte, h1967, g1978, g1979, g1980, g1981, g1982]
  repeat with_reducible refine And.intro (by first | kernel_rfl | decide) ?_
  refine Wp_wkK (Wk_normX 0) rfl ?_
  simp -implicitDefEqProofs only [go_sem, normX]
  (try simp -implicitDefEqProofs only [go_sem, Nat.reduceBEq, Nat.reduceAdd, Nat.reduceSub, Nat.reduceMul, Nat.reduceLT, Nat.reduceLeDiff, Int.reduceLE, Int.reduceLT, Int.reduceToNat, Int.reduceBEq, Int.reduceBNe, ↓reduceIte, g1966, h1967, g1978, g1979, g1980, g1981, g1982])
  replace h := bnd'_some h; obtain ⟨o2022, h2023, h2024⟩ := h
  refine Wp_cut (fun s => ∃ x2017, (.inr x2017) = o2022 ∧ s = ⟨[], [(0, .dead), (1, .dead), (2, .dead), (3, .dead), (4, .dead), (5, .dead), (6, .dead), (10, .dead), (11, .dead), (12, .dead), (16, .dead), (28, .dead), (29, .dead), (30, .dead), (31, .dead), (63, .dead)], [(0, .p c1961), (1, .p [(.int .i64 x1962)]), (2, .r [.fn 78 [.ptr 3 0]]), (3, .p [(.int .i64 x2017)]), (4, .r [.ptr 5 0]), (5, .p c1964), (6, .r [.fn 94 [.ptr 1 0, .ptr 2 0, .ptr 4 0, .ptr 6 0]])], 7, []⟩) ?_ ?_
  ·refine Wp_block ?_
   refine Wp_loopG (fun n s => ∃ x1999, ∃ x2000, m94_6_B_L0 N rec n1958 x1959 x1960 c1961 x1962 c1964 n x1999 x2000 = some o2022 ∧ s = ⟨[], [(0, .slr 0 0 n1958 (n1958 + 1) 1), (1, .v (.int .u64 x1959)), (2, .v (.int .u64 x1960)), (3, .dead), (4, .dead), (5, .dead), (6, .ptr 6 0), (10, .dead), (11, .dead), (12, .dead), (16, .dead), (28, .sl false 5 (1 + (n1958 * 5)) (Int.toNat x1962) 1), (29, .v (.int .i64 (((Int.toNat x1962) : Nat) : Int))), (30, .v (.int .i64 x1999)), (31, .dead), (63, .dead)], [(0, .p c1961), (1, .p [(.int .i64 x1962)]), (2, .r [.fn 78 [.ptr 3 0]]), (3, .p [(.int .i64 x2000)]), (4, .r [.ptr 5 0]), (5, .p c1964), (6, .r [.fn 94 [.ptr 1 0, .ptr 2 0, .ptr 4 0, .ptr 6 0]])], 7, []⟩) N _ ?_ ⟨_, _, h2023, rfl⟩ ?_
   ·exact Wk_keep [0, 1, 2, 6, 28, 29, 30] (by kernel_rfl)
   clear h2023
   rintro n _ ⟨x1999, x2000, h2023, rfl⟩
   cases n with
   | zero => cases h2023
   | succ n =>
    rw [m94_6_B_L0] at h2023
    replace h2023 := brn_some h2023; rcases h2023 with ⟨h2001, h2023⟩ | ⟨h2001, h2023⟩
    ·replace h2023 := grd_some h2023; obtain ⟨⟨g2002, g2003⟩, h2023⟩ := h2023
     replace h2023 := grd_some h2023; obtain ⟨g2004, h2023⟩ := h2023
     replace h2023 := getI_some h2023; obtain ⟨x2006, h2005, h2023⟩ := h2023
     replace h2023 := brn_some h2023; rcases h2023 with ⟨h2007, h2023⟩ | ⟨h2007, h2023⟩
     ·replace h2023 := grd_some h2023; obtain ⟨g2008, h2023⟩ := h2023
      replace h2023 := brn_some h2023; rcases h2023 with ⟨h2009, h2023⟩ | ⟨h2009, h2023⟩
      ·replace h2023 := bnd'_some h2023; obtain ⟨⟨p2010, x2012⟩, h2011, h2023⟩ := h2023
       (try dsimp only at h2023)
       refine W_sound tab_ok mixed 45 _ _ _ ?_
       simp -implicitDefEqProofs only [go_sem, Nat.reduceBEq, Nat.reduceAdd, Nat.reduceLT, Nat.reduceLeDiff, Int.reduceLE, Int.reduceToNat, ↓reduceIte, g1966, g2002, g2003, g2004, h2005, h2007, g2008, h2009, (extO_app g1966), (set_app g1966)]
       repeat with_reducible refine And.intro (by first | kernel_rfl | decide) ?_
       refine Wp_callD [0, 1, 2, 3, 4, 5, 6] (Fn_slr (room := (n1958 + 1)) (ih _ _ _ _ _ _ _ _ _ h2011)) rfl rfl rfl (by first | rfl | (simp only [go_sem, Nat.reduceBEq, Nat.reduceAdd, Nat.reduceSub, Nat.reduceMul, Nat.reduceLT, Nat.reduceLeDiff, Int.reduceLE, Int.reduceLT, Int.reduceToNat, Int.reduceBEq, Int.reduceBNe, ↓reduceIte, g1966, h1967, g1978, g1979, g1980, g1981, g1982, h2001, g2002, g2003, g2004, h2005, h2007, g2008, h2009, (extO_app g1966), (set_app g1966), (cutB_app g1966)] <;> rfl)) rfl (by kernel_rfl) ?_
       replace h2023 := getB_some h2023; obtain ⟨b2014, h2013, h2023⟩ := h2023
       replace h2023 := brn_some h2023; rcases h2023 with ⟨h2015, h2023⟩ | ⟨h2015, h2023⟩
       ·refine W_sound tab_ok mixed 3 _ _ _ ?_
        simp -implicitDefEqProofs only [go_sem, Nat.reduceBEq, Nat.reduceAdd, Nat.reduceSub, Nat.reduceMul, Nat.reduceLT, Nat.reduceLeDiff, h2013, h2015]
        repeat with_reducible refine And.intro (by first | kernel_rfl | decide) ?_
        refine Wp_wkK (Wk_trim 0 n1958) rfl ?_
        simp -implicitDefEqProofs only [go_sem, Nat.reduceBEq, trimO, (cutB_app g1966), trimO]
        refine W_sound tab_ok mixed 7 _ _ _ ?_
        simp -implicitDefEqProofs only [go_sem, Nat.reduceBEq, Nat.reduceLT, Int.reduceLE, Int.reduceToNat, ↓reduceIte]
        repeat with_reducible refine And.intro (by first | kernel_rfl | decide) ?_
        refine cutQ _ ?_ ⟨n, Nat.lt_succ_self n, _, _, h2023, rfl⟩
        exact Wk_keep [0, 1, 2, 6, 28, 29, 30] (by kernel_rfl)
       ·refine W_sound tab_ok mixed 3 _ _ _ ?_
        simp -implicitDefEqProofs only [go_sem, Nat.reduceBEq, Nat.reduceAdd, Nat.reduceSub, Nat.reduceMul, Nat.reduceLT, Nat.reduceLeDiff, h2013, h2015]
        repeat with_reducible refine And.intro (by first | kernel_rfl | decide) ?_
        refine Wp_wkK (Wk_trim 0 n1958) rfl ?_
        simp -implicitDefEqProofs only [go_sem, Nat.reduceBEq, trimO, (cutB_app g1966), trimO]
        refine W_sound tab_ok mixed 7 _ _ _ ?_
        simp -implicitDefEqProofs only [go_sem, Nat.reduceBEq, Nat.reduceLT]
        repeat with_reducible refine And.intro (by first | kernel_rfl | decide) ?_
        obtain rfl := Option.some.inj h2023
        (try dsimp only at h2024)
        simp only [Option.some.injEq, Prod.mk.injEq] at h2024; obtain ⟨rfl, rfl⟩ := h2024
        exact finD (st' := ⟨[], [(0, .dead), (1, .dead), (2, .dead), (3, .dead), (4, .dead), (5, .dead), (6, .dead), (10, .v (.bool false)), (11, .dead), (12, .dead), (16, .dead), (28, .dead), (29, .dead), (30, .dead), (31, .dead), (63, .dead)], [(0, .p c1961), (1, .p [(.int .i64 x1962)]), (2, .r [.fn 78 [.ptr 3 0]]), (3, .p [(.int .i64 x2012)]), (4, .r [.ptr 5 0]), (5, .p c1964), (6, .r [.fn 94 [.ptr 1 0, .ptr 2 0, .ptr 4 0, .ptr 6 0]])], 7, []⟩) (keepE_le [10] _) (OLe.refl _) (by kernel_rfl) (by simp only [go_sem, Nat.reduceBEq, resQ_tmp, resQ_nil, retD_one]; try simp [R.val, retD_one, retD_two, retD_three, retD_none])
      ·refine W_sound tab_ok mixed 56 _ _ _ ?_
       simp -implicitDefEqProofs only [go_sem, Nat.reduceBEq, Nat.reduceLT, Int.reduceLE, Int.reduceToNat, ↓reduceIte, g2002, g2003, g2004, h2005, h2007, g2008, h2009]
       repeat with_reducible refine And.intro (by first | kernel_rfl | decide) ?_
       refine cutQ _ ?_ ⟨n, Nat.lt_succ_self n, _, _, h2023, rfl⟩
       exact Wk_keep [0, 1, 2, 6, 28, 29, 30] (by kernel_rfl)
     ·refine W_sound tab_ok mixed 56 _ _ _ ?_
      simp -implicitDefEqProofs only [go_sem, Nat.reduceBEq, Nat.reduceLT, Int.reduceLE, Int.reduceToNat, ↓reduceIte, g2002, g2003, g2004, h2005, h2007]
      repeat with_reducible refine And.intro (by first | kernel_rfl | decide) ?_
      refine cutQ _ ?_ ⟨n, Nat.lt_succ_self n, _, _, h2023, rfl⟩
      exact Wk_keep [0, 1, 2, 6, 28, 29, 30] (by kernel_rfl)
    ·refine W_sound tab_ok mixed 7 _ _ _ ?_
     simp -implicitDefEqProofs only [go_sem, Nat.reduceBEq, Nat.reduceLT, ↓reduceIte, h2001]
     repeat with_reducible refine And.intro (by first | kernel_rfl | decide) ?_
     obtain rfl := Option.some.inj h2023
     refine cutQ _ ?_ ⟨_, rfl, rfl⟩
     exact Wk_keep [] (by kernel_rfl)
  ·rintro _ ⟨x2017, rfl, rfl⟩
   (try dsimp only at h2024)
   refine W_sound tab_ok mixed 6 _ _ _ ?_
   simp -implicitDefEqProofs only [go_sem, Nat.reduceBEq, Nat.reduceLT]
   repeat with_reducible refine And.intro (by first | kernel_rfl | decide) ?_
   simp only [Option.some.injEq, Prod.mk.injEq] at h2024; obtain ⟨rfl, rfl⟩ := h2024
   exact finD (st' := ⟨[], [(0, .dead), (1, .dead), (2, .dead), (3, .dead), (4, .dead), (5, .dead), (6, .dead), (10, .v (.bool true)), (11, .dead), (12, .dead), (16, .dead), (28, .dead), (29, .dead), (30, .dead), (31, .dead), (63, .dead)], [(0, .p c1961), (1, .p [(.int .i64 x1962)]), (2, .r [.fn 78 [.ptr 3 0]]), (3, .p [(.int .i64 x2017)]), (4, .r [.ptr 5 0]), (5, .p c1964), (6, .r [.fn 94 [.ptr 1 0, .ptr 2 0, .ptr 4 0, .ptr 6 0]])], 7, []⟩) (keepE_le [10] _) (OLe.refl _) (by kernel_rfl) (by simp only [go_sem, Nat.reduceBEq, resQ_tmp, resQ_nil, retD_one]; try simp [R.val, retD_one, retD_two, retD_three, retD_none])
theorem c94_6 (N : Nat) : ∀ (fu : Nat) (n1886 : Nat) (x1887 : Int) (x1888 : Int) (c1889 : List PV) (x1890 : Int) (x1891 : Int) (c1892 : List PV) (r : PV) (x1893 : Int) (h : m94_6 N fu n1886 x1887 x1888 c1889 x1890 x1891 c1892 = some (r, x1893)), V.Fn Tryd.prog 94 7 [.sl false 0 0 n1886 1, .v (.int .u64 x1887), .v (.int .u64 x1888), .ptr 1 0, .ptr 2 0, .ptr 4 0, .ptr 6 0] [(0, .p c1889), (1, .p [(.int .i64 x1890)]), (2, .r [.fn 78 [.ptr 3 0]]), (3, .p [(.int .i64 x1891)]), (4, .r [.ptr 5 0]), (5, .p c1892), (6, .r [.fn 94 [.ptr 1 0, .ptr 2 0, .ptr 4 0, .ptr 6 0]])] (fun d ob' => d = .v r ∧ ob' = [(0, .p c1889), (1, .p [(.int .i64 x1890)]), (2, .r [.fn 78 [.ptr 3 0]]), (3, .p [(.int .i64 x1893)]), (4, .r [.ptr 5 0]), (5, .p c1892), (6, .r [.fn 94 [.ptr 1 0, .ptr 2 0, .ptr 4 0, .ptr 6 0]])]) := by
 intro fu
 induction fu with
 | zero => intro n1886 x1887 x1888 c1889 x1890 x1891 c1892 r x1893 h; cases h
 | succ fu ih =>
  intro n1886 x1887 x1888 c1889 x1890 x1891 c1892 r x1893 h
  rw [m94_6] at h
  obtain ⟨h1, h2⟩ := both_some h
  exact Fn_split rfl (c94_6_A N _ ih n1886 x1887 x1888 c1889 x1890 x1891 c1892 r x1893 h1) (c94_6_B N _ ih n1886 x1887 x1888 c1889 x1890 x1891 c1892 r x1893 h2)
noncomputable def m94_5_L0 (N : Nat) (x2051 : Int) (x2052 : Int) (x2053 : Int) (c2055 : List PV) : Nat → Int → Int → Option (((PV × Int) ⊕ Int))
 | 0, _, _ => none
 | n + 1, x2087, x2088 =>
  brn (decide (x2087 < (((Int.toNat x2053) : Nat) : Int))) (
   grd (0 ≤ x2087 ∧ x2087 < (((Int.toNat x2053) : Nat) : Int)) <|
   grd ((1 + (Int.toNat x2087)) < List.length c2055) <|
   getI .i64 (gp c2055 (1 + (Int.toNat x2087))) fun x2094 =>
   brn ((bitsI .and .u64 (Int.fdiv x2051 (2 ^ (min (Int.toNat x2087) 64))) 1) == 0) (
    grd (0 ≤ x2094) <|
    brn ((bitsI .and .u64 (Int.fdiv x2052 (2 ^ (min (Int.toNat x2094) 64))) 1) == 0) (
     bnd' (m94_6 N N 1 (bitsI .or .u64 x2051 (IntKind.u64.wrap (1 * 2 ^ (min (Int.toNat x2087) 64)))) (bitsI .or .u64 x2052 (IntKind.u64.wrap (1 * 2 ^ (min (Int.toNat x2094) 64)))) [(.int .i64 x2087)] x2053 x2088 c2055) fun (p2098, x2100) =>
     getB p2098 fun b2102 =>
     brn b2102 (
      m94_5_L0 N x2051 x2052 x2053 c2055 n (IntKind.i64.wrap (x2087 + 1)) x2100) (
      some (.inl ((.bool false), x2100)))) (
     m94_5_L0 N x2051 x2052 x2053 c2055 n (IntKind.i64.wrap (x2087 + 1)) x2088)) (
    m94_5_L0 N x2051 x2052 x2053 c2055 n (IntKind.i64.wrap (x2087 + 1)) x2088)) (
   some (.inr x2088))
noncomputable def m94_5 (N : Nat) (x2051 : Int) (x2052 : Int) (x2053 : Int) (x2054 : Int) (c2055 : List PV) : Option ((PV × Int)) :=
 brn (0 == x2053) (
  bnd' (m56 N (.lst false 0 [])) fun p2058 =>
  getL p2058 fun n2061 c2062 =>
  bnd' (m78 N (.lst false n2061 c2062) x2054) fun (p2063, x2065) =>
  getB p2063 fun b2067 =>
  some ((.bool b2067), x2065)) (
  grd (0 ≤ x2053 ∧ x2053 ≤ 5 ∧ 6 ≤ List.length c2055) <|
  bnd' (m94_5_L0 N x2051 x2052 x2053 c2055 N 0 x2054) fun o =>
  match o with
  | .inl p2104 =>
   some p2104
  | .inr x2105 =>
   some ((.bool true), x2105))
theorem c94_5 (N : Nat) (x2051 : Int) (x2052 : Int) (x2053 : Int) (x2054 : Int) (c2055 : List PV) (r : PV) (x2107 : Int) (h : m94_5 N x2051 x2052 x2053 x2054 c2055 = some (r, x2107)) : V.Fn Tryd.prog 94 6 [.v .nl, .v (.int .u64 x2051), .v (.int .u64 x2052), .ptr 0 0, .ptr 1 0, .ptr 3 0, .ptr 5 0] [(0, .p [(.int .i64 x2053)]), (1, .r [.fn 78 [.ptr 2 0]]), (2, .p [(.int .i64 x2054)]), (3, .r [.ptr 4 0]), (4, .p c2055), (5, .r [.fn 94 [.ptr 0 0, .ptr 1 0, .ptr 3 0, .ptr 5 0]])] (fun d ob' => d = .v r ∧ ob' = [(0, .p [(.int .i64 x2053)]), (1, .r [.fn 78 [.ptr 2 0]]), (2, .p [(.int .i64 x2107)]), (3, .r [.ptr 4 0]), (4, .p c2055), (5, .r [.fn 94 [.ptr 0 0, .ptr 1 0, .ptr 3 0, .ptr 5 0]])]) := by
 unfold m94_5 at h
 refine Fn_of (sz := 65) tab_ok [0, 1, 2, 3, 4, 5, 6, 10, 11, 12, 16, 28, 29, 30, 31, 63] [.tmp 10] Tryd.func94 rfl rfl rfl (by simp) ?_
 simp only [initSt, initEnv, List.getD_cons_zero, List.getD_cons_succ, List.getD_nil]
 replace h := brn_some h; rcases h with ⟨h2057, h⟩ | ⟨h2057, h⟩
 ·replace h := bnd'_some h; obtain ⟨p2058, h2059, h⟩ := h
  refine W_sound tab_ok mixed 17 _ _ _ ?_
  simp -implicitDefEqProofs only [go_sem, Nat.reduceBEq, Nat.reduceLT, ↓reduceIte, h2057]
  repeat with_reducible refine And.intro (by first | kernel_rfl | decide) ?_
  refine Wp_callP (FnP_le (c56 N _ _ h2059) (.cons _ _ _ _ (.nl false) .nil) (.refl _)) (by kernel_rfl) rfl rfl rfl rfl (by decide) ?_
  replace h := getL_some h; obtain ⟨n2061, c2062, h2060, h⟩ := h
  replace h := bnd'_some h; obtain ⟨⟨p2063, x2065⟩, h2064, h⟩ := h
  (try dsimp only at h)
  (try simp -implicitDefEqProofs only [go_sem, h2060])
  refine Wp_callD [2] (c78 N _ _ _ _ h2064) rfl rfl rfl (by first | rfl | (simp only [go_sem, Nat.reduceBEq, Nat.reduceAdd, Nat.reduceSub, Nat.reduceMul, Nat.reduceLT, Nat.reduceLeDiff, Int.reduceLE, Int.reduceLT, Int.reduceToNat, Int.reduceBEq, Int.reduceBNe, ↓reduceIte, h2057, h2060] <;> rfl)) rfl (by kernel_rfl) ?_
  replace h := getB_some h; obtain ⟨b2067, h2066, h⟩ := h
  refine W_sound tab_ok mixed 4 _ _ _ ?_
  simp -implicitDefEqProofs only [go_sem, Nat.reduceBEq, Nat.reduceAdd, Nat.reduceSub, Nat.reduceMul, Nat.reduceLT, h2066]
  repeat with_reducible refine And.intro (by first | kernel_rfl | decide) ?_
  simp only [Option.some.injEq, Prod.mk.injEq] at h; obtain ⟨rfl, rfl⟩ := h
  exact finD (st' := ⟨[], [(0, .dead), (1, .dead), (2, .dead), (3, .dead), (4, .dead), (5, .dead), (6, .dead), (10, .v (.bool b2067)), (11, .dead), (12, .dead), (16, .dead), (28, .dead), (29, .dead), (30, .dead), (31, .dead), (63, .dead)], [(0, .p [(.int .i64 x2053)]), (1, .r [.fn 78 [.ptr 2 0]]), (2, .p [(.int .i64 x2065)]), (3, .r [.ptr 4 0]), (4, .p c2055), (5, .r [.fn 94 [.ptr 0 0, .ptr 1 0, .ptr 3 0, .ptr 5 0]])], 6, []⟩) (keepE_le [10] _) (OLe.refl _) (by kernel_rfl) (by simp only [go_sem, Nat.reduceBEq, resQ_tmp, resQ_nil, retD_one]; try simp [R.val, retD_one, retD_two, retD_three, retD_none])
 ·replace h := grd_some h; obtain ⟨⟨g2068, g2069, g2070⟩, h⟩ := h
  refine W_sound tab_ok mixed 28 _ _ _ ?_
  simp -implicitDefEqProofs only [go_sem, Nat.reduceBEq, Nat.reduceAdd, Nat.reduceSub, Nat.reduceMul, Nat.reduceLT, Nat.reduceLeDiff, Int.reduceLT, ↓reduceIte, h2057, g2068, g2069, g2070]
  repeat with_reducible refine And.intro (by first | kernel_rfl | decide) ?_
  refine Wp_wkK Wk_norm rfl ?_
  simp -implicitDefEqProofs only [go_sem, normE]
  (try simp -implicitDefEqProofs only [go_sem, Nat.reduceBEq, Nat.reduceAdd, Nat.reduceSub, Nat.reduceMul, Nat.reduceLT, Nat.reduceLeDiff, Int.reduceLE, Int.reduceLT, Int.reduceToNat, Int.reduceBEq, Int.reduceBNe, ↓reduceIte, h2057, g2068, g2069, g2070])
  replace h := bnd'_some h; obtain ⟨o2108, h2109, h2110⟩ := h
  refine Wp_cut (fun s => ∃ x2105, (.inr x2105) = o2108 ∧ s = ⟨[], [(0, .dead), (1, .dead), (2, .dead), (3, .dead), (4, .dead), (5, .dead), (6, .dead), (10, .dead), (11, .dead), (12, .dead), (16, .dead), (28, .dead), (29, .dead), (30, .dead), (31, .dead), (63, .dead)], [(0, .p [(.int .i64 x2053)]), (1, .r [.fn 78 [.ptr 2 0]]), (2, .p [(.int .i64 x2105)]), (3, .r [.ptr 4 0]), (4, .p c2055), (5, .r [.fn 94 [.ptr 0 0, .ptr 1 0, .ptr 3 0, .ptr 5 0]])], 6, []⟩) ?_ ?_
  ·refine Wp_block ?_
   refine Wp_loopG (fun n s => ∃ x2087, ∃ x2088, m94_5_L0 N x2051 x2052 x2053 c2055 n x2087 x2088 = some o2108 ∧ s = ⟨[], [(0, .v .nl), (1, .v (.int .u64 x2051)), (2, .v (.int .u64 x2052)), (3, .dead), (4, .dead), (5, .dead), (6, .ptr 5 0), (10, .dead), (11, .dead), (12, .dead), (16, .dead), (28, .sl false 4 1 (Int.toNat x2053) 1), (29, .v (.int .i64 (((Int.toNat x2053) : Nat) : Int))), (30, .v (.int .i64 x2087)), (31, .dead), (63, .dead)], [(0, .p [(.int .i64 x2053)]), (1, .r [.fn 78 [.ptr 2 0]]), (2, .p [(.int .i64 x2088)]), (3, .r [.ptr 4 0]), (4, .p c2055), (5, .r [.fn 94 [.ptr 0 0, .ptr 1 0, .ptr 3 0, .ptr 5 0]])], 6, []⟩) N _ ?_ ⟨_, _, h2109, rfl⟩ ?_
   ·exact Wk_keep [0, 1, 2, 6, 28, 29, 30] (by kernel_rfl)
   clear h2109
   rintro n _ ⟨x2087, x2088, h2109, rfl⟩
   cases n with
   | zero => cases h2109
   | succ n =>
    rw [m94_5_L0] at h2109
    replace h2109 := brn_some h2109; rcases h2109 with ⟨h2089, h2109⟩ | ⟨h2089, h2109⟩
    ·replace h2109 := grd_some h2109; obtain ⟨⟨g2090, g2091⟩, h2109⟩ := h2109
     replace h2109 := grd_some h2109; obtain ⟨g2092, h2109⟩ := h2109
     replace h2109 := getI_some h2109; obtain ⟨x2094, h2093, h2109⟩ := h2109
     replace h2109 := brn_some h2109; rcases h2109 with ⟨h2095, h2109⟩ | ⟨h2095, h2109⟩
     ·replace h2109 := grd_some h2109; obtain ⟨g2096, h2109⟩ := h2109
      replace h2109 := brn_some h2109; rcases h2109 with ⟨h2097, h2109⟩ | ⟨h2097, h2109⟩
      ·replace h2109 := bnd'_some h2109; obtain ⟨⟨p2098, x2100⟩, h2099, h2109⟩ := h2109
       (try dsimp only at h2109)
       refine W_sound tab_ok mixed 45 _ _ _ ?_
       simp -implicitDefEqProofs only [go_sem, Nat.reduceBEq, Nat.reduceAdd, Nat.reduceLT, Nat.reduceLeDiff, Int.reduceLE, Int.reduceToNat, ↓reduceIte, g2090, g2091, g2092, h2093, h2095, g2096, h2097]
       repeat with_reducible refine And.intro (by first | kernel_rfl | decide) ?_
       refine Wp_callD [58, 0, 1, 2, 3, 4, 5] (c94_6 N N _ _ _ _ _ _ _ _ _ h2099) rfl rfl rfl (by first | rfl | (simp only [go_sem, Nat.reduceBEq, Nat.reduceAdd, Nat.reduceSub, Nat.reduceMul, Nat.reduceLT, Nat.reduceLeDiff, Int.reduceLE, Int.reduceLT, Int.reduceToNat, Int.reduceBEq, Int.reduceBNe, ↓reduceIte, h2057, g2068, g2069, g2070, h2089, g2090, g2091, g2092, h2093, h2095, g2096, h2097] <;> rfl)) rfl (by kernel_rfl) ?_
       replace h2109 := getB_some h2109; obtain ⟨b2102, h2101, h2109⟩ := h2109
       replace h2109 := brn_some h2109; rcases h2109 with ⟨h2103, h2109⟩ | ⟨h2103, h2109⟩
       ·refine W_sound tab_ok mixed 10 _ _ _ ?_
        simp -implicitDefEqProofs only [go_sem, Nat.reduceBEq, Nat.reduceAdd, Nat.reduceSub, Nat.reduceMul, Nat.reduceLT, Nat.reduceLeDiff, Int.reduceLE, Int.reduceToNat, ↓reduceIte, h2101, h2103]
        repeat with_reducible refine And.intro (by first | kernel_rfl | decide) ?_
        refine cutQ _ ?_ ⟨n, Nat.lt_succ_self n, _, _, h2109, rfl⟩
        exact Wk_keep [0, 1, 2, 6, 28, 29, 30] (by kernel_rfl)
       ·refine W_sound tab_ok mixed 10 _ _ _ ?_
        simp -implicitDefEqProofs only [go_sem, Nat.reduceBEq, Nat.reduceAdd, Nat.reduceSub, Nat.reduceMul, Nat.reduceLT, Nat.reduceLeDiff, h2101, h2103]
        repeat with_reducible refine And.intro (by first | kernel_rfl | decide) ?_
        obtain rfl := Option.some.inj h2109
        (try dsimp only at h2110)
        simp only [Option.some.injEq, Prod.mk.injEq] at h2110; obtain ⟨rfl, rfl⟩ := h2110
        exact finD (st' := ⟨[], [(0, .dead), (1, .dead), (2, .dead), (3, .dead), (4, .dead), (5, .dead), (6, .dead), (10, .v (.bool false)), (11, .dead), (12, .dead), (16, .dead), (28, .dead), (29, .dead), (30, .dead), (31, .dead), (63, .dead)], [(0, .p [(.int .i64 x2053)]), (1, .r [.fn 78 [.ptr 2 0]]), (2, .p [(.int .i64 x2100)]), (3, .r [.ptr 4 0]), (4, .p c2055), (5, .r [.fn 94 [.ptr 0 0, .ptr 1 0, .ptr 3 0, .ptr 5 0]])], 6, []⟩) (keepE_le [10] _) (OLe.refl _) (by kernel_rfl) (by simp only [go_sem, Nat.reduceBEq, resQ_tmp, resQ_nil, retD_one]; try simp [R.val, retD_one, retD_two, retD_three, retD_none])
      ·refine W_sound tab_ok mixed 56 _ _ _ ?_
       simp -implicitDefEqProofs only [go_sem, Nat.reduceBEq, Nat.reduceLT, Int.reduceLE, Int.reduceToNat, ↓reduceIte, g2090, g2091, g2092, h2093, h2095, g2096, h2097]
       repeat with_reducible refine And.intro (by first | kernel_rfl | decide) ?_
       refine cutQ _ ?_ ⟨n, Nat.lt_succ_self n, _, _, h2109, rfl⟩
       exact Wk_keep [0, 1, 2, 6, 28, 29, 30] (by kernel_rfl)
     ·refine W_sound tab_ok mixed 56 _ _ _ ?_
      simp -implicitDefEqProofs only [go_sem, Nat.reduceBEq, Nat.reduceLT, Int.reduceLE, Int.reduceToNat, ↓reduceIte, g2090, g2091, g2092, h2093, h2095]
      repeat with_reducible refine And.intro (by first | kernel_rfl | decide) ?_
      refine cutQ _ ?_ ⟨n, Nat.lt_succ_self n, _, _, h2109, rfl⟩
      exact Wk_keep [0, 1, 2, 6, 28, 29, 30] (by kernel_rfl)
    ·refine W_sound tab_ok mixed 7 _ _ _ ?_
     simp -implicitDefEqProofs only [go_sem, Nat.reduceBEq, Nat.reduceLT, ↓reduceIte, h2089]
     repeat with_reducible refine And.intro (by first | kernel_rfl | decide) ?_
     obtain rfl := Option.some.inj h2109
     refine cutQ _ ?_ ⟨_, rfl, rfl⟩
     exact Wk_keep [] (by kernel_rfl)
  ·rintro _ ⟨x2105, rfl, rfl⟩
   (try dsimp only at h2110)
   refine W_sound tab_ok mixed 6 _ _ _ ?_
   simp -implicitDefEqProofs only [go_sem, Nat.reduceBEq, Nat.reduceLT]
   repeat with_reducible refine And.intro (by first | kernel_rfl | decide) ?_
   simp only [Option.some.injEq, Prod.mk.injEq] at h2110; obtain ⟨rfl, rfl⟩ := h2110
   exact finD (st' := ⟨[], [(0, .dead), (1, .dead), (2, .dead), (3, .dead), (4, .dead), (5, .dead), (6, .dead), (10, .v (.bool true)), (11, .dead), (12, .dead), (16, .dead), (28, .dead), (29, .dead), (30, .dead), (31, .dead), (63, .dead)], [(0, .p [(.int .i64 x2053)]), (1, .r [.fn 78 [.ptr 2 0]]), (2, .p [(.int .i64 x2105)]), (3, .r [.ptr 4 0]), (4, .p c2055), (5, .r [.fn 94 [.ptr 0 0, .ptr 1 0, .ptr 3 0, .ptr 5 0]])], 6, []⟩) (keepE_le [10] _) (OLe.refl _) (by kernel_rfl) (by simp only [go_sem, Nat.reduceBEq, resQ_tmp, resQ_nil, retD_one]; try simp [R.val, retD_one, retD_two, retD_three, retD_none])
noncomputable def m74_2 (N : Nat) (x2117 : Int) (p2118 : PV) (x2119 : Int) : Option ((PV × Int)) :=
 getL p2118 fun n2122 c2123 =>
 bnd' (m61 N x2117 (.lst false n2122 c2123) x2117) fun o =>
 match o with
 | .inl x2125 =>
  brn (x2125 != 0) (
   some ((.int .i64 x2125), x2119)) (
   brn (decide (((n2122 : Nat) : Int) < x2117)) (
    some ((.int .i64 21), x2119)) (
    bnd' (m94_4 N 0 0 x2117 x2119) fun (p2128, x2130) =>
    getB p2128 fun b2132 =>
    some ((.int .i64 0), x2130)))
 | .inr (x2133, c2134) =>
  brn (x2133 != 0) (
   some ((.int .i64 x2133), x2119)) (
   brn (decide (((n2122 : Nat) : Int) < x2117)) (
    some ((.int .i64 21), x2119)) (
    bnd' (m94_5 N 0 0 x2117 x2119 c2134) fun (p2137, x2139) =>
    getB p2137 fun b2141 =>
    some ((.int .i64 0), x2139)))
theorem c74_2 (N : Nat) (x2117 : Int) (p2118 : PV) (x2119 : Int) (r : PV) (x2143 : Int) (h : m74_2 N x2117 p2118 x2119 = some (r, x2143)) : V.Fn Tryd.prog 74 1 [.v (.int .i64 x2117), .v p2118, .fn 78 [.ptr 0 0]] [(0, .p [(.int .i64 x2119)])] (fun d ob' => d = .v r ∧ ob' = [(0, .p [(.int .i64 x2143)])]) := by
 unfold m74_2 at h
 refine Fn_of (sz := 29) tab_ok [0, 1, 2, 3, 5, 6, 7, 8, 9, 17, 21] [.tmp 6] Tryd.func74 rfl rfl rfl (by simp) ?_
 simp only [initSt, initEnv, List.getD_cons_zero, List.getD_cons_succ, List.getD_nil]
 replace h := getL_some h; obtain ⟨n2122, c2123, h2121, h⟩ := h
 replace h := bnd'_some h; obtain ⟨oo, h2124, h⟩ := h
 rcases oo with x2125 | ⟨x2133, c2134⟩
 ·(try dsimp only at h)
  refine W_sound tab_ok mixed 11 _ _ _ ?_
  simp -implicitDefEqProofs only [go_sem, Nat.reduceBEq, Nat.reduceAdd, Nat.reduceLT, Nat.reduceLeDiff, h2121]
  repeat with_reducible refine And.intro (by first | kernel_rfl | decide) ?_
  refine Wp_callD [] (c61_a N _ _ _ _ h2124) rfl rfl rfl (by first | rfl | (simp only [go_sem, Nat.reduceBEq, Nat.reduceAdd, Nat.reduceSub, Nat.reduceMul, Nat.reduceLT, Nat.reduceLeDiff, Int.reduceLE, Int.reduceLT, Int.reduceToNat, Int.reduceBEq, Int.reduceBNe, ↓reduceIte, h2121] <;> rfl)) rfl (by kernel_rfl) ?_
  replace h := brn_some h; rcases h with ⟨h2126, h⟩ | ⟨h2126, h⟩
  ·refine W_sound tab_ok mixed 23 _ _ _ ?_
   simp -implicitDefEqProofs only [go_sem, Nat.reduceBEq, Nat.reduceAdd, Nat.reduceLT, Nat.reduceLeDiff, ↓reduceIte, h2126]
   repeat with_reducible refine And.intro (by first | kernel_rfl | decide) ?_
   simp only [Option.some.injEq, Prod.mk.injEq] at h; obtain ⟨rfl, rfl⟩ := h
   exact finD (st' := ⟨[], [(0, .dead), (1, .dead), (2, .dead), (3, .dead), (5, .dead), (6, .v (.int .i64 x2125)), (7, .dead), (8, .dead), (9, .dead), (17, .dead), (21, .dead)], [(0, .p [(.int .i64 x2119)])], 1, []⟩) (keepE_le [6] _) (OLe.refl _) (by kernel_rfl) (by simp only [go_sem, Nat.reduceBEq, resQ_tmp, resQ_nil, retD_one]; try simp [R.val, retD_one, retD_two, retD_three, retD_none])
  ·replace h := brn_some h; rcases h with ⟨h2127, h⟩ | ⟨h2127, h⟩
   ·refine W_sound tab_ok mixed 31 _ _ _ ?_
    simp -implicitDefEqProofs only [go_sem, Nat.reduceBEq, Nat.reduceAdd, Nat.reduceLT, Nat.reduceLeDiff, ↓reduceIte, h2126, h2127]
    repeat with_reducible refine And.intro (by first | kernel_rfl | decide) ?_
    simp only [Option.some.injEq, Prod.mk.injEq] at h; obtain ⟨rfl, rfl⟩ := h
    exact finD (st' := ⟨[], [(0, .dead), (1, .dead), (2, .dead), (3, .dead), (5, .dead), (6, .v (.int .i64 21)), (7, .dead), (8, .dead), (9, .dead), (17, .dead), (21, .dead)], [(0, .p [(.int .i64 x2119)])], 1, []⟩) (keepE_le [6] _) (OLe.refl _) (by kernel_rfl) (by simp only [go_sem, Nat.reduceBEq, resQ_tmp, resQ_nil, retD_one]; try simp [R.val, retD_one, retD_two, retD_three, retD_none])
   ·replace h := bnd'_some h; obtain ⟨⟨p2128, x2130⟩, h2129, h⟩ := h
    (try dsimp only at h)
    refine W_sound tab_ok mixed 39 _ _ _ ?_
    simp -implicitDefEqProofs only [go_sem, Nat.reduceBEq, Nat.reduceAdd, Nat.reduceLT, Nat.reduceLeDiff, ↓reduceIte, h2126, h2127]
    repeat with_reducible refine And.intro (by first | kernel_rfl | decide) ?_
    refine Wp_callD [4, 6, 0, 14, 24] (c94_4 N _ _ _ _ _ _ h2129) rfl rfl rfl (by first | rfl | (simp only [go_sem, Nat.reduceBEq, Nat.reduceAdd, Nat.reduceSub, Nat.reduceMul, Nat.reduceLT, Nat.reduceLeDiff, Int.reduceLE, Int.reduceLT, Int.reduceToNat, Int.reduceBEq, Int.reduceBNe, ↓reduceIte, h2121, h2126, h2127] <;> rfl)) rfl (by kernel_rfl) ?_
    replace h := getB_some h; obtain ⟨b2132, h2131, h⟩ := h
    refine W_sound tab_ok mixed 7 _ _ _ ?_
    simp -implicitDefEqProofs only [go_sem, Nat.reduceBEq, Nat.reduceAdd, Nat.reduceSub, Nat.reduceMul, Nat.reduceLT, h2131]
    repeat with_reducible refine And.intro (by first | kernel_rfl | decide) ?_
    simp only [Option.some.injEq, Prod.mk.injEq] at h; obtain ⟨rfl, rfl⟩ := h
    exact finD (st' := ⟨[], [(0, .dead), (1, .dead), (2, .dead), (3, .dead), (5, .dead), (6, .v (.int .i64 0)), (7, .dead), (8, .dead), (9, .dead), (17, .dead), (21, .dead)], [(0, .p [(.int .i64 x2130)])], 1, []⟩) (keepE_le [6] _) (OLe.refl _) (by kernel_rfl) (by simp only [go_sem, Nat.reduceBEq, resQ_tmp, resQ_nil, retD_one]; try simp [R.val, retD_one, retD_two, retD_three, retD_none])
 ·(try dsimp only at h)
  refine W_sound tab_ok mixed 11 _ _ _ ?_
  simp -implicitDefEqProofs only [go_sem, Nat.reduceBEq, Nat.reduceAdd, Nat.reduceLT, Nat.reduceLeDiff, h2121]
  repeat with_reducible refine And.intro (by first | kernel_rfl | decide) ?_
  refine Wp_callD [] (c61_b N _ _ _ _ _ h2124) rfl rfl rfl (by first | rfl | (simp only [go_sem, Nat.reduceBEq, Nat.reduceAdd, Nat.reduceSub, Nat.reduceMul, Nat.reduceLT, Nat.reduceLeDiff, Int.reduceLE, Int.reduceLT, Int.reduceToNat, Int.reduceBEq, Int.reduceBNe, ↓reduceIte, h2121] <;> rfl)) rfl (by kernel_rfl) ?_
  replace h := brn_some h; rcases h with ⟨h2135, h⟩ | ⟨h2135, h⟩
  ·refine W_sound tab_ok mixed 23 _ _ _ ?_
   simp -implicitDefEqProofs only [go_sem, Nat.reduceBEq, Nat.reduceAdd, Nat.reduceSub, Nat.reduceMul, Nat.reduceLT, Nat.reduceLeDiff, ↓reduceIte, h2135]
   repeat with_reducible refine And.intro (by first | kernel_rfl | decide) ?_
   simp only [Option.some.injEq, Prod.mk.injEq] at h; obtain ⟨rfl, rfl⟩ := h
   exact finD (st' := ⟨[], [(0, .dead), (1, .dead), (2, .dead), (3, .dead), (5, .dead), (6, .v (.int .i64 x2133)), (7, .dead), (8, .dead), (9, .dead), (17, .dead), (21, .dead)], [(0, .p [(.int .i64 x2119)])], 1, []⟩) (keepE_le [6] _) (OLe.refl _) (by kernel_rfl) (by simp only [go_sem, Nat.reduceBEq, resQ_tmp, resQ_nil, retD_one]; try simp [R.val, retD_one, retD_two, retD_three, retD_none])
  ·replace h := brn_some h; rcases h with ⟨h2136, h⟩ | ⟨h2136, h⟩
   ·refine W_sound tab_ok mixed 31 _ _ _ ?_
    simp -implicitDefEqProofs only [go_sem, Nat.reduceBEq, Nat.reduceAdd, Nat.reduceSub, Nat.reduceMul, Nat.reduceLT, Nat.reduceLeDiff, ↓reduceIte, h2135, h2136]
    repeat with_reducible refine And.intro (by first | kernel_rfl | decide) ?_
    simp only [Option.some.injEq, Prod.mk.injEq] at h; obtain ⟨rfl, rfl⟩ := h
    exact finD (st' := ⟨[], [(0, .dead), (1, .dead), (2, .dead), (3, .dead), (5, .dead), (6, .v (.int .i64 21)), (7, .dead), (8, .dead), (9, .dead), (17, .dead), (21, .dead)], [(0, .p [(.int .i64 x2119)])], 1, []⟩) (keepE_le [6] _) (OLe.refl _) (by kernel_rfl) (by simp only [go_sem, Nat.reduceBEq, resQ_tmp, resQ_nil, retD_one]; try simp [R.val, retD_one, retD_two, retD_three, retD_none])
   ·replace h := bnd'_some h; obtain ⟨⟨p2137, x2139⟩, h2138, h⟩ := h
    (try dsimp only at h)
    refine W_sound tab_ok mixed 39 _ _ _ ?_
    simp -implicitDefEqProofs only [go_sem, Nat.reduceBEq, Nat.reduceAdd, Nat.reduceSub, Nat.reduceMul, Nat.reduceLT, Nat.reduceLeDiff, ↓reduceIte, h2135, h2136]
    repeat with_reducible refine And.intro (by first | kernel_rfl | decide) ?_
    refine Wp_callD [4, 6, 0, 14, 21, 31] (c94_5 N _ _ _ _ _ _ _ h2138) rfl rfl rfl (by first | rfl | (simp only [go_sem, Nat.reduceBEq, Nat.reduceAdd, Nat.reduceSub, Nat.reduceMul, Nat.reduceLT, Nat.reduceLeDiff, Int.reduceLE, Int.reduceLT, Int.reduceToNat, Int.reduceBEq, Int.reduceBNe, ↓reduceIte, h2121, h2135, h2136] <;> rfl)) rfl (by kernel_rfl) ?_
    replace h := getB_some h; obtain ⟨b2141, h2140, h⟩ := h
    refine W_sound tab_ok mixed 7 _ _ _ ?_
    simp -implicitDefEqProofs only [go_sem, Nat.reduceBEq, Nat.reduceAdd, Nat.reduceSub, Nat.reduceMul, Nat.reduceLT, h2140]
    repeat with_reducible refine And.intro (by first | kernel_rfl | decide) ?_
    simp only [Option.some.injEq, Prod.mk.injEq] at h; obtain ⟨rfl, rfl⟩ := h
    exact finD (st' := ⟨[], [(0, .dead), (1, .dead), (2, .dead), (3, .dead), (5, .dead), (6, .v (.int .i64 0)), (7, .dead), (8, .dead), (9, .dead), (17, .dead), (21, .dead)], [(0, .p [(.int .i64 x2139)])], 1, []⟩) (keepE_le [6] _) (OLe.refl _) (by kernel_rfl) (by simp only [go_sem, Nat.reduceBEq, resQ_tmp, resQ_nil, retD_one]; try simp [R.val, retD_one, retD_two, retD_three, retD_none])
noncomputable def m35 (N : Nat) (x1697 : Int) (p1698 : PV) : Option (PV) :=
 getL p1698 fun n1700 c1701 =>
 bnd' (m74_2 N x1697 (.lst false n1700 c1701) 0) fun (p2144, x2146) =>
 getI .i64 p2144 fun x2148 =>
 some (.tup [(.int .i64 x2146), (.int .i64 x2148)])
theorem c35 (N : Nat) (x1697 : Int) (p1698 : PV) (r : PV)  (h : m35 N x1697 p1698 = some r) : FnP Tryd.prog 35 [(.int .i64 x1697), p1698] r := by
 unfold m35 at h
 refine Fn_of (sz := 14) tab_ok [0, 1, 4, 5, 6, 7] [.tmp 4, .tmp 5] Tryd.func35 rfl rfl rfl (by simp) ?_
 simp only [initSt, initEnv, List.map_cons, List.map_nil, List.getD_cons_zero, List.getD_cons_succ, List.getD_nil]
 replace h := getL_some h; obtain ⟨n1700, c1701, h1699, h⟩ := h
 replace h := bnd'_some h; obtain ⟨⟨p2144, x2146⟩, h2145, h⟩ := h
 (try dsimp only at h)
 refine W_sound tab_ok mixed 15 _ _ _ ?_
 simp -implicitDefEqProofs only [go_sem, Nat.reduceBEq, Nat.reduceAdd, Nat.reduceLT, Nat.reduceLeDiff, h1699]
 repeat with_reducible refine And.intro (by first | kernel_rfl | decide) ?_
 refine Wp_callD [6] (c74_2 N _ _ _ _ _ h2145) rfl rfl rfl (by first | rfl | (simp only [go_sem, Nat.reduceBEq, Nat.reduceAdd, Nat.reduceSub, Nat.reduceMul, Nat.reduceLT, Nat.reduceLeDiff, Int.reduceLE, Int.reduceLT, Int.reduceToNat, Int.reduceBEq, Int.reduceBNe, ↓reduceIte, h1699] <;> rfl)) rfl (by kernel_rfl) ?_
 replace h := getI_some h; obtain ⟨x2148, h2147, h⟩ := h
 refine W_sound tab_ok mixed 11 _ _ _ ?_
 simp -implicitDefEqProofs only [go_sem, Nat.reduceBEq, Nat.reduceAdd, Nat.reduceSub, Nat.reduceMul, Nat.reduceLT, h2147]
 repeat with_reducible refine And.intro (by first | kernel_rfl | decide) ?_
 obtain rfl := Option.some.inj h
 exact finC [(4, .v (.int .i64 x2146)), (5, .v (.int .i64 x2148))] [(4, .v (.int .i64 x2146)), (5, .v (.int .i64 x2148))] (by simp [leE, lk_cons]) (.cons _ _ _ _ _ (.v _ _ (.refl _)) (.cons _ _ _ _ _ (.v _ _ (.refl _)) .nil)) (by rfl) (by simp [leE, lk_cons]) (by decide) (by decide) rfl (by simp only [go_sem, Nat.reduceBEq, resQ_tmp, resQ_nil, retD_two]; try simp [R.val, retD_one, retD_two, retD_three, retD_none])
end Go.Proofs.YtcaecfofgdogbaaDoor
namespace Go.Proofs.YtcaecfofgdogbaaDoor
open Go.V
set_option maxRecDepth 100000
theorem c31k_1 : V.Fn Tryd.prog 31 0 [.v (.int .i64 1)] [] (fun d ob' => d = .tup [.sl false 0 0 1 1, .v (.int .i64 0)] ∧ ob' = [(0, .r [.sl false 1 0 1 1]), (1, .p [.int .i64 0])]) := runI_ok (doms := nthL domL) (fzr := noFz) (n := 6000) tab_ok mixed KnOk.nil (by kernel_rfl)
theorem c31k_2 : V.Fn Tryd.prog 31 0 [.v (.int .i64 2)] [] (fun d ob' => d = .tup [.sl false 0 0 2 1, .v (.int .i64 0)] ∧ ob' = [(0, .r [.sl false 1 0 2 1, .sl false 2 0 2 1]), (1, .p [.int .i64 0, .int .i64 1]), (2, .p [.int .i64 1, .int .i64 0])]) := runI_ok (doms := nthL domL) (fzr := noFz) (n := 6000) tab_ok mixed KnOk.nil (by kernel_rfl)
theorem c31k_3 : V.Fn Tryd.prog 31 0 [.v (.int .i64 3)] [] (fun d ob' => d = .tup [.sl false 0 0 3 1, .v (.int .i64 0)] ∧ ob' = [(0, .r [.sl false 1 0 3 1, .sl false 2 0 3 1, .sl false 3 0 3 1]), (1, .p [.int .i64 0, .int .i64 1, .int .i64 2]), (2, .p [.int .i64 1, .int .i64 2, .int .i64 0]), (3, .p [.int .i64 2, .int .i64 0, .int .i64 1])]) := runI_ok (doms := nthL domL) (fzr := noFz) (n := 6000) tab_ok mixed KnOk.nil (by kernel_rfl)
theorem c31k_4 : V.Fn Tryd.prog 31 0 [.v (.int .i64 4)] [] (fun d ob' => d = .tup [.sl false 0 0 4 1, .v (.int .i64 0)] ∧ ob' = [(0, .r [.sl false 1 0 4 1, .sl false 2 0 4 1, .sl false 3 0 4 1, .sl false 4 0 4 1]), (1, .p [.int .i64 0, .int .i64 1, .int .i64 2, .int .i64 3]), (2, .p [.int .i64 1, .int .i64 2, .int .i64 3, .int .i64 0]), (3, .p [.int .i64 2, .int .i64 3, .int .i64 0, .int .i64 1]), (4, .p [.int .i64 3, .int .i64 0, .int .i64 1, .int .i64 2])]) := runI_ok (doms := nthL domL) (fzr := noFz) (n := 6000) tab_ok mixed KnOk.nil (by kernel_rfl)
theorem c31k_5 : V.Fn Tryd.prog 31 0 [.v (.int .i64 5)] [] (fun d ob' => d = .tup [.sl false 0 0 5 1, .v (.int .i64 0)] ∧ ob' = [(0, .r [.sl false 1 0 5 1, .sl false 2 0 5 1, .sl false 3 0 5 1, .sl false 4 0 5 1, .sl false 5 0 5 1]), (1, .p [.int .i64 0, .int .i64 1, .int .i64 2, .int .i64 3, .int .i64 4]), (2, .p [.int .i64 1, .int .i64 2, .int .i64 3, .int .i64 4, .int .i64 0]), (3, .p [.int .i64 2, .int .i64 3, .int .i64 4, .int .i64 0, .int .i64 1]), (4, .p [.int .i64 3, .int .i64 4, .int .i64 0, .int .i64 1, .int .i64 2]), (5, .p [.int .i64 4, .int .i64 0, .int .i64 1, .int .i64 2, .int .i64 3])]) := runI_ok (doms := nthL domL) (fzr := noFz) (n := 6000) tab_ok mixed KnOk.nil (by kernel_rfl)
end Go.Proofs.YtcaecfofgdogbaaDoor
