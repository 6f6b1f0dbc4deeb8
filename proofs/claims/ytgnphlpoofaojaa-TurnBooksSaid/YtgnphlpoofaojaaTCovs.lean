import Derived.Test.YtgnphlpoofaojaaTWorths
import Derived.Test.YtgnphlpoofaojaaB
import Derived.Test.YtgnphlpoofaojaaV30
namespace Go.Proofs.Ytgnphlpoofaojaa
open Go.V
set_option maxRecDepth 100000
set_option maxHeartbeats 4000000
set_option linter.unusedSimpArgs false
set_option linter.unusedVariables false
attribute [local go_sem] tl1 tl2 tl3 tl4 tl5 tl9 tl17 tl21 tl22 tl23 tl24 tl25 tl26 tl27 tl28 tl29 tl31 tl33 tl34 tl36 tl37 tl38 tl39 tl40 tl41 tl42 tl43 tl44 tl46 tl47 tl49 tl50 tl52 tl53 tl54 tl55 tl56 tl57 tl58 tl60 tl62 tl63 tl64 tl65 tl66 tl67 tl68 tl69 tl70 tl71 tl72 tl74 tl75 tl76 tl77 tl78 tl79 tl80 tl81 tl82 tl83 tl84 tl85 tl86 tl87 tl88 tl89 tl90 tl91 tl92 tl93 tl94 tl95 tl96 tl97 tl98 tl99 tl100 tl102 tl103 tl104 tl105 tl106 tl107 tl108 tl109 tl110 tl111 tl112 tl113 tl114 tl115 tl116 tl117 tl118 tl119 tl120 tl121 tl122 tl123 tl124 tl125 tl126 tl127 tl128 tl129 tl130 tl131 tl132 tl133 tl134 tl140 tl141 tl145

def m86 (N : Nat) (p621 : PV) (p622 : PV) (p623 : PV) : Option (PV) :=
  getA2 p621 fun p625 p626 =>
  getA2 p622 fun p628 p629 =>
  getA2 p623 fun p631 p632 =>
  getI .i64 p628 fun x634 =>
  getI .i64 p625 fun x636 =>
  getI .i64 p632 fun x638 =>
  getI .i64 p629 fun x640 =>
  getI .i64 p631 fun x642 =>
  getI .i64 p626 fun x644 =>
  some (.bool (decide ((IntKind.i64.wrap ((IntKind.i64.wrap (x634 - x636)) * (IntKind.i64.wrap (x638 - x640)))) > (IntKind.i64.wrap ((IntKind.i64.wrap (x642 - x634)) * (IntKind.i64.wrap (x640 - x644)))))))
theorem c86 (N : Nat) (p621 : PV) (p622 : PV) (p623 : PV) (r : PV)  (h : m86 N p621 p622 p623 = some r) : FnP Try.prog 86 [p621, p622, p623] r := by
  unfold m86 at h
  refine Fn_of (sz := 30) tab_ok [0, 1, 2, 3, 4, 5, 6] [.tmp 6] Try.func86 rfl rfl rfl (by simp) ?_
  simp only [initSt, initEnv, List.map_cons, List.map_nil, List.getD_cons_zero, List.getD_cons_succ, List.getD_nil]
  have hh := getA2_some h; clear h; obtain ⟨p625, p626, h624, h⟩ := hh
  have hh := getA2_some h; clear h; obtain ⟨p628, p629, h627, h⟩ := hh
  have hh := getA2_some h; clear h; obtain ⟨p631, p632, h630, h⟩ := hh
  have hh := getI_some h; clear h; obtain ⟨x634, h633, h⟩ := hh
  have hh := getI_some h; clear h; obtain ⟨x636, h635, h⟩ := hh
  have hh := getI_some h; clear h; obtain ⟨x638, h637, h⟩ := hh
  have hh := getI_some h; clear h; obtain ⟨x640, h639, h⟩ := hh
  have hh := getI_some h; clear h; obtain ⟨x642, h641, h⟩ := hh
  have hh := getI_some h; clear h; obtain ⟨x644, h643, h⟩ := hh
  refine W_sound tab_ok mixed 35 _ _ _ ?_
  simp -implicitDefEqProofs only [go_sem, ne_eq, not_false_eq_true, Nat.reduceBEq, Nat.reduceAdd, Nat.reduceSub, Nat.reduceMul, Nat.reduceLT, Nat.reduceLeDiff, Int.reduceLE, Int.reduceLT, Int.reduceToNat, Int.reduceBEq, Int.reduceBNe, Int.le_refl, Nat.le_refl, decide_true, decide_false, Int.cast_ofNat_Int, ↓reduceIte, h624, h627, h630, h633, h635, h637, h639, h641, h643]
  repeat with_reducible refine And.intro (by first | kernel_rfl | decide) ?_
  obtain rfl := Option.some.inj h
  exact finC [(6, .v (.bool (decide ((IntKind.i64.wrap ((IntKind.i64.wrap (x634 - x636)) * (IntKind.i64.wrap (x638 - x640)))) > (IntKind.i64.wrap ((IntKind.i64.wrap (x642 - x634)) * (IntKind.i64.wrap (x640 - x644))))))))] [(6, .v (.bool (decide ((IntKind.i64.wrap ((IntKind.i64.wrap (x634 - x636)) * (IntKind.i64.wrap (x638 - x640)))) > (IntKind.i64.wrap ((IntKind.i64.wrap (x642 - x634)) * (IntKind.i64.wrap (x640 - x644))))))))] (by simp [leE, lk_cons]) (.cons _ _ _ _ _ (.v _ _ (.refl _)) .nil) (by rfl) (by simp [leE, lk_cons]) (by decide) (by decide) rfl (by simp only [go_sem, ne_eq, not_false_eq_true, Nat.reduceBEq, Nat.reduceAdd, Nat.reduceSub, Nat.reduceMul, Nat.reduceLT, Nat.reduceLeDiff, Int.reduceLE, Int.reduceLT, Int.reduceToNat, Int.reduceBEq, Int.reduceBNe, Int.le_refl, Nat.le_refl, decide_true, decide_false, Int.cast_ofNat_Int, ↓reduceIte, resQ_tmp, resQ_cell, resQ_nil, retD_one, retD_two, retD_three, retD_none]; try simp [R.val, retD_one, retD_two, retD_three, retD_none])

def m72 (N : Nat) (p808 : PV) (p809 : PV) : Option (PV) :=
  getA2 p808 fun p811 p812 =>
  getA2 p809 fun p814 p815 =>
  getI .i64 p811 fun x817 =>
  getI .i64 p815 fun x819 =>
  getI .i64 p814 fun x821 =>
  getI .i64 p812 fun x823 =>
  some (.bool (decide ((IntKind.i64.wrap (x817 * x819)) < (IntKind.i64.wrap (x821 * x823)))))
theorem c72 (N : Nat) (p808 : PV) (p809 : PV) (r : PV)  (h : m72 N p808 p809 = some r) : FnP Try.prog 72 [p808, p809] r := by
  unfold m72 at h
  refine Fn_of (sz := 16) tab_ok [0, 1, 2, 3, 4] [.tmp 4] Try.func72 rfl rfl rfl (by simp) ?_
  simp only [initSt, initEnv, List.map_cons, List.map_nil, List.getD_cons_zero, List.getD_cons_succ, List.getD_nil]
  have hh := getA2_some h; clear h; obtain ⟨p811, p812, h810, h⟩ := hh
  have hh := getA2_some h; clear h; obtain ⟨p814, p815, h813, h⟩ := hh
  have hh := getI_some h; clear h; obtain ⟨x817, h816, h⟩ := hh
  have hh := getI_some h; clear h; obtain ⟨x819, h818, h⟩ := hh
  have hh := getI_some h; clear h; obtain ⟨x821, h820, h⟩ := hh
  have hh := getI_some h; clear h; obtain ⟨x823, h822, h⟩ := hh
  refine W_sound tab_ok mixed 22 _ _ _ ?_
  simp -implicitDefEqProofs only [go_sem, ne_eq, not_false_eq_true, Nat.reduceBEq, Nat.reduceAdd, Nat.reduceSub, Nat.reduceMul, Nat.reduceLT, Nat.reduceLeDiff, Int.reduceLE, Int.reduceLT, Int.reduceToNat, Int.reduceBEq, Int.reduceBNe, Int.le_refl, Nat.le_refl, decide_true, decide_false, Int.cast_ofNat_Int, ↓reduceIte, h810, h813, h816, h818, h820, h822]
  repeat with_reducible refine And.intro (by first | kernel_rfl | decide) ?_
  obtain rfl := Option.some.inj h
  exact finC [(4, .v (.bool (decide ((IntKind.i64.wrap (x817 * x819)) < (IntKind.i64.wrap (x821 * x823))))))] [(4, .v (.bool (decide ((IntKind.i64.wrap (x817 * x819)) < (IntKind.i64.wrap (x821 * x823))))))] (by simp [leE, lk_cons]) (.cons _ _ _ _ _ (.v _ _ (.refl _)) .nil) (by rfl) (by simp [leE, lk_cons]) (by decide) (by decide) rfl (by simp only [go_sem, ne_eq, not_false_eq_true, Nat.reduceBEq, Nat.reduceAdd, Nat.reduceSub, Nat.reduceMul, Nat.reduceLT, Nat.reduceLeDiff, Int.reduceLE, Int.reduceLT, Int.reduceToNat, Int.reduceBEq, Int.reduceBNe, Int.le_refl, Nat.le_refl, decide_true, decide_false, Int.cast_ofNat_Int, ↓reduceIte, resQ_tmp, resQ_cell, resQ_nil, retD_one, retD_two, retD_three, retD_none]; try simp [R.val, retD_one, retD_two, retD_three, retD_none])

def m68_L2 (N : Nat) (n826 : Nat) (c827 : List PV) (x1194 : Int) (n1278 : Nat) (x1279 : Int) (c1280 : List PV) (p1302 : PV) (p1303 : PV) : Nat → Int → Option (Int)
  | 0, _ => none
  | n + 1, x1304 =>
    brn (decide (x1304 < ((n1278 : Nat) : Int))) (
      grd (0 ≤ x1304 ∧ x1304 < ((n1278 : Nat) : Int)) <|
      grd ((((Int.toNat x1304) * 2) + 2) ≤ List.length c1280) <|
      getA2 (.agg (List.take 2 (List.drop ((Int.toNat x1304) * 2) c1280))) fun p1310 p1311 =>
      bnd' (m72 N (.agg [p1310, p1311]) (.agg [p1302, p1303])) fun p1312 =>
      getB p1312 fun b1315 =>
      brn b1315 (
        m68_L2 N n826 c827 x1194 n1278 x1279 c1280 p1302 p1303 n (IntKind.i64.wrap (x1304 + 1))) (
        some x1304)) (
      some x1304)
def m68_L1 (N : Nat) (n826 : Nat) (c827 : List PV) (x1194 : Int) : Nat → Nat → Int → List PV → Option ((Nat × List PV))
  | 0, _, _, _ => none
  | n + 1, n1278, x1279, c1280 =>
    brn (decide (x1279 < x1194)) (
      grd (0 ≤ x1194 ∧ x1194 < ((n826 : Nat) : Int)) <|
      grd (0 < List.length (List.drop 1 (List.drop ((Int.toNat x1194) * 2) c827))) <|
      getI .i64 (gp c827 (((Int.toNat x1194) * 2) + 1)) fun x1286 =>
      grd (0 ≤ x1279 ∧ x1279 < ((n826 : Nat) : Int)) <|
      grd (0 < List.length (List.drop 1 (List.drop ((Int.toNat x1279) * 2) c827))) <|
      getI .i64 (gp c827 (((Int.toNat x1279) * 2) + 1)) fun x1291 =>
      brn (x1286 == x1291) (
        m68_L1 N n826 c827 x1194 n n1278 (IntKind.i64.wrap (x1279 + 1)) c1280) (
        grd (0 < List.length (List.drop ((Int.toNat x1194) * 2) c827)) <|
        getI .i64 (gp c827 ((Int.toNat x1194) * 2)) fun x1295 =>
        grd (0 < List.length (List.drop ((Int.toNat x1279) * 2) c827)) <|
        getI .i64 (gp c827 ((Int.toNat x1279) * 2)) fun x1298 =>
        bnd' (m60 N (IntKind.i64.wrap (x1295 - x1298)) (IntKind.i64.wrap (x1291 - x1286))) fun p1299 =>
        getA2 p1299 fun p1302 p1303 =>
        bnd' (m68_L2 N n826 c827 x1194 n1278 x1279 c1280 p1302 p1303 N 0) fun x1317 =>
        brn (decide (x1317 < ((n1278 : Nat) : Int))) (
          grd (0 ≤ x1317 ∧ x1317 < ((n1278 : Nat) : Int)) <|
          grd ((((Int.toNat x1317) * 2) + 2) ≤ List.length c1280) <|
          getA2 (.agg (List.take 2 (List.drop ((Int.toNat x1317) * 2) c1280))) fun p1323 p1324 =>
          getI .i64 p1324 fun x1326 =>
          getI .i64 p1303 fun x1328 =>
          getI .i64 p1323 fun x1330 =>
          getI .i64 p1302 fun x1332 =>
          brn ((x1330 == x1332) && (x1326 == x1328)) (
            m68_L1 N n826 c827 x1194 n n1278 (IntKind.i64.wrap (x1279 + 1)) c1280) (
            grd (x1317 ≤ ((n1278 : Nat) : Int)) <|
            grd (List.length (List.take ((Int.toNat x1317) * 2) c1280) = ((Int.toNat x1317) * 2)) <|
            brn (decide (0 < (Int.toNat x1317))) (
              grd ((Int.toNat x1317) ≤ 1099511627776) <|
              grd (((Int.toNat x1317) + 1) ≤ 1099511627776) <|
              grd (List.length (List.take ((Int.toNat (((n1278 : Nat) : Int) - x1317)) * 2) (List.drop ((Int.toNat x1317) * 2) c1280)) = ((Int.toNat (((n1278 : Nat) : Int) - x1317)) * 2)) <|
              grd ((((Int.toNat x1317) + 1) + (Int.toNat (((n1278 : Nat) : Int) - x1317))) ≤ 1099511627776) <|
              grd (List.length ((List.take ((Int.toNat x1317) * 2) c1280) ++ [(.int .i64 x1332), (.int .i64 x1328)]) = (((Int.toNat x1317) + 1) * 2)) <|
              m68_L1 N n826 c827 x1194 n (((Int.toNat x1317) + 1) + (Int.toNat (((n1278 : Nat) : Int) - x1317))) (IntKind.i64.wrap (x1279 + 1)) (((List.take ((Int.toNat x1317) * 2) c1280) ++ [(.int .i64 x1332), (.int .i64 x1328)]) ++ (List.take ((Int.toNat (((n1278 : Nat) : Int) - x1317)) * 2) (List.drop ((Int.toNat x1317) * 2) c1280)))) (
              grd ((Int.toNat x1317) ≤ 1099511627776) <|
              grd (((Int.toNat x1317) + 1) ≤ 1099511627776) <|
              grd (List.length (List.take ((Int.toNat (((n1278 : Nat) : Int) - x1317)) * 2) (List.drop ((Int.toNat x1317) * 2) c1280)) = ((Int.toNat (((n1278 : Nat) : Int) - x1317)) * 2)) <|
              grd ((((Int.toNat x1317) + 1) + (Int.toNat (((n1278 : Nat) : Int) - x1317))) ≤ 1099511627776) <|
              grd (List.length ((List.take ((Int.toNat x1317) * 2) c1280) ++ [(.int .i64 x1332), (.int .i64 x1328)]) = (((Int.toNat x1317) + 1) * 2)) <|
              m68_L1 N n826 c827 x1194 n (((Int.toNat x1317) + 1) + (Int.toNat (((n1278 : Nat) : Int) - x1317))) (IntKind.i64.wrap (x1279 + 1)) (((List.take ((Int.toNat x1317) * 2) c1280) ++ [(.int .i64 x1332), (.int .i64 x1328)]) ++ (List.take ((Int.toNat (((n1278 : Nat) : Int) - x1317)) * 2) (List.drop ((Int.toNat x1317) * 2) c1280)))))) (
          grd (0 ≤ x1317 ∧ x1317 ≤ ((n1278 : Nat) : Int)) <|
          grd (List.length (List.take ((Int.toNat x1317) * 2) c1280) = ((Int.toNat x1317) * 2)) <|
          brn (decide (0 < (Int.toNat x1317))) (
            grd ((Int.toNat x1317) ≤ 1099511627776) <|
            grd (((Int.toNat x1317) + 1) ≤ 1099511627776) <|
            grd (List.length (List.take ((Int.toNat (((n1278 : Nat) : Int) - x1317)) * 2) (List.drop ((Int.toNat x1317) * 2) c1280)) = ((Int.toNat (((n1278 : Nat) : Int) - x1317)) * 2)) <|
            grd ((((Int.toNat x1317) + 1) + (Int.toNat (((n1278 : Nat) : Int) - x1317))) ≤ 1099511627776) <|
            grd (List.length ((List.take ((Int.toNat x1317) * 2) c1280) ++ [p1302, p1303]) = (((Int.toNat x1317) + 1) * 2)) <|
            m68_L1 N n826 c827 x1194 n (((Int.toNat x1317) + 1) + (Int.toNat (((n1278 : Nat) : Int) - x1317))) (IntKind.i64.wrap (x1279 + 1)) (((List.take ((Int.toNat x1317) * 2) c1280) ++ [p1302, p1303]) ++ (List.take ((Int.toNat (((n1278 : Nat) : Int) - x1317)) * 2) (List.drop ((Int.toNat x1317) * 2) c1280)))) (
            grd ((Int.toNat x1317) ≤ 1099511627776) <|
            grd (((Int.toNat x1317) + 1) ≤ 1099511627776) <|
            grd (List.length (List.take ((Int.toNat (((n1278 : Nat) : Int) - x1317)) * 2) (List.drop ((Int.toNat x1317) * 2) c1280)) = ((Int.toNat (((n1278 : Nat) : Int) - x1317)) * 2)) <|
            grd ((((Int.toNat x1317) + 1) + (Int.toNat (((n1278 : Nat) : Int) - x1317))) ≤ 1099511627776) <|
            grd (List.length ((List.take ((Int.toNat x1317) * 2) c1280) ++ [p1302, p1303]) = (((Int.toNat x1317) + 1) * 2)) <|
            m68_L1 N n826 c827 x1194 n (((Int.toNat x1317) + 1) + (Int.toNat (((n1278 : Nat) : Int) - x1317))) (IntKind.i64.wrap (x1279 + 1)) (((List.take ((Int.toNat x1317) * 2) c1280) ++ [p1302, p1303]) ++ (List.take ((Int.toNat (((n1278 : Nat) : Int) - x1317)) * 2) (List.drop ((Int.toNat x1317) * 2) c1280))))))) (
      some (n1278, c1280))
def m68_L0 (N : Nat) (n826 : Nat) (c827 : List PV) : Nat → Nat → Int → List PV → Option ((Nat × List PV))
  | 0, _, _, _ => none
  | n + 1, n1193, x1194, c1195 =>
    brn (decide (x1194 < ((n826 : Nat) : Int))) (
      bnd' (m68_L1 N n826 c827 x1194 N n1193 0 c1195) fun o =>
      match o with
      | (n1361, c1362) =>
        m68_L0 N n826 c827 n n1361 (IntKind.i64.wrap (x1194 + 1)) c1362) (
      some (n1193, c1195))
def m68 (N : Nat) (p824 : PV) : Option (PV) :=
  getL p824 fun n826 c827 =>
  bnd' (m68_L0 N n826 c827 N 0 0 []) fun o =>
  match o with
  | (n1363, c1364) =>
    grd (List.length c1364 = (n1363 * 2)) <|
    some (.lst false n1363 c1364)
theorem c68 (N : Nat) (p824 : PV) (r : PV)  (h : m68 N p824 = some r) : FnP Try.prog 68 [p824] r := by
  unfold m68 at h
  refine Fn_of (sz := 95) tab_ok [0, 2, 3, 4, 5, 6, 7, 8, 12, 17, 30, 65, 79] [.tmp 2] Try.func68 rfl rfl rfl (by simp) ?_
  simp only [initSt, initEnv, List.map_cons, List.map_nil, List.getD_cons_zero, List.getD_cons_succ, List.getD_nil]
  have hh := getL_some h; clear h; obtain ⟨n826, c827, h825, h⟩ := hh
  refine W_sound tab_ok mixed 13 _ _ _ ?_
  simp -implicitDefEqProofs only [go_sem, ne_eq, not_false_eq_true, Nat.reduceBEq, Nat.reduceAdd, Nat.reduceSub, Nat.reduceMul, Nat.reduceLT, Nat.reduceLeDiff, Int.reduceLE, Int.reduceLT, Int.reduceToNat, Int.reduceBEq, Int.reduceBNe, Int.le_refl, Nat.le_refl, decide_true, decide_false, Int.cast_ofNat_Int, ↓reduceIte, h825]
  repeat with_reducible refine And.intro (by first | kernel_rfl | decide) ?_
  refine Wp_weaken (Wk_ownS 3 2 rfl (by decide) (by decide)) ?_
  simp -implicitDefEqProofs only [go_sem, ne_eq, not_false_eq_true, Nat.reduceBEq, Nat.reduceAdd, Nat.reduceSub, Nat.reduceMul, Nat.reduceLT, Nat.reduceLeDiff, Int.reduceLE, Int.reduceLT, Int.reduceToNat, Int.reduceBEq, Int.reduceBNe, Int.le_refl, Nat.le_refl, decide_true, decide_false, Int.cast_ofNat_Int, ↓reduceIte, h825]
  have hh := bnd'_some h; clear h; obtain ⟨o1366, h1367, h1368⟩ := hh
  refine Wp_cut (fun s => ∃ n1363, ∃ c1364, (n1363, c1364) = o1366 ∧ s = ⟨[], [(0, .dead), (2, .dead), (3, .sl false 0 0 n1363 2), (4, .dead), (5, .dead), (6, .dead), (7, .dead), (8, .dead), (12, .dead), (17, .dead), (30, .dead), (65, .dead), (79, .dead)], [(0, .p c1364)], 1, []⟩) ?_ ?_
  · refine Wp_block ?_
    refine Wp_loopG (fun n s => ∃ n1193, ∃ x1194, ∃ c1195, m68_L0 N n826 c827 n n1193 x1194 c1195 = some o1366 ∧ s = ⟨[], [(0, .v (.lst false n826 c827)), (2, .dead), (3, .sl false 0 0 n1193 2), (4, .v (.int .i64 x1194)), (5, .dead), (6, .dead), (7, .dead), (8, .dead), (12, .dead), (17, .dead), (30, .dead), (65, .dead), (79, .dead)], [(0, .p c1195)], 1, []⟩) N _ ((Wk_le (.cons _ _ _ _ _ (.refl _) (.cons _ _ _ _ _ (.dead _) (.cons _ _ _ _ _ (.refl _) (.cons _ _ _ _ _ (.refl _) (.cons _ _ _ _ _ (.refl _) (.cons _ _ _ _ _ (.refl _) (.cons _ _ _ _ _ (.refl _) (.cons _ _ _ _ _ (.refl _) (.cons _ _ _ _ _ (.refl _) (.cons _ _ _ _ _ (.refl _) (.cons _ _ _ _ _ (.refl _) (.cons _ _ _ _ _ (.refl _) (.cons _ _ _ _ _ (.refl _) .nil))))))))))))) (OLe.refl _)).trans (cmpS_ok rfl)) ⟨_, _, _, h1367, rfl⟩ ?_
    clear h1367
    rintro n _ ⟨n1193, x1194, c1195, h1367, rfl⟩
    cases n with
    | zero => cases h1367
    | succ n =>
      rw [m68_L0] at h1367
      have hh := brn_some h1367; clear h1367; rcases hh with ⟨h1196, h1367⟩ | ⟨h1196, h1367⟩
      · refine W_sound tab_ok mixed 16 _ _ _ ?_
        simp -implicitDefEqProofs only [go_sem, ne_eq, not_false_eq_true, Nat.reduceBEq, Nat.reduceAdd, Nat.reduceSub, Nat.reduceMul, Nat.reduceLT, Nat.reduceLeDiff, Int.reduceLE, Int.reduceLT, Int.reduceToNat, Int.reduceBEq, Int.reduceBNe, Int.le_refl, Nat.le_refl, decide_true, decide_false, Int.cast_ofNat_Int, ↓reduceIte, h825, h1196]
        repeat with_reducible refine And.intro (by first | kernel_rfl | decide) ?_
        have hh := bnd'_some h1367; clear h1367; obtain ⟨o1369, h1370, h1371⟩ := hh
        refine Wp_cut (fun s => ∃ n1361, ∃ c1362, (n1361, c1362) = o1369 ∧ s = ⟨[], [(0, .v (.lst false n826 c827)), (2, .dead), (3, .sl false 0 0 n1361 2), (4, .v (.int .i64 x1194)), (5, .dead), (6, .dead), (7, .dead), (8, .dead), (12, .dead), (17, .dead), (30, .dead), (65, .dead), (79, .dead)], [(0, .p c1362)], 1, []⟩) ?_ ?_
        · refine Wp_block ?_
          refine Wp_loopG (fun n s => ∃ n1278, ∃ x1279, ∃ c1280, m68_L1 N n826 c827 x1194 n n1278 x1279 c1280 = some o1369 ∧ s = ⟨[], [(0, .v (.lst false n826 c827)), (2, .dead), (3, .sl false 0 0 n1278 2), (4, .v (.int .i64 x1194)), (5, .v (.int .i64 x1279)), (6, .dead), (7, .dead), (8, .dead), (12, .dead), (17, .dead), (30, .dead), (65, .dead), (79, .dead)], [(0, .p c1280)], 1, []⟩) N _ ((Wk_le (.cons _ _ _ _ _ (.refl _) (.cons _ _ _ _ _ (.refl _) (.cons _ _ _ _ _ (.refl _) (.cons _ _ _ _ _ (.refl _) (.cons _ _ _ _ _ (.refl _) (.cons _ _ _ _ _ (.refl _) (.cons _ _ _ _ _ (.refl _) (.cons _ _ _ _ _ (.refl _) (.cons _ _ _ _ _ (.dead _) (.cons _ _ _ _ _ (.refl _) (.cons _ _ _ _ _ (.refl _) (.cons _ _ _ _ _ (.refl _) (.cons _ _ _ _ _ (.refl _) .nil))))))))))))) (OLe.refl _)).trans (cmpS_ok rfl)) ⟨_, _, _, h1370, rfl⟩ ?_
          clear h1370
          rintro n _ ⟨n1278, x1279, c1280, h1370, rfl⟩
          cases n with
          | zero => cases h1370
          | succ n =>
            rw [m68_L1] at h1370
            have hh := brn_some h1370; clear h1370; rcases hh with ⟨h1281, h1370⟩ | ⟨h1281, h1370⟩
            · have hh := grd_some h1370; clear h1370; obtain ⟨⟨g1282, g1283⟩, h1370⟩ := hh
              have hh := grd_some h1370; clear h1370; obtain ⟨g1284, h1370⟩ := hh
              have hh := getI_some h1370; clear h1370; obtain ⟨x1286, h1285, h1370⟩ := hh
              have hh := grd_some h1370; clear h1370; obtain ⟨⟨g1287, g1288⟩, h1370⟩ := hh
              have hh := grd_some h1370; clear h1370; obtain ⟨g1289, h1370⟩ := hh
              have hh := getI_some h1370; clear h1370; obtain ⟨x1291, h1290, h1370⟩ := hh
              have hh := brn_some h1370; clear h1370; rcases hh with ⟨h1292, h1370⟩ | ⟨h1292, h1370⟩
              · refine W_sound tab_ok mixed 33 _ _ _ ?_
                simp -implicitDefEqProofs only [go_sem, ne_eq, not_false_eq_true, Nat.reduceBEq, Nat.reduceAdd, Nat.reduceSub, Nat.reduceMul, Nat.reduceLT, Nat.reduceLeDiff, Int.reduceLE, Int.reduceLT, Int.reduceToNat, Int.reduceBEq, Int.reduceBNe, Int.le_refl, Nat.le_refl, decide_true, decide_false, Int.cast_ofNat_Int, ↓reduceIte, h825, h1196, h1281, g1282, g1283, g1284, h1285, g1287, g1288, g1289, h1290, h1292]
                repeat with_reducible refine And.intro (by first | kernel_rfl | decide) ?_
                exact cutQ _ ((Wk_le (.cons _ _ _ _ _ (.refl _) (.cons _ _ _ _ _ (.refl _) (.cons _ _ _ _ _ (.refl _) (.cons _ _ _ _ _ (.refl _) (.cons _ _ _ _ _ (.refl _) (.cons _ _ _ _ _ (.refl _) (.cons _ _ _ _ _ (.refl _) (.cons _ _ _ _ _ (.refl _) (.cons _ _ _ _ _ (.refl _) (.cons _ _ _ _ _ (.dead _) (.cons _ _ _ _ _ (.dead _) (.cons _ _ _ _ _ (.refl _) (.cons _ _ _ _ _ (.refl _) .nil))))))))))))) (OLe.refl _)).trans (cmpS_ok rfl)) ⟨n, Nat.lt_succ_self n, _, _, _, h1370, rfl⟩
              · have hh := grd_some h1370; clear h1370; obtain ⟨g1293, h1370⟩ := hh
                have hh := getI_some h1370; clear h1370; obtain ⟨x1295, h1294, h1370⟩ := hh
                have hh := grd_some h1370; clear h1370; obtain ⟨g1296, h1370⟩ := hh
                have hh := getI_some h1370; clear h1370; obtain ⟨x1298, h1297, h1370⟩ := hh
                have hh := bnd'_some h1370; clear h1370; obtain ⟨p1299, h1300, h1370⟩ := hh
                refine W_sound tab_ok mixed 52 _ _ _ ?_
                simp -implicitDefEqProofs only [go_sem, ne_eq, not_false_eq_true, Nat.reduceBEq, Nat.reduceAdd, Nat.reduceSub, Nat.reduceMul, Nat.reduceLT, Nat.reduceLeDiff, Int.reduceLE, Int.reduceLT, Int.reduceToNat, Int.reduceBEq, Int.reduceBNe, Int.le_refl, Nat.le_refl, decide_true, decide_false, Int.cast_ofNat_Int, ↓reduceIte, h825, h1196, h1281, g1282, g1283, g1284, h1285, g1287, g1288, g1289, h1290, h1292, g1293, h1294, g1296, h1297]
                repeat with_reducible refine And.intro (by first | kernel_rfl | decide) ?_
                refine Wp_callP (c60 N _ _ _ h1300) (by kernel_rfl) rfl rfl rfl rfl (by decide) ?_
                have hh := getA2_some h1370; clear h1370; obtain ⟨p1302, p1303, h1301, h1370⟩ := hh
                refine W_sound tab_ok mixed 8 _ _ _ ?_
                simp -implicitDefEqProofs only [go_sem, ne_eq, not_false_eq_true, Nat.reduceBEq, Nat.reduceAdd, Nat.reduceSub, Nat.reduceMul, Nat.reduceLT, Nat.reduceLeDiff, Int.reduceLE, Int.reduceLT, Int.reduceToNat, Int.reduceBEq, Int.reduceBNe, Int.le_refl, Nat.le_refl, decide_true, decide_false, Int.cast_ofNat_Int, ↓reduceIte, h825, h1196, h1281, g1282, g1283, g1284, h1285, g1287, g1288, g1289, h1290, h1292, g1293, h1294, g1296, h1297, h1301]
                repeat with_reducible refine And.intro (by first | kernel_rfl | decide) ?_
                have hh := bnd'_some h1370; clear h1370; obtain ⟨o1372, h1373, h1374⟩ := hh
                refine Wp_cut (fun s => ∃ x1317, x1317 = o1372 ∧ s = ⟨[], [(0, .v (.lst false n826 c827)), (2, .dead), (3, .sl false 0 0 n1278 2), (4, .v (.int .i64 x1194)), (5, .v (.int .i64 x1279)), (6, .ptr 1 0), (7, .v (.int .i64 x1317)), (8, .dead), (12, .dead), (17, .dead), (30, .dead), (65, .dead), (79, .dead)], [(0, .p c1280), (1, .p [p1302, p1303])], 2, []⟩) ?_ ?_
                · refine Wp_block ?_
                  refine Wp_loopG (fun n s => ∃ x1304, m68_L2 N n826 c827 x1194 n1278 x1279 c1280 p1302 p1303 n x1304 = some o1372 ∧ s = ⟨[], [(0, .v (.lst false n826 c827)), (2, .dead), (3, .sl false 0 0 n1278 2), (4, .v (.int .i64 x1194)), (5, .v (.int .i64 x1279)), (6, .ptr 1 0), (7, .v (.int .i64 x1304)), (8, .dead), (12, .dead), (17, .dead), (30, .dead), (65, .dead), (79, .dead)], [(0, .p c1280), (1, .p [p1302, p1303])], 2, []⟩) N _ ((Wk_le (.cons _ _ _ _ _ (.refl _) (.cons _ _ _ _ _ (.refl _) (.cons _ _ _ _ _ (.refl _) (.cons _ _ _ _ _ (.refl _) (.cons _ _ _ _ _ (.refl _) (.cons _ _ _ _ _ (.refl _) (.cons _ _ _ _ _ (.refl _) (.cons _ _ _ _ _ (.refl _) (.cons _ _ _ _ _ (.refl _) (.cons _ _ _ _ _ (.dead _) (.cons _ _ _ _ _ (.dead _) (.cons _ _ _ _ _ (.refl _) (.cons _ _ _ _ _ (.refl _) .nil))))))))))))) (OLe.refl _)).trans (cmpS_ok rfl)) ⟨_, h1373, rfl⟩ ?_
                  clear h1373
                  rintro n _ ⟨x1304, h1373, rfl⟩
                  cases n with
                  | zero => cases h1373
                  | succ n =>
                    rw [m68_L2] at h1373
                    have hh := brn_some h1373; clear h1373; rcases hh with ⟨h1305, h1373⟩ | ⟨h1305, h1373⟩
                    · have hh := grd_some h1373; clear h1373; obtain ⟨⟨g1306, g1307⟩, h1373⟩ := hh
                      have hh := grd_some h1373; clear h1373; obtain ⟨g1308, h1373⟩ := hh
                      have hh := getA2_some h1373; clear h1373; obtain ⟨p1310, p1311, h1309, h1373⟩ := hh
                      injection h1309 with h1309
                      have hh := bnd'_some h1373; clear h1373; obtain ⟨p1312, h1313, h1373⟩ := hh
                      refine W_sound tab_ok mixed 13 _ _ _ ?_
                      simp -implicitDefEqProofs only [go_sem, ne_eq, not_false_eq_true, Nat.reduceBEq, Nat.reduceAdd, Nat.reduceSub, Nat.reduceMul, Nat.reduceLT, Nat.reduceLeDiff, Int.reduceLE, Int.reduceLT, Int.reduceToNat, Int.reduceBEq, Int.reduceBNe, Int.le_refl, Nat.le_refl, decide_true, decide_false, Int.cast_ofNat_Int, ↓reduceIte, h825, h1196, h1281, g1282, g1283, g1284, h1285, g1287, g1288, g1289, h1290, h1292, g1293, h1294, g1296, h1297, h1301, h1305, g1306, g1307, g1308, h1309]
                      repeat with_reducible refine And.intro (by first | kernel_rfl | decide) ?_
                      refine Wp_callP (c72 N _ _ _ h1313) (by kernel_rfl) rfl rfl rfl rfl (by decide) ?_
                      have hh := getB_some h1373; clear h1373; obtain ⟨b1315, h1314, h1373⟩ := hh
                      have hh := brn_some h1373; clear h1373; rcases hh with ⟨h1316, h1373⟩ | ⟨h1316, h1373⟩
                      · refine W_sound tab_ok mixed 11 _ _ _ ?_
                        simp -implicitDefEqProofs only [go_sem, ne_eq, not_false_eq_true, Nat.reduceBEq, Nat.reduceAdd, Nat.reduceSub, Nat.reduceMul, Nat.reduceLT, Nat.reduceLeDiff, Int.reduceLE, Int.reduceLT, Int.reduceToNat, Int.reduceBEq, Int.reduceBNe, Int.le_refl, Nat.le_refl, decide_true, decide_false, Int.cast_ofNat_Int, ↓reduceIte, h825, h1196, h1281, g1282, g1283, g1284, h1285, g1287, g1288, g1289, h1290, h1292, g1293, h1294, g1296, h1297, h1301, h1305, g1306, g1307, g1308, h1309, h1314, h1316]
                        repeat with_reducible refine And.intro (by first | kernel_rfl | decide) ?_
                        exact cutQ _ ((Wk_le (.cons _ _ _ _ _ (.refl _) (.cons _ _ _ _ _ (.refl _) (.cons _ _ _ _ _ (.refl _) (.cons _ _ _ _ _ (.refl _) (.cons _ _ _ _ _ (.refl _) (.cons _ _ _ _ _ (.refl _) (.cons _ _ _ _ _ (.refl _) (.cons _ _ _ _ _ (.refl _) (.cons _ _ _ _ _ (.refl _) (.cons _ _ _ _ _ (.refl _) (.cons _ _ _ _ _ (.refl _) (.cons _ _ _ _ _ (.dead _) (.cons _ _ _ _ _ (.refl _) .nil))))))))))))) (OLe.refl _)).trans (cmpS_ok rfl)) ⟨n, Nat.lt_succ_self n, _, h1373, rfl⟩
                      · refine W_sound tab_ok mixed 4 _ _ _ ?_
                        simp -implicitDefEqProofs only [go_sem, ne_eq, not_false_eq_true, Nat.reduceBEq, Nat.reduceAdd, Nat.reduceSub, Nat.reduceMul, Nat.reduceLT, Nat.reduceLeDiff, Int.reduceLE, Int.reduceLT, Int.reduceToNat, Int.reduceBEq, Int.reduceBNe, Int.le_refl, Nat.le_refl, decide_true, decide_false, Int.cast_ofNat_Int, ↓reduceIte, h825, h1196, h1281, g1282, g1283, g1284, h1285, g1287, g1288, g1289, h1290, h1292, g1293, h1294, g1296, h1297, h1301, h1305, g1306, g1307, g1308, h1309, h1314, h1316]
                        repeat with_reducible refine And.intro (by first | kernel_rfl | decide) ?_
                        obtain rfl := Option.some.inj h1373
                        exact cutQ _ ((Wk_le (.cons _ _ _ _ _ (.refl _) (.cons _ _ _ _ _ (.refl _) (.cons _ _ _ _ _ (.refl _) (.cons _ _ _ _ _ (.refl _) (.cons _ _ _ _ _ (.refl _) (.cons _ _ _ _ _ (.refl _) (.cons _ _ _ _ _ (.refl _) (.cons _ _ _ _ _ (.refl _) (.cons _ _ _ _ _ (.refl _) (.cons _ _ _ _ _ (.refl _) (.cons _ _ _ _ _ (.refl _) (.cons _ _ _ _ _ (.dead _) (.cons _ _ _ _ _ (.refl _) .nil))))))))))))) (OLe.refl _)).trans (cmpS_ok rfl)) ⟨_, rfl, rfl⟩
                    · refine W_sound tab_ok mixed 18 _ _ _ ?_
                      simp -implicitDefEqProofs only [go_sem, ne_eq, not_false_eq_true, Nat.reduceBEq, Nat.reduceAdd, Nat.reduceSub, Nat.reduceMul, Nat.reduceLT, Nat.reduceLeDiff, Int.reduceLE, Int.reduceLT, Int.reduceToNat, Int.reduceBEq, Int.reduceBNe, Int.le_refl, Nat.le_refl, decide_true, decide_false, Int.cast_ofNat_Int, ↓reduceIte, h825, h1196, h1281, g1282, g1283, g1284, h1285, g1287, g1288, g1289, h1290, h1292, g1293, h1294, g1296, h1297, h1301, h1305]
                      repeat with_reducible refine And.intro (by first | kernel_rfl | decide) ?_
                      obtain rfl := Option.some.inj h1373
                      exact cutQ _ ((Wk_le (.cons _ _ _ _ _ (.refl _) (.cons _ _ _ _ _ (.refl _) (.cons _ _ _ _ _ (.refl _) (.cons _ _ _ _ _ (.refl _) (.cons _ _ _ _ _ (.refl _) (.cons _ _ _ _ _ (.refl _) (.cons _ _ _ _ _ (.refl _) (.cons _ _ _ _ _ (.refl _) (.cons _ _ _ _ _ (.refl _) (.cons _ _ _ _ _ (.refl _) (.cons _ _ _ _ _ (.refl _) (.cons _ _ _ _ _ (.dead _) (.cons _ _ _ _ _ (.refl _) .nil))))))))))))) (OLe.refl _)).trans (cmpS_ok rfl)) ⟨_, rfl, rfl⟩
                · rintro _ ⟨x1317, rfl, rfl⟩
                  have hh := brn_some h1374; clear h1374; rcases hh with ⟨h1318, h1374⟩ | ⟨h1318, h1374⟩
                  · have hh := grd_some h1374; clear h1374; obtain ⟨⟨g1319, g1320⟩, h1374⟩ := hh
                    have hh := grd_some h1374; clear h1374; obtain ⟨g1321, h1374⟩ := hh
                    have hh := getA2_some h1374; clear h1374; obtain ⟨p1323, p1324, h1322, h1374⟩ := hh
                    injection h1322 with h1322
                    have hh := getI_some h1374; clear h1374; obtain ⟨x1326, h1325, h1374⟩ := hh
                    have hh := getI_some h1374; clear h1374; obtain ⟨x1328, h1327, h1374⟩ := hh
                    have hh := getI_some h1374; clear h1374; obtain ⟨x1330, h1329, h1374⟩ := hh
                    have hh := getI_some h1374; clear h1374; obtain ⟨x1332, h1331, h1374⟩ := hh
                    have hh := brn_some h1374; clear h1374; rcases hh with ⟨h1333, h1374⟩ | ⟨h1333, h1374⟩
                    · refine W_sound tab_ok mixed 23 _ _ _ ?_
                      simp -implicitDefEqProofs only [go_sem, ne_eq, not_false_eq_true, Nat.reduceBEq, Nat.reduceAdd, Nat.reduceSub, Nat.reduceMul, Nat.reduceLT, Nat.reduceLeDiff, Int.reduceLE, Int.reduceLT, Int.reduceToNat, Int.reduceBEq, Int.reduceBNe, Int.le_refl, Nat.le_refl, decide_true, decide_false, Int.cast_ofNat_Int, ↓reduceIte, h825, h1196, h1281, g1282, g1283, g1284, h1285, g1287, g1288, g1289, h1290, h1292, g1293, h1294, g1296, h1297, h1301, h1318, g1319, g1320, g1321, h1322, h1325, h1327, h1329, h1331, h1333]
                      repeat with_reducible refine And.intro (by first | kernel_rfl | decide) ?_
                      exact cutQ _ ((Wk_le (.cons _ _ _ _ _ (.refl _) (.cons _ _ _ _ _ (.refl _) (.cons _ _ _ _ _ (.refl _) (.cons _ _ _ _ _ (.refl _) (.cons _ _ _ _ _ (.refl _) (.cons _ _ _ _ _ (.dead _) (.cons _ _ _ _ _ (.dead _) (.cons _ _ _ _ _ (.refl _) (.cons _ _ _ _ _ (.refl _) (.cons _ _ _ _ _ (.refl _) (.cons _ _ _ _ _ (.refl _) (.cons _ _ _ _ _ (.refl _) (.cons _ _ _ _ _ (.dead _) .nil))))))))))))) (OLe.refl _)).trans (cmpS_ok rfl)) ⟨n, Nat.lt_succ_self n, _, _, _, h1374, rfl⟩
                    · have hh := grd_some h1374; clear h1374; obtain ⟨g1334, h1374⟩ := hh
                      have hh := grd_some h1374; clear h1374; obtain ⟨g1335, h1374⟩ := hh
                      have hh := brn_some h1374; clear h1374; rcases hh with ⟨h1336, h1374⟩ | ⟨h1336, h1374⟩
                      · have hh := grd_some h1374; clear h1374; obtain ⟨g1337, h1374⟩ := hh
                        have hh := grd_some h1374; clear h1374; obtain ⟨g1338, h1374⟩ := hh
                        have hh := grd_some h1374; clear h1374; obtain ⟨g1339, h1374⟩ := hh
                        have hh := grd_some h1374; clear h1374; obtain ⟨g1340, h1374⟩ := hh
                        have hh := grd_some h1374; clear h1374; obtain ⟨g1341, h1374⟩ := hh
                        refine W_sound tab_ok mixed 49 _ _ _ ?_
                        simp -implicitDefEqProofs only [go_sem, ne_eq, not_false_eq_true, Nat.reduceBEq, Nat.reduceAdd, Nat.reduceSub, Nat.reduceMul, Nat.reduceLT, Nat.reduceLeDiff, Int.reduceLE, Int.reduceLT, Int.reduceToNat, Int.reduceBEq, Int.reduceBNe, Int.le_refl, Nat.le_refl, decide_true, decide_false, Int.cast_ofNat_Int, ↓reduceIte, h825, h1196, h1281, g1282, g1283, g1284, h1285, g1287, g1288, g1289, h1290, h1292, g1293, h1294, g1296, h1297, h1301, h1318, g1319, g1320, g1321, h1322, h1325, h1327, h1329, h1331, h1333, g1334, g1335, h1336, g1337, g1338, g1339, g1340, g1341]
                        repeat with_reducible refine And.intro (by first | kernel_rfl | decide) ?_
                        exact cutQ _ ((Wk_le (.cons _ _ _ _ _ (.refl _) (.cons _ _ _ _ _ (.refl _) (.cons _ _ _ _ _ (.refl _) (.cons _ _ _ _ _ (.refl _) (.cons _ _ _ _ _ (.refl _) (.cons _ _ _ _ _ (.dead _) (.cons _ _ _ _ _ (.dead _) (.cons _ _ _ _ _ (.dead _) (.cons _ _ _ _ _ (.refl _) (.cons _ _ _ _ _ (.refl _) (.cons _ _ _ _ _ (.refl _) (.cons _ _ _ _ _ (.refl _) (.cons _ _ _ _ _ (.dead _) .nil))))))))))))) (OLe.refl _)).trans (cmpS_ok rfl)) ⟨n, Nat.lt_succ_self n, _, _, _, h1374, rfl⟩
                      · have hh := grd_some h1374; clear h1374; obtain ⟨g1342, h1374⟩ := hh
                        have hh := grd_some h1374; clear h1374; obtain ⟨g1343, h1374⟩ := hh
                        have hh := grd_some h1374; clear h1374; obtain ⟨g1344, h1374⟩ := hh
                        have hh := grd_some h1374; clear h1374; obtain ⟨g1345, h1374⟩ := hh
                        have hh := grd_some h1374; clear h1374; obtain ⟨g1346, h1374⟩ := hh
                        refine W_sound tab_ok mixed 49 _ _ _ ?_
                        simp -implicitDefEqProofs only [go_sem, ne_eq, not_false_eq_true, Nat.reduceBEq, Nat.reduceAdd, Nat.reduceSub, Nat.reduceMul, Nat.reduceLT, Nat.reduceLeDiff, Int.reduceLE, Int.reduceLT, Int.reduceToNat, Int.reduceBEq, Int.reduceBNe, Int.le_refl, Nat.le_refl, decide_true, decide_false, Int.cast_ofNat_Int, ↓reduceIte, h825, h1196, h1281, g1282, g1283, g1284, h1285, g1287, g1288, g1289, h1290, h1292, g1293, h1294, g1296, h1297, h1301, h1318, g1319, g1320, g1321, h1322, h1325, h1327, h1329, h1331, h1333, g1334, g1335, h1336, g1342, g1343, g1344, g1345, g1346]
                        repeat with_reducible refine And.intro (by first | kernel_rfl | decide) ?_
                        exact cutQ _ ((Wk_le (.cons _ _ _ _ _ (.refl _) (.cons _ _ _ _ _ (.refl _) (.cons _ _ _ _ _ (.refl _) (.cons _ _ _ _ _ (.refl _) (.cons _ _ _ _ _ (.refl _) (.cons _ _ _ _ _ (.dead _) (.cons _ _ _ _ _ (.dead _) (.cons _ _ _ _ _ (.dead _) (.cons _ _ _ _ _ (.refl _) (.cons _ _ _ _ _ (.refl _) (.cons _ _ _ _ _ (.refl _) (.cons _ _ _ _ _ (.refl _) (.cons _ _ _ _ _ (.dead _) .nil))))))))))))) (OLe.refl _)).trans (cmpS_ok rfl)) ⟨n, Nat.lt_succ_self n, _, _, _, h1374, rfl⟩
                  · have hh := grd_some h1374; clear h1374; obtain ⟨⟨g1347, g1348⟩, h1374⟩ := hh
                    have hh := grd_some h1374; clear h1374; obtain ⟨g1349, h1374⟩ := hh
                    have hh := brn_some h1374; clear h1374; rcases hh with ⟨h1350, h1374⟩ | ⟨h1350, h1374⟩
                    · have hh := grd_some h1374; clear h1374; obtain ⟨g1351, h1374⟩ := hh
                      have hh := grd_some h1374; clear h1374; obtain ⟨g1352, h1374⟩ := hh
                      have hh := grd_some h1374; clear h1374; obtain ⟨g1353, h1374⟩ := hh
                      have hh := grd_some h1374; clear h1374; obtain ⟨g1354, h1374⟩ := hh
                      have hh := grd_some h1374; clear h1374; obtain ⟨g1355, h1374⟩ := hh
                      refine W_sound tab_ok mixed 49 _ _ _ ?_
                      simp -implicitDefEqProofs only [go_sem, ne_eq, not_false_eq_true, Nat.reduceBEq, Nat.reduceAdd, Nat.reduceSub, Nat.reduceMul, Nat.reduceLT, Nat.reduceLeDiff, Int.reduceLE, Int.reduceLT, Int.reduceToNat, Int.reduceBEq, Int.reduceBNe, Int.le_refl, Nat.le_refl, decide_true, decide_false, Int.cast_ofNat_Int, ↓reduceIte, h825, h1196, h1281, g1282, g1283, g1284, h1285, g1287, g1288, g1289, h1290, h1292, g1293, h1294, g1296, h1297, h1301, h1318, g1347, g1348, g1349, h1350, g1351, g1352, g1353, g1354, g1355]
                      repeat with_reducible refine And.intro (by first | kernel_rfl | decide) ?_
                      exact cutQ _ ((Wk_le (.cons _ _ _ _ _ (.refl _) (.cons _ _ _ _ _ (.refl _) (.cons _ _ _ _ _ (.refl _) (.cons _ _ _ _ _ (.refl _) (.cons _ _ _ _ _ (.refl _) (.cons _ _ _ _ _ (.dead _) (.cons _ _ _ _ _ (.dead _) (.cons _ _ _ _ _ (.dead _) (.cons _ _ _ _ _ (.refl _) (.cons _ _ _ _ _ (.refl _) (.cons _ _ _ _ _ (.refl _) (.cons _ _ _ _ _ (.refl _) (.cons _ _ _ _ _ (.dead _) .nil))))))))))))) (OLe.refl _)).trans (cmpS_ok rfl)) ⟨n, Nat.lt_succ_self n, _, _, _, h1374, rfl⟩
                    · have hh := grd_some h1374; clear h1374; obtain ⟨g1356, h1374⟩ := hh
                      have hh := grd_some h1374; clear h1374; obtain ⟨g1357, h1374⟩ := hh
                      have hh := grd_some h1374; clear h1374; obtain ⟨g1358, h1374⟩ := hh
                      have hh := grd_some h1374; clear h1374; obtain ⟨g1359, h1374⟩ := hh
                      have hh := grd_some h1374; clear h1374; obtain ⟨g1360, h1374⟩ := hh
                      refine W_sound tab_ok mixed 49 _ _ _ ?_
                      simp -implicitDefEqProofs only [go_sem, ne_eq, not_false_eq_true, Nat.reduceBEq, Nat.reduceAdd, Nat.reduceSub, Nat.reduceMul, Nat.reduceLT, Nat.reduceLeDiff, Int.reduceLE, Int.reduceLT, Int.reduceToNat, Int.reduceBEq, Int.reduceBNe, Int.le_refl, Nat.le_refl, decide_true, decide_false, Int.cast_ofNat_Int, ↓reduceIte, h825, h1196, h1281, g1282, g1283, g1284, h1285, g1287, g1288, g1289, h1290, h1292, g1293, h1294, g1296, h1297, h1301, h1318, g1347, g1348, g1349, h1350, g1356, g1357, g1358, g1359, g1360]
                      repeat with_reducible refine And.intro (by first | kernel_rfl | decide) ?_
                      exact cutQ _ ((Wk_le (.cons _ _ _ _ _ (.refl _) (.cons _ _ _ _ _ (.refl _) (.cons _ _ _ _ _ (.refl _) (.cons _ _ _ _ _ (.refl _) (.cons _ _ _ _ _ (.refl _) (.cons _ _ _ _ _ (.dead _) (.cons _ _ _ _ _ (.dead _) (.cons _ _ _ _ _ (.dead _) (.cons _ _ _ _ _ (.refl _) (.cons _ _ _ _ _ (.refl _) (.cons _ _ _ _ _ (.refl _) (.cons _ _ _ _ _ (.refl _) (.cons _ _ _ _ _ (.dead _) .nil))))))))))))) (OLe.refl _)).trans (cmpS_ok rfl)) ⟨n, Nat.lt_succ_self n, _, _, _, h1374, rfl⟩
            · refine W_sound tab_ok mixed 9 _ _ _ ?_
              simp -implicitDefEqProofs only [go_sem, ne_eq, not_false_eq_true, Nat.reduceBEq, Nat.reduceAdd, Nat.reduceSub, Nat.reduceMul, Nat.reduceLT, Nat.reduceLeDiff, Int.reduceLE, Int.reduceLT, Int.reduceToNat, Int.reduceBEq, Int.reduceBNe, Int.le_refl, Nat.le_refl, decide_true, decide_false, Int.cast_ofNat_Int, ↓reduceIte, h825, h1196, h1281]
              repeat with_reducible refine And.intro (by first | kernel_rfl | decide) ?_
              obtain rfl := Option.some.inj h1370
              exact cutQ _ ((Wk_le (.cons _ _ _ _ _ (.refl _) (.cons _ _ _ _ _ (.refl _) (.cons _ _ _ _ _ (.refl _) (.cons _ _ _ _ _ (.refl _) (.cons _ _ _ _ _ (.dead _) (.cons _ _ _ _ _ (.refl _) (.cons _ _ _ _ _ (.refl _) (.cons _ _ _ _ _ (.refl _) (.cons _ _ _ _ _ (.refl _) (.cons _ _ _ _ _ (.dead _) (.cons _ _ _ _ _ (.refl _) (.cons _ _ _ _ _ (.refl _) (.cons _ _ _ _ _ (.refl _) .nil))))))))))))) (OLe.refl _)).trans (cmpS_ok rfl)) ⟨_, _, rfl, rfl⟩
        · rintro _ ⟨n1361, c1362, rfl, rfl⟩
          (try dsimp only at h1371)
          refine W_sound tab_ok mixed 6 _ _ _ ?_
          simp -implicitDefEqProofs only [go_sem, ne_eq, not_false_eq_true, Nat.reduceBEq, Nat.reduceAdd, Nat.reduceSub, Nat.reduceMul, Nat.reduceLT, Nat.reduceLeDiff, Int.reduceLE, Int.reduceLT, Int.reduceToNat, Int.reduceBEq, Int.reduceBNe, Int.le_refl, Nat.le_refl, decide_true, decide_false, Int.cast_ofNat_Int, ↓reduceIte, h825, h1196]
          repeat with_reducible refine And.intro (by first | kernel_rfl | decide) ?_
          exact cutQ _ ((Wk_le (.cons _ _ _ _ _ (.refl _) (.cons _ _ _ _ _ (.refl _) (.cons _ _ _ _ _ (.refl _) (.cons _ _ _ _ _ (.refl _) (.cons _ _ _ _ _ (.refl _) (.cons _ _ _ _ _ (.refl _) (.cons _ _ _ _ _ (.refl _) (.cons _ _ _ _ _ (.refl _) (.cons _ _ _ _ _ (.refl _) (.cons _ _ _ _ _ (.refl _) (.cons _ _ _ _ _ (.refl _) (.cons _ _ _ _ _ (.refl _) (.cons _ _ _ _ _ (.refl _) .nil))))))))))))) (OLe.refl _)).trans (cmpS_ok rfl)) ⟨n, Nat.lt_succ_self n, _, _, _, h1371, rfl⟩
      · refine W_sound tab_ok mixed 10 _ _ _ ?_
        simp -implicitDefEqProofs only [go_sem, ne_eq, not_false_eq_true, Nat.reduceBEq, Nat.reduceAdd, Nat.reduceSub, Nat.reduceMul, Nat.reduceLT, Nat.reduceLeDiff, Int.reduceLE, Int.reduceLT, Int.reduceToNat, Int.reduceBEq, Int.reduceBNe, Int.le_refl, Nat.le_refl, decide_true, decide_false, Int.cast_ofNat_Int, ↓reduceIte, h825, h1196]
        repeat with_reducible refine And.intro (by first | kernel_rfl | decide) ?_
        obtain rfl := Option.some.inj h1367
        exact cutQ _ ((Wk_le (.cons _ _ _ _ _ (.dead _) (.cons _ _ _ _ _ (.refl _) (.cons _ _ _ _ _ (.refl _) (.cons _ _ _ _ _ (.dead _) (.cons _ _ _ _ _ (.refl _) (.cons _ _ _ _ _ (.refl _) (.cons _ _ _ _ _ (.refl _) (.cons _ _ _ _ _ (.refl _) (.cons _ _ _ _ _ (.dead _) (.cons _ _ _ _ _ (.refl _) (.cons _ _ _ _ _ (.refl _) (.cons _ _ _ _ _ (.refl _) (.cons _ _ _ _ _ (.refl _) .nil))))))))))))) (OLe.refl _)).trans (cmpS_ok rfl)) ⟨_, _, rfl, rfl⟩
  · rintro _ ⟨n1363, c1364, rfl, rfl⟩
    (try dsimp only at h1368)
    refine W_sound tab_ok mixed 6 _ _ _ ?_
    simp -implicitDefEqProofs only [go_sem, ne_eq, not_false_eq_true, Nat.reduceBEq, Nat.reduceAdd, Nat.reduceSub, Nat.reduceMul, Nat.reduceLT, Nat.reduceLeDiff, Int.reduceLE, Int.reduceLT, Int.reduceToNat, Int.reduceBEq, Int.reduceBNe, Int.le_refl, Nat.le_refl, decide_true, decide_false, Int.cast_ofNat_Int, ↓reduceIte, h825]
    repeat with_reducible refine And.intro (by first | kernel_rfl | decide) ?_
    have hh := grd_some h1368; clear h1368; obtain ⟨g1365, h1368⟩ := hh
    refine FinQ_wk (Wk_freeze 0 c1364 (by rfl) (by decide) (by decide)) ?_
    simp -implicitDefEqProofs only [go_sem, ne_eq, not_false_eq_true, Nat.reduceBEq, Nat.reduceAdd, Nat.reduceSub, Nat.reduceMul, Nat.reduceLT, Nat.reduceLeDiff, Int.reduceLE, Int.reduceLT, Int.reduceToNat, Int.reduceBEq, Int.reduceBNe, Int.le_refl, Nat.le_refl, decide_true, decide_false, Int.cast_ofNat_Int, ↓reduceIte, h825, g1365]
    obtain rfl := Option.some.inj h1368
    exact finC [(2, .v (.lst false n1363 c1364))] [(2, .v (.lst false n1363 c1364))] (by simp [leE, lk_cons]) (.cons _ _ _ _ _ (.v _ _ (.refl _)) .nil) (by rfl) (by simp [leE, lk_cons]) (by decide) (by decide) rfl (by simp only [go_sem, ne_eq, not_false_eq_true, Nat.reduceBEq, Nat.reduceAdd, Nat.reduceSub, Nat.reduceMul, Nat.reduceLT, Nat.reduceLeDiff, Int.reduceLE, Int.reduceLT, Int.reduceToNat, Int.reduceBEq, Int.reduceBNe, Int.le_refl, Nat.le_refl, decide_true, decide_false, Int.cast_ofNat_Int, ↓reduceIte, resQ_tmp, resQ_cell, resQ_nil, retD_one, retD_two, retD_three, retD_none]; try simp [R.val, retD_one, retD_two, retD_three, retD_none])

def m71_L0 (N : Nat) (n1382 : Nat) (c1383 : List PV) : Nat → Nat → Int → List PV → Option ((Nat × List PV))
  | 0, _, _, _ => none
  | n + 1, n1431, x1432, c1433 =>
    brn (decide (x1432 < ((n1382 : Nat) : Int))) (
      brn (decide (x1432 > 0)) (
        grd (0 ≤ (IntKind.i64.wrap (x1432 - 1)) ∧ (IntKind.i64.wrap (x1432 - 1)) < ((n1382 : Nat) : Int)) <|
        grd (0 < List.length (List.drop ((Int.toNat (IntKind.i64.wrap (x1432 - 1))) * 2) c1383)) <|
        getI .i64 (gp c1383 ((Int.toNat (IntKind.i64.wrap (x1432 - 1))) * 2)) fun x1440 =>
        grd (0 ≤ x1432 ∧ x1432 < ((n1382 : Nat) : Int)) <|
        grd (0 < List.length (List.drop 1 (List.drop ((Int.toNat x1432) * 2) c1383))) <|
        getI .i64 (gp c1383 (((Int.toNat x1432) * 2) + 1)) fun x1445 =>
        grd (0 < List.length (List.drop ((Int.toNat x1432) * 2) c1383)) <|
        getI .i64 (gp c1383 ((Int.toNat x1432) * 2)) fun x1448 =>
        grd (0 < List.length (List.drop 1 (List.drop ((Int.toNat (IntKind.i64.wrap (x1432 - 1))) * 2) c1383))) <|
        getI .i64 (gp c1383 (((Int.toNat (IntKind.i64.wrap (x1432 - 1))) * 2) + 1)) fun x1451 =>
        bnd' (m60 N (IntKind.i64.wrap ((IntKind.i64.wrap (x1440 * x1445)) + (IntKind.i64.wrap (x1448 * x1451)))) (IntKind.i64.wrap ((IntKind.i64.wrap (2 * x1451)) * x1445))) fun p1452 =>
        getA2 p1452 fun p1455 p1456 =>
        grd ((n1431 + 1) ≤ 1099511627776) <|
        grd (List.length c1433 = (n1431 * 2)) <|
        grd (2 ≤ List.length (List.drop ((Int.toNat x1432) * 2) c1383)) <|
        getA2 (.agg (List.take 2 (List.drop ((Int.toNat x1432) * 2) c1383))) fun p1461 p1462 =>
        grd (((n1431 + 1) + 1) ≤ 1099511627776) <|
        grd (List.length (c1433 ++ [p1455, p1456]) = ((n1431 + 1) * 2)) <|
        m71_L0 N n1382 c1383 n ((n1431 + 1) + 1) (IntKind.i64.wrap (x1432 + 1)) ((c1433 ++ [p1455, p1456]) ++ [p1461, p1462])) (
        grd (0 ≤ x1432 ∧ x1432 < ((n1382 : Nat) : Int)) <|
        grd (2 ≤ List.length (List.drop ((Int.toNat x1432) * 2) c1383)) <|
        getA2 (.agg (List.take 2 (List.drop ((Int.toNat x1432) * 2) c1383))) fun p1469 p1470 =>
        grd ((n1431 + 1) ≤ 1099511627776) <|
        grd (List.length c1433 = (n1431 * 2)) <|
        m71_L0 N n1382 c1383 n (n1431 + 1) (IntKind.i64.wrap (x1432 + 1)) (c1433 ++ [p1469, p1470]))) (
      some (n1431, c1433))
def m71 (N : Nat) (p1375 : PV) : Option (PV) :=
  getL p1375 fun n1377 c1378 =>
  bnd' (m68 N (.lst false n1377 c1378)) fun p1379 =>
  getL p1379 fun n1382 c1383 =>
  brn (((n1382 : Nat) : Int) == 0) (
    some (.lst false 1 [(.int .i64 0), (.int .i64 1)])) (
    grd (0 < ((n1382 : Nat) : Int)) <|
    grd (0 < List.length c1383) <|
    getI .i64 (gp c1383 0) fun x1388 =>
    grd (0 < List.length (List.drop 1 c1383)) <|
    getI .i64 (gp c1383 1) fun x1391 =>
    bnd' (m60 N (IntKind.i64.wrap (x1388 - x1391)) x1391) fun p1392 =>
    getA2 p1392 fun p1395 p1396 =>
    bnd' (m71_L0 N n1382 c1383 N 1 0 [p1395, p1396]) fun o =>
    match o with
    | (n1473, c1474) =>
      grd (0 ≤ (IntKind.i64.wrap (((n1382 : Nat) : Int) - 1)) ∧ (IntKind.i64.wrap (((n1382 : Nat) : Int) - 1)) < ((n1382 : Nat) : Int)) <|
      grd (2 ≤ List.length (List.drop ((Int.toNat (IntKind.i64.wrap (((n1382 : Nat) : Int) - 1))) * 2) c1383)) <|
      getA2 (.agg (List.take 2 (List.drop ((Int.toNat (IntKind.i64.wrap (((n1382 : Nat) : Int) - 1))) * 2) c1383))) fun p1479 p1480 =>
      getI .i64 p1479 fun x1482 =>
      getI .i64 p1480 fun x1484 =>
      bnd' (m60 N (IntKind.i64.wrap (x1482 + x1484)) x1484) fun p1485 =>
      getA2 p1485 fun p1488 p1489 =>
      grd ((n1473 + 1) ≤ 1099511627776) <|
      grd (List.length c1474 = (n1473 * 2)) <|
      grd (List.length (c1474 ++ [p1488, p1489]) = ((n1473 + 1) * 2)) <|
      some (.lst false (n1473 + 1) (c1474 ++ [p1488, p1489])))
theorem c71 (N : Nat) (p1375 : PV) (r : PV)  (h : m71 N p1375 = some r) : FnP Try.prog 71 [p1375] r := by
  unfold m71 at h
  refine Fn_of (sz := 103) tab_ok [0, 2, 3, 4, 5, 6, 11, 32, 36] [.tmp 2] Try.func71 rfl rfl rfl (by simp) ?_
  simp only [initSt, initEnv, List.map_cons, List.map_nil, List.getD_cons_zero, List.getD_cons_succ, List.getD_nil]
  have hh := getL_some h; clear h; obtain ⟨n1377, c1378, h1376, h⟩ := hh
  have hh := bnd'_some h; clear h; obtain ⟨p1379, h1380, h⟩ := hh
  refine W_sound tab_ok mixed 7 _ _ _ ?_
  simp -implicitDefEqProofs only [go_sem, ne_eq, not_false_eq_true, Nat.reduceBEq, Nat.reduceAdd, Nat.reduceSub, Nat.reduceMul, Nat.reduceLT, Nat.reduceLeDiff, Int.reduceLE, Int.reduceLT, Int.reduceToNat, Int.reduceBEq, Int.reduceBNe, Int.le_refl, Nat.le_refl, decide_true, decide_false, Int.cast_ofNat_Int, ↓reduceIte, h1376]
  repeat with_reducible refine And.intro (by first | kernel_rfl | decide) ?_
  refine Wp_callP (c68 N _ _ h1380) (by kernel_rfl) rfl rfl rfl rfl (by decide) ?_
  have hh := getL_some h; clear h; obtain ⟨n1382, c1383, h1381, h⟩ := hh
  have hh := brn_some h; clear h; rcases hh with ⟨h1384, h⟩ | ⟨h1384, h⟩
  · refine W_sound tab_ok mixed 17 _ _ _ ?_
    simp -implicitDefEqProofs only [go_sem, ne_eq, not_false_eq_true, Nat.reduceBEq, Nat.reduceAdd, Nat.reduceSub, Nat.reduceMul, Nat.reduceLT, Nat.reduceLeDiff, Int.reduceLE, Int.reduceLT, Int.reduceToNat, Int.reduceBEq, Int.reduceBNe, Int.le_refl, Nat.le_refl, decide_true, decide_false, Int.cast_ofNat_Int, ↓reduceIte, h1376, h1381, h1384]
    repeat with_reducible refine And.intro (by first | kernel_rfl | decide) ?_
    refine FinQ_wk (Wk_freeze 13 [(.int .i64 0), (.int .i64 1)] (by rfl) (by decide) (by decide)) ?_
    simp -implicitDefEqProofs only [go_sem, ne_eq, not_false_eq_true, Nat.reduceBEq, Nat.reduceAdd, Nat.reduceSub, Nat.reduceMul, Nat.reduceLT, Nat.reduceLeDiff, Int.reduceLE, Int.reduceLT, Int.reduceToNat, Int.reduceBEq, Int.reduceBNe, Int.le_refl, Nat.le_refl, decide_true, decide_false, Int.cast_ofNat_Int, ↓reduceIte, h1376, h1381, h1384]
    obtain rfl := Option.some.inj h
    exact finC [(2, .v (.lst true 1 [(.int .i64 0), (.int .i64 1)]))] [(2, .v (.lst false 1 [(.int .i64 0), (.int .i64 1)]))] (by simp [leE, lk_cons]) (.cons _ _ _ _ _ (.v _ _ (.lst true false _ _ _ (fun h => by first | exact h | cases h) (PLes.refl _))) .nil) (by rfl) (by simp [leE, lk_cons]) (by decide) (by decide) rfl (by simp only [go_sem, ne_eq, not_false_eq_true, Nat.reduceBEq, Nat.reduceAdd, Nat.reduceSub, Nat.reduceMul, Nat.reduceLT, Nat.reduceLeDiff, Int.reduceLE, Int.reduceLT, Int.reduceToNat, Int.reduceBEq, Int.reduceBNe, Int.le_refl, Nat.le_refl, decide_true, decide_false, Int.cast_ofNat_Int, ↓reduceIte, resQ_tmp, resQ_cell, resQ_nil, retD_one, retD_two, retD_three, retD_none]; try simp [R.val, retD_one, retD_two, retD_three, retD_none])
  · have hh := grd_some h; clear h; obtain ⟨g1385, h⟩ := hh
    have hh := grd_some h; clear h; obtain ⟨g1386, h⟩ := hh
    have hh := getI_some h; clear h; obtain ⟨x1388, h1387, h⟩ := hh
    have hh := grd_some h; clear h; obtain ⟨g1389, h⟩ := hh
    have hh := getI_some h; clear h; obtain ⟨x1391, h1390, h⟩ := hh
    have hh := bnd'_some h; clear h; obtain ⟨p1392, h1393, h⟩ := hh
    refine W_sound tab_ok mixed 26 _ _ _ ?_
    simp -implicitDefEqProofs only [go_sem, ne_eq, not_false_eq_true, Nat.reduceBEq, Nat.reduceAdd, Nat.reduceSub, Nat.reduceMul, Nat.reduceLT, Nat.reduceLeDiff, Int.reduceLE, Int.reduceLT, Int.reduceToNat, Int.reduceBEq, Int.reduceBNe, Int.le_refl, Nat.le_refl, decide_true, decide_false, Int.cast_ofNat_Int, ↓reduceIte, h1376, h1381, h1384, g1385, g1386, h1387, g1389, h1390]
    repeat with_reducible refine And.intro (by first | kernel_rfl | decide) ?_
    refine Wp_callP (c60 N _ _ _ h1393) (by kernel_rfl) rfl rfl rfl rfl (by decide) ?_
    have hh := getA2_some h; clear h; obtain ⟨p1395, p1396, h1394, h⟩ := hh
    refine W_sound tab_ok mixed 8 _ _ _ ?_
    simp -implicitDefEqProofs only [go_sem, ne_eq, not_false_eq_true, Nat.reduceBEq, Nat.reduceAdd, Nat.reduceSub, Nat.reduceMul, Nat.reduceLT, Nat.reduceLeDiff, Int.reduceLE, Int.reduceLT, Int.reduceToNat, Int.reduceBEq, Int.reduceBNe, Int.le_refl, Nat.le_refl, decide_true, decide_false, Int.cast_ofNat_Int, ↓reduceIte, h1376, h1381, h1384, g1385, g1386, h1387, g1389, h1390, h1394]
    repeat with_reducible refine And.intro (by first | kernel_rfl | decide) ?_
    have hh := bnd'_some h; clear h; obtain ⟨o1493, h1494, h1495⟩ := hh
    refine Wp_cut (fun s => ∃ n1473, ∃ c1474, (n1473, c1474) = o1493 ∧ s = ⟨[], [(0, .dead), (2, .dead), (3, .v (.lst false n1382 c1383)), (4, .sl false 0 0 n1473 2), (5, .dead), (6, .dead), (11, .dead), (32, .dead), (36, .dead)], [(0, .p c1474)], 1, []⟩) ?_ ?_
    · refine Wp_block ?_
      refine Wp_loopG (fun n s => ∃ n1431, ∃ x1432, ∃ c1433, m71_L0 N n1382 c1383 n n1431 x1432 c1433 = some o1493 ∧ s = ⟨[], [(0, .dead), (2, .dead), (3, .v (.lst false n1382 c1383)), (4, .sl false 0 0 n1431 2), (5, .v (.int .i64 x1432)), (6, .dead), (11, .dead), (32, .dead), (36, .dead)], [(0, .p c1433)], 1, []⟩) N _ ((Wk_le (.cons _ _ _ _ _ (.dead _) (.cons _ _ _ _ _ (.dead _) (.cons _ _ _ _ _ (.refl _) (.cons _ _ _ _ _ (.sl _ _ _ _ _) (.cons _ _ _ _ _ (.refl _) (.cons _ _ _ _ _ (.refl _) (.cons _ _ _ _ _ (.dead _) (.cons _ _ _ _ _ (.refl _) (.cons _ _ _ _ _ (.refl _) .nil))))))))) (OLe.refl _)).trans (cmpS_ok rfl)) ⟨_, _, _, h1494, rfl⟩ ?_
      clear h1494
      rintro n _ ⟨n1431, x1432, c1433, h1494, rfl⟩
      cases n with
      | zero => cases h1494
      | succ n =>
        rw [m71_L0] at h1494
        have hh := brn_some h1494; clear h1494; rcases hh with ⟨h1434, h1494⟩ | ⟨h1434, h1494⟩
        · have hh := brn_some h1494; clear h1494; rcases hh with ⟨h1435, h1494⟩ | ⟨h1435, h1494⟩
          · have hh := grd_some h1494; clear h1494; obtain ⟨⟨g1436, g1437⟩, h1494⟩ := hh
            have hh := grd_some h1494; clear h1494; obtain ⟨g1438, h1494⟩ := hh
            have hh := getI_some h1494; clear h1494; obtain ⟨x1440, h1439, h1494⟩ := hh
            have hh := grd_some h1494; clear h1494; obtain ⟨⟨g1441, g1442⟩, h1494⟩ := hh
            have hh := grd_some h1494; clear h1494; obtain ⟨g1443, h1494⟩ := hh
            have hh := getI_some h1494; clear h1494; obtain ⟨x1445, h1444, h1494⟩ := hh
            have hh := grd_some h1494; clear h1494; obtain ⟨g1446, h1494⟩ := hh
            have hh := getI_some h1494; clear h1494; obtain ⟨x1448, h1447, h1494⟩ := hh
            have hh := grd_some h1494; clear h1494; obtain ⟨g1449, h1494⟩ := hh
            have hh := getI_some h1494; clear h1494; obtain ⟨x1451, h1450, h1494⟩ := hh
            have hh := bnd'_some h1494; clear h1494; obtain ⟨p1452, h1453, h1494⟩ := hh
            refine W_sound tab_ok mixed 59 _ _ _ ?_
            simp -implicitDefEqProofs only [go_sem, ne_eq, not_false_eq_true, Nat.reduceBEq, Nat.reduceAdd, Nat.reduceSub, Nat.reduceMul, Nat.reduceLT, Nat.reduceLeDiff, Int.reduceLE, Int.reduceLT, Int.reduceToNat, Int.reduceBEq, Int.reduceBNe, Int.le_refl, Nat.le_refl, decide_true, decide_false, Int.cast_ofNat_Int, ↓reduceIte, h1376, h1381, h1384, g1385, g1386, h1387, g1389, h1390, h1394, h1434, h1435, g1436, g1437, g1438, h1439, g1441, g1442, g1443, h1444, g1446, h1447, g1449, h1450]
            repeat with_reducible refine And.intro (by first | kernel_rfl | decide) ?_
            refine Wp_callP (c60 N _ _ _ h1453) (by kernel_rfl) rfl rfl rfl rfl (by decide) ?_
            have hh := getA2_some h1494; clear h1494; obtain ⟨p1455, p1456, h1454, h1494⟩ := hh
            have hh := grd_some h1494; clear h1494; obtain ⟨g1457, h1494⟩ := hh
            have hh := grd_some h1494; clear h1494; obtain ⟨g1458, h1494⟩ := hh
            have hh := grd_some h1494; clear h1494; obtain ⟨g1459, h1494⟩ := hh
            have hh := getA2_some h1494; clear h1494; obtain ⟨p1461, p1462, h1460, h1494⟩ := hh
            injection h1460 with h1460
            have hh := grd_some h1494; clear h1494; obtain ⟨g1463, h1494⟩ := hh
            have hh := grd_some h1494; clear h1494; obtain ⟨g1464, h1494⟩ := hh
            refine W_sound tab_ok mixed 20 _ _ _ ?_
            simp -implicitDefEqProofs only [go_sem, ne_eq, not_false_eq_true, Nat.reduceBEq, Nat.reduceAdd, Nat.reduceSub, Nat.reduceMul, Nat.reduceLT, Nat.reduceLeDiff, Int.reduceLE, Int.reduceLT, Int.reduceToNat, Int.reduceBEq, Int.reduceBNe, Int.le_refl, Nat.le_refl, decide_true, decide_false, Int.cast_ofNat_Int, ↓reduceIte, h1376, h1381, h1384, g1385, g1386, h1387, g1389, h1390, h1394, h1434, h1435, g1436, g1437, g1438, h1439, g1441, g1442, g1443, h1444, g1446, h1447, g1449, h1450, h1454, g1457, g1458, g1459, h1460, g1463, g1464]
            repeat with_reducible refine And.intro (by first | kernel_rfl | decide) ?_
            exact cutQ _ ((Wk_le (.cons _ _ _ _ _ (.refl _) (.cons _ _ _ _ _ (.refl _) (.cons _ _ _ _ _ (.refl _) (.cons _ _ _ _ _ (.refl _) (.cons _ _ _ _ _ (.refl _) (.cons _ _ _ _ _ (.refl _) (.cons _ _ _ _ _ (.refl _) (.cons _ _ _ _ _ (.dead _) (.cons _ _ _ _ _ (.dead _) .nil))))))))) (OLe.refl _)).trans (cmpS_ok rfl)) ⟨n, Nat.lt_succ_self n, _, _, _, h1494, rfl⟩
          · have hh := grd_some h1494; clear h1494; obtain ⟨⟨g1465, g1466⟩, h1494⟩ := hh
            have hh := grd_some h1494; clear h1494; obtain ⟨g1467, h1494⟩ := hh
            have hh := getA2_some h1494; clear h1494; obtain ⟨p1469, p1470, h1468, h1494⟩ := hh
            injection h1468 with h1468
            have hh := grd_some h1494; clear h1494; obtain ⟨g1471, h1494⟩ := hh
            have hh := grd_some h1494; clear h1494; obtain ⟨g1472, h1494⟩ := hh
            refine W_sound tab_ok mixed 36 _ _ _ ?_
            simp -implicitDefEqProofs only [go_sem, ne_eq, not_false_eq_true, Nat.reduceBEq, Nat.reduceAdd, Nat.reduceSub, Nat.reduceMul, Nat.reduceLT, Nat.reduceLeDiff, Int.reduceLE, Int.reduceLT, Int.reduceToNat, Int.reduceBEq, Int.reduceBNe, Int.le_refl, Nat.le_refl, decide_true, decide_false, Int.cast_ofNat_Int, ↓reduceIte, h1376, h1381, h1384, g1385, g1386, h1387, g1389, h1390, h1394, h1434, h1435, g1465, g1466, g1467, h1468, g1471, g1472]
            repeat with_reducible refine And.intro (by first | kernel_rfl | decide) ?_
            exact cutQ _ ((Wk_le (.cons _ _ _ _ _ (.refl _) (.cons _ _ _ _ _ (.refl _) (.cons _ _ _ _ _ (.refl _) (.cons _ _ _ _ _ (.refl _) (.cons _ _ _ _ _ (.refl _) (.cons _ _ _ _ _ (.refl _) (.cons _ _ _ _ _ (.refl _) (.cons _ _ _ _ _ (.dead _) (.cons _ _ _ _ _ (.dead _) .nil))))))))) (OLe.refl _)).trans (cmpS_ok rfl)) ⟨n, Nat.lt_succ_self n, _, _, _, h1494, rfl⟩
        · refine W_sound tab_ok mixed 10 _ _ _ ?_
          simp -implicitDefEqProofs only [go_sem, ne_eq, not_false_eq_true, Nat.reduceBEq, Nat.reduceAdd, Nat.reduceSub, Nat.reduceMul, Nat.reduceLT, Nat.reduceLeDiff, Int.reduceLE, Int.reduceLT, Int.reduceToNat, Int.reduceBEq, Int.reduceBNe, Int.le_refl, Nat.le_refl, decide_true, decide_false, Int.cast_ofNat_Int, ↓reduceIte, h1376, h1381, h1384, g1385, g1386, h1387, g1389, h1390, h1394, h1434]
          repeat with_reducible refine And.intro (by first | kernel_rfl | decide) ?_
          obtain rfl := Option.some.inj h1494
          exact cutQ _ ((Wk_le (.cons _ _ _ _ _ (.refl _) (.cons _ _ _ _ _ (.refl _) (.cons _ _ _ _ _ (.refl _) (.cons _ _ _ _ _ (.refl _) (.cons _ _ _ _ _ (.dead _) (.cons _ _ _ _ _ (.refl _) (.cons _ _ _ _ _ (.refl _) (.cons _ _ _ _ _ (.dead _) (.cons _ _ _ _ _ (.refl _) .nil))))))))) (OLe.refl _)).trans (cmpS_ok rfl)) ⟨_, _, rfl, rfl⟩
    · rintro _ ⟨n1473, c1474, rfl, rfl⟩
      (try dsimp only at h1495)
      have hh := grd_some h1495; clear h1495; obtain ⟨⟨g1475, g1476⟩, h1495⟩ := hh
      have hh := grd_some h1495; clear h1495; obtain ⟨g1477, h1495⟩ := hh
      have hh := getA2_some h1495; clear h1495; obtain ⟨p1479, p1480, h1478, h1495⟩ := hh
      injection h1478 with h1478
      have hh := getI_some h1495; clear h1495; obtain ⟨x1482, h1481, h1495⟩ := hh
      have hh := getI_some h1495; clear h1495; obtain ⟨x1484, h1483, h1495⟩ := hh
      have hh := bnd'_some h1495; clear h1495; obtain ⟨p1485, h1486, h1495⟩ := hh
      refine W_sound tab_ok mixed 21 _ _ _ ?_
      simp -implicitDefEqProofs only [go_sem, ne_eq, not_false_eq_true, Nat.reduceBEq, Nat.reduceAdd, Nat.reduceSub, Nat.reduceMul, Nat.reduceLT, Nat.reduceLeDiff, Int.reduceLE, Int.reduceLT, Int.reduceToNat, Int.reduceBEq, Int.reduceBNe, Int.le_refl, Nat.le_refl, decide_true, decide_false, Int.cast_ofNat_Int, ↓reduceIte, h1376, h1381, h1384, g1385, g1386, h1387, g1389, h1390, h1394, g1475, g1476, g1477, h1478, h1481, h1483]
      repeat with_reducible refine And.intro (by first | kernel_rfl | decide) ?_
      refine Wp_callP (c60 N _ _ _ h1486) (by kernel_rfl) rfl rfl rfl rfl (by decide) ?_
      have hh := getA2_some h1495; clear h1495; obtain ⟨p1488, p1489, h1487, h1495⟩ := hh
      have hh := grd_some h1495; clear h1495; obtain ⟨g1490, h1495⟩ := hh
      have hh := grd_some h1495; clear h1495; obtain ⟨g1491, h1495⟩ := hh
      refine W_sound tab_ok mixed 5 _ _ _ ?_
      simp -implicitDefEqProofs only [go_sem, ne_eq, not_false_eq_true, Nat.reduceBEq, Nat.reduceAdd, Nat.reduceSub, Nat.reduceMul, Nat.reduceLT, Nat.reduceLeDiff, Int.reduceLE, Int.reduceLT, Int.reduceToNat, Int.reduceBEq, Int.reduceBNe, Int.le_refl, Nat.le_refl, decide_true, decide_false, Int.cast_ofNat_Int, ↓reduceIte, h1376, h1381, h1384, g1385, g1386, h1387, g1389, h1390, h1394, g1475, g1476, g1477, h1478, h1481, h1483, h1487, g1490, g1491]
      repeat with_reducible refine And.intro (by first | kernel_rfl | decide) ?_
      have hh := grd_some h1495; clear h1495; obtain ⟨g1492, h1495⟩ := hh
      refine FinQ_wk (Wk_freeze 110 (c1474 ++ [p1488, p1489]) (by rfl) (by decide) (by decide)) ?_
      simp -implicitDefEqProofs only [go_sem, ne_eq, not_false_eq_true, Nat.reduceBEq, Nat.reduceAdd, Nat.reduceSub, Nat.reduceMul, Nat.reduceLT, Nat.reduceLeDiff, Int.reduceLE, Int.reduceLT, Int.reduceToNat, Int.reduceBEq, Int.reduceBNe, Int.le_refl, Nat.le_refl, decide_true, decide_false, Int.cast_ofNat_Int, ↓reduceIte, h1376, h1381, h1384, g1385, g1386, h1387, g1389, h1390, h1394, g1475, g1476, g1477, h1478, h1481, h1483, h1487, g1490, g1491, g1492]
      obtain rfl := Option.some.inj h1495
      exact finC [(2, .v (.lst false (n1473 + 1) (c1474 ++ [p1488, p1489])))] [(2, .v (.lst false (n1473 + 1) (c1474 ++ [p1488, p1489])))] (by simp [leE, lk_cons]) (.cons _ _ _ _ _ (.v _ _ (.refl _)) .nil) (by rfl) (by simp [leE, lk_cons]) (by decide) (by decide) rfl (by simp only [go_sem, ne_eq, not_false_eq_true, Nat.reduceBEq, Nat.reduceAdd, Nat.reduceSub, Nat.reduceMul, Nat.reduceLT, Nat.reduceLeDiff, Int.reduceLE, Int.reduceLT, Int.reduceToNat, Int.reduceBEq, Int.reduceBNe, Int.le_refl, Nat.le_refl, decide_true, decide_false, Int.cast_ofNat_Int, ↓reduceIte, resQ_tmp, resQ_cell, resQ_nil, retD_one, retD_two, retD_three, retD_none]; try simp [R.val, retD_one, retD_two, retD_three, retD_none])

end Go.Proofs.Ytgnphlpoofaojaa
