/-
  Models and laws.
-/
import Derived.Test.YtcaecfofgdogbaaDoorJWrB
import Derived.Test.YtcaecfofgdogbaaDoorJV41
import Derived.Test.YtcaecfofgdogbaaDoorJV36
set_option linter.unusedSimpArgs false
set_option linter.unusedVariables false
namespace Go.Proofs.YtcaecfofgdogbaaDoor
open Go.V
open Nat renaming reduceBEq → qa, reduceAdd → qb, reduceSub → qc, reduceMul → qd, reduceLT → qe, reduceLeDiff → qf
open Int renaming reduceLE → qg, reduceLT → qh, reduceToNat → qi, reduceBEq → qj, reduceBNe → qk
set_option maxRecDepth 100000
set_option maxHeartbeats 4000000
set_option linter.unusedSimpArgs false
set_option linter.unusedVariables false
attribute [local go_sem] tl1 tl2 tl3 tl4 tl5 tl9 tl17 tl21 tl22 tl23 tl24 tl25 tl27 tl28 tl30 tl31 tl32 tl33 tl35 tl36 tl37 tl38 tl39 tl40 tl42 tl43 tl44 tl45 tl46 tl47 tl48 tl49 tl50 tl51 tl52 tl53 tl54 tl55 tl56 tl57 tl58 tl59 tl61 tl62 tl63 tl64 tl65 tl66 tl67 tl68 tl69 tl70 tl71 tl72 tl73 tl74 tl75 tl76 tl77 tl78 tl79 tl80 tl81 tl82 tl83 tl84 tl85 tl87 tl89 tl90 tl91 tl92 tl93 tl94 tl96 tl97 tl98 tl99 tl100 tl101 tl102 tl103 tl104 tl105 tl106 tl107 tl108 tl109 tl115 tl119
noncomputable def m75 (N : Nat) (p1255 : PV) (p1256 : PV) : Option ((PV × PV)) :=
  getL p1255 fun n1259 c1260 =>
  some ((.bool false), (.lst false n1259 c1260))
theorem c75 (N : Nat) (p1255 : PV) (p1256 : PV) (r : PV) (p1262 : PV) (h : m75 N p1255 p1256 = some (r, p1262)) : V.Fn Tryd.prog 75 1 [.v p1255, .ptr 0 0] [(0, .p [p1256])] (fun d ob' => d = .v r ∧ ob' = [(0, .p [p1262])]) := by
  unfold m75 at h
  refine Fn_of (sz := 5) tab_ok [0, 1, 3] [.tmp 3] Tryd.func75 rfl rfl rfl (by simp) ?_
  simp only [initSt, initEnv, List.map_cons, List.map_nil, List.getD_cons_zero, List.getD_cons_succ, List.getD_nil]
  have hh := getL_some h; clear h; obtain ⟨n1259, c1260, h1258, h⟩ := hh
  refine W_sound tab_ok mixed 15 _ _ _ ?_
  simp -implicitDefEqProofs only [go_sem, qa, qb, qc, qd, qe, qf, qg, qh, qi, qj, qk, ↓reduceIte, h1258]
  repeat with_reducible refine ⟨by first | kernel_rfl | decide, ?_⟩
  simp only [Option.some.injEq, Prod.mk.injEq] at h; obtain ⟨rfl, rfl⟩ := h
  exact finD (e2 := [(0, .dead), (1, .dead), (3, .v (.bool false))]) (ob2 := [(0, .p [(.lst false n1259 c1260)])]) (st' := ⟨[], [(0, .dead), (1, .dead), (3, .v (.bool false))], [(0, .p [(.lst false n1259 c1260)])], 1, []⟩) (.k (.k (.r .nil))) (.cons _ _ _ _ _ (DLes.refl _) .nil) (by kernel_rfl) (by simp only [go_sem, qa, qb, qc, qd, qe, qf, qg, qh, qi, qj, qk, ↓reduceIte, resQ_tmp, resQ_cell, resQ_nil, retD_one, retD_two, retD_three, retD_none]; try simp [R.val, retD_one, retD_two, retD_three, retD_none])
noncomputable def m94 (N : Nat) (x1269 : Int) (x1270 : Int) (x1271 : Int) (p1272 : PV) : Option ((PV × PV)) :=
  brn (0 == x1271) (
    bnd' (m56 N (.lst false 0 [])) fun p1275 =>
    getL p1275 fun n1278 c1279 =>
    bnd' (m75 N (.lst false n1278 c1279) p1272) fun (p1280, p1282) =>
    getB p1280 fun b1284 =>
    some ((.bool b1284), p1282)) (
    none)
theorem c94 (N : Nat) (x1269 : Int) (x1270 : Int) (x1271 : Int) (p1272 : PV) (r : PV) (p1286 : PV) (h : m94 N x1269 x1270 x1271 p1272 = some (r, p1286)) : V.Fn Tryd.prog 94 5 [.v .nl, .v (.int .u64 x1269), .v (.int .u64 x1270), .ptr 0 0, .ptr 1 0, .ptr 3 0, .ptr 4 0] [(0, .p [(.int .i64 x1271)]), (1, .r [.fn 75 [.ptr 2 0]]), (2, .p [p1272]), (3, .r [.v (.fn 999999 [.bool true])]), (4, .r [.fn 94 [.ptr 0 0, .ptr 1 0, .ptr 3 0, .ptr 4 0]])] (fun d ob' => d = .v r ∧ ob' = [(0, .p [(.int .i64 x1271)]), (1, .r [.fn 75 [.ptr 2 0]]), (2, .p [p1286]), (3, .r [.v (.fn 999999 [.bool true])]), (4, .r [.fn 94 [.ptr 0 0, .ptr 1 0, .ptr 3 0, .ptr 4 0]])]) := by
  unfold m94 at h
  refine Fn_of (sz := 65) tab_ok [0, 1, 2, 3, 4, 5, 6, 10, 11, 12, 16, 28, 29, 30, 31, 63] [.tmp 10] Tryd.func94 rfl rfl rfl (by simp) ?_
  simp only [initSt, initEnv, List.map_cons, List.map_nil, List.getD_cons_zero, List.getD_cons_succ, List.getD_nil]
  have hh := brn_some h; clear h; rcases hh with ⟨h1274, h⟩ | ⟨h1274, h⟩
  · have hh := bnd'_some h; clear h; obtain ⟨p1275, h1276, h⟩ := hh
    refine W_sound tab_ok mixed 17 _ _ _ ?_
    simp -implicitDefEqProofs only [go_sem, qa, qb, qc, qd, qe, qf, qg, qh, qi, qj, qk, ↓reduceIte, h1274]
    repeat with_reducible refine ⟨by first | kernel_rfl | decide, ?_⟩
    refine Wp_callP (FnP_le (c56 N _ _ h1276) (.cons _ _ _ _ (.nl false) .nil) (.refl _)) (by kernel_rfl) rfl rfl rfl rfl (by decide) ?_
    have hh := getL_some h; clear h; obtain ⟨n1278, c1279, h1277, h⟩ := hh
    have hh := bnd'_some h; clear h; obtain ⟨⟨p1280, p1282⟩, h1281, h⟩ := hh
    (try dsimp only at h)
    (try simp -implicitDefEqProofs only [go_sem, qa, qb, qc, qd, qe, qf, qg, qh, qi, qj, qk, ↓reduceIte, h1274, h1277])
    refine Wp_callD [2] (c75 N _ _ _ _ h1281) rfl rfl rfl (by first | rfl | (simp only [go_sem, qa, qb, qc, qd, qe, qf, qg, qh, qi, qj, qk, ↓reduceIte, h1274, h1277] <;> rfl)) rfl (by kernel_rfl) ?_
    have hh := getB_some h; clear h; obtain ⟨b1284, h1283, h⟩ := hh
    refine W_sound tab_ok mixed 4 _ _ _ ?_
    simp -implicitDefEqProofs only [go_sem, qa, qb, qc, qd, qe, qf, qg, qh, qi, qj, qk, ↓reduceIte, h1274, h1277, h1283]
    repeat with_reducible refine ⟨by first | kernel_rfl | decide, ?_⟩
    simp only [Option.some.injEq, Prod.mk.injEq] at h; obtain ⟨rfl, rfl⟩ := h
    exact finD (e2 := [(0, .dead), (1, .dead), (2, .dead), (3, .dead), (4, .dead), (5, .dead), (6, .dead), (10, .v (.bool b1284)), (11, .dead), (12, .dead), (16, .dead), (28, .dead), (29, .dead), (30, .dead), (31, .dead), (63, .dead)]) (ob2 := [(0, .p [(.int .i64 x1271)]), (1, .r [.fn 75 [.ptr 2 0]]), (3, .r [.v (.fn 999999 [.bool true])]), (4, .r [.fn 94 [.ptr 0 0, .ptr 1 0, .ptr 3 0, .ptr 4 0]]), (2, .p [p1282])]) (st' := ⟨[], [(0, .dead), (1, .dead), (2, .dead), (3, .dead), (4, .dead), (5, .dead), (6, .dead), (10, .v (.bool b1284)), (11, .dead), (12, .dead), (16, .dead), (28, .dead), (29, .dead), (30, .dead), (31, .dead), (63, .dead)], [(0, .p [(.int .i64 x1271)]), (1, .r [.fn 75 [.ptr 2 0]]), (2, .p [p1282]), (3, .r [.v (.fn 999999 [.bool true])]), (4, .r [.fn 94 [.ptr 0 0, .ptr 1 0, .ptr 3 0, .ptr 4 0]])], 5, []⟩) (.k (.k (.k (.k (.k (.k (.k (.r (.r (.r (.k (.r (.r (.r (.r (.r .nil)))))))))))))))) (.cons _ _ _ _ _ (DLes.refl _) (.cons _ _ _ _ _ (DLes.refl _) (.cons _ _ _ _ _ (DLes.refl _) (.cons _ _ _ _ _ (DLes.refl _) (.cons _ _ _ _ _ (DLes.refl _) .nil))))) (by kernel_rfl) (by simp only [go_sem, qa, qb, qc, qd, qe, qf, qg, qh, qi, qj, qk, ↓reduceIte, resQ_tmp, resQ_cell, resQ_nil, retD_one, retD_two, retD_three, retD_none]; try simp [R.val, retD_one, retD_two, retD_three, retD_none])
  · cases h
noncomputable def m56_2 (N : Nat) (n1340 : Nat) (c1341 : List PV) : Option (PV) :=
  grd (0 < n1340) <|
  grd (List.length c1341 = n1340) <|
  grd (n1340 ≤ 1099511627776) <|
  some (.lst false n1340 c1341)
theorem c56_2 (N : Nat) (n1340 : Nat) (c1341 : List PV) (r : PV)  (h : m56_2 N n1340 c1341 = some r) : V.Fn Tryd.prog 56 1 [.sl true 0 0 n1340 1] [(0, .p c1341)] (fun d ob' => d = .v r ∧ ob' = [(0, .p c1341)]) := by
  unfold m56_2 at h
  refine Fn_of (sz := 8) tab_ok [0, 2, 4] [.tmp 2] Tryd.func56 rfl rfl rfl (by simp) ?_
  simp only [initSt, initEnv, List.map_cons, List.map_nil, List.getD_cons_zero, List.getD_cons_succ, List.getD_nil]
  have hh := grd_some h; clear h; obtain ⟨g1342, h⟩ := hh
  have hh := grd_some h; clear h; obtain ⟨g1343, h⟩ := hh
  have hh := grd_some h; clear h; obtain ⟨g1344, h⟩ := hh
  refine W_sound tab_ok mixed 21 _ _ _ ?_
  simp -implicitDefEqProofs only [go_sem, qa, qb, qc, qd, qe, qf, qg, qh, qi, qj, qk, ↓reduceIte, g1342, g1343, g1344]
  repeat with_reducible refine ⟨by first | kernel_rfl | decide, ?_⟩
  refine FinQ_wk (Wk_freeze 8 c1341 (by rfl) (by decide) (by decide)) ?_
  simp -implicitDefEqProofs only [go_sem, qa, qb, qc, qd, qe, qf, qg, qh, qi, qj, qk, ↓reduceIte, g1342, g1343, g1344]
  obtain rfl := Option.some.inj h
  exact finD (e2 := [(0, .dead), (2, .v (.lst false n1340 c1341)), (4, .dead)]) (ob2 := [(0, .p c1341), (6, .p [])]) (st' := ⟨[], [(0, .dead), (2, .v (.lst false n1340 c1341)), (4, .dead)], [(0, .p c1341)], 1, []⟩) (.k (.r (.k .nil))) (.cons _ _ _ _ _ (DLes.refl _) (.cons _ _ _ _ _ (DLes.refl _) .nil)) (by kernel_rfl) (by simp only [go_sem, qa, qb, qc, qd, qe, qf, qg, qh, qi, qj, qk, ↓reduceIte, resQ_tmp, resQ_cell, resQ_nil, retD_one, retD_two, retD_three, retD_none]; try simp [R.val, retD_one, retD_two, retD_three, retD_none])
noncomputable def m56_3 (N : Nat) (n1388 : Nat) (c1389 : List PV) : Option (PV) :=
  grd (0 < n1388) <|
  grd (List.length c1389 = n1388) <|
  grd (n1388 ≤ 1099511627776) <|
  some (.lst false n1388 c1389)
theorem c56_3 (N : Nat) (n1388 : Nat) (c1389 : List PV) (r : PV)  (h : m56_3 N n1388 c1389 = some r) : V.Fn Tryd.prog 56 1 [.sl false 0 0 n1388 1] [(0, .p c1389)] (fun d ob' => d = .v r ∧ ob' = [(0, .p c1389)]) := by
  unfold m56_3 at h
  refine Fn_of (sz := 8) tab_ok [0, 2, 4] [.tmp 2] Tryd.func56 rfl rfl rfl (by simp) ?_
  simp only [initSt, initEnv, List.map_cons, List.map_nil, List.getD_cons_zero, List.getD_cons_succ, List.getD_nil]
  have hh := grd_some h; clear h; obtain ⟨g1390, h⟩ := hh
  have hh := grd_some h; clear h; obtain ⟨g1391, h⟩ := hh
  have hh := grd_some h; clear h; obtain ⟨g1392, h⟩ := hh
  refine W_sound tab_ok mixed 21 _ _ _ ?_
  simp -implicitDefEqProofs only [go_sem, qa, qb, qc, qd, qe, qf, qg, qh, qi, qj, qk, ↓reduceIte, g1390, g1391, g1392]
  repeat with_reducible refine ⟨by first | kernel_rfl | decide, ?_⟩
  refine FinQ_wk (Wk_freeze 8 c1389 (by rfl) (by decide) (by decide)) ?_
  simp -implicitDefEqProofs only [go_sem, qa, qb, qc, qd, qe, qf, qg, qh, qi, qj, qk, ↓reduceIte, g1390, g1391, g1392]
  obtain rfl := Option.some.inj h
  exact finD (e2 := [(0, .dead), (2, .v (.lst false n1388 c1389)), (4, .dead)]) (ob2 := [(0, .p c1389), (6, .p [])]) (st' := ⟨[], [(0, .dead), (2, .v (.lst false n1388 c1389)), (4, .dead)], [(0, .p c1389)], 1, []⟩) (.k (.r (.k .nil))) (.cons _ _ _ _ _ (DLes.refl _) (.cons _ _ _ _ _ (DLes.refl _) .nil)) (by kernel_rfl) (by simp only [go_sem, qa, qb, qc, qd, qe, qf, qg, qh, qi, qj, qk, ↓reduceIte, resQ_tmp, resQ_cell, resQ_nil, retD_one, retD_two, retD_three, retD_none]; try simp [R.val, retD_one, retD_two, retD_three, retD_none])
noncomputable def m94_3_A_L0 (N : Nat) (rec : Nat → Int → Int → List PV → Int → PV → List PV → Option ((PV × PV))) (n1433 : Nat) (x1434 : Int) (x1435 : Int) (c1436 : List PV) (x1437 : Int) (c1439 : List PV) : Nat → Int → PV → Option (((PV × PV) ⊕ PV))
  | 0, _, _ => none
  | n + 1, x1475, p1476 =>
    brn (decide (x1475 < (((Int.toNat x1437) : Nat) : Int))) (
      grd (0 ≤ x1475 ∧ x1475 < (((Int.toNat x1437) : Nat) : Int)) <|
      grd (((1 + (n1433 * 5)) + (Int.toNat x1475)) < List.length c1439) <|
      getI .i64 (gp c1439 ((1 + (n1433 * 5)) + (Int.toNat x1475))) fun x1482 =>
      brn ((bitsI .and .u64 (Int.fdiv x1434 (2 ^ (min (Int.toNat x1475) 64))) 1) == 0) (
        grd (0 ≤ x1482) <|
        brn ((bitsI .and .u64 (Int.fdiv x1435 (2 ^ (min (Int.toNat x1482) 64))) 1) == 0) (
          grd ((n1433 + 1) ≤ 1099511627776) <|
          grd (List.length c1436 = n1433) <|
          bnd' (rec (n1433 + 1) (bitsI .or .u64 x1434 (IntKind.u64.wrap (1 * 2 ^ (min (Int.toNat x1475) 64)))) (bitsI .or .u64 x1435 (IntKind.u64.wrap (1 * 2 ^ (min (Int.toNat x1482) 64)))) (c1436 ++ [(.int .i64 x1475)]) x1437 p1476 c1439) fun (p1488, p1490) =>
          getB p1488 fun b1492 =>
          brn b1492 (
            m94_3_A_L0 N rec n1433 x1434 x1435 c1436 x1437 c1439 n (IntKind.i64.wrap (x1475 + 1)) p1490) (
            some (.inl ((.bool false), p1490)))) (
          m94_3_A_L0 N rec n1433 x1434 x1435 c1436 x1437 c1439 n (IntKind.i64.wrap (x1475 + 1)) p1476)) (
        m94_3_A_L0 N rec n1433 x1434 x1435 c1436 x1437 c1439 n (IntKind.i64.wrap (x1475 + 1)) p1476)) (
      some (.inr p1476))
noncomputable def m94_3_A (N : Nat) (rec : Nat → Int → Int → List PV → Int → PV → List PV → Option ((PV × PV))) (n1433 : Nat) (x1434 : Int) (x1435 : Int) (c1436 : List PV) (x1437 : Int) (p1438 : PV) (c1439 : List PV) : Option ((PV × PV)) :=
  brn (((n1433 : Nat) : Int) == x1437) (
    bnd' (m56_2 N n1433 c1436) fun p1442 =>
    getL p1442 fun n1445 c1446 =>
    bnd' (m75 N (.lst false n1445 c1446) p1438) fun (p1447, p1449) =>
    getB p1447 fun b1451 =>
    some ((.bool b1451), p1449)) (
    grd (0 ≤ ((n1433 : Nat) : Int) ∧ ((n1433 : Nat) : Int) < 5) <|
    grd (0 ≤ x1437 ∧ x1437 ≤ 5 ∧ ((1 + (n1433 * 5)) + 5) ≤ List.length c1439) <|
    bnd' (m94_3_A_L0 N rec n1433 x1434 x1435 c1436 x1437 c1439 N 0 p1438) fun o =>
    match o with
    | .inl p1494 =>
      some p1494
    | .inr p1495 =>
      some ((.bool true), p1495))
noncomputable def m94_3_B_L0 (N : Nat) (rec : Nat → Int → Int → List PV → Int → PV → List PV → Option ((PV × PV))) (n1497 : Nat) (x1498 : Int) (x1499 : Int) (c1500 : List PV) (x1501 : Int) (c1503 : List PV) : Nat → Int → PV → Option (((PV × PV) ⊕ PV))
  | 0, _, _ => none
  | n + 1, x1538, p1539 =>
    brn (decide (x1538 < (((Int.toNat x1501) : Nat) : Int))) (
      grd (0 ≤ x1538 ∧ x1538 < (((Int.toNat x1501) : Nat) : Int)) <|
      grd (((1 + (n1497 * 5)) + (Int.toNat x1538)) < List.length c1503) <|
      getI .i64 (gp c1503 ((1 + (n1497 * 5)) + (Int.toNat x1538))) fun x1545 =>
      brn ((bitsI .and .u64 (Int.fdiv x1498 (2 ^ (min (Int.toNat x1538) 64))) 1) == 0) (
        grd (0 ≤ x1545) <|
        brn ((bitsI .and .u64 (Int.fdiv x1499 (2 ^ (min (Int.toNat x1545) 64))) 1) == 0) (
          bnd' (rec (n1497 + 1) (bitsI .or .u64 x1498 (IntKind.u64.wrap (1 * 2 ^ (min (Int.toNat x1538) 64)))) (bitsI .or .u64 x1499 (IntKind.u64.wrap (1 * 2 ^ (min (Int.toNat x1545) 64)))) (c1500 ++ [(.int .i64 x1538)]) x1501 p1539 c1503) fun (p1549, p1551) =>
          getB p1549 fun b1553 =>
          brn b1553 (
            m94_3_B_L0 N rec n1497 x1498 x1499 c1500 x1501 c1503 n (IntKind.i64.wrap (x1538 + 1)) p1551) (
            some (.inl ((.bool false), p1551)))) (
          m94_3_B_L0 N rec n1497 x1498 x1499 c1500 x1501 c1503 n (IntKind.i64.wrap (x1538 + 1)) p1539)) (
        m94_3_B_L0 N rec n1497 x1498 x1499 c1500 x1501 c1503 n (IntKind.i64.wrap (x1538 + 1)) p1539)) (
      some (.inr p1539))
noncomputable def m94_3_B (N : Nat) (rec : Nat → Int → Int → List PV → Int → PV → List PV → Option ((PV × PV))) (n1497 : Nat) (x1498 : Int) (x1499 : Int) (c1500 : List PV) (x1501 : Int) (p1502 : PV) (c1503 : List PV) : Option ((PV × PV)) :=
  grd (List.length c1500 = n1497) <|
  brn (((n1497 : Nat) : Int) == x1501) (
    bnd' (m56_3 N n1497 c1500) fun p1507 =>
    getL p1507 fun n1510 c1511 =>
    bnd' (m75 N (.lst false n1510 c1511) p1502) fun (p1512, p1514) =>
    getB p1512 fun b1516 =>
    some ((.bool b1516), p1514)) (
    grd (0 ≤ ((n1497 : Nat) : Int) ∧ ((n1497 : Nat) : Int) < 5) <|
    grd (0 ≤ x1501 ∧ x1501 ≤ 5 ∧ ((1 + (n1497 * 5)) + 5) ≤ List.length c1503) <|
    bnd' (m94_3_B_L0 N rec n1497 x1498 x1499 c1500 x1501 c1503 N 0 p1502) fun o =>
    match o with
    | .inl p1555 =>
      some p1555
    | .inr p1556 =>
      some ((.bool true), p1556))
noncomputable def m94_3 (N : Nat) : Nat → Nat → Int → Int → List PV → Int → PV → List PV → Option ((PV × PV))
  | 0, _, _, _, _, _, _, _ => none
  | fu + 1, n1425, x1426, x1427, c1428, x1429, p1430, c1431 => both (m94_3_A N (m94_3 N fu) n1425 x1426 x1427 c1428 x1429 p1430 c1431) (m94_3_B N (m94_3 N fu) n1425 x1426 x1427 c1428 x1429 p1430 c1431)
theorem c94_3_A (N : Nat) (rec : Nat → Int → Int → List PV → Int → PV → List PV → Option ((PV × PV))) (ih : ∀ (n1425 : Nat) (x1426 : Int) (x1427 : Int) (c1428 : List PV) (x1429 : Int) (p1430 : PV) (c1431 : List PV) (r : PV) (p1432 : PV) (h : rec n1425 x1426 x1427 c1428 x1429 p1430 c1431 = some (r, p1432)), V.Fn Tryd.prog 94 7 [.sl false 0 0 n1425 1, .v (.int .u64 x1426), .v (.int .u64 x1427), .ptr 1 0, .ptr 2 0, .ptr 4 0, .ptr 6 0] [(0, .p c1428), (1, .p [(.int .i64 x1429)]), (2, .r [.fn 75 [.ptr 3 0]]), (3, .p [p1430]), (4, .r [.ptr 5 0]), (5, .p c1431), (6, .r [.fn 94 [.ptr 1 0, .ptr 2 0, .ptr 4 0, .ptr 6 0]])] (fun d ob' => d = .v r ∧ ob' = [(0, .p c1428), (1, .p [(.int .i64 x1429)]), (2, .r [.fn 75 [.ptr 3 0]]), (3, .p [p1432]), (4, .r [.ptr 5 0]), (5, .p c1431), (6, .r [.fn 94 [.ptr 1 0, .ptr 2 0, .ptr 4 0, .ptr 6 0]])])) (n1433 : Nat) (x1434 : Int) (x1435 : Int) (c1436 : List PV) (x1437 : Int) (p1438 : PV) (c1439 : List PV) (r : PV) (p1440 : PV) (h : m94_3_A N rec n1433 x1434 x1435 c1436 x1437 p1438 c1439 = some (r, p1440)) : V.Fn Tryd.prog 94 7 [.sl true 0 0 n1433 1, .v (.int .u64 x1434), .v (.int .u64 x1435), .ptr 1 0, .ptr 2 0, .ptr 4 0, .ptr 6 0] [(0, .p c1436), (1, .p [(.int .i64 x1437)]), (2, .r [.fn 75 [.ptr 3 0]]), (3, .p [p1438]), (4, .r [.ptr 5 0]), (5, .p c1439), (6, .r [.fn 94 [.ptr 1 0, .ptr 2 0, .ptr 4 0, .ptr 6 0]])] (fun d ob' => d = .v r ∧ ob' = [(0, .p c1436), (1, .p [(.int .i64 x1437)]), (2, .r [.fn 75 [.ptr 3 0]]), (3, .p [p1440]), (4, .r [.ptr 5 0]), (5, .p c1439), (6, .r [.fn 94 [.ptr 1 0, .ptr 2 0, .ptr 4 0, .ptr 6 0]])]) := by
  unfold m94_3_A at h
  refine Fn_of (sz := 65) tab_ok [0, 1, 2, 3, 4, 5, 6, 10, 11, 12, 16, 28, 29, 30, 31, 63] [.tmp 10] Tryd.func94 rfl rfl rfl (by simp) ?_
  simp only [initSt, initEnv, List.map_cons, List.map_nil, List.getD_cons_zero, List.getD_cons_succ, List.getD_nil]
  have hh := brn_some h; clear h; rcases hh with ⟨h1441, h⟩ | ⟨h1441, h⟩
  · have hh := bnd'_some h; clear h; obtain ⟨p1442, h1443, h⟩ := hh
    (try dsimp only at h)
    refine W_sound tab_ok mixed 17 _ _ _ ?_
    simp -implicitDefEqProofs only [go_sem, qa, qb, qc, qd, qe, qf, qg, qh, qi, qj, qk, ↓reduceIte, h1441]
    repeat with_reducible refine ⟨by first | kernel_rfl | decide, ?_⟩
    refine Wp_callD [0] (c56_2 N _ _ _ h1443) rfl rfl rfl (by first | rfl | (simp only [go_sem, qa, qb, qc, qd, qe, qf, qg, qh, qi, qj, qk, ↓reduceIte, h1441] <;> rfl)) rfl (by kernel_rfl) ?_
    have hh := getL_some h; clear h; obtain ⟨n1445, c1446, h1444, h⟩ := hh
    have hh := bnd'_some h; clear h; obtain ⟨⟨p1447, p1449⟩, h1448, h⟩ := hh
    (try dsimp only at h)
    (try simp -implicitDefEqProofs only [go_sem, qa, qb, qc, qd, qe, qf, qg, qh, qi, qj, qk, ↓reduceIte, h1441, h1444])
    refine Wp_callD [3] (c75 N _ _ _ _ h1448) rfl rfl rfl (by first | rfl | (simp only [go_sem, qa, qb, qc, qd, qe, qf, qg, qh, qi, qj, qk, ↓reduceIte, h1441, h1444] <;> rfl)) rfl (by kernel_rfl) ?_
    have hh := getB_some h; clear h; obtain ⟨b1451, h1450, h⟩ := hh
    refine W_sound tab_ok mixed 4 _ _ _ ?_
    simp -implicitDefEqProofs only [go_sem, qa, qb, qc, qd, qe, qf, qg, qh, qi, qj, qk, ↓reduceIte, h1441, h1444, h1450]
    repeat with_reducible refine ⟨by first | kernel_rfl | decide, ?_⟩
    simp only [Option.some.injEq, Prod.mk.injEq] at h; obtain ⟨rfl, rfl⟩ := h
    exact finD (e2 := [(0, .dead), (1, .dead), (2, .dead), (3, .dead), (4, .dead), (5, .dead), (6, .dead), (10, .v (.bool b1451)), (11, .dead), (12, .dead), (16, .dead), (28, .dead), (29, .dead), (30, .dead), (31, .dead), (63, .dead)]) (ob2 := [(1, .p [(.int .i64 x1437)]), (2, .r [.fn 75 [.ptr 3 0]]), (4, .r [.ptr 5 0]), (5, .p c1439), (6, .r [.fn 94 [.ptr 1 0, .ptr 2 0, .ptr 4 0, .ptr 6 0]]), (0, .p c1436), (3, .p [p1449])]) (st' := ⟨[], [(0, .dead), (1, .dead), (2, .dead), (3, .dead), (4, .dead), (5, .dead), (6, .dead), (10, .v (.bool b1451)), (11, .dead), (12, .dead), (16, .dead), (28, .dead), (29, .dead), (30, .dead), (31, .dead), (63, .dead)], [(0, .p c1436), (1, .p [(.int .i64 x1437)]), (2, .r [.fn 75 [.ptr 3 0]]), (3, .p [p1449]), (4, .r [.ptr 5 0]), (5, .p c1439), (6, .r [.fn 94 [.ptr 1 0, .ptr 2 0, .ptr 4 0, .ptr 6 0]])], 7, []⟩) (.k (.k (.k (.k (.k (.k (.k (.r (.r (.r (.k (.r (.r (.r (.r (.r .nil)))))))))))))))) (.cons _ _ _ _ _ (DLes.refl _) (.cons _ _ _ _ _ (DLes.refl _) (.cons _ _ _ _ _ (DLes.refl _) (.cons _ _ _ _ _ (DLes.refl _) (.cons _ _ _ _ _ (DLes.refl _) (.cons _ _ _ _ _ (DLes.refl _) (.cons _ _ _ _ _ (DLes.refl _) .nil))))))) (by kernel_rfl) (by simp only [go_sem, qa, qb, qc, qd, qe, qf, qg, qh, qi, qj, qk, ↓reduceIte, resQ_tmp, resQ_cell, resQ_nil, retD_one, retD_two, retD_three, retD_none]; try simp [R.val, retD_one, retD_two, retD_three, retD_none])
  · have hh := grd_some h; clear h; obtain ⟨⟨g1452, g1453⟩, h⟩ := hh
    have hh := grd_some h; clear h; obtain ⟨⟨g1454, g1455, g1456⟩, h⟩ := hh
    refine W_sound tab_ok mixed 28 _ _ _ ?_
    simp -implicitDefEqProofs only [go_sem, qa, qb, qc, qd, qe, qf, qg, qh, qi, qj, qk, ↓reduceIte, h1441, g1452, g1453, g1454, g1455, g1456]
    repeat with_reducible refine ⟨by first | kernel_rfl | decide, ?_⟩
    refine Wp_wkK Wk_norm rfl ?_
    simp -implicitDefEqProofs only [go_sem, qa, qb, qc, qd, qe, qf, qg, qh, qi, qj, qk, ↓reduceIte, normE, h1441, g1452, g1453, g1454, g1455, g1456]
    (try simp -implicitDefEqProofs only [go_sem, qa, qb, qc, qd, qe, qf, qg, qh, qi, qj, qk, ↓reduceIte, h1441, g1452, g1453, g1454, g1455, g1456])
    have hh := bnd'_some h; clear h; obtain ⟨o1558, h1559, h1560⟩ := hh
    refine Wp_cut (fun s => ∃ p1495, (.inr p1495) = o1558 ∧ s = ⟨[], [(0, .dead), (1, .dead), (2, .dead), (3, .dead), (4, .dead), (5, .dead), (6, .dead), (10, .dead), (11, .dead), (12, .dead), (16, .dead), (28, .dead), (29, .dead), (30, .dead), (31, .dead), (63, .dead)], [(0, .p c1436), (1, .p [(.int .i64 x1437)]), (2, .r [.fn 75 [.ptr 3 0]]), (3, .p [p1495]), (4, .r [.ptr 5 0]), (5, .p c1439), (6, .r [.fn 94 [.ptr 1 0, .ptr 2 0, .ptr 4 0, .ptr 6 0]])], 7, []⟩) ?_ ?_
    · refine Wp_block ?_
      refine Wp_loopG (fun n s => ∃ x1475, ∃ p1476, m94_3_A_L0 N rec n1433 x1434 x1435 c1436 x1437 c1439 n x1475 p1476 = some o1558 ∧ s = ⟨[], [(0, .sl true 0 0 n1433 1), (1, .v (.int .u64 x1434)), (2, .v (.int .u64 x1435)), (3, .dead), (4, .dead), (5, .dead), (6, .ptr 6 0), (10, .dead), (11, .dead), (12, .dead), (16, .dead), (28, .sl false 5 (1 + (n1433 * 5)) (Int.toNat x1437) 1), (29, .v (.int .i64 (((Int.toNat x1437) : Nat) : Int))), (30, .v (.int .i64 x1475)), (31, .dead), (63, .dead)], [(0, .p c1436), (1, .p [(.int .i64 x1437)]), (2, .r [.fn 75 [.ptr 3 0]]), (3, .p [p1476]), (4, .r [.ptr 5 0]), (5, .p c1439), (6, .r [.fn 94 [.ptr 1 0, .ptr 2 0, .ptr 4 0, .ptr 6 0]])], 7, []⟩) N _ ((Wk_le (.r (.r (.r (.k (.k (.k (.r (.k (.r (.r (.k (.r (.r (.r (.r (.r .nil)))))))))))))))) (OLe.refl _)).trans (cmpS_ok (st' := ⟨[], [(0, .sl true 0 0 n1433 1), (1, .v (.int .u64 x1434)), (2, .v (.int .u64 x1435)), (3, .dead), (4, .dead), (5, .dead), (6, .ptr 6 0), (10, .dead), (11, .dead), (12, .dead), (16, .dead), (28, .sl false 5 (1 + (n1433 * 5)) (Int.toNat x1437) 1), (29, .v (.int .i64 (((Int.toNat x1437) : Nat) : Int))), (30, .v (.int .i64 0)), (31, .dead), (63, .dead)], [(0, .p c1436), (1, .p [(.int .i64 x1437)]), (2, .r [.fn 75 [.ptr 3 0]]), (3, .p [p1438]), (4, .r [.ptr 5 0]), (5, .p c1439), (6, .r [.fn 94 [.ptr 1 0, .ptr 2 0, .ptr 4 0, .ptr 6 0]])], 7, []⟩) (by kernel_rfl))) ⟨_, _, h1559, rfl⟩ ?_
      clear h1559
      rintro n _ ⟨x1475, p1476, h1559, rfl⟩
      cases n with
      | zero => cases h1559
      | succ n =>
        rw [m94_3_A_L0] at h1559
        have hh := brn_some h1559; clear h1559; rcases hh with ⟨h1477, h1559⟩ | ⟨h1477, h1559⟩
        · have hh := grd_some h1559; clear h1559; obtain ⟨⟨g1478, g1479⟩, h1559⟩ := hh
          have hh := grd_some h1559; clear h1559; obtain ⟨g1480, h1559⟩ := hh
          have hh := getI_some h1559; clear h1559; obtain ⟨x1482, h1481, h1559⟩ := hh
          have hh := brn_some h1559; clear h1559; rcases hh with ⟨h1483, h1559⟩ | ⟨h1483, h1559⟩
          · have hh := grd_some h1559; clear h1559; obtain ⟨g1484, h1559⟩ := hh
            have hh := brn_some h1559; clear h1559; rcases hh with ⟨h1485, h1559⟩ | ⟨h1485, h1559⟩
            · have hh := grd_some h1559; clear h1559; obtain ⟨g1486, h1559⟩ := hh
              have hh := grd_some h1559; clear h1559; obtain ⟨g1487, h1559⟩ := hh
              have hh := bnd'_some h1559; clear h1559; obtain ⟨⟨p1488, p1490⟩, h1489, h1559⟩ := hh
              (try dsimp only at h1559)
              refine W_sound tab_ok mixed 45 _ _ _ ?_
              simp -implicitDefEqProofs only [go_sem, qa, qb, qc, qd, qe, qf, qg, qh, qi, qj, qk, ↓reduceIte, h1441, g1452, g1453, g1454, g1455, g1456, h1477, g1478, g1479, g1480, h1481, h1483, g1484, h1485, g1486, g1487]
              repeat with_reducible refine ⟨by first | kernel_rfl | decide, ?_⟩
              refine Wp_callD [59, 1, 2, 3, 4, 5, 6] (ih _ _ _ _ _ _ _ _ _ h1489) rfl rfl rfl (by first | rfl | (simp only [go_sem, qa, qb, qc, qd, qe, qf, qg, qh, qi, qj, qk, ↓reduceIte, h1441, g1452, g1453, g1454, g1455, g1456, h1477, g1478, g1479, g1480, h1481, h1483, g1484, h1485, g1486, g1487] <;> rfl)) rfl (by kernel_rfl) ?_
              have hh := getB_some h1559; clear h1559; obtain ⟨b1492, h1491, h1559⟩ := hh
              have hh := brn_some h1559; clear h1559; rcases hh with ⟨h1493, h1559⟩ | ⟨h1493, h1559⟩
              · refine W_sound tab_ok mixed 10 _ _ _ ?_
                simp -implicitDefEqProofs only [go_sem, qa, qb, qc, qd, qe, qf, qg, qh, qi, qj, qk, ↓reduceIte, h1441, g1452, g1453, g1454, g1455, g1456, h1477, g1478, g1479, g1480, h1481, h1483, g1484, h1485, g1486, g1487, h1491, h1493]
                repeat with_reducible refine ⟨by first | kernel_rfl | decide, ?_⟩
                exact cutQ _ ((Wk_le (.r (.r (.r (.r (.r (.r (.r (.r (.k (.k (.r (.r (.r (.r (.k (.k .nil)))))))))))))))) (OLe.refl _)).trans (cmpS_ok (st' := ⟨[], [(0, .sl true 0 0 n1433 1), (1, .v (.int .u64 x1434)), (2, .v (.int .u64 x1435)), (3, .dead), (4, .dead), (5, .dead), (6, .ptr 6 0), (10, .dead), (11, .dead), (12, .dead), (16, .dead), (28, .sl false 5 (1 + (n1433 * 5)) (Int.toNat x1437) 1), (29, .v (.int .i64 (((Int.toNat x1437) : Nat) : Int))), (30, .v (.int .i64 (IntKind.i64.wrap (x1475 + 1)))), (31, .dead), (63, .dead)], [(0, .p c1436), (1, .p [(.int .i64 x1437)]), (2, .r [.fn 75 [.ptr 3 0]]), (3, .p [p1490]), (4, .r [.ptr 5 0]), (5, .p c1439), (6, .r [.fn 94 [.ptr 1 0, .ptr 2 0, .ptr 4 0, .ptr 6 0]])], 7, []⟩) (by kernel_rfl))) ⟨n, Nat.lt_succ_self n, _, _, h1559, rfl⟩
              · refine W_sound tab_ok mixed 10 _ _ _ ?_
                simp -implicitDefEqProofs only [go_sem, qa, qb, qc, qd, qe, qf, qg, qh, qi, qj, qk, ↓reduceIte, h1441, g1452, g1453, g1454, g1455, g1456, h1477, g1478, g1479, g1480, h1481, h1483, g1484, h1485, g1486, g1487, h1491, h1493]
                repeat with_reducible refine ⟨by first | kernel_rfl | decide, ?_⟩
                obtain rfl := Option.some.inj h1559
                (try dsimp only at h1560)
                simp only [Option.some.injEq, Prod.mk.injEq] at h1560; obtain ⟨rfl, rfl⟩ := h1560
                exact finD (e2 := [(0, .dead), (1, .dead), (2, .dead), (3, .dead), (4, .dead), (5, .dead), (6, .dead), (10, .v (.bool false)), (11, .dead), (12, .dead), (16, .dead), (28, .dead), (29, .dead), (30, .dead), (31, .dead), (63, .dead)]) (ob2 := [(0, .p c1436), (58, .p [(.int .i64 x1475)]), (6, .r [.fn 94 [.ptr 1 0, .ptr 2 0, .ptr 4 0, .ptr 6 0]]), (5, .p c1439), (4, .r [.ptr 5 0]), (3, .p [p1490]), (2, .r [.fn 75 [.ptr 3 0]]), (1, .p [(.int .i64 x1437)]), (59, .p (c1436 ++ [(.int .i64 x1475)]))]) (st' := ⟨[], [(0, .dead), (1, .dead), (2, .dead), (3, .dead), (4, .dead), (5, .dead), (6, .dead), (10, .v (.bool false)), (11, .dead), (12, .dead), (16, .dead), (28, .dead), (29, .dead), (30, .dead), (31, .dead), (63, .dead)], [(0, .p c1436), (1, .p [(.int .i64 x1437)]), (2, .r [.fn 75 [.ptr 3 0]]), (3, .p [p1490]), (4, .r [.ptr 5 0]), (5, .p c1439), (6, .r [.fn 94 [.ptr 1 0, .ptr 2 0, .ptr 4 0, .ptr 6 0]])], 7, []⟩) (.k (.k (.k (.r (.r (.r (.k (.r (.k (.k (.r (.k (.k (.k (.k (.k .nil)))))))))))))))) (.cons _ _ _ _ _ (DLes.refl _) (.cons _ _ _ _ _ (DLes.refl _) (.cons _ _ _ _ _ (DLes.refl _) (.cons _ _ _ _ _ (DLes.refl _) (.cons _ _ _ _ _ (DLes.refl _) (.cons _ _ _ _ _ (DLes.refl _) (.cons _ _ _ _ _ (DLes.refl _) (.cons _ _ _ _ _ (DLes.refl _) (.cons _ _ _ _ _ (DLes.refl _) .nil))))))))) (by kernel_rfl) (by simp only [go_sem, qa, qb, qc, qd, qe, qf, qg, qh, qi, qj, qk, ↓reduceIte, resQ_tmp, resQ_cell, resQ_nil, retD_one, retD_two, retD_three, retD_none]; try simp [R.val, retD_one, retD_two, retD_three, retD_none])
            · refine W_sound tab_ok mixed 56 _ _ _ ?_
              simp -implicitDefEqProofs only [go_sem, qa, qb, qc, qd, qe, qf, qg, qh, qi, qj, qk, ↓reduceIte, h1441, g1452, g1453, g1454, g1455, g1456, h1477, g1478, g1479, g1480, h1481, h1483, g1484, h1485]
              repeat with_reducible refine ⟨by first | kernel_rfl | decide, ?_⟩
              exact cutQ _ ((Wk_le (.r (.r (.r (.r (.r (.r (.r (.r (.k (.k (.r (.r (.r (.r (.k (.k .nil)))))))))))))))) (OLe.refl _)).trans (cmpS_ok (st' := ⟨[], [(0, .sl true 0 0 n1433 1), (1, .v (.int .u64 x1434)), (2, .v (.int .u64 x1435)), (3, .dead), (4, .dead), (5, .dead), (6, .ptr 6 0), (10, .dead), (11, .dead), (12, .dead), (16, .dead), (28, .sl false 5 (1 + (n1433 * 5)) (Int.toNat x1437) 1), (29, .v (.int .i64 (((Int.toNat x1437) : Nat) : Int))), (30, .v (.int .i64 (IntKind.i64.wrap (x1475 + 1)))), (31, .dead), (63, .dead)], [(0, .p c1436), (1, .p [(.int .i64 x1437)]), (2, .r [.fn 75 [.ptr 3 0]]), (3, .p [p1476]), (4, .r [.ptr 5 0]), (5, .p c1439), (6, .r [.fn 94 [.ptr 1 0, .ptr 2 0, .ptr 4 0, .ptr 6 0]])], 7, []⟩) (by kernel_rfl))) ⟨n, Nat.lt_succ_self n, _, _, h1559, rfl⟩
          · refine W_sound tab_ok mixed 56 _ _ _ ?_
            simp -implicitDefEqProofs only [go_sem, qa, qb, qc, qd, qe, qf, qg, qh, qi, qj, qk, ↓reduceIte, h1441, g1452, g1453, g1454, g1455, g1456, h1477, g1478, g1479, g1480, h1481, h1483]
            repeat with_reducible refine ⟨by first | kernel_rfl | decide, ?_⟩
            exact cutQ _ ((Wk_le (.r (.r (.r (.r (.r (.r (.r (.r (.k (.k (.r (.r (.r (.r (.k (.k .nil)))))))))))))))) (OLe.refl _)).trans (cmpS_ok (st' := ⟨[], [(0, .sl true 0 0 n1433 1), (1, .v (.int .u64 x1434)), (2, .v (.int .u64 x1435)), (3, .dead), (4, .dead), (5, .dead), (6, .ptr 6 0), (10, .dead), (11, .dead), (12, .dead), (16, .dead), (28, .sl false 5 (1 + (n1433 * 5)) (Int.toNat x1437) 1), (29, .v (.int .i64 (((Int.toNat x1437) : Nat) : Int))), (30, .v (.int .i64 (IntKind.i64.wrap (x1475 + 1)))), (31, .dead), (63, .dead)], [(0, .p c1436), (1, .p [(.int .i64 x1437)]), (2, .r [.fn 75 [.ptr 3 0]]), (3, .p [p1476]), (4, .r [.ptr 5 0]), (5, .p c1439), (6, .r [.fn 94 [.ptr 1 0, .ptr 2 0, .ptr 4 0, .ptr 6 0]])], 7, []⟩) (by kernel_rfl))) ⟨n, Nat.lt_succ_self n, _, _, h1559, rfl⟩
        · refine W_sound tab_ok mixed 7 _ _ _ ?_
          simp -implicitDefEqProofs only [go_sem, qa, qb, qc, qd, qe, qf, qg, qh, qi, qj, qk, ↓reduceIte, h1441, g1452, g1453, g1454, g1455, g1456, h1477]
          repeat with_reducible refine ⟨by first | kernel_rfl | decide, ?_⟩
          obtain rfl := Option.some.inj h1559
          exact cutQ _ ((Wk_le (.k (.k (.k (.r (.r (.r (.k (.r (.r (.r (.r (.k (.k (.k (.k (.r .nil)))))))))))))))) (OLe.refl _)).trans (cmpS_ok (st' := ⟨[], [(0, .dead), (1, .dead), (2, .dead), (3, .dead), (4, .dead), (5, .dead), (6, .dead), (10, .dead), (11, .dead), (12, .dead), (16, .dead), (28, .dead), (29, .dead), (30, .dead), (31, .dead), (63, .dead)], [(0, .p c1436), (1, .p [(.int .i64 x1437)]), (2, .r [.fn 75 [.ptr 3 0]]), (3, .p [p1476]), (4, .r [.ptr 5 0]), (5, .p c1439), (6, .r [.fn 94 [.ptr 1 0, .ptr 2 0, .ptr 4 0, .ptr 6 0]])], 7, []⟩) (by kernel_rfl))) ⟨_, rfl, rfl⟩
    · rintro _ ⟨p1495, rfl, rfl⟩
      (try dsimp only at h1560)
      refine W_sound tab_ok mixed 6 _ _ _ ?_
      simp -implicitDefEqProofs only [go_sem, qa, qb, qc, qd, qe, qf, qg, qh, qi, qj, qk, ↓reduceIte, h1441, g1452, g1453, g1454, g1455, g1456]
      repeat with_reducible refine ⟨by first | kernel_rfl | decide, ?_⟩
      simp only [Option.some.injEq, Prod.mk.injEq] at h1560; obtain ⟨rfl, rfl⟩ := h1560
      exact finD (e2 := [(0, .dead), (1, .dead), (2, .dead), (3, .dead), (4, .dead), (5, .dead), (6, .dead), (10, .v (.bool true)), (11, .dead), (12, .dead), (16, .dead), (28, .dead), (29, .dead), (30, .dead), (31, .dead), (63, .dead)]) (ob2 := [(0, .p c1436), (1, .p [(.int .i64 x1437)]), (2, .r [.fn 75 [.ptr 3 0]]), (3, .p [p1495]), (4, .r [.ptr 5 0]), (5, .p c1439), (6, .r [.fn 94 [.ptr 1 0, .ptr 2 0, .ptr 4 0, .ptr 6 0]])]) (st' := ⟨[], [(0, .dead), (1, .dead), (2, .dead), (3, .dead), (4, .dead), (5, .dead), (6, .dead), (10, .v (.bool true)), (11, .dead), (12, .dead), (16, .dead), (28, .dead), (29, .dead), (30, .dead), (31, .dead), (63, .dead)], [(0, .p c1436), (1, .p [(.int .i64 x1437)]), (2, .r [.fn 75 [.ptr 3 0]]), (3, .p [p1495]), (4, .r [.ptr 5 0]), (5, .p c1439), (6, .r [.fn 94 [.ptr 1 0, .ptr 2 0, .ptr 4 0, .ptr 6 0]])], 7, []⟩) (.r (.r (.r (.r (.r (.r (.r (.r (.r (.r (.r (.r (.r (.r (.r (.r .nil)))))))))))))))) (.cons _ _ _ _ _ (DLes.refl _) (.cons _ _ _ _ _ (DLes.refl _) (.cons _ _ _ _ _ (DLes.refl _) (.cons _ _ _ _ _ (DLes.refl _) (.cons _ _ _ _ _ (DLes.refl _) (.cons _ _ _ _ _ (DLes.refl _) (.cons _ _ _ _ _ (DLes.refl _) .nil))))))) (by kernel_rfl) (by simp only [go_sem, qa, qb, qc, qd, qe, qf, qg, qh, qi, qj, qk, ↓reduceIte, resQ_tmp, resQ_cell, resQ_nil, retD_one, retD_two, retD_three, retD_none]; try simp [R.val, retD_one, retD_two, retD_three, retD_none])
theorem c94_3_B (N : Nat) (rec : Nat → Int → Int → List PV → Int → PV → List PV → Option ((PV × PV))) (ih : ∀ (n1425 : Nat) (x1426 : Int) (x1427 : Int) (c1428 : List PV) (x1429 : Int) (p1430 : PV) (c1431 : List PV) (r : PV) (p1432 : PV) (h : rec n1425 x1426 x1427 c1428 x1429 p1430 c1431 = some (r, p1432)), V.Fn Tryd.prog 94 7 [.sl false 0 0 n1425 1, .v (.int .u64 x1426), .v (.int .u64 x1427), .ptr 1 0, .ptr 2 0, .ptr 4 0, .ptr 6 0] [(0, .p c1428), (1, .p [(.int .i64 x1429)]), (2, .r [.fn 75 [.ptr 3 0]]), (3, .p [p1430]), (4, .r [.ptr 5 0]), (5, .p c1431), (6, .r [.fn 94 [.ptr 1 0, .ptr 2 0, .ptr 4 0, .ptr 6 0]])] (fun d ob' => d = .v r ∧ ob' = [(0, .p c1428), (1, .p [(.int .i64 x1429)]), (2, .r [.fn 75 [.ptr 3 0]]), (3, .p [p1432]), (4, .r [.ptr 5 0]), (5, .p c1431), (6, .r [.fn 94 [.ptr 1 0, .ptr 2 0, .ptr 4 0, .ptr 6 0]])])) (n1497 : Nat) (x1498 : Int) (x1499 : Int) (c1500 : List PV) (x1501 : Int) (p1502 : PV) (c1503 : List PV) (r : PV) (p1504 : PV) (h : m94_3_B N rec n1497 x1498 x1499 c1500 x1501 p1502 c1503 = some (r, p1504)) : V.Fn Tryd.prog 94 7 [.slr 0 0 n1497 (n1497 + 1) 1, .v (.int .u64 x1498), .v (.int .u64 x1499), .ptr 1 0, .ptr 2 0, .ptr 4 0, .ptr 6 0] [(0, .p c1500), (1, .p [(.int .i64 x1501)]), (2, .r [.fn 75 [.ptr 3 0]]), (3, .p [p1502]), (4, .r [.ptr 5 0]), (5, .p c1503), (6, .r [.fn 94 [.ptr 1 0, .ptr 2 0, .ptr 4 0, .ptr 6 0]])] (fun d ob' => d = .v r ∧ ob' = [(0, .p c1500), (1, .p [(.int .i64 x1501)]), (2, .r [.fn 75 [.ptr 3 0]]), (3, .p [p1504]), (4, .r [.ptr 5 0]), (5, .p c1503), (6, .r [.fn 94 [.ptr 1 0, .ptr 2 0, .ptr 4 0, .ptr 6 0]])]) := by
  unfold m94_3_B at h
  refine Fn_of (sz := 65) tab_ok [0, 1, 2, 3, 4, 5, 6, 10, 11, 12, 16, 28, 29, 30, 31, 63] [.tmp 10] Tryd.func94 rfl rfl rfl (by simp) ?_
  simp only [initSt, initEnv, List.map_cons, List.map_nil, List.getD_cons_zero, List.getD_cons_succ, List.getD_nil]
  have hh := grd_some h; clear h; obtain ⟨g1505, h⟩ := hh
  have hh := brn_some h; clear h; rcases hh with ⟨h1506, h⟩ | ⟨h1506, h⟩
  · have hh := bnd'_some h; clear h; obtain ⟨p1507, h1508, h⟩ := hh
    (try dsimp only at h)
    refine W_sound tab_ok mixed 17 _ _ _ ?_
    simp -implicitDefEqProofs only [go_sem, qa, qb, qc, qd, qe, qf, qg, qh, qi, qj, qk, ↓reduceIte, g1505, h1506]
    repeat with_reducible refine ⟨by first | kernel_rfl | decide, ?_⟩
    refine Wp_callD [0] (Fn_slr (room := (n1497 + 1)) (c56_3 N _ _ _ h1508)) rfl rfl rfl (by first | rfl | (simp only [go_sem, qa, qb, qc, qd, qe, qf, qg, qh, qi, qj, qk, ↓reduceIte, g1505, h1506] <;> rfl)) rfl (by kernel_rfl) ?_
    have hh := getL_some h; clear h; obtain ⟨n1510, c1511, h1509, h⟩ := hh
    have hh := bnd'_some h; clear h; obtain ⟨⟨p1512, p1514⟩, h1513, h⟩ := hh
    (try dsimp only at h)
    (try simp -implicitDefEqProofs only [go_sem, qa, qb, qc, qd, qe, qf, qg, qh, qi, qj, qk, ↓reduceIte, g1505, h1506, h1509])
    refine Wp_callD [3] (c75 N _ _ _ _ h1513) rfl rfl rfl (by first | rfl | (simp only [go_sem, qa, qb, qc, qd, qe, qf, qg, qh, qi, qj, qk, ↓reduceIte, g1505, h1506, h1509] <;> rfl)) rfl (by kernel_rfl) ?_
    have hh := getB_some h; clear h; obtain ⟨b1516, h1515, h⟩ := hh
    refine W_sound tab_ok mixed 4 _ _ _ ?_
    simp -implicitDefEqProofs only [go_sem, qa, qb, qc, qd, qe, qf, qg, qh, qi, qj, qk, ↓reduceIte, g1505, h1506, h1509, h1515]
    repeat with_reducible refine ⟨by first | kernel_rfl | decide, ?_⟩
    simp only [Option.some.injEq, Prod.mk.injEq] at h; obtain ⟨rfl, rfl⟩ := h
    exact finD (e2 := [(0, .dead), (1, .dead), (2, .dead), (3, .dead), (4, .dead), (5, .dead), (6, .dead), (10, .v (.bool b1516)), (11, .dead), (12, .dead), (16, .dead), (28, .dead), (29, .dead), (30, .dead), (31, .dead), (63, .dead)]) (ob2 := [(1, .p [(.int .i64 x1501)]), (2, .r [.fn 75 [.ptr 3 0]]), (4, .r [.ptr 5 0]), (5, .p c1503), (6, .r [.fn 94 [.ptr 1 0, .ptr 2 0, .ptr 4 0, .ptr 6 0]]), (0, .p c1500), (3, .p [p1514])]) (st' := ⟨[], [(0, .dead), (1, .dead), (2, .dead), (3, .dead), (4, .dead), (5, .dead), (6, .dead), (10, .v (.bool b1516)), (11, .dead), (12, .dead), (16, .dead), (28, .dead), (29, .dead), (30, .dead), (31, .dead), (63, .dead)], [(0, .p c1500), (1, .p [(.int .i64 x1501)]), (2, .r [.fn 75 [.ptr 3 0]]), (3, .p [p1514]), (4, .r [.ptr 5 0]), (5, .p c1503), (6, .r [.fn 94 [.ptr 1 0, .ptr 2 0, .ptr 4 0, .ptr 6 0]])], 7, []⟩) (.k (.k (.k (.k (.k (.k (.k (.r (.r (.r (.k (.r (.r (.r (.r (.r .nil)))))))))))))))) (.cons _ _ _ _ _ (DLes.refl _) (.cons _ _ _ _ _ (DLes.refl _) (.cons _ _ _ _ _ (DLes.refl _) (.cons _ _ _ _ _ (DLes.refl _) (.cons _ _ _ _ _ (DLes.refl _) (.cons _ _ _ _ _ (DLes.refl _) (.cons _ _ _ _ _ (DLes.refl _) .nil))))))) (by kernel_rfl) (by simp only [go_sem, qa, qb, qc, qd, qe, qf, qg, qh, qi, qj, qk, ↓reduceIte, resQ_tmp, resQ_cell, resQ_nil, retD_one, retD_two, retD_three, retD_none]; try simp [R.val, retD_one, retD_two, retD_three, retD_none])
  · have hh := grd_some h; clear h; obtain ⟨⟨g1517, g1518⟩, h⟩ := hh
    have hh := grd_some h; clear h; obtain ⟨⟨g1519, g1520, g1521⟩, h⟩ := hh
    refine W_sound tab_ok mixed 28 _ _ _ ?_
    simp -implicitDefEqProofs only [go_sem, qa, qb, qc, qd, qe, qf, qg, qh, qi, qj, qk, ↓reduceIte, g1505, h1506, g1517, g1518, g1519, g1520, g1521]
    repeat with_reducible refine ⟨by first | kernel_rfl | decide, ?_⟩
    refine Wp_wkK (Wk_normX 0) rfl ?_
    simp -implicitDefEqProofs only [go_sem, qa, qb, qc, qd, qe, qf, qg, qh, qi, qj, qk, ↓reduceIte, normX, g1505, h1506, g1517, g1518, g1519, g1520, g1521]
    (try simp -implicitDefEqProofs only [go_sem, qa, qb, qc, qd, qe, qf, qg, qh, qi, qj, qk, ↓reduceIte, g1505, h1506, g1517, g1518, g1519, g1520, g1521])
    have hh := bnd'_some h; clear h; obtain ⟨o1561, h1562, h1563⟩ := hh
    refine Wp_cut (fun s => ∃ p1556, (.inr p1556) = o1561 ∧ s = ⟨[], [(0, .dead), (1, .dead), (2, .dead), (3, .dead), (4, .dead), (5, .dead), (6, .dead), (10, .dead), (11, .dead), (12, .dead), (16, .dead), (28, .dead), (29, .dead), (30, .dead), (31, .dead), (63, .dead)], [(0, .p c1500), (1, .p [(.int .i64 x1501)]), (2, .r [.fn 75 [.ptr 3 0]]), (3, .p [p1556]), (4, .r [.ptr 5 0]), (5, .p c1503), (6, .r [.fn 94 [.ptr 1 0, .ptr 2 0, .ptr 4 0, .ptr 6 0]])], 7, []⟩) ?_ ?_
    · refine Wp_block ?_
      refine Wp_loopG (fun n s => ∃ x1538, ∃ p1539, m94_3_B_L0 N rec n1497 x1498 x1499 c1500 x1501 c1503 n x1538 p1539 = some o1561 ∧ s = ⟨[], [(0, .slr 0 0 n1497 (n1497 + 1) 1), (1, .v (.int .u64 x1498)), (2, .v (.int .u64 x1499)), (3, .dead), (4, .dead), (5, .dead), (6, .ptr 6 0), (10, .dead), (11, .dead), (12, .dead), (16, .dead), (28, .sl false 5 (1 + (n1497 * 5)) (Int.toNat x1501) 1), (29, .v (.int .i64 (((Int.toNat x1501) : Nat) : Int))), (30, .v (.int .i64 x1538)), (31, .dead), (63, .dead)], [(0, .p c1500), (1, .p [(.int .i64 x1501)]), (2, .r [.fn 75 [.ptr 3 0]]), (3, .p [p1539]), (4, .r [.ptr 5 0]), (5, .p c1503), (6, .r [.fn 94 [.ptr 1 0, .ptr 2 0, .ptr 4 0, .ptr 6 0]])], 7, []⟩) N _ ((Wk_le (.r (.r (.r (.k (.k (.k (.r (.k (.r (.r (.k (.r (.r (.r (.r (.r .nil)))))))))))))))) (OLe.refl _)).trans (cmpS_ok (st' := ⟨[], [(0, .slr 0 0 n1497 (n1497 + 1) 1), (1, .v (.int .u64 x1498)), (2, .v (.int .u64 x1499)), (3, .dead), (4, .dead), (5, .dead), (6, .ptr 6 0), (10, .dead), (11, .dead), (12, .dead), (16, .dead), (28, .sl false 5 (1 + (n1497 * 5)) (Int.toNat x1501) 1), (29, .v (.int .i64 (((Int.toNat x1501) : Nat) : Int))), (30, .v (.int .i64 0)), (31, .dead), (63, .dead)], [(0, .p c1500), (1, .p [(.int .i64 x1501)]), (2, .r [.fn 75 [.ptr 3 0]]), (3, .p [p1502]), (4, .r [.ptr 5 0]), (5, .p c1503), (6, .r [.fn 94 [.ptr 1 0, .ptr 2 0, .ptr 4 0, .ptr 6 0]])], 7, []⟩) (by kernel_rfl))) ⟨_, _, h1562, rfl⟩ ?_
      clear h1562
      rintro n _ ⟨x1538, p1539, h1562, rfl⟩
      cases n with
      | zero => cases h1562
      | succ n =>
        rw [m94_3_B_L0] at h1562
        have hh := brn_some h1562; clear h1562; rcases hh with ⟨h1540, h1562⟩ | ⟨h1540, h1562⟩
        · have hh := grd_some h1562; clear h1562; obtain ⟨⟨g1541, g1542⟩, h1562⟩ := hh
          have hh := grd_some h1562; clear h1562; obtain ⟨g1543, h1562⟩ := hh
          have hh := getI_some h1562; clear h1562; obtain ⟨x1545, h1544, h1562⟩ := hh
          have hh := brn_some h1562; clear h1562; rcases hh with ⟨h1546, h1562⟩ | ⟨h1546, h1562⟩
          · have hh := grd_some h1562; clear h1562; obtain ⟨g1547, h1562⟩ := hh
            have hh := brn_some h1562; clear h1562; rcases hh with ⟨h1548, h1562⟩ | ⟨h1548, h1562⟩
            · have hh := bnd'_some h1562; clear h1562; obtain ⟨⟨p1549, p1551⟩, h1550, h1562⟩ := hh
              (try dsimp only at h1562)
              refine W_sound tab_ok mixed 45 _ _ _ ?_
              simp -implicitDefEqProofs only [go_sem, qa, qb, qc, qd, qe, qf, qg, qh, qi, qj, qk, ↓reduceIte, g1505, h1506, g1517, g1518, g1519, g1520, g1521, h1540, g1541, g1542, g1543, h1544, h1546, g1547, h1548, (extO_app g1505), (set_app g1505), (cutB_app g1505)]
              repeat with_reducible refine ⟨by first | kernel_rfl | decide, ?_⟩
              refine Wp_callD [0, 1, 2, 3, 4, 5, 6] (Fn_slr (room := (n1497 + 1)) (ih _ _ _ _ _ _ _ _ _ h1550)) rfl rfl rfl (by first | rfl | (simp only [go_sem, qa, qb, qc, qd, qe, qf, qg, qh, qi, qj, qk, ↓reduceIte, g1505, h1506, g1517, g1518, g1519, g1520, g1521, h1540, g1541, g1542, g1543, h1544, h1546, g1547, h1548, (extO_app g1505), (set_app g1505), (cutB_app g1505)] <;> rfl)) rfl (by kernel_rfl) ?_
              have hh := getB_some h1562; clear h1562; obtain ⟨b1553, h1552, h1562⟩ := hh
              have hh := brn_some h1562; clear h1562; rcases hh with ⟨h1554, h1562⟩ | ⟨h1554, h1562⟩
              · refine W_sound tab_ok mixed 3 _ _ _ ?_
                simp -implicitDefEqProofs only [go_sem, qa, qb, qc, qd, qe, qf, qg, qh, qi, qj, qk, ↓reduceIte, g1505, h1506, g1517, g1518, g1519, g1520, g1521, h1540, g1541, g1542, g1543, h1544, h1546, g1547, h1548, (extO_app g1505), (set_app g1505), (cutB_app g1505), h1552, h1554]
                repeat with_reducible refine ⟨by first | kernel_rfl | decide, ?_⟩
                refine Wp_wkK (Wk_trim 0 n1497) rfl ?_
                simp -implicitDefEqProofs only [go_sem, qa, qb, qc, qd, qe, qf, qg, qh, qi, qj, qk, ↓reduceIte, trimO, g1505, h1506, g1517, g1518, g1519, g1520, g1521, h1540, g1541, g1542, g1543, h1544, h1546, g1547, h1548, (extO_app g1505), (set_app g1505), (cutB_app g1505), h1552, h1554, trimO]
                refine W_sound tab_ok mixed 7 _ _ _ ?_
                simp -implicitDefEqProofs only [go_sem, qa, qb, qc, qd, qe, qf, qg, qh, qi, qj, qk, ↓reduceIte, g1505, h1506, g1517, g1518, g1519, g1520, g1521, h1540, g1541, g1542, g1543, h1544, h1546, g1547, h1548, (extO_app g1505), (set_app g1505), (cutB_app g1505), h1552, h1554, trimO]
                repeat with_reducible refine ⟨by first | kernel_rfl | decide, ?_⟩
                exact cutQ _ ((Wk_le (.r (.r (.r (.r (.r (.r (.r (.r (.k (.k (.r (.r (.r (.r (.k (.k .nil)))))))))))))))) (OLe.refl _)).trans (cmpS_ok (st' := ⟨[], [(0, .slr 0 0 n1497 (n1497 + 1) 1), (1, .v (.int .u64 x1498)), (2, .v (.int .u64 x1499)), (3, .dead), (4, .dead), (5, .dead), (6, .ptr 6 0), (10, .dead), (11, .dead), (12, .dead), (16, .dead), (28, .sl false 5 (1 + (n1497 * 5)) (Int.toNat x1501) 1), (29, .v (.int .i64 (((Int.toNat x1501) : Nat) : Int))), (30, .v (.int .i64 (IntKind.i64.wrap (x1538 + 1)))), (31, .dead), (63, .dead)], [(0, .p c1500), (1, .p [(.int .i64 x1501)]), (2, .r [.fn 75 [.ptr 3 0]]), (3, .p [p1551]), (4, .r [.ptr 5 0]), (5, .p c1503), (6, .r [.fn 94 [.ptr 1 0, .ptr 2 0, .ptr 4 0, .ptr 6 0]])], 7, []⟩) (by kernel_rfl))) ⟨n, Nat.lt_succ_self n, _, _, h1562, rfl⟩
              · refine W_sound tab_ok mixed 3 _ _ _ ?_
                simp -implicitDefEqProofs only [go_sem, qa, qb, qc, qd, qe, qf, qg, qh, qi, qj, qk, ↓reduceIte, g1505, h1506, g1517, g1518, g1519, g1520, g1521, h1540, g1541, g1542, g1543, h1544, h1546, g1547, h1548, (extO_app g1505), (set_app g1505), (cutB_app g1505), h1552, h1554]
                repeat with_reducible refine ⟨by first | kernel_rfl | decide, ?_⟩
                refine Wp_wkK (Wk_trim 0 n1497) rfl ?_
                simp -implicitDefEqProofs only [go_sem, qa, qb, qc, qd, qe, qf, qg, qh, qi, qj, qk, ↓reduceIte, trimO, g1505, h1506, g1517, g1518, g1519, g1520, g1521, h1540, g1541, g1542, g1543, h1544, h1546, g1547, h1548, (extO_app g1505), (set_app g1505), (cutB_app g1505), h1552, h1554, trimO]
                refine W_sound tab_ok mixed 7 _ _ _ ?_
                simp -implicitDefEqProofs only [go_sem, qa, qb, qc, qd, qe, qf, qg, qh, qi, qj, qk, ↓reduceIte, g1505, h1506, g1517, g1518, g1519, g1520, g1521, h1540, g1541, g1542, g1543, h1544, h1546, g1547, h1548, (extO_app g1505), (set_app g1505), (cutB_app g1505), h1552, h1554, trimO]
                repeat with_reducible refine ⟨by first | kernel_rfl | decide, ?_⟩
                obtain rfl := Option.some.inj h1562
                (try dsimp only at h1563)
                simp only [Option.some.injEq, Prod.mk.injEq] at h1563; obtain ⟨rfl, rfl⟩ := h1563
                exact finD (e2 := [(0, .dead), (1, .dead), (2, .dead), (3, .dead), (4, .dead), (5, .dead), (6, .dead), (10, .v (.bool false)), (11, .dead), (12, .dead), (16, .dead), (28, .dead), (29, .dead), (30, .dead), (31, .dead), (63, .dead)]) (ob2 := [(58, .p [(.int .i64 x1538)]), (6, .r [.fn 94 [.ptr 1 0, .ptr 2 0, .ptr 4 0, .ptr 6 0]]), (5, .p c1503), (4, .r [.ptr 5 0]), (3, .p [p1551]), (2, .r [.fn 75 [.ptr 3 0]]), (1, .p [(.int .i64 x1501)]), (0, .p c1500)]) (st' := ⟨[], [(0, .dead), (1, .dead), (2, .dead), (3, .dead), (4, .dead), (5, .dead), (6, .dead), (10, .v (.bool false)), (11, .dead), (12, .dead), (16, .dead), (28, .dead), (29, .dead), (30, .dead), (31, .dead), (63, .dead)], [(0, .p c1500), (1, .p [(.int .i64 x1501)]), (2, .r [.fn 75 [.ptr 3 0]]), (3, .p [p1551]), (4, .r [.ptr 5 0]), (5, .p c1503), (6, .r [.fn 94 [.ptr 1 0, .ptr 2 0, .ptr 4 0, .ptr 6 0]])], 7, []⟩) (.k (.k (.k (.r (.r (.r (.k (.r (.k (.k (.r (.k (.k (.k (.k (.k .nil)))))))))))))))) (.cons _ _ _ _ _ (DLes.refl _) (.cons _ _ _ _ _ (DLes.refl _) (.cons _ _ _ _ _ (DLes.refl _) (.cons _ _ _ _ _ (DLes.refl _) (.cons _ _ _ _ _ (DLes.refl _) (.cons _ _ _ _ _ (DLes.refl _) (.cons _ _ _ _ _ (DLes.refl _) (.cons _ _ _ _ _ (DLes.refl _) .nil)))))))) (by kernel_rfl) (by simp only [go_sem, qa, qb, qc, qd, qe, qf, qg, qh, qi, qj, qk, ↓reduceIte, resQ_tmp, resQ_cell, resQ_nil, retD_one, retD_two, retD_three, retD_none]; try simp [R.val, retD_one, retD_two, retD_three, retD_none])
            · refine W_sound tab_ok mixed 56 _ _ _ ?_
              simp -implicitDefEqProofs only [go_sem, qa, qb, qc, qd, qe, qf, qg, qh, qi, qj, qk, ↓reduceIte, g1505, h1506, g1517, g1518, g1519, g1520, g1521, h1540, g1541, g1542, g1543, h1544, h1546, g1547, h1548]
              repeat with_reducible refine ⟨by first | kernel_rfl | decide, ?_⟩
              exact cutQ _ ((Wk_le (.r (.r (.r (.r (.r (.r (.r (.r (.k (.k (.r (.r (.r (.r (.k (.k .nil)))))))))))))))) (OLe.refl _)).trans (cmpS_ok (st' := ⟨[], [(0, .slr 0 0 n1497 (n1497 + 1) 1), (1, .v (.int .u64 x1498)), (2, .v (.int .u64 x1499)), (3, .dead), (4, .dead), (5, .dead), (6, .ptr 6 0), (10, .dead), (11, .dead), (12, .dead), (16, .dead), (28, .sl false 5 (1 + (n1497 * 5)) (Int.toNat x1501) 1), (29, .v (.int .i64 (((Int.toNat x1501) : Nat) : Int))), (30, .v (.int .i64 (IntKind.i64.wrap (x1538 + 1)))), (31, .dead), (63, .dead)], [(0, .p c1500), (1, .p [(.int .i64 x1501)]), (2, .r [.fn 75 [.ptr 3 0]]), (3, .p [p1539]), (4, .r [.ptr 5 0]), (5, .p c1503), (6, .r [.fn 94 [.ptr 1 0, .ptr 2 0, .ptr 4 0, .ptr 6 0]])], 7, []⟩) (by kernel_rfl))) ⟨n, Nat.lt_succ_self n, _, _, h1562, rfl⟩
          · refine W_sound tab_ok mixed 56 _ _ _ ?_
            simp -implicitDefEqProofs only [go_sem, qa, qb, qc, qd, qe, qf, qg, qh, qi, qj, qk, ↓reduceIte, g1505, h1506, g1517, g1518, g1519, g1520, g1521, h1540, g1541, g1542, g1543, h1544, h1546]
            repeat with_reducible refine ⟨by first | kernel_rfl | decide, ?_⟩
            exact cutQ _ ((Wk_le (.r (.r (.r (.r (.r (.r (.r (.r (.k (.k (.r (.r (.r (.r (.k (.k .nil)))))))))))))))) (OLe.refl _)).trans (cmpS_ok (st' := ⟨[], [(0, .slr 0 0 n1497 (n1497 + 1) 1), (1, .v (.int .u64 x1498)), (2, .v (.int .u64 x1499)), (3, .dead), (4, .dead), (5, .dead), (6, .ptr 6 0), (10, .dead), (11, .dead), (12, .dead), (16, .dead), (28, .sl false 5 (1 + (n1497 * 5)) (Int.toNat x1501) 1), (29, .v (.int .i64 (((Int.toNat x1501) : Nat) : Int))), (30, .v (.int .i64 (IntKind.i64.wrap (x1538 + 1)))), (31, .dead), (63, .dead)], [(0, .p c1500), (1, .p [(.int .i64 x1501)]), (2, .r [.fn 75 [.ptr 3 0]]), (3, .p [p1539]), (4, .r [.ptr 5 0]), (5, .p c1503), (6, .r [.fn 94 [.ptr 1 0, .ptr 2 0, .ptr 4 0, .ptr 6 0]])], 7, []⟩) (by kernel_rfl))) ⟨n, Nat.lt_succ_self n, _, _, h1562, rfl⟩
        · refine W_sound tab_ok mixed 7 _ _ _ ?_
          simp -implicitDefEqProofs only [go_sem, qa, qb, qc, qd, qe, qf, qg, qh, qi, qj, qk, ↓reduceIte, g1505, h1506, g1517, g1518, g1519, g1520, g1521, h1540]
          repeat with_reducible refine ⟨by first | kernel_rfl | decide, ?_⟩
          obtain rfl := Option.some.inj h1562
          exact cutQ _ ((Wk_le (.k (.k (.k (.r (.r (.r (.k (.r (.r (.r (.r (.k (.k (.k (.k (.r .nil)))))))))))))))) (OLe.refl _)).trans (cmpS_ok (st' := ⟨[], [(0, .dead), (1, .dead), (2, .dead), (3, .dead), (4, .dead), (5, .dead), (6, .dead), (10, .dead), (11, .dead), (12, .dead), (16, .dead), (28, .dead), (29, .dead), (30, .dead), (31, .dead), (63, .dead)], [(0, .p c1500), (1, .p [(.int .i64 x1501)]), (2, .r [.fn 75 [.ptr 3 0]]), (3, .p [p1539]), (4, .r [.ptr 5 0]), (5, .p c1503), (6, .r [.fn 94 [.ptr 1 0, .ptr 2 0, .ptr 4 0, .ptr 6 0]])], 7, []⟩) (by kernel_rfl))) ⟨_, rfl, rfl⟩
    · rintro _ ⟨p1556, rfl, rfl⟩
      (try dsimp only at h1563)
      refine W_sound tab_ok mixed 6 _ _ _ ?_
      simp -implicitDefEqProofs only [go_sem, qa, qb, qc, qd, qe, qf, qg, qh, qi, qj, qk, ↓reduceIte, g1505, h1506, g1517, g1518, g1519, g1520, g1521]
      repeat with_reducible refine ⟨by first | kernel_rfl | decide, ?_⟩
      simp only [Option.some.injEq, Prod.mk.injEq] at h1563; obtain ⟨rfl, rfl⟩ := h1563
      exact finD (e2 := [(0, .dead), (1, .dead), (2, .dead), (3, .dead), (4, .dead), (5, .dead), (6, .dead), (10, .v (.bool true)), (11, .dead), (12, .dead), (16, .dead), (28, .dead), (29, .dead), (30, .dead), (31, .dead), (63, .dead)]) (ob2 := [(0, .p c1500), (1, .p [(.int .i64 x1501)]), (2, .r [.fn 75 [.ptr 3 0]]), (3, .p [p1556]), (4, .r [.ptr 5 0]), (5, .p c1503), (6, .r [.fn 94 [.ptr 1 0, .ptr 2 0, .ptr 4 0, .ptr 6 0]])]) (st' := ⟨[], [(0, .dead), (1, .dead), (2, .dead), (3, .dead), (4, .dead), (5, .dead), (6, .dead), (10, .v (.bool true)), (11, .dead), (12, .dead), (16, .dead), (28, .dead), (29, .dead), (30, .dead), (31, .dead), (63, .dead)], [(0, .p c1500), (1, .p [(.int .i64 x1501)]), (2, .r [.fn 75 [.ptr 3 0]]), (3, .p [p1556]), (4, .r [.ptr 5 0]), (5, .p c1503), (6, .r [.fn 94 [.ptr 1 0, .ptr 2 0, .ptr 4 0, .ptr 6 0]])], 7, []⟩) (.r (.r (.r (.r (.r (.r (.r (.r (.r (.r (.r (.r (.r (.r (.r (.r .nil)))))))))))))))) (.cons _ _ _ _ _ (DLes.refl _) (.cons _ _ _ _ _ (DLes.refl _) (.cons _ _ _ _ _ (DLes.refl _) (.cons _ _ _ _ _ (DLes.refl _) (.cons _ _ _ _ _ (DLes.refl _) (.cons _ _ _ _ _ (DLes.refl _) (.cons _ _ _ _ _ (DLes.refl _) .nil))))))) (by kernel_rfl) (by simp only [go_sem, qa, qb, qc, qd, qe, qf, qg, qh, qi, qj, qk, ↓reduceIte, resQ_tmp, resQ_cell, resQ_nil, retD_one, retD_two, retD_three, retD_none]; try simp [R.val, retD_one, retD_two, retD_three, retD_none])
theorem c94_3 (N : Nat) : ∀ (fu : Nat) (n1425 : Nat) (x1426 : Int) (x1427 : Int) (c1428 : List PV) (x1429 : Int) (p1430 : PV) (c1431 : List PV) (r : PV) (p1432 : PV) (h : m94_3 N fu n1425 x1426 x1427 c1428 x1429 p1430 c1431 = some (r, p1432)), V.Fn Tryd.prog 94 7 [.sl false 0 0 n1425 1, .v (.int .u64 x1426), .v (.int .u64 x1427), .ptr 1 0, .ptr 2 0, .ptr 4 0, .ptr 6 0] [(0, .p c1428), (1, .p [(.int .i64 x1429)]), (2, .r [.fn 75 [.ptr 3 0]]), (3, .p [p1430]), (4, .r [.ptr 5 0]), (5, .p c1431), (6, .r [.fn 94 [.ptr 1 0, .ptr 2 0, .ptr 4 0, .ptr 6 0]])] (fun d ob' => d = .v r ∧ ob' = [(0, .p c1428), (1, .p [(.int .i64 x1429)]), (2, .r [.fn 75 [.ptr 3 0]]), (3, .p [p1432]), (4, .r [.ptr 5 0]), (5, .p c1431), (6, .r [.fn 94 [.ptr 1 0, .ptr 2 0, .ptr 4 0, .ptr 6 0]])]) := by
  intro fu
  induction fu with
  | zero => intro n1425 x1426 x1427 c1428 x1429 p1430 c1431 r p1432 h; cases h
  | succ fu ih =>
    intro n1425 x1426 x1427 c1428 x1429 p1430 c1431 r p1432 h
    rw [m94_3] at h
    obtain ⟨h1, h2⟩ := both_some h
    exact Fn_split rfl (c94_3_A N _ ih n1425 x1426 x1427 c1428 x1429 p1430 c1431 r p1432 h1) (c94_3_B N _ ih n1425 x1426 x1427 c1428 x1429 p1430 c1431 r p1432 h2)
noncomputable def m94_2_L0 (N : Nat) (x1590 : Int) (x1591 : Int) (x1592 : Int) (c1594 : List PV) : Nat → Int → PV → Option (((PV × PV) ⊕ PV))
  | 0, _, _ => none
  | n + 1, x1626, p1627 =>
    brn (decide (x1626 < (((Int.toNat x1592) : Nat) : Int))) (
      grd (0 ≤ x1626 ∧ x1626 < (((Int.toNat x1592) : Nat) : Int)) <|
      grd ((1 + (Int.toNat x1626)) < List.length c1594) <|
      getI .i64 (gp c1594 (1 + (Int.toNat x1626))) fun x1633 =>
      brn ((bitsI .and .u64 (Int.fdiv x1590 (2 ^ (min (Int.toNat x1626) 64))) 1) == 0) (
        grd (0 ≤ x1633) <|
        brn ((bitsI .and .u64 (Int.fdiv x1591 (2 ^ (min (Int.toNat x1633) 64))) 1) == 0) (
          bnd' (m94_3 N N 1 (bitsI .or .u64 x1590 (IntKind.u64.wrap (1 * 2 ^ (min (Int.toNat x1626) 64)))) (bitsI .or .u64 x1591 (IntKind.u64.wrap (1 * 2 ^ (min (Int.toNat x1633) 64)))) [(.int .i64 x1626)] x1592 p1627 c1594) fun (p1637, p1639) =>
          getB p1637 fun b1641 =>
          brn b1641 (
            m94_2_L0 N x1590 x1591 x1592 c1594 n (IntKind.i64.wrap (x1626 + 1)) p1639) (
            some (.inl ((.bool false), p1639)))) (
          m94_2_L0 N x1590 x1591 x1592 c1594 n (IntKind.i64.wrap (x1626 + 1)) p1627)) (
        m94_2_L0 N x1590 x1591 x1592 c1594 n (IntKind.i64.wrap (x1626 + 1)) p1627)) (
      some (.inr p1627))
noncomputable def m94_2 (N : Nat) (x1590 : Int) (x1591 : Int) (x1592 : Int) (p1593 : PV) (c1594 : List PV) : Option ((PV × PV)) :=
  brn (0 == x1592) (
    bnd' (m56 N (.lst false 0 [])) fun p1597 =>
    getL p1597 fun n1600 c1601 =>
    bnd' (m75 N (.lst false n1600 c1601) p1593) fun (p1602, p1604) =>
    getB p1602 fun b1606 =>
    some ((.bool b1606), p1604)) (
    grd (0 ≤ x1592 ∧ x1592 ≤ 5 ∧ 6 ≤ List.length c1594) <|
    bnd' (m94_2_L0 N x1590 x1591 x1592 c1594 N 0 p1593) fun o =>
    match o with
    | .inl p1643 =>
      some p1643
    | .inr p1644 =>
      some ((.bool true), p1644))
theorem c94_2 (N : Nat) (x1590 : Int) (x1591 : Int) (x1592 : Int) (p1593 : PV) (c1594 : List PV) (r : PV) (p1646 : PV) (h : m94_2 N x1590 x1591 x1592 p1593 c1594 = some (r, p1646)) : V.Fn Tryd.prog 94 6 [.v .nl, .v (.int .u64 x1590), .v (.int .u64 x1591), .ptr 0 0, .ptr 1 0, .ptr 3 0, .ptr 5 0] [(0, .p [(.int .i64 x1592)]), (1, .r [.fn 75 [.ptr 2 0]]), (2, .p [p1593]), (3, .r [.ptr 4 0]), (4, .p c1594), (5, .r [.fn 94 [.ptr 0 0, .ptr 1 0, .ptr 3 0, .ptr 5 0]])] (fun d ob' => d = .v r ∧ ob' = [(0, .p [(.int .i64 x1592)]), (1, .r [.fn 75 [.ptr 2 0]]), (2, .p [p1646]), (3, .r [.ptr 4 0]), (4, .p c1594), (5, .r [.fn 94 [.ptr 0 0, .ptr 1 0, .ptr 3 0, .ptr 5 0]])]) := by
  unfold m94_2 at h
  refine Fn_of (sz := 65) tab_ok [0, 1, 2, 3, 4, 5, 6, 10, 11, 12, 16, 28, 29, 30, 31, 63] [.tmp 10] Tryd.func94 rfl rfl rfl (by simp) ?_
  simp only [initSt, initEnv, List.map_cons, List.map_nil, List.getD_cons_zero, List.getD_cons_succ, List.getD_nil]
  have hh := brn_some h; clear h; rcases hh with ⟨h1596, h⟩ | ⟨h1596, h⟩
  · have hh := bnd'_some h; clear h; obtain ⟨p1597, h1598, h⟩ := hh
    refine W_sound tab_ok mixed 17 _ _ _ ?_
    simp -implicitDefEqProofs only [go_sem, qa, qb, qc, qd, qe, qf, qg, qh, qi, qj, qk, ↓reduceIte, h1596]
    repeat with_reducible refine ⟨by first | kernel_rfl | decide, ?_⟩
    refine Wp_callP (FnP_le (c56 N _ _ h1598) (.cons _ _ _ _ (.nl false) .nil) (.refl _)) (by kernel_rfl) rfl rfl rfl rfl (by decide) ?_
    have hh := getL_some h; clear h; obtain ⟨n1600, c1601, h1599, h⟩ := hh
    have hh := bnd'_some h; clear h; obtain ⟨⟨p1602, p1604⟩, h1603, h⟩ := hh
    (try dsimp only at h)
    (try simp -implicitDefEqProofs only [go_sem, qa, qb, qc, qd, qe, qf, qg, qh, qi, qj, qk, ↓reduceIte, h1596, h1599])
    refine Wp_callD [2] (c75 N _ _ _ _ h1603) rfl rfl rfl (by first | rfl | (simp only [go_sem, qa, qb, qc, qd, qe, qf, qg, qh, qi, qj, qk, ↓reduceIte, h1596, h1599] <;> rfl)) rfl (by kernel_rfl) ?_
    have hh := getB_some h; clear h; obtain ⟨b1606, h1605, h⟩ := hh
    refine W_sound tab_ok mixed 4 _ _ _ ?_
    simp -implicitDefEqProofs only [go_sem, qa, qb, qc, qd, qe, qf, qg, qh, qi, qj, qk, ↓reduceIte, h1596, h1599, h1605]
    repeat with_reducible refine ⟨by first | kernel_rfl | decide, ?_⟩
    simp only [Option.some.injEq, Prod.mk.injEq] at h; obtain ⟨rfl, rfl⟩ := h
    exact finD (e2 := [(0, .dead), (1, .dead), (2, .dead), (3, .dead), (4, .dead), (5, .dead), (6, .dead), (10, .v (.bool b1606)), (11, .dead), (12, .dead), (16, .dead), (28, .dead), (29, .dead), (30, .dead), (31, .dead), (63, .dead)]) (ob2 := [(0, .p [(.int .i64 x1592)]), (1, .r [.fn 75 [.ptr 2 0]]), (3, .r [.ptr 4 0]), (4, .p c1594), (5, .r [.fn 94 [.ptr 0 0, .ptr 1 0, .ptr 3 0, .ptr 5 0]]), (2, .p [p1604])]) (st' := ⟨[], [(0, .dead), (1, .dead), (2, .dead), (3, .dead), (4, .dead), (5, .dead), (6, .dead), (10, .v (.bool b1606)), (11, .dead), (12, .dead), (16, .dead), (28, .dead), (29, .dead), (30, .dead), (31, .dead), (63, .dead)], [(0, .p [(.int .i64 x1592)]), (1, .r [.fn 75 [.ptr 2 0]]), (2, .p [p1604]), (3, .r [.ptr 4 0]), (4, .p c1594), (5, .r [.fn 94 [.ptr 0 0, .ptr 1 0, .ptr 3 0, .ptr 5 0]])], 6, []⟩) (.k (.k (.k (.k (.k (.k (.k (.r (.r (.r (.k (.r (.r (.r (.r (.r .nil)))))))))))))))) (.cons _ _ _ _ _ (DLes.refl _) (.cons _ _ _ _ _ (DLes.refl _) (.cons _ _ _ _ _ (DLes.refl _) (.cons _ _ _ _ _ (DLes.refl _) (.cons _ _ _ _ _ (DLes.refl _) (.cons _ _ _ _ _ (DLes.refl _) .nil)))))) (by kernel_rfl) (by simp only [go_sem, qa, qb, qc, qd, qe, qf, qg, qh, qi, qj, qk, ↓reduceIte, resQ_tmp, resQ_cell, resQ_nil, retD_one, retD_two, retD_three, retD_none]; try simp [R.val, retD_one, retD_two, retD_three, retD_none])
  · have hh := grd_some h; clear h; obtain ⟨⟨g1607, g1608, g1609⟩, h⟩ := hh
    refine W_sound tab_ok mixed 28 _ _ _ ?_
    simp -implicitDefEqProofs only [go_sem, qa, qb, qc, qd, qe, qf, qg, qh, qi, qj, qk, ↓reduceIte, h1596, g1607, g1608, g1609]
    repeat with_reducible refine ⟨by first | kernel_rfl | decide, ?_⟩
    refine Wp_wkK Wk_norm rfl ?_
    simp -implicitDefEqProofs only [go_sem, qa, qb, qc, qd, qe, qf, qg, qh, qi, qj, qk, ↓reduceIte, normE, h1596, g1607, g1608, g1609]
    (try simp -implicitDefEqProofs only [go_sem, qa, qb, qc, qd, qe, qf, qg, qh, qi, qj, qk, ↓reduceIte, h1596, g1607, g1608, g1609])
    have hh := bnd'_some h; clear h; obtain ⟨o1647, h1648, h1649⟩ := hh
    refine Wp_cut (fun s => ∃ p1644, (.inr p1644) = o1647 ∧ s = ⟨[], [(0, .dead), (1, .dead), (2, .dead), (3, .dead), (4, .dead), (5, .dead), (6, .dead), (10, .dead), (11, .dead), (12, .dead), (16, .dead), (28, .dead), (29, .dead), (30, .dead), (31, .dead), (63, .dead)], [(0, .p [(.int .i64 x1592)]), (1, .r [.fn 75 [.ptr 2 0]]), (2, .p [p1644]), (3, .r [.ptr 4 0]), (4, .p c1594), (5, .r [.fn 94 [.ptr 0 0, .ptr 1 0, .ptr 3 0, .ptr 5 0]])], 6, []⟩) ?_ ?_
    · refine Wp_block ?_
      refine Wp_loopG (fun n s => ∃ x1626, ∃ p1627, m94_2_L0 N x1590 x1591 x1592 c1594 n x1626 p1627 = some o1647 ∧ s = ⟨[], [(0, .v .nl), (1, .v (.int .u64 x1590)), (2, .v (.int .u64 x1591)), (3, .dead), (4, .dead), (5, .dead), (6, .ptr 5 0), (10, .dead), (11, .dead), (12, .dead), (16, .dead), (28, .sl false 4 1 (Int.toNat x1592) 1), (29, .v (.int .i64 (((Int.toNat x1592) : Nat) : Int))), (30, .v (.int .i64 x1626)), (31, .dead), (63, .dead)], [(0, .p [(.int .i64 x1592)]), (1, .r [.fn 75 [.ptr 2 0]]), (2, .p [p1627]), (3, .r [.ptr 4 0]), (4, .p c1594), (5, .r [.fn 94 [.ptr 0 0, .ptr 1 0, .ptr 3 0, .ptr 5 0]])], 6, []⟩) N _ ((Wk_le (.r (.r (.r (.k (.k (.k (.r (.k (.r (.r (.k (.r (.r (.r (.r (.r .nil)))))))))))))))) (OLe.refl _)).trans (cmpS_ok (st' := ⟨[], [(0, .v .nl), (1, .v (.int .u64 x1590)), (2, .v (.int .u64 x1591)), (3, .dead), (4, .dead), (5, .dead), (6, .ptr 5 0), (10, .dead), (11, .dead), (12, .dead), (16, .dead), (28, .sl false 4 1 (Int.toNat x1592) 1), (29, .v (.int .i64 (((Int.toNat x1592) : Nat) : Int))), (30, .v (.int .i64 0)), (31, .dead), (63, .dead)], [(0, .p [(.int .i64 x1592)]), (1, .r [.fn 75 [.ptr 2 0]]), (2, .p [p1593]), (3, .r [.ptr 4 0]), (4, .p c1594), (5, .r [.fn 94 [.ptr 0 0, .ptr 1 0, .ptr 3 0, .ptr 5 0]])], 6, []⟩) (by kernel_rfl))) ⟨_, _, h1648, rfl⟩ ?_
      clear h1648
      rintro n _ ⟨x1626, p1627, h1648, rfl⟩
      cases n with
      | zero => cases h1648
      | succ n =>
        rw [m94_2_L0] at h1648
        have hh := brn_some h1648; clear h1648; rcases hh with ⟨h1628, h1648⟩ | ⟨h1628, h1648⟩
        · have hh := grd_some h1648; clear h1648; obtain ⟨⟨g1629, g1630⟩, h1648⟩ := hh
          have hh := grd_some h1648; clear h1648; obtain ⟨g1631, h1648⟩ := hh
          have hh := getI_some h1648; clear h1648; obtain ⟨x1633, h1632, h1648⟩ := hh
          have hh := brn_some h1648; clear h1648; rcases hh with ⟨h1634, h1648⟩ | ⟨h1634, h1648⟩
          · have hh := grd_some h1648; clear h1648; obtain ⟨g1635, h1648⟩ := hh
            have hh := brn_some h1648; clear h1648; rcases hh with ⟨h1636, h1648⟩ | ⟨h1636, h1648⟩
            · have hh := bnd'_some h1648; clear h1648; obtain ⟨⟨p1637, p1639⟩, h1638, h1648⟩ := hh
              (try dsimp only at h1648)
              refine W_sound tab_ok mixed 45 _ _ _ ?_
              simp -implicitDefEqProofs only [go_sem, qa, qb, qc, qd, qe, qf, qg, qh, qi, qj, qk, ↓reduceIte, h1596, g1607, g1608, g1609, h1628, g1629, g1630, g1631, h1632, h1634, g1635, h1636]
              repeat with_reducible refine ⟨by first | kernel_rfl | decide, ?_⟩
              refine Wp_callD [58, 0, 1, 2, 3, 4, 5] (c94_3 N N _ _ _ _ _ _ _ _ _ h1638) rfl rfl rfl (by first | rfl | (simp only [go_sem, qa, qb, qc, qd, qe, qf, qg, qh, qi, qj, qk, ↓reduceIte, h1596, g1607, g1608, g1609, h1628, g1629, g1630, g1631, h1632, h1634, g1635, h1636] <;> rfl)) rfl (by kernel_rfl) ?_
              have hh := getB_some h1648; clear h1648; obtain ⟨b1641, h1640, h1648⟩ := hh
              have hh := brn_some h1648; clear h1648; rcases hh with ⟨h1642, h1648⟩ | ⟨h1642, h1648⟩
              · refine W_sound tab_ok mixed 10 _ _ _ ?_
                simp -implicitDefEqProofs only [go_sem, qa, qb, qc, qd, qe, qf, qg, qh, qi, qj, qk, ↓reduceIte, h1596, g1607, g1608, g1609, h1628, g1629, g1630, g1631, h1632, h1634, g1635, h1636, h1640, h1642]
                repeat with_reducible refine ⟨by first | kernel_rfl | decide, ?_⟩
                exact cutQ _ ((Wk_le (.r (.r (.r (.r (.r (.r (.r (.r (.k (.k (.r (.r (.r (.r (.k (.k .nil)))))))))))))))) (OLe.refl _)).trans (cmpS_ok (st' := ⟨[], [(0, .v .nl), (1, .v (.int .u64 x1590)), (2, .v (.int .u64 x1591)), (3, .dead), (4, .dead), (5, .dead), (6, .ptr 5 0), (10, .dead), (11, .dead), (12, .dead), (16, .dead), (28, .sl false 4 1 (Int.toNat x1592) 1), (29, .v (.int .i64 (((Int.toNat x1592) : Nat) : Int))), (30, .v (.int .i64 (IntKind.i64.wrap (x1626 + 1)))), (31, .dead), (63, .dead)], [(0, .p [(.int .i64 x1592)]), (1, .r [.fn 75 [.ptr 2 0]]), (2, .p [p1639]), (3, .r [.ptr 4 0]), (4, .p c1594), (5, .r [.fn 94 [.ptr 0 0, .ptr 1 0, .ptr 3 0, .ptr 5 0]])], 6, []⟩) (by kernel_rfl))) ⟨n, Nat.lt_succ_self n, _, _, h1648, rfl⟩
              · refine W_sound tab_ok mixed 10 _ _ _ ?_
                simp -implicitDefEqProofs only [go_sem, qa, qb, qc, qd, qe, qf, qg, qh, qi, qj, qk, ↓reduceIte, h1596, g1607, g1608, g1609, h1628, g1629, g1630, g1631, h1632, h1634, g1635, h1636, h1640, h1642]
                repeat with_reducible refine ⟨by first | kernel_rfl | decide, ?_⟩
                obtain rfl := Option.some.inj h1648
                (try dsimp only at h1649)
                simp only [Option.some.injEq, Prod.mk.injEq] at h1649; obtain ⟨rfl, rfl⟩ := h1649
                exact finD (e2 := [(0, .dead), (1, .dead), (2, .dead), (3, .dead), (4, .dead), (5, .dead), (6, .dead), (10, .v (.bool false)), (11, .dead), (12, .dead), (16, .dead), (28, .dead), (29, .dead), (30, .dead), (31, .dead), (63, .dead)]) (ob2 := [(57, .p [(.int .i64 x1626)]), (5, .r [.fn 94 [.ptr 0 0, .ptr 1 0, .ptr 3 0, .ptr 5 0]]), (4, .p c1594), (3, .r [.ptr 4 0]), (2, .p [p1639]), (1, .r [.fn 75 [.ptr 2 0]]), (0, .p [(.int .i64 x1592)]), (58, .p [(.int .i64 x1626)])]) (st' := ⟨[], [(0, .dead), (1, .dead), (2, .dead), (3, .dead), (4, .dead), (5, .dead), (6, .dead), (10, .v (.bool false)), (11, .dead), (12, .dead), (16, .dead), (28, .dead), (29, .dead), (30, .dead), (31, .dead), (63, .dead)], [(0, .p [(.int .i64 x1592)]), (1, .r [.fn 75 [.ptr 2 0]]), (2, .p [p1639]), (3, .r [.ptr 4 0]), (4, .p c1594), (5, .r [.fn 94 [.ptr 0 0, .ptr 1 0, .ptr 3 0, .ptr 5 0]])], 6, []⟩) (.k (.k (.k (.r (.r (.r (.k (.r (.k (.k (.r (.k (.k (.k (.k (.k .nil)))))))))))))))) (.cons _ _ _ _ _ (DLes.refl _) (.cons _ _ _ _ _ (DLes.refl _) (.cons _ _ _ _ _ (DLes.refl _) (.cons _ _ _ _ _ (DLes.refl _) (.cons _ _ _ _ _ (DLes.refl _) (.cons _ _ _ _ _ (DLes.refl _) (.cons _ _ _ _ _ (DLes.refl _) (.cons _ _ _ _ _ (DLes.refl _) .nil)))))))) (by kernel_rfl) (by simp only [go_sem, qa, qb, qc, qd, qe, qf, qg, qh, qi, qj, qk, ↓reduceIte, resQ_tmp, resQ_cell, resQ_nil, retD_one, retD_two, retD_three, retD_none]; try simp [R.val, retD_one, retD_two, retD_three, retD_none])
            · refine W_sound tab_ok mixed 56 _ _ _ ?_
              simp -implicitDefEqProofs only [go_sem, qa, qb, qc, qd, qe, qf, qg, qh, qi, qj, qk, ↓reduceIte, h1596, g1607, g1608, g1609, h1628, g1629, g1630, g1631, h1632, h1634, g1635, h1636]
              repeat with_reducible refine ⟨by first | kernel_rfl | decide, ?_⟩
              exact cutQ _ ((Wk_le (.r (.r (.r (.r (.r (.r (.r (.r (.k (.k (.r (.r (.r (.r (.k (.k .nil)))))))))))))))) (OLe.refl _)).trans (cmpS_ok (st' := ⟨[], [(0, .v .nl), (1, .v (.int .u64 x1590)), (2, .v (.int .u64 x1591)), (3, .dead), (4, .dead), (5, .dead), (6, .ptr 5 0), (10, .dead), (11, .dead), (12, .dead), (16, .dead), (28, .sl false 4 1 (Int.toNat x1592) 1), (29, .v (.int .i64 (((Int.toNat x1592) : Nat) : Int))), (30, .v (.int .i64 (IntKind.i64.wrap (x1626 + 1)))), (31, .dead), (63, .dead)], [(0, .p [(.int .i64 x1592)]), (1, .r [.fn 75 [.ptr 2 0]]), (2, .p [p1627]), (3, .r [.ptr 4 0]), (4, .p c1594), (5, .r [.fn 94 [.ptr 0 0, .ptr 1 0, .ptr 3 0, .ptr 5 0]])], 6, []⟩) (by kernel_rfl))) ⟨n, Nat.lt_succ_self n, _, _, h1648, rfl⟩
          · refine W_sound tab_ok mixed 56 _ _ _ ?_
            simp -implicitDefEqProofs only [go_sem, qa, qb, qc, qd, qe, qf, qg, qh, qi, qj, qk, ↓reduceIte, h1596, g1607, g1608, g1609, h1628, g1629, g1630, g1631, h1632, h1634]
            repeat with_reducible refine ⟨by first | kernel_rfl | decide, ?_⟩
            exact cutQ _ ((Wk_le (.r (.r (.r (.r (.r (.r (.r (.r (.k (.k (.r (.r (.r (.r (.k (.k .nil)))))))))))))))) (OLe.refl _)).trans (cmpS_ok (st' := ⟨[], [(0, .v .nl), (1, .v (.int .u64 x1590)), (2, .v (.int .u64 x1591)), (3, .dead), (4, .dead), (5, .dead), (6, .ptr 5 0), (10, .dead), (11, .dead), (12, .dead), (16, .dead), (28, .sl false 4 1 (Int.toNat x1592) 1), (29, .v (.int .i64 (((Int.toNat x1592) : Nat) : Int))), (30, .v (.int .i64 (IntKind.i64.wrap (x1626 + 1)))), (31, .dead), (63, .dead)], [(0, .p [(.int .i64 x1592)]), (1, .r [.fn 75 [.ptr 2 0]]), (2, .p [p1627]), (3, .r [.ptr 4 0]), (4, .p c1594), (5, .r [.fn 94 [.ptr 0 0, .ptr 1 0, .ptr 3 0, .ptr 5 0]])], 6, []⟩) (by kernel_rfl))) ⟨n, Nat.lt_succ_self n, _, _, h1648, rfl⟩
        · refine W_sound tab_ok mixed 7 _ _ _ ?_
          simp -implicitDefEqProofs only [go_sem, qa, qb, qc, qd, qe, qf, qg, qh, qi, qj, qk, ↓reduceIte, h1596, g1607, g1608, g1609, h1628]
          repeat with_reducible refine ⟨by first | kernel_rfl | decide, ?_⟩
          obtain rfl := Option.some.inj h1648
          exact cutQ _ ((Wk_le (.k (.k (.k (.r (.r (.r (.k (.r (.r (.r (.r (.k (.k (.k (.k (.r .nil)))))))))))))))) (OLe.refl _)).trans (cmpS_ok (st' := ⟨[], [(0, .dead), (1, .dead), (2, .dead), (3, .dead), (4, .dead), (5, .dead), (6, .dead), (10, .dead), (11, .dead), (12, .dead), (16, .dead), (28, .dead), (29, .dead), (30, .dead), (31, .dead), (63, .dead)], [(0, .p [(.int .i64 x1592)]), (1, .r [.fn 75 [.ptr 2 0]]), (2, .p [p1627]), (3, .r [.ptr 4 0]), (4, .p c1594), (5, .r [.fn 94 [.ptr 0 0, .ptr 1 0, .ptr 3 0, .ptr 5 0]])], 6, []⟩) (by kernel_rfl))) ⟨_, rfl, rfl⟩
    · rintro _ ⟨p1644, rfl, rfl⟩
      (try dsimp only at h1649)
      refine W_sound tab_ok mixed 6 _ _ _ ?_
      simp -implicitDefEqProofs only [go_sem, qa, qb, qc, qd, qe, qf, qg, qh, qi, qj, qk, ↓reduceIte, h1596, g1607, g1608, g1609]
      repeat with_reducible refine ⟨by first | kernel_rfl | decide, ?_⟩
      simp only [Option.some.injEq, Prod.mk.injEq] at h1649; obtain ⟨rfl, rfl⟩ := h1649
      exact finD (e2 := [(0, .dead), (1, .dead), (2, .dead), (3, .dead), (4, .dead), (5, .dead), (6, .dead), (10, .v (.bool true)), (11, .dead), (12, .dead), (16, .dead), (28, .dead), (29, .dead), (30, .dead), (31, .dead), (63, .dead)]) (ob2 := [(0, .p [(.int .i64 x1592)]), (1, .r [.fn 75 [.ptr 2 0]]), (2, .p [p1644]), (3, .r [.ptr 4 0]), (4, .p c1594), (5, .r [.fn 94 [.ptr 0 0, .ptr 1 0, .ptr 3 0, .ptr 5 0]])]) (st' := ⟨[], [(0, .dead), (1, .dead), (2, .dead), (3, .dead), (4, .dead), (5, .dead), (6, .dead), (10, .v (.bool true)), (11, .dead), (12, .dead), (16, .dead), (28, .dead), (29, .dead), (30, .dead), (31, .dead), (63, .dead)], [(0, .p [(.int .i64 x1592)]), (1, .r [.fn 75 [.ptr 2 0]]), (2, .p [p1644]), (3, .r [.ptr 4 0]), (4, .p c1594), (5, .r [.fn 94 [.ptr 0 0, .ptr 1 0, .ptr 3 0, .ptr 5 0]])], 6, []⟩) (.r (.r (.r (.r (.r (.r (.r (.r (.r (.r (.r (.r (.r (.r (.r (.r .nil)))))))))))))))) (.cons _ _ _ _ _ (DLes.refl _) (.cons _ _ _ _ _ (DLes.refl _) (.cons _ _ _ _ _ (DLes.refl _) (.cons _ _ _ _ _ (DLes.refl _) (.cons _ _ _ _ _ (DLes.refl _) (.cons _ _ _ _ _ (DLes.refl _) .nil)))))) (by kernel_rfl) (by simp only [go_sem, qa, qb, qc, qd, qe, qf, qg, qh, qi, qj, qk, ↓reduceIte, resQ_tmp, resQ_cell, resQ_nil, retD_one, retD_two, retD_three, retD_none]; try simp [R.val, retD_one, retD_two, retD_three, retD_none])
noncomputable def m74 (N : Nat) (x1656 : Int) (p1657 : PV) : Option ((PV × PV)) :=
  getL p1657 fun n1660 c1661 =>
  bnd' (m61 N x1656 (.lst false n1660 c1661) x1656) fun o =>
  match o with
  | .inl x1663 =>
    brn (x1663 != 0) (
      some ((.int .i64 x1663), (.lst false 0 []))) (
      brn (decide (((n1660 : Nat) : Int) < x1656)) (
        some ((.int .i64 21), (.lst false 0 []))) (
        bnd' (m94 N 0 0 x1656 .nl) fun (p1666, p1668) =>
        getB p1666 fun b1670 =>
        some ((.int .i64 0), p1668)))
  | .inr (x1671, c1672) =>
    brn (x1671 != 0) (
      some ((.int .i64 x1671), (.lst false 0 []))) (
      brn (decide (((n1660 : Nat) : Int) < x1656)) (
        some ((.int .i64 21), (.lst false 0 []))) (
        bnd' (m94_2 N 0 0 x1656 .nl c1672) fun (p1675, p1677) =>
        getB p1675 fun b1679 =>
        some ((.int .i64 0), p1677)))
theorem c74 (N : Nat) (x1656 : Int) (p1657 : PV) (r : PV) (p1681 : PV) (h : m74 N x1656 p1657 = some (r, p1681)) : V.Fn Tryd.prog 74 1 [.v (.int .i64 x1656), .v p1657, .fn 75 [.ptr 0 0]] [(0, .p [.nl])] (fun d ob' => d = .v r ∧ ob' = [(0, .p [p1681])]) := by
  unfold m74 at h
  refine Fn_of (sz := 29) tab_ok [0, 1, 2, 3, 5, 6, 7, 8, 9, 17, 21] [.tmp 6] Tryd.func74 rfl rfl rfl (by simp) ?_
  simp only [initSt, initEnv, List.map_cons, List.map_nil, List.getD_cons_zero, List.getD_cons_succ, List.getD_nil]
  have hh := getL_some h; clear h; obtain ⟨n1660, c1661, h1659, h⟩ := hh
  have hh := bnd'_some h; clear h; obtain ⟨oo, h1662, h⟩ := hh
  rcases oo with x1663 | ⟨x1671, c1672⟩
  · (try dsimp only at h)
    refine W_sound tab_ok mixed 11 _ _ _ ?_
    simp -implicitDefEqProofs only [go_sem, qa, qb, qc, qd, qe, qf, qg, qh, qi, qj, qk, ↓reduceIte, h1659]
    repeat with_reducible refine ⟨by first | kernel_rfl | decide, ?_⟩
    refine Wp_callD [] (c61_a N _ _ _ _ h1662) rfl rfl rfl (by first | rfl | (simp only [go_sem, qa, qb, qc, qd, qe, qf, qg, qh, qi, qj, qk, ↓reduceIte, h1659] <;> rfl)) rfl (by kernel_rfl) ?_
    have hh := brn_some h; clear h; rcases hh with ⟨h1664, h⟩ | ⟨h1664, h⟩
    · refine W_sound tab_ok mixed 23 _ _ _ ?_
      simp -implicitDefEqProofs only [go_sem, qa, qb, qc, qd, qe, qf, qg, qh, qi, qj, qk, ↓reduceIte, h1659, h1664]
      repeat with_reducible refine ⟨by first | kernel_rfl | decide, ?_⟩
      simp only [Option.some.injEq, Prod.mk.injEq] at h; obtain ⟨rfl, rfl⟩ := h
      exact finD (e2 := [(0, .dead), (1, .dead), (2, .dead), (3, .dead), (5, .dead), (6, .v (.int .i64 x1663)), (7, .dead), (8, .dead), (9, .dead), (17, .dead), (21, .dead)]) (ob2 := [(0, .p [(.lst false 0 [])]), (4, .p [(.int .i64 x1656)]), (6, .r [.fn 75 [.ptr 0 0]]), (14, .r [.v (.fn 999999 [.bool true])])]) (st' := ⟨[], [(0, .dead), (1, .dead), (2, .dead), (3, .dead), (5, .dead), (6, .v (.int .i64 x1663)), (7, .dead), (8, .dead), (9, .dead), (17, .dead), (21, .dead)], [(0, .p [(.lst false 0 [])])], 1, []⟩) (.k (.k (.k (.k (.k (.r (.k (.k (.r (.k (.r .nil))))))))))) (.cons _ (.p _) (.p _) _ _ (DLes.of_p (.cons _ _ _ _ (.nl false) .nil)) (.cons _ _ _ _ _ (DLes.refl _) (.cons _ _ _ _ _ (DLes.refl _) (.cons _ _ _ _ _ (DLes.refl _) .nil)))) (by kernel_rfl) (by simp only [go_sem, qa, qb, qc, qd, qe, qf, qg, qh, qi, qj, qk, ↓reduceIte, resQ_tmp, resQ_cell, resQ_nil, retD_one, retD_two, retD_three, retD_none]; try simp [R.val, retD_one, retD_two, retD_three, retD_none])
    · have hh := brn_some h; clear h; rcases hh with ⟨h1665, h⟩ | ⟨h1665, h⟩
      · refine W_sound tab_ok mixed 31 _ _ _ ?_
        simp -implicitDefEqProofs only [go_sem, qa, qb, qc, qd, qe, qf, qg, qh, qi, qj, qk, ↓reduceIte, h1659, h1664, h1665]
        repeat with_reducible refine ⟨by first | kernel_rfl | decide, ?_⟩
        simp only [Option.some.injEq, Prod.mk.injEq] at h; obtain ⟨rfl, rfl⟩ := h
        exact finD (e2 := [(0, .dead), (1, .dead), (2, .dead), (3, .dead), (5, .dead), (6, .v (.int .i64 21)), (7, .dead), (8, .dead), (9, .dead), (17, .dead), (21, .dead)]) (ob2 := [(0, .p [(.lst false 0 [])]), (4, .p [(.int .i64 x1656)]), (6, .r [.fn 75 [.ptr 0 0]]), (14, .r [.v (.fn 999999 [.bool true])])]) (st' := ⟨[], [(0, .dead), (1, .dead), (2, .dead), (3, .dead), (5, .dead), (6, .v (.int .i64 21)), (7, .dead), (8, .dead), (9, .dead), (17, .dead), (21, .dead)], [(0, .p [(.lst false 0 [])])], 1, []⟩) (.k (.k (.k (.k (.k (.r (.k (.k (.r (.k (.k .nil))))))))))) (.cons _ (.p _) (.p _) _ _ (DLes.of_p (.cons _ _ _ _ (.nl false) .nil)) (.cons _ _ _ _ _ (DLes.refl _) (.cons _ _ _ _ _ (DLes.refl _) (.cons _ _ _ _ _ (DLes.refl _) .nil)))) (by kernel_rfl) (by simp only [go_sem, qa, qb, qc, qd, qe, qf, qg, qh, qi, qj, qk, ↓reduceIte, resQ_tmp, resQ_cell, resQ_nil, retD_one, retD_two, retD_three, retD_none]; try simp [R.val, retD_one, retD_two, retD_three, retD_none])
      · have hh := bnd'_some h; clear h; obtain ⟨⟨p1666, p1668⟩, h1667, h⟩ := hh
        (try dsimp only at h)
        refine W_sound tab_ok mixed 39 _ _ _ ?_
        simp -implicitDefEqProofs only [go_sem, qa, qb, qc, qd, qe, qf, qg, qh, qi, qj, qk, ↓reduceIte, h1659, h1664, h1665]
        repeat with_reducible refine ⟨by first | kernel_rfl | decide, ?_⟩
        refine Wp_callD [4, 6, 0, 14, 24] (c94 N _ _ _ _ _ _ h1667) rfl rfl rfl (by first | rfl | (simp only [go_sem, qa, qb, qc, qd, qe, qf, qg, qh, qi, qj, qk, ↓reduceIte, h1659, h1664, h1665] <;> rfl)) rfl (by kernel_rfl) ?_
        have hh := getB_some h; clear h; obtain ⟨b1670, h1669, h⟩ := hh
        refine W_sound tab_ok mixed 7 _ _ _ ?_
        simp -implicitDefEqProofs only [go_sem, qa, qb, qc, qd, qe, qf, qg, qh, qi, qj, qk, ↓reduceIte, h1659, h1664, h1665, h1669]
        repeat with_reducible refine ⟨by first | kernel_rfl | decide, ?_⟩
        simp only [Option.some.injEq, Prod.mk.injEq] at h; obtain ⟨rfl, rfl⟩ := h
        exact finD (e2 := [(0, .dead), (1, .dead), (2, .dead), (3, .dead), (5, .dead), (6, .v (.int .i64 0)), (7, .dead), (8, .dead), (9, .dead), (17, .dead), (21, .dead)]) (ob2 := [(24, .r [.fn 94 [.ptr 4 0, .ptr 6 0, .ptr 14 0, .ptr 24 0]]), (14, .r [.v (.fn 999999 [.bool true])]), (0, .p [p1668]), (6, .r [.fn 75 [.ptr 0 0]]), (4, .p [(.int .i64 x1656)])]) (st' := ⟨[], [(0, .dead), (1, .dead), (2, .dead), (3, .dead), (5, .dead), (6, .v (.int .i64 0)), (7, .dead), (8, .dead), (9, .dead), (17, .dead), (21, .dead)], [(0, .p [p1668])], 1, []⟩) (.k (.k (.k (.k (.k (.r (.k (.k (.k (.k (.k .nil))))))))))) (.cons _ _ _ _ _ (DLes.refl _) (.cons _ _ _ _ _ (DLes.refl _) (.cons _ _ _ _ _ (DLes.refl _) (.cons _ _ _ _ _ (DLes.refl _) (.cons _ _ _ _ _ (DLes.refl _) .nil))))) (by kernel_rfl) (by simp only [go_sem, qa, qb, qc, qd, qe, qf, qg, qh, qi, qj, qk, ↓reduceIte, resQ_tmp, resQ_cell, resQ_nil, retD_one, retD_two, retD_three, retD_none]; try simp [R.val, retD_one, retD_two, retD_three, retD_none])
  · (try dsimp only at h)
    refine W_sound tab_ok mixed 11 _ _ _ ?_
    simp -implicitDefEqProofs only [go_sem, qa, qb, qc, qd, qe, qf, qg, qh, qi, qj, qk, ↓reduceIte, h1659]
    repeat with_reducible refine ⟨by first | kernel_rfl | decide, ?_⟩
    refine Wp_callD [] (c61_b N _ _ _ _ _ h1662) rfl rfl rfl (by first | rfl | (simp only [go_sem, qa, qb, qc, qd, qe, qf, qg, qh, qi, qj, qk, ↓reduceIte, h1659] <;> rfl)) rfl (by kernel_rfl) ?_
    have hh := brn_some h; clear h; rcases hh with ⟨h1673, h⟩ | ⟨h1673, h⟩
    · refine W_sound tab_ok mixed 23 _ _ _ ?_
      simp -implicitDefEqProofs only [go_sem, qa, qb, qc, qd, qe, qf, qg, qh, qi, qj, qk, ↓reduceIte, h1659, h1673]
      repeat with_reducible refine ⟨by first | kernel_rfl | decide, ?_⟩
      simp only [Option.some.injEq, Prod.mk.injEq] at h; obtain ⟨rfl, rfl⟩ := h
      exact finD (e2 := [(0, .dead), (1, .dead), (2, .dead), (3, .dead), (5, .dead), (6, .v (.int .i64 x1671)), (7, .dead), (8, .dead), (9, .dead), (17, .dead), (21, .dead)]) (ob2 := [(0, .p [(.lst false 0 [])]), (4, .p [(.int .i64 x1656)]), (6, .r [.fn 75 [.ptr 0 0]]), (21, .p c1672), (14, .r [.ptr 21 0])]) (st' := ⟨[], [(0, .dead), (1, .dead), (2, .dead), (3, .dead), (5, .dead), (6, .v (.int .i64 x1671)), (7, .dead), (8, .dead), (9, .dead), (17, .dead), (21, .dead)], [(0, .p [(.lst false 0 [])])], 1, []⟩) (.k (.k (.k (.k (.k (.r (.k (.k (.r (.k (.r .nil))))))))))) (.cons _ (.p _) (.p _) _ _ (DLes.of_p (.cons _ _ _ _ (.nl false) .nil)) (.cons _ _ _ _ _ (DLes.refl _) (.cons _ _ _ _ _ (DLes.refl _) (.cons _ _ _ _ _ (DLes.refl _) (.cons _ _ _ _ _ (DLes.refl _) .nil))))) (by kernel_rfl) (by simp only [go_sem, qa, qb, qc, qd, qe, qf, qg, qh, qi, qj, qk, ↓reduceIte, resQ_tmp, resQ_cell, resQ_nil, retD_one, retD_two, retD_three, retD_none]; try simp [R.val, retD_one, retD_two, retD_three, retD_none])
    · have hh := brn_some h; clear h; rcases hh with ⟨h1674, h⟩ | ⟨h1674, h⟩
      · refine W_sound tab_ok mixed 31 _ _ _ ?_
        simp -implicitDefEqProofs only [go_sem, qa, qb, qc, qd, qe, qf, qg, qh, qi, qj, qk, ↓reduceIte, h1659, h1673, h1674]
        repeat with_reducible refine ⟨by first | kernel_rfl | decide, ?_⟩
        simp only [Option.some.injEq, Prod.mk.injEq] at h; obtain ⟨rfl, rfl⟩ := h
        exact finD (e2 := [(0, .dead), (1, .dead), (2, .dead), (3, .dead), (5, .dead), (6, .v (.int .i64 21)), (7, .dead), (8, .dead), (9, .dead), (17, .dead), (21, .dead)]) (ob2 := [(0, .p [(.lst false 0 [])]), (4, .p [(.int .i64 x1656)]), (6, .r [.fn 75 [.ptr 0 0]]), (21, .p c1672), (14, .r [.ptr 21 0])]) (st' := ⟨[], [(0, .dead), (1, .dead), (2, .dead), (3, .dead), (5, .dead), (6, .v (.int .i64 21)), (7, .dead), (8, .dead), (9, .dead), (17, .dead), (21, .dead)], [(0, .p [(.lst false 0 [])])], 1, []⟩) (.k (.k (.k (.k (.k (.r (.k (.k (.r (.k (.k .nil))))))))))) (.cons _ (.p _) (.p _) _ _ (DLes.of_p (.cons _ _ _ _ (.nl false) .nil)) (.cons _ _ _ _ _ (DLes.refl _) (.cons _ _ _ _ _ (DLes.refl _) (.cons _ _ _ _ _ (DLes.refl _) (.cons _ _ _ _ _ (DLes.refl _) .nil))))) (by kernel_rfl) (by simp only [go_sem, qa, qb, qc, qd, qe, qf, qg, qh, qi, qj, qk, ↓reduceIte, resQ_tmp, resQ_cell, resQ_nil, retD_one, retD_two, retD_three, retD_none]; try simp [R.val, retD_one, retD_two, retD_three, retD_none])
      · have hh := bnd'_some h; clear h; obtain ⟨⟨p1675, p1677⟩, h1676, h⟩ := hh
        (try dsimp only at h)
        refine W_sound tab_ok mixed 39 _ _ _ ?_
        simp -implicitDefEqProofs only [go_sem, qa, qb, qc, qd, qe, qf, qg, qh, qi, qj, qk, ↓reduceIte, h1659, h1673, h1674]
        repeat with_reducible refine ⟨by first | kernel_rfl | decide, ?_⟩
        refine Wp_callD [4, 6, 0, 14, 21, 31] (c94_2 N _ _ _ _ _ _ _ h1676) rfl rfl rfl (by first | rfl | (simp only [go_sem, qa, qb, qc, qd, qe, qf, qg, qh, qi, qj, qk, ↓reduceIte, h1659, h1673, h1674] <;> rfl)) rfl (by kernel_rfl) ?_
        have hh := getB_some h; clear h; obtain ⟨b1679, h1678, h⟩ := hh
        refine W_sound tab_ok mixed 7 _ _ _ ?_
        simp -implicitDefEqProofs only [go_sem, qa, qb, qc, qd, qe, qf, qg, qh, qi, qj, qk, ↓reduceIte, h1659, h1673, h1674, h1678]
        repeat with_reducible refine ⟨by first | kernel_rfl | decide, ?_⟩
        simp only [Option.some.injEq, Prod.mk.injEq] at h; obtain ⟨rfl, rfl⟩ := h
        exact finD (e2 := [(0, .dead), (1, .dead), (2, .dead), (3, .dead), (5, .dead), (6, .v (.int .i64 0)), (7, .dead), (8, .dead), (9, .dead), (17, .dead), (21, .dead)]) (ob2 := [(31, .r [.fn 94 [.ptr 4 0, .ptr 6 0, .ptr 14 0, .ptr 31 0]]), (21, .p c1672), (14, .r [.ptr 21 0]), (0, .p [p1677]), (6, .r [.fn 75 [.ptr 0 0]]), (4, .p [(.int .i64 x1656)])]) (st' := ⟨[], [(0, .dead), (1, .dead), (2, .dead), (3, .dead), (5, .dead), (6, .v (.int .i64 0)), (7, .dead), (8, .dead), (9, .dead), (17, .dead), (21, .dead)], [(0, .p [p1677])], 1, []⟩) (.k (.k (.k (.k (.k (.r (.k (.k (.k (.k (.k .nil))))))))))) (.cons _ _ _ _ _ (DLes.refl _) (.cons _ _ _ _ _ (DLes.refl _) (.cons _ _ _ _ _ (DLes.refl _) (.cons _ _ _ _ _ (DLes.refl _) (.cons _ _ _ _ _ (DLes.refl _) (.cons _ _ _ _ _ (DLes.refl _) .nil)))))) (by kernel_rfl) (by simp only [go_sem, qa, qb, qc, qd, qe, qf, qg, qh, qi, qj, qk, ↓reduceIte, resQ_tmp, resQ_cell, resQ_nil, retD_one, retD_two, retD_three, retD_none]; try simp [R.val, retD_one, retD_two, retD_three, retD_none])
noncomputable def m33 (N : Nat) (x1225 : Int) (p1226 : PV) : Option (PV) :=
  getL p1226 fun n1228 c1229 =>
  bnd' (m74 N x1225 (.lst false n1228 c1229)) fun (p1682, p1684) =>
  getI .i64 p1682 fun x1686 =>
  brn (x1686 == 0) (
    getN p1684 (
      some (.tup [(.lst false 0 []), (.int .i64 12)])) fun n1690 c1691 =>
    grd (0 < n1690) <|
    some (.tup [(.lst false n1690 c1691), (.int .i64 x1686)])) (
    getN p1684 (
      some (.tup [(.lst false 0 []), (.int .i64 x1686)])) fun n1695 c1696 =>
    some (.tup [(.lst false n1695 c1696), (.int .i64 x1686)]))
theorem c33 (N : Nat) (x1225 : Int) (p1226 : PV) (r : PV)  (h : m33 N x1225 p1226 = some r) : FnP Tryd.prog 33 [(.int .i64 x1225), p1226] r := by
  unfold m33 at h
  refine Fn_of (sz := 20) tab_ok [0, 1, 4, 5, 6, 7, 17] [.tmp 4, .tmp 5] Tryd.func33 rfl rfl rfl (by simp) ?_
  simp only [initSt, initEnv, List.map_cons, List.map_nil, List.getD_cons_zero, List.getD_cons_succ, List.getD_nil]
  have hh := getL_some h; clear h; obtain ⟨n1228, c1229, h1227, h⟩ := hh
  have hh := bnd'_some h; clear h; obtain ⟨⟨p1682, p1684⟩, h1683, h⟩ := hh
  (try dsimp only at h)
  refine W_sound tab_ok mixed 14 _ _ _ ?_
  simp -implicitDefEqProofs only [go_sem, qa, qb, qc, qd, qe, qf, qg, qh, qi, qj, qk, ↓reduceIte, h1227]
  repeat with_reducible refine ⟨by first | kernel_rfl | decide, ?_⟩
  refine Wp_callD [6] (c74 N _ _ _ _ h1683) rfl rfl rfl (by first | rfl | (simp only [go_sem, qa, qb, qc, qd, qe, qf, qg, qh, qi, qj, qk, ↓reduceIte, h1227] <;> rfl)) rfl (by kernel_rfl) ?_
  have hh := getI_some h; clear h; obtain ⟨x1686, h1685, h⟩ := hh
  have hh := brn_some h; clear h; rcases hh with ⟨h1687, h⟩ | ⟨h1687, h⟩
  · have hh := getN_some h; clear h; rcases hh with ⟨h1689, h⟩ | ⟨n1690, c1691, h1689, h⟩
    · refine W_sound tab_ok mixed 25 _ _ _ ?_
      simp -implicitDefEqProofs only [go_sem, qa, qb, qc, qd, qe, qf, qg, qh, qi, qj, qk, ↓reduceIte, h1227, h1685, h1687, h1689]
      repeat with_reducible refine ⟨by first | kernel_rfl | decide, ?_⟩
      obtain rfl := Option.some.inj h
      exact finC [(4, .v .nl), (5, .v (.int .i64 12))] [(4, .v (.lst false 0 [])), (5, .v (.int .i64 12))] (by simp [leE, lk_cons]) (.cons _ _ _ _ _ (.v _ _ (.nl false)) (.cons _ _ _ _ _ (.v _ _ (.refl _)) .nil)) (by rfl) (by simp [leE, lk_cons]) (by decide) (by decide) rfl (by simp only [go_sem, qa, qb, qc, qd, qe, qf, qg, qh, qi, qj, qk, ↓reduceIte, resQ_tmp, resQ_cell, resQ_nil, retD_one, retD_two, retD_three, retD_none]; try simp [R.val, retD_one, retD_two, retD_three, retD_none])
    · have hh := grd_some h; clear h; obtain ⟨g1692, h⟩ := hh
      refine W_sound tab_ok mixed 23 _ _ _ ?_
      simp -implicitDefEqProofs only [go_sem, qa, qb, qc, qd, qe, qf, qg, qh, qi, qj, qk, ↓reduceIte, h1227, h1685, h1687, h1689, g1692]
      repeat with_reducible refine ⟨by first | kernel_rfl | decide, ?_⟩
      obtain rfl := Option.some.inj h
      exact finC [(4, .v (.lst false n1690 c1691)), (5, .v (.int .i64 x1686))] [(4, .v (.lst false n1690 c1691)), (5, .v (.int .i64 x1686))] (by simp [leE, lk_cons]) (.cons _ _ _ _ _ (.v _ _ (.refl _)) (.cons _ _ _ _ _ (.v _ _ (.refl _)) .nil)) (by rfl) (by simp [leE, lk_cons]) (by decide) (by decide) rfl (by simp only [go_sem, qa, qb, qc, qd, qe, qf, qg, qh, qi, qj, qk, ↓reduceIte, resQ_tmp, resQ_cell, resQ_nil, retD_one, retD_two, retD_three, retD_none]; try simp [R.val, retD_one, retD_two, retD_three, retD_none])
  · have hh := getN_some h; clear h; rcases hh with ⟨h1694, h⟩ | ⟨n1695, c1696, h1694, h⟩
    · refine W_sound tab_ok mixed 23 _ _ _ ?_
      simp -implicitDefEqProofs only [go_sem, qa, qb, qc, qd, qe, qf, qg, qh, qi, qj, qk, ↓reduceIte, h1227, h1685, h1687, h1694]
      repeat with_reducible refine ⟨by first | kernel_rfl | decide, ?_⟩
      obtain rfl := Option.some.inj h
      exact finC [(4, .v .nl), (5, .v (.int .i64 x1686))] [(4, .v (.lst false 0 [])), (5, .v (.int .i64 x1686))] (by simp [leE, lk_cons]) (.cons _ _ _ _ _ (.v _ _ (.nl false)) (.cons _ _ _ _ _ (.v _ _ (.refl _)) .nil)) (by rfl) (by simp [leE, lk_cons]) (by decide) (by decide) rfl (by simp only [go_sem, qa, qb, qc, qd, qe, qf, qg, qh, qi, qj, qk, ↓reduceIte, resQ_tmp, resQ_cell, resQ_nil, retD_one, retD_two, retD_three, retD_none]; try simp [R.val, retD_one, retD_two, retD_three, retD_none])
    · refine W_sound tab_ok mixed 23 _ _ _ ?_
      simp -implicitDefEqProofs only [go_sem, qa, qb, qc, qd, qe, qf, qg, qh, qi, qj, qk, ↓reduceIte, h1227, h1685, h1687, h1694]
      repeat with_reducible refine ⟨by first | kernel_rfl | decide, ?_⟩
      obtain rfl := Option.some.inj h
      exact finC [(4, .v (.lst false n1695 c1696)), (5, .v (.int .i64 x1686))] [(4, .v (.lst false n1695 c1696)), (5, .v (.int .i64 x1686))] (by simp [leE, lk_cons]) (.cons _ _ _ _ _ (.v _ _ (.refl _)) (.cons _ _ _ _ _ (.v _ _ (.refl _)) .nil)) (by rfl) (by simp [leE, lk_cons]) (by decide) (by decide) rfl (by simp only [go_sem, qa, qb, qc, qd, qe, qf, qg, qh, qi, qj, qk, ↓reduceIte, resQ_tmp, resQ_cell, resQ_nil, retD_one, retD_two, retD_three, retD_none]; try simp [R.val, retD_one, retD_two, retD_three, retD_none])
noncomputable def m78 (N : Nat) (p1727 : PV) (x1728 : Int) : Option ((PV × Int)) :=
  getL p1727 fun n1731 c1732 =>
  some ((.bool true), (IntKind.i64.wrap (x1728 + 1)))
theorem c78 (N : Nat) (p1727 : PV) (x1728 : Int) (r : PV) (x1733 : Int) (h : m78 N p1727 x1728 = some (r, x1733)) : V.Fn Tryd.prog 78 1 [.v p1727, .ptr 0 0] [(0, .p [(.int .i64 x1728)])] (fun d ob' => d = .v r ∧ ob' = [(0, .p [(.int .i64 x1733)])]) := by
  unfold m78 at h
  refine Fn_of (sz := 6) tab_ok [0, 1, 3] [.tmp 3] Tryd.func78 rfl rfl rfl (by simp) ?_
  simp only [initSt, initEnv, List.map_cons, List.map_nil, List.getD_cons_zero, List.getD_cons_succ, List.getD_nil]
  have hh := getL_some h; clear h; obtain ⟨n1731, c1732, h1730, h⟩ := hh
  refine W_sound tab_ok mixed 16 _ _ _ ?_
  simp -implicitDefEqProofs only [go_sem, qa, qb, qc, qd, qe, qf, qg, qh, qi, qj, qk, ↓reduceIte, h1730]
  repeat with_reducible refine ⟨by first | kernel_rfl | decide, ?_⟩
  simp only [Option.some.injEq, Prod.mk.injEq] at h; obtain ⟨rfl, rfl⟩ := h
  exact finD (e2 := [(0, .dead), (1, .dead), (3, .v (.bool true))]) (ob2 := [(0, .p [(.int .i64 (IntKind.i64.wrap (x1728 + 1)))])]) (st' := ⟨[], [(0, .dead), (1, .dead), (3, .v (.bool true))], [(0, .p [(.int .i64 (IntKind.i64.wrap (x1728 + 1)))])], 1, []⟩) (.k (.k (.r .nil))) (.cons _ _ _ _ _ (DLes.refl _) .nil) (by kernel_rfl) (by simp only [go_sem, qa, qb, qc, qd, qe, qf, qg, qh, qi, qj, qk, ↓reduceIte, resQ_tmp, resQ_cell, resQ_nil, retD_one, retD_two, retD_three, retD_none]; try simp [R.val, retD_one, retD_two, retD_three, retD_none])
noncomputable def m94_4 (N : Nat) (x1740 : Int) (x1741 : Int) (x1742 : Int) (x1743 : Int) : Option ((PV × Int)) :=
  brn (0 == x1742) (
    bnd' (m56 N (.lst false 0 [])) fun p1746 =>
    getL p1746 fun n1749 c1750 =>
    bnd' (m78 N (.lst false n1749 c1750) x1743) fun (p1751, x1753) =>
    getB p1751 fun b1755 =>
    some ((.bool b1755), x1753)) (
    none)
theorem c94_4 (N : Nat) (x1740 : Int) (x1741 : Int) (x1742 : Int) (x1743 : Int) (r : PV) (x1757 : Int) (h : m94_4 N x1740 x1741 x1742 x1743 = some (r, x1757)) : V.Fn Tryd.prog 94 5 [.v .nl, .v (.int .u64 x1740), .v (.int .u64 x1741), .ptr 0 0, .ptr 1 0, .ptr 3 0, .ptr 4 0] [(0, .p [(.int .i64 x1742)]), (1, .r [.fn 78 [.ptr 2 0]]), (2, .p [(.int .i64 x1743)]), (3, .r [.v (.fn 999999 [.bool true])]), (4, .r [.fn 94 [.ptr 0 0, .ptr 1 0, .ptr 3 0, .ptr 4 0]])] (fun d ob' => d = .v r ∧ ob' = [(0, .p [(.int .i64 x1742)]), (1, .r [.fn 78 [.ptr 2 0]]), (2, .p [(.int .i64 x1757)]), (3, .r [.v (.fn 999999 [.bool true])]), (4, .r [.fn 94 [.ptr 0 0, .ptr 1 0, .ptr 3 0, .ptr 4 0]])]) := by
  unfold m94_4 at h
  refine Fn_of (sz := 65) tab_ok [0, 1, 2, 3, 4, 5, 6, 10, 11, 12, 16, 28, 29, 30, 31, 63] [.tmp 10] Tryd.func94 rfl rfl rfl (by simp) ?_
  simp only [initSt, initEnv, List.map_cons, List.map_nil, List.getD_cons_zero, List.getD_cons_succ, List.getD_nil]
  have hh := brn_some h; clear h; rcases hh with ⟨h1745, h⟩ | ⟨h1745, h⟩
  · have hh := bnd'_some h; clear h; obtain ⟨p1746, h1747, h⟩ := hh
    refine W_sound tab_ok mixed 17 _ _ _ ?_
    simp -implicitDefEqProofs only [go_sem, qa, qb, qc, qd, qe, qf, qg, qh, qi, qj, qk, ↓reduceIte, h1745]
    repeat with_reducible refine ⟨by first | kernel_rfl | decide, ?_⟩
    refine Wp_callP (FnP_le (c56 N _ _ h1747) (.cons _ _ _ _ (.nl false) .nil) (.refl _)) (by kernel_rfl) rfl rfl rfl rfl (by decide) ?_
    have hh := getL_some h; clear h; obtain ⟨n1749, c1750, h1748, h⟩ := hh
    have hh := bnd'_some h; clear h; obtain ⟨⟨p1751, x1753⟩, h1752, h⟩ := hh
    (try dsimp only at h)
    (try simp -implicitDefEqProofs only [go_sem, qa, qb, qc, qd, qe, qf, qg, qh, qi, qj, qk, ↓reduceIte, h1745, h1748])
    refine Wp_callD [2] (c78 N _ _ _ _ h1752) rfl rfl rfl (by first | rfl | (simp only [go_sem, qa, qb, qc, qd, qe, qf, qg, qh, qi, qj, qk, ↓reduceIte, h1745, h1748] <;> rfl)) rfl (by kernel_rfl) ?_
    have hh := getB_some h; clear h; obtain ⟨b1755, h1754, h⟩ := hh
    refine W_sound tab_ok mixed 4 _ _ _ ?_
    simp -implicitDefEqProofs only [go_sem, qa, qb, qc, qd, qe, qf, qg, qh, qi, qj, qk, ↓reduceIte, h1745, h1748, h1754]
    repeat with_reducible refine ⟨by first | kernel_rfl | decide, ?_⟩
    simp only [Option.some.injEq, Prod.mk.injEq] at h; obtain ⟨rfl, rfl⟩ := h
    exact finD (e2 := [(0, .dead), (1, .dead), (2, .dead), (3, .dead), (4, .dead), (5, .dead), (6, .dead), (10, .v (.bool b1755)), (11, .dead), (12, .dead), (16, .dead), (28, .dead), (29, .dead), (30, .dead), (31, .dead), (63, .dead)]) (ob2 := [(0, .p [(.int .i64 x1742)]), (1, .r [.fn 78 [.ptr 2 0]]), (3, .r [.v (.fn 999999 [.bool true])]), (4, .r [.fn 94 [.ptr 0 0, .ptr 1 0, .ptr 3 0, .ptr 4 0]]), (2, .p [(.int .i64 x1753)])]) (st' := ⟨[], [(0, .dead), (1, .dead), (2, .dead), (3, .dead), (4, .dead), (5, .dead), (6, .dead), (10, .v (.bool b1755)), (11, .dead), (12, .dead), (16, .dead), (28, .dead), (29, .dead), (30, .dead), (31, .dead), (63, .dead)], [(0, .p [(.int .i64 x1742)]), (1, .r [.fn 78 [.ptr 2 0]]), (2, .p [(.int .i64 x1753)]), (3, .r [.v (.fn 999999 [.bool true])]), (4, .r [.fn 94 [.ptr 0 0, .ptr 1 0, .ptr 3 0, .ptr 4 0]])], 5, []⟩) (.k (.k (.k (.k (.k (.k (.k (.r (.r (.r (.k (.r (.r (.r (.r (.r .nil)))))))))))))))) (.cons _ _ _ _ _ (DLes.refl _) (.cons _ _ _ _ _ (DLes.refl _) (.cons _ _ _ _ _ (DLes.refl _) (.cons _ _ _ _ _ (DLes.refl _) (.cons _ _ _ _ _ (DLes.refl _) .nil))))) (by kernel_rfl) (by simp only [go_sem, qa, qb, qc, qd, qe, qf, qg, qh, qi, qj, qk, ↓reduceIte, resQ_tmp, resQ_cell, resQ_nil, retD_one, retD_two, retD_three, retD_none]; try simp [R.val, retD_one, retD_two, retD_three, retD_none])
  · cases h
noncomputable def m94_6_A_L0 (N : Nat) (rec : Nat → Int → Int → List PV → Int → Int → List PV → Option ((PV × Int))) (n1894 : Nat) (x1895 : Int) (x1896 : Int) (c1897 : List PV) (x1898 : Int) (c1900 : List PV) : Nat → Int → Int → Option (((PV × Int) ⊕ Int))
  | 0, _, _ => none
  | n + 1, x1936, x1937 =>
    brn (decide (x1936 < (((Int.toNat x1898) : Nat) : Int))) (
      grd (0 ≤ x1936 ∧ x1936 < (((Int.toNat x1898) : Nat) : Int)) <|
      grd (((1 + (n1894 * 5)) + (Int.toNat x1936)) < List.length c1900) <|
      getI .i64 (gp c1900 ((1 + (n1894 * 5)) + (Int.toNat x1936))) fun x1943 =>
      brn ((bitsI .and .u64 (Int.fdiv x1895 (2 ^ (min (Int.toNat x1936) 64))) 1) == 0) (
        grd (0 ≤ x1943) <|
        brn ((bitsI .and .u64 (Int.fdiv x1896 (2 ^ (min (Int.toNat x1943) 64))) 1) == 0) (
          grd ((n1894 + 1) ≤ 1099511627776) <|
          grd (List.length c1897 = n1894) <|
          bnd' (rec (n1894 + 1) (bitsI .or .u64 x1895 (IntKind.u64.wrap (1 * 2 ^ (min (Int.toNat x1936) 64)))) (bitsI .or .u64 x1896 (IntKind.u64.wrap (1 * 2 ^ (min (Int.toNat x1943) 64)))) (c1897 ++ [(.int .i64 x1936)]) x1898 x1937 c1900) fun (p1949, x1951) =>
          getB p1949 fun b1953 =>
          brn b1953 (
            m94_6_A_L0 N rec n1894 x1895 x1896 c1897 x1898 c1900 n (IntKind.i64.wrap (x1936 + 1)) x1951) (
            some (.inl ((.bool false), x1951)))) (
          m94_6_A_L0 N rec n1894 x1895 x1896 c1897 x1898 c1900 n (IntKind.i64.wrap (x1936 + 1)) x1937)) (
        m94_6_A_L0 N rec n1894 x1895 x1896 c1897 x1898 c1900 n (IntKind.i64.wrap (x1936 + 1)) x1937)) (
      some (.inr x1937))
noncomputable def m94_6_A (N : Nat) (rec : Nat → Int → Int → List PV → Int → Int → List PV → Option ((PV × Int))) (n1894 : Nat) (x1895 : Int) (x1896 : Int) (c1897 : List PV) (x1898 : Int) (x1899 : Int) (c1900 : List PV) : Option ((PV × Int)) :=
  brn (((n1894 : Nat) : Int) == x1898) (
    bnd' (m56_2 N n1894 c1897) fun p1903 =>
    getL p1903 fun n1906 c1907 =>
    bnd' (m78 N (.lst false n1906 c1907) x1899) fun (p1908, x1910) =>
    getB p1908 fun b1912 =>
    some ((.bool b1912), x1910)) (
    grd (0 ≤ ((n1894 : Nat) : Int) ∧ ((n1894 : Nat) : Int) < 5) <|
    grd (0 ≤ x1898 ∧ x1898 ≤ 5 ∧ ((1 + (n1894 * 5)) + 5) ≤ List.length c1900) <|
    bnd' (m94_6_A_L0 N rec n1894 x1895 x1896 c1897 x1898 c1900 N 0 x1899) fun o =>
    match o with
    | .inl p1955 =>
      some p1955
    | .inr x1956 =>
      some ((.bool true), x1956))
noncomputable def m94_6_B_L0 (N : Nat) (rec : Nat → Int → Int → List PV → Int → Int → List PV → Option ((PV × Int))) (n1958 : Nat) (x1959 : Int) (x1960 : Int) (c1961 : List PV) (x1962 : Int) (c1964 : List PV) : Nat → Int → Int → Option (((PV × Int) ⊕ Int))
  | 0, _, _ => none
  | n + 1, x1999, x2000 =>
    brn (decide (x1999 < (((Int.toNat x1962) : Nat) : Int))) (
      grd (0 ≤ x1999 ∧ x1999 < (((Int.toNat x1962) : Nat) : Int)) <|
      grd (((1 + (n1958 * 5)) + (Int.toNat x1999)) < List.length c1964) <|
      getI .i64 (gp c1964 ((1 + (n1958 * 5)) + (Int.toNat x1999))) fun x2006 =>
      brn ((bitsI .and .u64 (Int.fdiv x1959 (2 ^ (min (Int.toNat x1999) 64))) 1) == 0) (
        grd (0 ≤ x2006) <|
        brn ((bitsI .and .u64 (Int.fdiv x1960 (2 ^ (min (Int.toNat x2006) 64))) 1) == 0) (
          bnd' (rec (n1958 + 1) (bitsI .or .u64 x1959 (IntKind.u64.wrap (1 * 2 ^ (min (Int.toNat x1999) 64)))) (bitsI .or .u64 x1960 (IntKind.u64.wrap (1 * 2 ^ (min (Int.toNat x2006) 64)))) (c1961 ++ [(.int .i64 x1999)]) x1962 x2000 c1964) fun (p2010, x2012) =>
          getB p2010 fun b2014 =>
          brn b2014 (
            m94_6_B_L0 N rec n1958 x1959 x1960 c1961 x1962 c1964 n (IntKind.i64.wrap (x1999 + 1)) x2012) (
            some (.inl ((.bool false), x2012)))) (
          m94_6_B_L0 N rec n1958 x1959 x1960 c1961 x1962 c1964 n (IntKind.i64.wrap (x1999 + 1)) x2000)) (
        m94_6_B_L0 N rec n1958 x1959 x1960 c1961 x1962 c1964 n (IntKind.i64.wrap (x1999 + 1)) x2000)) (
      some (.inr x2000))
noncomputable def m94_6_B (N : Nat) (rec : Nat → Int → Int → List PV → Int → Int → List PV → Option ((PV × Int))) (n1958 : Nat) (x1959 : Int) (x1960 : Int) (c1961 : List PV) (x1962 : Int) (x1963 : Int) (c1964 : List PV) : Option ((PV × Int)) :=
  grd (List.length c1961 = n1958) <|
  brn (((n1958 : Nat) : Int) == x1962) (
    bnd' (m56_3 N n1958 c1961) fun p1968 =>
    getL p1968 fun n1971 c1972 =>
    bnd' (m78 N (.lst false n1971 c1972) x1963) fun (p1973, x1975) =>
    getB p1973 fun b1977 =>
    some ((.bool b1977), x1975)) (
    grd (0 ≤ ((n1958 : Nat) : Int) ∧ ((n1958 : Nat) : Int) < 5) <|
    grd (0 ≤ x1962 ∧ x1962 ≤ 5 ∧ ((1 + (n1958 * 5)) + 5) ≤ List.length c1964) <|
    bnd' (m94_6_B_L0 N rec n1958 x1959 x1960 c1961 x1962 c1964 N 0 x1963) fun o =>
    match o with
    | .inl p2016 =>
      some p2016
    | .inr x2017 =>
      some ((.bool true), x2017))
noncomputable def m94_6 (N : Nat) : Nat → Nat → Int → Int → List PV → Int → Int → List PV → Option ((PV × Int))
  | 0, _, _, _, _, _, _, _ => none
  | fu + 1, n1886, x1887, x1888, c1889, x1890, x1891, c1892 => both (m94_6_A N (m94_6 N fu) n1886 x1887 x1888 c1889 x1890 x1891 c1892) (m94_6_B N (m94_6 N fu) n1886 x1887 x1888 c1889 x1890 x1891 c1892)
theorem c94_6_A (N : Nat) (rec : Nat → Int → Int → List PV → Int → Int → List PV → Option ((PV × Int))) (ih : ∀ (n1886 : Nat) (x1887 : Int) (x1888 : Int) (c1889 : List PV) (x1890 : Int) (x1891 : Int) (c1892 : List PV) (r : PV) (x1893 : Int) (h : rec n1886 x1887 x1888 c1889 x1890 x1891 c1892 = some (r, x1893)), V.Fn Tryd.prog 94 7 [.sl false 0 0 n1886 1, .v (.int .u64 x1887), .v (.int .u64 x1888), .ptr 1 0, .ptr 2 0, .ptr 4 0, .ptr 6 0] [(0, .p c1889), (1, .p [(.int .i64 x1890)]), (2, .r [.fn 78 [.ptr 3 0]]), (3, .p [(.int .i64 x1891)]), (4, .r [.ptr 5 0]), (5, .p c1892), (6, .r [.fn 94 [.ptr 1 0, .ptr 2 0, .ptr 4 0, .ptr 6 0]])] (fun d ob' => d = .v r ∧ ob' = [(0, .p c1889), (1, .p [(.int .i64 x1890)]), (2, .r [.fn 78 [.ptr 3 0]]), (3, .p [(.int .i64 x1893)]), (4, .r [.ptr 5 0]), (5, .p c1892), (6, .r [.fn 94 [.ptr 1 0, .ptr 2 0, .ptr 4 0, .ptr 6 0]])])) (n1894 : Nat) (x1895 : Int) (x1896 : Int) (c1897 : List PV) (x1898 : Int) (x1899 : Int) (c1900 : List PV) (r : PV) (x1901 : Int) (h : m94_6_A N rec n1894 x1895 x1896 c1897 x1898 x1899 c1900 = some (r, x1901)) : V.Fn Tryd.prog 94 7 [.sl true 0 0 n1894 1, .v (.int .u64 x1895), .v (.int .u64 x1896), .ptr 1 0, .ptr 2 0, .ptr 4 0, .ptr 6 0] [(0, .p c1897), (1, .p [(.int .i64 x1898)]), (2, .r [.fn 78 [.ptr 3 0]]), (3, .p [(.int .i64 x1899)]), (4, .r [.ptr 5 0]), (5, .p c1900), (6, .r [.fn 94 [.ptr 1 0, .ptr 2 0, .ptr 4 0, .ptr 6 0]])] (fun d ob' => d = .v r ∧ ob' = [(0, .p c1897), (1, .p [(.int .i64 x1898)]), (2, .r [.fn 78 [.ptr 3 0]]), (3, .p [(.int .i64 x1901)]), (4, .r [.ptr 5 0]), (5, .p c1900), (6, .r [.fn 94 [.ptr 1 0, .ptr 2 0, .ptr 4 0, .ptr 6 0]])]) := by
  unfold m94_6_A at h
  refine Fn_of (sz := 65) tab_ok [0, 1, 2, 3, 4, 5, 6, 10, 11, 12, 16, 28, 29, 30, 31, 63] [.tmp 10] Tryd.func94 rfl rfl rfl (by simp) ?_
  simp only [initSt, initEnv, List.map_cons, List.map_nil, List.getD_cons_zero, List.getD_cons_succ, List.getD_nil]
  have hh := brn_some h; clear h; rcases hh with ⟨h1902, h⟩ | ⟨h1902, h⟩
  · have hh := bnd'_some h; clear h; obtain ⟨p1903, h1904, h⟩ := hh
    (try dsimp only at h)
    refine W_sound tab_ok mixed 17 _ _ _ ?_
    simp -implicitDefEqProofs only [go_sem, qa, qb, qc, qd, qe, qf, qg, qh, qi, qj, qk, ↓reduceIte, h1902]
    repeat with_reducible refine ⟨by first | kernel_rfl | decide, ?_⟩
    refine Wp_callD [0] (c56_2 N _ _ _ h1904) rfl rfl rfl (by first | rfl | (simp only [go_sem, qa, qb, qc, qd, qe, qf, qg, qh, qi, qj, qk, ↓reduceIte, h1902] <;> rfl)) rfl (by kernel_rfl) ?_
    have hh := getL_some h; clear h; obtain ⟨n1906, c1907, h1905, h⟩ := hh
    have hh := bnd'_some h; clear h; obtain ⟨⟨p1908, x1910⟩, h1909, h⟩ := hh
    (try dsimp only at h)
    (try simp -implicitDefEqProofs only [go_sem, qa, qb, qc, qd, qe, qf, qg, qh, qi, qj, qk, ↓reduceIte, h1902, h1905])
    refine Wp_callD [3] (c78 N _ _ _ _ h1909) rfl rfl rfl (by first | rfl | (simp only [go_sem, qa, qb, qc, qd, qe, qf, qg, qh, qi, qj, qk, ↓reduceIte, h1902, h1905] <;> rfl)) rfl (by kernel_rfl) ?_
    have hh := getB_some h; clear h; obtain ⟨b1912, h1911, h⟩ := hh
    refine W_sound tab_ok mixed 4 _ _ _ ?_
    simp -implicitDefEqProofs only [go_sem, qa, qb, qc, qd, qe, qf, qg, qh, qi, qj, qk, ↓reduceIte, h1902, h1905, h1911]
    repeat with_reducible refine ⟨by first | kernel_rfl | decide, ?_⟩
    simp only [Option.some.injEq, Prod.mk.injEq] at h; obtain ⟨rfl, rfl⟩ := h
    exact finD (e2 := [(0, .dead), (1, .dead), (2, .dead), (3, .dead), (4, .dead), (5, .dead), (6, .dead), (10, .v (.bool b1912)), (11, .dead), (12, .dead), (16, .dead), (28, .dead), (29, .dead), (30, .dead), (31, .dead), (63, .dead)]) (ob2 := [(1, .p [(.int .i64 x1898)]), (2, .r [.fn 78 [.ptr 3 0]]), (4, .r [.ptr 5 0]), (5, .p c1900), (6, .r [.fn 94 [.ptr 1 0, .ptr 2 0, .ptr 4 0, .ptr 6 0]]), (0, .p c1897), (3, .p [(.int .i64 x1910)])]) (st' := ⟨[], [(0, .dead), (1, .dead), (2, .dead), (3, .dead), (4, .dead), (5, .dead), (6, .dead), (10, .v (.bool b1912)), (11, .dead), (12, .dead), (16, .dead), (28, .dead), (29, .dead), (30, .dead), (31, .dead), (63, .dead)], [(0, .p c1897), (1, .p [(.int .i64 x1898)]), (2, .r [.fn 78 [.ptr 3 0]]), (3, .p [(.int .i64 x1910)]), (4, .r [.ptr 5 0]), (5, .p c1900), (6, .r [.fn 94 [.ptr 1 0, .ptr 2 0, .ptr 4 0, .ptr 6 0]])], 7, []⟩) (.k (.k (.k (.k (.k (.k (.k (.r (.r (.r (.k (.r (.r (.r (.r (.r .nil)))))))))))))))) (.cons _ _ _ _ _ (DLes.refl _) (.cons _ _ _ _ _ (DLes.refl _) (.cons _ _ _ _ _ (DLes.refl _) (.cons _ _ _ _ _ (DLes.refl _) (.cons _ _ _ _ _ (DLes.refl _) (.cons _ _ _ _ _ (DLes.refl _) (.cons _ _ _ _ _ (DLes.refl _) .nil))))))) (by kernel_rfl) (by simp only [go_sem, qa, qb, qc, qd, qe, qf, qg, qh, qi, qj, qk, ↓reduceIte, resQ_tmp, resQ_cell, resQ_nil, retD_one, retD_two, retD_three, retD_none]; try simp [R.val, retD_one, retD_two, retD_three, retD_none])
  · have hh := grd_some h; clear h; obtain ⟨⟨g1913, g1914⟩, h⟩ := hh
    have hh := grd_some h; clear h; obtain ⟨⟨g1915, g1916, g1917⟩, h⟩ := hh
    refine W_sound tab_ok mixed 28 _ _ _ ?_
    simp -implicitDefEqProofs only [go_sem, qa, qb, qc, qd, qe, qf, qg, qh, qi, qj, qk, ↓reduceIte, h1902, g1913, g1914, g1915, g1916, g1917]
    repeat with_reducible refine ⟨by first | kernel_rfl | decide, ?_⟩
    refine Wp_wkK Wk_norm rfl ?_
    simp -implicitDefEqProofs only [go_sem, qa, qb, qc, qd, qe, qf, qg, qh, qi, qj, qk, ↓reduceIte, normE, h1902, g1913, g1914, g1915, g1916, g1917]
    (try simp -implicitDefEqProofs only [go_sem, qa, qb, qc, qd, qe, qf, qg, qh, qi, qj, qk, ↓reduceIte, h1902, g1913, g1914, g1915, g1916, g1917])
    have hh := bnd'_some h; clear h; obtain ⟨o2019, h2020, h2021⟩ := hh
    refine Wp_cut (fun s => ∃ x1956, (.inr x1956) = o2019 ∧ s = ⟨[], [(0, .dead), (1, .dead), (2, .dead), (3, .dead), (4, .dead), (5, .dead), (6, .dead), (10, .dead), (11, .dead), (12, .dead), (16, .dead), (28, .dead), (29, .dead), (30, .dead), (31, .dead), (63, .dead)], [(0, .p c1897), (1, .p [(.int .i64 x1898)]), (2, .r [.fn 78 [.ptr 3 0]]), (3, .p [(.int .i64 x1956)]), (4, .r [.ptr 5 0]), (5, .p c1900), (6, .r [.fn 94 [.ptr 1 0, .ptr 2 0, .ptr 4 0, .ptr 6 0]])], 7, []⟩) ?_ ?_
    · refine Wp_block ?_
      refine Wp_loopG (fun n s => ∃ x1936, ∃ x1937, m94_6_A_L0 N rec n1894 x1895 x1896 c1897 x1898 c1900 n x1936 x1937 = some o2019 ∧ s = ⟨[], [(0, .sl true 0 0 n1894 1), (1, .v (.int .u64 x1895)), (2, .v (.int .u64 x1896)), (3, .dead), (4, .dead), (5, .dead), (6, .ptr 6 0), (10, .dead), (11, .dead), (12, .dead), (16, .dead), (28, .sl false 5 (1 + (n1894 * 5)) (Int.toNat x1898) 1), (29, .v (.int .i64 (((Int.toNat x1898) : Nat) : Int))), (30, .v (.int .i64 x1936)), (31, .dead), (63, .dead)], [(0, .p c1897), (1, .p [(.int .i64 x1898)]), (2, .r [.fn 78 [.ptr 3 0]]), (3, .p [(.int .i64 x1937)]), (4, .r [.ptr 5 0]), (5, .p c1900), (6, .r [.fn 94 [.ptr 1 0, .ptr 2 0, .ptr 4 0, .ptr 6 0]])], 7, []⟩) N _ ((Wk_le (.r (.r (.r (.k (.k (.k (.r (.k (.r (.r (.k (.r (.r (.r (.r (.r .nil)))))))))))))))) (OLe.refl _)).trans (cmpS_ok (st' := ⟨[], [(0, .sl true 0 0 n1894 1), (1, .v (.int .u64 x1895)), (2, .v (.int .u64 x1896)), (3, .dead), (4, .dead), (5, .dead), (6, .ptr 6 0), (10, .dead), (11, .dead), (12, .dead), (16, .dead), (28, .sl false 5 (1 + (n1894 * 5)) (Int.toNat x1898) 1), (29, .v (.int .i64 (((Int.toNat x1898) : Nat) : Int))), (30, .v (.int .i64 0)), (31, .dead), (63, .dead)], [(0, .p c1897), (1, .p [(.int .i64 x1898)]), (2, .r [.fn 78 [.ptr 3 0]]), (3, .p [(.int .i64 x1899)]), (4, .r [.ptr 5 0]), (5, .p c1900), (6, .r [.fn 94 [.ptr 1 0, .ptr 2 0, .ptr 4 0, .ptr 6 0]])], 7, []⟩) (by kernel_rfl))) ⟨_, _, h2020, rfl⟩ ?_
      clear h2020
      rintro n _ ⟨x1936, x1937, h2020, rfl⟩
      cases n with
      | zero => cases h2020
      | succ n =>
        rw [m94_6_A_L0] at h2020
        have hh := brn_some h2020; clear h2020; rcases hh with ⟨h1938, h2020⟩ | ⟨h1938, h2020⟩
        · have hh := grd_some h2020; clear h2020; obtain ⟨⟨g1939, g1940⟩, h2020⟩ := hh
          have hh := grd_some h2020; clear h2020; obtain ⟨g1941, h2020⟩ := hh
          have hh := getI_some h2020; clear h2020; obtain ⟨x1943, h1942, h2020⟩ := hh
          have hh := brn_some h2020; clear h2020; rcases hh with ⟨h1944, h2020⟩ | ⟨h1944, h2020⟩
          · have hh := grd_some h2020; clear h2020; obtain ⟨g1945, h2020⟩ := hh
            have hh := brn_some h2020; clear h2020; rcases hh with ⟨h1946, h2020⟩ | ⟨h1946, h2020⟩
            · have hh := grd_some h2020; clear h2020; obtain ⟨g1947, h2020⟩ := hh
              have hh := grd_some h2020; clear h2020; obtain ⟨g1948, h2020⟩ := hh
              have hh := bnd'_some h2020; clear h2020; obtain ⟨⟨p1949, x1951⟩, h1950, h2020⟩ := hh
              (try dsimp only at h2020)
              refine W_sound tab_ok mixed 45 _ _ _ ?_
              simp -implicitDefEqProofs only [go_sem, qa, qb, qc, qd, qe, qf, qg, qh, qi, qj, qk, ↓reduceIte, h1902, g1913, g1914, g1915, g1916, g1917, h1938, g1939, g1940, g1941, h1942, h1944, g1945, h1946, g1947, g1948]
              repeat with_reducible refine ⟨by first | kernel_rfl | decide, ?_⟩
              refine Wp_callD [59, 1, 2, 3, 4, 5, 6] (ih _ _ _ _ _ _ _ _ _ h1950) rfl rfl rfl (by first | rfl | (simp only [go_sem, qa, qb, qc, qd, qe, qf, qg, qh, qi, qj, qk, ↓reduceIte, h1902, g1913, g1914, g1915, g1916, g1917, h1938, g1939, g1940, g1941, h1942, h1944, g1945, h1946, g1947, g1948] <;> rfl)) rfl (by kernel_rfl) ?_
              have hh := getB_some h2020; clear h2020; obtain ⟨b1953, h1952, h2020⟩ := hh
              have hh := brn_some h2020; clear h2020; rcases hh with ⟨h1954, h2020⟩ | ⟨h1954, h2020⟩
              · refine W_sound tab_ok mixed 10 _ _ _ ?_
                simp -implicitDefEqProofs only [go_sem, qa, qb, qc, qd, qe, qf, qg, qh, qi, qj, qk, ↓reduceIte, h1902, g1913, g1914, g1915, g1916, g1917, h1938, g1939, g1940, g1941, h1942, h1944, g1945, h1946, g1947, g1948, h1952, h1954]
                repeat with_reducible refine ⟨by first | kernel_rfl | decide, ?_⟩
                exact cutQ _ ((Wk_le (.r (.r (.r (.r (.r (.r (.r (.r (.k (.k (.r (.r (.r (.r (.k (.k .nil)))))))))))))))) (OLe.refl _)).trans (cmpS_ok (st' := ⟨[], [(0, .sl true 0 0 n1894 1), (1, .v (.int .u64 x1895)), (2, .v (.int .u64 x1896)), (3, .dead), (4, .dead), (5, .dead), (6, .ptr 6 0), (10, .dead), (11, .dead), (12, .dead), (16, .dead), (28, .sl false 5 (1 + (n1894 * 5)) (Int.toNat x1898) 1), (29, .v (.int .i64 (((Int.toNat x1898) : Nat) : Int))), (30, .v (.int .i64 (IntKind.i64.wrap (x1936 + 1)))), (31, .dead), (63, .dead)], [(0, .p c1897), (1, .p [(.int .i64 x1898)]), (2, .r [.fn 78 [.ptr 3 0]]), (3, .p [(.int .i64 x1951)]), (4, .r [.ptr 5 0]), (5, .p c1900), (6, .r [.fn 94 [.ptr 1 0, .ptr 2 0, .ptr 4 0, .ptr 6 0]])], 7, []⟩) (by kernel_rfl))) ⟨n, Nat.lt_succ_self n, _, _, h2020, rfl⟩
              · refine W_sound tab_ok mixed 10 _ _ _ ?_
                simp -implicitDefEqProofs only [go_sem, qa, qb, qc, qd, qe, qf, qg, qh, qi, qj, qk, ↓reduceIte, h1902, g1913, g1914, g1915, g1916, g1917, h1938, g1939, g1940, g1941, h1942, h1944, g1945, h1946, g1947, g1948, h1952, h1954]
                repeat with_reducible refine ⟨by first | kernel_rfl | decide, ?_⟩
                obtain rfl := Option.some.inj h2020
                (try dsimp only at h2021)
                simp only [Option.some.injEq, Prod.mk.injEq] at h2021; obtain ⟨rfl, rfl⟩ := h2021
                exact finD (e2 := [(0, .dead), (1, .dead), (2, .dead), (3, .dead), (4, .dead), (5, .dead), (6, .dead), (10, .v (.bool false)), (11, .dead), (12, .dead), (16, .dead), (28, .dead), (29, .dead), (30, .dead), (31, .dead), (63, .dead)]) (ob2 := [(0, .p c1897), (58, .p [(.int .i64 x1936)]), (6, .r [.fn 94 [.ptr 1 0, .ptr 2 0, .ptr 4 0, .ptr 6 0]]), (5, .p c1900), (4, .r [.ptr 5 0]), (3, .p [(.int .i64 x1951)]), (2, .r [.fn 78 [.ptr 3 0]]), (1, .p [(.int .i64 x1898)]), (59, .p (c1897 ++ [(.int .i64 x1936)]))]) (st' := ⟨[], [(0, .dead), (1, .dead), (2, .dead), (3, .dead), (4, .dead), (5, .dead), (6, .dead), (10, .v (.bool false)), (11, .dead), (12, .dead), (16, .dead), (28, .dead), (29, .dead), (30, .dead), (31, .dead), (63, .dead)], [(0, .p c1897), (1, .p [(.int .i64 x1898)]), (2, .r [.fn 78 [.ptr 3 0]]), (3, .p [(.int .i64 x1951)]), (4, .r [.ptr 5 0]), (5, .p c1900), (6, .r [.fn 94 [.ptr 1 0, .ptr 2 0, .ptr 4 0, .ptr 6 0]])], 7, []⟩) (.k (.k (.k (.r (.r (.r (.k (.r (.k (.k (.r (.k (.k (.k (.k (.k .nil)))))))))))))))) (.cons _ _ _ _ _ (DLes.refl _) (.cons _ _ _ _ _ (DLes.refl _) (.cons _ _ _ _ _ (DLes.refl _) (.cons _ _ _ _ _ (DLes.refl _) (.cons _ _ _ _ _ (DLes.refl _) (.cons _ _ _ _ _ (DLes.refl _) (.cons _ _ _ _ _ (DLes.refl _) (.cons _ _ _ _ _ (DLes.refl _) (.cons _ _ _ _ _ (DLes.refl _) .nil))))))))) (by kernel_rfl) (by simp only [go_sem, qa, qb, qc, qd, qe, qf, qg, qh, qi, qj, qk, ↓reduceIte, resQ_tmp, resQ_cell, resQ_nil, retD_one, retD_two, retD_three, retD_none]; try simp [R.val, retD_one, retD_two, retD_three, retD_none])
            · refine W_sound tab_ok mixed 56 _ _ _ ?_
              simp -implicitDefEqProofs only [go_sem, qa, qb, qc, qd, qe, qf, qg, qh, qi, qj, qk, ↓reduceIte, h1902, g1913, g1914, g1915, g1916, g1917, h1938, g1939, g1940, g1941, h1942, h1944, g1945, h1946]
              repeat with_reducible refine ⟨by first | kernel_rfl | decide, ?_⟩
              exact cutQ _ ((Wk_le (.r (.r (.r (.r (.r (.r (.r (.r (.k (.k (.r (.r (.r (.r (.k (.k .nil)))))))))))))))) (OLe.refl _)).trans (cmpS_ok (st' := ⟨[], [(0, .sl true 0 0 n1894 1), (1, .v (.int .u64 x1895)), (2, .v (.int .u64 x1896)), (3, .dead), (4, .dead), (5, .dead), (6, .ptr 6 0), (10, .dead), (11, .dead), (12, .dead), (16, .dead), (28, .sl false 5 (1 + (n1894 * 5)) (Int.toNat x1898) 1), (29, .v (.int .i64 (((Int.toNat x1898) : Nat) : Int))), (30, .v (.int .i64 (IntKind.i64.wrap (x1936 + 1)))), (31, .dead), (63, .dead)], [(0, .p c1897), (1, .p [(.int .i64 x1898)]), (2, .r [.fn 78 [.ptr 3 0]]), (3, .p [(.int .i64 x1937)]), (4, .r [.ptr 5 0]), (5, .p c1900), (6, .r [.fn 94 [.ptr 1 0, .ptr 2 0, .ptr 4 0, .ptr 6 0]])], 7, []⟩) (by kernel_rfl))) ⟨n, Nat.lt_succ_self n, _, _, h2020, rfl⟩
          · refine W_sound tab_ok mixed 56 _ _ _ ?_
            simp -implicitDefEqProofs only [go_sem, qa, qb, qc, qd, qe, qf, qg, qh, qi, qj, qk, ↓reduceIte, h1902, g1913, g1914, g1915, g1916, g1917, h1938, g1939, g1940, g1941, h1942, h1944]
            repeat with_reducible refine ⟨by first | kernel_rfl | decide, ?_⟩
            exact cutQ _ ((Wk_le (.r (.r (.r (.r (.r (.r (.r (.r (.k (.k (.r (.r (.r (.r (.k (.k .nil)))))))))))))))) (OLe.refl _)).trans (cmpS_ok (st' := ⟨[], [(0, .sl true 0 0 n1894 1), (1, .v (.int .u64 x1895)), (2, .v (.int .u64 x1896)), (3, .dead), (4, .dead), (5, .dead), (6, .ptr 6 0), (10, .dead), (11, .dead), (12, .dead), (16, .dead), (28, .sl false 5 (1 + (n1894 * 5)) (Int.toNat x1898) 1), (29, .v (.int .i64 (((Int.toNat x1898) : Nat) : Int))), (30, .v (.int .i64 (IntKind.i64.wrap (x1936 + 1)))), (31, .dead), (63, .dead)], [(0, .p c1897), (1, .p [(.int .i64 x1898)]), (2, .r [.fn 78 [.ptr 3 0]]), (3, .p [(.int .i64 x1937)]), (4, .r [.ptr 5 0]), (5, .p c1900), (6, .r [.fn 94 [.ptr 1 0, .ptr 2 0, .ptr 4 0, .ptr 6 0]])], 7, []⟩) (by kernel_rfl))) ⟨n, Nat.lt_succ_self n, _, _, h2020, rfl⟩
        · refine W_sound tab_ok mixed 7 _ _ _ ?_
          simp -implicitDefEqProofs only [go_sem, qa, qb, qc, qd, qe, qf, qg, qh, qi, qj, qk, ↓reduceIte, h1902, g1913, g1914, g1915, g1916, g1917, h1938]
          repeat with_reducible refine ⟨by first | kernel_rfl | decide, ?_⟩
          obtain rfl := Option.some.inj h2020
          exact cutQ _ ((Wk_le (.k (.k (.k (.r (.r (.r (.k (.r (.r (.r (.r (.k (.k (.k (.k (.r .nil)))))))))))))))) (OLe.refl _)).trans (cmpS_ok (st' := ⟨[], [(0, .dead), (1, .dead), (2, .dead), (3, .dead), (4, .dead), (5, .dead), (6, .dead), (10, .dead), (11, .dead), (12, .dead), (16, .dead), (28, .dead), (29, .dead), (30, .dead), (31, .dead), (63, .dead)], [(0, .p c1897), (1, .p [(.int .i64 x1898)]), (2, .r [.fn 78 [.ptr 3 0]]), (3, .p [(.int .i64 x1937)]), (4, .r [.ptr 5 0]), (5, .p c1900), (6, .r [.fn 94 [.ptr 1 0, .ptr 2 0, .ptr 4 0, .ptr 6 0]])], 7, []⟩) (by kernel_rfl))) ⟨_, rfl, rfl⟩
    · rintro _ ⟨x1956, rfl, rfl⟩
      (try dsimp only at h2021)
      refine W_sound tab_ok mixed 6 _ _ _ ?_
      simp -implicitDefEqProofs only [go_sem, qa, qb, qc, qd, qe, qf, qg, qh, qi, qj, qk, ↓reduceIte, h1902, g1913, g1914, g1915, g1916, g1917]
      repeat with_reducible refine ⟨by first | kernel_rfl | decide, ?_⟩
      simp only [Option.some.injEq, Prod.mk.injEq] at h2021; obtain ⟨rfl, rfl⟩ := h2021
      exact finD (e2 := [(0, .dead), (1, .dead), (2, .dead), (3, .dead), (4, .dead), (5, .dead), (6, .dead), (10, .v (.bool true)), (11, .dead), (12, .dead), (16, .dead), (28, .dead), (29, .dead), (30, .dead), (31, .dead), (63, .dead)]) (ob2 := [(0, .p c1897), (1, .p [(.int .i64 x1898)]), (2, .r [.fn 78 [.ptr 3 0]]), (3, .p [(.int .i64 x1956)]), (4, .r [.ptr 5 0]), (5, .p c1900), (6, .r [.fn 94 [.ptr 1 0, .ptr 2 0, .ptr 4 0, .ptr 6 0]])]) (st' := ⟨[], [(0, .dead), (1, .dead), (2, .dead), (3, .dead), (4, .dead), (5, .dead), (6, .dead), (10, .v (.bool true)), (11, .dead), (12, .dead), (16, .dead), (28, .dead), (29, .dead), (30, .dead), (31, .dead), (63, .dead)], [(0, .p c1897), (1, .p [(.int .i64 x1898)]), (2, .r [.fn 78 [.ptr 3 0]]), (3, .p [(.int .i64 x1956)]), (4, .r [.ptr 5 0]), (5, .p c1900), (6, .r [.fn 94 [.ptr 1 0, .ptr 2 0, .ptr 4 0, .ptr 6 0]])], 7, []⟩) (.r (.r (.r (.r (.r (.r (.r (.r (.r (.r (.r (.r (.r (.r (.r (.r .nil)))))))))))))))) (.cons _ _ _ _ _ (DLes.refl _) (.cons _ _ _ _ _ (DLes.refl _) (.cons _ _ _ _ _ (DLes.refl _) (.cons _ _ _ _ _ (DLes.refl _) (.cons _ _ _ _ _ (DLes.refl _) (.cons _ _ _ _ _ (DLes.refl _) (.cons _ _ _ _ _ (DLes.refl _) .nil))))))) (by kernel_rfl) (by simp only [go_sem, qa, qb, qc, qd, qe, qf, qg, qh, qi, qj, qk, ↓reduceIte, resQ_tmp, resQ_cell, resQ_nil, retD_one, retD_two, retD_three, retD_none]; try simp [R.val, retD_one, retD_two, retD_three, retD_none])
theorem c94_6_B (N : Nat) (rec : Nat → Int → Int → List PV → Int → Int → List PV → Option ((PV × Int))) (ih : ∀ (n1886 : Nat) (x1887 : Int) (x1888 : Int) (c1889 : List PV) (x1890 : Int) (x1891 : Int) (c1892 : List PV) (r : PV) (x1893 : Int) (h : rec n1886 x1887 x1888 c1889 x1890 x1891 c1892 = some (r, x1893)), V.Fn Tryd.prog 94 7 [.sl false 0 0 n1886 1, .v (.int .u64 x1887), .v (.int .u64 x1888), .ptr 1 0, .ptr 2 0, .ptr 4 0, .ptr 6 0] [(0, .p c1889), (1, .p [(.int .i64 x1890)]), (2, .r [.fn 78 [.ptr 3 0]]), (3, .p [(.int .i64 x1891)]), (4, .r [.ptr 5 0]), (5, .p c1892), (6, .r [.fn 94 [.ptr 1 0, .ptr 2 0, .ptr 4 0, .ptr 6 0]])] (fun d ob' => d = .v r ∧ ob' = [(0, .p c1889), (1, .p [(.int .i64 x1890)]), (2, .r [.fn 78 [.ptr 3 0]]), (3, .p [(.int .i64 x1893)]), (4, .r [.ptr 5 0]), (5, .p c1892), (6, .r [.fn 94 [.ptr 1 0, .ptr 2 0, .ptr 4 0, .ptr 6 0]])])) (n1958 : Nat) (x1959 : Int) (x1960 : Int) (c1961 : List PV) (x1962 : Int) (x1963 : Int) (c1964 : List PV) (r : PV) (x1965 : Int) (h : m94_6_B N rec n1958 x1959 x1960 c1961 x1962 x1963 c1964 = some (r, x1965)) : V.Fn Tryd.prog 94 7 [.slr 0 0 n1958 (n1958 + 1) 1, .v (.int .u64 x1959), .v (.int .u64 x1960), .ptr 1 0, .ptr 2 0, .ptr 4 0, .ptr 6 0] [(0, .p c1961), (1, .p [(.int .i64 x1962)]), (2, .r [.fn 78 [.ptr 3 0]]), (3, .p [(.int .i64 x1963)]), (4, .r [.ptr 5 0]), (5, .p c1964), (6, .r [.fn 94 [.ptr 1 0, .ptr 2 0, .ptr 4 0, .ptr 6 0]])] (fun d ob' => d = .v r ∧ ob' = [(0, .p c1961), (1, .p [(.int .i64 x1962)]), (2, .r [.fn 78 [.ptr 3 0]]), (3, .p [(.int .i64 x1965)]), (4, .r [.ptr 5 0]), (5, .p c1964), (6, .r [.fn 94 [.ptr 1 0, .ptr 2 0, .ptr 4 0, .ptr 6 0]])]) := by
  unfold m94_6_B at h
  refine Fn_of (sz := 65) tab_ok [0, 1, 2, 3, 4, 5, 6, 10, 11, 12, 16, 28, 29, 30, 31, 63] [.tmp 10] Tryd.func94 rfl rfl rfl (by simp) ?_
  simp only [initSt, initEnv, List.map_cons, List.map_nil, List.getD_cons_zero, List.getD_cons_succ, List.getD_nil]
  have hh := grd_some h; clear h; obtain ⟨g1966, h⟩ := hh
  have hh := brn_some h; clear h; rcases hh with ⟨h1967, h⟩ | ⟨h1967, h⟩
  · have hh := bnd'_some h; clear h; obtain ⟨p1968, h1969, h⟩ := hh
    (try dsimp only at h)
    refine W_sound tab_ok mixed 17 _ _ _ ?_
    simp -implicitDefEqProofs only [go_sem, qa, qb, qc, qd, qe, qf, qg, qh, qi, qj, qk, ↓reduceIte, g1966, h1967]
    repeat with_reducible refine ⟨by first | kernel_rfl | decide, ?_⟩
    refine Wp_callD [0] (Fn_slr (room := (n1958 + 1)) (c56_3 N _ _ _ h1969)) rfl rfl rfl (by first | rfl | (simp only [go_sem, qa, qb, qc, qd, qe, qf, qg, qh, qi, qj, qk, ↓reduceIte, g1966, h1967] <;> rfl)) rfl (by kernel_rfl) ?_
    have hh := getL_some h; clear h; obtain ⟨n1971, c1972, h1970, h⟩ := hh
    have hh := bnd'_some h; clear h; obtain ⟨⟨p1973, x1975⟩, h1974, h⟩ := hh
    (try dsimp only at h)
    (try simp -implicitDefEqProofs only [go_sem, qa, qb, qc, qd, qe, qf, qg, qh, qi, qj, qk, ↓reduceIte, g1966, h1967, h1970])
    refine Wp_callD [3] (c78 N _ _ _ _ h1974) rfl rfl rfl (by first | rfl | (simp only [go_sem, qa, qb, qc, qd, qe, qf, qg, qh, qi, qj, qk, ↓reduceIte, g1966, h1967, h1970] <;> rfl)) rfl (by kernel_rfl) ?_
    have hh := getB_some h; clear h; obtain ⟨b1977, h1976, h⟩ := hh
    refine W_sound tab_ok mixed 4 _ _ _ ?_
    simp -implicitDefEqProofs only [go_sem, qa, qb, qc, qd, qe, qf, qg, qh, qi, qj, qk, ↓reduceIte, g1966, h1967, h1970, h1976]
    repeat with_reducible refine ⟨by first | kernel_rfl | decide, ?_⟩
    simp only [Option.some.injEq, Prod.mk.injEq] at h; obtain ⟨rfl, rfl⟩ := h
    exact finD (e2 := [(0, .dead), (1, .dead), (2, .dead), (3, .dead), (4, .dead), (5, .dead), (6, .dead), (10, .v (.bool b1977)), (11, .dead), (12, .dead), (16, .dead), (28, .dead), (29, .dead), (30, .dead), (31, .dead), (63, .dead)]) (ob2 := [(1, .p [(.int .i64 x1962)]), (2, .r [.fn 78 [.ptr 3 0]]), (4, .r [.ptr 5 0]), (5, .p c1964), (6, .r [.fn 94 [.ptr 1 0, .ptr 2 0, .ptr 4 0, .ptr 6 0]]), (0, .p c1961), (3, .p [(.int .i64 x1975)])]) (st' := ⟨[], [(0, .dead), (1, .dead), (2, .dead), (3, .dead), (4, .dead), (5, .dead), (6, .dead), (10, .v (.bool b1977)), (11, .dead), (12, .dead), (16, .dead), (28, .dead), (29, .dead), (30, .dead), (31, .dead), (63, .dead)], [(0, .p c1961), (1, .p [(.int .i64 x1962)]), (2, .r [.fn 78 [.ptr 3 0]]), (3, .p [(.int .i64 x1975)]), (4, .r [.ptr 5 0]), (5, .p c1964), (6, .r [.fn 94 [.ptr 1 0, .ptr 2 0, .ptr 4 0, .ptr 6 0]])], 7, []⟩) (.k (.k (.k (.k (.k (.k (.k (.r (.r (.r (.k (.r (.r (.r (.r (.r .nil)))))))))))))))) (.cons _ _ _ _ _ (DLes.refl _) (.cons _ _ _ _ _ (DLes.refl _) (.cons _ _ _ _ _ (DLes.refl _) (.cons _ _ _ _ _ (DLes.refl _) (.cons _ _ _ _ _ (DLes.refl _) (.cons _ _ _ _ _ (DLes.refl _) (.cons _ _ _ _ _ (DLes.refl _) .nil))))))) (by kernel_rfl) (by simp only [go_sem, qa, qb, qc, qd, qe, qf, qg, qh, qi, qj, qk, ↓reduceIte, resQ_tmp, resQ_cell, resQ_nil, retD_one, retD_two, retD_three, retD_none]; try simp [R.val, retD_one, retD_two, retD_three, retD_none])
  · have hh := grd_some h; clear h; obtain ⟨⟨g1978, g1979⟩, h⟩ := hh
    have hh := grd_some h; clear h; obtain ⟨⟨g1980, g1981, g1982⟩, h⟩ := hh
    refine W_sound tab_ok mixed 28 _ _ _ ?_
    simp -implicitDefEqProofs only [go_sem, qa, qb, qc, qd, qe, qf, qg, qh, qi, qj, qk, ↓reduceIte, g1966, h1967, g1978, g1979, g1980, g1981, g1982]
    repeat with_reducible refine ⟨by first | kernel_rfl | decide, ?_⟩
    refine Wp_wkK (Wk_normX 0) rfl ?_
    simp -implicitDefEqProofs only [go_sem, qa, qb, qc, qd, qe, qf, qg, qh, qi, qj, qk, ↓reduceIte, normX, g1966, h1967, g1978, g1979, g1980, g1981, g1982]
    (try simp -implicitDefEqProofs only [go_sem, qa, qb, qc, qd, qe, qf, qg, qh, qi, qj, qk, ↓reduceIte, g1966, h1967, g1978, g1979, g1980, g1981, g1982])
    have hh := bnd'_some h; clear h; obtain ⟨o2022, h2023, h2024⟩ := hh
    refine Wp_cut (fun s => ∃ x2017, (.inr x2017) = o2022 ∧ s = ⟨[], [(0, .dead), (1, .dead), (2, .dead), (3, .dead), (4, .dead), (5, .dead), (6, .dead), (10, .dead), (11, .dead), (12, .dead), (16, .dead), (28, .dead), (29, .dead), (30, .dead), (31, .dead), (63, .dead)], [(0, .p c1961), (1, .p [(.int .i64 x1962)]), (2, .r [.fn 78 [.ptr 3 0]]), (3, .p [(.int .i64 x2017)]), (4, .r [.ptr 5 0]), (5, .p c1964), (6, .r [.fn 94 [.ptr 1 0, .ptr 2 0, .ptr 4 0, .ptr 6 0]])], 7, []⟩) ?_ ?_
    · refine Wp_block ?_
      refine Wp_loopG (fun n s => ∃ x1999, ∃ x2000, m94_6_B_L0 N rec n1958 x1959 x1960 c1961 x1962 c1964 n x1999 x2000 = some o2022 ∧ s = ⟨[], [(0, .slr 0 0 n1958 (n1958 + 1) 1), (1, .v (.int .u64 x1959)), (2, .v (.int .u64 x1960)), (3, .dead), (4, .dead), (5, .dead), (6, .ptr 6 0), (10, .dead), (11, .dead), (12, .dead), (16, .dead), (28, .sl false 5 (1 + (n1958 * 5)) (Int.toNat x1962) 1), (29, .v (.int .i64 (((Int.toNat x1962) : Nat) : Int))), (30, .v (.int .i64 x1999)), (31, .dead), (63, .dead)], [(0, .p c1961), (1, .p [(.int .i64 x1962)]), (2, .r [.fn 78 [.ptr 3 0]]), (3, .p [(.int .i64 x2000)]), (4, .r [.ptr 5 0]), (5, .p c1964), (6, .r [.fn 94 [.ptr 1 0, .ptr 2 0, .ptr 4 0, .ptr 6 0]])], 7, []⟩) N _ ((Wk_le (.r (.r (.r (.k (.k (.k (.r (.k (.r (.r (.k (.r (.r (.r (.r (.r .nil)))))))))))))))) (OLe.refl _)).trans (cmpS_ok (st' := ⟨[], [(0, .slr 0 0 n1958 (n1958 + 1) 1), (1, .v (.int .u64 x1959)), (2, .v (.int .u64 x1960)), (3, .dead), (4, .dead), (5, .dead), (6, .ptr 6 0), (10, .dead), (11, .dead), (12, .dead), (16, .dead), (28, .sl false 5 (1 + (n1958 * 5)) (Int.toNat x1962) 1), (29, .v (.int .i64 (((Int.toNat x1962) : Nat) : Int))), (30, .v (.int .i64 0)), (31, .dead), (63, .dead)], [(0, .p c1961), (1, .p [(.int .i64 x1962)]), (2, .r [.fn 78 [.ptr 3 0]]), (3, .p [(.int .i64 x1963)]), (4, .r [.ptr 5 0]), (5, .p c1964), (6, .r [.fn 94 [.ptr 1 0, .ptr 2 0, .ptr 4 0, .ptr 6 0]])], 7, []⟩) (by kernel_rfl))) ⟨_, _, h2023, rfl⟩ ?_
      clear h2023
      rintro n _ ⟨x1999, x2000, h2023, rfl⟩
      cases n with
      | zero => cases h2023
      | succ n =>
        rw [m94_6_B_L0] at h2023
        have hh := brn_some h2023; clear h2023; rcases hh with ⟨h2001, h2023⟩ | ⟨h2001, h2023⟩
        · have hh := grd_some h2023; clear h2023; obtain ⟨⟨g2002, g2003⟩, h2023⟩ := hh
          have hh := grd_some h2023; clear h2023; obtain ⟨g2004, h2023⟩ := hh
          have hh := getI_some h2023; clear h2023; obtain ⟨x2006, h2005, h2023⟩ := hh
          have hh := brn_some h2023; clear h2023; rcases hh with ⟨h2007, h2023⟩ | ⟨h2007, h2023⟩
          · have hh := grd_some h2023; clear h2023; obtain ⟨g2008, h2023⟩ := hh
            have hh := brn_some h2023; clear h2023; rcases hh with ⟨h2009, h2023⟩ | ⟨h2009, h2023⟩
            · have hh := bnd'_some h2023; clear h2023; obtain ⟨⟨p2010, x2012⟩, h2011, h2023⟩ := hh
              (try dsimp only at h2023)
              refine W_sound tab_ok mixed 45 _ _ _ ?_
              simp -implicitDefEqProofs only [go_sem, qa, qb, qc, qd, qe, qf, qg, qh, qi, qj, qk, ↓reduceIte, g1966, h1967, g1978, g1979, g1980, g1981, g1982, h2001, g2002, g2003, g2004, h2005, h2007, g2008, h2009, (extO_app g1966), (set_app g1966), (cutB_app g1966)]
              repeat with_reducible refine ⟨by first | kernel_rfl | decide, ?_⟩
              refine Wp_callD [0, 1, 2, 3, 4, 5, 6] (Fn_slr (room := (n1958 + 1)) (ih _ _ _ _ _ _ _ _ _ h2011)) rfl rfl rfl (by first | rfl | (simp only [go_sem, qa, qb, qc, qd, qe, qf, qg, qh, qi, qj, qk, ↓reduceIte, g1966, h1967, g1978, g1979, g1980, g1981, g1982, h2001, g2002, g2003, g2004, h2005, h2007, g2008, h2009, (extO_app g1966), (set_app g1966), (cutB_app g1966)] <;> rfl)) rfl (by kernel_rfl) ?_
              have hh := getB_some h2023; clear h2023; obtain ⟨b2014, h2013, h2023⟩ := hh
              have hh := brn_some h2023; clear h2023; rcases hh with ⟨h2015, h2023⟩ | ⟨h2015, h2023⟩
              · refine W_sound tab_ok mixed 3 _ _ _ ?_
                simp -implicitDefEqProofs only [go_sem, qa, qb, qc, qd, qe, qf, qg, qh, qi, qj, qk, ↓reduceIte, g1966, h1967, g1978, g1979, g1980, g1981, g1982, h2001, g2002, g2003, g2004, h2005, h2007, g2008, h2009, (extO_app g1966), (set_app g1966), (cutB_app g1966), h2013, h2015]
                repeat with_reducible refine ⟨by first | kernel_rfl | decide, ?_⟩
                refine Wp_wkK (Wk_trim 0 n1958) rfl ?_
                simp -implicitDefEqProofs only [go_sem, qa, qb, qc, qd, qe, qf, qg, qh, qi, qj, qk, ↓reduceIte, trimO, g1966, h1967, g1978, g1979, g1980, g1981, g1982, h2001, g2002, g2003, g2004, h2005, h2007, g2008, h2009, (extO_app g1966), (set_app g1966), (cutB_app g1966), h2013, h2015, trimO]
                refine W_sound tab_ok mixed 7 _ _ _ ?_
                simp -implicitDefEqProofs only [go_sem, qa, qb, qc, qd, qe, qf, qg, qh, qi, qj, qk, ↓reduceIte, g1966, h1967, g1978, g1979, g1980, g1981, g1982, h2001, g2002, g2003, g2004, h2005, h2007, g2008, h2009, (extO_app g1966), (set_app g1966), (cutB_app g1966), h2013, h2015, trimO]
                repeat with_reducible refine ⟨by first | kernel_rfl | decide, ?_⟩
                exact cutQ _ ((Wk_le (.r (.r (.r (.r (.r (.r (.r (.r (.k (.k (.r (.r (.r (.r (.k (.k .nil)))))))))))))))) (OLe.refl _)).trans (cmpS_ok (st' := ⟨[], [(0, .slr 0 0 n1958 (n1958 + 1) 1), (1, .v (.int .u64 x1959)), (2, .v (.int .u64 x1960)), (3, .dead), (4, .dead), (5, .dead), (6, .ptr 6 0), (10, .dead), (11, .dead), (12, .dead), (16, .dead), (28, .sl false 5 (1 + (n1958 * 5)) (Int.toNat x1962) 1), (29, .v (.int .i64 (((Int.toNat x1962) : Nat) : Int))), (30, .v (.int .i64 (IntKind.i64.wrap (x1999 + 1)))), (31, .dead), (63, .dead)], [(0, .p c1961), (1, .p [(.int .i64 x1962)]), (2, .r [.fn 78 [.ptr 3 0]]), (3, .p [(.int .i64 x2012)]), (4, .r [.ptr 5 0]), (5, .p c1964), (6, .r [.fn 94 [.ptr 1 0, .ptr 2 0, .ptr 4 0, .ptr 6 0]])], 7, []⟩) (by kernel_rfl))) ⟨n, Nat.lt_succ_self n, _, _, h2023, rfl⟩
              · refine W_sound tab_ok mixed 3 _ _ _ ?_
                simp -implicitDefEqProofs only [go_sem, qa, qb, qc, qd, qe, qf, qg, qh, qi, qj, qk, ↓reduceIte, g1966, h1967, g1978, g1979, g1980, g1981, g1982, h2001, g2002, g2003, g2004, h2005, h2007, g2008, h2009, (extO_app g1966), (set_app g1966), (cutB_app g1966), h2013, h2015]
                repeat with_reducible refine ⟨by first | kernel_rfl | decide, ?_⟩
                refine Wp_wkK (Wk_trim 0 n1958) rfl ?_
                simp -implicitDefEqProofs only [go_sem, qa, qb, qc, qd, qe, qf, qg, qh, qi, qj, qk, ↓reduceIte, trimO, g1966, h1967, g1978, g1979, g1980, g1981, g1982, h2001, g2002, g2003, g2004, h2005, h2007, g2008, h2009, (extO_app g1966), (set_app g1966), (cutB_app g1966), h2013, h2015, trimO]
                refine W_sound tab_ok mixed 7 _ _ _ ?_
                simp -implicitDefEqProofs only [go_sem, qa, qb, qc, qd, qe, qf, qg, qh, qi, qj, qk, ↓reduceIte, g1966, h1967, g1978, g1979, g1980, g1981, g1982, h2001, g2002, g2003, g2004, h2005, h2007, g2008, h2009, (extO_app g1966), (set_app g1966), (cutB_app g1966), h2013, h2015, trimO]
                repeat with_reducible refine ⟨by first | kernel_rfl | decide, ?_⟩
                obtain rfl := Option.some.inj h2023
                (try dsimp only at h2024)
                simp only [Option.some.injEq, Prod.mk.injEq] at h2024; obtain ⟨rfl, rfl⟩ := h2024
                exact finD (e2 := [(0, .dead), (1, .dead), (2, .dead), (3, .dead), (4, .dead), (5, .dead), (6, .dead), (10, .v (.bool false)), (11, .dead), (12, .dead), (16, .dead), (28, .dead), (29, .dead), (30, .dead), (31, .dead), (63, .dead)]) (ob2 := [(58, .p [(.int .i64 x1999)]), (6, .r [.fn 94 [.ptr 1 0, .ptr 2 0, .ptr 4 0, .ptr 6 0]]), (5, .p c1964), (4, .r [.ptr 5 0]), (3, .p [(.int .i64 x2012)]), (2, .r [.fn 78 [.ptr 3 0]]), (1, .p [(.int .i64 x1962)]), (0, .p c1961)]) (st' := ⟨[], [(0, .dead), (1, .dead), (2, .dead), (3, .dead), (4, .dead), (5, .dead), (6, .dead), (10, .v (.bool false)), (11, .dead), (12, .dead), (16, .dead), (28, .dead), (29, .dead), (30, .dead), (31, .dead), (63, .dead)], [(0, .p c1961), (1, .p [(.int .i64 x1962)]), (2, .r [.fn 78 [.ptr 3 0]]), (3, .p [(.int .i64 x2012)]), (4, .r [.ptr 5 0]), (5, .p c1964), (6, .r [.fn 94 [.ptr 1 0, .ptr 2 0, .ptr 4 0, .ptr 6 0]])], 7, []⟩) (.k (.k (.k (.r (.r (.r (.k (.r (.k (.k (.r (.k (.k (.k (.k (.k .nil)))))))))))))))) (.cons _ _ _ _ _ (DLes.refl _) (.cons _ _ _ _ _ (DLes.refl _) (.cons _ _ _ _ _ (DLes.refl _) (.cons _ _ _ _ _ (DLes.refl _) (.cons _ _ _ _ _ (DLes.refl _) (.cons _ _ _ _ _ (DLes.refl _) (.cons _ _ _ _ _ (DLes.refl _) (.cons _ _ _ _ _ (DLes.refl _) .nil)))))))) (by kernel_rfl) (by simp only [go_sem, qa, qb, qc, qd, qe, qf, qg, qh, qi, qj, qk, ↓reduceIte, resQ_tmp, resQ_cell, resQ_nil, retD_one, retD_two, retD_three, retD_none]; try simp [R.val, retD_one, retD_two, retD_three, retD_none])
            · refine W_sound tab_ok mixed 56 _ _ _ ?_
              simp -implicitDefEqProofs only [go_sem, qa, qb, qc, qd, qe, qf, qg, qh, qi, qj, qk, ↓reduceIte, g1966, h1967, g1978, g1979, g1980, g1981, g1982, h2001, g2002, g2003, g2004, h2005, h2007, g2008, h2009]
              repeat with_reducible refine ⟨by first | kernel_rfl | decide, ?_⟩
              exact cutQ _ ((Wk_le (.r (.r (.r (.r (.r (.r (.r (.r (.k (.k (.r (.r (.r (.r (.k (.k .nil)))))))))))))))) (OLe.refl _)).trans (cmpS_ok (st' := ⟨[], [(0, .slr 0 0 n1958 (n1958 + 1) 1), (1, .v (.int .u64 x1959)), (2, .v (.int .u64 x1960)), (3, .dead), (4, .dead), (5, .dead), (6, .ptr 6 0), (10, .dead), (11, .dead), (12, .dead), (16, .dead), (28, .sl false 5 (1 + (n1958 * 5)) (Int.toNat x1962) 1), (29, .v (.int .i64 (((Int.toNat x1962) : Nat) : Int))), (30, .v (.int .i64 (IntKind.i64.wrap (x1999 + 1)))), (31, .dead), (63, .dead)], [(0, .p c1961), (1, .p [(.int .i64 x1962)]), (2, .r [.fn 78 [.ptr 3 0]]), (3, .p [(.int .i64 x2000)]), (4, .r [.ptr 5 0]), (5, .p c1964), (6, .r [.fn 94 [.ptr 1 0, .ptr 2 0, .ptr 4 0, .ptr 6 0]])], 7, []⟩) (by kernel_rfl))) ⟨n, Nat.lt_succ_self n, _, _, h2023, rfl⟩
          · refine W_sound tab_ok mixed 56 _ _ _ ?_
            simp -implicitDefEqProofs only [go_sem, qa, qb, qc, qd, qe, qf, qg, qh, qi, qj, qk, ↓reduceIte, g1966, h1967, g1978, g1979, g1980, g1981, g1982, h2001, g2002, g2003, g2004, h2005, h2007]
            repeat with_reducible refine ⟨by first | kernel_rfl | decide, ?_⟩
            exact cutQ _ ((Wk_le (.r (.r (.r (.r (.r (.r (.r (.r (.k (.k (.r (.r (.r (.r (.k (.k .nil)))))))))))))))) (OLe.refl _)).trans (cmpS_ok (st' := ⟨[], [(0, .slr 0 0 n1958 (n1958 + 1) 1), (1, .v (.int .u64 x1959)), (2, .v (.int .u64 x1960)), (3, .dead), (4, .dead), (5, .dead), (6, .ptr 6 0), (10, .dead), (11, .dead), (12, .dead), (16, .dead), (28, .sl false 5 (1 + (n1958 * 5)) (Int.toNat x1962) 1), (29, .v (.int .i64 (((Int.toNat x1962) : Nat) : Int))), (30, .v (.int .i64 (IntKind.i64.wrap (x1999 + 1)))), (31, .dead), (63, .dead)], [(0, .p c1961), (1, .p [(.int .i64 x1962)]), (2, .r [.fn 78 [.ptr 3 0]]), (3, .p [(.int .i64 x2000)]), (4, .r [.ptr 5 0]), (5, .p c1964), (6, .r [.fn 94 [.ptr 1 0, .ptr 2 0, .ptr 4 0, .ptr 6 0]])], 7, []⟩) (by kernel_rfl))) ⟨n, Nat.lt_succ_self n, _, _, h2023, rfl⟩
        · refine W_sound tab_ok mixed 7 _ _ _ ?_
          simp -implicitDefEqProofs only [go_sem, qa, qb, qc, qd, qe, qf, qg, qh, qi, qj, qk, ↓reduceIte, g1966, h1967, g1978, g1979, g1980, g1981, g1982, h2001]
          repeat with_reducible refine ⟨by first | kernel_rfl | decide, ?_⟩
          obtain rfl := Option.some.inj h2023
          exact cutQ _ ((Wk_le (.k (.k (.k (.r (.r (.r (.k (.r (.r (.r (.r (.k (.k (.k (.k (.r .nil)))))))))))))))) (OLe.refl _)).trans (cmpS_ok (st' := ⟨[], [(0, .dead), (1, .dead), (2, .dead), (3, .dead), (4, .dead), (5, .dead), (6, .dead), (10, .dead), (11, .dead), (12, .dead), (16, .dead), (28, .dead), (29, .dead), (30, .dead), (31, .dead), (63, .dead)], [(0, .p c1961), (1, .p [(.int .i64 x1962)]), (2, .r [.fn 78 [.ptr 3 0]]), (3, .p [(.int .i64 x2000)]), (4, .r [.ptr 5 0]), (5, .p c1964), (6, .r [.fn 94 [.ptr 1 0, .ptr 2 0, .ptr 4 0, .ptr 6 0]])], 7, []⟩) (by kernel_rfl))) ⟨_, rfl, rfl⟩
    · rintro _ ⟨x2017, rfl, rfl⟩
      (try dsimp only at h2024)
      refine W_sound tab_ok mixed 6 _ _ _ ?_
      simp -implicitDefEqProofs only [go_sem, qa, qb, qc, qd, qe, qf, qg, qh, qi, qj, qk, ↓reduceIte, g1966, h1967, g1978, g1979, g1980, g1981, g1982]
      repeat with_reducible refine ⟨by first | kernel_rfl | decide, ?_⟩
      simp only [Option.some.injEq, Prod.mk.injEq] at h2024; obtain ⟨rfl, rfl⟩ := h2024
      exact finD (e2 := [(0, .dead), (1, .dead), (2, .dead), (3, .dead), (4, .dead), (5, .dead), (6, .dead), (10, .v (.bool true)), (11, .dead), (12, .dead), (16, .dead), (28, .dead), (29, .dead), (30, .dead), (31, .dead), (63, .dead)]) (ob2 := [(0, .p c1961), (1, .p [(.int .i64 x1962)]), (2, .r [.fn 78 [.ptr 3 0]]), (3, .p [(.int .i64 x2017)]), (4, .r [.ptr 5 0]), (5, .p c1964), (6, .r [.fn 94 [.ptr 1 0, .ptr 2 0, .ptr 4 0, .ptr 6 0]])]) (st' := ⟨[], [(0, .dead), (1, .dead), (2, .dead), (3, .dead), (4, .dead), (5, .dead), (6, .dead), (10, .v (.bool true)), (11, .dead), (12, .dead), (16, .dead), (28, .dead), (29, .dead), (30, .dead), (31, .dead), (63, .dead)], [(0, .p c1961), (1, .p [(.int .i64 x1962)]), (2, .r [.fn 78 [.ptr 3 0]]), (3, .p [(.int .i64 x2017)]), (4, .r [.ptr 5 0]), (5, .p c1964), (6, .r [.fn 94 [.ptr 1 0, .ptr 2 0, .ptr 4 0, .ptr 6 0]])], 7, []⟩) (.r (.r (.r (.r (.r (.r (.r (.r (.r (.r (.r (.r (.r (.r (.r (.r .nil)))))))))))))))) (.cons _ _ _ _ _ (DLes.refl _) (.cons _ _ _ _ _ (DLes.refl _) (.cons _ _ _ _ _ (DLes.refl _) (.cons _ _ _ _ _ (DLes.refl _) (.cons _ _ _ _ _ (DLes.refl _) (.cons _ _ _ _ _ (DLes.refl _) (.cons _ _ _ _ _ (DLes.refl _) .nil))))))) (by kernel_rfl) (by simp only [go_sem, qa, qb, qc, qd, qe, qf, qg, qh, qi, qj, qk, ↓reduceIte, resQ_tmp, resQ_cell, resQ_nil, retD_one, retD_two, retD_three, retD_none]; try simp [R.val, retD_one, retD_two, retD_three, retD_none])
theorem c94_6 (N : Nat) : ∀ (fu : Nat) (n1886 : Nat) (x1887 : Int) (x1888 : Int) (c1889 : List PV) (x1890 : Int) (x1891 : Int) (c1892 : List PV) (r : PV) (x1893 : Int) (h : m94_6 N fu n1886 x1887 x1888 c1889 x1890 x1891 c1892 = some (r, x1893)), V.Fn Tryd.prog 94 7 [.sl false 0 0 n1886 1, .v (.int .u64 x1887), .v (.int .u64 x1888), .ptr 1 0, .ptr 2 0, .ptr 4 0, .ptr 6 0] [(0, .p c1889), (1, .p [(.int .i64 x1890)]), (2, .r [.fn 78 [.ptr 3 0]]), (3, .p [(.int .i64 x1891)]), (4, .r [.ptr 5 0]), (5, .p c1892), (6, .r [.fn 94 [.ptr 1 0, .ptr 2 0, .ptr 4 0, .ptr 6 0]])] (fun d ob' => d = .v r ∧ ob' = [(0, .p c1889), (1, .p [(.int .i64 x1890)]), (2, .r [.fn 78 [.ptr 3 0]]), (3, .p [(.int .i64 x1893)]), (4, .r [.ptr 5 0]), (5, .p c1892), (6, .r [.fn 94 [.ptr 1 0, .ptr 2 0, .ptr 4 0, .ptr 6 0]])]) := by
  intro fu
  induction fu with
  | zero => intro n1886 x1887 x1888 c1889 x1890 x1891 c1892 r x1893 h; cases h
  | succ fu ih =>
    intro n1886 x1887 x1888 c1889 x1890 x1891 c1892 r x1893 h
    rw [m94_6] at h
    obtain ⟨h1, h2⟩ := both_some h
    exact Fn_split rfl (c94_6_A N _ ih n1886 x1887 x1888 c1889 x1890 x1891 c1892 r x1893 h1) (c94_6_B N _ ih n1886 x1887 x1888 c1889 x1890 x1891 c1892 r x1893 h2)
noncomputable def m94_5_L0 (N : Nat) (x2051 : Int) (x2052 : Int) (x2053 : Int) (c2055 : List PV) : Nat → Int → Int → Option (((PV × Int) ⊕ Int))
  | 0, _, _ => none
  | n + 1, x2087, x2088 =>
    brn (decide (x2087 < (((Int.toNat x2053) : Nat) : Int))) (
      grd (0 ≤ x2087 ∧ x2087 < (((Int.toNat x2053) : Nat) : Int)) <|
      grd ((1 + (Int.toNat x2087)) < List.length c2055) <|
      getI .i64 (gp c2055 (1 + (Int.toNat x2087))) fun x2094 =>
      brn ((bitsI .and .u64 (Int.fdiv x2051 (2 ^ (min (Int.toNat x2087) 64))) 1) == 0) (
        grd (0 ≤ x2094) <|
        brn ((bitsI .and .u64 (Int.fdiv x2052 (2 ^ (min (Int.toNat x2094) 64))) 1) == 0) (
          bnd' (m94_6 N N 1 (bitsI .or .u64 x2051 (IntKind.u64.wrap (1 * 2 ^ (min (Int.toNat x2087) 64)))) (bitsI .or .u64 x2052 (IntKind.u64.wrap (1 * 2 ^ (min (Int.toNat x2094) 64)))) [(.int .i64 x2087)] x2053 x2088 c2055) fun (p2098, x2100) =>
          getB p2098 fun b2102 =>
          brn b2102 (
            m94_5_L0 N x2051 x2052 x2053 c2055 n (IntKind.i64.wrap (x2087 + 1)) x2100) (
            some (.inl ((.bool false), x2100)))) (
          m94_5_L0 N x2051 x2052 x2053 c2055 n (IntKind.i64.wrap (x2087 + 1)) x2088)) (
        m94_5_L0 N x2051 x2052 x2053 c2055 n (IntKind.i64.wrap (x2087 + 1)) x2088)) (
      some (.inr x2088))
noncomputable def m94_5 (N : Nat) (x2051 : Int) (x2052 : Int) (x2053 : Int) (x2054 : Int) (c2055 : List PV) : Option ((PV × Int)) :=
  brn (0 == x2053) (
    bnd' (m56 N (.lst false 0 [])) fun p2058 =>
    getL p2058 fun n2061 c2062 =>
    bnd' (m78 N (.lst false n2061 c2062) x2054) fun (p2063, x2065) =>
    getB p2063 fun b2067 =>
    some ((.bool b2067), x2065)) (
    grd (0 ≤ x2053 ∧ x2053 ≤ 5 ∧ 6 ≤ List.length c2055) <|
    bnd' (m94_5_L0 N x2051 x2052 x2053 c2055 N 0 x2054) fun o =>
    match o with
    | .inl p2104 =>
      some p2104
    | .inr x2105 =>
      some ((.bool true), x2105))
theorem c94_5 (N : Nat) (x2051 : Int) (x2052 : Int) (x2053 : Int) (x2054 : Int) (c2055 : List PV) (r : PV) (x2107 : Int) (h : m94_5 N x2051 x2052 x2053 x2054 c2055 = some (r, x2107)) : V.Fn Tryd.prog 94 6 [.v .nl, .v (.int .u64 x2051), .v (.int .u64 x2052), .ptr 0 0, .ptr 1 0, .ptr 3 0, .ptr 5 0] [(0, .p [(.int .i64 x2053)]), (1, .r [.fn 78 [.ptr 2 0]]), (2, .p [(.int .i64 x2054)]), (3, .r [.ptr 4 0]), (4, .p c2055), (5, .r [.fn 94 [.ptr 0 0, .ptr 1 0, .ptr 3 0, .ptr 5 0]])] (fun d ob' => d = .v r ∧ ob' = [(0, .p [(.int .i64 x2053)]), (1, .r [.fn 78 [.ptr 2 0]]), (2, .p [(.int .i64 x2107)]), (3, .r [.ptr 4 0]), (4, .p c2055), (5, .r [.fn 94 [.ptr 0 0, .ptr 1 0, .ptr 3 0, .ptr 5 0]])]) := by
  unfold m94_5 at h
  refine Fn_of (sz := 65) tab_ok [0, 1, 2, 3, 4, 5, 6, 10, 11, 12, 16, 28, 29, 30, 31, 63] [.tmp 10] Tryd.func94 rfl rfl rfl (by simp) ?_
  simp only [initSt, initEnv, List.map_cons, List.map_nil, List.getD_cons_zero, List.getD_cons_succ, List.getD_nil]
  have hh := brn_some h; clear h; rcases hh with ⟨h2057, h⟩ | ⟨h2057, h⟩
  · have hh := bnd'_some h; clear h; obtain ⟨p2058, h2059, h⟩ := hh
    refine W_sound tab_ok mixed 17 _ _ _ ?_
    simp -implicitDefEqProofs only [go_sem, qa, qb, qc, qd, qe, qf, qg, qh, qi, qj, qk, ↓reduceIte, h2057]
    repeat with_reducible refine ⟨by first | kernel_rfl | decide, ?_⟩
    refine Wp_callP (FnP_le (c56 N _ _ h2059) (.cons _ _ _ _ (.nl false) .nil) (.refl _)) (by kernel_rfl) rfl rfl rfl rfl (by decide) ?_
    have hh := getL_some h; clear h; obtain ⟨n2061, c2062, h2060, h⟩ := hh
    have hh := bnd'_some h; clear h; obtain ⟨⟨p2063, x2065⟩, h2064, h⟩ := hh
    (try dsimp only at h)
    (try simp -implicitDefEqProofs only [go_sem, qa, qb, qc, qd, qe, qf, qg, qh, qi, qj, qk, ↓reduceIte, h2057, h2060])
    refine Wp_callD [2] (c78 N _ _ _ _ h2064) rfl rfl rfl (by first | rfl | (simp only [go_sem, qa, qb, qc, qd, qe, qf, qg, qh, qi, qj, qk, ↓reduceIte, h2057, h2060] <;> rfl)) rfl (by kernel_rfl) ?_
    have hh := getB_some h; clear h; obtain ⟨b2067, h2066, h⟩ := hh
    refine W_sound tab_ok mixed 4 _ _ _ ?_
    simp -implicitDefEqProofs only [go_sem, qa, qb, qc, qd, qe, qf, qg, qh, qi, qj, qk, ↓reduceIte, h2057, h2060, h2066]
    repeat with_reducible refine ⟨by first | kernel_rfl | decide, ?_⟩
    simp only [Option.some.injEq, Prod.mk.injEq] at h; obtain ⟨rfl, rfl⟩ := h
    exact finD (e2 := [(0, .dead), (1, .dead), (2, .dead), (3, .dead), (4, .dead), (5, .dead), (6, .dead), (10, .v (.bool b2067)), (11, .dead), (12, .dead), (16, .dead), (28, .dead), (29, .dead), (30, .dead), (31, .dead), (63, .dead)]) (ob2 := [(0, .p [(.int .i64 x2053)]), (1, .r [.fn 78 [.ptr 2 0]]), (3, .r [.ptr 4 0]), (4, .p c2055), (5, .r [.fn 94 [.ptr 0 0, .ptr 1 0, .ptr 3 0, .ptr 5 0]]), (2, .p [(.int .i64 x2065)])]) (st' := ⟨[], [(0, .dead), (1, .dead), (2, .dead), (3, .dead), (4, .dead), (5, .dead), (6, .dead), (10, .v (.bool b2067)), (11, .dead), (12, .dead), (16, .dead), (28, .dead), (29, .dead), (30, .dead), (31, .dead), (63, .dead)], [(0, .p [(.int .i64 x2053)]), (1, .r [.fn 78 [.ptr 2 0]]), (2, .p [(.int .i64 x2065)]), (3, .r [.ptr 4 0]), (4, .p c2055), (5, .r [.fn 94 [.ptr 0 0, .ptr 1 0, .ptr 3 0, .ptr 5 0]])], 6, []⟩) (.k (.k (.k (.k (.k (.k (.k (.r (.r (.r (.k (.r (.r (.r (.r (.r .nil)))))))))))))))) (.cons _ _ _ _ _ (DLes.refl _) (.cons _ _ _ _ _ (DLes.refl _) (.cons _ _ _ _ _ (DLes.refl _) (.cons _ _ _ _ _ (DLes.refl _) (.cons _ _ _ _ _ (DLes.refl _) (.cons _ _ _ _ _ (DLes.refl _) .nil)))))) (by kernel_rfl) (by simp only [go_sem, qa, qb, qc, qd, qe, qf, qg, qh, qi, qj, qk, ↓reduceIte, resQ_tmp, resQ_cell, resQ_nil, retD_one, retD_two, retD_three, retD_none]; try simp [R.val, retD_one, retD_two, retD_three, retD_none])
  · have hh := grd_some h; clear h; obtain ⟨⟨g2068, g2069, g2070⟩, h⟩ := hh
    refine W_sound tab_ok mixed 28 _ _ _ ?_
    simp -implicitDefEqProofs only [go_sem, qa, qb, qc, qd, qe, qf, qg, qh, qi, qj, qk, ↓reduceIte, h2057, g2068, g2069, g2070]
    repeat with_reducible refine ⟨by first | kernel_rfl | decide, ?_⟩
    refine Wp_wkK Wk_norm rfl ?_
    simp -implicitDefEqProofs only [go_sem, qa, qb, qc, qd, qe, qf, qg, qh, qi, qj, qk, ↓reduceIte, normE, h2057, g2068, g2069, g2070]
    (try simp -implicitDefEqProofs only [go_sem, qa, qb, qc, qd, qe, qf, qg, qh, qi, qj, qk, ↓reduceIte, h2057, g2068, g2069, g2070])
    have hh := bnd'_some h; clear h; obtain ⟨o2108, h2109, h2110⟩ := hh
    refine Wp_cut (fun s => ∃ x2105, (.inr x2105) = o2108 ∧ s = ⟨[], [(0, .dead), (1, .dead), (2, .dead), (3, .dead), (4, .dead), (5, .dead), (6, .dead), (10, .dead), (11, .dead), (12, .dead), (16, .dead), (28, .dead), (29, .dead), (30, .dead), (31, .dead), (63, .dead)], [(0, .p [(.int .i64 x2053)]), (1, .r [.fn 78 [.ptr 2 0]]), (2, .p [(.int .i64 x2105)]), (3, .r [.ptr 4 0]), (4, .p c2055), (5, .r [.fn 94 [.ptr 0 0, .ptr 1 0, .ptr 3 0, .ptr 5 0]])], 6, []⟩) ?_ ?_
    · refine Wp_block ?_
      refine Wp_loopG (fun n s => ∃ x2087, ∃ x2088, m94_5_L0 N x2051 x2052 x2053 c2055 n x2087 x2088 = some o2108 ∧ s = ⟨[], [(0, .v .nl), (1, .v (.int .u64 x2051)), (2, .v (.int .u64 x2052)), (3, .dead), (4, .dead), (5, .dead), (6, .ptr 5 0), (10, .dead), (11, .dead), (12, .dead), (16, .dead), (28, .sl false 4 1 (Int.toNat x2053) 1), (29, .v (.int .i64 (((Int.toNat x2053) : Nat) : Int))), (30, .v (.int .i64 x2087)), (31, .dead), (63, .dead)], [(0, .p [(.int .i64 x2053)]), (1, .r [.fn 78 [.ptr 2 0]]), (2, .p [(.int .i64 x2088)]), (3, .r [.ptr 4 0]), (4, .p c2055), (5, .r [.fn 94 [.ptr 0 0, .ptr 1 0, .ptr 3 0, .ptr 5 0]])], 6, []⟩) N _ ((Wk_le (.r (.r (.r (.k (.k (.k (.r (.k (.r (.r (.k (.r (.r (.r (.r (.r .nil)))))))))))))))) (OLe.refl _)).trans (cmpS_ok (st' := ⟨[], [(0, .v .nl), (1, .v (.int .u64 x2051)), (2, .v (.int .u64 x2052)), (3, .dead), (4, .dead), (5, .dead), (6, .ptr 5 0), (10, .dead), (11, .dead), (12, .dead), (16, .dead), (28, .sl false 4 1 (Int.toNat x2053) 1), (29, .v (.int .i64 (((Int.toNat x2053) : Nat) : Int))), (30, .v (.int .i64 0)), (31, .dead), (63, .dead)], [(0, .p [(.int .i64 x2053)]), (1, .r [.fn 78 [.ptr 2 0]]), (2, .p [(.int .i64 x2054)]), (3, .r [.ptr 4 0]), (4, .p c2055), (5, .r [.fn 94 [.ptr 0 0, .ptr 1 0, .ptr 3 0, .ptr 5 0]])], 6, []⟩) (by kernel_rfl))) ⟨_, _, h2109, rfl⟩ ?_
      clear h2109
      rintro n _ ⟨x2087, x2088, h2109, rfl⟩
      cases n with
      | zero => cases h2109
      | succ n =>
        rw [m94_5_L0] at h2109
        have hh := brn_some h2109; clear h2109; rcases hh with ⟨h2089, h2109⟩ | ⟨h2089, h2109⟩
        · have hh := grd_some h2109; clear h2109; obtain ⟨⟨g2090, g2091⟩, h2109⟩ := hh
          have hh := grd_some h2109; clear h2109; obtain ⟨g2092, h2109⟩ := hh
          have hh := getI_some h2109; clear h2109; obtain ⟨x2094, h2093, h2109⟩ := hh
          have hh := brn_some h2109; clear h2109; rcases hh with ⟨h2095, h2109⟩ | ⟨h2095, h2109⟩
          · have hh := grd_some h2109; clear h2109; obtain ⟨g2096, h2109⟩ := hh
            have hh := brn_some h2109; clear h2109; rcases hh with ⟨h2097, h2109⟩ | ⟨h2097, h2109⟩
            · have hh := bnd'_some h2109; clear h2109; obtain ⟨⟨p2098, x2100⟩, h2099, h2109⟩ := hh
              (try dsimp only at h2109)
              refine W_sound tab_ok mixed 45 _ _ _ ?_
              simp -implicitDefEqProofs only [go_sem, qa, qb, qc, qd, qe, qf, qg, qh, qi, qj, qk, ↓reduceIte, h2057, g2068, g2069, g2070, h2089, g2090, g2091, g2092, h2093, h2095, g2096, h2097]
              repeat with_reducible refine ⟨by first | kernel_rfl | decide, ?_⟩
              refine Wp_callD [58, 0, 1, 2, 3, 4, 5] (c94_6 N N _ _ _ _ _ _ _ _ _ h2099) rfl rfl rfl (by first | rfl | (simp only [go_sem, qa, qb, qc, qd, qe, qf, qg, qh, qi, qj, qk, ↓reduceIte, h2057, g2068, g2069, g2070, h2089, g2090, g2091, g2092, h2093, h2095, g2096, h2097] <;> rfl)) rfl (by kernel_rfl) ?_
              have hh := getB_some h2109; clear h2109; obtain ⟨b2102, h2101, h2109⟩ := hh
              have hh := brn_some h2109; clear h2109; rcases hh with ⟨h2103, h2109⟩ | ⟨h2103, h2109⟩
              · refine W_sound tab_ok mixed 10 _ _ _ ?_
                simp -implicitDefEqProofs only [go_sem, qa, qb, qc, qd, qe, qf, qg, qh, qi, qj, qk, ↓reduceIte, h2057, g2068, g2069, g2070, h2089, g2090, g2091, g2092, h2093, h2095, g2096, h2097, h2101, h2103]
                repeat with_reducible refine ⟨by first | kernel_rfl | decide, ?_⟩
                exact cutQ _ ((Wk_le (.r (.r (.r (.r (.r (.r (.r (.r (.k (.k (.r (.r (.r (.r (.k (.k .nil)))))))))))))))) (OLe.refl _)).trans (cmpS_ok (st' := ⟨[], [(0, .v .nl), (1, .v (.int .u64 x2051)), (2, .v (.int .u64 x2052)), (3, .dead), (4, .dead), (5, .dead), (6, .ptr 5 0), (10, .dead), (11, .dead), (12, .dead), (16, .dead), (28, .sl false 4 1 (Int.toNat x2053) 1), (29, .v (.int .i64 (((Int.toNat x2053) : Nat) : Int))), (30, .v (.int .i64 (IntKind.i64.wrap (x2087 + 1)))), (31, .dead), (63, .dead)], [(0, .p [(.int .i64 x2053)]), (1, .r [.fn 78 [.ptr 2 0]]), (2, .p [(.int .i64 x2100)]), (3, .r [.ptr 4 0]), (4, .p c2055), (5, .r [.fn 94 [.ptr 0 0, .ptr 1 0, .ptr 3 0, .ptr 5 0]])], 6, []⟩) (by kernel_rfl))) ⟨n, Nat.lt_succ_self n, _, _, h2109, rfl⟩
              · refine W_sound tab_ok mixed 10 _ _ _ ?_
                simp -implicitDefEqProofs only [go_sem, qa, qb, qc, qd, qe, qf, qg, qh, qi, qj, qk, ↓reduceIte, h2057, g2068, g2069, g2070, h2089, g2090, g2091, g2092, h2093, h2095, g2096, h2097, h2101, h2103]
                repeat with_reducible refine ⟨by first | kernel_rfl | decide, ?_⟩
                obtain rfl := Option.some.inj h2109
                (try dsimp only at h2110)
                simp only [Option.some.injEq, Prod.mk.injEq] at h2110; obtain ⟨rfl, rfl⟩ := h2110
                exact finD (e2 := [(0, .dead), (1, .dead), (2, .dead), (3, .dead), (4, .dead), (5, .dead), (6, .dead), (10, .v (.bool false)), (11, .dead), (12, .dead), (16, .dead), (28, .dead), (29, .dead), (30, .dead), (31, .dead), (63, .dead)]) (ob2 := [(57, .p [(.int .i64 x2087)]), (5, .r [.fn 94 [.ptr 0 0, .ptr 1 0, .ptr 3 0, .ptr 5 0]]), (4, .p c2055), (3, .r [.ptr 4 0]), (2, .p [(.int .i64 x2100)]), (1, .r [.fn 78 [.ptr 2 0]]), (0, .p [(.int .i64 x2053)]), (58, .p [(.int .i64 x2087)])]) (st' := ⟨[], [(0, .dead), (1, .dead), (2, .dead), (3, .dead), (4, .dead), (5, .dead), (6, .dead), (10, .v (.bool false)), (11, .dead), (12, .dead), (16, .dead), (28, .dead), (29, .dead), (30, .dead), (31, .dead), (63, .dead)], [(0, .p [(.int .i64 x2053)]), (1, .r [.fn 78 [.ptr 2 0]]), (2, .p [(.int .i64 x2100)]), (3, .r [.ptr 4 0]), (4, .p c2055), (5, .r [.fn 94 [.ptr 0 0, .ptr 1 0, .ptr 3 0, .ptr 5 0]])], 6, []⟩) (.k (.k (.k (.r (.r (.r (.k (.r (.k (.k (.r (.k (.k (.k (.k (.k .nil)))))))))))))))) (.cons _ _ _ _ _ (DLes.refl _) (.cons _ _ _ _ _ (DLes.refl _) (.cons _ _ _ _ _ (DLes.refl _) (.cons _ _ _ _ _ (DLes.refl _) (.cons _ _ _ _ _ (DLes.refl _) (.cons _ _ _ _ _ (DLes.refl _) (.cons _ _ _ _ _ (DLes.refl _) (.cons _ _ _ _ _ (DLes.refl _) .nil)))))))) (by kernel_rfl) (by simp only [go_sem, qa, qb, qc, qd, qe, qf, qg, qh, qi, qj, qk, ↓reduceIte, resQ_tmp, resQ_cell, resQ_nil, retD_one, retD_two, retD_three, retD_none]; try simp [R.val, retD_one, retD_two, retD_three, retD_none])
            · refine W_sound tab_ok mixed 56 _ _ _ ?_
              simp -implicitDefEqProofs only [go_sem, qa, qb, qc, qd, qe, qf, qg, qh, qi, qj, qk, ↓reduceIte, h2057, g2068, g2069, g2070, h2089, g2090, g2091, g2092, h2093, h2095, g2096, h2097]
              repeat with_reducible refine ⟨by first | kernel_rfl | decide, ?_⟩
              exact cutQ _ ((Wk_le (.r (.r (.r (.r (.r (.r (.r (.r (.k (.k (.r (.r (.r (.r (.k (.k .nil)))))))))))))))) (OLe.refl _)).trans (cmpS_ok (st' := ⟨[], [(0, .v .nl), (1, .v (.int .u64 x2051)), (2, .v (.int .u64 x2052)), (3, .dead), (4, .dead), (5, .dead), (6, .ptr 5 0), (10, .dead), (11, .dead), (12, .dead), (16, .dead), (28, .sl false 4 1 (Int.toNat x2053) 1), (29, .v (.int .i64 (((Int.toNat x2053) : Nat) : Int))), (30, .v (.int .i64 (IntKind.i64.wrap (x2087 + 1)))), (31, .dead), (63, .dead)], [(0, .p [(.int .i64 x2053)]), (1, .r [.fn 78 [.ptr 2 0]]), (2, .p [(.int .i64 x2088)]), (3, .r [.ptr 4 0]), (4, .p c2055), (5, .r [.fn 94 [.ptr 0 0, .ptr 1 0, .ptr 3 0, .ptr 5 0]])], 6, []⟩) (by kernel_rfl))) ⟨n, Nat.lt_succ_self n, _, _, h2109, rfl⟩
          · refine W_sound tab_ok mixed 56 _ _ _ ?_
            simp -implicitDefEqProofs only [go_sem, qa, qb, qc, qd, qe, qf, qg, qh, qi, qj, qk, ↓reduceIte, h2057, g2068, g2069, g2070, h2089, g2090, g2091, g2092, h2093, h2095]
            repeat with_reducible refine ⟨by first | kernel_rfl | decide, ?_⟩
            exact cutQ _ ((Wk_le (.r (.r (.r (.r (.r (.r (.r (.r (.k (.k (.r (.r (.r (.r (.k (.k .nil)))))))))))))))) (OLe.refl _)).trans (cmpS_ok (st' := ⟨[], [(0, .v .nl), (1, .v (.int .u64 x2051)), (2, .v (.int .u64 x2052)), (3, .dead), (4, .dead), (5, .dead), (6, .ptr 5 0), (10, .dead), (11, .dead), (12, .dead), (16, .dead), (28, .sl false 4 1 (Int.toNat x2053) 1), (29, .v (.int .i64 (((Int.toNat x2053) : Nat) : Int))), (30, .v (.int .i64 (IntKind.i64.wrap (x2087 + 1)))), (31, .dead), (63, .dead)], [(0, .p [(.int .i64 x2053)]), (1, .r [.fn 78 [.ptr 2 0]]), (2, .p [(.int .i64 x2088)]), (3, .r [.ptr 4 0]), (4, .p c2055), (5, .r [.fn 94 [.ptr 0 0, .ptr 1 0, .ptr 3 0, .ptr 5 0]])], 6, []⟩) (by kernel_rfl))) ⟨n, Nat.lt_succ_self n, _, _, h2109, rfl⟩
        · refine W_sound tab_ok mixed 7 _ _ _ ?_
          simp -implicitDefEqProofs only [go_sem, qa, qb, qc, qd, qe, qf, qg, qh, qi, qj, qk, ↓reduceIte, h2057, g2068, g2069, g2070, h2089]
          repeat with_reducible refine ⟨by first | kernel_rfl | decide, ?_⟩
          obtain rfl := Option.some.inj h2109
          exact cutQ _ ((Wk_le (.k (.k (.k (.r (.r (.r (.k (.r (.r (.r (.r (.k (.k (.k (.k (.r .nil)))))))))))))))) (OLe.refl _)).trans (cmpS_ok (st' := ⟨[], [(0, .dead), (1, .dead), (2, .dead), (3, .dead), (4, .dead), (5, .dead), (6, .dead), (10, .dead), (11, .dead), (12, .dead), (16, .dead), (28, .dead), (29, .dead), (30, .dead), (31, .dead), (63, .dead)], [(0, .p [(.int .i64 x2053)]), (1, .r [.fn 78 [.ptr 2 0]]), (2, .p [(.int .i64 x2088)]), (3, .r [.ptr 4 0]), (4, .p c2055), (5, .r [.fn 94 [.ptr 0 0, .ptr 1 0, .ptr 3 0, .ptr 5 0]])], 6, []⟩) (by kernel_rfl))) ⟨_, rfl, rfl⟩
    · rintro _ ⟨x2105, rfl, rfl⟩
      (try dsimp only at h2110)
      refine W_sound tab_ok mixed 6 _ _ _ ?_
      simp -implicitDefEqProofs only [go_sem, qa, qb, qc, qd, qe, qf, qg, qh, qi, qj, qk, ↓reduceIte, h2057, g2068, g2069, g2070]
      repeat with_reducible refine ⟨by first | kernel_rfl | decide, ?_⟩
      simp only [Option.some.injEq, Prod.mk.injEq] at h2110; obtain ⟨rfl, rfl⟩ := h2110
      exact finD (e2 := [(0, .dead), (1, .dead), (2, .dead), (3, .dead), (4, .dead), (5, .dead), (6, .dead), (10, .v (.bool true)), (11, .dead), (12, .dead), (16, .dead), (28, .dead), (29, .dead), (30, .dead), (31, .dead), (63, .dead)]) (ob2 := [(0, .p [(.int .i64 x2053)]), (1, .r [.fn 78 [.ptr 2 0]]), (2, .p [(.int .i64 x2105)]), (3, .r [.ptr 4 0]), (4, .p c2055), (5, .r [.fn 94 [.ptr 0 0, .ptr 1 0, .ptr 3 0, .ptr 5 0]])]) (st' := ⟨[], [(0, .dead), (1, .dead), (2, .dead), (3, .dead), (4, .dead), (5, .dead), (6, .dead), (10, .v (.bool true)), (11, .dead), (12, .dead), (16, .dead), (28, .dead), (29, .dead), (30, .dead), (31, .dead), (63, .dead)], [(0, .p [(.int .i64 x2053)]), (1, .r [.fn 78 [.ptr 2 0]]), (2, .p [(.int .i64 x2105)]), (3, .r [.ptr 4 0]), (4, .p c2055), (5, .r [.fn 94 [.ptr 0 0, .ptr 1 0, .ptr 3 0, .ptr 5 0]])], 6, []⟩) (.r (.r (.r (.r (.r (.r (.r (.r (.r (.r (.r (.r (.r (.r (.r (.r .nil)))))))))))))))) (.cons _ _ _ _ _ (DLes.refl _) (.cons _ _ _ _ _ (DLes.refl _) (.cons _ _ _ _ _ (DLes.refl _) (.cons _ _ _ _ _ (DLes.refl _) (.cons _ _ _ _ _ (DLes.refl _) (.cons _ _ _ _ _ (DLes.refl _) .nil)))))) (by kernel_rfl) (by simp only [go_sem, qa, qb, qc, qd, qe, qf, qg, qh, qi, qj, qk, ↓reduceIte, resQ_tmp, resQ_cell, resQ_nil, retD_one, retD_two, retD_three, retD_none]; try simp [R.val, retD_one, retD_two, retD_three, retD_none])
noncomputable def m74_2 (N : Nat) (x2117 : Int) (p2118 : PV) (x2119 : Int) : Option ((PV × Int)) :=
  getL p2118 fun n2122 c2123 =>
  bnd' (m61 N x2117 (.lst false n2122 c2123) x2117) fun o =>
  match o with
  | .inl x2125 =>
    brn (x2125 != 0) (
      some ((.int .i64 x2125), x2119)) (
      brn (decide (((n2122 : Nat) : Int) < x2117)) (
        some ((.int .i64 21), x2119)) (
        bnd' (m94_4 N 0 0 x2117 x2119) fun (p2128, x2130) =>
        getB p2128 fun b2132 =>
        some ((.int .i64 0), x2130)))
  | .inr (x2133, c2134) =>
    brn (x2133 != 0) (
      some ((.int .i64 x2133), x2119)) (
      brn (decide (((n2122 : Nat) : Int) < x2117)) (
        some ((.int .i64 21), x2119)) (
        bnd' (m94_5 N 0 0 x2117 x2119 c2134) fun (p2137, x2139) =>
        getB p2137 fun b2141 =>
        some ((.int .i64 0), x2139)))
theorem c74_2 (N : Nat) (x2117 : Int) (p2118 : PV) (x2119 : Int) (r : PV) (x2143 : Int) (h : m74_2 N x2117 p2118 x2119 = some (r, x2143)) : V.Fn Tryd.prog 74 1 [.v (.int .i64 x2117), .v p2118, .fn 78 [.ptr 0 0]] [(0, .p [(.int .i64 x2119)])] (fun d ob' => d = .v r ∧ ob' = [(0, .p [(.int .i64 x2143)])]) := by
  unfold m74_2 at h
  refine Fn_of (sz := 29) tab_ok [0, 1, 2, 3, 5, 6, 7, 8, 9, 17, 21] [.tmp 6] Tryd.func74 rfl rfl rfl (by simp) ?_
  simp only [initSt, initEnv, List.map_cons, List.map_nil, List.getD_cons_zero, List.getD_cons_succ, List.getD_nil]
  have hh := getL_some h; clear h; obtain ⟨n2122, c2123, h2121, h⟩ := hh
  have hh := bnd'_some h; clear h; obtain ⟨oo, h2124, h⟩ := hh
  rcases oo with x2125 | ⟨x2133, c2134⟩
  · (try dsimp only at h)
    refine W_sound tab_ok mixed 11 _ _ _ ?_
    simp -implicitDefEqProofs only [go_sem, qa, qb, qc, qd, qe, qf, qg, qh, qi, qj, qk, ↓reduceIte, h2121]
    repeat with_reducible refine ⟨by first | kernel_rfl | decide, ?_⟩
    refine Wp_callD [] (c61_a N _ _ _ _ h2124) rfl rfl rfl (by first | rfl | (simp only [go_sem, qa, qb, qc, qd, qe, qf, qg, qh, qi, qj, qk, ↓reduceIte, h2121] <;> rfl)) rfl (by kernel_rfl) ?_
    have hh := brn_some h; clear h; rcases hh with ⟨h2126, h⟩ | ⟨h2126, h⟩
    · refine W_sound tab_ok mixed 23 _ _ _ ?_
      simp -implicitDefEqProofs only [go_sem, qa, qb, qc, qd, qe, qf, qg, qh, qi, qj, qk, ↓reduceIte, h2121, h2126]
      repeat with_reducible refine ⟨by first | kernel_rfl | decide, ?_⟩
      simp only [Option.some.injEq, Prod.mk.injEq] at h; obtain ⟨rfl, rfl⟩ := h
      exact finD (e2 := [(0, .dead), (1, .dead), (2, .dead), (3, .dead), (5, .dead), (6, .v (.int .i64 x2125)), (7, .dead), (8, .dead), (9, .dead), (17, .dead), (21, .dead)]) (ob2 := [(0, .p [(.int .i64 x2119)]), (4, .p [(.int .i64 x2117)]), (6, .r [.fn 78 [.ptr 0 0]]), (14, .r [.v (.fn 999999 [.bool true])])]) (st' := ⟨[], [(0, .dead), (1, .dead), (2, .dead), (3, .dead), (5, .dead), (6, .v (.int .i64 x2125)), (7, .dead), (8, .dead), (9, .dead), (17, .dead), (21, .dead)], [(0, .p [(.int .i64 x2119)])], 1, []⟩) (.k (.k (.k (.k (.k (.r (.k (.k (.r (.k (.r .nil))))))))))) (.cons _ _ _ _ _ (DLes.refl _) (.cons _ _ _ _ _ (DLes.refl _) (.cons _ _ _ _ _ (DLes.refl _) (.cons _ _ _ _ _ (DLes.refl _) .nil)))) (by kernel_rfl) (by simp only [go_sem, qa, qb, qc, qd, qe, qf, qg, qh, qi, qj, qk, ↓reduceIte, resQ_tmp, resQ_cell, resQ_nil, retD_one, retD_two, retD_three, retD_none]; try simp [R.val, retD_one, retD_two, retD_three, retD_none])
    · have hh := brn_some h; clear h; rcases hh with ⟨h2127, h⟩ | ⟨h2127, h⟩
      · refine W_sound tab_ok mixed 31 _ _ _ ?_
        simp -implicitDefEqProofs only [go_sem, qa, qb, qc, qd, qe, qf, qg, qh, qi, qj, qk, ↓reduceIte, h2121, h2126, h2127]
        repeat with_reducible refine ⟨by first | kernel_rfl | decide, ?_⟩
        simp only [Option.some.injEq, Prod.mk.injEq] at h; obtain ⟨rfl, rfl⟩ := h
        exact finD (e2 := [(0, .dead), (1, .dead), (2, .dead), (3, .dead), (5, .dead), (6, .v (.int .i64 21)), (7, .dead), (8, .dead), (9, .dead), (17, .dead), (21, .dead)]) (ob2 := [(0, .p [(.int .i64 x2119)]), (4, .p [(.int .i64 x2117)]), (6, .r [.fn 78 [.ptr 0 0]]), (14, .r [.v (.fn 999999 [.bool true])])]) (st' := ⟨[], [(0, .dead), (1, .dead), (2, .dead), (3, .dead), (5, .dead), (6, .v (.int .i64 21)), (7, .dead), (8, .dead), (9, .dead), (17, .dead), (21, .dead)], [(0, .p [(.int .i64 x2119)])], 1, []⟩) (.k (.k (.k (.k (.k (.r (.k (.k (.r (.k (.k .nil))))))))))) (.cons _ _ _ _ _ (DLes.refl _) (.cons _ _ _ _ _ (DLes.refl _) (.cons _ _ _ _ _ (DLes.refl _) (.cons _ _ _ _ _ (DLes.refl _) .nil)))) (by kernel_rfl) (by simp only [go_sem, qa, qb, qc, qd, qe, qf, qg, qh, qi, qj, qk, ↓reduceIte, resQ_tmp, resQ_cell, resQ_nil, retD_one, retD_two, retD_three, retD_none]; try simp [R.val, retD_one, retD_two, retD_three, retD_none])
      · have hh := bnd'_some h; clear h; obtain ⟨⟨p2128, x2130⟩, h2129, h⟩ := hh
        (try dsimp only at h)
        refine W_sound tab_ok mixed 39 _ _ _ ?_
        simp -implicitDefEqProofs only [go_sem, qa, qb, qc, qd, qe, qf, qg, qh, qi, qj, qk, ↓reduceIte, h2121, h2126, h2127]
        repeat with_reducible refine ⟨by first | kernel_rfl | decide, ?_⟩
        refine Wp_callD [4, 6, 0, 14, 24] (c94_4 N _ _ _ _ _ _ h2129) rfl rfl rfl (by first | rfl | (simp only [go_sem, qa, qb, qc, qd, qe, qf, qg, qh, qi, qj, qk, ↓reduceIte, h2121, h2126, h2127] <;> rfl)) rfl (by kernel_rfl) ?_
        have hh := getB_some h; clear h; obtain ⟨b2132, h2131, h⟩ := hh
        refine W_sound tab_ok mixed 7 _ _ _ ?_
        simp -implicitDefEqProofs only [go_sem, qa, qb, qc, qd, qe, qf, qg, qh, qi, qj, qk, ↓reduceIte, h2121, h2126, h2127, h2131]
        repeat with_reducible refine ⟨by first | kernel_rfl | decide, ?_⟩
        simp only [Option.some.injEq, Prod.mk.injEq] at h; obtain ⟨rfl, rfl⟩ := h
        exact finD (e2 := [(0, .dead), (1, .dead), (2, .dead), (3, .dead), (5, .dead), (6, .v (.int .i64 0)), (7, .dead), (8, .dead), (9, .dead), (17, .dead), (21, .dead)]) (ob2 := [(24, .r [.fn 94 [.ptr 4 0, .ptr 6 0, .ptr 14 0, .ptr 24 0]]), (14, .r [.v (.fn 999999 [.bool true])]), (0, .p [(.int .i64 x2130)]), (6, .r [.fn 78 [.ptr 0 0]]), (4, .p [(.int .i64 x2117)])]) (st' := ⟨[], [(0, .dead), (1, .dead), (2, .dead), (3, .dead), (5, .dead), (6, .v (.int .i64 0)), (7, .dead), (8, .dead), (9, .dead), (17, .dead), (21, .dead)], [(0, .p [(.int .i64 x2130)])], 1, []⟩) (.k (.k (.k (.k (.k (.r (.k (.k (.k (.k (.k .nil))))))))))) (.cons _ _ _ _ _ (DLes.refl _) (.cons _ _ _ _ _ (DLes.refl _) (.cons _ _ _ _ _ (DLes.refl _) (.cons _ _ _ _ _ (DLes.refl _) (.cons _ _ _ _ _ (DLes.refl _) .nil))))) (by kernel_rfl) (by simp only [go_sem, qa, qb, qc, qd, qe, qf, qg, qh, qi, qj, qk, ↓reduceIte, resQ_tmp, resQ_cell, resQ_nil, retD_one, retD_two, retD_three, retD_none]; try simp [R.val, retD_one, retD_two, retD_three, retD_none])
  · (try dsimp only at h)
    refine W_sound tab_ok mixed 11 _ _ _ ?_
    simp -implicitDefEqProofs only [go_sem, qa, qb, qc, qd, qe, qf, qg, qh, qi, qj, qk, ↓reduceIte, h2121]
    repeat with_reducible refine ⟨by first | kernel_rfl | decide, ?_⟩
    refine Wp_callD [] (c61_b N _ _ _ _ _ h2124) rfl rfl rfl (by first | rfl | (simp only [go_sem, qa, qb, qc, qd, qe, qf, qg, qh, qi, qj, qk, ↓reduceIte, h2121] <;> rfl)) rfl (by kernel_rfl) ?_
    have hh := brn_some h; clear h; rcases hh with ⟨h2135, h⟩ | ⟨h2135, h⟩
    · refine W_sound tab_ok mixed 23 _ _ _ ?_
      simp -implicitDefEqProofs only [go_sem, qa, qb, qc, qd, qe, qf, qg, qh, qi, qj, qk, ↓reduceIte, h2121, h2135]
      repeat with_reducible refine ⟨by first | kernel_rfl | decide, ?_⟩
      simp only [Option.some.injEq, Prod.mk.injEq] at h; obtain ⟨rfl, rfl⟩ := h
      exact finD (e2 := [(0, .dead), (1, .dead), (2, .dead), (3, .dead), (5, .dead), (6, .v (.int .i64 x2133)), (7, .dead), (8, .dead), (9, .dead), (17, .dead), (21, .dead)]) (ob2 := [(0, .p [(.int .i64 x2119)]), (4, .p [(.int .i64 x2117)]), (6, .r [.fn 78 [.ptr 0 0]]), (21, .p c2134), (14, .r [.ptr 21 0])]) (st' := ⟨[], [(0, .dead), (1, .dead), (2, .dead), (3, .dead), (5, .dead), (6, .v (.int .i64 x2133)), (7, .dead), (8, .dead), (9, .dead), (17, .dead), (21, .dead)], [(0, .p [(.int .i64 x2119)])], 1, []⟩) (.k (.k (.k (.k (.k (.r (.k (.k (.r (.k (.r .nil))))))))))) (.cons _ _ _ _ _ (DLes.refl _) (.cons _ _ _ _ _ (DLes.refl _) (.cons _ _ _ _ _ (DLes.refl _) (.cons _ _ _ _ _ (DLes.refl _) (.cons _ _ _ _ _ (DLes.refl _) .nil))))) (by kernel_rfl) (by simp only [go_sem, qa, qb, qc, qd, qe, qf, qg, qh, qi, qj, qk, ↓reduceIte, resQ_tmp, resQ_cell, resQ_nil, retD_one, retD_two, retD_three, retD_none]; try simp [R.val, retD_one, retD_two, retD_three, retD_none])
    · have hh := brn_some h; clear h; rcases hh with ⟨h2136, h⟩ | ⟨h2136, h⟩
      · refine W_sound tab_ok mixed 31 _ _ _ ?_
        simp -implicitDefEqProofs only [go_sem, qa, qb, qc, qd, qe, qf, qg, qh, qi, qj, qk, ↓reduceIte, h2121, h2135, h2136]
        repeat with_reducible refine ⟨by first | kernel_rfl | decide, ?_⟩
        simp only [Option.some.injEq, Prod.mk.injEq] at h; obtain ⟨rfl, rfl⟩ := h
        exact finD (e2 := [(0, .dead), (1, .dead), (2, .dead), (3, .dead), (5, .dead), (6, .v (.int .i64 21)), (7, .dead), (8, .dead), (9, .dead), (17, .dead), (21, .dead)]) (ob2 := [(0, .p [(.int .i64 x2119)]), (4, .p [(.int .i64 x2117)]), (6, .r [.fn 78 [.ptr 0 0]]), (21, .p c2134), (14, .r [.ptr 21 0])]) (st' := ⟨[], [(0, .dead), (1, .dead), (2, .dead), (3, .dead), (5, .dead), (6, .v (.int .i64 21)), (7, .dead), (8, .dead), (9, .dead), (17, .dead), (21, .dead)], [(0, .p [(.int .i64 x2119)])], 1, []⟩) (.k (.k (.k (.k (.k (.r (.k (.k (.r (.k (.k .nil))))))))))) (.cons _ _ _ _ _ (DLes.refl _) (.cons _ _ _ _ _ (DLes.refl _) (.cons _ _ _ _ _ (DLes.refl _) (.cons _ _ _ _ _ (DLes.refl _) (.cons _ _ _ _ _ (DLes.refl _) .nil))))) (by kernel_rfl) (by simp only [go_sem, qa, qb, qc, qd, qe, qf, qg, qh, qi, qj, qk, ↓reduceIte, resQ_tmp, resQ_cell, resQ_nil, retD_one, retD_two, retD_three, retD_none]; try simp [R.val, retD_one, retD_two, retD_three, retD_none])
      · have hh := bnd'_some h; clear h; obtain ⟨⟨p2137, x2139⟩, h2138, h⟩ := hh
        (try dsimp only at h)
        refine W_sound tab_ok mixed 39 _ _ _ ?_
        simp -implicitDefEqProofs only [go_sem, qa, qb, qc, qd, qe, qf, qg, qh, qi, qj, qk, ↓reduceIte, h2121, h2135, h2136]
        repeat with_reducible refine ⟨by first | kernel_rfl | decide, ?_⟩
        refine Wp_callD [4, 6, 0, 14, 21, 31] (c94_5 N _ _ _ _ _ _ _ h2138) rfl rfl rfl (by first | rfl | (simp only [go_sem, qa, qb, qc, qd, qe, qf, qg, qh, qi, qj, qk, ↓reduceIte, h2121, h2135, h2136] <;> rfl)) rfl (by kernel_rfl) ?_
        have hh := getB_some h; clear h; obtain ⟨b2141, h2140, h⟩ := hh
        refine W_sound tab_ok mixed 7 _ _ _ ?_
        simp -implicitDefEqProofs only [go_sem, qa, qb, qc, qd, qe, qf, qg, qh, qi, qj, qk, ↓reduceIte, h2121, h2135, h2136, h2140]
        repeat with_reducible refine ⟨by first | kernel_rfl | decide, ?_⟩
        simp only [Option.some.injEq, Prod.mk.injEq] at h; obtain ⟨rfl, rfl⟩ := h
        exact finD (e2 := [(0, .dead), (1, .dead), (2, .dead), (3, .dead), (5, .dead), (6, .v (.int .i64 0)), (7, .dead), (8, .dead), (9, .dead), (17, .dead), (21, .dead)]) (ob2 := [(31, .r [.fn 94 [.ptr 4 0, .ptr 6 0, .ptr 14 0, .ptr 31 0]]), (21, .p c2134), (14, .r [.ptr 21 0]), (0, .p [(.int .i64 x2139)]), (6, .r [.fn 78 [.ptr 0 0]]), (4, .p [(.int .i64 x2117)])]) (st' := ⟨[], [(0, .dead), (1, .dead), (2, .dead), (3, .dead), (5, .dead), (6, .v (.int .i64 0)), (7, .dead), (8, .dead), (9, .dead), (17, .dead), (21, .dead)], [(0, .p [(.int .i64 x2139)])], 1, []⟩) (.k (.k (.k (.k (.k (.r (.k (.k (.k (.k (.k .nil))))))))))) (.cons _ _ _ _ _ (DLes.refl _) (.cons _ _ _ _ _ (DLes.refl _) (.cons _ _ _ _ _ (DLes.refl _) (.cons _ _ _ _ _ (DLes.refl _) (.cons _ _ _ _ _ (DLes.refl _) (.cons _ _ _ _ _ (DLes.refl _) .nil)))))) (by kernel_rfl) (by simp only [go_sem, qa, qb, qc, qd, qe, qf, qg, qh, qi, qj, qk, ↓reduceIte, resQ_tmp, resQ_cell, resQ_nil, retD_one, retD_two, retD_three, retD_none]; try simp [R.val, retD_one, retD_two, retD_three, retD_none])
noncomputable def m35 (N : Nat) (x1697 : Int) (p1698 : PV) : Option (PV) :=
  getL p1698 fun n1700 c1701 =>
  bnd' (m74_2 N x1697 (.lst false n1700 c1701) 0) fun (p2144, x2146) =>
  getI .i64 p2144 fun x2148 =>
  some (.tup [(.int .i64 x2146), (.int .i64 x2148)])
theorem c35 (N : Nat) (x1697 : Int) (p1698 : PV) (r : PV)  (h : m35 N x1697 p1698 = some r) : FnP Tryd.prog 35 [(.int .i64 x1697), p1698] r := by
  unfold m35 at h
  refine Fn_of (sz := 14) tab_ok [0, 1, 4, 5, 6, 7] [.tmp 4, .tmp 5] Tryd.func35 rfl rfl rfl (by simp) ?_
  simp only [initSt, initEnv, List.map_cons, List.map_nil, List.getD_cons_zero, List.getD_cons_succ, List.getD_nil]
  have hh := getL_some h; clear h; obtain ⟨n1700, c1701, h1699, h⟩ := hh
  have hh := bnd'_some h; clear h; obtain ⟨⟨p2144, x2146⟩, h2145, h⟩ := hh
  (try dsimp only at h)
  refine W_sound tab_ok mixed 15 _ _ _ ?_
  simp -implicitDefEqProofs only [go_sem, qa, qb, qc, qd, qe, qf, qg, qh, qi, qj, qk, ↓reduceIte, h1699]
  repeat with_reducible refine ⟨by first | kernel_rfl | decide, ?_⟩
  refine Wp_callD [6] (c74_2 N _ _ _ _ _ h2145) rfl rfl rfl (by first | rfl | (simp only [go_sem, qa, qb, qc, qd, qe, qf, qg, qh, qi, qj, qk, ↓reduceIte, h1699] <;> rfl)) rfl (by kernel_rfl) ?_
  have hh := getI_some h; clear h; obtain ⟨x2148, h2147, h⟩ := hh
  refine W_sound tab_ok mixed 11 _ _ _ ?_
  simp -implicitDefEqProofs only [go_sem, qa, qb, qc, qd, qe, qf, qg, qh, qi, qj, qk, ↓reduceIte, h1699, h2147]
  repeat with_reducible refine ⟨by first | kernel_rfl | decide, ?_⟩
  obtain rfl := Option.some.inj h
  exact finC [(4, .v (.int .i64 x2146)), (5, .v (.int .i64 x2148))] [(4, .v (.int .i64 x2146)), (5, .v (.int .i64 x2148))] (by simp [leE, lk_cons]) (.cons _ _ _ _ _ (.v _ _ (.refl _)) (.cons _ _ _ _ _ (.v _ _ (.refl _)) .nil)) (by rfl) (by simp [leE, lk_cons]) (by decide) (by decide) rfl (by simp only [go_sem, qa, qb, qc, qd, qe, qf, qg, qh, qi, qj, qk, ↓reduceIte, resQ_tmp, resQ_cell, resQ_nil, retD_one, retD_two, retD_three, retD_none]; try simp [R.val, retD_one, retD_two, retD_three, retD_none])
end Go.Proofs.YtcaecfofgdogbaaDoor
