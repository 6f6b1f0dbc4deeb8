/-
  Models and laws.
-/
import Derived.Test.YteidcinajdehkaaDCCstA
import Derived.Test.YteidcinajdehkaaDCV38
import Derived.Test.YteidcinajdehkaaDCV36
set_option linter.unusedSimpArgs false
set_option linter.unusedVariables false
namespace Go.Proofs.Yteidcinajdehkaa
open Go.V
open Nat renaming reduceBEq → qa, reduceAdd → qb, reduceSub → qc, reduceMul → qd, reduceLT → qe, reduceLeDiff → qf
open Int renaming reduceLE → qg, reduceLT → qh, reduceToNat → qi, reduceBEq → qj, reduceBNe → qk
set_option maxRecDepth 100000
set_option maxHeartbeats 4000000
set_option linter.unusedSimpArgs false
set_option linter.unusedVariables false
attribute [local go_sem] tl1 tl2 tl3 tl4 tl5 tl9 tl17 tl21 tl22 tl23 tl24 tl25 tl26 tl27 tl28 tl29 tl30 tl32 tl33 tl35 tl36 tl37 tl38 tl39 tl40 tl41 tl42 tl43 tl44 tl46 tl48 tl50 tl51 tl52 tl53 tl54 tl56 tl58 tl59 tl60 tl61 tl62 tl63 tl64 tl65 tl66 tl67 tl68 tl69 tl70 tl72 tl74 tl75 tl76 tl77 tl78 tl79 tl80 tl81 tl82 tl83 tl84 tl85 tl86 tl87 tl88 tl89 tl90 tl91 tl92 tl93 tl94 tl95 tl96 tl97 tl98 tl99 tl100 tl101 tl102 tl103 tl104 tl105 tl106 tl107 tl108 tl109 tl110 tl111 tl112 tl113 tl114 tl115 tl116 tl117 tl118 tl119 tl120 tl121 tl122 tl128 tl129 tl133
def m63_L0 (N : Nat) (n1329 : Nat) (n1335 : Nat) : Nat → Nat → Int → Int → List PV → List PV → List PV → Option ((Nat × List PV))
  | 0, _, _, _, _, _, _ => none
  | n + 1, n1378, x1379, x1380, c1381, c1382, c1383 =>
    brn (decide (x1380 < ((n1335 : Nat) : Int))) (
      grd ((n1378 + 1) ≤ 1099511627776) <|
      grd (List.length c1381 = (n1378 * 2)) <|
      grd (0 ≤ x1379 ∧ x1379 < ((n1329 : Nat) : Int)) <|
      grd ((Int.toNat x1379) < List.length c1382) <|
      getI .i64 (gp c1382 (Int.toNat x1379)) fun x1391 =>
      grd (0 ≤ x1380 ∧ x1380 < ((n1335 : Nat) : Int)) <|
      grd ((Int.toNat x1380) < List.length c1383) <|
      getI .i64 (gp c1383 (Int.toNat x1380)) fun x1396 =>
      grd (((Int.toNat x1379) + 1) ≤ List.length c1382) <|
      grd (((Int.toNat x1380) + 1) ≤ List.length c1383) <|
      getI .i64 (gp (List.set c1382 (Int.toNat x1379) (.int .i64 (IntKind.i64.wrap (x1391 - (minI x1391 x1396))))) (Int.toNat x1379)) fun x1400 =>
      brn (x1400 == 0) (
        brn (decide ((IntKind.i64.wrap (x1379 + 1)) < ((n1329 : Nat) : Int))) (
          m63_L0 N n1329 n1335 n (n1378 + 1) (IntKind.i64.wrap (x1379 + 1)) x1380 (c1381 ++ [(.int .i64 x1379), (.int .i64 x1380)]) (List.set c1382 (Int.toNat x1379) (.int .i64 (IntKind.i64.wrap (x1391 - (minI x1391 x1396))))) (List.set c1383 (Int.toNat x1380) (.int .i64 (IntKind.i64.wrap (x1396 - (minI x1391 x1396)))))) (
          m63_L0 N n1329 n1335 n (n1378 + 1) x1379 (IntKind.i64.wrap (x1380 + 1)) (c1381 ++ [(.int .i64 x1379), (.int .i64 x1380)]) (List.set c1382 (Int.toNat x1379) (.int .i64 (IntKind.i64.wrap (x1391 - (minI x1391 x1396))))) (List.set c1383 (Int.toNat x1380) (.int .i64 (IntKind.i64.wrap (x1396 - (minI x1391 x1396))))))) (
        m63_L0 N n1329 n1335 n (n1378 + 1) x1379 (IntKind.i64.wrap (x1380 + 1)) (c1381 ++ [(.int .i64 x1379), (.int .i64 x1380)]) (List.set c1382 (Int.toNat x1379) (.int .i64 (IntKind.i64.wrap (x1391 - (minI x1391 x1396))))) (List.set c1383 (Int.toNat x1380) (.int .i64 (IntKind.i64.wrap (x1396 - (minI x1391 x1396))))))) (
      some (n1378, c1381))
def m63_L1 (N : Nat) (n1329 : Nat) (n1335 : Nat) : Nat → Nat → Int → Int → List PV → List PV → List PV → Option ((Nat × List PV))
  | 0, _, _, _, _, _, _ => none
  | n + 1, n1445, x1446, x1447, c1448, c1449, c1450 =>
    brn (decide (x1447 < ((n1335 : Nat) : Int))) (
      grd ((n1445 + 1) ≤ 1099511627776) <|
      grd (List.length c1448 = (n1445 * 2)) <|
      grd (0 ≤ x1446 ∧ x1446 < ((n1329 : Nat) : Int)) <|
      grd ((Int.toNat x1446) < List.length c1449) <|
      getI .i64 (gp c1449 (Int.toNat x1446)) fun x1458 =>
      grd (0 ≤ x1447 ∧ x1447 < ((n1335 : Nat) : Int)) <|
      grd ((Int.toNat x1447) < List.length c1450) <|
      getI .i64 (gp c1450 (Int.toNat x1447)) fun x1463 =>
      grd (((Int.toNat x1446) + 1) ≤ List.length c1449) <|
      grd (((Int.toNat x1447) + 1) ≤ List.length c1450) <|
      getI .i64 (gp (List.set c1449 (Int.toNat x1446) (.int .i64 (IntKind.i64.wrap (x1458 - (minI x1458 x1463))))) (Int.toNat x1446)) fun x1467 =>
      brn (x1467 == 0) (
        brn (decide ((IntKind.i64.wrap (x1446 + 1)) < ((n1329 : Nat) : Int))) (
          m63_L1 N n1329 n1335 n (n1445 + 1) (IntKind.i64.wrap (x1446 + 1)) x1447 (c1448 ++ [(.int .i64 x1446), (.int .i64 x1447)]) (List.set c1449 (Int.toNat x1446) (.int .i64 (IntKind.i64.wrap (x1458 - (minI x1458 x1463))))) (List.set c1450 (Int.toNat x1447) (.int .i64 (IntKind.i64.wrap (x1463 - (minI x1458 x1463)))))) (
          m63_L1 N n1329 n1335 n (n1445 + 1) x1446 (IntKind.i64.wrap (x1447 + 1)) (c1448 ++ [(.int .i64 x1446), (.int .i64 x1447)]) (List.set c1449 (Int.toNat x1446) (.int .i64 (IntKind.i64.wrap (x1458 - (minI x1458 x1463))))) (List.set c1450 (Int.toNat x1447) (.int .i64 (IntKind.i64.wrap (x1463 - (minI x1458 x1463))))))) (
        m63_L1 N n1329 n1335 n (n1445 + 1) x1446 (IntKind.i64.wrap (x1447 + 1)) (c1448 ++ [(.int .i64 x1446), (.int .i64 x1447)]) (List.set c1449 (Int.toNat x1446) (.int .i64 (IntKind.i64.wrap (x1458 - (minI x1458 x1463))))) (List.set c1450 (Int.toNat x1447) (.int .i64 (IntKind.i64.wrap (x1463 - (minI x1458 x1463))))))) (
      some (n1445, c1448))
def m63_L2 (N : Nat) (n1329 : Nat) (n1475 : Nat) : Nat → Nat → Int → Int → List PV → List PV → List PV → Option ((Nat × List PV))
  | 0, _, _, _, _, _, _ => none
  | n + 1, n1518, x1519, x1520, c1521, c1522, c1523 =>
    brn (decide (x1520 < ((n1475 : Nat) : Int))) (
      grd ((n1518 + 1) ≤ 1099511627776) <|
      grd (List.length c1521 = (n1518 * 2)) <|
      grd (0 ≤ x1519 ∧ x1519 < ((n1329 : Nat) : Int)) <|
      grd ((Int.toNat x1519) < List.length c1522) <|
      getI .i64 (gp c1522 (Int.toNat x1519)) fun x1531 =>
      grd (0 ≤ x1520 ∧ x1520 < ((n1475 : Nat) : Int)) <|
      grd ((Int.toNat x1520) < List.length c1523) <|
      getI .i64 (gp c1523 (Int.toNat x1520)) fun x1536 =>
      grd (((Int.toNat x1519) + 1) ≤ List.length c1522) <|
      grd (((Int.toNat x1520) + 1) ≤ List.length c1523) <|
      getI .i64 (gp (List.set c1522 (Int.toNat x1519) (.int .i64 (IntKind.i64.wrap (x1531 - (minI x1531 x1536))))) (Int.toNat x1519)) fun x1540 =>
      brn (x1540 == 0) (
        brn (decide ((IntKind.i64.wrap (x1519 + 1)) < ((n1329 : Nat) : Int))) (
          m63_L2 N n1329 n1475 n (n1518 + 1) (IntKind.i64.wrap (x1519 + 1)) x1520 (c1521 ++ [(.int .i64 x1519), (.int .i64 x1520)]) (List.set c1522 (Int.toNat x1519) (.int .i64 (IntKind.i64.wrap (x1531 - (minI x1531 x1536))))) (List.set c1523 (Int.toNat x1520) (.int .i64 (IntKind.i64.wrap (x1536 - (minI x1531 x1536)))))) (
          m63_L2 N n1329 n1475 n (n1518 + 1) x1519 (IntKind.i64.wrap (x1520 + 1)) (c1521 ++ [(.int .i64 x1519), (.int .i64 x1520)]) (List.set c1522 (Int.toNat x1519) (.int .i64 (IntKind.i64.wrap (x1531 - (minI x1531 x1536))))) (List.set c1523 (Int.toNat x1520) (.int .i64 (IntKind.i64.wrap (x1536 - (minI x1531 x1536))))))) (
        m63_L2 N n1329 n1475 n (n1518 + 1) x1519 (IntKind.i64.wrap (x1520 + 1)) (c1521 ++ [(.int .i64 x1519), (.int .i64 x1520)]) (List.set c1522 (Int.toNat x1519) (.int .i64 (IntKind.i64.wrap (x1531 - (minI x1531 x1536))))) (List.set c1523 (Int.toNat x1520) (.int .i64 (IntKind.i64.wrap (x1536 - (minI x1531 x1536))))))) (
      some (n1518, c1521))
def m63_L3 (N : Nat) (n1329 : Nat) (n1475 : Nat) : Nat → Nat → Int → Int → List PV → List PV → List PV → Option ((Nat × List PV))
  | 0, _, _, _, _, _, _ => none
  | n + 1, n1585, x1586, x1587, c1588, c1589, c1590 =>
    brn (decide (x1587 < ((n1475 : Nat) : Int))) (
      grd ((n1585 + 1) ≤ 1099511627776) <|
      grd (List.length c1588 = (n1585 * 2)) <|
      grd (0 ≤ x1586 ∧ x1586 < ((n1329 : Nat) : Int)) <|
      grd ((Int.toNat x1586) < List.length c1589) <|
      getI .i64 (gp c1589 (Int.toNat x1586)) fun x1598 =>
      grd (0 ≤ x1587 ∧ x1587 < ((n1475 : Nat) : Int)) <|
      grd ((Int.toNat x1587) < List.length c1590) <|
      getI .i64 (gp c1590 (Int.toNat x1587)) fun x1603 =>
      grd (((Int.toNat x1586) + 1) ≤ List.length c1589) <|
      grd (((Int.toNat x1587) + 1) ≤ List.length c1590) <|
      getI .i64 (gp (List.set c1589 (Int.toNat x1586) (.int .i64 (IntKind.i64.wrap (x1598 - (minI x1598 x1603))))) (Int.toNat x1586)) fun x1607 =>
      brn (x1607 == 0) (
        brn (decide ((IntKind.i64.wrap (x1586 + 1)) < ((n1329 : Nat) : Int))) (
          m63_L3 N n1329 n1475 n (n1585 + 1) (IntKind.i64.wrap (x1586 + 1)) x1587 (c1588 ++ [(.int .i64 x1586), (.int .i64 x1587)]) (List.set c1589 (Int.toNat x1586) (.int .i64 (IntKind.i64.wrap (x1598 - (minI x1598 x1603))))) (List.set c1590 (Int.toNat x1587) (.int .i64 (IntKind.i64.wrap (x1603 - (minI x1598 x1603)))))) (
          m63_L3 N n1329 n1475 n (n1585 + 1) x1586 (IntKind.i64.wrap (x1587 + 1)) (c1588 ++ [(.int .i64 x1586), (.int .i64 x1587)]) (List.set c1589 (Int.toNat x1586) (.int .i64 (IntKind.i64.wrap (x1598 - (minI x1598 x1603))))) (List.set c1590 (Int.toNat x1587) (.int .i64 (IntKind.i64.wrap (x1603 - (minI x1598 x1603))))))) (
        m63_L3 N n1329 n1475 n (n1585 + 1) x1586 (IntKind.i64.wrap (x1587 + 1)) (c1588 ++ [(.int .i64 x1586), (.int .i64 x1587)]) (List.set c1589 (Int.toNat x1586) (.int .i64 (IntKind.i64.wrap (x1598 - (minI x1598 x1603))))) (List.set c1590 (Int.toNat x1587) (.int .i64 (IntKind.i64.wrap (x1603 - (minI x1598 x1603))))))) (
      some (n1585, c1588))
def m63 (N : Nat) (p1324 : PV) : Option (PV) :=
  getA2 p1324 fun p1326 p1327 =>
  getL p1326 fun n1329 c1330 =>
  grd (List.length c1330 = n1329) <|
  brn (decide (0 < n1329)) (
    grd (n1329 ≤ 1099511627776) <|
    getL p1327 fun n1335 c1336 =>
    grd (List.length c1336 = n1335) <|
    brn (decide (0 < n1335)) (
      grd (n1335 ≤ 1099511627776) <|
      bnd' (m63_L0 N n1329 n1335 N 0 0 0 [] c1330 c1336) fun o =>
      match o with
      | (n1403, c1404) =>
        grd (List.length c1404 = (n1403 * 2)) <|
        some (.lst false n1403 c1404)) (
      grd (n1335 ≤ 1099511627776) <|
      bnd' (m63_L1 N n1329 n1335 N 0 0 0 [] c1330 c1336) fun o =>
      match o with
      | (n1470, c1471) =>
        grd (List.length c1471 = (n1470 * 2)) <|
        some (.lst false n1470 c1471))) (
    grd (n1329 ≤ 1099511627776) <|
    getL p1327 fun n1475 c1476 =>
    grd (List.length c1476 = n1475) <|
    brn (decide (0 < n1475)) (
      grd (n1475 ≤ 1099511627776) <|
      bnd' (m63_L2 N n1329 n1475 N 0 0 0 [] c1330 c1476) fun o =>
      match o with
      | (n1543, c1544) =>
        grd (List.length c1544 = (n1543 * 2)) <|
        some (.lst false n1543 c1544)) (
      grd (n1475 ≤ 1099511627776) <|
      bnd' (m63_L3 N n1329 n1475 N 0 0 0 [] c1330 c1476) fun o =>
      match o with
      | (n1610, c1611) =>
        grd (List.length c1611 = (n1610 * 2)) <|
        some (.lst false n1610 c1611)))
theorem c63 (N : Nat) (p1324 : PV) (r : PV)  (h : m63 N p1324 = some r) : FnP Try.prog 63 [p1324] r := by
  unfold m63 at h
  refine Fn_of (sz := 67) tab_ok [0, 1, 2, 3, 4, 5, 6, 7, 8, 20, 61] [.tmp 2] Try.func63 rfl rfl rfl (by simp) ?_
  simp only [initSt, initEnv, List.map_cons, List.map_nil, List.getD_cons_zero, List.getD_cons_succ, List.getD_nil]
  have hh := getA2_some h; clear h; obtain ⟨p1326, p1327, h1325, h⟩ := hh
  have hh := getL_some h; clear h; obtain ⟨n1329, c1330, h1328, h⟩ := hh
  have hh := grd_some h; clear h; obtain ⟨g1331, h⟩ := hh
  have hh := brn_some h; clear h; rcases hh with ⟨h1332, h⟩ | ⟨h1332, h⟩
  · have hh := grd_some h; clear h; obtain ⟨g1333, h⟩ := hh
    have hh := getL_some h; clear h; obtain ⟨n1335, c1336, h1334, h⟩ := hh
    have hh := grd_some h; clear h; obtain ⟨g1337, h⟩ := hh
    have hh := brn_some h; clear h; rcases hh with ⟨h1338, h⟩ | ⟨h1338, h⟩
    · have hh := grd_some h; clear h; obtain ⟨g1339, h⟩ := hh
      refine W_sound tab_ok mixed 31 _ _ _ ?_
      simp -implicitDefEqProofs only [go_sem, qa, qb, qc, qd, qe, qf, qg, qh, qi, qj, qk, ↓reduceIte, h1325, h1328, g1331, h1332, g1333, h1334, g1337, h1338, g1339]
      repeat with_reducible refine ⟨by first | kernel_rfl | decide, ?_⟩
      refine Wp_weaken (Wk_ownS 3 2 rfl (by decide) (by decide)) ?_
      simp -implicitDefEqProofs only [go_sem, qa, qb, qc, qd, qe, qf, qg, qh, qi, qj, qk, ↓reduceIte, h1325, h1328, g1331, h1332, g1333, h1334, g1337, h1338, g1339]
      have hh := bnd'_some h; clear h; obtain ⟨o1613, h1614, h1615⟩ := hh
      refine Wp_cut (fun s => ∃ n1403, ∃ c1404, (n1403, c1404) = o1613 ∧ s = ⟨[], [(0, .dead), (1, .dead), (2, .dead), (3, .sl false 0 0 n1403 2), (4, .dead), (5, .dead), (6, .dead), (7, .dead), (8, .dead), (20, .dead), (61, .dead)], [(0, .p c1404)], 1, []⟩) ?_ ?_
      · refine Wp_block ?_
        refine Wp_loopG (fun n s => ∃ n1378, ∃ x1379, ∃ x1380, ∃ c1381, ∃ c1382, ∃ c1383, m63_L0 N n1329 n1335 n n1378 x1379 x1380 c1381 c1382 c1383 = some o1613 ∧ s = ⟨[], [(0, .dead), (1, .dead), (2, .dead), (3, .sl false 0 0 n1378 2), (4, .sl false 1 0 n1329 1), (5, .sl false 2 0 n1335 1), (6, .v (.int .i64 x1379)), (7, .v (.int .i64 x1380)), (8, .dead), (20, .dead), (61, .dead)], [(0, .p c1381), (1, .p c1382), (2, .p c1383)], 3, []⟩) N _ ((Wk_le (.k (.k (.k (.r (.r (.r (.r (.r (.r (.r (.r .nil))))))))))) (OLe.refl _)).trans (cmpS_ok (st' := ⟨[], [(0, .dead), (1, .dead), (2, .dead), (3, .sl false 0 0 0 2), (4, .sl false 1 0 n1329 1), (5, .sl false 2 0 n1335 1), (6, .v (.int .i64 0)), (7, .v (.int .i64 0)), (8, .dead), (20, .dead), (61, .dead)], [(0, .p []), (1, .p c1330), (2, .p c1336)], 3, []⟩) (by kernel_rfl))) ⟨_, _, _, _, _, _, h1614, rfl⟩ ?_
        clear h1614
        rintro n _ ⟨n1378, x1379, x1380, c1381, c1382, c1383, h1614, rfl⟩
        cases n with
        | zero => cases h1614
        | succ n =>
          rw [m63_L0] at h1614
          have hh := brn_some h1614; clear h1614; rcases hh with ⟨h1384, h1614⟩ | ⟨h1384, h1614⟩
          · have hh := grd_some h1614; clear h1614; obtain ⟨g1385, h1614⟩ := hh
            have hh := grd_some h1614; clear h1614; obtain ⟨g1386, h1614⟩ := hh
            have hh := grd_some h1614; clear h1614; obtain ⟨⟨g1387, g1388⟩, h1614⟩ := hh
            have hh := grd_some h1614; clear h1614; obtain ⟨g1389, h1614⟩ := hh
            have hh := getI_some h1614; clear h1614; obtain ⟨x1391, h1390, h1614⟩ := hh
            have hh := grd_some h1614; clear h1614; obtain ⟨⟨g1392, g1393⟩, h1614⟩ := hh
            have hh := grd_some h1614; clear h1614; obtain ⟨g1394, h1614⟩ := hh
            have hh := getI_some h1614; clear h1614; obtain ⟨x1396, h1395, h1614⟩ := hh
            have hh := grd_some h1614; clear h1614; obtain ⟨g1397, h1614⟩ := hh
            have hh := grd_some h1614; clear h1614; obtain ⟨g1398, h1614⟩ := hh
            have hh := getI_some h1614; clear h1614; obtain ⟨x1400, h1399, h1614⟩ := hh
            have hh := brn_some h1614; clear h1614; rcases hh with ⟨h1401, h1614⟩ | ⟨h1401, h1614⟩
            · have hh := brn_some h1614; clear h1614; rcases hh with ⟨h1402, h1614⟩ | ⟨h1402, h1614⟩
              · refine W_sound tab_ok mixed 78 _ _ _ ?_
                simp -implicitDefEqProofs only [go_sem, qa, qb, qc, qd, qe, qf, qg, qh, qi, qj, qk, ↓reduceIte, h1325, h1328, g1331, h1332, g1333, h1334, g1337, h1338, g1339, h1384, g1385, g1386, g1387, g1388, g1389, h1390, g1392, g1393, g1394, h1395, g1397, g1398, h1399, h1401, h1402]
                repeat with_reducible refine ⟨by first | kernel_rfl | decide, ?_⟩
                exact cutQ _ ((Wk_le (.r (.r (.r (.r (.r (.r (.r (.r (.k (.k (.k .nil))))))))))) (OLe.refl _)).trans (cmpS_ok (st' := ⟨[], [(0, .dead), (1, .dead), (2, .dead), (3, .sl false 0 0 (n1378 + 1) 2), (4, .sl false 1 0 n1329 1), (5, .sl false 2 0 n1335 1), (6, .v (.int .i64 (IntKind.i64.wrap (x1379 + 1)))), (7, .v (.int .i64 x1380)), (8, .dead), (20, .dead), (61, .dead)], [(0, .p (c1381 ++ [(.int .i64 x1379), (.int .i64 x1380)])), (1, .p (List.set c1382 (Int.toNat x1379) (.int .i64 (IntKind.i64.wrap (x1391 - (minI x1391 x1396)))))), (2, .p (List.set c1383 (Int.toNat x1380) (.int .i64 (IntKind.i64.wrap (x1396 - (minI x1391 x1396))))))], 3, []⟩) (by kernel_rfl))) ⟨n, Nat.lt_succ_self n, _, _, _, _, _, _, h1614, rfl⟩
              · refine W_sound tab_ok mixed 78 _ _ _ ?_
                simp -implicitDefEqProofs only [go_sem, qa, qb, qc, qd, qe, qf, qg, qh, qi, qj, qk, ↓reduceIte, h1325, h1328, g1331, h1332, g1333, h1334, g1337, h1338, g1339, h1384, g1385, g1386, g1387, g1388, g1389, h1390, g1392, g1393, g1394, h1395, g1397, g1398, h1399, h1401, h1402]
                repeat with_reducible refine ⟨by first | kernel_rfl | decide, ?_⟩
                exact cutQ _ ((Wk_le (.r (.r (.r (.r (.r (.r (.r (.r (.k (.k (.k .nil))))))))))) (OLe.refl _)).trans (cmpS_ok (st' := ⟨[], [(0, .dead), (1, .dead), (2, .dead), (3, .sl false 0 0 (n1378 + 1) 2), (4, .sl false 1 0 n1329 1), (5, .sl false 2 0 n1335 1), (6, .v (.int .i64 x1379)), (7, .v (.int .i64 (IntKind.i64.wrap (x1380 + 1)))), (8, .dead), (20, .dead), (61, .dead)], [(0, .p (c1381 ++ [(.int .i64 x1379), (.int .i64 x1380)])), (1, .p (List.set c1382 (Int.toNat x1379) (.int .i64 (IntKind.i64.wrap (x1391 - (minI x1391 x1396)))))), (2, .p (List.set c1383 (Int.toNat x1380) (.int .i64 (IntKind.i64.wrap (x1396 - (minI x1391 x1396))))))], 3, []⟩) (by kernel_rfl))) ⟨n, Nat.lt_succ_self n, _, _, _, _, _, _, h1614, rfl⟩
            · refine W_sound tab_ok mixed 78 _ _ _ ?_
              simp -implicitDefEqProofs only [go_sem, qa, qb, qc, qd, qe, qf, qg, qh, qi, qj, qk, ↓reduceIte, h1325, h1328, g1331, h1332, g1333, h1334, g1337, h1338, g1339, h1384, g1385, g1386, g1387, g1388, g1389, h1390, g1392, g1393, g1394, h1395, g1397, g1398, h1399, h1401]
              repeat with_reducible refine ⟨by first | kernel_rfl | decide, ?_⟩
              exact cutQ _ ((Wk_le (.r (.r (.r (.r (.r (.r (.r (.r (.k (.k (.k .nil))))))))))) (OLe.refl _)).trans (cmpS_ok (st' := ⟨[], [(0, .dead), (1, .dead), (2, .dead), (3, .sl false 0 0 (n1378 + 1) 2), (4, .sl false 1 0 n1329 1), (5, .sl false 2 0 n1335 1), (6, .v (.int .i64 x1379)), (7, .v (.int .i64 (IntKind.i64.wrap (x1380 + 1)))), (8, .dead), (20, .dead), (61, .dead)], [(0, .p (c1381 ++ [(.int .i64 x1379), (.int .i64 x1380)])), (1, .p (List.set c1382 (Int.toNat x1379) (.int .i64 (IntKind.i64.wrap (x1391 - (minI x1391 x1396)))))), (2, .p (List.set c1383 (Int.toNat x1380) (.int .i64 (IntKind.i64.wrap (x1396 - (minI x1391 x1396))))))], 3, []⟩) (by kernel_rfl))) ⟨n, Nat.lt_succ_self n, _, _, _, _, _, _, h1614, rfl⟩
          · refine W_sound tab_ok mixed 10 _ _ _ ?_
            simp -implicitDefEqProofs only [go_sem, qa, qb, qc, qd, qe, qf, qg, qh, qi, qj, qk, ↓reduceIte, h1325, h1328, g1331, h1332, g1333, h1334, g1337, h1338, g1339, h1384]
            repeat with_reducible refine ⟨by first | kernel_rfl | decide, ?_⟩
            obtain rfl := Option.some.inj h1614
            exact cutQ _ ((Wk_le (.r (.r (.r (.r (.k (.k (.k (.k (.r (.k (.r .nil))))))))))) (OLe.refl _)).trans (cmpS_ok (st' := ⟨[], [(0, .dead), (1, .dead), (2, .dead), (3, .sl false 0 0 n1378 2), (4, .dead), (5, .dead), (6, .dead), (7, .dead), (8, .dead), (20, .dead), (61, .dead)], [(0, .p c1381)], 1, []⟩) (by kernel_rfl))) ⟨_, _, rfl, rfl⟩
      · rintro _ ⟨n1403, c1404, rfl, rfl⟩
        (try dsimp only at h1615)
        refine W_sound tab_ok mixed 7 _ _ _ ?_
        simp -implicitDefEqProofs only [go_sem, qa, qb, qc, qd, qe, qf, qg, qh, qi, qj, qk, ↓reduceIte, h1325, h1328, g1331, h1332, g1333, h1334, g1337, h1338, g1339]
        repeat with_reducible refine ⟨by first | kernel_rfl | decide, ?_⟩
        have hh := grd_some h1615; clear h1615; obtain ⟨g1405, h1615⟩ := hh
        refine FinQ_wk (Wk_freeze 0 c1404 (by rfl) (by decide) (by decide)) ?_
        simp -implicitDefEqProofs only [go_sem, qa, qb, qc, qd, qe, qf, qg, qh, qi, qj, qk, ↓reduceIte, h1325, h1328, g1331, h1332, g1333, h1334, g1337, h1338, g1339, g1405]
        obtain rfl := Option.some.inj h1615
        exact finC [(2, .v (.lst false n1403 c1404))] [(2, .v (.lst false n1403 c1404))] (by simp [leE, lk_cons]) (.cons _ _ _ _ _ (.v _ _ (.refl _)) .nil) (by rfl) (by simp [leE, lk_cons]) (by decide) (by decide) rfl (by simp only [go_sem, qa, qb, qc, qd, qe, qf, qg, qh, qi, qj, qk, ↓reduceIte, resQ_tmp, resQ_cell, resQ_nil, retD_one, retD_two, retD_three, retD_none]; try simp [R.val, retD_one, retD_two, retD_three, retD_none])
    · have hh := grd_some h; clear h; obtain ⟨g1406, h⟩ := hh
      refine W_sound tab_ok mixed 31 _ _ _ ?_
      simp -implicitDefEqProofs only [go_sem, qa, qb, qc, qd, qe, qf, qg, qh, qi, qj, qk, ↓reduceIte, h1325, h1328, g1331, h1332, g1333, h1334, g1337, h1338, g1406]
      repeat with_reducible refine ⟨by first | kernel_rfl | decide, ?_⟩
      refine Wp_weaken (Wk_ownS 3 2 rfl (by decide) (by decide)) ?_
      simp -implicitDefEqProofs only [go_sem, qa, qb, qc, qd, qe, qf, qg, qh, qi, qj, qk, ↓reduceIte, h1325, h1328, g1331, h1332, g1333, h1334, g1337, h1338, g1406]
      have hh := bnd'_some h; clear h; obtain ⟨o1616, h1617, h1618⟩ := hh
      refine Wp_cut (fun s => ∃ n1470, ∃ c1471, (n1470, c1471) = o1616 ∧ s = ⟨[], [(0, .dead), (1, .dead), (2, .dead), (3, .sl false 0 0 n1470 2), (4, .dead), (5, .dead), (6, .dead), (7, .dead), (8, .dead), (20, .dead), (61, .dead)], [(0, .p c1471)], 1, []⟩) ?_ ?_
      · refine Wp_block ?_
        refine Wp_loopG (fun n s => ∃ n1445, ∃ x1446, ∃ x1447, ∃ c1448, ∃ c1449, ∃ c1450, m63_L1 N n1329 n1335 n n1445 x1446 x1447 c1448 c1449 c1450 = some o1616 ∧ s = ⟨[], [(0, .dead), (1, .dead), (2, .dead), (3, .sl false 0 0 n1445 2), (4, .sl false 1 0 n1329 1), (5, .sl false 2 0 n1335 1), (6, .v (.int .i64 x1446)), (7, .v (.int .i64 x1447)), (8, .dead), (20, .dead), (61, .dead)], [(0, .p c1448), (1, .p c1449), (2, .p c1450)], 3, []⟩) N _ ((Wk_le (.k (.k (.k (.r (.r (.r (.r (.r (.r (.r (.r .nil))))))))))) (OLe.refl _)).trans (cmpS_ok (st' := ⟨[], [(0, .dead), (1, .dead), (2, .dead), (3, .sl false 0 0 0 2), (4, .sl false 1 0 n1329 1), (5, .sl false 2 0 n1335 1), (6, .v (.int .i64 0)), (7, .v (.int .i64 0)), (8, .dead), (20, .dead), (61, .dead)], [(0, .p []), (1, .p c1330), (2, .p c1336)], 3, []⟩) (by kernel_rfl))) ⟨_, _, _, _, _, _, h1617, rfl⟩ ?_
        clear h1617
        rintro n _ ⟨n1445, x1446, x1447, c1448, c1449, c1450, h1617, rfl⟩
        cases n with
        | zero => cases h1617
        | succ n =>
          rw [m63_L1] at h1617
          have hh := brn_some h1617; clear h1617; rcases hh with ⟨h1451, h1617⟩ | ⟨h1451, h1617⟩
          · have hh := grd_some h1617; clear h1617; obtain ⟨g1452, h1617⟩ := hh
            have hh := grd_some h1617; clear h1617; obtain ⟨g1453, h1617⟩ := hh
            have hh := grd_some h1617; clear h1617; obtain ⟨⟨g1454, g1455⟩, h1617⟩ := hh
            have hh := grd_some h1617; clear h1617; obtain ⟨g1456, h1617⟩ := hh
            have hh := getI_some h1617; clear h1617; obtain ⟨x1458, h1457, h1617⟩ := hh
            have hh := grd_some h1617; clear h1617; obtain ⟨⟨g1459, g1460⟩, h1617⟩ := hh
            have hh := grd_some h1617; clear h1617; obtain ⟨g1461, h1617⟩ := hh
            have hh := getI_some h1617; clear h1617; obtain ⟨x1463, h1462, h1617⟩ := hh
            have hh := grd_some h1617; clear h1617; obtain ⟨g1464, h1617⟩ := hh
            have hh := grd_some h1617; clear h1617; obtain ⟨g1465, h1617⟩ := hh
            have hh := getI_some h1617; clear h1617; obtain ⟨x1467, h1466, h1617⟩ := hh
            have hh := brn_some h1617; clear h1617; rcases hh with ⟨h1468, h1617⟩ | ⟨h1468, h1617⟩
            · have hh := brn_some h1617; clear h1617; rcases hh with ⟨h1469, h1617⟩ | ⟨h1469, h1617⟩
              · refine W_sound tab_ok mixed 78 _ _ _ ?_
                simp -implicitDefEqProofs only [go_sem, qa, qb, qc, qd, qe, qf, qg, qh, qi, qj, qk, ↓reduceIte, h1325, h1328, g1331, h1332, g1333, h1334, g1337, h1338, g1406, h1451, g1452, g1453, g1454, g1455, g1456, h1457, g1459, g1460, g1461, h1462, g1464, g1465, h1466, h1468, h1469]
                repeat with_reducible refine ⟨by first | kernel_rfl | decide, ?_⟩
                exact cutQ _ ((Wk_le (.r (.r (.r (.r (.r (.r (.r (.r (.k (.k (.k .nil))))))))))) (OLe.refl _)).trans (cmpS_ok (st' := ⟨[], [(0, .dead), (1, .dead), (2, .dead), (3, .sl false 0 0 (n1445 + 1) 2), (4, .sl false 1 0 n1329 1), (5, .sl false 2 0 n1335 1), (6, .v (.int .i64 (IntKind.i64.wrap (x1446 + 1)))), (7, .v (.int .i64 x1447)), (8, .dead), (20, .dead), (61, .dead)], [(0, .p (c1448 ++ [(.int .i64 x1446), (.int .i64 x1447)])), (1, .p (List.set c1449 (Int.toNat x1446) (.int .i64 (IntKind.i64.wrap (x1458 - (minI x1458 x1463)))))), (2, .p (List.set c1450 (Int.toNat x1447) (.int .i64 (IntKind.i64.wrap (x1463 - (minI x1458 x1463))))))], 3, []⟩) (by kernel_rfl))) ⟨n, Nat.lt_succ_self n, _, _, _, _, _, _, h1617, rfl⟩
              · refine W_sound tab_ok mixed 78 _ _ _ ?_
                simp -implicitDefEqProofs only [go_sem, qa, qb, qc, qd, qe, qf, qg, qh, qi, qj, qk, ↓reduceIte, h1325, h1328, g1331, h1332, g1333, h1334, g1337, h1338, g1406, h1451, g1452, g1453, g1454, g1455, g1456, h1457, g1459, g1460, g1461, h1462, g1464, g1465, h1466, h1468, h1469]
                repeat with_reducible refine ⟨by first | kernel_rfl | decide, ?_⟩
                exact cutQ _ ((Wk_le (.r (.r (.r (.r (.r (.r (.r (.r (.k (.k (.k .nil))))))))))) (OLe.refl _)).trans (cmpS_ok (st' := ⟨[], [(0, .dead), (1, .dead), (2, .dead), (3, .sl false 0 0 (n1445 + 1) 2), (4, .sl false 1 0 n1329 1), (5, .sl false 2 0 n1335 1), (6, .v (.int .i64 x1446)), (7, .v (.int .i64 (IntKind.i64.wrap (x1447 + 1)))), (8, .dead), (20, .dead), (61, .dead)], [(0, .p (c1448 ++ [(.int .i64 x1446), (.int .i64 x1447)])), (1, .p (List.set c1449 (Int.toNat x1446) (.int .i64 (IntKind.i64.wrap (x1458 - (minI x1458 x1463)))))), (2, .p (List.set c1450 (Int.toNat x1447) (.int .i64 (IntKind.i64.wrap (x1463 - (minI x1458 x1463))))))], 3, []⟩) (by kernel_rfl))) ⟨n, Nat.lt_succ_self n, _, _, _, _, _, _, h1617, rfl⟩
            · refine W_sound tab_ok mixed 78 _ _ _ ?_
              simp -implicitDefEqProofs only [go_sem, qa, qb, qc, qd, qe, qf, qg, qh, qi, qj, qk, ↓reduceIte, h1325, h1328, g1331, h1332, g1333, h1334, g1337, h1338, g1406, h1451, g1452, g1453, g1454, g1455, g1456, h1457, g1459, g1460, g1461, h1462, g1464, g1465, h1466, h1468]
              repeat with_reducible refine ⟨by first | kernel_rfl | decide, ?_⟩
              exact cutQ _ ((Wk_le (.r (.r (.r (.r (.r (.r (.r (.r (.k (.k (.k .nil))))))))))) (OLe.refl _)).trans (cmpS_ok (st' := ⟨[], [(0, .dead), (1, .dead), (2, .dead), (3, .sl false 0 0 (n1445 + 1) 2), (4, .sl false 1 0 n1329 1), (5, .sl false 2 0 n1335 1), (6, .v (.int .i64 x1446)), (7, .v (.int .i64 (IntKind.i64.wrap (x1447 + 1)))), (8, .dead), (20, .dead), (61, .dead)], [(0, .p (c1448 ++ [(.int .i64 x1446), (.int .i64 x1447)])), (1, .p (List.set c1449 (Int.toNat x1446) (.int .i64 (IntKind.i64.wrap (x1458 - (minI x1458 x1463)))))), (2, .p (List.set c1450 (Int.toNat x1447) (.int .i64 (IntKind.i64.wrap (x1463 - (minI x1458 x1463))))))], 3, []⟩) (by kernel_rfl))) ⟨n, Nat.lt_succ_self n, _, _, _, _, _, _, h1617, rfl⟩
          · refine W_sound tab_ok mixed 10 _ _ _ ?_
            simp -implicitDefEqProofs only [go_sem, qa, qb, qc, qd, qe, qf, qg, qh, qi, qj, qk, ↓reduceIte, h1325, h1328, g1331, h1332, g1333, h1334, g1337, h1338, g1406, h1451]
            repeat with_reducible refine ⟨by first | kernel_rfl | decide, ?_⟩
            obtain rfl := Option.some.inj h1617
            exact cutQ _ ((Wk_le (.r (.r (.r (.r (.k (.k (.k (.k (.r (.k (.r .nil))))))))))) (OLe.refl _)).trans (cmpS_ok (st' := ⟨[], [(0, .dead), (1, .dead), (2, .dead), (3, .sl false 0 0 n1445 2), (4, .dead), (5, .dead), (6, .dead), (7, .dead), (8, .dead), (20, .dead), (61, .dead)], [(0, .p c1448)], 1, []⟩) (by kernel_rfl))) ⟨_, _, rfl, rfl⟩
      · rintro _ ⟨n1470, c1471, rfl, rfl⟩
        (try dsimp only at h1618)
        refine W_sound tab_ok mixed 7 _ _ _ ?_
        simp -implicitDefEqProofs only [go_sem, qa, qb, qc, qd, qe, qf, qg, qh, qi, qj, qk, ↓reduceIte, h1325, h1328, g1331, h1332, g1333, h1334, g1337, h1338, g1406]
        repeat with_reducible refine ⟨by first | kernel_rfl | decide, ?_⟩
        have hh := grd_some h1618; clear h1618; obtain ⟨g1472, h1618⟩ := hh
        refine FinQ_wk (Wk_freeze 0 c1471 (by rfl) (by decide) (by decide)) ?_
        simp -implicitDefEqProofs only [go_sem, qa, qb, qc, qd, qe, qf, qg, qh, qi, qj, qk, ↓reduceIte, h1325, h1328, g1331, h1332, g1333, h1334, g1337, h1338, g1406, g1472]
        obtain rfl := Option.some.inj h1618
        exact finC [(2, .v (.lst false n1470 c1471))] [(2, .v (.lst false n1470 c1471))] (by simp [leE, lk_cons]) (.cons _ _ _ _ _ (.v _ _ (.refl _)) .nil) (by rfl) (by simp [leE, lk_cons]) (by decide) (by decide) rfl (by simp only [go_sem, qa, qb, qc, qd, qe, qf, qg, qh, qi, qj, qk, ↓reduceIte, resQ_tmp, resQ_cell, resQ_nil, retD_one, retD_two, retD_three, retD_none]; try simp [R.val, retD_one, retD_two, retD_three, retD_none])
  · have hh := grd_some h; clear h; obtain ⟨g1473, h⟩ := hh
    have hh := getL_some h; clear h; obtain ⟨n1475, c1476, h1474, h⟩ := hh
    have hh := grd_some h; clear h; obtain ⟨g1477, h⟩ := hh
    have hh := brn_some h; clear h; rcases hh with ⟨h1478, h⟩ | ⟨h1478, h⟩
    · have hh := grd_some h; clear h; obtain ⟨g1479, h⟩ := hh
      refine W_sound tab_ok mixed 31 _ _ _ ?_
      simp -implicitDefEqProofs only [go_sem, qa, qb, qc, qd, qe, qf, qg, qh, qi, qj, qk, ↓reduceIte, h1325, h1328, g1331, h1332, g1473, h1474, g1477, h1478, g1479]
      repeat with_reducible refine ⟨by first | kernel_rfl | decide, ?_⟩
      refine Wp_weaken (Wk_ownS 3 2 rfl (by decide) (by decide)) ?_
      simp -implicitDefEqProofs only [go_sem, qa, qb, qc, qd, qe, qf, qg, qh, qi, qj, qk, ↓reduceIte, h1325, h1328, g1331, h1332, g1473, h1474, g1477, h1478, g1479]
      have hh := bnd'_some h; clear h; obtain ⟨o1619, h1620, h1621⟩ := hh
      refine Wp_cut (fun s => ∃ n1543, ∃ c1544, (n1543, c1544) = o1619 ∧ s = ⟨[], [(0, .dead), (1, .dead), (2, .dead), (3, .sl false 0 0 n1543 2), (4, .dead), (5, .dead), (6, .dead), (7, .dead), (8, .dead), (20, .dead), (61, .dead)], [(0, .p c1544)], 1, []⟩) ?_ ?_
      · refine Wp_block ?_
        refine Wp_loopG (fun n s => ∃ n1518, ∃ x1519, ∃ x1520, ∃ c1521, ∃ c1522, ∃ c1523, m63_L2 N n1329 n1475 n n1518 x1519 x1520 c1521 c1522 c1523 = some o1619 ∧ s = ⟨[], [(0, .dead), (1, .dead), (2, .dead), (3, .sl false 0 0 n1518 2), (4, .sl false 1 0 n1329 1), (5, .sl false 2 0 n1475 1), (6, .v (.int .i64 x1519)), (7, .v (.int .i64 x1520)), (8, .dead), (20, .dead), (61, .dead)], [(0, .p c1521), (1, .p c1522), (2, .p c1523)], 3, []⟩) N _ ((Wk_le (.k (.k (.k (.r (.r (.r (.r (.r (.r (.r (.r .nil))))))))))) (OLe.refl _)).trans (cmpS_ok (st' := ⟨[], [(0, .dead), (1, .dead), (2, .dead), (3, .sl false 0 0 0 2), (4, .sl false 1 0 n1329 1), (5, .sl false 2 0 n1475 1), (6, .v (.int .i64 0)), (7, .v (.int .i64 0)), (8, .dead), (20, .dead), (61, .dead)], [(0, .p []), (1, .p c1330), (2, .p c1476)], 3, []⟩) (by kernel_rfl))) ⟨_, _, _, _, _, _, h1620, rfl⟩ ?_
        clear h1620
        rintro n _ ⟨n1518, x1519, x1520, c1521, c1522, c1523, h1620, rfl⟩
        cases n with
        | zero => cases h1620
        | succ n =>
          rw [m63_L2] at h1620
          have hh := brn_some h1620; clear h1620; rcases hh with ⟨h1524, h1620⟩ | ⟨h1524, h1620⟩
          · have hh := grd_some h1620; clear h1620; obtain ⟨g1525, h1620⟩ := hh
            have hh := grd_some h1620; clear h1620; obtain ⟨g1526, h1620⟩ := hh
            have hh := grd_some h1620; clear h1620; obtain ⟨⟨g1527, g1528⟩, h1620⟩ := hh
            have hh := grd_some h1620; clear h1620; obtain ⟨g1529, h1620⟩ := hh
            have hh := getI_some h1620; clear h1620; obtain ⟨x1531, h1530, h1620⟩ := hh
            have hh := grd_some h1620; clear h1620; obtain ⟨⟨g1532, g1533⟩, h1620⟩ := hh
            have hh := grd_some h1620; clear h1620; obtain ⟨g1534, h1620⟩ := hh
            have hh := getI_some h1620; clear h1620; obtain ⟨x1536, h1535, h1620⟩ := hh
            have hh := grd_some h1620; clear h1620; obtain ⟨g1537, h1620⟩ := hh
            have hh := grd_some h1620; clear h1620; obtain ⟨g1538, h1620⟩ := hh
            have hh := getI_some h1620; clear h1620; obtain ⟨x1540, h1539, h1620⟩ := hh
            have hh := brn_some h1620; clear h1620; rcases hh with ⟨h1541, h1620⟩ | ⟨h1541, h1620⟩
            · have hh := brn_some h1620; clear h1620; rcases hh with ⟨h1542, h1620⟩ | ⟨h1542, h1620⟩
              · refine W_sound tab_ok mixed 78 _ _ _ ?_
                simp -implicitDefEqProofs only [go_sem, qa, qb, qc, qd, qe, qf, qg, qh, qi, qj, qk, ↓reduceIte, h1325, h1328, g1331, h1332, g1473, h1474, g1477, h1478, g1479, h1524, g1525, g1526, g1527, g1528, g1529, h1530, g1532, g1533, g1534, h1535, g1537, g1538, h1539, h1541, h1542]
                repeat with_reducible refine ⟨by first | kernel_rfl | decide, ?_⟩
                exact cutQ _ ((Wk_le (.r (.r (.r (.r (.r (.r (.r (.r (.k (.k (.k .nil))))))))))) (OLe.refl _)).trans (cmpS_ok (st' := ⟨[], [(0, .dead), (1, .dead), (2, .dead), (3, .sl false 0 0 (n1518 + 1) 2), (4, .sl false 1 0 n1329 1), (5, .sl false 2 0 n1475 1), (6, .v (.int .i64 (IntKind.i64.wrap (x1519 + 1)))), (7, .v (.int .i64 x1520)), (8, .dead), (20, .dead), (61, .dead)], [(0, .p (c1521 ++ [(.int .i64 x1519), (.int .i64 x1520)])), (1, .p (List.set c1522 (Int.toNat x1519) (.int .i64 (IntKind.i64.wrap (x1531 - (minI x1531 x1536)))))), (2, .p (List.set c1523 (Int.toNat x1520) (.int .i64 (IntKind.i64.wrap (x1536 - (minI x1531 x1536))))))], 3, []⟩) (by kernel_rfl))) ⟨n, Nat.lt_succ_self n, _, _, _, _, _, _, h1620, rfl⟩
              · refine W_sound tab_ok mixed 78 _ _ _ ?_
                simp -implicitDefEqProofs only [go_sem, qa, qb, qc, qd, qe, qf, qg, qh, qi, qj, qk, ↓reduceIte, h1325, h1328, g1331, h1332, g1473, h1474, g1477, h1478, g1479, h1524, g1525, g1526, g1527, g1528, g1529, h1530, g1532, g1533, g1534, h1535, g1537, g1538, h1539, h1541, h1542]
                repeat with_reducible refine ⟨by first | kernel_rfl | decide, ?_⟩
                exact cutQ _ ((Wk_le (.r (.r (.r (.r (.r (.r (.r (.r (.k (.k (.k .nil))))))))))) (OLe.refl _)).trans (cmpS_ok (st' := ⟨[], [(0, .dead), (1, .dead), (2, .dead), (3, .sl false 0 0 (n1518 + 1) 2), (4, .sl false 1 0 n1329 1), (5, .sl false 2 0 n1475 1), (6, .v (.int .i64 x1519)), (7, .v (.int .i64 (IntKind.i64.wrap (x1520 + 1)))), (8, .dead), (20, .dead), (61, .dead)], [(0, .p (c1521 ++ [(.int .i64 x1519), (.int .i64 x1520)])), (1, .p (List.set c1522 (Int.toNat x1519) (.int .i64 (IntKind.i64.wrap (x1531 - (minI x1531 x1536)))))), (2, .p (List.set c1523 (Int.toNat x1520) (.int .i64 (IntKind.i64.wrap (x1536 - (minI x1531 x1536))))))], 3, []⟩) (by kernel_rfl))) ⟨n, Nat.lt_succ_self n, _, _, _, _, _, _, h1620, rfl⟩
            · refine W_sound tab_ok mixed 78 _ _ _ ?_
              simp -implicitDefEqProofs only [go_sem, qa, qb, qc, qd, qe, qf, qg, qh, qi, qj, qk, ↓reduceIte, h1325, h1328, g1331, h1332, g1473, h1474, g1477, h1478, g1479, h1524, g1525, g1526, g1527, g1528, g1529, h1530, g1532, g1533, g1534, h1535, g1537, g1538, h1539, h1541]
              repeat with_reducible refine ⟨by first | kernel_rfl | decide, ?_⟩
              exact cutQ _ ((Wk_le (.r (.r (.r (.r (.r (.r (.r (.r (.k (.k (.k .nil))))))))))) (OLe.refl _)).trans (cmpS_ok (st' := ⟨[], [(0, .dead), (1, .dead), (2, .dead), (3, .sl false 0 0 (n1518 + 1) 2), (4, .sl false 1 0 n1329 1), (5, .sl false 2 0 n1475 1), (6, .v (.int .i64 x1519)), (7, .v (.int .i64 (IntKind.i64.wrap (x1520 + 1)))), (8, .dead), (20, .dead), (61, .dead)], [(0, .p (c1521 ++ [(.int .i64 x1519), (.int .i64 x1520)])), (1, .p (List.set c1522 (Int.toNat x1519) (.int .i64 (IntKind.i64.wrap (x1531 - (minI x1531 x1536)))))), (2, .p (List.set c1523 (Int.toNat x1520) (.int .i64 (IntKind.i64.wrap (x1536 - (minI x1531 x1536))))))], 3, []⟩) (by kernel_rfl))) ⟨n, Nat.lt_succ_self n, _, _, _, _, _, _, h1620, rfl⟩
          · refine W_sound tab_ok mixed 10 _ _ _ ?_
            simp -implicitDefEqProofs only [go_sem, qa, qb, qc, qd, qe, qf, qg, qh, qi, qj, qk, ↓reduceIte, h1325, h1328, g1331, h1332, g1473, h1474, g1477, h1478, g1479, h1524]
            repeat with_reducible refine ⟨by first | kernel_rfl | decide, ?_⟩
            obtain rfl := Option.some.inj h1620
            exact cutQ _ ((Wk_le (.r (.r (.r (.r (.k (.k (.k (.k (.r (.k (.r .nil))))))))))) (OLe.refl _)).trans (cmpS_ok (st' := ⟨[], [(0, .dead), (1, .dead), (2, .dead), (3, .sl false 0 0 n1518 2), (4, .dead), (5, .dead), (6, .dead), (7, .dead), (8, .dead), (20, .dead), (61, .dead)], [(0, .p c1521)], 1, []⟩) (by kernel_rfl))) ⟨_, _, rfl, rfl⟩
      · rintro _ ⟨n1543, c1544, rfl, rfl⟩
        (try dsimp only at h1621)
        refine W_sound tab_ok mixed 7 _ _ _ ?_
        simp -implicitDefEqProofs only [go_sem, qa, qb, qc, qd, qe, qf, qg, qh, qi, qj, qk, ↓reduceIte, h1325, h1328, g1331, h1332, g1473, h1474, g1477, h1478, g1479]
        repeat with_reducible refine ⟨by first | kernel_rfl | decide, ?_⟩
        have hh := grd_some h1621; clear h1621; obtain ⟨g1545, h1621⟩ := hh
        refine FinQ_wk (Wk_freeze 0 c1544 (by rfl) (by decide) (by decide)) ?_
        simp -implicitDefEqProofs only [go_sem, qa, qb, qc, qd, qe, qf, qg, qh, qi, qj, qk, ↓reduceIte, h1325, h1328, g1331, h1332, g1473, h1474, g1477, h1478, g1479, g1545]
        obtain rfl := Option.some.inj h1621
        exact finC [(2, .v (.lst false n1543 c1544))] [(2, .v (.lst false n1543 c1544))] (by simp [leE, lk_cons]) (.cons _ _ _ _ _ (.v _ _ (.refl _)) .nil) (by rfl) (by simp [leE, lk_cons]) (by decide) (by decide) rfl (by simp only [go_sem, qa, qb, qc, qd, qe, qf, qg, qh, qi, qj, qk, ↓reduceIte, resQ_tmp, resQ_cell, resQ_nil, retD_one, retD_two, retD_three, retD_none]; try simp [R.val, retD_one, retD_two, retD_three, retD_none])
    · have hh := grd_some h; clear h; obtain ⟨g1546, h⟩ := hh
      refine W_sound tab_ok mixed 31 _ _ _ ?_
      simp -implicitDefEqProofs only [go_sem, qa, qb, qc, qd, qe, qf, qg, qh, qi, qj, qk, ↓reduceIte, h1325, h1328, g1331, h1332, g1473, h1474, g1477, h1478, g1546]
      repeat with_reducible refine ⟨by first | kernel_rfl | decide, ?_⟩
      refine Wp_weaken (Wk_ownS 3 2 rfl (by decide) (by decide)) ?_
      simp -implicitDefEqProofs only [go_sem, qa, qb, qc, qd, qe, qf, qg, qh, qi, qj, qk, ↓reduceIte, h1325, h1328, g1331, h1332, g1473, h1474, g1477, h1478, g1546]
      have hh := bnd'_some h; clear h; obtain ⟨o1622, h1623, h1624⟩ := hh
      refine Wp_cut (fun s => ∃ n1610, ∃ c1611, (n1610, c1611) = o1622 ∧ s = ⟨[], [(0, .dead), (1, .dead), (2, .dead), (3, .sl false 0 0 n1610 2), (4, .dead), (5, .dead), (6, .dead), (7, .dead), (8, .dead), (20, .dead), (61, .dead)], [(0, .p c1611)], 1, []⟩) ?_ ?_
      · refine Wp_block ?_
        refine Wp_loopG (fun n s => ∃ n1585, ∃ x1586, ∃ x1587, ∃ c1588, ∃ c1589, ∃ c1590, m63_L3 N n1329 n1475 n n1585 x1586 x1587 c1588 c1589 c1590 = some o1622 ∧ s = ⟨[], [(0, .dead), (1, .dead), (2, .dead), (3, .sl false 0 0 n1585 2), (4, .sl false 1 0 n1329 1), (5, .sl false 2 0 n1475 1), (6, .v (.int .i64 x1586)), (7, .v (.int .i64 x1587)), (8, .dead), (20, .dead), (61, .dead)], [(0, .p c1588), (1, .p c1589), (2, .p c1590)], 3, []⟩) N _ ((Wk_le (.k (.k (.k (.r (.r (.r (.r (.r (.r (.r (.r .nil))))))))))) (OLe.refl _)).trans (cmpS_ok (st' := ⟨[], [(0, .dead), (1, .dead), (2, .dead), (3, .sl false 0 0 0 2), (4, .sl false 1 0 n1329 1), (5, .sl false 2 0 n1475 1), (6, .v (.int .i64 0)), (7, .v (.int .i64 0)), (8, .dead), (20, .dead), (61, .dead)], [(0, .p []), (1, .p c1330), (2, .p c1476)], 3, []⟩) (by kernel_rfl))) ⟨_, _, _, _, _, _, h1623, rfl⟩ ?_
        clear h1623
        rintro n _ ⟨n1585, x1586, x1587, c1588, c1589, c1590, h1623, rfl⟩
        cases n with
        | zero => cases h1623
        | succ n =>
          rw [m63_L3] at h1623
          have hh := brn_some h1623; clear h1623; rcases hh with ⟨h1591, h1623⟩ | ⟨h1591, h1623⟩
          · have hh := grd_some h1623; clear h1623; obtain ⟨g1592, h1623⟩ := hh
            have hh := grd_some h1623; clear h1623; obtain ⟨g1593, h1623⟩ := hh
            have hh := grd_some h1623; clear h1623; obtain ⟨⟨g1594, g1595⟩, h1623⟩ := hh
            have hh := grd_some h1623; clear h1623; obtain ⟨g1596, h1623⟩ := hh
            have hh := getI_some h1623; clear h1623; obtain ⟨x1598, h1597, h1623⟩ := hh
            have hh := grd_some h1623; clear h1623; obtain ⟨⟨g1599, g1600⟩, h1623⟩ := hh
            have hh := grd_some h1623; clear h1623; obtain ⟨g1601, h1623⟩ := hh
            have hh := getI_some h1623; clear h1623; obtain ⟨x1603, h1602, h1623⟩ := hh
            have hh := grd_some h1623; clear h1623; obtain ⟨g1604, h1623⟩ := hh
            have hh := grd_some h1623; clear h1623; obtain ⟨g1605, h1623⟩ := hh
            have hh := getI_some h1623; clear h1623; obtain ⟨x1607, h1606, h1623⟩ := hh
            have hh := brn_some h1623; clear h1623; rcases hh with ⟨h1608, h1623⟩ | ⟨h1608, h1623⟩
            · have hh := brn_some h1623; clear h1623; rcases hh with ⟨h1609, h1623⟩ | ⟨h1609, h1623⟩
              · refine W_sound tab_ok mixed 78 _ _ _ ?_
                simp -implicitDefEqProofs only [go_sem, qa, qb, qc, qd, qe, qf, qg, qh, qi, qj, qk, ↓reduceIte, h1325, h1328, g1331, h1332, g1473, h1474, g1477, h1478, g1546, h1591, g1592, g1593, g1594, g1595, g1596, h1597, g1599, g1600, g1601, h1602, g1604, g1605, h1606, h1608, h1609]
                repeat with_reducible refine ⟨by first | kernel_rfl | decide, ?_⟩
                exact cutQ _ ((Wk_le (.r (.r (.r (.r (.r (.r (.r (.r (.k (.k (.k .nil))))))))))) (OLe.refl _)).trans (cmpS_ok (st' := ⟨[], [(0, .dead), (1, .dead), (2, .dead), (3, .sl false 0 0 (n1585 + 1) 2), (4, .sl false 1 0 n1329 1), (5, .sl false 2 0 n1475 1), (6, .v (.int .i64 (IntKind.i64.wrap (x1586 + 1)))), (7, .v (.int .i64 x1587)), (8, .dead), (20, .dead), (61, .dead)], [(0, .p (c1588 ++ [(.int .i64 x1586), (.int .i64 x1587)])), (1, .p (List.set c1589 (Int.toNat x1586) (.int .i64 (IntKind.i64.wrap (x1598 - (minI x1598 x1603)))))), (2, .p (List.set c1590 (Int.toNat x1587) (.int .i64 (IntKind.i64.wrap (x1603 - (minI x1598 x1603))))))], 3, []⟩) (by kernel_rfl))) ⟨n, Nat.lt_succ_self n, _, _, _, _, _, _, h1623, rfl⟩
              · refine W_sound tab_ok mixed 78 _ _ _ ?_
                simp -implicitDefEqProofs only [go_sem, qa, qb, qc, qd, qe, qf, qg, qh, qi, qj, qk, ↓reduceIte, h1325, h1328, g1331, h1332, g1473, h1474, g1477, h1478, g1546, h1591, g1592, g1593, g1594, g1595, g1596, h1597, g1599, g1600, g1601, h1602, g1604, g1605, h1606, h1608, h1609]
                repeat with_reducible refine ⟨by first | kernel_rfl | decide, ?_⟩
                exact cutQ _ ((Wk_le (.r (.r (.r (.r (.r (.r (.r (.r (.k (.k (.k .nil))))))))))) (OLe.refl _)).trans (cmpS_ok (st' := ⟨[], [(0, .dead), (1, .dead), (2, .dead), (3, .sl false 0 0 (n1585 + 1) 2), (4, .sl false 1 0 n1329 1), (5, .sl false 2 0 n1475 1), (6, .v (.int .i64 x1586)), (7, .v (.int .i64 (IntKind.i64.wrap (x1587 + 1)))), (8, .dead), (20, .dead), (61, .dead)], [(0, .p (c1588 ++ [(.int .i64 x1586), (.int .i64 x1587)])), (1, .p (List.set c1589 (Int.toNat x1586) (.int .i64 (IntKind.i64.wrap (x1598 - (minI x1598 x1603)))))), (2, .p (List.set c1590 (Int.toNat x1587) (.int .i64 (IntKind.i64.wrap (x1603 - (minI x1598 x1603))))))], 3, []⟩) (by kernel_rfl))) ⟨n, Nat.lt_succ_self n, _, _, _, _, _, _, h1623, rfl⟩
            · refine W_sound tab_ok mixed 78 _ _ _ ?_
              simp -implicitDefEqProofs only [go_sem, qa, qb, qc, qd, qe, qf, qg, qh, qi, qj, qk, ↓reduceIte, h1325, h1328, g1331, h1332, g1473, h1474, g1477, h1478, g1546, h1591, g1592, g1593, g1594, g1595, g1596, h1597, g1599, g1600, g1601, h1602, g1604, g1605, h1606, h1608]
              repeat with_reducible refine ⟨by first | kernel_rfl | decide, ?_⟩
              exact cutQ _ ((Wk_le (.r (.r (.r (.r (.r (.r (.r (.r (.k (.k (.k .nil))))))))))) (OLe.refl _)).trans (cmpS_ok (st' := ⟨[], [(0, .dead), (1, .dead), (2, .dead), (3, .sl false 0 0 (n1585 + 1) 2), (4, .sl false 1 0 n1329 1), (5, .sl false 2 0 n1475 1), (6, .v (.int .i64 x1586)), (7, .v (.int .i64 (IntKind.i64.wrap (x1587 + 1)))), (8, .dead), (20, .dead), (61, .dead)], [(0, .p (c1588 ++ [(.int .i64 x1586), (.int .i64 x1587)])), (1, .p (List.set c1589 (Int.toNat x1586) (.int .i64 (IntKind.i64.wrap (x1598 - (minI x1598 x1603)))))), (2, .p (List.set c1590 (Int.toNat x1587) (.int .i64 (IntKind.i64.wrap (x1603 - (minI x1598 x1603))))))], 3, []⟩) (by kernel_rfl))) ⟨n, Nat.lt_succ_self n, _, _, _, _, _, _, h1623, rfl⟩
          · refine W_sound tab_ok mixed 10 _ _ _ ?_
            simp -implicitDefEqProofs only [go_sem, qa, qb, qc, qd, qe, qf, qg, qh, qi, qj, qk, ↓reduceIte, h1325, h1328, g1331, h1332, g1473, h1474, g1477, h1478, g1546, h1591]
            repeat with_reducible refine ⟨by first | kernel_rfl | decide, ?_⟩
            obtain rfl := Option.some.inj h1623
            exact cutQ _ ((Wk_le (.r (.r (.r (.r (.k (.k (.k (.k (.r (.k (.r .nil))))))))))) (OLe.refl _)).trans (cmpS_ok (st' := ⟨[], [(0, .dead), (1, .dead), (2, .dead), (3, .sl false 0 0 n1585 2), (4, .dead), (5, .dead), (6, .dead), (7, .dead), (8, .dead), (20, .dead), (61, .dead)], [(0, .p c1588)], 1, []⟩) (by kernel_rfl))) ⟨_, _, rfl, rfl⟩
      · rintro _ ⟨n1610, c1611, rfl, rfl⟩
        (try dsimp only at h1624)
        refine W_sound tab_ok mixed 7 _ _ _ ?_
        simp -implicitDefEqProofs only [go_sem, qa, qb, qc, qd, qe, qf, qg, qh, qi, qj, qk, ↓reduceIte, h1325, h1328, g1331, h1332, g1473, h1474, g1477, h1478, g1546]
        repeat with_reducible refine ⟨by first | kernel_rfl | decide, ?_⟩
        have hh := grd_some h1624; clear h1624; obtain ⟨g1612, h1624⟩ := hh
        refine FinQ_wk (Wk_freeze 0 c1611 (by rfl) (by decide) (by decide)) ?_
        simp -implicitDefEqProofs only [go_sem, qa, qb, qc, qd, qe, qf, qg, qh, qi, qj, qk, ↓reduceIte, h1325, h1328, g1331, h1332, g1473, h1474, g1477, h1478, g1546, g1612]
        obtain rfl := Option.some.inj h1624
        exact finC [(2, .v (.lst false n1610 c1611))] [(2, .v (.lst false n1610 c1611))] (by simp [leE, lk_cons]) (.cons _ _ _ _ _ (.v _ _ (.refl _)) .nil) (by rfl) (by simp [leE, lk_cons]) (by decide) (by decide) rfl (by simp only [go_sem, qa, qb, qc, qd, qe, qf, qg, qh, qi, qj, qk, ↓reduceIte, resQ_tmp, resQ_cell, resQ_nil, retD_one, retD_two, retD_three, retD_none]; try simp [R.val, retD_one, retD_two, retD_three, retD_none])
end Go.Proofs.Yteidcinajdehkaa
