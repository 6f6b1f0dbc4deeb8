/-
  Lists of numbers, and lists of them, as the functions of the chapter see them; checks of costs.
  Straight costs: what the functions say, and what neighbours tell.
  DealOrders: what the functions compute answers as the law says.
  DealOrders: the law's own orders (every two orders tried), and the law.
  What a law of the chapter is given: lists, and lists of them.
  DealOrders: at every argument of its type.
  DealOrders: the law returns true.
-/
import Derived.Test.YteidcinajdehkaaZOrdA
import Derived.Test.YteidcinajdehkaaZOrdB
import Derived.Test.YteidcinajdehkaaB
import Derived.Test.YteidcinajdehkaaK
import Derived.Test.YteidcinajdehkaaV34
import Derived.Test.YteidcinajdehkaaV32
import Derived.Test.YteidcinajdehkaaRows
import Derived.Test.YteidcinajdehkaaV31
import Derived.WalkKit
import Derived.ProofKit
import Derived.OpenShut
namespace Go.Proofs.Yteidcinajdehkaa
open Go.V
set_option maxRecDepth 100000
set_option maxHeartbeats 4000000
set_option linter.unusedSimpArgs false
set_option linter.unusedVariables false
attribute [local go_sem] tl1 tl2 tl3 tl4 tl5 tl9 tl17 tl21 tl22 tl23 tl24 tl25 tl26 tl27 tl28 tl29 tl30 tl32 tl33 tl35 tl36 tl37 tl38 tl39 tl40 tl41 tl42 tl43 tl44 tl46 tl48 tl50 tl51 tl52 tl53 tl54 tl56 tl58 tl59 tl60 tl61 tl62 tl63 tl64 tl65 tl66 tl67 tl68 tl69 tl70 tl72 tl74 tl75 tl76 tl77 tl78 tl79 tl80 tl81 tl82 tl83 tl84 tl85 tl86 tl87 tl88 tl89 tl90 tl91 tl92 tl93 tl94 tl95 tl96 tl97 tl98 tl99 tl100 tl101 tl102 tl103 tl104 tl105 tl106 tl107 tl108 tl109 tl110 tl111 tl112 tl113 tl114 tl115 tl116 tl117 tl118 tl119 tl120 tl121 tl122 tl128 tl129 tl133

def m100_L0 (N : Nat) (x1317 : Int) (n1319 : Nat) (c1320 : List PV) : Nat → Int → Option ((PV ⊕ Unit))
  | 0, _ => none
  | n + 1, x1321 =>
    brn (decide (x1321 < ((n1319 : Nat) : Int))) (
      grd (0 ≤ x1321 ∧ x1321 < ((n1319 : Nat) : Int)) <|
      grd (0 < List.length (List.drop (Int.toNat x1321) c1320)) <|
      getI .i64 (gp c1320 (Int.toNat x1321)) fun x1327 =>
      brn (x1327 == x1317) (
        some (.inl (.bool true))) (
        m100_L0 N x1317 n1319 c1320 n (IntKind.i64.wrap (x1321 + 1)))) (
      some (.inr ()))
def m100 (N : Nat) (p1316 : PV) (x1317 : Int) : Option (PV) :=
  getL p1316 fun n1319 c1320 =>
  bnd' (m100_L0 N x1317 n1319 c1320 N 0) fun o =>
  match o with
  | .inl p1329 =>
    some p1329
  | .inr () =>
    some (.bool false)
theorem c100 (N : Nat) (p1316 : PV) (x1317 : Int) (r : PV)  (h : m100 N p1316 x1317 = some r) : FnP Try.prog 100 [p1316, (.int .i64 x1317)] r := by
  unfold m100 at h
  refine Fn_of (sz := 18) tab_ok [0, 1, 4, 5, 9, 17] [.tmp 4] Try.func100 rfl rfl rfl (by simp) ?_
  simp only [initSt, initEnv, List.map_cons, List.map_nil, List.getD_cons_zero, List.getD_cons_succ, List.getD_nil]
  have hh := getL_some h; clear h; obtain ⟨n1319, c1320, h1318, h⟩ := hh
  refine W_sound tab_ok mixed 9 _ _ _ ?_
  simp -implicitDefEqProofs only [go_sem, ne_eq, not_false_eq_true, Nat.reduceBEq, Nat.reduceAdd, Nat.reduceSub, Nat.reduceMul, Nat.reduceLT, Nat.reduceLeDiff, Int.reduceLE, Int.reduceLT, Int.reduceToNat, Int.reduceBEq, Int.reduceBNe, Int.le_refl, Nat.le_refl, decide_true, decide_false, Int.cast_ofNat_Int, ↓reduceIte, h1318]
  repeat with_reducible refine And.intro (by first | kernel_rfl | decide) ?_
  have hh := bnd'_some h; clear h; obtain ⟨o1330, h1331, h1332⟩ := hh
  refine Wp_cut (fun s => (.inr ()) = o1330 ∧ s = ⟨[], [(0, .dead), (1, .dead), (4, .dead), (5, .dead), (9, .dead), (17, .dead)], [], 0, []⟩) ?_ ?_
  · refine Wp_block ?_
    refine Wp_loopG (fun n s => ∃ x1321, m100_L0 N x1317 n1319 c1320 n x1321 = some o1330 ∧ s = ⟨[], [(0, .v (.lst false n1319 c1320)), (1, .v (.int .i64 x1317)), (4, .dead), (5, .v (.int .i64 x1321)), (9, .dead), (17, .dead)], [], 0, []⟩) N _ ((Wk_le (.cons _ _ _ _ _ (.refl _) (.cons _ _ _ _ _ (.refl _) (.cons _ _ _ _ _ (.dead _) (.cons _ _ _ _ _ (.refl _) (.cons _ _ _ _ _ (.refl _) (.cons _ _ _ _ _ (.refl _) .nil)))))) (OLe.refl _)).trans (cmpS_ok rfl)) ⟨_, h1331, rfl⟩ ?_
    clear h1331
    rintro n _ ⟨x1321, h1331, rfl⟩
    cases n with
    | zero => cases h1331
    | succ n =>
      rw [m100_L0] at h1331
      have hh := brn_some h1331; clear h1331; rcases hh with ⟨h1322, h1331⟩ | ⟨h1322, h1331⟩
      · have hh := grd_some h1331; clear h1331; obtain ⟨⟨g1323, g1324⟩, h1331⟩ := hh
        have hh := grd_some h1331; clear h1331; obtain ⟨g1325, h1331⟩ := hh
        have hh := getI_some h1331; clear h1331; obtain ⟨x1327, h1326, h1331⟩ := hh
        have hh := brn_some h1331; clear h1331; rcases hh with ⟨h1328, h1331⟩ | ⟨h1328, h1331⟩
        · refine W_sound tab_ok mixed 28 _ _ _ ?_
          simp -implicitDefEqProofs only [go_sem, ne_eq, not_false_eq_true, Nat.reduceBEq, Nat.reduceAdd, Nat.reduceSub, Nat.reduceMul, Nat.reduceLT, Nat.reduceLeDiff, Int.reduceLE, Int.reduceLT, Int.reduceToNat, Int.reduceBEq, Int.reduceBNe, Int.le_refl, Nat.le_refl, decide_true, decide_false, Int.cast_ofNat_Int, ↓reduceIte, h1318, h1322, g1323, g1324, g1325, h1326, h1328]
          repeat with_reducible refine And.intro (by first | kernel_rfl | decide) ?_
          obtain rfl := Option.some.inj h1331
          (try dsimp only at h1332)
          obtain rfl := Option.some.inj h1332
          exact finC [(4, .v (.bool true))] [(4, .v (.bool true))] (by simp [leE, lk_cons]) (.cons _ _ _ _ _ (.v _ _ (.refl _)) .nil) (by rfl) (by simp [leE, lk_cons]) (by decide) (by decide) rfl (by simp only [go_sem, ne_eq, not_false_eq_true, Nat.reduceBEq, Nat.reduceAdd, Nat.reduceSub, Nat.reduceMul, Nat.reduceLT, Nat.reduceLeDiff, Int.reduceLE, Int.reduceLT, Int.reduceToNat, Int.reduceBEq, Int.reduceBNe, Int.le_refl, Nat.le_refl, decide_true, decide_false, Int.cast_ofNat_Int, ↓reduceIte, resQ_tmp, resQ_cell, resQ_nil, retD_one, retD_two, retD_three, retD_none]; try simp [R.val, retD_one, retD_two, retD_three, retD_none])
        · refine W_sound tab_ok mixed 29 _ _ _ ?_
          simp -implicitDefEqProofs only [go_sem, ne_eq, not_false_eq_true, Nat.reduceBEq, Nat.reduceAdd, Nat.reduceSub, Nat.reduceMul, Nat.reduceLT, Nat.reduceLeDiff, Int.reduceLE, Int.reduceLT, Int.reduceToNat, Int.reduceBEq, Int.reduceBNe, Int.le_refl, Nat.le_refl, decide_true, decide_false, Int.cast_ofNat_Int, ↓reduceIte, h1318, h1322, g1323, g1324, g1325, h1326, h1328]
          repeat with_reducible refine And.intro (by first | kernel_rfl | decide) ?_
          exact cutQ _ ((Wk_le (.cons _ _ _ _ _ (.refl _) (.cons _ _ _ _ _ (.refl _) (.cons _ _ _ _ _ (.refl _) (.cons _ _ _ _ _ (.refl _) (.cons _ _ _ _ _ (.dead _) (.cons _ _ _ _ _ (.dead _) .nil)))))) (OLe.refl _)).trans (cmpS_ok rfl)) ⟨n, Nat.lt_succ_self n, _, h1331, rfl⟩
      · refine W_sound tab_ok mixed 10 _ _ _ ?_
        simp -implicitDefEqProofs only [go_sem, ne_eq, not_false_eq_true, Nat.reduceBEq, Nat.reduceAdd, Nat.reduceSub, Nat.reduceMul, Nat.reduceLT, Nat.reduceLeDiff, Int.reduceLE, Int.reduceLT, Int.reduceToNat, Int.reduceBEq, Int.reduceBNe, Int.le_refl, Nat.le_refl, decide_true, decide_false, Int.cast_ofNat_Int, ↓reduceIte, h1318, h1322]
        repeat with_reducible refine And.intro (by first | kernel_rfl | decide) ?_
        obtain rfl := Option.some.inj h1331
        exact cutQ _ ((Wk_le (.cons _ _ _ _ _ (.dead _) (.cons _ _ _ _ _ (.dead _) (.cons _ _ _ _ _ (.refl _) (.cons _ _ _ _ _ (.dead _) (.cons _ _ _ _ _ (.dead _) (.cons _ _ _ _ _ (.refl _) .nil)))))) (OLe.refl _)).trans (cmpS_ok rfl)) ⟨rfl, rfl⟩
  · rintro _ ⟨rfl, rfl⟩
    (try dsimp only at h1332)
    refine W_sound tab_ok mixed 6 _ _ _ ?_
    simp -implicitDefEqProofs only [go_sem, ne_eq, not_false_eq_true, Nat.reduceBEq, Nat.reduceAdd, Nat.reduceSub, Nat.reduceMul, Nat.reduceLT, Nat.reduceLeDiff, Int.reduceLE, Int.reduceLT, Int.reduceToNat, Int.reduceBEq, Int.reduceBNe, Int.le_refl, Nat.le_refl, decide_true, decide_false, Int.cast_ofNat_Int, ↓reduceIte, h1318]
    repeat with_reducible refine And.intro (by first | kernel_rfl | decide) ?_
    obtain rfl := Option.some.inj h1332
    exact finC [(4, .v (.bool false))] [(4, .v (.bool false))] (by simp [leE, lk_cons]) (.cons _ _ _ _ _ (.v _ _ (.refl _)) .nil) (by rfl) (by simp [leE, lk_cons]) (by decide) (by decide) rfl (by simp only [go_sem, ne_eq, not_false_eq_true, Nat.reduceBEq, Nat.reduceAdd, Nat.reduceSub, Nat.reduceMul, Nat.reduceLT, Nat.reduceLeDiff, Int.reduceLE, Int.reduceLT, Int.reduceToNat, Int.reduceBEq, Int.reduceBNe, Int.le_refl, Nat.le_refl, decide_true, decide_false, Int.cast_ofNat_Int, ↓reduceIte, resQ_tmp, resQ_cell, resQ_nil, retD_one, retD_two, retD_three, retD_none]; try simp [R.val, retD_one, retD_two, retD_three, retD_none])

def m82_L0 (N : Nat) (rec : Int → PV → Option (PV)) (x1308 : Int) (n1311 : Nat) (c1312 : List PV) : Nat → Nat → Int → List PV → Option ((Nat × List PV))
  | 0, _, _, _ => none
  | n + 1, n1385, x1386, c1387 =>
    brn (decide (x1386 < x1308)) (
      bnd' (m100 N (.lst false n1311 c1312) x1386) fun p1389 =>
      getB p1389 fun b1392 =>
      brn b1392 (
        m82_L0 N rec x1308 n1311 c1312 n n1385 (IntKind.i64.wrap (x1386 + 1)) c1387) (
        grd (List.length c1312 = n1311) <|
        brn (decide (0 < n1311)) (
          grd (n1311 ≤ 1099511627776) <|
          grd ((n1311 + 1) ≤ 1099511627776) <|
          bnd' (rec x1308 (.lst false (n1311 + 1) (c1312 ++ [(.int .i64 x1386)]))) fun p1398 =>
          getL p1398 fun n1401 c1402 =>
          grd (List.length c1402 = n1401) <|
          grd ((n1385 + n1401) ≤ 1099511627776) <|
          grd (List.length c1387 = n1385) <|
          m82_L0 N rec x1308 n1311 c1312 n (n1385 + n1401) (IntKind.i64.wrap (x1386 + 1)) (c1387 ++ c1402)) (
          grd (n1311 ≤ 1099511627776) <|
          grd ((n1311 + 1) ≤ 1099511627776) <|
          bnd' (rec x1308 (.lst false (n1311 + 1) (c1312 ++ [(.int .i64 x1386)]))) fun p1408 =>
          getL p1408 fun n1411 c1412 =>
          grd (List.length c1412 = n1411) <|
          grd ((n1385 + n1411) ≤ 1099511627776) <|
          grd (List.length c1387 = n1385) <|
          m82_L0 N rec x1308 n1311 c1312 n (n1385 + n1411) (IntKind.i64.wrap (x1386 + 1)) (c1387 ++ c1412)))) (
      some (n1385, c1387))
def m82 (N : Nat) : Nat → Int → PV → Option (PV)
  | 0, _, _ => none
  | fu + 1, x1308, p1309 =>
    getL p1309 fun n1311 c1312 =>
    brn (((n1311 : Nat) : Int) == x1308) (
      some (.lst false 1 [(.lst false n1311 c1312)])) (
      bnd' (m82_L0 N (m82 N fu) x1308 n1311 c1312 N 0 0 []) fun o =>
      match o with
      | (n1416, c1417) =>
        grd (List.length c1417 = n1416) <|
        some (.lst false n1416 c1417))
theorem c82 (N : Nat) : ∀ (fu : Nat) (x1308 : Int) (p1309 : PV) (r : PV)  (h : m82 N fu x1308 p1309 = some r), FnP Try.prog 82 [(.int .i64 x1308), p1309] r := by
  intro fu
  induction fu with
  | zero => intro x1308 p1309 r h; cases h
  | succ fu ih =>
    intro x1308 p1309 r h
    rw [m82] at h
    refine Fn_of (sz := 33) tab_ok [0, 1, 4, 5, 6, 10, 15, 21] [.tmp 4] Try.func82 rfl rfl rfl (by simp) ?_
    simp only [initSt, initEnv, List.map_cons, List.map_nil, List.getD_cons_zero, List.getD_cons_succ, List.getD_nil]
    have hh := getL_some h; clear h; obtain ⟨n1311, c1312, h1310, h⟩ := hh
    have hh := brn_some h; clear h; rcases hh with ⟨h1313, h⟩ | ⟨h1313, h⟩
    · refine W_sound tab_ok mixed 21 _ _ _ ?_
      simp -implicitDefEqProofs only [go_sem, ne_eq, not_false_eq_true, Nat.reduceBEq, Nat.reduceAdd, Nat.reduceSub, Nat.reduceMul, Nat.reduceLT, Nat.reduceLeDiff, Int.reduceLE, Int.reduceLT, Int.reduceToNat, Int.reduceBEq, Int.reduceBNe, Int.le_refl, Nat.le_refl, decide_true, decide_false, Int.cast_ofNat_Int, ↓reduceIte, h1310, h1313]
      repeat with_reducible refine And.intro (by first | kernel_rfl | decide) ?_
      refine FinQ_wk (Wk_freeze 12 [(.lst false n1311 c1312)] (by rfl) (by decide) (by decide)) ?_
      simp -implicitDefEqProofs only [go_sem, ne_eq, not_false_eq_true, Nat.reduceBEq, Nat.reduceAdd, Nat.reduceSub, Nat.reduceMul, Nat.reduceLT, Nat.reduceLeDiff, Int.reduceLE, Int.reduceLT, Int.reduceToNat, Int.reduceBEq, Int.reduceBNe, Int.le_refl, Nat.le_refl, decide_true, decide_false, Int.cast_ofNat_Int, ↓reduceIte, h1310, h1313]
      obtain rfl := Option.some.inj h
      exact finC [(4, .v (.lst true 1 [(.lst false n1311 c1312)]))] [(4, .v (.lst false 1 [(.lst false n1311 c1312)]))] (by simp [leE, lk_cons]) (.cons _ _ _ _ _ (.v _ _ (.lst true false _ _ _ (fun h => by first | exact h | cases h) (PLes.refl _))) .nil) (by rfl) (by simp [leE, lk_cons]) (by decide) (by decide) rfl (by simp only [go_sem, ne_eq, not_false_eq_true, Nat.reduceBEq, Nat.reduceAdd, Nat.reduceSub, Nat.reduceMul, Nat.reduceLT, Nat.reduceLeDiff, Int.reduceLE, Int.reduceLT, Int.reduceToNat, Int.reduceBEq, Int.reduceBNe, Int.le_refl, Nat.le_refl, decide_true, decide_false, Int.cast_ofNat_Int, ↓reduceIte, resQ_tmp, resQ_cell, resQ_nil, retD_one, retD_two, retD_three, retD_none]; try simp [R.val, retD_one, retD_two, retD_three, retD_none])
    · refine W_sound tab_ok mixed 23 _ _ _ ?_
      simp -implicitDefEqProofs only [go_sem, ne_eq, not_false_eq_true, Nat.reduceBEq, Nat.reduceAdd, Nat.reduceSub, Nat.reduceMul, Nat.reduceLT, Nat.reduceLeDiff, Int.reduceLE, Int.reduceLT, Int.reduceToNat, Int.reduceBEq, Int.reduceBNe, Int.le_refl, Nat.le_refl, decide_true, decide_false, Int.cast_ofNat_Int, ↓reduceIte, h1310, h1313]
      repeat with_reducible refine And.intro (by first | kernel_rfl | decide) ?_
      refine Wp_weaken (Wk_ownS 5 1 rfl (by decide) (by decide)) ?_
      simp -implicitDefEqProofs only [go_sem, ne_eq, not_false_eq_true, Nat.reduceBEq, Nat.reduceAdd, Nat.reduceSub, Nat.reduceMul, Nat.reduceLT, Nat.reduceLeDiff, Int.reduceLE, Int.reduceLT, Int.reduceToNat, Int.reduceBEq, Int.reduceBNe, Int.le_refl, Nat.le_refl, decide_true, decide_false, Int.cast_ofNat_Int, ↓reduceIte, h1310, h1313]
      have hh := bnd'_some h; clear h; obtain ⟨o1419, h1420, h1421⟩ := hh
      refine Wp_cut (fun s => ∃ n1416, ∃ c1417, (n1416, c1417) = o1419 ∧ s = ⟨[], [(0, .dead), (1, .dead), (4, .dead), (5, .sl false 0 0 n1416 1), (6, .dead), (10, .dead), (15, .dead), (21, .dead)], [(0, .p c1417)], 1, []⟩) ?_ ?_
      · refine Wp_block ?_
        refine Wp_loopG (fun n s => ∃ n1385, ∃ x1386, ∃ c1387, m82_L0 N (m82 N fu) x1308 n1311 c1312 n n1385 x1386 c1387 = some o1419 ∧ s = ⟨[], [(0, .v (.int .i64 x1308)), (1, .v (.lst false n1311 c1312)), (4, .dead), (5, .sl false 0 0 n1385 1), (6, .v (.int .i64 x1386)), (10, .dead), (15, .dead), (21, .dead)], [(0, .p c1387)], 1, []⟩) N _ ((Wk_le (.cons _ _ _ _ _ (.refl _) (.cons _ _ _ _ _ (.refl _) (.cons _ _ _ _ _ (.dead _) (.cons _ _ _ _ _ (.refl _) (.cons _ _ _ _ _ (.refl _) (.cons _ _ _ _ _ (.dead _) (.cons _ _ _ _ _ (.refl _) (.cons _ _ _ _ _ (.refl _) .nil)))))))) (OLe.refl _)).trans (cmpS_ok rfl)) ⟨_, _, _, h1420, rfl⟩ ?_
        clear h1420
        rintro n _ ⟨n1385, x1386, c1387, h1420, rfl⟩
        cases n with
        | zero => cases h1420
        | succ n =>
          rw [m82_L0] at h1420
          have hh := brn_some h1420; clear h1420; rcases hh with ⟨h1388, h1420⟩ | ⟨h1388, h1420⟩
          · have hh := bnd'_some h1420; clear h1420; obtain ⟨p1389, h1390, h1420⟩ := hh
            refine W_sound tab_ok mixed 15 _ _ _ ?_
            simp -implicitDefEqProofs only [go_sem, ne_eq, not_false_eq_true, Nat.reduceBEq, Nat.reduceAdd, Nat.reduceSub, Nat.reduceMul, Nat.reduceLT, Nat.reduceLeDiff, Int.reduceLE, Int.reduceLT, Int.reduceToNat, Int.reduceBEq, Int.reduceBNe, Int.le_refl, Nat.le_refl, decide_true, decide_false, Int.cast_ofNat_Int, ↓reduceIte, h1310, h1313, h1388]
            repeat with_reducible refine And.intro (by first | kernel_rfl | decide) ?_
            refine Wp_callP (c100 N _ _ _ h1390) (by kernel_rfl) rfl rfl rfl rfl (by decide) ?_
            have hh := getB_some h1420; clear h1420; obtain ⟨b1392, h1391, h1420⟩ := hh
            have hh := brn_some h1420; clear h1420; rcases hh with ⟨h1393, h1420⟩ | ⟨h1393, h1420⟩
            · refine W_sound tab_ok mixed 10 _ _ _ ?_
              simp -implicitDefEqProofs only [go_sem, ne_eq, not_false_eq_true, Nat.reduceBEq, Nat.reduceAdd, Nat.reduceSub, Nat.reduceMul, Nat.reduceLT, Nat.reduceLeDiff, Int.reduceLE, Int.reduceLT, Int.reduceToNat, Int.reduceBEq, Int.reduceBNe, Int.le_refl, Nat.le_refl, decide_true, decide_false, Int.cast_ofNat_Int, ↓reduceIte, h1310, h1313, h1388, h1391, h1393]
              repeat with_reducible refine And.intro (by first | kernel_rfl | decide) ?_
              exact cutQ _ ((Wk_le (.cons _ _ _ _ _ (.refl _) (.cons _ _ _ _ _ (.refl _) (.cons _ _ _ _ _ (.refl _) (.cons _ _ _ _ _ (.refl _) (.cons _ _ _ _ _ (.refl _) (.cons _ _ _ _ _ (.refl _) (.cons _ _ _ _ _ (.dead _) (.cons _ _ _ _ _ (.dead _) .nil)))))))) (OLe.refl _)).trans (cmpS_ok rfl)) ⟨n, Nat.lt_succ_self n, _, _, _, h1420, rfl⟩
            · have hh := grd_some h1420; clear h1420; obtain ⟨g1394, h1420⟩ := hh
              have hh := brn_some h1420; clear h1420; rcases hh with ⟨h1395, h1420⟩ | ⟨h1395, h1420⟩
              · have hh := grd_some h1420; clear h1420; obtain ⟨g1396, h1420⟩ := hh
                have hh := grd_some h1420; clear h1420; obtain ⟨g1397, h1420⟩ := hh
                have hh := bnd'_some h1420; clear h1420; obtain ⟨p1398, h1399, h1420⟩ := hh
                refine W_sound tab_ok mixed 12 _ _ _ ?_
                simp -implicitDefEqProofs only [go_sem, ne_eq, not_false_eq_true, Nat.reduceBEq, Nat.reduceAdd, Nat.reduceSub, Nat.reduceMul, Nat.reduceLT, Nat.reduceLeDiff, Int.reduceLE, Int.reduceLT, Int.reduceToNat, Int.reduceBEq, Int.reduceBNe, Int.le_refl, Nat.le_refl, decide_true, decide_false, Int.cast_ofNat_Int, ↓reduceIte, h1310, h1313, h1388, h1391, h1393, g1394, h1395, g1396, g1397]
                repeat with_reducible refine And.intro (by first | kernel_rfl | decide) ?_
                refine Wp_callF [(30, (c1312 ++ [(.int .i64 x1386)]))] (ih _ _ _ h1399) (by kernel_rfl) rfl rfl rfl (by simp only [go_sem, ne_eq, not_false_eq_true, Nat.reduceBEq, Nat.reduceAdd, Nat.reduceSub, Nat.reduceMul, Nat.reduceLT, Nat.reduceLeDiff, Int.reduceLE, Int.reduceLT, Int.reduceToNat, Int.reduceBEq, Int.reduceBNe, Int.le_refl, Nat.le_refl, decide_true, decide_false, Int.cast_ofNat_Int, ↓reduceIte, h1310, h1313, h1388, h1391, h1393, g1394, h1395, g1396, g1397] <;> rfl) (by decide) rfl (by simp [roF, obL]) rfl ?_
                have hh := getL_some h1420; clear h1420; obtain ⟨n1401, c1402, h1400, h1420⟩ := hh
                have hh := grd_some h1420; clear h1420; obtain ⟨g1403, h1420⟩ := hh
                have hh := grd_some h1420; clear h1420; obtain ⟨g1404, h1420⟩ := hh
                have hh := grd_some h1420; clear h1420; obtain ⟨g1405, h1420⟩ := hh
                refine W_sound tab_ok mixed 9 _ _ _ ?_
                simp -implicitDefEqProofs only [go_sem, ne_eq, not_false_eq_true, Nat.reduceBEq, Nat.reduceAdd, Nat.reduceSub, Nat.reduceMul, Nat.reduceLT, Nat.reduceLeDiff, Int.reduceLE, Int.reduceLT, Int.reduceToNat, Int.reduceBEq, Int.reduceBNe, Int.le_refl, Nat.le_refl, decide_true, decide_false, Int.cast_ofNat_Int, ↓reduceIte, h1310, h1313, h1388, h1391, h1393, g1394, h1395, g1396, g1397, h1400, g1403, g1404, g1405]
                repeat with_reducible refine And.intro (by first | kernel_rfl | decide) ?_
                exact cutQ _ ((Wk_le (.cons _ _ _ _ _ (.refl _) (.cons _ _ _ _ _ (.refl _) (.cons _ _ _ _ _ (.refl _) (.cons _ _ _ _ _ (.refl _) (.cons _ _ _ _ _ (.refl _) (.cons _ _ _ _ _ (.refl _) (.cons _ _ _ _ _ (.dead _) (.cons _ _ _ _ _ (.dead _) .nil)))))))) (OLe.refl _)).trans (cmpS_ok rfl)) ⟨n, Nat.lt_succ_self n, _, _, _, h1420, rfl⟩
              · have hh := grd_some h1420; clear h1420; obtain ⟨g1406, h1420⟩ := hh
                have hh := grd_some h1420; clear h1420; obtain ⟨g1407, h1420⟩ := hh
                have hh := bnd'_some h1420; clear h1420; obtain ⟨p1408, h1409, h1420⟩ := hh
                refine W_sound tab_ok mixed 12 _ _ _ ?_
                simp -implicitDefEqProofs only [go_sem, ne_eq, not_false_eq_true, Nat.reduceBEq, Nat.reduceAdd, Nat.reduceSub, Nat.reduceMul, Nat.reduceLT, Nat.reduceLeDiff, Int.reduceLE, Int.reduceLT, Int.reduceToNat, Int.reduceBEq, Int.reduceBNe, Int.le_refl, Nat.le_refl, decide_true, decide_false, Int.cast_ofNat_Int, ↓reduceIte, h1310, h1313, h1388, h1391, h1393, g1394, h1395, g1406, g1407]
                repeat with_reducible refine And.intro (by first | kernel_rfl | decide) ?_
                refine Wp_callF [(30, (c1312 ++ [(.int .i64 x1386)]))] (ih _ _ _ h1409) (by kernel_rfl) rfl rfl rfl (by simp only [go_sem, ne_eq, not_false_eq_true, Nat.reduceBEq, Nat.reduceAdd, Nat.reduceSub, Nat.reduceMul, Nat.reduceLT, Nat.reduceLeDiff, Int.reduceLE, Int.reduceLT, Int.reduceToNat, Int.reduceBEq, Int.reduceBNe, Int.le_refl, Nat.le_refl, decide_true, decide_false, Int.cast_ofNat_Int, ↓reduceIte, h1310, h1313, h1388, h1391, h1393, g1394, h1395, g1406, g1407] <;> rfl) (by decide) rfl (by simp [roF, obL]) rfl ?_
                have hh := getL_some h1420; clear h1420; obtain ⟨n1411, c1412, h1410, h1420⟩ := hh
                have hh := grd_some h1420; clear h1420; obtain ⟨g1413, h1420⟩ := hh
                have hh := grd_some h1420; clear h1420; obtain ⟨g1414, h1420⟩ := hh
                have hh := grd_some h1420; clear h1420; obtain ⟨g1415, h1420⟩ := hh
                refine W_sound tab_ok mixed 9 _ _ _ ?_
                simp -implicitDefEqProofs only [go_sem, ne_eq, not_false_eq_true, Nat.reduceBEq, Nat.reduceAdd, Nat.reduceSub, Nat.reduceMul, Nat.reduceLT, Nat.reduceLeDiff, Int.reduceLE, Int.reduceLT, Int.reduceToNat, Int.reduceBEq, Int.reduceBNe, Int.le_refl, Nat.le_refl, decide_true, decide_false, Int.cast_ofNat_Int, ↓reduceIte, h1310, h1313, h1388, h1391, h1393, g1394, h1395, g1406, g1407, h1410, g1413, g1414, g1415]
                repeat with_reducible refine And.intro (by first | kernel_rfl | decide) ?_
                exact cutQ _ ((Wk_le (.cons _ _ _ _ _ (.refl _) (.cons _ _ _ _ _ (.refl _) (.cons _ _ _ _ _ (.refl _) (.cons _ _ _ _ _ (.refl _) (.cons _ _ _ _ _ (.refl _) (.cons _ _ _ _ _ (.refl _) (.cons _ _ _ _ _ (.dead _) (.cons _ _ _ _ _ (.dead _) .nil)))))))) (OLe.refl _)).trans (cmpS_ok rfl)) ⟨n, Nat.lt_succ_self n, _, _, _, h1420, rfl⟩
          · refine W_sound tab_ok mixed 9 _ _ _ ?_
            simp -implicitDefEqProofs only [go_sem, ne_eq, not_false_eq_true, Nat.reduceBEq, Nat.reduceAdd, Nat.reduceSub, Nat.reduceMul, Nat.reduceLT, Nat.reduceLeDiff, Int.reduceLE, Int.reduceLT, Int.reduceToNat, Int.reduceBEq, Int.reduceBNe, Int.le_refl, Nat.le_refl, decide_true, decide_false, Int.cast_ofNat_Int, ↓reduceIte, h1310, h1313, h1388]
            repeat with_reducible refine And.intro (by first | kernel_rfl | decide) ?_
            obtain rfl := Option.some.inj h1420
            exact cutQ _ ((Wk_le (.cons _ _ _ _ _ (.dead _) (.cons _ _ _ _ _ (.dead _) (.cons _ _ _ _ _ (.refl _) (.cons _ _ _ _ _ (.refl _) (.cons _ _ _ _ _ (.dead _) (.cons _ _ _ _ _ (.refl _) (.cons _ _ _ _ _ (.dead _) (.cons _ _ _ _ _ (.refl _) .nil)))))))) (OLe.refl _)).trans (cmpS_ok rfl)) ⟨_, _, rfl, rfl⟩
      · rintro _ ⟨n1416, c1417, rfl, rfl⟩
        (try dsimp only at h1421)
        refine W_sound tab_ok mixed 7 _ _ _ ?_
        simp -implicitDefEqProofs only [go_sem, ne_eq, not_false_eq_true, Nat.reduceBEq, Nat.reduceAdd, Nat.reduceSub, Nat.reduceMul, Nat.reduceLT, Nat.reduceLeDiff, Int.reduceLE, Int.reduceLT, Int.reduceToNat, Int.reduceBEq, Int.reduceBNe, Int.le_refl, Nat.le_refl, decide_true, decide_false, Int.cast_ofNat_Int, ↓reduceIte, h1310, h1313]
        repeat with_reducible refine And.intro (by first | kernel_rfl | decide) ?_
        have hh := grd_some h1421; clear h1421; obtain ⟨g1418, h1421⟩ := hh
        refine FinQ_wk (Wk_freeze 0 c1417 (by rfl) (by decide) (by decide)) ?_
        simp -implicitDefEqProofs only [go_sem, ne_eq, not_false_eq_true, Nat.reduceBEq, Nat.reduceAdd, Nat.reduceSub, Nat.reduceMul, Nat.reduceLT, Nat.reduceLeDiff, Int.reduceLE, Int.reduceLT, Int.reduceToNat, Int.reduceBEq, Int.reduceBNe, Int.le_refl, Nat.le_refl, decide_true, decide_false, Int.cast_ofNat_Int, ↓reduceIte, h1310, h1313, g1418]
        obtain rfl := Option.some.inj h1421
        exact finC [(4, .v (.lst false n1416 c1417))] [(4, .v (.lst false n1416 c1417))] (by simp [leE, lk_cons]) (.cons _ _ _ _ _ (.v _ _ (.refl _)) .nil) (by rfl) (by simp [leE, lk_cons]) (by decide) (by decide) rfl (by simp only [go_sem, ne_eq, not_false_eq_true, Nat.reduceBEq, Nat.reduceAdd, Nat.reduceSub, Nat.reduceMul, Nat.reduceLT, Nat.reduceLeDiff, Int.reduceLE, Int.reduceLT, Int.reduceToNat, Int.reduceBEq, Int.reduceBNe, Int.le_refl, Nat.le_refl, decide_true, decide_false, Int.cast_ofNat_Int, ↓reduceIte, resQ_tmp, resQ_cell, resQ_nil, retD_one, retD_two, retD_three, retD_none]; try simp [R.val, retD_one, retD_two, retD_three, retD_none])

def m36_L3 (N : Nat) (n1301 : Nat) (c1302 : List PV) (n1425 : Nat) (c1426 : List PV) (n1435 : Nat) (c1436 : List PV) (x1437 : Int) (x1439 : Int) (n1644 : Nat) (x1645 : Int) (c1646 : List PV) (n1651 : Nat) (c1652 : List PV) : Nat → Nat → Int → List PV → Option ((Nat × List PV))
  | 0, _, _, _ => none
  | n + 1, n1712, x1713, c1714 =>
    grd (0 ≤ x1439 ∧ x1439 < ((n1435 : Nat) : Int)) <|
    grd (0 < List.length (List.drop (Int.toNat x1439) c1436)) <|
    getL (gp c1436 (Int.toNat x1439)) fun n1719 c1720 =>
    brn (decide (x1713 < ((n1719 : Nat) : Int))) (
      grd (0 ≤ x1645 ∧ x1645 < ((n1651 : Nat) : Int)) <|
      grd (0 < List.length (List.drop (Int.toNat x1645) c1652)) <|
      getI .i64 (gp c1652 (Int.toNat x1645)) fun x1726 =>
      grd (0 ≤ x1726 ∧ x1726 < ((n1301 : Nat) : Int)) <|
      grd (0 < List.length (List.drop (Int.toNat x1726) c1302)) <|
      getL (gp c1302 (Int.toNat x1726)) fun n1731 c1732 =>
      grd (0 ≤ x1713 ∧ x1713 < ((n1719 : Nat) : Int)) <|
      grd (0 < List.length (List.drop (Int.toNat x1713) c1720)) <|
      getI .i64 (gp c1720 (Int.toNat x1713)) fun x1737 =>
      grd (0 ≤ x1737 ∧ x1737 < ((n1731 : Nat) : Int)) <|
      grd (0 < List.length (List.drop (Int.toNat x1737) c1732)) <|
      getI .i64 (gp c1732 (Int.toNat x1737)) fun x1742 =>
      grd ((n1712 + 1) ≤ 1099511627776) <|
      grd (List.length c1714 = n1712) <|
      m36_L3 N n1301 c1302 n1425 c1426 n1435 c1436 x1437 x1439 n1644 x1645 c1646 n1651 c1652 n (n1712 + 1) (IntKind.i64.wrap (x1713 + 1)) (c1714 ++ [(.int .i64 x1742)])) (
      some (n1712, c1714))
def m36_L2 (N : Nat) (n1301 : Nat) (c1302 : List PV) (n1425 : Nat) (c1426 : List PV) (n1435 : Nat) (c1436 : List PV) (x1437 : Int) (x1439 : Int) : Nat → Nat → Int → List PV → Option ((Nat × List PV))
  | 0, _, _, _ => none
  | n + 1, n1644, x1645, c1646 =>
    grd (0 ≤ x1437 ∧ x1437 < ((n1425 : Nat) : Int)) <|
    grd (0 < List.length (List.drop (Int.toNat x1437) c1426)) <|
    getL (gp c1426 (Int.toNat x1437)) fun n1651 c1652 =>
    brn (decide (x1645 < ((n1651 : Nat) : Int))) (
      bnd' (m36_L3 N n1301 c1302 n1425 c1426 n1435 c1436 x1437 x1439 n1644 x1645 c1646 n1651 c1652 N 0 0 []) fun o =>
      match o with
      | (n1745, c1746) =>
        grd ((n1644 + 1) ≤ 1099511627776) <|
        grd (List.length c1646 = n1644) <|
        grd (List.length c1746 = n1745) <|
        m36_L2 N n1301 c1302 n1425 c1426 n1435 c1436 x1437 x1439 n (n1644 + 1) (IntKind.i64.wrap (x1645 + 1)) (c1646 ++ [(.lst false n1745 c1746)])) (
      some (n1644, c1646))
def m36_L1 (N : Nat) (n1301 : Nat) (c1302 : List PV) (n1425 : Nat) (c1426 : List PV) (n1435 : Nat) (c1436 : List PV) (x1437 : Int) : Nat → Int → Option ((PV ⊕ Unit))
  | 0, _ => none
  | n + 1, x1439 =>
    brn (decide (x1439 < ((n1435 : Nat) : Int))) (
      bnd' (m36_L2 N n1301 c1302 n1425 c1426 n1435 c1436 x1437 x1439 N 0 0 []) fun o =>
      match o with
      | (n1750, c1751) =>
        grd (List.length c1751 = n1750) <|
        bnd' (m78 N (.lst false n1750 c1751)) fun p1753 =>
        getL p1753 fun n1756 c1757 =>
        brn (((n1756 : Nat) : Int) == 0) (
          grd (0 ≤ x1437 ∧ x1437 < ((n1425 : Nat) : Int)) <|
          grd (0 < List.length (List.drop (Int.toNat x1437) c1426)) <|
          getL (gp c1426 (Int.toNat x1437)) fun n1763 c1764 =>
          grd (0 ≤ x1439 ∧ x1439 < ((n1435 : Nat) : Int)) <|
          grd (0 < List.length (List.drop (Int.toNat x1439) c1436)) <|
          getL (gp c1436 (Int.toNat x1439)) fun n1769 c1770 =>
          some (.inl (.tup [(.lst false n1763 c1764), (.lst false n1769 c1770), (.int .i64 0)]))) (
          m36_L1 N n1301 c1302 n1425 c1426 n1435 c1436 x1437 n (IntKind.i64.wrap (x1439 + 1)))) (
      some (.inr ()))
def m36_L0 (N : Nat) (n1301 : Nat) (c1302 : List PV) (n1425 : Nat) (c1426 : List PV) (n1435 : Nat) (c1436 : List PV) : Nat → Int → Option ((PV ⊕ Unit))
  | 0, _ => none
  | n + 1, x1437 =>
    brn (decide (x1437 < ((n1425 : Nat) : Int))) (
      bnd' (m36_L1 N n1301 c1302 n1425 c1426 n1435 c1436 x1437 N 0) fun o =>
      match o with
      | .inl p1771 =>
        some (.inl p1771)
      | .inr () =>
        m36_L0 N n1301 c1302 n1425 c1426 n1435 c1436 n (IntKind.i64.wrap (x1437 + 1))) (
      some (.inr ()))
def m36 (N : Nat) (p1299 : PV) : Option (PV) :=
  getL p1299 fun n1301 c1302 =>
  bnd' (m24 N (.lst false n1301 c1302)) fun p1303 =>
  getI .i64 p1303 fun x1306 =>
  brn (x1306 != 0) (
    some (.tup [(.lst false 0 []), (.lst false 0 []), (.int .i64 x1306)])) (
    bnd' (m82 N N ((n1301 : Nat) : Int) (.lst false 0 [])) fun p1422 =>
    getL p1422 fun n1425 c1426 =>
    grd (0 < ((n1301 : Nat) : Int)) <|
    grd (0 < List.length c1302) <|
    getL (gp c1302 0) fun n1430 c1431 =>
    bnd' (m82 N N ((n1430 : Nat) : Int) (.lst false 0 [])) fun p1432 =>
    getL p1432 fun n1435 c1436 =>
    bnd' (m36_L0 N n1301 c1302 n1425 c1426 n1435 c1436 N 0) fun o =>
    match o with
    | .inl p1772 =>
      some p1772
    | .inr () =>
      some (.tup [(.lst false 0 []), (.lst false 0 []), (.int .i64 12)]))
theorem c36 (N : Nat) (p1299 : PV) (r : PV)  (h : m36 N p1299 = some r) : FnP Try.prog 36 [p1299] r := by
  unfold m36 at h
  refine Fn_of (sz := 95) tab_ok [0, 2, 3, 4, 5, 6, 7, 8, 9, 10, 11, 12, 13, 17, 30, 36, 45, 54, 86] [.tmp 2, .tmp 3, .tmp 4] Try.func36 rfl rfl rfl (by simp) ?_
  simp only [initSt, initEnv, List.map_cons, List.map_nil, List.getD_cons_zero, List.getD_cons_succ, List.getD_nil]
  have hh := getL_some h; clear h; obtain ⟨n1301, c1302, h1300, h⟩ := hh
  have hh := bnd'_some h; clear h; obtain ⟨p1303, h1304, h⟩ := hh
  refine W_sound tab_ok mixed 9 _ _ _ ?_
  simp -implicitDefEqProofs only [go_sem, ne_eq, not_false_eq_true, Nat.reduceBEq, Nat.reduceAdd, Nat.reduceSub, Nat.reduceMul, Nat.reduceLT, Nat.reduceLeDiff, Int.reduceLE, Int.reduceLT, Int.reduceToNat, Int.reduceBEq, Int.reduceBNe, Int.le_refl, Nat.le_refl, decide_true, decide_false, Int.cast_ofNat_Int, ↓reduceIte, h1300]
  repeat with_reducible refine And.intro (by first | kernel_rfl | decide) ?_
  refine Wp_callP (c24 N _ _ h1304) (by kernel_rfl) rfl rfl rfl rfl (by decide) ?_
  have hh := getI_some h; clear h; obtain ⟨x1306, h1305, h⟩ := hh
  have hh := brn_some h; clear h; rcases hh with ⟨h1307, h⟩ | ⟨h1307, h⟩
  · refine W_sound tab_ok mixed 18 _ _ _ ?_
    simp -implicitDefEqProofs only [go_sem, ne_eq, not_false_eq_true, Nat.reduceBEq, Nat.reduceAdd, Nat.reduceSub, Nat.reduceMul, Nat.reduceLT, Nat.reduceLeDiff, Int.reduceLE, Int.reduceLT, Int.reduceToNat, Int.reduceBEq, Int.reduceBNe, Int.le_refl, Nat.le_refl, decide_true, decide_false, Int.cast_ofNat_Int, ↓reduceIte, h1300, h1305, h1307]
    repeat with_reducible refine And.intro (by first | kernel_rfl | decide) ?_
    obtain rfl := Option.some.inj h
    exact finC [(2, .v .nl), (3, .v .nl), (4, .v (.int .i64 x1306))] [(2, .v (.lst false 0 [])), (3, .v (.lst false 0 [])), (4, .v (.int .i64 x1306))] (by simp [leE, lk_cons]) (.cons _ _ _ _ _ (.v _ _ (.nl false)) (.cons _ _ _ _ _ (.v _ _ (.nl false)) (.cons _ _ _ _ _ (.v _ _ (.refl _)) .nil))) (by rfl) (by simp [leE, lk_cons]) (by decide) (by decide) rfl (by simp only [go_sem, ne_eq, not_false_eq_true, Nat.reduceBEq, Nat.reduceAdd, Nat.reduceSub, Nat.reduceMul, Nat.reduceLT, Nat.reduceLeDiff, Int.reduceLE, Int.reduceLT, Int.reduceToNat, Int.reduceBEq, Int.reduceBNe, Int.le_refl, Nat.le_refl, decide_true, decide_false, Int.cast_ofNat_Int, ↓reduceIte, resQ_tmp, resQ_cell, resQ_nil, retD_one, retD_two, retD_three, retD_none]; try simp [R.val, retD_one, retD_two, retD_three, retD_none])
  · have hh := bnd'_some h; clear h; obtain ⟨p1422, h1423, h⟩ := hh
    refine W_sound tab_ok mixed 14 _ _ _ ?_
    simp -implicitDefEqProofs only [go_sem, ne_eq, not_false_eq_true, Nat.reduceBEq, Nat.reduceAdd, Nat.reduceSub, Nat.reduceMul, Nat.reduceLT, Nat.reduceLeDiff, Int.reduceLE, Int.reduceLT, Int.reduceToNat, Int.reduceBEq, Int.reduceBNe, Int.le_refl, Nat.le_refl, decide_true, decide_false, Int.cast_ofNat_Int, ↓reduceIte, h1300, h1305, h1307]
    repeat with_reducible refine And.intro (by first | kernel_rfl | decide) ?_
    refine Wp_callP (FnP_le (c82 N N _ _ _ h1423) (.cons _ _ _ _ (.refl _) (.cons _ _ _ _ (.nl false) .nil)) (.refl _)) (by kernel_rfl) rfl rfl rfl rfl (by decide) ?_
    have hh := getL_some h; clear h; obtain ⟨n1425, c1426, h1424, h⟩ := hh
    have hh := grd_some h; clear h; obtain ⟨g1427, h⟩ := hh
    have hh := grd_some h; clear h; obtain ⟨g1428, h⟩ := hh
    have hh := getL_some h; clear h; obtain ⟨n1430, c1431, h1429, h⟩ := hh
    have hh := bnd'_some h; clear h; obtain ⟨p1432, h1433, h⟩ := hh
    refine W_sound tab_ok mixed 8 _ _ _ ?_
    simp -implicitDefEqProofs only [go_sem, ne_eq, not_false_eq_true, Nat.reduceBEq, Nat.reduceAdd, Nat.reduceSub, Nat.reduceMul, Nat.reduceLT, Nat.reduceLeDiff, Int.reduceLE, Int.reduceLT, Int.reduceToNat, Int.reduceBEq, Int.reduceBNe, Int.le_refl, Nat.le_refl, decide_true, decide_false, Int.cast_ofNat_Int, ↓reduceIte, h1300, h1305, h1307, h1424, g1427, g1428, h1429]
    repeat with_reducible refine And.intro (by first | kernel_rfl | decide) ?_
    refine Wp_callP (FnP_le (c82 N N _ _ _ h1433) (.cons _ _ _ _ (.refl _) (.cons _ _ _ _ (.nl false) .nil)) (.refl _)) (by kernel_rfl) rfl rfl rfl rfl (by decide) ?_
    have hh := getL_some h; clear h; obtain ⟨n1435, c1436, h1434, h⟩ := hh
    refine W_sound tab_ok mixed 7 _ _ _ ?_
    simp -implicitDefEqProofs only [go_sem, ne_eq, not_false_eq_true, Nat.reduceBEq, Nat.reduceAdd, Nat.reduceSub, Nat.reduceMul, Nat.reduceLT, Nat.reduceLeDiff, Int.reduceLE, Int.reduceLT, Int.reduceToNat, Int.reduceBEq, Int.reduceBNe, Int.le_refl, Nat.le_refl, decide_true, decide_false, Int.cast_ofNat_Int, ↓reduceIte, h1300, h1305, h1307, h1424, g1427, g1428, h1429, h1434]
    repeat with_reducible refine And.intro (by first | kernel_rfl | decide) ?_
    have hh := bnd'_some h; clear h; obtain ⟨o1773, h1774, h1775⟩ := hh
    refine Wp_cut (fun s => (.inr ()) = o1773 ∧ s = ⟨[], [(0, .dead), (2, .dead), (3, .dead), (4, .dead), (5, .dead), (6, .dead), (7, .dead), (8, .dead), (9, .dead), (10, .dead), (11, .dead), (12, .dead), (13, .dead), (17, .dead), (30, .dead), (36, .dead), (45, .dead), (54, .dead), (86, .dead)], [], 0, []⟩) ?_ ?_
    · refine Wp_block ?_
      refine Wp_loopG (fun n s => ∃ x1437, m36_L0 N n1301 c1302 n1425 c1426 n1435 c1436 n x1437 = some o1773 ∧ s = ⟨[], [(0, .v (.lst false n1301 c1302)), (2, .dead), (3, .dead), (4, .dead), (5, .dead), (6, .v (.lst false n1425 c1426)), (7, .v (.lst false n1435 c1436)), (8, .v (.int .i64 x1437)), (9, .dead), (10, .dead), (11, .dead), (12, .dead), (13, .dead), (17, .dead), (30, .dead), (36, .dead), (45, .dead), (54, .dead), (86, .dead)], [], 0, []⟩) N _ ((Wk_le (.cons _ _ _ _ _ (.refl _) (.cons _ _ _ _ _ (.dead _) (.cons _ _ _ _ _ (.dead _) (.cons _ _ _ _ _ (.dead _) (.cons _ _ _ _ _ (.dead _) (.cons _ _ _ _ _ (.refl _) (.cons _ _ _ _ _ (.refl _) (.cons _ _ _ _ _ (.refl _) (.cons _ _ _ _ _ (.refl _) (.cons _ _ _ _ _ (.refl _) (.cons _ _ _ _ _ (.refl _) (.cons _ _ _ _ _ (.refl _) (.cons _ _ _ _ _ (.refl _) (.cons _ _ _ _ _ (.dead _) (.cons _ _ _ _ _ (.refl _) (.cons _ _ _ _ _ (.refl _) (.cons _ _ _ _ _ (.refl _) (.cons _ _ _ _ _ (.refl _) (.cons _ _ _ _ _ (.refl _) .nil))))))))))))))))))) (OLe.refl _)).trans (cmpS_ok (st' := ⟨[], [(0, .v (.lst false n1301 c1302)), (2, .dead), (3, .dead), (4, .dead), (5, .dead), (6, .v (.lst false n1425 c1426)), (7, .v (.lst false n1435 c1436)), (8, .v (.int .i64 0)), (9, .dead), (10, .dead), (11, .dead), (12, .dead), (13, .dead), (17, .dead), (30, .dead), (36, .dead), (45, .dead), (54, .dead), (86, .dead)], [], 0, []⟩) (by kernel_rfl))) ⟨_, h1774, rfl⟩ ?_
      clear h1774
      rintro n _ ⟨x1437, h1774, rfl⟩
      cases n with
      | zero => cases h1774
      | succ n =>
        rw [m36_L0] at h1774
        have hh := brn_some h1774; clear h1774; rcases hh with ⟨h1438, h1774⟩ | ⟨h1438, h1774⟩
        · refine W_sound tab_ok mixed 16 _ _ _ ?_
          simp -implicitDefEqProofs only [go_sem, ne_eq, not_false_eq_true, Nat.reduceBEq, Nat.reduceAdd, Nat.reduceSub, Nat.reduceMul, Nat.reduceLT, Nat.reduceLeDiff, Int.reduceLE, Int.reduceLT, Int.reduceToNat, Int.reduceBEq, Int.reduceBNe, Int.le_refl, Nat.le_refl, decide_true, decide_false, Int.cast_ofNat_Int, ↓reduceIte, h1300, h1305, h1307, h1424, g1427, g1428, h1429, h1434, h1438]
          repeat with_reducible refine And.intro (by first | kernel_rfl | decide) ?_
          have hh := bnd'_some h1774; clear h1774; obtain ⟨o1776, h1777, h1778⟩ := hh
          refine Wp_cut (fun s => (.inr ()) = o1776 ∧ s = ⟨[], [(0, .v (.lst false n1301 c1302)), (2, .dead), (3, .dead), (4, .dead), (5, .dead), (6, .v (.lst false n1425 c1426)), (7, .v (.lst false n1435 c1436)), (8, .v (.int .i64 x1437)), (9, .dead), (10, .dead), (11, .dead), (12, .dead), (13, .dead), (17, .dead), (30, .dead), (36, .dead), (45, .dead), (54, .dead), (86, .dead)], [], 0, []⟩) ?_ ?_
          · refine Wp_block ?_
            refine Wp_loopG (fun n s => ∃ x1439, m36_L1 N n1301 c1302 n1425 c1426 n1435 c1436 x1437 n x1439 = some o1776 ∧ s = ⟨[], [(0, .v (.lst false n1301 c1302)), (2, .dead), (3, .dead), (4, .dead), (5, .dead), (6, .v (.lst false n1425 c1426)), (7, .v (.lst false n1435 c1436)), (8, .v (.int .i64 x1437)), (9, .v (.int .i64 x1439)), (10, .dead), (11, .dead), (12, .dead), (13, .dead), (17, .dead), (30, .dead), (36, .dead), (45, .dead), (54, .dead), (86, .dead)], [], 0, []⟩) N _ ((Wk_le (.cons _ _ _ _ _ (.refl _) (.cons _ _ _ _ _ (.refl _) (.cons _ _ _ _ _ (.refl _) (.cons _ _ _ _ _ (.refl _) (.cons _ _ _ _ _ (.refl _) (.cons _ _ _ _ _ (.refl _) (.cons _ _ _ _ _ (.refl _) (.cons _ _ _ _ _ (.refl _) (.cons _ _ _ _ _ (.refl _) (.cons _ _ _ _ _ (.refl _) (.cons _ _ _ _ _ (.refl _) (.cons _ _ _ _ _ (.refl _) (.cons _ _ _ _ _ (.refl _) (.cons _ _ _ _ _ (.refl _) (.cons _ _ _ _ _ (.dead _) (.cons _ _ _ _ _ (.refl _) (.cons _ _ _ _ _ (.refl _) (.cons _ _ _ _ _ (.refl _) (.cons _ _ _ _ _ (.refl _) .nil))))))))))))))))))) (OLe.refl _)).trans (cmpS_ok (st' := ⟨[], [(0, .v (.lst false n1301 c1302)), (2, .dead), (3, .dead), (4, .dead), (5, .dead), (6, .v (.lst false n1425 c1426)), (7, .v (.lst false n1435 c1436)), (8, .v (.int .i64 x1437)), (9, .v (.int .i64 0)), (10, .dead), (11, .dead), (12, .dead), (13, .dead), (17, .dead), (30, .dead), (36, .dead), (45, .dead), (54, .dead), (86, .dead)], [], 0, []⟩) (by kernel_rfl))) ⟨_, h1777, rfl⟩ ?_
            clear h1777
            rintro n _ ⟨x1439, h1777, rfl⟩
            cases n with
            | zero => cases h1777
            | succ n =>
              rw [m36_L1] at h1777
              have hh := brn_some h1777; clear h1777; rcases hh with ⟨h1440, h1777⟩ | ⟨h1440, h1777⟩
              · refine W_sound tab_ok mixed 21 _ _ _ ?_
                simp -implicitDefEqProofs only [go_sem, ne_eq, not_false_eq_true, Nat.reduceBEq, Nat.reduceAdd, Nat.reduceSub, Nat.reduceMul, Nat.reduceLT, Nat.reduceLeDiff, Int.reduceLE, Int.reduceLT, Int.reduceToNat, Int.reduceBEq, Int.reduceBNe, Int.le_refl, Nat.le_refl, decide_true, decide_false, Int.cast_ofNat_Int, ↓reduceIte, h1300, h1305, h1307, h1424, g1427, g1428, h1429, h1434, h1438, h1440]
                repeat with_reducible refine And.intro (by first | kernel_rfl | decide) ?_
                refine Wp_weaken (Wk_ownS 10 1 rfl (by decide) (by decide)) ?_
                simp -implicitDefEqProofs only [go_sem, ne_eq, not_false_eq_true, Nat.reduceBEq, Nat.reduceAdd, Nat.reduceSub, Nat.reduceMul, Nat.reduceLT, Nat.reduceLeDiff, Int.reduceLE, Int.reduceLT, Int.reduceToNat, Int.reduceBEq, Int.reduceBNe, Int.le_refl, Nat.le_refl, decide_true, decide_false, Int.cast_ofNat_Int, ↓reduceIte, h1300, h1305, h1307, h1424, g1427, g1428, h1429, h1434, h1438, h1440]
                have hh := bnd'_some h1777; clear h1777; obtain ⟨o1779, h1780, h1781⟩ := hh
                refine Wp_cut (fun s => ∃ n1750, ∃ c1751, (n1750, c1751) = o1779 ∧ s = ⟨[], [(0, .v (.lst false n1301 c1302)), (2, .dead), (3, .dead), (4, .dead), (5, .dead), (6, .v (.lst false n1425 c1426)), (7, .v (.lst false n1435 c1436)), (8, .v (.int .i64 x1437)), (9, .v (.int .i64 x1439)), (10, .sl false 0 0 n1750 1), (11, .dead), (12, .dead), (13, .dead), (17, .dead), (30, .dead), (36, .dead), (45, .dead), (54, .dead), (86, .dead)], [(0, .p c1751)], 1, []⟩) ?_ ?_
                · refine Wp_block ?_
                  refine Wp_loopG (fun n s => ∃ n1644, ∃ x1645, ∃ c1646, m36_L2 N n1301 c1302 n1425 c1426 n1435 c1436 x1437 x1439 n n1644 x1645 c1646 = some o1779 ∧ s = ⟨[], [(0, .v (.lst false n1301 c1302)), (2, .dead), (3, .dead), (4, .dead), (5, .dead), (6, .v (.lst false n1425 c1426)), (7, .v (.lst false n1435 c1436)), (8, .v (.int .i64 x1437)), (9, .v (.int .i64 x1439)), (10, .sl false 0 0 n1644 1), (11, .v (.int .i64 x1645)), (12, .dead), (13, .dead), (17, .dead), (30, .dead), (36, .dead), (45, .dead), (54, .dead), (86, .dead)], [(0, .p c1646)], 1, []⟩) N _ ((Wk_le (.cons _ _ _ _ _ (.refl _) (.cons _ _ _ _ _ (.refl _) (.cons _ _ _ _ _ (.refl _) (.cons _ _ _ _ _ (.refl _) (.cons _ _ _ _ _ (.refl _) (.cons _ _ _ _ _ (.refl _) (.cons _ _ _ _ _ (.refl _) (.cons _ _ _ _ _ (.refl _) (.cons _ _ _ _ _ (.refl _) (.cons _ _ _ _ _ (.refl _) (.cons _ _ _ _ _ (.refl _) (.cons _ _ _ _ _ (.refl _) (.cons _ _ _ _ _ (.refl _) (.cons _ _ _ _ _ (.refl _) (.cons _ _ _ _ _ (.refl _) (.cons _ _ _ _ _ (.dead _) (.cons _ _ _ _ _ (.refl _) (.cons _ _ _ _ _ (.refl _) (.cons _ _ _ _ _ (.refl _) .nil))))))))))))))))))) (OLe.refl _)).trans (cmpS_ok (st' := ⟨[], [(0, .v (.lst false n1301 c1302)), (2, .dead), (3, .dead), (4, .dead), (5, .dead), (6, .v (.lst false n1425 c1426)), (7, .v (.lst false n1435 c1436)), (8, .v (.int .i64 x1437)), (9, .v (.int .i64 x1439)), (10, .sl false 0 0 0 1), (11, .v (.int .i64 0)), (12, .dead), (13, .dead), (17, .dead), (30, .dead), (36, .dead), (45, .dead), (54, .dead), (86, .dead)], [(0, .p [])], 1, []⟩) (by kernel_rfl))) ⟨_, _, _, h1780, rfl⟩ ?_
                  clear h1780
                  rintro n _ ⟨n1644, x1645, c1646, h1780, rfl⟩
                  cases n with
                  | zero => cases h1780
                  | succ n =>
                    rw [m36_L2] at h1780
                    have hh := grd_some h1780; clear h1780; obtain ⟨⟨g1647, g1648⟩, h1780⟩ := hh
                    have hh := grd_some h1780; clear h1780; obtain ⟨g1649, h1780⟩ := hh
                    have hh := getL_some h1780; clear h1780; obtain ⟨n1651, c1652, h1650, h1780⟩ := hh
                    have hh := brn_some h1780; clear h1780; rcases hh with ⟨h1653, h1780⟩ | ⟨h1653, h1780⟩
                    · refine W_sound tab_ok mixed 24 _ _ _ ?_
                      simp -implicitDefEqProofs only [go_sem, ne_eq, not_false_eq_true, Nat.reduceBEq, Nat.reduceAdd, Nat.reduceSub, Nat.reduceMul, Nat.reduceLT, Nat.reduceLeDiff, Int.reduceLE, Int.reduceLT, Int.reduceToNat, Int.reduceBEq, Int.reduceBNe, Int.le_refl, Nat.le_refl, decide_true, decide_false, Int.cast_ofNat_Int, ↓reduceIte, h1300, h1305, h1307, h1424, g1427, g1428, h1429, h1434, h1438, h1440, g1647, g1648, g1649, h1650, h1653]
                      repeat with_reducible refine And.intro (by first | kernel_rfl | decide) ?_
                      refine Wp_weaken (Wk_ownS 12 1 rfl (by decide) (by decide)) ?_
                      simp -implicitDefEqProofs only [go_sem, ne_eq, not_false_eq_true, Nat.reduceBEq, Nat.reduceAdd, Nat.reduceSub, Nat.reduceMul, Nat.reduceLT, Nat.reduceLeDiff, Int.reduceLE, Int.reduceLT, Int.reduceToNat, Int.reduceBEq, Int.reduceBNe, Int.le_refl, Nat.le_refl, decide_true, decide_false, Int.cast_ofNat_Int, ↓reduceIte, h1300, h1305, h1307, h1424, g1427, g1428, h1429, h1434, h1438, h1440, g1647, g1648, g1649, h1650, h1653]
                      have hh := bnd'_some h1780; clear h1780; obtain ⟨o1782, h1783, h1784⟩ := hh
                      refine Wp_cut (fun s => ∃ n1745, ∃ c1746, (n1745, c1746) = o1782 ∧ s = ⟨[], [(0, .v (.lst false n1301 c1302)), (2, .dead), (3, .dead), (4, .dead), (5, .dead), (6, .v (.lst false n1425 c1426)), (7, .v (.lst false n1435 c1436)), (8, .v (.int .i64 x1437)), (9, .v (.int .i64 x1439)), (10, .sl false 0 0 n1644 1), (11, .v (.int .i64 x1645)), (12, .sl false 1 0 n1745 1), (13, .dead), (17, .dead), (30, .dead), (36, .dead), (45, .dead), (54, .dead), (86, .dead)], [(0, .p c1646), (1, .p c1746)], 2, []⟩) ?_ ?_
                      · refine Wp_block ?_
                        refine Wp_loopG (fun n s => ∃ n1712, ∃ x1713, ∃ c1714, m36_L3 N n1301 c1302 n1425 c1426 n1435 c1436 x1437 x1439 n1644 x1645 c1646 n1651 c1652 n n1712 x1713 c1714 = some o1782 ∧ s = ⟨[], [(0, .v (.lst false n1301 c1302)), (2, .dead), (3, .dead), (4, .dead), (5, .dead), (6, .v (.lst false n1425 c1426)), (7, .v (.lst false n1435 c1436)), (8, .v (.int .i64 x1437)), (9, .v (.int .i64 x1439)), (10, .sl false 0 0 n1644 1), (11, .v (.int .i64 x1645)), (12, .sl false 1 0 n1712 1), (13, .v (.int .i64 x1713)), (17, .dead), (30, .dead), (36, .dead), (45, .dead), (54, .dead), (86, .dead)], [(0, .p c1646), (1, .p c1714)], 2, []⟩) N _ ((Wk_le (.cons _ _ _ _ _ (.refl _) (.cons _ _ _ _ _ (.refl _) (.cons _ _ _ _ _ (.refl _) (.cons _ _ _ _ _ (.refl _) (.cons _ _ _ _ _ (.refl _) (.cons _ _ _ _ _ (.refl _) (.cons _ _ _ _ _ (.refl _) (.cons _ _ _ _ _ (.refl _) (.cons _ _ _ _ _ (.refl _) (.cons _ _ _ _ _ (.refl _) (.cons _ _ _ _ _ (.refl _) (.cons _ _ _ _ _ (.refl _) (.cons _ _ _ _ _ (.refl _) (.cons _ _ _ _ _ (.refl _) (.cons _ _ _ _ _ (.refl _) (.cons _ _ _ _ _ (.refl _) (.cons _ _ _ _ _ (.dead _) (.cons _ _ _ _ _ (.refl _) (.cons _ _ _ _ _ (.refl _) .nil))))))))))))))))))) (OLe.refl _)).trans (cmpS_ok (st' := ⟨[], [(0, .v (.lst false n1301 c1302)), (2, .dead), (3, .dead), (4, .dead), (5, .dead), (6, .v (.lst false n1425 c1426)), (7, .v (.lst false n1435 c1436)), (8, .v (.int .i64 x1437)), (9, .v (.int .i64 x1439)), (10, .sl false 0 0 n1644 1), (11, .v (.int .i64 x1645)), (12, .sl false 1 0 0 1), (13, .v (.int .i64 0)), (17, .dead), (30, .dead), (36, .dead), (45, .dead), (54, .dead), (86, .dead)], [(0, .p c1646), (1, .p [])], 2, []⟩) (by kernel_rfl))) ⟨_, _, _, h1783, rfl⟩ ?_
                        clear h1783
                        rintro n _ ⟨n1712, x1713, c1714, h1783, rfl⟩
                        cases n with
                        | zero => cases h1783
                        | succ n =>
                          rw [m36_L3] at h1783
                          have hh := grd_some h1783; clear h1783; obtain ⟨⟨g1715, g1716⟩, h1783⟩ := hh
                          have hh := grd_some h1783; clear h1783; obtain ⟨g1717, h1783⟩ := hh
                          have hh := getL_some h1783; clear h1783; obtain ⟨n1719, c1720, h1718, h1783⟩ := hh
                          have hh := brn_some h1783; clear h1783; rcases hh with ⟨h1721, h1783⟩ | ⟨h1721, h1783⟩
                          · have hh := grd_some h1783; clear h1783; obtain ⟨⟨g1722, g1723⟩, h1783⟩ := hh
                            have hh := grd_some h1783; clear h1783; obtain ⟨g1724, h1783⟩ := hh
                            have hh := getI_some h1783; clear h1783; obtain ⟨x1726, h1725, h1783⟩ := hh
                            have hh := grd_some h1783; clear h1783; obtain ⟨⟨g1727, g1728⟩, h1783⟩ := hh
                            have hh := grd_some h1783; clear h1783; obtain ⟨g1729, h1783⟩ := hh
                            have hh := getL_some h1783; clear h1783; obtain ⟨n1731, c1732, h1730, h1783⟩ := hh
                            have hh := grd_some h1783; clear h1783; obtain ⟨⟨g1733, g1734⟩, h1783⟩ := hh
                            have hh := grd_some h1783; clear h1783; obtain ⟨g1735, h1783⟩ := hh
                            have hh := getI_some h1783; clear h1783; obtain ⟨x1737, h1736, h1783⟩ := hh
                            have hh := grd_some h1783; clear h1783; obtain ⟨⟨g1738, g1739⟩, h1783⟩ := hh
                            have hh := grd_some h1783; clear h1783; obtain ⟨g1740, h1783⟩ := hh
                            have hh := getI_some h1783; clear h1783; obtain ⟨x1742, h1741, h1783⟩ := hh
                            have hh := grd_some h1783; clear h1783; obtain ⟨g1743, h1783⟩ := hh
                            have hh := grd_some h1783; clear h1783; obtain ⟨g1744, h1783⟩ := hh
                            refine W_sound tab_ok mixed 46 _ _ _ ?_
                            simp -implicitDefEqProofs only [go_sem, ne_eq, not_false_eq_true, Nat.reduceBEq, Nat.reduceAdd, Nat.reduceSub, Nat.reduceMul, Nat.reduceLT, Nat.reduceLeDiff, Int.reduceLE, Int.reduceLT, Int.reduceToNat, Int.reduceBEq, Int.reduceBNe, Int.le_refl, Nat.le_refl, decide_true, decide_false, Int.cast_ofNat_Int, ↓reduceIte, h1300, h1305, h1307, h1424, g1427, g1428, h1429, h1434, h1438, h1440, g1647, g1648, g1649, h1650, h1653, g1715, g1716, g1717, h1718, h1721, g1722, g1723, g1724, h1725, g1727, g1728, g1729, h1730, g1733, g1734, g1735, h1736, g1738, g1739, g1740, h1741, g1743, g1744]
                            repeat with_reducible refine And.intro (by first | kernel_rfl | decide) ?_
                            exact cutQ _ ((Wk_le (.cons _ _ _ _ _ (.refl _) (.cons _ _ _ _ _ (.refl _) (.cons _ _ _ _ _ (.refl _) (.cons _ _ _ _ _ (.refl _) (.cons _ _ _ _ _ (.refl _) (.cons _ _ _ _ _ (.refl _) (.cons _ _ _ _ _ (.refl _) (.cons _ _ _ _ _ (.refl _) (.cons _ _ _ _ _ (.refl _) (.cons _ _ _ _ _ (.refl _) (.cons _ _ _ _ _ (.refl _) (.cons _ _ _ _ _ (.refl _) (.cons _ _ _ _ _ (.refl _) (.cons _ _ _ _ _ (.refl _) (.cons _ _ _ _ _ (.refl _) (.cons _ _ _ _ _ (.refl _) (.cons _ _ _ _ _ (.refl _) (.cons _ _ _ _ _ (.dead _) (.cons _ _ _ _ _ (.refl _) .nil))))))))))))))))))) (OLe.refl _)).trans (cmpS_ok (st' := ⟨[], [(0, .v (.lst false n1301 c1302)), (2, .dead), (3, .dead), (4, .dead), (5, .dead), (6, .v (.lst false n1425 c1426)), (7, .v (.lst false n1435 c1436)), (8, .v (.int .i64 x1437)), (9, .v (.int .i64 x1439)), (10, .sl false 0 0 n1644 1), (11, .v (.int .i64 x1645)), (12, .sl false 1 0 (n1712 + 1) 1), (13, .v (.int .i64 (IntKind.i64.wrap (x1713 + 1)))), (17, .dead), (30, .dead), (36, .dead), (45, .dead), (54, .dead), (86, .dead)], [(0, .p c1646), (1, .p (c1714 ++ [(.int .i64 x1742)]))], 2, []⟩) (by kernel_rfl))) ⟨n, Nat.lt_succ_self n, _, _, _, h1783, rfl⟩
                          · refine W_sound tab_ok mixed 13 _ _ _ ?_
                            simp -implicitDefEqProofs only [go_sem, ne_eq, not_false_eq_true, Nat.reduceBEq, Nat.reduceAdd, Nat.reduceSub, Nat.reduceMul, Nat.reduceLT, Nat.reduceLeDiff, Int.reduceLE, Int.reduceLT, Int.reduceToNat, Int.reduceBEq, Int.reduceBNe, Int.le_refl, Nat.le_refl, decide_true, decide_false, Int.cast_ofNat_Int, ↓reduceIte, h1300, h1305, h1307, h1424, g1427, g1428, h1429, h1434, h1438, h1440, g1647, g1648, g1649, h1650, h1653, g1715, g1716, g1717, h1718, h1721]
                            repeat with_reducible refine And.intro (by first | kernel_rfl | decide) ?_
                            obtain rfl := Option.some.inj h1783
                            exact cutQ _ ((Wk_le (.cons _ _ _ _ _ (.refl _) (.cons _ _ _ _ _ (.refl _) (.cons _ _ _ _ _ (.refl _) (.cons _ _ _ _ _ (.refl _) (.cons _ _ _ _ _ (.refl _) (.cons _ _ _ _ _ (.refl _) (.cons _ _ _ _ _ (.refl _) (.cons _ _ _ _ _ (.refl _) (.cons _ _ _ _ _ (.refl _) (.cons _ _ _ _ _ (.refl _) (.cons _ _ _ _ _ (.refl _) (.cons _ _ _ _ _ (.refl _) (.cons _ _ _ _ _ (.dead _) (.cons _ _ _ _ _ (.refl _) (.cons _ _ _ _ _ (.refl _) (.cons _ _ _ _ _ (.refl _) (.cons _ _ _ _ _ (.refl _) (.cons _ _ _ _ _ (.dead _) (.cons _ _ _ _ _ (.refl _) .nil))))))))))))))))))) (OLe.refl _)).trans (cmpS_ok (st' := ⟨[], [(0, .v (.lst false n1301 c1302)), (2, .dead), (3, .dead), (4, .dead), (5, .dead), (6, .v (.lst false n1425 c1426)), (7, .v (.lst false n1435 c1436)), (8, .v (.int .i64 x1437)), (9, .v (.int .i64 x1439)), (10, .sl false 0 0 n1644 1), (11, .v (.int .i64 x1645)), (12, .sl false 1 0 n1712 1), (13, .dead), (17, .dead), (30, .dead), (36, .dead), (45, .dead), (54, .dead), (86, .dead)], [(0, .p c1646), (1, .p c1714)], 2, []⟩) (by kernel_rfl))) ⟨_, _, rfl, rfl⟩
                      · rintro _ ⟨n1745, c1746, rfl, rfl⟩
                        (try dsimp only at h1784)
                        have hh := grd_some h1784; clear h1784; obtain ⟨g1747, h1784⟩ := hh
                        have hh := grd_some h1784; clear h1784; obtain ⟨g1748, h1784⟩ := hh
                        refine W_sound tab_ok mixed 7 _ _ _ ?_
                        simp -implicitDefEqProofs only [go_sem, ne_eq, not_false_eq_true, Nat.reduceBEq, Nat.reduceAdd, Nat.reduceSub, Nat.reduceMul, Nat.reduceLT, Nat.reduceLeDiff, Int.reduceLE, Int.reduceLT, Int.reduceToNat, Int.reduceBEq, Int.reduceBNe, Int.le_refl, Nat.le_refl, decide_true, decide_false, Int.cast_ofNat_Int, ↓reduceIte, h1300, h1305, h1307, h1424, g1427, g1428, h1429, h1434, h1438, h1440, g1647, g1648, g1649, h1650, h1653, g1747, g1748]
                        repeat with_reducible refine And.intro (by first | kernel_rfl | decide) ?_
                        have hh := grd_some h1784; clear h1784; obtain ⟨g1749, h1784⟩ := hh
                        refine Wp_wkK (Wk_freeze 1 c1746 (by rfl) (by decide) (by decide)) rfl ?_
                        simp -implicitDefEqProofs only [go_sem, ne_eq, not_false_eq_true, Nat.reduceBEq, Nat.reduceAdd, Nat.reduceSub, Nat.reduceMul, Nat.reduceLT, Nat.reduceLeDiff, Int.reduceLE, Int.reduceLT, Int.reduceToNat, Int.reduceBEq, Int.reduceBNe, Int.le_refl, Nat.le_refl, decide_true, decide_false, Int.cast_ofNat_Int, ↓reduceIte, h1300, h1305, h1307, h1424, g1427, g1428, h1429, h1434, h1438, h1440, g1647, g1648, g1649, h1650, h1653, g1747, g1748, g1749]
                        refine W_sound tab_ok mixed 6 _ _ _ ?_
                        simp -implicitDefEqProofs only [go_sem, ne_eq, not_false_eq_true, Nat.reduceBEq, Nat.reduceAdd, Nat.reduceSub, Nat.reduceMul, Nat.reduceLT, Nat.reduceLeDiff, Int.reduceLE, Int.reduceLT, Int.reduceToNat, Int.reduceBEq, Int.reduceBNe, Int.le_refl, Nat.le_refl, decide_true, decide_false, Int.cast_ofNat_Int, ↓reduceIte, h1300, h1305, h1307, h1424, g1427, g1428, h1429, h1434, h1438, h1440, g1647, g1648, g1649, h1650, h1653, g1747, g1748, g1749]
                        repeat with_reducible refine And.intro (by first | kernel_rfl | decide) ?_
                        exact cutQ _ ((Wk_le (.cons _ _ _ _ _ (.refl _) (.cons _ _ _ _ _ (.refl _) (.cons _ _ _ _ _ (.refl _) (.cons _ _ _ _ _ (.refl _) (.cons _ _ _ _ _ (.refl _) (.cons _ _ _ _ _ (.refl _) (.cons _ _ _ _ _ (.refl _) (.cons _ _ _ _ _ (.refl _) (.cons _ _ _ _ _ (.refl _) (.cons _ _ _ _ _ (.refl _) (.cons _ _ _ _ _ (.refl _) (.cons _ _ _ _ _ (.dead _) (.cons _ _ _ _ _ (.refl _) (.cons _ _ _ _ _ (.refl _) (.cons _ _ _ _ _ (.refl _) (.cons _ _ _ _ _ (.refl _) (.cons _ _ _ _ _ (.refl _) (.cons _ _ _ _ _ (.refl _) (.cons _ _ _ _ _ (.refl _) .nil))))))))))))))))))) (OLe.refl _)).trans (cmpS_ok (st' := ⟨[], [(0, .v (.lst false n1301 c1302)), (2, .dead), (3, .dead), (4, .dead), (5, .dead), (6, .v (.lst false n1425 c1426)), (7, .v (.lst false n1435 c1436)), (8, .v (.int .i64 x1437)), (9, .v (.int .i64 x1439)), (10, .sl false 0 0 (n1644 + 1) 1), (11, .v (.int .i64 (IntKind.i64.wrap (x1645 + 1)))), (12, .dead), (13, .dead), (17, .dead), (30, .dead), (36, .dead), (45, .dead), (54, .dead), (86, .dead)], [(0, .p (c1646 ++ [(.lst false n1745 c1746)]))], 1, []⟩) (by kernel_rfl))) ⟨n, Nat.lt_succ_self n, _, _, _, h1784, rfl⟩
                    · refine W_sound tab_ok mixed 13 _ _ _ ?_
                      simp -implicitDefEqProofs only [go_sem, ne_eq, not_false_eq_true, Nat.reduceBEq, Nat.reduceAdd, Nat.reduceSub, Nat.reduceMul, Nat.reduceLT, Nat.reduceLeDiff, Int.reduceLE, Int.reduceLT, Int.reduceToNat, Int.reduceBEq, Int.reduceBNe, Int.le_refl, Nat.le_refl, decide_true, decide_false, Int.cast_ofNat_Int, ↓reduceIte, h1300, h1305, h1307, h1424, g1427, g1428, h1429, h1434, h1438, h1440, g1647, g1648, g1649, h1650, h1653]
                      repeat with_reducible refine And.intro (by first | kernel_rfl | decide) ?_
                      obtain rfl := Option.some.inj h1780
                      exact cutQ _ ((Wk_le (.cons _ _ _ _ _ (.refl _) (.cons _ _ _ _ _ (.refl _) (.cons _ _ _ _ _ (.refl _) (.cons _ _ _ _ _ (.refl _) (.cons _ _ _ _ _ (.refl _) (.cons _ _ _ _ _ (.refl _) (.cons _ _ _ _ _ (.refl _) (.cons _ _ _ _ _ (.refl _) (.cons _ _ _ _ _ (.refl _) (.cons _ _ _ _ _ (.refl _) (.cons _ _ _ _ _ (.dead _) (.cons _ _ _ _ _ (.refl _) (.cons _ _ _ _ _ (.refl _) (.cons _ _ _ _ _ (.refl _) (.cons _ _ _ _ _ (.refl _) (.cons _ _ _ _ _ (.refl _) (.cons _ _ _ _ _ (.dead _) (.cons _ _ _ _ _ (.refl _) (.cons _ _ _ _ _ (.refl _) .nil))))))))))))))))))) (OLe.refl _)).trans (cmpS_ok (st' := ⟨[], [(0, .v (.lst false n1301 c1302)), (2, .dead), (3, .dead), (4, .dead), (5, .dead), (6, .v (.lst false n1425 c1426)), (7, .v (.lst false n1435 c1436)), (8, .v (.int .i64 x1437)), (9, .v (.int .i64 x1439)), (10, .sl false 0 0 n1644 1), (11, .dead), (12, .dead), (13, .dead), (17, .dead), (30, .dead), (36, .dead), (45, .dead), (54, .dead), (86, .dead)], [(0, .p c1646)], 1, []⟩) (by kernel_rfl))) ⟨_, _, rfl, rfl⟩
                · rintro _ ⟨n1750, c1751, rfl, rfl⟩
                  (try dsimp only at h1781)
                  refine W_sound tab_ok mixed 1 _ _ _ ?_
                  simp -implicitDefEqProofs only [go_sem, ne_eq, not_false_eq_true, Nat.reduceBEq, Nat.reduceAdd, Nat.reduceSub, Nat.reduceMul, Nat.reduceLT, Nat.reduceLeDiff, Int.reduceLE, Int.reduceLT, Int.reduceToNat, Int.reduceBEq, Int.reduceBNe, Int.le_refl, Nat.le_refl, decide_true, decide_false, Int.cast_ofNat_Int, ↓reduceIte, h1300, h1305, h1307, h1424, g1427, g1428, h1429, h1434, h1438, h1440]
                  repeat with_reducible refine And.intro (by first | kernel_rfl | decide) ?_
                  have hh := grd_some h1781; clear h1781; obtain ⟨g1752, h1781⟩ := hh
                  refine Wp_wkK (Wk_freeze 0 c1751 (by rfl) (by decide) (by decide)) rfl ?_
                  simp -implicitDefEqProofs only [go_sem, ne_eq, not_false_eq_true, Nat.reduceBEq, Nat.reduceAdd, Nat.reduceSub, Nat.reduceMul, Nat.reduceLT, Nat.reduceLeDiff, Int.reduceLE, Int.reduceLT, Int.reduceToNat, Int.reduceBEq, Int.reduceBNe, Int.le_refl, Nat.le_refl, decide_true, decide_false, Int.cast_ofNat_Int, ↓reduceIte, h1300, h1305, h1307, h1424, g1427, g1428, h1429, h1434, h1438, h1440, g1752]
                  have hh := bnd'_some h1781; clear h1781; obtain ⟨p1753, h1754, h1781⟩ := hh
                  refine W_sound tab_ok mixed 2 _ _ _ ?_
                  simp -implicitDefEqProofs only [go_sem, ne_eq, not_false_eq_true, Nat.reduceBEq, Nat.reduceAdd, Nat.reduceSub, Nat.reduceMul, Nat.reduceLT, Nat.reduceLeDiff, Int.reduceLE, Int.reduceLT, Int.reduceToNat, Int.reduceBEq, Int.reduceBNe, Int.le_refl, Nat.le_refl, decide_true, decide_false, Int.cast_ofNat_Int, ↓reduceIte, h1300, h1305, h1307, h1424, g1427, g1428, h1429, h1434, h1438, h1440, g1752]
                  repeat with_reducible refine And.intro (by first | kernel_rfl | decide) ?_
                  refine Wp_callP (c78 N _ _ h1754) (by kernel_rfl) rfl rfl rfl rfl (by decide) ?_
                  have hh := getL_some h1781; clear h1781; obtain ⟨n1756, c1757, h1755, h1781⟩ := hh
                  have hh := brn_some h1781; clear h1781; rcases hh with ⟨h1758, h1781⟩ | ⟨h1758, h1781⟩
                  · have hh := grd_some h1781; clear h1781; obtain ⟨⟨g1759, g1760⟩, h1781⟩ := hh
                    have hh := grd_some h1781; clear h1781; obtain ⟨g1761, h1781⟩ := hh
                    have hh := getL_some h1781; clear h1781; obtain ⟨n1763, c1764, h1762, h1781⟩ := hh
                    have hh := grd_some h1781; clear h1781; obtain ⟨⟨g1765, g1766⟩, h1781⟩ := hh
                    have hh := grd_some h1781; clear h1781; obtain ⟨g1767, h1781⟩ := hh
                    have hh := getL_some h1781; clear h1781; obtain ⟨n1769, c1770, h1768, h1781⟩ := hh
                    refine W_sound tab_ok mixed 20 _ _ _ ?_
                    simp -implicitDefEqProofs only [go_sem, ne_eq, not_false_eq_true, Nat.reduceBEq, Nat.reduceAdd, Nat.reduceSub, Nat.reduceMul, Nat.reduceLT, Nat.reduceLeDiff, Int.reduceLE, Int.reduceLT, Int.reduceToNat, Int.reduceBEq, Int.reduceBNe, Int.le_refl, Nat.le_refl, decide_true, decide_false, Int.cast_ofNat_Int, ↓reduceIte, h1300, h1305, h1307, h1424, g1427, g1428, h1429, h1434, h1438, h1440, g1752, h1755, h1758, g1759, g1760, g1761, h1762, g1765, g1766, g1767, h1768]
                    repeat with_reducible refine And.intro (by first | kernel_rfl | decide) ?_
                    obtain rfl := Option.some.inj h1781
                    (try dsimp only at h1778)
                    obtain rfl := Option.some.inj h1778
                    (try dsimp only at h1775)
                    obtain rfl := Option.some.inj h1775
                    exact finC [(2, .v (.lst false n1763 c1764)), (3, .v (.lst false n1769 c1770)), (4, .v (.int .i64 0))] [(2, .v (.lst false n1763 c1764)), (3, .v (.lst false n1769 c1770)), (4, .v (.int .i64 0))] (by simp [leE, lk_cons]) (.cons _ _ _ _ _ (.v _ _ (.refl _)) (.cons _ _ _ _ _ (.v _ _ (.refl _)) (.cons _ _ _ _ _ (.v _ _ (.refl _)) .nil))) (by rfl) (by simp [leE, lk_cons]) (by decide) (by decide) rfl (by simp only [go_sem, ne_eq, not_false_eq_true, Nat.reduceBEq, Nat.reduceAdd, Nat.reduceSub, Nat.reduceMul, Nat.reduceLT, Nat.reduceLeDiff, Int.reduceLE, Int.reduceLT, Int.reduceToNat, Int.reduceBEq, Int.reduceBNe, Int.le_refl, Nat.le_refl, decide_true, decide_false, Int.cast_ofNat_Int, ↓reduceIte, resQ_tmp, resQ_cell, resQ_nil, retD_one, retD_two, retD_three, retD_none]; try simp [R.val, retD_one, retD_two, retD_three, retD_none])
                  · refine W_sound tab_ok mixed 11 _ _ _ ?_
                    simp -implicitDefEqProofs only [go_sem, ne_eq, not_false_eq_true, Nat.reduceBEq, Nat.reduceAdd, Nat.reduceSub, Nat.reduceMul, Nat.reduceLT, Nat.reduceLeDiff, Int.reduceLE, Int.reduceLT, Int.reduceToNat, Int.reduceBEq, Int.reduceBNe, Int.le_refl, Nat.le_refl, decide_true, decide_false, Int.cast_ofNat_Int, ↓reduceIte, h1300, h1305, h1307, h1424, g1427, g1428, h1429, h1434, h1438, h1440, g1752, h1755, h1758]
                    repeat with_reducible refine And.intro (by first | kernel_rfl | decide) ?_
                    exact cutQ _ ((Wk_le (.cons _ _ _ _ _ (.refl _) (.cons _ _ _ _ _ (.refl _) (.cons _ _ _ _ _ (.refl _) (.cons _ _ _ _ _ (.refl _) (.cons _ _ _ _ _ (.refl _) (.cons _ _ _ _ _ (.refl _) (.cons _ _ _ _ _ (.refl _) (.cons _ _ _ _ _ (.refl _) (.cons _ _ _ _ _ (.refl _) (.cons _ _ _ _ _ (.dead _) (.cons _ _ _ _ _ (.refl _) (.cons _ _ _ _ _ (.refl _) (.cons _ _ _ _ _ (.refl _) (.cons _ _ _ _ _ (.refl _) (.cons _ _ _ _ _ (.refl _) (.cons _ _ _ _ _ (.refl _) (.cons _ _ _ _ _ (.refl _) (.cons _ _ _ _ _ (.refl _) (.cons _ _ _ _ _ (.dead _) .nil))))))))))))))))))) (OLe.refl _)).trans (cmpS_ok (st' := ⟨[], [(0, .v (.lst false n1301 c1302)), (2, .dead), (3, .dead), (4, .dead), (5, .dead), (6, .v (.lst false n1425 c1426)), (7, .v (.lst false n1435 c1436)), (8, .v (.int .i64 x1437)), (9, .v (.int .i64 (IntKind.i64.wrap (x1439 + 1)))), (10, .dead), (11, .dead), (12, .dead), (13, .dead), (17, .dead), (30, .dead), (36, .dead), (45, .dead), (54, .dead), (86, .dead)], [], 0, []⟩) (by kernel_rfl))) ⟨n, Nat.lt_succ_self n, _, h1781, rfl⟩
              · refine W_sound tab_ok mixed 10 _ _ _ ?_
                simp -implicitDefEqProofs only [go_sem, ne_eq, not_false_eq_true, Nat.reduceBEq, Nat.reduceAdd, Nat.reduceSub, Nat.reduceMul, Nat.reduceLT, Nat.reduceLeDiff, Int.reduceLE, Int.reduceLT, Int.reduceToNat, Int.reduceBEq, Int.reduceBNe, Int.le_refl, Nat.le_refl, decide_true, decide_false, Int.cast_ofNat_Int, ↓reduceIte, h1300, h1305, h1307, h1424, g1427, g1428, h1429, h1434, h1438, h1440]
                repeat with_reducible refine And.intro (by first | kernel_rfl | decide) ?_
                obtain rfl := Option.some.inj h1777
                exact cutQ _ ((Wk_le (.cons _ _ _ _ _ (.refl _) (.cons _ _ _ _ _ (.refl _) (.cons _ _ _ _ _ (.refl _) (.cons _ _ _ _ _ (.refl _) (.cons _ _ _ _ _ (.refl _) (.cons _ _ _ _ _ (.refl _) (.cons _ _ _ _ _ (.refl _) (.cons _ _ _ _ _ (.refl _) (.cons _ _ _ _ _ (.dead _) (.cons _ _ _ _ _ (.refl _) (.cons _ _ _ _ _ (.refl _) (.cons _ _ _ _ _ (.refl _) (.cons _ _ _ _ _ (.refl _) (.cons _ _ _ _ _ (.refl _) (.cons _ _ _ _ _ (.refl _) (.cons _ _ _ _ _ (.dead _) (.cons _ _ _ _ _ (.refl _) (.cons _ _ _ _ _ (.refl _) (.cons _ _ _ _ _ (.refl _) .nil))))))))))))))))))) (OLe.refl _)).trans (cmpS_ok (st' := ⟨[], [(0, .v (.lst false n1301 c1302)), (2, .dead), (3, .dead), (4, .dead), (5, .dead), (6, .v (.lst false n1425 c1426)), (7, .v (.lst false n1435 c1436)), (8, .v (.int .i64 x1437)), (9, .dead), (10, .dead), (11, .dead), (12, .dead), (13, .dead), (17, .dead), (30, .dead), (36, .dead), (45, .dead), (54, .dead), (86, .dead)], [], 0, []⟩) (by kernel_rfl))) ⟨rfl, rfl⟩
          · rintro _ ⟨rfl, rfl⟩
            (try dsimp only at h1778)
            refine W_sound tab_ok mixed 6 _ _ _ ?_
            simp -implicitDefEqProofs only [go_sem, ne_eq, not_false_eq_true, Nat.reduceBEq, Nat.reduceAdd, Nat.reduceSub, Nat.reduceMul, Nat.reduceLT, Nat.reduceLeDiff, Int.reduceLE, Int.reduceLT, Int.reduceToNat, Int.reduceBEq, Int.reduceBNe, Int.le_refl, Nat.le_refl, decide_true, decide_false, Int.cast_ofNat_Int, ↓reduceIte, h1300, h1305, h1307, h1424, g1427, g1428, h1429, h1434, h1438]
            repeat with_reducible refine And.intro (by first | kernel_rfl | decide) ?_
            exact cutQ _ ((Wk_le (.cons _ _ _ _ _ (.refl _) (.cons _ _ _ _ _ (.refl _) (.cons _ _ _ _ _ (.refl _) (.cons _ _ _ _ _ (.refl _) (.cons _ _ _ _ _ (.refl _) (.cons _ _ _ _ _ (.refl _) (.cons _ _ _ _ _ (.refl _) (.cons _ _ _ _ _ (.refl _) (.cons _ _ _ _ _ (.refl _) (.cons _ _ _ _ _ (.refl _) (.cons _ _ _ _ _ (.refl _) (.cons _ _ _ _ _ (.refl _) (.cons _ _ _ _ _ (.refl _) (.cons _ _ _ _ _ (.refl _) (.cons _ _ _ _ _ (.refl _) (.cons _ _ _ _ _ (.refl _) (.cons _ _ _ _ _ (.refl _) (.cons _ _ _ _ _ (.refl _) (.cons _ _ _ _ _ (.refl _) .nil))))))))))))))))))) (OLe.refl _)).trans (cmpS_ok (st' := ⟨[], [(0, .v (.lst false n1301 c1302)), (2, .dead), (3, .dead), (4, .dead), (5, .dead), (6, .v (.lst false n1425 c1426)), (7, .v (.lst false n1435 c1436)), (8, .v (.int .i64 (IntKind.i64.wrap (x1437 + 1)))), (9, .dead), (10, .dead), (11, .dead), (12, .dead), (13, .dead), (17, .dead), (30, .dead), (36, .dead), (45, .dead), (54, .dead), (86, .dead)], [], 0, []⟩) (by kernel_rfl))) ⟨n, Nat.lt_succ_self n, _, h1778, rfl⟩
        · refine W_sound tab_ok mixed 10 _ _ _ ?_
          simp -implicitDefEqProofs only [go_sem, ne_eq, not_false_eq_true, Nat.reduceBEq, Nat.reduceAdd, Nat.reduceSub, Nat.reduceMul, Nat.reduceLT, Nat.reduceLeDiff, Int.reduceLE, Int.reduceLT, Int.reduceToNat, Int.reduceBEq, Int.reduceBNe, Int.le_refl, Nat.le_refl, decide_true, decide_false, Int.cast_ofNat_Int, ↓reduceIte, h1300, h1305, h1307, h1424, g1427, g1428, h1429, h1434, h1438]
          repeat with_reducible refine And.intro (by first | kernel_rfl | decide) ?_
          obtain rfl := Option.some.inj h1774
          exact cutQ _ ((Wk_le (.cons _ _ _ _ _ (.dead _) (.cons _ _ _ _ _ (.refl _) (.cons _ _ _ _ _ (.refl _) (.cons _ _ _ _ _ (.refl _) (.cons _ _ _ _ _ (.refl _) (.cons _ _ _ _ _ (.dead _) (.cons _ _ _ _ _ (.dead _) (.cons _ _ _ _ _ (.dead _) (.cons _ _ _ _ _ (.refl _) (.cons _ _ _ _ _ (.refl _) (.cons _ _ _ _ _ (.refl _) (.cons _ _ _ _ _ (.refl _) (.cons _ _ _ _ _ (.refl _) (.cons _ _ _ _ _ (.refl _) (.cons _ _ _ _ _ (.dead _) (.cons _ _ _ _ _ (.refl _) (.cons _ _ _ _ _ (.refl _) (.cons _ _ _ _ _ (.refl _) (.cons _ _ _ _ _ (.refl _) .nil))))))))))))))))))) (OLe.refl _)).trans (cmpS_ok (st' := ⟨[], [(0, .dead), (2, .dead), (3, .dead), (4, .dead), (5, .dead), (6, .dead), (7, .dead), (8, .dead), (9, .dead), (10, .dead), (11, .dead), (12, .dead), (13, .dead), (17, .dead), (30, .dead), (36, .dead), (45, .dead), (54, .dead), (86, .dead)], [], 0, []⟩) (by kernel_rfl))) ⟨rfl, rfl⟩
    · rintro _ ⟨rfl, rfl⟩
      (try dsimp only at h1775)
      refine W_sound tab_ok mixed 8 _ _ _ ?_
      simp -implicitDefEqProofs only [go_sem, ne_eq, not_false_eq_true, Nat.reduceBEq, Nat.reduceAdd, Nat.reduceSub, Nat.reduceMul, Nat.reduceLT, Nat.reduceLeDiff, Int.reduceLE, Int.reduceLT, Int.reduceToNat, Int.reduceBEq, Int.reduceBNe, Int.le_refl, Nat.le_refl, decide_true, decide_false, Int.cast_ofNat_Int, ↓reduceIte, h1300, h1305, h1307, h1424, g1427, g1428, h1429, h1434]
      repeat with_reducible refine And.intro (by first | kernel_rfl | decide) ?_
      obtain rfl := Option.some.inj h1775
      exact finC [(2, .v .nl), (3, .v .nl), (4, .v (.int .i64 12))] [(2, .v (.lst false 0 [])), (3, .v (.lst false 0 [])), (4, .v (.int .i64 12))] (by simp [leE, lk_cons]) (.cons _ _ _ _ _ (.v _ _ (.nl false)) (.cons _ _ _ _ _ (.v _ _ (.nl false)) (.cons _ _ _ _ _ (.v _ _ (.refl _)) .nil))) (by rfl) (by simp [leE, lk_cons]) (by decide) (by decide) rfl (by simp only [go_sem, ne_eq, not_false_eq_true, Nat.reduceBEq, Nat.reduceAdd, Nat.reduceSub, Nat.reduceMul, Nat.reduceLT, Nat.reduceLeDiff, Int.reduceLE, Int.reduceLT, Int.reduceToNat, Int.reduceBEq, Int.reduceBNe, Int.le_refl, Nat.le_refl, decide_true, decide_false, Int.cast_ofNat_Int, ↓reduceIte, resQ_tmp, resQ_cell, resQ_nil, retD_one, retD_two, retD_three, retD_none]; try simp [R.val, retD_one, retD_two, retD_three, retD_none])

def m5 (N : Nat) (p1785 : PV) : Option (PV) :=
  getL p1785 fun n1787 c1788 =>
  bnd' (m15 N (.lst false n1787 c1788)) fun p1789 =>
  getB p1789 fun b1792 =>
  brn b1792 (
    bnd' (m17 N ) fun p1794 =>
    getB p1794 fun b1797 =>
    some (.bool b1797)) (
    bnd' (m31 N (.lst false n1787 c1788)) fun p1798 =>
    getT2 p1798 fun p1801 p1802 =>
    getB p1801 fun b1804 =>
    getI .i64 p1802 fun x1806 =>
    bnd' (m32 N (.lst false n1787 c1788)) fun p1807 =>
    getT2 p1807 fun p1810 p1811 =>
    getB p1810 fun b1813 =>
    getI .i64 p1811 fun x1815 =>
    bnd' (m33 N (.lst false n1787 c1788)) fun p1816 =>
    getT2 p1816 fun p1819 p1820 =>
    getL p1819 fun n1822 c1823 =>
    getI .i64 p1820 fun x1825 =>
    bnd' (m34 N (.lst false n1787 c1788)) fun p1826 =>
    getT2 p1826 fun p1829 p1830 =>
    getL p1829 fun n1832 c1833 =>
    getI .i64 p1830 fun x1835 =>
    bnd' (m35 N (.lst false n1787 c1788)) fun p1836 =>
    getT3 p1836 fun p1839 p1840 p1841 =>
    getL p1839 fun n1843 c1844 =>
    getL p1840 fun n1846 c1847 =>
    getI .i64 p1841 fun x1849 =>
    bnd' (m36 N (.lst false n1787 c1788)) fun p1850 =>
    getT3 p1850 fun p1853 p1854 p1855 =>
    getL p1853 fun n1857 c1858 =>
    getL p1854 fun n1860 c1861 =>
    getI .i64 p1855 fun x1863 =>
    brn (b1804 == b1813) (
      brn (x1806 == x1815) (
        bnd' (m37 N (.lst false n1822 c1823) (.lst false n1832 c1833)) fun p1866 =>
        getB p1866 fun b1869 =>
        brn b1869 (
          brn (x1825 == x1835) (
            bnd' (m37 N (.lst false n1843 c1844) (.lst false n1857 c1858)) fun p1872 =>
            getB p1872 fun b1875 =>
            brn b1875 (
              bnd' (m37 N (.lst false n1846 c1847) (.lst false n1860 c1861)) fun p1877 =>
              getB p1877 fun b1880 =>
              brn b1880 (
                brn (x1849 == x1863) (
                  bnd' (m17 N ) fun p1883 =>
                  getB p1883 fun b1886 =>
                  some (.bool b1886)) (
                  some (.bool false))) (
                some (.bool false))) (
              some (.bool false))) (
            some (.bool false))) (
          some (.bool false))) (
        some (.bool false))) (
      some (.bool false)))
theorem c5 (N : Nat) (p1785 : PV) (r : PV)  (h : m5 N p1785 = some r) : FnP Try.prog 5 [p1785] r := by
  unfold m5 at h
  refine Fn_of (sz := 88) tab_ok [0, 2, 3, 4, 5, 6, 7, 8, 9, 10, 11, 12, 13, 14, 15, 16, 18] [.tmp 2] Try.func5 rfl rfl rfl (by simp) ?_
  simp only [initSt, initEnv, List.map_cons, List.map_nil, List.getD_cons_zero, List.getD_cons_succ, List.getD_nil]
  have hh := getL_some h; clear h; obtain ⟨n1787, c1788, h1786, h⟩ := hh
  have hh := bnd'_some h; clear h; obtain ⟨p1789, h1790, h⟩ := hh
  refine W_sound tab_ok mixed 8 _ _ _ ?_
  simp -implicitDefEqProofs only [go_sem, ne_eq, not_false_eq_true, Nat.reduceBEq, Nat.reduceAdd, Nat.reduceSub, Nat.reduceMul, Nat.reduceLT, Nat.reduceLeDiff, Int.reduceLE, Int.reduceLT, Int.reduceToNat, Int.reduceBEq, Int.reduceBNe, Int.le_refl, Nat.le_refl, decide_true, decide_false, Int.cast_ofNat_Int, ↓reduceIte, h1786]
  repeat with_reducible refine And.intro (by first | kernel_rfl | decide) ?_
  refine Wp_callP (c15 N _ _ h1790) (by kernel_rfl) rfl rfl rfl rfl (by decide) ?_
  have hh := getB_some h; clear h; obtain ⟨b1792, h1791, h⟩ := hh
  have hh := brn_some h; clear h; rcases hh with ⟨h1793, h⟩ | ⟨h1793, h⟩
  · have hh := bnd'_some h; clear h; obtain ⟨p1794, h1795, h⟩ := hh
    refine W_sound tab_ok mixed 4 _ _ _ ?_
    simp -implicitDefEqProofs only [go_sem, ne_eq, not_false_eq_true, Nat.reduceBEq, Nat.reduceAdd, Nat.reduceSub, Nat.reduceMul, Nat.reduceLT, Nat.reduceLeDiff, Int.reduceLE, Int.reduceLT, Int.reduceToNat, Int.reduceBEq, Int.reduceBNe, Int.le_refl, Nat.le_refl, decide_true, decide_false, Int.cast_ofNat_Int, ↓reduceIte, h1786, h1791, h1793]
    repeat with_reducible refine And.intro (by first | kernel_rfl | decide) ?_
    refine Wp_callP (c17 N  _ h1795) (by kernel_rfl) rfl rfl rfl rfl (by decide) ?_
    have hh := getB_some h; clear h; obtain ⟨b1797, h1796, h⟩ := hh
    refine W_sound tab_ok mixed 4 _ _ _ ?_
    simp -implicitDefEqProofs only [go_sem, ne_eq, not_false_eq_true, Nat.reduceBEq, Nat.reduceAdd, Nat.reduceSub, Nat.reduceMul, Nat.reduceLT, Nat.reduceLeDiff, Int.reduceLE, Int.reduceLT, Int.reduceToNat, Int.reduceBEq, Int.reduceBNe, Int.le_refl, Nat.le_refl, decide_true, decide_false, Int.cast_ofNat_Int, ↓reduceIte, h1786, h1791, h1793, h1796]
    repeat with_reducible refine And.intro (by first | kernel_rfl | decide) ?_
    obtain rfl := Option.some.inj h
    exact finC [(2, .v (.bool b1797))] [(2, .v (.bool b1797))] (by simp [leE, lk_cons]) (.cons _ _ _ _ _ (.v _ _ (.refl _)) .nil) (by rfl) (by simp [leE, lk_cons]) (by decide) (by decide) rfl (by simp only [go_sem, ne_eq, not_false_eq_true, Nat.reduceBEq, Nat.reduceAdd, Nat.reduceSub, Nat.reduceMul, Nat.reduceLT, Nat.reduceLeDiff, Int.reduceLE, Int.reduceLT, Int.reduceToNat, Int.reduceBEq, Int.reduceBNe, Int.le_refl, Nat.le_refl, decide_true, decide_false, Int.cast_ofNat_Int, ↓reduceIte, resQ_tmp, resQ_cell, resQ_nil, retD_one, retD_two, retD_three, retD_none]; try simp [R.val, retD_one, retD_two, retD_three, retD_none])
  · have hh := bnd'_some h; clear h; obtain ⟨p1798, h1799, h⟩ := hh
    refine W_sound tab_ok mixed 6 _ _ _ ?_
    simp -implicitDefEqProofs only [go_sem, ne_eq, not_false_eq_true, Nat.reduceBEq, Nat.reduceAdd, Nat.reduceSub, Nat.reduceMul, Nat.reduceLT, Nat.reduceLeDiff, Int.reduceLE, Int.reduceLT, Int.reduceToNat, Int.reduceBEq, Int.reduceBNe, Int.le_refl, Nat.le_refl, decide_true, decide_false, Int.cast_ofNat_Int, ↓reduceIte, h1786, h1791, h1793]
    repeat with_reducible refine And.intro (by first | kernel_rfl | decide) ?_
    refine Wp_callP (c31 N _ _ h1799) (by kernel_rfl) rfl rfl rfl rfl (by decide) ?_
    have hh := getT2_some h; clear h; obtain ⟨p1801, p1802, h1800, h⟩ := hh
    have hh := getB_some h; clear h; obtain ⟨b1804, h1803, h⟩ := hh
    have hh := getI_some h; clear h; obtain ⟨x1806, h1805, h⟩ := hh
    have hh := bnd'_some h; clear h; obtain ⟨p1807, h1808, h⟩ := hh
    refine W_sound tab_ok mixed 9 _ _ _ ?_
    simp -implicitDefEqProofs only [go_sem, ne_eq, not_false_eq_true, Nat.reduceBEq, Nat.reduceAdd, Nat.reduceSub, Nat.reduceMul, Nat.reduceLT, Nat.reduceLeDiff, Int.reduceLE, Int.reduceLT, Int.reduceToNat, Int.reduceBEq, Int.reduceBNe, Int.le_refl, Nat.le_refl, decide_true, decide_false, Int.cast_ofNat_Int, ↓reduceIte, h1786, h1791, h1793, h1800, h1803, h1805]
    repeat with_reducible refine And.intro (by first | kernel_rfl | decide) ?_
    refine Wp_callP (c32 N _ _ h1808) (by kernel_rfl) rfl rfl rfl rfl (by decide) ?_
    have hh := getT2_some h; clear h; obtain ⟨p1810, p1811, h1809, h⟩ := hh
    have hh := getB_some h; clear h; obtain ⟨b1813, h1812, h⟩ := hh
    have hh := getI_some h; clear h; obtain ⟨x1815, h1814, h⟩ := hh
    have hh := bnd'_some h; clear h; obtain ⟨p1816, h1817, h⟩ := hh
    refine W_sound tab_ok mixed 9 _ _ _ ?_
    simp -implicitDefEqProofs only [go_sem, ne_eq, not_false_eq_true, Nat.reduceBEq, Nat.reduceAdd, Nat.reduceSub, Nat.reduceMul, Nat.reduceLT, Nat.reduceLeDiff, Int.reduceLE, Int.reduceLT, Int.reduceToNat, Int.reduceBEq, Int.reduceBNe, Int.le_refl, Nat.le_refl, decide_true, decide_false, Int.cast_ofNat_Int, ↓reduceIte, h1786, h1791, h1793, h1800, h1803, h1805, h1809, h1812, h1814]
    repeat with_reducible refine And.intro (by first | kernel_rfl | decide) ?_
    refine Wp_callP (c33 N _ _ h1817) (by kernel_rfl) rfl rfl rfl rfl (by decide) ?_
    have hh := getT2_some h; clear h; obtain ⟨p1819, p1820, h1818, h⟩ := hh
    have hh := getL_some h; clear h; obtain ⟨n1822, c1823, h1821, h⟩ := hh
    have hh := getI_some h; clear h; obtain ⟨x1825, h1824, h⟩ := hh
    have hh := bnd'_some h; clear h; obtain ⟨p1826, h1827, h⟩ := hh
    refine W_sound tab_ok mixed 9 _ _ _ ?_
    simp -implicitDefEqProofs only [go_sem, ne_eq, not_false_eq_true, Nat.reduceBEq, Nat.reduceAdd, Nat.reduceSub, Nat.reduceMul, Nat.reduceLT, Nat.reduceLeDiff, Int.reduceLE, Int.reduceLT, Int.reduceToNat, Int.reduceBEq, Int.reduceBNe, Int.le_refl, Nat.le_refl, decide_true, decide_false, Int.cast_ofNat_Int, ↓reduceIte, h1786, h1791, h1793, h1800, h1803, h1805, h1809, h1812, h1814, h1818, h1821, h1824]
    repeat with_reducible refine And.intro (by first | kernel_rfl | decide) ?_
    refine Wp_callP (c34 N _ _ h1827) (by kernel_rfl) rfl rfl rfl rfl (by decide) ?_
    have hh := getT2_some h; clear h; obtain ⟨p1829, p1830, h1828, h⟩ := hh
    have hh := getL_some h; clear h; obtain ⟨n1832, c1833, h1831, h⟩ := hh
    have hh := getI_some h; clear h; obtain ⟨x1835, h1834, h⟩ := hh
    have hh := bnd'_some h; clear h; obtain ⟨p1836, h1837, h⟩ := hh
    refine W_sound tab_ok mixed 9 _ _ _ ?_
    simp -implicitDefEqProofs only [go_sem, ne_eq, not_false_eq_true, Nat.reduceBEq, Nat.reduceAdd, Nat.reduceSub, Nat.reduceMul, Nat.reduceLT, Nat.reduceLeDiff, Int.reduceLE, Int.reduceLT, Int.reduceToNat, Int.reduceBEq, Int.reduceBNe, Int.le_refl, Nat.le_refl, decide_true, decide_false, Int.cast_ofNat_Int, ↓reduceIte, h1786, h1791, h1793, h1800, h1803, h1805, h1809, h1812, h1814, h1818, h1821, h1824, h1828, h1831, h1834]
    repeat with_reducible refine And.intro (by first | kernel_rfl | decide) ?_
    refine Wp_callP (c35 N _ _ h1837) (by kernel_rfl) rfl rfl rfl rfl (by decide) ?_
    have hh := getT3_some h; clear h; obtain ⟨p1839, p1840, p1841, h1838, h⟩ := hh
    have hh := getL_some h; clear h; obtain ⟨n1843, c1844, h1842, h⟩ := hh
    have hh := getL_some h; clear h; obtain ⟨n1846, c1847, h1845, h⟩ := hh
    have hh := getI_some h; clear h; obtain ⟨x1849, h1848, h⟩ := hh
    have hh := bnd'_some h; clear h; obtain ⟨p1850, h1851, h⟩ := hh
    refine W_sound tab_ok mixed 11 _ _ _ ?_
    simp -implicitDefEqProofs only [go_sem, ne_eq, not_false_eq_true, Nat.reduceBEq, Nat.reduceAdd, Nat.reduceSub, Nat.reduceMul, Nat.reduceLT, Nat.reduceLeDiff, Int.reduceLE, Int.reduceLT, Int.reduceToNat, Int.reduceBEq, Int.reduceBNe, Int.le_refl, Nat.le_refl, decide_true, decide_false, Int.cast_ofNat_Int, ↓reduceIte, h1786, h1791, h1793, h1800, h1803, h1805, h1809, h1812, h1814, h1818, h1821, h1824, h1828, h1831, h1834, h1838, h1842, h1845, h1848]
    repeat with_reducible refine And.intro (by first | kernel_rfl | decide) ?_
    refine Wp_callP (c36 N _ _ h1851) (by kernel_rfl) rfl rfl rfl rfl (by decide) ?_
    have hh := getT3_some h; clear h; obtain ⟨p1853, p1854, p1855, h1852, h⟩ := hh
    have hh := getL_some h; clear h; obtain ⟨n1857, c1858, h1856, h⟩ := hh
    have hh := getL_some h; clear h; obtain ⟨n1860, c1861, h1859, h⟩ := hh
    have hh := getI_some h; clear h; obtain ⟨x1863, h1862, h⟩ := hh
    have hh := brn_some h; clear h; rcases hh with ⟨h1864, h⟩ | ⟨h1864, h⟩
    · have hh := brn_some h; clear h; rcases hh with ⟨h1865, h⟩ | ⟨h1865, h⟩
      · have hh := bnd'_some h; clear h; obtain ⟨p1866, h1867, h⟩ := hh
        refine W_sound tab_ok mixed 21 _ _ _ ?_
        simp -implicitDefEqProofs only [go_sem, ne_eq, not_false_eq_true, Nat.reduceBEq, Nat.reduceAdd, Nat.reduceSub, Nat.reduceMul, Nat.reduceLT, Nat.reduceLeDiff, Int.reduceLE, Int.reduceLT, Int.reduceToNat, Int.reduceBEq, Int.reduceBNe, Int.le_refl, Nat.le_refl, decide_true, decide_false, Int.cast_ofNat_Int, ↓reduceIte, h1786, h1791, h1793, h1800, h1803, h1805, h1809, h1812, h1814, h1818, h1821, h1824, h1828, h1831, h1834, h1838, h1842, h1845, h1848, h1852, h1856, h1859, h1862, h1864, h1865]
        repeat with_reducible refine And.intro (by first | kernel_rfl | decide) ?_
        refine Wp_callP (c37 N _ _ _ h1867) (by kernel_rfl) rfl rfl rfl rfl (by decide) ?_
        have hh := getB_some h; clear h; obtain ⟨b1869, h1868, h⟩ := hh
        have hh := brn_some h; clear h; rcases hh with ⟨h1870, h⟩ | ⟨h1870, h⟩
        · have hh := brn_some h; clear h; rcases hh with ⟨h1871, h⟩ | ⟨h1871, h⟩
          · have hh := bnd'_some h; clear h; obtain ⟨p1872, h1873, h⟩ := hh
            refine W_sound tab_ok mixed 9 _ _ _ ?_
            simp -implicitDefEqProofs only [go_sem, ne_eq, not_false_eq_true, Nat.reduceBEq, Nat.reduceAdd, Nat.reduceSub, Nat.reduceMul, Nat.reduceLT, Nat.reduceLeDiff, Int.reduceLE, Int.reduceLT, Int.reduceToNat, Int.reduceBEq, Int.reduceBNe, Int.le_refl, Nat.le_refl, decide_true, decide_false, Int.cast_ofNat_Int, ↓reduceIte, h1786, h1791, h1793, h1800, h1803, h1805, h1809, h1812, h1814, h1818, h1821, h1824, h1828, h1831, h1834, h1838, h1842, h1845, h1848, h1852, h1856, h1859, h1862, h1864, h1865, h1868, h1870, h1871]
            repeat with_reducible refine And.intro (by first | kernel_rfl | decide) ?_
            refine Wp_callP (c37 N _ _ _ h1873) (by kernel_rfl) rfl rfl rfl rfl (by decide) ?_
            have hh := getB_some h; clear h; obtain ⟨b1875, h1874, h⟩ := hh
            have hh := brn_some h; clear h; rcases hh with ⟨h1876, h⟩ | ⟨h1876, h⟩
            · have hh := bnd'_some h; clear h; obtain ⟨p1877, h1878, h⟩ := hh
              refine W_sound tab_ok mixed 4 _ _ _ ?_
              simp -implicitDefEqProofs only [go_sem, ne_eq, not_false_eq_true, Nat.reduceBEq, Nat.reduceAdd, Nat.reduceSub, Nat.reduceMul, Nat.reduceLT, Nat.reduceLeDiff, Int.reduceLE, Int.reduceLT, Int.reduceToNat, Int.reduceBEq, Int.reduceBNe, Int.le_refl, Nat.le_refl, decide_true, decide_false, Int.cast_ofNat_Int, ↓reduceIte, h1786, h1791, h1793, h1800, h1803, h1805, h1809, h1812, h1814, h1818, h1821, h1824, h1828, h1831, h1834, h1838, h1842, h1845, h1848, h1852, h1856, h1859, h1862, h1864, h1865, h1868, h1870, h1871, h1874, h1876]
              repeat with_reducible refine And.intro (by first | kernel_rfl | decide) ?_
              refine Wp_callP (c37 N _ _ _ h1878) (by kernel_rfl) rfl rfl rfl rfl (by decide) ?_
              have hh := getB_some h; clear h; obtain ⟨b1880, h1879, h⟩ := hh
              have hh := brn_some h; clear h; rcases hh with ⟨h1881, h⟩ | ⟨h1881, h⟩
              · have hh := brn_some h; clear h; rcases hh with ⟨h1882, h⟩ | ⟨h1882, h⟩
                · have hh := bnd'_some h; clear h; obtain ⟨p1883, h1884, h⟩ := hh
                  refine W_sound tab_ok mixed 7 _ _ _ ?_
                  simp -implicitDefEqProofs only [go_sem, ne_eq, not_false_eq_true, Nat.reduceBEq, Nat.reduceAdd, Nat.reduceSub, Nat.reduceMul, Nat.reduceLT, Nat.reduceLeDiff, Int.reduceLE, Int.reduceLT, Int.reduceToNat, Int.reduceBEq, Int.reduceBNe, Int.le_refl, Nat.le_refl, decide_true, decide_false, Int.cast_ofNat_Int, ↓reduceIte, h1786, h1791, h1793, h1800, h1803, h1805, h1809, h1812, h1814, h1818, h1821, h1824, h1828, h1831, h1834, h1838, h1842, h1845, h1848, h1852, h1856, h1859, h1862, h1864, h1865, h1868, h1870, h1871, h1874, h1876, h1879, h1881, h1882]
                  repeat with_reducible refine And.intro (by first | kernel_rfl | decide) ?_
                  refine Wp_callP (c17 N  _ h1884) (by kernel_rfl) rfl rfl rfl rfl (by decide) ?_
                  have hh := getB_some h; clear h; obtain ⟨b1886, h1885, h⟩ := hh
                  refine W_sound tab_ok mixed 5 _ _ _ ?_
                  simp -implicitDefEqProofs only [go_sem, ne_eq, not_false_eq_true, Nat.reduceBEq, Nat.reduceAdd, Nat.reduceSub, Nat.reduceMul, Nat.reduceLT, Nat.reduceLeDiff, Int.reduceLE, Int.reduceLT, Int.reduceToNat, Int.reduceBEq, Int.reduceBNe, Int.le_refl, Nat.le_refl, decide_true, decide_false, Int.cast_ofNat_Int, ↓reduceIte, h1786, h1791, h1793, h1800, h1803, h1805, h1809, h1812, h1814, h1818, h1821, h1824, h1828, h1831, h1834, h1838, h1842, h1845, h1848, h1852, h1856, h1859, h1862, h1864, h1865, h1868, h1870, h1871, h1874, h1876, h1879, h1881, h1882, h1885]
                  repeat with_reducible refine And.intro (by first | kernel_rfl | decide) ?_
                  obtain rfl := Option.some.inj h
                  exact finC [(2, .v (.bool b1886))] [(2, .v (.bool b1886))] (by simp [leE, lk_cons]) (.cons _ _ _ _ _ (.v _ _ (.refl _)) .nil) (by rfl) (by simp [leE, lk_cons]) (by decide) (by decide) rfl (by simp only [go_sem, ne_eq, not_false_eq_true, Nat.reduceBEq, Nat.reduceAdd, Nat.reduceSub, Nat.reduceMul, Nat.reduceLT, Nat.reduceLeDiff, Int.reduceLE, Int.reduceLT, Int.reduceToNat, Int.reduceBEq, Int.reduceBNe, Int.le_refl, Nat.le_refl, decide_true, decide_false, Int.cast_ofNat_Int, ↓reduceIte, resQ_tmp, resQ_cell, resQ_nil, retD_one, retD_two, retD_three, retD_none]; try simp [R.val, retD_one, retD_two, retD_three, retD_none])
                · refine W_sound tab_ok mixed 13 _ _ _ ?_
                  simp -implicitDefEqProofs only [go_sem, ne_eq, not_false_eq_true, Nat.reduceBEq, Nat.reduceAdd, Nat.reduceSub, Nat.reduceMul, Nat.reduceLT, Nat.reduceLeDiff, Int.reduceLE, Int.reduceLT, Int.reduceToNat, Int.reduceBEq, Int.reduceBNe, Int.le_refl, Nat.le_refl, decide_true, decide_false, Int.cast_ofNat_Int, ↓reduceIte, h1786, h1791, h1793, h1800, h1803, h1805, h1809, h1812, h1814, h1818, h1821, h1824, h1828, h1831, h1834, h1838, h1842, h1845, h1848, h1852, h1856, h1859, h1862, h1864, h1865, h1868, h1870, h1871, h1874, h1876, h1879, h1881, h1882]
                  repeat with_reducible refine And.intro (by first | kernel_rfl | decide) ?_
                  obtain rfl := Option.some.inj h
                  exact finC [(2, .v (.bool false))] [(2, .v (.bool false))] (by simp [leE, lk_cons]) (.cons _ _ _ _ _ (.v _ _ (.refl _)) .nil) (by rfl) (by simp [leE, lk_cons]) (by decide) (by decide) rfl (by simp only [go_sem, ne_eq, not_false_eq_true, Nat.reduceBEq, Nat.reduceAdd, Nat.reduceSub, Nat.reduceMul, Nat.reduceLT, Nat.reduceLeDiff, Int.reduceLE, Int.reduceLT, Int.reduceToNat, Int.reduceBEq, Int.reduceBNe, Int.le_refl, Nat.le_refl, decide_true, decide_false, Int.cast_ofNat_Int, ↓reduceIte, resQ_tmp, resQ_cell, resQ_nil, retD_one, retD_two, retD_three, retD_none]; try simp [R.val, retD_one, retD_two, retD_three, retD_none])
              · refine W_sound tab_ok mixed 13 _ _ _ ?_
                simp -implicitDefEqProofs only [go_sem, ne_eq, not_false_eq_true, Nat.reduceBEq, Nat.reduceAdd, Nat.reduceSub, Nat.reduceMul, Nat.reduceLT, Nat.reduceLeDiff, Int.reduceLE, Int.reduceLT, Int.reduceToNat, Int.reduceBEq, Int.reduceBNe, Int.le_refl, Nat.le_refl, decide_true, decide_false, Int.cast_ofNat_Int, ↓reduceIte, h1786, h1791, h1793, h1800, h1803, h1805, h1809, h1812, h1814, h1818, h1821, h1824, h1828, h1831, h1834, h1838, h1842, h1845, h1848, h1852, h1856, h1859, h1862, h1864, h1865, h1868, h1870, h1871, h1874, h1876, h1879, h1881]
                repeat with_reducible refine And.intro (by first | kernel_rfl | decide) ?_
                obtain rfl := Option.some.inj h
                exact finC [(2, .v (.bool false))] [(2, .v (.bool false))] (by simp [leE, lk_cons]) (.cons _ _ _ _ _ (.v _ _ (.refl _)) .nil) (by rfl) (by simp [leE, lk_cons]) (by decide) (by decide) rfl (by simp only [go_sem, ne_eq, not_false_eq_true, Nat.reduceBEq, Nat.reduceAdd, Nat.reduceSub, Nat.reduceMul, Nat.reduceLT, Nat.reduceLeDiff, Int.reduceLE, Int.reduceLT, Int.reduceToNat, Int.reduceBEq, Int.reduceBNe, Int.le_refl, Nat.le_refl, decide_true, decide_false, Int.cast_ofNat_Int, ↓reduceIte, resQ_tmp, resQ_cell, resQ_nil, retD_one, retD_two, retD_three, retD_none]; try simp [R.val, retD_one, retD_two, retD_three, retD_none])
            · refine W_sound tab_ok mixed 18 _ _ _ ?_
              simp -implicitDefEqProofs only [go_sem, ne_eq, not_false_eq_true, Nat.reduceBEq, Nat.reduceAdd, Nat.reduceSub, Nat.reduceMul, Nat.reduceLT, Nat.reduceLeDiff, Int.reduceLE, Int.reduceLT, Int.reduceToNat, Int.reduceBEq, Int.reduceBNe, Int.le_refl, Nat.le_refl, decide_true, decide_false, Int.cast_ofNat_Int, ↓reduceIte, h1786, h1791, h1793, h1800, h1803, h1805, h1809, h1812, h1814, h1818, h1821, h1824, h1828, h1831, h1834, h1838, h1842, h1845, h1848, h1852, h1856, h1859, h1862, h1864, h1865, h1868, h1870, h1871, h1874, h1876]
              repeat with_reducible refine And.intro (by first | kernel_rfl | decide) ?_
              obtain rfl := Option.some.inj h
              exact finC [(2, .v (.bool false))] [(2, .v (.bool false))] (by simp [leE, lk_cons]) (.cons _ _ _ _ _ (.v _ _ (.refl _)) .nil) (by rfl) (by simp [leE, lk_cons]) (by decide) (by decide) rfl (by simp only [go_sem, ne_eq, not_false_eq_true, Nat.reduceBEq, Nat.reduceAdd, Nat.reduceSub, Nat.reduceMul, Nat.reduceLT, Nat.reduceLeDiff, Int.reduceLE, Int.reduceLT, Int.reduceToNat, Int.reduceBEq, Int.reduceBNe, Int.le_refl, Nat.le_refl, decide_true, decide_false, Int.cast_ofNat_Int, ↓reduceIte, resQ_tmp, resQ_cell, resQ_nil, retD_one, retD_two, retD_three, retD_none]; try simp [R.val, retD_one, retD_two, retD_three, retD_none])
          · refine W_sound tab_ok mixed 28 _ _ _ ?_
            simp -implicitDefEqProofs only [go_sem, ne_eq, not_false_eq_true, Nat.reduceBEq, Nat.reduceAdd, Nat.reduceSub, Nat.reduceMul, Nat.reduceLT, Nat.reduceLeDiff, Int.reduceLE, Int.reduceLT, Int.reduceToNat, Int.reduceBEq, Int.reduceBNe, Int.le_refl, Nat.le_refl, decide_true, decide_false, Int.cast_ofNat_Int, ↓reduceIte, h1786, h1791, h1793, h1800, h1803, h1805, h1809, h1812, h1814, h1818, h1821, h1824, h1828, h1831, h1834, h1838, h1842, h1845, h1848, h1852, h1856, h1859, h1862, h1864, h1865, h1868, h1870, h1871]
            repeat with_reducible refine And.intro (by first | kernel_rfl | decide) ?_
            obtain rfl := Option.some.inj h
            exact finC [(2, .v (.bool false))] [(2, .v (.bool false))] (by simp [leE, lk_cons]) (.cons _ _ _ _ _ (.v _ _ (.refl _)) .nil) (by rfl) (by simp [leE, lk_cons]) (by decide) (by decide) rfl (by simp only [go_sem, ne_eq, not_false_eq_true, Nat.reduceBEq, Nat.reduceAdd, Nat.reduceSub, Nat.reduceMul, Nat.reduceLT, Nat.reduceLeDiff, Int.reduceLE, Int.reduceLT, Int.reduceToNat, Int.reduceBEq, Int.reduceBNe, Int.le_refl, Nat.le_refl, decide_true, decide_false, Int.cast_ofNat_Int, ↓reduceIte, resQ_tmp, resQ_cell, resQ_nil, retD_one, retD_two, retD_three, retD_none]; try simp [R.val, retD_one, retD_two, retD_three, retD_none])
        · refine W_sound tab_ok mixed 28 _ _ _ ?_
          simp -implicitDefEqProofs only [go_sem, ne_eq, not_false_eq_true, Nat.reduceBEq, Nat.reduceAdd, Nat.reduceSub, Nat.reduceMul, Nat.reduceLT, Nat.reduceLeDiff, Int.reduceLE, Int.reduceLT, Int.reduceToNat, Int.reduceBEq, Int.reduceBNe, Int.le_refl, Nat.le_refl, decide_true, decide_false, Int.cast_ofNat_Int, ↓reduceIte, h1786, h1791, h1793, h1800, h1803, h1805, h1809, h1812, h1814, h1818, h1821, h1824, h1828, h1831, h1834, h1838, h1842, h1845, h1848, h1852, h1856, h1859, h1862, h1864, h1865, h1868, h1870]
          repeat with_reducible refine And.intro (by first | kernel_rfl | decide) ?_
          obtain rfl := Option.some.inj h
          exact finC [(2, .v (.bool false))] [(2, .v (.bool false))] (by simp [leE, lk_cons]) (.cons _ _ _ _ _ (.v _ _ (.refl _)) .nil) (by rfl) (by simp [leE, lk_cons]) (by decide) (by decide) rfl (by simp only [go_sem, ne_eq, not_false_eq_true, Nat.reduceBEq, Nat.reduceAdd, Nat.reduceSub, Nat.reduceMul, Nat.reduceLT, Nat.reduceLeDiff, Int.reduceLE, Int.reduceLT, Int.reduceToNat, Int.reduceBEq, Int.reduceBNe, Int.le_refl, Nat.le_refl, decide_true, decide_false, Int.cast_ofNat_Int, ↓reduceIte, resQ_tmp, resQ_cell, resQ_nil, retD_one, retD_two, retD_three, retD_none]; try simp [R.val, retD_one, retD_two, retD_three, retD_none])
      · refine W_sound tab_ok mixed 50 _ _ _ ?_
        simp -implicitDefEqProofs only [go_sem, ne_eq, not_false_eq_true, Nat.reduceBEq, Nat.reduceAdd, Nat.reduceSub, Nat.reduceMul, Nat.reduceLT, Nat.reduceLeDiff, Int.reduceLE, Int.reduceLT, Int.reduceToNat, Int.reduceBEq, Int.reduceBNe, Int.le_refl, Nat.le_refl, decide_true, decide_false, Int.cast_ofNat_Int, ↓reduceIte, h1786, h1791, h1793, h1800, h1803, h1805, h1809, h1812, h1814, h1818, h1821, h1824, h1828, h1831, h1834, h1838, h1842, h1845, h1848, h1852, h1856, h1859, h1862, h1864, h1865]
        repeat with_reducible refine And.intro (by first | kernel_rfl | decide) ?_
        obtain rfl := Option.some.inj h
        exact finC [(2, .v (.bool false))] [(2, .v (.bool false))] (by simp [leE, lk_cons]) (.cons _ _ _ _ _ (.v _ _ (.refl _)) .nil) (by rfl) (by simp [leE, lk_cons]) (by decide) (by decide) rfl (by simp only [go_sem, ne_eq, not_false_eq_true, Nat.reduceBEq, Nat.reduceAdd, Nat.reduceSub, Nat.reduceMul, Nat.reduceLT, Nat.reduceLeDiff, Int.reduceLE, Int.reduceLT, Int.reduceToNat, Int.reduceBEq, Int.reduceBNe, Int.le_refl, Nat.le_refl, decide_true, decide_false, Int.cast_ofNat_Int, ↓reduceIte, resQ_tmp, resQ_cell, resQ_nil, retD_one, retD_two, retD_three, retD_none]; try simp [R.val, retD_one, retD_two, retD_three, retD_none])
    · refine W_sound tab_ok mixed 50 _ _ _ ?_
      simp -implicitDefEqProofs only [go_sem, ne_eq, not_false_eq_true, Nat.reduceBEq, Nat.reduceAdd, Nat.reduceSub, Nat.reduceMul, Nat.reduceLT, Nat.reduceLeDiff, Int.reduceLE, Int.reduceLT, Int.reduceToNat, Int.reduceBEq, Int.reduceBNe, Int.le_refl, Nat.le_refl, decide_true, decide_false, Int.cast_ofNat_Int, ↓reduceIte, h1786, h1791, h1793, h1800, h1803, h1805, h1809, h1812, h1814, h1818, h1821, h1824, h1828, h1831, h1834, h1838, h1842, h1845, h1848, h1852, h1856, h1859, h1862, h1864]
      repeat with_reducible refine And.intro (by first | kernel_rfl | decide) ?_
      obtain rfl := Option.some.inj h
      exact finC [(2, .v (.bool false))] [(2, .v (.bool false))] (by simp [leE, lk_cons]) (.cons _ _ _ _ _ (.v _ _ (.refl _)) .nil) (by rfl) (by simp [leE, lk_cons]) (by decide) (by decide) rfl (by simp only [go_sem, ne_eq, not_false_eq_true, Nat.reduceBEq, Nat.reduceAdd, Nat.reduceSub, Nat.reduceMul, Nat.reduceLT, Nat.reduceLeDiff, Int.reduceLE, Int.reduceLT, Int.reduceToNat, Int.reduceBEq, Int.reduceBNe, Int.le_refl, Nat.le_refl, decide_true, decide_false, Int.cast_ofNat_Int, ↓reduceIte, resQ_tmp, resQ_cell, resQ_nil, retD_one, retD_two, retD_three, retD_none]; try simp [R.val, retD_one, retD_two, retD_three, retD_none])
end Go.Proofs.Yteidcinajdehkaa

namespace Go.Proofs.Yteidcinajdehkaa
open Go.V

theorem brn_t {α : Type} {b : Bool} {x y : Option α} (h : b = true) : brn b x y = x := by subst h; rfl
theorem brn_f {α : Type} {b : Bool} {x y : Option α} (h : b = false) : brn b x y = y := by subst h; rfl
theorem grd_t {α : Type} {p : Prop} [Decidable p] {k : Option α} (h : p) : grd p k = k := by simp [grd, h]
theorem wrapN {n : Nat} (h : n ≤ 100000) : IntKind.i64.wrap ((n : Int) + 1) = ((n + 1 : Nat) : Int) := by
  rw [wrap64 (by omega) (by omega)]; omega
theorem toNatN (n : Nat) : Int.toNat (n : Int) = n := by omega
theorem eq0_t {n : Nat} (h : n = 0) : ((n : Int) == 0) = true := by subst h; rfl
theorem eq0_f {n : Nat} (h : n ≠ 0) : ((n : Int) == 0) = false := by
  rw [beq_eq_false_iff_ne]; omega
theorem range'_step {i n : Nat} (h : i < n) : List.range' i (n - i) = i :: List.range' (i + 1) (n - (i + 1)) := by
  rw [show n - i = (n - (i + 1)) + 1 by omega, List.range'_succ]

def iL (X : List Int) : List PV := X.map (PV.int .i64)
theorem iL_len (X : List Int) : (iL X).length = X.length := by simp [iL]
def en (X : List Int) (i : Nat) : Int := X.getD i 0
theorem iL_gp {X : List Int} {i : Nat} (h : i < X.length) : gp (iL X) i = .int .i64 (en X i) := by
  simp [iL, gp, en, List.getD, h]
def nL (X : List Nat) : List PV := X.map fun (k : Nat) => PV.int .i64 (k : Int)
theorem nL_len (X : List Nat) : (nL X).length = X.length := by simp [nL]
def nn (X : List Nat) (i : Nat) : Nat := X.getD i 0
theorem nL_gp {X : List Nat} {i : Nat} (h : i < X.length) : gp (nL X) i = .int .i64 (nn X i : Int) := by
  simp [nL, gp, nn, List.getD, h]
theorem nn_mem {X : List Nat} {i : Nat} (h : i < X.length) : nn X i ∈ X := by
  simp [nn, List.getD, h]
def rwP (r : List Int) : PV := .lst false r.length (iL r)
def rwN (r : List Nat) : PV := .lst false r.length (nL r)
def rwsP (L : List (List Int)) : List PV := L.map rwP
theorem rws_len (L : List (List Int)) : (rwsP L).length = L.length := by simp [rwsP]
def ro (L : List (List Int)) (i : Nat) : List Int := L.getD i []
theorem rws_gp {L : List (List Int)} {i : Nat} (h : i < L.length) : gp (rwsP L) i = .lst false (ro L i).length (iL (ro L i)) := by
  simp [rwsP, gp, ro, rwP, List.getD, h]
theorem ro_mem {L : List (List Int)} {i : Nat} (h : i < L.length) : ro L i ∈ L := by
  simp [ro, List.getD, h]
theorem en_mem {X : List Int} {i : Nat} (h : i < X.length) : en X i ∈ X := by
  simp [en, List.getD, h]
theorem drop_ro {L : List (List Int)} {i : Nat} (h : i < L.length) : L.drop i = ro L i :: L.drop (i + 1) := by
  rw [List.drop_eq_getElem_cons h]; simp [ro, List.getD, h]
theorem drop_en {L : List Int} {i : Nat} (h : i < L.length) : L.drop i = en L i :: L.drop (i + 1) := by
  rw [List.drop_eq_getElem_cons h]; simp [en, List.getD, h]

def lgL (L : List (List Int)) : Bool := decide (20 < L.length) || L.any fun r => decide (20 < r.length)
theorem large_L (N : Nat) (L : List (List Int)) (hL : L.length ≤ 20) : ∀ (r i fuel : Nat), L.length - i = r → r < fuel →
    m15_L0 N L.length (rwsP L) fuel (i : Int) = some (if (L.drop i).any (fun r => decide (20 < r.length)) then .inl (.bool true) else .inr ())
  | r, i, 0, _, h => by omega
  | r, i, f + 1, hr, hf => by
    have hl := rws_len L
    rw [m15_L0]
    by_cases hi : i < L.length
    · have ih := large_L N L hL (r - 1) (i + 1) f (by omega) (by omega)
      rw [brn_t (by simp; omega), toNatN, grd_t ⟨by omega, by omega⟩, grd_t (by simp only [List.length_drop]; omega), rws_gp hi, drop_ro hi]
      simp only [getL, List.any_cons]
      by_cases h : 20 < (ro L i).length
      · rw [brn_t (by simp; omega)]; simp [h]
      · rw [brn_f (by simp; omega), wrapN (by omega), ih]; simp [h]
    · rw [brn_f (by simp; omega), List.drop_eq_nil_of_le (by omega)]; rfl
theorem large_ok (N : Nat) (hN : 100 ≤ N) (L : List (List Int)) : m15 N (.lst false L.length (rwsP L)) = some (.bool (lgL L)) := by
  simp only [m15, getL]
  by_cases h : 20 < L.length
  · rw [brn_t (by simp; omega)]; simp [lgL, h]
  · have := large_L N L (by omega) L.length 0 N (by omega) (by omega)
    rw [brn_f (by simp; omega), show m15_L0 N L.length (rwsP L) N 0 = _ from this, List.drop_zero]
    simp only [lgL, h, decide_false, Bool.false_or]
    cases L.any fun r => decide (20 < r.length) <;> rfl

def bad (lo hi n : Int) : Bool := decide (n < lo) || decide (n > hi)
theorem wrong_L (N : Nat) (lo hi : Int) (X : List Int) (hX : X.length ≤ 1000) : ∀ (r i fuel : Nat), X.length - i = r → r < fuel →
    ∃ o, m103_L0 N lo hi X.length (iL X) fuel (i : Int) = some o ∧ ((X.drop i).any (bad lo hi) = true → ∃ k : Nat, o = .inl (.int .i64 (k : Int))) ∧ ((X.drop i).any (bad lo hi) = false → o = .inr ())
  | r, i, 0, _, h => by omega
  | r, i, f + 1, hr, hf => by
    have hl := iL_len X
    rw [m103_L0]
    by_cases hi' : i < X.length
    · obtain ⟨o, o1, o2, o3⟩ := wrong_L N lo hi X hX (r - 1) (i + 1) f (by omega) (by omega)
      have hb : m93 N (en X i) lo hi = some (.bool (bad lo hi (en X i))) := by
        unfold m93 bad
        by_cases h : en X i < lo
        · rw [brn_t (by simpa using h)]; simp [h]
        · rw [brn_f (by simpa using h)]; simp [h]
      rw [brn_t (by simp; omega), toNatN, grd_t ⟨by omega, by omega⟩, grd_t (by simp only [List.length_drop]; omega), iL_gp hi', drop_en hi']
      simp only [getI, if_true, hb, bnd', getB, List.any_cons]
      cases h : bad lo hi (en X i) with
      | true => rw [brn_t rfl]; exact ⟨_, rfl, fun _ => ⟨i, rfl⟩, fun h => by simp at h⟩
      | false =>
        rw [brn_f rfl, wrapN (by omega)]
        exact ⟨o, o1, fun h => o2 (by simpa using h), fun h => o3 (by simpa using h)⟩
    · rw [brn_f (by simp; omega), List.drop_eq_nil_of_le (by omega)]
      exact ⟨_, rfl, fun h => by simp at h, fun _ => rfl⟩
theorem wrong_ok (N : Nat) (hN : 2000 ≤ N) (lo hi : Int) (X : List Int) (hX : X.length ≤ 1000) : m68 N (.lst false X.length (iL X)) lo hi = some (.bool (X.any (bad lo hi))) := by
  obtain ⟨o, o1, o2, o3⟩ := wrong_L N lo hi X hX X.length 0 N (by omega) (by omega)
  rw [List.drop_zero] at o2 o3
  simp only [m68, m92, m103, getL]
  rw [show m103_L0 N lo hi X.length (iL X) N 0 = some o from o1]
  cases h : X.any (bad lo hi) with
  | true =>
    obtain ⟨k, hk⟩ := o2 h
    rw [hk]; simp [bnd', getI, getB]
  | false => rw [o3 h]; simp [bnd', getI, getB]
def selF : Bool → PV ⊕ Unit
  | true => .inl (.bool false)
  | false => .inr ()
theorem within_L (N : Nat) (lo hi : Int) (X : List Int) (hX : X.length ≤ 1000) : ∀ (r i fuel : Nat), X.length - i = r → r < fuel →
    m70_L0 N lo hi X.length (iL X) fuel (i : Int) = some (selF ((X.drop i).any (bad lo hi)))
  | r, i, 0, _, h => by omega
  | r, i, f + 1, hr, hf => by
    have hl := iL_len X
    rw [m70_L0]
    by_cases hi' : i < X.length
    · have ih := within_L N lo hi X hX (r - 1) (i + 1) f (by omega) (by omega)
      have hb : m94 N (en X i) lo hi = some (.bool (!bad lo hi (en X i))) := by
        unfold m94 bad
        by_cases h : en X i < lo
        · rw [brn_f (by simp; omega)]; simp [h]
        · rw [brn_t (by simp; omega)]
          by_cases h2 : en X i > hi
          · have : ¬ en X i ≤ hi := by omega
            simp [h, h2, this]
          · have : en X i ≤ hi := by omega
            simp [h, h2, this]
      rw [brn_t (by simp; omega), toNatN, grd_t ⟨by omega, by omega⟩, grd_t (by simp only [List.length_drop]; omega), iL_gp hi', drop_en hi']
      simp only [getI, if_true, hb, bnd', getB, List.any_cons]
      rcases Bool.eq_false_or_eq_true (bad lo hi (en X i)) with h | h
      · rw [h, Bool.not_true, brn_f rfl, Bool.true_or]; rfl
      · rw [h, Bool.not_false, brn_t rfl, wrapN (by omega), ih, Bool.false_or]
    · rw [brn_f (by simp; omega), List.drop_eq_nil_of_le (by omega)]; rfl
theorem within_ok (N : Nat) (hN : 2000 ≤ N) (lo hi : Int) (X : List Int) (hX : X.length ≤ 1000) : m70 N (.lst false X.length (iL X)) lo hi = some (.bool (!X.any (bad lo hi))) := by
  have := within_L N lo hi X hX X.length 0 N (by omega) (by omega)
  simp only [m70, getL]
  rw [show m70_L0 N lo hi X.length (iL X) N 0 = _ from this, List.drop_zero]
  cases X.any (bad lo hi) <;> rfl

def chR (c : Nat) : List (List Int) → Int
  | [] => 0
  | r :: rs => if r.length ≠ c then 5 else if r.any (bad 0 20) then 1 else chR c rs
def chk (L : List (List Int)) : Int :=
  if L.length = 0 then 4 else if (ro L 0).length = 0 then 4 else if 3 < L.length then 3 else if 4 < (ro L 0).length then 3 else chR (ro L 0).length L
def outE (e : Int) : PV ⊕ Unit := if e = 0 then .inr () else .inl (.int .i64 e)
theorem check_L (N : Nat) (hN : 2000 ≤ N) (L : List (List Int)) (hL : L.length ≤ 20) (hr20 : ∀ r ∈ L, r.length ≤ 20) (c : Nat) : ∀ (r i fuel : Nat), L.length - i = r → r < fuel →
    m23_L0 N L.length (rwsP L) c fuel (i : Int) = some (outE (chR c (L.drop i))) ∧ m24_L0 N L.length (rwsP L) c fuel (i : Int) = some (outE (chR c (L.drop i)))
  | r, i, 0, _, h => by omega
  | r, i, f + 1, hr, hf => by
    have hl := rws_len L
    rw [m23_L0, m24_L0]
    by_cases hi : i < L.length
    · obtain ⟨i1, i2⟩ := check_L N hN L hL hr20 c (r - 1) (i + 1) f (by omega) (by omega)
      have hm := hr20 _ (ro_mem hi)
      have q1 : ∀ {α : Type} (y z : Option α), brn (decide ((i : Int) < (L.length : Int))) y z = y := fun y z => brn_t (by simp; omega)
      rw [q1, q1, toNatN, grd_t ⟨by omega, by omega⟩, grd_t (by simp only [List.length_drop]; omega), grd_t ⟨by omega, by omega⟩, grd_t (by simp only [List.length_drop]; omega), rws_gp hi, drop_ro hi]
      simp only [getL, wrong_ok N hN 0 20 (ro L i) (by omega), within_ok N hN 0 20 (ro L i) (by omega), bnd', getB, chR]
      by_cases h : (ro L i).length = c
      · have q2 : ∀ {α : Type} (y z : Option α), brn (((ro L i).length : Int) != (c : Int)) y z = z := fun y z => brn_f (by simp; omega)
        rw [q2, q2, if_neg (by simpa using h)]
        cases hb : (ro L i).any (bad 0 20) with
        | true => rw [brn_t rfl, if_pos rfl]; exact ⟨rfl, rfl⟩
        | false =>
          rw [brn_f rfl, wrapN (by omega), if_neg (by simp)]
          exact ⟨i1, i2⟩
      · have q2 : ∀ {α : Type} (y z : Option α), brn (((ro L i).length : Int) != (c : Int)) y z = y := fun y z => brn_t (by simp; omega)
        rw [q2, q2, if_pos h]
        exact ⟨rfl, rfl⟩
    · have q1 : ∀ {α : Type} (y z : Option α), brn (decide ((i : Int) < (L.length : Int))) y z = z := fun y z => brn_f (by simp; omega)
      rw [q1, q1, List.drop_eq_nil_of_le (by omega)]
      exact ⟨rfl, rfl⟩
theorem outE_end {x : Int} : (match outE x with | .inl p => some p | .inr () => some (PV.int .i64 0)) = some (.int .i64 x) := by
  unfold outE
  by_cases h : x = 0
  · rw [if_pos h, h]
  · rw [if_neg h]
theorem check_ok (N : Nat) (hN : 2000 ≤ N) (L : List (List Int)) (hL : lgL L = false) : m23 N (.lst false L.length (rwsP L)) = some (.int .i64 (chk L)) ∧ m24 N (.lst false L.length (rwsP L)) = some (.int .i64 (chk L)) := by
  simp only [lgL, Bool.or_eq_false_iff, decide_eq_false_iff_not] at hL
  have hL1 : L.length ≤ 20 := by omega
  have hr20 : ∀ r ∈ L, r.length ≤ 20 := fun r hr => by
    have h := hL.2
    rw [List.any_eq_false] at h
    have := h r hr
    simp at this; exact this
  have hl := rws_len L
  simp only [m23, m24, getL]
  unfold chk
  by_cases h0 : L.length = 0
  · have q : ∀ {α : Type} (y z : Option α), brn ((L.length : Int) == 0) y z = y := fun y z => brn_t (eq0_t h0)
    rw [q, q, if_pos h0]; exact ⟨rfl, rfl⟩
  · have q : ∀ {α : Type} (y z : Option α), brn ((L.length : Int) == 0) y z = z := fun y z => brn_f (eq0_f h0)
    rw [q, q, if_neg h0, grd_t (by omega), grd_t (by omega), grd_t (by omega), grd_t (by omega), rws_gp (by omega)]
    simp only []
    by_cases h1 : (ro L 0).length = 0
    · have q : ∀ {α : Type} (y z : Option α), brn (((ro L 0).length : Int) == 0) y z = y := fun y z => brn_t (eq0_t h1)
      rw [q, q, if_pos h1]; exact ⟨rfl, rfl⟩
    · have q : ∀ {α : Type} (y z : Option α), brn (((ro L 0).length : Int) == 0) y z = z := fun y z => brn_f (eq0_f h1)
      rw [q, q, if_neg h1]
      by_cases h2 : 3 < L.length
      · have q : ∀ {α : Type} (y z : Option α), brn (decide ((L.length : Int) > 3)) y z = y := fun y z => brn_t (by simp; omega)
        rw [q, q, if_pos h2]; exact ⟨rfl, rfl⟩
      · have q : ∀ {α : Type} (y z : Option α), brn (decide ((L.length : Int) > 3)) y z = z := fun y z => brn_f (by simp; omega)
        rw [q, q, if_neg h2]
        by_cases h3 : 4 < (ro L 0).length
        · have q : ∀ {α : Type} (y z : Option α), brn (decide (((ro L 0).length : Int) > 4)) y z = y := fun y z => brn_t (by simp; omega)
          rw [q, q, if_pos h3]; exact ⟨rfl, rfl⟩
        · have q : ∀ {α : Type} (y z : Option α), brn (decide (((ro L 0).length : Int) > 4)) y z = z := fun y z => brn_f (by simp; omega)
          obtain ⟨e1, e2⟩ := check_L N hN L hL1 hr20 (ro L 0).length L.length 0 N (by omega) (by omega)
          rw [List.drop_zero] at e1 e2
          rw [q, q, if_neg h3, show m23_L0 N L.length (rwsP L) (ro L 0).length N 0 = _ from e1, show m24_L0 N L.length (rwsP L) (ro L 0).length N 0 = _ from e2]
          simp only [bnd']
          exact ⟨outE_end, outE_end⟩
/-- costs as they should be -/
structure Okc (L : List (List Int)) (c : Nat) : Prop where
  r1 : 1 ≤ L.length
  r3 : L.length ≤ 3
  c1 : 1 ≤ c
  c4 : c ≤ 4
  row : ∀ i, i < L.length → (ro L i).length = c
  val : ∀ i j, i < L.length → j < c → 0 ≤ en (ro L i) j ∧ en (ro L i) j ≤ 20
theorem chR_zero {c : Nat} : ∀ {L : List (List Int)}, chR c L = 0 → ∀ r ∈ L, r.length = c ∧ r.any (bad 0 20) = false
  | [], _, _, h => by simp at h
  | r :: rs, h, x, hx => by
    unfold chR at h
    split at h
    · cases h
    · rename_i h1
      split at h
      · cases h
      · rename_i h2
        rcases List.mem_cons.1 hx with rfl | hx
        · exact ⟨by omega, by simpa using h2⟩
        · exact chR_zero h x hx
theorem chk_zero {L : List (List Int)} (h : chk L = 0) : Okc L (ro L 0).length := by
  unfold chk at h
  split at h
  · cases h
  · split at h
    · cases h
    · split at h
      · cases h
      · split at h
        · cases h
        · have hz := chR_zero h
          refine ⟨by omega, by omega, by omega, by omega, fun i hi => (hz _ (ro_mem hi)).1, fun i j hi hj => ?_⟩
          obtain ⟨h1, h2⟩ := hz _ (ro_mem hi)
          rw [List.any_eq_false] at h2
          have := h2 _ (en_mem (X := ro L i) (i := j) (by omega))
          simp only [bad, Bool.or_eq_true, decide_eq_true_eq, not_or] at this
          omega

theorem numbers_L (N n : Nat) (hn : n ≤ 1000) : ∀ (r i fuel : Nat), n - i = r → i ≤ n → r < fuel →
    m77_L0 N (n : Int) fuel (i : Int) (nL (List.range i) ++ List.replicate (n - i) (.int .i64 0)) = some (nL (List.range n))
  | r, i, 0, _, _, h => by omega
  | r, i, f + 1, hr, hi, hf => by
    have hl := nL_len (List.range i)
    simp only [List.length_range] at hl
    rw [m77_L0, toNatN]
    by_cases h : i < n
    · have ih := numbers_L N n hn (r - 1) (i + 1) f (by omega) (by omega) (by omega)
      have e : (nL (List.range i) ++ List.replicate (n - i) (PV.int .i64 0)).set i (.int .i64 (i : Int)) = nL (List.range (i + 1)) ++ List.replicate (n - (i + 1)) (.int .i64 0) := by
        rw [show n - i = (n - (i + 1)) + 1 by omega, List.replicate_succ, List.set_append_right _ _ (by omega), hl, Nat.sub_self, List.set_cons_zero]
        simp [nL, List.range_succ]
      rw [brn_t (by simp; omega), grd_t ⟨by omega, by omega⟩, toNatN, grd_t (by simp only [List.length_append, List.length_replicate]; omega), e, wrapN (by omega), ih]
    · have : i = n := by omega
      subst this
      rw [brn_f (by simp)]; simp
theorem numbers_ok (N n : Nat) (hN : 2000 ≤ N) (hn : n ≤ 1000) : m77 N (n : Int) = some (rwN (List.range n)) := by
  have := numbers_L N n hn n 0 N (by omega) (by omega) (by omega)
  simp only [List.range_zero, Nat.sub_zero] at this
  rw [m77, grd_t ⟨by omega, by omega, by omega⟩, toNatN]
  rw [show m77_L0 N (n : Int) N 0 (List.replicate n (.int .i64 0)) = _ from this]
  simp only [bnd']
  rw [grd_t (by rw [nL_len]; simp)]
  simp [rwN]
end Go.Proofs.Yteidcinajdehkaa

namespace Go.Proofs.Yteidcinajdehkaa
open Go.V

def cst (L : List (List Int)) (i j : Nat) : Int := en (ro L i) j
/-- by two heaps and two buyers -/
def crB (M : Nat → Nat → Int) (i k j l : Nat) : Bool := decide (M i j + M k l > M i l + M k j)
def adjR (M : Nat → Nat → Int) (x : Nat) (c : Nat) : Bool := (List.range' 1 (c - 1)).all fun y => !crB M (x - 1) x (y - 1) y
def adjB (M : Nat → Nat → Int) (r c : Nat) : Bool := (List.range' 1 (r - 1)).all fun x => adjR M x c
def ordM (L : List (List Int)) (H B : List Nat) : Nat → Nat → Int := fun x y => cst L (nn H x) (nn B y)

theorem all_step {p : Nat → Bool} {i n : Nat} (h : i < n) : (List.range' i (n - i)).all p = (p i && (List.range' (i + 1) (n - (i + 1))).all p) := by
  rw [range'_step h, List.all_cons]
theorem all_end {p : Nat → Bool} {i n : Nat} (h : ¬ i < n) : (List.range' i (n - i)).all p = true := by
  rw [show n - i = 0 by omega]; rfl
theorem str_L1 (N : Nat) (L : List (List Int)) (c : Nat) (hL : Okc L c) (H B : List Nat) (hHl : H.length ≤ 100) (hBl : B.length ≤ 100) (hB : ∀ b ∈ B, b < c) (x : Nat) (hx1 : 1 ≤ x) (hx : x < H.length) (h1 : nn H (x - 1) < L.length) (h2 : nn H x < L.length) : ∀ (r y fuel : Nat), B.length - y = r → r < fuel → 1 ≤ y →
    m76_L1 N L.length (rwsP L) H.length (nL H) B.length (nL B) (x : Int) (ro L (nn H (x - 1))).length (iL (ro L (nn H (x - 1)))) (ro L (nn H x)).length (iL (ro L (nn H x))) fuel (y : Int) =
      some (selF (!((List.range' y (B.length - y)).all fun y => !crB (ordM L H B) (x - 1) x (y - 1) y)))
  | r, y, 0, _, h, _ => by omega
  | r, y, f + 1, hr, hf, hy => by
    have hbl := nL_len B
    have l1 := hL.row _ h1
    have l2 := hL.row _ h2
    have i1 := iL_len (ro L (nn H (x - 1)))
    have i2 := iL_len (ro L (nn H x))
    rw [m76_L1]
    by_cases h : y < B.length
    · have ih := str_L1 N L c hL H B hHl hBl hB x hx1 hx h1 h2 (r - 1) (y + 1) f (by omega) (by omega) (by omega)
      have hw : IntKind.i64.wrap ((y : Int) - 1) = ((y - 1 : Nat) : Int) := by rw [wrap64 (by omega) (by omega)]; omega
      have b1 := hB _ (nn_mem (X := B) (i := y - 1) (by omega))
      have b2 := hB _ (nn_mem h)
      have v1 := hL.val _ _ h1 b1
      have v2 := hL.val _ _ h1 b2
      have v3 := hL.val _ _ h2 b1
      have v4 := hL.val _ _ h2 b2
      rw [brn_t (by simp; omega), hw, toNatN, toNatN, grd_t ⟨by omega, by omega⟩, grd_t (by simp only [List.length_drop]; omega), nL_gp (by omega)]
      simp only [getI, if_true]
      rw [grd_t ⟨by omega, by omega⟩, grd_t (by simp only [List.length_drop]; omega), nL_gp h]
      simp only [if_true]
      rw [toNatN, toNatN, grd_t ⟨by omega, by omega⟩, grd_t (by simp only [List.length_drop]; omega), iL_gp (by omega)]
      simp only [if_true]
      rw [grd_t ⟨by omega, by omega⟩, grd_t (by simp only [List.length_drop]; omega), iL_gp (by omega)]
      simp only [if_true]
      rw [grd_t (by omega), grd_t (by simp only [List.length_drop]; omega), iL_gp (by omega)]
      simp only [if_true]
      rw [grd_t (by omega), grd_t (by simp only [List.length_drop]; omega), iL_gp (by omega)]
      simp only [if_true]
      rw [wrap64 (n := en (ro L (nn H (x - 1))) (nn B (y - 1)) + en (ro L (nn H x)) (nn B y)) (by omega) (by omega), wrap64 (n := en (ro L (nn H (x - 1))) (nn B y) + en (ro L (nn H x)) (nn B (y - 1))) (by omega) (by omega), all_step h]
      have e : crB (ordM L H B) (x - 1) x (y - 1) y = decide (en (ro L (nn H (x - 1))) (nn B (y - 1)) + en (ro L (nn H x)) (nn B y) > en (ro L (nn H (x - 1))) (nn B y) + en (ro L (nn H x)) (nn B (y - 1))) := rfl
      rw [e]
      by_cases hc : en (ro L (nn H (x - 1))) (nn B (y - 1)) + en (ro L (nn H x)) (nn B y) > en (ro L (nn H (x - 1))) (nn B y) + en (ro L (nn H x)) (nn B (y - 1))
      · rw [brn_t (by simpa using hc), decide_eq_true hc, Bool.not_true, Bool.false_and]; rfl
      · rw [brn_f (by simpa using hc), decide_eq_false hc, Bool.not_false, Bool.true_and, wrapN (by omega), ih]
    · rw [brn_f (by simp; omega), all_end h]; rfl
theorem str_L0 (N : Nat) (hN : 2000 ≤ N) (L : List (List Int)) (c : Nat) (hL : Okc L c) (H B : List Nat) (hHl : H.length ≤ 100) (hBl : B.length ≤ 100) (hH : ∀ a ∈ H, a < L.length) (hB : ∀ b ∈ B, b < c) : ∀ (r x fuel : Nat), H.length - x = r → r < fuel → 1 ≤ x →
    m76_L0 N L.length (rwsP L) H.length (nL H) B.length (nL B) fuel (x : Int) = some (selF (!((List.range' x (H.length - x)).all fun x => adjR (ordM L H B) x B.length)))
  | r, x, 0, _, h, _ => by omega
  | r, x, f + 1, hr, hf, hx => by
    have hhl := nL_len H
    have hrl := rws_len L
    rw [m76_L0]
    by_cases h : x < H.length
    · have ih := str_L0 N hN L c hL H B hHl hBl hH hB (r - 1) (x + 1) f (by omega) (by omega) (by omega)
      have hw : IntKind.i64.wrap ((x : Int) - 1) = ((x - 1 : Nat) : Int) := by rw [wrap64 (by omega) (by omega)]; omega
      have a1 := hH _ (nn_mem (X := H) (i := x - 1) (by omega))
      have a2 := hH _ (nn_mem h)
      have h1 := str_L1 N L c hL H B hHl hBl hB x hx h a1 a2 (B.length - 1) 1 N rfl (by omega) (by omega)
      rw [brn_t (by simp; omega), hw, toNatN, toNatN, grd_t ⟨by omega, by omega⟩, grd_t (by simp only [List.length_drop]; omega), nL_gp (by omega)]
      simp only [getI, if_true]
      rw [toNatN, grd_t ⟨by omega, by omega⟩, grd_t (by simp only [List.length_drop]; omega), rws_gp a1]
      simp only [getL]
      rw [grd_t ⟨by omega, by omega⟩, grd_t (by simp only [List.length_drop]; omega), nL_gp h]
      simp only [if_true]
      rw [toNatN, grd_t ⟨by omega, by omega⟩, grd_t (by simp only [List.length_drop]; omega), rws_gp a2]
      simp only []
      rw [show m76_L1 N L.length (rwsP L) H.length (nL H) B.length (nL B) (x : Int) (ro L (nn H (x - 1))).length (iL (ro L (nn H (x - 1)))) (ro L (nn H x)).length (iL (ro L (nn H x))) N 1 = _ from h1, all_step h]
      have e : ((List.range' 1 (B.length - 1)).all fun y => !crB (ordM L H B) (x - 1) x (y - 1) y) = adjR (ordM L H B) x B.length := rfl
      rw [e]
      cases adjR (ordM L H B) x B.length with
      | false => rfl
      | true =>
        rw [Bool.not_true, Bool.true_and]
        show m76_L0 N L.length (rwsP L) H.length (nL H) B.length (nL B) f (IntKind.i64.wrap ((x : Int) + 1)) = _
        rw [wrapN (by omega), ih]
    · rw [brn_f (by simp; omega), all_end h]; rfl
theorem straight_ok (N : Nat) (hN : 2000 ≤ N) (L : List (List Int)) (c : Nat) (hL : Okc L c) (H B : List Nat) (hHl : H.length ≤ 100) (hBl : B.length ≤ 100) (hH : ∀ a ∈ H, a < L.length) (hB : ∀ b ∈ B, b < c) :
    m76 N (.lst false L.length (rwsP L)) (rwN H) (rwN B) = some (.bool (adjB (ordM L H B) H.length B.length)) := by
  have h := str_L0 N hN L c hL H B hHl hBl hH hB (H.length - 1) 1 N rfl (by omega) (by omega)
  simp only [m76, getL, rwN]
  rw [show m76_L0 N L.length (rwsP L) H.length (nL H) B.length (nL B) N 1 = _ from h]
  have e : ((List.range' 1 (H.length - 1)).all fun x => adjR (ordM L H B) x B.length) = adjB (ordM L H B) H.length B.length := rfl
  rw [e]
  cases adjB (ordM L H B) H.length B.length <;> rfl

def Str (M : Nat → Nat → Int) (r c : Nat) : Prop := ∀ i k j l, i < k → k < r → j < l → l < c → M i j + M k l ≤ M i l + M k j
theorem adj_str {M : Nat → Nat → Int} {r c : Nat} : adjB M r c = true ↔ Str M r c := by
  constructor
  · intro h
    have h0 : ∀ x y, x + 1 < r → y + 1 < c → M x y + M (x + 1) (y + 1) ≤ M x (y + 1) + M (x + 1) y := fun x y hx hy => by
      have h1 := List.all_eq_true.1 h (x + 1) (List.mem_range'_1.2 ⟨by omega, by omega⟩)
      have h2 := List.all_eq_true.1 h1 (y + 1) (List.mem_range'_1.2 ⟨by omega, by omega⟩)
      simp only [Nat.add_sub_cancel, crB, Bool.not_eq_true', decide_eq_false_iff_not] at h2
      omega
    have h1 : ∀ x d y, x + 1 < r → y + 1 + d < c → M x y + M (x + 1) (y + 1 + d) ≤ M x (y + 1 + d) + M (x + 1) y := by
      intro x d
      induction d with
      | zero => intro y hx hy; exact h0 x y hx hy
      | succ d ih =>
        intro y hx hy
        have e1 := ih y hx (by omega)
        have e2 := h0 x (y + 1 + d) hx (by omega)
        rw [show y + 1 + (d + 1) = y + 1 + d + 1 by omega]
        omega
    have h2 : ∀ d x j l, x + 1 + d < r → j < l → l < c → M x j + M (x + 1 + d) l ≤ M x l + M (x + 1 + d) j := by
      intro d
      induction d with
      | zero =>
        intro x j l hx hj hl
        have := h1 x (l - (j + 1)) j hx (by omega)
        rw [show j + 1 + (l - (j + 1)) = l by omega] at this
        exact this
      | succ d ih =>
        intro x j l hx hj hl
        have e1 := ih x j l (by omega) hj hl
        have e2 := h1 (x + 1 + d) (l - (j + 1)) j (by omega) (by omega)
        rw [show j + 1 + (l - (j + 1)) = l by omega] at e2
        rw [show x + 1 + (d + 1) = x + 1 + d + 1 by omega]
        omega
    intro i k j l hi hk hj hl
    have := h2 (k - (i + 1)) i j l (by omega) hj hl
    rw [show i + 1 + (k - (i + 1)) = k by omega] at this
    exact this
  · intro h
    refine List.all_eq_true.2 fun x hx => List.all_eq_true.2 fun y hy => ?_
    have hx := List.mem_range'_1.1 hx
    have hy := List.mem_range'_1.1 hy
    have := h (x - 1) x (y - 1) y (by omega) (by omega) (by omega) (by omega)
    simp only [crB, Bool.not_eq_true', decide_eq_false_iff_not]
    omega

def fL3 (M : Nat → Nat → Int) (c i k j l0 : Nat) : Option (Nat × Nat × Nat × Nat) := (List.range' l0 (c - l0)).findSome? fun l => if crB M i k j l then some (i, k, j, l) else none
def fL2 (M : Nat → Nat → Int) (c i k j0 : Nat) : Option (Nat × Nat × Nat × Nat) := (List.range' j0 (c - j0)).findSome? fun j => fL3 M c i k j (j + 1)
def fL1 (M : Nat → Nat → Int) (r c i k0 : Nat) : Option (Nat × Nat × Nat × Nat) := (List.range' k0 (r - k0)).findSome? fun k => fL2 M c i k 0
def fL0 (M : Nat → Nat → Int) (r c i0 : Nat) : Option (Nat × Nat × Nat × Nat) := (List.range' i0 (r - i0)).findSome? fun i => fL1 M r c i (i + 1)
def crk (M : Nat → Nat → Int) (r c : Nat) : Option (Nat × Nat × Nat × Nat) := fL0 M r c 0
theorem fs_step {α : Type} {g : Nat → Option α} {i n : Nat} (h : i < n) : (List.range' i (n - i)).findSome? g = (match g i with | some x => some x | none => (List.range' (i + 1) (n - (i + 1))).findSome? g) := by
  rw [range'_step h, List.findSome?_cons]
  cases g i <;> rfl
theorem fs_end {α : Type} {g : Nat → Option α} {i n : Nat} (h : ¬ i < n) : (List.range' i (n - i)).findSome? g = none := by
  rw [show n - i = 0 by omega]; rfl
theorem crk_none {M : Nat → Nat → Int} {r c : Nat} : crk M r c = none ↔ Str M r c := by
  unfold crk fL0 fL1 fL2 fL3
  simp only [List.findSome?_eq_none_iff, List.mem_range'_1]
  constructor
  · intro h i k j l hi hk hj hl
    have := h i ⟨by omega, by omega⟩ k ⟨by omega, by omega⟩ j ⟨by omega, by omega⟩ l ⟨by omega, by omega⟩
    unfold crB at this
    by_cases hc : M i j + M k l > M i l + M k j
    · rw [if_pos (by simpa using hc)] at this; cases this
    · omega
  · intro h i hi k hk j hj l hl
    have := h i k j l (by omega) (by omega) (by omega) (by omega)
    rw [if_neg]
    unfold crB
    simp only [decide_eq_true_eq]
    omega
theorem crk_adj (M : Nat → Nat → Int) (r c : Nat) : adjB M r c = (crk M r c).isNone := by
  have h1 := adj_str (M := M) (r := r) (c := c)
  have h2 := crk_none (M := M) (r := r) (c := c)
  rw [← h2] at h1
  cases h : crk M r c with
  | none => rw [h1.2 h]; rfl
  | some x =>
    have : adjB M r c ≠ true := fun e => by rw [h1.1 e] at h; cases h
    simpa using this
def q4 (x : Nat × Nat × Nat × Nat) : List Nat := [x.1, x.2.1, x.2.2.1, x.2.2.2]
def oP : Option (Nat × Nat × Nat × Nat) → PV ⊕ Unit
  | some x => .inl (rwN (q4 x))
  | none => .inr ()
def oW : Option (Nat × Nat × Nat × Nat) → PV ⊕ Unit
  | some x => .inl (.tup [rwN (q4 x), .int .i64 0])
  | none => .inr ()
/-- lists that have the numbers of a table -/
structure Tbl (L : List (List Int)) (r c : Nat) : Prop where
  len : L.length = r
  r1 : 1 ≤ r
  r3 : r ≤ 3
  c4 : c ≤ 4
  row : ∀ i, i < r → (ro L i).length = c
  val : ∀ i j, i < r → j < c → 0 ≤ en (ro L i) j ∧ en (ro L i) j ≤ 20
theorem Okc.tbl {L : List (List Int)} {c : Nat} (h : Okc L c) : Tbl L L.length c := ⟨rfl, h.r1, h.r3, h.c4, h.row, h.val⟩
theorem cr_L3 (N : Nat) (L : List (List Int)) (r c : Nat) (hL : Tbl L r c) (i k j : Nat) (hi : i < r) (hk : k < r) (hj : j < c) : ∀ (s l fuel : Nat), c - l = s → s < fuel →
    m78_L3 N r (rwsP L) (i : Int) (k : Int) (j : Int) c fuel (l : Int) = some (oP (fL3 (cst L) c i k j l))
  | s, l, 0, _, h => by omega
  | s, l, f + 1, hs, hf => by
    have hrl := rws_len L
    have hlen := hL.len
    have l1 := hL.row _ hi
    have l2 := hL.row _ hk
    have c4 := hL.c4
    have i1 := iL_len (ro L i)
    have i2 := iL_len (ro L k)
    rw [m78_L3]
    unfold fL3
    by_cases h : l < c
    · have ih := cr_L3 N L r c hL i k j hi hk hj (s - 1) (l + 1) f (by omega) (by omega)
      have v1 := hL.val _ _ hi hj
      have v2 := hL.val _ _ hk h
      have v3 := hL.val _ _ hi h
      have v4 := hL.val _ _ hk hj
      rw [brn_t (by simp; omega), toNatN, toNatN, toNatN, toNatN, grd_t ⟨by omega, by omega⟩, grd_t (by simp only [List.length_drop]; omega), rws_gp (by omega)]
      simp only [getL]
      rw [grd_t ⟨by omega, by omega⟩, grd_t (by simp only [List.length_drop]; omega), iL_gp (by omega)]
      simp only [getI, if_true]
      rw [grd_t ⟨by omega, by omega⟩, grd_t (by simp only [List.length_drop]; omega), rws_gp (by omega)]
      simp only []
      rw [grd_t ⟨by omega, by omega⟩, grd_t (by simp only [List.length_drop]; omega), iL_gp (by omega)]
      simp only [if_true]
      rw [grd_t (by omega), grd_t (by simp only [List.length_drop]; omega), iL_gp (by omega)]
      simp only [if_true]
      rw [grd_t (by omega), grd_t (by simp only [List.length_drop]; omega), iL_gp (by omega)]
      simp only [if_true]
      rw [wrap64 (n := en (ro L i) j + en (ro L k) l) (by omega) (by omega), wrap64 (n := en (ro L i) l + en (ro L k) j) (by omega) (by omega), fs_step h]
      by_cases hc : en (ro L i) j + en (ro L k) l > en (ro L i) l + en (ro L k) j
      · have e : crB (cst L) i k j l = true := by unfold crB cst; simpa using hc
        rw [brn_t (by simpa using hc), if_pos e]; rfl
      · have e : crB (cst L) i k j l = false := by unfold crB cst; simpa using hc
        rw [brn_f (by simpa using hc), if_neg (by simp [e]), wrapN (by omega), ih]; rfl
    · rw [brn_f (by simp; omega), fs_end h]; rfl
theorem cr_L2 (N : Nat) (hN : 2000 ≤ N) (L : List (List Int)) (r c : Nat) (hL : Tbl L r c) (i k : Nat) (hi : i < r) (hk : k < r) : ∀ (s j fuel : Nat), c - j = s → s < fuel →
    m78_L2 N r (rwsP L) (i : Int) (k : Int) fuel (j : Int) = some (oP (fL2 (cst L) c i k j))
  | s, j, 0, _, h => by omega
  | s, j, f + 1, hs, hf => by
    have hrl := rws_len L
    have hlen := hL.len
    have hr1 := hL.r1
    have c4 := hL.c4
    have l0 := hL.row 0 (by omega)
    rw [m78_L2, grd_t (by omega), grd_t (by omega), rws_gp (by omega)]
    simp only [getL, l0]
    unfold fL2
    by_cases h : j < c
    · have ih := cr_L2 N hN L r c hL i k hi hk (s - 1) (j + 1) f (by omega) (by omega)
      have h3 := cr_L3 N L r c hL i k j hi hk h (c - (j + 1)) (j + 1) N rfl (by omega)
      rw [brn_t (by simp; omega), wrapN (by omega), h3, fs_step h]
      cases fL3 (cst L) c i k j (j + 1) with
      | some x => rfl
      | none => simp only [oP, bnd']; rw [ih]; rfl
    · rw [brn_f (by simp; omega), fs_end h]; rfl
theorem cr_L1 (N : Nat) (hN : 2000 ≤ N) (L : List (List Int)) (r c : Nat) (hL : Tbl L r c) (i : Nat) (hi : i < r) : ∀ (s k fuel : Nat), r - k = s → s < fuel →
    m78_L1 N r (rwsP L) (i : Int) fuel (k : Int) = some (oP (fL1 (cst L) r c i k))
  | s, k, 0, _, h => by omega
  | s, k, f + 1, hs, hf => by
    have r3 := hL.r3
    have c4 := hL.c4
    rw [m78_L1]
    unfold fL1
    by_cases h : k < r
    · have ih := cr_L1 N hN L r c hL i hi (s - 1) (k + 1) f (by omega) (by omega)
      have h3 := cr_L2 N hN L r c hL i k hi h c 0 N (by omega) (by omega)
      rw [brn_t (by simp; omega), wrapN (by omega), show m78_L2 N r (rwsP L) (i : Int) (k : Int) N 0 = _ from h3, fs_step h]
      cases fL2 (cst L) c i k 0 with
      | some x => rfl
      | none => simp only [oP, bnd']; rw [ih]; rfl
    · rw [brn_f (by simp; omega), fs_end h]; rfl
theorem cr_L0 (N : Nat) (hN : 2000 ≤ N) (L : List (List Int)) (r c : Nat) (hL : Tbl L r c) : ∀ (s i fuel : Nat), r - i = s → s < fuel →
    m78_L0 N r (rwsP L) fuel (i : Int) = some (oP (fL0 (cst L) r c i))
  | s, i, 0, _, h => by omega
  | s, i, f + 1, hs, hf => by
    have r3 := hL.r3
    rw [m78_L0]
    unfold fL0
    by_cases h : i < r
    · have ih := cr_L0 N hN L r c hL (s - 1) (i + 1) f (by omega) (by omega)
      have h3 := cr_L1 N hN L r c hL i h (r - (i + 1)) (i + 1) N rfl (by omega)
      rw [brn_t (by simp; omega), wrapN (by omega), h3, fs_step h]
      cases fL1 (cst L) r c i (i + 1) with
      | some x => rfl
      | none => simp only [oP, bnd']; rw [ih]; rfl
    · rw [brn_f (by simp; omega), fs_end h]; rfl
def crL : Option (Nat × Nat × Nat × Nat) → List Nat
  | some x => q4 x
  | none => []
theorem crooked_ok (N : Nat) (hN : 2000 ≤ N) (L : List (List Int)) (r c : Nat) (hL : Tbl L r c) : m78 N (.lst false r (rwsP L)) = some (rwN (crL (crk (cst L) r c))) := by
  have r3 := hL.r3
  have h := cr_L0 N hN L r c hL r 0 N (by omega) (by omega)
  simp only [m78, getL]
  rw [show m78_L0 N r (rwsP L) N 0 = _ from h]
  show bnd' (some (oP (crk (cst L) r c))) _ = _
  cases crk (cst L) r c <;> rfl
theorem crL_len (o : Option (Nat × Nat × Nat × Nat)) : (((crL o).length : Int) == 0) = o.isNone := by cases o <;> rfl

theorem two_cr (L : List (List Int)) (i k j l : Nat) : adjB (ordM L [i, k] [j, l]) 2 2 = !crB (cst L) i k j l := by
  simp [adjB, adjR, ordM, crB, nn, List.range']
theorem why_L3 (N : Nat) (hN : 2000 ≤ N) (L : List (List Int)) (c : Nat) (hL : Okc L c) (i k j : Nat) (hi : i < L.length) (hk : k < L.length) (hj : j < c) : ∀ (s l fuel : Nat), c - l = s → s < fuel →
    m33_L3 N L.length (rwsP L) (i : Int) (k : Int) c (j : Int) fuel (l : Int) = some (oW (fL3 (cst L) c i k j l))
  | s, l, 0, _, h => by omega
  | s, l, f + 1, hs, hf => by
    have c4 := hL.c4
    rw [m33_L3]
    unfold fL3
    by_cases h : l < c
    · have ih := why_L3 N hN L c hL i k j hi hk hj (s - 1) (l + 1) f (by omega) (by omega)
      have h3 := straight_ok N hN L c hL [i, k] [j, l] (by simp) (by simp) (by simp [hi, hk]) (by simp [hj, h])
      rw [show m76 N (.lst false L.length (rwsP L)) (.lst false 2 [.int .i64 (i : Int), .int .i64 (k : Int)]) (.lst false 2 [.int .i64 (j : Int), .int .i64 (l : Int)]) = _ from h3]
      rw [show adjB (ordM L [i, k] [j, l]) [i, k].length [j, l].length = _ from two_cr L i k j l, fs_step h]
      rw [brn_t (by simp; omega)]
      simp only [bnd', getB]
      cases e : crB (cst L) i k j l with
      | true => rw [Bool.not_true, brn_f rfl, if_pos rfl]; rfl
      | false => rw [Bool.not_false, brn_t rfl, if_neg (by simp), wrapN (by omega), ih]; rfl
    · rw [brn_f (by simp; omega), fs_end h]; rfl
theorem why_L2 (N : Nat) (hN : 2000 ≤ N) (L : List (List Int)) (c : Nat) (hL : Okc L c) (i k : Nat) (hi : i < L.length) (hk : k < L.length) : ∀ (s j fuel : Nat), c - j = s → s < fuel →
    m33_L2 N L.length (rwsP L) (i : Int) (k : Int) c fuel (j : Int) = some (oW (fL2 (cst L) c i k j))
  | s, j, 0, _, h => by omega
  | s, j, f + 1, hs, hf => by
    have c4 := hL.c4
    rw [m33_L2]
    unfold fL2
    by_cases h : j < c
    · have ih := why_L2 N hN L c hL i k hi hk (s - 1) (j + 1) f (by omega) (by omega)
      have h3 := why_L3 N hN L c hL i k j hi hk h (c - (j + 1)) (j + 1) N rfl (by omega)
      rw [brn_t (by simp; omega), wrapN (by omega), h3, fs_step h]
      cases fL3 (cst L) c i k j (j + 1) with
      | some x => rfl
      | none => simp only [oW, bnd']; rw [ih]; rfl
    · rw [brn_f (by simp; omega), fs_end h]; rfl
theorem why_L1 (N : Nat) (hN : 2000 ≤ N) (L : List (List Int)) (c : Nat) (hL : Okc L c) (i : Nat) (hi : i < L.length) : ∀ (s k fuel : Nat), L.length - k = s → s < fuel →
    m33_L1 N L.length (rwsP L) (i : Int) fuel (k : Int) = some (oW (fL1 (cst L) L.length c i k))
  | s, k, 0, _, h => by omega
  | s, k, f + 1, hs, hf => by
    have hrl := rws_len L
    have r3 := hL.r3
    have r1 := hL.r1
    have c4 := hL.c4
    rw [m33_L1]
    unfold fL1
    by_cases h : k < L.length
    · have ih := why_L1 N hN L c hL i hi (s - 1) (k + 1) f (by omega) (by omega)
      have h3 := why_L2 N hN L c hL i k hi h c 0 N (by omega) (by omega)
      rw [brn_t (by simp; omega), grd_t (by omega), grd_t (by omega), rws_gp (by omega)]
      simp only [getL, hL.row 0 (by omega)]
      rw [wrapN (by omega), show m33_L2 N L.length (rwsP L) (i : Int) (k : Int) c N 0 = _ from h3, fs_step h]
      cases fL2 (cst L) c i k 0 with
      | some x => rfl
      | none => simp only [oW, bnd']; rw [ih]; rfl
    · rw [brn_f (by simp; omega), fs_end h]; rfl
theorem why_L0 (N : Nat) (hN : 2000 ≤ N) (L : List (List Int)) (c : Nat) (hL : Okc L c) : ∀ (s i fuel : Nat), L.length - i = s → s < fuel →
    m33_L0 N L.length (rwsP L) fuel (i : Int) = some (oW (fL0 (cst L) L.length c i))
  | s, i, 0, _, h => by omega
  | s, i, f + 1, hs, hf => by
    have r3 := hL.r3
    rw [m33_L0]
    unfold fL0
    by_cases h : i < L.length
    · have ih := why_L0 N hN L c hL (s - 1) (i + 1) f (by omega) (by omega)
      have h3 := why_L1 N hN L c hL i h (L.length - (i + 1)) (i + 1) N rfl (by omega)
      rw [brn_t (by simp; omega), wrapN (by omega), h3, fs_step h]
      cases fL1 (cst L) L.length c i (i + 1) with
      | some x => rfl
      | none => simp only [oW, bnd']; rw [ih]; rfl
    · rw [brn_f (by simp; omega), fs_end h]; rfl
/-- what Why says -/
def whyE (L : List (List Int)) : List Nat × Int := if chk L ≠ 0 then ([], chk L) else match crk (cst L) L.length (ro L 0).length with | some x => (q4 x, 0) | none => ([], 13)
theorem why_ok (N : Nat) (hN : 2000 ≤ N) (L : List (List Int)) (hl : lgL L = false) : m33 N (.lst false L.length (rwsP L)) = some (.tup [rwN (whyE L).1, .int .i64 (whyE L).2]) ∧ m34 N (.lst false L.length (rwsP L)) = some (.tup [rwN (whyE L).1, .int .i64 (whyE L).2]) := by
  obtain ⟨e1, e2⟩ := check_ok N hN L hl
  simp only [m33, m34, getL, e1, e2, bnd', getI, if_true]
  unfold whyE
  by_cases h : chk L = 0
  · have hL := chk_zero h
    have h0 := why_L0 N hN L _ hL L.length 0 N (by omega) (by have := hL.r3; omega)
    have h1 := crooked_ok N hN L L.length _ hL.tbl
    rw [if_neg (by simpa using h)]
    have q : ∀ {α : Type} (y z : Option α), brn (chk L != 0) y z = z := fun y z => brn_f (by simpa using h)
    rw [q, q, show m33_L0 N L.length (rwsP L) N 0 = _ from h0, h1]
    simp only [bnd', rwN, getL]
    rw [crL_len]
    show _ ∧ _
    have e : fL0 (cst L) L.length (ro L 0).length 0 = crk (cst L) L.length (ro L 0).length := rfl
    rw [e]
    cases crk (cst L) L.length (ro L 0).length <;> exact ⟨rfl, rfl⟩
  · have q : ∀ {α : Type} (y z : Option α), brn (chk L != 0) y z = y := fun y z => brn_t (by simpa using h)
    rw [q, q, if_pos h]
    exact ⟨rfl, rfl⟩
theorem ord_id {L : List (List Int)} {c : Nat} : ∀ i j, i < L.length → j < c → ordM L (List.range L.length) (List.range c) i j = cst L i j := fun i j hi hj => by
  simp [ordM, nn, List.getD, hi, hj]
theorem Str_congr {M M' : Nat → Nat → Int} {r c : Nat} (h : ∀ i j, i < r → j < c → M i j = M' i j) (hs : Str M r c) : Str M' r c := fun i k j l hi hk hj hl => by
  have := hs i k j l hi hk hj hl
  rw [h i j (by omega) (by omega), h k l (by omega) (by omega), h i l (by omega) (by omega), h k j (by omega) (by omega)] at this
  exact this
def strE (L : List (List Int)) : Bool × Int := if chk L ≠ 0 then (false, chk L) else ((crk (cst L) L.length (ro L 0).length).isNone, 0)
theorem strt_ok (N : Nat) (hN : 2000 ≤ N) (L : List (List Int)) (hl : lgL L = false) : m31 N (.lst false L.length (rwsP L)) = some (.tup [.bool (strE L).1, .int .i64 (strE L).2]) ∧ m32 N (.lst false L.length (rwsP L)) = some (.tup [.bool (strE L).1, .int .i64 (strE L).2]) := by
  obtain ⟨e1, e2⟩ := check_ok N hN L hl
  simp only [m31, m32, getL, e1, e2, bnd', getI, if_true]
  unfold strE
  by_cases h : chk L = 0
  · have hL := chk_zero h
    have hrl := rws_len L
    have r1 := hL.r1
    have r3 := hL.r3
    have c4 := hL.c4
    have h1 := crooked_ok N hN L L.length _ hL.tbl
    have h0 := straight_ok N hN L _ hL (List.range L.length) (List.range (ro L 0).length) (by simp; omega) (by simp; omega) (by simp) (by simp)
    simp only [List.length_range] at h0
    have ea : adjB (ordM L (List.range L.length) (List.range (ro L 0).length)) L.length (ro L 0).length = (crk (cst L) L.length (ro L 0).length).isNone := by
      rw [← crk_adj]
      have k1 := adj_str (M := ordM L (List.range L.length) (List.range (ro L 0).length)) (r := L.length) (c := (ro L 0).length)
      have k2 := adj_str (M := cst L) (r := L.length) (c := (ro L 0).length)
      rw [Bool.eq_iff_iff, k1, k2]
      exact ⟨Str_congr ord_id, Str_congr fun i j hi hj => (ord_id i j hi hj).symm⟩
    rw [if_neg (by simpa using h)]
    have q : ∀ {α : Type} (y z : Option α), brn (chk L != 0) y z = z := fun y z => brn_f (by simpa using h)
    rw [q, q, h1, numbers_ok N _ hN (by omega)]
    simp only [bnd', rwN, getL]
    rw [grd_t (by omega), grd_t (by omega), rws_gp (by omega)]
    simp only [numbers_ok N _ hN (show (ro L 0).length ≤ 1000 by omega), rwN]
    rw [crL_len, show m76 N (.lst false L.length (rwsP L)) (.lst false (List.range L.length).length (nL (List.range L.length))) (.lst false (List.range (ro L 0).length).length (nL (List.range (ro L 0).length))) = _ from h0, ea]
    exact ⟨rfl, rfl⟩
  · have q : ∀ {α : Type} (y z : Option α), brn (chk L != 0) y z = y := fun y z => brn_t (by simpa using h)
    rw [q, q, if_pos h]
    exact ⟨rfl, rfl⟩
end Go.Proofs.Yteidcinajdehkaa

namespace Go.Proofs.Yteidcinajdehkaa
open Go.V

theorem clone_ok (N : Nat) (X : List Nat) (h : 1 ≤ X.length) (h2 : X.length ≤ 1000) : m53 N (.lst false X.length (nL X)) = some (X.length, nL X) := by
  simp only [m53, getL]
  rw [grd_t (by omega), grd_t (nL_len X), grd_t (by omega)]
theorem putP_app : ∀ (ps cs : List PV) (k : Nat), k + ps.length ≤ cs.length → putP cs k ps = cs.take k ++ ps ++ cs.drop (k + ps.length)
  | [], cs, k, h => by simp [putP]
  | p :: ps, cs, k, h => by
    simp only [List.length_cons] at h
    rw [putP, putP_app ps (cs.set k p) (k + 1) (by simp; omega)]
    have e1 : (cs.set k p).take (k + 1) = cs.take k ++ [p] := by
      rw [List.set_eq_take_append_cons_drop, if_pos (by omega), List.take_append, List.length_take, Nat.min_eq_left (by omega), show k + 1 - k = 1 by omega, List.take_take]
      simp
    have e2 : (cs.set k p).drop (k + 1 + ps.length) = cs.drop (k + (ps.length + 1)) := by
      rw [List.drop_set_of_lt (by omega)]; congr 1; omega
    rw [e1, e2, List.length_cons]
    simp
theorem del_ok (N : Nat) (X : List Nat) (k : Nat) (hk : k < X.length) (h2 : X.length ≤ 1000) :
    ∃ c, m99 N X.length (k : Int) ((k + 1 : Nat) : Int) (nL X) = some (X.length - 1, c) ∧ c.take (X.length - 1) = nL (X.eraseIdx k) := by
  have hl := nL_len X
  have t1 : Int.toNat ((X.length : Int) - ((k + 1 : Nat) : Int)) = X.length - (k + 1) := by omega
  have t2 : k + (X.length - (k + 1)) = X.length - 1 := by omega
  have t3 : Int.toNat ((X.length : Int) - ((X.length - 1 : Nat) : Int)) = 1 := by omega
  refine ⟨putP (putP (nL X) k ((((nL X).drop (k + 1))).take (X.length - (k + 1)))) (X.length - 1) (List.replicate 1 (.int .i64 0)), ?_, ?_⟩
  · simp only [m99, t1, toNatN, t2, t3]
    have q1 : ∀ {α : Type} (y z : Option α), brn ((k : Int) == ((k + 1 : Nat) : Int)) y z = z := fun y z => brn_f (by rw [beq_eq_false_iff_ne]; omega)
    have q2 : ∀ {α : Type} (y : Option α), grd ((k : Int) ≤ (X.length : Int)) y = y := fun y => grd_t (by omega)
    have q3 : ∀ {α : Type} (y : Option α), grd ((0 : Int) ≤ ((k + 1 : Nat) : Int)) y = y := fun y => grd_t (by omega)
    have q4 : ∀ {α : Type} (y : Option α), grd (List.length (List.take (X.length - (k + 1)) (List.drop (k + 1) (nL X))) = X.length - (k + 1)) y = y := fun y => grd_t (by simp only [List.length_take, List.length_drop]; omega)
    have q5 : ∀ {α : Type} (y z : Option α), brn (decide (X.length - 1 ≤ X.length - 0)) y z = y := fun y z => brn_t (by simp)
    have q6 : ∀ {α : Type} (y : Option α), grd (cutG (X.length - 1) (nL X) ∧ k ≤ (nL X).length) y = y := fun y => grd_t ⟨by unfold cutG; omega, by omega⟩
    have q7 : ∀ {α : Type} (y : Option α), grd ((0 : Int) ≤ ((X.length - 1 : Nat) : Int) ∧ ((X.length - 1 : Nat) : Int) ≤ (X.length : Int) ∧ (X.length : Int) ≤ ((X.length - 0 : Nat) : Int)) y = y := fun y => grd_t ⟨by omega, by omega, by omega⟩
    have q8 : ∀ {α : Type} (y : Option α), grd (X.length - 1 + 1 ≤ (nL X).length) y = y := fun y => grd_t (by omega)
    simp only [q1, q2, q3, q4, q5, q6, q7, q8]
    by_cases h : ((k + 1 : Nat) : Int) = (X.length : Int)
    · rw [brn_t (by simpa using h), grd_t ⟨by omega, by omega, by omega, h.symm⟩]
    · rw [brn_f (by simpa using h), grd_t ⟨by omega, by omega, by omega, by omega⟩]
  · have l1 : ((nL X).drop (k + 1)).take (X.length - (k + 1)) = (nL X).drop (k + 1) := List.take_of_length_le (by simp only [List.length_drop]; omega)
    rw [l1, putP_app _ (nL X) k (by simp only [List.length_drop]; omega)]
    have l2 : ((nL X).take k ++ (nL X).drop (k + 1)).length = X.length - 1 := by simp only [List.length_append, List.length_take, List.length_drop]; omega
    rw [putP_app _ _ _ (by simp only [List.length_append, List.length_take, List.length_drop, List.length_replicate]; omega), List.append_assoc, List.take_append, List.length_take, List.length_append, l2, Nat.min_eq_left (by omega), Nat.sub_self, List.take_zero, List.append_nil, List.take_take, Nat.min_self, List.take_append, l2, Nat.sub_self, List.take_zero, List.append_nil, List.take_of_length_le (by omega), List.eraseIdx_eq_take_drop_succ]
    simp [nL]

def prm : Nat → List Nat → List Nat → List (List Nat)
  | 0, l, _ => [l]
  | n + 1, l, left => (List.range' 0 left.length).flatMap fun k => prm n (l ++ [nn left k]) (left.eraseIdx k)
def prmF (n : Nat) (l left : List Nat) (i : Nat) : List (List Nat) := (List.range' i (left.length - i)).flatMap fun k => prm n (l ++ [nn left k]) (left.eraseIdx k)
theorem prmF_step {n : Nat} {l left : List Nat} {i : Nat} (h : i < left.length) : prmF n l left i = prm n (l ++ [nn left i]) (left.eraseIdx i) ++ prmF n l left (i + 1) := by
  unfold prmF
  rw [range'_step h, List.flatMap_cons]
theorem prmF_end {n : Nat} {l left : List Nat} {i : Nat} (h : ¬ i < left.length) : prmF n l left i = [] := by
  unfold prmF
  rw [show left.length - i = 0 by omega]; rfl
theorem prmF_zero {n : Nat} {l left : List Nat} : prmF n l left 0 = prm (n + 1) l left := rfl
theorem prm_mem : ∀ (n : Nat) (l left : List Nat), left.length = n → ∀ x ∈ prm n l left, x.length = l.length + n ∧ ∀ y ∈ x, y ∈ l ∨ y ∈ left
  | 0, l, left, _, x, hx => by
    simp only [prm, List.mem_singleton] at hx; subst hx
    exact ⟨rfl, fun y hy => .inl hy⟩
  | n + 1, l, left, hn, x, hx => by
    simp only [prm, List.mem_flatMap, List.mem_range'_1] at hx
    obtain ⟨k, hk, hx⟩ := hx
    obtain ⟨h1, h2⟩ := prm_mem n _ _ (by rw [List.length_eraseIdx, if_pos (by omega)]; omega) x hx
    refine ⟨by rw [h1]; simp; omega, fun y hy => ?_⟩
    rcases h2 y hy with h | h
    · rcases List.mem_append.1 h with h | h
      · exact .inl h
      · simp only [List.mem_singleton] at h; subst h; exact .inr (nn_mem (by omega))
    · exact .inr (List.mem_of_mem_eraseIdx h)
def qB (L : List (List Int)) (A B : List Nat) : Bool := adjB (ordM L A B) A.length B.length
theorem nL_app (X : List Nat) (y : Nat) : nL X ++ [.int .i64 (y : Int)] = nL (X ++ [y]) := by simp [nL]
theorem rwN_app (X : List Nat) (y : Nat) : PV.lst false (X.length + 1) (nL (X ++ [y])) = rwN (X ++ [y]) := by simp [rwN]
theorem rwN_er {X : List Nat} {k : Nat} (hk : k < X.length) : PV.lst false (X.length - 1) (nL (X.eraseIdx k)) = rwN (X.eraseIdx k) := by
  simp only [rwN, List.length_eraseIdx, if_pos hk]

section
variable (N : Nat) (hN : 2000 ≤ N) (L : List (List Int)) (c : Nat) (hL : Okc L c) (A : List Nat) (hA : ∀ a ∈ A, a < L.length) (hAl : A.length ≤ 100)
include hN hL hA hAl
theorem put3 : ∀ (n : Nat) (l left : List Nat) (fu : Nat) (h b : PV), left.length = n → n < fu → l.length + n ≤ 100 → (∀ x ∈ l, x < c) → (∀ x ∈ left, x < c) →
    (∀ B, (prm n l left).find? (qB L A) = some B → m98_3 N fu (rwN l) (rwN left) (.lst false L.length (rwsP L)) (rwN A) h b = some (.bool true, rwN A, rwN A, rwN B)) ∧
    ((prm n l left).find? (qB L A) = none → ∃ h' b', m98_3 N fu (rwN l) (rwN left) (.lst false L.length (rwsP L)) (rwN A) h b = some (.bool false, rwN A, h', b'))
  | n, l, left, 0, _, _, _, h, _, _, _ => by omega
  | 0, l, left, fu + 1, h, b, hn, _, hl, hb, hb2 => by
    obtain rfl : left = [] := List.eq_nil_of_length_eq_zero hn
    have hs := straight_ok N hN L c hL A l hAl (by omega) hA hb
    have e : m98_3 N (fu + 1) (rwN l) (rwN []) (.lst false L.length (rwsP L)) (rwN A) h b = some (.bool (qB L A l), rwN A, rwN A, rwN l) := by
      rw [m98_3]
      simp only [rwN, getL]
      rw [brn_t (eq0_t (n := ([] : List Nat).length) rfl)]
      simp only [m81_2, getL]
      rw [show m76 N (.lst false L.length (rwsP L)) (.lst false A.length (nL A)) (.lst false l.length (nL l)) = _ from hs]
      rfl
    rw [e]
    simp only [prm, List.find?_cons, List.find?_nil]
    cases hq : qB L A l with
    | true => exact ⟨fun B hB => by cases hB; rfl, fun h => by cases h⟩
    | false => exact ⟨fun B hB => (by cases hB), fun _ => ⟨_, _, rfl⟩⟩
  | n + 1, l, left, fu + 1, h, b, hn, hf, hl, hb, hb2 => by
    have hll := nL_len l
    have hlf := nL_len left
    have loop : ∀ (s i fuel : Nat) (h b : PV), left.length - i = s → s < fuel →
        (∀ B, (prmF n l left i).find? (qB L A) = some B → m98_3_L0 N (m98_3 N fu) (.lst false L.length (rwsP L)) l.length (nL l) left.length (nL left) fuel (i : Int) (rwN A) h b = some (.inl (.bool true, rwN A, rwN A, rwN B))) ∧
        ((prmF n l left i).find? (qB L A) = none → ∃ h' b', m98_3_L0 N (m98_3 N fu) (.lst false L.length (rwsP L)) l.length (nL l) left.length (nL left) fuel (i : Int) (rwN A) h b = some (.inr (rwN A, h', b'))) := by
      intro s
      induction s with
      | zero =>
        intro i fuel h b hs hfu
        cases fuel with
        | zero => omega
        | succ f =>
          rw [m98_3_L0, brn_f (by simp; omega), prmF_end (by omega)]
          exact ⟨fun B hB => by simp at hB, fun _ => ⟨_, _, rfl⟩⟩
      | succ s ih =>
        intro i fuel h b hs hfu
        cases fuel with
        | zero => omega
        | succ f =>
          have hi : i < left.length := by omega
          have hx := hb2 _ (nn_mem hi)
          obtain ⟨cc, d1, d2⟩ := del_ok N left i hi (by omega)
          obtain ⟨r1, r2⟩ := put3 n (l ++ [nn left i]) (left.eraseIdx i) fu h b (by rw [List.length_eraseIdx, if_pos hi]; omega) (by omega) (by simp; omega) (fun x hx' => by
            rcases List.mem_append.1 hx' with hx' | hx'
            · exact hb x hx'
            · simp only [List.mem_singleton] at hx'; subst hx'; exact hx) (fun x hx' => hb2 x (List.mem_of_mem_eraseIdx hx'))
          rw [m98_3_L0, brn_t (by simp; omega), toNatN, grd_t ⟨by omega, by omega⟩, grd_t (by simp only [List.length_drop]; omega), nL_gp hi]
          simp only [getI, if_true]
          rw [grd_t ⟨by omega, by omega⟩, grd_t hll, grd_t (by omega), clone_ok N left (by omega) (by omega)]
          simp only [bnd']
          rw [wrapN (by omega), d1]
          simp only []
          rw [d2, nL_app, rwN_app, rwN_er hi, prmF_step hi, List.find?_append]
          cases hq : (prm n (l ++ [nn left i]) (left.eraseIdx i)).find? (qB L A) with
          | some B =>
            rw [r1 B hq]
            exact ⟨fun B' hB => by cases hB; rfl, fun h => by cases h⟩
          | none =>
            obtain ⟨h', b', e⟩ := r2 hq
            rw [e]
            simp only [getB]
            rw [brn_f rfl]
            exact ih (i + 1) f h' b' (by omega) (by omega)
    obtain ⟨l1, l2⟩ := loop left.length 0 N h b (by omega) (by omega)
    rw [prmF_zero] at l1 l2
    rw [m98_3]
    simp only [rwN, getL]
    rw [brn_f (eq0_f (by omega))]
    constructor
    · intro B hB
      have e : m98_3_L0 N (m98_3 N fu) (.lst false L.length (rwsP L)) l.length (nL l) left.length (nL left) N 0 (.lst false A.length (nL A)) h b = _ := l1 B hB
      rw [e]; rfl
    · intro hB
      obtain ⟨h', b', e'⟩ := l2 hB
      have e : m98_3_L0 N (m98_3 N fu) (.lst false L.length (rwsP L)) l.length (nL l) left.length (nL left) N 0 (.lst false A.length (nL A)) h b = _ := e'
      rw [e]; exact ⟨h', b', rfl⟩
/-- the first order of the buyers for one of the heaps -/
theorem put2 : ∀ (s i fuel : Nat) (h b : PV), c - i = s → s < fuel →
    (∀ B, (prmF (c - 1) [] (List.range c) i).find? (qB L A) = some B → m98_2_L0 N (.lst false L.length (rwsP L)) c (nL (List.range c)) fuel (i : Int) (rwN A) h b = some (.inl (.bool true, rwN A, rwN A, rwN B))) ∧
    ((prmF (c - 1) [] (List.range c) i).find? (qB L A) = none → ∃ h' b', m98_2_L0 N (.lst false L.length (rwsP L)) c (nL (List.range c)) fuel (i : Int) (rwN A) h b = some (.inr (rwN A, h', b')))
  | s, i, 0, _, _, _, h => by omega
  | s, i, f + 1, h, b, hs, hf => by
    have c4 := hL.c4
    have hll : (List.range c).length = c := by simp
    have hlf : (nL (List.range c)).length = c := by rw [nL_len]; simp
    rw [m98_2_L0]
    by_cases hi : i < c
    · have hx := nn_mem (X := List.range c) (i := i) (by simpa using hi)
      obtain ⟨cc, d1, d2⟩ := del_ok N (List.range c) i (by simpa using hi) (by simp; omega)
      have e1 := clone_ok N (List.range c) (by simp; omega) (by simp; omega)
      rw [hll] at d1 d2 e1
      obtain ⟨r1, r2⟩ := put3 N hN L c hL A hA hAl (c - 1) [nn (List.range c) i] ((List.range c).eraseIdx i) N h b (by rw [List.length_eraseIdx, if_pos (by simpa using hi)]; simp) (by omega) (by simp; omega) (fun x hx' => by
            simp only [List.mem_singleton] at hx'; subst hx'; simpa using hx) (fun x hx' => by simpa using List.mem_of_mem_eraseIdx hx')
      have ih := fun h b => put2 (s - 1) (i + 1) f h b (by omega) (by omega)
      rw [brn_t (by simp; omega), toNatN, grd_t ⟨by omega, by omega⟩, grd_t (by simp only [List.length_drop]; omega), nL_gp (by simpa using hi)]
      simp only [getI, if_true]
      rw [e1]
      simp only [bnd']
      rw [wrapN (by omega), d1]
      simp only []
      have e3 : PV.lst false (c - 1) (nL ((List.range c).eraseIdx i)) = rwN ((List.range c).eraseIdx i) := by
        have := rwN_er (X := List.range c) (k := i) (by simpa using hi)
        rw [hll] at this; exact this
      rw [d2, e3, prmF_step (by simpa using hi), List.find?_append]
      cases hq : (prm (c - 1) ([] ++ [nn (List.range c) i]) ((List.range c).eraseIdx i)).find? (qB L A) with
      | some B =>
        have := r1 B hq
        rw [show m98_3 N N (.lst false 1 [.int .i64 (nn (List.range c) i : Int)]) (rwN ((List.range c).eraseIdx i)) (.lst false L.length (rwsP L)) (rwN A) h b = _ from this]
        exact ⟨fun B' hB => by cases hB; rfl, fun h => by cases h⟩
      | none =>
        obtain ⟨h', b', e⟩ := r2 hq
        rw [show m98_3 N N (.lst false 1 [.int .i64 (nn (List.range c) i : Int)]) (rwN ((List.range c).eraseIdx i)) (.lst false L.length (rwsP L)) (rwN A) h b = _ from e]
        simp only [getB]
        rw [brn_f rfl]
        exact ih h' b'
    · rw [brn_f (by simp; omega), prmF_end (by simpa using hi)]
      exact ⟨fun B hB => by simp at hB, fun _ => ⟨_, _, rfl⟩⟩
def inn (L : List (List Int)) (c : Nat) (A : List Nat) : Option (List Nat) := (prm c [] (List.range c)).find? (qB L A)
theorem put8 (h b : PV) :
    (∀ B, inn L c A = some B → m80_2 N (rwN A) (.lst false L.length (rwsP L)) h b = some (.bool true, rwN A, rwN B)) ∧
    (inn L c A = none → ∃ h' b', m80_2 N (rwN A) (.lst false L.length (rwsP L)) h b = some (.bool false, h', b')) := by
  have c1 := hL.c1
  have c4 := hL.c4
  have r1 := hL.r1
  have r3 := hL.r3
  have hrl := rws_len L
  obtain ⟨l1, l2⟩ := put2 N hN L c hL A hA hAl c 0 N h b (by omega) (by omega)
  rw [prmF_zero, show c - 1 + 1 = c by omega] at l1 l2
  simp only [m80_2, rwN, getL]
  rw [grd_t (by omega), grd_t (by omega), rws_gp (by omega)]
  simp only [hL.row 0 (by omega)]
  simp only [m79_2, numbers_ok N c hN (by omega), bnd', rwN, getL, m98_2, List.length_range]
  rw [brn_f (eq0_f (by omega))]
  unfold inn
  constructor
  · intro B hB
    have e : m98_2_L0 N (.lst false L.length (rwsP L)) c (nL (List.range c)) N 0 (.lst false A.length (nL A)) h b = _ := l1 B hB
    rw [e]; rfl
  · intro hB
    obtain ⟨h', b', e'⟩ := l2 hB
    have e : m98_2_L0 N (.lst false L.length (rwsP L)) c (nL (List.range c)) N 0 (.lst false A.length (nL A)) h b = _ := e'
    rw [e]; exact ⟨h', b', rfl⟩
end

section
variable (N : Nat) (hN : 2000 ≤ N) (L : List (List Int)) (c : Nat) (hL : Okc L c)
include hN hL
theorem put4 : ∀ (n : Nat) (l left : List Nat) (fu : Nat) (h b : PV), left.length = n → n < fu → l.length + n ≤ 100 → (∀ x ∈ l, x < L.length) → (∀ x ∈ left, x < L.length) →
    (∀ A, (prm n l left).find? (fun A => (inn L c A).isSome) = some A → ∃ B, inn L c A = some B ∧ m98_4 N fu (rwN l) (rwN left) (.lst false L.length (rwsP L)) h b = some (.bool true, rwN A, rwN B)) ∧
    ((prm n l left).find? (fun A => (inn L c A).isSome) = none → ∃ h' b', m98_4 N fu (rwN l) (rwN left) (.lst false L.length (rwsP L)) h b = some (.bool false, h', b'))
  | n, l, left, 0, _, _, _, h, _, _, _ => by omega
  | 0, l, left, fu + 1, h, b, hn, _, hl, hb, hb2 => by
    obtain rfl : left = [] := List.eq_nil_of_length_eq_zero hn
    obtain ⟨p1, p2⟩ := put8 N hN L c hL l hb (by omega) h b
    have e : ∀ r, m80_2 N (rwN l) (.lst false L.length (rwsP L)) h b = some r → m98_4 N (fu + 1) (rwN l) (rwN []) (.lst false L.length (rwsP L)) h b = (match r with | (p, q, s) => getB p fun b => some (.bool b, q, s)) := fun r hr => by
      rw [m98_4]
      simp only [rwN, getL]
      rw [brn_t (eq0_t (n := ([] : List Nat).length) rfl), show m80_2 N (.lst false l.length (nL l)) (.lst false L.length (rwsP L)) h b = _ from hr]
      rfl
    simp only [prm, List.find?_cons, List.find?_nil]
    cases hq : inn L c l with
    | some B =>
      rw [e _ (p1 B hq)]
      exact ⟨fun A hA => by cases hA; exact ⟨B, hq, rfl⟩, fun h => by cases h⟩
    | none =>
      obtain ⟨h', b', e'⟩ := p2 hq
      rw [e _ e']
      exact ⟨fun A hA => (by cases hA), fun _ => ⟨h', b', rfl⟩⟩
  | n + 1, l, left, fu + 1, h, b, hn, hf, hl, hb, hb2 => by
    have hll := nL_len l
    have hlf := nL_len left
    have loop : ∀ (s i fuel : Nat) (h b : PV), left.length - i = s → s < fuel →
        (∀ A, (prmF n l left i).find? (fun A => (inn L c A).isSome) = some A → ∃ B, inn L c A = some B ∧ m98_4_L0 N (m98_4 N fu) (.lst false L.length (rwsP L)) l.length (nL l) left.length (nL left) fuel (i : Int) h b = some (.inl (.bool true, rwN A, rwN B))) ∧
        ((prmF n l left i).find? (fun A => (inn L c A).isSome) = none → ∃ h' b', m98_4_L0 N (m98_4 N fu) (.lst false L.length (rwsP L)) l.length (nL l) left.length (nL left) fuel (i : Int) h b = some (.inr (h', b'))) := by
      intro s
      induction s with
      | zero =>
        intro i fuel h b hs hfu
        cases fuel with
        | zero => omega
        | succ f =>
          rw [m98_4_L0, brn_f (by simp; omega), prmF_end (by omega)]
          exact ⟨fun B hB => by simp at hB, fun _ => ⟨_, _, rfl⟩⟩
      | succ s ih =>
        intro i fuel h b hs hfu
        cases fuel with
        | zero => omega
        | succ f =>
          have hi : i < left.length := by omega
          have hx := hb2 _ (nn_mem hi)
          obtain ⟨cc, d1, d2⟩ := del_ok N left i hi (by omega)
          obtain ⟨r1, r2⟩ := put4 n (l ++ [nn left i]) (left.eraseIdx i) fu h b (by rw [List.length_eraseIdx, if_pos hi]; omega) (by omega) (by simp; omega) (fun x hx' => by
            rcases List.mem_append.1 hx' with hx' | hx'
            · exact hb x hx'
            · simp only [List.mem_singleton] at hx'; subst hx'; exact hx) (fun x hx' => hb2 x (List.mem_of_mem_eraseIdx hx'))
          rw [m98_4_L0, brn_t (by simp; omega), toNatN, grd_t ⟨by omega, by omega⟩, grd_t (by simp only [List.length_drop]; omega), nL_gp hi]
          simp only [getI, if_true]
          rw [grd_t ⟨by omega, by omega⟩, grd_t hll, grd_t (by omega), clone_ok N left (by omega) (by omega)]
          simp only [bnd']
          rw [wrapN (by omega), d1]
          simp only []
          rw [d2, nL_app, rwN_app, rwN_er hi, prmF_step hi, List.find?_append]
          cases hq : (prm n (l ++ [nn left i]) (left.eraseIdx i)).find? (fun A => (inn L c A).isSome) with
          | some A =>
            obtain ⟨B, hB, e⟩ := r1 A hq
            rw [e]
            exact ⟨fun B' hB' => by cases hB'; exact ⟨B, hB, rfl⟩, fun h => by cases h⟩
          | none =>
            obtain ⟨h', b', e⟩ := r2 hq
            rw [e]
            simp only [getB]
            rw [brn_f rfl]
            exact ih (i + 1) f h' b' (by omega) (by omega)
    obtain ⟨l1, l2⟩ := loop left.length 0 N h b (by omega) (by omega)
    rw [prmF_zero] at l1 l2
    rw [m98_4]
    simp only [rwN, getL]
    rw [brn_f (eq0_f (by omega))]
    constructor
    · intro A hA
      obtain ⟨B, hB, e'⟩ := l1 A hA
      have e : m98_4_L0 N (m98_4 N fu) (.lst false L.length (rwsP L)) l.length (nL l) left.length (nL left) N 0 h b = _ := e'
      rw [e]; exact ⟨B, hB, rfl⟩
    · intro hB
      obtain ⟨h', b', e'⟩ := l2 hB
      have e : m98_4_L0 N (m98_4 N fu) (.lst false L.length (rwsP L)) l.length (nL l) left.length (nL left) N 0 h b = _ := e'
      rw [e]; exact ⟨h', b', rfl⟩
theorem put1 : ∀ (s i fuel : Nat) (h b : PV), L.length - i = s → s < fuel →
    (∀ A, (prmF (L.length - 1) [] (List.range L.length) i).find? (fun A => (inn L c A).isSome) = some A → ∃ B, inn L c A = some B ∧ m98_L0 N (.lst false L.length (rwsP L)) L.length (nL (List.range L.length)) fuel (i : Int) h b = some (.inl (.bool true, rwN A, rwN B))) ∧
    ((prmF (L.length - 1) [] (List.range L.length) i).find? (fun A => (inn L c A).isSome) = none → ∃ h' b', m98_L0 N (.lst false L.length (rwsP L)) L.length (nL (List.range L.length)) fuel (i : Int) h b = some (.inr (h', b')))
  | s, i, 0, _, _, _, h => by omega
  | s, i, f + 1, h, b, hs, hf => by
    have r3 := hL.r3
    have hll : (List.range L.length).length = L.length := by simp
    have hlf : (nL (List.range L.length)).length = L.length := by rw [nL_len]; simp
    rw [m98_L0]
    by_cases hi : i < L.length
    · have hx := nn_mem (X := List.range L.length) (i := i) (by simpa using hi)
      obtain ⟨cc, d1, d2⟩ := del_ok N (List.range L.length) i (by simpa using hi) (by simp; omega)
      have e1 := clone_ok N (List.range L.length) (by simp; omega) (by simp; omega)
      rw [hll] at d1 d2 e1
      obtain ⟨r1, r2⟩ := put4 N hN L c hL (L.length - 1) [nn (List.range L.length) i] ((List.range L.length).eraseIdx i) N h b (by rw [List.length_eraseIdx, if_pos (by simpa using hi)]; simp) (by omega) (by simp; omega) (fun x hx' => by
            simp only [List.mem_singleton] at hx'; subst hx'; simpa using hx) (fun x hx' => by simpa using List.mem_of_mem_eraseIdx hx')
      have ih := fun h b => put1 (s - 1) (i + 1) f h b (by omega) (by omega)
      rw [brn_t (by simp; omega), toNatN, grd_t ⟨by omega, by omega⟩, grd_t (by simp only [List.length_drop]; omega), nL_gp (by simpa using hi)]
      simp only [getI, if_true]
      rw [e1]
      simp only [bnd']
      rw [wrapN (by omega), d1]
      simp only []
      have e3 : PV.lst false (L.length - 1) (nL ((List.range L.length).eraseIdx i)) = rwN ((List.range L.length).eraseIdx i) := by
        have := rwN_er (X := List.range L.length) (k := i) (by simpa using hi)
        rw [hll] at this; exact this
      rw [d2, e3, prmF_step (by simpa using hi), List.find?_append]
      cases hq : (prm (L.length - 1) ([] ++ [nn (List.range L.length) i]) ((List.range L.length).eraseIdx i)).find? (fun A => (inn L c A).isSome) with
      | some A =>
        obtain ⟨B, hB, e⟩ := r1 A hq
        rw [show m98_4 N N (.lst false 1 [.int .i64 (nn (List.range L.length) i : Int)]) (rwN ((List.range L.length).eraseIdx i)) (.lst false L.length (rwsP L)) h b = _ from e]
        exact ⟨fun B' hB' => by cases hB'; exact ⟨B, hB, rfl⟩, fun h => by cases h⟩
      | none =>
        obtain ⟨h', b', e⟩ := r2 hq
        rw [show m98_4 N N (.lst false 1 [.int .i64 (nn (List.range L.length) i : Int)]) (rwN ((List.range L.length).eraseIdx i)) (.lst false L.length (rwsP L)) h b = _ from e]
        simp only [getB]
        rw [brn_f rfl]
        exact ih h' b'
    · rw [brn_f (by simp; omega), prmF_end (by simpa using hi)]
      exact ⟨fun B hB => by simp at hB, fun _ => ⟨_, _, rfl⟩⟩
end
def ordE (L : List (List Int)) : List Nat × List Nat × Int :=
  if chk L ≠ 0 then ([], [], chk L) else
  match (prm L.length [] (List.range L.length)).findSome? (fun A => (inn L (ro L 0).length A).map fun B => (A, B)) with
  | some x => (x.1, x.2, 0)
  | none => ([], [], 12)
theorem find_some {α β : Type} (g : α → Option β) : ∀ (P : List α), P.findSome? (fun a => (g a).map fun b => (a, b)) = (match P.find? (fun a => (g a).isSome) with | some a => (g a).map fun b => (a, b) | none => none)
  | [] => rfl
  | a :: P => by
    rw [List.findSome?_cons, List.find?_cons]
    cases h : g a with
    | some b => simp [h]
    | none => simpa [h] using find_some g P
theorem orders_ok (N : Nat) (hN : 2000 ≤ N) (L : List (List Int)) (hl : lgL L = false) : m35 N (.lst false L.length (rwsP L)) = some (.tup [rwN (ordE L).1, rwN (ordE L).2.1, .int .i64 (ordE L).2.2]) := by
  obtain ⟨e1, _⟩ := check_ok N hN L hl
  simp only [m35, getL, e1, bnd', getI, if_true]
  unfold ordE
  by_cases h : chk L = 0
  · have hL := chk_zero h
    have r1 := hL.r1
    have r3 := hL.r3
    obtain ⟨l1, l2⟩ := put1 N hN L _ hL L.length 0 N .nl .nl (by omega) (by omega)
    rw [prmF_zero, show L.length - 1 + 1 = L.length by omega] at l1 l2
    rw [if_neg (by simpa using h), brn_f (by simpa using h), find_some]
    simp only [m79, numbers_ok N L.length hN (by omega), bnd', rwN, getL, m98, List.length_range]
    rw [brn_f (eq0_f (by omega))]
    cases hq : (prm L.length [] (List.range L.length)).find? (fun A => (inn L (ro L 0).length A).isSome) with
    | some A =>
      obtain ⟨B, hB, e'⟩ := l1 A hq
      have e : m98_L0 N (.lst false L.length (rwsP L)) L.length (nL (List.range L.length)) N 0 .nl .nl = _ := e'
      rw [e]
      simp only [hB]
      rfl
    | none =>
      obtain ⟨h', b', e'⟩ := l2 hq
      have e : m98_L0 N (.lst false L.length (rwsP L)) L.length (nL (List.range L.length)) N 0 .nl .nl = _ := e'
      rw [e]
      rfl
  · rw [brn_t (by simpa using h), if_pos h]
    rfl
end Go.Proofs.Yteidcinajdehkaa

namespace Go.Proofs.Yteidcinajdehkaa
open Go.V
set_option linter.unusedSectionVars false
set_option linter.unnecessarySimpa false

def roN (P : List (List Nat)) (k : Nat) : List Nat := P.getD k []
theorem gpN {P : List (List Nat)} {k : Nat} (h : k < P.length) : gp (P.map rwN) k = .lst false (roN P k).length (nL (roN P k)) := by
  simp [gp, roN, rwN, List.getD, h]
theorem roN_mem {P : List (List Nat)} {k : Nat} (h : k < P.length) : roN P k ∈ P := by
  simp [roN, List.getD, h]
theorem drop_roN {P : List (List Nat)} {k : Nat} (h : k < P.length) : P.drop k = roN P k :: P.drop (k + 1) := by
  rw [List.drop_eq_getElem_cons h]; simp [roN, List.getD, h]
def prs (n : Nat) : List (List Nat) := prm n [] (List.range n)
theorem refo_ok (n : Nat) (h1 : 1 ≤ n) (h4 : n ≤ 4) : m82 2000 2000 (n : Int) (.lst false 0 []) = some (.lst false (prs n).length ((prs n).map rwN)) ∧ (prs n).length ≤ 100 := by
  have h : n = 1 ∨ n = 2 ∨ n = 3 ∨ n = 4 := by omega
  rcases h with rfl | rfl | rfl | rfl
  · exact ⟨by kernel_rfl, by decide⟩
  · exact ⟨by kernel_rfl, by decide⟩
  · exact ⟨by kernel_rfl, by decide⟩
  · exact ⟨by kernel_rfl, by decide⟩
theorem prs_mem {n : Nat} {x : List Nat} (h : x ∈ prs n) : x.length = n ∧ ∀ y ∈ x, y < n := by
  obtain ⟨h1, h2⟩ := prm_mem n [] (List.range n) (by simp) x h
  exact ⟨by simpa using h1, fun y hy => by rcases h2 y hy with h | h <;> simpa using h⟩
/-- costs put in two orders -/
def put (L : List (List Int)) (A B : List Nat) : List (List Int) := A.map fun i => B.map fun j => cst L i j
def putR (L : List (List Int)) (B : List Nat) (i : Nat) : List Int := B.map fun j => cst L i j
theorem put_len {L : List (List Int)} {A B : List Nat} : (put L A B).length = A.length := by simp [put]
theorem put_ro {L : List (List Int)} {A B : List Nat} {i : Nat} (h : i < A.length) : ro (put L A B) i = putR L B (nn A i) := by
  simp [put, ro, putR, nn, List.getD, h]
theorem put_en {L : List (List Int)} {B : List Nat} {i j : Nat} (h : j < B.length) : en (putR L B i) j = cst L i (nn B j) := by
  simp [putR, en, nn, List.getD, h]
section
variable (L : List (List Int)) (c : Nat) (hL : Okc L c) (A B : List Nat) (hA : ∀ a ∈ A, a < L.length) (hAl : A.length = L.length) (hB : ∀ b ∈ B, b < c) (hBl : B.length = c)
include hL hA hAl hB hBl
theorem put_tbl : Tbl (put L A B) L.length c := by
  refine ⟨by rw [put_len, hAl], hL.r1, hL.r3, hL.c4, fun i hi => ?_, fun i j hi hj => ?_⟩
  · rw [put_ro (by omega)]; simp [putR, hBl]
  · rw [put_ro (by omega), put_en (by omega)]
    exact hL.val _ _ (hA _ (nn_mem (by omega))) (hB _ (nn_mem (by omega)))
theorem put_q : (crk (cst (put L A B)) L.length c).isNone = qB L A B := by
  unfold qB
  rw [← crk_adj, hAl, hBl]
  have k1 := adj_str (M := cst (put L A B)) (r := L.length) (c := c)
  have k2 := adj_str (M := ordM L A B) (r := L.length) (c := c)
  have e : ∀ i j, i < L.length → j < c → cst (put L A B) i j = ordM L A B i j := fun i j hi hj => by
    show en (ro (put L A B) i) j = _
    rw [put_ro (by omega), put_en (by omega)]; rfl
  rw [Bool.eq_iff_iff, k1, k2]
  exact ⟨Str_congr e, Str_congr fun i j hi hj => (e i j hi hj).symm⟩
end
section
variable (N : Nat) (hN : 2000 ≤ N) (L : List (List Int)) (c : Nat) (hL : Okc L c) (P Q : List (List Nat)) (hP : ∀ x ∈ P, x.length = L.length ∧ ∀ y ∈ x, y < L.length) (hQ : ∀ x ∈ Q, x.length = c ∧ ∀ y ∈ x, y < c) (hPl : P.length ≤ 100) (hQl : Q.length ≤ 100)
include hN hL hP hQ hPl hQl
theorem od_L3 (a b i : Nat) (ha : a < P.length) (hb : b < Q.length) (hi : i < L.length) (n1644 : Nat) (c1646 : List PV) : ∀ (s j fuel : Nat), c - j = s → j ≤ c → s < fuel →
    m36_L3 N L.length (rwsP L) P.length (P.map rwN) Q.length (Q.map rwN) (a : Int) (b : Int) n1644 (i : Int) c1646 (roN P a).length (nL (roN P a)) fuel j (j : Int) (iL (putR L ((roN Q b).take j) (nn (roN P a) i))) = some (c, iL (putR L (roN Q b) (nn (roN P a) i)))
  | s, j, 0, _, _, h => by omega
  | s, j, f + 1, hs, hj, hf => by
    have c4 := hL.c4
    have r3 := hL.r3
    have hrl := rws_len L
    have hPm : (P.map rwN).length = P.length := by simp
    have hQm : (Q.map rwN).length = Q.length := by simp
    obtain ⟨pa, pb⟩ := hP _ (roN_mem ha)
    obtain ⟨qa, qb⟩ := hQ _ (roN_mem hb)
    have ip := nL_len (roN P a)
    have iq := nL_len (roN Q b)
    rw [m36_L3, toNatN, toNatN, toNatN, grd_t ⟨by omega, by omega⟩, grd_t (by simp only [List.length_drop]; omega), gpN hb]
    simp only [getL]
    by_cases h : j < c
    · have ih := od_L3 a b i ha hb hi n1644 c1646 (s - 1) (j + 1) f (by omega) (by omega) (by omega)
      have x1 := pb _ (nn_mem (X := roN P a) (i := i) (by omega))
      have x2 := qb _ (nn_mem (X := roN Q b) (i := j) (by omega))
      have l1 := hL.row _ x1
      have l2 := iL_len (ro L (nn (roN P a) i))
      rw [brn_t (by simp; omega), grd_t ⟨by omega, by omega⟩, grd_t (by simp only [List.length_drop]; omega), nL_gp (by omega)]
      simp only [getI, if_true, toNatN]
      rw [grd_t ⟨by omega, by omega⟩, grd_t (by simp only [List.length_drop]; omega), rws_gp (by omega)]
      simp only []
      rw [grd_t ⟨by omega, by omega⟩, grd_t (by simp only [List.length_drop]; omega), nL_gp (by omega)]
      simp only [if_true, toNatN]
      rw [grd_t ⟨by omega, by omega⟩, grd_t (by simp only [List.length_drop]; omega), iL_gp (by omega)]
      simp only [if_true]
      rw [grd_t (by omega), grd_t (by simp only [iL, putR, List.length_map, List.length_take]; omega), wrapN (by omega)]
      have e : iL (putR L ((roN Q b).take j) (nn (roN P a) i)) ++ [PV.int .i64 (en (ro L (nn (roN P a) i)) (nn (roN Q b) j))] = iL (putR L ((roN Q b).take (j + 1)) (nn (roN P a) i)) := by
        rw [List.take_add_one]
        have : (roN Q b)[j]? = some (nn (roN Q b) j) := by simp [nn, List.getD, show j < (roN Q b).length by omega]
        rw [this]
        simp [iL, putR, cst]
      rw [e]; exact ih
    · rw [brn_f (by simp; omega), List.take_of_length_le (by omega)]
      rw [show j = c by omega]
theorem od_L2 (a b : Nat) (ha : a < P.length) (hb : b < Q.length) : ∀ (s i fuel : Nat), L.length - i = s → i ≤ L.length → s < fuel →
    m36_L2 N L.length (rwsP L) P.length (P.map rwN) Q.length (Q.map rwN) (a : Int) (b : Int) fuel i (i : Int) (rwsP (put L ((roN P a).take i) (roN Q b))) = some (L.length, rwsP (put L (roN P a) (roN Q b)))
  | s, i, 0, _, _, h => by omega
  | s, i, f + 1, hs, hi, hf => by
    have c4 := hL.c4
    have r3 := hL.r3
    have hPm : (P.map rwN).length = P.length := by simp
    obtain ⟨pa, pb⟩ := hP _ (roN_mem ha)
    obtain ⟨qa, qb⟩ := hQ _ (roN_mem hb)
    rw [m36_L2, toNatN, grd_t ⟨by omega, by omega⟩, grd_t (by simp only [List.length_drop]; omega), gpN ha]
    simp only [getL]
    by_cases h : i < L.length
    · have ih := od_L2 a b ha hb (s - 1) (i + 1) f (by omega) (by omega) (by omega)
      have h3 := od_L3 N hN L c hL P Q hP hQ hPl hQl a b i ha hb h i (rwsP (put L ((roN P a).take i) (roN Q b))) c 0 N (by omega) (by omega) (by omega)
      rw [brn_t (by simp; omega), show m36_L3 N L.length (rwsP L) P.length (P.map rwN) Q.length (Q.map rwN) (a : Int) (b : Int) i (i : Int) (rwsP (put L ((roN P a).take i) (roN Q b))) (roN P a).length (nL (roN P a)) N 0 0 [] = _ from h3]
      simp only [bnd']
      rw [grd_t (by omega), grd_t (by simp only [rwsP, put, List.length_map, List.length_take]; omega), grd_t (by simp only [iL, putR, List.length_map]; omega), wrapN (by omega)]
      have e : rwsP (put L ((roN P a).take i) (roN Q b)) ++ [PV.lst false c (iL (putR L (roN Q b) (nn (roN P a) i)))] = rwsP (put L ((roN P a).take (i + 1)) (roN Q b)) := by
        rw [List.take_add_one]
        have : (roN P a)[i]? = some (nn (roN P a) i) := by simp [nn, List.getD, show i < (roN P a).length by omega]
        rw [this]
        simp [rwsP, put, putR, rwP, iL, qa]
      rw [e]; exact ih
    · rw [brn_f (by simp; omega), List.take_of_length_le (by omega)]
      rw [show i = L.length by omega]
def oR (A : List Nat) : Option (List Nat) → PV ⊕ Unit
  | some B => .inl (.tup [rwN A, rwN B, .int .i64 0])
  | none => .inr ()
theorem od_L1 (a : Nat) (ha : a < P.length) : ∀ (s b fuel : Nat), Q.length - b = s → s < fuel →
    m36_L1 N L.length (rwsP L) P.length (P.map rwN) Q.length (Q.map rwN) (a : Int) fuel (b : Int) = some (oR (roN P a) ((Q.drop b).find? (qB L (roN P a))))
  | s, b, 0, _, h => by omega
  | s, b, f + 1, hs, hf => by
    have r3 := hL.r3
    rw [m36_L1]
    by_cases hb : b < Q.length
    · have ih := od_L1 a ha (s - 1) (b + 1) f (by omega) (by omega)
      have hPm : (P.map rwN).length = P.length := by simp
      have hQm : (Q.map rwN).length = Q.length := by simp
      obtain ⟨pa, pb⟩ := hP _ (roN_mem ha)
      obtain ⟨qa, qb⟩ := hQ _ (roN_mem hb)
      have h2 := od_L2 N hN L c hL P Q hP hQ hPl hQl a b ha hb L.length 0 N (by omega) (by omega) (by omega)
      have ht := crooked_ok N hN _ _ _ (put_tbl L c hL _ _ pb pa qb qa)
      have hq := put_q L c hL _ _ pb pa qb qa
      rw [brn_t (by simp; omega), show m36_L2 N L.length (rwsP L) P.length (P.map rwN) Q.length (Q.map rwN) (a : Int) (b : Int) N 0 0 [] = _ from h2]
      simp only [bnd']
      rw [grd_t (by simp only [rwsP, put, List.length_map]; omega), ht]
      simp only [rwN, getL]
      rw [crL_len, hq, drop_roN hb, List.find?_cons]
      cases e : qB L (roN P a) (roN Q b) with
      | true =>
        rw [brn_t rfl, toNatN, toNatN, grd_t ⟨by omega, by omega⟩, grd_t (by simp only [List.length_drop]; omega), show gp (P.map rwN) a = _ from gpN ha]
        simp only []
        rw [grd_t ⟨by omega, by omega⟩, grd_t (by simp only [List.length_drop]; omega), show gp (Q.map rwN) b = _ from gpN hb]
        rfl
      | false =>
        rw [brn_f rfl, wrapN (by omega)]
        exact ih
    · rw [brn_f (by simp; omega), List.drop_eq_nil_of_le (by omega)]; rfl
def oR2 : Option (List Nat × List Nat) → PV ⊕ Unit
  | some x => .inl (.tup [rwN x.1, rwN x.2, .int .i64 0])
  | none => .inr ()
theorem od_L0 : ∀ (s a fuel : Nat), P.length - a = s → s < fuel →
    m36_L0 N L.length (rwsP L) P.length (P.map rwN) Q.length (Q.map rwN) fuel (a : Int) = some (oR2 ((P.drop a).findSome? fun A => (Q.find? (qB L A)).map fun B => (A, B)))
  | s, a, 0, _, h => by omega
  | s, a, f + 1, hs, hf => by
    rw [m36_L0]
    by_cases ha : a < P.length
    · have ih := od_L0 (s - 1) (a + 1) f (by omega) (by omega)
      have h1 := od_L1 N hN L c hL P Q hP hQ hPl hQl a ha Q.length 0 N (by omega) (by omega)
      rw [brn_t (by simp; omega), show m36_L1 N L.length (rwsP L) P.length (P.map rwN) Q.length (Q.map rwN) (a : Int) N 0 = _ from h1, drop_roN ha, List.findSome?_cons, List.drop_zero]
      cases Q.find? (qB L (roN P a)) with
      | some B => rfl
      | none => simp only [oR, bnd', Option.map_none]; rw [wrapN (by omega)]; exact ih
    · rw [brn_f (by simp; omega), List.drop_eq_nil_of_le (by omega)]; rfl
end
theorem refs_ok (L : List (List Int)) (hl : lgL L = false) : m36 2000 (.lst false L.length (rwsP L)) = some (.tup [rwN (ordE L).1, rwN (ordE L).2.1, .int .i64 (ordE L).2.2]) := by
  obtain ⟨_, e2⟩ := check_ok 2000 (by omega) L hl
  simp only [m36, getL, e2, bnd', getI, if_true]
  unfold ordE
  by_cases h : chk L = 0
  · have hL := chk_zero h
    have r1 := hL.r1
    have r3 := hL.r3
    have c1 := hL.c1
    have c4 := hL.c4
    have hrl := rws_len L
    obtain ⟨u1, u2⟩ := refo_ok L.length r1 (by omega)
    obtain ⟨v1, v2⟩ := refo_ok (ro L 0).length c1 c4
    have h0 := od_L0 2000 (by omega) L _ hL (prs L.length) (prs (ro L 0).length) (fun x hx => prs_mem hx) (fun x hx => prs_mem hx) u2 v2 (prs L.length).length 0 2000 (by omega) (by omega)
    rw [if_neg (by simpa using h), brn_f (by simpa using h), u1]
    simp only []
    rw [grd_t (by omega), grd_t (by omega), rws_gp (by omega)]
    simp only [v1]
    rw [show m36_L0 2000 L.length (rwsP L) (prs L.length).length ((prs L.length).map rwN) (prs (ro L 0).length).length ((prs (ro L 0).length).map rwN) 2000 0 = _ from h0, List.drop_zero]
    show (match oR2 (List.findSome? (fun A => (inn L (ro L 0).length A).map fun B => (A, B)) (prm L.length [] (List.range L.length))) with | .inl p => some p | .inr () => _) = _
    cases List.findSome? (fun A => (inn L (ro L 0).length A).map fun B => (A, B)) (prm L.length [] (List.range L.length)) <;> rfl
  · rw [brn_t (by simpa using h), if_pos h]
    rfl
theorem same_L (N : Nat) (n : Nat) (X : List Nat) (hX : X.length ≤ 1000) : ∀ (s i fuel : Nat), X.length - i = s → s < fuel →
    m37_L0 N X.length (nL X) X.length (nL X) fuel (i : Int) = some (.inr ())
  | s, i, 0, _, h => by omega
  | s, i, f + 1, hs, hf => by
    have hl := nL_len X
    rw [m37_L0]
    by_cases hi : i < X.length
    · have ih := same_L N n X hX (s - 1) (i + 1) f (by omega) (by omega)
      rw [brn_t (by simp; omega), toNatN, grd_t ⟨by omega, by omega⟩, grd_t (by simp only [List.length_drop]; omega), nL_gp hi]
      simp only [getI, if_true]
      rw [grd_t (by omega), grd_t (by simp only [List.length_drop]; omega), brn_f (by simp), wrapN (by omega)]
      exact ih
    · rw [brn_f (by simp; omega)]
theorem same_ok (X : List Nat) (hX : X.length ≤ 1000) : m37 2000 (.lst false X.length (nL X)) (.lst false X.length (nL X)) = some (.bool true) := by
  have := same_L 2000 0 X hX X.length 0 2000 (by omega) (by omega)
  simp only [m37, getL]
  rw [brn_f (by simp), show m37_L0 2000 X.length (nL X) X.length (nL X) 2000 0 = _ from this]
  rfl
theorem ordE_len (L : List (List Int)) : (ordE L).1.length ≤ 1000 ∧ (ordE L).2.1.length ≤ 1000 := by
  unfold ordE
  by_cases h : chk L = 0
  · rw [if_neg (by simpa using h)]
    have hL := chk_zero h
    have r3 := hL.r3
    have c4 := hL.c4
    cases e : (prm L.length [] (List.range L.length)).findSome? (fun A => (inn L (ro L 0).length A).map fun B => (A, B)) with
    | none => exact ⟨by simp, by simp⟩
    | some x =>
      obtain ⟨A, hA, hx⟩ := List.exists_of_findSome?_eq_some e
      simp only [Option.map_eq_some_iff] at hx
      obtain ⟨B, hB, rfl⟩ := hx
      have h1 := prs_mem (n := L.length) hA
      have h2 := prs_mem (n := (ro L 0).length) (List.mem_of_find?_eq_some hB)
      exact ⟨by simp only []; omega, by simp only []; omega⟩
  · rw [if_pos h]; exact ⟨by simp, by simp⟩
theorem whyE_len (L : List (List Int)) : (whyE L).1.length ≤ 1000 := by
  unfold whyE
  by_cases h : chk L = 0
  · rw [if_neg (by simpa using h)]
    cases crk (cst L) L.length (ro L 0).length with
    | none => simp
    | some x => simp [q4]
  · rw [if_pos h]; simp
theorem law (L : List (List Int)) : m5 2000 (.lst false L.length (rwsP L)) = some (.bool true) := by
  simp only [m5, getL, large_ok 2000 (by omega) L, bnd', getB]
  cases hl : lgL L with
  | true => rfl
  | false =>
    obtain ⟨s1, s2⟩ := strt_ok 2000 (by omega) L hl
    obtain ⟨w1, w2⟩ := why_ok 2000 (by omega) L hl
    have o1 := orders_ok 2000 (by omega) L hl
    have o2 := refs_ok L hl
    obtain ⟨x1, x2⟩ := ordE_len L
    have x3 := whyE_len L
    rw [brn_f rfl]
    simp only [s1, s2, w1, w2, o1, o2, bnd', getT2, getT3, getB, getI, getL, if_true, rwN, same_ok _ x1, same_ok _ x2, same_ok _ x3]
    simp [brn, m17]
end Go.Proofs.Yteidcinajdehkaa

namespace Go.Proofs.Yteidcinajdehkaa
open Go.V

theorem row_of {x : List PV} (h : PT tab 23 x) : ∃ (y : PV) (r : List Int), x = [y] ∧ PLe y (rwP r) := by
  rcases h.slice' tl23 rfl with h | ⟨xs, h, hx⟩
  · exact ⟨.nl, [], h, .nl false⟩
  · obtain ⟨L, h1, h2, _⟩ := opened (fun p : Int => [PV.int .i64 p]) (fun x => PT tab 3 x) (fun _ => True)
      (fun x hx => by obtain ⟨n, e, _⟩ := hx.int' tl3 rfl; exact ⟨n, e, trivial⟩) xs hx
    refine ⟨_, L, h, ?_⟩
    rw [h2, ← h1]
    have : L.flatMap (fun p : Int => [PV.int .i64 p]) = iL L := by
      clear h1 h2
      induction L with
      | nil => rfl
      | cons a L ih => simpa [iL] using ih
    rw [this]
    exact .refl _
theorem rows_of' : ∀ (xs : List (List PV)), (∀ x ∈ xs, PT tab 23 x) → ∃ L : List (List Int), L.length = xs.length ∧ PLes xs.flatten (rwsP L)
  | [], _ => ⟨[], rfl, .nil⟩
  | x :: xs, h => by
    obtain ⟨L, h1, h2⟩ := rows_of' xs fun y hy => h y (.tail _ hy)
    obtain ⟨y, r, rfl, hr⟩ := row_of (h x (.head _))
    exact ⟨r :: L, by simp [h1], .cons _ _ _ _ hr h2⟩
theorem rows_of {x : PV} (h : PT tab 22 [x]) : ∃ L : List (List Int), PLe x (.lst false L.length (rwsP L)) := by
  rcases h.slice' tl22 rfl with h | ⟨xs, h, hx⟩
  · cases h; exact ⟨[], .nl false⟩
  · cases h
    obtain ⟨L, h1, h2⟩ := rows_of' xs hx
    refine ⟨L, ?_⟩
    rw [h1]
    exact .lst false false _ _ _ (fun h => h) h2
end Go.Proofs.Yteidcinajdehkaa

namespace Go.Proofs.Yteidcinajdehkaa
open Go.V
theorem con5 (x0 : PV) (h0 : PT tab 22 [x0]) : FnP Try.prog 5 [x0] (.bool true) := by
  obtain ⟨L, hL⟩ := rows_of h0
  exact FnP_le (c5 2000 _ _ (law L)) (.cons _ _ _ _ hL .nil) (.refl _)
end Go.Proofs.Yteidcinajdehkaa

namespace Go.Proofs.Yteidcinajdehkaa.dealOrders
open Go.ChangeShapes Go.WideShapes Go.ChangeAt Go.RowKit Go.V

theorem own : ownKnob Try.prog.godebug = none := by kernel_rfl
theorem laid : laidOutB Try.prog = true := by kernel_rfl
set_option maxRecDepth 100000 in
theorem lifted (os : Os) (started : os.Started) (H : Type) (enc : TypeId × Value → H) :
    ReturnsInHanded {} Try.checked os 5 .any (Rows.dealOrdersSpec.pre6 enc Try.prog Try.f5 Rows.dealOrdersRow.domain false) (Rows.dealOrdersSpec.post enc Try.prog Try.f5 false true false false) := by
  refine returnsInHanded_of_change (C := Try.checked) own started (by kernel_rfl) Try.func5
    (ChangeSpec.witness6 (enc := enc) (C := Try.checked) false ⟨#[], #[.slice none 0 0], []⟩ 8 (by kernel_rfl) (by kernel_rfl) (by kernel_rfl) (by kernel_rfl)) ?_
  intro W base args ds gs before hval0 hW hcnd _
  have hW' := hW
  obtain ⟨p, q, hA0, hV, rfl, hfz, hnd⟩ := hW
  have hA : DataW.TrodAll enc Try.prog W 0 (fun _ => true) true Try.f5.params.toList args.toList ds p := hA0
  rw [Try.params5] at hA
  obtain ⟨v0, vs0, d0, ds0, p0, q0, e0, rfl, rfl, h0, hr0⟩ := trodAll_cons hA
  obtain ⟨rfl, rfl, rfl⟩ := trodAll_nil hr0
  obtain rfl : args = #[v0] := by cases args; simp_all
  obtain ⟨x0, k0, t0⟩ := arg_one (n := 8) tab_ok (hval0 0 22 v0 rfl rfl) h0 (by kernel_rfl) (by kernel_rfl)
  obtain ⟨rfl, rfl⟩ := trodVars_none hV
  clear hA0 hval0
  simp only [List.append_nil] at hW'
  refine (FnP.calls (W := W) (vals := #[v0]) (con5 x0 t0) (.cons _ _ _ _ k0 .nil) (fun x hx => by simp [Gv] at hx)).mono fun e W' ⟨he, hg⟩ => ?_
  subst he
  exact ⟨_, rfl, post_of_kept (pv := []) hW' (fun _ _ _ => trodAll_cons_mk (shut_bool Try.underlying4 _) trodAll_mk0) (fun sp hsp => trodAll_cons_mk (Kept.trod hg laid (by kernel_rfl) (of_decide_eq_true (by kernel_rfl)) h0 (fun y hy => hsp y (by simp [hy]))) (trodAll_mk0)) (fun _ _ => rfl) (by simp)
    hg (ok_one (by kernel_rfl) rfl (okWide_bool_mk Try.underlying4 _))⟩

theorem over : Rows.dealOrdersRow.holds Try.pinned (OpenSpec.ofChange Rows.dealOrdersSpec) :=
  OpenClaim.holds_of_wide 5 Try.f5 rfl rfl rfl rfl rfl rfl rfl ⟨rfl, rfl, rfl, rfl, rfl⟩ rfl rfl rfl rfl rfl (by kernel_rfl) Try.func5 (by kernel_rfl)
    (of_decide_eq_true (by kernel_rfl)) (by unfold Func.isWrapper; first | (rw [if_pos (by decide +kernel)]; kernel_rfl) | (rw [if_neg (by decide +kernel)]; exact ⟨rfl, rfl⟩))
    (fun os started H enc _ => lifted os started H enc)

end Go.Proofs.Yteidcinajdehkaa.dealOrders
namespace Go.Proofs.Yteidcinajdehkaa
/-- the statement -/
theorem dealOrders_holds : Rows.DealOrdersSaid := dealOrders.over
#print axioms dealOrders_holds
end Go.Proofs.Yteidcinajdehkaa
