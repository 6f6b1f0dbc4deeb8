/-
  Models and laws.
-/
import Derived.Test.YtcaecfofgdogbaaDoorR2WrB
import Derived.Test.YtcaecfofgdogbaaDoorR2V41
set_option linter.unusedSimpArgs false
set_option linter.unusedVariables false
namespace Go.Proofs.YtcaecfofgdogbaaDoor
open Go.V
set_option maxRecDepth 100000
set_option maxHeartbeats 4000000
set_option linter.unusedSimpArgs false
set_option linter.unusedVariables false
attribute [local go_sem] tl1 tl2 tl3 tl4 tl5 tl9 tl17 tl21 tl22 tl23 tl24 tl25 tl27 tl28 tl30 tl31 tl32 tl33 tl35 tl36 tl37 tl38 tl39 tl40 tl42 tl43 tl44 tl45 tl46 tl47 tl48 tl49 tl50 tl51 tl52 tl53 tl54 tl55 tl56 tl57 tl58 tl59 tl61 tl62 tl63 tl64 tl65 tl66 tl67 tl68 tl69 tl70 tl71 tl72 tl73 tl74 tl75 tl76 tl77 tl78 tl79 tl80 tl81 tl82 tl83 tl84 tl85 tl87 tl89 tl90 tl91 tl92 tl93 tl94 tl96 tl97 tl98 tl99 tl100 tl101 tl102 tl103 tl104 tl105 tl106 tl107 tl108 tl109 tl115 tl119 ne_eq not_false_eq_true Int.le_refl Nat.le_refl Int.cast_ofNat_Int
def getA7 {α : Type} (p : PV) (k : PV → PV → PV → PV → PV → PV → PV → Option α) : Option α := match p with | .agg [a0, a1, a2, a3, a4, a5, a6] => k a0 a1 a2 a3 a4 a5 a6 | _ => none
theorem getA7_some {α : Type} {p : PV} {k : PV → PV → PV → PV → PV → PV → PV → Option α} {r : α} (h : getA7 p k = some r) : ∃ a0 a1 a2 a3 a4 a5 a6, p = .agg [a0, a1, a2, a3, a4, a5, a6] ∧ k a0 a1 a2 a3 a4 a5 a6 = some r := by
 unfold getA7 at h; split at h
 ·exact ⟨_, _, _, _, _, _, _, rfl, h⟩
 ·cases h
def m86_L0 (N : Nat) (x1244 : Int) (n1246 : Nat) (c1247 : List PV) : Nat → Int → Option ((PV ⊕ Unit))
 | 0, _ => none
 | n + 1, x1248 =>
  brn (decide (x1248 < ((n1246 : Nat) : Int))) (
   grd (0 ≤ x1248 ∧ x1248 < ((n1246 : Nat) : Int)) <|
   grd (0 < List.length (List.drop (Int.toNat x1248) c1247)) <|
   getI .i64 (gp c1247 (Int.toNat x1248)) fun x1254 =>
   brn (x1244 == x1254) (
    some (.inl (.int .i64 x1248))) (
    m86_L0 N x1244 n1246 c1247 n (IntKind.i64.wrap (x1248 + 1)))) (
   some (.inr ()))
def m86 (N : Nat) (p1243 : PV) (x1244 : Int) : Option (PV) :=
 getL p1243 fun n1246 c1247 =>
 bnd' (m86_L0 N x1244 n1246 c1247 N 0) fun o =>
 match o with
 | .inl p1256 =>
  some p1256
 | .inr () =>
  some (.int .i64 (-1))
theorem c86 (N : Nat) (p1243 : PV) (x1244 : Int) (r : PV)  (h : m86 N p1243 x1244 = some r) : FnP Tryd.prog 86 [p1243, (.int .i64 x1244)] r := by
 unfold m86 at h
 refine Fn_of (sz := 19) tab_ok [0, 1, 4, 5, 7, 8, 9, 16] [.tmp 4] Tryd.func86 rfl rfl rfl (by simp) ?_
 simp only [initSt, initEnv, List.map_cons, List.map_nil, List.getD_cons_zero, List.getD_cons_succ, List.getD_nil]
 replace h := getL_some h; obtain ⟨n1246, c1247, h1245, h⟩ := h
 refine W_sound tab_ok mixed 11 _ _ _ ?_
 simp -implicitDefEqProofs only [go_sem, Nat.reduceBEq, Nat.reduceLT, h1245]
 repeat with_reducible refine And.intro (by first | kernel_rfl | decide) ?_
 replace h := bnd'_some h; obtain ⟨o1257, h1258, h1259⟩ := h
 refine Wp_cut (fun s => (.inr ()) = o1257 ∧ s = ⟨[], [(0, .dead), (1, .dead), (4, .dead), (5, .dead), (7, .dead), (8, .dead), (9, .dead), (16, .dead)], [], 0, []⟩) ?_ ?_
 ·refine Wp_block ?_
  refine Wp_loopG (fun n s => ∃ x1248, m86_L0 N x1244 n1246 c1247 n x1248 = some o1257 ∧ s = ⟨[], [(0, .v (.lst false n1246 c1247)), (1, .v (.int .i64 x1244)), (4, .dead), (5, .dead), (7, .v (.int .i64 ((n1246 : Nat) : Int))), (8, .v (.int .i64 x1248)), (9, .dead), (16, .dead)], [], 0, []⟩) N _ ?_ ⟨_, h1258, rfl⟩ ?_
  ·exact Wk_keep [0, 1, 7, 8] (by kernel_rfl)
  clear h1258
  rintro n _ ⟨x1248, h1258, rfl⟩
  cases n with
  | zero => cases h1258
  | succ n =>
   rw [m86_L0] at h1258
   replace h1258 := brn_some h1258; rcases h1258 with ⟨h1249, h1258⟩ | ⟨h1249, h1258⟩
   ·replace h1258 := grd_some h1258; obtain ⟨⟨g1250, g1251⟩, h1258⟩ := h1258
    replace h1258 := grd_some h1258; obtain ⟨g1252, h1258⟩ := h1258
    replace h1258 := getI_some h1258; obtain ⟨x1254, h1253, h1258⟩ := h1258
    replace h1258 := brn_some h1258; rcases h1258 with ⟨h1255, h1258⟩ | ⟨h1255, h1258⟩
    ·refine W_sound tab_ok mixed 31 _ _ _ ?_
     simp -implicitDefEqProofs only [go_sem, Nat.reduceBEq, Nat.reduceLT, ↓reduceIte, g1250, g1251, g1252, h1253, h1255]
     repeat with_reducible refine And.intro (by first | kernel_rfl | decide) ?_
     obtain rfl := Option.some.inj h1258
     (try dsimp only at h1259)
     obtain rfl := Option.some.inj h1259
     exact finC [(4, .v (.int .i64 x1248))] [(4, .v (.int .i64 x1248))] (by simp [leE, lk_cons]) (.cons _ _ _ _ _ (.v _ _ (.refl _)) .nil) (by rfl) (by simp [leE, lk_cons]) (by decide) (by decide) rfl (by simp only [go_sem, Nat.reduceBEq, resQ_tmp, resQ_nil, retD_one]; try simp [R.val, retD_one, retD_two, retD_three, retD_none])
    ·refine W_sound tab_ok mixed 30 _ _ _ ?_
     simp -implicitDefEqProofs only [go_sem, Nat.reduceBEq, Nat.reduceLT, Int.reduceLE, Int.reduceToNat, ↓reduceIte, g1250, g1251, g1252, h1253, h1255]
     repeat with_reducible refine And.intro (by first | kernel_rfl | decide) ?_
     refine cutQ _ ?_ ⟨n, Nat.lt_succ_self n, _, h1258, rfl⟩
     exact Wk_keep [0, 1, 7, 8] (by kernel_rfl)
   ·refine W_sound tab_ok mixed 7 _ _ _ ?_
    simp -implicitDefEqProofs only [go_sem, Nat.reduceBEq, Nat.reduceLT, ↓reduceIte, h1249]
    repeat with_reducible refine And.intro (by first | kernel_rfl | decide) ?_
    obtain rfl := Option.some.inj h1258
    refine cutQ _ ?_ ⟨rfl, rfl⟩
    exact Wk_keep [] (by kernel_rfl)
 ·rintro _ ⟨rfl, rfl⟩
  (try dsimp only at h1259)
  refine W_sound tab_ok mixed 6 _ _ _ ?_
  simp -implicitDefEqProofs only [go_sem, Nat.reduceBEq, Nat.reduceLT]
  repeat with_reducible refine And.intro (by first | kernel_rfl | decide) ?_
  obtain rfl := Option.some.inj h1259
  exact finC [(4, .v (.int .i64 (-1)))] [(4, .v (.int .i64 (-1)))] (by simp [leE, lk_cons]) (.cons _ _ _ _ _ (.v _ _ (.refl _)) .nil) (by rfl) (by simp [leE, lk_cons]) (by decide) (by decide) rfl (by simp only [go_sem, Nat.reduceBEq, resQ_tmp, resQ_nil, retD_one]; try simp [R.val, retD_one, retD_two, retD_three, retD_none])
def m57 (N : Nat) (p1238 : PV) (x1239 : Int) : Option (PV) :=
 getL p1238 fun n1241 c1242 =>
 bnd' (m86 N (.lst false n1241 c1242) x1239) fun p1260 =>
 getI .i64 p1260 fun x1263 =>
 some (.bool (decide (x1263 ≥ 0)))
theorem c57 (N : Nat) (p1238 : PV) (x1239 : Int) (r : PV)  (h : m57 N p1238 x1239 = some r) : FnP Tryd.prog 57 [p1238, (.int .i64 x1239)] r := by
 unfold m57 at h
 refine Fn_of (sz := 9) tab_ok [0, 1, 4] [.tmp 4] Tryd.func57 rfl rfl rfl (by simp) ?_
 simp only [initSt, initEnv, List.map_cons, List.map_nil, List.getD_cons_zero, List.getD_cons_succ, List.getD_nil]
 replace h := getL_some h; obtain ⟨n1241, c1242, h1240, h⟩ := h
 replace h := bnd'_some h; obtain ⟨p1260, h1261, h⟩ := h
 refine W_sound tab_ok mixed 8 _ _ _ ?_
 simp -implicitDefEqProofs only [go_sem, Nat.reduceBEq, Nat.reduceLT, h1240]
 repeat with_reducible refine And.intro (by first | kernel_rfl | decide) ?_
 refine Wp_callP (c86 N _ _ _ h1261) (by kernel_rfl) rfl rfl rfl rfl (by decide) ?_
 replace h := getI_some h; obtain ⟨x1263, h1262, h⟩ := h
 refine W_sound tab_ok mixed 5 _ _ _ ?_
 simp -implicitDefEqProofs only [go_sem, Nat.reduceBEq, Nat.reduceLT, ↓reduceIte, h1262]
 repeat with_reducible refine And.intro (by first | kernel_rfl | decide) ?_
 obtain rfl := Option.some.inj h
 exact finC [(4, .v (.bool (decide (x1263 ≥ 0))))] [(4, .v (.bool (decide (x1263 ≥ 0))))] (by simp [leE, lk_cons]) (.cons _ _ _ _ _ (.v _ _ (.refl _)) .nil) (by rfl) (by simp [leE, lk_cons]) (by decide) (by decide) rfl (by simp only [go_sem, Nat.reduceBEq, resQ_tmp, resQ_nil, retD_one]; try simp [R.val, retD_one, retD_two, retD_three, retD_none])
def m79_3_L1 (N : Nat) (rec : PV → List PV → Nat → List PV → List PV → Option ((List PV × Nat × List PV × List PV))) (n1474 : Nat) (c1475 : List PV) (x1478 : Int) (x1522 : Int) (c1523 : List PV) (n1524 : Nat) (c1525 : List PV) (c1526 : List PV) (n1534 : Nat) (c1535 : List PV) : Nat → Bool → Int → Option (Bool)
 | 0, _, _ => none
 | n + 1, b1536, x1537 =>
  brn (decide (x1537 < ((n1534 : Nat) : Int))) (
   grd (0 ≤ x1537 ∧ x1537 < ((n1534 : Nat) : Int)) <|
   grd (0 < List.length (List.drop (Int.toNat x1537) c1535)) <|
   getL (gp c1535 (Int.toNat x1537)) fun n1543 c1544 =>
   brn b1536 (
    m79_3_L1 N rec n1474 c1475 x1478 x1522 c1523 n1524 c1525 c1526 n1534 c1535 n true (IntKind.i64.wrap (x1537 + 1))) (
    grd (0 ≤ ((n1474 : Nat) : Int) ∧ ((n1474 : Nat) : Int) < ((n1543 : Nat) : Int)) <|
    grd (0 < List.length (List.drop n1474 c1544)) <|
    getI .i64 (gp c1544 n1474) fun x1550 =>
    m79_3_L1 N rec n1474 c1475 x1478 x1522 c1523 n1524 c1525 c1526 n1534 c1535 n (x1550 == x1522) (IntKind.i64.wrap (x1537 + 1)))) (
   some b1536)
def m79_3_L0 (N : Nat) (rec : PV → List PV → Nat → List PV → List PV → Option ((List PV × Nat × List PV × List PV))) (n1474 : Nat) (c1475 : List PV) (x1478 : Int) : Nat → Int → List PV → Nat → List PV → List PV → Option ((List PV × Nat × List PV × List PV))
 | 0, _, _, _, _, _ => none
 | n + 1, x1522, c1523, n1524, c1525, c1526 =>
  brn (decide (x1522 < x1478)) (
   bnd' (m57 N (.lst false n1474 c1475) x1522) fun p1528 =>
   getB p1528 fun b1531 =>
   grd (0 < List.length c1525) <|
   getL (gp c1525 0) fun n1534 c1535 =>
   bnd' (m79_3_L1 N rec n1474 c1475 x1478 x1522 c1523 n1524 c1525 c1526 n1534 c1535 N b1531 0) fun b1551 =>
   brn b1551 (
    m79_3_L0 N rec n1474 c1475 x1478 n (IntKind.i64.wrap (x1522 + 1)) c1523 n1524 c1525 c1526) (
    grd (0 ≤ ((n1474 : Nat) : Int) ∧ ((n1474 : Nat) : Int) ≤ ((n1474 : Nat) : Int)) <|
    grd (List.length c1475 = n1474) <|
    grd ((n1474 + 1) ≤ 1099511627776) <|
    bnd' (rec (.lst false (n1474 + 1) (c1475 ++ [(.int .i64 x1522)])) c1523 n1524 c1526 c1525) fun o =>
    match o with
    | (c1558, n1559, c1560, c1561) =>
     m79_3_L0 N rec n1474 c1475 x1478 n (IntKind.i64.wrap (x1522 + 1)) c1558 n1559 c1560 c1561)) (
   some (c1523, n1524, c1525, c1526))
def m79_3 (N : Nat) : Nat → PV → List PV → Nat → List PV → List PV → Option ((List PV × Nat × List PV × List PV))
 | 0, _, _, _, _, _ => none
 | fu + 1, p1468, c1469, n1470, c1471, c1472 =>
  getL p1468 fun n1474 c1475 =>
  grd (0 < List.length c1469) <|
  getI .i64 (gp c1469 0) fun x1478 =>
  brn (((n1474 : Nat) : Int) == x1478) (
   grd ((n1470 + 1) ≤ 1099511627776) <|
   grd (List.length c1471 = n1470) <|
   some (c1469, (n1470 + 1), c1472, (c1471 ++ [(.lst false n1474 c1475)]))) (
   bnd' (m79_3_L0 N (m79_3 N fu) n1474 c1475 x1478 N 0 c1469 n1470 c1472 c1471) fun o =>
   match o with
   | (c1562, n1563, c1564, c1565) =>
    some (c1562, n1563, c1564, c1565))
theorem c79_3 (N : Nat) : ∀ (fu : Nat) (p1468 : PV) (c1469 : List PV) (n1470 : Nat) (c1471 : List PV) (c1472 : List PV) (r : (List PV × Nat × List PV × List PV))  (h : m79_3 N fu p1468 c1469 n1470 c1471 c1472 = some r), V.Fn Tryd.prog 79 5 [.v p1468, .ptr 0 0, .ptr 1 0, .ptr 3 0, .ptr 4 0] [(0, .p c1469), (1, .r [.sl false 2 0 n1470 1]), (2, .p c1471), (3, .p c1472), (4, .r [.fn 79 [.ptr 0 0, .ptr 1 0, .ptr 3 0, .ptr 4 0]])] (fun d ob' => match (generalizing := false) r with | (c1380, n1381, c1382, c1383) => d = .v (.tup []) ∧ ob' = [(0, .p c1380), (1, .r [.sl false 5 0 n1381 1]), (3, .p c1382), (4, .r [.fn 79 [.ptr 0 0, .ptr 1 0, .ptr 3 0, .ptr 4 0]]), (5, .p c1383)]) := by
 intro fu
 induction fu with
 | zero => intro p1468 c1469 n1470 c1471 c1472 r h; cases h
 | succ fu ih =>
  intro p1468 c1469 n1470 c1471 c1472 r h
  rw [m79_3] at h
  refine Fn_of (sz := 56) tab_ok [0, 1, 2, 3, 4, 6, 7, 9, 13, 18, 19, 20, 25, 26, 27, 28, 43] [] Tryd.func79 rfl rfl rfl (by simp) ?_
  simp only [initSt, initEnv, List.getD_cons_zero, List.getD_cons_succ, List.getD_nil]
  replace h := getL_some h; obtain ⟨n1474, c1475, h1473, h⟩ := h
  simp only [h1473]
  refine Wp_wkK (cmpT_ok (st' := ⟨[], [(0, .v (.lst false n1474 c1475)), (1, .ptr 0 0), (2, .ptr 1 0), (3, .ptr 3 0), (4, .ptr 4 0), (6, .dead), (7, .dead), (9, .dead), (13, .dead), (18, .dead), (19, .dead), (20, .dead), (25, .dead), (26, .dead), (27, .dead), (28, .dead), (43, .dead)], [(0, .p c1469), (1, .r [.sl false 5 0 n1470 1]), (3, .p c1472), (4, .r [.fn 79 [.ptr 0 0, .ptr 1 0, .ptr 3 0, .ptr 4 0]]), (5, .p c1471)], 6, []⟩) [0, 1, 1000000002, 3, 4, 2] (by kernel_rfl)) rfl ?_
  replace h := grd_some h; obtain ⟨g1476, h⟩ := h
  replace h := getI_some h; obtain ⟨x1478, h1477, h⟩ := h
  replace h := brn_some h; rcases h with ⟨h1479, h⟩ | ⟨h1479, h⟩
  ·replace h := grd_some h; obtain ⟨g1480, h⟩ := h
   replace h := grd_some h; obtain ⟨g1481, h⟩ := h
   refine W_sound tab_ok mixed 19 _ _ _ ?_
   simp -implicitDefEqProofs only [go_sem, Nat.reduceBEq, Nat.reduceAdd, Nat.reduceLT, Nat.reduceLeDiff, ↓reduceIte, g1476, h1477, h1479, g1480, g1481]
   repeat with_reducible refine And.intro (by first | kernel_rfl | decide) ?_
   obtain rfl := Option.some.inj h
   exact finD (st' := ⟨[], [(0, .dead), (1, .dead), (2, .dead), (3, .dead), (4, .dead), (6, .dead), (7, .dead), (9, .dead), (13, .dead), (18, .dead), (19, .dead), (20, .dead), (25, .dead), (26, .dead), (27, .dead), (28, .dead), (43, .dead)], [(0, .p c1469), (1, .r [.sl false 5 0 (n1470 + 1) 1]), (3, .p c1472), (4, .r [.fn 79 [.ptr 0 0, .ptr 1 0, .ptr 3 0, .ptr 4 0]]), (5, .p (c1471 ++ [(.lst false n1474 c1475)]))], 6, []⟩) (keepE_le [] _) (OLe.refl _) (by kernel_rfl) (by simp only [go_sem, resQ_nil, retD_none] <;> first | rfl | exact ⟨rfl, rfl⟩ | (try simp [R.val, retD_one, retD_two, retD_three, retD_none]))
  ·refine W_sound tab_ok mixed 15 _ _ _ ?_
   simp -implicitDefEqProofs only [go_sem, Nat.reduceBEq, Nat.reduceLT, ↓reduceIte, g1476, h1477, h1479]
   repeat with_reducible refine And.intro (by first | kernel_rfl | decide) ?_
   replace h := bnd'_some h; obtain ⟨o1570, h1571, h1572⟩ := h
   refine Wp_cut (fun s => ∃ c1562, ∃ n1563, ∃ c1564, ∃ c1565, (c1562, n1563, c1564, c1565) = o1570 ∧ s = ⟨[], [(0, .dead), (1, .dead), (2, .dead), (3, .dead), (4, .dead), (6, .dead), (7, .dead), (9, .dead), (13, .dead), (18, .dead), (19, .dead), (20, .dead), (25, .dead), (26, .dead), (27, .dead), (28, .dead), (43, .dead)], [(0, .p c1562), (1, .r [.sl false 5 0 n1563 1]), (3, .p c1564), (4, .r [.fn 79 [.ptr 0 0, .ptr 1 0, .ptr 3 0, .ptr 4 0]]), (5, .p c1565)], 6, []⟩) ?_ ?_
   ·refine Wp_block ?_
    refine Wp_loopG (fun n s => ∃ x1522, ∃ c1523, ∃ n1524, ∃ c1525, ∃ c1526, m79_3_L0 N (m79_3 N fu) n1474 c1475 x1478 n x1522 c1523 n1524 c1525 c1526 = some o1570 ∧ s = ⟨[], [(0, .v (.lst false n1474 c1475)), (1, .dead), (2, .dead), (3, .ptr 3 0), (4, .ptr 4 0), (6, .dead), (7, .dead), (9, .dead), (13, .dead), (18, .v (.int .i64 x1478)), (19, .v (.int .i64 x1522)), (20, .dead), (25, .dead), (26, .dead), (27, .dead), (28, .dead), (43, .dead)], [(0, .p c1523), (1, .r [.sl false 5 0 n1524 1]), (3, .p c1525), (4, .r [.fn 79 [.ptr 0 0, .ptr 1 0, .ptr 3 0, .ptr 4 0]]), (5, .p c1526)], 6, []⟩) N _ ?_ ⟨_, _, _, _, _, h1571, rfl⟩ ?_
    ·exact Wk_keep [0, 3, 4, 18, 19] (by kernel_rfl)
    clear h1571
    rintro n _ ⟨x1522, c1523, n1524, c1525, c1526, h1571, rfl⟩
    cases n with
    | zero => cases h1571
    | succ n =>
     rw [m79_3_L0] at h1571
     replace h1571 := brn_some h1571; rcases h1571 with ⟨h1527, h1571⟩ | ⟨h1527, h1571⟩
     ·replace h1571 := bnd'_some h1571; obtain ⟨p1528, h1529, h1571⟩ := h1571
      refine W_sound tab_ok mixed 18 _ _ _ ?_
      simp -implicitDefEqProofs only [go_sem, Nat.reduceBEq, Nat.reduceLT, ↓reduceIte, h1527]
      repeat with_reducible refine And.intro (by first | kernel_rfl | decide) ?_
      refine Wp_callP (c57 N _ _ _ h1529) (by kernel_rfl) rfl rfl rfl rfl (by decide) ?_
      replace h1571 := getB_some h1571; obtain ⟨b1531, h1530, h1571⟩ := h1571
      replace h1571 := grd_some h1571; obtain ⟨g1532, h1571⟩ := h1571
      replace h1571 := getL_some h1571; obtain ⟨n1534, c1535, h1533, h1571⟩ := h1571
      refine W_sound tab_ok mixed 9 _ _ _ ?_
      simp -implicitDefEqProofs only [go_sem, Nat.reduceBEq, Nat.reduceLT, h1530, g1532, h1533]
      repeat with_reducible refine And.intro (by first | kernel_rfl | decide) ?_
      replace h1571 := bnd'_some h1571; obtain ⟨o1573, h1574, h1575⟩ := h1571
      refine Wp_cut (fun s => ∃ b1551, b1551 = o1573 ∧ s = ⟨[], [(0, .v (.lst false n1474 c1475)), (1, .dead), (2, .dead), (3, .ptr 3 0), (4, .ptr 4 0), (6, .v (.int .i64 x1522)), (7, .v (.bool b1551)), (9, .dead), (13, .dead), (18, .v (.int .i64 x1478)), (19, .v (.int .i64 x1522)), (20, .dead), (25, .dead), (26, .dead), (27, .dead), (28, .dead), (43, .dead)], [(0, .p c1523), (1, .r [.sl false 5 0 n1524 1]), (3, .p c1525), (4, .r [.fn 79 [.ptr 0 0, .ptr 1 0, .ptr 3 0, .ptr 4 0]]), (5, .p c1526)], 6, []⟩) ?_ ?_
      ·refine Wp_block ?_
       refine Wp_loopG (fun n s => ∃ b1536, ∃ x1537, m79_3_L1 N (m79_3 N fu) n1474 c1475 x1478 x1522 c1523 n1524 c1525 c1526 n1534 c1535 n b1536 x1537 = some o1573 ∧ s = ⟨[], [(0, .v (.lst false n1474 c1475)), (1, .dead), (2, .dead), (3, .ptr 3 0), (4, .ptr 4 0), (6, .v (.int .i64 x1522)), (7, .v (.bool b1536)), (9, .dead), (13, .dead), (18, .v (.int .i64 x1478)), (19, .v (.int .i64 x1522)), (20, .dead), (25, .v (.lst false n1534 c1535)), (26, .v (.int .i64 ((n1534 : Nat) : Int))), (27, .v (.int .i64 x1537)), (28, .dead), (43, .dead)], [(0, .p c1523), (1, .r [.sl false 5 0 n1524 1]), (3, .p c1525), (4, .r [.fn 79 [.ptr 0 0, .ptr 1 0, .ptr 3 0, .ptr 4 0]]), (5, .p c1526)], 6, []⟩) N _ ?_ ⟨_, _, h1574, rfl⟩ ?_
       ·exact Wk_keep [0, 3, 4, 6, 7, 18, 19, 25, 26, 27] (by kernel_rfl)
       clear h1574
       rintro n _ ⟨b1536, x1537, h1574, rfl⟩
       cases n with
       | zero => cases h1574
       | succ n =>
        rw [m79_3_L1] at h1574
        replace h1574 := brn_some h1574; rcases h1574 with ⟨h1538, h1574⟩ | ⟨h1538, h1574⟩
        ·replace h1574 := grd_some h1574; obtain ⟨⟨g1539, g1540⟩, h1574⟩ := h1574
         replace h1574 := grd_some h1574; obtain ⟨g1541, h1574⟩ := h1574
         replace h1574 := getL_some h1574; obtain ⟨n1543, c1544, h1542, h1574⟩ := h1574
         replace h1574 := brn_some h1574; rcases h1574 with ⟨h1545, h1574⟩ | ⟨h1545, h1574⟩
         ·refine W_sound tab_ok mixed 33 _ _ _ ?_
          simp -implicitDefEqProofs only [go_sem, Nat.reduceBEq, Nat.reduceLT, Int.reduceLE, Int.reduceToNat, ↓reduceIte, g1539, g1540, g1541, h1542, h1545]
          repeat with_reducible refine And.intro (by first | kernel_rfl | decide) ?_
          refine cutQ _ ?_ ⟨n, Nat.lt_succ_self n, _, _, h1574, rfl⟩
          exact Wk_keep [0, 3, 4, 6, 7, 18, 19, 25, 26, 27] (by kernel_rfl)
         ·replace h1574 := grd_some h1574; obtain ⟨⟨g1546, g1547⟩, h1574⟩ := h1574
          replace h1574 := grd_some h1574; obtain ⟨g1548, h1574⟩ := h1574
          replace h1574 := getI_some h1574; obtain ⟨x1550, h1549, h1574⟩ := h1574
          refine W_sound tab_ok mixed 33 _ _ _ ?_
          simp -implicitDefEqProofs only [go_sem, Nat.reduceBEq, Nat.reduceLT, Int.reduceLE, Int.reduceToNat, ↓reduceIte, g1539, g1540, g1541, h1542, h1545, g1546, g1547, g1548, h1549]
          repeat with_reducible refine And.intro (by first | kernel_rfl | decide) ?_
          refine cutQ _ ?_ ⟨n, Nat.lt_succ_self n, _, _, h1574, rfl⟩
          exact Wk_keep [0, 3, 4, 6, 7, 18, 19, 25, 26, 27] (by kernel_rfl)
        ·refine W_sound tab_ok mixed 7 _ _ _ ?_
         simp -implicitDefEqProofs only [go_sem, Nat.reduceBEq, Nat.reduceLT, ↓reduceIte, h1538]
         repeat with_reducible refine And.intro (by first | kernel_rfl | decide) ?_
         obtain rfl := Option.some.inj h1574
         refine cutQ _ ?_ ⟨_, rfl, rfl⟩
         exact Wk_keep [0, 3, 4, 6, 7, 18, 19] (by kernel_rfl)
      ·rintro _ ⟨b1551, rfl, rfl⟩
       replace h1575 := brn_some h1575; rcases h1575 with ⟨h1552, h1575⟩ | ⟨h1552, h1575⟩
       ·refine W_sound tab_ok mixed 12 _ _ _ ?_
        simp -implicitDefEqProofs only [go_sem, Nat.reduceBEq, Nat.reduceLT, Int.reduceLE, Int.reduceToNat, ↓reduceIte, h1552]
        repeat with_reducible refine And.intro (by first | kernel_rfl | decide) ?_
        refine cutQ _ ?_ ⟨n, Nat.lt_succ_self n, _, _, _, _, _, h1575, rfl⟩
        exact Wk_keep [0, 3, 4, 18, 19] (by kernel_rfl)
       ·replace h1575 := grd_some h1575; obtain ⟨⟨g1553, g1554⟩, h1575⟩ := h1575
        replace h1575 := grd_some h1575; obtain ⟨g1555, h1575⟩ := h1575
        replace h1575 := grd_some h1575; obtain ⟨g1556, h1575⟩ := h1575
        replace h1575 := bnd'_some h1575; obtain ⟨⟨c1558, n1559, c1560, c1561⟩, h1557, h1575⟩ := h1575
        (try dsimp only at h1575)
        refine W_sound tab_ok mixed 17 _ _ _ ?_
        simp -implicitDefEqProofs only [go_sem, Nat.reduceBEq, Nat.reduceAdd, Nat.reduceLT, Nat.reduceLeDiff, h1552, g1553, g1554, g1555, g1556]
        repeat with_reducible refine And.intro (by first | kernel_rfl | decide) ?_
        refine Wp_callDF [(59, (c1475 ++ [(.int .i64 x1522)]))] [0, 1, 5, 3, 4] (ih _ _ _ _ _ _ h1557) rfl rfl rfl (by first | rfl | (simp only [go_sem, Nat.reduceBEq, g1555] <;> rfl)) rfl (by kernel_rfl) rfl rfl (by simp [roF, obL]) ?_
        refine W_sound tab_ok mixed 6 _ _ _ ?_
        simp -implicitDefEqProofs only [go_sem, Nat.reduceBEq, Nat.reduceAdd, Nat.reduceSub, Nat.reduceMul, Nat.reduceLT, Nat.reduceLeDiff, Int.reduceLE, Int.reduceToNat, ↓reduceIte]
        repeat with_reducible refine And.intro (by first | kernel_rfl | decide) ?_
        refine cutQ _ ?_ ⟨n, Nat.lt_succ_self n, _, _, _, _, _, h1575, rfl⟩
        exact Wk_keep [0, 3, 4, 18, 19] (by kernel_rfl)
     ·refine W_sound tab_ok mixed 7 _ _ _ ?_
      simp -implicitDefEqProofs only [go_sem, Nat.reduceBEq, Nat.reduceLT, ↓reduceIte, h1527]
      repeat with_reducible refine And.intro (by first | kernel_rfl | decide) ?_
      obtain rfl := Option.some.inj h1571
      refine cutQ _ ?_ ⟨_, _, _, _, rfl, rfl⟩
      exact Wk_keep [] (by kernel_rfl)
   ·rintro _ ⟨c1562, n1563, c1564, c1565, rfl, rfl⟩
    (try dsimp only at h1572)
    refine W_sound tab_ok mixed 1 _ _ _ ?_
    simp -implicitDefEqProofs only [go_sem]
    repeat with_reducible refine And.intro (by first | kernel_rfl | decide) ?_
    obtain rfl := Option.some.inj h1572
    exact finD (st' := ⟨[], [(0, .dead), (1, .dead), (2, .dead), (3, .dead), (4, .dead), (6, .dead), (7, .dead), (9, .dead), (13, .dead), (18, .dead), (19, .dead), (20, .dead), (25, .dead), (26, .dead), (27, .dead), (28, .dead), (43, .dead)], [(0, .p c1562), (1, .r [.sl false 5 0 n1563 1]), (3, .p c1564), (4, .r [.fn 79 [.ptr 0 0, .ptr 1 0, .ptr 3 0, .ptr 4 0]]), (5, .p c1565)], 6, []⟩) (keepE_le [] _) (OLe.refl _) (by kernel_rfl) (by simp only [go_sem, resQ_nil, retD_none] <;> first | rfl | exact ⟨rfl, rfl⟩ | (try simp [R.val, retD_one, retD_two, retD_three, retD_none]))
theorem c79_3_a (N : Nat) (fu : Nat) (p1468 : PV) (c1469 : List PV) (n1470 : Nat) (c1471 : List PV) (c1472 : List PV) (c1380 : List PV) (n1381 : Nat) (c1382 : List PV) (c1383 : List PV) (h : m79_3 N fu p1468 c1469 n1470 c1471 c1472 = some (c1380, n1381, c1382, c1383)) : V.Fn Tryd.prog 79 5 [.v p1468, .ptr 0 0, .ptr 1 0, .ptr 3 0, .ptr 4 0] [(0, .p c1469), (1, .r [.sl false 2 0 n1470 1]), (2, .p c1471), (3, .p c1472), (4, .r [.fn 79 [.ptr 0 0, .ptr 1 0, .ptr 3 0, .ptr 4 0]])] (fun d ob' => d = .v (.tup []) ∧ ob' = [(0, .p c1380), (1, .r [.sl false 5 0 n1381 1]), (3, .p c1382), (4, .r [.fn 79 [.ptr 0 0, .ptr 1 0, .ptr 3 0, .ptr 4 0]]), (5, .p c1383)]) := c79_3 N fu p1468 c1469 n1470 c1471 c1472 _ h
def m79_L1 (N : Nat) (x1230 : Int) (x1699 : Int) (c1700 : List PV) (n1701 : Nat) (c1702 : List PV) (c1703 : List PV) (n1711 : Nat) (c1712 : List PV) : Nat → Bool → Int → Option (Bool)
 | 0, _, _ => none
 | n + 1, b1713, x1714 =>
  brn (decide (x1714 < ((n1711 : Nat) : Int))) (
   grd (0 ≤ x1714 ∧ x1714 < ((n1711 : Nat) : Int)) <|
   grd (0 < List.length (List.drop (Int.toNat x1714) c1712)) <|
   getL (gp c1712 (Int.toNat x1714)) fun n1720 c1721 =>
   brn b1713 (
    m79_L1 N x1230 x1699 c1700 n1701 c1702 c1703 n1711 c1712 n true (IntKind.i64.wrap (x1714 + 1))) (
    grd (0 < ((n1720 : Nat) : Int)) <|
    grd (0 < List.length c1721) <|
    getI .i64 (gp c1721 0) fun x1726 =>
    m79_L1 N x1230 x1699 c1700 n1701 c1702 c1703 n1711 c1712 n (x1726 == x1699) (IntKind.i64.wrap (x1714 + 1)))) (
   some b1713)
def m79_L0 (N : Nat) (x1230 : Int) : Nat → Int → List PV → Nat → List PV → List PV → Option ((List PV × Nat × List PV × List PV))
 | 0, _, _, _, _, _ => none
 | n + 1, x1699, c1700, n1701, c1702, c1703 =>
  brn (decide (x1699 < x1230)) (
   bnd' (m57 N (.lst false 0 []) x1699) fun p1705 =>
   getB p1705 fun b1708 =>
   grd (0 < List.length c1702) <|
   getL (gp c1702 0) fun n1711 c1712 =>
   bnd' (m79_L1 N x1230 x1699 c1700 n1701 c1702 c1703 n1711 c1712 N b1708 0) fun b1727 =>
   brn b1727 (
    m79_L0 N x1230 n (IntKind.i64.wrap (x1699 + 1)) c1700 n1701 c1702 c1703) (
    bnd' (m79_3 N N (.lst false 1 [(.int .i64 x1699)]) c1700 n1701 c1703 c1702) fun o =>
    match o with
    | (c1730, n1731, c1732, c1733) =>
     m79_L0 N x1230 n (IntKind.i64.wrap (x1699 + 1)) c1730 n1731 c1732 c1733)) (
   some (c1700, n1701, c1702, c1703))
def m79 (N : Nat) (x1230 : Int) (p1231 : PV) : Option (((List PV × List PV × List PV) ⊕ (List PV × Nat × List PV × List PV))) :=
 brn (0 == x1230) (
  some (.inl ([(.int .i64 x1230)], [p1231], [(.lst false 0 [])]))) (
  bnd' (m79_L0 N x1230 N 0 [(.int .i64 x1230)] 0 [p1231] []) fun o =>
  match o with
  | (c1734, n1735, c1736, c1737) =>
   some (.inr (c1734, n1735, c1736, c1737)))
theorem c79 (N : Nat) (x1230 : Int) (p1231 : PV) (r : ((List PV × List PV × List PV) ⊕ (List PV × Nat × List PV × List PV)))  (h : m79 N x1230 p1231 = some r) : V.Fn Tryd.prog 79 5 [.v .nl, .ptr 0 0, .ptr 1 0, .ptr 3 0, .ptr 4 0] [(0, .p [(.int .i64 x1230)]), (1, .r [.sl false 2 0 0 1]), (2, .p []), (3, .p [p1231]), (4, .r [.fn 79 [.ptr 0 0, .ptr 1 0, .ptr 3 0, .ptr 4 0]])] (fun d ob' => match (generalizing := false) r with | .inl (c1233, c1234, c1235) => d = .v (.tup []) ∧ ob' = [(0, .p c1233), (1, .r [.sl false 5 0 1 1]), (3, .p c1234), (4, .r [.fn 79 [.ptr 0 0, .ptr 1 0, .ptr 3 0, .ptr 4 0]]), (5, .p c1235)] | .inr (c1738, n1739, c1740, c1741) => d = .v (.tup []) ∧ ob' = [(0, .p c1738), (1, .r [.sl false 5 0 n1739 1]), (3, .p c1740), (4, .r [.fn 79 [.ptr 0 0, .ptr 1 0, .ptr 3 0, .ptr 4 0]]), (5, .p c1741)]) := by
 unfold m79 at h
 refine Fn_of (sz := 56) tab_ok [0, 1, 2, 3, 4, 6, 7, 9, 13, 18, 19, 20, 25, 26, 27, 28, 43] [] Tryd.func79 rfl rfl rfl (by simp) ?_
 simp only [initSt, initEnv, List.getD_cons_zero, List.getD_cons_succ, List.getD_nil]
 refine Wp_wkK (cmpT_ok (st' := ⟨[], [(0, .v .nl), (1, .ptr 0 0), (2, .ptr 1 0), (3, .ptr 3 0), (4, .ptr 4 0), (6, .dead), (7, .dead), (9, .dead), (13, .dead), (18, .dead), (19, .dead), (20, .dead), (25, .dead), (26, .dead), (27, .dead), (28, .dead), (43, .dead)], [(0, .p [(.int .i64 x1230)]), (1, .r [.sl false 5 0 0 1]), (3, .p [p1231]), (4, .r [.fn 79 [.ptr 0 0, .ptr 1 0, .ptr 3 0, .ptr 4 0]]), (5, .p [])], 6, []⟩) [0, 1, 1000000002, 3, 4, 2] (by kernel_rfl)) rfl ?_
 replace h := brn_some h; rcases h with ⟨h1232, h⟩ | ⟨h1232, h⟩
 ·refine W_sound tab_ok mixed 19 _ _ _ ?_
  simp -implicitDefEqProofs only [go_sem, Nat.reduceBEq, Nat.reduceAdd, Nat.reduceLT, Nat.reduceLeDiff, ↓reduceIte, h1232]
  repeat with_reducible refine And.intro (by first | kernel_rfl | decide) ?_
  obtain rfl := Option.some.inj h
  exact finD (e2 := [(0, .dead), (1, .dead), (2, .dead), (3, .dead), (4, .dead), (6, .dead), (7, .dead), (9, .dead), (13, .dead), (18, .dead), (19, .dead), (20, .dead), (25, .dead), (26, .dead), (27, .dead), (28, .dead), (43, .dead)]) (ob2 := [(0, .p [(.int .i64 x1230)]), (1, .r [.sl false 23 0 1 1]), (3, .p [p1231]), (4, .r [.fn 79 [.ptr 0 0, .ptr 1 0, .ptr 3 0, .ptr 4 0]]), (22, .p [.nl]), (23, .p [(.lst false 0 [])])]) (st' := ⟨[], [(0, .dead), (1, .dead), (2, .dead), (3, .dead), (4, .dead), (6, .dead), (7, .dead), (9, .dead), (13, .dead), (18, .dead), (19, .dead), (20, .dead), (25, .dead), (26, .dead), (27, .dead), (28, .dead), (43, .dead)], [(0, .p [(.int .i64 x1230)]), (1, .r [.sl false 5 0 1 1]), (3, .p [p1231]), (4, .r [.fn 79 [.ptr 0 0, .ptr 1 0, .ptr 3 0, .ptr 4 0]]), (5, .p [(.lst false 0 [])])], 6, []⟩) (.cons _ _ _ _ _ (.dead _) (.cons _ _ _ _ _ (.dead _) (.cons _ _ _ _ _ (.dead _) (.cons _ _ _ _ _ (.dead _) (.cons _ _ _ _ _ (.dead _) (.cons _ _ _ _ _ (.refl _) (.cons _ _ _ _ _ (.refl _) (.cons _ _ _ _ _ (.refl _) (.cons _ _ _ _ _ (.dead _) (.cons _ _ _ _ _ (.refl _) (.cons _ _ _ _ _ (.refl _) (.cons _ _ _ _ _ (.refl _) (.cons _ _ _ _ _ (.refl _) (.cons _ _ _ _ _ (.refl _) (.cons _ _ _ _ _ (.refl _) (.cons _ _ _ _ _ (.refl _) (.cons _ _ _ _ _ (.refl _) .nil))))))))))))))))) (.cons _ _ _ _ _ (DLes.refl _) (.cons _ _ _ _ _ (DLes.refl _) (.cons _ _ _ _ _ (DLes.refl _) (.cons _ _ _ _ _ (DLes.refl _) (.cons _ _ _ _ _ (DLes.refl _) (.cons _ (.p _) (.p _) _ _ (DLes.of_p (.cons _ _ _ _ (.nl false) .nil)) .nil)))))) (by kernel_rfl) (by simp only [go_sem, resQ_nil, retD_none] <;> first | rfl | exact ⟨rfl, rfl⟩ | (try simp [R.val, retD_one, retD_two, retD_three, retD_none]))
 ·refine W_sound tab_ok mixed 15 _ _ _ ?_
  simp -implicitDefEqProofs only [go_sem, Nat.reduceBEq, Nat.reduceLT, ↓reduceIte, h1232]
  repeat with_reducible refine And.intro (by first | kernel_rfl | decide) ?_
  replace h := bnd'_some h; obtain ⟨o1742, h1743, h1744⟩ := h
  refine Wp_cut (fun s => ∃ c1734, ∃ n1735, ∃ c1736, ∃ c1737, (c1734, n1735, c1736, c1737) = o1742 ∧ s = ⟨[], [(0, .dead), (1, .dead), (2, .dead), (3, .dead), (4, .dead), (6, .dead), (7, .dead), (9, .dead), (13, .dead), (18, .dead), (19, .dead), (20, .dead), (25, .dead), (26, .dead), (27, .dead), (28, .dead), (43, .dead)], [(0, .p c1734), (1, .r [.sl false 5 0 n1735 1]), (3, .p c1736), (4, .r [.fn 79 [.ptr 0 0, .ptr 1 0, .ptr 3 0, .ptr 4 0]]), (5, .p c1737)], 6, []⟩) ?_ ?_
  ·refine Wp_block ?_
   refine Wp_loopG (fun n s => ∃ x1699, ∃ c1700, ∃ n1701, ∃ c1702, ∃ c1703, m79_L0 N x1230 n x1699 c1700 n1701 c1702 c1703 = some o1742 ∧ s = ⟨[], [(0, .v .nl), (1, .dead), (2, .dead), (3, .ptr 3 0), (4, .ptr 4 0), (6, .dead), (7, .dead), (9, .dead), (13, .dead), (18, .v (.int .i64 x1230)), (19, .v (.int .i64 x1699)), (20, .dead), (25, .dead), (26, .dead), (27, .dead), (28, .dead), (43, .dead)], [(0, .p c1700), (1, .r [.sl false 5 0 n1701 1]), (3, .p c1702), (4, .r [.fn 79 [.ptr 0 0, .ptr 1 0, .ptr 3 0, .ptr 4 0]]), (5, .p c1703)], 6, []⟩) N _ ?_ ⟨_, _, _, _, _, h1743, rfl⟩ ?_
   ·exact Wk_keep [0, 3, 4, 18, 19] (by kernel_rfl)
   clear h1743
   rintro n _ ⟨x1699, c1700, n1701, c1702, c1703, h1743, rfl⟩
   cases n with
   | zero => cases h1743
   | succ n =>
    rw [m79_L0] at h1743
    replace h1743 := brn_some h1743; rcases h1743 with ⟨h1704, h1743⟩ | ⟨h1704, h1743⟩
    ·replace h1743 := bnd'_some h1743; obtain ⟨p1705, h1706, h1743⟩ := h1743
     refine W_sound tab_ok mixed 18 _ _ _ ?_
     simp -implicitDefEqProofs only [go_sem, Nat.reduceBEq, Nat.reduceLT, ↓reduceIte, h1704]
     repeat with_reducible refine And.intro (by first | kernel_rfl | decide) ?_
     refine Wp_callP (FnP_le (c57 N _ _ _ h1706) (.cons _ _ _ _ (.nl false) (.cons _ _ _ _ (.refl _) .nil)) (.refl _)) (by kernel_rfl) rfl rfl rfl rfl (by decide) ?_
     replace h1743 := getB_some h1743; obtain ⟨b1708, h1707, h1743⟩ := h1743
     replace h1743 := grd_some h1743; obtain ⟨g1709, h1743⟩ := h1743
     replace h1743 := getL_some h1743; obtain ⟨n1711, c1712, h1710, h1743⟩ := h1743
     refine W_sound tab_ok mixed 9 _ _ _ ?_
     simp -implicitDefEqProofs only [go_sem, Nat.reduceBEq, Nat.reduceLT, h1707, g1709, h1710]
     repeat with_reducible refine And.intro (by first | kernel_rfl | decide) ?_
     replace h1743 := bnd'_some h1743; obtain ⟨o1745, h1746, h1747⟩ := h1743
     refine Wp_cut (fun s => ∃ b1727, b1727 = o1745 ∧ s = ⟨[], [(0, .v .nl), (1, .dead), (2, .dead), (3, .ptr 3 0), (4, .ptr 4 0), (6, .v (.int .i64 x1699)), (7, .v (.bool b1727)), (9, .dead), (13, .dead), (18, .v (.int .i64 x1230)), (19, .v (.int .i64 x1699)), (20, .dead), (25, .dead), (26, .dead), (27, .dead), (28, .dead), (43, .dead)], [(0, .p c1700), (1, .r [.sl false 5 0 n1701 1]), (3, .p c1702), (4, .r [.fn 79 [.ptr 0 0, .ptr 1 0, .ptr 3 0, .ptr 4 0]]), (5, .p c1703)], 6, []⟩) ?_ ?_
     ·refine Wp_block ?_
      refine Wp_loopG (fun n s => ∃ b1713, ∃ x1714, m79_L1 N x1230 x1699 c1700 n1701 c1702 c1703 n1711 c1712 n b1713 x1714 = some o1745 ∧ s = ⟨[], [(0, .v .nl), (1, .dead), (2, .dead), (3, .ptr 3 0), (4, .ptr 4 0), (6, .v (.int .i64 x1699)), (7, .v (.bool b1713)), (9, .dead), (13, .dead), (18, .v (.int .i64 x1230)), (19, .v (.int .i64 x1699)), (20, .dead), (25, .v (.lst false n1711 c1712)), (26, .v (.int .i64 ((n1711 : Nat) : Int))), (27, .v (.int .i64 x1714)), (28, .dead), (43, .dead)], [(0, .p c1700), (1, .r [.sl false 5 0 n1701 1]), (3, .p c1702), (4, .r [.fn 79 [.ptr 0 0, .ptr 1 0, .ptr 3 0, .ptr 4 0]]), (5, .p c1703)], 6, []⟩) N _ ?_ ⟨_, _, h1746, rfl⟩ ?_
      ·exact Wk_keep [0, 3, 4, 6, 7, 18, 19, 25, 26, 27] (by kernel_rfl)
      clear h1746
      rintro n _ ⟨b1713, x1714, h1746, rfl⟩
      cases n with
      | zero => cases h1746
      | succ n =>
       rw [m79_L1] at h1746
       replace h1746 := brn_some h1746; rcases h1746 with ⟨h1715, h1746⟩ | ⟨h1715, h1746⟩
       ·replace h1746 := grd_some h1746; obtain ⟨⟨g1716, g1717⟩, h1746⟩ := h1746
        replace h1746 := grd_some h1746; obtain ⟨g1718, h1746⟩ := h1746
        replace h1746 := getL_some h1746; obtain ⟨n1720, c1721, h1719, h1746⟩ := h1746
        replace h1746 := brn_some h1746; rcases h1746 with ⟨h1722, h1746⟩ | ⟨h1722, h1746⟩
        ·refine W_sound tab_ok mixed 33 _ _ _ ?_
         simp -implicitDefEqProofs only [go_sem, Nat.reduceBEq, Nat.reduceLT, Int.reduceLE, Int.reduceToNat, ↓reduceIte, g1716, g1717, g1718, h1719, h1722]
         repeat with_reducible refine And.intro (by first | kernel_rfl | decide) ?_
         refine cutQ _ ?_ ⟨n, Nat.lt_succ_self n, _, _, h1746, rfl⟩
         exact Wk_keep [0, 3, 4, 6, 7, 18, 19, 25, 26, 27] (by kernel_rfl)
        ·replace h1746 := grd_some h1746; obtain ⟨g1723, h1746⟩ := h1746
         replace h1746 := grd_some h1746; obtain ⟨g1724, h1746⟩ := h1746
         replace h1746 := getI_some h1746; obtain ⟨x1726, h1725, h1746⟩ := h1746
         refine W_sound tab_ok mixed 33 _ _ _ ?_
         simp -implicitDefEqProofs only [go_sem, Nat.reduceBEq, Nat.reduceLT, Int.reduceLE, Int.reduceToNat, ↓reduceIte, g1716, g1717, g1718, h1719, h1722, g1723, g1724, h1725]
         repeat with_reducible refine And.intro (by first | kernel_rfl | decide) ?_
         refine cutQ _ ?_ ⟨n, Nat.lt_succ_self n, _, _, h1746, rfl⟩
         exact Wk_keep [0, 3, 4, 6, 7, 18, 19, 25, 26, 27] (by kernel_rfl)
       ·refine W_sound tab_ok mixed 7 _ _ _ ?_
        simp -implicitDefEqProofs only [go_sem, Nat.reduceBEq, Nat.reduceLT, ↓reduceIte, h1715]
        repeat with_reducible refine And.intro (by first | kernel_rfl | decide) ?_
        obtain rfl := Option.some.inj h1746
        refine cutQ _ ?_ ⟨_, rfl, rfl⟩
        exact Wk_keep [0, 3, 4, 6, 7, 18, 19] (by kernel_rfl)
     ·rintro _ ⟨b1727, rfl, rfl⟩
      replace h1747 := brn_some h1747; rcases h1747 with ⟨h1728, h1747⟩ | ⟨h1728, h1747⟩
      ·refine W_sound tab_ok mixed 12 _ _ _ ?_
       simp -implicitDefEqProofs only [go_sem, Nat.reduceBEq, Nat.reduceLT, Int.reduceLE, Int.reduceToNat, ↓reduceIte, h1728]
       repeat with_reducible refine And.intro (by first | kernel_rfl | decide) ?_
       refine cutQ _ ?_ ⟨n, Nat.lt_succ_self n, _, _, _, _, _, h1747, rfl⟩
       exact Wk_keep [0, 3, 4, 18, 19] (by kernel_rfl)
      ·replace h1747 := bnd'_some h1747; obtain ⟨⟨c1730, n1731, c1732, c1733⟩, h1729, h1747⟩ := h1747
       (try dsimp only at h1747)
       refine W_sound tab_ok mixed 17 _ _ _ ?_
       simp -implicitDefEqProofs only [go_sem, Nat.reduceBEq, Nat.reduceAdd, Nat.reduceLT, Nat.reduceLeDiff, h1728]
       repeat with_reducible refine And.intro (by first | kernel_rfl | decide) ?_
       refine Wp_callDF [(59, [(.int .i64 x1699)])] [0, 1, 5, 3, 4] (c79_3_a N N _ _ _ _ _ _ _ _ _ h1729) rfl rfl rfl (by first | rfl | (simp only [go_sem, Nat.reduceBEq, Nat.reduceAdd, Nat.reduceSub, Nat.reduceMul, Nat.reduceLT, Nat.reduceLeDiff, Int.reduceLE, Int.reduceLT, Int.reduceToNat, Int.reduceBEq, Int.reduceBNe, ↓reduceIte, h1232, h1704, h1707, g1709, h1710, h1728] <;> rfl)) rfl (by kernel_rfl) rfl rfl (by simp [roF, obL]) ?_
       refine W_sound tab_ok mixed 6 _ _ _ ?_
       simp -implicitDefEqProofs only [go_sem, Nat.reduceBEq, Nat.reduceAdd, Nat.reduceSub, Nat.reduceMul, Nat.reduceLT, Nat.reduceLeDiff, Int.reduceLE, Int.reduceToNat, ↓reduceIte]
       repeat with_reducible refine And.intro (by first | kernel_rfl | decide) ?_
       refine cutQ _ ?_ ⟨n, Nat.lt_succ_self n, _, _, _, _, _, h1747, rfl⟩
       exact Wk_keep [0, 3, 4, 18, 19] (by kernel_rfl)
    ·refine W_sound tab_ok mixed 7 _ _ _ ?_
     simp -implicitDefEqProofs only [go_sem, Nat.reduceBEq, Nat.reduceLT, ↓reduceIte, h1704]
     repeat with_reducible refine And.intro (by first | kernel_rfl | decide) ?_
     obtain rfl := Option.some.inj h1743
     refine cutQ _ ?_ ⟨_, _, _, _, rfl, rfl⟩
     exact Wk_keep [] (by kernel_rfl)
  ·rintro _ ⟨c1734, n1735, c1736, c1737, rfl, rfl⟩
   (try dsimp only at h1744)
   refine W_sound tab_ok mixed 1 _ _ _ ?_
   simp -implicitDefEqProofs only [go_sem]
   repeat with_reducible refine And.intro (by first | kernel_rfl | decide) ?_
   obtain rfl := Option.some.inj h1744
   exact finD (st' := ⟨[], [(0, .dead), (1, .dead), (2, .dead), (3, .dead), (4, .dead), (6, .dead), (7, .dead), (9, .dead), (13, .dead), (18, .dead), (19, .dead), (20, .dead), (25, .dead), (26, .dead), (27, .dead), (28, .dead), (43, .dead)], [(0, .p c1734), (1, .r [.sl false 5 0 n1735 1]), (3, .p c1736), (4, .r [.fn 79 [.ptr 0 0, .ptr 1 0, .ptr 3 0, .ptr 4 0]]), (5, .p c1737)], 6, []⟩) (keepE_le [] _) (OLe.refl _) (by kernel_rfl) (by simp only [go_sem, resQ_nil, retD_none] <;> first | rfl | exact ⟨rfl, rfl⟩ | (try simp [R.val, retD_one, retD_two, retD_three, retD_none]))
theorem c79_a (N : Nat) (x1230 : Int) (p1231 : PV) (c1233 : List PV) (c1234 : List PV) (c1235 : List PV) (h : m79 N x1230 p1231 = some (.inl (c1233, c1234, c1235))) : V.Fn Tryd.prog 79 5 [.v .nl, .ptr 0 0, .ptr 1 0, .ptr 3 0, .ptr 4 0] [(0, .p [(.int .i64 x1230)]), (1, .r [.sl false 2 0 0 1]), (2, .p []), (3, .p [p1231]), (4, .r [.fn 79 [.ptr 0 0, .ptr 1 0, .ptr 3 0, .ptr 4 0]])] (fun d ob' => d = .v (.tup []) ∧ ob' = [(0, .p c1233), (1, .r [.sl false 5 0 1 1]), (3, .p c1234), (4, .r [.fn 79 [.ptr 0 0, .ptr 1 0, .ptr 3 0, .ptr 4 0]]), (5, .p c1235)]) := c79 N x1230 p1231 _ h
theorem c79_b (N : Nat) (x1230 : Int) (p1231 : PV) (c1738 : List PV) (n1739 : Nat) (c1740 : List PV) (c1741 : List PV) (h : m79 N x1230 p1231 = some (.inr (c1738, n1739, c1740, c1741))) : V.Fn Tryd.prog 79 5 [.v .nl, .ptr 0 0, .ptr 1 0, .ptr 3 0, .ptr 4 0] [(0, .p [(.int .i64 x1230)]), (1, .r [.sl false 2 0 0 1]), (2, .p []), (3, .p [p1231]), (4, .r [.fn 79 [.ptr 0 0, .ptr 1 0, .ptr 3 0, .ptr 4 0]])] (fun d ob' => d = .v (.tup []) ∧ ob' = [(0, .p c1738), (1, .r [.sl false 5 0 n1739 1]), (3, .p c1740), (4, .r [.fn 79 [.ptr 0 0, .ptr 1 0, .ptr 3 0, .ptr 4 0]]), (5, .p c1741)]) := c79 N x1230 p1231 _ h
def m38 (N : Nat) (x1225 : Int) (p1226 : PV) : Option (PV) :=
 getL p1226 fun n1228 c1229 =>
 bnd' (m79 N x1225 (.lst false n1228 c1229)) fun o =>
 match o with
 | .inl (c1749, c1750, c1751) =>
  grd (List.length c1751 = 1) <|
  some (.lst false 1 c1751)
 | .inr (c1753, n1754, c1755, c1756) =>
  grd (List.length c1756 = n1754) <|
  some (.lst false n1754 c1756)
theorem c38 (N : Nat) (x1225 : Int) (p1226 : PV) (r : PV)  (h : m38 N x1225 p1226 = some r) : FnP Tryd.prog 38 [(.int .i64 x1225), p1226] r := by
 unfold m38 at h
 refine Fn_of (sz := 11) tab_ok [0, 1, 2, 3, 4, 5, 6] [.tmp 4] Tryd.func38 rfl rfl rfl (by simp) ?_
 simp only [initSt, initEnv, List.map_cons, List.map_nil, List.getD_cons_zero, List.getD_cons_succ, List.getD_nil]
 replace h := getL_some h; obtain ⟨n1228, c1229, h1227, h⟩ := h
 refine W_sound tab_ok mixed 20 _ _ _ ?_
 simp -implicitDefEqProofs only [go_sem, Nat.reduceBEq, Nat.reduceAdd, Nat.reduceLT, Nat.reduceLeDiff, h1227]
 repeat with_reducible refine And.intro (by first | kernel_rfl | decide) ?_
 refine Wp_wkK (Wk_ownC 9 0 1 rfl rfl (by decide) (by decide)) rfl ?_
 simp -implicitDefEqProofs only [go_sem, Nat.reduceBEq, Nat.reduceAdd, setO]
 replace h := bnd'_some h; obtain ⟨oo, h1748, h⟩ := h
 rcases oo with ⟨c1749, c1750, c1751⟩ | ⟨c1753, n1754, c1755, c1756⟩
 ·(try dsimp only at h)
  refine W_sound tab_ok mixed 2 _ _ _ ?_
  simp -implicitDefEqProofs only [go_sem, Nat.reduceBEq, Nat.reduceLT]
  repeat with_reducible refine And.intro (by first | kernel_rfl | decide) ?_
  refine Wp_callD [2, 9, 17, 3, 16] (c79_a N _ _ _ _ _ h1748) rfl rfl rfl (by first | rfl | (simp only [go_sem, Nat.reduceBEq, Nat.reduceAdd, Nat.reduceSub, Nat.reduceMul, Nat.reduceLT, Nat.reduceLeDiff, Int.reduceLE, Int.reduceLT, Int.reduceToNat, Int.reduceBEq, Int.reduceBNe, ↓reduceIte, h1227] <;> rfl)) rfl (by kernel_rfl) ?_
  refine W_sound tab_ok mixed 8 _ _ _ ?_
  simp -implicitDefEqProofs only [go_sem, Nat.reduceBEq, Nat.reduceAdd, Nat.reduceSub, Nat.reduceMul, Nat.reduceLT, Nat.reduceLeDiff]
  repeat with_reducible refine And.intro (by first | kernel_rfl | decide) ?_
  replace h := grd_some h; obtain ⟨g1752, h⟩ := h
  refine FinQ_wk (Wk_freeze 27 c1751 (by rfl) (by decide) (by decide)) ?_
  simp -implicitDefEqProofs only [go_sem, Nat.reduceBEq, g1752]
  obtain rfl := Option.some.inj h
  exact finC [(4, .v (.lst false 1 c1751))] [(4, .v (.lst false 1 c1751))] (by simp [leE, lk_cons]) (.cons _ _ _ _ _ (.v _ _ (.refl _)) .nil) (by rfl) (by simp [leE, lk_cons]) (by decide) (by decide) rfl (by simp only [go_sem, Nat.reduceBEq, resQ_tmp, resQ_nil, retD_one]; try simp [R.val, retD_one, retD_two, retD_three, retD_none])
 ·(try dsimp only at h)
  refine W_sound tab_ok mixed 2 _ _ _ ?_
  simp -implicitDefEqProofs only [go_sem, Nat.reduceBEq, Nat.reduceLT]
  repeat with_reducible refine And.intro (by first | kernel_rfl | decide) ?_
  refine Wp_callD [2, 9, 17, 3, 16] (c79_b N _ _ _ _ _ _ h1748) rfl rfl rfl (by first | rfl | (simp only [go_sem, Nat.reduceBEq, Nat.reduceAdd, Nat.reduceSub, Nat.reduceMul, Nat.reduceLT, Nat.reduceLeDiff, Int.reduceLE, Int.reduceLT, Int.reduceToNat, Int.reduceBEq, Int.reduceBNe, ↓reduceIte, h1227] <;> rfl)) rfl (by kernel_rfl) ?_
  refine W_sound tab_ok mixed 8 _ _ _ ?_
  simp -implicitDefEqProofs only [go_sem, Nat.reduceBEq, Nat.reduceAdd, Nat.reduceSub, Nat.reduceMul, Nat.reduceLT, Nat.reduceLeDiff]
  repeat with_reducible refine And.intro (by first | kernel_rfl | decide) ?_
  replace h := grd_some h; obtain ⟨g1757, h⟩ := h
  refine FinQ_wk (Wk_freeze 27 c1756 (by rfl) (by decide) (by decide)) ?_
  simp -implicitDefEqProofs only [go_sem, Nat.reduceBEq, g1757]
  obtain rfl := Option.some.inj h
  exact finC [(4, .v (.lst false n1754 c1756))] [(4, .v (.lst false n1754 c1756))] (by simp [leE, lk_cons]) (.cons _ _ _ _ _ (.v _ _ (.refl _)) .nil) (by rfl) (by simp [leE, lk_cons]) (by decide) (by decide) rfl (by simp only [go_sem, Nat.reduceBEq, resQ_tmp, resQ_nil, retD_one]; try simp [R.val, retD_one, retD_two, retD_three, retD_none])
def m79_9_L1 (N : Nat) (rec : PV → List PV → Nat → List PV → Nat → List PV → Option ((List PV × Nat × Nat × List PV × List PV))) (n2513 : Nat) (c2514 : List PV) (x2517 : Int) (x2559 : Int) (c2560 : List PV) (n2561 : Nat) (n2562 : Nat) (c2563 : List PV) (c2564 : List PV) : Nat → Bool → Int → Option (Bool)
 | 0, _, _ => none
 | n + 1, b2570, x2571 =>
  brn (decide (x2571 < ((n2562 : Nat) : Int))) (
   grd (0 ≤ x2571 ∧ x2571 < ((n2562 : Nat) : Int)) <|
   grd ((Int.toNat x2571) < List.length c2563) <|
   getL (gp c2563 (Int.toNat x2571)) fun n2577 c2578 =>
   brn b2570 (
    m79_9_L1 N rec n2513 c2514 x2517 x2559 c2560 n2561 n2562 c2563 c2564 n true (IntKind.i64.wrap (x2571 + 1))) (
    grd (0 ≤ ((n2513 : Nat) : Int) ∧ ((n2513 : Nat) : Int) < ((n2577 : Nat) : Int)) <|
    grd (0 < List.length (List.drop n2513 c2578)) <|
    getI .i64 (gp c2578 n2513) fun x2584 =>
    m79_9_L1 N rec n2513 c2514 x2517 x2559 c2560 n2561 n2562 c2563 c2564 n (x2584 == x2559) (IntKind.i64.wrap (x2571 + 1)))) (
   some b2570)
def m79_9_L0 (N : Nat) (rec : PV → List PV → Nat → List PV → Nat → List PV → Option ((List PV × Nat × Nat × List PV × List PV))) (n2513 : Nat) (c2514 : List PV) (x2517 : Int) : Nat → Int → List PV → Nat → Nat → List PV → List PV → Option ((List PV × Nat × Nat × List PV × List PV))
 | 0, _, _, _, _, _, _ => none
 | n + 1, x2559, c2560, n2561, n2562, c2563, c2564 =>
  brn (decide (x2559 < x2517)) (
   bnd' (m57 N (.lst false n2513 c2514) x2559) fun p2566 =>
   getB p2566 fun b2569 =>
   bnd' (m79_9_L1 N rec n2513 c2514 x2517 x2559 c2560 n2561 n2562 c2563 c2564 N b2569 0) fun b2585 =>
   brn b2585 (
    m79_9_L0 N rec n2513 c2514 x2517 n (IntKind.i64.wrap (x2559 + 1)) c2560 n2561 n2562 c2563 c2564) (
    grd (0 ≤ ((n2513 : Nat) : Int) ∧ ((n2513 : Nat) : Int) ≤ ((n2513 : Nat) : Int)) <|
    grd (List.length c2514 = n2513) <|
    grd ((n2513 + 1) ≤ 1099511627776) <|
    bnd' (rec (.lst false (n2513 + 1) (c2514 ++ [(.int .i64 x2559)])) c2560 n2561 c2564 n2562 c2563) fun o =>
    match o with
    | (c2592, n2593, n2594, c2595, c2596) =>
     m79_9_L0 N rec n2513 c2514 x2517 n (IntKind.i64.wrap (x2559 + 1)) c2592 n2593 n2594 c2595 c2596)) (
   some (c2560, n2561, n2562, c2563, c2564))
def m79_9 (N : Nat) : Nat → PV → List PV → Nat → List PV → Nat → List PV → Option ((List PV × Nat × Nat × List PV × List PV))
 | 0, _, _, _, _, _, _ => none
 | fu + 1, p2506, c2507, n2508, c2509, n2510, c2511 =>
  getL p2506 fun n2513 c2514 =>
  grd (0 < List.length c2507) <|
  getI .i64 (gp c2507 0) fun x2517 =>
  brn (((n2513 : Nat) : Int) == x2517) (
   grd ((n2508 + 1) ≤ 1099511627776) <|
   grd (List.length c2509 = n2508) <|
   some (c2507, (n2508 + 1), n2510, c2511, (c2509 ++ [(.lst false n2513 c2514)]))) (
   bnd' (m79_9_L0 N (m79_9 N fu) n2513 c2514 x2517 N 0 c2507 n2508 n2510 c2511 c2509) fun o =>
   match o with
   | (c2597, n2598, n2599, c2600, c2601) =>
    some (c2597, n2598, n2599, c2600, c2601))
theorem c79_9 (N : Nat) : ∀ (fu : Nat) (p2506 : PV) (c2507 : List PV) (n2508 : Nat) (c2509 : List PV) (n2510 : Nat) (c2511 : List PV) (r : (List PV × Nat × Nat × List PV × List PV))  (h : m79_9 N fu p2506 c2507 n2508 c2509 n2510 c2511 = some r), V.Fn Tryd.prog 79 6 [.v p2506, .ptr 0 0, .ptr 1 0, .ptr 3 0, .ptr 5 0] [(0, .p c2507), (1, .r [.sl false 2 0 n2508 1]), (2, .p c2509), (3, .r [.sl false 4 0 n2510 1]), (4, .p c2511), (5, .r [.fn 79 [.ptr 0 0, .ptr 1 0, .ptr 3 0, .ptr 5 0]])] (fun d ob' => match (generalizing := false) r with | (c2420, n2421, n2422, c2423, c2424) => d = .v (.tup []) ∧ ob' = [(0, .p c2420), (1, .r [.sl false 6 0 n2421 1]), (3, .r [.sl false 4 0 n2422 1]), (4, .p c2423), (5, .r [.fn 79 [.ptr 0 0, .ptr 1 0, .ptr 3 0, .ptr 5 0]]), (6, .p c2424)]) := by
 intro fu
 induction fu with
 | zero => intro p2506 c2507 n2508 c2509 n2510 c2511 r h; cases h
 | succ fu ih =>
  intro p2506 c2507 n2508 c2509 n2510 c2511 r h
  rw [m79_9] at h
  refine Fn_of (sz := 56) tab_ok [0, 1, 2, 3, 4, 6, 7, 9, 13, 18, 19, 20, 25, 26, 27, 28, 43] [] Tryd.func79 rfl rfl rfl (by simp) ?_
  simp only [initSt, initEnv, List.getD_cons_zero, List.getD_cons_succ, List.getD_nil]
  replace h := getL_some h; obtain ⟨n2513, c2514, h2512, h⟩ := h
  simp only [h2512]
  refine Wp_wkK (cmpT_ok (st' := ⟨[], [(0, .v (.lst false n2513 c2514)), (1, .ptr 0 0), (2, .ptr 1 0), (3, .ptr 3 0), (4, .ptr 5 0), (6, .dead), (7, .dead), (9, .dead), (13, .dead), (18, .dead), (19, .dead), (20, .dead), (25, .dead), (26, .dead), (27, .dead), (28, .dead), (43, .dead)], [(0, .p c2507), (1, .r [.sl false 6 0 n2508 1]), (3, .r [.sl false 4 0 n2510 1]), (4, .p c2511), (5, .r [.fn 79 [.ptr 0 0, .ptr 1 0, .ptr 3 0, .ptr 5 0]]), (6, .p c2509)], 7, []⟩) [0, 1, 1000000002, 3, 4, 5, 2] (by kernel_rfl)) rfl ?_
  replace h := grd_some h; obtain ⟨g2515, h⟩ := h
  replace h := getI_some h; obtain ⟨x2517, h2516, h⟩ := h
  replace h := brn_some h; rcases h with ⟨h2518, h⟩ | ⟨h2518, h⟩
  ·replace h := grd_some h; obtain ⟨g2519, h⟩ := h
   replace h := grd_some h; obtain ⟨g2520, h⟩ := h
   refine W_sound tab_ok mixed 19 _ _ _ ?_
   simp -implicitDefEqProofs only [go_sem, Nat.reduceBEq, Nat.reduceAdd, Nat.reduceLT, Nat.reduceLeDiff, ↓reduceIte, g2515, h2516, h2518, g2519, g2520]
   repeat with_reducible refine And.intro (by first | kernel_rfl | decide) ?_
   obtain rfl := Option.some.inj h
   exact finD (st' := ⟨[], [(0, .dead), (1, .dead), (2, .dead), (3, .dead), (4, .dead), (6, .dead), (7, .dead), (9, .dead), (13, .dead), (18, .dead), (19, .dead), (20, .dead), (25, .dead), (26, .dead), (27, .dead), (28, .dead), (43, .dead)], [(0, .p c2507), (1, .r [.sl false 6 0 (n2508 + 1) 1]), (3, .r [.sl false 4 0 n2510 1]), (4, .p c2511), (5, .r [.fn 79 [.ptr 0 0, .ptr 1 0, .ptr 3 0, .ptr 5 0]]), (6, .p (c2509 ++ [(.lst false n2513 c2514)]))], 7, []⟩) (keepE_le [] _) (OLe.refl _) (by kernel_rfl) (by simp only [go_sem, resQ_nil, retD_none] <;> first | rfl | exact ⟨rfl, rfl⟩ | (try simp [R.val, retD_one, retD_two, retD_three, retD_none]))
  ·refine W_sound tab_ok mixed 15 _ _ _ ?_
   simp -implicitDefEqProofs only [go_sem, Nat.reduceBEq, Nat.reduceLT, ↓reduceIte, g2515, h2516, h2518]
   repeat with_reducible refine And.intro (by first | kernel_rfl | decide) ?_
   replace h := bnd'_some h; obtain ⟨o2607, h2608, h2609⟩ := h
   refine Wp_cut (fun s => ∃ c2597, ∃ n2598, ∃ n2599, ∃ c2600, ∃ c2601, (c2597, n2598, n2599, c2600, c2601) = o2607 ∧ s = ⟨[], [(0, .dead), (1, .dead), (2, .dead), (3, .dead), (4, .dead), (6, .dead), (7, .dead), (9, .dead), (13, .dead), (18, .dead), (19, .dead), (20, .dead), (25, .dead), (26, .dead), (27, .dead), (28, .dead), (43, .dead)], [(0, .p c2597), (1, .r [.sl false 6 0 n2598 1]), (3, .r [.sl false 4 0 n2599 1]), (4, .p c2600), (5, .r [.fn 79 [.ptr 0 0, .ptr 1 0, .ptr 3 0, .ptr 5 0]]), (6, .p c2601)], 7, []⟩) ?_ ?_
   ·refine Wp_block ?_
    refine Wp_loopG (fun n s => ∃ x2559, ∃ c2560, ∃ n2561, ∃ n2562, ∃ c2563, ∃ c2564, m79_9_L0 N (m79_9 N fu) n2513 c2514 x2517 n x2559 c2560 n2561 n2562 c2563 c2564 = some o2607 ∧ s = ⟨[], [(0, .v (.lst false n2513 c2514)), (1, .dead), (2, .dead), (3, .ptr 3 0), (4, .ptr 5 0), (6, .dead), (7, .dead), (9, .dead), (13, .dead), (18, .v (.int .i64 x2517)), (19, .v (.int .i64 x2559)), (20, .dead), (25, .dead), (26, .dead), (27, .dead), (28, .dead), (43, .dead)], [(0, .p c2560), (1, .r [.sl false 6 0 n2561 1]), (3, .r [.sl false 4 0 n2562 1]), (4, .p c2563), (5, .r [.fn 79 [.ptr 0 0, .ptr 1 0, .ptr 3 0, .ptr 5 0]]), (6, .p c2564)], 7, []⟩) N _ ?_ ⟨_, _, _, _, _, _, h2608, rfl⟩ ?_
    ·exact Wk_keep [0, 3, 4, 18, 19] (by kernel_rfl)
    clear h2608
    rintro n _ ⟨x2559, c2560, n2561, n2562, c2563, c2564, h2608, rfl⟩
    cases n with
    | zero => cases h2608
    | succ n =>
     rw [m79_9_L0] at h2608
     replace h2608 := brn_some h2608; rcases h2608 with ⟨h2565, h2608⟩ | ⟨h2565, h2608⟩
     ·replace h2608 := bnd'_some h2608; obtain ⟨p2566, h2567, h2608⟩ := h2608
      refine W_sound tab_ok mixed 18 _ _ _ ?_
      simp -implicitDefEqProofs only [go_sem, Nat.reduceBEq, Nat.reduceLT, ↓reduceIte, h2565]
      repeat with_reducible refine And.intro (by first | kernel_rfl | decide) ?_
      refine Wp_callP (c57 N _ _ _ h2567) (by kernel_rfl) rfl rfl rfl rfl (by decide) ?_
      replace h2608 := getB_some h2608; obtain ⟨b2569, h2568, h2608⟩ := h2608
      refine W_sound tab_ok mixed 9 _ _ _ ?_
      simp -implicitDefEqProofs only [go_sem, Nat.reduceBEq, Nat.reduceLT, h2568]
      repeat with_reducible refine And.intro (by first | kernel_rfl | decide) ?_
      replace h2608 := bnd'_some h2608; obtain ⟨o2610, h2611, h2612⟩ := h2608
      refine Wp_cut (fun s => ∃ b2585, b2585 = o2610 ∧ s = ⟨[], [(0, .v (.lst false n2513 c2514)), (1, .dead), (2, .dead), (3, .ptr 3 0), (4, .ptr 5 0), (6, .v (.int .i64 x2559)), (7, .v (.bool b2585)), (9, .dead), (13, .dead), (18, .v (.int .i64 x2517)), (19, .v (.int .i64 x2559)), (20, .dead), (25, .dead), (26, .dead), (27, .dead), (28, .dead), (43, .dead)], [(0, .p c2560), (1, .r [.sl false 6 0 n2561 1]), (3, .r [.sl false 4 0 n2562 1]), (4, .p c2563), (5, .r [.fn 79 [.ptr 0 0, .ptr 1 0, .ptr 3 0, .ptr 5 0]]), (6, .p c2564)], 7, []⟩) ?_ ?_
      ·refine Wp_block ?_
       refine Wp_loopG (fun n s => ∃ b2570, ∃ x2571, m79_9_L1 N (m79_9 N fu) n2513 c2514 x2517 x2559 c2560 n2561 n2562 c2563 c2564 n b2570 x2571 = some o2610 ∧ s = ⟨[], [(0, .v (.lst false n2513 c2514)), (1, .dead), (2, .dead), (3, .ptr 3 0), (4, .ptr 5 0), (6, .v (.int .i64 x2559)), (7, .v (.bool b2570)), (9, .dead), (13, .dead), (18, .v (.int .i64 x2517)), (19, .v (.int .i64 x2559)), (20, .dead), (25, .sl false 4 0 n2562 1), (26, .v (.int .i64 ((n2562 : Nat) : Int))), (27, .v (.int .i64 x2571)), (28, .dead), (43, .dead)], [(0, .p c2560), (1, .r [.sl false 6 0 n2561 1]), (3, .r [.sl false 4 0 n2562 1]), (4, .p c2563), (5, .r [.fn 79 [.ptr 0 0, .ptr 1 0, .ptr 3 0, .ptr 5 0]]), (6, .p c2564)], 7, []⟩) N _ ?_ ⟨_, _, h2611, rfl⟩ ?_
       ·exact Wk_keep [0, 3, 4, 6, 7, 18, 19, 25, 26, 27] (by kernel_rfl)
       clear h2611
       rintro n _ ⟨b2570, x2571, h2611, rfl⟩
       cases n with
       | zero => cases h2611
       | succ n =>
        rw [m79_9_L1] at h2611
        replace h2611 := brn_some h2611; rcases h2611 with ⟨h2572, h2611⟩ | ⟨h2572, h2611⟩
        ·replace h2611 := grd_some h2611; obtain ⟨⟨g2573, g2574⟩, h2611⟩ := h2611
         replace h2611 := grd_some h2611; obtain ⟨g2575, h2611⟩ := h2611
         replace h2611 := getL_some h2611; obtain ⟨n2577, c2578, h2576, h2611⟩ := h2611
         replace h2611 := brn_some h2611; rcases h2611 with ⟨h2579, h2611⟩ | ⟨h2579, h2611⟩
         ·refine W_sound tab_ok mixed 33 _ _ _ ?_
          simp -implicitDefEqProofs only [go_sem, Nat.reduceBEq, Nat.reduceLT, Int.reduceLE, Int.reduceToNat, ↓reduceIte, g2573, g2574, g2575, h2576, h2579]
          repeat with_reducible refine And.intro (by first | kernel_rfl | decide) ?_
          refine cutQ _ ?_ ⟨n, Nat.lt_succ_self n, _, _, h2611, rfl⟩
          exact Wk_keep [0, 3, 4, 6, 7, 18, 19, 25, 26, 27] (by kernel_rfl)
         ·replace h2611 := grd_some h2611; obtain ⟨⟨g2580, g2581⟩, h2611⟩ := h2611
          replace h2611 := grd_some h2611; obtain ⟨g2582, h2611⟩ := h2611
          replace h2611 := getI_some h2611; obtain ⟨x2584, h2583, h2611⟩ := h2611
          refine W_sound tab_ok mixed 33 _ _ _ ?_
          simp -implicitDefEqProofs only [go_sem, Nat.reduceBEq, Nat.reduceLT, Int.reduceLE, Int.reduceToNat, ↓reduceIte, g2573, g2574, g2575, h2576, h2579, g2580, g2581, g2582, h2583]
          repeat with_reducible refine And.intro (by first | kernel_rfl | decide) ?_
          refine cutQ _ ?_ ⟨n, Nat.lt_succ_self n, _, _, h2611, rfl⟩
          exact Wk_keep [0, 3, 4, 6, 7, 18, 19, 25, 26, 27] (by kernel_rfl)
        ·refine W_sound tab_ok mixed 7 _ _ _ ?_
         simp -implicitDefEqProofs only [go_sem, Nat.reduceBEq, Nat.reduceLT, ↓reduceIte, h2572]
         repeat with_reducible refine And.intro (by first | kernel_rfl | decide) ?_
         obtain rfl := Option.some.inj h2611
         refine cutQ _ ?_ ⟨_, rfl, rfl⟩
         exact Wk_keep [0, 3, 4, 6, 7, 18, 19] (by kernel_rfl)
      ·rintro _ ⟨b2585, rfl, rfl⟩
       replace h2612 := brn_some h2612; rcases h2612 with ⟨h2586, h2612⟩ | ⟨h2586, h2612⟩
       ·refine W_sound tab_ok mixed 12 _ _ _ ?_
        simp -implicitDefEqProofs only [go_sem, Nat.reduceBEq, Nat.reduceLT, Int.reduceLE, Int.reduceToNat, ↓reduceIte, h2586]
        repeat with_reducible refine And.intro (by first | kernel_rfl | decide) ?_
        refine cutQ _ ?_ ⟨n, Nat.lt_succ_self n, _, _, _, _, _, _, h2612, rfl⟩
        exact Wk_keep [0, 3, 4, 18, 19] (by kernel_rfl)
       ·replace h2612 := grd_some h2612; obtain ⟨⟨g2587, g2588⟩, h2612⟩ := h2612
        replace h2612 := grd_some h2612; obtain ⟨g2589, h2612⟩ := h2612
        replace h2612 := grd_some h2612; obtain ⟨g2590, h2612⟩ := h2612
        replace h2612 := bnd'_some h2612; obtain ⟨⟨c2592, n2593, n2594, c2595, c2596⟩, h2591, h2612⟩ := h2612
        (try dsimp only at h2612)
        refine W_sound tab_ok mixed 17 _ _ _ ?_
        simp -implicitDefEqProofs only [go_sem, Nat.reduceBEq, Nat.reduceAdd, Nat.reduceLT, Nat.reduceLeDiff, h2586, g2587, g2588, g2589, g2590]
        repeat with_reducible refine And.intro (by first | kernel_rfl | decide) ?_
        refine Wp_callDF [(60, (c2514 ++ [(.int .i64 x2559)]))] [0, 1, 6, 3, 4, 5] (ih _ _ _ _ _ _ _ h2591) rfl rfl rfl (by first | rfl | (simp only [go_sem, Nat.reduceBEq, g2589] <;> rfl)) rfl (by kernel_rfl) rfl rfl (by simp [roF, obL]) ?_
        refine W_sound tab_ok mixed 6 _ _ _ ?_
        simp -implicitDefEqProofs only [go_sem, Nat.reduceBEq, Nat.reduceAdd, Nat.reduceSub, Nat.reduceMul, Nat.reduceLT, Nat.reduceLeDiff, Int.reduceLE, Int.reduceToNat, ↓reduceIte]
        repeat with_reducible refine And.intro (by first | kernel_rfl | decide) ?_
        refine cutQ _ ?_ ⟨n, Nat.lt_succ_self n, _, _, _, _, _, _, h2612, rfl⟩
        exact Wk_keep [0, 3, 4, 18, 19] (by kernel_rfl)
     ·refine W_sound tab_ok mixed 7 _ _ _ ?_
      simp -implicitDefEqProofs only [go_sem, Nat.reduceBEq, Nat.reduceLT, ↓reduceIte, h2565]
      repeat with_reducible refine And.intro (by first | kernel_rfl | decide) ?_
      obtain rfl := Option.some.inj h2608
      refine cutQ _ ?_ ⟨_, _, _, _, _, rfl, rfl⟩
      exact Wk_keep [] (by kernel_rfl)
   ·rintro _ ⟨c2597, n2598, n2599, c2600, c2601, rfl, rfl⟩
    (try dsimp only at h2609)
    refine W_sound tab_ok mixed 1 _ _ _ ?_
    simp -implicitDefEqProofs only [go_sem]
    repeat with_reducible refine And.intro (by first | kernel_rfl | decide) ?_
    obtain rfl := Option.some.inj h2609
    exact finD (st' := ⟨[], [(0, .dead), (1, .dead), (2, .dead), (3, .dead), (4, .dead), (6, .dead), (7, .dead), (9, .dead), (13, .dead), (18, .dead), (19, .dead), (20, .dead), (25, .dead), (26, .dead), (27, .dead), (28, .dead), (43, .dead)], [(0, .p c2597), (1, .r [.sl false 6 0 n2598 1]), (3, .r [.sl false 4 0 n2599 1]), (4, .p c2600), (5, .r [.fn 79 [.ptr 0 0, .ptr 1 0, .ptr 3 0, .ptr 5 0]]), (6, .p c2601)], 7, []⟩) (keepE_le [] _) (OLe.refl _) (by kernel_rfl) (by simp only [go_sem, resQ_nil, retD_none] <;> first | rfl | exact ⟨rfl, rfl⟩ | (try simp [R.val, retD_one, retD_two, retD_three, retD_none]))
theorem c79_9_a (N : Nat) (fu : Nat) (p2506 : PV) (c2507 : List PV) (n2508 : Nat) (c2509 : List PV) (n2510 : Nat) (c2511 : List PV) (c2420 : List PV) (n2421 : Nat) (n2422 : Nat) (c2423 : List PV) (c2424 : List PV) (h : m79_9 N fu p2506 c2507 n2508 c2509 n2510 c2511 = some (c2420, n2421, n2422, c2423, c2424)) : V.Fn Tryd.prog 79 6 [.v p2506, .ptr 0 0, .ptr 1 0, .ptr 3 0, .ptr 5 0] [(0, .p c2507), (1, .r [.sl false 2 0 n2508 1]), (2, .p c2509), (3, .r [.sl false 4 0 n2510 1]), (4, .p c2511), (5, .r [.fn 79 [.ptr 0 0, .ptr 1 0, .ptr 3 0, .ptr 5 0]])] (fun d ob' => d = .v (.tup []) ∧ ob' = [(0, .p c2420), (1, .r [.sl false 6 0 n2421 1]), (3, .r [.sl false 4 0 n2422 1]), (4, .p c2423), (5, .r [.fn 79 [.ptr 0 0, .ptr 1 0, .ptr 3 0, .ptr 5 0]]), (6, .p c2424)]) := c79_9 N fu p2506 c2507 n2508 c2509 n2510 c2511 _ h
def m79_7_L1 (N : Nat) (x2299 : Int) (x2742 : Int) (c2743 : List PV) (n2744 : Nat) (n2745 : Nat) (c2746 : List PV) (c2747 : List PV) : Nat → Bool → Int → Option (Bool)
 | 0, _, _ => none
 | n + 1, b2753, x2754 =>
  brn (decide (x2754 < ((n2745 : Nat) : Int))) (
   grd (0 ≤ x2754 ∧ x2754 < ((n2745 : Nat) : Int)) <|
   grd ((Int.toNat x2754) < List.length c2746) <|
   getL (gp c2746 (Int.toNat x2754)) fun n2760 c2761 =>
   brn b2753 (
    m79_7_L1 N x2299 x2742 c2743 n2744 n2745 c2746 c2747 n true (IntKind.i64.wrap (x2754 + 1))) (
    grd (0 < ((n2760 : Nat) : Int)) <|
    grd (0 < List.length c2761) <|
    getI .i64 (gp c2761 0) fun x2766 =>
    m79_7_L1 N x2299 x2742 c2743 n2744 n2745 c2746 c2747 n (x2766 == x2742) (IntKind.i64.wrap (x2754 + 1)))) (
   some b2753)
def m79_7_L0 (N : Nat) (x2299 : Int) : Nat → Int → List PV → Nat → Nat → List PV → List PV → Option ((List PV × Nat × Nat × List PV × List PV))
 | 0, _, _, _, _, _, _ => none
 | n + 1, x2742, c2743, n2744, n2745, c2746, c2747 =>
  brn (decide (x2742 < x2299)) (
   bnd' (m57 N (.lst false 0 []) x2742) fun p2749 =>
   getB p2749 fun b2752 =>
   bnd' (m79_7_L1 N x2299 x2742 c2743 n2744 n2745 c2746 c2747 N b2752 0) fun b2767 =>
   brn b2767 (
    m79_7_L0 N x2299 n (IntKind.i64.wrap (x2742 + 1)) c2743 n2744 n2745 c2746 c2747) (
    bnd' (m79_9 N N (.lst false 1 [(.int .i64 x2742)]) c2743 n2744 c2747 n2745 c2746) fun o =>
    match o with
    | (c2770, n2771, n2772, c2773, c2774) =>
     m79_7_L0 N x2299 n (IntKind.i64.wrap (x2742 + 1)) c2770 n2771 n2772 c2773 c2774)) (
   some (c2743, n2744, n2745, c2746, c2747))
def m79_7 (N : Nat) (x2299 : Int) (n2300 : Nat) (c2301 : List PV) : Option (((List PV × Nat × List PV × List PV) ⊕ (List PV × Nat × Nat × List PV × List PV))) :=
 brn (0 == x2299) (
  some (.inl ([(.int .i64 x2299)], n2300, c2301, [(.lst false 0 [])]))) (
  bnd' (m79_7_L0 N x2299 N 0 [(.int .i64 x2299)] 0 n2300 c2301 []) fun o =>
  match o with
  | (c2775, n2776, n2777, c2778, c2779) =>
   some (.inr (c2775, n2776, n2777, c2778, c2779)))
theorem c79_7 (N : Nat) (x2299 : Int) (n2300 : Nat) (c2301 : List PV) (r : ((List PV × Nat × List PV × List PV) ⊕ (List PV × Nat × Nat × List PV × List PV)))  (h : m79_7 N x2299 n2300 c2301 = some r) : V.Fn Tryd.prog 79 6 [.v .nl, .ptr 0 0, .ptr 1 0, .ptr 3 0, .ptr 5 0] [(0, .p [(.int .i64 x2299)]), (1, .r [.sl false 2 0 0 1]), (2, .p []), (3, .r [.sl false 4 0 n2300 1]), (4, .p c2301), (5, .r [.fn 79 [.ptr 0 0, .ptr 1 0, .ptr 3 0, .ptr 5 0]])] (fun d ob' => match (generalizing := false) r with | .inl (c2303, n2304, c2305, c2306) => d = .v (.tup []) ∧ ob' = [(0, .p c2303), (1, .r [.sl false 6 0 1 1]), (3, .r [.sl false 4 0 n2304 1]), (4, .p c2305), (5, .r [.fn 79 [.ptr 0 0, .ptr 1 0, .ptr 3 0, .ptr 5 0]]), (6, .p c2306)] | .inr (c2780, n2781, n2782, c2783, c2784) => d = .v (.tup []) ∧ ob' = [(0, .p c2780), (1, .r [.sl false 6 0 n2781 1]), (3, .r [.sl false 4 0 n2782 1]), (4, .p c2783), (5, .r [.fn 79 [.ptr 0 0, .ptr 1 0, .ptr 3 0, .ptr 5 0]]), (6, .p c2784)]) := by
 unfold m79_7 at h
 refine Fn_of (sz := 56) tab_ok [0, 1, 2, 3, 4, 6, 7, 9, 13, 18, 19, 20, 25, 26, 27, 28, 43] [] Tryd.func79 rfl rfl rfl (by simp) ?_
 simp only [initSt, initEnv, List.getD_cons_zero, List.getD_cons_succ, List.getD_nil]
 refine Wp_wkK (cmpT_ok (st' := ⟨[], [(0, .v .nl), (1, .ptr 0 0), (2, .ptr 1 0), (3, .ptr 3 0), (4, .ptr 5 0), (6, .dead), (7, .dead), (9, .dead), (13, .dead), (18, .dead), (19, .dead), (20, .dead), (25, .dead), (26, .dead), (27, .dead), (28, .dead), (43, .dead)], [(0, .p [(.int .i64 x2299)]), (1, .r [.sl false 6 0 0 1]), (3, .r [.sl false 4 0 n2300 1]), (4, .p c2301), (5, .r [.fn 79 [.ptr 0 0, .ptr 1 0, .ptr 3 0, .ptr 5 0]]), (6, .p [])], 7, []⟩) [0, 1, 1000000002, 3, 4, 5, 2] (by kernel_rfl)) rfl ?_
 replace h := brn_some h; rcases h with ⟨h2302, h⟩ | ⟨h2302, h⟩
 ·refine W_sound tab_ok mixed 19 _ _ _ ?_
  simp -implicitDefEqProofs only [go_sem, Nat.reduceBEq, Nat.reduceAdd, Nat.reduceLT, Nat.reduceLeDiff, ↓reduceIte, h2302]
  repeat with_reducible refine And.intro (by first | kernel_rfl | decide) ?_
  obtain rfl := Option.some.inj h
  exact finD (e2 := [(0, .dead), (1, .dead), (2, .dead), (3, .dead), (4, .dead), (6, .dead), (7, .dead), (9, .dead), (13, .dead), (18, .dead), (19, .dead), (20, .dead), (25, .dead), (26, .dead), (27, .dead), (28, .dead), (43, .dead)]) (ob2 := [(0, .p [(.int .i64 x2299)]), (1, .r [.sl false 24 0 1 1]), (3, .r [.sl false 4 0 n2300 1]), (4, .p c2301), (5, .r [.fn 79 [.ptr 0 0, .ptr 1 0, .ptr 3 0, .ptr 5 0]]), (23, .p [.nl]), (24, .p [(.lst false 0 [])])]) (st' := ⟨[], [(0, .dead), (1, .dead), (2, .dead), (3, .dead), (4, .dead), (6, .dead), (7, .dead), (9, .dead), (13, .dead), (18, .dead), (19, .dead), (20, .dead), (25, .dead), (26, .dead), (27, .dead), (28, .dead), (43, .dead)], [(0, .p [(.int .i64 x2299)]), (1, .r [.sl false 6 0 1 1]), (3, .r [.sl false 4 0 n2300 1]), (4, .p c2301), (5, .r [.fn 79 [.ptr 0 0, .ptr 1 0, .ptr 3 0, .ptr 5 0]]), (6, .p [(.lst false 0 [])])], 7, []⟩) (.cons _ _ _ _ _ (.dead _) (.cons _ _ _ _ _ (.dead _) (.cons _ _ _ _ _ (.dead _) (.cons _ _ _ _ _ (.dead _) (.cons _ _ _ _ _ (.dead _) (.cons _ _ _ _ _ (.refl _) (.cons _ _ _ _ _ (.refl _) (.cons _ _ _ _ _ (.refl _) (.cons _ _ _ _ _ (.dead _) (.cons _ _ _ _ _ (.refl _) (.cons _ _ _ _ _ (.refl _) (.cons _ _ _ _ _ (.refl _) (.cons _ _ _ _ _ (.refl _) (.cons _ _ _ _ _ (.refl _) (.cons _ _ _ _ _ (.refl _) (.cons _ _ _ _ _ (.refl _) (.cons _ _ _ _ _ (.refl _) .nil))))))))))))))))) (.cons _ _ _ _ _ (DLes.refl _) (.cons _ _ _ _ _ (DLes.refl _) (.cons _ _ _ _ _ (DLes.refl _) (.cons _ _ _ _ _ (DLes.refl _) (.cons _ _ _ _ _ (DLes.refl _) (.cons _ _ _ _ _ (DLes.refl _) (.cons _ (.p _) (.p _) _ _ (DLes.of_p (.cons _ _ _ _ (.nl false) .nil)) .nil))))))) (by kernel_rfl) (by simp only [go_sem, resQ_nil, retD_none] <;> first | rfl | exact ⟨rfl, rfl⟩ | (try simp [R.val, retD_one, retD_two, retD_three, retD_none]))
 ·refine W_sound tab_ok mixed 15 _ _ _ ?_
  simp -implicitDefEqProofs only [go_sem, Nat.reduceBEq, Nat.reduceLT, ↓reduceIte, h2302]
  repeat with_reducible refine And.intro (by first | kernel_rfl | decide) ?_
  replace h := bnd'_some h; obtain ⟨o2785, h2786, h2787⟩ := h
  refine Wp_cut (fun s => ∃ c2775, ∃ n2776, ∃ n2777, ∃ c2778, ∃ c2779, (c2775, n2776, n2777, c2778, c2779) = o2785 ∧ s = ⟨[], [(0, .dead), (1, .dead), (2, .dead), (3, .dead), (4, .dead), (6, .dead), (7, .dead), (9, .dead), (13, .dead), (18, .dead), (19, .dead), (20, .dead), (25, .dead), (26, .dead), (27, .dead), (28, .dead), (43, .dead)], [(0, .p c2775), (1, .r [.sl false 6 0 n2776 1]), (3, .r [.sl false 4 0 n2777 1]), (4, .p c2778), (5, .r [.fn 79 [.ptr 0 0, .ptr 1 0, .ptr 3 0, .ptr 5 0]]), (6, .p c2779)], 7, []⟩) ?_ ?_
  ·refine Wp_block ?_
   refine Wp_loopG (fun n s => ∃ x2742, ∃ c2743, ∃ n2744, ∃ n2745, ∃ c2746, ∃ c2747, m79_7_L0 N x2299 n x2742 c2743 n2744 n2745 c2746 c2747 = some o2785 ∧ s = ⟨[], [(0, .v .nl), (1, .dead), (2, .dead), (3, .ptr 3 0), (4, .ptr 5 0), (6, .dead), (7, .dead), (9, .dead), (13, .dead), (18, .v (.int .i64 x2299)), (19, .v (.int .i64 x2742)), (20, .dead), (25, .dead), (26, .dead), (27, .dead), (28, .dead), (43, .dead)], [(0, .p c2743), (1, .r [.sl false 6 0 n2744 1]), (3, .r [.sl false 4 0 n2745 1]), (4, .p c2746), (5, .r [.fn 79 [.ptr 0 0, .ptr 1 0, .ptr 3 0, .ptr 5 0]]), (6, .p c2747)], 7, []⟩) N _ ?_ ⟨_, _, _, _, _, _, h2786, rfl⟩ ?_
   ·exact Wk_keep [0, 3, 4, 18, 19] (by kernel_rfl)
   clear h2786
   rintro n _ ⟨x2742, c2743, n2744, n2745, c2746, c2747, h2786, rfl⟩
   cases n with
   | zero => cases h2786
   | succ n =>
    rw [m79_7_L0] at h2786
    replace h2786 := brn_some h2786; rcases h2786 with ⟨h2748, h2786⟩ | ⟨h2748, h2786⟩
    ·replace h2786 := bnd'_some h2786; obtain ⟨p2749, h2750, h2786⟩ := h2786
     refine W_sound tab_ok mixed 18 _ _ _ ?_
     simp -implicitDefEqProofs only [go_sem, Nat.reduceBEq, Nat.reduceLT, ↓reduceIte, h2748]
     repeat with_reducible refine And.intro (by first | kernel_rfl | decide) ?_
     refine Wp_callP (FnP_le (c57 N _ _ _ h2750) (.cons _ _ _ _ (.nl false) (.cons _ _ _ _ (.refl _) .nil)) (.refl _)) (by kernel_rfl) rfl rfl rfl rfl (by decide) ?_
     replace h2786 := getB_some h2786; obtain ⟨b2752, h2751, h2786⟩ := h2786
     refine W_sound tab_ok mixed 9 _ _ _ ?_
     simp -implicitDefEqProofs only [go_sem, Nat.reduceBEq, Nat.reduceLT, h2751]
     repeat with_reducible refine And.intro (by first | kernel_rfl | decide) ?_
     replace h2786 := bnd'_some h2786; obtain ⟨o2788, h2789, h2790⟩ := h2786
     refine Wp_cut (fun s => ∃ b2767, b2767 = o2788 ∧ s = ⟨[], [(0, .v .nl), (1, .dead), (2, .dead), (3, .ptr 3 0), (4, .ptr 5 0), (6, .v (.int .i64 x2742)), (7, .v (.bool b2767)), (9, .dead), (13, .dead), (18, .v (.int .i64 x2299)), (19, .v (.int .i64 x2742)), (20, .dead), (25, .dead), (26, .dead), (27, .dead), (28, .dead), (43, .dead)], [(0, .p c2743), (1, .r [.sl false 6 0 n2744 1]), (3, .r [.sl false 4 0 n2745 1]), (4, .p c2746), (5, .r [.fn 79 [.ptr 0 0, .ptr 1 0, .ptr 3 0, .ptr 5 0]]), (6, .p c2747)], 7, []⟩) ?_ ?_
     ·refine Wp_block ?_
      refine Wp_loopG (fun n s => ∃ b2753, ∃ x2754, m79_7_L1 N x2299 x2742 c2743 n2744 n2745 c2746 c2747 n b2753 x2754 = some o2788 ∧ s = ⟨[], [(0, .v .nl), (1, .dead), (2, .dead), (3, .ptr 3 0), (4, .ptr 5 0), (6, .v (.int .i64 x2742)), (7, .v (.bool b2753)), (9, .dead), (13, .dead), (18, .v (.int .i64 x2299)), (19, .v (.int .i64 x2742)), (20, .dead), (25, .sl false 4 0 n2745 1), (26, .v (.int .i64 ((n2745 : Nat) : Int))), (27, .v (.int .i64 x2754)), (28, .dead), (43, .dead)], [(0, .p c2743), (1, .r [.sl false 6 0 n2744 1]), (3, .r [.sl false 4 0 n2745 1]), (4, .p c2746), (5, .r [.fn 79 [.ptr 0 0, .ptr 1 0, .ptr 3 0, .ptr 5 0]]), (6, .p c2747)], 7, []⟩) N _ ?_ ⟨_, _, h2789, rfl⟩ ?_
      ·exact Wk_keep [0, 3, 4, 6, 7, 18, 19, 25, 26, 27] (by kernel_rfl)
      clear h2789
      rintro n _ ⟨b2753, x2754, h2789, rfl⟩
      cases n with
      | zero => cases h2789
      | succ n =>
       rw [m79_7_L1] at h2789
       replace h2789 := brn_some h2789; rcases h2789 with ⟨h2755, h2789⟩ | ⟨h2755, h2789⟩
       ·replace h2789 := grd_some h2789; obtain ⟨⟨g2756, g2757⟩, h2789⟩ := h2789
        replace h2789 := grd_some h2789; obtain ⟨g2758, h2789⟩ := h2789
        replace h2789 := getL_some h2789; obtain ⟨n2760, c2761, h2759, h2789⟩ := h2789
        replace h2789 := brn_some h2789; rcases h2789 with ⟨h2762, h2789⟩ | ⟨h2762, h2789⟩
        ·refine W_sound tab_ok mixed 33 _ _ _ ?_
         simp -implicitDefEqProofs only [go_sem, Nat.reduceBEq, Nat.reduceLT, Int.reduceLE, Int.reduceToNat, ↓reduceIte, g2756, g2757, g2758, h2759, h2762]
         repeat with_reducible refine And.intro (by first | kernel_rfl | decide) ?_
         refine cutQ _ ?_ ⟨n, Nat.lt_succ_self n, _, _, h2789, rfl⟩
         exact Wk_keep [0, 3, 4, 6, 7, 18, 19, 25, 26, 27] (by kernel_rfl)
        ·replace h2789 := grd_some h2789; obtain ⟨g2763, h2789⟩ := h2789
         replace h2789 := grd_some h2789; obtain ⟨g2764, h2789⟩ := h2789
         replace h2789 := getI_some h2789; obtain ⟨x2766, h2765, h2789⟩ := h2789
         refine W_sound tab_ok mixed 33 _ _ _ ?_
         simp -implicitDefEqProofs only [go_sem, Nat.reduceBEq, Nat.reduceLT, Int.reduceLE, Int.reduceToNat, ↓reduceIte, g2756, g2757, g2758, h2759, h2762, g2763, g2764, h2765]
         repeat with_reducible refine And.intro (by first | kernel_rfl | decide) ?_
         refine cutQ _ ?_ ⟨n, Nat.lt_succ_self n, _, _, h2789, rfl⟩
         exact Wk_keep [0, 3, 4, 6, 7, 18, 19, 25, 26, 27] (by kernel_rfl)
       ·refine W_sound tab_ok mixed 7 _ _ _ ?_
        simp -implicitDefEqProofs only [go_sem, Nat.reduceBEq, Nat.reduceLT, ↓reduceIte, h2755]
        repeat with_reducible refine And.intro (by first | kernel_rfl | decide) ?_
        obtain rfl := Option.some.inj h2789
        refine cutQ _ ?_ ⟨_, rfl, rfl⟩
        exact Wk_keep [0, 3, 4, 6, 7, 18, 19] (by kernel_rfl)
     ·rintro _ ⟨b2767, rfl, rfl⟩
      replace h2790 := brn_some h2790; rcases h2790 with ⟨h2768, h2790⟩ | ⟨h2768, h2790⟩
      ·refine W_sound tab_ok mixed 12 _ _ _ ?_
       simp -implicitDefEqProofs only [go_sem, Nat.reduceBEq, Nat.reduceLT, Int.reduceLE, Int.reduceToNat, ↓reduceIte, h2768]
       repeat with_reducible refine And.intro (by first | kernel_rfl | decide) ?_
       refine cutQ _ ?_ ⟨n, Nat.lt_succ_self n, _, _, _, _, _, _, h2790, rfl⟩
       exact Wk_keep [0, 3, 4, 18, 19] (by kernel_rfl)
      ·replace h2790 := bnd'_some h2790; obtain ⟨⟨c2770, n2771, n2772, c2773, c2774⟩, h2769, h2790⟩ := h2790
       (try dsimp only at h2790)
       refine W_sound tab_ok mixed 17 _ _ _ ?_
       simp -implicitDefEqProofs only [go_sem, Nat.reduceBEq, Nat.reduceAdd, Nat.reduceLT, Nat.reduceLeDiff, h2768]
       repeat with_reducible refine And.intro (by first | kernel_rfl | decide) ?_
       refine Wp_callDF [(60, [(.int .i64 x2742)])] [0, 1, 6, 3, 4, 5] (c79_9_a N N _ _ _ _ _ _ _ _ _ _ _ h2769) rfl rfl rfl (by first | rfl | (simp only [go_sem, Nat.reduceBEq, Nat.reduceAdd, Nat.reduceSub, Nat.reduceMul, Nat.reduceLT, Nat.reduceLeDiff, Int.reduceLE, Int.reduceLT, Int.reduceToNat, Int.reduceBEq, Int.reduceBNe, ↓reduceIte, h2302, h2748, h2751, h2768] <;> rfl)) rfl (by kernel_rfl) rfl rfl (by simp [roF, obL]) ?_
       refine W_sound tab_ok mixed 6 _ _ _ ?_
       simp -implicitDefEqProofs only [go_sem, Nat.reduceBEq, Nat.reduceAdd, Nat.reduceSub, Nat.reduceMul, Nat.reduceLT, Nat.reduceLeDiff, Int.reduceLE, Int.reduceToNat, ↓reduceIte]
       repeat with_reducible refine And.intro (by first | kernel_rfl | decide) ?_
       refine cutQ _ ?_ ⟨n, Nat.lt_succ_self n, _, _, _, _, _, _, h2790, rfl⟩
       exact Wk_keep [0, 3, 4, 18, 19] (by kernel_rfl)
    ·refine W_sound tab_ok mixed 7 _ _ _ ?_
     simp -implicitDefEqProofs only [go_sem, Nat.reduceBEq, Nat.reduceLT, ↓reduceIte, h2748]
     repeat with_reducible refine And.intro (by first | kernel_rfl | decide) ?_
     obtain rfl := Option.some.inj h2786
     refine cutQ _ ?_ ⟨_, _, _, _, _, rfl, rfl⟩
     exact Wk_keep [] (by kernel_rfl)
  ·rintro _ ⟨c2775, n2776, n2777, c2778, c2779, rfl, rfl⟩
   (try dsimp only at h2787)
   refine W_sound tab_ok mixed 1 _ _ _ ?_
   simp -implicitDefEqProofs only [go_sem]
   repeat with_reducible refine And.intro (by first | kernel_rfl | decide) ?_
   obtain rfl := Option.some.inj h2787
   exact finD (st' := ⟨[], [(0, .dead), (1, .dead), (2, .dead), (3, .dead), (4, .dead), (6, .dead), (7, .dead), (9, .dead), (13, .dead), (18, .dead), (19, .dead), (20, .dead), (25, .dead), (26, .dead), (27, .dead), (28, .dead), (43, .dead)], [(0, .p c2775), (1, .r [.sl false 6 0 n2776 1]), (3, .r [.sl false 4 0 n2777 1]), (4, .p c2778), (5, .r [.fn 79 [.ptr 0 0, .ptr 1 0, .ptr 3 0, .ptr 5 0]]), (6, .p c2779)], 7, []⟩) (keepE_le [] _) (OLe.refl _) (by kernel_rfl) (by simp only [go_sem, resQ_nil, retD_none] <;> first | rfl | exact ⟨rfl, rfl⟩ | (try simp [R.val, retD_one, retD_two, retD_three, retD_none]))
theorem c79_7_a (N : Nat) (x2299 : Int) (n2300 : Nat) (c2301 : List PV) (c2303 : List PV) (n2304 : Nat) (c2305 : List PV) (c2306 : List PV) (h : m79_7 N x2299 n2300 c2301 = some (.inl (c2303, n2304, c2305, c2306))) : V.Fn Tryd.prog 79 6 [.v .nl, .ptr 0 0, .ptr 1 0, .ptr 3 0, .ptr 5 0] [(0, .p [(.int .i64 x2299)]), (1, .r [.sl false 2 0 0 1]), (2, .p []), (3, .r [.sl false 4 0 n2300 1]), (4, .p c2301), (5, .r [.fn 79 [.ptr 0 0, .ptr 1 0, .ptr 3 0, .ptr 5 0]])] (fun d ob' => d = .v (.tup []) ∧ ob' = [(0, .p c2303), (1, .r [.sl false 6 0 1 1]), (3, .r [.sl false 4 0 n2304 1]), (4, .p c2305), (5, .r [.fn 79 [.ptr 0 0, .ptr 1 0, .ptr 3 0, .ptr 5 0]]), (6, .p c2306)]) := c79_7 N x2299 n2300 c2301 _ h
theorem c79_7_b (N : Nat) (x2299 : Int) (n2300 : Nat) (c2301 : List PV) (c2780 : List PV) (n2781 : Nat) (n2782 : Nat) (c2783 : List PV) (c2784 : List PV) (h : m79_7 N x2299 n2300 c2301 = some (.inr (c2780, n2781, n2782, c2783, c2784))) : V.Fn Tryd.prog 79 6 [.v .nl, .ptr 0 0, .ptr 1 0, .ptr 3 0, .ptr 5 0] [(0, .p [(.int .i64 x2299)]), (1, .r [.sl false 2 0 0 1]), (2, .p []), (3, .r [.sl false 4 0 n2300 1]), (4, .p c2301), (5, .r [.fn 79 [.ptr 0 0, .ptr 1 0, .ptr 3 0, .ptr 5 0]])] (fun d ob' => d = .v (.tup []) ∧ ob' = [(0, .p c2780), (1, .r [.sl false 6 0 n2781 1]), (3, .r [.sl false 4 0 n2782 1]), (4, .p c2783), (5, .r [.fn 79 [.ptr 0 0, .ptr 1 0, .ptr 3 0, .ptr 5 0]]), (6, .p c2784)]) := c79_7 N x2299 n2300 c2301 _ h
def m38_3 (N : Nat) (x2804 : Int) (n2805 : Nat) (c2806 : List PV) : Option ((PV × List PV)) :=
 bnd' (m79_7 N x2804 n2805 c2806) fun o =>
 match o with
 | .inl (c2809, n2810, c2811, c2812) =>
  grd (List.length c2812 = 1) <|
  some ((.lst false 1 c2812), c2811)
 | .inr (c2814, n2815, n2816, c2817, c2818) =>
  grd (List.length c2818 = n2815) <|
  some ((.lst false n2815 c2818), c2817)
theorem c38_3 (N : Nat) (x2804 : Int) (n2805 : Nat) (c2806 : List PV) (r : PV) (c2821 : List PV) (h : m38_3 N x2804 n2805 c2806 = some (r, c2821)) : V.Fn Tryd.prog 38 1 [.v (.int .i64 x2804), .sl false 0 0 n2805 1] [(0, .p c2806)] (fun d ob' => d = .v r ∧ ob' = [(0, .p c2821)]) := by
 unfold m38_3 at h
 refine Fn_of (sz := 11) tab_ok [0, 1, 2, 3, 4, 5, 6] [.tmp 4] Tryd.func38 rfl rfl rfl (by simp) ?_
 simp only [initSt, initEnv, List.getD_cons_zero, List.getD_cons_succ, List.getD_nil]
 refine W_sound tab_ok mixed 20 _ _ _ ?_
 simp -implicitDefEqProofs only [go_sem, Nat.reduceBEq, Nat.reduceAdd, Nat.reduceLT, Nat.reduceLeDiff]
 repeat with_reducible refine And.intro (by first | kernel_rfl | decide) ?_
 refine Wp_wkK (Wk_ownC 10 0 1 rfl rfl (by decide) (by decide)) rfl ?_
 simp -implicitDefEqProofs only [go_sem, Nat.reduceBEq, Nat.reduceAdd, setO]
 replace h := bnd'_some h; obtain ⟨oo, h2808, h⟩ := h
 rcases oo with ⟨c2809, n2810, c2811, c2812⟩ | ⟨c2814, n2815, n2816, c2817, c2818⟩
 ·(try dsimp only at h)
  refine W_sound tab_ok mixed 2 _ _ _ ?_
  simp -implicitDefEqProofs only [go_sem, Nat.reduceBEq, Nat.reduceLT]
  repeat with_reducible refine And.intro (by first | kernel_rfl | decide) ?_
  refine Wp_callD [3, 10, 18, 4, 0, 17] (c79_7_a N _ _ _ _ _ _ _ h2808) rfl rfl rfl (by first | rfl | (simp only [go_sem, Nat.reduceBEq, Nat.reduceAdd, Nat.reduceSub, Nat.reduceMul, Nat.reduceLT, Nat.reduceLeDiff, Int.reduceLE, Int.reduceLT, Int.reduceToNat, Int.reduceBEq, Int.reduceBNe, ↓reduceIte] <;> rfl)) rfl (by kernel_rfl) ?_
  refine W_sound tab_ok mixed 8 _ _ _ ?_
  simp -implicitDefEqProofs only [go_sem, Nat.reduceBEq, Nat.reduceAdd, Nat.reduceSub, Nat.reduceMul, Nat.reduceLT, Nat.reduceLeDiff]
  repeat with_reducible refine And.intro (by first | kernel_rfl | decide) ?_
  replace h := grd_some h; obtain ⟨g2813, h⟩ := h
  refine FinQ_wk (Wk_freeze 28 c2812 (by rfl) (by decide) (by decide)) ?_
  simp -implicitDefEqProofs only [go_sem, Nat.reduceBEq, g2813]
  simp only [Option.some.injEq, Prod.mk.injEq] at h; obtain ⟨rfl, rfl⟩ := h
  exact finD (st' := ⟨[], [(0, .dead), (1, .dead), (2, .dead), (3, .dead), (4, .v (.lst false 1 c2812)), (5, .dead), (6, .dead)], [(0, .p c2811)], 1, []⟩) (keepE_le [4] _) (OLe.refl _) (by kernel_rfl) (by simp only [go_sem, Nat.reduceBEq, resQ_tmp, resQ_nil, retD_one]; try simp [R.val, retD_one, retD_two, retD_three, retD_none])
 ·(try dsimp only at h)
  refine W_sound tab_ok mixed 2 _ _ _ ?_
  simp -implicitDefEqProofs only [go_sem, Nat.reduceBEq, Nat.reduceLT]
  repeat with_reducible refine And.intro (by first | kernel_rfl | decide) ?_
  refine Wp_callD [3, 10, 18, 4, 0, 17] (c79_7_b N _ _ _ _ _ _ _ _ h2808) rfl rfl rfl (by first | rfl | (simp only [go_sem, Nat.reduceBEq, Nat.reduceAdd, Nat.reduceSub, Nat.reduceMul, Nat.reduceLT, Nat.reduceLeDiff, Int.reduceLE, Int.reduceLT, Int.reduceToNat, Int.reduceBEq, Int.reduceBNe, ↓reduceIte] <;> rfl)) rfl (by kernel_rfl) ?_
  refine W_sound tab_ok mixed 8 _ _ _ ?_
  simp -implicitDefEqProofs only [go_sem, Nat.reduceBEq, Nat.reduceAdd, Nat.reduceSub, Nat.reduceMul, Nat.reduceLT, Nat.reduceLeDiff]
  repeat with_reducible refine And.intro (by first | kernel_rfl | decide) ?_
  replace h := grd_some h; obtain ⟨g2819, h⟩ := h
  refine FinQ_wk (Wk_freeze 28 c2818 (by rfl) (by decide) (by decide)) ?_
  simp -implicitDefEqProofs only [go_sem, Nat.reduceBEq, g2819]
  simp only [Option.some.injEq, Prod.mk.injEq] at h; obtain ⟨rfl, rfl⟩ := h
  exact finD (st' := ⟨[], [(0, .dead), (1, .dead), (2, .dead), (3, .dead), (4, .v (.lst false n2815 c2818)), (5, .dead), (6, .dead)], [(0, .p c2817)], 1, []⟩) (keepE_le [4] _) (OLe.refl _) (by kernel_rfl) (by simp only [go_sem, Nat.reduceBEq, resQ_tmp, resQ_nil, retD_one]; try simp [R.val, retD_one, retD_two, retD_three, retD_none])
def m37_L0 (N : Nat) (x1759 : Int) (p1763 : PV) (p1764 : PV) (p1765 : PV) (p1766 : PV) (p1767 : PV) (x1769 : Int) (x1772 : Int) : Nat → Nat → Int → List PV → Option ((Nat × List PV))
 | 0, _, _, _ => none
 | n + 1, n2292, x2293, c2294 =>
  brn (decide (x2293 < (Int.tmod (IntKind.i64.wrap x1772) (IntKind.i64.wrap ((IntKind.i64.wrap (1 + (Int.tmod (IntKind.i64.wrap x1769) x1759))) + 1))))) (
   bnd' (m38_3 N (IntKind.i64.wrap (1 + (Int.tmod (IntKind.i64.wrap x1769) x1759))) n2292 c2294) fun (p2822, c2824) =>
   getL p2822 fun n2826 c2827 =>
   grd (0 ≤ x2293 ∧ x2293 < 5) <|
   grd ((2 + (Int.toNat x2293)) < 7) <|
   getI .u8 (gp [(.int .u8 x1769), (.int .u8 x1772), p1763, p1764, p1765, p1766, p1767] (2 + (Int.toNat x2293))) fun x2832 =>
   grd (((n2826 : Nat) : Int) ≠ 0) <|
   grd (0 ≤ (Int.tmod (IntKind.i64.wrap x2832) ((n2826 : Nat) : Int)) ∧ (Int.tmod (IntKind.i64.wrap x2832) ((n2826 : Nat) : Int)) < ((n2826 : Nat) : Int)) <|
   grd (0 < List.length (List.drop (Int.toNat (Int.tmod (IntKind.i64.wrap x2832) ((n2826 : Nat) : Int))) c2827)) <|
   getL (gp c2827 (Int.toNat (Int.tmod (IntKind.i64.wrap x2832) ((n2826 : Nat) : Int)))) fun n2838 c2839 =>
   grd ((n2292 + 1) ≤ 1099511627776) <|
   grd (List.length c2824 = n2292) <|
   m37_L0 N x1759 p1763 p1764 p1765 p1766 p1767 x1769 x1772 n (n2292 + 1) (IntKind.i64.wrap (x2293 + 1)) (c2824 ++ [(.lst false n2838 c2839)])) (
   some (n2292, c2294))
def m37 (N : Nat) (p1758 : PV) (x1759 : Int) : Option (PV) :=
 getA7 p1758 fun p1761 p1762 p1763 p1764 p1765 p1766 p1767 =>
 getI .u8 p1761 fun x1769 =>
 grd (x1759 ≠ 0) <|
 getI .u8 p1762 fun x1772 =>
 grd ((IntKind.i64.wrap ((IntKind.i64.wrap (1 + (Int.tmod (IntKind.i64.wrap x1769) x1759))) + 1)) ≠ 0) <|
 bnd' (m37_L0 N x1759 p1763 p1764 p1765 p1766 p1767 x1769 x1772 N 0 0 []) fun o =>
 match o with
 | (n2842, c2843) =>
  grd (List.length c2843 = n2842) <|
  some (.tup [(.int .i64 (IntKind.i64.wrap (1 + (Int.tmod (IntKind.i64.wrap x1769) x1759)))), (.lst false n2842 c2843)])
theorem c37 (N : Nat) (p1758 : PV) (x1759 : Int) (r : PV)  (h : m37 N p1758 x1759 = some r) : FnP Tryd.prog 37 [p1758, (.int .i64 x1759)] r := by
 unfold m37 at h
 refine Fn_of (sz := 45) tab_ok [0, 1, 2, 4, 5, 6, 7, 8, 9, 21, 22, 23] [.tmp 4, .tmp 5] Tryd.func37 rfl rfl rfl (by simp) ?_
 simp only [initSt, initEnv, List.map_cons, List.map_nil, List.getD_cons_zero, List.getD_cons_succ, List.getD_nil]
 replace h := getA7_some h; obtain ⟨p1761, p1762, p1763, p1764, p1765, p1766, p1767, h1760, h⟩ := h
 replace h := getI_some h; obtain ⟨x1769, h1768, h⟩ := h
 replace h := grd_some h; obtain ⟨g1770, h⟩ := h
 replace h := getI_some h; obtain ⟨x1772, h1771, h⟩ := h
 replace h := grd_some h; obtain ⟨g1773, h⟩ := h
 refine W_sound tab_ok mixed 31 _ _ _ ?_
 simp -implicitDefEqProofs only [go_sem, Nat.reduceBEq, Nat.reduceAdd, Nat.reduceLT, Nat.reduceLeDiff, Int.reduceLE, Int.reduceToNat, ↓reduceIte, h1760, h1768, g1770, h1771, g1773]
 repeat with_reducible refine And.intro (by first | kernel_rfl | decide) ?_
 refine Wp_weaken (Wk_ownS 7 1 rfl (by decide) (by decide)) ?_
 simp -implicitDefEqProofs only [go_sem, Nat.reduceBEq, Nat.reduceAdd]
 replace h := bnd'_some h; obtain ⟨o2845, h2846, h2847⟩ := h
 refine Wp_cut (fun s => ∃ n2842, ∃ c2843, (n2842, c2843) = o2845 ∧ s = ⟨[], [(0, .dead), (1, .dead), (2, .dead), (4, .dead), (5, .dead), (6, .v (.int .i64 (IntKind.i64.wrap (1 + (Int.tmod (IntKind.i64.wrap x1769) x1759))))), (7, .sl false 0 0 n2842 1), (8, .dead), (9, .dead), (21, .dead), (22, .dead), (23, .dead)], [(0, .p c2843)], 1, []⟩) ?_ ?_
 ·refine Wp_block ?_
  refine Wp_loopG (fun n s => ∃ n2292, ∃ x2293, ∃ c2294, m37_L0 N x1759 p1763 p1764 p1765 p1766 p1767 x1769 x1772 n n2292 x2293 c2294 = some o2845 ∧ s = ⟨[], [(0, .dead), (1, .dead), (2, .ptr 0 0), (4, .dead), (5, .dead), (6, .v (.int .i64 (IntKind.i64.wrap (1 + (Int.tmod (IntKind.i64.wrap x1769) x1759))))), (7, .sl false 1 0 n2292 1), (8, .dead), (9, .dead), (21, .v (.int .i64 (Int.tmod (IntKind.i64.wrap x1772) (IntKind.i64.wrap ((IntKind.i64.wrap (1 + (Int.tmod (IntKind.i64.wrap x1769) x1759))) + 1))))), (22, .v (.int .i64 x2293)), (23, .dead)], [(0, .p [(.int .u8 x1769), (.int .u8 x1772), p1763, p1764, p1765, p1766, p1767]), (1, .p c2294)], 2, []⟩) N _ ?_ ⟨_, _, _, h2846, rfl⟩ ?_
  ·exact Wk_keep [2, 6, 7, 21, 22] (by kernel_rfl)
  clear h2846
  rintro n _ ⟨n2292, x2293, c2294, h2846, rfl⟩
  cases n with
  | zero => cases h2846
  | succ n =>
   rw [m37_L0] at h2846
   replace h2846 := brn_some h2846; rcases h2846 with ⟨h2295, h2846⟩ | ⟨h2295, h2846⟩
   ·replace h2846 := bnd'_some h2846; obtain ⟨⟨p2822, c2824⟩, h2823, h2846⟩ := h2846
    (try dsimp only at h2846)
    refine W_sound tab_ok mixed 18 _ _ _ ?_
    simp -implicitDefEqProofs only [go_sem, Nat.reduceBEq, Nat.reduceLT, ↓reduceIte, h2295]
    repeat with_reducible refine And.intro (by first | kernel_rfl | decide) ?_
    refine Wp_callD [1] (c38_3 N _ _ _ _ _ h2823) rfl rfl rfl (by first | rfl | (simp only [go_sem, Nat.reduceBEq, Nat.reduceAdd, Nat.reduceSub, Nat.reduceMul, Nat.reduceLT, Nat.reduceLeDiff, Int.reduceLE, Int.reduceLT, Int.reduceToNat, Int.reduceBEq, Int.reduceBNe, ↓reduceIte, h1760, h1768, g1770, h1771, g1773, h2295] <;> rfl)) rfl (by kernel_rfl) ?_
    replace h2846 := getL_some h2846; obtain ⟨n2826, c2827, h2825, h2846⟩ := h2846
    replace h2846 := grd_some h2846; obtain ⟨⟨g2828, g2829⟩, h2846⟩ := h2846
    replace h2846 := grd_some h2846; obtain ⟨g2830, h2846⟩ := h2846
    replace h2846 := getI_some h2846; obtain ⟨x2832, h2831, h2846⟩ := h2846
    replace h2846 := grd_some h2846; obtain ⟨g2833, h2846⟩ := h2846
    replace h2846 := grd_some h2846; obtain ⟨⟨g2834, g2835⟩, h2846⟩ := h2846
    replace h2846 := grd_some h2846; obtain ⟨g2836, h2846⟩ := h2846
    replace h2846 := getL_some h2846; obtain ⟨n2838, c2839, h2837, h2846⟩ := h2846
    replace h2846 := grd_some h2846; obtain ⟨g2840, h2846⟩ := h2846
    replace h2846 := grd_some h2846; obtain ⟨g2841, h2846⟩ := h2846
    refine W_sound tab_ok mixed 24 _ _ _ ?_
    simp -implicitDefEqProofs only [go_sem, Nat.reduceBEq, Nat.reduceAdd, Nat.reduceSub, Nat.reduceMul, Nat.reduceLT, Nat.reduceLeDiff, Int.reduceLE, Int.reduceToNat, ↓reduceIte, h2825, g2828, g2829, g2830, h2831, g2833, g2834, g2835, g2836, h2837, g2840, g2841]
    repeat with_reducible refine And.intro (by first | kernel_rfl | decide) ?_
    refine cutQ _ ?_ ⟨n, Nat.lt_succ_self n, _, _, _, h2846, rfl⟩
    exact Wk_keep [2, 6, 7, 21, 22] (by kernel_rfl)
   ·refine W_sound tab_ok mixed 7 _ _ _ ?_
    simp -implicitDefEqProofs only [go_sem, Nat.reduceBEq, Nat.reduceLT, ↓reduceIte, h2295]
    repeat with_reducible refine And.intro (by first | kernel_rfl | decide) ?_
    obtain rfl := Option.some.inj h2846
    refine cutQ _ ?_ ⟨_, _, rfl, rfl⟩
    exact Wk_keep [6, 7] (by kernel_rfl)
 ·rintro _ ⟨n2842, c2843, rfl, rfl⟩
  (try dsimp only at h2847)
  refine W_sound tab_ok mixed 9 _ _ _ ?_
  simp -implicitDefEqProofs only [go_sem, Nat.reduceBEq, Nat.reduceLT]
  repeat with_reducible refine And.intro (by first | kernel_rfl | decide) ?_
  replace h2847 := grd_some h2847; obtain ⟨g2844, h2847⟩ := h2847
  refine FinQ_wk (Wk_freeze 0 c2843 (by rfl) (by decide) (by decide)) ?_
  simp -implicitDefEqProofs only [go_sem, Nat.reduceBEq, g2844]
  obtain rfl := Option.some.inj h2847
  exact finC [(4, .v (.int .i64 (IntKind.i64.wrap (1 + (Int.tmod (IntKind.i64.wrap x1769) x1759))))), (5, .v (.lst false n2842 c2843))] [(4, .v (.int .i64 (IntKind.i64.wrap (1 + (Int.tmod (IntKind.i64.wrap x1769) x1759))))), (5, .v (.lst false n2842 c2843))] (by simp [leE, lk_cons]) (.cons _ _ _ _ _ (.v _ _ (.refl _)) (.cons _ _ _ _ _ (.v _ _ (.refl _)) .nil)) (by rfl) (by simp [leE, lk_cons]) (by decide) (by decide) rfl (by simp only [go_sem, Nat.reduceBEq, resQ_tmp, resQ_nil, retD_two]; try simp [R.val, retD_one, retD_two, retD_three, retD_none])
def m40_L2 (N : Nat) (x2848 : Int) (n2851 : Nat) (c2852 : List PV) (x2854 : Int) (n2860 : Nat) (c2861 : List PV) (x2863 : Int) (x2869 : Int) : Nat → Int → Option ((PV ⊕ Unit))
 | 0, _ => none
 | n + 1, x2881 =>
  brn (decide (x2881 < (((Int.toNat x2854) : Nat) : Int))) (
   grd (0 ≤ x2881 ∧ x2881 < (((Int.toNat x2854) : Nat) : Int)) <|
   grd (0 < List.length (List.drop (Int.toNat x2881) (List.take (Int.toNat x2854) c2852)) ∧ (Int.toNat x2881) < (Int.toNat x2854)) <|
   getL (gp c2852 (Int.toNat x2881)) fun n2888 c2889 =>
   grd (x2863 < ((n2888 : Nat) : Int)) <|
   grd (0 < List.length (List.drop (Int.toNat x2863) c2889)) <|
   getI .i64 (gp c2889 (Int.toNat x2863)) fun x2893 =>
   brn (x2893 == x2869) (
    some (.inl (.bool false))) (
    m40_L2 N x2848 n2851 c2852 x2854 n2860 c2861 x2863 x2869 n (IntKind.i64.wrap (x2881 + 1)))) (
   some (.inr ()))
def m40_L1 (N : Nat) (x2848 : Int) (n2851 : Nat) (c2852 : List PV) (x2854 : Int) (n2860 : Nat) (c2861 : List PV) : Nat → Int → Option ((PV ⊕ Unit))
 | 0, _ => none
 | n + 1, x2863 =>
  brn (decide (x2863 < ((n2860 : Nat) : Int))) (
   grd (0 ≤ x2863 ∧ x2863 < ((n2860 : Nat) : Int)) <|
   grd (0 < List.length (List.drop (Int.toNat x2863) c2861)) <|
   getI .i64 (gp c2861 (Int.toNat x2863)) fun x2869 =>
   brn (decide (x2869 < 0)) (
    some (.inl (.bool false))) (
    brn (decide (x2869 ≥ x2848)) (
     some (.inl (.bool false))) (
     grd (x2863 ≤ ((n2860 : Nat) : Int)) <|
     grd (List.length c2861 = n2860) <|
     bnd' (m57 N (.lst false (Int.toNat x2863) (List.take (Int.toNat x2863) c2861)) x2869) fun p2874 =>
     getB p2874 fun b2877 =>
     brn b2877 (
      some (.inl (.bool false))) (
      grd (x2854 ≤ ((n2851 : Nat) : Int)) <|
      grd (List.length c2852 = n2851) <|
      bnd' (m40_L2 N x2848 n2851 c2852 x2854 n2860 c2861 x2863 x2869 N 0) fun o =>
      match o with
      | .inl p2895 =>
       some (.inl p2895)
      | .inr () =>
       m40_L1 N x2848 n2851 c2852 x2854 n2860 c2861 n (IntKind.i64.wrap (x2863 + 1)))))) (
   some (.inr ()))
def m40_L0 (N : Nat) (x2848 : Int) (n2851 : Nat) (c2852 : List PV) : Nat → Int → Option ((PV ⊕ Unit))
 | 0, _ => none
 | n + 1, x2854 =>
  brn (decide (x2854 < ((n2851 : Nat) : Int))) (
   grd (0 ≤ x2854 ∧ x2854 < ((n2851 : Nat) : Int)) <|
   grd (0 < List.length (List.drop (Int.toNat x2854) c2852)) <|
   getL (gp c2852 (Int.toNat x2854)) fun n2860 c2861 =>
   brn (((n2860 : Nat) : Int) != x2848) (
    some (.inl (.bool false))) (
    bnd' (m40_L1 N x2848 n2851 c2852 x2854 n2860 c2861 N 0) fun o =>
    match o with
    | .inl p2896 =>
     some (.inl p2896)
    | .inr () =>
     m40_L0 N x2848 n2851 c2852 n (IntKind.i64.wrap (x2854 + 1)))) (
   some (.inr ()))
def m40 (N : Nat) (x2848 : Int) (p2849 : PV) : Option (PV) :=
 getL p2849 fun n2851 c2852 =>
 brn (decide (((n2851 : Nat) : Int) > x2848)) (
  some (.bool false)) (
  bnd' (m40_L0 N x2848 n2851 c2852 N 0) fun o =>
  match o with
  | .inl p2897 =>
   some p2897
  | .inr () =>
   some (.bool true))
theorem c40 (N : Nat) (x2848 : Int) (p2849 : PV) (r : PV)  (h : m40 N x2848 p2849 = some r) : FnP Tryd.prog 40 [(.int .i64 x2848), p2849] r := by
 unfold m40 at h
 refine Fn_of (sz := 64) tab_ok [0, 1, 4, 5, 6, 7, 8, 10, 14, 15, 16, 17, 18, 25, 26, 27, 28, 29, 46, 49, 50, 51, 52, 60] [.tmp 4] Tryd.func40 rfl rfl rfl (by simp) ?_
 simp only [initSt, initEnv, List.map_cons, List.map_nil, List.getD_cons_zero, List.getD_cons_succ, List.getD_nil]
 replace h := getL_some h; obtain ⟨n2851, c2852, h2850, h⟩ := h
 replace h := brn_some h; rcases h with ⟨h2853, h⟩ | ⟨h2853, h⟩
 ·refine W_sound tab_ok mixed 19 _ _ _ ?_
  simp -implicitDefEqProofs only [go_sem, Nat.reduceBEq, Nat.reduceLT, ↓reduceIte, h2850, h2853]
  repeat with_reducible refine And.intro (by first | kernel_rfl | decide) ?_
  obtain rfl := Option.some.inj h
  exact finC [(4, .v (.bool false))] [(4, .v (.bool false))] (by simp [leE, lk_cons]) (.cons _ _ _ _ _ (.v _ _ (.refl _)) .nil) (by rfl) (by simp [leE, lk_cons]) (by decide) (by decide) rfl (by simp only [go_sem, Nat.reduceBEq, resQ_tmp, resQ_nil, retD_one]; try simp [R.val, retD_one, retD_two, retD_three, retD_none])
 ·refine W_sound tab_ok mixed 21 _ _ _ ?_
  simp -implicitDefEqProofs only [go_sem, Nat.reduceBEq, Nat.reduceLT, ↓reduceIte, h2850, h2853]
  repeat with_reducible refine And.intro (by first | kernel_rfl | decide) ?_
  replace h := bnd'_some h; obtain ⟨o2898, h2899, h2900⟩ := h
  refine Wp_cut (fun s => (.inr ()) = o2898 ∧ s = ⟨[], [(0, .dead), (1, .dead), (4, .dead), (5, .dead), (6, .dead), (7, .dead), (8, .dead), (10, .dead), (14, .dead), (15, .dead), (16, .dead), (17, .dead), (18, .dead), (25, .dead), (26, .dead), (27, .dead), (28, .dead), (29, .dead), (46, .dead), (49, .dead), (50, .dead), (51, .dead), (52, .dead), (60, .dead)], [], 0, []⟩) ?_ ?_
  ·refine Wp_block ?_
   refine Wp_loopG (fun n s => ∃ x2854, m40_L0 N x2848 n2851 c2852 n x2854 = some o2898 ∧ s = ⟨[], [(0, .v (.int .i64 x2848)), (1, .v (.lst false n2851 c2852)), (4, .dead), (5, .dead), (6, .dead), (7, .dead), (8, .dead), (10, .dead), (14, .dead), (15, .v (.lst false n2851 c2852)), (16, .v (.int .i64 ((n2851 : Nat) : Int))), (17, .v (.int .i64 x2854)), (18, .dead), (25, .dead), (26, .dead), (27, .dead), (28, .dead), (29, .dead), (46, .dead), (49, .dead), (50, .dead), (51, .dead), (52, .dead), (60, .dead)], [], 0, []⟩) N _ ?_ ⟨_, h2899, rfl⟩ ?_
   ·exact Wk_keep [0, 1, 15, 16, 17] (by kernel_rfl)
   clear h2899
   rintro n _ ⟨x2854, h2899, rfl⟩
   cases n with
   | zero => cases h2899
   | succ n =>
    rw [m40_L0] at h2899
    replace h2899 := brn_some h2899; rcases h2899 with ⟨h2855, h2899⟩ | ⟨h2855, h2899⟩
    ·replace h2899 := grd_some h2899; obtain ⟨⟨g2856, g2857⟩, h2899⟩ := h2899
     replace h2899 := grd_some h2899; obtain ⟨g2858, h2899⟩ := h2899
     replace h2899 := getL_some h2899; obtain ⟨n2860, c2861, h2859, h2899⟩ := h2899
     replace h2899 := brn_some h2899; rcases h2899 with ⟨h2862, h2899⟩ | ⟨h2862, h2899⟩
     ·refine W_sound tab_ok mixed 32 _ _ _ ?_
      simp -implicitDefEqProofs only [go_sem, Nat.reduceBEq, Nat.reduceLT, ↓reduceIte, g2856, g2857, g2858, h2859, h2862]
      repeat with_reducible refine And.intro (by first | kernel_rfl | decide) ?_
      obtain rfl := Option.some.inj h2899
      (try dsimp only at h2900)
      obtain rfl := Option.some.inj h2900
      exact finC [(4, .v (.bool false))] [(4, .v (.bool false))] (by simp [leE, lk_cons]) (.cons _ _ _ _ _ (.v _ _ (.refl _)) .nil) (by rfl) (by simp [leE, lk_cons]) (by decide) (by decide) rfl (by simp only [go_sem, Nat.reduceBEq, resQ_tmp, resQ_nil, retD_one]; try simp [R.val, retD_one, retD_two, retD_three, retD_none])
     ·refine W_sound tab_ok mixed 33 _ _ _ ?_
      simp -implicitDefEqProofs only [go_sem, Nat.reduceBEq, Nat.reduceLT, ↓reduceIte, g2856, g2857, g2858, h2859, h2862]
      repeat with_reducible refine And.intro (by first | kernel_rfl | decide) ?_
      replace h2899 := bnd'_some h2899; obtain ⟨o2901, h2902, h2903⟩ := h2899
      refine Wp_cut (fun s => (.inr ()) = o2901 ∧ s = ⟨[], [(0, .v (.int .i64 x2848)), (1, .v (.lst false n2851 c2852)), (4, .dead), (5, .dead), (6, .dead), (7, .dead), (8, .dead), (10, .dead), (14, .dead), (15, .v (.lst false n2851 c2852)), (16, .v (.int .i64 ((n2851 : Nat) : Int))), (17, .v (.int .i64 x2854)), (18, .dead), (25, .dead), (26, .dead), (27, .dead), (28, .dead), (29, .dead), (46, .dead), (49, .dead), (50, .dead), (51, .dead), (52, .dead), (60, .dead)], [], 0, []⟩) ?_ ?_
      ·refine Wp_block ?_
       refine Wp_loopG (fun n s => ∃ x2863, m40_L1 N x2848 n2851 c2852 x2854 n2860 c2861 n x2863 = some o2901 ∧ s = ⟨[], [(0, .v (.int .i64 x2848)), (1, .v (.lst false n2851 c2852)), (4, .dead), (5, .v (.int .i64 x2854)), (6, .v (.lst false n2860 c2861)), (7, .dead), (8, .dead), (10, .dead), (14, .dead), (15, .v (.lst false n2851 c2852)), (16, .v (.int .i64 ((n2851 : Nat) : Int))), (17, .v (.int .i64 x2854)), (18, .dead), (25, .dead), (26, .v (.lst false n2860 c2861)), (27, .v (.int .i64 ((n2860 : Nat) : Int))), (28, .v (.int .i64 x2863)), (29, .dead), (46, .dead), (49, .dead), (50, .dead), (51, .dead), (52, .dead), (60, .dead)], [], 0, []⟩) N _ ?_ ⟨_, h2902, rfl⟩ ?_
       ·exact Wk_keep [0, 1, 5, 6, 15, 16, 17, 26, 27, 28] (by kernel_rfl)
       clear h2902
       rintro n _ ⟨x2863, h2902, rfl⟩
       cases n with
       | zero => cases h2902
       | succ n =>
        rw [m40_L1] at h2902
        replace h2902 := brn_some h2902; rcases h2902 with ⟨h2864, h2902⟩ | ⟨h2864, h2902⟩
        ·replace h2902 := grd_some h2902; obtain ⟨⟨g2865, g2866⟩, h2902⟩ := h2902
         replace h2902 := grd_some h2902; obtain ⟨g2867, h2902⟩ := h2902
         replace h2902 := getI_some h2902; obtain ⟨x2869, h2868, h2902⟩ := h2902
         replace h2902 := brn_some h2902; rcases h2902 with ⟨h2870, h2902⟩ | ⟨h2870, h2902⟩
         ·refine W_sound tab_ok mixed 42 _ _ _ ?_
          simp -implicitDefEqProofs only [go_sem, Nat.reduceBEq, Nat.reduceLT, ↓reduceIte, g2865, g2866, g2867, h2868, h2870]
          repeat with_reducible refine And.intro (by first | kernel_rfl | decide) ?_
          obtain rfl := Option.some.inj h2902
          (try dsimp only at h2903)
          obtain rfl := Option.some.inj h2903
          (try dsimp only at h2900)
          obtain rfl := Option.some.inj h2900
          exact finC [(4, .v (.bool false))] [(4, .v (.bool false))] (by simp [leE, lk_cons]) (.cons _ _ _ _ _ (.v _ _ (.refl _)) .nil) (by rfl) (by simp [leE, lk_cons]) (by decide) (by decide) rfl (by simp only [go_sem, Nat.reduceBEq, resQ_tmp, resQ_nil, retD_one]; try simp [R.val, retD_one, retD_two, retD_three, retD_none])
         ·replace h2902 := brn_some h2902; rcases h2902 with ⟨h2871, h2902⟩ | ⟨h2871, h2902⟩
          ·refine W_sound tab_ok mixed 42 _ _ _ ?_
           simp -implicitDefEqProofs only [go_sem, Nat.reduceBEq, Nat.reduceLT, ↓reduceIte, g2865, g2866, g2867, h2868, h2870, h2871]
           repeat with_reducible refine And.intro (by first | kernel_rfl | decide) ?_
           obtain rfl := Option.some.inj h2902
           (try dsimp only at h2903)
           obtain rfl := Option.some.inj h2903
           (try dsimp only at h2900)
           obtain rfl := Option.some.inj h2900
           exact finC [(4, .v (.bool false))] [(4, .v (.bool false))] (by simp [leE, lk_cons]) (.cons _ _ _ _ _ (.v _ _ (.refl _)) .nil) (by rfl) (by simp [leE, lk_cons]) (by decide) (by decide) rfl (by simp only [go_sem, Nat.reduceBEq, resQ_tmp, resQ_nil, retD_one]; try simp [R.val, retD_one, retD_two, retD_three, retD_none])
          ·replace h2902 := grd_some h2902; obtain ⟨g2872, h2902⟩ := h2902
           replace h2902 := grd_some h2902; obtain ⟨g2873, h2902⟩ := h2902
           replace h2902 := bnd'_some h2902; obtain ⟨p2874, h2875, h2902⟩ := h2902
           refine W_sound tab_ok mixed 32 _ _ _ ?_
           simp -implicitDefEqProofs only [go_sem, Nat.reduceBEq, Nat.reduceLT, ↓reduceIte, g2865, g2866, g2867, h2868, h2870, h2871, g2872, g2873]
           repeat with_reducible refine And.intro (by first | kernel_rfl | decide) ?_
           refine Wp_callP (c57 N _ _ _ h2875) (by kernel_rfl) rfl rfl rfl rfl (by decide) ?_
           replace h2902 := getB_some h2902; obtain ⟨b2877, h2876, h2902⟩ := h2902
           replace h2902 := brn_some h2902; rcases h2902 with ⟨h2878, h2902⟩ | ⟨h2878, h2902⟩
           ·refine W_sound tab_ok mixed 9 _ _ _ ?_
            simp -implicitDefEqProofs only [go_sem, Nat.reduceBEq, Nat.reduceLT, h2876, h2878]
            repeat with_reducible refine And.intro (by first | kernel_rfl | decide) ?_
            obtain rfl := Option.some.inj h2902
            (try dsimp only at h2903)
            obtain rfl := Option.some.inj h2903
            (try dsimp only at h2900)
            obtain rfl := Option.some.inj h2900
            exact finC [(4, .v (.bool false))] [(4, .v (.bool false))] (by simp [leE, lk_cons]) (.cons _ _ _ _ _ (.v _ _ (.refl _)) .nil) (by rfl) (by simp [leE, lk_cons]) (by decide) (by decide) rfl (by simp only [go_sem, Nat.reduceBEq, resQ_tmp, resQ_nil, retD_one]; try simp [R.val, retD_one, retD_two, retD_three, retD_none])
           ·replace h2902 := grd_some h2902; obtain ⟨g2879, h2902⟩ := h2902
            replace h2902 := grd_some h2902; obtain ⟨g2880, h2902⟩ := h2902
            refine W_sound tab_ok mixed 12 _ _ _ ?_
            simp -implicitDefEqProofs only [go_sem, Nat.reduceBEq, Nat.reduceLT, g2856, h2876, h2878, g2879, g2880]
            repeat with_reducible refine And.intro (by first | kernel_rfl | decide) ?_
            replace h2902 := bnd'_some h2902; obtain ⟨o2904, h2905, h2906⟩ := h2902
            refine Wp_cut (fun s => (.inr ()) = o2904 ∧ s = ⟨[], [(0, .v (.int .i64 x2848)), (1, .v (.lst false n2851 c2852)), (4, .dead), (5, .v (.int .i64 x2854)), (6, .v (.lst false n2860 c2861)), (7, .dead), (8, .dead), (10, .dead), (14, .dead), (15, .v (.lst false n2851 c2852)), (16, .v (.int .i64 ((n2851 : Nat) : Int))), (17, .v (.int .i64 x2854)), (18, .dead), (25, .dead), (26, .v (.lst false n2860 c2861)), (27, .v (.int .i64 ((n2860 : Nat) : Int))), (28, .v (.int .i64 x2863)), (29, .dead), (46, .dead), (49, .dead), (50, .dead), (51, .dead), (52, .dead), (60, .dead)], [], 0, []⟩) ?_ ?_
            ·refine Wp_block ?_
             refine Wp_loopG (fun n s => ∃ x2881, m40_L2 N x2848 n2851 c2852 x2854 n2860 c2861 x2863 x2869 n x2881 = some o2904 ∧ s = ⟨[], [(0, .v (.int .i64 x2848)), (1, .v (.lst false n2851 c2852)), (4, .dead), (5, .v (.int .i64 x2854)), (6, .v (.lst false n2860 c2861)), (7, .v (.int .i64 x2863)), (8, .v (.int .i64 x2869)), (10, .dead), (14, .dead), (15, .v (.lst false n2851 c2852)), (16, .v (.int .i64 ((n2851 : Nat) : Int))), (17, .v (.int .i64 x2854)), (18, .dead), (25, .dead), (26, .v (.lst false n2860 c2861)), (27, .v (.int .i64 ((n2860 : Nat) : Int))), (28, .v (.int .i64 x2863)), (29, .dead), (46, .dead), (49, .v (.lst false (Int.toNat x2854) (List.take (Int.toNat x2854) c2852))), (50, .v (.int .i64 (((Int.toNat x2854) : Nat) : Int))), (51, .v (.int .i64 x2881)), (52, .dead), (60, .dead)], [], 0, []⟩) N _ ?_ ⟨_, h2905, rfl⟩ ?_
             ·exact Wk_keep [0, 1, 5, 6, 7, 8, 15, 16, 17, 26, 27, 28, 49, 50, 51] (by kernel_rfl)
             clear h2905
             rintro n _ ⟨x2881, h2905, rfl⟩
             cases n with
             | zero => cases h2905
             | succ n =>
              rw [m40_L2] at h2905
              replace h2905 := brn_some h2905; rcases h2905 with ⟨h2882, h2905⟩ | ⟨h2882, h2905⟩
              ·replace h2905 := grd_some h2905; obtain ⟨⟨g2883, g2884⟩, h2905⟩ := h2905
               replace h2905 := grd_some h2905; obtain ⟨⟨g2885, g2886⟩, h2905⟩ := h2905
               replace h2905 := getL_some h2905; obtain ⟨n2888, c2889, h2887, h2905⟩ := h2905
               replace h2905 := grd_some h2905; obtain ⟨g2890, h2905⟩ := h2905
               replace h2905 := grd_some h2905; obtain ⟨g2891, h2905⟩ := h2905
               replace h2905 := getI_some h2905; obtain ⟨x2893, h2892, h2905⟩ := h2905
               replace h2905 := brn_some h2905; rcases h2905 with ⟨h2894, h2905⟩ | ⟨h2894, h2905⟩
               ·refine W_sound tab_ok mixed 31 _ _ _ ?_
                simp -implicitDefEqProofs only [go_sem, Nat.reduceBEq, Nat.reduceLT, ↓reduceIte, g2865, g2883, g2884, g2885, g2886, h2887, g2890, g2891, h2892, h2894]
                repeat with_reducible refine And.intro (by first | kernel_rfl | decide) ?_
                obtain rfl := Option.some.inj h2905
                (try dsimp only at h2906)
                obtain rfl := Option.some.inj h2906
                (try dsimp only at h2903)
                obtain rfl := Option.some.inj h2903
                (try dsimp only at h2900)
                obtain rfl := Option.some.inj h2900
                exact finC [(4, .v (.bool false))] [(4, .v (.bool false))] (by simp [leE, lk_cons]) (.cons _ _ _ _ _ (.v _ _ (.refl _)) .nil) (by rfl) (by simp [leE, lk_cons]) (by decide) (by decide) rfl (by simp only [go_sem, Nat.reduceBEq, resQ_tmp, resQ_nil, retD_one]; try simp [R.val, retD_one, retD_two, retD_three, retD_none])
               ·refine W_sound tab_ok mixed 31 _ _ _ ?_
                simp -implicitDefEqProofs only [go_sem, Nat.reduceBEq, Nat.reduceLT, Int.reduceLE, Int.reduceToNat, ↓reduceIte, g2865, g2883, g2884, g2885, g2886, h2887, g2890, g2891, h2892, h2894]
                repeat with_reducible refine And.intro (by first | kernel_rfl | decide) ?_
                refine cutQ _ ?_ ⟨n, Nat.lt_succ_self n, _, h2905, rfl⟩
                exact Wk_keep [0, 1, 5, 6, 7, 8, 15, 16, 17, 26, 27, 28, 49, 50, 51] (by kernel_rfl)
              ·refine W_sound tab_ok mixed 7 _ _ _ ?_
               simp -implicitDefEqProofs only [go_sem, Nat.reduceBEq, Nat.reduceLT, ↓reduceIte, h2882]
               repeat with_reducible refine And.intro (by first | kernel_rfl | decide) ?_
               obtain rfl := Option.some.inj h2905
               refine cutQ _ ?_ ⟨rfl, rfl⟩
               exact Wk_keep [0, 1, 5, 6, 15, 16, 17, 26, 27, 28] (by kernel_rfl)
            ·rintro _ ⟨rfl, rfl⟩
             (try dsimp only at h2906)
             refine W_sound tab_ok mixed 5 _ _ _ ?_
             simp -implicitDefEqProofs only [go_sem, Nat.reduceBEq, Nat.reduceLT, Int.reduceLE, Int.reduceToNat, ↓reduceIte]
             repeat with_reducible refine And.intro (by first | kernel_rfl | decide) ?_
             refine cutQ _ ?_ ⟨n, Nat.lt_succ_self n, _, h2906, rfl⟩
             exact Wk_keep [0, 1, 5, 6, 15, 16, 17, 26, 27, 28] (by kernel_rfl)
        ·refine W_sound tab_ok mixed 7 _ _ _ ?_
         simp -implicitDefEqProofs only [go_sem, Nat.reduceBEq, Nat.reduceLT, ↓reduceIte, h2864]
         repeat with_reducible refine And.intro (by first | kernel_rfl | decide) ?_
         obtain rfl := Option.some.inj h2902
         refine cutQ _ ?_ ⟨rfl, rfl⟩
         exact Wk_keep [0, 1, 15, 16, 17] (by kernel_rfl)
      ·rintro _ ⟨rfl, rfl⟩
       (try dsimp only at h2903)
       refine W_sound tab_ok mixed 5 _ _ _ ?_
       simp -implicitDefEqProofs only [go_sem, Nat.reduceBEq, Nat.reduceLT, Int.reduceLE, Int.reduceToNat, ↓reduceIte]
       repeat with_reducible refine And.intro (by first | kernel_rfl | decide) ?_
       refine cutQ _ ?_ ⟨n, Nat.lt_succ_self n, _, h2903, rfl⟩
       exact Wk_keep [0, 1, 15, 16, 17] (by kernel_rfl)
    ·refine W_sound tab_ok mixed 7 _ _ _ ?_
     simp -implicitDefEqProofs only [go_sem, Nat.reduceBEq, Nat.reduceLT, ↓reduceIte, h2855]
     repeat with_reducible refine And.intro (by first | kernel_rfl | decide) ?_
     obtain rfl := Option.some.inj h2899
     refine cutQ _ ?_ ⟨rfl, rfl⟩
     exact Wk_keep [] (by kernel_rfl)
  ·rintro _ ⟨rfl, rfl⟩
   (try dsimp only at h2900)
   refine W_sound tab_ok mixed 6 _ _ _ ?_
   simp -implicitDefEqProofs only [go_sem, Nat.reduceBEq, Nat.reduceLT]
   repeat with_reducible refine And.intro (by first | kernel_rfl | decide) ?_
   obtain rfl := Option.some.inj h2900
   exact finC [(4, .v (.bool true))] [(4, .v (.bool true))] (by simp [leE, lk_cons]) (.cons _ _ _ _ _ (.v _ _ (.refl _)) .nil) (by rfl) (by simp [leE, lk_cons]) (by decide) (by decide) rfl (by simp only [go_sem, Nat.reduceBEq, resQ_tmp, resQ_nil, retD_one]; try simp [R.val, retD_one, retD_two, retD_three, retD_none])
def m83 (N : Nat) (x1235 : Int) (p1236 : PV) : Option (((Int × Int) ⊕ (Int × Int × List PV))) :=
 getL p1236 fun n1238 c1239 =>
 brn (decide (((n1238 : Nat) : Int) > 0)) (
  grd (0 < ((n1238 : Nat) : Int)) <|
  grd (0 < List.length c1239) <|
  getL (gp c1239 0) fun n1244 c1245 =>
  bnd' (m61 N x1235 (.lst false n1238 c1239) ((n1244 : Nat) : Int)) fun o =>
  match o with
  | .inl x1247 =>
   some (.inl (((n1244 : Nat) : Int), x1247))
  | .inr (x1250, c1251) =>
   some (.inr (((n1244 : Nat) : Int), x1250, c1251))) (
  bnd' (m61 N x1235 (.lst false n1238 c1239) 0) fun o =>
  match o with
  | .inl x1256 =>
   some (.inl (0, x1256))
  | .inr (x1259, c1260) =>
   some (.inr (0, x1259, c1260)))
theorem c83 (N : Nat) (x1235 : Int) (p1236 : PV) (r : ((Int × Int) ⊕ (Int × Int × List PV)))  (h : m83 N x1235 p1236 = some r) : V.Fn Tryd.prog 83 0 [.v (.int .i64 x1235), .v p1236] [] (fun d ob' => match (generalizing := false) r with | .inl (x1248, x1249) => d = .v (.tup [(.fn 999999 [.bool true]), (.int .i64 x1248), (.int .i64 x1249)]) ∧ ob' = [] | .inr (x1252, x1253, c1254) => d = .tup [.ptr 0 0, .v (.int .i64 x1252), .v (.int .i64 x1253)] ∧ ob' = [(0, .p c1254)]) := by
 unfold m83 at h
 refine Fn_of (sz := 27) tab_ok [0, 1, 4, 5, 6, 7, 8, 9, 12] [.tmp 4, .tmp 5, .tmp 6] Tryd.func83 rfl rfl rfl (by simp) ?_
 simp only [initSt, initEnv, List.getD_cons_zero, List.getD_cons_succ, List.getD_nil]
 replace h := getL_some h; obtain ⟨n1238, c1239, h1237, h⟩ := h
 replace h := brn_some h; rcases h with ⟨h1240, h⟩ | ⟨h1240, h⟩
 ·replace h := grd_some h; obtain ⟨g1241, h⟩ := h
  replace h := grd_some h; obtain ⟨g1242, h⟩ := h
  replace h := getL_some h; obtain ⟨n1244, c1245, h1243, h⟩ := h
  replace h := bnd'_some h; obtain ⟨oo, h1246, h⟩ := h
  rcases oo with x1247 | ⟨x1250, c1251⟩
  ·(try dsimp only at h)
   refine W_sound tab_ok mixed 30 _ _ _ ?_
   simp -implicitDefEqProofs only [go_sem, Nat.reduceBEq, Nat.reduceLT, ↓reduceIte, h1237, g1241, g1242, h1243]
   repeat with_reducible refine And.intro (by first | kernel_rfl | decide) ?_
   refine Wp_callD [] (c61_a N _ _ _ _ h1246) rfl rfl rfl (by first | rfl | (simp only [go_sem, Nat.reduceBEq, Nat.reduceAdd, Nat.reduceSub, Nat.reduceMul, Nat.reduceLT, Nat.reduceLeDiff, Int.reduceLE, Int.reduceLT, Int.reduceToNat, Int.reduceBEq, Int.reduceBNe, ↓reduceIte, h1237, h1240, g1241, g1242, h1243] <;> rfl)) rfl (by kernel_rfl) ?_
   refine W_sound tab_ok mixed 17 _ _ _ ?_
   simp -implicitDefEqProofs only [go_sem, Nat.reduceBEq, Nat.reduceLT]
   repeat with_reducible refine And.intro (by first | kernel_rfl | decide) ?_
   obtain rfl := Option.some.inj h
   exact finD (st' := ⟨[], [(0, .dead), (1, .dead), (4, .v (.fn 999999 [.bool true])), (5, .v (.int .i64 ((n1244 : Nat) : Int))), (6, .v (.int .i64 x1247)), (7, .dead), (8, .dead), (9, .dead), (12, .dead)], [], 0, []⟩) (keepE_le [4, 5, 6] _) (OLe.refl _) (by kernel_rfl) (by simp only [go_sem, Nat.reduceBEq, resQ_tmp, resQ_nil, retD_three] <;> first | rfl | exact ⟨rfl, rfl⟩ | (try simp [R.val, retD_one, retD_two, retD_three, retD_none]))
  ·(try dsimp only at h)
   refine W_sound tab_ok mixed 30 _ _ _ ?_
   simp -implicitDefEqProofs only [go_sem, Nat.reduceBEq, Nat.reduceLT, ↓reduceIte, h1237, g1241, g1242, h1243]
   repeat with_reducible refine And.intro (by first | kernel_rfl | decide) ?_
   refine Wp_callD [] (c61_b N _ _ _ _ _ h1246) rfl rfl rfl (by first | rfl | (simp only [go_sem, Nat.reduceBEq, Nat.reduceAdd, Nat.reduceSub, Nat.reduceMul, Nat.reduceLT, Nat.reduceLeDiff, Int.reduceLE, Int.reduceLT, Int.reduceToNat, Int.reduceBEq, Int.reduceBNe, ↓reduceIte, h1237, h1240, g1241, g1242, h1243] <;> rfl)) rfl (by kernel_rfl) ?_
   refine W_sound tab_ok mixed 17 _ _ _ ?_
   simp -implicitDefEqProofs only [go_sem, Nat.reduceBEq, Nat.reduceAdd, Nat.reduceSub, Nat.reduceMul, Nat.reduceLT, Nat.reduceLeDiff]
   repeat with_reducible refine And.intro (by first | kernel_rfl | decide) ?_
   obtain rfl := Option.some.inj h
   exact finD (st' := ⟨[], [(0, .dead), (1, .dead), (4, .ptr 0 0), (5, .v (.int .i64 ((n1244 : Nat) : Int))), (6, .v (.int .i64 x1250)), (7, .dead), (8, .dead), (9, .dead), (12, .dead)], [(0, .p c1251)], 1, []⟩) (keepE_le [4, 5, 6] _) (OLe.refl _) (by kernel_rfl) (by simp only [go_sem, Nat.reduceBEq, resQ_tmp, resQ_nil] <;> first | rfl | exact ⟨rfl, rfl⟩ | (try simp [R.val, retD_one, retD_two, retD_three, retD_none]))
 ·replace h := bnd'_some h; obtain ⟨oo, h1255, h⟩ := h
  rcases oo with x1256 | ⟨x1259, c1260⟩
  ·(try dsimp only at h)
   refine W_sound tab_ok mixed 24 _ _ _ ?_
   simp -implicitDefEqProofs only [go_sem, Nat.reduceBEq, Nat.reduceLT, ↓reduceIte, h1237, h1240]
   repeat with_reducible refine And.intro (by first | kernel_rfl | decide) ?_
   refine Wp_callD [] (c61_a N _ _ _ _ h1255) rfl rfl rfl (by first | rfl | (simp only [go_sem, Nat.reduceBEq, Nat.reduceAdd, Nat.reduceSub, Nat.reduceMul, Nat.reduceLT, Nat.reduceLeDiff, Int.reduceLE, Int.reduceLT, Int.reduceToNat, Int.reduceBEq, Int.reduceBNe, ↓reduceIte, h1237, h1240] <;> rfl)) rfl (by kernel_rfl) ?_
   refine W_sound tab_ok mixed 17 _ _ _ ?_
   simp -implicitDefEqProofs only [go_sem, Nat.reduceBEq, Nat.reduceLT]
   repeat with_reducible refine And.intro (by first | kernel_rfl | decide) ?_
   obtain rfl := Option.some.inj h
   exact finD (st' := ⟨[], [(0, .dead), (1, .dead), (4, .v (.fn 999999 [.bool true])), (5, .v (.int .i64 0)), (6, .v (.int .i64 x1256)), (7, .dead), (8, .dead), (9, .dead), (12, .dead)], [], 0, []⟩) (keepE_le [4, 5, 6] _) (OLe.refl _) (by kernel_rfl) (by simp only [go_sem, Nat.reduceBEq, resQ_tmp, resQ_nil, retD_three] <;> first | rfl | exact ⟨rfl, rfl⟩ | (try simp [R.val, retD_one, retD_two, retD_three, retD_none]))
  ·(try dsimp only at h)
   refine W_sound tab_ok mixed 24 _ _ _ ?_
   simp -implicitDefEqProofs only [go_sem, Nat.reduceBEq, Nat.reduceLT, ↓reduceIte, h1237, h1240]
   repeat with_reducible refine And.intro (by first | kernel_rfl | decide) ?_
   refine Wp_callD [] (c61_b N _ _ _ _ _ h1255) rfl rfl rfl (by first | rfl | (simp only [go_sem, Nat.reduceBEq, Nat.reduceAdd, Nat.reduceSub, Nat.reduceMul, Nat.reduceLT, Nat.reduceLeDiff, Int.reduceLE, Int.reduceLT, Int.reduceToNat, Int.reduceBEq, Int.reduceBNe, ↓reduceIte, h1237, h1240] <;> rfl)) rfl (by kernel_rfl) ?_
   refine W_sound tab_ok mixed 17 _ _ _ ?_
   simp -implicitDefEqProofs only [go_sem, Nat.reduceBEq, Nat.reduceAdd, Nat.reduceSub, Nat.reduceMul, Nat.reduceLT, Nat.reduceLeDiff]
   repeat with_reducible refine And.intro (by first | kernel_rfl | decide) ?_
   obtain rfl := Option.some.inj h
   exact finD (st' := ⟨[], [(0, .dead), (1, .dead), (4, .ptr 0 0), (5, .v (.int .i64 0)), (6, .v (.int .i64 x1259)), (7, .dead), (8, .dead), (9, .dead), (12, .dead)], [(0, .p c1260)], 1, []⟩) (keepE_le [4, 5, 6] _) (OLe.refl _) (by kernel_rfl) (by simp only [go_sem, Nat.reduceBEq, resQ_tmp, resQ_nil] <;> first | rfl | exact ⟨rfl, rfl⟩ | (try simp [R.val, retD_one, retD_two, retD_three, retD_none]))
theorem c83_a (N : Nat) (x1235 : Int) (p1236 : PV) (x1248 : Int) (x1249 : Int) (h : m83 N x1235 p1236 = some (.inl (x1248, x1249))) : V.Fn Tryd.prog 83 0 [.v (.int .i64 x1235), .v p1236] [] (fun d ob' => d = .v (.tup [(.fn 999999 [.bool true]), (.int .i64 x1248), (.int .i64 x1249)]) ∧ ob' = []) := c83 N x1235 p1236 _ h
theorem c83_b (N : Nat) (x1235 : Int) (p1236 : PV) (x1252 : Int) (x1253 : Int) (c1254 : List PV) (h : m83 N x1235 p1236 = some (.inr (x1252, x1253, c1254))) : V.Fn Tryd.prog 83 0 [.v (.int .i64 x1235), .v p1236] [] (fun d ob' => d = .tup [.ptr 0 0, .v (.int .i64 x1252), .v (.int .i64 x1253)] ∧ ob' = [(0, .p c1254)]) := c83 N x1235 p1236 _ h
def m81_L1 (N : Nat) (x1230 : Int) (n1233 : Nat) (c1234 : List PV) (x1265 : Int) (n1282 : Nat) (x1283 : Int) (c1284 : List PV) : Nat → Int → Int → Option (Int)
 | 0, _, _ => none
 | n + 1, x1286, x1287 =>
  brn (decide (x1287 < ((n1233 : Nat) : Int))) (
   none) (
   some x1286)
def m81_L0 (N : Nat) (x1230 : Int) (n1233 : Nat) (c1234 : List PV) (x1265 : Int) : Nat → Nat → Int → List PV → Option ((Nat × List PV))
 | 0, _, _, _ => none
 | n + 1, n1282, x1283, c1284 =>
  brn (decide (x1283 < x1230)) (
   bnd' (m81_L1 N x1230 n1233 c1234 x1265 n1282 x1283 c1284 N 0 0) fun x1289 =>
   brn (decide (x1289 < (IntKind.i64.wrap ((IntKind.i64.wrap (((n1233 : Nat) : Int) + x1265)) - x1230)))) (
    grd ((n1282 + 1) ≤ 1099511627776) <|
    grd (List.length c1284 = n1282) <|
    m81_L0 N x1230 n1233 c1234 x1265 n (n1282 + 1) (IntKind.i64.wrap (x1283 + 1)) (c1284 ++ [(.int .i64 x1283)])) (
    m81_L0 N x1230 n1233 c1234 x1265 n n1282 (IntKind.i64.wrap (x1283 + 1)) c1284)) (
   some (n1282, c1284))
def m81_L3 (N : Nat) (x1230 : Int) (n1233 : Nat) (c1234 : List PV) (x1296 : Int) (c1298 : List PV) (n1326 : Nat) (x1327 : Int) (c1328 : List PV) : Nat → Int → Int → Option (Int)
 | 0, _, _ => none
 | n + 1, x1330, x1331 =>
  brn (decide (x1331 < ((n1233 : Nat) : Int))) (
   grd (0 ≤ x1331 ∧ x1331 < 5) <|
   grd ((26 + (Int.toNat x1331)) < List.length c1298) <|
   getI .u64 (gp c1298 (26 + (Int.toNat x1331))) fun x1337 =>
   grd (0 ≤ x1327) <|
   m81_L3 N x1230 n1233 c1234 x1296 c1298 n1326 x1327 c1328 n (IntKind.i64.wrap (x1330 + (IntKind.i64.wrap (bitsI .and .u64 (Int.fdiv x1337 (2 ^ (min (Int.toNat x1327) 64))) 1)))) (IntKind.i64.wrap (x1331 + 1))) (
   some x1330)
def m81_L2 (N : Nat) (x1230 : Int) (n1233 : Nat) (c1234 : List PV) (x1296 : Int) (c1298 : List PV) : Nat → Nat → Int → List PV → Option ((Nat × List PV))
 | 0, _, _, _ => none
 | n + 1, n1326, x1327, c1328 =>
  brn (decide (x1327 < x1230)) (
   bnd' (m81_L3 N x1230 n1233 c1234 x1296 c1298 n1326 x1327 c1328 N 0 0) fun x1339 =>
   brn (decide (x1339 < (IntKind.i64.wrap ((IntKind.i64.wrap (((n1233 : Nat) : Int) + x1296)) - x1230)))) (
    grd ((n1326 + 1) ≤ 1099511627776) <|
    grd (List.length c1328 = n1326) <|
    m81_L2 N x1230 n1233 c1234 x1296 c1298 n (n1326 + 1) (IntKind.i64.wrap (x1327 + 1)) (c1328 ++ [(.int .i64 x1327)])) (
    m81_L2 N x1230 n1233 c1234 x1296 c1298 n n1326 (IntKind.i64.wrap (x1327 + 1)) c1328)) (
   some (n1326, c1328))
def m81 (N : Nat) (x1230 : Int) (p1231 : PV) : Option (PV) :=
 getL p1231 fun n1233 c1234 =>
 bnd' (m83 N x1230 (.lst false n1233 c1234)) fun o =>
 match o with
 | .inl (x1265, x1266) =>
  brn (x1266 != 0) (
   some (.tup [(.lst false 0 []), (.int .i64 x1266)])) (
   bnd' (m81_L0 N x1230 n1233 c1234 x1265 N 0 0 []) fun o =>
   match o with
   | (n1293, c1294) =>
    grd (List.length c1294 = n1293) <|
    some (.tup [(.lst false n1293 c1294), (.int .i64 0)]))
 | .inr (x1296, x1297, c1298) =>
  brn (x1297 != 0) (
   some (.tup [(.lst false 0 []), (.int .i64 x1297)])) (
   bnd' (m81_L2 N x1230 n1233 c1234 x1296 c1298 N 0 0 []) fun o =>
   match o with
   | (n1343, c1344) =>
    grd (List.length c1344 = n1343) <|
    some (.tup [(.lst false n1343 c1344), (.int .i64 0)]))
theorem c81 (N : Nat) (x1230 : Int) (p1231 : PV) (r : PV)  (h : m81 N x1230 p1231 = some r) : FnP Tryd.prog 81 [(.int .i64 x1230), p1231] r := by
 unfold m81 at h
 refine Fn_of (sz := 59) tab_ok [0, 1, 4, 5, 6, 7, 8, 9, 10, 11, 12, 21, 23, 24, 25, 28, 29, 30, 52] [.tmp 4, .tmp 5] Tryd.func81 rfl rfl rfl (by simp) ?_
 simp only [initSt, initEnv, List.map_cons, List.map_nil, List.getD_cons_zero, List.getD_cons_succ, List.getD_nil]
 replace h := getL_some h; obtain ⟨n1233, c1234, h1232, h⟩ := h
 replace h := bnd'_some h; obtain ⟨oo, h1264, h⟩ := h
 rcases oo with ⟨x1265, x1266⟩ | ⟨x1296, x1297, c1298⟩
 ·(try dsimp only at h)
  refine W_sound tab_ok mixed 9 _ _ _ ?_
  simp -implicitDefEqProofs only [go_sem, Nat.reduceBEq, Nat.reduceLT, h1232]
  repeat with_reducible refine And.intro (by first | kernel_rfl | decide) ?_
  refine Wp_callD [] (c83_a N _ _ _ _ h1264) rfl rfl rfl (by first | rfl | (simp only [go_sem, Nat.reduceBEq, Nat.reduceAdd, Nat.reduceSub, Nat.reduceMul, Nat.reduceLT, Nat.reduceLeDiff, Int.reduceLE, Int.reduceLT, Int.reduceToNat, Int.reduceBEq, Int.reduceBNe, ↓reduceIte, h1232] <;> rfl)) rfl (by kernel_rfl) ?_
  replace h := brn_some h; rcases h with ⟨h1267, h⟩ | ⟨h1267, h⟩
  ·refine W_sound tab_ok mixed 23 _ _ _ ?_
   simp -implicitDefEqProofs only [go_sem, Nat.reduceBEq, Nat.reduceLT, ↓reduceIte, h1267]
   repeat with_reducible refine And.intro (by first | kernel_rfl | decide) ?_
   obtain rfl := Option.some.inj h
   exact finC [(4, .v .nl), (5, .v (.int .i64 x1266))] [(4, .v (.lst false 0 [])), (5, .v (.int .i64 x1266))] (by simp [leE, lk_cons]) (.cons _ _ _ _ _ (.v _ _ (.nl false)) (.cons _ _ _ _ _ (.v _ _ (.refl _)) .nil)) (by rfl) (by simp [leE, lk_cons]) (by decide) (by decide) rfl (by simp only [go_sem, Nat.reduceBEq, resQ_tmp, resQ_nil, retD_two]; try simp [R.val, retD_one, retD_two, retD_three, retD_none])
  ·refine W_sound tab_ok mixed 26 _ _ _ ?_
   simp -implicitDefEqProofs only [go_sem, Nat.reduceBEq, Nat.reduceLT, ↓reduceIte, h1267]
   repeat with_reducible refine And.intro (by first | kernel_rfl | decide) ?_
   refine Wp_weaken (Wk_ownS 9 1 rfl (by decide) (by decide)) ?_
   simp -implicitDefEqProofs only [go_sem, Nat.reduceBEq]
   replace h := bnd'_some h; obtain ⟨o1346, h1347, h1348⟩ := h
   refine Wp_cut (fun s => ∃ n1293, ∃ c1294, (n1293, c1294) = o1346 ∧ s = ⟨[], [(0, .dead), (1, .dead), (4, .dead), (5, .dead), (6, .dead), (7, .dead), (8, .dead), (9, .sl false 0 0 n1293 1), (10, .dead), (11, .dead), (12, .dead), (21, .dead), (23, .dead), (24, .dead), (25, .dead), (28, .dead), (29, .dead), (30, .dead), (52, .dead)], [(0, .p c1294)], 1, []⟩) ?_ ?_
   ·refine Wp_block ?_
    refine Wp_loopG (fun n s => ∃ n1282, ∃ x1283, ∃ c1284, m81_L0 N x1230 n1233 c1234 x1265 n n1282 x1283 c1284 = some o1346 ∧ s = ⟨[], [(0, .v (.int .i64 x1230)), (1, .v (.lst false n1233 c1234)), (4, .dead), (5, .dead), (6, .v (.fn 999999 [.bool true])), (7, .v (.int .i64 x1265)), (8, .dead), (9, .sl false 0 0 n1282 1), (10, .dead), (11, .dead), (12, .dead), (21, .dead), (23, .v (.int .i64 x1230)), (24, .v (.int .i64 x1283)), (25, .dead), (28, .dead), (29, .dead), (30, .dead), (52, .dead)], [(0, .p c1284)], 1, []⟩) N _ ?_ ⟨_, _, _, h1347, rfl⟩ ?_
    ·exact Wk_keep [0, 1, 6, 7, 9, 23, 24] (by kernel_rfl)
    clear h1347
    rintro n _ ⟨n1282, x1283, c1284, h1347, rfl⟩
    cases n with
    | zero => cases h1347
    | succ n =>
     rw [m81_L0] at h1347
     replace h1347 := brn_some h1347; rcases h1347 with ⟨h1285, h1347⟩ | ⟨h1285, h1347⟩
     ·refine W_sound tab_ok mixed 25 _ _ _ ?_
      simp -implicitDefEqProofs only [go_sem, Nat.reduceBEq, Nat.reduceLT, ↓reduceIte, h1285]
      repeat with_reducible refine And.intro (by first | kernel_rfl | decide) ?_
      replace h1347 := bnd'_some h1347; obtain ⟨o1349, h1350, h1351⟩ := h1347
      refine Wp_cut (fun s => ∃ x1289, x1289 = o1349 ∧ s = ⟨[], [(0, .v (.int .i64 x1230)), (1, .v (.lst false n1233 c1234)), (4, .dead), (5, .dead), (6, .v (.fn 999999 [.bool true])), (7, .v (.int .i64 x1265)), (8, .dead), (9, .sl false 0 0 n1282 1), (10, .v (.int .i64 x1283)), (11, .v (.int .i64 x1289)), (12, .dead), (21, .dead), (23, .v (.int .i64 x1230)), (24, .v (.int .i64 x1283)), (25, .dead), (28, .dead), (29, .dead), (30, .dead), (52, .dead)], [(0, .p c1284)], 1, []⟩) ?_ ?_
      ·refine Wp_block ?_
       refine Wp_loopG (fun n s => ∃ x1286, ∃ x1287, m81_L1 N x1230 n1233 c1234 x1265 n1282 x1283 c1284 n x1286 x1287 = some o1349 ∧ s = ⟨[], [(0, .v (.int .i64 x1230)), (1, .v (.lst false n1233 c1234)), (4, .dead), (5, .dead), (6, .v (.fn 999999 [.bool true])), (7, .v (.int .i64 x1265)), (8, .dead), (9, .sl false 0 0 n1282 1), (10, .v (.int .i64 x1283)), (11, .v (.int .i64 x1286)), (12, .dead), (21, .dead), (23, .v (.int .i64 x1230)), (24, .v (.int .i64 x1283)), (25, .dead), (28, .v (.int .i64 ((n1233 : Nat) : Int))), (29, .v (.int .i64 x1287)), (30, .dead), (52, .dead)], [(0, .p c1284)], 1, []⟩) N _ ?_ ⟨_, _, h1350, rfl⟩ ?_
       ·exact Wk_keep [0, 1, 6, 7, 9, 10, 11, 23, 24, 28, 29] (by kernel_rfl)
       clear h1350
       rintro n _ ⟨x1286, x1287, h1350, rfl⟩
       cases n with
       | zero => cases h1350
       | succ n =>
        rw [m81_L1] at h1350
        replace h1350 := brn_some h1350; rcases h1350 with ⟨h1288, h1350⟩ | ⟨h1288, h1350⟩
        ·cases h1350
        ·refine W_sound tab_ok mixed 7 _ _ _ ?_
         simp -implicitDefEqProofs only [go_sem, Nat.reduceBEq, Nat.reduceLT, ↓reduceIte, h1288]
         repeat with_reducible refine And.intro (by first | kernel_rfl | decide) ?_
         obtain rfl := Option.some.inj h1350
         refine cutQ _ ?_ ⟨_, rfl, rfl⟩
         exact Wk_keep [0, 1, 6, 7, 9, 10, 11, 23, 24] (by kernel_rfl)
      ·rintro _ ⟨x1289, rfl, rfl⟩
       replace h1351 := brn_some h1351; rcases h1351 with ⟨h1290, h1351⟩ | ⟨h1290, h1351⟩
       ·replace h1351 := grd_some h1351; obtain ⟨g1291, h1351⟩ := h1351
        replace h1351 := grd_some h1351; obtain ⟨g1292, h1351⟩ := h1351
        refine W_sound tab_ok mixed 24 _ _ _ ?_
        simp -implicitDefEqProofs only [go_sem, Nat.reduceBEq, Nat.reduceAdd, Nat.reduceLT, Nat.reduceLeDiff, Int.reduceLE, Int.reduceToNat, ↓reduceIte, h1290, g1291, g1292]
        repeat with_reducible refine And.intro (by first | kernel_rfl | decide) ?_
        refine cutQ _ ?_ ⟨n, Nat.lt_succ_self n, _, _, _, h1351, rfl⟩
        exact Wk_keep [0, 1, 6, 7, 9, 23, 24] (by kernel_rfl)
       ·refine W_sound tab_ok mixed 18 _ _ _ ?_
        simp -implicitDefEqProofs only [go_sem, Nat.reduceBEq, Nat.reduceLT, Int.reduceLE, Int.reduceToNat, ↓reduceIte, h1290]
        repeat with_reducible refine And.intro (by first | kernel_rfl | decide) ?_
        refine cutQ _ ?_ ⟨n, Nat.lt_succ_self n, _, _, _, h1351, rfl⟩
        exact Wk_keep [0, 1, 6, 7, 9, 23, 24] (by kernel_rfl)
     ·refine W_sound tab_ok mixed 7 _ _ _ ?_
      simp -implicitDefEqProofs only [go_sem, Nat.reduceBEq, Nat.reduceLT, ↓reduceIte, h1285]
      repeat with_reducible refine And.intro (by first | kernel_rfl | decide) ?_
      obtain rfl := Option.some.inj h1347
      refine cutQ _ ?_ ⟨_, _, rfl, rfl⟩
      exact Wk_keep [9] (by kernel_rfl)
   ·rintro _ ⟨n1293, c1294, rfl, rfl⟩
    (try dsimp only at h1348)
    refine W_sound tab_ok mixed 8 _ _ _ ?_
    simp -implicitDefEqProofs only [go_sem, Nat.reduceBEq, Nat.reduceLT]
    repeat with_reducible refine And.intro (by first | kernel_rfl | decide) ?_
    replace h1348 := grd_some h1348; obtain ⟨g1295, h1348⟩ := h1348
    refine FinQ_wk (Wk_freeze 0 c1294 (by rfl) (by decide) (by decide)) ?_
    simp -implicitDefEqProofs only [go_sem, Nat.reduceBEq, g1295]
    obtain rfl := Option.some.inj h1348
    exact finC [(4, .v (.lst false n1293 c1294)), (5, .v (.int .i64 0))] [(4, .v (.lst false n1293 c1294)), (5, .v (.int .i64 0))] (by simp [leE, lk_cons]) (.cons _ _ _ _ _ (.v _ _ (.refl _)) (.cons _ _ _ _ _ (.v _ _ (.refl _)) .nil)) (by rfl) (by simp [leE, lk_cons]) (by decide) (by decide) rfl (by simp only [go_sem, Nat.reduceBEq, resQ_tmp, resQ_nil, retD_two]; try simp [R.val, retD_one, retD_two, retD_three, retD_none])
 ·(try dsimp only at h)
  refine W_sound tab_ok mixed 9 _ _ _ ?_
  simp -implicitDefEqProofs only [go_sem, Nat.reduceBEq, Nat.reduceLT, h1232]
  repeat with_reducible refine And.intro (by first | kernel_rfl | decide) ?_
  refine Wp_callD [] (c83_b N _ _ _ _ _ h1264) rfl rfl rfl (by first | rfl | (simp only [go_sem, Nat.reduceBEq, Nat.reduceAdd, Nat.reduceSub, Nat.reduceMul, Nat.reduceLT, Nat.reduceLeDiff, Int.reduceLE, Int.reduceLT, Int.reduceToNat, Int.reduceBEq, Int.reduceBNe, ↓reduceIte, h1232] <;> rfl)) rfl (by kernel_rfl) ?_
  replace h := brn_some h; rcases h with ⟨h1299, h⟩ | ⟨h1299, h⟩
  ·refine W_sound tab_ok mixed 23 _ _ _ ?_
   simp -implicitDefEqProofs only [go_sem, Nat.reduceBEq, Nat.reduceAdd, Nat.reduceSub, Nat.reduceMul, Nat.reduceLT, Nat.reduceLeDiff, ↓reduceIte, h1299]
   repeat with_reducible refine And.intro (by first | kernel_rfl | decide) ?_
   obtain rfl := Option.some.inj h
   exact finC [(4, .v .nl), (5, .v (.int .i64 x1297))] [(4, .v (.lst false 0 [])), (5, .v (.int .i64 x1297))] (by simp [leE, lk_cons]) (.cons _ _ _ _ _ (.v _ _ (.nl false)) (.cons _ _ _ _ _ (.v _ _ (.refl _)) .nil)) (by rfl) (by simp [leE, lk_cons]) (by decide) (by decide) rfl (by simp only [go_sem, Nat.reduceBEq, resQ_tmp, resQ_nil, retD_two]; try simp [R.val, retD_one, retD_two, retD_three, retD_none])
  ·refine W_sound tab_ok mixed 26 _ _ _ ?_
   simp -implicitDefEqProofs only [go_sem, Nat.reduceBEq, Nat.reduceAdd, Nat.reduceSub, Nat.reduceMul, Nat.reduceLT, Nat.reduceLeDiff, ↓reduceIte, h1299]
   repeat with_reducible refine And.intro (by first | kernel_rfl | decide) ?_
   refine Wp_weaken (Wk_ownS 9 1 rfl (by decide) (by decide)) ?_
   simp -implicitDefEqProofs only [go_sem, Nat.reduceBEq, Nat.reduceAdd]
   replace h := bnd'_some h; obtain ⟨o1352, h1353, h1354⟩ := h
   refine Wp_cut (fun s => ∃ n1343, ∃ c1344, (n1343, c1344) = o1352 ∧ s = ⟨[], [(0, .dead), (1, .dead), (4, .dead), (5, .dead), (6, .dead), (7, .dead), (8, .dead), (9, .sl false 0 0 n1343 1), (10, .dead), (11, .dead), (12, .dead), (21, .dead), (23, .dead), (24, .dead), (25, .dead), (28, .dead), (29, .dead), (30, .dead), (52, .dead)], [(0, .p c1344)], 1, []⟩) ?_ ?_
   ·refine Wp_block ?_
    refine Wp_loopG (fun n s => ∃ n1326, ∃ x1327, ∃ c1328, m81_L2 N x1230 n1233 c1234 x1296 c1298 n n1326 x1327 c1328 = some o1352 ∧ s = ⟨[], [(0, .v (.int .i64 x1230)), (1, .v (.lst false n1233 c1234)), (4, .dead), (5, .dead), (6, .ptr 0 0), (7, .v (.int .i64 x1296)), (8, .dead), (9, .sl false 1 0 n1326 1), (10, .dead), (11, .dead), (12, .dead), (21, .dead), (23, .v (.int .i64 x1230)), (24, .v (.int .i64 x1327)), (25, .dead), (28, .dead), (29, .dead), (30, .dead), (52, .dead)], [(0, .p c1298), (1, .p c1328)], 2, []⟩) N _ ?_ ⟨_, _, _, h1353, rfl⟩ ?_
    ·exact Wk_keep [0, 1, 6, 7, 9, 23, 24] (by kernel_rfl)
    clear h1353
    rintro n _ ⟨n1326, x1327, c1328, h1353, rfl⟩
    cases n with
    | zero => cases h1353
    | succ n =>
     rw [m81_L2] at h1353
     replace h1353 := brn_some h1353; rcases h1353 with ⟨h1329, h1353⟩ | ⟨h1329, h1353⟩
     ·refine W_sound tab_ok mixed 25 _ _ _ ?_
      simp -implicitDefEqProofs only [go_sem, Nat.reduceBEq, Nat.reduceLT, ↓reduceIte, h1329]
      repeat with_reducible refine And.intro (by first | kernel_rfl | decide) ?_
      replace h1353 := bnd'_some h1353; obtain ⟨o1355, h1356, h1357⟩ := h1353
      refine Wp_cut (fun s => ∃ x1339, x1339 = o1355 ∧ s = ⟨[], [(0, .v (.int .i64 x1230)), (1, .v (.lst false n1233 c1234)), (4, .dead), (5, .dead), (6, .ptr 0 0), (7, .v (.int .i64 x1296)), (8, .dead), (9, .sl false 1 0 n1326 1), (10, .v (.int .i64 x1327)), (11, .v (.int .i64 x1339)), (12, .dead), (21, .dead), (23, .v (.int .i64 x1230)), (24, .v (.int .i64 x1327)), (25, .dead), (28, .dead), (29, .dead), (30, .dead), (52, .dead)], [(0, .p c1298), (1, .p c1328)], 2, []⟩) ?_ ?_
      ·refine Wp_block ?_
       refine Wp_loopG (fun n s => ∃ x1330, ∃ x1331, m81_L3 N x1230 n1233 c1234 x1296 c1298 n1326 x1327 c1328 n x1330 x1331 = some o1355 ∧ s = ⟨[], [(0, .v (.int .i64 x1230)), (1, .v (.lst false n1233 c1234)), (4, .dead), (5, .dead), (6, .ptr 0 0), (7, .v (.int .i64 x1296)), (8, .dead), (9, .sl false 1 0 n1326 1), (10, .v (.int .i64 x1327)), (11, .v (.int .i64 x1330)), (12, .dead), (21, .dead), (23, .v (.int .i64 x1230)), (24, .v (.int .i64 x1327)), (25, .dead), (28, .v (.int .i64 ((n1233 : Nat) : Int))), (29, .v (.int .i64 x1331)), (30, .dead), (52, .dead)], [(0, .p c1298), (1, .p c1328)], 2, []⟩) N _ ?_ ⟨_, _, h1356, rfl⟩ ?_
       ·exact Wk_keep [0, 1, 6, 7, 9, 10, 11, 23, 24, 28, 29] (by kernel_rfl)
       clear h1356
       rintro n _ ⟨x1330, x1331, h1356, rfl⟩
       cases n with
       | zero => cases h1356
       | succ n =>
        rw [m81_L3] at h1356
        replace h1356 := brn_some h1356; rcases h1356 with ⟨h1332, h1356⟩ | ⟨h1332, h1356⟩
        ·replace h1356 := grd_some h1356; obtain ⟨⟨g1333, g1334⟩, h1356⟩ := h1356
         replace h1356 := grd_some h1356; obtain ⟨g1335, h1356⟩ := h1356
         replace h1356 := getI_some h1356; obtain ⟨x1337, h1336, h1356⟩ := h1356
         replace h1356 := grd_some h1356; obtain ⟨g1338, h1356⟩ := h1356
         refine W_sound tab_ok mixed 34 _ _ _ ?_
         simp -implicitDefEqProofs only [go_sem, Nat.reduceBEq, Nat.reduceLT, Int.reduceLE, Int.reduceToNat, ↓reduceIte, h1332, g1333, g1334, g1335, h1336, g1338]
         repeat with_reducible refine And.intro (by first | kernel_rfl | decide) ?_
         refine cutQ _ ?_ ⟨n, Nat.lt_succ_self n, _, _, h1356, rfl⟩
         exact Wk_keep [0, 1, 6, 7, 9, 10, 11, 23, 24, 28, 29] (by kernel_rfl)
        ·refine W_sound tab_ok mixed 7 _ _ _ ?_
         simp -implicitDefEqProofs only [go_sem, Nat.reduceBEq, Nat.reduceLT, ↓reduceIte, h1332]
         repeat with_reducible refine And.intro (by first | kernel_rfl | decide) ?_
         obtain rfl := Option.some.inj h1356
         refine cutQ _ ?_ ⟨_, rfl, rfl⟩
         exact Wk_keep [0, 1, 6, 7, 9, 10, 11, 23, 24] (by kernel_rfl)
      ·rintro _ ⟨x1339, rfl, rfl⟩
       replace h1357 := brn_some h1357; rcases h1357 with ⟨h1340, h1357⟩ | ⟨h1340, h1357⟩
       ·replace h1357 := grd_some h1357; obtain ⟨g1341, h1357⟩ := h1357
        replace h1357 := grd_some h1357; obtain ⟨g1342, h1357⟩ := h1357
        refine W_sound tab_ok mixed 24 _ _ _ ?_
        simp -implicitDefEqProofs only [go_sem, Nat.reduceBEq, Nat.reduceAdd, Nat.reduceLT, Nat.reduceLeDiff, Int.reduceLE, Int.reduceToNat, ↓reduceIte, h1340, g1341, g1342]
        repeat with_reducible refine And.intro (by first | kernel_rfl | decide) ?_
        refine cutQ _ ?_ ⟨n, Nat.lt_succ_self n, _, _, _, h1357, rfl⟩
        exact Wk_keep [0, 1, 6, 7, 9, 23, 24] (by kernel_rfl)
       ·refine W_sound tab_ok mixed 18 _ _ _ ?_
        simp -implicitDefEqProofs only [go_sem, Nat.reduceBEq, Nat.reduceLT, Int.reduceLE, Int.reduceToNat, ↓reduceIte, h1340]
        repeat with_reducible refine And.intro (by first | kernel_rfl | decide) ?_
        refine cutQ _ ?_ ⟨n, Nat.lt_succ_self n, _, _, _, h1357, rfl⟩
        exact Wk_keep [0, 1, 6, 7, 9, 23, 24] (by kernel_rfl)
     ·refine W_sound tab_ok mixed 7 _ _ _ ?_
      simp -implicitDefEqProofs only [go_sem, Nat.reduceBEq, Nat.reduceLT, ↓reduceIte, h1329]
      repeat with_reducible refine And.intro (by first | kernel_rfl | decide) ?_
      obtain rfl := Option.some.inj h1353
      refine cutQ _ ?_ ⟨_, _, rfl, rfl⟩
      exact Wk_keep [9] (by kernel_rfl)
   ·rintro _ ⟨n1343, c1344, rfl, rfl⟩
    (try dsimp only at h1354)
    refine W_sound tab_ok mixed 8 _ _ _ ?_
    simp -implicitDefEqProofs only [go_sem, Nat.reduceBEq, Nat.reduceLT]
    repeat with_reducible refine And.intro (by first | kernel_rfl | decide) ?_
    replace h1354 := grd_some h1354; obtain ⟨g1345, h1354⟩ := h1354
    refine FinQ_wk (Wk_freeze 0 c1344 (by rfl) (by decide) (by decide)) ?_
    simp -implicitDefEqProofs only [go_sem, Nat.reduceBEq, g1345]
    obtain rfl := Option.some.inj h1354
    exact finC [(4, .v (.lst false n1343 c1344)), (5, .v (.int .i64 0))] [(4, .v (.lst false n1343 c1344)), (5, .v (.int .i64 0))] (by simp [leE, lk_cons]) (.cons _ _ _ _ _ (.v _ _ (.refl _)) (.cons _ _ _ _ _ (.v _ _ (.refl _)) .nil)) (by rfl) (by simp [leE, lk_cons]) (by decide) (by decide) rfl (by simp only [go_sem, Nat.reduceBEq, resQ_tmp, resQ_nil, retD_two]; try simp [R.val, retD_one, retD_two, retD_three, retD_none])
def m45 (N : Nat) (x1225 : Int) (p1226 : PV) : Option (PV) :=
 getL p1226 fun n1228 c1229 =>
 bnd' (m81 N x1225 (.lst false n1228 c1229)) fun p1358 =>
 getT2 p1358 fun p1361 p1362 =>
 getL p1361 fun n1364 c1365 =>
 getI .i64 p1362 fun x1367 =>
 brn (x1367 != 0) (
  some (.tup [(.int .i64 0), (.int .i64 x1367)])) (
  brn (((n1364 : Nat) : Int) == 0) (
   some (.tup [(.int .i64 0), (.int .i64 13)])) (
   grd (0 < ((n1364 : Nat) : Int)) <|
   grd (0 < List.length c1365) <|
   getI .i64 (gp c1365 0) fun x1373 =>
   some (.tup [(.int .i64 x1373), (.int .i64 0)])))
theorem c45 (N : Nat) (x1225 : Int) (p1226 : PV) (r : PV)  (h : m45 N x1225 p1226 = some r) : FnP Tryd.prog 45 [(.int .i64 x1225), p1226] r := by
 unfold m45 at h
 refine Fn_of (sz := 25) tab_ok [0, 1, 4, 5, 6, 7, 14, 18] [.tmp 4, .tmp 5] Tryd.func45 rfl rfl rfl (by simp) ?_
 simp only [initSt, initEnv, List.map_cons, List.map_nil, List.getD_cons_zero, List.getD_cons_succ, List.getD_nil]
 replace h := getL_some h; obtain ⟨n1228, c1229, h1227, h⟩ := h
 replace h := bnd'_some h; obtain ⟨p1358, h1359, h⟩ := h
 refine W_sound tab_ok mixed 9 _ _ _ ?_
 simp -implicitDefEqProofs only [go_sem, Nat.reduceBEq, Nat.reduceLT, h1227]
 repeat with_reducible refine And.intro (by first | kernel_rfl | decide) ?_
 refine Wp_callP (c81 N _ _ _ h1359) (by kernel_rfl) rfl rfl rfl rfl (by decide) ?_
 replace h := getT2_some h; obtain ⟨p1361, p1362, h1360, h⟩ := h
 replace h := getL_some h; obtain ⟨n1364, c1365, h1363, h⟩ := h
 replace h := getI_some h; obtain ⟨x1367, h1366, h⟩ := h
 replace h := brn_some h; rcases h with ⟨h1368, h⟩ | ⟨h1368, h⟩
 ·refine W_sound tab_ok mixed 23 _ _ _ ?_
  simp -implicitDefEqProofs only [go_sem, Nat.reduceBEq, Nat.reduceLT, ↓reduceIte, h1360, h1363, h1366, h1368]
  repeat with_reducible refine And.intro (by first | kernel_rfl | decide) ?_
  obtain rfl := Option.some.inj h
  exact finC [(4, .v (.int .i64 0)), (5, .v (.int .i64 x1367))] [(4, .v (.int .i64 0)), (5, .v (.int .i64 x1367))] (by simp [leE, lk_cons]) (.cons _ _ _ _ _ (.v _ _ (.refl _)) (.cons _ _ _ _ _ (.v _ _ (.refl _)) .nil)) (by rfl) (by simp [leE, lk_cons]) (by decide) (by decide) rfl (by simp only [go_sem, Nat.reduceBEq, resQ_tmp, resQ_nil, retD_two]; try simp [R.val, retD_one, retD_two, retD_three, retD_none])
 ·replace h := brn_some h; rcases h with ⟨h1369, h⟩ | ⟨h1369, h⟩
  ·refine W_sound tab_ok mixed 30 _ _ _ ?_
   simp -implicitDefEqProofs only [go_sem, Nat.reduceBEq, Nat.reduceLT, ↓reduceIte, h1360, h1363, h1366, h1368, h1369]
   repeat with_reducible refine And.intro (by first | kernel_rfl | decide) ?_
   obtain rfl := Option.some.inj h
   exact finC [(4, .v (.int .i64 0)), (5, .v (.int .i64 13))] [(4, .v (.int .i64 0)), (5, .v (.int .i64 13))] (by simp [leE, lk_cons]) (.cons _ _ _ _ _ (.v _ _ (.refl _)) (.cons _ _ _ _ _ (.v _ _ (.refl _)) .nil)) (by rfl) (by simp [leE, lk_cons]) (by decide) (by decide) rfl (by simp only [go_sem, Nat.reduceBEq, resQ_tmp, resQ_nil, retD_two]; try simp [R.val, retD_one, retD_two, retD_three, retD_none])
  ·replace h := grd_some h; obtain ⟨g1370, h⟩ := h
   replace h := grd_some h; obtain ⟨g1371, h⟩ := h
   replace h := getI_some h; obtain ⟨x1373, h1372, h⟩ := h
   refine W_sound tab_ok mixed 35 _ _ _ ?_
   simp -implicitDefEqProofs only [go_sem, Nat.reduceBEq, Nat.reduceLT, ↓reduceIte, h1360, h1363, h1366, h1368, h1369, g1370, g1371, h1372]
   repeat with_reducible refine And.intro (by first | kernel_rfl | decide) ?_
   obtain rfl := Option.some.inj h
   exact finC [(4, .v (.int .i64 x1373)), (5, .v (.int .i64 0))] [(4, .v (.int .i64 x1373)), (5, .v (.int .i64 0))] (by simp [leE, lk_cons]) (.cons _ _ _ _ _ (.v _ _ (.refl _)) (.cons _ _ _ _ _ (.v _ _ (.refl _)) .nil)) (by rfl) (by simp [leE, lk_cons]) (by decide) (by decide) rfl (by simp only [go_sem, Nat.reduceBEq, resQ_tmp, resQ_nil, retD_two]; try simp [R.val, retD_one, retD_two, retD_three, retD_none])
def m69_2 (N : Nat) (c1392 : List PV) : Option (PV) :=
 grd (0 < List.length (List.drop 2 c1392)) <|
 getB (gp c1392 2) fun b1395 =>
 brn b1395 (
  some (.int .i64 1)) (
  some (.int .i64 0))
theorem c69_2 (N : Nat) (c1392 : List PV) (r : PV)  (h : m69_2 N c1392 = some r) : FnP Tryd.prog 69 [(.fn 1000070 [(.ipt c1392)])] r := by
 unfold m69_2 at h
 refine Fn_of (sz := 20) tab_ok [0, 2, 3, 4, 5, 7, 8, 14, 15, 19] [.tmp 2] Tryd.func69 rfl rfl rfl (by simp) ?_
 simp only [initSt, initEnv, List.map_cons, List.map_nil, List.getD_cons_zero, List.getD_cons_succ, List.getD_nil]
 replace h := grd_some h; obtain ⟨g1393, h⟩ := h
 replace h := getB_some h; obtain ⟨b1395, h1394, h⟩ := h
 replace h := brn_some h; rcases h with ⟨h1396, h⟩ | ⟨h1396, h⟩
 ·refine W_sound tab_ok mixed 42 _ _ _ ?_
  simp -implicitDefEqProofs only [go_sem, Nat.reduceBEq, Nat.reduceSub, Nat.reduceLT, Nat.reduceLeDiff, g1393, h1394, h1396]
  repeat with_reducible refine And.intro (by first | kernel_rfl | decide) ?_
  obtain rfl := Option.some.inj h
  exact finC [(2, .v (.int .i64 1))] [(2, .v (.int .i64 1))] (by simp [leE, lk_cons]) (.cons _ _ _ _ _ (.v _ _ (.refl _)) .nil) (by rfl) (by simp [leE, lk_cons]) (by decide) (by decide) rfl (by simp only [go_sem, Nat.reduceBEq, resQ_tmp, resQ_nil, retD_one]; try simp [R.val, retD_one, retD_two, retD_three, retD_none])
 ·refine W_sound tab_ok mixed 44 _ _ _ ?_
  simp -implicitDefEqProofs only [go_sem, Nat.reduceBEq, Nat.reduceSub, Nat.reduceLT, Nat.reduceLeDiff, g1393, h1394, h1396]
  repeat with_reducible refine And.intro (by first | kernel_rfl | decide) ?_
  obtain rfl := Option.some.inj h
  exact finC [(2, .v (.int .i64 0))] [(2, .v (.int .i64 0))] (by simp [leE, lk_cons]) (.cons _ _ _ _ _ (.v _ _ (.refl _)) .nil) (by rfl) (by simp [leE, lk_cons]) (by decide) (by decide) rfl (by simp only [go_sem, Nat.reduceBEq, resQ_tmp, resQ_nil, retD_one]; try simp [R.val, retD_one, retD_two, retD_three, retD_none])
def m47 (N : Nat) (x1374 : Int) (p1375 : PV) : Option (PV) :=
 getL p1375 fun n1377 c1378 =>
 bnd' (m83 N x1374 (.lst false n1377 c1378)) fun o =>
 match o with
 | .inl (x1380, x1381) =>
  brn (x1381 != 0) (
   some (.tup [(.lst false 0 []), (.int .i64 x1381)])) (
   none)
 | .inr (x1383, x1384, c1385) =>
  brn (x1384 != 0) (
   some (.tup [(.lst false 0 []), (.int .i64 x1384)])) (
   bnd' (m64 N c1385 [(.int .i64 0), (.int .i64 x1374), (.bool false), (.int .i64 0), (.int .i64 0), (.int .i64 0), (.int .i64 0), (.int .i64 0), (.int .i64 0), (.int .i64 0), (.int .i64 0), (.int .i64 0), (.int .i64 0), (.int .i64 0), (.int .i64 0), (.int .i64 0), (.int .i64 0), (.int .i64 0), (.int .i64 0), (.int .i64 0), (.int .i64 0), (.int .i64 0), (.int .i64 0), (.int .i64 0), (.int .i64 0), (.int .i64 0), (.int .i64 0), (.int .i64 0)]) fun (p1387, c1389, c1390) =>
   getT0 p1387 <|
   bnd' (m69_2 N c1390) fun p1397 =>
   getI .i64 p1397 fun x1400 =>
   brn (x1400 == 0) (
    some (.tup [(.lst false 0 []), (.int .i64 12)])) (
    grd (25 ≤ List.length (List.drop 3 c1390)) <|
    bnd' (m65 N (.agg (List.take 25 (List.drop 3 c1390))) x1374) fun p1403 =>
    getL p1403 fun n1406 c1407 =>
    some (.tup [(.lst false n1406 c1407), (.int .i64 0)])))
theorem c47 (N : Nat) (x1374 : Int) (p1375 : PV) (r : PV)  (h : m47 N x1374 p1375 = some r) : FnP Tryd.prog 47 [(.int .i64 x1374), p1375] r := by
 unfold m47 at h
 refine Fn_of (sz := 37) tab_ok [0, 1, 4, 5, 6, 8, 9, 18, 30] [.tmp 4, .tmp 5] Tryd.func47 rfl rfl rfl (by simp) ?_
 simp only [initSt, initEnv, List.map_cons, List.map_nil, List.getD_cons_zero, List.getD_cons_succ, List.getD_nil]
 replace h := getL_some h; obtain ⟨n1377, c1378, h1376, h⟩ := h
 replace h := bnd'_some h; obtain ⟨oo, h1379, h⟩ := h
 rcases oo with ⟨x1380, x1381⟩ | ⟨x1383, x1384, c1385⟩
 ·(try dsimp only at h)
  refine W_sound tab_ok mixed 9 _ _ _ ?_
  simp -implicitDefEqProofs only [go_sem, Nat.reduceBEq, Nat.reduceLT, h1376]
  repeat with_reducible refine And.intro (by first | kernel_rfl | decide) ?_
  refine Wp_callD [] (c83_a N _ _ _ _ h1379) rfl rfl rfl (by first | rfl | (simp only [go_sem, Nat.reduceBEq, Nat.reduceAdd, Nat.reduceSub, Nat.reduceMul, Nat.reduceLT, Nat.reduceLeDiff, Int.reduceLE, Int.reduceLT, Int.reduceToNat, Int.reduceBEq, Int.reduceBNe, ↓reduceIte, h1376] <;> rfl)) rfl (by kernel_rfl) ?_
  replace h := brn_some h; rcases h with ⟨h1382, h⟩ | ⟨h1382, h⟩
  ·refine W_sound tab_ok mixed 23 _ _ _ ?_
   simp -implicitDefEqProofs only [go_sem, Nat.reduceBEq, Nat.reduceLT, ↓reduceIte, h1382]
   repeat with_reducible refine And.intro (by first | kernel_rfl | decide) ?_
   obtain rfl := Option.some.inj h
   exact finC [(4, .v .nl), (5, .v (.int .i64 x1381))] [(4, .v (.lst false 0 [])), (5, .v (.int .i64 x1381))] (by simp [leE, lk_cons]) (.cons _ _ _ _ _ (.v _ _ (.nl false)) (.cons _ _ _ _ _ (.v _ _ (.refl _)) .nil)) (by rfl) (by simp [leE, lk_cons]) (by decide) (by decide) rfl (by simp only [go_sem, Nat.reduceBEq, resQ_tmp, resQ_nil, retD_two]; try simp [R.val, retD_one, retD_two, retD_three, retD_none])
  ·cases h
 ·(try dsimp only at h)
  refine W_sound tab_ok mixed 9 _ _ _ ?_
  simp -implicitDefEqProofs only [go_sem, Nat.reduceBEq, Nat.reduceLT, h1376]
  repeat with_reducible refine And.intro (by first | kernel_rfl | decide) ?_
  refine Wp_callD [] (c83_b N _ _ _ _ _ h1379) rfl rfl rfl (by first | rfl | (simp only [go_sem, Nat.reduceBEq, Nat.reduceAdd, Nat.reduceSub, Nat.reduceMul, Nat.reduceLT, Nat.reduceLeDiff, Int.reduceLE, Int.reduceLT, Int.reduceToNat, Int.reduceBEq, Int.reduceBNe, ↓reduceIte, h1376] <;> rfl)) rfl (by kernel_rfl) ?_
  replace h := brn_some h; rcases h with ⟨h1386, h⟩ | ⟨h1386, h⟩
  ·refine W_sound tab_ok mixed 23 _ _ _ ?_
   simp -implicitDefEqProofs only [go_sem, Nat.reduceBEq, Nat.reduceAdd, Nat.reduceSub, Nat.reduceMul, Nat.reduceLT, Nat.reduceLeDiff, ↓reduceIte, h1386]
   repeat with_reducible refine And.intro (by first | kernel_rfl | decide) ?_
   obtain rfl := Option.some.inj h
   exact finC [(4, .v .nl), (5, .v (.int .i64 x1384))] [(4, .v (.lst false 0 [])), (5, .v (.int .i64 x1384))] (by simp [leE, lk_cons]) (.cons _ _ _ _ _ (.v _ _ (.nl false)) (.cons _ _ _ _ _ (.v _ _ (.refl _)) .nil)) (by rfl) (by simp [leE, lk_cons]) (by decide) (by decide) rfl (by simp only [go_sem, Nat.reduceBEq, resQ_tmp, resQ_nil, retD_two]; try simp [R.val, retD_one, retD_two, retD_three, retD_none])
  ·replace h := bnd'_some h; obtain ⟨⟨p1387, c1389, c1390⟩, h1388, h⟩ := h
   (try dsimp only at h)
   refine W_sound tab_ok mixed 28 _ _ _ ?_
   simp -implicitDefEqProofs only [go_sem, Nat.reduceBEq, Nat.reduceAdd, Nat.reduceSub, Nat.reduceMul, Nat.reduceLT, Nat.reduceLeDiff, ↓reduceIte, h1386]
   repeat with_reducible refine And.intro (by first | kernel_rfl | decide) ?_
   refine Wp_callD [13, 36] (c64 N _ _ _ _ _ h1388) rfl rfl rfl (by first | rfl | (simp only [go_sem, Nat.reduceBEq, Nat.reduceAdd, Nat.reduceSub, Nat.reduceMul, Nat.reduceLT, Nat.reduceLeDiff, Int.reduceLE, Int.reduceLT, Int.reduceToNat, Int.reduceBEq, Int.reduceBNe, ↓reduceIte, h1376, h1386] <;> rfl)) rfl (by kernel_rfl) ?_
   replace h := getT0_some h; obtain ⟨h1391, h⟩ := h
   refine W_sound tab_ok mixed 3 _ _ _ ?_
   simp -implicitDefEqProofs only [go_sem, Nat.reduceBEq, Nat.reduceAdd, Nat.reduceSub, Nat.reduceMul, Nat.reduceLT, h1391]
   repeat with_reducible refine And.intro (by first | kernel_rfl | decide) ?_
   refine Wp_wkK (Wk_freeze 36 c1390 (by rfl) (by decide) (by decide)) rfl ?_
   simp -implicitDefEqProofs only [go_sem, Nat.reduceBEq]
   replace h := bnd'_some h; obtain ⟨p1397, h1398, h⟩ := h
   refine W_sound tab_ok mixed 3 _ _ _ ?_
   simp -implicitDefEqProofs only [go_sem, Nat.reduceBEq, Nat.reduceAdd, Nat.reduceLT]
   repeat with_reducible refine And.intro (by first | kernel_rfl | decide) ?_
   refine Wp_callP (c69_2 N _ _ h1398) (by kernel_rfl) rfl rfl rfl rfl (by decide) ?_
   replace h := getI_some h; obtain ⟨x1400, h1399, h⟩ := h
   replace h := brn_some h; rcases h with ⟨h1401, h⟩ | ⟨h1401, h⟩
   ·refine W_sound tab_ok mixed 10 _ _ _ ?_
    simp -implicitDefEqProofs only [go_sem, Nat.reduceBEq, Nat.reduceLT, ↓reduceIte, h1399, h1401]
    repeat with_reducible refine And.intro (by first | kernel_rfl | decide) ?_
    obtain rfl := Option.some.inj h
    exact finC [(4, .v .nl), (5, .v (.int .i64 12))] [(4, .v (.lst false 0 [])), (5, .v (.int .i64 12))] (by simp [leE, lk_cons]) (.cons _ _ _ _ _ (.v _ _ (.nl false)) (.cons _ _ _ _ _ (.v _ _ (.refl _)) .nil)) (by rfl) (by simp [leE, lk_cons]) (by decide) (by decide) rfl (by simp only [go_sem, Nat.reduceBEq, resQ_tmp, resQ_nil, retD_two]; try simp [R.val, retD_one, retD_two, retD_three, retD_none])
   ·replace h := grd_some h; obtain ⟨g1402, h⟩ := h
    replace h := bnd'_some h; obtain ⟨p1403, h1404, h⟩ := h
    refine W_sound tab_ok mixed 11 _ _ _ ?_
    simp -implicitDefEqProofs only [go_sem, Nat.reduceBEq, Nat.reduceLT, ↓reduceIte, h1399, h1401, g1402]
    repeat with_reducible refine And.intro (by first | kernel_rfl | decide) ?_
    refine Wp_callP (c65 N _ _ _ h1404) (by kernel_rfl) rfl rfl rfl rfl (by decide) ?_
    replace h := getL_some h; obtain ⟨n1406, c1407, h1405, h⟩ := h
    refine W_sound tab_ok mixed 5 _ _ _ ?_
    simp -implicitDefEqProofs only [go_sem, Nat.reduceBEq, Nat.reduceLT, h1405]
    repeat with_reducible refine And.intro (by first | kernel_rfl | decide) ?_
    obtain rfl := Option.some.inj h
    exact finC [(4, .v (.lst false n1406 c1407)), (5, .v (.int .i64 0))] [(4, .v (.lst false n1406 c1407)), (5, .v (.int .i64 0))] (by simp [leE, lk_cons]) (.cons _ _ _ _ _ (.v _ _ (.refl _)) (.cons _ _ _ _ _ (.v _ _ (.refl _)) .nil)) (by rfl) (by simp [leE, lk_cons]) (by decide) (by decide) rfl (by simp only [go_sem, Nat.reduceBEq, resQ_tmp, resQ_nil, retD_two]; try simp [R.val, retD_one, retD_two, retD_three, retD_none])
end Go.Proofs.YtcaecfofgdogbaaDoor
