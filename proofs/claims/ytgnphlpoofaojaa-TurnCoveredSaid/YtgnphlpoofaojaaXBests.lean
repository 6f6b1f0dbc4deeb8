import Derived.Test.YtgnphlpoofaojaaXWorths
import Derived.Test.YtgnphlpoofaojaaB
import Derived.Test.YtgnphlpoofaojaaV30
namespace Go.Proofs.Ytgnphlpoofaojaa
open Go.V
set_option maxRecDepth 100000
set_option maxHeartbeats 4000000
set_option linter.unusedSimpArgs false
set_option linter.unusedVariables false
attribute [local go_sem] tl1 tl2 tl3 tl4 tl5 tl9 tl17 tl21 tl22 tl23 tl24 tl25 tl26 tl27 tl28 tl29 tl31 tl33 tl34 tl36 tl37 tl38 tl39 tl40 tl41 tl42 tl43 tl44 tl46 tl47 tl49 tl50 tl52 tl53 tl54 tl55 tl56 tl57 tl58 tl60 tl62 tl63 tl64 tl65 tl66 tl67 tl68 tl69 tl70 tl71 tl72 tl74 tl75 tl76 tl77 tl78 tl79 tl80 tl81 tl82 tl83 tl84 tl85 tl86 tl87 tl88 tl89 tl90 tl91 tl92 tl93 tl94 tl95 tl96 tl97 tl98 tl99 tl100 tl102 tl103 tl104 tl105 tl106 tl107 tl108 tl109 tl110 tl111 tl112 tl113 tl114 tl115 tl116 tl117 tl118 tl119 tl120 tl121 tl122 tl123 tl124 tl125 tl126 tl127 tl128 tl129 tl130 tl131 tl132 tl133 tl134 tl140 tl141 tl145

def m36_L0 (N : Nat) (x622 : Int) (x623 : Int) (c625 : List PV) (x628 : Int) : Nat → Nat → Int → List PV → Option ((Nat × List PV))
  | 0, _, _, _ => none
  | n + 1, n654, x655, c656 =>
    brn (decide (x655 < (IntKind.i64.wrap (1 + (Int.tmod (IntKind.i64.wrap x628) 8))))) (
      grd (0 ≤ x655 ∧ x655 < 8) <|
      grd ((1 + (Int.toNat x655)) < List.length c625) <|
      getI .i8 (gp c625 (1 + (Int.toNat x655))) fun x662 =>
      grd ((IntKind.i64.wrap (x622 + 1)) ≠ 0) <|
      grd ((9 + (Int.toNat x655)) < List.length c625) <|
      getI .i8 (gp c625 (9 + (Int.toNat x655))) fun x666 =>
      grd ((IntKind.i64.wrap (x623 + 1)) ≠ 0) <|
      grd ((n654 + 1) ≤ 1099511627776) <|
      grd (List.length c656 = (n654 * 2)) <|
      m36_L0 N x622 x623 c625 x628 n (n654 + 1) (IntKind.i64.wrap (x655 + 1)) (c656 ++ [(.int .i64 (Int.tmod (IntKind.i64.wrap x662) (IntKind.i64.wrap (x622 + 1)))), (.int .i64 (Int.tmod (IntKind.i64.wrap x666) (IntKind.i64.wrap (x623 + 1))))])) (
      some (n654, c656))
def m36 (N : Nat) (p621 : PV) (x622 : Int) (x623 : Int) : Option (PV) :=
  getA p621 fun c625 =>
  grd (0 < List.length c625) <|
  getI .u8 (gp c625 0) fun x628 =>
  grd (8 ≠ 0) <|
  bnd' (m36_L0 N x622 x623 c625 x628 N 0 0 []) fun o =>
  match o with
  | (n670, c671) =>
    grd (List.length c671 = (n670 * 2)) <|
    some (.lst false n670 c671)
theorem c36 (N : Nat) (p621 : PV) (x622 : Int) (x623 : Int) (r : PV)  (h : m36 N p621 x622 x623 = some r) : FnP Try.prog 36 [p621, (.int .i64 x622), (.int .i64 x623)] r := by
  unfold m36 at h
  refine Fn_of (sz := 39) tab_ok [0, 1, 2, 3, 6, 7, 8, 13, 14, 15] [.tmp 6] Try.func36 rfl rfl rfl (by simp) ?_
  simp only [initSt, initEnv, List.map_cons, List.map_nil, List.getD_cons_zero, List.getD_cons_succ, List.getD_nil]
  have hh := getA_some h; clear h; obtain ⟨c625, h624, h⟩ := hh
  have hh := grd_some h; clear h; obtain ⟨g626, h⟩ := hh
  have hh := getI_some h; clear h; obtain ⟨x628, h627, h⟩ := hh
  have hh := grd_some h; clear h; obtain ⟨g629, h⟩ := hh
  refine W_sound tab_ok mixed 19 _ _ _ ?_
  simp -implicitDefEqProofs only [go_sem, ne_eq, not_false_eq_true, Nat.reduceBEq, Nat.reduceAdd, Nat.reduceSub, Nat.reduceMul, Nat.reduceLT, Nat.reduceLeDiff, Int.reduceLE, Int.reduceLT, Int.reduceToNat, Int.reduceBEq, Int.reduceBNe, decide_true, decide_false, Int.cast_ofNat_Int, ↓reduceIte, h624, g626, h627, g629]
  repeat with_reducible refine And.intro (by first | kernel_rfl | decide) ?_
  refine Wp_weaken (Wk_ownS 7 2 rfl (by decide) (by decide)) ?_
  simp -implicitDefEqProofs only [go_sem, ne_eq, not_false_eq_true, Nat.reduceBEq, Nat.reduceAdd, Nat.reduceSub, Nat.reduceMul, Nat.reduceLT, Nat.reduceLeDiff, Int.reduceLE, Int.reduceLT, Int.reduceToNat, Int.reduceBEq, Int.reduceBNe, decide_true, decide_false, Int.cast_ofNat_Int, ↓reduceIte, h624, g626, h627, g629]
  have hh := bnd'_some h; clear h; obtain ⟨o673, h674, h675⟩ := hh
  refine Wp_cut (fun s => ∃ n670, ∃ c671, (n670, c671) = o673 ∧ s = ⟨[], [(0, .dead), (1, .dead), (2, .dead), (3, .dead), (6, .dead), (7, .sl false 0 0 n670 2), (8, .dead), (13, .dead), (14, .dead), (15, .dead)], [(0, .p c671)], 1, []⟩) ?_ ?_
  · refine Wp_block ?_
    refine Wp_loopG (fun n s => ∃ n654, ∃ x655, ∃ c656, m36_L0 N x622 x623 c625 x628 n n654 x655 c656 = some o673 ∧ s = ⟨[], [(0, .dead), (1, .v (.int .i64 x622)), (2, .v (.int .i64 x623)), (3, .ptr 0 0), (6, .dead), (7, .sl false 1 0 n654 2), (8, .dead), (13, .v (.int .i64 (IntKind.i64.wrap (1 + (Int.tmod (IntKind.i64.wrap x628) 8))))), (14, .v (.int .i64 x655)), (15, .dead)], [(0, .p c625), (1, .p c656)], 2, []⟩) N _ ((Wk_le (.cons _ _ _ _ _ (.dead _) (.cons _ _ _ _ _ (.refl _) (.cons _ _ _ _ _ (.refl _) (.cons _ _ _ _ _ (.refl _) (.cons _ _ _ _ _ (.dead _) (.cons _ _ _ _ _ (.refl _) (.cons _ _ _ _ _ (.refl _) (.cons _ _ _ _ _ (.refl _) (.cons _ _ _ _ _ (.refl _) (.cons _ _ _ _ _ (.refl _) .nil)))))))))) (OLe.refl _)).trans (cmpS_ok rfl)) ⟨_, _, _, h674, rfl⟩ ?_
    clear h674
    rintro n _ ⟨n654, x655, c656, h674, rfl⟩
    cases n with
    | zero => cases h674
    | succ n =>
      rw [m36_L0] at h674
      have hh := brn_some h674; clear h674; rcases hh with ⟨h657, h674⟩ | ⟨h657, h674⟩
      · have hh := grd_some h674; clear h674; obtain ⟨⟨g658, g659⟩, h674⟩ := hh
        have hh := grd_some h674; clear h674; obtain ⟨g660, h674⟩ := hh
        have hh := getI_some h674; clear h674; obtain ⟨x662, h661, h674⟩ := hh
        have hh := grd_some h674; clear h674; obtain ⟨g663, h674⟩ := hh
        have hh := grd_some h674; clear h674; obtain ⟨g664, h674⟩ := hh
        have hh := getI_some h674; clear h674; obtain ⟨x666, h665, h674⟩ := hh
        have hh := grd_some h674; clear h674; obtain ⟨g667, h674⟩ := hh
        have hh := grd_some h674; clear h674; obtain ⟨g668, h674⟩ := hh
        have hh := grd_some h674; clear h674; obtain ⟨g669, h674⟩ := hh
        refine W_sound tab_ok mixed 42 _ _ _ ?_
        simp -implicitDefEqProofs only [go_sem, ne_eq, not_false_eq_true, Nat.reduceBEq, Nat.reduceAdd, Nat.reduceSub, Nat.reduceMul, Nat.reduceLT, Nat.reduceLeDiff, Int.reduceLE, Int.reduceLT, Int.reduceToNat, Int.reduceBEq, Int.reduceBNe, decide_true, decide_false, Int.cast_ofNat_Int, ↓reduceIte, h624, g626, h627, g629, h657, g658, g659, g660, h661, g663, g664, h665, g667, g668, g669]
        repeat with_reducible refine And.intro (by first | kernel_rfl | decide) ?_
        exact cutQ _ ((Wk_le (.cons _ _ _ _ _ (.refl _) (.cons _ _ _ _ _ (.refl _) (.cons _ _ _ _ _ (.refl _) (.cons _ _ _ _ _ (.refl _) (.cons _ _ _ _ _ (.refl _) (.cons _ _ _ _ _ (.refl _) (.cons _ _ _ _ _ (.dead _) (.cons _ _ _ _ _ (.refl _) (.cons _ _ _ _ _ (.refl _) (.cons _ _ _ _ _ (.dead _) .nil)))))))))) (OLe.refl _)).trans (cmpS_ok rfl)) ⟨n, Nat.lt_succ_self n, _, _, _, h674, rfl⟩
      · refine W_sound tab_ok mixed 7 _ _ _ ?_
        simp -implicitDefEqProofs only [go_sem, ne_eq, not_false_eq_true, Nat.reduceBEq, Nat.reduceAdd, Nat.reduceSub, Nat.reduceMul, Nat.reduceLT, Nat.reduceLeDiff, Int.reduceLE, Int.reduceLT, Int.reduceToNat, Int.reduceBEq, Int.reduceBNe, decide_true, decide_false, Int.cast_ofNat_Int, ↓reduceIte, h624, g626, h627, g629, h657]
        repeat with_reducible refine And.intro (by first | kernel_rfl | decide) ?_
        obtain rfl := Option.some.inj h674
        exact cutQ _ ((Wk_le (.cons _ _ _ _ _ (.refl _) (.cons _ _ _ _ _ (.dead _) (.cons _ _ _ _ _ (.dead _) (.cons _ _ _ _ _ (.dead _) (.cons _ _ _ _ _ (.refl _) (.cons _ _ _ _ _ (.refl _) (.cons _ _ _ _ _ (.refl _) (.cons _ _ _ _ _ (.dead _) (.cons _ _ _ _ _ (.dead _) (.cons _ _ _ _ _ (.dead _) .nil)))))))))) (OLe.refl _)).trans (cmpS_ok rfl)) ⟨_, _, rfl, rfl⟩
  · rintro _ ⟨n670, c671, rfl, rfl⟩
    (try dsimp only at h675)
    refine W_sound tab_ok mixed 6 _ _ _ ?_
    simp -implicitDefEqProofs only [go_sem, ne_eq, not_false_eq_true, Nat.reduceBEq, Nat.reduceAdd, Nat.reduceSub, Nat.reduceMul, Nat.reduceLT, Nat.reduceLeDiff, Int.reduceLE, Int.reduceLT, Int.reduceToNat, Int.reduceBEq, Int.reduceBNe, decide_true, decide_false, Int.cast_ofNat_Int, ↓reduceIte, h624, g626, h627, g629]
    repeat with_reducible refine And.intro (by first | kernel_rfl | decide) ?_
    have hh := grd_some h675; clear h675; obtain ⟨g672, h675⟩ := hh
    refine FinQ_wk (Wk_freeze 0 c671 (by rfl) (by decide) (by decide)) ?_
    simp -implicitDefEqProofs only [go_sem, ne_eq, not_false_eq_true, Nat.reduceBEq, Nat.reduceAdd, Nat.reduceSub, Nat.reduceMul, Nat.reduceLT, Nat.reduceLeDiff, Int.reduceLE, Int.reduceLT, Int.reduceToNat, Int.reduceBEq, Int.reduceBNe, decide_true, decide_false, Int.cast_ofNat_Int, ↓reduceIte, h624, g626, h627, g629, g672]
    obtain rfl := Option.some.inj h675
    exact finC [(6, .v (.lst false n670 c671))] [(6, .v (.lst false n670 c671))] (by simp [leE, lk_cons]) (.cons _ _ _ _ _ (.v _ _ (.refl _)) .nil) (by rfl) (by simp [leE, lk_cons]) (by decide) (by decide) rfl (by simp only [go_sem, ne_eq, not_false_eq_true, Nat.reduceBEq, Nat.reduceAdd, Nat.reduceSub, Nat.reduceMul, Nat.reduceLT, Nat.reduceLeDiff, Int.reduceLE, Int.reduceLT, Int.reduceToNat, Int.reduceBEq, Int.reduceBNe, decide_true, decide_false, Int.cast_ofNat_Int, ↓reduceIte, resQ_tmp, resQ_cell, resQ_nil, retD_one, retD_two, retD_three, retD_none]; try simp [R.val, retD_one, retD_two, retD_three, retD_none])

def m41 (N : Nat) (p689 : PV) (p690 : PV) : Option (PV) :=
  getA2 p689 fun p692 p693 =>
  getA2 p690 fun p695 p696 =>
  getI .i64 p692 fun x698 =>
  getI .i64 p696 fun x700 =>
  getI .i64 p693 fun x702 =>
  getI .i64 p695 fun x704 =>
  some (.int .i64 (IntKind.i64.wrap ((IntKind.i64.wrap (x698 * x700)) + (IntKind.i64.wrap (x702 * x704)))))
theorem c41 (N : Nat) (p689 : PV) (p690 : PV) (r : PV)  (h : m41 N p689 p690 = some r) : FnP Try.prog 41 [p689, p690] r := by
  unfold m41 at h
  refine Fn_of (sz := 16) tab_ok [0, 1, 2, 3, 4] [.tmp 4] Try.func41 rfl rfl rfl (by simp) ?_
  simp only [initSt, initEnv, List.map_cons, List.map_nil, List.getD_cons_zero, List.getD_cons_succ, List.getD_nil]
  have hh := getA2_some h; clear h; obtain ⟨p692, p693, h691, h⟩ := hh
  have hh := getA2_some h; clear h; obtain ⟨p695, p696, h694, h⟩ := hh
  have hh := getI_some h; clear h; obtain ⟨x698, h697, h⟩ := hh
  have hh := getI_some h; clear h; obtain ⟨x700, h699, h⟩ := hh
  have hh := getI_some h; clear h; obtain ⟨x702, h701, h⟩ := hh
  have hh := getI_some h; clear h; obtain ⟨x704, h703, h⟩ := hh
  refine W_sound tab_ok mixed 22 _ _ _ ?_
  simp -implicitDefEqProofs only [go_sem, ne_eq, not_false_eq_true, Nat.reduceBEq, Nat.reduceAdd, Nat.reduceSub, Nat.reduceMul, Nat.reduceLT, Nat.reduceLeDiff, Int.reduceLE, Int.reduceLT, Int.reduceToNat, Int.reduceBEq, Int.reduceBNe, decide_true, decide_false, Int.cast_ofNat_Int, ↓reduceIte, h691, h694, h697, h699, h701, h703]
  repeat with_reducible refine And.intro (by first | kernel_rfl | decide) ?_
  obtain rfl := Option.some.inj h
  exact finC [(4, .v (.int .i64 (IntKind.i64.wrap ((IntKind.i64.wrap (x698 * x700)) + (IntKind.i64.wrap (x702 * x704))))))] [(4, .v (.int .i64 (IntKind.i64.wrap ((IntKind.i64.wrap (x698 * x700)) + (IntKind.i64.wrap (x702 * x704))))))] (by simp [leE, lk_cons]) (.cons _ _ _ _ _ (.v _ _ (.refl _)) .nil) (by rfl) (by simp [leE, lk_cons]) (by decide) (by decide) rfl (by simp only [go_sem, ne_eq, not_false_eq_true, Nat.reduceBEq, Nat.reduceAdd, Nat.reduceSub, Nat.reduceMul, Nat.reduceLT, Nat.reduceLeDiff, Int.reduceLE, Int.reduceLT, Int.reduceToNat, Int.reduceBEq, Int.reduceBNe, decide_true, decide_false, Int.cast_ofNat_Int, ↓reduceIte, resQ_tmp, resQ_cell, resQ_nil, retD_one, retD_two, retD_three, retD_none]; try simp [R.val, retD_one, retD_two, retD_three, retD_none])

def m40 (N : Nat) (x726 : Int) (x727 : Int) : Option (PV) :=
  some (.agg [(.int .i64 x726), (.int .i64 x727)])
theorem c40 (N : Nat) (x726 : Int) (x727 : Int) (r : PV)  (h : m40 N x726 x727 = some r) : FnP Try.prog 40 [(.int .i64 x726), (.int .i64 x727)] r := by
  unfold m40 at h
  refine Fn_of (sz := 8) tab_ok [0, 1, 4] [.cell 4 24] Try.func40 rfl rfl rfl (by simp) ?_
  simp only [initSt, initEnv, List.map_cons, List.map_nil, List.getD_cons_zero, List.getD_cons_succ, List.getD_nil]
  refine W_sound tab_ok mixed 12 _ _ _ ?_
  simp -implicitDefEqProofs only [go_sem, ne_eq, not_false_eq_true, Nat.reduceBEq, Nat.reduceAdd, Nat.reduceSub, Nat.reduceMul, Nat.reduceLT, Nat.reduceLeDiff, Int.reduceLE, Int.reduceLT, Int.reduceToNat, Int.reduceBEq, Int.reduceBNe, decide_true, decide_false, Int.cast_ofNat_Int, ↓reduceIte]
  repeat with_reducible refine And.intro (by first | kernel_rfl | decide) ?_
  refine FinQ_wk (Wk_freeze 4 [(.int .i64 x726), (.int .i64 x727)] (by rfl) (by decide) (by decide)) ?_
  simp -implicitDefEqProofs only [go_sem, ne_eq, not_false_eq_true, Nat.reduceBEq, Nat.reduceAdd, Nat.reduceSub, Nat.reduceMul, Nat.reduceLT, Nat.reduceLeDiff, Int.reduceLE, Int.reduceLT, Int.reduceToNat, Int.reduceBEq, Int.reduceBNe, decide_true, decide_false, Int.cast_ofNat_Int, ↓reduceIte]
  obtain rfl := Option.some.inj h
  exact finC [(4, .v (.ipt [(.int .i64 x726), (.int .i64 x727)]))] [(4, .v (.ipt [(.int .i64 x726), (.int .i64 x727)]))] (by simp [leE, lk_cons]) (.cons _ _ _ _ _ (.v _ _ (.refl _)) .nil) (by rfl) (by simp [leE, lk_cons]) (by decide) (by decide) rfl (by simp only [go_sem, ne_eq, not_false_eq_true, Nat.reduceBEq, Nat.reduceAdd, Nat.reduceSub, Nat.reduceMul, Nat.reduceLT, Nat.reduceLeDiff, Int.reduceLE, Int.reduceLT, Int.reduceToNat, Int.reduceBEq, Int.reduceBNe, decide_true, decide_false, Int.cast_ofNat_Int, ↓reduceIte, resQ_tmp, resQ_cell, resQ_nil, retD_one, retD_two, retD_three, retD_none]; try simp [R.val, retD_one, retD_two, retD_three, retD_none])

end Go.Proofs.Ytgnphlpoofaojaa
