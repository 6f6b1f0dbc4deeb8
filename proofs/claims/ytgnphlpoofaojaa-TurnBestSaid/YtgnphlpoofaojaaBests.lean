import Derived.Test.YtgnphlpoofaojaaWorths
import Derived.Test.YtgnphlpoofaojaaB
import Derived.Test.YtgnphlpoofaojaaV30
namespace Go.Proofs.Ytgnphlpoofaojaa
open Go.V
set_option maxRecDepth 100000
set_option maxHeartbeats 4000000
set_option linter.unusedSimpArgs false
set_option linter.unusedVariables false
attribute [local go_sem] tl1 tl2 tl3 tl4 tl5 tl9 tl17 tl21 tl22 tl23 tl24 tl25 tl26 tl27 tl28 tl29 tl31 tl33 tl34 tl36 tl37 tl38 tl39 tl40 tl41 tl42 tl43 tl44 tl46 tl47 tl49 tl50 tl52 tl53 tl54 tl55 tl56 tl57 tl58 tl60 tl62 tl63 tl64 tl65 tl66 tl67 tl68 tl69 tl70 tl71 tl72 tl74 tl75 tl76 tl77 tl78 tl79 tl80 tl81 tl82 tl83 tl84 tl85 tl86 tl87 tl88 tl89 tl90 tl91 tl92 tl93 tl94 tl95 tl96 tl97 tl98 tl99 tl100 tl102 tl103 tl104 tl105 tl106 tl107 tl108 tl109 tl110 tl111 tl112 tl113 tl114 tl115 tl116 tl117 tl118 tl119 tl120 tl121 tl122 tl123 tl124 tl125 tl126 tl127 tl128 tl129 tl130 tl131 tl132 tl133 tl134 tl140 tl141 tl145

/-! (breeze/breezelaw12.Desk).made -/
def m36_L0 (N : Nat) (x622 : Int) (x623 : Int) (c625 : List PV) (x628 : Int) : Nat → Nat → Int → List PV → Option ((Nat × List PV))
  | 0, _, _, _ => none
  | n + 1, n654, x655, c656 =>
    brn (decide (x655 < (IntKind.i64.wrap (1 + (Int.tmod (IntKind.i64.wrap x628) 8))))) (
      grd (0 ≤ x655 ∧ x655 < 8) <|
      grd ((1 + (Int.toNat x655)) < List.length c625) <|
      getI .i8 (gp c625 (1 + (Int.toNat x655))) fun x662 =>
      grd ((IntKind.i64.wrap (x622 + 1)) ≠ 0) <|
      grd ((9 + (Int.toNat x655)) < List.length c625) <|
      getI .i8 (gp c625 (9 + (Int.toNat x655))) fun x666 =>
      grd ((IntKind.i64.wrap (x623 + 1)) ≠ 0) <|
      grd ((n654 + 1) ≤ 1099511627776) <|
      grd (List.length c656 = (n654 * 2)) <|
      m36_L0 N x622 x623 c625 x628 n (n654 + 1) (IntKind.i64.wrap (x655 + 1)) (c656 ++ [(.int .i64 (Int.tmod (IntKind.i64.wrap x662) (IntKind.i64.wrap (x622 + 1)))), (.int .i64 (Int.tmod (IntKind.i64.wrap x666) (IntKind.i64.wrap (x623 + 1))))])) (
      some (n654, c656))
def m36 (N : Nat) (p621 : PV) (x622 : Int) (x623 : Int) : Option (PV) :=
  getA p621 fun c625 =>
  grd (0 < List.length c625) <|
  getI .u8 (gp c625 0) fun x628 =>
  grd (8 ≠ 0) <|
  bnd' (m36_L0 N x622 x623 c625 x628 N 0 0 []) fun o =>
  match o with
  | (n670, c671) =>
    grd (List.length c671 = (n670 * 2)) <|
    some (.lst false n670 c671)
theorem c36 (N : Nat) (p621 : PV) (x622 : Int) (x623 : Int) (r : PV)  (h : m36 N p621 x622 x623 = some r) : FnP Try.prog 36 [p621, (.int .i64 x622), (.int .i64 x623)] r := by
  unfold m36 at h
  refine Fn_of (sz := 39) tab_ok [0, 1, 2, 3, 6, 7, 8, 13, 14, 15] [.tmp 6] Try.func36 rfl rfl rfl (by simp) ?_
  simp only [initSt, initEnv, List.map_cons, List.map_nil, List.getD_cons_zero, List.getD_cons_succ, List.getD_nil]
  have hh := getA_some h; clear h; obtain ⟨c625, h624, h⟩ := hh
  have hh := grd_some h; clear h; obtain ⟨g626, h⟩ := hh
  have hh := getI_some h; clear h; obtain ⟨x628, h627, h⟩ := hh
  have hh := grd_some h; clear h; obtain ⟨g629, h⟩ := hh
  refine W_sound tab_ok mixed 19 _ _ _ ?_
  simp -implicitDefEqProofs only [go_sem, ne_eq, not_false_eq_true, Nat.reduceBEq, Nat.reduceAdd, Nat.reduceSub, Nat.reduceMul, Nat.reduceLT, Nat.reduceLeDiff, Int.reduceLE, Int.reduceLT, Int.reduceToNat, Int.reduceBEq, Int.reduceBNe, decide_true, decide_false, Int.cast_ofNat_Int, ↓reduceIte, h624, g626, h627, g629]
  repeat with_reducible refine And.intro (by first | kernel_rfl | decide) ?_
  refine Wp_weaken (Wk_ownS 7 2 rfl (by decide) (by decide)) ?_
  simp -implicitDefEqProofs only [go_sem, ne_eq, not_false_eq_true, Nat.reduceBEq, Nat.reduceAdd, Nat.reduceSub, Nat.reduceMul, Nat.reduceLT, Nat.reduceLeDiff, Int.reduceLE, Int.reduceLT, Int.reduceToNat, Int.reduceBEq, Int.reduceBNe, decide_true, decide_false, Int.cast_ofNat_Int, ↓reduceIte, h624, g626, h627, g629]
  have hh := bnd'_some h; clear h; obtain ⟨o673, h674, h675⟩ := hh
  refine Wp_cut (fun s => ∃ n670, ∃ c671, (n670, c671) = o673 ∧ s = ⟨[], [(0, .dead), (1, .dead), (2, .dead), (3, .dead), (6, .dead), (7, .sl false 0 0 n670 2), (8, .dead), (13, .dead), (14, .dead), (15, .dead)], [(0, .p c671)], 1, []⟩) ?_ ?_
  · refine Wp_block ?_
    refine Wp_loopG (fun n s => ∃ n654, ∃ x655, ∃ c656, m36_L0 N x622 x623 c625 x628 n n654 x655 c656 = some o673 ∧ s = ⟨[], [(0, .dead), (1, .v (.int .i64 x622)), (2, .v (.int .i64 x623)), (3, .ptr 0 0), (6, .dead), (7, .sl false 1 0 n654 2), (8, .dead), (13, .v (.int .i64 (IntKind.i64.wrap (1 + (Int.tmod (IntKind.i64.wrap x628) 8))))), (14, .v (.int .i64 x655)), (15, .dead)], [(0, .p c625), (1, .p c656)], 2, []⟩) N _ ((Wk_le (.cons _ _ _ _ _ (.dead _) (.cons _ _ _ _ _ (.refl _) (.cons _ _ _ _ _ (.refl _) (.cons _ _ _ _ _ (.refl _) (.cons _ _ _ _ _ (.dead _) (.cons _ _ _ _ _ (.refl _) (.cons _ _ _ _ _ (.refl _) (.cons _ _ _ _ _ (.refl _) (.cons _ _ _ _ _ (.refl _) (.cons _ _ _ _ _ (.refl _) .nil)))))))))) (OLe.refl _)).trans (cmpS_ok rfl)) ⟨_, _, _, h674, rfl⟩ ?_
    clear h674
    rintro n _ ⟨n654, x655, c656, h674, rfl⟩
    cases n with
    | zero => cases h674
    | succ n =>
      rw [m36_L0] at h674
      have hh := brn_some h674; clear h674; rcases hh with ⟨h657, h674⟩ | ⟨h657, h674⟩
      · have hh := grd_some h674; clear h674; obtain ⟨⟨g658, g659⟩, h674⟩ := hh
        have hh := grd_some h674; clear h674; obtain ⟨g660, h674⟩ := hh
        have hh := getI_some h674; clear h674; obtain ⟨x662, h661, h674⟩ := hh
        have hh := grd_some h674; clear h674; obtain ⟨g663, h674⟩ := hh
        have hh := grd_some h674; clear h674; obtain ⟨g664, h674⟩ := hh
        have hh := getI_some h674; clear h674; obtain ⟨x666, h665, h674⟩ := hh
        have hh := grd_some h674; clear h674; obtain ⟨g667, h674⟩ := hh
        have hh := grd_some h674; clear h674; obtain ⟨g668, h674⟩ := hh
        have hh := grd_some h674; clear h674; obtain ⟨g669, h674⟩ := hh
        refine W_sound tab_ok mixed 42 _ _ _ ?_
        simp -implicitDefEqProofs only [go_sem, ne_eq, not_false_eq_true, Nat.reduceBEq, Nat.reduceAdd, Nat.reduceSub, Nat.reduceMul, Nat.reduceLT, Nat.reduceLeDiff, Int.reduceLE, Int.reduceLT, Int.reduceToNat, Int.reduceBEq, Int.reduceBNe, decide_true, decide_false, Int.cast_ofNat_Int, ↓reduceIte, h624, g626, h627, g629, h657, g658, g659, g660, h661, g663, g664, h665, g667, g668, g669]
        repeat with_reducible refine And.intro (by first | kernel_rfl | decide) ?_
        exact cutQ _ ((Wk_le (.cons _ _ _ _ _ (.refl _) (.cons _ _ _ _ _ (.refl _) (.cons _ _ _ _ _ (.refl _) (.cons _ _ _ _ _ (.refl _) (.cons _ _ _ _ _ (.refl _) (.cons _ _ _ _ _ (.refl _) (.cons _ _ _ _ _ (.dead _) (.cons _ _ _ _ _ (.refl _) (.cons _ _ _ _ _ (.refl _) (.cons _ _ _ _ _ (.dead _) .nil)))))))))) (OLe.refl _)).trans (cmpS_ok rfl)) ⟨n, Nat.lt_succ_self n, _, _, _, h674, rfl⟩
      · refine W_sound tab_ok mixed 7 _ _ _ ?_
        simp -implicitDefEqProofs only [go_sem, ne_eq, not_false_eq_true, Nat.reduceBEq, Nat.reduceAdd, Nat.reduceSub, Nat.reduceMul, Nat.reduceLT, Nat.reduceLeDiff, Int.reduceLE, Int.reduceLT, Int.reduceToNat, Int.reduceBEq, Int.reduceBNe, decide_true, decide_false, Int.cast_ofNat_Int, ↓reduceIte, h624, g626, h627, g629, h657]
        repeat with_reducible refine And.intro (by first | kernel_rfl | decide) ?_
        obtain rfl := Option.some.inj h674
        exact cutQ _ ((Wk_le (.cons _ _ _ _ _ (.refl _) (.cons _ _ _ _ _ (.dead _) (.cons _ _ _ _ _ (.dead _) (.cons _ _ _ _ _ (.dead _) (.cons _ _ _ _ _ (.refl _) (.cons _ _ _ _ _ (.refl _) (.cons _ _ _ _ _ (.refl _) (.cons _ _ _ _ _ (.dead _) (.cons _ _ _ _ _ (.dead _) (.cons _ _ _ _ _ (.dead _) .nil)))))))))) (OLe.refl _)).trans (cmpS_ok rfl)) ⟨_, _, rfl, rfl⟩
  · rintro _ ⟨n670, c671, rfl, rfl⟩
    (try dsimp only at h675)
    refine W_sound tab_ok mixed 6 _ _ _ ?_
    simp -implicitDefEqProofs only [go_sem, ne_eq, not_false_eq_true, Nat.reduceBEq, Nat.reduceAdd, Nat.reduceSub, Nat.reduceMul, Nat.reduceLT, Nat.reduceLeDiff, Int.reduceLE, Int.reduceLT, Int.reduceToNat, Int.reduceBEq, Int.reduceBNe, decide_true, decide_false, Int.cast_ofNat_Int, ↓reduceIte, h624, g626, h627, g629]
    repeat with_reducible refine And.intro (by first | kernel_rfl | decide) ?_
    have hh := grd_some h675; clear h675; obtain ⟨g672, h675⟩ := hh
    refine FinQ_wk (Wk_freeze 0 c671 (by rfl) (by decide) (by decide)) ?_
    simp -implicitDefEqProofs only [go_sem, ne_eq, not_false_eq_true, Nat.reduceBEq, Nat.reduceAdd, Nat.reduceSub, Nat.reduceMul, Nat.reduceLT, Nat.reduceLeDiff, Int.reduceLE, Int.reduceLT, Int.reduceToNat, Int.reduceBEq, Int.reduceBNe, decide_true, decide_false, Int.cast_ofNat_Int, ↓reduceIte, h624, g626, h627, g629, g672]
    obtain rfl := Option.some.inj h675
    exact finC [(6, .v (.lst false n670 c671))] [(6, .v (.lst false n670 c671))] (by simp [leE, lk_cons]) (.cons _ _ _ _ _ (.v _ _ (.refl _)) .nil) (by rfl) (by simp [leE, lk_cons]) (by decide) (by decide) rfl (by simp only [go_sem, ne_eq, not_false_eq_true, Nat.reduceBEq, Nat.reduceAdd, Nat.reduceSub, Nat.reduceMul, Nat.reduceLT, Nat.reduceLeDiff, Int.reduceLE, Int.reduceLT, Int.reduceToNat, Int.reduceBEq, Int.reduceBNe, decide_true, decide_false, Int.cast_ofNat_Int, ↓reduceIte, resQ_tmp, resQ_cell, resQ_nil, retD_one, retD_two, retD_three, retD_none]; try simp [R.val, retD_one, retD_two, retD_three, retD_none])

/-! breeze/breezelaw12.at -/
def m41 (N : Nat) (p689 : PV) (p690 : PV) : Option (PV) :=
  getA2 p689 fun p692 p693 =>
  getA2 p690 fun p695 p696 =>
  getI .i64 p692 fun x698 =>
  getI .i64 p696 fun x700 =>
  getI .i64 p693 fun x702 =>
  getI .i64 p695 fun x704 =>
  some (.int .i64 (IntKind.i64.wrap ((IntKind.i64.wrap (x698 * x700)) + (IntKind.i64.wrap (x702 * x704)))))
theorem c41 (N : Nat) (p689 : PV) (p690 : PV) (r : PV)  (h : m41 N p689 p690 = some r) : FnP Try.prog 41 [p689, p690] r := by
  unfold m41 at h
  refine Fn_of (sz := 16) tab_ok [0, 1, 2, 3, 4] [.tmp 4] Try.func41 rfl rfl rfl (by simp) ?_
  simp only [initSt, initEnv, List.map_cons, List.map_nil, List.getD_cons_zero, List.getD_cons_succ, List.getD_nil]
  have hh := getA2_some h; clear h; obtain ⟨p692, p693, h691, h⟩ := hh
  have hh := getA2_some h; clear h; obtain ⟨p695, p696, h694, h⟩ := hh
  have hh := getI_some h; clear h; obtain ⟨x698, h697, h⟩ := hh
  have hh := getI_some h; clear h; obtain ⟨x700, h699, h⟩ := hh
  have hh := getI_some h; clear h; obtain ⟨x702, h701, h⟩ := hh
  have hh := getI_some h; clear h; obtain ⟨x704, h703, h⟩ := hh
  refine W_sound tab_ok mixed 22 _ _ _ ?_
  simp -implicitDefEqProofs only [go_sem, ne_eq, not_false_eq_true, Nat.reduceBEq, Nat.reduceAdd, Nat.reduceSub, Nat.reduceMul, Nat.reduceLT, Nat.reduceLeDiff, Int.reduceLE, Int.reduceLT, Int.reduceToNat, Int.reduceBEq, Int.reduceBNe, decide_true, decide_false, Int.cast_ofNat_Int, ↓reduceIte, h691, h694, h697, h699, h701, h703]
  repeat with_reducible refine And.intro (by first | kernel_rfl | decide) ?_
  obtain rfl := Option.some.inj h
  exact finC [(4, .v (.int .i64 (IntKind.i64.wrap ((IntKind.i64.wrap (x698 * x700)) + (IntKind.i64.wrap (x702 * x704))))))] [(4, .v (.int .i64 (IntKind.i64.wrap ((IntKind.i64.wrap (x698 * x700)) + (IntKind.i64.wrap (x702 * x704))))))] (by simp [leE, lk_cons]) (.cons _ _ _ _ _ (.v _ _ (.refl _)) .nil) (by rfl) (by simp [leE, lk_cons]) (by decide) (by decide) rfl (by simp only [go_sem, ne_eq, not_false_eq_true, Nat.reduceBEq, Nat.reduceAdd, Nat.reduceSub, Nat.reduceMul, Nat.reduceLT, Nat.reduceLeDiff, Int.reduceLE, Int.reduceLT, Int.reduceToNat, Int.reduceBEq, Int.reduceBNe, decide_true, decide_false, Int.cast_ofNat_Int, ↓reduceIte, resQ_tmp, resQ_cell, resQ_nil, retD_one, retD_two, retD_three, retD_none]; try simp [R.val, retD_one, retD_two, retD_three, retD_none])

/-! breeze/breezelaw12.most -/
def m39_L0 (N : Nat) (n679 : Nat) (c680 : List PV) (p682 : PV) (p683 : PV) : Nat → Int → Int → Option (Int)
  | 0, _, _ => none
  | n + 1, x709, x710 =>
    brn (decide (x710 < ((n679 : Nat) : Int))) (
      grd (0 ≤ x710 ∧ x710 < ((n679 : Nat) : Int)) <|
      grd (2 ≤ List.length (List.drop ((Int.toNat x710) * 2) c680)) <|
      getA2 (.agg (List.take 2 (List.drop ((Int.toNat x710) * 2) c680))) fun p716 p717 =>
      bnd' (m41 N (.agg [p716, p717]) (.agg [p682, p683])) fun p718 =>
      getI .i64 p718 fun x721 =>
      m39_L0 N n679 c680 p682 p683 n (maxI x709 x721) (IntKind.i64.wrap (x710 + 1))) (
      some x709)
def m39 (N : Nat) (p676 : PV) (p677 : PV) : Option (PV) :=
  getL p676 fun n679 c680 =>
  getA2 p677 fun p682 p683 =>
  grd (0 < ((n679 : Nat) : Int)) <|
  grd (2 ≤ List.length c680) <|
  getA2 (.agg (List.take 2 c680)) fun p687 p688 =>
  bnd' (m41 N (.agg [p687, p688]) (.agg [p682, p683])) fun p705 =>
  getI .i64 p705 fun x708 =>
  bnd' (m39_L0 N n679 c680 p682 p683 N x708 0) fun x722 =>
  some (.int .i64 x722)
theorem c39 (N : Nat) (p676 : PV) (p677 : PV) (r : PV)  (h : m39 N p676 p677 = some r) : FnP Try.prog 39 [p676, p677] r := by
  unfold m39 at h
  refine Fn_of (sz := 26) tab_ok [0, 1, 3, 4, 5, 7, 13, 14, 15, 16] [.tmp 4] Try.func39 rfl rfl rfl (by simp) ?_
  simp only [initSt, initEnv, List.map_cons, List.map_nil, List.getD_cons_zero, List.getD_cons_succ, List.getD_nil]
  have hh := getL_some h; clear h; obtain ⟨n679, c680, h678, h⟩ := hh
  have hh := getA2_some h; clear h; obtain ⟨p682, p683, h681, h⟩ := hh
  have hh := grd_some h; clear h; obtain ⟨g684, h⟩ := hh
  have hh := grd_some h; clear h; obtain ⟨g685, h⟩ := hh
  have hh := getA2_some h; clear h; obtain ⟨p687, p688, h686, h⟩ := hh
  injection h686 with h686
  have hh := bnd'_some h; clear h; obtain ⟨p705, h706, h⟩ := hh
  refine W_sound tab_ok mixed 11 _ _ _ ?_
  simp -implicitDefEqProofs only [go_sem, ne_eq, not_false_eq_true, Nat.reduceBEq, Nat.reduceAdd, Nat.reduceSub, Nat.reduceMul, Nat.reduceLT, Nat.reduceLeDiff, Int.reduceLE, Int.reduceLT, Int.reduceToNat, Int.reduceBEq, Int.reduceBNe, decide_true, decide_false, Int.cast_ofNat_Int, ↓reduceIte, h678, h681, g684, g685, h686]
  repeat with_reducible refine And.intro (by first | kernel_rfl | decide) ?_
  refine Wp_callP (c41 N _ _ _ h706) (by kernel_rfl) rfl rfl rfl rfl (by decide) ?_
  have hh := getI_some h; clear h; obtain ⟨x708, h707, h⟩ := hh
  refine W_sound tab_ok mixed 9 _ _ _ ?_
  simp -implicitDefEqProofs only [go_sem, ne_eq, not_false_eq_true, Nat.reduceBEq, Nat.reduceAdd, Nat.reduceSub, Nat.reduceMul, Nat.reduceLT, Nat.reduceLeDiff, Int.reduceLE, Int.reduceLT, Int.reduceToNat, Int.reduceBEq, Int.reduceBNe, decide_true, decide_false, Int.cast_ofNat_Int, ↓reduceIte, h678, h681, g684, g685, h686, h707]
  repeat with_reducible refine And.intro (by first | kernel_rfl | decide) ?_
  have hh := bnd'_some h; clear h; obtain ⟨o723, h724, h725⟩ := hh
  refine Wp_cut (fun s => ∃ x722, x722 = o723 ∧ s = ⟨[], [(0, .dead), (1, .dead), (3, .dead), (4, .dead), (5, .v (.int .i64 x722)), (7, .dead), (13, .dead), (14, .dead), (15, .dead), (16, .dead)], [], 0, []⟩) ?_ ?_
  · refine Wp_block ?_
    refine Wp_loopG (fun n s => ∃ x709, ∃ x710, m39_L0 N n679 c680 p682 p683 n x709 x710 = some o723 ∧ s = ⟨[], [(0, .dead), (1, .dead), (3, .ptr 0 0), (4, .dead), (5, .v (.int .i64 x709)), (7, .dead), (13, .v (.lst false n679 c680)), (14, .v (.int .i64 ((n679 : Nat) : Int))), (15, .v (.int .i64 x710)), (16, .dead)], [(0, .p [p682, p683])], 1, []⟩) N _ ((Wk_le (.cons _ _ _ _ _ (.dead _) (.cons _ _ _ _ _ (.dead _) (.cons _ _ _ _ _ (.refl _) (.cons _ _ _ _ _ (.dead _) (.cons _ _ _ _ _ (.refl _) (.cons _ _ _ _ _ (.refl _) (.cons _ _ _ _ _ (.refl _) (.cons _ _ _ _ _ (.refl _) (.cons _ _ _ _ _ (.refl _) (.cons _ _ _ _ _ (.refl _) .nil)))))))))) (OLe.refl _)).trans (cmpS_ok rfl)) ⟨_, _, h724, rfl⟩ ?_
    clear h724
    rintro n _ ⟨x709, x710, h724, rfl⟩
    cases n with
    | zero => cases h724
    | succ n =>
      rw [m39_L0] at h724
      have hh := brn_some h724; clear h724; rcases hh with ⟨h711, h724⟩ | ⟨h711, h724⟩
      · have hh := grd_some h724; clear h724; obtain ⟨⟨g712, g713⟩, h724⟩ := hh
        have hh := grd_some h724; clear h724; obtain ⟨g714, h724⟩ := hh
        have hh := getA2_some h724; clear h724; obtain ⟨p716, p717, h715, h724⟩ := hh
        injection h715 with h715
        have hh := bnd'_some h724; clear h724; obtain ⟨p718, h719, h724⟩ := hh
        refine W_sound tab_ok mixed 20 _ _ _ ?_
        simp -implicitDefEqProofs only [go_sem, ne_eq, not_false_eq_true, Nat.reduceBEq, Nat.reduceAdd, Nat.reduceSub, Nat.reduceMul, Nat.reduceLT, Nat.reduceLeDiff, Int.reduceLE, Int.reduceLT, Int.reduceToNat, Int.reduceBEq, Int.reduceBNe, decide_true, decide_false, Int.cast_ofNat_Int, ↓reduceIte, h678, h681, g684, g685, h686, h707, h711, g712, g713, g714, h715]
        repeat with_reducible refine And.intro (by first | kernel_rfl | decide) ?_
        refine Wp_callP (c41 N _ _ _ h719) (by kernel_rfl) rfl rfl rfl rfl (by decide) ?_
        have hh := getI_some h724; clear h724; obtain ⟨x721, h720, h724⟩ := hh
        refine W_sound tab_ok mixed 8 _ _ _ ?_
        simp -implicitDefEqProofs only [go_sem, ne_eq, not_false_eq_true, Nat.reduceBEq, Nat.reduceAdd, Nat.reduceSub, Nat.reduceMul, Nat.reduceLT, Nat.reduceLeDiff, Int.reduceLE, Int.reduceLT, Int.reduceToNat, Int.reduceBEq, Int.reduceBNe, decide_true, decide_false, Int.cast_ofNat_Int, ↓reduceIte, h678, h681, g684, g685, h686, h707, h711, g712, g713, g714, h715, h720]
        repeat with_reducible refine And.intro (by first | kernel_rfl | decide) ?_
        exact cutQ _ ((Wk_le (.cons _ _ _ _ _ (.refl _) (.cons _ _ _ _ _ (.refl _) (.cons _ _ _ _ _ (.refl _) (.cons _ _ _ _ _ (.refl _) (.cons _ _ _ _ _ (.refl _) (.cons _ _ _ _ _ (.dead _) (.cons _ _ _ _ _ (.refl _) (.cons _ _ _ _ _ (.refl _) (.cons _ _ _ _ _ (.refl _) (.cons _ _ _ _ _ (.dead _) .nil)))))))))) (OLe.refl _)).trans (cmpS_ok rfl)) ⟨n, Nat.lt_succ_self n, _, _, h724, rfl⟩
      · refine W_sound tab_ok mixed 7 _ _ _ ?_
        simp -implicitDefEqProofs only [go_sem, ne_eq, not_false_eq_true, Nat.reduceBEq, Nat.reduceAdd, Nat.reduceSub, Nat.reduceMul, Nat.reduceLT, Nat.reduceLeDiff, Int.reduceLE, Int.reduceLT, Int.reduceToNat, Int.reduceBEq, Int.reduceBNe, decide_true, decide_false, Int.cast_ofNat_Int, ↓reduceIte, h678, h681, g684, g685, h686, h707, h711]
        repeat with_reducible refine And.intro (by first | kernel_rfl | decide) ?_
        obtain rfl := Option.some.inj h724
        exact cutQ _ ((Wk_le (.cons _ _ _ _ _ (.refl _) (.cons _ _ _ _ _ (.refl _) (.cons _ _ _ _ _ (.dead _) (.cons _ _ _ _ _ (.refl _) (.cons _ _ _ _ _ (.refl _) (.cons _ _ _ _ _ (.refl _) (.cons _ _ _ _ _ (.dead _) (.cons _ _ _ _ _ (.dead _) (.cons _ _ _ _ _ (.dead _) (.cons _ _ _ _ _ (.dead _) .nil)))))))))) (OLe.refl _)).trans (cmpS_ok rfl)) ⟨_, rfl, rfl⟩
  · rintro _ ⟨x722, rfl, rfl⟩
    refine W_sound tab_ok mixed 6 _ _ _ ?_
    simp -implicitDefEqProofs only [go_sem, ne_eq, not_false_eq_true, Nat.reduceBEq, Nat.reduceAdd, Nat.reduceSub, Nat.reduceMul, Nat.reduceLT, Nat.reduceLeDiff, Int.reduceLE, Int.reduceLT, Int.reduceToNat, Int.reduceBEq, Int.reduceBNe, decide_true, decide_false, Int.cast_ofNat_Int, ↓reduceIte, h678, h681, g684, g685, h686, h707]
    repeat with_reducible refine And.intro (by first | kernel_rfl | decide) ?_
    obtain rfl := Option.some.inj h725
    exact finC [(4, .v (.int .i64 x722))] [(4, .v (.int .i64 x722))] (by simp [leE, lk_cons]) (.cons _ _ _ _ _ (.v _ _ (.refl _)) .nil) (by rfl) (by simp [leE, lk_cons]) (by decide) (by decide) rfl (by simp only [go_sem, ne_eq, not_false_eq_true, Nat.reduceBEq, Nat.reduceAdd, Nat.reduceSub, Nat.reduceMul, Nat.reduceLT, Nat.reduceLeDiff, Int.reduceLE, Int.reduceLT, Int.reduceToNat, Int.reduceBEq, Int.reduceBNe, decide_true, decide_false, Int.cast_ofNat_Int, ↓reduceIte, resQ_tmp, resQ_cell, resQ_nil, retD_one, retD_two, retD_three, retD_none]; try simp [R.val, retD_one, retD_two, retD_three, retD_none])

/-! breeze/breezelaw12.frac -/
def m40 (N : Nat) (x726 : Int) (x727 : Int) : Option (PV) :=
  some (.agg [(.int .i64 x726), (.int .i64 x727)])
theorem c40 (N : Nat) (x726 : Int) (x727 : Int) (r : PV)  (h : m40 N x726 x727 = some r) : FnP Try.prog 40 [(.int .i64 x726), (.int .i64 x727)] r := by
  unfold m40 at h
  refine Fn_of (sz := 8) tab_ok [0, 1, 4] [.cell 4 24] Try.func40 rfl rfl rfl (by simp) ?_
  simp only [initSt, initEnv, List.map_cons, List.map_nil, List.getD_cons_zero, List.getD_cons_succ, List.getD_nil]
  refine W_sound tab_ok mixed 12 _ _ _ ?_
  simp -implicitDefEqProofs only [go_sem, ne_eq, not_false_eq_true, Nat.reduceBEq, Nat.reduceAdd, Nat.reduceSub, Nat.reduceMul, Nat.reduceLT, Nat.reduceLeDiff, Int.reduceLE, Int.reduceLT, Int.reduceToNat, Int.reduceBEq, Int.reduceBNe, decide_true, decide_false, Int.cast_ofNat_Int, ↓reduceIte]
  repeat with_reducible refine And.intro (by first | kernel_rfl | decide) ?_
  refine FinQ_wk (Wk_freeze 4 [(.int .i64 x726), (.int .i64 x727)] (by rfl) (by decide) (by decide)) ?_
  simp -implicitDefEqProofs only [go_sem, ne_eq, not_false_eq_true, Nat.reduceBEq, Nat.reduceAdd, Nat.reduceSub, Nat.reduceMul, Nat.reduceLT, Nat.reduceLeDiff, Int.reduceLE, Int.reduceLT, Int.reduceToNat, Int.reduceBEq, Int.reduceBNe, decide_true, decide_false, Int.cast_ofNat_Int, ↓reduceIte]
  obtain rfl := Option.some.inj h
  exact finC [(4, .v (.ipt [(.int .i64 x726), (.int .i64 x727)]))] [(4, .v (.ipt [(.int .i64 x726), (.int .i64 x727)]))] (by simp [leE, lk_cons]) (.cons _ _ _ _ _ (.v _ _ (.refl _)) .nil) (by rfl) (by simp [leE, lk_cons]) (by decide) (by decide) rfl (by simp only [go_sem, ne_eq, not_false_eq_true, Nat.reduceBEq, Nat.reduceAdd, Nat.reduceSub, Nat.reduceMul, Nat.reduceLT, Nat.reduceLeDiff, Int.reduceLE, Int.reduceLT, Int.reduceToNat, Int.reduceBEq, Int.reduceBNe, decide_true, decide_false, Int.cast_ofNat_Int, ↓reduceIte, resQ_tmp, resQ_cell, resQ_nil, retD_one, retD_two, retD_three, retD_none]; try simp [R.val, retD_one, retD_two, retD_three, retD_none])

/-! breeze/breezelaw12.proper -/
def m37_L0 (N : Nat) (x733 : Int) (x737 : Int) : Nat → Int → Option ((PV ⊕ Unit))
  | 0, _ => none
  | n + 1, x740 =>
    brn (decide (x740 ≤ x733)) (
      grd (x740 ≠ 0) <|
      brn ((Int.tmod x737 x740) == 0) (
        brn ((Int.tmod x733 x740) == 0) (
          some (.inl (.bool false))) (
          m37_L0 N x733 x737 n (IntKind.i64.wrap (x740 + 1)))) (
        m37_L0 N x733 x737 n (IntKind.i64.wrap (x740 + 1)))) (
      some (.inr ()))
def m37 (N : Nat) (p728 : PV) : Option (PV) :=
  getA2 p728 fun p730 p731 =>
  getI .i64 p731 fun x733 =>
  brn (decide (x733 < 1)) (
    some (.bool false)) (
    brn (decide (x733 > 1000)) (
      some (.bool false)) (
      getI .i64 p730 fun x737 =>
      brn (decide (x737 > 200000)) (
        some (.bool false)) (
        brn (decide (x737 < (-200000))) (
          some (.bool false)) (
          bnd' (m37_L0 N x733 x737 N 2) fun o =>
          match o with
          | .inl p745 =>
            some p745
          | .inr () =>
            some (.bool true)))))
theorem c37 (N : Nat) (p728 : PV) (r : PV)  (h : m37 N p728 = some r) : FnP Try.prog 37 [p728] r := by
  unfold m37 at h
  refine Fn_of (sz := 40) tab_ok [0, 1, 2, 3, 21, 25, 39] [.tmp 2] Try.func37 rfl rfl rfl (by simp) ?_
  simp only [initSt, initEnv, List.map_cons, List.map_nil, List.getD_cons_zero, List.getD_cons_succ, List.getD_nil]
  have hh := getA2_some h; clear h; obtain ⟨p730, p731, h729, h⟩ := hh
  have hh := getI_some h; clear h; obtain ⟨x733, h732, h⟩ := hh
  have hh := brn_some h; clear h; rcases hh with ⟨h734, h⟩ | ⟨h734, h⟩
  · refine W_sound tab_ok mixed 33 _ _ _ ?_
    simp -implicitDefEqProofs only [go_sem, ne_eq, not_false_eq_true, Nat.reduceBEq, Nat.reduceAdd, Nat.reduceSub, Nat.reduceMul, Nat.reduceLT, Nat.reduceLeDiff, Int.reduceLE, Int.reduceLT, Int.reduceToNat, Int.reduceBEq, Int.reduceBNe, decide_true, decide_false, Int.cast_ofNat_Int, ↓reduceIte, h729, h732, h734]
    repeat with_reducible refine And.intro (by first | kernel_rfl | decide) ?_
    obtain rfl := Option.some.inj h
    exact finC [(2, .v (.bool false))] [(2, .v (.bool false))] (by simp [leE, lk_cons]) (.cons _ _ _ _ _ (.v _ _ (.refl _)) .nil) (by rfl) (by simp [leE, lk_cons]) (by decide) (by decide) rfl (by simp only [go_sem, ne_eq, not_false_eq_true, Nat.reduceBEq, Nat.reduceAdd, Nat.reduceSub, Nat.reduceMul, Nat.reduceLT, Nat.reduceLeDiff, Int.reduceLE, Int.reduceLT, Int.reduceToNat, Int.reduceBEq, Int.reduceBNe, decide_true, decide_false, Int.cast_ofNat_Int, ↓reduceIte, resQ_tmp, resQ_cell, resQ_nil, retD_one, retD_two, retD_three, retD_none]; try simp [R.val, retD_one, retD_two, retD_three, retD_none])
  · have hh := brn_some h; clear h; rcases hh with ⟨h735, h⟩ | ⟨h735, h⟩
    · refine W_sound tab_ok mixed 33 _ _ _ ?_
      simp -implicitDefEqProofs only [go_sem, ne_eq, not_false_eq_true, Nat.reduceBEq, Nat.reduceAdd, Nat.reduceSub, Nat.reduceMul, Nat.reduceLT, Nat.reduceLeDiff, Int.reduceLE, Int.reduceLT, Int.reduceToNat, Int.reduceBEq, Int.reduceBNe, decide_true, decide_false, Int.cast_ofNat_Int, ↓reduceIte, h729, h732, h734, h735]
      repeat with_reducible refine And.intro (by first | kernel_rfl | decide) ?_
      obtain rfl := Option.some.inj h
      exact finC [(2, .v (.bool false))] [(2, .v (.bool false))] (by simp [leE, lk_cons]) (.cons _ _ _ _ _ (.v _ _ (.refl _)) .nil) (by rfl) (by simp [leE, lk_cons]) (by decide) (by decide) rfl (by simp only [go_sem, ne_eq, not_false_eq_true, Nat.reduceBEq, Nat.reduceAdd, Nat.reduceSub, Nat.reduceMul, Nat.reduceLT, Nat.reduceLeDiff, Int.reduceLE, Int.reduceLT, Int.reduceToNat, Int.reduceBEq, Int.reduceBNe, decide_true, decide_false, Int.cast_ofNat_Int, ↓reduceIte, resQ_tmp, resQ_cell, resQ_nil, retD_one, retD_two, retD_three, retD_none]; try simp [R.val, retD_one, retD_two, retD_three, retD_none])
    · have hh := getI_some h; clear h; obtain ⟨x737, h736, h⟩ := hh
      have hh := brn_some h; clear h; rcases hh with ⟨h738, h⟩ | ⟨h738, h⟩
      · refine W_sound tab_ok mixed 33 _ _ _ ?_
        simp -implicitDefEqProofs only [go_sem, ne_eq, not_false_eq_true, Nat.reduceBEq, Nat.reduceAdd, Nat.reduceSub, Nat.reduceMul, Nat.reduceLT, Nat.reduceLeDiff, Int.reduceLE, Int.reduceLT, Int.reduceToNat, Int.reduceBEq, Int.reduceBNe, decide_true, decide_false, Int.cast_ofNat_Int, ↓reduceIte, h729, h732, h734, h735, h736, h738]
        repeat with_reducible refine And.intro (by first | kernel_rfl | decide) ?_
        obtain rfl := Option.some.inj h
        exact finC [(2, .v (.bool false))] [(2, .v (.bool false))] (by simp [leE, lk_cons]) (.cons _ _ _ _ _ (.v _ _ (.refl _)) .nil) (by rfl) (by simp [leE, lk_cons]) (by decide) (by decide) rfl (by simp only [go_sem, ne_eq, not_false_eq_true, Nat.reduceBEq, Nat.reduceAdd, Nat.reduceSub, Nat.reduceMul, Nat.reduceLT, Nat.reduceLeDiff, Int.reduceLE, Int.reduceLT, Int.reduceToNat, Int.reduceBEq, Int.reduceBNe, decide_true, decide_false, Int.cast_ofNat_Int, ↓reduceIte, resQ_tmp, resQ_cell, resQ_nil, retD_one, retD_two, retD_three, retD_none]; try simp [R.val, retD_one, retD_two, retD_three, retD_none])
      · have hh := brn_some h; clear h; rcases hh with ⟨h739, h⟩ | ⟨h739, h⟩
        · refine W_sound tab_ok mixed 33 _ _ _ ?_
          simp -implicitDefEqProofs only [go_sem, ne_eq, not_false_eq_true, Nat.reduceBEq, Nat.reduceAdd, Nat.reduceSub, Nat.reduceMul, Nat.reduceLT, Nat.reduceLeDiff, Int.reduceLE, Int.reduceLT, Int.reduceToNat, Int.reduceBEq, Int.reduceBNe, decide_true, decide_false, Int.cast_ofNat_Int, ↓reduceIte, h729, h732, h734, h735, h736, h738, h739]
          repeat with_reducible refine And.intro (by first | kernel_rfl | decide) ?_
          obtain rfl := Option.some.inj h
          exact finC [(2, .v (.bool false))] [(2, .v (.bool false))] (by simp [leE, lk_cons]) (.cons _ _ _ _ _ (.v _ _ (.refl _)) .nil) (by rfl) (by simp [leE, lk_cons]) (by decide) (by decide) rfl (by simp only [go_sem, ne_eq, not_false_eq_true, Nat.reduceBEq, Nat.reduceAdd, Nat.reduceSub, Nat.reduceMul, Nat.reduceLT, Nat.reduceLeDiff, Int.reduceLE, Int.reduceLT, Int.reduceToNat, Int.reduceBEq, Int.reduceBNe, decide_true, decide_false, Int.cast_ofNat_Int, ↓reduceIte, resQ_tmp, resQ_cell, resQ_nil, retD_one, retD_two, retD_three, retD_none]; try simp [R.val, retD_one, retD_two, retD_three, retD_none])
        · refine W_sound tab_ok mixed 34 _ _ _ ?_
          simp -implicitDefEqProofs only [go_sem, ne_eq, not_false_eq_true, Nat.reduceBEq, Nat.reduceAdd, Nat.reduceSub, Nat.reduceMul, Nat.reduceLT, Nat.reduceLeDiff, Int.reduceLE, Int.reduceLT, Int.reduceToNat, Int.reduceBEq, Int.reduceBNe, decide_true, decide_false, Int.cast_ofNat_Int, ↓reduceIte, h729, h732, h734, h735, h736, h738, h739]
          repeat with_reducible refine And.intro (by first | kernel_rfl | decide) ?_
          have hh := bnd'_some h; clear h; obtain ⟨o746, h747, h748⟩ := hh
          refine Wp_cut (fun s => (.inr ()) = o746 ∧ s = ⟨[], [(0, .dead), (1, .dead), (2, .dead), (3, .dead), (21, .dead), (25, .dead), (39, .dead)], [], 0, []⟩) ?_ ?_
          · refine Wp_block ?_
            refine Wp_loopG (fun n s => ∃ x740, m37_L0 N x733 x737 n x740 = some o746 ∧ s = ⟨[], [(0, .dead), (1, .ptr 0 0), (2, .dead), (3, .v (.int .i64 x740)), (21, .dead), (25, .dead), (39, .dead)], [(0, .p [(.int .i64 x737), (.int .i64 x733)])], 1, []⟩) N _ ((Wk_le (.cons _ _ _ _ _ (.dead _) (.cons _ _ _ _ _ (.refl _) (.cons _ _ _ _ _ (.dead _) (.cons _ _ _ _ _ (.refl _) (.cons _ _ _ _ _ (.dead _) (.cons _ _ _ _ _ (.refl _) (.cons _ _ _ _ _ (.refl _) .nil))))))) (OLe.refl _)).trans (cmpS_ok rfl)) ⟨_, h747, rfl⟩ ?_
            clear h747
            rintro n _ ⟨x740, h747, rfl⟩
            cases n with
            | zero => cases h747
            | succ n =>
              rw [m37_L0] at h747
              have hh := brn_some h747; clear h747; rcases hh with ⟨h741, h747⟩ | ⟨h741, h747⟩
              · have hh := grd_some h747; clear h747; obtain ⟨g742, h747⟩ := hh
                have hh := brn_some h747; clear h747; rcases hh with ⟨h743, h747⟩ | ⟨h743, h747⟩
                · have hh := brn_some h747; clear h747; rcases hh with ⟨h744, h747⟩ | ⟨h744, h747⟩
                  · refine W_sound tab_ok mixed 33 _ _ _ ?_
                    simp -implicitDefEqProofs only [go_sem, ne_eq, not_false_eq_true, Nat.reduceBEq, Nat.reduceAdd, Nat.reduceSub, Nat.reduceMul, Nat.reduceLT, Nat.reduceLeDiff, Int.reduceLE, Int.reduceLT, Int.reduceToNat, Int.reduceBEq, Int.reduceBNe, decide_true, decide_false, Int.cast_ofNat_Int, ↓reduceIte, h729, h732, h734, h735, h736, h738, h739, h741, g742, h743, h744]
                    repeat with_reducible refine And.intro (by first | kernel_rfl | decide) ?_
                    obtain rfl := Option.some.inj h747
                    (try dsimp only at h748)
                    obtain rfl := Option.some.inj h748
                    exact finC [(2, .v (.bool false))] [(2, .v (.bool false))] (by simp [leE, lk_cons]) (.cons _ _ _ _ _ (.v _ _ (.refl _)) .nil) (by rfl) (by simp [leE, lk_cons]) (by decide) (by decide) rfl (by simp only [go_sem, ne_eq, not_false_eq_true, Nat.reduceBEq, Nat.reduceAdd, Nat.reduceSub, Nat.reduceMul, Nat.reduceLT, Nat.reduceLeDiff, Int.reduceLE, Int.reduceLT, Int.reduceToNat, Int.reduceBEq, Int.reduceBNe, decide_true, decide_false, Int.cast_ofNat_Int, ↓reduceIte, resQ_tmp, resQ_cell, resQ_nil, retD_one, retD_two, retD_three, retD_none]; try simp [R.val, retD_one, retD_two, retD_three, retD_none])
                  · refine W_sound tab_ok mixed 35 _ _ _ ?_
                    simp -implicitDefEqProofs only [go_sem, ne_eq, not_false_eq_true, Nat.reduceBEq, Nat.reduceAdd, Nat.reduceSub, Nat.reduceMul, Nat.reduceLT, Nat.reduceLeDiff, Int.reduceLE, Int.reduceLT, Int.reduceToNat, Int.reduceBEq, Int.reduceBNe, decide_true, decide_false, Int.cast_ofNat_Int, ↓reduceIte, h729, h732, h734, h735, h736, h738, h739, h741, g742, h743, h744]
                    repeat with_reducible refine And.intro (by first | kernel_rfl | decide) ?_
                    exact cutQ _ ((Wk_le (.cons _ _ _ _ _ (.refl _) (.cons _ _ _ _ _ (.refl _) (.cons _ _ _ _ _ (.refl _) (.cons _ _ _ _ _ (.refl _) (.cons _ _ _ _ _ (.refl _) (.cons _ _ _ _ _ (.dead _) (.cons _ _ _ _ _ (.dead _) .nil))))))) (OLe.refl _)).trans (cmpS_ok rfl)) ⟨n, Nat.lt_succ_self n, _, h747, rfl⟩
                · refine W_sound tab_ok mixed 35 _ _ _ ?_
                  simp -implicitDefEqProofs only [go_sem, ne_eq, not_false_eq_true, Nat.reduceBEq, Nat.reduceAdd, Nat.reduceSub, Nat.reduceMul, Nat.reduceLT, Nat.reduceLeDiff, Int.reduceLE, Int.reduceLT, Int.reduceToNat, Int.reduceBEq, Int.reduceBNe, decide_true, decide_false, Int.cast_ofNat_Int, ↓reduceIte, h729, h732, h734, h735, h736, h738, h739, h741, g742, h743]
                  repeat with_reducible refine And.intro (by first | kernel_rfl | decide) ?_
                  exact cutQ _ ((Wk_le (.cons _ _ _ _ _ (.refl _) (.cons _ _ _ _ _ (.refl _) (.cons _ _ _ _ _ (.refl _) (.cons _ _ _ _ _ (.refl _) (.cons _ _ _ _ _ (.refl _) (.cons _ _ _ _ _ (.dead _) (.cons _ _ _ _ _ (.dead _) .nil))))))) (OLe.refl _)).trans (cmpS_ok rfl)) ⟨n, Nat.lt_succ_self n, _, h747, rfl⟩
              · refine W_sound tab_ok mixed 10 _ _ _ ?_
                simp -implicitDefEqProofs only [go_sem, ne_eq, not_false_eq_true, Nat.reduceBEq, Nat.reduceAdd, Nat.reduceSub, Nat.reduceMul, Nat.reduceLT, Nat.reduceLeDiff, Int.reduceLE, Int.reduceLT, Int.reduceToNat, Int.reduceBEq, Int.reduceBNe, decide_true, decide_false, Int.cast_ofNat_Int, ↓reduceIte, h729, h732, h734, h735, h736, h738, h739, h741]
                repeat with_reducible refine And.intro (by first | kernel_rfl | decide) ?_
                obtain rfl := Option.some.inj h747
                exact cutQ _ ((Wk_le (.cons _ _ _ _ _ (.refl _) (.cons _ _ _ _ _ (.dead _) (.cons _ _ _ _ _ (.refl _) (.cons _ _ _ _ _ (.dead _) (.cons _ _ _ _ _ (.refl _) (.cons _ _ _ _ _ (.dead _) (.cons _ _ _ _ _ (.refl _) .nil))))))) (OLe.refl _)).trans (cmpS_ok rfl)) ⟨rfl, rfl⟩
          · rintro _ ⟨rfl, rfl⟩
            (try dsimp only at h748)
            refine W_sound tab_ok mixed 5 _ _ _ ?_
            simp -implicitDefEqProofs only [go_sem, ne_eq, not_false_eq_true, Nat.reduceBEq, Nat.reduceAdd, Nat.reduceSub, Nat.reduceMul, Nat.reduceLT, Nat.reduceLeDiff, Int.reduceLE, Int.reduceLT, Int.reduceToNat, Int.reduceBEq, Int.reduceBNe, decide_true, decide_false, Int.cast_ofNat_Int, ↓reduceIte, h729, h732, h734, h735, h736, h738, h739]
            repeat with_reducible refine And.intro (by first | kernel_rfl | decide) ?_
            obtain rfl := Option.some.inj h748
            exact finC [(2, .v (.bool true))] [(2, .v (.bool true))] (by simp [leE, lk_cons]) (.cons _ _ _ _ _ (.v _ _ (.refl _)) .nil) (by rfl) (by simp [leE, lk_cons]) (by decide) (by decide) rfl (by simp only [go_sem, ne_eq, not_false_eq_true, Nat.reduceBEq, Nat.reduceAdd, Nat.reduceSub, Nat.reduceMul, Nat.reduceLT, Nat.reduceLeDiff, Int.reduceLE, Int.reduceLT, Int.reduceToNat, Int.reduceBEq, Int.reduceBNe, decide_true, decide_false, Int.cast_ofNat_Int, ↓reduceIte, resQ_tmp, resQ_cell, resQ_nil, retD_one, retD_two, retD_three, retD_none]; try simp [R.val, retD_one, retD_two, retD_three, retD_none])

/-! breeze/breezelaw12.TurnBest -/
def m8_L1 (N : Nat) (x752 : Int) (n759 : Nat) (c760 : List PV) (p766 : PV) (p767 : PV) (p771 : PV) (p772 : PV) (x881 : Int) (c882 : List PV) (p888 : PV) (p889 : PV) (p896 : PV) (p897 : PV) (x899 : Int) (n906 : Nat) (c907 : List PV) (x909 : Int) (x913 : Int) : Nat → Nat → Int → List PV → Option ((Nat × List PV))
  | 0, _, _, _ => none
  | n + 1, n947, x948, c949 =>
    brn (decide (x948 < ((n759 : Nat) : Int))) (
      grd (0 ≤ x948 ∧ x948 < ((n759 : Nat) : Int)) <|
      grd (2 ≤ List.length (List.drop ((Int.toNat x948) * 2) c760)) <|
      getA2 (.agg (List.take 2 (List.drop ((Int.toNat x948) * 2) c760))) fun p955 p956 =>
      bnd' (m41 N (.agg [p955, p956]) (.agg [p888, p889])) fun p957 =>
      getI .i64 p957 fun x960 =>
      grd ((Int.toNat x881) < List.length c882) <|
      getI .i64 (gp (List.set c882 (Int.toNat x881) (.int .i64 x913)) (Int.toNat x881)) fun x963 =>
      brn (x960 == x963) (
        grd ((n947 + 1) ≤ 1099511627776) <|
        grd (List.length c949 = n947) <|
        m8_L1 N x752 n759 c760 p766 p767 p771 p772 x881 c882 p888 p889 p896 p897 x899 n906 c907 x909 x913 n (n947 + 1) (IntKind.i64.wrap (x948 + 1)) (c949 ++ [(.int .i64 x948)])) (
        m8_L1 N x752 n759 c760 p766 p767 p771 p772 x881 c882 p888 p889 p896 p897 x899 n906 c907 x909 x913 n n947 (IntKind.i64.wrap (x948 + 1)) c949)) (
      some (n947, c949))
def m8_L0 (N : Nat) (x752 : Int) (n759 : Nat) (c760 : List PV) (p766 : PV) (p767 : PV) (p771 : PV) (p772 : PV) : Nat → Int → List PV → Option ((PV ⊕ List PV))
  | 0, _, _ => none
  | n + 1, x881, c882 =>
    brn (decide (x881 < 2)) (
      grd (0 ≤ x881 ∧ x881 < 2) <|
      grd ((((Int.toNat x881) * 2) + 2) ≤ 4) <|
      getA2 (.agg (List.take 2 (List.drop ((Int.toNat x881) * 2) [p766, p767, p771, p772]))) fun p888 p889 =>
      bnd' (m17 N (.lst false n759 c760) (.agg [p888, p889])) fun p890 =>
      getT2 p890 fun p893 p894 =>
      getA2 p893 fun p896 p897 =>
      getI .i64 p894 fun x899 =>
      bnd' (m19 N (.lst false n759 c760) (.agg [p888, p889])) fun p900 =>
      getT2 p900 fun p903 p904 =>
      getL p903 fun n906 c907 =>
      getI .i64 p904 fun x909 =>
      bnd' (m39 N (.lst false n759 c760) (.agg [p888, p889])) fun p910 =>
      getI .i64 p910 fun x913 =>
      grd (((Int.toNat x881) + 1) ≤ List.length c882) <|
      bnd' (m8_L1 N x752 n759 c760 p766 p767 p771 p772 x881 c882 p888 p889 p896 p897 x899 n906 c907 x909 x913 N 0 0 []) fun o =>
      match o with
      | (n967, c968) =>
        grd (List.length c968 = n967) <|
        brn (x899 != 0) (
          some (.inl (.bool false))) (
          brn (x909 != 0) (
            some (.inl (.bool false))) (
            bnd' (m37 N (.agg [p896, p897])) fun p972 =>
            getB p972 fun b975 =>
            brn b975 (
              getI .i64 p896 fun x978 =>
              grd ((Int.toNat x881) < List.length c882) <|
              getI .i64 (gp (List.set c882 (Int.toNat x881) (.int .i64 x913)) (Int.toNat x881)) fun x981 =>
              getI .i64 p897 fun x983 =>
              brn ((IntKind.i64.wrap (x978 * (IntKind.i64.wrap (1 + (Int.tmod (IntKind.i64.wrap x752) 30))))) != (IntKind.i64.wrap (x981 * x983))) (
                some (.inl (.bool false))) (
                bnd' (m21 N (.lst false n906 c907) (.lst false n967 c968)) fun p985 =>
                getB p985 fun b988 =>
                brn b988 (
                  m8_L0 N x752 n759 c760 p766 p767 p771 p772 n (IntKind.i64.wrap (x881 + 1)) (List.set c882 (Int.toNat x881) (.int .i64 x913))) (
                  some (.inl (.bool false))))) (
              some (.inl (.bool false)))))) (
      some (.inr c882))
def m8 (N : Nat) (p749 : PV) (x750 : Int) (x751 : Int) (x752 : Int) : Option (PV) :=
  getA p749 fun c754 =>
  grd (17 ≤ List.length c754) <|
  bnd' (m36 N (.agg (List.take 17 c754)) 100 10) fun p756 =>
  getL p756 fun n759 c760 =>
  grd (30 ≠ 0) <|
  grd (1001 ≠ 0) <|
  bnd' (m40 N (Int.tmod (IntKind.i64.wrap x750) 1001) (IntKind.i64.wrap (1 + (Int.tmod (IntKind.i64.wrap x752) 30)))) fun p763 =>
  getA2 p763 fun p766 p767 =>
  bnd' (m40 N (Int.tmod (IntKind.i64.wrap x751) 1001) (IntKind.i64.wrap (1 + (Int.tmod (IntKind.i64.wrap x752) 30)))) fun p768 =>
  getA2 p768 fun p771 p772 =>
  bnd' (m8_L0 N x752 n759 c760 p766 p767 p771 p772 N 0 [(.int .i64 0), (.int .i64 0)]) fun o =>
  match o with
  | .inl p990 =>
    some p990
  | .inr c991 =>
    getI .i64 p766 fun x993 =>
    getI .i64 p771 fun x995 =>
    grd (2 ≠ 0) <|
    bnd' (m40 N (IntKind.i64.wrap (Int.tdiv (IntKind.i64.wrap (x993 + x995)) 2)) (IntKind.i64.wrap (1 + (Int.tmod (IntKind.i64.wrap x752) 30)))) fun p997 =>
    getA2 p997 fun p1000 p1001 =>
    bnd' (m17 N (.lst false n759 c760) (.agg [p1000, p1001])) fun p1002 =>
    getT2 p1002 fun p1005 p1006 =>
    getA2 p1005 fun p1008 p1009 =>
    getI .i64 p1006 fun x1011 =>
    brn ((Int.tmod (IntKind.i64.wrap (x993 + x995)) 2) != 0) (
      brn (x1011 == 0) (
        bnd' (m15 N ) fun p1014 =>
        getB p1014 fun b1017 =>
        some (.bool b1017)) (
        some (.bool false))) (
      brn (x1011 == 0) (
        bnd' (m37 N (.agg [p1008, p1009])) fun p1019 =>
        getB p1019 fun b1022 =>
        brn b1022 (
          getI .i64 p1008 fun x1025 =>
          grd (0 < List.length c991) <|
          getI .i64 (gp c991 0) fun x1028 =>
          grd (1 < List.length c991) <|
          getI .i64 (gp c991 1) fun x1031 =>
          getI .i64 p1009 fun x1033 =>
          brn (decide ((IntKind.i64.wrap ((IntKind.i64.wrap (2 * x1025)) * (IntKind.i64.wrap (1 + (Int.tmod (IntKind.i64.wrap x752) 30))))) ≤ (IntKind.i64.wrap ((IntKind.i64.wrap (x1028 + x1031)) * x1033)))) (
            bnd' (m15 N ) fun p1035 =>
            getB p1035 fun b1038 =>
            some (.bool b1038)) (
            some (.bool false))) (
          some (.bool false))) (
        some (.bool false)))
theorem c8 (N : Nat) (p749 : PV) (x750 : Int) (x751 : Int) (x752 : Int) (r : PV)  (h : m8 N p749 x750 x751 x752 = some r) : FnP Try.prog 8 [p749, (.int .i16 x750), (.int .i16 x751), (.int .u8 x752)] r := by
  unfold m8 at h
  refine Fn_of (sz := 167) tab_ok [0, 1, 2, 3, 4, 8, 9, 10, 11, 12, 13, 14, 15, 16, 17, 18, 19, 20, 21, 22, 23, 24, 43, 44, 45, 46, 67, 68, 69, 70, 80, 115, 136] [.tmp 8] Try.func8 rfl rfl rfl (by simp) ?_
  simp only [initSt, initEnv, List.map_cons, List.map_nil, List.getD_cons_zero, List.getD_cons_succ, List.getD_nil]
  have hh := getA_some h; clear h; obtain ⟨c754, h753, h⟩ := hh
  have hh := grd_some h; clear h; obtain ⟨g755, h⟩ := hh
  have hh := bnd'_some h; clear h; obtain ⟨p756, h757, h⟩ := hh
  refine W_sound tab_ok mixed 8 _ _ _ ?_
  simp -implicitDefEqProofs only [go_sem, ne_eq, not_false_eq_true, Nat.reduceBEq, Nat.reduceAdd, Nat.reduceSub, Nat.reduceMul, Nat.reduceLT, Nat.reduceLeDiff, Int.reduceLE, Int.reduceLT, Int.reduceToNat, Int.reduceBEq, Int.reduceBNe, decide_true, decide_false, Int.cast_ofNat_Int, ↓reduceIte, h753, g755]
  repeat with_reducible refine And.intro (by first | kernel_rfl | decide) ?_
  refine Wp_callP (c36 N _ _ _ _ h757) (by kernel_rfl) rfl rfl rfl rfl (by decide) ?_
  have hh := getL_some h; clear h; obtain ⟨n759, c760, h758, h⟩ := hh
  have hh := grd_some h; clear h; obtain ⟨g761, h⟩ := hh
  have hh := grd_some h; clear h; obtain ⟨g762, h⟩ := hh
  have hh := bnd'_some h; clear h; obtain ⟨p763, h764, h⟩ := hh
  refine W_sound tab_ok mixed 16 _ _ _ ?_
  simp -implicitDefEqProofs only [go_sem, ne_eq, not_false_eq_true, Nat.reduceBEq, Nat.reduceAdd, Nat.reduceSub, Nat.reduceMul, Nat.reduceLT, Nat.reduceLeDiff, Int.reduceLE, Int.reduceLT, Int.reduceToNat, Int.reduceBEq, Int.reduceBNe, decide_true, decide_false, Int.cast_ofNat_Int, ↓reduceIte, h753, g755, h758, g761, g762]
  repeat with_reducible refine And.intro (by first | kernel_rfl | decide) ?_
  refine Wp_callP (c40 N _ _ _ h764) (by kernel_rfl) rfl rfl rfl rfl (by decide) ?_
  have hh := getA2_some h; clear h; obtain ⟨p766, p767, h765, h⟩ := hh
  have hh := bnd'_some h; clear h; obtain ⟨p768, h769, h⟩ := hh
  refine W_sound tab_ok mixed 4 _ _ _ ?_
  simp -implicitDefEqProofs only [go_sem, ne_eq, not_false_eq_true, Nat.reduceBEq, Nat.reduceAdd, Nat.reduceSub, Nat.reduceMul, Nat.reduceLT, Nat.reduceLeDiff, Int.reduceLE, Int.reduceLT, Int.reduceToNat, Int.reduceBEq, Int.reduceBNe, decide_true, decide_false, Int.cast_ofNat_Int, ↓reduceIte, h753, g755, h758, g761, g762, h765]
  repeat with_reducible refine And.intro (by first | kernel_rfl | decide) ?_
  refine Wp_callP (c40 N _ _ _ h769) (by kernel_rfl) rfl rfl rfl rfl (by decide) ?_
  have hh := getA2_some h; clear h; obtain ⟨p771, p772, h770, h⟩ := hh
  refine W_sound tab_ok mixed 18 _ _ _ ?_
  simp -implicitDefEqProofs only [go_sem, ne_eq, not_false_eq_true, Nat.reduceBEq, Nat.reduceAdd, Nat.reduceSub, Nat.reduceMul, Nat.reduceLT, Nat.reduceLeDiff, Int.reduceLE, Int.reduceLT, Int.reduceToNat, Int.reduceBEq, Int.reduceBNe, decide_true, decide_false, Int.cast_ofNat_Int, ↓reduceIte, h753, g755, h758, g761, g762, h765, h770]
  repeat with_reducible refine And.intro (by first | kernel_rfl | decide) ?_
  have hh := bnd'_some h; clear h; obtain ⟨o1039, h1040, h1041⟩ := hh
  refine Wp_cut (fun s => ∃ c991, (.inr c991) = o1039 ∧ s = ⟨[], [(0, .dead), (1, .dead), (2, .dead), (3, .dead), (4, .dead), (8, .dead), (9, .v (.lst false n759 c760)), (10, .v (.int .i64 (IntKind.i64.wrap (1 + (Int.tmod (IntKind.i64.wrap x752) 30))))), (11, .ptr 0 0), (12, .ptr 1 0), (13, .ptr 2 0), (14, .dead), (15, .dead), (16, .dead), (17, .dead), (18, .dead), (19, .dead), (20, .dead), (21, .dead), (22, .dead), (23, .dead), (24, .dead), (43, .dead), (44, .dead), (45, .dead), (46, .dead), (67, .dead), (68, .dead), (69, .dead), (70, .dead), (80, .dead), (115, .dead), (136, .dead)], [(0, .p [p766, p767]), (1, .p [p771, p772]), (2, .p c991)], 3, []⟩) ?_ ?_
  · refine Wp_block ?_
    refine Wp_loopG (fun n s => ∃ x881, ∃ c882, m8_L0 N x752 n759 c760 p766 p767 p771 p772 n x881 c882 = some o1039 ∧ s = ⟨[], [(0, .dead), (1, .dead), (2, .dead), (3, .dead), (4, .dead), (8, .dead), (9, .v (.lst false n759 c760)), (10, .v (.int .i64 (IntKind.i64.wrap (1 + (Int.tmod (IntKind.i64.wrap x752) 30))))), (11, .ptr 0 0), (12, .ptr 1 0), (13, .ptr 2 0), (14, .dead), (15, .dead), (16, .dead), (17, .dead), (18, .dead), (19, .dead), (20, .dead), (21, .dead), (22, .dead), (23, .dead), (24, .dead), (43, .sl true 3 0 2 2), (44, .v (.int .i64 2)), (45, .v (.int .i64 x881)), (46, .dead), (67, .dead), (68, .dead), (69, .dead), (70, .dead), (80, .dead), (115, .dead), (136, .dead)], [(0, .p [p766, p767]), (1, .p [p771, p772]), (2, .p c882), (3, .p [p766, p767, p771, p772])], 4, []⟩) N _ ((Wk_le (.cons _ _ _ _ _ (.dead _) (.cons _ _ _ _ _ (.dead _) (.cons _ _ _ _ _ (.dead _) (.cons _ _ _ _ _ (.dead _) (.cons _ _ _ _ _ (.dead _) (.cons _ _ _ _ _ (.dead _) (.cons _ _ _ _ _ (.refl _) (.cons _ _ _ _ _ (.refl _) (.cons _ _ _ _ _ (.refl _) (.cons _ _ _ _ _ (.refl _) (.cons _ _ _ _ _ (.refl _) (.cons _ _ _ _ _ (.refl _) (.cons _ _ _ _ _ (.refl _) (.cons _ _ _ _ _ (.refl _) (.cons _ _ _ _ _ (.refl _) (.cons _ _ _ _ _ (.refl _) (.cons _ _ _ _ _ (.refl _) (.cons _ _ _ _ _ (.refl _) (.cons _ _ _ _ _ (.refl _) (.cons _ _ _ _ _ (.refl _) (.cons _ _ _ _ _ (.refl _) (.cons _ _ _ _ _ (.refl _) (.cons _ _ _ _ _ (.refl _) (.cons _ _ _ _ _ (.refl _) (.cons _ _ _ _ _ (.refl _) (.cons _ _ _ _ _ (.refl _) (.cons _ _ _ _ _ (.refl _) (.cons _ _ _ _ _ (.refl _) (.cons _ _ _ _ _ (.refl _) (.cons _ _ _ _ _ (.refl _) (.cons _ _ _ _ _ (.refl _) (.cons _ _ _ _ _ (.refl _) (.cons _ _ _ _ _ (.refl _) .nil))))))))))))))))))))))))))))))))) (OLe.refl _)).trans (cmpS_ok (st' := ⟨[], [(0, .dead), (1, .dead), (2, .dead), (3, .dead), (4, .dead), (8, .dead), (9, .v (.lst false n759 c760)), (10, .v (.int .i64 (IntKind.i64.wrap (1 + (Int.tmod (IntKind.i64.wrap x752) 30))))), (11, .ptr 0 0), (12, .ptr 1 0), (13, .ptr 2 0), (14, .dead), (15, .dead), (16, .dead), (17, .dead), (18, .dead), (19, .dead), (20, .dead), (21, .dead), (22, .dead), (23, .dead), (24, .dead), (43, .sl true 3 0 2 2), (44, .v (.int .i64 2)), (45, .v (.int .i64 0)), (46, .dead), (67, .dead), (68, .dead), (69, .dead), (70, .dead), (80, .dead), (115, .dead), (136, .dead)], [(0, .p [p766, p767]), (1, .p [p771, p772]), (2, .p [(.int .i64 0), (.int .i64 0)]), (3, .p [p766, p767, p771, p772])], 4, []⟩) (by kernel_rfl))) ⟨_, _, h1040, rfl⟩ ?_
    clear h1040
    rintro n _ ⟨x881, c882, h1040, rfl⟩
    cases n with
    | zero => cases h1040
    | succ n =>
      rw [m8_L0] at h1040
      have hh := brn_some h1040; clear h1040; rcases hh with ⟨h883, h1040⟩ | ⟨h883, h1040⟩
      · have hh := grd_some h1040; clear h1040; obtain ⟨⟨g884, g885⟩, h1040⟩ := hh
        have hh := grd_some h1040; clear h1040; obtain ⟨g886, h1040⟩ := hh
        have hh := getA2_some h1040; clear h1040; obtain ⟨p888, p889, h887, h1040⟩ := hh
        injection h887 with h887
        have hh := bnd'_some h1040; clear h1040; obtain ⟨p890, h891, h1040⟩ := hh
        refine W_sound tab_ok mixed 22 _ _ _ ?_
        simp -implicitDefEqProofs only [go_sem, ne_eq, not_false_eq_true, Nat.reduceBEq, Nat.reduceAdd, Nat.reduceSub, Nat.reduceMul, Nat.reduceLT, Nat.reduceLeDiff, Int.reduceLE, Int.reduceLT, Int.reduceToNat, Int.reduceBEq, Int.reduceBNe, decide_true, decide_false, Int.cast_ofNat_Int, ↓reduceIte, h753, g755, h758, g761, g762, h765, h770, h883, g884, g885, g886, h887]
        repeat with_reducible refine And.intro (by first | kernel_rfl | decide) ?_
        refine Wp_callP (c17 N _ _ _ h891) (by kernel_rfl) rfl rfl rfl rfl (by decide) ?_
        have hh := getT2_some h1040; clear h1040; obtain ⟨p893, p894, h892, h1040⟩ := hh
        have hh := getA2_some h1040; clear h1040; obtain ⟨p896, p897, h895, h1040⟩ := hh
        have hh := getI_some h1040; clear h1040; obtain ⟨x899, h898, h1040⟩ := hh
        have hh := bnd'_some h1040; clear h1040; obtain ⟨p900, h901, h1040⟩ := hh
        refine W_sound tab_ok mixed 11 _ _ _ ?_
        simp -implicitDefEqProofs only [go_sem, ne_eq, not_false_eq_true, Nat.reduceBEq, Nat.reduceAdd, Nat.reduceSub, Nat.reduceMul, Nat.reduceLT, Nat.reduceLeDiff, Int.reduceLE, Int.reduceLT, Int.reduceToNat, Int.reduceBEq, Int.reduceBNe, decide_true, decide_false, Int.cast_ofNat_Int, ↓reduceIte, h753, g755, h758, g761, g762, h765, h770, h883, g884, g885, g886, h887, h892, h895, h898]
        repeat with_reducible refine And.intro (by first | kernel_rfl | decide) ?_
        refine Wp_callP (c19 N _ _ _ h901) (by kernel_rfl) rfl rfl rfl rfl (by decide) ?_
        have hh := getT2_some h1040; clear h1040; obtain ⟨p903, p904, h902, h1040⟩ := hh
        have hh := getL_some h1040; clear h1040; obtain ⟨n906, c907, h905, h1040⟩ := hh
        have hh := getI_some h1040; clear h1040; obtain ⟨x909, h908, h1040⟩ := hh
        have hh := bnd'_some h1040; clear h1040; obtain ⟨p910, h911, h1040⟩ := hh
        refine W_sound tab_ok mixed 11 _ _ _ ?_
        simp -implicitDefEqProofs only [go_sem, ne_eq, not_false_eq_true, Nat.reduceBEq, Nat.reduceAdd, Nat.reduceSub, Nat.reduceMul, Nat.reduceLT, Nat.reduceLeDiff, Int.reduceLE, Int.reduceLT, Int.reduceToNat, Int.reduceBEq, Int.reduceBNe, decide_true, decide_false, Int.cast_ofNat_Int, ↓reduceIte, h753, g755, h758, g761, g762, h765, h770, h883, g884, g885, g886, h887, h892, h895, h898, h902, h905, h908]
        repeat with_reducible refine And.intro (by first | kernel_rfl | decide) ?_
        refine Wp_callP (c39 N _ _ _ h911) (by kernel_rfl) rfl rfl rfl rfl (by decide) ?_
        have hh := getI_some h1040; clear h1040; obtain ⟨x913, h912, h1040⟩ := hh
        have hh := grd_some h1040; clear h1040; obtain ⟨g914, h1040⟩ := hh
        refine W_sound tab_ok mixed 14 _ _ _ ?_
        simp -implicitDefEqProofs only [go_sem, ne_eq, not_false_eq_true, Nat.reduceBEq, Nat.reduceAdd, Nat.reduceSub, Nat.reduceMul, Nat.reduceLT, Nat.reduceLeDiff, Int.reduceLE, Int.reduceLT, Int.reduceToNat, Int.reduceBEq, Int.reduceBNe, decide_true, decide_false, Int.cast_ofNat_Int, ↓reduceIte, h753, g755, h758, g761, g762, h765, h770, h883, g884, g885, g886, h887, h892, h895, h898, h902, h905, h908, h912, g914]
        repeat with_reducible refine And.intro (by first | kernel_rfl | decide) ?_
        refine Wp_weaken (Wk_ownS 20 1 rfl (by decide) (by decide)) ?_
        simp -implicitDefEqProofs only [go_sem, ne_eq, not_false_eq_true, Nat.reduceBEq, Nat.reduceAdd, Nat.reduceSub, Nat.reduceMul, Nat.reduceLT, Nat.reduceLeDiff, Int.reduceLE, Int.reduceLT, Int.reduceToNat, Int.reduceBEq, Int.reduceBNe, decide_true, decide_false, Int.cast_ofNat_Int, ↓reduceIte, h753, g755, h758, g761, g762, h765, h770, h883, g884, g885, g886, h887, h892, h895, h898, h902, h905, h908, h912, g914]
        have hh := bnd'_some h1040; clear h1040; obtain ⟨o1042, h1043, h1044⟩ := hh
        refine Wp_cut (fun s => ∃ n967, ∃ c968, (n967, c968) = o1042 ∧ s = ⟨[], [(0, .dead), (1, .dead), (2, .dead), (3, .dead), (4, .dead), (8, .dead), (9, .v (.lst false n759 c760)), (10, .v (.int .i64 (IntKind.i64.wrap (1 + (Int.tmod (IntKind.i64.wrap x752) 30))))), (11, .ptr 0 0), (12, .ptr 1 0), (13, .ptr 2 0), (14, .v (.int .i64 x881)), (15, .dead), (16, .ptr 3 0), (17, .v (.int .i64 x899)), (18, .v (.lst false n906 c907)), (19, .v (.int .i64 x909)), (20, .sl false 4 0 n967 1), (21, .dead), (22, .dead), (23, .dead), (24, .dead), (43, .sl true 5 0 2 2), (44, .v (.int .i64 2)), (45, .v (.int .i64 x881)), (46, .dead), (67, .dead), (68, .dead), (69, .dead), (70, .dead), (80, .dead), (115, .dead), (136, .dead)], [(0, .p [p766, p767]), (1, .p [p771, p772]), (2, .p (List.set c882 (Int.toNat x881) (.int .i64 x913))), (3, .p [p896, p897]), (4, .p c968), (5, .p [p766, p767, p771, p772])], 6, []⟩) ?_ ?_
        · refine Wp_block ?_
          refine Wp_loopG (fun n s => ∃ n947, ∃ x948, ∃ c949, m8_L1 N x752 n759 c760 p766 p767 p771 p772 x881 c882 p888 p889 p896 p897 x899 n906 c907 x909 x913 n n947 x948 c949 = some o1042 ∧ s = ⟨[], [(0, .dead), (1, .dead), (2, .dead), (3, .dead), (4, .dead), (8, .dead), (9, .v (.lst false n759 c760)), (10, .v (.int .i64 (IntKind.i64.wrap (1 + (Int.tmod (IntKind.i64.wrap x752) 30))))), (11, .ptr 0 0), (12, .ptr 1 0), (13, .ptr 2 0), (14, .v (.int .i64 x881)), (15, .ptr 3 0), (16, .ptr 4 0), (17, .v (.int .i64 x899)), (18, .v (.lst false n906 c907)), (19, .v (.int .i64 x909)), (20, .sl false 5 0 n947 1), (21, .dead), (22, .dead), (23, .dead), (24, .dead), (43, .sl true 6 0 2 2), (44, .v (.int .i64 2)), (45, .v (.int .i64 x881)), (46, .dead), (67, .v (.lst false n759 c760)), (68, .v (.int .i64 ((n759 : Nat) : Int))), (69, .v (.int .i64 x948)), (70, .dead), (80, .dead), (115, .dead), (136, .dead)], [(0, .p [p766, p767]), (1, .p [p771, p772]), (2, .p (List.set c882 (Int.toNat x881) (.int .i64 x913))), (3, .p [p888, p889]), (4, .p [p896, p897]), (5, .p c949), (6, .p [p766, p767, p771, p772])], 7, []⟩) N _ ((Wk_le (.cons _ _ _ _ _ (.refl _) (.cons _ _ _ _ _ (.refl _) (.cons _ _ _ _ _ (.refl _) (.cons _ _ _ _ _ (.refl _) (.cons _ _ _ _ _ (.refl _) (.cons _ _ _ _ _ (.refl _) (.cons _ _ _ _ _ (.refl _) (.cons _ _ _ _ _ (.refl _) (.cons _ _ _ _ _ (.refl _) (.cons _ _ _ _ _ (.refl _) (.cons _ _ _ _ _ (.refl _) (.cons _ _ _ _ _ (.refl _) (.cons _ _ _ _ _ (.refl _) (.cons _ _ _ _ _ (.refl _) (.cons _ _ _ _ _ (.refl _) (.cons _ _ _ _ _ (.refl _) (.cons _ _ _ _ _ (.refl _) (.cons _ _ _ _ _ (.refl _) (.cons _ _ _ _ _ (.refl _) (.cons _ _ _ _ _ (.refl _) (.cons _ _ _ _ _ (.refl _) (.cons _ _ _ _ _ (.refl _) (.cons _ _ _ _ _ (.refl _) (.cons _ _ _ _ _ (.refl _) (.cons _ _ _ _ _ (.refl _) (.cons _ _ _ _ _ (.dead _) (.cons _ _ _ _ _ (.refl _) (.cons _ _ _ _ _ (.refl _) (.cons _ _ _ _ _ (.refl _) (.cons _ _ _ _ _ (.refl _) (.cons _ _ _ _ _ (.refl _) (.cons _ _ _ _ _ (.refl _) (.cons _ _ _ _ _ (.refl _) .nil))))))))))))))))))))))))))))))))) (OLe.refl _)).trans (cmpS_ok (st' := ⟨[], [(0, .dead), (1, .dead), (2, .dead), (3, .dead), (4, .dead), (8, .dead), (9, .v (.lst false n759 c760)), (10, .v (.int .i64 (IntKind.i64.wrap (1 + (Int.tmod (IntKind.i64.wrap x752) 30))))), (11, .ptr 0 0), (12, .ptr 1 0), (13, .ptr 2 0), (14, .v (.int .i64 x881)), (15, .ptr 3 0), (16, .ptr 4 0), (17, .v (.int .i64 x899)), (18, .v (.lst false n906 c907)), (19, .v (.int .i64 x909)), (20, .sl false 5 0 0 1), (21, .dead), (22, .dead), (23, .dead), (24, .dead), (43, .sl true 6 0 2 2), (44, .v (.int .i64 2)), (45, .v (.int .i64 x881)), (46, .dead), (67, .v (.lst false n759 c760)), (68, .v (.int .i64 ((n759 : Nat) : Int))), (69, .v (.int .i64 0)), (70, .dead), (80, .dead), (115, .dead), (136, .dead)], [(0, .p [p766, p767]), (1, .p [p771, p772]), (2, .p (List.set c882 (Int.toNat x881) (.int .i64 x913))), (3, .p [p888, p889]), (4, .p [p896, p897]), (5, .p []), (6, .p [p766, p767, p771, p772])], 7, []⟩) (by kernel_rfl))) ⟨_, _, _, h1043, rfl⟩ ?_
          clear h1043
          rintro n _ ⟨n947, x948, c949, h1043, rfl⟩
          cases n with
          | zero => cases h1043
          | succ n =>
            rw [m8_L1] at h1043
            have hh := brn_some h1043; clear h1043; rcases hh with ⟨h950, h1043⟩ | ⟨h950, h1043⟩
            · have hh := grd_some h1043; clear h1043; obtain ⟨⟨g951, g952⟩, h1043⟩ := hh
              have hh := grd_some h1043; clear h1043; obtain ⟨g953, h1043⟩ := hh
              have hh := getA2_some h1043; clear h1043; obtain ⟨p955, p956, h954, h1043⟩ := hh
              injection h954 with h954
              have hh := bnd'_some h1043; clear h1043; obtain ⟨p957, h958, h1043⟩ := hh
              refine W_sound tab_ok mixed 22 _ _ _ ?_
              simp -implicitDefEqProofs only [go_sem, ne_eq, not_false_eq_true, Nat.reduceBEq, Nat.reduceAdd, Nat.reduceSub, Nat.reduceMul, Nat.reduceLT, Nat.reduceLeDiff, Int.reduceLE, Int.reduceLT, Int.reduceToNat, Int.reduceBEq, Int.reduceBNe, decide_true, decide_false, Int.cast_ofNat_Int, ↓reduceIte, h753, g755, h758, g761, g762, h765, h770, h883, g884, g885, g886, h887, h892, h895, h898, h902, h905, h908, h912, g914, h950, g951, g952, g953, h954]
              repeat with_reducible refine And.intro (by first | kernel_rfl | decide) ?_
              refine Wp_callP (c41 N _ _ _ h958) (by kernel_rfl) rfl rfl rfl rfl (by decide) ?_
              have hh := getI_some h1043; clear h1043; obtain ⟨x960, h959, h1043⟩ := hh
              have hh := grd_some h1043; clear h1043; obtain ⟨g961, h1043⟩ := hh
              have hh := getI_some h1043; clear h1043; obtain ⟨x963, h962, h1043⟩ := hh
              have hh := brn_some h1043; clear h1043; rcases hh with ⟨h964, h1043⟩ | ⟨h964, h1043⟩
              · have hh := grd_some h1043; clear h1043; obtain ⟨g965, h1043⟩ := hh
                have hh := grd_some h1043; clear h1043; obtain ⟨g966, h1043⟩ := hh
                refine W_sound tab_ok mixed 18 _ _ _ ?_
                simp -implicitDefEqProofs only [go_sem, ne_eq, not_false_eq_true, Nat.reduceBEq, Nat.reduceAdd, Nat.reduceSub, Nat.reduceMul, Nat.reduceLT, Nat.reduceLeDiff, Int.reduceLE, Int.reduceLT, Int.reduceToNat, Int.reduceBEq, Int.reduceBNe, decide_true, decide_false, Int.cast_ofNat_Int, ↓reduceIte, h753, g755, h758, g761, g762, h765, h770, h883, g884, g885, g886, h887, h892, h895, h898, h902, h905, h908, h912, g914, h950, g951, g952, g953, h954, h959, g961, h962, h964, g965, g966]
                repeat with_reducible refine And.intro (by first | kernel_rfl | decide) ?_
                exact cutQ _ ((Wk_le (.cons _ _ _ _ _ (.refl _) (.cons _ _ _ _ _ (.refl _) (.cons _ _ _ _ _ (.refl _) (.cons _ _ _ _ _ (.refl _) (.cons _ _ _ _ _ (.refl _) (.cons _ _ _ _ _ (.refl _) (.cons _ _ _ _ _ (.refl _) (.cons _ _ _ _ _ (.refl _) (.cons _ _ _ _ _ (.refl _) (.cons _ _ _ _ _ (.refl _) (.cons _ _ _ _ _ (.refl _) (.cons _ _ _ _ _ (.refl _) (.cons _ _ _ _ _ (.refl _) (.cons _ _ _ _ _ (.refl _) (.cons _ _ _ _ _ (.refl _) (.cons _ _ _ _ _ (.refl _) (.cons _ _ _ _ _ (.refl _) (.cons _ _ _ _ _ (.refl _) (.cons _ _ _ _ _ (.dead _) (.cons _ _ _ _ _ (.dead _) (.cons _ _ _ _ _ (.refl _) (.cons _ _ _ _ _ (.refl _) (.cons _ _ _ _ _ (.refl _) (.cons _ _ _ _ _ (.refl _) (.cons _ _ _ _ _ (.refl _) (.cons _ _ _ _ _ (.refl _) (.cons _ _ _ _ _ (.refl _) (.cons _ _ _ _ _ (.refl _) (.cons _ _ _ _ _ (.refl _) (.cons _ _ _ _ _ (.dead _) (.cons _ _ _ _ _ (.dead _) (.cons _ _ _ _ _ (.refl _) (.cons _ _ _ _ _ (.refl _) .nil))))))))))))))))))))))))))))))))) (OLe.refl _)).trans (cmpS_ok (st' := ⟨[], [(0, .dead), (1, .dead), (2, .dead), (3, .dead), (4, .dead), (8, .dead), (9, .v (.lst false n759 c760)), (10, .v (.int .i64 (IntKind.i64.wrap (1 + (Int.tmod (IntKind.i64.wrap x752) 30))))), (11, .ptr 0 0), (12, .ptr 1 0), (13, .ptr 2 0), (14, .v (.int .i64 x881)), (15, .ptr 3 0), (16, .ptr 4 0), (17, .v (.int .i64 x899)), (18, .v (.lst false n906 c907)), (19, .v (.int .i64 x909)), (20, .sl false 5 0 (n947 + 1) 1), (21, .dead), (22, .dead), (23, .dead), (24, .dead), (43, .sl true 6 0 2 2), (44, .v (.int .i64 2)), (45, .v (.int .i64 x881)), (46, .dead), (67, .v (.lst false n759 c760)), (68, .v (.int .i64 ((n759 : Nat) : Int))), (69, .v (.int .i64 (IntKind.i64.wrap (x948 + 1)))), (70, .dead), (80, .dead), (115, .dead), (136, .dead)], [(0, .p [p766, p767]), (1, .p [p771, p772]), (2, .p (List.set c882 (Int.toNat x881) (.int .i64 x913))), (3, .p [p888, p889]), (4, .p [p896, p897]), (5, .p (c949 ++ [(.int .i64 x948)])), (6, .p [p766, p767, p771, p772])], 7, []⟩) (by kernel_rfl))) ⟨n, Nat.lt_succ_self n, _, _, _, h1043, rfl⟩
              · refine W_sound tab_ok mixed 12 _ _ _ ?_
                simp -implicitDefEqProofs only [go_sem, ne_eq, not_false_eq_true, Nat.reduceBEq, Nat.reduceAdd, Nat.reduceSub, Nat.reduceMul, Nat.reduceLT, Nat.reduceLeDiff, Int.reduceLE, Int.reduceLT, Int.reduceToNat, Int.reduceBEq, Int.reduceBNe, decide_true, decide_false, Int.cast_ofNat_Int, ↓reduceIte, h753, g755, h758, g761, g762, h765, h770, h883, g884, g885, g886, h887, h892, h895, h898, h902, h905, h908, h912, g914, h950, g951, g952, g953, h954, h959, g961, h962, h964]
                repeat with_reducible refine And.intro (by first | kernel_rfl | decide) ?_
                exact cutQ _ ((Wk_le (.cons _ _ _ _ _ (.refl _) (.cons _ _ _ _ _ (.refl _) (.cons _ _ _ _ _ (.refl _) (.cons _ _ _ _ _ (.refl _) (.cons _ _ _ _ _ (.refl _) (.cons _ _ _ _ _ (.refl _) (.cons _ _ _ _ _ (.refl _) (.cons _ _ _ _ _ (.refl _) (.cons _ _ _ _ _ (.refl _) (.cons _ _ _ _ _ (.refl _) (.cons _ _ _ _ _ (.refl _) (.cons _ _ _ _ _ (.refl _) (.cons _ _ _ _ _ (.refl _) (.cons _ _ _ _ _ (.refl _) (.cons _ _ _ _ _ (.refl _) (.cons _ _ _ _ _ (.refl _) (.cons _ _ _ _ _ (.refl _) (.cons _ _ _ _ _ (.refl _) (.cons _ _ _ _ _ (.dead _) (.cons _ _ _ _ _ (.dead _) (.cons _ _ _ _ _ (.refl _) (.cons _ _ _ _ _ (.refl _) (.cons _ _ _ _ _ (.refl _) (.cons _ _ _ _ _ (.refl _) (.cons _ _ _ _ _ (.refl _) (.cons _ _ _ _ _ (.refl _) (.cons _ _ _ _ _ (.refl _) (.cons _ _ _ _ _ (.refl _) (.cons _ _ _ _ _ (.refl _) (.cons _ _ _ _ _ (.dead _) (.cons _ _ _ _ _ (.dead _) (.cons _ _ _ _ _ (.refl _) (.cons _ _ _ _ _ (.refl _) .nil))))))))))))))))))))))))))))))))) (OLe.refl _)).trans (cmpS_ok (st' := ⟨[], [(0, .dead), (1, .dead), (2, .dead), (3, .dead), (4, .dead), (8, .dead), (9, .v (.lst false n759 c760)), (10, .v (.int .i64 (IntKind.i64.wrap (1 + (Int.tmod (IntKind.i64.wrap x752) 30))))), (11, .ptr 0 0), (12, .ptr 1 0), (13, .ptr 2 0), (14, .v (.int .i64 x881)), (15, .ptr 3 0), (16, .ptr 4 0), (17, .v (.int .i64 x899)), (18, .v (.lst false n906 c907)), (19, .v (.int .i64 x909)), (20, .sl false 5 0 n947 1), (21, .dead), (22, .dead), (23, .dead), (24, .dead), (43, .sl true 6 0 2 2), (44, .v (.int .i64 2)), (45, .v (.int .i64 x881)), (46, .dead), (67, .v (.lst false n759 c760)), (68, .v (.int .i64 ((n759 : Nat) : Int))), (69, .v (.int .i64 (IntKind.i64.wrap (x948 + 1)))), (70, .dead), (80, .dead), (115, .dead), (136, .dead)], [(0, .p [p766, p767]), (1, .p [p771, p772]), (2, .p (List.set c882 (Int.toNat x881) (.int .i64 x913))), (3, .p [p888, p889]), (4, .p [p896, p897]), (5, .p c949), (6, .p [p766, p767, p771, p772])], 7, []⟩) (by kernel_rfl))) ⟨n, Nat.lt_succ_self n, _, _, _, h1043, rfl⟩
            · refine W_sound tab_ok mixed 7 _ _ _ ?_
              simp -implicitDefEqProofs only [go_sem, ne_eq, not_false_eq_true, Nat.reduceBEq, Nat.reduceAdd, Nat.reduceSub, Nat.reduceMul, Nat.reduceLT, Nat.reduceLeDiff, Int.reduceLE, Int.reduceLT, Int.reduceToNat, Int.reduceBEq, Int.reduceBNe, decide_true, decide_false, Int.cast_ofNat_Int, ↓reduceIte, h753, g755, h758, g761, g762, h765, h770, h883, g884, g885, g886, h887, h892, h895, h898, h902, h905, h908, h912, g914, h950]
              repeat with_reducible refine And.intro (by first | kernel_rfl | decide) ?_
              obtain rfl := Option.some.inj h1043
              exact cutQ _ ((Wk_le (.cons _ _ _ _ _ (.refl _) (.cons _ _ _ _ _ (.refl _) (.cons _ _ _ _ _ (.refl _) (.cons _ _ _ _ _ (.refl _) (.cons _ _ _ _ _ (.refl _) (.cons _ _ _ _ _ (.refl _) (.cons _ _ _ _ _ (.refl _) (.cons _ _ _ _ _ (.refl _) (.cons _ _ _ _ _ (.refl _) (.cons _ _ _ _ _ (.refl _) (.cons _ _ _ _ _ (.refl _) (.cons _ _ _ _ _ (.refl _) (.cons _ _ _ _ _ (.dead _) (.cons _ _ _ _ _ (.refl _) (.cons _ _ _ _ _ (.refl _) (.cons _ _ _ _ _ (.refl _) (.cons _ _ _ _ _ (.refl _) (.cons _ _ _ _ _ (.refl _) (.cons _ _ _ _ _ (.refl _) (.cons _ _ _ _ _ (.refl _) (.cons _ _ _ _ _ (.refl _) (.cons _ _ _ _ _ (.refl _) (.cons _ _ _ _ _ (.refl _) (.cons _ _ _ _ _ (.refl _) (.cons _ _ _ _ _ (.refl _) (.cons _ _ _ _ _ (.refl _) (.cons _ _ _ _ _ (.dead _) (.cons _ _ _ _ _ (.dead _) (.cons _ _ _ _ _ (.dead _) (.cons _ _ _ _ _ (.dead _) (.cons _ _ _ _ _ (.refl _) (.cons _ _ _ _ _ (.refl _) (.cons _ _ _ _ _ (.refl _) .nil))))))))))))))))))))))))))))))))) (OLe.refl _)).trans (cmpS_ok (st' := ⟨[], [(0, .dead), (1, .dead), (2, .dead), (3, .dead), (4, .dead), (8, .dead), (9, .v (.lst false n759 c760)), (10, .v (.int .i64 (IntKind.i64.wrap (1 + (Int.tmod (IntKind.i64.wrap x752) 30))))), (11, .ptr 0 0), (12, .ptr 1 0), (13, .ptr 2 0), (14, .v (.int .i64 x881)), (15, .dead), (16, .ptr 3 0), (17, .v (.int .i64 x899)), (18, .v (.lst false n906 c907)), (19, .v (.int .i64 x909)), (20, .sl false 4 0 n947 1), (21, .dead), (22, .dead), (23, .dead), (24, .dead), (43, .sl true 5 0 2 2), (44, .v (.int .i64 2)), (45, .v (.int .i64 x881)), (46, .dead), (67, .dead), (68, .dead), (69, .dead), (70, .dead), (80, .dead), (115, .dead), (136, .dead)], [(0, .p [p766, p767]), (1, .p [p771, p772]), (2, .p (List.set c882 (Int.toNat x881) (.int .i64 x913))), (3, .p [p896, p897]), (4, .p c949), (5, .p [p766, p767, p771, p772])], 6, []⟩) (by kernel_rfl))) ⟨_, _, rfl, rfl⟩
        · rintro _ ⟨n967, c968, rfl, rfl⟩
          (try dsimp only at h1044)
          refine W_sound tab_ok mixed 1 _ _ _ ?_
          simp -implicitDefEqProofs only [go_sem, ne_eq, not_false_eq_true, Nat.reduceBEq, Nat.reduceAdd, Nat.reduceSub, Nat.reduceMul, Nat.reduceLT, Nat.reduceLeDiff, Int.reduceLE, Int.reduceLT, Int.reduceToNat, Int.reduceBEq, Int.reduceBNe, decide_true, decide_false, Int.cast_ofNat_Int, ↓reduceIte, h753, g755, h758, g761, g762, h765, h770, h883, g884, g885, g886, h887, h892, h895, h898, h902, h905, h908, h912, g914]
          repeat with_reducible refine And.intro (by first | kernel_rfl | decide) ?_
          have hh := grd_some h1044; clear h1044; obtain ⟨g969, h1044⟩ := hh
          refine Wp_wkK (Wk_freeze 4 c968 (by rfl) (by decide) (by decide)) rfl ?_
          simp -implicitDefEqProofs only [go_sem, ne_eq, not_false_eq_true, Nat.reduceBEq, Nat.reduceAdd, Nat.reduceSub, Nat.reduceMul, Nat.reduceLT, Nat.reduceLeDiff, Int.reduceLE, Int.reduceLT, Int.reduceToNat, Int.reduceBEq, Int.reduceBNe, decide_true, decide_false, Int.cast_ofNat_Int, ↓reduceIte, h753, g755, h758, g761, g762, h765, h770, h883, g884, g885, g886, h887, h892, h895, h898, h902, h905, h908, h912, g914, g969]
          have hh := brn_some h1044; clear h1044; rcases hh with ⟨h970, h1044⟩ | ⟨h970, h1044⟩
          · refine W_sound tab_ok mixed 38 _ _ _ ?_
            simp -implicitDefEqProofs only [go_sem, ne_eq, not_false_eq_true, Nat.reduceBEq, Nat.reduceAdd, Nat.reduceSub, Nat.reduceMul, Nat.reduceLT, Nat.reduceLeDiff, Int.reduceLE, Int.reduceLT, Int.reduceToNat, Int.reduceBEq, Int.reduceBNe, decide_true, decide_false, Int.cast_ofNat_Int, ↓reduceIte, h753, g755, h758, g761, g762, h765, h770, h883, g884, g885, g886, h887, h892, h895, h898, h902, h905, h908, h912, g914, g969, h970]
            repeat with_reducible refine And.intro (by first | kernel_rfl | decide) ?_
            obtain rfl := Option.some.inj h1044
            (try dsimp only at h1041)
            obtain rfl := Option.some.inj h1041
            exact finC [(8, .v (.bool false))] [(8, .v (.bool false))] (by simp [leE, lk_cons]) (.cons _ _ _ _ _ (.v _ _ (.refl _)) .nil) (by rfl) (by simp [leE, lk_cons]) (by decide) (by decide) rfl (by simp only [go_sem, ne_eq, not_false_eq_true, Nat.reduceBEq, Nat.reduceAdd, Nat.reduceSub, Nat.reduceMul, Nat.reduceLT, Nat.reduceLeDiff, Int.reduceLE, Int.reduceLT, Int.reduceToNat, Int.reduceBEq, Int.reduceBNe, decide_true, decide_false, Int.cast_ofNat_Int, ↓reduceIte, resQ_tmp, resQ_cell, resQ_nil, retD_one, retD_two, retD_three, retD_none]; try simp [R.val, retD_one, retD_two, retD_three, retD_none])
          · have hh := brn_some h1044; clear h1044; rcases hh with ⟨h971, h1044⟩ | ⟨h971, h1044⟩
            · refine W_sound tab_ok mixed 38 _ _ _ ?_
              simp -implicitDefEqProofs only [go_sem, ne_eq, not_false_eq_true, Nat.reduceBEq, Nat.reduceAdd, Nat.reduceSub, Nat.reduceMul, Nat.reduceLT, Nat.reduceLeDiff, Int.reduceLE, Int.reduceLT, Int.reduceToNat, Int.reduceBEq, Int.reduceBNe, decide_true, decide_false, Int.cast_ofNat_Int, ↓reduceIte, h753, g755, h758, g761, g762, h765, h770, h883, g884, g885, g886, h887, h892, h895, h898, h902, h905, h908, h912, g914, g969, h970, h971]
              repeat with_reducible refine And.intro (by first | kernel_rfl | decide) ?_
              obtain rfl := Option.some.inj h1044
              (try dsimp only at h1041)
              obtain rfl := Option.some.inj h1041
              exact finC [(8, .v (.bool false))] [(8, .v (.bool false))] (by simp [leE, lk_cons]) (.cons _ _ _ _ _ (.v _ _ (.refl _)) .nil) (by rfl) (by simp [leE, lk_cons]) (by decide) (by decide) rfl (by simp only [go_sem, ne_eq, not_false_eq_true, Nat.reduceBEq, Nat.reduceAdd, Nat.reduceSub, Nat.reduceMul, Nat.reduceLT, Nat.reduceLeDiff, Int.reduceLE, Int.reduceLT, Int.reduceToNat, Int.reduceBEq, Int.reduceBNe, decide_true, decide_false, Int.cast_ofNat_Int, ↓reduceIte, resQ_tmp, resQ_cell, resQ_nil, retD_one, retD_two, retD_three, retD_none]; try simp [R.val, retD_one, retD_two, retD_three, retD_none])
            · have hh := bnd'_some h1044; clear h1044; obtain ⟨p972, h973, h1044⟩ := hh
              refine W_sound tab_ok mixed 9 _ _ _ ?_
              simp -implicitDefEqProofs only [go_sem, ne_eq, not_false_eq_true, Nat.reduceBEq, Nat.reduceAdd, Nat.reduceSub, Nat.reduceMul, Nat.reduceLT, Nat.reduceLeDiff, Int.reduceLE, Int.reduceLT, Int.reduceToNat, Int.reduceBEq, Int.reduceBNe, decide_true, decide_false, Int.cast_ofNat_Int, ↓reduceIte, h753, g755, h758, g761, g762, h765, h770, h883, g884, g885, g886, h887, h892, h895, h898, h902, h905, h908, h912, g914, g969, h970, h971]
              repeat with_reducible refine And.intro (by first | kernel_rfl | decide) ?_
              refine Wp_callP (c37 N _ _ h973) (by kernel_rfl) rfl rfl rfl rfl (by decide) ?_
              have hh := getB_some h1044; clear h1044; obtain ⟨b975, h974, h1044⟩ := hh
              have hh := brn_some h1044; clear h1044; rcases hh with ⟨h976, h1044⟩ | ⟨h976, h1044⟩
              · have hh := getI_some h1044; clear h1044; obtain ⟨x978, h977, h1044⟩ := hh
                have hh := grd_some h1044; clear h1044; obtain ⟨g979, h1044⟩ := hh
                have hh := getI_some h1044; clear h1044; obtain ⟨x981, h980, h1044⟩ := hh
                have hh := getI_some h1044; clear h1044; obtain ⟨x983, h982, h1044⟩ := hh
                have hh := brn_some h1044; clear h1044; rcases hh with ⟨h984, h1044⟩ | ⟨h984, h1044⟩
                · refine W_sound tab_ok mixed 28 _ _ _ ?_
                  simp -implicitDefEqProofs only [go_sem, ne_eq, not_false_eq_true, Nat.reduceBEq, Nat.reduceAdd, Nat.reduceSub, Nat.reduceMul, Nat.reduceLT, Nat.reduceLeDiff, Int.reduceLE, Int.reduceLT, Int.reduceToNat, Int.reduceBEq, Int.reduceBNe, decide_true, decide_false, Int.cast_ofNat_Int, ↓reduceIte, h753, g755, h758, g761, g762, h765, h770, h883, g884, g885, g886, h887, h892, h895, h898, h902, h905, h908, h912, g914, g969, h970, h971, h974, h976, h977, g979, h980, h982, h984]
                  repeat with_reducible refine And.intro (by first | kernel_rfl | decide) ?_
                  obtain rfl := Option.some.inj h1044
                  (try dsimp only at h1041)
                  obtain rfl := Option.some.inj h1041
                  exact finC [(8, .v (.bool false))] [(8, .v (.bool false))] (by simp [leE, lk_cons]) (.cons _ _ _ _ _ (.v _ _ (.refl _)) .nil) (by rfl) (by simp [leE, lk_cons]) (by decide) (by decide) rfl (by simp only [go_sem, ne_eq, not_false_eq_true, Nat.reduceBEq, Nat.reduceAdd, Nat.reduceSub, Nat.reduceMul, Nat.reduceLT, Nat.reduceLeDiff, Int.reduceLE, Int.reduceLT, Int.reduceToNat, Int.reduceBEq, Int.reduceBNe, decide_true, decide_false, Int.cast_ofNat_Int, ↓reduceIte, resQ_tmp, resQ_cell, resQ_nil, retD_one, retD_two, retD_three, retD_none]; try simp [R.val, retD_one, retD_two, retD_three, retD_none])
                · have hh := bnd'_some h1044; clear h1044; obtain ⟨p985, h986, h1044⟩ := hh
                  refine W_sound tab_ok mixed 18 _ _ _ ?_
                  simp -implicitDefEqProofs only [go_sem, ne_eq, not_false_eq_true, Nat.reduceBEq, Nat.reduceAdd, Nat.reduceSub, Nat.reduceMul, Nat.reduceLT, Nat.reduceLeDiff, Int.reduceLE, Int.reduceLT, Int.reduceToNat, Int.reduceBEq, Int.reduceBNe, decide_true, decide_false, Int.cast_ofNat_Int, ↓reduceIte, h753, g755, h758, g761, g762, h765, h770, h883, g884, g885, g886, h887, h892, h895, h898, h902, h905, h908, h912, g914, g969, h970, h971, h974, h976, h977, g979, h980, h982, h984]
                  repeat with_reducible refine And.intro (by first | kernel_rfl | decide) ?_
                  refine Wp_callP (c21 N _ _ _ h986) (by kernel_rfl) rfl rfl rfl rfl (by decide) ?_
                  have hh := getB_some h1044; clear h1044; obtain ⟨b988, h987, h1044⟩ := hh
                  have hh := brn_some h1044; clear h1044; rcases hh with ⟨h989, h1044⟩ | ⟨h989, h1044⟩
                  · refine W_sound tab_ok mixed 10 _ _ _ ?_
                    simp -implicitDefEqProofs only [go_sem, ne_eq, not_false_eq_true, Nat.reduceBEq, Nat.reduceAdd, Nat.reduceSub, Nat.reduceMul, Nat.reduceLT, Nat.reduceLeDiff, Int.reduceLE, Int.reduceLT, Int.reduceToNat, Int.reduceBEq, Int.reduceBNe, decide_true, decide_false, Int.cast_ofNat_Int, ↓reduceIte, h753, g755, h758, g761, g762, h765, h770, h883, g884, g885, g886, h887, h892, h895, h898, h902, h905, h908, h912, g914, g969, h970, h971, h974, h976, h977, g979, h980, h982, h984, h987, h989]
                    repeat with_reducible refine And.intro (by first | kernel_rfl | decide) ?_
                    exact cutQ _ ((Wk_le (.cons _ _ _ _ _ (.refl _) (.cons _ _ _ _ _ (.refl _) (.cons _ _ _ _ _ (.refl _) (.cons _ _ _ _ _ (.refl _) (.cons _ _ _ _ _ (.refl _) (.cons _ _ _ _ _ (.refl _) (.cons _ _ _ _ _ (.refl _) (.cons _ _ _ _ _ (.refl _) (.cons _ _ _ _ _ (.refl _) (.cons _ _ _ _ _ (.refl _) (.cons _ _ _ _ _ (.refl _) (.cons _ _ _ _ _ (.dead _) (.cons _ _ _ _ _ (.refl _) (.cons _ _ _ _ _ (.dead _) (.cons _ _ _ _ _ (.dead _) (.cons _ _ _ _ _ (.dead _) (.cons _ _ _ _ _ (.dead _) (.cons _ _ _ _ _ (.dead _) (.cons _ _ _ _ _ (.refl _) (.cons _ _ _ _ _ (.refl _) (.cons _ _ _ _ _ (.refl _) (.cons _ _ _ _ _ (.refl _) (.cons _ _ _ _ _ (.refl _) (.cons _ _ _ _ _ (.refl _) (.cons _ _ _ _ _ (.refl _) (.cons _ _ _ _ _ (.refl _) (.cons _ _ _ _ _ (.refl _) (.cons _ _ _ _ _ (.refl _) (.cons _ _ _ _ _ (.refl _) (.cons _ _ _ _ _ (.refl _) (.cons _ _ _ _ _ (.refl _) (.cons _ _ _ _ _ (.dead _) (.cons _ _ _ _ _ (.refl _) .nil))))))))))))))))))))))))))))))))) (OLe.refl _)).trans (cmpS_ok (st' := ⟨[], [(0, .dead), (1, .dead), (2, .dead), (3, .dead), (4, .dead), (8, .dead), (9, .v (.lst false n759 c760)), (10, .v (.int .i64 (IntKind.i64.wrap (1 + (Int.tmod (IntKind.i64.wrap x752) 30))))), (11, .ptr 0 0), (12, .ptr 1 0), (13, .ptr 2 0), (14, .dead), (15, .dead), (16, .dead), (17, .dead), (18, .dead), (19, .dead), (20, .dead), (21, .dead), (22, .dead), (23, .dead), (24, .dead), (43, .sl true 3 0 2 2), (44, .v (.int .i64 2)), (45, .v (.int .i64 (IntKind.i64.wrap (x881 + 1)))), (46, .dead), (67, .dead), (68, .dead), (69, .dead), (70, .dead), (80, .dead), (115, .dead), (136, .dead)], [(0, .p [p766, p767]), (1, .p [p771, p772]), (2, .p (List.set c882 (Int.toNat x881) (.int .i64 x913))), (3, .p [p766, p767, p771, p772])], 4, []⟩) (by kernel_rfl))) ⟨n, Nat.lt_succ_self n, _, _, h1044, rfl⟩
                  · refine W_sound tab_ok mixed 9 _ _ _ ?_
                    simp -implicitDefEqProofs only [go_sem, ne_eq, not_false_eq_true, Nat.reduceBEq, Nat.reduceAdd, Nat.reduceSub, Nat.reduceMul, Nat.reduceLT, Nat.reduceLeDiff, Int.reduceLE, Int.reduceLT, Int.reduceToNat, Int.reduceBEq, Int.reduceBNe, decide_true, decide_false, Int.cast_ofNat_Int, ↓reduceIte, h753, g755, h758, g761, g762, h765, h770, h883, g884, g885, g886, h887, h892, h895, h898, h902, h905, h908, h912, g914, g969, h970, h971, h974, h976, h977, g979, h980, h982, h984, h987, h989]
                    repeat with_reducible refine And.intro (by first | kernel_rfl | decide) ?_
                    obtain rfl := Option.some.inj h1044
                    (try dsimp only at h1041)
                    obtain rfl := Option.some.inj h1041
                    exact finC [(8, .v (.bool false))] [(8, .v (.bool false))] (by simp [leE, lk_cons]) (.cons _ _ _ _ _ (.v _ _ (.refl _)) .nil) (by rfl) (by simp [leE, lk_cons]) (by decide) (by decide) rfl (by simp only [go_sem, ne_eq, not_false_eq_true, Nat.reduceBEq, Nat.reduceAdd, Nat.reduceSub, Nat.reduceMul, Nat.reduceLT, Nat.reduceLeDiff, Int.reduceLE, Int.reduceLT, Int.reduceToNat, Int.reduceBEq, Int.reduceBNe, decide_true, decide_false, Int.cast_ofNat_Int, ↓reduceIte, resQ_tmp, resQ_cell, resQ_nil, retD_one, retD_two, retD_three, retD_none]; try simp [R.val, retD_one, retD_two, retD_three, retD_none])
              · refine W_sound tab_ok mixed 28 _ _ _ ?_
                simp -implicitDefEqProofs only [go_sem, ne_eq, not_false_eq_true, Nat.reduceBEq, Nat.reduceAdd, Nat.reduceSub, Nat.reduceMul, Nat.reduceLT, Nat.reduceLeDiff, Int.reduceLE, Int.reduceLT, Int.reduceToNat, Int.reduceBEq, Int.reduceBNe, decide_true, decide_false, Int.cast_ofNat_Int, ↓reduceIte, h753, g755, h758, g761, g762, h765, h770, h883, g884, g885, g886, h887, h892, h895, h898, h902, h905, h908, h912, g914, g969, h970, h971, h974, h976]
                repeat with_reducible refine And.intro (by first | kernel_rfl | decide) ?_
                obtain rfl := Option.some.inj h1044
                (try dsimp only at h1041)
                obtain rfl := Option.some.inj h1041
                exact finC [(8, .v (.bool false))] [(8, .v (.bool false))] (by simp [leE, lk_cons]) (.cons _ _ _ _ _ (.v _ _ (.refl _)) .nil) (by rfl) (by simp [leE, lk_cons]) (by decide) (by decide) rfl (by simp only [go_sem, ne_eq, not_false_eq_true, Nat.reduceBEq, Nat.reduceAdd, Nat.reduceSub, Nat.reduceMul, Nat.reduceLT, Nat.reduceLeDiff, Int.reduceLE, Int.reduceLT, Int.reduceToNat, Int.reduceBEq, Int.reduceBNe, decide_true, decide_false, Int.cast_ofNat_Int, ↓reduceIte, resQ_tmp, resQ_cell, resQ_nil, retD_one, retD_two, retD_three, retD_none]; try simp [R.val, retD_one, retD_two, retD_three, retD_none])
      · refine W_sound tab_ok mixed 7 _ _ _ ?_
        simp -implicitDefEqProofs only [go_sem, ne_eq, not_false_eq_true, Nat.reduceBEq, Nat.reduceAdd, Nat.reduceSub, Nat.reduceMul, Nat.reduceLT, Nat.reduceLeDiff, Int.reduceLE, Int.reduceLT, Int.reduceToNat, Int.reduceBEq, Int.reduceBNe, decide_true, decide_false, Int.cast_ofNat_Int, ↓reduceIte, h753, g755, h758, g761, g762, h765, h770, h883]
        repeat with_reducible refine And.intro (by first | kernel_rfl | decide) ?_
        obtain rfl := Option.some.inj h1040
        exact cutQ _ ((Wk_le (.cons _ _ _ _ _ (.refl _) (.cons _ _ _ _ _ (.refl _) (.cons _ _ _ _ _ (.refl _) (.cons _ _ _ _ _ (.refl _) (.cons _ _ _ _ _ (.refl _) (.cons _ _ _ _ _ (.refl _) (.cons _ _ _ _ _ (.refl _) (.cons _ _ _ _ _ (.refl _) (.cons _ _ _ _ _ (.refl _) (.cons _ _ _ _ _ (.refl _) (.cons _ _ _ _ _ (.refl _) (.cons _ _ _ _ _ (.refl _) (.cons _ _ _ _ _ (.refl _) (.cons _ _ _ _ _ (.refl _) (.cons _ _ _ _ _ (.refl _) (.cons _ _ _ _ _ (.refl _) (.cons _ _ _ _ _ (.refl _) (.cons _ _ _ _ _ (.refl _) (.cons _ _ _ _ _ (.refl _) (.cons _ _ _ _ _ (.refl _) (.cons _ _ _ _ _ (.refl _) (.cons _ _ _ _ _ (.refl _) (.cons _ _ _ _ _ (.dead _) (.cons _ _ _ _ _ (.dead _) (.cons _ _ _ _ _ (.dead _) (.cons _ _ _ _ _ (.dead _) (.cons _ _ _ _ _ (.refl _) (.cons _ _ _ _ _ (.refl _) (.cons _ _ _ _ _ (.refl _) (.cons _ _ _ _ _ (.refl _) (.cons _ _ _ _ _ (.refl _) (.cons _ _ _ _ _ (.refl _) (.cons _ _ _ _ _ (.refl _) .nil))))))))))))))))))))))))))))))))) (OLe.refl _)).trans (cmpS_ok (st' := ⟨[], [(0, .dead), (1, .dead), (2, .dead), (3, .dead), (4, .dead), (8, .dead), (9, .v (.lst false n759 c760)), (10, .v (.int .i64 (IntKind.i64.wrap (1 + (Int.tmod (IntKind.i64.wrap x752) 30))))), (11, .ptr 0 0), (12, .ptr 1 0), (13, .ptr 2 0), (14, .dead), (15, .dead), (16, .dead), (17, .dead), (18, .dead), (19, .dead), (20, .dead), (21, .dead), (22, .dead), (23, .dead), (24, .dead), (43, .dead), (44, .dead), (45, .dead), (46, .dead), (67, .dead), (68, .dead), (69, .dead), (70, .dead), (80, .dead), (115, .dead), (136, .dead)], [(0, .p [p766, p767]), (1, .p [p771, p772]), (2, .p c882)], 3, []⟩) (by kernel_rfl))) ⟨_, rfl, rfl⟩
  · rintro _ ⟨c991, rfl, rfl⟩
    (try dsimp only at h1041)
    have hh := getI_some h1041; clear h1041; obtain ⟨x993, h992, h1041⟩ := hh
    have hh := getI_some h1041; clear h1041; obtain ⟨x995, h994, h1041⟩ := hh
    have hh := grd_some h1041; clear h1041; obtain ⟨g996, h1041⟩ := hh
    have hh := bnd'_some h1041; clear h1041; obtain ⟨p997, h998, h1041⟩ := hh
    refine W_sound tab_ok mixed 10 _ _ _ ?_
    simp -implicitDefEqProofs only [go_sem, ne_eq, not_false_eq_true, Nat.reduceBEq, Nat.reduceAdd, Nat.reduceSub, Nat.reduceMul, Nat.reduceLT, Nat.reduceLeDiff, Int.reduceLE, Int.reduceLT, Int.reduceToNat, Int.reduceBEq, Int.reduceBNe, decide_true, decide_false, Int.cast_ofNat_Int, ↓reduceIte, h753, g755, h758, g761, g762, h765, h770, h992, h994, g996]
    repeat with_reducible refine And.intro (by first | kernel_rfl | decide) ?_
    refine Wp_callP (c40 N _ _ _ h998) (by kernel_rfl) rfl rfl rfl rfl (by decide) ?_
    have hh := getA2_some h1041; clear h1041; obtain ⟨p1000, p1001, h999, h1041⟩ := hh
    have hh := bnd'_some h1041; clear h1041; obtain ⟨p1002, h1003, h1041⟩ := hh
    (try simp -implicitDefEqProofs only [go_sem, ne_eq, not_false_eq_true, Nat.reduceBEq, Nat.reduceAdd, Nat.reduceSub, Nat.reduceMul, Nat.reduceLT, Nat.reduceLeDiff, Int.reduceLE, Int.reduceLT, Int.reduceToNat, Int.reduceBEq, Int.reduceBNe, decide_true, decide_false, Int.cast_ofNat_Int, ↓reduceIte, h753, g755, h758, g761, g762, h765, h770, h992, h994, g996, h999])
    refine Wp_callP (c17 N _ _ _ h1003) (by kernel_rfl) rfl rfl rfl rfl (by decide) ?_
    have hh := getT2_some h1041; clear h1041; obtain ⟨p1005, p1006, h1004, h1041⟩ := hh
    have hh := getA2_some h1041; clear h1041; obtain ⟨p1008, p1009, h1007, h1041⟩ := hh
    have hh := getI_some h1041; clear h1041; obtain ⟨x1011, h1010, h1041⟩ := hh
    have hh := brn_some h1041; clear h1041; rcases hh with ⟨h1012, h1041⟩ | ⟨h1012, h1041⟩
    · have hh := brn_some h1041; clear h1041; rcases hh with ⟨h1013, h1041⟩ | ⟨h1013, h1041⟩
      · have hh := bnd'_some h1041; clear h1041; obtain ⟨p1014, h1015, h1041⟩ := hh
        refine W_sound tab_ok mixed 24 _ _ _ ?_
        simp -implicitDefEqProofs only [go_sem, ne_eq, not_false_eq_true, Nat.reduceBEq, Nat.reduceAdd, Nat.reduceSub, Nat.reduceMul, Nat.reduceLT, Nat.reduceLeDiff, Int.reduceLE, Int.reduceLT, Int.reduceToNat, Int.reduceBEq, Int.reduceBNe, decide_true, decide_false, Int.cast_ofNat_Int, ↓reduceIte, h753, g755, h758, g761, g762, h765, h770, h992, h994, g996, h999, h1004, h1007, h1010, h1012, h1013]
        repeat with_reducible refine And.intro (by first | kernel_rfl | decide) ?_
        refine Wp_callP (c15 N  _ h1015) (by kernel_rfl) rfl rfl rfl rfl (by decide) ?_
        have hh := getB_some h1041; clear h1041; obtain ⟨b1017, h1016, h1041⟩ := hh
        refine W_sound tab_ok mixed 4 _ _ _ ?_
        simp -implicitDefEqProofs only [go_sem, ne_eq, not_false_eq_true, Nat.reduceBEq, Nat.reduceAdd, Nat.reduceSub, Nat.reduceMul, Nat.reduceLT, Nat.reduceLeDiff, Int.reduceLE, Int.reduceLT, Int.reduceToNat, Int.reduceBEq, Int.reduceBNe, decide_true, decide_false, Int.cast_ofNat_Int, ↓reduceIte, h753, g755, h758, g761, g762, h765, h770, h992, h994, g996, h999, h1004, h1007, h1010, h1012, h1013, h1016]
        repeat with_reducible refine And.intro (by first | kernel_rfl | decide) ?_
        obtain rfl := Option.some.inj h1041
        exact finC [(8, .v (.bool b1017))] [(8, .v (.bool b1017))] (by simp [leE, lk_cons]) (.cons _ _ _ _ _ (.v _ _ (.refl _)) .nil) (by rfl) (by simp [leE, lk_cons]) (by decide) (by decide) rfl (by simp only [go_sem, ne_eq, not_false_eq_true, Nat.reduceBEq, Nat.reduceAdd, Nat.reduceSub, Nat.reduceMul, Nat.reduceLT, Nat.reduceLeDiff, Int.reduceLE, Int.reduceLT, Int.reduceToNat, Int.reduceBEq, Int.reduceBNe, decide_true, decide_false, Int.cast_ofNat_Int, ↓reduceIte, resQ_tmp, resQ_cell, resQ_nil, retD_one, retD_two, retD_three, retD_none]; try simp [R.val, retD_one, retD_two, retD_three, retD_none])
      · refine W_sound tab_ok mixed 29 _ _ _ ?_
        simp -implicitDefEqProofs only [go_sem, ne_eq, not_false_eq_true, Nat.reduceBEq, Nat.reduceAdd, Nat.reduceSub, Nat.reduceMul, Nat.reduceLT, Nat.reduceLeDiff, Int.reduceLE, Int.reduceLT, Int.reduceToNat, Int.reduceBEq, Int.reduceBNe, decide_true, decide_false, Int.cast_ofNat_Int, ↓reduceIte, h753, g755, h758, g761, g762, h765, h770, h992, h994, g996, h999, h1004, h1007, h1010, h1012, h1013]
        repeat with_reducible refine And.intro (by first | kernel_rfl | decide) ?_
        obtain rfl := Option.some.inj h1041
        exact finC [(8, .v (.bool false))] [(8, .v (.bool false))] (by simp [leE, lk_cons]) (.cons _ _ _ _ _ (.v _ _ (.refl _)) .nil) (by rfl) (by simp [leE, lk_cons]) (by decide) (by decide) rfl (by simp only [go_sem, ne_eq, not_false_eq_true, Nat.reduceBEq, Nat.reduceAdd, Nat.reduceSub, Nat.reduceMul, Nat.reduceLT, Nat.reduceLeDiff, Int.reduceLE, Int.reduceLT, Int.reduceToNat, Int.reduceBEq, Int.reduceBNe, decide_true, decide_false, Int.cast_ofNat_Int, ↓reduceIte, resQ_tmp, resQ_cell, resQ_nil, retD_one, retD_two, retD_three, retD_none]; try simp [R.val, retD_one, retD_two, retD_three, retD_none])
    · have hh := brn_some h1041; clear h1041; rcases hh with ⟨h1018, h1041⟩ | ⟨h1018, h1041⟩
      · have hh := bnd'_some h1041; clear h1041; obtain ⟨p1019, h1020, h1041⟩ := hh
        refine W_sound tab_ok mixed 26 _ _ _ ?_
        simp -implicitDefEqProofs only [go_sem, ne_eq, not_false_eq_true, Nat.reduceBEq, Nat.reduceAdd, Nat.reduceSub, Nat.reduceMul, Nat.reduceLT, Nat.reduceLeDiff, Int.reduceLE, Int.reduceLT, Int.reduceToNat, Int.reduceBEq, Int.reduceBNe, decide_true, decide_false, Int.cast_ofNat_Int, ↓reduceIte, h753, g755, h758, g761, g762, h765, h770, h992, h994, g996, h999, h1004, h1007, h1010, h1012, h1018]
        repeat with_reducible refine And.intro (by first | kernel_rfl | decide) ?_
        refine Wp_callP (c37 N _ _ h1020) (by kernel_rfl) rfl rfl rfl rfl (by decide) ?_
        have hh := getB_some h1041; clear h1041; obtain ⟨b1022, h1021, h1041⟩ := hh
        have hh := brn_some h1041; clear h1041; rcases hh with ⟨h1023, h1041⟩ | ⟨h1023, h1041⟩
        · have hh := getI_some h1041; clear h1041; obtain ⟨x1025, h1024, h1041⟩ := hh
          have hh := grd_some h1041; clear h1041; obtain ⟨g1026, h1041⟩ := hh
          have hh := getI_some h1041; clear h1041; obtain ⟨x1028, h1027, h1041⟩ := hh
          have hh := grd_some h1041; clear h1041; obtain ⟨g1029, h1041⟩ := hh
          have hh := getI_some h1041; clear h1041; obtain ⟨x1031, h1030, h1041⟩ := hh
          have hh := getI_some h1041; clear h1041; obtain ⟨x1033, h1032, h1041⟩ := hh
          have hh := brn_some h1041; clear h1041; rcases hh with ⟨h1034, h1041⟩ | ⟨h1034, h1041⟩
          · have hh := bnd'_some h1041; clear h1041; obtain ⟨p1035, h1036, h1041⟩ := hh
            refine W_sound tab_ok mixed 18 _ _ _ ?_
            simp -implicitDefEqProofs only [go_sem, ne_eq, not_false_eq_true, Nat.reduceBEq, Nat.reduceAdd, Nat.reduceSub, Nat.reduceMul, Nat.reduceLT, Nat.reduceLeDiff, Int.reduceLE, Int.reduceLT, Int.reduceToNat, Int.reduceBEq, Int.reduceBNe, decide_true, decide_false, Int.cast_ofNat_Int, ↓reduceIte, h753, g755, h758, g761, g762, h765, h770, h992, h994, g996, h999, h1004, h1007, h1010, h1012, h1018, h1021, h1023, h1024, g1026, h1027, g1029, h1030, h1032, h1034]
            repeat with_reducible refine And.intro (by first | kernel_rfl | decide) ?_
            refine Wp_callP (c15 N  _ h1036) (by kernel_rfl) rfl rfl rfl rfl (by decide) ?_
            have hh := getB_some h1041; clear h1041; obtain ⟨b1038, h1037, h1041⟩ := hh
            refine W_sound tab_ok mixed 4 _ _ _ ?_
            simp -implicitDefEqProofs only [go_sem, ne_eq, not_false_eq_true, Nat.reduceBEq, Nat.reduceAdd, Nat.reduceSub, Nat.reduceMul, Nat.reduceLT, Nat.reduceLeDiff, Int.reduceLE, Int.reduceLT, Int.reduceToNat, Int.reduceBEq, Int.reduceBNe, decide_true, decide_false, Int.cast_ofNat_Int, ↓reduceIte, h753, g755, h758, g761, g762, h765, h770, h992, h994, g996, h999, h1004, h1007, h1010, h1012, h1018, h1021, h1023, h1024, g1026, h1027, g1029, h1030, h1032, h1034, h1037]
            repeat with_reducible refine And.intro (by first | kernel_rfl | decide) ?_
            obtain rfl := Option.some.inj h1041
            exact finC [(8, .v (.bool b1038))] [(8, .v (.bool b1038))] (by simp [leE, lk_cons]) (.cons _ _ _ _ _ (.v _ _ (.refl _)) .nil) (by rfl) (by simp [leE, lk_cons]) (by decide) (by decide) rfl (by simp only [go_sem, ne_eq, not_false_eq_true, Nat.reduceBEq, Nat.reduceAdd, Nat.reduceSub, Nat.reduceMul, Nat.reduceLT, Nat.reduceLeDiff, Int.reduceLE, Int.reduceLT, Int.reduceToNat, Int.reduceBEq, Int.reduceBNe, decide_true, decide_false, Int.cast_ofNat_Int, ↓reduceIte, resQ_tmp, resQ_cell, resQ_nil, retD_one, retD_two, retD_three, retD_none]; try simp [R.val, retD_one, retD_two, retD_three, retD_none])
          · refine W_sound tab_ok mixed 23 _ _ _ ?_
            simp -implicitDefEqProofs only [go_sem, ne_eq, not_false_eq_true, Nat.reduceBEq, Nat.reduceAdd, Nat.reduceSub, Nat.reduceMul, Nat.reduceLT, Nat.reduceLeDiff, Int.reduceLE, Int.reduceLT, Int.reduceToNat, Int.reduceBEq, Int.reduceBNe, decide_true, decide_false, Int.cast_ofNat_Int, ↓reduceIte, h753, g755, h758, g761, g762, h765, h770, h992, h994, g996, h999, h1004, h1007, h1010, h1012, h1018, h1021, h1023, h1024, g1026, h1027, g1029, h1030, h1032, h1034]
            repeat with_reducible refine And.intro (by first | kernel_rfl | decide) ?_
            obtain rfl := Option.some.inj h1041
            exact finC [(8, .v (.bool false))] [(8, .v (.bool false))] (by simp [leE, lk_cons]) (.cons _ _ _ _ _ (.v _ _ (.refl _)) .nil) (by rfl) (by simp [leE, lk_cons]) (by decide) (by decide) rfl (by simp only [go_sem, ne_eq, not_false_eq_true, Nat.reduceBEq, Nat.reduceAdd, Nat.reduceSub, Nat.reduceMul, Nat.reduceLT, Nat.reduceLeDiff, Int.reduceLE, Int.reduceLT, Int.reduceToNat, Int.reduceBEq, Int.reduceBNe, decide_true, decide_false, Int.cast_ofNat_Int, ↓reduceIte, resQ_tmp, resQ_cell, resQ_nil, retD_one, retD_two, retD_three, retD_none]; try simp [R.val, retD_one, retD_two, retD_three, retD_none])
        · refine W_sound tab_ok mixed 23 _ _ _ ?_
          simp -implicitDefEqProofs only [go_sem, ne_eq, not_false_eq_true, Nat.reduceBEq, Nat.reduceAdd, Nat.reduceSub, Nat.reduceMul, Nat.reduceLT, Nat.reduceLeDiff, Int.reduceLE, Int.reduceLT, Int.reduceToNat, Int.reduceBEq, Int.reduceBNe, decide_true, decide_false, Int.cast_ofNat_Int, ↓reduceIte, h753, g755, h758, g761, g762, h765, h770, h992, h994, g996, h999, h1004, h1007, h1010, h1012, h1018, h1021, h1023]
          repeat with_reducible refine And.intro (by first | kernel_rfl | decide) ?_
          obtain rfl := Option.some.inj h1041
          exact finC [(8, .v (.bool false))] [(8, .v (.bool false))] (by simp [leE, lk_cons]) (.cons _ _ _ _ _ (.v _ _ (.refl _)) .nil) (by rfl) (by simp [leE, lk_cons]) (by decide) (by decide) rfl (by simp only [go_sem, ne_eq, not_false_eq_true, Nat.reduceBEq, Nat.reduceAdd, Nat.reduceSub, Nat.reduceMul, Nat.reduceLT, Nat.reduceLeDiff, Int.reduceLE, Int.reduceLT, Int.reduceToNat, Int.reduceBEq, Int.reduceBNe, decide_true, decide_false, Int.cast_ofNat_Int, ↓reduceIte, resQ_tmp, resQ_cell, resQ_nil, retD_one, retD_two, retD_three, retD_none]; try simp [R.val, retD_one, retD_two, retD_three, retD_none])
      · refine W_sound tab_ok mixed 50 _ _ _ ?_
        simp -implicitDefEqProofs only [go_sem, ne_eq, not_false_eq_true, Nat.reduceBEq, Nat.reduceAdd, Nat.reduceSub, Nat.reduceMul, Nat.reduceLT, Nat.reduceLeDiff, Int.reduceLE, Int.reduceLT, Int.reduceToNat, Int.reduceBEq, Int.reduceBNe, decide_true, decide_false, Int.cast_ofNat_Int, ↓reduceIte, h753, g755, h758, g761, g762, h765, h770, h992, h994, g996, h999, h1004, h1007, h1010, h1012, h1018]
        repeat with_reducible refine And.intro (by first | kernel_rfl | decide) ?_
        obtain rfl := Option.some.inj h1041
        exact finC [(8, .v (.bool false))] [(8, .v (.bool false))] (by simp [leE, lk_cons]) (.cons _ _ _ _ _ (.v _ _ (.refl _)) .nil) (by rfl) (by simp [leE, lk_cons]) (by decide) (by decide) rfl (by simp only [go_sem, ne_eq, not_false_eq_true, Nat.reduceBEq, Nat.reduceAdd, Nat.reduceSub, Nat.reduceMul, Nat.reduceLT, Nat.reduceLeDiff, Int.reduceLE, Int.reduceLT, Int.reduceToNat, Int.reduceBEq, Int.reduceBNe, decide_true, decide_false, Int.cast_ofNat_Int, ↓reduceIte, resQ_tmp, resQ_cell, resQ_nil, retD_one, retD_two, retD_three, retD_none]; try simp [R.val, retD_one, retD_two, retD_three, retD_none])
end Go.Proofs.Ytgnphlpoofaojaa
