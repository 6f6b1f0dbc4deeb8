import Derived.Test.YtgnphlpoofaojaaXCovs
import Derived.Test.YtgnphlpoofaojaaXBests
import Derived.Test.YtgnphlpoofaojaaXHulls
import Derived.Test.YtgnphlpoofaojaaXNeeds
import Derived.Test.YtgnphlpoofaojaaB
import Derived.Test.YtgnphlpoofaojaaV33
namespace Go.Proofs.Ytgnphlpoofaojaa
open Go.V
set_option maxRecDepth 100000
set_option maxHeartbeats 4000000
set_option linter.unusedSimpArgs false
set_option linter.unusedVariables false
attribute [local go_sem] tl1 tl2 tl3 tl4 tl5 tl9 tl17 tl21 tl22 tl23 tl24 tl25 tl26 tl27 tl28 tl29 tl31 tl33 tl34 tl36 tl37 tl38 tl39 tl40 tl41 tl42 tl43 tl44 tl46 tl47 tl49 tl50 tl52 tl53 tl54 tl55 tl56 tl57 tl58 tl60 tl62 tl63 tl64 tl65 tl66 tl67 tl68 tl69 tl70 tl71 tl72 tl74 tl75 tl76 tl77 tl78 tl79 tl80 tl81 tl82 tl83 tl84 tl85 tl86 tl87 tl88 tl89 tl90 tl91 tl92 tl93 tl94 tl95 tl96 tl97 tl98 tl99 tl100 tl102 tl103 tl104 tl105 tl106 tl107 tl108 tl109 tl110 tl111 tl112 tl113 tl114 tl115 tl116 tl117 tl118 tl119 tl120 tl121 tl122 tl123 tl124 tl125 tl126 tl127 tl128 tl129 tl130 tl131 tl132 tl133 tl134 tl140 tl141 tl145

def m53 (N : Nat) (p3526 : PV) (p3527 : PV) (x3528 : Int) (x3529 : Int) (x3530 : Int) : Option (PV) :=
  getA2 p3526 fun p3532 p3533 =>
  getL p3527 fun n3535 c3536 =>
  grd (0 ≤ x3528 ∧ x3528 < ((n3535 : Nat) : Int)) <|
  grd (2 ≤ List.length (List.drop ((Int.toNat x3528) * 2) c3536)) <|
  getA2 (.agg (List.take 2 (List.drop ((Int.toNat x3528) * 2) c3536))) fun p3541 p3542 =>
  bnd' (m41 N (.agg [p3541, p3542]) (.agg [p3532, p3533])) fun p3543 =>
  getI .i64 p3543 fun x3546 =>
  grd (0 ≤ x3529 ∧ x3529 < ((n3535 : Nat) : Int)) <|
  grd (2 ≤ List.length (List.drop ((Int.toNat x3529) * 2) c3536)) <|
  getA2 (.agg (List.take 2 (List.drop ((Int.toNat x3529) * 2) c3536))) fun p3551 p3552 =>
  bnd' (m41 N (.agg [p3551, p3552]) (.agg [p3532, p3533])) fun p3553 =>
  getI .i64 p3553 fun x3556 =>
  grd (0 ≤ x3530 ∧ x3530 < ((n3535 : Nat) : Int)) <|
  grd (2 ≤ List.length (List.drop ((Int.toNat x3530) * 2) c3536)) <|
  getA2 (.agg (List.take 2 (List.drop ((Int.toNat x3530) * 2) c3536))) fun p3561 p3562 =>
  bnd' (m41 N (.agg [p3561, p3562]) (.agg [p3532, p3533])) fun p3563 =>
  getI .i64 p3563 fun x3566 =>
  some (.bool (decide ((maxI x3546 x3556) < x3566)))
theorem c53 (N : Nat) (p3526 : PV) (p3527 : PV) (x3528 : Int) (x3529 : Int) (x3530 : Int) (r : PV)  (h : m53 N p3526 p3527 x3528 x3529 x3530 = some r) : FnP Try.prog 53 [p3526, (.ipt [p3527]), (.ipt [(.int .i64 x3528)]), (.ipt [(.int .i64 x3529)]), (.ipt [(.int .i64 x3530)])] r := by
  unfold m53 at h
  refine Fn_of (sz := 27) tab_ok [0, 1, 2, 3, 4, 5, 6] [.tmp 6] Try.func53 rfl rfl rfl (by simp) ?_
  simp only [initSt, initEnv, List.map_cons, List.map_nil, List.getD_cons_zero, List.getD_cons_succ, List.getD_nil]
  have hh := getA2_some h; clear h; obtain ⟨p3532, p3533, h3531, h⟩ := hh
  have hh := getL_some h; clear h; obtain ⟨n3535, c3536, h3534, h⟩ := hh
  have hh := grd_some h; clear h; obtain ⟨⟨g3537, g3538⟩, h⟩ := hh
  have hh := grd_some h; clear h; obtain ⟨g3539, h⟩ := hh
  have hh := getA2_some h; clear h; obtain ⟨p3541, p3542, h3540, h⟩ := hh
  injection h3540 with h3540
  have hh := bnd'_some h; clear h; obtain ⟨p3543, h3544, h⟩ := hh
  refine W_sound tab_ok mixed 12 _ _ _ ?_
  simp -implicitDefEqProofs only [go_sem, ne_eq, not_false_eq_true, Nat.reduceBEq, Nat.reduceAdd, Nat.reduceSub, Nat.reduceMul, Nat.reduceLT, Nat.reduceLeDiff, Int.reduceLE, Int.reduceLT, Int.reduceToNat, Int.reduceBEq, Int.reduceBNe, Int.le_refl, Nat.le_refl, decide_true, decide_false, Int.cast_ofNat_Int, ↓reduceIte, h3531, h3534, g3537, g3538, g3539, h3540]
  repeat with_reducible refine And.intro (by first | kernel_rfl | decide) ?_
  refine Wp_callP (c41 N _ _ _ h3544) (by kernel_rfl) rfl rfl rfl rfl (by decide) ?_
  have hh := getI_some h; clear h; obtain ⟨x3546, h3545, h⟩ := hh
  have hh := grd_some h; clear h; obtain ⟨⟨g3547, g3548⟩, h⟩ := hh
  have hh := grd_some h; clear h; obtain ⟨g3549, h⟩ := hh
  have hh := getA2_some h; clear h; obtain ⟨p3551, p3552, h3550, h⟩ := hh
  injection h3550 with h3550
  have hh := bnd'_some h; clear h; obtain ⟨p3553, h3554, h⟩ := hh
  refine W_sound tab_ok mixed 5 _ _ _ ?_
  simp -implicitDefEqProofs only [go_sem, ne_eq, not_false_eq_true, Nat.reduceBEq, Nat.reduceAdd, Nat.reduceSub, Nat.reduceMul, Nat.reduceLT, Nat.reduceLeDiff, Int.reduceLE, Int.reduceLT, Int.reduceToNat, Int.reduceBEq, Int.reduceBNe, Int.le_refl, Nat.le_refl, decide_true, decide_false, Int.cast_ofNat_Int, ↓reduceIte, h3531, h3534, g3537, g3538, g3539, h3540, h3545, g3547, g3548, g3549, h3550]
  repeat with_reducible refine And.intro (by first | kernel_rfl | decide) ?_
  refine Wp_callP (c41 N _ _ _ h3554) (by kernel_rfl) rfl rfl rfl rfl (by decide) ?_
  have hh := getI_some h; clear h; obtain ⟨x3556, h3555, h⟩ := hh
  have hh := grd_some h; clear h; obtain ⟨⟨g3557, g3558⟩, h⟩ := hh
  have hh := grd_some h; clear h; obtain ⟨g3559, h⟩ := hh
  have hh := getA2_some h; clear h; obtain ⟨p3561, p3562, h3560, h⟩ := hh
  injection h3560 with h3560
  have hh := bnd'_some h; clear h; obtain ⟨p3563, h3564, h⟩ := hh
  refine W_sound tab_ok mixed 6 _ _ _ ?_
  simp -implicitDefEqProofs only [go_sem, ne_eq, not_false_eq_true, Nat.reduceBEq, Nat.reduceAdd, Nat.reduceSub, Nat.reduceMul, Nat.reduceLT, Nat.reduceLeDiff, Int.reduceLE, Int.reduceLT, Int.reduceToNat, Int.reduceBEq, Int.reduceBNe, Int.le_refl, Nat.le_refl, decide_true, decide_false, Int.cast_ofNat_Int, ↓reduceIte, h3531, h3534, g3537, g3538, g3539, h3540, h3545, g3547, g3548, g3549, h3550, h3555, g3557, g3558, g3559, h3560]
  repeat with_reducible refine And.intro (by first | kernel_rfl | decide) ?_
  refine Wp_callP (c41 N _ _ _ h3564) (by kernel_rfl) rfl rfl rfl rfl (by decide) ?_
  have hh := getI_some h; clear h; obtain ⟨x3566, h3565, h⟩ := hh
  refine W_sound tab_ok mixed 5 _ _ _ ?_
  simp -implicitDefEqProofs only [go_sem, ne_eq, not_false_eq_true, Nat.reduceBEq, Nat.reduceAdd, Nat.reduceSub, Nat.reduceMul, Nat.reduceLT, Nat.reduceLeDiff, Int.reduceLE, Int.reduceLT, Int.reduceToNat, Int.reduceBEq, Int.reduceBNe, Int.le_refl, Nat.le_refl, decide_true, decide_false, Int.cast_ofNat_Int, ↓reduceIte, h3531, h3534, g3537, g3538, g3539, h3540, h3545, g3547, g3548, g3549, h3550, h3555, g3557, g3558, g3559, h3560, h3565]
  repeat with_reducible refine And.intro (by first | kernel_rfl | decide) ?_
  obtain rfl := Option.some.inj h
  exact finC [(6, .v (.bool (decide ((maxI x3546 x3556) < x3566))))] [(6, .v (.bool (decide ((maxI x3546 x3556) < x3566))))] (by simp [leE, lk_cons]) (.cons _ _ _ _ _ (.v _ _ (.refl _)) .nil) (by rfl) (by simp [leE, lk_cons]) (by decide) (by decide) rfl (by simp only [go_sem, ne_eq, not_false_eq_true, Nat.reduceBEq, Nat.reduceAdd, Nat.reduceSub, Nat.reduceMul, Nat.reduceLT, Nat.reduceLeDiff, Int.reduceLE, Int.reduceLT, Int.reduceToNat, Int.reduceBEq, Int.reduceBNe, Int.le_refl, Nat.le_refl, decide_true, decide_false, Int.cast_ofNat_Int, ↓reduceIte, resQ_tmp, resQ_cell, resQ_nil, retD_one, retD_two, retD_three, retD_none]; try simp [R.val, retD_one, retD_two, retD_three, retD_none])

def m75_L0 (N : Nat) (p3511 : PV) (x3512 : Int) (x3513 : Int) (x3514 : Int) (n3516 : Nat) (c3517 : List PV) : Nat → Int → Option ((PV ⊕ Unit))
  | 0, _ => none
  | n + 1, x3518 =>
    brn (decide (x3518 < ((n3516 : Nat) : Int))) (
      grd (0 ≤ x3518 ∧ x3518 < ((n3516 : Nat) : Int)) <|
      grd (2 ≤ List.length (List.drop ((Int.toNat x3518) * 2) c3517)) <|
      getA2 (.agg (List.take 2 (List.drop ((Int.toNat x3518) * 2) c3517))) fun p3524 p3525 =>
      bnd' (m53 N (.agg [p3524, p3525]) p3511 x3512 x3513 x3514) fun p3567 =>
      getB p3567 fun b3570 =>
      brn b3570 (
        some (.inl (.int .i64 x3518))) (
        m75_L0 N p3511 x3512 x3513 x3514 n3516 c3517 n (IntKind.i64.wrap (x3518 + 1)))) (
      some (.inr ()))
def m75 (N : Nat) (p3510 : PV) (p3511 : PV) (x3512 : Int) (x3513 : Int) (x3514 : Int) : Option (PV) :=
  getL p3510 fun n3516 c3517 =>
  bnd' (m75_L0 N p3511 x3512 x3513 x3514 n3516 c3517 N 0) fun o =>
  match o with
  | .inl p3572 =>
    some p3572
  | .inr () =>
    some (.int .i64 (-1))
theorem c75 (N : Nat) (p3510 : PV) (p3511 : PV) (x3512 : Int) (x3513 : Int) (x3514 : Int) (r : PV)  (h : m75 N p3510 p3511 x3512 x3513 x3514 = some r) : FnP Try.prog 75 [p3510, (.fn 53 [(.ipt [p3511]), (.ipt [(.int .i64 x3512)]), (.ipt [(.int .i64 x3513)]), (.ipt [(.int .i64 x3514)])])] r := by
  unfold m75 at h
  refine Fn_of (sz := 19) tab_ok [0, 1, 4, 5, 7, 8, 9, 16] [.tmp 4] Try.func75 rfl rfl rfl (by simp) ?_
  simp only [initSt, initEnv, List.map_cons, List.map_nil, List.getD_cons_zero, List.getD_cons_succ, List.getD_nil]
  have hh := getL_some h; clear h; obtain ⟨n3516, c3517, h3515, h⟩ := hh
  refine W_sound tab_ok mixed 11 _ _ _ ?_
  simp -implicitDefEqProofs only [go_sem, ne_eq, not_false_eq_true, Nat.reduceBEq, Nat.reduceAdd, Nat.reduceSub, Nat.reduceMul, Nat.reduceLT, Nat.reduceLeDiff, Int.reduceLE, Int.reduceLT, Int.reduceToNat, Int.reduceBEq, Int.reduceBNe, Int.le_refl, Nat.le_refl, decide_true, decide_false, Int.cast_ofNat_Int, ↓reduceIte, h3515]
  repeat with_reducible refine And.intro (by first | kernel_rfl | decide) ?_
  have hh := bnd'_some h; clear h; obtain ⟨o3573, h3574, h3575⟩ := hh
  refine Wp_cut (fun s => (.inr ()) = o3573 ∧ s = ⟨[], [(0, .dead), (1, .dead), (4, .dead), (5, .dead), (7, .dead), (8, .dead), (9, .dead), (16, .dead)], [], 0, []⟩) ?_ ?_
  · refine Wp_block ?_
    refine Wp_loopG (fun n s => ∃ x3518, m75_L0 N p3511 x3512 x3513 x3514 n3516 c3517 n x3518 = some o3573 ∧ s = ⟨[], [(0, .v (.lst false n3516 c3517)), (1, .v (.fn 53 [(.ipt [p3511]), (.ipt [(.int .i64 x3512)]), (.ipt [(.int .i64 x3513)]), (.ipt [(.int .i64 x3514)])])), (4, .dead), (5, .dead), (7, .v (.int .i64 ((n3516 : Nat) : Int))), (8, .v (.int .i64 x3518)), (9, .dead), (16, .dead)], [], 0, []⟩) N _ ((Wk_le (.cons _ _ _ _ _ (.refl _) (.cons _ _ _ _ _ (.refl _) (.cons _ _ _ _ _ (.dead _) (.cons _ _ _ _ _ (.refl _) (.cons _ _ _ _ _ (.refl _) (.cons _ _ _ _ _ (.refl _) (.cons _ _ _ _ _ (.refl _) (.cons _ _ _ _ _ (.refl _) .nil)))))))) (OLe.refl _)).trans (cmpS_ok rfl)) ⟨_, h3574, rfl⟩ ?_
    clear h3574
    rintro n _ ⟨x3518, h3574, rfl⟩
    cases n with
    | zero => cases h3574
    | succ n =>
      rw [m75_L0] at h3574
      have hh := brn_some h3574; clear h3574; rcases hh with ⟨h3519, h3574⟩ | ⟨h3519, h3574⟩
      · have hh := grd_some h3574; clear h3574; obtain ⟨⟨g3520, g3521⟩, h3574⟩ := hh
        have hh := grd_some h3574; clear h3574; obtain ⟨g3522, h3574⟩ := hh
        have hh := getA2_some h3574; clear h3574; obtain ⟨p3524, p3525, h3523, h3574⟩ := hh
        injection h3523 with h3523
        have hh := bnd'_some h3574; clear h3574; obtain ⟨p3567, h3568, h3574⟩ := hh
        refine W_sound tab_ok mixed 21 _ _ _ ?_
        simp -implicitDefEqProofs only [go_sem, ne_eq, not_false_eq_true, Nat.reduceBEq, Nat.reduceAdd, Nat.reduceSub, Nat.reduceMul, Nat.reduceLT, Nat.reduceLeDiff, Int.reduceLE, Int.reduceLT, Int.reduceToNat, Int.reduceBEq, Int.reduceBNe, Int.le_refl, Nat.le_refl, decide_true, decide_false, Int.cast_ofNat_Int, ↓reduceIte, h3515, h3519, g3520, g3521, g3522, h3523]
        repeat with_reducible refine And.intro (by first | kernel_rfl | decide) ?_
        refine Wp_callP (c53 N _ _ _ _ _ _ h3568) (by kernel_rfl) rfl rfl rfl rfl (by decide) ?_
        have hh := getB_some h3574; clear h3574; obtain ⟨b3570, h3569, h3574⟩ := hh
        have hh := brn_some h3574; clear h3574; rcases hh with ⟨h3571, h3574⟩ | ⟨h3571, h3574⟩
        · refine W_sound tab_ok mixed 9 _ _ _ ?_
          simp -implicitDefEqProofs only [go_sem, ne_eq, not_false_eq_true, Nat.reduceBEq, Nat.reduceAdd, Nat.reduceSub, Nat.reduceMul, Nat.reduceLT, Nat.reduceLeDiff, Int.reduceLE, Int.reduceLT, Int.reduceToNat, Int.reduceBEq, Int.reduceBNe, Int.le_refl, Nat.le_refl, decide_true, decide_false, Int.cast_ofNat_Int, ↓reduceIte, h3515, h3519, g3520, g3521, g3522, h3523, h3569, h3571]
          repeat with_reducible refine And.intro (by first | kernel_rfl | decide) ?_
          obtain rfl := Option.some.inj h3574
          (try dsimp only at h3575)
          obtain rfl := Option.some.inj h3575
          exact finC [(4, .v (.int .i64 x3518))] [(4, .v (.int .i64 x3518))] (by simp [leE, lk_cons]) (.cons _ _ _ _ _ (.v _ _ (.refl _)) .nil) (by rfl) (by simp [leE, lk_cons]) (by decide) (by decide) rfl (by simp only [go_sem, ne_eq, not_false_eq_true, Nat.reduceBEq, Nat.reduceAdd, Nat.reduceSub, Nat.reduceMul, Nat.reduceLT, Nat.reduceLeDiff, Int.reduceLE, Int.reduceLT, Int.reduceToNat, Int.reduceBEq, Int.reduceBNe, Int.le_refl, Nat.le_refl, decide_true, decide_false, Int.cast_ofNat_Int, ↓reduceIte, resQ_tmp, resQ_cell, resQ_nil, retD_one, retD_two, retD_three, retD_none]; try simp [R.val, retD_one, retD_two, retD_three, retD_none])
        · refine W_sound tab_ok mixed 8 _ _ _ ?_
          simp -implicitDefEqProofs only [go_sem, ne_eq, not_false_eq_true, Nat.reduceBEq, Nat.reduceAdd, Nat.reduceSub, Nat.reduceMul, Nat.reduceLT, Nat.reduceLeDiff, Int.reduceLE, Int.reduceLT, Int.reduceToNat, Int.reduceBEq, Int.reduceBNe, Int.le_refl, Nat.le_refl, decide_true, decide_false, Int.cast_ofNat_Int, ↓reduceIte, h3515, h3519, g3520, g3521, g3522, h3523, h3569, h3571]
          repeat with_reducible refine And.intro (by first | kernel_rfl | decide) ?_
          exact cutQ _ ((Wk_le (.cons _ _ _ _ _ (.refl _) (.cons _ _ _ _ _ (.refl _) (.cons _ _ _ _ _ (.refl _) (.cons _ _ _ _ _ (.dead _) (.cons _ _ _ _ _ (.refl _) (.cons _ _ _ _ _ (.refl _) (.cons _ _ _ _ _ (.dead _) (.cons _ _ _ _ _ (.dead _) .nil)))))))) (OLe.refl _)).trans (cmpS_ok rfl)) ⟨n, Nat.lt_succ_self n, _, h3574, rfl⟩
      · refine W_sound tab_ok mixed 7 _ _ _ ?_
        simp -implicitDefEqProofs only [go_sem, ne_eq, not_false_eq_true, Nat.reduceBEq, Nat.reduceAdd, Nat.reduceSub, Nat.reduceMul, Nat.reduceLT, Nat.reduceLeDiff, Int.reduceLE, Int.reduceLT, Int.reduceToNat, Int.reduceBEq, Int.reduceBNe, Int.le_refl, Nat.le_refl, decide_true, decide_false, Int.cast_ofNat_Int, ↓reduceIte, h3515, h3519]
        repeat with_reducible refine And.intro (by first | kernel_rfl | decide) ?_
        obtain rfl := Option.some.inj h3574
        exact cutQ _ ((Wk_le (.cons _ _ _ _ _ (.dead _) (.cons _ _ _ _ _ (.dead _) (.cons _ _ _ _ _ (.refl _) (.cons _ _ _ _ _ (.refl _) (.cons _ _ _ _ _ (.dead _) (.cons _ _ _ _ _ (.dead _) (.cons _ _ _ _ _ (.dead _) (.cons _ _ _ _ _ (.refl _) .nil)))))))) (OLe.refl _)).trans (cmpS_ok rfl)) ⟨rfl, rfl⟩
  · rintro _ ⟨rfl, rfl⟩
    (try dsimp only at h3575)
    refine W_sound tab_ok mixed 6 _ _ _ ?_
    simp -implicitDefEqProofs only [go_sem, ne_eq, not_false_eq_true, Nat.reduceBEq, Nat.reduceAdd, Nat.reduceSub, Nat.reduceMul, Nat.reduceLT, Nat.reduceLeDiff, Int.reduceLE, Int.reduceLT, Int.reduceToNat, Int.reduceBEq, Int.reduceBNe, Int.le_refl, Nat.le_refl, decide_true, decide_false, Int.cast_ofNat_Int, ↓reduceIte, h3515]
    repeat with_reducible refine And.intro (by first | kernel_rfl | decide) ?_
    obtain rfl := Option.some.inj h3575
    exact finC [(4, .v (.int .i64 (-1)))] [(4, .v (.int .i64 (-1)))] (by simp [leE, lk_cons]) (.cons _ _ _ _ _ (.v _ _ (.refl _)) .nil) (by rfl) (by simp [leE, lk_cons]) (by decide) (by decide) rfl (by simp only [go_sem, ne_eq, not_false_eq_true, Nat.reduceBEq, Nat.reduceAdd, Nat.reduceSub, Nat.reduceMul, Nat.reduceLT, Nat.reduceLeDiff, Int.reduceLE, Int.reduceLT, Int.reduceToNat, Int.reduceBEq, Int.reduceBNe, Int.le_refl, Nat.le_refl, decide_true, decide_false, Int.cast_ofNat_Int, ↓reduceIte, resQ_tmp, resQ_cell, resQ_nil, retD_one, retD_two, retD_three, retD_none]; try simp [R.val, retD_one, retD_two, retD_three, retD_none])

def m52 (N : Nat) (p3502 : PV) (p3503 : PV) (x3504 : Int) (x3505 : Int) (x3506 : Int) : Option (PV) :=
  getL p3502 fun n3508 c3509 =>
  bnd' (m75 N (.lst false n3508 c3509) p3503 x3504 x3505 x3506) fun p3576 =>
  getI .i64 p3576 fun x3579 =>
  some (.bool (decide (x3579 ≥ 0)))
theorem c52 (N : Nat) (p3502 : PV) (p3503 : PV) (x3504 : Int) (x3505 : Int) (x3506 : Int) (r : PV)  (h : m52 N p3502 p3503 x3504 x3505 x3506 = some r) : FnP Try.prog 52 [p3502, (.fn 53 [(.ipt [p3503]), (.ipt [(.int .i64 x3504)]), (.ipt [(.int .i64 x3505)]), (.ipt [(.int .i64 x3506)])])] r := by
  unfold m52 at h
  refine Fn_of (sz := 9) tab_ok [0, 1, 4] [.tmp 4] Try.func52 rfl rfl rfl (by simp) ?_
  simp only [initSt, initEnv, List.map_cons, List.map_nil, List.getD_cons_zero, List.getD_cons_succ, List.getD_nil]
  have hh := getL_some h; clear h; obtain ⟨n3508, c3509, h3507, h⟩ := hh
  have hh := bnd'_some h; clear h; obtain ⟨p3576, h3577, h⟩ := hh
  refine W_sound tab_ok mixed 8 _ _ _ ?_
  simp -implicitDefEqProofs only [go_sem, ne_eq, not_false_eq_true, Nat.reduceBEq, Nat.reduceAdd, Nat.reduceSub, Nat.reduceMul, Nat.reduceLT, Nat.reduceLeDiff, Int.reduceLE, Int.reduceLT, Int.reduceToNat, Int.reduceBEq, Int.reduceBNe, Int.le_refl, Nat.le_refl, decide_true, decide_false, Int.cast_ofNat_Int, ↓reduceIte, h3507]
  repeat with_reducible refine And.intro (by first | kernel_rfl | decide) ?_
  refine Wp_callP (c75 N _ _ _ _ _ _ h3577) (by kernel_rfl) rfl rfl rfl rfl (by decide) ?_
  have hh := getI_some h; clear h; obtain ⟨x3579, h3578, h⟩ := hh
  refine W_sound tab_ok mixed 5 _ _ _ ?_
  simp -implicitDefEqProofs only [go_sem, ne_eq, not_false_eq_true, Nat.reduceBEq, Nat.reduceAdd, Nat.reduceSub, Nat.reduceMul, Nat.reduceLT, Nat.reduceLeDiff, Int.reduceLE, Int.reduceLT, Int.reduceToNat, Int.reduceBEq, Int.reduceBNe, Int.le_refl, Nat.le_refl, decide_true, decide_false, Int.cast_ofNat_Int, ↓reduceIte, h3507, h3578]
  repeat with_reducible refine And.intro (by first | kernel_rfl | decide) ?_
  obtain rfl := Option.some.inj h
  exact finC [(4, .v (.bool (decide (x3579 ≥ 0))))] [(4, .v (.bool (decide (x3579 ≥ 0))))] (by simp [leE, lk_cons]) (.cons _ _ _ _ _ (.v _ _ (.refl _)) .nil) (by rfl) (by simp [leE, lk_cons]) (by decide) (by decide) rfl (by simp only [go_sem, ne_eq, not_false_eq_true, Nat.reduceBEq, Nat.reduceAdd, Nat.reduceSub, Nat.reduceMul, Nat.reduceLT, Nat.reduceLeDiff, Int.reduceLE, Int.reduceLT, Int.reduceToNat, Int.reduceBEq, Int.reduceBNe, Int.le_refl, Nat.le_refl, decide_true, decide_false, Int.cast_ofNat_Int, ↓reduceIte, resQ_tmp, resQ_cell, resQ_nil, retD_one, retD_two, retD_three, retD_none]; try simp [R.val, retD_one, retD_two, retD_three, retD_none])

def m51_L0 (N : Nat) (x3388 : Int) (x3389 : Int) (x3390 : Int) (n3393 : Nat) (c3394 : List PV) : Nat → Nat → Int → List PV → Option ((Nat × List PV))
  | 0, _, _, _ => none
  | n + 1, n3449, x3450, c3451 =>
    brn (decide (x3450 < 3)) (
      grd (0 ≤ x3450 ∧ x3450 < 3) <|
      grd ((((Int.toNat x3450) * 2) + 2) ≤ 6) <|
      getA2 (.agg (List.take 2 (List.drop ((Int.toNat x3450) * 2) [(.int .i64 x3388), (.int .i64 x3389), (.int .i64 x3388), (.int .i64 x3390), (.int .i64 x3389), (.int .i64 x3390)]))) fun p3457 p3458 =>
      getI .i64 p3457 fun x3460 =>
      grd (0 ≤ x3460 ∧ x3460 < ((n3393 : Nat) : Int)) <|
      grd (2 ≤ List.length (List.drop ((Int.toNat x3460) * 2) c3394)) <|
      getA2 (.agg (List.take 2 (List.drop ((Int.toNat x3460) * 2) c3394))) fun p3465 p3466 =>
      getI .i64 p3458 fun x3468 =>
      grd (0 ≤ x3468 ∧ x3468 < ((n3393 : Nat) : Int)) <|
      grd (2 ≤ List.length (List.drop ((Int.toNat x3468) * 2) c3394)) <|
      getA2 (.agg (List.take 2 (List.drop ((Int.toNat x3468) * 2) c3394))) fun p3473 p3474 =>
      getI .i64 p3465 fun x3476 =>
      getI .i64 p3466 fun x3478 =>
      getI .i64 p3473 fun x3480 =>
      getI .i64 p3474 fun x3482 =>
      brn (decide (x3478 < x3482)) (
        bnd' (m40 N (IntKind.i64.wrap (x3476 - x3480)) (IntKind.i64.wrap (x3482 - x3478))) fun p3484 =>
        getA2 p3484 fun p3487 p3488 =>
        grd ((n3449 + 1) ≤ 1099511627776) <|
        grd (List.length c3451 = (n3449 * 2)) <|
        m51_L0 N x3388 x3389 x3390 n3393 c3394 n (n3449 + 1) (IntKind.i64.wrap (x3450 + 1)) (c3451 ++ [p3487, p3488])) (
        brn (decide (x3478 > x3482)) (
          bnd' (m40 N (IntKind.i64.wrap (x3480 - x3476)) (IntKind.i64.wrap (x3478 - x3482))) fun p3492 =>
          getA2 p3492 fun p3495 p3496 =>
          grd ((n3449 + 1) ≤ 1099511627776) <|
          grd (List.length c3451 = (n3449 * 2)) <|
          m51_L0 N x3388 x3389 x3390 n3393 c3394 n (n3449 + 1) (IntKind.i64.wrap (x3450 + 1)) (c3451 ++ [p3495, p3496])) (
          m51_L0 N x3388 x3389 x3390 n3393 c3394 n n3449 (IntKind.i64.wrap (x3450 + 1)) c3451))) (
      some (n3449, c3451))
def m51 (N : Nat) (x3388 : Int) (x3389 : Int) (x3390 : Int) (p3391 : PV) : Option (PV) :=
  getL p3391 fun n3393 c3394 =>
  bnd' (m40 N (-1000) 1) fun p3395 =>
  getA2 p3395 fun p3398 p3399 =>
  bnd' (m40 N 1000 1) fun p3400 =>
  getA2 p3400 fun p3403 p3404 =>
  bnd' (m51_L0 N x3388 x3389 x3390 n3393 c3394 N 2 0 [p3398, p3399, p3403, p3404]) fun o =>
  match o with
  | (n3499, c3500) =>
    grd (List.length c3500 = (n3499 * 2)) <|
    bnd' (m52 N (.lst false n3499 c3500) (.lst false n3393 c3394) x3389 x3390 x3388) fun p3580 =>
    getB p3580 fun b3583 =>
    brn b3583 (
      some (.bool false)) (
      some (.bool true))
theorem c51 (N : Nat) (x3388 : Int) (x3389 : Int) (x3390 : Int) (p3391 : PV) (r : PV)  (h : m51 N x3388 x3389 x3390 p3391 = some r) : FnP Try.prog 51 [(.int .i64 x3388), (.int .i64 x3389), (.int .i64 x3390), (.ipt [p3391])] r := by
  unfold m51 at h
  refine Fn_of (sz := 84) tab_ok [0, 1, 2, 3, 4, 5, 6, 7, 8, 10, 11, 12, 25, 26, 27, 28, 45, 64] [.tmp 7] Try.func51 rfl rfl rfl (by simp) ?_
  simp only [initSt, initEnv, List.map_cons, List.map_nil, List.getD_cons_zero, List.getD_cons_succ, List.getD_nil]
  have hh := getL_some h; clear h; obtain ⟨n3393, c3394, h3392, h⟩ := hh
  have hh := bnd'_some h; clear h; obtain ⟨p3395, h3396, h⟩ := hh
  refine W_sound tab_ok mixed 9 _ _ _ ?_
  simp -implicitDefEqProofs only [go_sem, ne_eq, not_false_eq_true, Nat.reduceBEq, Nat.reduceAdd, Nat.reduceSub, Nat.reduceMul, Nat.reduceLT, Nat.reduceLeDiff, Int.reduceLE, Int.reduceLT, Int.reduceToNat, Int.reduceBEq, Int.reduceBNe, Int.le_refl, Nat.le_refl, decide_true, decide_false, Int.cast_ofNat_Int, ↓reduceIte, h3392]
  repeat with_reducible refine And.intro (by first | kernel_rfl | decide) ?_
  refine Wp_callP (c40 N _ _ _ h3396) (by kernel_rfl) rfl rfl rfl rfl (by decide) ?_
  have hh := getA2_some h; clear h; obtain ⟨p3398, p3399, h3397, h⟩ := hh
  have hh := bnd'_some h; clear h; obtain ⟨p3400, h3401, h⟩ := hh
  (try simp -implicitDefEqProofs only [go_sem, ne_eq, not_false_eq_true, Nat.reduceBEq, Nat.reduceAdd, Nat.reduceSub, Nat.reduceMul, Nat.reduceLT, Nat.reduceLeDiff, Int.reduceLE, Int.reduceLT, Int.reduceToNat, Int.reduceBEq, Int.reduceBNe, Int.le_refl, Nat.le_refl, decide_true, decide_false, Int.cast_ofNat_Int, ↓reduceIte, h3392, h3397])
  refine Wp_callP (c40 N _ _ _ h3401) (by kernel_rfl) rfl rfl rfl rfl (by decide) ?_
  have hh := getA2_some h; clear h; obtain ⟨p3403, p3404, h3402, h⟩ := hh
  refine W_sound tab_ok mixed 19 _ _ _ ?_
  simp -implicitDefEqProofs only [go_sem, ne_eq, not_false_eq_true, Nat.reduceBEq, Nat.reduceAdd, Nat.reduceSub, Nat.reduceMul, Nat.reduceLT, Nat.reduceLeDiff, Int.reduceLE, Int.reduceLT, Int.reduceToNat, Int.reduceBEq, Int.reduceBNe, Int.le_refl, Nat.le_refl, decide_true, decide_false, Int.cast_ofNat_Int, ↓reduceIte, h3392, h3397, h3402]
  repeat with_reducible refine And.intro (by first | kernel_rfl | decide) ?_
  have hh := bnd'_some h; clear h; obtain ⟨o3585, h3586, h3587⟩ := hh
  refine Wp_cut (fun s => ∃ n3499, ∃ c3500, (n3499, c3500) = o3585 ∧ s = ⟨[], [(0, .dead), (1, .dead), (2, .dead), (3, .v (.ipt [(.lst false n3393 c3394)])), (4, .ptr 0 0), (5, .ptr 1 0), (6, .ptr 2 0), (7, .dead), (8, .sl false 3 0 n3499 2), (10, .dead), (11, .dead), (12, .dead), (25, .dead), (26, .dead), (27, .dead), (28, .dead), (45, .dead), (64, .dead)], [(0, .p [(.int .i64 x3388)]), (1, .p [(.int .i64 x3389)]), (2, .p [(.int .i64 x3390)]), (3, .p c3500)], 4, []⟩) ?_ ?_
  · refine Wp_block ?_
    refine Wp_loopG (fun n s => ∃ n3449, ∃ x3450, ∃ c3451, m51_L0 N x3388 x3389 x3390 n3393 c3394 n n3449 x3450 c3451 = some o3585 ∧ s = ⟨[], [(0, .dead), (1, .dead), (2, .dead), (3, .v (.ipt [(.lst false n3393 c3394)])), (4, .ptr 0 0), (5, .ptr 1 0), (6, .ptr 2 0), (7, .dead), (8, .sl false 3 0 n3449 2), (10, .dead), (11, .dead), (12, .dead), (25, .sl true 4 0 3 2), (26, .v (.int .i64 3)), (27, .v (.int .i64 x3450)), (28, .dead), (45, .dead), (64, .dead)], [(0, .p [(.int .i64 x3388)]), (1, .p [(.int .i64 x3389)]), (2, .p [(.int .i64 x3390)]), (3, .p c3451), (4, .p [(.int .i64 x3388), (.int .i64 x3389), (.int .i64 x3388), (.int .i64 x3390), (.int .i64 x3389), (.int .i64 x3390)])], 5, []⟩) N _ ((Wk_le (.cons _ _ _ _ _ (.dead _) (.cons _ _ _ _ _ (.dead _) (.cons _ _ _ _ _ (.dead _) (.cons _ _ _ _ _ (.refl _) (.cons _ _ _ _ _ (.refl _) (.cons _ _ _ _ _ (.refl _) (.cons _ _ _ _ _ (.refl _) (.cons _ _ _ _ _ (.dead _) (.cons _ _ _ _ _ (.sl _ _ _ _ _) (.cons _ _ _ _ _ (.refl _) (.cons _ _ _ _ _ (.refl _) (.cons _ _ _ _ _ (.refl _) (.cons _ _ _ _ _ (.refl _) (.cons _ _ _ _ _ (.refl _) (.cons _ _ _ _ _ (.refl _) (.cons _ _ _ _ _ (.refl _) (.cons _ _ _ _ _ (.refl _) (.cons _ _ _ _ _ (.refl _) .nil)))))))))))))))))) (OLe.refl _)).trans (cmpS_ok (st' := ⟨[], [(0, .dead), (1, .dead), (2, .dead), (3, .v (.ipt [(.lst false n3393 c3394)])), (4, .ptr 0 0), (5, .ptr 1 0), (6, .ptr 2 0), (7, .dead), (8, .sl false 3 0 2 2), (10, .dead), (11, .dead), (12, .dead), (25, .sl true 4 0 3 2), (26, .v (.int .i64 3)), (27, .v (.int .i64 0)), (28, .dead), (45, .dead), (64, .dead)], [(0, .p [(.int .i64 x3388)]), (1, .p [(.int .i64 x3389)]), (2, .p [(.int .i64 x3390)]), (3, .p [p3398, p3399, p3403, p3404]), (4, .p [(.int .i64 x3388), (.int .i64 x3389), (.int .i64 x3388), (.int .i64 x3390), (.int .i64 x3389), (.int .i64 x3390)])], 5, []⟩) (by kernel_rfl))) ⟨_, _, _, h3586, rfl⟩ ?_
    clear h3586
    rintro n _ ⟨n3449, x3450, c3451, h3586, rfl⟩
    cases n with
    | zero => cases h3586
    | succ n =>
      rw [m51_L0] at h3586
      have hh := brn_some h3586; clear h3586; rcases hh with ⟨h3452, h3586⟩ | ⟨h3452, h3586⟩
      · have hh := grd_some h3586; clear h3586; obtain ⟨⟨g3453, g3454⟩, h3586⟩ := hh
        have hh := grd_some h3586; clear h3586; obtain ⟨g3455, h3586⟩ := hh
        have hh := getA2_some h3586; clear h3586; obtain ⟨p3457, p3458, h3456, h3586⟩ := hh
        injection h3456 with h3456
        have hh := getI_some h3586; clear h3586; obtain ⟨x3460, h3459, h3586⟩ := hh
        have hh := grd_some h3586; clear h3586; obtain ⟨⟨g3461, g3462⟩, h3586⟩ := hh
        have hh := grd_some h3586; clear h3586; obtain ⟨g3463, h3586⟩ := hh
        have hh := getA2_some h3586; clear h3586; obtain ⟨p3465, p3466, h3464, h3586⟩ := hh
        injection h3464 with h3464
        have hh := getI_some h3586; clear h3586; obtain ⟨x3468, h3467, h3586⟩ := hh
        have hh := grd_some h3586; clear h3586; obtain ⟨⟨g3469, g3470⟩, h3586⟩ := hh
        have hh := grd_some h3586; clear h3586; obtain ⟨g3471, h3586⟩ := hh
        have hh := getA2_some h3586; clear h3586; obtain ⟨p3473, p3474, h3472, h3586⟩ := hh
        injection h3472 with h3472
        have hh := getI_some h3586; clear h3586; obtain ⟨x3476, h3475, h3586⟩ := hh
        have hh := getI_some h3586; clear h3586; obtain ⟨x3478, h3477, h3586⟩ := hh
        have hh := getI_some h3586; clear h3586; obtain ⟨x3480, h3479, h3586⟩ := hh
        have hh := getI_some h3586; clear h3586; obtain ⟨x3482, h3481, h3586⟩ := hh
        have hh := brn_some h3586; clear h3586; rcases hh with ⟨h3483, h3586⟩ | ⟨h3483, h3586⟩
        · have hh := bnd'_some h3586; clear h3586; obtain ⟨p3484, h3485, h3586⟩ := hh
          refine W_sound tab_ok mixed 54 _ _ _ ?_
          simp -implicitDefEqProofs only [go_sem, ne_eq, not_false_eq_true, Nat.reduceBEq, Nat.reduceAdd, Nat.reduceSub, Nat.reduceMul, Nat.reduceLT, Nat.reduceLeDiff, Int.reduceLE, Int.reduceLT, Int.reduceToNat, Int.reduceBEq, Int.reduceBNe, Int.le_refl, Nat.le_refl, decide_true, decide_false, Int.cast_ofNat_Int, ↓reduceIte, h3392, h3397, h3402, h3452, g3453, g3454, g3455, h3456, h3459, g3461, g3462, g3463, h3464, h3467, g3469, g3470, g3471, h3472, h3475, h3477, h3479, h3481, h3483]
          repeat with_reducible refine And.intro (by first | kernel_rfl | decide) ?_
          refine Wp_callP (c40 N _ _ _ h3485) (by kernel_rfl) rfl rfl rfl rfl (by decide) ?_
          have hh := getA2_some h3586; clear h3586; obtain ⟨p3487, p3488, h3486, h3586⟩ := hh
          have hh := grd_some h3586; clear h3586; obtain ⟨g3489, h3586⟩ := hh
          have hh := grd_some h3586; clear h3586; obtain ⟨g3490, h3586⟩ := hh
          refine W_sound tab_ok mixed 9 _ _ _ ?_
          simp -implicitDefEqProofs only [go_sem, ne_eq, not_false_eq_true, Nat.reduceBEq, Nat.reduceAdd, Nat.reduceSub, Nat.reduceMul, Nat.reduceLT, Nat.reduceLeDiff, Int.reduceLE, Int.reduceLT, Int.reduceToNat, Int.reduceBEq, Int.reduceBNe, Int.le_refl, Nat.le_refl, decide_true, decide_false, Int.cast_ofNat_Int, ↓reduceIte, h3392, h3397, h3402, h3452, g3453, g3454, g3455, h3456, h3459, g3461, g3462, g3463, h3464, h3467, g3469, g3470, g3471, h3472, h3475, h3477, h3479, h3481, h3483, h3486, g3489, g3490]
          repeat with_reducible refine And.intro (by first | kernel_rfl | decide) ?_
          exact cutQ _ ((Wk_le (.cons _ _ _ _ _ (.refl _) (.cons _ _ _ _ _ (.refl _) (.cons _ _ _ _ _ (.refl _) (.cons _ _ _ _ _ (.refl _) (.cons _ _ _ _ _ (.refl _) (.cons _ _ _ _ _ (.refl _) (.cons _ _ _ _ _ (.refl _) (.cons _ _ _ _ _ (.refl _) (.cons _ _ _ _ _ (.refl _) (.cons _ _ _ _ _ (.dead _) (.cons _ _ _ _ _ (.dead _) (.cons _ _ _ _ _ (.dead _) (.cons _ _ _ _ _ (.refl _) (.cons _ _ _ _ _ (.refl _) (.cons _ _ _ _ _ (.refl _) (.cons _ _ _ _ _ (.dead _) (.cons _ _ _ _ _ (.dead _) (.cons _ _ _ _ _ (.refl _) .nil)))))))))))))))))) (OLe.refl _)).trans (cmpS_ok (st' := ⟨[], [(0, .dead), (1, .dead), (2, .dead), (3, .v (.ipt [(.lst false n3393 c3394)])), (4, .ptr 0 0), (5, .ptr 1 0), (6, .ptr 2 0), (7, .dead), (8, .sl false 3 0 (n3449 + 1) 2), (10, .dead), (11, .dead), (12, .dead), (25, .sl true 4 0 3 2), (26, .v (.int .i64 3)), (27, .v (.int .i64 (IntKind.i64.wrap (x3450 + 1)))), (28, .dead), (45, .dead), (64, .dead)], [(0, .p [(.int .i64 x3388)]), (1, .p [(.int .i64 x3389)]), (2, .p [(.int .i64 x3390)]), (3, .p (c3451 ++ [p3487, p3488])), (4, .p [(.int .i64 x3388), (.int .i64 x3389), (.int .i64 x3388), (.int .i64 x3390), (.int .i64 x3389), (.int .i64 x3390)])], 5, []⟩) (by kernel_rfl))) ⟨n, Nat.lt_succ_self n, _, _, _, h3586, rfl⟩
        · have hh := brn_some h3586; clear h3586; rcases hh with ⟨h3491, h3586⟩ | ⟨h3491, h3586⟩
          · have hh := bnd'_some h3586; clear h3586; obtain ⟨p3492, h3493, h3586⟩ := hh
            refine W_sound tab_ok mixed 63 _ _ _ ?_
            simp -implicitDefEqProofs only [go_sem, ne_eq, not_false_eq_true, Nat.reduceBEq, Nat.reduceAdd, Nat.reduceSub, Nat.reduceMul, Nat.reduceLT, Nat.reduceLeDiff, Int.reduceLE, Int.reduceLT, Int.reduceToNat, Int.reduceBEq, Int.reduceBNe, Int.le_refl, Nat.le_refl, decide_true, decide_false, Int.cast_ofNat_Int, ↓reduceIte, h3392, h3397, h3402, h3452, g3453, g3454, g3455, h3456, h3459, g3461, g3462, g3463, h3464, h3467, g3469, g3470, g3471, h3472, h3475, h3477, h3479, h3481, h3483, h3491]
            repeat with_reducible refine And.intro (by first | kernel_rfl | decide) ?_
            refine Wp_callP (c40 N _ _ _ h3493) (by kernel_rfl) rfl rfl rfl rfl (by decide) ?_
            have hh := getA2_some h3586; clear h3586; obtain ⟨p3495, p3496, h3494, h3586⟩ := hh
            have hh := grd_some h3586; clear h3586; obtain ⟨g3497, h3586⟩ := hh
            have hh := grd_some h3586; clear h3586; obtain ⟨g3498, h3586⟩ := hh
            refine W_sound tab_ok mixed 9 _ _ _ ?_
            simp -implicitDefEqProofs only [go_sem, ne_eq, not_false_eq_true, Nat.reduceBEq, Nat.reduceAdd, Nat.reduceSub, Nat.reduceMul, Nat.reduceLT, Nat.reduceLeDiff, Int.reduceLE, Int.reduceLT, Int.reduceToNat, Int.reduceBEq, Int.reduceBNe, Int.le_refl, Nat.le_refl, decide_true, decide_false, Int.cast_ofNat_Int, ↓reduceIte, h3392, h3397, h3402, h3452, g3453, g3454, g3455, h3456, h3459, g3461, g3462, g3463, h3464, h3467, g3469, g3470, g3471, h3472, h3475, h3477, h3479, h3481, h3483, h3491, h3494, g3497, g3498]
            repeat with_reducible refine And.intro (by first | kernel_rfl | decide) ?_
            exact cutQ _ ((Wk_le (.cons _ _ _ _ _ (.refl _) (.cons _ _ _ _ _ (.refl _) (.cons _ _ _ _ _ (.refl _) (.cons _ _ _ _ _ (.refl _) (.cons _ _ _ _ _ (.refl _) (.cons _ _ _ _ _ (.refl _) (.cons _ _ _ _ _ (.refl _) (.cons _ _ _ _ _ (.refl _) (.cons _ _ _ _ _ (.refl _) (.cons _ _ _ _ _ (.dead _) (.cons _ _ _ _ _ (.dead _) (.cons _ _ _ _ _ (.dead _) (.cons _ _ _ _ _ (.refl _) (.cons _ _ _ _ _ (.refl _) (.cons _ _ _ _ _ (.refl _) (.cons _ _ _ _ _ (.dead _) (.cons _ _ _ _ _ (.dead _) (.cons _ _ _ _ _ (.dead _) .nil)))))))))))))))))) (OLe.refl _)).trans (cmpS_ok (st' := ⟨[], [(0, .dead), (1, .dead), (2, .dead), (3, .v (.ipt [(.lst false n3393 c3394)])), (4, .ptr 0 0), (5, .ptr 1 0), (6, .ptr 2 0), (7, .dead), (8, .sl false 3 0 (n3449 + 1) 2), (10, .dead), (11, .dead), (12, .dead), (25, .sl true 4 0 3 2), (26, .v (.int .i64 3)), (27, .v (.int .i64 (IntKind.i64.wrap (x3450 + 1)))), (28, .dead), (45, .dead), (64, .dead)], [(0, .p [(.int .i64 x3388)]), (1, .p [(.int .i64 x3389)]), (2, .p [(.int .i64 x3390)]), (3, .p (c3451 ++ [p3495, p3496])), (4, .p [(.int .i64 x3388), (.int .i64 x3389), (.int .i64 x3388), (.int .i64 x3390), (.int .i64 x3389), (.int .i64 x3390)])], 5, []⟩) (by kernel_rfl))) ⟨n, Nat.lt_succ_self n, _, _, _, h3586, rfl⟩
          · refine W_sound tab_ok mixed 57 _ _ _ ?_
            simp -implicitDefEqProofs only [go_sem, ne_eq, not_false_eq_true, Nat.reduceBEq, Nat.reduceAdd, Nat.reduceSub, Nat.reduceMul, Nat.reduceLT, Nat.reduceLeDiff, Int.reduceLE, Int.reduceLT, Int.reduceToNat, Int.reduceBEq, Int.reduceBNe, Int.le_refl, Nat.le_refl, decide_true, decide_false, Int.cast_ofNat_Int, ↓reduceIte, h3392, h3397, h3402, h3452, g3453, g3454, g3455, h3456, h3459, g3461, g3462, g3463, h3464, h3467, g3469, g3470, g3471, h3472, h3475, h3477, h3479, h3481, h3483, h3491]
            repeat with_reducible refine And.intro (by first | kernel_rfl | decide) ?_
            exact cutQ _ ((Wk_le (.cons _ _ _ _ _ (.refl _) (.cons _ _ _ _ _ (.refl _) (.cons _ _ _ _ _ (.refl _) (.cons _ _ _ _ _ (.refl _) (.cons _ _ _ _ _ (.refl _) (.cons _ _ _ _ _ (.refl _) (.cons _ _ _ _ _ (.refl _) (.cons _ _ _ _ _ (.refl _) (.cons _ _ _ _ _ (.refl _) (.cons _ _ _ _ _ (.dead _) (.cons _ _ _ _ _ (.dead _) (.cons _ _ _ _ _ (.dead _) (.cons _ _ _ _ _ (.refl _) (.cons _ _ _ _ _ (.refl _) (.cons _ _ _ _ _ (.refl _) (.cons _ _ _ _ _ (.dead _) (.cons _ _ _ _ _ (.dead _) (.cons _ _ _ _ _ (.dead _) .nil)))))))))))))))))) (OLe.refl _)).trans (cmpS_ok (st' := ⟨[], [(0, .dead), (1, .dead), (2, .dead), (3, .v (.ipt [(.lst false n3393 c3394)])), (4, .ptr 0 0), (5, .ptr 1 0), (6, .ptr 2 0), (7, .dead), (8, .sl false 3 0 n3449 2), (10, .dead), (11, .dead), (12, .dead), (25, .sl true 4 0 3 2), (26, .v (.int .i64 3)), (27, .v (.int .i64 (IntKind.i64.wrap (x3450 + 1)))), (28, .dead), (45, .dead), (64, .dead)], [(0, .p [(.int .i64 x3388)]), (1, .p [(.int .i64 x3389)]), (2, .p [(.int .i64 x3390)]), (3, .p c3451), (4, .p [(.int .i64 x3388), (.int .i64 x3389), (.int .i64 x3388), (.int .i64 x3390), (.int .i64 x3389), (.int .i64 x3390)])], 5, []⟩) (by kernel_rfl))) ⟨n, Nat.lt_succ_self n, _, _, _, h3586, rfl⟩
      · refine W_sound tab_ok mixed 7 _ _ _ ?_
        simp -implicitDefEqProofs only [go_sem, ne_eq, not_false_eq_true, Nat.reduceBEq, Nat.reduceAdd, Nat.reduceSub, Nat.reduceMul, Nat.reduceLT, Nat.reduceLeDiff, Int.reduceLE, Int.reduceLT, Int.reduceToNat, Int.reduceBEq, Int.reduceBNe, Int.le_refl, Nat.le_refl, decide_true, decide_false, Int.cast_ofNat_Int, ↓reduceIte, h3392, h3397, h3402, h3452]
        repeat with_reducible refine And.intro (by first | kernel_rfl | decide) ?_
        obtain rfl := Option.some.inj h3586
        exact cutQ _ ((Wk_le (.cons _ _ _ _ _ (.refl _) (.cons _ _ _ _ _ (.refl _) (.cons _ _ _ _ _ (.refl _) (.cons _ _ _ _ _ (.refl _) (.cons _ _ _ _ _ (.refl _) (.cons _ _ _ _ _ (.refl _) (.cons _ _ _ _ _ (.refl _) (.cons _ _ _ _ _ (.refl _) (.cons _ _ _ _ _ (.refl _) (.cons _ _ _ _ _ (.refl _) (.cons _ _ _ _ _ (.refl _) (.cons _ _ _ _ _ (.refl _) (.cons _ _ _ _ _ (.dead _) (.cons _ _ _ _ _ (.dead _) (.cons _ _ _ _ _ (.dead _) (.cons _ _ _ _ _ (.dead _) (.cons _ _ _ _ _ (.refl _) (.cons _ _ _ _ _ (.refl _) .nil)))))))))))))))))) (OLe.refl _)).trans (cmpS_ok (st' := ⟨[], [(0, .dead), (1, .dead), (2, .dead), (3, .v (.ipt [(.lst false n3393 c3394)])), (4, .ptr 0 0), (5, .ptr 1 0), (6, .ptr 2 0), (7, .dead), (8, .sl false 3 0 n3449 2), (10, .dead), (11, .dead), (12, .dead), (25, .dead), (26, .dead), (27, .dead), (28, .dead), (45, .dead), (64, .dead)], [(0, .p [(.int .i64 x3388)]), (1, .p [(.int .i64 x3389)]), (2, .p [(.int .i64 x3390)]), (3, .p c3451)], 4, []⟩) (by kernel_rfl))) ⟨_, _, rfl, rfl⟩
  · rintro _ ⟨n3499, c3500, rfl, rfl⟩
    (try dsimp only at h3587)
    refine W_sound tab_ok mixed 1 _ _ _ ?_
    simp -implicitDefEqProofs only [go_sem, ne_eq, not_false_eq_true, Nat.reduceBEq, Nat.reduceAdd, Nat.reduceSub, Nat.reduceMul, Nat.reduceLT, Nat.reduceLeDiff, Int.reduceLE, Int.reduceLT, Int.reduceToNat, Int.reduceBEq, Int.reduceBNe, Int.le_refl, Nat.le_refl, decide_true, decide_false, Int.cast_ofNat_Int, ↓reduceIte, h3392, h3397, h3402]
    repeat with_reducible refine And.intro (by first | kernel_rfl | decide) ?_
    have hh := grd_some h3587; clear h3587; obtain ⟨g3501, h3587⟩ := hh
    refine Wp_wkK (Wk_freeze 3 c3500 (by rfl) (by decide) (by decide)) rfl ?_
    simp -implicitDefEqProofs only [go_sem, ne_eq, not_false_eq_true, Nat.reduceBEq, Nat.reduceAdd, Nat.reduceSub, Nat.reduceMul, Nat.reduceLT, Nat.reduceLeDiff, Int.reduceLE, Int.reduceLT, Int.reduceToNat, Int.reduceBEq, Int.reduceBNe, Int.le_refl, Nat.le_refl, decide_true, decide_false, Int.cast_ofNat_Int, ↓reduceIte, h3392, h3397, h3402, g3501]
    refine Wp_wkK (Wk_freeze 1 [(.int .i64 x3389)] (by rfl) (by decide) (by decide)) rfl ?_
    simp -implicitDefEqProofs only [go_sem, ne_eq, not_false_eq_true, Nat.reduceBEq, Nat.reduceAdd, Nat.reduceSub, Nat.reduceMul, Nat.reduceLT, Nat.reduceLeDiff, Int.reduceLE, Int.reduceLT, Int.reduceToNat, Int.reduceBEq, Int.reduceBNe, Int.le_refl, Nat.le_refl, decide_true, decide_false, Int.cast_ofNat_Int, ↓reduceIte, h3392, h3397, h3402, g3501]
    refine Wp_wkK (Wk_freeze 2 [(.int .i64 x3390)] (by rfl) (by decide) (by decide)) rfl ?_
    simp -implicitDefEqProofs only [go_sem, ne_eq, not_false_eq_true, Nat.reduceBEq, Nat.reduceAdd, Nat.reduceSub, Nat.reduceMul, Nat.reduceLT, Nat.reduceLeDiff, Int.reduceLE, Int.reduceLT, Int.reduceToNat, Int.reduceBEq, Int.reduceBNe, Int.le_refl, Nat.le_refl, decide_true, decide_false, Int.cast_ofNat_Int, ↓reduceIte, h3392, h3397, h3402, g3501]
    refine Wp_wkK (Wk_freeze 0 [(.int .i64 x3388)] (by rfl) (by decide) (by decide)) rfl ?_
    simp -implicitDefEqProofs only [go_sem, ne_eq, not_false_eq_true, Nat.reduceBEq, Nat.reduceAdd, Nat.reduceSub, Nat.reduceMul, Nat.reduceLT, Nat.reduceLeDiff, Int.reduceLE, Int.reduceLT, Int.reduceToNat, Int.reduceBEq, Int.reduceBNe, Int.le_refl, Nat.le_refl, decide_true, decide_false, Int.cast_ofNat_Int, ↓reduceIte, h3392, h3397, h3402, g3501]
    have hh := bnd'_some h3587; clear h3587; obtain ⟨p3580, h3581, h3587⟩ := hh
    refine W_sound tab_ok mixed 3 _ _ _ ?_
    simp -implicitDefEqProofs only [go_sem, ne_eq, not_false_eq_true, Nat.reduceBEq, Nat.reduceAdd, Nat.reduceSub, Nat.reduceMul, Nat.reduceLT, Nat.reduceLeDiff, Int.reduceLE, Int.reduceLT, Int.reduceToNat, Int.reduceBEq, Int.reduceBNe, Int.le_refl, Nat.le_refl, decide_true, decide_false, Int.cast_ofNat_Int, ↓reduceIte, h3392, h3397, h3402, g3501]
    repeat with_reducible refine And.intro (by first | kernel_rfl | decide) ?_
    refine Wp_callP (c52 N _ _ _ _ _ _ h3581) (by kernel_rfl) rfl rfl rfl rfl (by decide) ?_
    have hh := getB_some h3587; clear h3587; obtain ⟨b3583, h3582, h3587⟩ := hh
    have hh := brn_some h3587; clear h3587; rcases hh with ⟨h3584, h3587⟩ | ⟨h3584, h3587⟩
    · refine W_sound tab_ok mixed 5 _ _ _ ?_
      simp -implicitDefEqProofs only [go_sem, ne_eq, not_false_eq_true, Nat.reduceBEq, Nat.reduceAdd, Nat.reduceSub, Nat.reduceMul, Nat.reduceLT, Nat.reduceLeDiff, Int.reduceLE, Int.reduceLT, Int.reduceToNat, Int.reduceBEq, Int.reduceBNe, Int.le_refl, Nat.le_refl, decide_true, decide_false, Int.cast_ofNat_Int, ↓reduceIte, h3392, h3397, h3402, g3501, h3582, h3584]
      repeat with_reducible refine And.intro (by first | kernel_rfl | decide) ?_
      obtain rfl := Option.some.inj h3587
      exact finC [(7, .v (.bool false))] [(7, .v (.bool false))] (by simp [leE, lk_cons]) (.cons _ _ _ _ _ (.v _ _ (.refl _)) .nil) (by rfl) (by simp [leE, lk_cons]) (by decide) (by decide) rfl (by simp only [go_sem, ne_eq, not_false_eq_true, Nat.reduceBEq, Nat.reduceAdd, Nat.reduceSub, Nat.reduceMul, Nat.reduceLT, Nat.reduceLeDiff, Int.reduceLE, Int.reduceLT, Int.reduceToNat, Int.reduceBEq, Int.reduceBNe, Int.le_refl, Nat.le_refl, decide_true, decide_false, Int.cast_ofNat_Int, ↓reduceIte, resQ_tmp, resQ_cell, resQ_nil, retD_one, retD_two, retD_three, retD_none]; try simp [R.val, retD_one, retD_two, retD_three, retD_none])
    · refine W_sound tab_ok mixed 5 _ _ _ ?_
      simp -implicitDefEqProofs only [go_sem, ne_eq, not_false_eq_true, Nat.reduceBEq, Nat.reduceAdd, Nat.reduceSub, Nat.reduceMul, Nat.reduceLT, Nat.reduceLeDiff, Int.reduceLE, Int.reduceLT, Int.reduceToNat, Int.reduceBEq, Int.reduceBNe, Int.le_refl, Nat.le_refl, decide_true, decide_false, Int.cast_ofNat_Int, ↓reduceIte, h3392, h3397, h3402, g3501, h3582, h3584]
      repeat with_reducible refine And.intro (by first | kernel_rfl | decide) ?_
      obtain rfl := Option.some.inj h3587
      exact finC [(7, .v (.bool true))] [(7, .v (.bool true))] (by simp [leE, lk_cons]) (.cons _ _ _ _ _ (.v _ _ (.refl _)) .nil) (by rfl) (by simp [leE, lk_cons]) (by decide) (by decide) rfl (by simp only [go_sem, ne_eq, not_false_eq_true, Nat.reduceBEq, Nat.reduceAdd, Nat.reduceSub, Nat.reduceMul, Nat.reduceLT, Nat.reduceLeDiff, Int.reduceLE, Int.reduceLT, Int.reduceToNat, Int.reduceBEq, Int.reduceBNe, Int.le_refl, Nat.le_refl, decide_true, decide_false, Int.cast_ofNat_Int, ↓reduceIte, resQ_tmp, resQ_cell, resQ_nil, retD_one, retD_two, retD_three, retD_none]; try simp [R.val, retD_one, retD_two, retD_three, retD_none])

def m74_L0 (N : Nat) (x3787 : Int) (n3789 : Nat) (c3790 : List PV) : Nat → Int → Option ((PV ⊕ Unit))
  | 0, _ => none
  | n + 1, x3791 =>
    brn (decide (x3791 < ((n3789 : Nat) : Int))) (
      grd (0 ≤ x3791 ∧ x3791 < ((n3789 : Nat) : Int)) <|
      grd (0 < List.length (List.drop (Int.toNat x3791) c3790)) <|
      getI .i64 (gp c3790 (Int.toNat x3791)) fun x3797 =>
      brn (x3787 == x3797) (
        some (.inl (.int .i64 x3791))) (
        m74_L0 N x3787 n3789 c3790 n (IntKind.i64.wrap (x3791 + 1)))) (
      some (.inr ()))
def m74 (N : Nat) (p3786 : PV) (x3787 : Int) : Option (PV) :=
  getL p3786 fun n3789 c3790 =>
  bnd' (m74_L0 N x3787 n3789 c3790 N 0) fun o =>
  match o with
  | .inl p3799 =>
    some p3799
  | .inr () =>
    some (.int .i64 (-1))
theorem c74 (N : Nat) (p3786 : PV) (x3787 : Int) (r : PV)  (h : m74 N p3786 x3787 = some r) : FnP Try.prog 74 [p3786, (.int .i64 x3787)] r := by
  unfold m74 at h
  refine Fn_of (sz := 19) tab_ok [0, 1, 4, 5, 7, 8, 9, 16] [.tmp 4] Try.func74 rfl rfl rfl (by simp) ?_
  simp only [initSt, initEnv, List.map_cons, List.map_nil, List.getD_cons_zero, List.getD_cons_succ, List.getD_nil]
  have hh := getL_some h; clear h; obtain ⟨n3789, c3790, h3788, h⟩ := hh
  refine W_sound tab_ok mixed 11 _ _ _ ?_
  simp -implicitDefEqProofs only [go_sem, ne_eq, not_false_eq_true, Nat.reduceBEq, Nat.reduceAdd, Nat.reduceSub, Nat.reduceMul, Nat.reduceLT, Nat.reduceLeDiff, Int.reduceLE, Int.reduceLT, Int.reduceToNat, Int.reduceBEq, Int.reduceBNe, Int.le_refl, Nat.le_refl, decide_true, decide_false, Int.cast_ofNat_Int, ↓reduceIte, h3788]
  repeat with_reducible refine And.intro (by first | kernel_rfl | decide) ?_
  have hh := bnd'_some h; clear h; obtain ⟨o3800, h3801, h3802⟩ := hh
  refine Wp_cut (fun s => (.inr ()) = o3800 ∧ s = ⟨[], [(0, .dead), (1, .dead), (4, .dead), (5, .dead), (7, .dead), (8, .dead), (9, .dead), (16, .dead)], [], 0, []⟩) ?_ ?_
  · refine Wp_block ?_
    refine Wp_loopG (fun n s => ∃ x3791, m74_L0 N x3787 n3789 c3790 n x3791 = some o3800 ∧ s = ⟨[], [(0, .v (.lst false n3789 c3790)), (1, .v (.int .i64 x3787)), (4, .dead), (5, .dead), (7, .v (.int .i64 ((n3789 : Nat) : Int))), (8, .v (.int .i64 x3791)), (9, .dead), (16, .dead)], [], 0, []⟩) N _ ((Wk_le (.cons _ _ _ _ _ (.refl _) (.cons _ _ _ _ _ (.refl _) (.cons _ _ _ _ _ (.dead _) (.cons _ _ _ _ _ (.refl _) (.cons _ _ _ _ _ (.refl _) (.cons _ _ _ _ _ (.refl _) (.cons _ _ _ _ _ (.refl _) (.cons _ _ _ _ _ (.refl _) .nil)))))))) (OLe.refl _)).trans (cmpS_ok rfl)) ⟨_, h3801, rfl⟩ ?_
    clear h3801
    rintro n _ ⟨x3791, h3801, rfl⟩
    cases n with
    | zero => cases h3801
    | succ n =>
      rw [m74_L0] at h3801
      have hh := brn_some h3801; clear h3801; rcases hh with ⟨h3792, h3801⟩ | ⟨h3792, h3801⟩
      · have hh := grd_some h3801; clear h3801; obtain ⟨⟨g3793, g3794⟩, h3801⟩ := hh
        have hh := grd_some h3801; clear h3801; obtain ⟨g3795, h3801⟩ := hh
        have hh := getI_some h3801; clear h3801; obtain ⟨x3797, h3796, h3801⟩ := hh
        have hh := brn_some h3801; clear h3801; rcases hh with ⟨h3798, h3801⟩ | ⟨h3798, h3801⟩
        · refine W_sound tab_ok mixed 31 _ _ _ ?_
          simp -implicitDefEqProofs only [go_sem, ne_eq, not_false_eq_true, Nat.reduceBEq, Nat.reduceAdd, Nat.reduceSub, Nat.reduceMul, Nat.reduceLT, Nat.reduceLeDiff, Int.reduceLE, Int.reduceLT, Int.reduceToNat, Int.reduceBEq, Int.reduceBNe, Int.le_refl, Nat.le_refl, decide_true, decide_false, Int.cast_ofNat_Int, ↓reduceIte, h3788, h3792, g3793, g3794, g3795, h3796, h3798]
          repeat with_reducible refine And.intro (by first | kernel_rfl | decide) ?_
          obtain rfl := Option.some.inj h3801
          (try dsimp only at h3802)
          obtain rfl := Option.some.inj h3802
          exact finC [(4, .v (.int .i64 x3791))] [(4, .v (.int .i64 x3791))] (by simp [leE, lk_cons]) (.cons _ _ _ _ _ (.v _ _ (.refl _)) .nil) (by rfl) (by simp [leE, lk_cons]) (by decide) (by decide) rfl (by simp only [go_sem, ne_eq, not_false_eq_true, Nat.reduceBEq, Nat.reduceAdd, Nat.reduceSub, Nat.reduceMul, Nat.reduceLT, Nat.reduceLeDiff, Int.reduceLE, Int.reduceLT, Int.reduceToNat, Int.reduceBEq, Int.reduceBNe, Int.le_refl, Nat.le_refl, decide_true, decide_false, Int.cast_ofNat_Int, ↓reduceIte, resQ_tmp, resQ_cell, resQ_nil, retD_one, retD_two, retD_three, retD_none]; try simp [R.val, retD_one, retD_two, retD_three, retD_none])
        · refine W_sound tab_ok mixed 30 _ _ _ ?_
          simp -implicitDefEqProofs only [go_sem, ne_eq, not_false_eq_true, Nat.reduceBEq, Nat.reduceAdd, Nat.reduceSub, Nat.reduceMul, Nat.reduceLT, Nat.reduceLeDiff, Int.reduceLE, Int.reduceLT, Int.reduceToNat, Int.reduceBEq, Int.reduceBNe, Int.le_refl, Nat.le_refl, decide_true, decide_false, Int.cast_ofNat_Int, ↓reduceIte, h3788, h3792, g3793, g3794, g3795, h3796, h3798]
          repeat with_reducible refine And.intro (by first | kernel_rfl | decide) ?_
          exact cutQ _ ((Wk_le (.cons _ _ _ _ _ (.refl _) (.cons _ _ _ _ _ (.refl _) (.cons _ _ _ _ _ (.refl _) (.cons _ _ _ _ _ (.dead _) (.cons _ _ _ _ _ (.refl _) (.cons _ _ _ _ _ (.refl _) (.cons _ _ _ _ _ (.dead _) (.cons _ _ _ _ _ (.dead _) .nil)))))))) (OLe.refl _)).trans (cmpS_ok rfl)) ⟨n, Nat.lt_succ_self n, _, h3801, rfl⟩
      · refine W_sound tab_ok mixed 7 _ _ _ ?_
        simp -implicitDefEqProofs only [go_sem, ne_eq, not_false_eq_true, Nat.reduceBEq, Nat.reduceAdd, Nat.reduceSub, Nat.reduceMul, Nat.reduceLT, Nat.reduceLeDiff, Int.reduceLE, Int.reduceLT, Int.reduceToNat, Int.reduceBEq, Int.reduceBNe, Int.le_refl, Nat.le_refl, decide_true, decide_false, Int.cast_ofNat_Int, ↓reduceIte, h3788, h3792]
        repeat with_reducible refine And.intro (by first | kernel_rfl | decide) ?_
        obtain rfl := Option.some.inj h3801
        exact cutQ _ ((Wk_le (.cons _ _ _ _ _ (.dead _) (.cons _ _ _ _ _ (.dead _) (.cons _ _ _ _ _ (.refl _) (.cons _ _ _ _ _ (.refl _) (.cons _ _ _ _ _ (.dead _) (.cons _ _ _ _ _ (.dead _) (.cons _ _ _ _ _ (.dead _) (.cons _ _ _ _ _ (.refl _) .nil)))))))) (OLe.refl _)).trans (cmpS_ok rfl)) ⟨rfl, rfl⟩
  · rintro _ ⟨rfl, rfl⟩
    (try dsimp only at h3802)
    refine W_sound tab_ok mixed 6 _ _ _ ?_
    simp -implicitDefEqProofs only [go_sem, ne_eq, not_false_eq_true, Nat.reduceBEq, Nat.reduceAdd, Nat.reduceSub, Nat.reduceMul, Nat.reduceLT, Nat.reduceLeDiff, Int.reduceLE, Int.reduceLT, Int.reduceToNat, Int.reduceBEq, Int.reduceBNe, Int.le_refl, Nat.le_refl, decide_true, decide_false, Int.cast_ofNat_Int, ↓reduceIte, h3788]
    repeat with_reducible refine And.intro (by first | kernel_rfl | decide) ?_
    obtain rfl := Option.some.inj h3802
    exact finC [(4, .v (.int .i64 (-1)))] [(4, .v (.int .i64 (-1)))] (by simp [leE, lk_cons]) (.cons _ _ _ _ _ (.v _ _ (.refl _)) .nil) (by rfl) (by simp [leE, lk_cons]) (by decide) (by decide) rfl (by simp only [go_sem, ne_eq, not_false_eq_true, Nat.reduceBEq, Nat.reduceAdd, Nat.reduceSub, Nat.reduceMul, Nat.reduceLT, Nat.reduceLeDiff, Int.reduceLE, Int.reduceLT, Int.reduceToNat, Int.reduceBEq, Int.reduceBNe, Int.le_refl, Nat.le_refl, decide_true, decide_false, Int.cast_ofNat_Int, ↓reduceIte, resQ_tmp, resQ_cell, resQ_nil, retD_one, retD_two, retD_three, retD_none]; try simp [R.val, retD_one, retD_two, retD_three, retD_none])

def m50 (N : Nat) (p3781 : PV) (x3782 : Int) : Option (PV) :=
  getL p3781 fun n3784 c3785 =>
  bnd' (m74 N (.lst false n3784 c3785) x3782) fun p3803 =>
  getI .i64 p3803 fun x3806 =>
  some (.bool (decide (x3806 ≥ 0)))
theorem c50 (N : Nat) (p3781 : PV) (x3782 : Int) (r : PV)  (h : m50 N p3781 x3782 = some r) : FnP Try.prog 50 [p3781, (.int .i64 x3782)] r := by
  unfold m50 at h
  refine Fn_of (sz := 9) tab_ok [0, 1, 4] [.tmp 4] Try.func50 rfl rfl rfl (by simp) ?_
  simp only [initSt, initEnv, List.map_cons, List.map_nil, List.getD_cons_zero, List.getD_cons_succ, List.getD_nil]
  have hh := getL_some h; clear h; obtain ⟨n3784, c3785, h3783, h⟩ := hh
  have hh := bnd'_some h; clear h; obtain ⟨p3803, h3804, h⟩ := hh
  refine W_sound tab_ok mixed 8 _ _ _ ?_
  simp -implicitDefEqProofs only [go_sem, ne_eq, not_false_eq_true, Nat.reduceBEq, Nat.reduceAdd, Nat.reduceSub, Nat.reduceMul, Nat.reduceLT, Nat.reduceLeDiff, Int.reduceLE, Int.reduceLT, Int.reduceToNat, Int.reduceBEq, Int.reduceBNe, Int.le_refl, Nat.le_refl, decide_true, decide_false, Int.cast_ofNat_Int, ↓reduceIte, h3783]
  repeat with_reducible refine And.intro (by first | kernel_rfl | decide) ?_
  refine Wp_callP (c74 N _ _ _ h3804) (by kernel_rfl) rfl rfl rfl rfl (by decide) ?_
  have hh := getI_some h; clear h; obtain ⟨x3806, h3805, h⟩ := hh
  refine W_sound tab_ok mixed 5 _ _ _ ?_
  simp -implicitDefEqProofs only [go_sem, ne_eq, not_false_eq_true, Nat.reduceBEq, Nat.reduceAdd, Nat.reduceSub, Nat.reduceMul, Nat.reduceLT, Nat.reduceLeDiff, Int.reduceLE, Int.reduceLT, Int.reduceToNat, Int.reduceBEq, Int.reduceBNe, Int.le_refl, Nat.le_refl, decide_true, decide_false, Int.cast_ofNat_Int, ↓reduceIte, h3783, h3805]
  repeat with_reducible refine And.intro (by first | kernel_rfl | decide) ?_
  obtain rfl := Option.some.inj h
  exact finC [(4, .v (.bool (decide (x3806 ≥ 0))))] [(4, .v (.bool (decide (x3806 ≥ 0))))] (by simp [leE, lk_cons]) (.cons _ _ _ _ _ (.v _ _ (.refl _)) .nil) (by rfl) (by simp [leE, lk_cons]) (by decide) (by decide) rfl (by simp only [go_sem, ne_eq, not_false_eq_true, Nat.reduceBEq, Nat.reduceAdd, Nat.reduceSub, Nat.reduceMul, Nat.reduceLT, Nat.reduceLeDiff, Int.reduceLE, Int.reduceLT, Int.reduceToNat, Int.reduceBEq, Int.reduceBNe, Int.le_refl, Nat.le_refl, decide_true, decide_false, Int.cast_ofNat_Int, ↓reduceIte, resQ_tmp, resQ_cell, resQ_nil, retD_one, retD_two, retD_three, retD_none]; try simp [R.val, retD_one, retD_two, retD_three, retD_none])

def m13_L2 (N : Nat) (n3337 : Nat) (c3338 : List PV) (n3345 : Nat) (c3346 : List PV) (x3828 : Int) (x3837 : Int) (x3839 : Int) (x3841 : Int) (x3844 : Int) : Nat → Int → Int → Int → Option ((PV ⊕ (Int × Int)))
  | 0, _, _, _ => none
  | n + 1, x3846, x3847, x3848 =>
    brn (decide (x3848 < ((n3337 : Nat) : Int))) (
      brn (x3844 == x3828) (
        grd (2 ≠ 0) <|
        brn ((Int.tmod (IntKind.i64.wrap ((IntKind.i64.wrap (x3844 + x3848)) + x3828)) 2) == 0) (
          bnd' (m30 N (.lst false n3337 c3338) x3828 x3844 x3848) fun p3853 =>
          getI .i64 p3853 fun x3856 =>
          brn (x3856 != 6) (
            some (.inl (.bool false))) (
            m13_L2 N n3337 c3338 n3345 c3346 x3828 x3837 x3839 x3841 x3844 n x3846 x3847 (IntKind.i64.wrap (x3848 + 1)))) (
          m13_L2 N n3337 c3338 n3345 c3346 x3828 x3837 x3839 x3841 x3844 n x3846 x3847 (IntKind.i64.wrap (x3848 + 1)))) (
        brn (x3848 == x3828) (
          grd (2 ≠ 0) <|
          brn ((Int.tmod (IntKind.i64.wrap ((IntKind.i64.wrap (x3844 + x3848)) + x3828)) 2) == 0) (
            bnd' (m30 N (.lst false n3337 c3338) x3828 x3844 x3848) fun p3861 =>
            getI .i64 p3861 fun x3864 =>
            brn (x3864 != 6) (
              some (.inl (.bool false))) (
              m13_L2 N n3337 c3338 n3345 c3346 x3828 x3837 x3839 x3841 x3844 n x3846 x3847 (IntKind.i64.wrap (x3848 + 1)))) (
            m13_L2 N n3337 c3338 n3345 c3346 x3828 x3837 x3839 x3841 x3844 n x3846 x3847 (IntKind.i64.wrap (x3848 + 1)))) (
          bnd' (m51 N x3828 x3844 x3848 (.lst false n3337 c3338)) fun p3866 =>
          getB p3866 fun b3869 =>
          brn b3869 (
            brn (decide (x3846 < 0)) (
              brn (decide (x3844 ≤ x3848)) (
                grd (2 ≠ 0) <|
                brn ((Int.tmod (IntKind.i64.wrap ((IntKind.i64.wrap (x3844 + x3848)) + x3828)) 2) == 0) (
                  bnd' (m30 N (.lst false n3337 c3338) x3828 x3844 x3848) fun p3875 =>
                  getI .i64 p3875 fun x3878 =>
                  brn (x3878 != 0) (
                    some (.inl (.bool false))) (
                    m13_L2 N n3337 c3338 n3345 c3346 x3828 x3837 x3839 x3841 x3844 n x3844 x3848 (IntKind.i64.wrap (x3848 + 1)))) (
                  m13_L2 N n3337 c3338 n3345 c3346 x3828 x3837 x3839 x3841 x3844 n x3844 x3848 (IntKind.i64.wrap (x3848 + 1)))) (
                grd (2 ≠ 0) <|
                brn ((Int.tmod (IntKind.i64.wrap ((IntKind.i64.wrap (x3844 + x3848)) + x3828)) 2) == 0) (
                  bnd' (m30 N (.lst false n3337 c3338) x3828 x3844 x3848) fun p3882 =>
                  getI .i64 p3882 fun x3885 =>
                  brn (x3885 != 0) (
                    some (.inl (.bool false))) (
                    m13_L2 N n3337 c3338 n3345 c3346 x3828 x3837 x3839 x3841 x3844 n x3846 x3847 (IntKind.i64.wrap (x3848 + 1)))) (
                  m13_L2 N n3337 c3338 n3345 c3346 x3828 x3837 x3839 x3841 x3844 n x3846 x3847 (IntKind.i64.wrap (x3848 + 1))))) (
              grd (2 ≠ 0) <|
              brn ((Int.tmod (IntKind.i64.wrap ((IntKind.i64.wrap (x3844 + x3848)) + x3828)) 2) == 0) (
                bnd' (m30 N (.lst false n3337 c3338) x3828 x3844 x3848) fun p3889 =>
                getI .i64 p3889 fun x3892 =>
                brn (x3892 != 0) (
                  some (.inl (.bool false))) (
                  m13_L2 N n3337 c3338 n3345 c3346 x3828 x3837 x3839 x3841 x3844 n x3846 x3847 (IntKind.i64.wrap (x3848 + 1)))) (
                m13_L2 N n3337 c3338 n3345 c3346 x3828 x3837 x3839 x3841 x3844 n x3846 x3847 (IntKind.i64.wrap (x3848 + 1))))) (
            grd (2 ≠ 0) <|
            brn ((Int.tmod (IntKind.i64.wrap ((IntKind.i64.wrap (x3844 + x3848)) + x3828)) 2) == 0) (
              bnd' (m30 N (.lst false n3337 c3338) x3828 x3844 x3848) fun p3896 =>
              getI .i64 p3896 fun x3899 =>
              brn (x3899 != 14) (
                some (.inl (.bool false))) (
                m13_L2 N n3337 c3338 n3345 c3346 x3828 x3837 x3839 x3841 x3844 n x3846 x3847 (IntKind.i64.wrap (x3848 + 1)))) (
              m13_L2 N n3337 c3338 n3345 c3346 x3828 x3837 x3839 x3841 x3844 n x3846 x3847 (IntKind.i64.wrap (x3848 + 1))))))) (
      some (.inr (x3846, x3847)))
def m13_L1 (N : Nat) (n3337 : Nat) (c3338 : List PV) (n3345 : Nat) (c3346 : List PV) (x3828 : Int) (x3837 : Int) (x3839 : Int) (x3841 : Int) : Nat → Int → Int → Int → Option ((PV ⊕ (Int × Int)))
  | 0, _, _, _ => none
  | n + 1, x3842, x3843, x3844 =>
    brn (decide (x3844 < ((n3337 : Nat) : Int))) (
      bnd' (m13_L2 N n3337 c3338 n3345 c3346 x3828 x3837 x3839 x3841 x3844 N x3842 x3843 0) fun o =>
      match o with
      | .inl p3901 =>
        some (.inl p3901)
      | .inr (x3902, x3903) =>
        m13_L1 N n3337 c3338 n3345 c3346 x3828 x3837 x3839 x3841 n x3902 x3903 (IntKind.i64.wrap (x3844 + 1))) (
      some (.inr (x3842, x3843)))
def m13_L3 (N : Nat) (n3337 : Nat) (c3338 : List PV) (n3345 : Nat) (c3346 : List PV) (x3828 : Int) (x3837 : Int) (x3839 : Int) (x3841 : Int) (x3905 : Int) (x3906 : Int) : Nat → Bool → Int → Option (Bool)
  | 0, _, _ => none
  | n + 1, b3907, x3908 =>
    brn (decide (x3908 < ((n3337 : Nat) : Int))) (
      grd (0 ≤ x3908 ∧ x3908 < ((n3337 : Nat) : Int)) <|
      grd (2 ≤ List.length (List.drop ((Int.toNat x3908) * 2) c3338)) <|
      getA2 (.agg (List.take 2 (List.drop ((Int.toNat x3908) * 2) c3338))) fun p3914 p3915 =>
      getI .i64 p3914 fun x3917 =>
      getI .i64 p3915 fun x3919 =>
      brn b3907 (
        m13_L3 N n3337 c3338 n3345 c3346 x3828 x3837 x3839 x3841 x3905 x3906 n true (IntKind.i64.wrap (x3908 + 1))) (
        brn (x3908 != x3828) (
          grd (0 ≤ x3828 ∧ x3828 < ((n3337 : Nat) : Int)) <|
          grd (2 ≤ List.length (List.drop ((Int.toNat x3828) * 2) c3338)) <|
          getA2 (.agg (List.take 2 (List.drop ((Int.toNat x3828) * 2) c3338))) fun p3926 p3927 =>
          getI .i64 p3927 fun x3929 =>
          getI .i64 p3926 fun x3931 =>
          m13_L3 N n3337 c3338 n3345 c3346 x3828 x3837 x3839 x3841 x3905 x3906 n ((x3917 == x3931) && (x3919 == x3929)) (IntKind.i64.wrap (x3908 + 1))) (
          m13_L3 N n3337 c3338 n3345 c3346 x3828 x3837 x3839 x3841 x3905 x3906 n false (IntKind.i64.wrap (x3908 + 1))))) (
      some b3907)
def m13_L0 (N : Nat) (n3337 : Nat) (c3338 : List PV) (n3345 : Nat) (c3346 : List PV) : Nat → Int → Option ((PV ⊕ Unit))
  | 0, _ => none
  | n + 1, x3828 =>
    brn (decide (x3828 < ((n3337 : Nat) : Int))) (
      bnd' (m28 N (.lst false n3337 c3338) x3828) fun p3830 =>
      getT3 p3830 fun p3833 p3834 p3835 =>
      getI .i64 p3833 fun x3837 =>
      getI .i64 p3834 fun x3839 =>
      getI .i64 p3835 fun x3841 =>
      bnd' (m13_L1 N n3337 c3338 n3345 c3346 x3828 x3837 x3839 x3841 N (-1) (-1) 0) fun o =>
      match o with
      | .inl p3904 =>
        some (.inl p3904)
      | .inr (x3905, x3906) =>
        bnd' (m13_L3 N n3337 c3338 n3345 c3346 x3828 x3837 x3839 x3841 x3905 x3906 N false 0) fun b3932 =>
        brn b3932 (
          brn ((decide (x3905 ≥ 0)) != true) (
            some (.inl (.bool false))) (
            brn (decide (x3905 < 0)) (
              brn (x3841 != 13) (
                some (.inl (.bool false))) (
                brn (x3837 != 0) (
                  some (.inl (.bool false))) (
                  brn (x3839 != 0) (
                    some (.inl (.bool false))) (
                    m13_L0 N n3337 c3338 n3345 c3346 n (IntKind.i64.wrap (x3828 + 1)))))) (
              brn (x3841 != 0) (
                some (.inl (.bool false))) (
                brn (x3837 != x3905) (
                  some (.inl (.bool false))) (
                  brn (x3839 != x3906) (
                    some (.inl (.bool false))) (
                    m13_L0 N n3337 c3338 n3345 c3346 n (IntKind.i64.wrap (x3828 + 1)))))))) (
          bnd' (m50 N (.lst false n3345 c3346) x3828) fun p3942 =>
          getB p3942 fun b3945 =>
          brn b3945 (
            brn ((decide (x3905 ≥ 0)) != false) (
              some (.inl (.bool false))) (
              brn (decide (x3905 < 0)) (
                brn (x3841 != 13) (
                  some (.inl (.bool false))) (
                  brn (x3837 != 0) (
                    some (.inl (.bool false))) (
                    brn (x3839 != 0) (
                      some (.inl (.bool false))) (
                      m13_L0 N n3337 c3338 n3345 c3346 n (IntKind.i64.wrap (x3828 + 1)))))) (
                brn (x3841 != 0) (
                  some (.inl (.bool false))) (
                  brn (x3837 != x3905) (
                    some (.inl (.bool false))) (
                    brn (x3839 != x3906) (
                      some (.inl (.bool false))) (
                      m13_L0 N n3337 c3338 n3345 c3346 n (IntKind.i64.wrap (x3828 + 1)))))))) (
            brn ((decide (x3905 ≥ 0)) != true) (
              some (.inl (.bool false))) (
              brn (decide (x3905 < 0)) (
                brn (x3841 != 13) (
                  some (.inl (.bool false))) (
                  brn (x3837 != 0) (
                    some (.inl (.bool false))) (
                    brn (x3839 != 0) (
                      some (.inl (.bool false))) (
                      m13_L0 N n3337 c3338 n3345 c3346 n (IntKind.i64.wrap (x3828 + 1)))))) (
                brn (x3841 != 0) (
                  some (.inl (.bool false))) (
                  brn (x3837 != x3905) (
                    some (.inl (.bool false))) (
                    brn (x3839 != x3906) (
                      some (.inl (.bool false))) (
                      m13_L0 N n3337 c3338 n3345 c3346 n (IntKind.i64.wrap (x3828 + 1)))))))))) (
      some (.inr ()))
def m13 (N : Nat) (p3330 : PV) : Option (PV) :=
  getA p3330 fun c3332 =>
  grd (17 ≤ List.length c3332) <|
  bnd' (m36 N (.agg (List.take 17 c3332)) 12 3) fun p3334 =>
  getL p3334 fun n3337 c3338 =>
  bnd' (m24 N (.lst false n3337 c3338)) fun p3339 =>
  getT2 p3339 fun p3342 p3343 =>
  getL p3342 fun n3345 c3346 =>
  getI .i64 p3343 fun x3348 =>
  brn (x3348 != 0) (
    some (.bool false)) (
    bnd' (m13_L0 N n3337 c3338 n3345 c3346 N 0) fun o =>
    match o with
    | .inl p3963 =>
      some p3963
    | .inr () =>
      bnd' (m15 N ) fun p3964 =>
      getB p3964 fun b3967 =>
      some (.bool b3967))
theorem c13 (N : Nat) (p3330 : PV) (r : PV)  (h : m13 N p3330 = some r) : FnP Try.prog 13 [p3330] r := by
  unfold m13 at h
  refine Fn_of (sz := 151) tab_ok [0, 1, 2, 3, 4, 5, 6, 7, 8, 9, 10, 11, 12, 13, 14, 15, 16, 17, 18, 27, 30, 31, 32, 42, 43, 44, 47, 48, 49, 51, 60, 72, 90, 93, 94, 95, 96, 124, 126, 136, 148] [.tmp 2] Try.func13 rfl rfl rfl (by simp) ?_
  simp only [initSt, initEnv, List.map_cons, List.map_nil, List.getD_cons_zero, List.getD_cons_succ, List.getD_nil]
  have hh := getA_some h; clear h; obtain ⟨c3332, h3331, h⟩ := hh
  have hh := grd_some h; clear h; obtain ⟨g3333, h⟩ := hh
  have hh := bnd'_some h; clear h; obtain ⟨p3334, h3335, h⟩ := hh
  refine W_sound tab_ok mixed 8 _ _ _ ?_
  simp -implicitDefEqProofs only [go_sem, ne_eq, not_false_eq_true, Nat.reduceBEq, Nat.reduceAdd, Nat.reduceSub, Nat.reduceMul, Nat.reduceLT, Nat.reduceLeDiff, Int.reduceLE, Int.reduceLT, Int.reduceToNat, Int.reduceBEq, Int.reduceBNe, Int.le_refl, Nat.le_refl, decide_true, decide_false, Int.cast_ofNat_Int, ↓reduceIte, h3331, g3333]
  repeat with_reducible refine And.intro (by first | kernel_rfl | decide) ?_
  refine Wp_callP (c36 N _ _ _ _ h3335) (by kernel_rfl) rfl rfl rfl rfl (by decide) ?_
  have hh := getL_some h; clear h; obtain ⟨n3337, c3338, h3336, h⟩ := hh
  have hh := bnd'_some h; clear h; obtain ⟨p3339, h3340, h⟩ := hh
  refine W_sound tab_ok mixed 6 _ _ _ ?_
  simp -implicitDefEqProofs only [go_sem, ne_eq, not_false_eq_true, Nat.reduceBEq, Nat.reduceAdd, Nat.reduceSub, Nat.reduceMul, Nat.reduceLT, Nat.reduceLeDiff, Int.reduceLE, Int.reduceLT, Int.reduceToNat, Int.reduceBEq, Int.reduceBNe, Int.le_refl, Nat.le_refl, decide_true, decide_false, Int.cast_ofNat_Int, ↓reduceIte, h3331, g3333, h3336]
  repeat with_reducible refine And.intro (by first | kernel_rfl | decide) ?_
  refine Wp_callP (c24 N _ _ h3340) (by kernel_rfl) rfl rfl rfl rfl (by decide) ?_
  have hh := getT2_some h; clear h; obtain ⟨p3342, p3343, h3341, h⟩ := hh
  have hh := getL_some h; clear h; obtain ⟨n3345, c3346, h3344, h⟩ := hh
  have hh := getI_some h; clear h; obtain ⟨x3348, h3347, h⟩ := hh
  have hh := brn_some h; clear h; rcases hh with ⟨h3349, h⟩ | ⟨h3349, h⟩
  · refine W_sound tab_ok mixed 19 _ _ _ ?_
    simp -implicitDefEqProofs only [go_sem, ne_eq, not_false_eq_true, Nat.reduceBEq, Nat.reduceAdd, Nat.reduceSub, Nat.reduceMul, Nat.reduceLT, Nat.reduceLeDiff, Int.reduceLE, Int.reduceLT, Int.reduceToNat, Int.reduceBEq, Int.reduceBNe, Int.le_refl, Nat.le_refl, decide_true, decide_false, Int.cast_ofNat_Int, ↓reduceIte, h3331, g3333, h3336, h3341, h3344, h3347, h3349]
    repeat with_reducible refine And.intro (by first | kernel_rfl | decide) ?_
    obtain rfl := Option.some.inj h
    exact finC [(2, .v (.bool false))] [(2, .v (.bool false))] (by simp [leE, lk_cons]) (.cons _ _ _ _ _ (.v _ _ (.refl _)) .nil) (by rfl) (by simp [leE, lk_cons]) (by decide) (by decide) rfl (by simp only [go_sem, ne_eq, not_false_eq_true, Nat.reduceBEq, Nat.reduceAdd, Nat.reduceSub, Nat.reduceMul, Nat.reduceLT, Nat.reduceLeDiff, Int.reduceLE, Int.reduceLT, Int.reduceToNat, Int.reduceBEq, Int.reduceBNe, Int.le_refl, Nat.le_refl, decide_true, decide_false, Int.cast_ofNat_Int, ↓reduceIte, resQ_tmp, resQ_cell, resQ_nil, retD_one, retD_two, retD_three, retD_none]; try simp [R.val, retD_one, retD_two, retD_three, retD_none])
  · refine W_sound tab_ok mixed 26 _ _ _ ?_
    simp -implicitDefEqProofs only [go_sem, ne_eq, not_false_eq_true, Nat.reduceBEq, Nat.reduceAdd, Nat.reduceSub, Nat.reduceMul, Nat.reduceLT, Nat.reduceLeDiff, Int.reduceLE, Int.reduceLT, Int.reduceToNat, Int.reduceBEq, Int.reduceBNe, Int.le_refl, Nat.le_refl, decide_true, decide_false, Int.cast_ofNat_Int, ↓reduceIte, h3331, g3333, h3336, h3341, h3344, h3347, h3349]
    repeat with_reducible refine And.intro (by first | kernel_rfl | decide) ?_
    refine Wp_wkK (Wk_freeze 5 [(.lst false n3337 c3338)] (by rfl) (by decide) (by decide)) rfl ?_
    simp -implicitDefEqProofs only [go_sem, ne_eq, not_false_eq_true, Nat.reduceBEq, Nat.reduceAdd, Nat.reduceSub, Nat.reduceMul, Nat.reduceLT, Nat.reduceLeDiff, Int.reduceLE, Int.reduceLT, Int.reduceToNat, Int.reduceBEq, Int.reduceBNe, Int.le_refl, Nat.le_refl, decide_true, decide_false, Int.cast_ofNat_Int, ↓reduceIte, h3331, g3333, h3336, h3341, h3344, h3347, h3349]
    (try simp -implicitDefEqProofs only [go_sem, ne_eq, not_false_eq_true, Nat.reduceBEq, Nat.reduceAdd, Nat.reduceSub, Nat.reduceMul, Nat.reduceLT, Nat.reduceLeDiff, Int.reduceLE, Int.reduceLT, Int.reduceToNat, Int.reduceBEq, Int.reduceBNe, Int.le_refl, Nat.le_refl, decide_true, decide_false, Int.cast_ofNat_Int, ↓reduceIte, h3331, g3333, h3336, h3341, h3344, h3347, h3349])
    have hh := bnd'_some h; clear h; obtain ⟨o3968, h3969, h3970⟩ := hh
    refine Wp_cut (fun s => (.inr ()) = o3968 ∧ s = ⟨[], [(0, .dead), (1, .dead), (2, .dead), (3, .dead), (4, .dead), (5, .dead), (6, .dead), (7, .dead), (8, .dead), (9, .dead), (10, .dead), (11, .dead), (12, .dead), (13, .dead), (14, .dead), (15, .dead), (16, .dead), (17, .dead), (18, .dead), (27, .dead), (30, .dead), (31, .dead), (32, .dead), (42, .dead), (43, .dead), (44, .dead), (47, .dead), (48, .dead), (49, .dead), (51, .dead), (60, .dead), (72, .dead), (90, .dead), (93, .dead), (94, .dead), (95, .dead), (96, .dead), (124, .dead), (126, .dead), (136, .dead), (148, .dead)], [], 0, []⟩) ?_ ?_
    · refine Wp_block ?_
      refine Wp_loopG (fun n s => ∃ x3828, m13_L0 N n3337 c3338 n3345 c3346 n x3828 = some o3968 ∧ s = ⟨[], [(0, .dead), (1, .dead), (2, .dead), (3, .v (.ipt [(.lst false n3337 c3338)])), (4, .v (.lst false n3345 c3346)), (5, .dead), (6, .v (.fn 51 [(.ipt [(.lst false n3337 c3338)])])), (7, .dead), (8, .dead), (9, .dead), (10, .dead), (11, .dead), (12, .dead), (13, .dead), (14, .dead), (15, .dead), (16, .dead), (17, .dead), (18, .dead), (27, .dead), (30, .v (.int .i64 ((n3337 : Nat) : Int))), (31, .v (.int .i64 x3828)), (32, .dead), (42, .dead), (43, .dead), (44, .dead), (47, .dead), (48, .dead), (49, .dead), (51, .dead), (60, .dead), (72, .dead), (90, .dead), (93, .dead), (94, .dead), (95, .dead), (96, .dead), (124, .dead), (126, .dead), (136, .dead), (148, .dead)], [], 0, []⟩) N _ ((Wk_le (.cons _ _ _ _ _ (.dead _) (.cons _ _ _ _ _ (.dead _) (.cons _ _ _ _ _ (.dead _) (.cons _ _ _ _ _ (.refl _) (.cons _ _ _ _ _ (.refl _) (.cons _ _ _ _ _ (.dead _) (.cons _ _ _ _ _ (.refl _) (.cons _ _ _ _ _ (.refl _) (.cons _ _ _ _ _ (.refl _) (.cons _ _ _ _ _ (.refl _) (.cons _ _ _ _ _ (.refl _) (.cons _ _ _ _ _ (.refl _) (.cons _ _ _ _ _ (.refl _) (.cons _ _ _ _ _ (.refl _) (.cons _ _ _ _ _ (.refl _) (.cons _ _ _ _ _ (.refl _) (.cons _ _ _ _ _ (.refl _) (.cons _ _ _ _ _ (.refl _) (.cons _ _ _ _ _ (.refl _) (.cons _ _ _ _ _ (.dead _) (.cons _ _ _ _ _ (.refl _) (.cons _ _ _ _ _ (.refl _) (.cons _ _ _ _ _ (.refl _) (.cons _ _ _ _ _ (.refl _) (.cons _ _ _ _ _ (.refl _) (.cons _ _ _ _ _ (.refl _) (.cons _ _ _ _ _ (.refl _) (.cons _ _ _ _ _ (.refl _) (.cons _ _ _ _ _ (.refl _) (.cons _ _ _ _ _ (.refl _) (.cons _ _ _ _ _ (.refl _) (.cons _ _ _ _ _ (.refl _) (.cons _ _ _ _ _ (.refl _) (.cons _ _ _ _ _ (.refl _) (.cons _ _ _ _ _ (.refl _) (.cons _ _ _ _ _ (.refl _) (.cons _ _ _ _ _ (.refl _) (.cons _ _ _ _ _ (.refl _) (.cons _ _ _ _ _ (.refl _) (.cons _ _ _ _ _ (.refl _) (.cons _ _ _ _ _ (.refl _) .nil))))))))))))))))))))))))))))))))))))))))) (OLe.refl _)).trans (cmpS_ok (st' := ⟨[], [(0, .dead), (1, .dead), (2, .dead), (3, .v (.ipt [(.lst false n3337 c3338)])), (4, .v (.lst false n3345 c3346)), (5, .dead), (6, .v (.fn 51 [(.ipt [(.lst false n3337 c3338)])])), (7, .dead), (8, .dead), (9, .dead), (10, .dead), (11, .dead), (12, .dead), (13, .dead), (14, .dead), (15, .dead), (16, .dead), (17, .dead), (18, .dead), (27, .dead), (30, .v (.int .i64 ((n3337 : Nat) : Int))), (31, .v (.int .i64 0)), (32, .dead), (42, .dead), (43, .dead), (44, .dead), (47, .dead), (48, .dead), (49, .dead), (51, .dead), (60, .dead), (72, .dead), (90, .dead), (93, .dead), (94, .dead), (95, .dead), (96, .dead), (124, .dead), (126, .dead), (136, .dead), (148, .dead)], [], 0, []⟩) (by kernel_rfl))) ⟨_, h3969, rfl⟩ ?_
      clear h3969
      rintro n _ ⟨x3828, h3969, rfl⟩
      cases n with
      | zero => cases h3969
      | succ n =>
        rw [m13_L0] at h3969
        have hh := brn_some h3969; clear h3969; rcases hh with ⟨h3829, h3969⟩ | ⟨h3829, h3969⟩
        · have hh := bnd'_some h3969; clear h3969; obtain ⟨p3830, h3831, h3969⟩ := hh
          refine W_sound tab_ok mixed 18 _ _ _ ?_
          simp -implicitDefEqProofs only [go_sem, ne_eq, not_false_eq_true, Nat.reduceBEq, Nat.reduceAdd, Nat.reduceSub, Nat.reduceMul, Nat.reduceLT, Nat.reduceLeDiff, Int.reduceLE, Int.reduceLT, Int.reduceToNat, Int.reduceBEq, Int.reduceBNe, Int.le_refl, Nat.le_refl, decide_true, decide_false, Int.cast_ofNat_Int, ↓reduceIte, h3331, g3333, h3336, h3341, h3344, h3347, h3349, h3829]
          repeat with_reducible refine And.intro (by first | kernel_rfl | decide) ?_
          refine Wp_callP (c28 N _ _ _ h3831) (by kernel_rfl) rfl rfl rfl rfl (by decide) ?_
          have hh := getT3_some h3969; clear h3969; obtain ⟨p3833, p3834, p3835, h3832, h3969⟩ := hh
          have hh := getI_some h3969; clear h3969; obtain ⟨x3837, h3836, h3969⟩ := hh
          have hh := getI_some h3969; clear h3969; obtain ⟨x3839, h3838, h3969⟩ := hh
          have hh := getI_some h3969; clear h3969; obtain ⟨x3841, h3840, h3969⟩ := hh
          refine W_sound tab_ok mixed 20 _ _ _ ?_
          simp -implicitDefEqProofs only [go_sem, ne_eq, not_false_eq_true, Nat.reduceBEq, Nat.reduceAdd, Nat.reduceSub, Nat.reduceMul, Nat.reduceLT, Nat.reduceLeDiff, Int.reduceLE, Int.reduceLT, Int.reduceToNat, Int.reduceBEq, Int.reduceBNe, Int.le_refl, Nat.le_refl, decide_true, decide_false, Int.cast_ofNat_Int, ↓reduceIte, h3331, g3333, h3336, h3341, h3344, h3347, h3349, h3829, h3832, h3836, h3838, h3840]
          repeat with_reducible refine And.intro (by first | kernel_rfl | decide) ?_
          have hh := bnd'_some h3969; clear h3969; obtain ⟨o3971, h3972, h3973⟩ := hh
          refine Wp_cut (fun s => ∃ x3905, ∃ x3906, (.inr (x3905, x3906)) = o3971 ∧ s = ⟨[], [(0, .dead), (1, .dead), (2, .dead), (3, .v (.ipt [(.lst false n3337 c3338)])), (4, .v (.lst false n3345 c3346)), (5, .dead), (6, .v (.fn 51 [(.ipt [(.lst false n3337 c3338)])])), (7, .v (.int .i64 x3828)), (8, .v (.int .i64 x3837)), (9, .v (.int .i64 x3839)), (10, .v (.int .i64 x3841)), (11, .v (.int .i64 x3905)), (12, .v (.int .i64 x3906)), (13, .dead), (14, .dead), (15, .dead), (16, .dead), (17, .dead), (18, .dead), (27, .dead), (30, .v (.int .i64 ((n3337 : Nat) : Int))), (31, .v (.int .i64 x3828)), (32, .dead), (42, .dead), (43, .dead), (44, .dead), (47, .dead), (48, .dead), (49, .dead), (51, .dead), (60, .dead), (72, .dead), (90, .dead), (93, .dead), (94, .dead), (95, .dead), (96, .dead), (124, .dead), (126, .dead), (136, .dead), (148, .dead)], [], 0, []⟩) ?_ ?_
          · refine Wp_block ?_
            refine Wp_loopG (fun n s => ∃ x3842, ∃ x3843, ∃ x3844, m13_L1 N n3337 c3338 n3345 c3346 x3828 x3837 x3839 x3841 n x3842 x3843 x3844 = some o3971 ∧ s = ⟨[], [(0, .dead), (1, .dead), (2, .dead), (3, .v (.ipt [(.lst false n3337 c3338)])), (4, .v (.lst false n3345 c3346)), (5, .dead), (6, .v (.fn 51 [(.ipt [(.lst false n3337 c3338)])])), (7, .v (.int .i64 x3828)), (8, .v (.int .i64 x3837)), (9, .v (.int .i64 x3839)), (10, .v (.int .i64 x3841)), (11, .v (.int .i64 x3842)), (12, .v (.int .i64 x3843)), (13, .dead), (14, .dead), (15, .dead), (16, .dead), (17, .dead), (18, .dead), (27, .dead), (30, .v (.int .i64 ((n3337 : Nat) : Int))), (31, .v (.int .i64 x3828)), (32, .dead), (42, .v (.int .i64 ((n3337 : Nat) : Int))), (43, .v (.int .i64 x3844)), (44, .dead), (47, .dead), (48, .dead), (49, .dead), (51, .dead), (60, .dead), (72, .dead), (90, .dead), (93, .dead), (94, .dead), (95, .dead), (96, .dead), (124, .dead), (126, .dead), (136, .dead), (148, .dead)], [], 0, []⟩) N _ ((Wk_le (.cons _ _ _ _ _ (.refl _) (.cons _ _ _ _ _ (.refl _) (.cons _ _ _ _ _ (.refl _) (.cons _ _ _ _ _ (.refl _) (.cons _ _ _ _ _ (.refl _) (.cons _ _ _ _ _ (.refl _) (.cons _ _ _ _ _ (.refl _) (.cons _ _ _ _ _ (.refl _) (.cons _ _ _ _ _ (.refl _) (.cons _ _ _ _ _ (.refl _) (.cons _ _ _ _ _ (.refl _) (.cons _ _ _ _ _ (.refl _) (.cons _ _ _ _ _ (.refl _) (.cons _ _ _ _ _ (.refl _) (.cons _ _ _ _ _ (.refl _) (.cons _ _ _ _ _ (.refl _) (.cons _ _ _ _ _ (.refl _) (.cons _ _ _ _ _ (.refl _) (.cons _ _ _ _ _ (.refl _) (.cons _ _ _ _ _ (.refl _) (.cons _ _ _ _ _ (.refl _) (.cons _ _ _ _ _ (.refl _) (.cons _ _ _ _ _ (.dead _) (.cons _ _ _ _ _ (.refl _) (.cons _ _ _ _ _ (.refl _) (.cons _ _ _ _ _ (.refl _) (.cons _ _ _ _ _ (.refl _) (.cons _ _ _ _ _ (.refl _) (.cons _ _ _ _ _ (.refl _) (.cons _ _ _ _ _ (.refl _) (.cons _ _ _ _ _ (.refl _) (.cons _ _ _ _ _ (.refl _) (.cons _ _ _ _ _ (.refl _) (.cons _ _ _ _ _ (.refl _) (.cons _ _ _ _ _ (.refl _) (.cons _ _ _ _ _ (.refl _) (.cons _ _ _ _ _ (.refl _) (.cons _ _ _ _ _ (.refl _) (.cons _ _ _ _ _ (.refl _) (.cons _ _ _ _ _ (.refl _) (.cons _ _ _ _ _ (.refl _) .nil))))))))))))))))))))))))))))))))))))))))) (OLe.refl _)).trans (cmpS_ok (st' := ⟨[], [(0, .dead), (1, .dead), (2, .dead), (3, .v (.ipt [(.lst false n3337 c3338)])), (4, .v (.lst false n3345 c3346)), (5, .dead), (6, .v (.fn 51 [(.ipt [(.lst false n3337 c3338)])])), (7, .v (.int .i64 x3828)), (8, .v (.int .i64 x3837)), (9, .v (.int .i64 x3839)), (10, .v (.int .i64 x3841)), (11, .v (.int .i64 (-1))), (12, .v (.int .i64 (-1))), (13, .dead), (14, .dead), (15, .dead), (16, .dead), (17, .dead), (18, .dead), (27, .dead), (30, .v (.int .i64 ((n3337 : Nat) : Int))), (31, .v (.int .i64 x3828)), (32, .dead), (42, .v (.int .i64 ((n3337 : Nat) : Int))), (43, .v (.int .i64 0)), (44, .dead), (47, .dead), (48, .dead), (49, .dead), (51, .dead), (60, .dead), (72, .dead), (90, .dead), (93, .dead), (94, .dead), (95, .dead), (96, .dead), (124, .dead), (126, .dead), (136, .dead), (148, .dead)], [], 0, []⟩) (by kernel_rfl))) ⟨_, _, _, h3972, rfl⟩ ?_
            clear h3972
            rintro n _ ⟨x3842, x3843, x3844, h3972, rfl⟩
            cases n with
            | zero => cases h3972
            | succ n =>
              rw [m13_L1] at h3972
              have hh := brn_some h3972; clear h3972; rcases hh with ⟨h3845, h3972⟩ | ⟨h3845, h3972⟩
              · refine W_sound tab_ok mixed 20 _ _ _ ?_
                simp -implicitDefEqProofs only [go_sem, ne_eq, not_false_eq_true, Nat.reduceBEq, Nat.reduceAdd, Nat.reduceSub, Nat.reduceMul, Nat.reduceLT, Nat.reduceLeDiff, Int.reduceLE, Int.reduceLT, Int.reduceToNat, Int.reduceBEq, Int.reduceBNe, Int.le_refl, Nat.le_refl, decide_true, decide_false, Int.cast_ofNat_Int, ↓reduceIte, h3331, g3333, h3336, h3341, h3344, h3347, h3349, h3829, h3832, h3836, h3838, h3840, h3845]
                repeat with_reducible refine And.intro (by first | kernel_rfl | decide) ?_
                have hh := bnd'_some h3972; clear h3972; obtain ⟨o3974, h3975, h3976⟩ := hh
                refine Wp_cut (fun s => ∃ x3902, ∃ x3903, (.inr (x3902, x3903)) = o3974 ∧ s = ⟨[], [(0, .dead), (1, .dead), (2, .dead), (3, .v (.ipt [(.lst false n3337 c3338)])), (4, .v (.lst false n3345 c3346)), (5, .dead), (6, .v (.fn 51 [(.ipt [(.lst false n3337 c3338)])])), (7, .v (.int .i64 x3828)), (8, .v (.int .i64 x3837)), (9, .v (.int .i64 x3839)), (10, .v (.int .i64 x3841)), (11, .v (.int .i64 x3902)), (12, .v (.int .i64 x3903)), (13, .dead), (14, .dead), (15, .dead), (16, .dead), (17, .dead), (18, .dead), (27, .dead), (30, .v (.int .i64 ((n3337 : Nat) : Int))), (31, .v (.int .i64 x3828)), (32, .dead), (42, .v (.int .i64 ((n3337 : Nat) : Int))), (43, .v (.int .i64 x3844)), (44, .dead), (47, .dead), (48, .dead), (49, .dead), (51, .dead), (60, .dead), (72, .dead), (90, .dead), (93, .dead), (94, .dead), (95, .dead), (96, .dead), (124, .dead), (126, .dead), (136, .dead), (148, .dead)], [], 0, []⟩) ?_ ?_
                · refine Wp_block ?_
                  refine Wp_loopG (fun n s => ∃ x3846, ∃ x3847, ∃ x3848, m13_L2 N n3337 c3338 n3345 c3346 x3828 x3837 x3839 x3841 x3844 n x3846 x3847 x3848 = some o3974 ∧ s = ⟨[], [(0, .dead), (1, .dead), (2, .dead), (3, .v (.ipt [(.lst false n3337 c3338)])), (4, .v (.lst false n3345 c3346)), (5, .dead), (6, .v (.fn 51 [(.ipt [(.lst false n3337 c3338)])])), (7, .v (.int .i64 x3828)), (8, .v (.int .i64 x3837)), (9, .v (.int .i64 x3839)), (10, .v (.int .i64 x3841)), (11, .v (.int .i64 x3846)), (12, .v (.int .i64 x3847)), (13, .v (.int .i64 x3844)), (14, .dead), (15, .dead), (16, .dead), (17, .dead), (18, .dead), (27, .dead), (30, .v (.int .i64 ((n3337 : Nat) : Int))), (31, .v (.int .i64 x3828)), (32, .dead), (42, .v (.int .i64 ((n3337 : Nat) : Int))), (43, .v (.int .i64 x3844)), (44, .dead), (47, .v (.int .i64 ((n3337 : Nat) : Int))), (48, .v (.int .i64 x3848)), (49, .dead), (51, .dead), (60, .dead), (72, .dead), (90, .dead), (93, .dead), (94, .dead), (95, .dead), (96, .dead), (124, .dead), (126, .dead), (136, .dead), (148, .dead)], [], 0, []⟩) N _ ((Wk_le (.cons _ _ _ _ _ (.refl _) (.cons _ _ _ _ _ (.refl _) (.cons _ _ _ _ _ (.refl _) (.cons _ _ _ _ _ (.refl _) (.cons _ _ _ _ _ (.refl _) (.cons _ _ _ _ _ (.refl _) (.cons _ _ _ _ _ (.refl _) (.cons _ _ _ _ _ (.refl _) (.cons _ _ _ _ _ (.refl _) (.cons _ _ _ _ _ (.refl _) (.cons _ _ _ _ _ (.refl _) (.cons _ _ _ _ _ (.refl _) (.cons _ _ _ _ _ (.refl _) (.cons _ _ _ _ _ (.refl _) (.cons _ _ _ _ _ (.refl _) (.cons _ _ _ _ _ (.refl _) (.cons _ _ _ _ _ (.refl _) (.cons _ _ _ _ _ (.refl _) (.cons _ _ _ _ _ (.refl _) (.cons _ _ _ _ _ (.refl _) (.cons _ _ _ _ _ (.refl _) (.cons _ _ _ _ _ (.refl _) (.cons _ _ _ _ _ (.refl _) (.cons _ _ _ _ _ (.refl _) (.cons _ _ _ _ _ (.refl _) (.cons _ _ _ _ _ (.dead _) (.cons _ _ _ _ _ (.refl _) (.cons _ _ _ _ _ (.refl _) (.cons _ _ _ _ _ (.refl _) (.cons _ _ _ _ _ (.refl _) (.cons _ _ _ _ _ (.refl _) (.cons _ _ _ _ _ (.refl _) (.cons _ _ _ _ _ (.refl _) (.cons _ _ _ _ _ (.refl _) (.cons _ _ _ _ _ (.refl _) (.cons _ _ _ _ _ (.refl _) (.cons _ _ _ _ _ (.refl _) (.cons _ _ _ _ _ (.refl _) (.cons _ _ _ _ _ (.refl _) (.cons _ _ _ _ _ (.refl _) (.cons _ _ _ _ _ (.refl _) .nil))))))))))))))))))))))))))))))))))))))))) (OLe.refl _)).trans (cmpS_ok (st' := ⟨[], [(0, .dead), (1, .dead), (2, .dead), (3, .v (.ipt [(.lst false n3337 c3338)])), (4, .v (.lst false n3345 c3346)), (5, .dead), (6, .v (.fn 51 [(.ipt [(.lst false n3337 c3338)])])), (7, .v (.int .i64 x3828)), (8, .v (.int .i64 x3837)), (9, .v (.int .i64 x3839)), (10, .v (.int .i64 x3841)), (11, .v (.int .i64 x3842)), (12, .v (.int .i64 x3843)), (13, .v (.int .i64 x3844)), (14, .dead), (15, .dead), (16, .dead), (17, .dead), (18, .dead), (27, .dead), (30, .v (.int .i64 ((n3337 : Nat) : Int))), (31, .v (.int .i64 x3828)), (32, .dead), (42, .v (.int .i64 ((n3337 : Nat) : Int))), (43, .v (.int .i64 x3844)), (44, .dead), (47, .v (.int .i64 ((n3337 : Nat) : Int))), (48, .v (.int .i64 0)), (49, .dead), (51, .dead), (60, .dead), (72, .dead), (90, .dead), (93, .dead), (94, .dead), (95, .dead), (96, .dead), (124, .dead), (126, .dead), (136, .dead), (148, .dead)], [], 0, []⟩) (by kernel_rfl))) ⟨_, _, _, h3975, rfl⟩ ?_
                  clear h3975
                  rintro n _ ⟨x3846, x3847, x3848, h3975, rfl⟩
                  cases n with
                  | zero => cases h3975
                  | succ n =>
                    rw [m13_L2] at h3975
                    have hh := brn_some h3975; clear h3975; rcases hh with ⟨h3849, h3975⟩ | ⟨h3849, h3975⟩
                    · have hh := brn_some h3975; clear h3975; rcases hh with ⟨h3850, h3975⟩ | ⟨h3850, h3975⟩
                      · have hh := grd_some h3975; clear h3975; obtain ⟨g3851, h3975⟩ := hh
                        have hh := brn_some h3975; clear h3975; rcases hh with ⟨h3852, h3975⟩ | ⟨h3852, h3975⟩
                        · have hh := bnd'_some h3975; clear h3975; obtain ⟨p3853, h3854, h3975⟩ := hh
                          refine W_sound tab_ok mixed 51 _ _ _ ?_
                          simp -implicitDefEqProofs only [go_sem, ne_eq, not_false_eq_true, Nat.reduceBEq, Nat.reduceAdd, Nat.reduceSub, Nat.reduceMul, Nat.reduceLT, Nat.reduceLeDiff, Int.reduceLE, Int.reduceLT, Int.reduceToNat, Int.reduceBEq, Int.reduceBNe, Int.le_refl, Nat.le_refl, decide_true, decide_false, Int.cast_ofNat_Int, ↓reduceIte, h3331, g3333, h3336, h3341, h3344, h3347, h3349, h3829, h3832, h3836, h3838, h3840, h3845, h3849, h3850, g3851, h3852]
                          repeat with_reducible refine And.intro (by first | kernel_rfl | decide) ?_
                          refine Wp_callP (c30 N _ _ _ _ _ h3854) (by kernel_rfl) rfl rfl rfl rfl (by decide) ?_
                          have hh := getI_some h3975; clear h3975; obtain ⟨x3856, h3855, h3975⟩ := hh
                          have hh := brn_some h3975; clear h3975; rcases hh with ⟨h3857, h3975⟩ | ⟨h3857, h3975⟩
                          · refine W_sound tab_ok mixed 11 _ _ _ ?_
                            simp -implicitDefEqProofs only [go_sem, ne_eq, not_false_eq_true, Nat.reduceBEq, Nat.reduceAdd, Nat.reduceSub, Nat.reduceMul, Nat.reduceLT, Nat.reduceLeDiff, Int.reduceLE, Int.reduceLT, Int.reduceToNat, Int.reduceBEq, Int.reduceBNe, Int.le_refl, Nat.le_refl, decide_true, decide_false, Int.cast_ofNat_Int, ↓reduceIte, h3331, g3333, h3336, h3341, h3344, h3347, h3349, h3829, h3832, h3836, h3838, h3840, h3845, h3849, h3850, g3851, h3852, h3855, h3857]
                            repeat with_reducible refine And.intro (by first | kernel_rfl | decide) ?_
                            obtain rfl := Option.some.inj h3975
                            (try dsimp only at h3976)
                            obtain rfl := Option.some.inj h3976
                            (try dsimp only at h3973)
                            obtain rfl := Option.some.inj h3973
                            (try dsimp only at h3970)
                            obtain rfl := Option.some.inj h3970
                            exact finC [(2, .v (.bool false))] [(2, .v (.bool false))] (by simp [leE, lk_cons]) (.cons _ _ _ _ _ (.v _ _ (.refl _)) .nil) (by rfl) (by simp [leE, lk_cons]) (by decide) (by decide) rfl (by simp only [go_sem, ne_eq, not_false_eq_true, Nat.reduceBEq, Nat.reduceAdd, Nat.reduceSub, Nat.reduceMul, Nat.reduceLT, Nat.reduceLeDiff, Int.reduceLE, Int.reduceLT, Int.reduceToNat, Int.reduceBEq, Int.reduceBNe, Int.le_refl, Nat.le_refl, decide_true, decide_false, Int.cast_ofNat_Int, ↓reduceIte, resQ_tmp, resQ_cell, resQ_nil, retD_one, retD_two, retD_three, retD_none]; try simp [R.val, retD_one, retD_two, retD_three, retD_none])
                          · refine W_sound tab_ok mixed 11 _ _ _ ?_
                            simp -implicitDefEqProofs only [go_sem, ne_eq, not_false_eq_true, Nat.reduceBEq, Nat.reduceAdd, Nat.reduceSub, Nat.reduceMul, Nat.reduceLT, Nat.reduceLeDiff, Int.reduceLE, Int.reduceLT, Int.reduceToNat, Int.reduceBEq, Int.reduceBNe, Int.le_refl, Nat.le_refl, decide_true, decide_false, Int.cast_ofNat_Int, ↓reduceIte, h3331, g3333, h3336, h3341, h3344, h3347, h3349, h3829, h3832, h3836, h3838, h3840, h3845, h3849, h3850, g3851, h3852, h3855, h3857]
                            repeat with_reducible refine And.intro (by first | kernel_rfl | decide) ?_
                            exact cutQ _ ((Wk_le (.cons _ _ _ _ _ (.refl _) (.cons _ _ _ _ _ (.refl _) (.cons _ _ _ _ _ (.refl _) (.cons _ _ _ _ _ (.refl _) (.cons _ _ _ _ _ (.refl _) (.cons _ _ _ _ _ (.refl _) (.cons _ _ _ _ _ (.refl _) (.cons _ _ _ _ _ (.refl _) (.cons _ _ _ _ _ (.refl _) (.cons _ _ _ _ _ (.refl _) (.cons _ _ _ _ _ (.refl _) (.cons _ _ _ _ _ (.refl _) (.cons _ _ _ _ _ (.refl _) (.cons _ _ _ _ _ (.refl _) (.cons _ _ _ _ _ (.dead _) (.cons _ _ _ _ _ (.dead _) (.cons _ _ _ _ _ (.refl _) (.cons _ _ _ _ _ (.refl _) (.cons _ _ _ _ _ (.refl _) (.cons _ _ _ _ _ (.refl _) (.cons _ _ _ _ _ (.refl _) (.cons _ _ _ _ _ (.refl _) (.cons _ _ _ _ _ (.refl _) (.cons _ _ _ _ _ (.refl _) (.cons _ _ _ _ _ (.refl _) (.cons _ _ _ _ _ (.refl _) (.cons _ _ _ _ _ (.refl _) (.cons _ _ _ _ _ (.refl _) (.cons _ _ _ _ _ (.dead _) (.cons _ _ _ _ _ (.dead _) (.cons _ _ _ _ _ (.refl _) (.cons _ _ _ _ _ (.refl _) (.cons _ _ _ _ _ (.dead _) (.cons _ _ _ _ _ (.refl _) (.cons _ _ _ _ _ (.refl _) (.cons _ _ _ _ _ (.refl _) (.cons _ _ _ _ _ (.refl _) (.cons _ _ _ _ _ (.refl _) (.cons _ _ _ _ _ (.refl _) (.cons _ _ _ _ _ (.refl _) (.cons _ _ _ _ _ (.refl _) .nil))))))))))))))))))))))))))))))))))))))))) (OLe.refl _)).trans (cmpS_ok (st' := ⟨[], [(0, .dead), (1, .dead), (2, .dead), (3, .v (.ipt [(.lst false n3337 c3338)])), (4, .v (.lst false n3345 c3346)), (5, .dead), (6, .v (.fn 51 [(.ipt [(.lst false n3337 c3338)])])), (7, .v (.int .i64 x3828)), (8, .v (.int .i64 x3837)), (9, .v (.int .i64 x3839)), (10, .v (.int .i64 x3841)), (11, .v (.int .i64 x3846)), (12, .v (.int .i64 x3847)), (13, .v (.int .i64 x3844)), (14, .dead), (15, .dead), (16, .dead), (17, .dead), (18, .dead), (27, .dead), (30, .v (.int .i64 ((n3337 : Nat) : Int))), (31, .v (.int .i64 x3828)), (32, .dead), (42, .v (.int .i64 ((n3337 : Nat) : Int))), (43, .v (.int .i64 x3844)), (44, .dead), (47, .v (.int .i64 ((n3337 : Nat) : Int))), (48, .v (.int .i64 (IntKind.i64.wrap (x3848 + 1)))), (49, .dead), (51, .dead), (60, .dead), (72, .dead), (90, .dead), (93, .dead), (94, .dead), (95, .dead), (96, .dead), (124, .dead), (126, .dead), (136, .dead), (148, .dead)], [], 0, []⟩) (by kernel_rfl))) ⟨n, Nat.lt_succ_self n, _, _, _, h3975, rfl⟩
                        · refine W_sound tab_ok mixed 63 _ _ _ ?_
                          simp -implicitDefEqProofs only [go_sem, ne_eq, not_false_eq_true, Nat.reduceBEq, Nat.reduceAdd, Nat.reduceSub, Nat.reduceMul, Nat.reduceLT, Nat.reduceLeDiff, Int.reduceLE, Int.reduceLT, Int.reduceToNat, Int.reduceBEq, Int.reduceBNe, Int.le_refl, Nat.le_refl, decide_true, decide_false, Int.cast_ofNat_Int, ↓reduceIte, h3331, g3333, h3336, h3341, h3344, h3347, h3349, h3829, h3832, h3836, h3838, h3840, h3845, h3849, h3850, g3851, h3852]
                          repeat with_reducible refine And.intro (by first | kernel_rfl | decide) ?_
                          exact cutQ _ ((Wk_le (.cons _ _ _ _ _ (.refl _) (.cons _ _ _ _ _ (.refl _) (.cons _ _ _ _ _ (.refl _) (.cons _ _ _ _ _ (.refl _) (.cons _ _ _ _ _ (.refl _) (.cons _ _ _ _ _ (.refl _) (.cons _ _ _ _ _ (.refl _) (.cons _ _ _ _ _ (.refl _) (.cons _ _ _ _ _ (.refl _) (.cons _ _ _ _ _ (.refl _) (.cons _ _ _ _ _ (.refl _) (.cons _ _ _ _ _ (.refl _) (.cons _ _ _ _ _ (.refl _) (.cons _ _ _ _ _ (.refl _) (.cons _ _ _ _ _ (.dead _) (.cons _ _ _ _ _ (.dead _) (.cons _ _ _ _ _ (.refl _) (.cons _ _ _ _ _ (.refl _) (.cons _ _ _ _ _ (.refl _) (.cons _ _ _ _ _ (.refl _) (.cons _ _ _ _ _ (.refl _) (.cons _ _ _ _ _ (.refl _) (.cons _ _ _ _ _ (.refl _) (.cons _ _ _ _ _ (.refl _) (.cons _ _ _ _ _ (.refl _) (.cons _ _ _ _ _ (.refl _) (.cons _ _ _ _ _ (.refl _) (.cons _ _ _ _ _ (.refl _) (.cons _ _ _ _ _ (.dead _) (.cons _ _ _ _ _ (.dead _) (.cons _ _ _ _ _ (.refl _) (.cons _ _ _ _ _ (.refl _) (.cons _ _ _ _ _ (.dead _) (.cons _ _ _ _ _ (.refl _) (.cons _ _ _ _ _ (.refl _) (.cons _ _ _ _ _ (.refl _) (.cons _ _ _ _ _ (.refl _) (.cons _ _ _ _ _ (.refl _) (.cons _ _ _ _ _ (.refl _) (.cons _ _ _ _ _ (.refl _) (.cons _ _ _ _ _ (.refl _) .nil))))))))))))))))))))))))))))))))))))))))) (OLe.refl _)).trans (cmpS_ok (st' := ⟨[], [(0, .dead), (1, .dead), (2, .dead), (3, .v (.ipt [(.lst false n3337 c3338)])), (4, .v (.lst false n3345 c3346)), (5, .dead), (6, .v (.fn 51 [(.ipt [(.lst false n3337 c3338)])])), (7, .v (.int .i64 x3828)), (8, .v (.int .i64 x3837)), (9, .v (.int .i64 x3839)), (10, .v (.int .i64 x3841)), (11, .v (.int .i64 x3846)), (12, .v (.int .i64 x3847)), (13, .v (.int .i64 x3844)), (14, .dead), (15, .dead), (16, .dead), (17, .dead), (18, .dead), (27, .dead), (30, .v (.int .i64 ((n3337 : Nat) : Int))), (31, .v (.int .i64 x3828)), (32, .dead), (42, .v (.int .i64 ((n3337 : Nat) : Int))), (43, .v (.int .i64 x3844)), (44, .dead), (47, .v (.int .i64 ((n3337 : Nat) : Int))), (48, .v (.int .i64 (IntKind.i64.wrap (x3848 + 1)))), (49, .dead), (51, .dead), (60, .dead), (72, .dead), (90, .dead), (93, .dead), (94, .dead), (95, .dead), (96, .dead), (124, .dead), (126, .dead), (136, .dead), (148, .dead)], [], 0, []⟩) (by kernel_rfl))) ⟨n, Nat.lt_succ_self n, _, _, _, h3975, rfl⟩
                      · have hh := brn_some h3975; clear h3975; rcases hh with ⟨h3858, h3975⟩ | ⟨h3858, h3975⟩
                        · have hh := grd_some h3975; clear h3975; obtain ⟨g3859, h3975⟩ := hh
                          have hh := brn_some h3975; clear h3975; rcases hh with ⟨h3860, h3975⟩ | ⟨h3860, h3975⟩
                          · have hh := bnd'_some h3975; clear h3975; obtain ⟨p3861, h3862, h3975⟩ := hh
                            refine W_sound tab_ok mixed 51 _ _ _ ?_
                            simp -implicitDefEqProofs only [go_sem, ne_eq, not_false_eq_true, Nat.reduceBEq, Nat.reduceAdd, Nat.reduceSub, Nat.reduceMul, Nat.reduceLT, Nat.reduceLeDiff, Int.reduceLE, Int.reduceLT, Int.reduceToNat, Int.reduceBEq, Int.reduceBNe, Int.le_refl, Nat.le_refl, decide_true, decide_false, Int.cast_ofNat_Int, ↓reduceIte, h3331, g3333, h3336, h3341, h3344, h3347, h3349, h3829, h3832, h3836, h3838, h3840, h3845, h3849, h3850, h3858, g3859, h3860]
                            repeat with_reducible refine And.intro (by first | kernel_rfl | decide) ?_
                            refine Wp_callP (c30 N _ _ _ _ _ h3862) (by kernel_rfl) rfl rfl rfl rfl (by decide) ?_
                            have hh := getI_some h3975; clear h3975; obtain ⟨x3864, h3863, h3975⟩ := hh
                            have hh := brn_some h3975; clear h3975; rcases hh with ⟨h3865, h3975⟩ | ⟨h3865, h3975⟩
                            · refine W_sound tab_ok mixed 11 _ _ _ ?_
                              simp -implicitDefEqProofs only [go_sem, ne_eq, not_false_eq_true, Nat.reduceBEq, Nat.reduceAdd, Nat.reduceSub, Nat.reduceMul, Nat.reduceLT, Nat.reduceLeDiff, Int.reduceLE, Int.reduceLT, Int.reduceToNat, Int.reduceBEq, Int.reduceBNe, Int.le_refl, Nat.le_refl, decide_true, decide_false, Int.cast_ofNat_Int, ↓reduceIte, h3331, g3333, h3336, h3341, h3344, h3347, h3349, h3829, h3832, h3836, h3838, h3840, h3845, h3849, h3850, h3858, g3859, h3860, h3863, h3865]
                              repeat with_reducible refine And.intro (by first | kernel_rfl | decide) ?_
                              obtain rfl := Option.some.inj h3975
                              (try dsimp only at h3976)
                              obtain rfl := Option.some.inj h3976
                              (try dsimp only at h3973)
                              obtain rfl := Option.some.inj h3973
                              (try dsimp only at h3970)
                              obtain rfl := Option.some.inj h3970
                              exact finC [(2, .v (.bool false))] [(2, .v (.bool false))] (by simp [leE, lk_cons]) (.cons _ _ _ _ _ (.v _ _ (.refl _)) .nil) (by rfl) (by simp [leE, lk_cons]) (by decide) (by decide) rfl (by simp only [go_sem, ne_eq, not_false_eq_true, Nat.reduceBEq, Nat.reduceAdd, Nat.reduceSub, Nat.reduceMul, Nat.reduceLT, Nat.reduceLeDiff, Int.reduceLE, Int.reduceLT, Int.reduceToNat, Int.reduceBEq, Int.reduceBNe, Int.le_refl, Nat.le_refl, decide_true, decide_false, Int.cast_ofNat_Int, ↓reduceIte, resQ_tmp, resQ_cell, resQ_nil, retD_one, retD_two, retD_three, retD_none]; try simp [R.val, retD_one, retD_two, retD_three, retD_none])
                            · refine W_sound tab_ok mixed 11 _ _ _ ?_
                              simp -implicitDefEqProofs only [go_sem, ne_eq, not_false_eq_true, Nat.reduceBEq, Nat.reduceAdd, Nat.reduceSub, Nat.reduceMul, Nat.reduceLT, Nat.reduceLeDiff, Int.reduceLE, Int.reduceLT, Int.reduceToNat, Int.reduceBEq, Int.reduceBNe, Int.le_refl, Nat.le_refl, decide_true, decide_false, Int.cast_ofNat_Int, ↓reduceIte, h3331, g3333, h3336, h3341, h3344, h3347, h3349, h3829, h3832, h3836, h3838, h3840, h3845, h3849, h3850, h3858, g3859, h3860, h3863, h3865]
                              repeat with_reducible refine And.intro (by first | kernel_rfl | decide) ?_
                              exact cutQ _ ((Wk_le (.cons _ _ _ _ _ (.refl _) (.cons _ _ _ _ _ (.refl _) (.cons _ _ _ _ _ (.refl _) (.cons _ _ _ _ _ (.refl _) (.cons _ _ _ _ _ (.refl _) (.cons _ _ _ _ _ (.refl _) (.cons _ _ _ _ _ (.refl _) (.cons _ _ _ _ _ (.refl _) (.cons _ _ _ _ _ (.refl _) (.cons _ _ _ _ _ (.refl _) (.cons _ _ _ _ _ (.refl _) (.cons _ _ _ _ _ (.refl _) (.cons _ _ _ _ _ (.refl _) (.cons _ _ _ _ _ (.refl _) (.cons _ _ _ _ _ (.dead _) (.cons _ _ _ _ _ (.dead _) (.cons _ _ _ _ _ (.refl _) (.cons _ _ _ _ _ (.refl _) (.cons _ _ _ _ _ (.refl _) (.cons _ _ _ _ _ (.refl _) (.cons _ _ _ _ _ (.refl _) (.cons _ _ _ _ _ (.refl _) (.cons _ _ _ _ _ (.refl _) (.cons _ _ _ _ _ (.refl _) (.cons _ _ _ _ _ (.refl _) (.cons _ _ _ _ _ (.refl _) (.cons _ _ _ _ _ (.refl _) (.cons _ _ _ _ _ (.refl _) (.cons _ _ _ _ _ (.dead _) (.cons _ _ _ _ _ (.dead _) (.cons _ _ _ _ _ (.refl _) (.cons _ _ _ _ _ (.refl _) (.cons _ _ _ _ _ (.dead _) (.cons _ _ _ _ _ (.refl _) (.cons _ _ _ _ _ (.refl _) (.cons _ _ _ _ _ (.refl _) (.cons _ _ _ _ _ (.refl _) (.cons _ _ _ _ _ (.refl _) (.cons _ _ _ _ _ (.refl _) (.cons _ _ _ _ _ (.refl _) (.cons _ _ _ _ _ (.refl _) .nil))))))))))))))))))))))))))))))))))))))))) (OLe.refl _)).trans (cmpS_ok (st' := ⟨[], [(0, .dead), (1, .dead), (2, .dead), (3, .v (.ipt [(.lst false n3337 c3338)])), (4, .v (.lst false n3345 c3346)), (5, .dead), (6, .v (.fn 51 [(.ipt [(.lst false n3337 c3338)])])), (7, .v (.int .i64 x3828)), (8, .v (.int .i64 x3837)), (9, .v (.int .i64 x3839)), (10, .v (.int .i64 x3841)), (11, .v (.int .i64 x3846)), (12, .v (.int .i64 x3847)), (13, .v (.int .i64 x3844)), (14, .dead), (15, .dead), (16, .dead), (17, .dead), (18, .dead), (27, .dead), (30, .v (.int .i64 ((n3337 : Nat) : Int))), (31, .v (.int .i64 x3828)), (32, .dead), (42, .v (.int .i64 ((n3337 : Nat) : Int))), (43, .v (.int .i64 x3844)), (44, .dead), (47, .v (.int .i64 ((n3337 : Nat) : Int))), (48, .v (.int .i64 (IntKind.i64.wrap (x3848 + 1)))), (49, .dead), (51, .dead), (60, .dead), (72, .dead), (90, .dead), (93, .dead), (94, .dead), (95, .dead), (96, .dead), (124, .dead), (126, .dead), (136, .dead), (148, .dead)], [], 0, []⟩) (by kernel_rfl))) ⟨n, Nat.lt_succ_self n, _, _, _, h3975, rfl⟩
                          · refine W_sound tab_ok mixed 63 _ _ _ ?_
                            simp -implicitDefEqProofs only [go_sem, ne_eq, not_false_eq_true, Nat.reduceBEq, Nat.reduceAdd, Nat.reduceSub, Nat.reduceMul, Nat.reduceLT, Nat.reduceLeDiff, Int.reduceLE, Int.reduceLT, Int.reduceToNat, Int.reduceBEq, Int.reduceBNe, Int.le_refl, Nat.le_refl, decide_true, decide_false, Int.cast_ofNat_Int, ↓reduceIte, h3331, g3333, h3336, h3341, h3344, h3347, h3349, h3829, h3832, h3836, h3838, h3840, h3845, h3849, h3850, h3858, g3859, h3860]
                            repeat with_reducible refine And.intro (by first | kernel_rfl | decide) ?_
                            exact cutQ _ ((Wk_le (.cons _ _ _ _ _ (.refl _) (.cons _ _ _ _ _ (.refl _) (.cons _ _ _ _ _ (.refl _) (.cons _ _ _ _ _ (.refl _) (.cons _ _ _ _ _ (.refl _) (.cons _ _ _ _ _ (.refl _) (.cons _ _ _ _ _ (.refl _) (.cons _ _ _ _ _ (.refl _) (.cons _ _ _ _ _ (.refl _) (.cons _ _ _ _ _ (.refl _) (.cons _ _ _ _ _ (.refl _) (.cons _ _ _ _ _ (.refl _) (.cons _ _ _ _ _ (.refl _) (.cons _ _ _ _ _ (.refl _) (.cons _ _ _ _ _ (.dead _) (.cons _ _ _ _ _ (.dead _) (.cons _ _ _ _ _ (.refl _) (.cons _ _ _ _ _ (.refl _) (.cons _ _ _ _ _ (.refl _) (.cons _ _ _ _ _ (.refl _) (.cons _ _ _ _ _ (.refl _) (.cons _ _ _ _ _ (.refl _) (.cons _ _ _ _ _ (.refl _) (.cons _ _ _ _ _ (.refl _) (.cons _ _ _ _ _ (.refl _) (.cons _ _ _ _ _ (.refl _) (.cons _ _ _ _ _ (.refl _) (.cons _ _ _ _ _ (.refl _) (.cons _ _ _ _ _ (.dead _) (.cons _ _ _ _ _ (.dead _) (.cons _ _ _ _ _ (.refl _) (.cons _ _ _ _ _ (.refl _) (.cons _ _ _ _ _ (.dead _) (.cons _ _ _ _ _ (.refl _) (.cons _ _ _ _ _ (.refl _) (.cons _ _ _ _ _ (.refl _) (.cons _ _ _ _ _ (.refl _) (.cons _ _ _ _ _ (.refl _) (.cons _ _ _ _ _ (.refl _) (.cons _ _ _ _ _ (.refl _) (.cons _ _ _ _ _ (.refl _) .nil))))))))))))))))))))))))))))))))))))))))) (OLe.refl _)).trans (cmpS_ok (st' := ⟨[], [(0, .dead), (1, .dead), (2, .dead), (3, .v (.ipt [(.lst false n3337 c3338)])), (4, .v (.lst false n3345 c3346)), (5, .dead), (6, .v (.fn 51 [(.ipt [(.lst false n3337 c3338)])])), (7, .v (.int .i64 x3828)), (8, .v (.int .i64 x3837)), (9, .v (.int .i64 x3839)), (10, .v (.int .i64 x3841)), (11, .v (.int .i64 x3846)), (12, .v (.int .i64 x3847)), (13, .v (.int .i64 x3844)), (14, .dead), (15, .dead), (16, .dead), (17, .dead), (18, .dead), (27, .dead), (30, .v (.int .i64 ((n3337 : Nat) : Int))), (31, .v (.int .i64 x3828)), (32, .dead), (42, .v (.int .i64 ((n3337 : Nat) : Int))), (43, .v (.int .i64 x3844)), (44, .dead), (47, .v (.int .i64 ((n3337 : Nat) : Int))), (48, .v (.int .i64 (IntKind.i64.wrap (x3848 + 1)))), (49, .dead), (51, .dead), (60, .dead), (72, .dead), (90, .dead), (93, .dead), (94, .dead), (95, .dead), (96, .dead), (124, .dead), (126, .dead), (136, .dead), (148, .dead)], [], 0, []⟩) (by kernel_rfl))) ⟨n, Nat.lt_succ_self n, _, _, _, h3975, rfl⟩
                        · have hh := bnd'_some h3975; clear h3975; obtain ⟨p3866, h3867, h3975⟩ := hh
                          refine W_sound tab_ok mixed 39 _ _ _ ?_
                          simp -implicitDefEqProofs only [go_sem, ne_eq, not_false_eq_true, Nat.reduceBEq, Nat.reduceAdd, Nat.reduceSub, Nat.reduceMul, Nat.reduceLT, Nat.reduceLeDiff, Int.reduceLE, Int.reduceLT, Int.reduceToNat, Int.reduceBEq, Int.reduceBNe, Int.le_refl, Nat.le_refl, decide_true, decide_false, Int.cast_ofNat_Int, ↓reduceIte, h3331, g3333, h3336, h3341, h3344, h3347, h3349, h3829, h3832, h3836, h3838, h3840, h3845, h3849, h3850, h3858]
                          repeat with_reducible refine And.intro (by first | kernel_rfl | decide) ?_
                          refine Wp_callP (c51 N _ _ _ _ _ h3867) (by kernel_rfl) rfl rfl rfl rfl (by decide) ?_
                          have hh := getB_some h3975; clear h3975; obtain ⟨b3869, h3868, h3975⟩ := hh
                          have hh := brn_some h3975; clear h3975; rcases hh with ⟨h3870, h3975⟩ | ⟨h3870, h3975⟩
                          · have hh := brn_some h3975; clear h3975; rcases hh with ⟨h3871, h3975⟩ | ⟨h3871, h3975⟩
                            · have hh := brn_some h3975; clear h3975; rcases hh with ⟨h3872, h3975⟩ | ⟨h3872, h3975⟩
                              · have hh := grd_some h3975; clear h3975; obtain ⟨g3873, h3975⟩ := hh
                                have hh := brn_some h3975; clear h3975; rcases hh with ⟨h3874, h3975⟩ | ⟨h3874, h3975⟩
                                · have hh := bnd'_some h3975; clear h3975; obtain ⟨p3875, h3876, h3975⟩ := hh
                                  refine W_sound tab_ok mixed 39 _ _ _ ?_
                                  simp -implicitDefEqProofs only [go_sem, ne_eq, not_false_eq_true, Nat.reduceBEq, Nat.reduceAdd, Nat.reduceSub, Nat.reduceMul, Nat.reduceLT, Nat.reduceLeDiff, Int.reduceLE, Int.reduceLT, Int.reduceToNat, Int.reduceBEq, Int.reduceBNe, Int.le_refl, Nat.le_refl, decide_true, decide_false, Int.cast_ofNat_Int, ↓reduceIte, h3331, g3333, h3336, h3341, h3344, h3347, h3349, h3829, h3832, h3836, h3838, h3840, h3845, h3849, h3850, h3858, h3868, h3870, h3871, h3872, g3873, h3874]
                                  repeat with_reducible refine And.intro (by first | kernel_rfl | decide) ?_
                                  refine Wp_callP (c30 N _ _ _ _ _ h3876) (by kernel_rfl) rfl rfl rfl rfl (by decide) ?_
                                  have hh := getI_some h3975; clear h3975; obtain ⟨x3878, h3877, h3975⟩ := hh
                                  have hh := brn_some h3975; clear h3975; rcases hh with ⟨h3879, h3975⟩ | ⟨h3879, h3975⟩
                                  · refine W_sound tab_ok mixed 11 _ _ _ ?_
                                    simp -implicitDefEqProofs only [go_sem, ne_eq, not_false_eq_true, Nat.reduceBEq, Nat.reduceAdd, Nat.reduceSub, Nat.reduceMul, Nat.reduceLT, Nat.reduceLeDiff, Int.reduceLE, Int.reduceLT, Int.reduceToNat, Int.reduceBEq, Int.reduceBNe, Int.le_refl, Nat.le_refl, decide_true, decide_false, Int.cast_ofNat_Int, ↓reduceIte, h3331, g3333, h3336, h3341, h3344, h3347, h3349, h3829, h3832, h3836, h3838, h3840, h3845, h3849, h3850, h3858, h3868, h3870, h3871, h3872, g3873, h3874, h3877, h3879]
                                    repeat with_reducible refine And.intro (by first | kernel_rfl | decide) ?_
                                    obtain rfl := Option.some.inj h3975
                                    (try dsimp only at h3976)
                                    obtain rfl := Option.some.inj h3976
                                    (try dsimp only at h3973)
                                    obtain rfl := Option.some.inj h3973
                                    (try dsimp only at h3970)
                                    obtain rfl := Option.some.inj h3970
                                    exact finC [(2, .v (.bool false))] [(2, .v (.bool false))] (by simp [leE, lk_cons]) (.cons _ _ _ _ _ (.v _ _ (.refl _)) .nil) (by rfl) (by simp [leE, lk_cons]) (by decide) (by decide) rfl (by simp only [go_sem, ne_eq, not_false_eq_true, Nat.reduceBEq, Nat.reduceAdd, Nat.reduceSub, Nat.reduceMul, Nat.reduceLT, Nat.reduceLeDiff, Int.reduceLE, Int.reduceLT, Int.reduceToNat, Int.reduceBEq, Int.reduceBNe, Int.le_refl, Nat.le_refl, decide_true, decide_false, Int.cast_ofNat_Int, ↓reduceIte, resQ_tmp, resQ_cell, resQ_nil, retD_one, retD_two, retD_three, retD_none]; try simp [R.val, retD_one, retD_two, retD_three, retD_none])
                                  · refine W_sound tab_ok mixed 11 _ _ _ ?_
                                    simp -implicitDefEqProofs only [go_sem, ne_eq, not_false_eq_true, Nat.reduceBEq, Nat.reduceAdd, Nat.reduceSub, Nat.reduceMul, Nat.reduceLT, Nat.reduceLeDiff, Int.reduceLE, Int.reduceLT, Int.reduceToNat, Int.reduceBEq, Int.reduceBNe, Int.le_refl, Nat.le_refl, decide_true, decide_false, Int.cast_ofNat_Int, ↓reduceIte, h3331, g3333, h3336, h3341, h3344, h3347, h3349, h3829, h3832, h3836, h3838, h3840, h3845, h3849, h3850, h3858, h3868, h3870, h3871, h3872, g3873, h3874, h3877, h3879]
                                    repeat with_reducible refine And.intro (by first | kernel_rfl | decide) ?_
                                    exact cutQ _ ((Wk_le (.cons _ _ _ _ _ (.refl _) (.cons _ _ _ _ _ (.refl _) (.cons _ _ _ _ _ (.refl _) (.cons _ _ _ _ _ (.refl _) (.cons _ _ _ _ _ (.refl _) (.cons _ _ _ _ _ (.refl _) (.cons _ _ _ _ _ (.refl _) (.cons _ _ _ _ _ (.refl _) (.cons _ _ _ _ _ (.refl _) (.cons _ _ _ _ _ (.refl _) (.cons _ _ _ _ _ (.refl _) (.cons _ _ _ _ _ (.refl _) (.cons _ _ _ _ _ (.refl _) (.cons _ _ _ _ _ (.refl _) (.cons _ _ _ _ _ (.dead _) (.cons _ _ _ _ _ (.dead _) (.cons _ _ _ _ _ (.refl _) (.cons _ _ _ _ _ (.refl _) (.cons _ _ _ _ _ (.refl _) (.cons _ _ _ _ _ (.refl _) (.cons _ _ _ _ _ (.refl _) (.cons _ _ _ _ _ (.refl _) (.cons _ _ _ _ _ (.refl _) (.cons _ _ _ _ _ (.refl _) (.cons _ _ _ _ _ (.refl _) (.cons _ _ _ _ _ (.refl _) (.cons _ _ _ _ _ (.refl _) (.cons _ _ _ _ _ (.refl _) (.cons _ _ _ _ _ (.dead _) (.cons _ _ _ _ _ (.dead _) (.cons _ _ _ _ _ (.dead _) (.cons _ _ _ _ _ (.dead _) (.cons _ _ _ _ _ (.dead _) (.cons _ _ _ _ _ (.refl _) (.cons _ _ _ _ _ (.refl _) (.cons _ _ _ _ _ (.refl _) (.cons _ _ _ _ _ (.refl _) (.cons _ _ _ _ _ (.refl _) (.cons _ _ _ _ _ (.refl _) (.cons _ _ _ _ _ (.refl _) (.cons _ _ _ _ _ (.refl _) .nil))))))))))))))))))))))))))))))))))))))))) (OLe.refl _)).trans (cmpS_ok (st' := ⟨[], [(0, .dead), (1, .dead), (2, .dead), (3, .v (.ipt [(.lst false n3337 c3338)])), (4, .v (.lst false n3345 c3346)), (5, .dead), (6, .v (.fn 51 [(.ipt [(.lst false n3337 c3338)])])), (7, .v (.int .i64 x3828)), (8, .v (.int .i64 x3837)), (9, .v (.int .i64 x3839)), (10, .v (.int .i64 x3841)), (11, .v (.int .i64 x3844)), (12, .v (.int .i64 x3848)), (13, .v (.int .i64 x3844)), (14, .dead), (15, .dead), (16, .dead), (17, .dead), (18, .dead), (27, .dead), (30, .v (.int .i64 ((n3337 : Nat) : Int))), (31, .v (.int .i64 x3828)), (32, .dead), (42, .v (.int .i64 ((n3337 : Nat) : Int))), (43, .v (.int .i64 x3844)), (44, .dead), (47, .v (.int .i64 ((n3337 : Nat) : Int))), (48, .v (.int .i64 (IntKind.i64.wrap (x3848 + 1)))), (49, .dead), (51, .dead), (60, .dead), (72, .dead), (90, .dead), (93, .dead), (94, .dead), (95, .dead), (96, .dead), (124, .dead), (126, .dead), (136, .dead), (148, .dead)], [], 0, []⟩) (by kernel_rfl))) ⟨n, Nat.lt_succ_self n, _, _, _, h3975, rfl⟩
                                · refine W_sound tab_ok mixed 51 _ _ _ ?_
                                  simp -implicitDefEqProofs only [go_sem, ne_eq, not_false_eq_true, Nat.reduceBEq, Nat.reduceAdd, Nat.reduceSub, Nat.reduceMul, Nat.reduceLT, Nat.reduceLeDiff, Int.reduceLE, Int.reduceLT, Int.reduceToNat, Int.reduceBEq, Int.reduceBNe, Int.le_refl, Nat.le_refl, decide_true, decide_false, Int.cast_ofNat_Int, ↓reduceIte, h3331, g3333, h3336, h3341, h3344, h3347, h3349, h3829, h3832, h3836, h3838, h3840, h3845, h3849, h3850, h3858, h3868, h3870, h3871, h3872, g3873, h3874]
                                  repeat with_reducible refine And.intro (by first | kernel_rfl | decide) ?_
                                  exact cutQ _ ((Wk_le (.cons _ _ _ _ _ (.refl _) (.cons _ _ _ _ _ (.refl _) (.cons _ _ _ _ _ (.refl _) (.cons _ _ _ _ _ (.refl _) (.cons _ _ _ _ _ (.refl _) (.cons _ _ _ _ _ (.refl _) (.cons _ _ _ _ _ (.refl _) (.cons _ _ _ _ _ (.refl _) (.cons _ _ _ _ _ (.refl _) (.cons _ _ _ _ _ (.refl _) (.cons _ _ _ _ _ (.refl _) (.cons _ _ _ _ _ (.refl _) (.cons _ _ _ _ _ (.refl _) (.cons _ _ _ _ _ (.refl _) (.cons _ _ _ _ _ (.dead _) (.cons _ _ _ _ _ (.dead _) (.cons _ _ _ _ _ (.refl _) (.cons _ _ _ _ _ (.refl _) (.cons _ _ _ _ _ (.refl _) (.cons _ _ _ _ _ (.refl _) (.cons _ _ _ _ _ (.refl _) (.cons _ _ _ _ _ (.refl _) (.cons _ _ _ _ _ (.refl _) (.cons _ _ _ _ _ (.refl _) (.cons _ _ _ _ _ (.refl _) (.cons _ _ _ _ _ (.refl _) (.cons _ _ _ _ _ (.refl _) (.cons _ _ _ _ _ (.refl _) (.cons _ _ _ _ _ (.dead _) (.cons _ _ _ _ _ (.dead _) (.cons _ _ _ _ _ (.dead _) (.cons _ _ _ _ _ (.dead _) (.cons _ _ _ _ _ (.dead _) (.cons _ _ _ _ _ (.refl _) (.cons _ _ _ _ _ (.refl _) (.cons _ _ _ _ _ (.refl _) (.cons _ _ _ _ _ (.refl _) (.cons _ _ _ _ _ (.refl _) (.cons _ _ _ _ _ (.refl _) (.cons _ _ _ _ _ (.refl _) (.cons _ _ _ _ _ (.refl _) .nil))))))))))))))))))))))))))))))))))))))))) (OLe.refl _)).trans (cmpS_ok (st' := ⟨[], [(0, .dead), (1, .dead), (2, .dead), (3, .v (.ipt [(.lst false n3337 c3338)])), (4, .v (.lst false n3345 c3346)), (5, .dead), (6, .v (.fn 51 [(.ipt [(.lst false n3337 c3338)])])), (7, .v (.int .i64 x3828)), (8, .v (.int .i64 x3837)), (9, .v (.int .i64 x3839)), (10, .v (.int .i64 x3841)), (11, .v (.int .i64 x3844)), (12, .v (.int .i64 x3848)), (13, .v (.int .i64 x3844)), (14, .dead), (15, .dead), (16, .dead), (17, .dead), (18, .dead), (27, .dead), (30, .v (.int .i64 ((n3337 : Nat) : Int))), (31, .v (.int .i64 x3828)), (32, .dead), (42, .v (.int .i64 ((n3337 : Nat) : Int))), (43, .v (.int .i64 x3844)), (44, .dead), (47, .v (.int .i64 ((n3337 : Nat) : Int))), (48, .v (.int .i64 (IntKind.i64.wrap (x3848 + 1)))), (49, .dead), (51, .dead), (60, .dead), (72, .dead), (90, .dead), (93, .dead), (94, .dead), (95, .dead), (96, .dead), (124, .dead), (126, .dead), (136, .dead), (148, .dead)], [], 0, []⟩) (by kernel_rfl))) ⟨n, Nat.lt_succ_self n, _, _, _, h3975, rfl⟩
                              · have hh := grd_some h3975; clear h3975; obtain ⟨g3880, h3975⟩ := hh
                                have hh := brn_some h3975; clear h3975; rcases hh with ⟨h3881, h3975⟩ | ⟨h3881, h3975⟩
                                · have hh := bnd'_some h3975; clear h3975; obtain ⟨p3882, h3883, h3975⟩ := hh
                                  refine W_sound tab_ok mixed 34 _ _ _ ?_
                                  simp -implicitDefEqProofs only [go_sem, ne_eq, not_false_eq_true, Nat.reduceBEq, Nat.reduceAdd, Nat.reduceSub, Nat.reduceMul, Nat.reduceLT, Nat.reduceLeDiff, Int.reduceLE, Int.reduceLT, Int.reduceToNat, Int.reduceBEq, Int.reduceBNe, Int.le_refl, Nat.le_refl, decide_true, decide_false, Int.cast_ofNat_Int, ↓reduceIte, h3331, g3333, h3336, h3341, h3344, h3347, h3349, h3829, h3832, h3836, h3838, h3840, h3845, h3849, h3850, h3858, h3868, h3870, h3871, h3872, g3880, h3881]
                                  repeat with_reducible refine And.intro (by first | kernel_rfl | decide) ?_
                                  refine Wp_callP (c30 N _ _ _ _ _ h3883) (by kernel_rfl) rfl rfl rfl rfl (by decide) ?_
                                  have hh := getI_some h3975; clear h3975; obtain ⟨x3885, h3884, h3975⟩ := hh
                                  have hh := brn_some h3975; clear h3975; rcases hh with ⟨h3886, h3975⟩ | ⟨h3886, h3975⟩
                                  · refine W_sound tab_ok mixed 11 _ _ _ ?_
                                    simp -implicitDefEqProofs only [go_sem, ne_eq, not_false_eq_true, Nat.reduceBEq, Nat.reduceAdd, Nat.reduceSub, Nat.reduceMul, Nat.reduceLT, Nat.reduceLeDiff, Int.reduceLE, Int.reduceLT, Int.reduceToNat, Int.reduceBEq, Int.reduceBNe, Int.le_refl, Nat.le_refl, decide_true, decide_false, Int.cast_ofNat_Int, ↓reduceIte, h3331, g3333, h3336, h3341, h3344, h3347, h3349, h3829, h3832, h3836, h3838, h3840, h3845, h3849, h3850, h3858, h3868, h3870, h3871, h3872, g3880, h3881, h3884, h3886]
                                    repeat with_reducible refine And.intro (by first | kernel_rfl | decide) ?_
                                    obtain rfl := Option.some.inj h3975
                                    (try dsimp only at h3976)
                                    obtain rfl := Option.some.inj h3976
                                    (try dsimp only at h3973)
                                    obtain rfl := Option.some.inj h3973
                                    (try dsimp only at h3970)
                                    obtain rfl := Option.some.inj h3970
                                    exact finC [(2, .v (.bool false))] [(2, .v (.bool false))] (by simp [leE, lk_cons]) (.cons _ _ _ _ _ (.v _ _ (.refl _)) .nil) (by rfl) (by simp [leE, lk_cons]) (by decide) (by decide) rfl (by simp only [go_sem, ne_eq, not_false_eq_true, Nat.reduceBEq, Nat.reduceAdd, Nat.reduceSub, Nat.reduceMul, Nat.reduceLT, Nat.reduceLeDiff, Int.reduceLE, Int.reduceLT, Int.reduceToNat, Int.reduceBEq, Int.reduceBNe, Int.le_refl, Nat.le_refl, decide_true, decide_false, Int.cast_ofNat_Int, ↓reduceIte, resQ_tmp, resQ_cell, resQ_nil, retD_one, retD_two, retD_three, retD_none]; try simp [R.val, retD_one, retD_two, retD_three, retD_none])
                                  · refine W_sound tab_ok mixed 11 _ _ _ ?_
                                    simp -implicitDefEqProofs only [go_sem, ne_eq, not_false_eq_true, Nat.reduceBEq, Nat.reduceAdd, Nat.reduceSub, Nat.reduceMul, Nat.reduceLT, Nat.reduceLeDiff, Int.reduceLE, Int.reduceLT, Int.reduceToNat, Int.reduceBEq, Int.reduceBNe, Int.le_refl, Nat.le_refl, decide_true, decide_false, Int.cast_ofNat_Int, ↓reduceIte, h3331, g3333, h3336, h3341, h3344, h3347, h3349, h3829, h3832, h3836, h3838, h3840, h3845, h3849, h3850, h3858, h3868, h3870, h3871, h3872, g3880, h3881, h3884, h3886]
                                    repeat with_reducible refine And.intro (by first | kernel_rfl | decide) ?_
                                    exact cutQ _ ((Wk_le (.cons _ _ _ _ _ (.refl _) (.cons _ _ _ _ _ (.refl _) (.cons _ _ _ _ _ (.refl _) (.cons _ _ _ _ _ (.refl _) (.cons _ _ _ _ _ (.refl _) (.cons _ _ _ _ _ (.refl _) (.cons _ _ _ _ _ (.refl _) (.cons _ _ _ _ _ (.refl _) (.cons _ _ _ _ _ (.refl _) (.cons _ _ _ _ _ (.refl _) (.cons _ _ _ _ _ (.refl _) (.cons _ _ _ _ _ (.refl _) (.cons _ _ _ _ _ (.refl _) (.cons _ _ _ _ _ (.refl _) (.cons _ _ _ _ _ (.dead _) (.cons _ _ _ _ _ (.dead _) (.cons _ _ _ _ _ (.refl _) (.cons _ _ _ _ _ (.refl _) (.cons _ _ _ _ _ (.refl _) (.cons _ _ _ _ _ (.refl _) (.cons _ _ _ _ _ (.refl _) (.cons _ _ _ _ _ (.refl _) (.cons _ _ _ _ _ (.refl _) (.cons _ _ _ _ _ (.refl _) (.cons _ _ _ _ _ (.refl _) (.cons _ _ _ _ _ (.refl _) (.cons _ _ _ _ _ (.refl _) (.cons _ _ _ _ _ (.refl _) (.cons _ _ _ _ _ (.dead _) (.cons _ _ _ _ _ (.dead _) (.cons _ _ _ _ _ (.dead _) (.cons _ _ _ _ _ (.dead _) (.cons _ _ _ _ _ (.dead _) (.cons _ _ _ _ _ (.refl _) (.cons _ _ _ _ _ (.refl _) (.cons _ _ _ _ _ (.refl _) (.cons _ _ _ _ _ (.refl _) (.cons _ _ _ _ _ (.refl _) (.cons _ _ _ _ _ (.refl _) (.cons _ _ _ _ _ (.refl _) (.cons _ _ _ _ _ (.refl _) .nil))))))))))))))))))))))))))))))))))))))))) (OLe.refl _)).trans (cmpS_ok (st' := ⟨[], [(0, .dead), (1, .dead), (2, .dead), (3, .v (.ipt [(.lst false n3337 c3338)])), (4, .v (.lst false n3345 c3346)), (5, .dead), (6, .v (.fn 51 [(.ipt [(.lst false n3337 c3338)])])), (7, .v (.int .i64 x3828)), (8, .v (.int .i64 x3837)), (9, .v (.int .i64 x3839)), (10, .v (.int .i64 x3841)), (11, .v (.int .i64 x3846)), (12, .v (.int .i64 x3847)), (13, .v (.int .i64 x3844)), (14, .dead), (15, .dead), (16, .dead), (17, .dead), (18, .dead), (27, .dead), (30, .v (.int .i64 ((n3337 : Nat) : Int))), (31, .v (.int .i64 x3828)), (32, .dead), (42, .v (.int .i64 ((n3337 : Nat) : Int))), (43, .v (.int .i64 x3844)), (44, .dead), (47, .v (.int .i64 ((n3337 : Nat) : Int))), (48, .v (.int .i64 (IntKind.i64.wrap (x3848 + 1)))), (49, .dead), (51, .dead), (60, .dead), (72, .dead), (90, .dead), (93, .dead), (94, .dead), (95, .dead), (96, .dead), (124, .dead), (126, .dead), (136, .dead), (148, .dead)], [], 0, []⟩) (by kernel_rfl))) ⟨n, Nat.lt_succ_self n, _, _, _, h3975, rfl⟩
                                · refine W_sound tab_ok mixed 46 _ _ _ ?_
                                  simp -implicitDefEqProofs only [go_sem, ne_eq, not_false_eq_true, Nat.reduceBEq, Nat.reduceAdd, Nat.reduceSub, Nat.reduceMul, Nat.reduceLT, Nat.reduceLeDiff, Int.reduceLE, Int.reduceLT, Int.reduceToNat, Int.reduceBEq, Int.reduceBNe, Int.le_refl, Nat.le_refl, decide_true, decide_false, Int.cast_ofNat_Int, ↓reduceIte, h3331, g3333, h3336, h3341, h3344, h3347, h3349, h3829, h3832, h3836, h3838, h3840, h3845, h3849, h3850, h3858, h3868, h3870, h3871, h3872, g3880, h3881]
                                  repeat with_reducible refine And.intro (by first | kernel_rfl | decide) ?_
                                  exact cutQ _ ((Wk_le (.cons _ _ _ _ _ (.refl _) (.cons _ _ _ _ _ (.refl _) (.cons _ _ _ _ _ (.refl _) (.cons _ _ _ _ _ (.refl _) (.cons _ _ _ _ _ (.refl _) (.cons _ _ _ _ _ (.refl _) (.cons _ _ _ _ _ (.refl _) (.cons _ _ _ _ _ (.refl _) (.cons _ _ _ _ _ (.refl _) (.cons _ _ _ _ _ (.refl _) (.cons _ _ _ _ _ (.refl _) (.cons _ _ _ _ _ (.refl _) (.cons _ _ _ _ _ (.refl _) (.cons _ _ _ _ _ (.refl _) (.cons _ _ _ _ _ (.dead _) (.cons _ _ _ _ _ (.dead _) (.cons _ _ _ _ _ (.refl _) (.cons _ _ _ _ _ (.refl _) (.cons _ _ _ _ _ (.refl _) (.cons _ _ _ _ _ (.refl _) (.cons _ _ _ _ _ (.refl _) (.cons _ _ _ _ _ (.refl _) (.cons _ _ _ _ _ (.refl _) (.cons _ _ _ _ _ (.refl _) (.cons _ _ _ _ _ (.refl _) (.cons _ _ _ _ _ (.refl _) (.cons _ _ _ _ _ (.refl _) (.cons _ _ _ _ _ (.refl _) (.cons _ _ _ _ _ (.dead _) (.cons _ _ _ _ _ (.dead _) (.cons _ _ _ _ _ (.dead _) (.cons _ _ _ _ _ (.dead _) (.cons _ _ _ _ _ (.dead _) (.cons _ _ _ _ _ (.refl _) (.cons _ _ _ _ _ (.refl _) (.cons _ _ _ _ _ (.refl _) (.cons _ _ _ _ _ (.refl _) (.cons _ _ _ _ _ (.refl _) (.cons _ _ _ _ _ (.refl _) (.cons _ _ _ _ _ (.refl _) (.cons _ _ _ _ _ (.refl _) .nil))))))))))))))))))))))))))))))))))))))))) (OLe.refl _)).trans (cmpS_ok (st' := ⟨[], [(0, .dead), (1, .dead), (2, .dead), (3, .v (.ipt [(.lst false n3337 c3338)])), (4, .v (.lst false n3345 c3346)), (5, .dead), (6, .v (.fn 51 [(.ipt [(.lst false n3337 c3338)])])), (7, .v (.int .i64 x3828)), (8, .v (.int .i64 x3837)), (9, .v (.int .i64 x3839)), (10, .v (.int .i64 x3841)), (11, .v (.int .i64 x3846)), (12, .v (.int .i64 x3847)), (13, .v (.int .i64 x3844)), (14, .dead), (15, .dead), (16, .dead), (17, .dead), (18, .dead), (27, .dead), (30, .v (.int .i64 ((n3337 : Nat) : Int))), (31, .v (.int .i64 x3828)), (32, .dead), (42, .v (.int .i64 ((n3337 : Nat) : Int))), (43, .v (.int .i64 x3844)), (44, .dead), (47, .v (.int .i64 ((n3337 : Nat) : Int))), (48, .v (.int .i64 (IntKind.i64.wrap (x3848 + 1)))), (49, .dead), (51, .dead), (60, .dead), (72, .dead), (90, .dead), (93, .dead), (94, .dead), (95, .dead), (96, .dead), (124, .dead), (126, .dead), (136, .dead), (148, .dead)], [], 0, []⟩) (by kernel_rfl))) ⟨n, Nat.lt_succ_self n, _, _, _, h3975, rfl⟩
                            · have hh := grd_some h3975; clear h3975; obtain ⟨g3887, h3975⟩ := hh
                              have hh := brn_some h3975; clear h3975; rcases hh with ⟨h3888, h3975⟩ | ⟨h3888, h3975⟩
                              · have hh := bnd'_some h3975; clear h3975; obtain ⟨p3889, h3890, h3975⟩ := hh
                                refine W_sound tab_ok mixed 34 _ _ _ ?_
                                simp -implicitDefEqProofs only [go_sem, ne_eq, not_false_eq_true, Nat.reduceBEq, Nat.reduceAdd, Nat.reduceSub, Nat.reduceMul, Nat.reduceLT, Nat.reduceLeDiff, Int.reduceLE, Int.reduceLT, Int.reduceToNat, Int.reduceBEq, Int.reduceBNe, Int.le_refl, Nat.le_refl, decide_true, decide_false, Int.cast_ofNat_Int, ↓reduceIte, h3331, g3333, h3336, h3341, h3344, h3347, h3349, h3829, h3832, h3836, h3838, h3840, h3845, h3849, h3850, h3858, h3868, h3870, h3871, g3887, h3888]
                                repeat with_reducible refine And.intro (by first | kernel_rfl | decide) ?_
                                refine Wp_callP (c30 N _ _ _ _ _ h3890) (by kernel_rfl) rfl rfl rfl rfl (by decide) ?_
                                have hh := getI_some h3975; clear h3975; obtain ⟨x3892, h3891, h3975⟩ := hh
                                have hh := brn_some h3975; clear h3975; rcases hh with ⟨h3893, h3975⟩ | ⟨h3893, h3975⟩
                                · refine W_sound tab_ok mixed 11 _ _ _ ?_
                                  simp -implicitDefEqProofs only [go_sem, ne_eq, not_false_eq_true, Nat.reduceBEq, Nat.reduceAdd, Nat.reduceSub, Nat.reduceMul, Nat.reduceLT, Nat.reduceLeDiff, Int.reduceLE, Int.reduceLT, Int.reduceToNat, Int.reduceBEq, Int.reduceBNe, Int.le_refl, Nat.le_refl, decide_true, decide_false, Int.cast_ofNat_Int, ↓reduceIte, h3331, g3333, h3336, h3341, h3344, h3347, h3349, h3829, h3832, h3836, h3838, h3840, h3845, h3849, h3850, h3858, h3868, h3870, h3871, g3887, h3888, h3891, h3893]
                                  repeat with_reducible refine And.intro (by first | kernel_rfl | decide) ?_
                                  obtain rfl := Option.some.inj h3975
                                  (try dsimp only at h3976)
                                  obtain rfl := Option.some.inj h3976
                                  (try dsimp only at h3973)
                                  obtain rfl := Option.some.inj h3973
                                  (try dsimp only at h3970)
                                  obtain rfl := Option.some.inj h3970
                                  exact finC [(2, .v (.bool false))] [(2, .v (.bool false))] (by simp [leE, lk_cons]) (.cons _ _ _ _ _ (.v _ _ (.refl _)) .nil) (by rfl) (by simp [leE, lk_cons]) (by decide) (by decide) rfl (by simp only [go_sem, ne_eq, not_false_eq_true, Nat.reduceBEq, Nat.reduceAdd, Nat.reduceSub, Nat.reduceMul, Nat.reduceLT, Nat.reduceLeDiff, Int.reduceLE, Int.reduceLT, Int.reduceToNat, Int.reduceBEq, Int.reduceBNe, Int.le_refl, Nat.le_refl, decide_true, decide_false, Int.cast_ofNat_Int, ↓reduceIte, resQ_tmp, resQ_cell, resQ_nil, retD_one, retD_two, retD_three, retD_none]; try simp [R.val, retD_one, retD_two, retD_three, retD_none])
                                · refine W_sound tab_ok mixed 11 _ _ _ ?_
                                  simp -implicitDefEqProofs only [go_sem, ne_eq, not_false_eq_true, Nat.reduceBEq, Nat.reduceAdd, Nat.reduceSub, Nat.reduceMul, Nat.reduceLT, Nat.reduceLeDiff, Int.reduceLE, Int.reduceLT, Int.reduceToNat, Int.reduceBEq, Int.reduceBNe, Int.le_refl, Nat.le_refl, decide_true, decide_false, Int.cast_ofNat_Int, ↓reduceIte, h3331, g3333, h3336, h3341, h3344, h3347, h3349, h3829, h3832, h3836, h3838, h3840, h3845, h3849, h3850, h3858, h3868, h3870, h3871, g3887, h3888, h3891, h3893]
                                  repeat with_reducible refine And.intro (by first | kernel_rfl | decide) ?_
                                  exact cutQ _ ((Wk_le (.cons _ _ _ _ _ (.refl _) (.cons _ _ _ _ _ (.refl _) (.cons _ _ _ _ _ (.refl _) (.cons _ _ _ _ _ (.refl _) (.cons _ _ _ _ _ (.refl _) (.cons _ _ _ _ _ (.refl _) (.cons _ _ _ _ _ (.refl _) (.cons _ _ _ _ _ (.refl _) (.cons _ _ _ _ _ (.refl _) (.cons _ _ _ _ _ (.refl _) (.cons _ _ _ _ _ (.refl _) (.cons _ _ _ _ _ (.refl _) (.cons _ _ _ _ _ (.refl _) (.cons _ _ _ _ _ (.refl _) (.cons _ _ _ _ _ (.dead _) (.cons _ _ _ _ _ (.dead _) (.cons _ _ _ _ _ (.refl _) (.cons _ _ _ _ _ (.refl _) (.cons _ _ _ _ _ (.refl _) (.cons _ _ _ _ _ (.refl _) (.cons _ _ _ _ _ (.refl _) (.cons _ _ _ _ _ (.refl _) (.cons _ _ _ _ _ (.refl _) (.cons _ _ _ _ _ (.refl _) (.cons _ _ _ _ _ (.refl _) (.cons _ _ _ _ _ (.refl _) (.cons _ _ _ _ _ (.refl _) (.cons _ _ _ _ _ (.refl _) (.cons _ _ _ _ _ (.dead _) (.cons _ _ _ _ _ (.dead _) (.cons _ _ _ _ _ (.dead _) (.cons _ _ _ _ _ (.dead _) (.cons _ _ _ _ _ (.dead _) (.cons _ _ _ _ _ (.refl _) (.cons _ _ _ _ _ (.refl _) (.cons _ _ _ _ _ (.refl _) (.cons _ _ _ _ _ (.refl _) (.cons _ _ _ _ _ (.refl _) (.cons _ _ _ _ _ (.refl _) (.cons _ _ _ _ _ (.refl _) (.cons _ _ _ _ _ (.refl _) .nil))))))))))))))))))))))))))))))))))))))))) (OLe.refl _)).trans (cmpS_ok (st' := ⟨[], [(0, .dead), (1, .dead), (2, .dead), (3, .v (.ipt [(.lst false n3337 c3338)])), (4, .v (.lst false n3345 c3346)), (5, .dead), (6, .v (.fn 51 [(.ipt [(.lst false n3337 c3338)])])), (7, .v (.int .i64 x3828)), (8, .v (.int .i64 x3837)), (9, .v (.int .i64 x3839)), (10, .v (.int .i64 x3841)), (11, .v (.int .i64 x3846)), (12, .v (.int .i64 x3847)), (13, .v (.int .i64 x3844)), (14, .dead), (15, .dead), (16, .dead), (17, .dead), (18, .dead), (27, .dead), (30, .v (.int .i64 ((n3337 : Nat) : Int))), (31, .v (.int .i64 x3828)), (32, .dead), (42, .v (.int .i64 ((n3337 : Nat) : Int))), (43, .v (.int .i64 x3844)), (44, .dead), (47, .v (.int .i64 ((n3337 : Nat) : Int))), (48, .v (.int .i64 (IntKind.i64.wrap (x3848 + 1)))), (49, .dead), (51, .dead), (60, .dead), (72, .dead), (90, .dead), (93, .dead), (94, .dead), (95, .dead), (96, .dead), (124, .dead), (126, .dead), (136, .dead), (148, .dead)], [], 0, []⟩) (by kernel_rfl))) ⟨n, Nat.lt_succ_self n, _, _, _, h3975, rfl⟩
                              · refine W_sound tab_ok mixed 46 _ _ _ ?_
                                simp -implicitDefEqProofs only [go_sem, ne_eq, not_false_eq_true, Nat.reduceBEq, Nat.reduceAdd, Nat.reduceSub, Nat.reduceMul, Nat.reduceLT, Nat.reduceLeDiff, Int.reduceLE, Int.reduceLT, Int.reduceToNat, Int.reduceBEq, Int.reduceBNe, Int.le_refl, Nat.le_refl, decide_true, decide_false, Int.cast_ofNat_Int, ↓reduceIte, h3331, g3333, h3336, h3341, h3344, h3347, h3349, h3829, h3832, h3836, h3838, h3840, h3845, h3849, h3850, h3858, h3868, h3870, h3871, g3887, h3888]
                                repeat with_reducible refine And.intro (by first | kernel_rfl | decide) ?_
                                exact cutQ _ ((Wk_le (.cons _ _ _ _ _ (.refl _) (.cons _ _ _ _ _ (.refl _) (.cons _ _ _ _ _ (.refl _) (.cons _ _ _ _ _ (.refl _) (.cons _ _ _ _ _ (.refl _) (.cons _ _ _ _ _ (.refl _) (.cons _ _ _ _ _ (.refl _) (.cons _ _ _ _ _ (.refl _) (.cons _ _ _ _ _ (.refl _) (.cons _ _ _ _ _ (.refl _) (.cons _ _ _ _ _ (.refl _) (.cons _ _ _ _ _ (.refl _) (.cons _ _ _ _ _ (.refl _) (.cons _ _ _ _ _ (.refl _) (.cons _ _ _ _ _ (.dead _) (.cons _ _ _ _ _ (.dead _) (.cons _ _ _ _ _ (.refl _) (.cons _ _ _ _ _ (.refl _) (.cons _ _ _ _ _ (.refl _) (.cons _ _ _ _ _ (.refl _) (.cons _ _ _ _ _ (.refl _) (.cons _ _ _ _ _ (.refl _) (.cons _ _ _ _ _ (.refl _) (.cons _ _ _ _ _ (.refl _) (.cons _ _ _ _ _ (.refl _) (.cons _ _ _ _ _ (.refl _) (.cons _ _ _ _ _ (.refl _) (.cons _ _ _ _ _ (.refl _) (.cons _ _ _ _ _ (.dead _) (.cons _ _ _ _ _ (.dead _) (.cons _ _ _ _ _ (.dead _) (.cons _ _ _ _ _ (.dead _) (.cons _ _ _ _ _ (.dead _) (.cons _ _ _ _ _ (.refl _) (.cons _ _ _ _ _ (.refl _) (.cons _ _ _ _ _ (.refl _) (.cons _ _ _ _ _ (.refl _) (.cons _ _ _ _ _ (.refl _) (.cons _ _ _ _ _ (.refl _) (.cons _ _ _ _ _ (.refl _) (.cons _ _ _ _ _ (.refl _) .nil))))))))))))))))))))))))))))))))))))))))) (OLe.refl _)).trans (cmpS_ok (st' := ⟨[], [(0, .dead), (1, .dead), (2, .dead), (3, .v (.ipt [(.lst false n3337 c3338)])), (4, .v (.lst false n3345 c3346)), (5, .dead), (6, .v (.fn 51 [(.ipt [(.lst false n3337 c3338)])])), (7, .v (.int .i64 x3828)), (8, .v (.int .i64 x3837)), (9, .v (.int .i64 x3839)), (10, .v (.int .i64 x3841)), (11, .v (.int .i64 x3846)), (12, .v (.int .i64 x3847)), (13, .v (.int .i64 x3844)), (14, .dead), (15, .dead), (16, .dead), (17, .dead), (18, .dead), (27, .dead), (30, .v (.int .i64 ((n3337 : Nat) : Int))), (31, .v (.int .i64 x3828)), (32, .dead), (42, .v (.int .i64 ((n3337 : Nat) : Int))), (43, .v (.int .i64 x3844)), (44, .dead), (47, .v (.int .i64 ((n3337 : Nat) : Int))), (48, .v (.int .i64 (IntKind.i64.wrap (x3848 + 1)))), (49, .dead), (51, .dead), (60, .dead), (72, .dead), (90, .dead), (93, .dead), (94, .dead), (95, .dead), (96, .dead), (124, .dead), (126, .dead), (136, .dead), (148, .dead)], [], 0, []⟩) (by kernel_rfl))) ⟨n, Nat.lt_succ_self n, _, _, _, h3975, rfl⟩
                          · have hh := grd_some h3975; clear h3975; obtain ⟨g3894, h3975⟩ := hh
                            have hh := brn_some h3975; clear h3975; rcases hh with ⟨h3895, h3975⟩ | ⟨h3895, h3975⟩
                            · have hh := bnd'_some h3975; clear h3975; obtain ⟨p3896, h3897, h3975⟩ := hh
                              refine W_sound tab_ok mixed 19 _ _ _ ?_
                              simp -implicitDefEqProofs only [go_sem, ne_eq, not_false_eq_true, Nat.reduceBEq, Nat.reduceAdd, Nat.reduceSub, Nat.reduceMul, Nat.reduceLT, Nat.reduceLeDiff, Int.reduceLE, Int.reduceLT, Int.reduceToNat, Int.reduceBEq, Int.reduceBNe, Int.le_refl, Nat.le_refl, decide_true, decide_false, Int.cast_ofNat_Int, ↓reduceIte, h3331, g3333, h3336, h3341, h3344, h3347, h3349, h3829, h3832, h3836, h3838, h3840, h3845, h3849, h3850, h3858, h3868, h3870, g3894, h3895]
                              repeat with_reducible refine And.intro (by first | kernel_rfl | decide) ?_
                              refine Wp_callP (c30 N _ _ _ _ _ h3897) (by kernel_rfl) rfl rfl rfl rfl (by decide) ?_
                              have hh := getI_some h3975; clear h3975; obtain ⟨x3899, h3898, h3975⟩ := hh
                              have hh := brn_some h3975; clear h3975; rcases hh with ⟨h3900, h3975⟩ | ⟨h3900, h3975⟩
                              · refine W_sound tab_ok mixed 11 _ _ _ ?_
                                simp -implicitDefEqProofs only [go_sem, ne_eq, not_false_eq_true, Nat.reduceBEq, Nat.reduceAdd, Nat.reduceSub, Nat.reduceMul, Nat.reduceLT, Nat.reduceLeDiff, Int.reduceLE, Int.reduceLT, Int.reduceToNat, Int.reduceBEq, Int.reduceBNe, Int.le_refl, Nat.le_refl, decide_true, decide_false, Int.cast_ofNat_Int, ↓reduceIte, h3331, g3333, h3336, h3341, h3344, h3347, h3349, h3829, h3832, h3836, h3838, h3840, h3845, h3849, h3850, h3858, h3868, h3870, g3894, h3895, h3898, h3900]
                                repeat with_reducible refine And.intro (by first | kernel_rfl | decide) ?_
                                obtain rfl := Option.some.inj h3975
                                (try dsimp only at h3976)
                                obtain rfl := Option.some.inj h3976
                                (try dsimp only at h3973)
                                obtain rfl := Option.some.inj h3973
                                (try dsimp only at h3970)
                                obtain rfl := Option.some.inj h3970
                                exact finC [(2, .v (.bool false))] [(2, .v (.bool false))] (by simp [leE, lk_cons]) (.cons _ _ _ _ _ (.v _ _ (.refl _)) .nil) (by rfl) (by simp [leE, lk_cons]) (by decide) (by decide) rfl (by simp only [go_sem, ne_eq, not_false_eq_true, Nat.reduceBEq, Nat.reduceAdd, Nat.reduceSub, Nat.reduceMul, Nat.reduceLT, Nat.reduceLeDiff, Int.reduceLE, Int.reduceLT, Int.reduceToNat, Int.reduceBEq, Int.reduceBNe, Int.le_refl, Nat.le_refl, decide_true, decide_false, Int.cast_ofNat_Int, ↓reduceIte, resQ_tmp, resQ_cell, resQ_nil, retD_one, retD_two, retD_three, retD_none]; try simp [R.val, retD_one, retD_two, retD_three, retD_none])
                              · refine W_sound tab_ok mixed 11 _ _ _ ?_
                                simp -implicitDefEqProofs only [go_sem, ne_eq, not_false_eq_true, Nat.reduceBEq, Nat.reduceAdd, Nat.reduceSub, Nat.reduceMul, Nat.reduceLT, Nat.reduceLeDiff, Int.reduceLE, Int.reduceLT, Int.reduceToNat, Int.reduceBEq, Int.reduceBNe, Int.le_refl, Nat.le_refl, decide_true, decide_false, Int.cast_ofNat_Int, ↓reduceIte, h3331, g3333, h3336, h3341, h3344, h3347, h3349, h3829, h3832, h3836, h3838, h3840, h3845, h3849, h3850, h3858, h3868, h3870, g3894, h3895, h3898, h3900]
                                repeat with_reducible refine And.intro (by first | kernel_rfl | decide) ?_
                                exact cutQ _ ((Wk_le (.cons _ _ _ _ _ (.refl _) (.cons _ _ _ _ _ (.refl _) (.cons _ _ _ _ _ (.refl _) (.cons _ _ _ _ _ (.refl _) (.cons _ _ _ _ _ (.refl _) (.cons _ _ _ _ _ (.refl _) (.cons _ _ _ _ _ (.refl _) (.cons _ _ _ _ _ (.refl _) (.cons _ _ _ _ _ (.refl _) (.cons _ _ _ _ _ (.refl _) (.cons _ _ _ _ _ (.refl _) (.cons _ _ _ _ _ (.refl _) (.cons _ _ _ _ _ (.refl _) (.cons _ _ _ _ _ (.refl _) (.cons _ _ _ _ _ (.dead _) (.cons _ _ _ _ _ (.dead _) (.cons _ _ _ _ _ (.refl _) (.cons _ _ _ _ _ (.refl _) (.cons _ _ _ _ _ (.refl _) (.cons _ _ _ _ _ (.refl _) (.cons _ _ _ _ _ (.refl _) (.cons _ _ _ _ _ (.refl _) (.cons _ _ _ _ _ (.refl _) (.cons _ _ _ _ _ (.refl _) (.cons _ _ _ _ _ (.refl _) (.cons _ _ _ _ _ (.refl _) (.cons _ _ _ _ _ (.refl _) (.cons _ _ _ _ _ (.refl _) (.cons _ _ _ _ _ (.dead _) (.cons _ _ _ _ _ (.dead _) (.cons _ _ _ _ _ (.dead _) (.cons _ _ _ _ _ (.refl _) (.cons _ _ _ _ _ (.dead _) (.cons _ _ _ _ _ (.refl _) (.cons _ _ _ _ _ (.refl _) (.cons _ _ _ _ _ (.refl _) (.cons _ _ _ _ _ (.refl _) (.cons _ _ _ _ _ (.refl _) (.cons _ _ _ _ _ (.refl _) (.cons _ _ _ _ _ (.refl _) (.cons _ _ _ _ _ (.refl _) .nil))))))))))))))))))))))))))))))))))))))))) (OLe.refl _)).trans (cmpS_ok (st' := ⟨[], [(0, .dead), (1, .dead), (2, .dead), (3, .v (.ipt [(.lst false n3337 c3338)])), (4, .v (.lst false n3345 c3346)), (5, .dead), (6, .v (.fn 51 [(.ipt [(.lst false n3337 c3338)])])), (7, .v (.int .i64 x3828)), (8, .v (.int .i64 x3837)), (9, .v (.int .i64 x3839)), (10, .v (.int .i64 x3841)), (11, .v (.int .i64 x3846)), (12, .v (.int .i64 x3847)), (13, .v (.int .i64 x3844)), (14, .dead), (15, .dead), (16, .dead), (17, .dead), (18, .dead), (27, .dead), (30, .v (.int .i64 ((n3337 : Nat) : Int))), (31, .v (.int .i64 x3828)), (32, .dead), (42, .v (.int .i64 ((n3337 : Nat) : Int))), (43, .v (.int .i64 x3844)), (44, .dead), (47, .v (.int .i64 ((n3337 : Nat) : Int))), (48, .v (.int .i64 (IntKind.i64.wrap (x3848 + 1)))), (49, .dead), (51, .dead), (60, .dead), (72, .dead), (90, .dead), (93, .dead), (94, .dead), (95, .dead), (96, .dead), (124, .dead), (126, .dead), (136, .dead), (148, .dead)], [], 0, []⟩) (by kernel_rfl))) ⟨n, Nat.lt_succ_self n, _, _, _, h3975, rfl⟩
                            · refine W_sound tab_ok mixed 31 _ _ _ ?_
                              simp -implicitDefEqProofs only [go_sem, ne_eq, not_false_eq_true, Nat.reduceBEq, Nat.reduceAdd, Nat.reduceSub, Nat.reduceMul, Nat.reduceLT, Nat.reduceLeDiff, Int.reduceLE, Int.reduceLT, Int.reduceToNat, Int.reduceBEq, Int.reduceBNe, Int.le_refl, Nat.le_refl, decide_true, decide_false, Int.cast_ofNat_Int, ↓reduceIte, h3331, g3333, h3336, h3341, h3344, h3347, h3349, h3829, h3832, h3836, h3838, h3840, h3845, h3849, h3850, h3858, h3868, h3870, g3894, h3895]
                              repeat with_reducible refine And.intro (by first | kernel_rfl | decide) ?_
                              exact cutQ _ ((Wk_le (.cons _ _ _ _ _ (.refl _) (.cons _ _ _ _ _ (.refl _) (.cons _ _ _ _ _ (.refl _) (.cons _ _ _ _ _ (.refl _) (.cons _ _ _ _ _ (.refl _) (.cons _ _ _ _ _ (.refl _) (.cons _ _ _ _ _ (.refl _) (.cons _ _ _ _ _ (.refl _) (.cons _ _ _ _ _ (.refl _) (.cons _ _ _ _ _ (.refl _) (.cons _ _ _ _ _ (.refl _) (.cons _ _ _ _ _ (.refl _) (.cons _ _ _ _ _ (.refl _) (.cons _ _ _ _ _ (.refl _) (.cons _ _ _ _ _ (.dead _) (.cons _ _ _ _ _ (.dead _) (.cons _ _ _ _ _ (.refl _) (.cons _ _ _ _ _ (.refl _) (.cons _ _ _ _ _ (.refl _) (.cons _ _ _ _ _ (.refl _) (.cons _ _ _ _ _ (.refl _) (.cons _ _ _ _ _ (.refl _) (.cons _ _ _ _ _ (.refl _) (.cons _ _ _ _ _ (.refl _) (.cons _ _ _ _ _ (.refl _) (.cons _ _ _ _ _ (.refl _) (.cons _ _ _ _ _ (.refl _) (.cons _ _ _ _ _ (.refl _) (.cons _ _ _ _ _ (.dead _) (.cons _ _ _ _ _ (.dead _) (.cons _ _ _ _ _ (.dead _) (.cons _ _ _ _ _ (.refl _) (.cons _ _ _ _ _ (.dead _) (.cons _ _ _ _ _ (.refl _) (.cons _ _ _ _ _ (.refl _) (.cons _ _ _ _ _ (.refl _) (.cons _ _ _ _ _ (.refl _) (.cons _ _ _ _ _ (.refl _) (.cons _ _ _ _ _ (.refl _) (.cons _ _ _ _ _ (.refl _) (.cons _ _ _ _ _ (.refl _) .nil))))))))))))))))))))))))))))))))))))))))) (OLe.refl _)).trans (cmpS_ok (st' := ⟨[], [(0, .dead), (1, .dead), (2, .dead), (3, .v (.ipt [(.lst false n3337 c3338)])), (4, .v (.lst false n3345 c3346)), (5, .dead), (6, .v (.fn 51 [(.ipt [(.lst false n3337 c3338)])])), (7, .v (.int .i64 x3828)), (8, .v (.int .i64 x3837)), (9, .v (.int .i64 x3839)), (10, .v (.int .i64 x3841)), (11, .v (.int .i64 x3846)), (12, .v (.int .i64 x3847)), (13, .v (.int .i64 x3844)), (14, .dead), (15, .dead), (16, .dead), (17, .dead), (18, .dead), (27, .dead), (30, .v (.int .i64 ((n3337 : Nat) : Int))), (31, .v (.int .i64 x3828)), (32, .dead), (42, .v (.int .i64 ((n3337 : Nat) : Int))), (43, .v (.int .i64 x3844)), (44, .dead), (47, .v (.int .i64 ((n3337 : Nat) : Int))), (48, .v (.int .i64 (IntKind.i64.wrap (x3848 + 1)))), (49, .dead), (51, .dead), (60, .dead), (72, .dead), (90, .dead), (93, .dead), (94, .dead), (95, .dead), (96, .dead), (124, .dead), (126, .dead), (136, .dead), (148, .dead)], [], 0, []⟩) (by kernel_rfl))) ⟨n, Nat.lt_succ_self n, _, _, _, h3975, rfl⟩
                    · refine W_sound tab_ok mixed 7 _ _ _ ?_
                      simp -implicitDefEqProofs only [go_sem, ne_eq, not_false_eq_true, Nat.reduceBEq, Nat.reduceAdd, Nat.reduceSub, Nat.reduceMul, Nat.reduceLT, Nat.reduceLeDiff, Int.reduceLE, Int.reduceLT, Int.reduceToNat, Int.reduceBEq, Int.reduceBNe, Int.le_refl, Nat.le_refl, decide_true, decide_false, Int.cast_ofNat_Int, ↓reduceIte, h3331, g3333, h3336, h3341, h3344, h3347, h3349, h3829, h3832, h3836, h3838, h3840, h3845, h3849]
                      repeat with_reducible refine And.intro (by first | kernel_rfl | decide) ?_
                      obtain rfl := Option.some.inj h3975
                      exact cutQ _ ((Wk_le (.cons _ _ _ _ _ (.refl _) (.cons _ _ _ _ _ (.refl _) (.cons _ _ _ _ _ (.refl _) (.cons _ _ _ _ _ (.refl _) (.cons _ _ _ _ _ (.refl _) (.cons _ _ _ _ _ (.refl _) (.cons _ _ _ _ _ (.refl _) (.cons _ _ _ _ _ (.refl _) (.cons _ _ _ _ _ (.refl _) (.cons _ _ _ _ _ (.refl _) (.cons _ _ _ _ _ (.refl _) (.cons _ _ _ _ _ (.refl _) (.cons _ _ _ _ _ (.refl _) (.cons _ _ _ _ _ (.dead _) (.cons _ _ _ _ _ (.refl _) (.cons _ _ _ _ _ (.refl _) (.cons _ _ _ _ _ (.refl _) (.cons _ _ _ _ _ (.refl _) (.cons _ _ _ _ _ (.refl _) (.cons _ _ _ _ _ (.refl _) (.cons _ _ _ _ _ (.refl _) (.cons _ _ _ _ _ (.refl _) (.cons _ _ _ _ _ (.refl _) (.cons _ _ _ _ _ (.refl _) (.cons _ _ _ _ _ (.refl _) (.cons _ _ _ _ _ (.refl _) (.cons _ _ _ _ _ (.dead _) (.cons _ _ _ _ _ (.dead _) (.cons _ _ _ _ _ (.dead _) (.cons _ _ _ _ _ (.refl _) (.cons _ _ _ _ _ (.refl _) (.cons _ _ _ _ _ (.refl _) (.cons _ _ _ _ _ (.refl _) (.cons _ _ _ _ _ (.refl _) (.cons _ _ _ _ _ (.refl _) (.cons _ _ _ _ _ (.refl _) (.cons _ _ _ _ _ (.refl _) (.cons _ _ _ _ _ (.refl _) (.cons _ _ _ _ _ (.refl _) (.cons _ _ _ _ _ (.refl _) (.cons _ _ _ _ _ (.refl _) .nil))))))))))))))))))))))))))))))))))))))))) (OLe.refl _)).trans (cmpS_ok (st' := ⟨[], [(0, .dead), (1, .dead), (2, .dead), (3, .v (.ipt [(.lst false n3337 c3338)])), (4, .v (.lst false n3345 c3346)), (5, .dead), (6, .v (.fn 51 [(.ipt [(.lst false n3337 c3338)])])), (7, .v (.int .i64 x3828)), (8, .v (.int .i64 x3837)), (9, .v (.int .i64 x3839)), (10, .v (.int .i64 x3841)), (11, .v (.int .i64 x3846)), (12, .v (.int .i64 x3847)), (13, .dead), (14, .dead), (15, .dead), (16, .dead), (17, .dead), (18, .dead), (27, .dead), (30, .v (.int .i64 ((n3337 : Nat) : Int))), (31, .v (.int .i64 x3828)), (32, .dead), (42, .v (.int .i64 ((n3337 : Nat) : Int))), (43, .v (.int .i64 x3844)), (44, .dead), (47, .dead), (48, .dead), (49, .dead), (51, .dead), (60, .dead), (72, .dead), (90, .dead), (93, .dead), (94, .dead), (95, .dead), (96, .dead), (124, .dead), (126, .dead), (136, .dead), (148, .dead)], [], 0, []⟩) (by kernel_rfl))) ⟨_, _, rfl, rfl⟩
                · rintro _ ⟨x3902, x3903, rfl, rfl⟩
                  (try dsimp only at h3976)
                  refine W_sound tab_ok mixed 5 _ _ _ ?_
                  simp -implicitDefEqProofs only [go_sem, ne_eq, not_false_eq_true, Nat.reduceBEq, Nat.reduceAdd, Nat.reduceSub, Nat.reduceMul, Nat.reduceLT, Nat.reduceLeDiff, Int.reduceLE, Int.reduceLT, Int.reduceToNat, Int.reduceBEq, Int.reduceBNe, Int.le_refl, Nat.le_refl, decide_true, decide_false, Int.cast_ofNat_Int, ↓reduceIte, h3331, g3333, h3336, h3341, h3344, h3347, h3349, h3829, h3832, h3836, h3838, h3840, h3845]
                  repeat with_reducible refine And.intro (by first | kernel_rfl | decide) ?_
                  exact cutQ _ ((Wk_le (.cons _ _ _ _ _ (.refl _) (.cons _ _ _ _ _ (.refl _) (.cons _ _ _ _ _ (.refl _) (.cons _ _ _ _ _ (.refl _) (.cons _ _ _ _ _ (.refl _) (.cons _ _ _ _ _ (.refl _) (.cons _ _ _ _ _ (.refl _) (.cons _ _ _ _ _ (.refl _) (.cons _ _ _ _ _ (.refl _) (.cons _ _ _ _ _ (.refl _) (.cons _ _ _ _ _ (.refl _) (.cons _ _ _ _ _ (.refl _) (.cons _ _ _ _ _ (.refl _) (.cons _ _ _ _ _ (.refl _) (.cons _ _ _ _ _ (.refl _) (.cons _ _ _ _ _ (.refl _) (.cons _ _ _ _ _ (.refl _) (.cons _ _ _ _ _ (.refl _) (.cons _ _ _ _ _ (.refl _) (.cons _ _ _ _ _ (.refl _) (.cons _ _ _ _ _ (.refl _) (.cons _ _ _ _ _ (.refl _) (.cons _ _ _ _ _ (.refl _) (.cons _ _ _ _ _ (.refl _) (.cons _ _ _ _ _ (.refl _) (.cons _ _ _ _ _ (.refl _) (.cons _ _ _ _ _ (.refl _) (.cons _ _ _ _ _ (.refl _) (.cons _ _ _ _ _ (.refl _) (.cons _ _ _ _ _ (.refl _) (.cons _ _ _ _ _ (.refl _) (.cons _ _ _ _ _ (.refl _) (.cons _ _ _ _ _ (.refl _) (.cons _ _ _ _ _ (.refl _) (.cons _ _ _ _ _ (.refl _) (.cons _ _ _ _ _ (.refl _) (.cons _ _ _ _ _ (.refl _) (.cons _ _ _ _ _ (.refl _) (.cons _ _ _ _ _ (.refl _) (.cons _ _ _ _ _ (.refl _) (.cons _ _ _ _ _ (.refl _) .nil))))))))))))))))))))))))))))))))))))))))) (OLe.refl _)).trans (cmpS_ok (st' := ⟨[], [(0, .dead), (1, .dead), (2, .dead), (3, .v (.ipt [(.lst false n3337 c3338)])), (4, .v (.lst false n3345 c3346)), (5, .dead), (6, .v (.fn 51 [(.ipt [(.lst false n3337 c3338)])])), (7, .v (.int .i64 x3828)), (8, .v (.int .i64 x3837)), (9, .v (.int .i64 x3839)), (10, .v (.int .i64 x3841)), (11, .v (.int .i64 x3902)), (12, .v (.int .i64 x3903)), (13, .dead), (14, .dead), (15, .dead), (16, .dead), (17, .dead), (18, .dead), (27, .dead), (30, .v (.int .i64 ((n3337 : Nat) : Int))), (31, .v (.int .i64 x3828)), (32, .dead), (42, .v (.int .i64 ((n3337 : Nat) : Int))), (43, .v (.int .i64 (IntKind.i64.wrap (x3844 + 1)))), (44, .dead), (47, .dead), (48, .dead), (49, .dead), (51, .dead), (60, .dead), (72, .dead), (90, .dead), (93, .dead), (94, .dead), (95, .dead), (96, .dead), (124, .dead), (126, .dead), (136, .dead), (148, .dead)], [], 0, []⟩) (by kernel_rfl))) ⟨n, Nat.lt_succ_self n, _, _, _, h3976, rfl⟩
              · refine W_sound tab_ok mixed 7 _ _ _ ?_
                simp -implicitDefEqProofs only [go_sem, ne_eq, not_false_eq_true, Nat.reduceBEq, Nat.reduceAdd, Nat.reduceSub, Nat.reduceMul, Nat.reduceLT, Nat.reduceLeDiff, Int.reduceLE, Int.reduceLT, Int.reduceToNat, Int.reduceBEq, Int.reduceBNe, Int.le_refl, Nat.le_refl, decide_true, decide_false, Int.cast_ofNat_Int, ↓reduceIte, h3331, g3333, h3336, h3341, h3344, h3347, h3349, h3829, h3832, h3836, h3838, h3840, h3845]
                repeat with_reducible refine And.intro (by first | kernel_rfl | decide) ?_
                obtain rfl := Option.some.inj h3972
                exact cutQ _ ((Wk_le (.cons _ _ _ _ _ (.refl _) (.cons _ _ _ _ _ (.refl _) (.cons _ _ _ _ _ (.refl _) (.cons _ _ _ _ _ (.refl _) (.cons _ _ _ _ _ (.refl _) (.cons _ _ _ _ _ (.refl _) (.cons _ _ _ _ _ (.refl _) (.cons _ _ _ _ _ (.refl _) (.cons _ _ _ _ _ (.refl _) (.cons _ _ _ _ _ (.refl _) (.cons _ _ _ _ _ (.refl _) (.cons _ _ _ _ _ (.refl _) (.cons _ _ _ _ _ (.refl _) (.cons _ _ _ _ _ (.refl _) (.cons _ _ _ _ _ (.refl _) (.cons _ _ _ _ _ (.refl _) (.cons _ _ _ _ _ (.refl _) (.cons _ _ _ _ _ (.refl _) (.cons _ _ _ _ _ (.refl _) (.cons _ _ _ _ _ (.refl _) (.cons _ _ _ _ _ (.refl _) (.cons _ _ _ _ _ (.refl _) (.cons _ _ _ _ _ (.refl _) (.cons _ _ _ _ _ (.dead _) (.cons _ _ _ _ _ (.dead _) (.cons _ _ _ _ _ (.dead _) (.cons _ _ _ _ _ (.refl _) (.cons _ _ _ _ _ (.refl _) (.cons _ _ _ _ _ (.refl _) (.cons _ _ _ _ _ (.refl _) (.cons _ _ _ _ _ (.refl _) (.cons _ _ _ _ _ (.refl _) (.cons _ _ _ _ _ (.refl _) (.cons _ _ _ _ _ (.refl _) (.cons _ _ _ _ _ (.refl _) (.cons _ _ _ _ _ (.refl _) (.cons _ _ _ _ _ (.refl _) (.cons _ _ _ _ _ (.refl _) (.cons _ _ _ _ _ (.refl _) (.cons _ _ _ _ _ (.refl _) (.cons _ _ _ _ _ (.refl _) .nil))))))))))))))))))))))))))))))))))))))))) (OLe.refl _)).trans (cmpS_ok (st' := ⟨[], [(0, .dead), (1, .dead), (2, .dead), (3, .v (.ipt [(.lst false n3337 c3338)])), (4, .v (.lst false n3345 c3346)), (5, .dead), (6, .v (.fn 51 [(.ipt [(.lst false n3337 c3338)])])), (7, .v (.int .i64 x3828)), (8, .v (.int .i64 x3837)), (9, .v (.int .i64 x3839)), (10, .v (.int .i64 x3841)), (11, .v (.int .i64 x3842)), (12, .v (.int .i64 x3843)), (13, .dead), (14, .dead), (15, .dead), (16, .dead), (17, .dead), (18, .dead), (27, .dead), (30, .v (.int .i64 ((n3337 : Nat) : Int))), (31, .v (.int .i64 x3828)), (32, .dead), (42, .dead), (43, .dead), (44, .dead), (47, .dead), (48, .dead), (49, .dead), (51, .dead), (60, .dead), (72, .dead), (90, .dead), (93, .dead), (94, .dead), (95, .dead), (96, .dead), (124, .dead), (126, .dead), (136, .dead), (148, .dead)], [], 0, []⟩) (by kernel_rfl))) ⟨_, _, rfl, rfl⟩
          · rintro _ ⟨x3905, x3906, rfl, rfl⟩
            (try dsimp only at h3973)
            refine W_sound tab_ok mixed 11 _ _ _ ?_
            simp -implicitDefEqProofs only [go_sem, ne_eq, not_false_eq_true, Nat.reduceBEq, Nat.reduceAdd, Nat.reduceSub, Nat.reduceMul, Nat.reduceLT, Nat.reduceLeDiff, Int.reduceLE, Int.reduceLT, Int.reduceToNat, Int.reduceBEq, Int.reduceBNe, Int.le_refl, Nat.le_refl, decide_true, decide_false, Int.cast_ofNat_Int, ↓reduceIte, h3331, g3333, h3336, h3341, h3344, h3347, h3349, h3829, h3832, h3836, h3838, h3840]
            repeat with_reducible refine And.intro (by first | kernel_rfl | decide) ?_
            have hh := bnd'_some h3973; clear h3973; obtain ⟨o3977, h3978, h3979⟩ := hh
            refine Wp_cut (fun s => ∃ b3932, b3932 = o3977 ∧ s = ⟨[], [(0, .dead), (1, .dead), (2, .dead), (3, .v (.ipt [(.lst false n3337 c3338)])), (4, .v (.lst false n3345 c3346)), (5, .dead), (6, .v (.fn 51 [(.ipt [(.lst false n3337 c3338)])])), (7, .v (.int .i64 x3828)), (8, .v (.int .i64 x3837)), (9, .v (.int .i64 x3839)), (10, .v (.int .i64 x3841)), (11, .v (.int .i64 x3905)), (12, .v (.int .i64 x3906)), (13, .dead), (14, .dead), (15, .dead), (16, .v (.bool b3932)), (17, .dead), (18, .dead), (27, .dead), (30, .v (.int .i64 ((n3337 : Nat) : Int))), (31, .v (.int .i64 x3828)), (32, .dead), (42, .dead), (43, .dead), (44, .dead), (47, .dead), (48, .dead), (49, .dead), (51, .dead), (60, .dead), (72, .dead), (90, .dead), (93, .dead), (94, .dead), (95, .dead), (96, .dead), (124, .dead), (126, .dead), (136, .dead), (148, .dead)], [], 0, []⟩) ?_ ?_
            · refine Wp_block ?_
              refine Wp_loopG (fun n s => ∃ b3907, ∃ x3908, m13_L3 N n3337 c3338 n3345 c3346 x3828 x3837 x3839 x3841 x3905 x3906 n b3907 x3908 = some o3977 ∧ s = ⟨[], [(0, .dead), (1, .dead), (2, .dead), (3, .v (.ipt [(.lst false n3337 c3338)])), (4, .v (.lst false n3345 c3346)), (5, .dead), (6, .v (.fn 51 [(.ipt [(.lst false n3337 c3338)])])), (7, .v (.int .i64 x3828)), (8, .v (.int .i64 x3837)), (9, .v (.int .i64 x3839)), (10, .v (.int .i64 x3841)), (11, .v (.int .i64 x3905)), (12, .v (.int .i64 x3906)), (13, .dead), (14, .dead), (15, .dead), (16, .v (.bool b3907)), (17, .dead), (18, .dead), (27, .dead), (30, .v (.int .i64 ((n3337 : Nat) : Int))), (31, .v (.int .i64 x3828)), (32, .dead), (42, .dead), (43, .dead), (44, .dead), (47, .dead), (48, .dead), (49, .dead), (51, .dead), (60, .dead), (72, .dead), (90, .dead), (93, .v (.lst false n3337 c3338)), (94, .v (.int .i64 ((n3337 : Nat) : Int))), (95, .v (.int .i64 x3908)), (96, .dead), (124, .dead), (126, .dead), (136, .dead), (148, .dead)], [], 0, []⟩) N _ ((Wk_le (.cons _ _ _ _ _ (.refl _) (.cons _ _ _ _ _ (.refl _) (.cons _ _ _ _ _ (.refl _) (.cons _ _ _ _ _ (.refl _) (.cons _ _ _ _ _ (.refl _) (.cons _ _ _ _ _ (.refl _) (.cons _ _ _ _ _ (.refl _) (.cons _ _ _ _ _ (.refl _) (.cons _ _ _ _ _ (.refl _) (.cons _ _ _ _ _ (.refl _) (.cons _ _ _ _ _ (.refl _) (.cons _ _ _ _ _ (.refl _) (.cons _ _ _ _ _ (.refl _) (.cons _ _ _ _ _ (.refl _) (.cons _ _ _ _ _ (.refl _) (.cons _ _ _ _ _ (.refl _) (.cons _ _ _ _ _ (.refl _) (.cons _ _ _ _ _ (.refl _) (.cons _ _ _ _ _ (.refl _) (.cons _ _ _ _ _ (.refl _) (.cons _ _ _ _ _ (.refl _) (.cons _ _ _ _ _ (.refl _) (.cons _ _ _ _ _ (.refl _) (.cons _ _ _ _ _ (.refl _) (.cons _ _ _ _ _ (.refl _) (.cons _ _ _ _ _ (.refl _) (.cons _ _ _ _ _ (.refl _) (.cons _ _ _ _ _ (.refl _) (.cons _ _ _ _ _ (.refl _) (.cons _ _ _ _ _ (.refl _) (.cons _ _ _ _ _ (.refl _) (.cons _ _ _ _ _ (.refl _) (.cons _ _ _ _ _ (.refl _) (.cons _ _ _ _ _ (.refl _) (.cons _ _ _ _ _ (.refl _) (.cons _ _ _ _ _ (.refl _) (.cons _ _ _ _ _ (.refl _) (.cons _ _ _ _ _ (.refl _) (.cons _ _ _ _ _ (.refl _) (.cons _ _ _ _ _ (.refl _) (.cons _ _ _ _ _ (.refl _) .nil))))))))))))))))))))))))))))))))))))))))) (OLe.refl _)).trans (cmpS_ok (st' := ⟨[], [(0, .dead), (1, .dead), (2, .dead), (3, .v (.ipt [(.lst false n3337 c3338)])), (4, .v (.lst false n3345 c3346)), (5, .dead), (6, .v (.fn 51 [(.ipt [(.lst false n3337 c3338)])])), (7, .v (.int .i64 x3828)), (8, .v (.int .i64 x3837)), (9, .v (.int .i64 x3839)), (10, .v (.int .i64 x3841)), (11, .v (.int .i64 x3905)), (12, .v (.int .i64 x3906)), (13, .dead), (14, .dead), (15, .dead), (16, .v (.bool false)), (17, .dead), (18, .dead), (27, .dead), (30, .v (.int .i64 ((n3337 : Nat) : Int))), (31, .v (.int .i64 x3828)), (32, .dead), (42, .dead), (43, .dead), (44, .dead), (47, .dead), (48, .dead), (49, .dead), (51, .dead), (60, .dead), (72, .dead), (90, .dead), (93, .v (.lst false n3337 c3338)), (94, .v (.int .i64 ((n3337 : Nat) : Int))), (95, .v (.int .i64 0)), (96, .dead), (124, .dead), (126, .dead), (136, .dead), (148, .dead)], [], 0, []⟩) (by kernel_rfl))) ⟨_, _, h3978, rfl⟩ ?_
              clear h3978
              rintro n _ ⟨b3907, x3908, h3978, rfl⟩
              cases n with
              | zero => cases h3978
              | succ n =>
                rw [m13_L3] at h3978
                have hh := brn_some h3978; clear h3978; rcases hh with ⟨h3909, h3978⟩ | ⟨h3909, h3978⟩
                · have hh := grd_some h3978; clear h3978; obtain ⟨⟨g3910, g3911⟩, h3978⟩ := hh
                  have hh := grd_some h3978; clear h3978; obtain ⟨g3912, h3978⟩ := hh
                  have hh := getA2_some h3978; clear h3978; obtain ⟨p3914, p3915, h3913, h3978⟩ := hh
                  injection h3913 with h3913
                  have hh := getI_some h3978; clear h3978; obtain ⟨x3917, h3916, h3978⟩ := hh
                  have hh := getI_some h3978; clear h3978; obtain ⟨x3919, h3918, h3978⟩ := hh
                  have hh := brn_some h3978; clear h3978; rcases hh with ⟨h3920, h3978⟩ | ⟨h3920, h3978⟩
                  · refine W_sound tab_ok mixed 40 _ _ _ ?_
                    simp -implicitDefEqProofs only [go_sem, ne_eq, not_false_eq_true, Nat.reduceBEq, Nat.reduceAdd, Nat.reduceSub, Nat.reduceMul, Nat.reduceLT, Nat.reduceLeDiff, Int.reduceLE, Int.reduceLT, Int.reduceToNat, Int.reduceBEq, Int.reduceBNe, Int.le_refl, Nat.le_refl, decide_true, decide_false, Int.cast_ofNat_Int, ↓reduceIte, h3331, g3333, h3336, h3341, h3344, h3347, h3349, h3829, h3832, h3836, h3838, h3840, h3909, g3910, g3911, g3912, h3913, h3916, h3918, h3920]
                    repeat with_reducible refine And.intro (by first | kernel_rfl | decide) ?_
                    exact cutQ _ ((Wk_le (.cons _ _ _ _ _ (.refl _) (.cons _ _ _ _ _ (.refl _) (.cons _ _ _ _ _ (.refl _) (.cons _ _ _ _ _ (.refl _) (.cons _ _ _ _ _ (.refl _) (.cons _ _ _ _ _ (.refl _) (.cons _ _ _ _ _ (.refl _) (.cons _ _ _ _ _ (.refl _) (.cons _ _ _ _ _ (.refl _) (.cons _ _ _ _ _ (.refl _) (.cons _ _ _ _ _ (.refl _) (.cons _ _ _ _ _ (.refl _) (.cons _ _ _ _ _ (.refl _) (.cons _ _ _ _ _ (.refl _) (.cons _ _ _ _ _ (.refl _) (.cons _ _ _ _ _ (.refl _) (.cons _ _ _ _ _ (.refl _) (.cons _ _ _ _ _ (.dead _) (.cons _ _ _ _ _ (.dead _) (.cons _ _ _ _ _ (.refl _) (.cons _ _ _ _ _ (.refl _) (.cons _ _ _ _ _ (.refl _) (.cons _ _ _ _ _ (.refl _) (.cons _ _ _ _ _ (.refl _) (.cons _ _ _ _ _ (.refl _) (.cons _ _ _ _ _ (.refl _) (.cons _ _ _ _ _ (.refl _) (.cons _ _ _ _ _ (.refl _) (.cons _ _ _ _ _ (.refl _) (.cons _ _ _ _ _ (.refl _) (.cons _ _ _ _ _ (.refl _) (.cons _ _ _ _ _ (.refl _) (.cons _ _ _ _ _ (.refl _) (.cons _ _ _ _ _ (.refl _) (.cons _ _ _ _ _ (.refl _) (.cons _ _ _ _ _ (.refl _) (.cons _ _ _ _ _ (.dead _) (.cons _ _ _ _ _ (.refl _) (.cons _ _ _ _ _ (.refl _) (.cons _ _ _ _ _ (.refl _) (.cons _ _ _ _ _ (.refl _) .nil))))))))))))))))))))))))))))))))))))))))) (OLe.refl _)).trans (cmpS_ok (st' := ⟨[], [(0, .dead), (1, .dead), (2, .dead), (3, .v (.ipt [(.lst false n3337 c3338)])), (4, .v (.lst false n3345 c3346)), (5, .dead), (6, .v (.fn 51 [(.ipt [(.lst false n3337 c3338)])])), (7, .v (.int .i64 x3828)), (8, .v (.int .i64 x3837)), (9, .v (.int .i64 x3839)), (10, .v (.int .i64 x3841)), (11, .v (.int .i64 x3905)), (12, .v (.int .i64 x3906)), (13, .dead), (14, .dead), (15, .dead), (16, .v (.bool true)), (17, .dead), (18, .dead), (27, .dead), (30, .v (.int .i64 ((n3337 : Nat) : Int))), (31, .v (.int .i64 x3828)), (32, .dead), (42, .dead), (43, .dead), (44, .dead), (47, .dead), (48, .dead), (49, .dead), (51, .dead), (60, .dead), (72, .dead), (90, .dead), (93, .v (.lst false n3337 c3338)), (94, .v (.int .i64 ((n3337 : Nat) : Int))), (95, .v (.int .i64 (IntKind.i64.wrap (x3908 + 1)))), (96, .dead), (124, .dead), (126, .dead), (136, .dead), (148, .dead)], [], 0, []⟩) (by kernel_rfl))) ⟨n, Nat.lt_succ_self n, _, _, h3978, rfl⟩
                  · have hh := brn_some h3978; clear h3978; rcases hh with ⟨h3921, h3978⟩ | ⟨h3921, h3978⟩
                    · have hh := grd_some h3978; clear h3978; obtain ⟨⟨g3922, g3923⟩, h3978⟩ := hh
                      have hh := grd_some h3978; clear h3978; obtain ⟨g3924, h3978⟩ := hh
                      have hh := getA2_some h3978; clear h3978; obtain ⟨p3926, p3927, h3925, h3978⟩ := hh
                      injection h3925 with h3925
                      have hh := getI_some h3978; clear h3978; obtain ⟨x3929, h3928, h3978⟩ := hh
                      have hh := getI_some h3978; clear h3978; obtain ⟨x3931, h3930, h3978⟩ := hh
                      refine W_sound tab_ok mixed 40 _ _ _ ?_
                      simp -implicitDefEqProofs only [go_sem, ne_eq, not_false_eq_true, Nat.reduceBEq, Nat.reduceAdd, Nat.reduceSub, Nat.reduceMul, Nat.reduceLT, Nat.reduceLeDiff, Int.reduceLE, Int.reduceLT, Int.reduceToNat, Int.reduceBEq, Int.reduceBNe, Int.le_refl, Nat.le_refl, decide_true, decide_false, Int.cast_ofNat_Int, ↓reduceIte, h3331, g3333, h3336, h3341, h3344, h3347, h3349, h3829, h3832, h3836, h3838, h3840, h3909, g3910, g3911, g3912, h3913, h3916, h3918, h3920, h3921, g3922, g3923, g3924, h3925, h3928, h3930]
                      repeat with_reducible refine And.intro (by first | kernel_rfl | decide) ?_
                      exact cutQ _ ((Wk_le (.cons _ _ _ _ _ (.refl _) (.cons _ _ _ _ _ (.refl _) (.cons _ _ _ _ _ (.refl _) (.cons _ _ _ _ _ (.refl _) (.cons _ _ _ _ _ (.refl _) (.cons _ _ _ _ _ (.refl _) (.cons _ _ _ _ _ (.refl _) (.cons _ _ _ _ _ (.refl _) (.cons _ _ _ _ _ (.refl _) (.cons _ _ _ _ _ (.refl _) (.cons _ _ _ _ _ (.refl _) (.cons _ _ _ _ _ (.refl _) (.cons _ _ _ _ _ (.refl _) (.cons _ _ _ _ _ (.refl _) (.cons _ _ _ _ _ (.refl _) (.cons _ _ _ _ _ (.refl _) (.cons _ _ _ _ _ (.refl _) (.cons _ _ _ _ _ (.dead _) (.cons _ _ _ _ _ (.dead _) (.cons _ _ _ _ _ (.refl _) (.cons _ _ _ _ _ (.refl _) (.cons _ _ _ _ _ (.refl _) (.cons _ _ _ _ _ (.refl _) (.cons _ _ _ _ _ (.refl _) (.cons _ _ _ _ _ (.refl _) (.cons _ _ _ _ _ (.refl _) (.cons _ _ _ _ _ (.refl _) (.cons _ _ _ _ _ (.refl _) (.cons _ _ _ _ _ (.refl _) (.cons _ _ _ _ _ (.refl _) (.cons _ _ _ _ _ (.refl _) (.cons _ _ _ _ _ (.refl _) (.cons _ _ _ _ _ (.refl _) (.cons _ _ _ _ _ (.refl _) (.cons _ _ _ _ _ (.refl _) (.cons _ _ _ _ _ (.refl _) (.cons _ _ _ _ _ (.dead _) (.cons _ _ _ _ _ (.refl _) (.cons _ _ _ _ _ (.refl _) (.cons _ _ _ _ _ (.refl _) (.cons _ _ _ _ _ (.refl _) .nil))))))))))))))))))))))))))))))))))))))))) (OLe.refl _)).trans (cmpS_ok (st' := ⟨[], [(0, .dead), (1, .dead), (2, .dead), (3, .v (.ipt [(.lst false n3337 c3338)])), (4, .v (.lst false n3345 c3346)), (5, .dead), (6, .v (.fn 51 [(.ipt [(.lst false n3337 c3338)])])), (7, .v (.int .i64 x3828)), (8, .v (.int .i64 x3837)), (9, .v (.int .i64 x3839)), (10, .v (.int .i64 x3841)), (11, .v (.int .i64 x3905)), (12, .v (.int .i64 x3906)), (13, .dead), (14, .dead), (15, .dead), (16, .v (.bool ((x3917 == x3931) && (x3919 == x3929)))), (17, .dead), (18, .dead), (27, .dead), (30, .v (.int .i64 ((n3337 : Nat) : Int))), (31, .v (.int .i64 x3828)), (32, .dead), (42, .dead), (43, .dead), (44, .dead), (47, .dead), (48, .dead), (49, .dead), (51, .dead), (60, .dead), (72, .dead), (90, .dead), (93, .v (.lst false n3337 c3338)), (94, .v (.int .i64 ((n3337 : Nat) : Int))), (95, .v (.int .i64 (IntKind.i64.wrap (x3908 + 1)))), (96, .dead), (124, .dead), (126, .dead), (136, .dead), (148, .dead)], [], 0, []⟩) (by kernel_rfl))) ⟨n, Nat.lt_succ_self n, _, _, h3978, rfl⟩
                    · refine W_sound tab_ok mixed 40 _ _ _ ?_
                      simp -implicitDefEqProofs only [go_sem, ne_eq, not_false_eq_true, Nat.reduceBEq, Nat.reduceAdd, Nat.reduceSub, Nat.reduceMul, Nat.reduceLT, Nat.reduceLeDiff, Int.reduceLE, Int.reduceLT, Int.reduceToNat, Int.reduceBEq, Int.reduceBNe, Int.le_refl, Nat.le_refl, decide_true, decide_false, Int.cast_ofNat_Int, ↓reduceIte, h3331, g3333, h3336, h3341, h3344, h3347, h3349, h3829, h3832, h3836, h3838, h3840, h3909, g3910, g3911, g3912, h3913, h3916, h3918, h3920, h3921]
                      repeat with_reducible refine And.intro (by first | kernel_rfl | decide) ?_
                      exact cutQ _ ((Wk_le (.cons _ _ _ _ _ (.refl _) (.cons _ _ _ _ _ (.refl _) (.cons _ _ _ _ _ (.refl _) (.cons _ _ _ _ _ (.refl _) (.cons _ _ _ _ _ (.refl _) (.cons _ _ _ _ _ (.refl _) (.cons _ _ _ _ _ (.refl _) (.cons _ _ _ _ _ (.refl _) (.cons _ _ _ _ _ (.refl _) (.cons _ _ _ _ _ (.refl _) (.cons _ _ _ _ _ (.refl _) (.cons _ _ _ _ _ (.refl _) (.cons _ _ _ _ _ (.refl _) (.cons _ _ _ _ _ (.refl _) (.cons _ _ _ _ _ (.refl _) (.cons _ _ _ _ _ (.refl _) (.cons _ _ _ _ _ (.refl _) (.cons _ _ _ _ _ (.dead _) (.cons _ _ _ _ _ (.dead _) (.cons _ _ _ _ _ (.refl _) (.cons _ _ _ _ _ (.refl _) (.cons _ _ _ _ _ (.refl _) (.cons _ _ _ _ _ (.refl _) (.cons _ _ _ _ _ (.refl _) (.cons _ _ _ _ _ (.refl _) (.cons _ _ _ _ _ (.refl _) (.cons _ _ _ _ _ (.refl _) (.cons _ _ _ _ _ (.refl _) (.cons _ _ _ _ _ (.refl _) (.cons _ _ _ _ _ (.refl _) (.cons _ _ _ _ _ (.refl _) (.cons _ _ _ _ _ (.refl _) (.cons _ _ _ _ _ (.refl _) (.cons _ _ _ _ _ (.refl _) (.cons _ _ _ _ _ (.refl _) (.cons _ _ _ _ _ (.refl _) (.cons _ _ _ _ _ (.dead _) (.cons _ _ _ _ _ (.refl _) (.cons _ _ _ _ _ (.refl _) (.cons _ _ _ _ _ (.refl _) (.cons _ _ _ _ _ (.refl _) .nil))))))))))))))))))))))))))))))))))))))))) (OLe.refl _)).trans (cmpS_ok (st' := ⟨[], [(0, .dead), (1, .dead), (2, .dead), (3, .v (.ipt [(.lst false n3337 c3338)])), (4, .v (.lst false n3345 c3346)), (5, .dead), (6, .v (.fn 51 [(.ipt [(.lst false n3337 c3338)])])), (7, .v (.int .i64 x3828)), (8, .v (.int .i64 x3837)), (9, .v (.int .i64 x3839)), (10, .v (.int .i64 x3841)), (11, .v (.int .i64 x3905)), (12, .v (.int .i64 x3906)), (13, .dead), (14, .dead), (15, .dead), (16, .v (.bool false)), (17, .dead), (18, .dead), (27, .dead), (30, .v (.int .i64 ((n3337 : Nat) : Int))), (31, .v (.int .i64 x3828)), (32, .dead), (42, .dead), (43, .dead), (44, .dead), (47, .dead), (48, .dead), (49, .dead), (51, .dead), (60, .dead), (72, .dead), (90, .dead), (93, .v (.lst false n3337 c3338)), (94, .v (.int .i64 ((n3337 : Nat) : Int))), (95, .v (.int .i64 (IntKind.i64.wrap (x3908 + 1)))), (96, .dead), (124, .dead), (126, .dead), (136, .dead), (148, .dead)], [], 0, []⟩) (by kernel_rfl))) ⟨n, Nat.lt_succ_self n, _, _, h3978, rfl⟩
                · refine W_sound tab_ok mixed 7 _ _ _ ?_
                  simp -implicitDefEqProofs only [go_sem, ne_eq, not_false_eq_true, Nat.reduceBEq, Nat.reduceAdd, Nat.reduceSub, Nat.reduceMul, Nat.reduceLT, Nat.reduceLeDiff, Int.reduceLE, Int.reduceLT, Int.reduceToNat, Int.reduceBEq, Int.reduceBNe, Int.le_refl, Nat.le_refl, decide_true, decide_false, Int.cast_ofNat_Int, ↓reduceIte, h3331, g3333, h3336, h3341, h3344, h3347, h3349, h3829, h3832, h3836, h3838, h3840, h3909]
                  repeat with_reducible refine And.intro (by first | kernel_rfl | decide) ?_
                  obtain rfl := Option.some.inj h3978
                  exact cutQ _ ((Wk_le (.cons _ _ _ _ _ (.refl _) (.cons _ _ _ _ _ (.refl _) (.cons _ _ _ _ _ (.refl _) (.cons _ _ _ _ _ (.refl _) (.cons _ _ _ _ _ (.refl _) (.cons _ _ _ _ _ (.refl _) (.cons _ _ _ _ _ (.refl _) (.cons _ _ _ _ _ (.refl _) (.cons _ _ _ _ _ (.refl _) (.cons _ _ _ _ _ (.refl _) (.cons _ _ _ _ _ (.refl _) (.cons _ _ _ _ _ (.refl _) (.cons _ _ _ _ _ (.refl _) (.cons _ _ _ _ _ (.refl _) (.cons _ _ _ _ _ (.refl _) (.cons _ _ _ _ _ (.refl _) (.cons _ _ _ _ _ (.refl _) (.cons _ _ _ _ _ (.refl _) (.cons _ _ _ _ _ (.refl _) (.cons _ _ _ _ _ (.refl _) (.cons _ _ _ _ _ (.refl _) (.cons _ _ _ _ _ (.refl _) (.cons _ _ _ _ _ (.refl _) (.cons _ _ _ _ _ (.refl _) (.cons _ _ _ _ _ (.refl _) (.cons _ _ _ _ _ (.refl _) (.cons _ _ _ _ _ (.refl _) (.cons _ _ _ _ _ (.refl _) (.cons _ _ _ _ _ (.refl _) (.cons _ _ _ _ _ (.refl _) (.cons _ _ _ _ _ (.refl _) (.cons _ _ _ _ _ (.refl _) (.cons _ _ _ _ _ (.refl _) (.cons _ _ _ _ _ (.dead _) (.cons _ _ _ _ _ (.dead _) (.cons _ _ _ _ _ (.dead _) (.cons _ _ _ _ _ (.dead _) (.cons _ _ _ _ _ (.refl _) (.cons _ _ _ _ _ (.refl _) (.cons _ _ _ _ _ (.refl _) (.cons _ _ _ _ _ (.refl _) .nil))))))))))))))))))))))))))))))))))))))))) (OLe.refl _)).trans (cmpS_ok (st' := ⟨[], [(0, .dead), (1, .dead), (2, .dead), (3, .v (.ipt [(.lst false n3337 c3338)])), (4, .v (.lst false n3345 c3346)), (5, .dead), (6, .v (.fn 51 [(.ipt [(.lst false n3337 c3338)])])), (7, .v (.int .i64 x3828)), (8, .v (.int .i64 x3837)), (9, .v (.int .i64 x3839)), (10, .v (.int .i64 x3841)), (11, .v (.int .i64 x3905)), (12, .v (.int .i64 x3906)), (13, .dead), (14, .dead), (15, .dead), (16, .v (.bool b3907)), (17, .dead), (18, .dead), (27, .dead), (30, .v (.int .i64 ((n3337 : Nat) : Int))), (31, .v (.int .i64 x3828)), (32, .dead), (42, .dead), (43, .dead), (44, .dead), (47, .dead), (48, .dead), (49, .dead), (51, .dead), (60, .dead), (72, .dead), (90, .dead), (93, .dead), (94, .dead), (95, .dead), (96, .dead), (124, .dead), (126, .dead), (136, .dead), (148, .dead)], [], 0, []⟩) (by kernel_rfl))) ⟨_, rfl, rfl⟩
            · rintro _ ⟨b3932, rfl, rfl⟩
              have hh := brn_some h3979; clear h3979; rcases hh with ⟨h3933, h3979⟩ | ⟨h3933, h3979⟩
              · have hh := brn_some h3979; clear h3979; rcases hh with ⟨h3934, h3979⟩ | ⟨h3934, h3979⟩
                · refine W_sound tab_ok mixed 21 _ _ _ ?_
                  simp -implicitDefEqProofs only [go_sem, ne_eq, not_false_eq_true, Nat.reduceBEq, Nat.reduceAdd, Nat.reduceSub, Nat.reduceMul, Nat.reduceLT, Nat.reduceLeDiff, Int.reduceLE, Int.reduceLT, Int.reduceToNat, Int.reduceBEq, Int.reduceBNe, Int.le_refl, Nat.le_refl, decide_true, decide_false, Int.cast_ofNat_Int, ↓reduceIte, h3331, g3333, h3336, h3341, h3344, h3347, h3349, h3829, h3832, h3836, h3838, h3840, h3933, h3934]
                  repeat with_reducible refine And.intro (by first | kernel_rfl | decide) ?_
                  obtain rfl := Option.some.inj h3979
                  (try dsimp only at h3970)
                  obtain rfl := Option.some.inj h3970
                  exact finC [(2, .v (.bool false))] [(2, .v (.bool false))] (by simp [leE, lk_cons]) (.cons _ _ _ _ _ (.v _ _ (.refl _)) .nil) (by rfl) (by simp [leE, lk_cons]) (by decide) (by decide) rfl (by simp only [go_sem, ne_eq, not_false_eq_true, Nat.reduceBEq, Nat.reduceAdd, Nat.reduceSub, Nat.reduceMul, Nat.reduceLT, Nat.reduceLeDiff, Int.reduceLE, Int.reduceLT, Int.reduceToNat, Int.reduceBEq, Int.reduceBNe, Int.le_refl, Nat.le_refl, decide_true, decide_false, Int.cast_ofNat_Int, ↓reduceIte, resQ_tmp, resQ_cell, resQ_nil, retD_one, retD_two, retD_three, retD_none]; try simp [R.val, retD_one, retD_two, retD_three, retD_none])
                · have hh := brn_some h3979; clear h3979; rcases hh with ⟨h3935, h3979⟩ | ⟨h3935, h3979⟩
                  · have hh := brn_some h3979; clear h3979; rcases hh with ⟨h3936, h3979⟩ | ⟨h3936, h3979⟩
                    · refine W_sound tab_ok mixed 44 _ _ _ ?_
                      simp -implicitDefEqProofs only [go_sem, ne_eq, not_false_eq_true, Nat.reduceBEq, Nat.reduceAdd, Nat.reduceSub, Nat.reduceMul, Nat.reduceLT, Nat.reduceLeDiff, Int.reduceLE, Int.reduceLT, Int.reduceToNat, Int.reduceBEq, Int.reduceBNe, Int.le_refl, Nat.le_refl, decide_true, decide_false, Int.cast_ofNat_Int, ↓reduceIte, h3331, g3333, h3336, h3341, h3344, h3347, h3349, h3829, h3832, h3836, h3838, h3840, h3933, h3934, h3935, h3936]
                      repeat with_reducible refine And.intro (by first | kernel_rfl | decide) ?_
                      obtain rfl := Option.some.inj h3979
                      (try dsimp only at h3970)
                      obtain rfl := Option.some.inj h3970
                      exact finC [(2, .v (.bool false))] [(2, .v (.bool false))] (by simp [leE, lk_cons]) (.cons _ _ _ _ _ (.v _ _ (.refl _)) .nil) (by rfl) (by simp [leE, lk_cons]) (by decide) (by decide) rfl (by simp only [go_sem, ne_eq, not_false_eq_true, Nat.reduceBEq, Nat.reduceAdd, Nat.reduceSub, Nat.reduceMul, Nat.reduceLT, Nat.reduceLeDiff, Int.reduceLE, Int.reduceLT, Int.reduceToNat, Int.reduceBEq, Int.reduceBNe, Int.le_refl, Nat.le_refl, decide_true, decide_false, Int.cast_ofNat_Int, ↓reduceIte, resQ_tmp, resQ_cell, resQ_nil, retD_one, retD_two, retD_three, retD_none]; try simp [R.val, retD_one, retD_two, retD_three, retD_none])
                    · have hh := brn_some h3979; clear h3979; rcases hh with ⟨h3937, h3979⟩ | ⟨h3937, h3979⟩
                      · refine W_sound tab_ok mixed 44 _ _ _ ?_
                        simp -implicitDefEqProofs only [go_sem, ne_eq, not_false_eq_true, Nat.reduceBEq, Nat.reduceAdd, Nat.reduceSub, Nat.reduceMul, Nat.reduceLT, Nat.reduceLeDiff, Int.reduceLE, Int.reduceLT, Int.reduceToNat, Int.reduceBEq, Int.reduceBNe, Int.le_refl, Nat.le_refl, decide_true, decide_false, Int.cast_ofNat_Int, ↓reduceIte, h3331, g3333, h3336, h3341, h3344, h3347, h3349, h3829, h3832, h3836, h3838, h3840, h3933, h3934, h3935, h3936, h3937]
                        repeat with_reducible refine And.intro (by first | kernel_rfl | decide) ?_
                        obtain rfl := Option.some.inj h3979
                        (try dsimp only at h3970)
                        obtain rfl := Option.some.inj h3970
                        exact finC [(2, .v (.bool false))] [(2, .v (.bool false))] (by simp [leE, lk_cons]) (.cons _ _ _ _ _ (.v _ _ (.refl _)) .nil) (by rfl) (by simp [leE, lk_cons]) (by decide) (by decide) rfl (by simp only [go_sem, ne_eq, not_false_eq_true, Nat.reduceBEq, Nat.reduceAdd, Nat.reduceSub, Nat.reduceMul, Nat.reduceLT, Nat.reduceLeDiff, Int.reduceLE, Int.reduceLT, Int.reduceToNat, Int.reduceBEq, Int.reduceBNe, Int.le_refl, Nat.le_refl, decide_true, decide_false, Int.cast_ofNat_Int, ↓reduceIte, resQ_tmp, resQ_cell, resQ_nil, retD_one, retD_two, retD_three, retD_none]; try simp [R.val, retD_one, retD_two, retD_three, retD_none])
                      · have hh := brn_some h3979; clear h3979; rcases hh with ⟨h3938, h3979⟩ | ⟨h3938, h3979⟩
                        · refine W_sound tab_ok mixed 44 _ _ _ ?_
                          simp -implicitDefEqProofs only [go_sem, ne_eq, not_false_eq_true, Nat.reduceBEq, Nat.reduceAdd, Nat.reduceSub, Nat.reduceMul, Nat.reduceLT, Nat.reduceLeDiff, Int.reduceLE, Int.reduceLT, Int.reduceToNat, Int.reduceBEq, Int.reduceBNe, Int.le_refl, Nat.le_refl, decide_true, decide_false, Int.cast_ofNat_Int, ↓reduceIte, h3331, g3333, h3336, h3341, h3344, h3347, h3349, h3829, h3832, h3836, h3838, h3840, h3933, h3934, h3935, h3936, h3937, h3938]
                          repeat with_reducible refine And.intro (by first | kernel_rfl | decide) ?_
                          obtain rfl := Option.some.inj h3979
                          (try dsimp only at h3970)
                          obtain rfl := Option.some.inj h3970
                          exact finC [(2, .v (.bool false))] [(2, .v (.bool false))] (by simp [leE, lk_cons]) (.cons _ _ _ _ _ (.v _ _ (.refl _)) .nil) (by rfl) (by simp [leE, lk_cons]) (by decide) (by decide) rfl (by simp only [go_sem, ne_eq, not_false_eq_true, Nat.reduceBEq, Nat.reduceAdd, Nat.reduceSub, Nat.reduceMul, Nat.reduceLT, Nat.reduceLeDiff, Int.reduceLE, Int.reduceLT, Int.reduceToNat, Int.reduceBEq, Int.reduceBNe, Int.le_refl, Nat.le_refl, decide_true, decide_false, Int.cast_ofNat_Int, ↓reduceIte, resQ_tmp, resQ_cell, resQ_nil, retD_one, retD_two, retD_three, retD_none]; try simp [R.val, retD_one, retD_two, retD_three, retD_none])
                        · refine W_sound tab_ok mixed 44 _ _ _ ?_
                          simp -implicitDefEqProofs only [go_sem, ne_eq, not_false_eq_true, Nat.reduceBEq, Nat.reduceAdd, Nat.reduceSub, Nat.reduceMul, Nat.reduceLT, Nat.reduceLeDiff, Int.reduceLE, Int.reduceLT, Int.reduceToNat, Int.reduceBEq, Int.reduceBNe, Int.le_refl, Nat.le_refl, decide_true, decide_false, Int.cast_ofNat_Int, ↓reduceIte, h3331, g3333, h3336, h3341, h3344, h3347, h3349, h3829, h3832, h3836, h3838, h3840, h3933, h3934, h3935, h3936, h3937, h3938]
                          repeat with_reducible refine And.intro (by first | kernel_rfl | decide) ?_
                          exact cutQ _ ((Wk_le (.cons _ _ _ _ _ (.refl _) (.cons _ _ _ _ _ (.refl _) (.cons _ _ _ _ _ (.refl _) (.cons _ _ _ _ _ (.refl _) (.cons _ _ _ _ _ (.refl _) (.cons _ _ _ _ _ (.refl _) (.cons _ _ _ _ _ (.refl _) (.cons _ _ _ _ _ (.dead _) (.cons _ _ _ _ _ (.dead _) (.cons _ _ _ _ _ (.dead _) (.cons _ _ _ _ _ (.dead _) (.cons _ _ _ _ _ (.dead _) (.cons _ _ _ _ _ (.dead _) (.cons _ _ _ _ _ (.refl _) (.cons _ _ _ _ _ (.refl _) (.cons _ _ _ _ _ (.refl _) (.cons _ _ _ _ _ (.dead _) (.cons _ _ _ _ _ (.refl _) (.cons _ _ _ _ _ (.refl _) (.cons _ _ _ _ _ (.refl _) (.cons _ _ _ _ _ (.refl _) (.cons _ _ _ _ _ (.refl _) (.cons _ _ _ _ _ (.refl _) (.cons _ _ _ _ _ (.refl _) (.cons _ _ _ _ _ (.refl _) (.cons _ _ _ _ _ (.refl _) (.cons _ _ _ _ _ (.refl _) (.cons _ _ _ _ _ (.refl _) (.cons _ _ _ _ _ (.refl _) (.cons _ _ _ _ _ (.refl _) (.cons _ _ _ _ _ (.refl _) (.cons _ _ _ _ _ (.refl _) (.cons _ _ _ _ _ (.refl _) (.cons _ _ _ _ _ (.refl _) (.cons _ _ _ _ _ (.refl _) (.cons _ _ _ _ _ (.refl _) (.cons _ _ _ _ _ (.refl _) (.cons _ _ _ _ _ (.dead _) (.cons _ _ _ _ _ (.dead _) (.cons _ _ _ _ _ (.dead _) (.cons _ _ _ _ _ (.refl _) .nil))))))))))))))))))))))))))))))))))))))))) (OLe.refl _)).trans (cmpS_ok (st' := ⟨[], [(0, .dead), (1, .dead), (2, .dead), (3, .v (.ipt [(.lst false n3337 c3338)])), (4, .v (.lst false n3345 c3346)), (5, .dead), (6, .v (.fn 51 [(.ipt [(.lst false n3337 c3338)])])), (7, .dead), (8, .dead), (9, .dead), (10, .dead), (11, .dead), (12, .dead), (13, .dead), (14, .dead), (15, .dead), (16, .dead), (17, .dead), (18, .dead), (27, .dead), (30, .v (.int .i64 ((n3337 : Nat) : Int))), (31, .v (.int .i64 (IntKind.i64.wrap (x3828 + 1)))), (32, .dead), (42, .dead), (43, .dead), (44, .dead), (47, .dead), (48, .dead), (49, .dead), (51, .dead), (60, .dead), (72, .dead), (90, .dead), (93, .dead), (94, .dead), (95, .dead), (96, .dead), (124, .dead), (126, .dead), (136, .dead), (148, .dead)], [], 0, []⟩) (by kernel_rfl))) ⟨n, Nat.lt_succ_self n, _, h3979, rfl⟩
                  · have hh := brn_some h3979; clear h3979; rcases hh with ⟨h3939, h3979⟩ | ⟨h3939, h3979⟩
                    · refine W_sound tab_ok mixed 46 _ _ _ ?_
                      simp -implicitDefEqProofs only [go_sem, ne_eq, not_false_eq_true, Nat.reduceBEq, Nat.reduceAdd, Nat.reduceSub, Nat.reduceMul, Nat.reduceLT, Nat.reduceLeDiff, Int.reduceLE, Int.reduceLT, Int.reduceToNat, Int.reduceBEq, Int.reduceBNe, Int.le_refl, Nat.le_refl, decide_true, decide_false, Int.cast_ofNat_Int, ↓reduceIte, h3331, g3333, h3336, h3341, h3344, h3347, h3349, h3829, h3832, h3836, h3838, h3840, h3933, h3934, h3935, h3939]
                      repeat with_reducible refine And.intro (by first | kernel_rfl | decide) ?_
                      obtain rfl := Option.some.inj h3979
                      (try dsimp only at h3970)
                      obtain rfl := Option.some.inj h3970
                      exact finC [(2, .v (.bool false))] [(2, .v (.bool false))] (by simp [leE, lk_cons]) (.cons _ _ _ _ _ (.v _ _ (.refl _)) .nil) (by rfl) (by simp [leE, lk_cons]) (by decide) (by decide) rfl (by simp only [go_sem, ne_eq, not_false_eq_true, Nat.reduceBEq, Nat.reduceAdd, Nat.reduceSub, Nat.reduceMul, Nat.reduceLT, Nat.reduceLeDiff, Int.reduceLE, Int.reduceLT, Int.reduceToNat, Int.reduceBEq, Int.reduceBNe, Int.le_refl, Nat.le_refl, decide_true, decide_false, Int.cast_ofNat_Int, ↓reduceIte, resQ_tmp, resQ_cell, resQ_nil, retD_one, retD_two, retD_three, retD_none]; try simp [R.val, retD_one, retD_two, retD_three, retD_none])
                    · have hh := brn_some h3979; clear h3979; rcases hh with ⟨h3940, h3979⟩ | ⟨h3940, h3979⟩
                      · refine W_sound tab_ok mixed 46 _ _ _ ?_
                        simp -implicitDefEqProofs only [go_sem, ne_eq, not_false_eq_true, Nat.reduceBEq, Nat.reduceAdd, Nat.reduceSub, Nat.reduceMul, Nat.reduceLT, Nat.reduceLeDiff, Int.reduceLE, Int.reduceLT, Int.reduceToNat, Int.reduceBEq, Int.reduceBNe, Int.le_refl, Nat.le_refl, decide_true, decide_false, Int.cast_ofNat_Int, ↓reduceIte, h3331, g3333, h3336, h3341, h3344, h3347, h3349, h3829, h3832, h3836, h3838, h3840, h3933, h3934, h3935, h3939, h3940]
                        repeat with_reducible refine And.intro (by first | kernel_rfl | decide) ?_
                        obtain rfl := Option.some.inj h3979
                        (try dsimp only at h3970)
                        obtain rfl := Option.some.inj h3970
                        exact finC [(2, .v (.bool false))] [(2, .v (.bool false))] (by simp [leE, lk_cons]) (.cons _ _ _ _ _ (.v _ _ (.refl _)) .nil) (by rfl) (by simp [leE, lk_cons]) (by decide) (by decide) rfl (by simp only [go_sem, ne_eq, not_false_eq_true, Nat.reduceBEq, Nat.reduceAdd, Nat.reduceSub, Nat.reduceMul, Nat.reduceLT, Nat.reduceLeDiff, Int.reduceLE, Int.reduceLT, Int.reduceToNat, Int.reduceBEq, Int.reduceBNe, Int.le_refl, Nat.le_refl, decide_true, decide_false, Int.cast_ofNat_Int, ↓reduceIte, resQ_tmp, resQ_cell, resQ_nil, retD_one, retD_two, retD_three, retD_none]; try simp [R.val, retD_one, retD_two, retD_three, retD_none])
                      · have hh := brn_some h3979; clear h3979; rcases hh with ⟨h3941, h3979⟩ | ⟨h3941, h3979⟩
                        · refine W_sound tab_ok mixed 46 _ _ _ ?_
                          simp -implicitDefEqProofs only [go_sem, ne_eq, not_false_eq_true, Nat.reduceBEq, Nat.reduceAdd, Nat.reduceSub, Nat.reduceMul, Nat.reduceLT, Nat.reduceLeDiff, Int.reduceLE, Int.reduceLT, Int.reduceToNat, Int.reduceBEq, Int.reduceBNe, Int.le_refl, Nat.le_refl, decide_true, decide_false, Int.cast_ofNat_Int, ↓reduceIte, h3331, g3333, h3336, h3341, h3344, h3347, h3349, h3829, h3832, h3836, h3838, h3840, h3933, h3934, h3935, h3939, h3940, h3941]
                          repeat with_reducible refine And.intro (by first | kernel_rfl | decide) ?_
                          obtain rfl := Option.some.inj h3979
                          (try dsimp only at h3970)
                          obtain rfl := Option.some.inj h3970
                          exact finC [(2, .v (.bool false))] [(2, .v (.bool false))] (by simp [leE, lk_cons]) (.cons _ _ _ _ _ (.v _ _ (.refl _)) .nil) (by rfl) (by simp [leE, lk_cons]) (by decide) (by decide) rfl (by simp only [go_sem, ne_eq, not_false_eq_true, Nat.reduceBEq, Nat.reduceAdd, Nat.reduceSub, Nat.reduceMul, Nat.reduceLT, Nat.reduceLeDiff, Int.reduceLE, Int.reduceLT, Int.reduceToNat, Int.reduceBEq, Int.reduceBNe, Int.le_refl, Nat.le_refl, decide_true, decide_false, Int.cast_ofNat_Int, ↓reduceIte, resQ_tmp, resQ_cell, resQ_nil, retD_one, retD_two, retD_three, retD_none]; try simp [R.val, retD_one, retD_two, retD_three, retD_none])
                        · refine W_sound tab_ok mixed 46 _ _ _ ?_
                          simp -implicitDefEqProofs only [go_sem, ne_eq, not_false_eq_true, Nat.reduceBEq, Nat.reduceAdd, Nat.reduceSub, Nat.reduceMul, Nat.reduceLT, Nat.reduceLeDiff, Int.reduceLE, Int.reduceLT, Int.reduceToNat, Int.reduceBEq, Int.reduceBNe, Int.le_refl, Nat.le_refl, decide_true, decide_false, Int.cast_ofNat_Int, ↓reduceIte, h3331, g3333, h3336, h3341, h3344, h3347, h3349, h3829, h3832, h3836, h3838, h3840, h3933, h3934, h3935, h3939, h3940, h3941]
                          repeat with_reducible refine And.intro (by first | kernel_rfl | decide) ?_
                          exact cutQ _ ((Wk_le (.cons _ _ _ _ _ (.refl _) (.cons _ _ _ _ _ (.refl _) (.cons _ _ _ _ _ (.refl _) (.cons _ _ _ _ _ (.refl _) (.cons _ _ _ _ _ (.refl _) (.cons _ _ _ _ _ (.refl _) (.cons _ _ _ _ _ (.refl _) (.cons _ _ _ _ _ (.dead _) (.cons _ _ _ _ _ (.dead _) (.cons _ _ _ _ _ (.dead _) (.cons _ _ _ _ _ (.dead _) (.cons _ _ _ _ _ (.dead _) (.cons _ _ _ _ _ (.dead _) (.cons _ _ _ _ _ (.refl _) (.cons _ _ _ _ _ (.refl _) (.cons _ _ _ _ _ (.refl _) (.cons _ _ _ _ _ (.dead _) (.cons _ _ _ _ _ (.refl _) (.cons _ _ _ _ _ (.refl _) (.cons _ _ _ _ _ (.refl _) (.cons _ _ _ _ _ (.refl _) (.cons _ _ _ _ _ (.refl _) (.cons _ _ _ _ _ (.refl _) (.cons _ _ _ _ _ (.refl _) (.cons _ _ _ _ _ (.refl _) (.cons _ _ _ _ _ (.refl _) (.cons _ _ _ _ _ (.refl _) (.cons _ _ _ _ _ (.refl _) (.cons _ _ _ _ _ (.refl _) (.cons _ _ _ _ _ (.refl _) (.cons _ _ _ _ _ (.refl _) (.cons _ _ _ _ _ (.refl _) (.cons _ _ _ _ _ (.refl _) (.cons _ _ _ _ _ (.refl _) (.cons _ _ _ _ _ (.refl _) (.cons _ _ _ _ _ (.refl _) (.cons _ _ _ _ _ (.refl _) (.cons _ _ _ _ _ (.dead _) (.cons _ _ _ _ _ (.dead _) (.cons _ _ _ _ _ (.refl _) (.cons _ _ _ _ _ (.dead _) .nil))))))))))))))))))))))))))))))))))))))))) (OLe.refl _)).trans (cmpS_ok (st' := ⟨[], [(0, .dead), (1, .dead), (2, .dead), (3, .v (.ipt [(.lst false n3337 c3338)])), (4, .v (.lst false n3345 c3346)), (5, .dead), (6, .v (.fn 51 [(.ipt [(.lst false n3337 c3338)])])), (7, .dead), (8, .dead), (9, .dead), (10, .dead), (11, .dead), (12, .dead), (13, .dead), (14, .dead), (15, .dead), (16, .dead), (17, .dead), (18, .dead), (27, .dead), (30, .v (.int .i64 ((n3337 : Nat) : Int))), (31, .v (.int .i64 (IntKind.i64.wrap (x3828 + 1)))), (32, .dead), (42, .dead), (43, .dead), (44, .dead), (47, .dead), (48, .dead), (49, .dead), (51, .dead), (60, .dead), (72, .dead), (90, .dead), (93, .dead), (94, .dead), (95, .dead), (96, .dead), (124, .dead), (126, .dead), (136, .dead), (148, .dead)], [], 0, []⟩) (by kernel_rfl))) ⟨n, Nat.lt_succ_self n, _, h3979, rfl⟩
              · have hh := bnd'_some h3979; clear h3979; obtain ⟨p3942, h3943, h3979⟩ := hh
                refine W_sound tab_ok mixed 9 _ _ _ ?_
                simp -implicitDefEqProofs only [go_sem, ne_eq, not_false_eq_true, Nat.reduceBEq, Nat.reduceAdd, Nat.reduceSub, Nat.reduceMul, Nat.reduceLT, Nat.reduceLeDiff, Int.reduceLE, Int.reduceLT, Int.reduceToNat, Int.reduceBEq, Int.reduceBNe, Int.le_refl, Nat.le_refl, decide_true, decide_false, Int.cast_ofNat_Int, ↓reduceIte, h3331, g3333, h3336, h3341, h3344, h3347, h3349, h3829, h3832, h3836, h3838, h3840, h3933]
                repeat with_reducible refine And.intro (by first | kernel_rfl | decide) ?_
                refine Wp_callP (c50 N _ _ _ h3943) (by kernel_rfl) rfl rfl rfl rfl (by decide) ?_
                have hh := getB_some h3979; clear h3979; obtain ⟨b3945, h3944, h3979⟩ := hh
                have hh := brn_some h3979; clear h3979; rcases hh with ⟨h3946, h3979⟩ | ⟨h3946, h3979⟩
                · have hh := brn_some h3979; clear h3979; rcases hh with ⟨h3947, h3979⟩ | ⟨h3947, h3979⟩
                  · refine W_sound tab_ok mixed 11 _ _ _ ?_
                    simp -implicitDefEqProofs only [go_sem, ne_eq, not_false_eq_true, Nat.reduceBEq, Nat.reduceAdd, Nat.reduceSub, Nat.reduceMul, Nat.reduceLT, Nat.reduceLeDiff, Int.reduceLE, Int.reduceLT, Int.reduceToNat, Int.reduceBEq, Int.reduceBNe, Int.le_refl, Nat.le_refl, decide_true, decide_false, Int.cast_ofNat_Int, ↓reduceIte, h3331, g3333, h3336, h3341, h3344, h3347, h3349, h3829, h3832, h3836, h3838, h3840, h3933, h3944, h3946, h3947]
                    repeat with_reducible refine And.intro (by first | kernel_rfl | decide) ?_
                    obtain rfl := Option.some.inj h3979
                    (try dsimp only at h3970)
                    obtain rfl := Option.some.inj h3970
                    exact finC [(2, .v (.bool false))] [(2, .v (.bool false))] (by simp [leE, lk_cons]) (.cons _ _ _ _ _ (.v _ _ (.refl _)) .nil) (by rfl) (by simp [leE, lk_cons]) (by decide) (by decide) rfl (by simp only [go_sem, ne_eq, not_false_eq_true, Nat.reduceBEq, Nat.reduceAdd, Nat.reduceSub, Nat.reduceMul, Nat.reduceLT, Nat.reduceLeDiff, Int.reduceLE, Int.reduceLT, Int.reduceToNat, Int.reduceBEq, Int.reduceBNe, Int.le_refl, Nat.le_refl, decide_true, decide_false, Int.cast_ofNat_Int, ↓reduceIte, resQ_tmp, resQ_cell, resQ_nil, retD_one, retD_two, retD_three, retD_none]; try simp [R.val, retD_one, retD_two, retD_three, retD_none])
                  · have hh := brn_some h3979; clear h3979; rcases hh with ⟨h3948, h3979⟩ | ⟨h3948, h3979⟩
                    · have hh := brn_some h3979; clear h3979; rcases hh with ⟨h3949, h3979⟩ | ⟨h3949, h3979⟩
                      · refine W_sound tab_ok mixed 34 _ _ _ ?_
                        simp -implicitDefEqProofs only [go_sem, ne_eq, not_false_eq_true, Nat.reduceBEq, Nat.reduceAdd, Nat.reduceSub, Nat.reduceMul, Nat.reduceLT, Nat.reduceLeDiff, Int.reduceLE, Int.reduceLT, Int.reduceToNat, Int.reduceBEq, Int.reduceBNe, Int.le_refl, Nat.le_refl, decide_true, decide_false, Int.cast_ofNat_Int, ↓reduceIte, h3331, g3333, h3336, h3341, h3344, h3347, h3349, h3829, h3832, h3836, h3838, h3840, h3933, h3944, h3946, h3947, h3948, h3949]
                        repeat with_reducible refine And.intro (by first | kernel_rfl | decide) ?_
                        obtain rfl := Option.some.inj h3979
                        (try dsimp only at h3970)
                        obtain rfl := Option.some.inj h3970
                        exact finC [(2, .v (.bool false))] [(2, .v (.bool false))] (by simp [leE, lk_cons]) (.cons _ _ _ _ _ (.v _ _ (.refl _)) .nil) (by rfl) (by simp [leE, lk_cons]) (by decide) (by decide) rfl (by simp only [go_sem, ne_eq, not_false_eq_true, Nat.reduceBEq, Nat.reduceAdd, Nat.reduceSub, Nat.reduceMul, Nat.reduceLT, Nat.reduceLeDiff, Int.reduceLE, Int.reduceLT, Int.reduceToNat, Int.reduceBEq, Int.reduceBNe, Int.le_refl, Nat.le_refl, decide_true, decide_false, Int.cast_ofNat_Int, ↓reduceIte, resQ_tmp, resQ_cell, resQ_nil, retD_one, retD_two, retD_three, retD_none]; try simp [R.val, retD_one, retD_two, retD_three, retD_none])
                      · have hh := brn_some h3979; clear h3979; rcases hh with ⟨h3950, h3979⟩ | ⟨h3950, h3979⟩
                        · refine W_sound tab_ok mixed 34 _ _ _ ?_
                          simp -implicitDefEqProofs only [go_sem, ne_eq, not_false_eq_true, Nat.reduceBEq, Nat.reduceAdd, Nat.reduceSub, Nat.reduceMul, Nat.reduceLT, Nat.reduceLeDiff, Int.reduceLE, Int.reduceLT, Int.reduceToNat, Int.reduceBEq, Int.reduceBNe, Int.le_refl, Nat.le_refl, decide_true, decide_false, Int.cast_ofNat_Int, ↓reduceIte, h3331, g3333, h3336, h3341, h3344, h3347, h3349, h3829, h3832, h3836, h3838, h3840, h3933, h3944, h3946, h3947, h3948, h3949, h3950]
                          repeat with_reducible refine And.intro (by first | kernel_rfl | decide) ?_
                          obtain rfl := Option.some.inj h3979
                          (try dsimp only at h3970)
                          obtain rfl := Option.some.inj h3970
                          exact finC [(2, .v (.bool false))] [(2, .v (.bool false))] (by simp [leE, lk_cons]) (.cons _ _ _ _ _ (.v _ _ (.refl _)) .nil) (by rfl) (by simp [leE, lk_cons]) (by decide) (by decide) rfl (by simp only [go_sem, ne_eq, not_false_eq_true, Nat.reduceBEq, Nat.reduceAdd, Nat.reduceSub, Nat.reduceMul, Nat.reduceLT, Nat.reduceLeDiff, Int.reduceLE, Int.reduceLT, Int.reduceToNat, Int.reduceBEq, Int.reduceBNe, Int.le_refl, Nat.le_refl, decide_true, decide_false, Int.cast_ofNat_Int, ↓reduceIte, resQ_tmp, resQ_cell, resQ_nil, retD_one, retD_two, retD_three, retD_none]; try simp [R.val, retD_one, retD_two, retD_three, retD_none])
                        · have hh := brn_some h3979; clear h3979; rcases hh with ⟨h3951, h3979⟩ | ⟨h3951, h3979⟩
                          · refine W_sound tab_ok mixed 34 _ _ _ ?_
                            simp -implicitDefEqProofs only [go_sem, ne_eq, not_false_eq_true, Nat.reduceBEq, Nat.reduceAdd, Nat.reduceSub, Nat.reduceMul, Nat.reduceLT, Nat.reduceLeDiff, Int.reduceLE, Int.reduceLT, Int.reduceToNat, Int.reduceBEq, Int.reduceBNe, Int.le_refl, Nat.le_refl, decide_true, decide_false, Int.cast_ofNat_Int, ↓reduceIte, h3331, g3333, h3336, h3341, h3344, h3347, h3349, h3829, h3832, h3836, h3838, h3840, h3933, h3944, h3946, h3947, h3948, h3949, h3950, h3951]
                            repeat with_reducible refine And.intro (by first | kernel_rfl | decide) ?_
                            obtain rfl := Option.some.inj h3979
                            (try dsimp only at h3970)
                            obtain rfl := Option.some.inj h3970
                            exact finC [(2, .v (.bool false))] [(2, .v (.bool false))] (by simp [leE, lk_cons]) (.cons _ _ _ _ _ (.v _ _ (.refl _)) .nil) (by rfl) (by simp [leE, lk_cons]) (by decide) (by decide) rfl (by simp only [go_sem, ne_eq, not_false_eq_true, Nat.reduceBEq, Nat.reduceAdd, Nat.reduceSub, Nat.reduceMul, Nat.reduceLT, Nat.reduceLeDiff, Int.reduceLE, Int.reduceLT, Int.reduceToNat, Int.reduceBEq, Int.reduceBNe, Int.le_refl, Nat.le_refl, decide_true, decide_false, Int.cast_ofNat_Int, ↓reduceIte, resQ_tmp, resQ_cell, resQ_nil, retD_one, retD_two, retD_three, retD_none]; try simp [R.val, retD_one, retD_two, retD_three, retD_none])
                          · refine W_sound tab_ok mixed 34 _ _ _ ?_
                            simp -implicitDefEqProofs only [go_sem, ne_eq, not_false_eq_true, Nat.reduceBEq, Nat.reduceAdd, Nat.reduceSub, Nat.reduceMul, Nat.reduceLT, Nat.reduceLeDiff, Int.reduceLE, Int.reduceLT, Int.reduceToNat, Int.reduceBEq, Int.reduceBNe, Int.le_refl, Nat.le_refl, decide_true, decide_false, Int.cast_ofNat_Int, ↓reduceIte, h3331, g3333, h3336, h3341, h3344, h3347, h3349, h3829, h3832, h3836, h3838, h3840, h3933, h3944, h3946, h3947, h3948, h3949, h3950, h3951]
                            repeat with_reducible refine And.intro (by first | kernel_rfl | decide) ?_
                            exact cutQ _ ((Wk_le (.cons _ _ _ _ _ (.refl _) (.cons _ _ _ _ _ (.refl _) (.cons _ _ _ _ _ (.refl _) (.cons _ _ _ _ _ (.refl _) (.cons _ _ _ _ _ (.refl _) (.cons _ _ _ _ _ (.refl _) (.cons _ _ _ _ _ (.refl _) (.cons _ _ _ _ _ (.dead _) (.cons _ _ _ _ _ (.dead _) (.cons _ _ _ _ _ (.dead _) (.cons _ _ _ _ _ (.dead _) (.cons _ _ _ _ _ (.dead _) (.cons _ _ _ _ _ (.dead _) (.cons _ _ _ _ _ (.refl _) (.cons _ _ _ _ _ (.refl _) (.cons _ _ _ _ _ (.refl _) (.cons _ _ _ _ _ (.dead _) (.cons _ _ _ _ _ (.refl _) (.cons _ _ _ _ _ (.refl _) (.cons _ _ _ _ _ (.refl _) (.cons _ _ _ _ _ (.refl _) (.cons _ _ _ _ _ (.refl _) (.cons _ _ _ _ _ (.refl _) (.cons _ _ _ _ _ (.refl _) (.cons _ _ _ _ _ (.refl _) (.cons _ _ _ _ _ (.refl _) (.cons _ _ _ _ _ (.refl _) (.cons _ _ _ _ _ (.refl _) (.cons _ _ _ _ _ (.refl _) (.cons _ _ _ _ _ (.refl _) (.cons _ _ _ _ _ (.refl _) (.cons _ _ _ _ _ (.refl _) (.cons _ _ _ _ _ (.refl _) (.cons _ _ _ _ _ (.refl _) (.cons _ _ _ _ _ (.refl _) (.cons _ _ _ _ _ (.refl _) (.cons _ _ _ _ _ (.refl _) (.cons _ _ _ _ _ (.dead _) (.cons _ _ _ _ _ (.dead _) (.cons _ _ _ _ _ (.dead _) (.cons _ _ _ _ _ (.refl _) .nil))))))))))))))))))))))))))))))))))))))))) (OLe.refl _)).trans (cmpS_ok (st' := ⟨[], [(0, .dead), (1, .dead), (2, .dead), (3, .v (.ipt [(.lst false n3337 c3338)])), (4, .v (.lst false n3345 c3346)), (5, .dead), (6, .v (.fn 51 [(.ipt [(.lst false n3337 c3338)])])), (7, .dead), (8, .dead), (9, .dead), (10, .dead), (11, .dead), (12, .dead), (13, .dead), (14, .dead), (15, .dead), (16, .dead), (17, .dead), (18, .dead), (27, .dead), (30, .v (.int .i64 ((n3337 : Nat) : Int))), (31, .v (.int .i64 (IntKind.i64.wrap (x3828 + 1)))), (32, .dead), (42, .dead), (43, .dead), (44, .dead), (47, .dead), (48, .dead), (49, .dead), (51, .dead), (60, .dead), (72, .dead), (90, .dead), (93, .dead), (94, .dead), (95, .dead), (96, .dead), (124, .dead), (126, .dead), (136, .dead), (148, .dead)], [], 0, []⟩) (by kernel_rfl))) ⟨n, Nat.lt_succ_self n, _, h3979, rfl⟩
                    · have hh := brn_some h3979; clear h3979; rcases hh with ⟨h3952, h3979⟩ | ⟨h3952, h3979⟩
                      · refine W_sound tab_ok mixed 36 _ _ _ ?_
                        simp -implicitDefEqProofs only [go_sem, ne_eq, not_false_eq_true, Nat.reduceBEq, Nat.reduceAdd, Nat.reduceSub, Nat.reduceMul, Nat.reduceLT, Nat.reduceLeDiff, Int.reduceLE, Int.reduceLT, Int.reduceToNat, Int.reduceBEq, Int.reduceBNe, Int.le_refl, Nat.le_refl, decide_true, decide_false, Int.cast_ofNat_Int, ↓reduceIte, h3331, g3333, h3336, h3341, h3344, h3347, h3349, h3829, h3832, h3836, h3838, h3840, h3933, h3944, h3946, h3947, h3948, h3952]
                        repeat with_reducible refine And.intro (by first | kernel_rfl | decide) ?_
                        obtain rfl := Option.some.inj h3979
                        (try dsimp only at h3970)
                        obtain rfl := Option.some.inj h3970
                        exact finC [(2, .v (.bool false))] [(2, .v (.bool false))] (by simp [leE, lk_cons]) (.cons _ _ _ _ _ (.v _ _ (.refl _)) .nil) (by rfl) (by simp [leE, lk_cons]) (by decide) (by decide) rfl (by simp only [go_sem, ne_eq, not_false_eq_true, Nat.reduceBEq, Nat.reduceAdd, Nat.reduceSub, Nat.reduceMul, Nat.reduceLT, Nat.reduceLeDiff, Int.reduceLE, Int.reduceLT, Int.reduceToNat, Int.reduceBEq, Int.reduceBNe, Int.le_refl, Nat.le_refl, decide_true, decide_false, Int.cast_ofNat_Int, ↓reduceIte, resQ_tmp, resQ_cell, resQ_nil, retD_one, retD_two, retD_three, retD_none]; try simp [R.val, retD_one, retD_two, retD_three, retD_none])
                      · have hh := brn_some h3979; clear h3979; rcases hh with ⟨h3953, h3979⟩ | ⟨h3953, h3979⟩
                        · refine W_sound tab_ok mixed 36 _ _ _ ?_
                          simp -implicitDefEqProofs only [go_sem, ne_eq, not_false_eq_true, Nat.reduceBEq, Nat.reduceAdd, Nat.reduceSub, Nat.reduceMul, Nat.reduceLT, Nat.reduceLeDiff, Int.reduceLE, Int.reduceLT, Int.reduceToNat, Int.reduceBEq, Int.reduceBNe, Int.le_refl, Nat.le_refl, decide_true, decide_false, Int.cast_ofNat_Int, ↓reduceIte, h3331, g3333, h3336, h3341, h3344, h3347, h3349, h3829, h3832, h3836, h3838, h3840, h3933, h3944, h3946, h3947, h3948, h3952, h3953]
                          repeat with_reducible refine And.intro (by first | kernel_rfl | decide) ?_
                          obtain rfl := Option.some.inj h3979
                          (try dsimp only at h3970)
                          obtain rfl := Option.some.inj h3970
                          exact finC [(2, .v (.bool false))] [(2, .v (.bool false))] (by simp [leE, lk_cons]) (.cons _ _ _ _ _ (.v _ _ (.refl _)) .nil) (by rfl) (by simp [leE, lk_cons]) (by decide) (by decide) rfl (by simp only [go_sem, ne_eq, not_false_eq_true, Nat.reduceBEq, Nat.reduceAdd, Nat.reduceSub, Nat.reduceMul, Nat.reduceLT, Nat.reduceLeDiff, Int.reduceLE, Int.reduceLT, Int.reduceToNat, Int.reduceBEq, Int.reduceBNe, Int.le_refl, Nat.le_refl, decide_true, decide_false, Int.cast_ofNat_Int, ↓reduceIte, resQ_tmp, resQ_cell, resQ_nil, retD_one, retD_two, retD_three, retD_none]; try simp [R.val, retD_one, retD_two, retD_three, retD_none])
                        · have hh := brn_some h3979; clear h3979; rcases hh with ⟨h3954, h3979⟩ | ⟨h3954, h3979⟩
                          · refine W_sound tab_ok mixed 36 _ _ _ ?_
                            simp -implicitDefEqProofs only [go_sem, ne_eq, not_false_eq_true, Nat.reduceBEq, Nat.reduceAdd, Nat.reduceSub, Nat.reduceMul, Nat.reduceLT, Nat.reduceLeDiff, Int.reduceLE, Int.reduceLT, Int.reduceToNat, Int.reduceBEq, Int.reduceBNe, Int.le_refl, Nat.le_refl, decide_true, decide_false, Int.cast_ofNat_Int, ↓reduceIte, h3331, g3333, h3336, h3341, h3344, h3347, h3349, h3829, h3832, h3836, h3838, h3840, h3933, h3944, h3946, h3947, h3948, h3952, h3953, h3954]
                            repeat with_reducible refine And.intro (by first | kernel_rfl | decide) ?_
                            obtain rfl := Option.some.inj h3979
                            (try dsimp only at h3970)
                            obtain rfl := Option.some.inj h3970
                            exact finC [(2, .v (.bool false))] [(2, .v (.bool false))] (by simp [leE, lk_cons]) (.cons _ _ _ _ _ (.v _ _ (.refl _)) .nil) (by rfl) (by simp [leE, lk_cons]) (by decide) (by decide) rfl (by simp only [go_sem, ne_eq, not_false_eq_true, Nat.reduceBEq, Nat.reduceAdd, Nat.reduceSub, Nat.reduceMul, Nat.reduceLT, Nat.reduceLeDiff, Int.reduceLE, Int.reduceLT, Int.reduceToNat, Int.reduceBEq, Int.reduceBNe, Int.le_refl, Nat.le_refl, decide_true, decide_false, Int.cast_ofNat_Int, ↓reduceIte, resQ_tmp, resQ_cell, resQ_nil, retD_one, retD_two, retD_three, retD_none]; try simp [R.val, retD_one, retD_two, retD_three, retD_none])
                          · refine W_sound tab_ok mixed 36 _ _ _ ?_
                            simp -implicitDefEqProofs only [go_sem, ne_eq, not_false_eq_true, Nat.reduceBEq, Nat.reduceAdd, Nat.reduceSub, Nat.reduceMul, Nat.reduceLT, Nat.reduceLeDiff, Int.reduceLE, Int.reduceLT, Int.reduceToNat, Int.reduceBEq, Int.reduceBNe, Int.le_refl, Nat.le_refl, decide_true, decide_false, Int.cast_ofNat_Int, ↓reduceIte, h3331, g3333, h3336, h3341, h3344, h3347, h3349, h3829, h3832, h3836, h3838, h3840, h3933, h3944, h3946, h3947, h3948, h3952, h3953, h3954]
                            repeat with_reducible refine And.intro (by first | kernel_rfl | decide) ?_
                            exact cutQ _ ((Wk_le (.cons _ _ _ _ _ (.refl _) (.cons _ _ _ _ _ (.refl _) (.cons _ _ _ _ _ (.refl _) (.cons _ _ _ _ _ (.refl _) (.cons _ _ _ _ _ (.refl _) (.cons _ _ _ _ _ (.refl _) (.cons _ _ _ _ _ (.refl _) (.cons _ _ _ _ _ (.dead _) (.cons _ _ _ _ _ (.dead _) (.cons _ _ _ _ _ (.dead _) (.cons _ _ _ _ _ (.dead _) (.cons _ _ _ _ _ (.dead _) (.cons _ _ _ _ _ (.dead _) (.cons _ _ _ _ _ (.refl _) (.cons _ _ _ _ _ (.refl _) (.cons _ _ _ _ _ (.refl _) (.cons _ _ _ _ _ (.dead _) (.cons _ _ _ _ _ (.refl _) (.cons _ _ _ _ _ (.refl _) (.cons _ _ _ _ _ (.refl _) (.cons _ _ _ _ _ (.refl _) (.cons _ _ _ _ _ (.refl _) (.cons _ _ _ _ _ (.refl _) (.cons _ _ _ _ _ (.refl _) (.cons _ _ _ _ _ (.refl _) (.cons _ _ _ _ _ (.refl _) (.cons _ _ _ _ _ (.refl _) (.cons _ _ _ _ _ (.refl _) (.cons _ _ _ _ _ (.refl _) (.cons _ _ _ _ _ (.refl _) (.cons _ _ _ _ _ (.refl _) (.cons _ _ _ _ _ (.refl _) (.cons _ _ _ _ _ (.refl _) (.cons _ _ _ _ _ (.refl _) (.cons _ _ _ _ _ (.refl _) (.cons _ _ _ _ _ (.refl _) (.cons _ _ _ _ _ (.refl _) (.cons _ _ _ _ _ (.dead _) (.cons _ _ _ _ _ (.dead _) (.cons _ _ _ _ _ (.refl _) (.cons _ _ _ _ _ (.dead _) .nil))))))))))))))))))))))))))))))))))))))))) (OLe.refl _)).trans (cmpS_ok (st' := ⟨[], [(0, .dead), (1, .dead), (2, .dead), (3, .v (.ipt [(.lst false n3337 c3338)])), (4, .v (.lst false n3345 c3346)), (5, .dead), (6, .v (.fn 51 [(.ipt [(.lst false n3337 c3338)])])), (7, .dead), (8, .dead), (9, .dead), (10, .dead), (11, .dead), (12, .dead), (13, .dead), (14, .dead), (15, .dead), (16, .dead), (17, .dead), (18, .dead), (27, .dead), (30, .v (.int .i64 ((n3337 : Nat) : Int))), (31, .v (.int .i64 (IntKind.i64.wrap (x3828 + 1)))), (32, .dead), (42, .dead), (43, .dead), (44, .dead), (47, .dead), (48, .dead), (49, .dead), (51, .dead), (60, .dead), (72, .dead), (90, .dead), (93, .dead), (94, .dead), (95, .dead), (96, .dead), (124, .dead), (126, .dead), (136, .dead), (148, .dead)], [], 0, []⟩) (by kernel_rfl))) ⟨n, Nat.lt_succ_self n, _, h3979, rfl⟩
                · have hh := brn_some h3979; clear h3979; rcases hh with ⟨h3955, h3979⟩ | ⟨h3955, h3979⟩
                  · refine W_sound tab_ok mixed 11 _ _ _ ?_
                    simp -implicitDefEqProofs only [go_sem, ne_eq, not_false_eq_true, Nat.reduceBEq, Nat.reduceAdd, Nat.reduceSub, Nat.reduceMul, Nat.reduceLT, Nat.reduceLeDiff, Int.reduceLE, Int.reduceLT, Int.reduceToNat, Int.reduceBEq, Int.reduceBNe, Int.le_refl, Nat.le_refl, decide_true, decide_false, Int.cast_ofNat_Int, ↓reduceIte, h3331, g3333, h3336, h3341, h3344, h3347, h3349, h3829, h3832, h3836, h3838, h3840, h3933, h3944, h3946, h3955]
                    repeat with_reducible refine And.intro (by first | kernel_rfl | decide) ?_
                    obtain rfl := Option.some.inj h3979
                    (try dsimp only at h3970)
                    obtain rfl := Option.some.inj h3970
                    exact finC [(2, .v (.bool false))] [(2, .v (.bool false))] (by simp [leE, lk_cons]) (.cons _ _ _ _ _ (.v _ _ (.refl _)) .nil) (by rfl) (by simp [leE, lk_cons]) (by decide) (by decide) rfl (by simp only [go_sem, ne_eq, not_false_eq_true, Nat.reduceBEq, Nat.reduceAdd, Nat.reduceSub, Nat.reduceMul, Nat.reduceLT, Nat.reduceLeDiff, Int.reduceLE, Int.reduceLT, Int.reduceToNat, Int.reduceBEq, Int.reduceBNe, Int.le_refl, Nat.le_refl, decide_true, decide_false, Int.cast_ofNat_Int, ↓reduceIte, resQ_tmp, resQ_cell, resQ_nil, retD_one, retD_two, retD_three, retD_none]; try simp [R.val, retD_one, retD_two, retD_three, retD_none])
                  · have hh := brn_some h3979; clear h3979; rcases hh with ⟨h3956, h3979⟩ | ⟨h3956, h3979⟩
                    · have hh := brn_some h3979; clear h3979; rcases hh with ⟨h3957, h3979⟩ | ⟨h3957, h3979⟩
                      · refine W_sound tab_ok mixed 34 _ _ _ ?_
                        simp -implicitDefEqProofs only [go_sem, ne_eq, not_false_eq_true, Nat.reduceBEq, Nat.reduceAdd, Nat.reduceSub, Nat.reduceMul, Nat.reduceLT, Nat.reduceLeDiff, Int.reduceLE, Int.reduceLT, Int.reduceToNat, Int.reduceBEq, Int.reduceBNe, Int.le_refl, Nat.le_refl, decide_true, decide_false, Int.cast_ofNat_Int, ↓reduceIte, h3331, g3333, h3336, h3341, h3344, h3347, h3349, h3829, h3832, h3836, h3838, h3840, h3933, h3944, h3946, h3955, h3956, h3957]
                        repeat with_reducible refine And.intro (by first | kernel_rfl | decide) ?_
                        obtain rfl := Option.some.inj h3979
                        (try dsimp only at h3970)
                        obtain rfl := Option.some.inj h3970
                        exact finC [(2, .v (.bool false))] [(2, .v (.bool false))] (by simp [leE, lk_cons]) (.cons _ _ _ _ _ (.v _ _ (.refl _)) .nil) (by rfl) (by simp [leE, lk_cons]) (by decide) (by decide) rfl (by simp only [go_sem, ne_eq, not_false_eq_true, Nat.reduceBEq, Nat.reduceAdd, Nat.reduceSub, Nat.reduceMul, Nat.reduceLT, Nat.reduceLeDiff, Int.reduceLE, Int.reduceLT, Int.reduceToNat, Int.reduceBEq, Int.reduceBNe, Int.le_refl, Nat.le_refl, decide_true, decide_false, Int.cast_ofNat_Int, ↓reduceIte, resQ_tmp, resQ_cell, resQ_nil, retD_one, retD_two, retD_three, retD_none]; try simp [R.val, retD_one, retD_two, retD_three, retD_none])
                      · have hh := brn_some h3979; clear h3979; rcases hh with ⟨h3958, h3979⟩ | ⟨h3958, h3979⟩
                        · refine W_sound tab_ok mixed 34 _ _ _ ?_
                          simp -implicitDefEqProofs only [go_sem, ne_eq, not_false_eq_true, Nat.reduceBEq, Nat.reduceAdd, Nat.reduceSub, Nat.reduceMul, Nat.reduceLT, Nat.reduceLeDiff, Int.reduceLE, Int.reduceLT, Int.reduceToNat, Int.reduceBEq, Int.reduceBNe, Int.le_refl, Nat.le_refl, decide_true, decide_false, Int.cast_ofNat_Int, ↓reduceIte, h3331, g3333, h3336, h3341, h3344, h3347, h3349, h3829, h3832, h3836, h3838, h3840, h3933, h3944, h3946, h3955, h3956, h3957, h3958]
                          repeat with_reducible refine And.intro (by first | kernel_rfl | decide) ?_
                          obtain rfl := Option.some.inj h3979
                          (try dsimp only at h3970)
                          obtain rfl := Option.some.inj h3970
                          exact finC [(2, .v (.bool false))] [(2, .v (.bool false))] (by simp [leE, lk_cons]) (.cons _ _ _ _ _ (.v _ _ (.refl _)) .nil) (by rfl) (by simp [leE, lk_cons]) (by decide) (by decide) rfl (by simp only [go_sem, ne_eq, not_false_eq_true, Nat.reduceBEq, Nat.reduceAdd, Nat.reduceSub, Nat.reduceMul, Nat.reduceLT, Nat.reduceLeDiff, Int.reduceLE, Int.reduceLT, Int.reduceToNat, Int.reduceBEq, Int.reduceBNe, Int.le_refl, Nat.le_refl, decide_true, decide_false, Int.cast_ofNat_Int, ↓reduceIte, resQ_tmp, resQ_cell, resQ_nil, retD_one, retD_two, retD_three, retD_none]; try simp [R.val, retD_one, retD_two, retD_three, retD_none])
                        · have hh := brn_some h3979; clear h3979; rcases hh with ⟨h3959, h3979⟩ | ⟨h3959, h3979⟩
                          · refine W_sound tab_ok mixed 34 _ _ _ ?_
                            simp -implicitDefEqProofs only [go_sem, ne_eq, not_false_eq_true, Nat.reduceBEq, Nat.reduceAdd, Nat.reduceSub, Nat.reduceMul, Nat.reduceLT, Nat.reduceLeDiff, Int.reduceLE, Int.reduceLT, Int.reduceToNat, Int.reduceBEq, Int.reduceBNe, Int.le_refl, Nat.le_refl, decide_true, decide_false, Int.cast_ofNat_Int, ↓reduceIte, h3331, g3333, h3336, h3341, h3344, h3347, h3349, h3829, h3832, h3836, h3838, h3840, h3933, h3944, h3946, h3955, h3956, h3957, h3958, h3959]
                            repeat with_reducible refine And.intro (by first | kernel_rfl | decide) ?_
                            obtain rfl := Option.some.inj h3979
                            (try dsimp only at h3970)
                            obtain rfl := Option.some.inj h3970
                            exact finC [(2, .v (.bool false))] [(2, .v (.bool false))] (by simp [leE, lk_cons]) (.cons _ _ _ _ _ (.v _ _ (.refl _)) .nil) (by rfl) (by simp [leE, lk_cons]) (by decide) (by decide) rfl (by simp only [go_sem, ne_eq, not_false_eq_true, Nat.reduceBEq, Nat.reduceAdd, Nat.reduceSub, Nat.reduceMul, Nat.reduceLT, Nat.reduceLeDiff, Int.reduceLE, Int.reduceLT, Int.reduceToNat, Int.reduceBEq, Int.reduceBNe, Int.le_refl, Nat.le_refl, decide_true, decide_false, Int.cast_ofNat_Int, ↓reduceIte, resQ_tmp, resQ_cell, resQ_nil, retD_one, retD_two, retD_three, retD_none]; try simp [R.val, retD_one, retD_two, retD_three, retD_none])
                          · refine W_sound tab_ok mixed 34 _ _ _ ?_
                            simp -implicitDefEqProofs only [go_sem, ne_eq, not_false_eq_true, Nat.reduceBEq, Nat.reduceAdd, Nat.reduceSub, Nat.reduceMul, Nat.reduceLT, Nat.reduceLeDiff, Int.reduceLE, Int.reduceLT, Int.reduceToNat, Int.reduceBEq, Int.reduceBNe, Int.le_refl, Nat.le_refl, decide_true, decide_false, Int.cast_ofNat_Int, ↓reduceIte, h3331, g3333, h3336, h3341, h3344, h3347, h3349, h3829, h3832, h3836, h3838, h3840, h3933, h3944, h3946, h3955, h3956, h3957, h3958, h3959]
                            repeat with_reducible refine And.intro (by first | kernel_rfl | decide) ?_
                            exact cutQ _ ((Wk_le (.cons _ _ _ _ _ (.refl _) (.cons _ _ _ _ _ (.refl _) (.cons _ _ _ _ _ (.refl _) (.cons _ _ _ _ _ (.refl _) (.cons _ _ _ _ _ (.refl _) (.cons _ _ _ _ _ (.refl _) (.cons _ _ _ _ _ (.refl _) (.cons _ _ _ _ _ (.dead _) (.cons _ _ _ _ _ (.dead _) (.cons _ _ _ _ _ (.dead _) (.cons _ _ _ _ _ (.dead _) (.cons _ _ _ _ _ (.dead _) (.cons _ _ _ _ _ (.dead _) (.cons _ _ _ _ _ (.refl _) (.cons _ _ _ _ _ (.refl _) (.cons _ _ _ _ _ (.refl _) (.cons _ _ _ _ _ (.dead _) (.cons _ _ _ _ _ (.refl _) (.cons _ _ _ _ _ (.refl _) (.cons _ _ _ _ _ (.refl _) (.cons _ _ _ _ _ (.refl _) (.cons _ _ _ _ _ (.refl _) (.cons _ _ _ _ _ (.refl _) (.cons _ _ _ _ _ (.refl _) (.cons _ _ _ _ _ (.refl _) (.cons _ _ _ _ _ (.refl _) (.cons _ _ _ _ _ (.refl _) (.cons _ _ _ _ _ (.refl _) (.cons _ _ _ _ _ (.refl _) (.cons _ _ _ _ _ (.refl _) (.cons _ _ _ _ _ (.refl _) (.cons _ _ _ _ _ (.refl _) (.cons _ _ _ _ _ (.refl _) (.cons _ _ _ _ _ (.refl _) (.cons _ _ _ _ _ (.refl _) (.cons _ _ _ _ _ (.refl _) (.cons _ _ _ _ _ (.refl _) (.cons _ _ _ _ _ (.dead _) (.cons _ _ _ _ _ (.dead _) (.cons _ _ _ _ _ (.dead _) (.cons _ _ _ _ _ (.refl _) .nil))))))))))))))))))))))))))))))))))))))))) (OLe.refl _)).trans (cmpS_ok (st' := ⟨[], [(0, .dead), (1, .dead), (2, .dead), (3, .v (.ipt [(.lst false n3337 c3338)])), (4, .v (.lst false n3345 c3346)), (5, .dead), (6, .v (.fn 51 [(.ipt [(.lst false n3337 c3338)])])), (7, .dead), (8, .dead), (9, .dead), (10, .dead), (11, .dead), (12, .dead), (13, .dead), (14, .dead), (15, .dead), (16, .dead), (17, .dead), (18, .dead), (27, .dead), (30, .v (.int .i64 ((n3337 : Nat) : Int))), (31, .v (.int .i64 (IntKind.i64.wrap (x3828 + 1)))), (32, .dead), (42, .dead), (43, .dead), (44, .dead), (47, .dead), (48, .dead), (49, .dead), (51, .dead), (60, .dead), (72, .dead), (90, .dead), (93, .dead), (94, .dead), (95, .dead), (96, .dead), (124, .dead), (126, .dead), (136, .dead), (148, .dead)], [], 0, []⟩) (by kernel_rfl))) ⟨n, Nat.lt_succ_self n, _, h3979, rfl⟩
                    · have hh := brn_some h3979; clear h3979; rcases hh with ⟨h3960, h3979⟩ | ⟨h3960, h3979⟩
                      · refine W_sound tab_ok mixed 36 _ _ _ ?_
                        simp -implicitDefEqProofs only [go_sem, ne_eq, not_false_eq_true, Nat.reduceBEq, Nat.reduceAdd, Nat.reduceSub, Nat.reduceMul, Nat.reduceLT, Nat.reduceLeDiff, Int.reduceLE, Int.reduceLT, Int.reduceToNat, Int.reduceBEq, Int.reduceBNe, Int.le_refl, Nat.le_refl, decide_true, decide_false, Int.cast_ofNat_Int, ↓reduceIte, h3331, g3333, h3336, h3341, h3344, h3347, h3349, h3829, h3832, h3836, h3838, h3840, h3933, h3944, h3946, h3955, h3956, h3960]
                        repeat with_reducible refine And.intro (by first | kernel_rfl | decide) ?_
                        obtain rfl := Option.some.inj h3979
                        (try dsimp only at h3970)
                        obtain rfl := Option.some.inj h3970
                        exact finC [(2, .v (.bool false))] [(2, .v (.bool false))] (by simp [leE, lk_cons]) (.cons _ _ _ _ _ (.v _ _ (.refl _)) .nil) (by rfl) (by simp [leE, lk_cons]) (by decide) (by decide) rfl (by simp only [go_sem, ne_eq, not_false_eq_true, Nat.reduceBEq, Nat.reduceAdd, Nat.reduceSub, Nat.reduceMul, Nat.reduceLT, Nat.reduceLeDiff, Int.reduceLE, Int.reduceLT, Int.reduceToNat, Int.reduceBEq, Int.reduceBNe, Int.le_refl, Nat.le_refl, decide_true, decide_false, Int.cast_ofNat_Int, ↓reduceIte, resQ_tmp, resQ_cell, resQ_nil, retD_one, retD_two, retD_three, retD_none]; try simp [R.val, retD_one, retD_two, retD_three, retD_none])
                      · have hh := brn_some h3979; clear h3979; rcases hh with ⟨h3961, h3979⟩ | ⟨h3961, h3979⟩
                        · refine W_sound tab_ok mixed 36 _ _ _ ?_
                          simp -implicitDefEqProofs only [go_sem, ne_eq, not_false_eq_true, Nat.reduceBEq, Nat.reduceAdd, Nat.reduceSub, Nat.reduceMul, Nat.reduceLT, Nat.reduceLeDiff, Int.reduceLE, Int.reduceLT, Int.reduceToNat, Int.reduceBEq, Int.reduceBNe, Int.le_refl, Nat.le_refl, decide_true, decide_false, Int.cast_ofNat_Int, ↓reduceIte, h3331, g3333, h3336, h3341, h3344, h3347, h3349, h3829, h3832, h3836, h3838, h3840, h3933, h3944, h3946, h3955, h3956, h3960, h3961]
                          repeat with_reducible refine And.intro (by first | kernel_rfl | decide) ?_
                          obtain rfl := Option.some.inj h3979
                          (try dsimp only at h3970)
                          obtain rfl := Option.some.inj h3970
                          exact finC [(2, .v (.bool false))] [(2, .v (.bool false))] (by simp [leE, lk_cons]) (.cons _ _ _ _ _ (.v _ _ (.refl _)) .nil) (by rfl) (by simp [leE, lk_cons]) (by decide) (by decide) rfl (by simp only [go_sem, ne_eq, not_false_eq_true, Nat.reduceBEq, Nat.reduceAdd, Nat.reduceSub, Nat.reduceMul, Nat.reduceLT, Nat.reduceLeDiff, Int.reduceLE, Int.reduceLT, Int.reduceToNat, Int.reduceBEq, Int.reduceBNe, Int.le_refl, Nat.le_refl, decide_true, decide_false, Int.cast_ofNat_Int, ↓reduceIte, resQ_tmp, resQ_cell, resQ_nil, retD_one, retD_two, retD_three, retD_none]; try simp [R.val, retD_one, retD_two, retD_three, retD_none])
                        · have hh := brn_some h3979; clear h3979; rcases hh with ⟨h3962, h3979⟩ | ⟨h3962, h3979⟩
                          · refine W_sound tab_ok mixed 36 _ _ _ ?_
                            simp -implicitDefEqProofs only [go_sem, ne_eq, not_false_eq_true, Nat.reduceBEq, Nat.reduceAdd, Nat.reduceSub, Nat.reduceMul, Nat.reduceLT, Nat.reduceLeDiff, Int.reduceLE, Int.reduceLT, Int.reduceToNat, Int.reduceBEq, Int.reduceBNe, Int.le_refl, Nat.le_refl, decide_true, decide_false, Int.cast_ofNat_Int, ↓reduceIte, h3331, g3333, h3336, h3341, h3344, h3347, h3349, h3829, h3832, h3836, h3838, h3840, h3933, h3944, h3946, h3955, h3956, h3960, h3961, h3962]
                            repeat with_reducible refine And.intro (by first | kernel_rfl | decide) ?_
                            obtain rfl := Option.some.inj h3979
                            (try dsimp only at h3970)
                            obtain rfl := Option.some.inj h3970
                            exact finC [(2, .v (.bool false))] [(2, .v (.bool false))] (by simp [leE, lk_cons]) (.cons _ _ _ _ _ (.v _ _ (.refl _)) .nil) (by rfl) (by simp [leE, lk_cons]) (by decide) (by decide) rfl (by simp only [go_sem, ne_eq, not_false_eq_true, Nat.reduceBEq, Nat.reduceAdd, Nat.reduceSub, Nat.reduceMul, Nat.reduceLT, Nat.reduceLeDiff, Int.reduceLE, Int.reduceLT, Int.reduceToNat, Int.reduceBEq, Int.reduceBNe, Int.le_refl, Nat.le_refl, decide_true, decide_false, Int.cast_ofNat_Int, ↓reduceIte, resQ_tmp, resQ_cell, resQ_nil, retD_one, retD_two, retD_three, retD_none]; try simp [R.val, retD_one, retD_two, retD_three, retD_none])
                          · refine W_sound tab_ok mixed 36 _ _ _ ?_
                            simp -implicitDefEqProofs only [go_sem, ne_eq, not_false_eq_true, Nat.reduceBEq, Nat.reduceAdd, Nat.reduceSub, Nat.reduceMul, Nat.reduceLT, Nat.reduceLeDiff, Int.reduceLE, Int.reduceLT, Int.reduceToNat, Int.reduceBEq, Int.reduceBNe, Int.le_refl, Nat.le_refl, decide_true, decide_false, Int.cast_ofNat_Int, ↓reduceIte, h3331, g3333, h3336, h3341, h3344, h3347, h3349, h3829, h3832, h3836, h3838, h3840, h3933, h3944, h3946, h3955, h3956, h3960, h3961, h3962]
                            repeat with_reducible refine And.intro (by first | kernel_rfl | decide) ?_
                            exact cutQ _ ((Wk_le (.cons _ _ _ _ _ (.refl _) (.cons _ _ _ _ _ (.refl _) (.cons _ _ _ _ _ (.refl _) (.cons _ _ _ _ _ (.refl _) (.cons _ _ _ _ _ (.refl _) (.cons _ _ _ _ _ (.refl _) (.cons _ _ _ _ _ (.refl _) (.cons _ _ _ _ _ (.dead _) (.cons _ _ _ _ _ (.dead _) (.cons _ _ _ _ _ (.dead _) (.cons _ _ _ _ _ (.dead _) (.cons _ _ _ _ _ (.dead _) (.cons _ _ _ _ _ (.dead _) (.cons _ _ _ _ _ (.refl _) (.cons _ _ _ _ _ (.refl _) (.cons _ _ _ _ _ (.refl _) (.cons _ _ _ _ _ (.dead _) (.cons _ _ _ _ _ (.refl _) (.cons _ _ _ _ _ (.refl _) (.cons _ _ _ _ _ (.refl _) (.cons _ _ _ _ _ (.refl _) (.cons _ _ _ _ _ (.refl _) (.cons _ _ _ _ _ (.refl _) (.cons _ _ _ _ _ (.refl _) (.cons _ _ _ _ _ (.refl _) (.cons _ _ _ _ _ (.refl _) (.cons _ _ _ _ _ (.refl _) (.cons _ _ _ _ _ (.refl _) (.cons _ _ _ _ _ (.refl _) (.cons _ _ _ _ _ (.refl _) (.cons _ _ _ _ _ (.refl _) (.cons _ _ _ _ _ (.refl _) (.cons _ _ _ _ _ (.refl _) (.cons _ _ _ _ _ (.refl _) (.cons _ _ _ _ _ (.refl _) (.cons _ _ _ _ _ (.refl _) (.cons _ _ _ _ _ (.refl _) (.cons _ _ _ _ _ (.dead _) (.cons _ _ _ _ _ (.dead _) (.cons _ _ _ _ _ (.refl _) (.cons _ _ _ _ _ (.dead _) .nil))))))))))))))))))))))))))))))))))))))))) (OLe.refl _)).trans (cmpS_ok (st' := ⟨[], [(0, .dead), (1, .dead), (2, .dead), (3, .v (.ipt [(.lst false n3337 c3338)])), (4, .v (.lst false n3345 c3346)), (5, .dead), (6, .v (.fn 51 [(.ipt [(.lst false n3337 c3338)])])), (7, .dead), (8, .dead), (9, .dead), (10, .dead), (11, .dead), (12, .dead), (13, .dead), (14, .dead), (15, .dead), (16, .dead), (17, .dead), (18, .dead), (27, .dead), (30, .v (.int .i64 ((n3337 : Nat) : Int))), (31, .v (.int .i64 (IntKind.i64.wrap (x3828 + 1)))), (32, .dead), (42, .dead), (43, .dead), (44, .dead), (47, .dead), (48, .dead), (49, .dead), (51, .dead), (60, .dead), (72, .dead), (90, .dead), (93, .dead), (94, .dead), (95, .dead), (96, .dead), (124, .dead), (126, .dead), (136, .dead), (148, .dead)], [], 0, []⟩) (by kernel_rfl))) ⟨n, Nat.lt_succ_self n, _, h3979, rfl⟩
        · refine W_sound tab_ok mixed 7 _ _ _ ?_
          simp -implicitDefEqProofs only [go_sem, ne_eq, not_false_eq_true, Nat.reduceBEq, Nat.reduceAdd, Nat.reduceSub, Nat.reduceMul, Nat.reduceLT, Nat.reduceLeDiff, Int.reduceLE, Int.reduceLT, Int.reduceToNat, Int.reduceBEq, Int.reduceBNe, Int.le_refl, Nat.le_refl, decide_true, decide_false, Int.cast_ofNat_Int, ↓reduceIte, h3331, g3333, h3336, h3341, h3344, h3347, h3349, h3829]
          repeat with_reducible refine And.intro (by first | kernel_rfl | decide) ?_
          obtain rfl := Option.some.inj h3969
          exact cutQ _ ((Wk_le (.cons _ _ _ _ _ (.refl _) (.cons _ _ _ _ _ (.refl _) (.cons _ _ _ _ _ (.refl _) (.cons _ _ _ _ _ (.dead _) (.cons _ _ _ _ _ (.dead _) (.cons _ _ _ _ _ (.refl _) (.cons _ _ _ _ _ (.dead _) (.cons _ _ _ _ _ (.refl _) (.cons _ _ _ _ _ (.refl _) (.cons _ _ _ _ _ (.refl _) (.cons _ _ _ _ _ (.refl _) (.cons _ _ _ _ _ (.refl _) (.cons _ _ _ _ _ (.refl _) (.cons _ _ _ _ _ (.refl _) (.cons _ _ _ _ _ (.refl _) (.cons _ _ _ _ _ (.refl _) (.cons _ _ _ _ _ (.refl _) (.cons _ _ _ _ _ (.refl _) (.cons _ _ _ _ _ (.refl _) (.cons _ _ _ _ _ (.refl _) (.cons _ _ _ _ _ (.dead _) (.cons _ _ _ _ _ (.dead _) (.cons _ _ _ _ _ (.dead _) (.cons _ _ _ _ _ (.refl _) (.cons _ _ _ _ _ (.refl _) (.cons _ _ _ _ _ (.refl _) (.cons _ _ _ _ _ (.refl _) (.cons _ _ _ _ _ (.refl _) (.cons _ _ _ _ _ (.refl _) (.cons _ _ _ _ _ (.refl _) (.cons _ _ _ _ _ (.refl _) (.cons _ _ _ _ _ (.refl _) (.cons _ _ _ _ _ (.refl _) (.cons _ _ _ _ _ (.refl _) (.cons _ _ _ _ _ (.refl _) (.cons _ _ _ _ _ (.refl _) (.cons _ _ _ _ _ (.refl _) (.cons _ _ _ _ _ (.refl _) (.cons _ _ _ _ _ (.refl _) (.cons _ _ _ _ _ (.refl _) (.cons _ _ _ _ _ (.refl _) .nil))))))))))))))))))))))))))))))))))))))))) (OLe.refl _)).trans (cmpS_ok (st' := ⟨[], [(0, .dead), (1, .dead), (2, .dead), (3, .dead), (4, .dead), (5, .dead), (6, .dead), (7, .dead), (8, .dead), (9, .dead), (10, .dead), (11, .dead), (12, .dead), (13, .dead), (14, .dead), (15, .dead), (16, .dead), (17, .dead), (18, .dead), (27, .dead), (30, .dead), (31, .dead), (32, .dead), (42, .dead), (43, .dead), (44, .dead), (47, .dead), (48, .dead), (49, .dead), (51, .dead), (60, .dead), (72, .dead), (90, .dead), (93, .dead), (94, .dead), (95, .dead), (96, .dead), (124, .dead), (126, .dead), (136, .dead), (148, .dead)], [], 0, []⟩) (by kernel_rfl))) ⟨rfl, rfl⟩
    · rintro _ ⟨rfl, rfl⟩
      (try dsimp only at h3970)
      have hh := bnd'_some h3970; clear h3970; obtain ⟨p3964, h3965, h3970⟩ := hh
      refine W_sound tab_ok mixed 2 _ _ _ ?_
      simp -implicitDefEqProofs only [go_sem, ne_eq, not_false_eq_true, Nat.reduceBEq, Nat.reduceAdd, Nat.reduceSub, Nat.reduceMul, Nat.reduceLT, Nat.reduceLeDiff, Int.reduceLE, Int.reduceLT, Int.reduceToNat, Int.reduceBEq, Int.reduceBNe, Int.le_refl, Nat.le_refl, decide_true, decide_false, Int.cast_ofNat_Int, ↓reduceIte, h3331, g3333, h3336, h3341, h3344, h3347, h3349]
      repeat with_reducible refine And.intro (by first | kernel_rfl | decide) ?_
      refine Wp_callP (c15 N  _ h3965) (by kernel_rfl) rfl rfl rfl rfl (by decide) ?_
      have hh := getB_some h3970; clear h3970; obtain ⟨b3967, h3966, h3970⟩ := hh
      refine W_sound tab_ok mixed 4 _ _ _ ?_
      simp -implicitDefEqProofs only [go_sem, ne_eq, not_false_eq_true, Nat.reduceBEq, Nat.reduceAdd, Nat.reduceSub, Nat.reduceMul, Nat.reduceLT, Nat.reduceLeDiff, Int.reduceLE, Int.reduceLT, Int.reduceToNat, Int.reduceBEq, Int.reduceBNe, Int.le_refl, Nat.le_refl, decide_true, decide_false, Int.cast_ofNat_Int, ↓reduceIte, h3331, g3333, h3336, h3341, h3344, h3347, h3349, h3966]
      repeat with_reducible refine And.intro (by first | kernel_rfl | decide) ?_
      obtain rfl := Option.some.inj h3970
      exact finC [(2, .v (.bool b3967))] [(2, .v (.bool b3967))] (by simp [leE, lk_cons]) (.cons _ _ _ _ _ (.v _ _ (.refl _)) .nil) (by rfl) (by simp [leE, lk_cons]) (by decide) (by decide) rfl (by simp only [go_sem, ne_eq, not_false_eq_true, Nat.reduceBEq, Nat.reduceAdd, Nat.reduceSub, Nat.reduceMul, Nat.reduceLT, Nat.reduceLeDiff, Int.reduceLE, Int.reduceLT, Int.reduceToNat, Int.reduceBEq, Int.reduceBNe, Int.le_refl, Nat.le_refl, decide_true, decide_false, Int.cast_ofNat_Int, ↓reduceIte, resQ_tmp, resQ_cell, resQ_nil, retD_one, retD_two, retD_three, retD_none]; try simp [R.val, retD_one, retD_two, retD_three, retD_none])
end Go.Proofs.Ytgnphlpoofaojaa
