/-
  Models and laws.
-/
import Derived.Test.YteidcinajdehkaaQFCstA
import Derived.Test.YteidcinajdehkaaQFEaA
import Derived.Test.YteidcinajdehkaaQFV42
set_option linter.unusedSimpArgs false
set_option linter.unusedVariables false
namespace Go.Proofs.Yteidcinajdehkaa
open Go.V
set_option maxRecDepth 100000
set_option maxHeartbeats 4000000
set_option linter.unusedSimpArgs false
set_option linter.unusedVariables false
attribute [local go_sem] tl1 tl2 tl3 tl4 tl5 tl9 tl17 tl21 tl22 tl23 tl24 tl25 tl26 tl27 tl28 tl29 tl30 tl32 tl33 tl35 tl36 tl37 tl38 tl39 tl40 tl41 tl42 tl43 tl44 tl46 tl48 tl50 tl51 tl52 tl53 tl54 tl56 tl58 tl59 tl60 tl61 tl62 tl63 tl64 tl65 tl66 tl67 tl68 tl69 tl70 tl72 tl74 tl75 tl76 tl77 tl78 tl79 tl80 tl81 tl82 tl83 tl84 tl85 tl86 tl87 tl88 tl89 tl90 tl91 tl92 tl93 tl94 tl95 tl96 tl97 tl98 tl99 tl100 tl101 tl102 tl103 tl104 tl105 tl106 tl107 tl108 tl109 tl110 tl111 tl112 tl113 tl114 tl115 tl116 tl117 tl118 tl119 tl120 tl121 tl122 tl128 tl129 tl133 ne_eq not_false_eq_true Int.le_refl Nat.le_refl Int.cast_ofNat_Int
noncomputable def m73_L0 (N : Nat) (n3506 : Nat) (n3507 : Nat) (c3508 : List PV) (p3509 : PV) (x3510 : Int) (p3511 : PV) (p3512 : PV) (n3517 : Nat) (c3518 : List PV) : Nat → Int → Int → Option (Int)
 | 0, _, _ => none
 | n + 1, x3519, x3520 =>
  brn (decide (x3520 < ((n3507 : Nat) : Int))) (
   grd (0 ≤ x3520 ∧ x3520 < ((n3507 : Nat) : Int)) <|
   grd ((n3506 + (Int.toNat x3520)) < List.length c3508) <|
   getI .i64 (gp c3508 (n3506 + (Int.toNat x3520))) fun x3526 =>
   grd (0 < ((n3517 : Nat) : Int)) <|
   grd (0 < List.length c3518) <|
   getL (gp c3518 0) fun n3530 c3531 =>
   grd (x3520 < ((n3530 : Nat) : Int)) <|
   grd (0 < List.length (List.drop (Int.toNat x3520) c3531)) <|
   getI .i64 (gp c3531 (Int.toNat x3520)) fun x3535 =>
   m73_L0 N n3506 n3507 c3508 p3509 x3510 p3511 p3512 n3517 c3518 n (IntKind.i64.wrap (x3519 + (IntKind.i64.wrap (x3526 * x3535)))) (IntKind.i64.wrap (x3520 + 1))) (
   some x3519)
noncomputable def m73 (N : Nat) (p3505 : PV) (n3506 : Nat) (n3507 : Nat) (c3508 : List PV) (p3509 : PV) (x3510 : Int) (p3511 : PV) (p3512 : PV) : Option ((PV × PV × Int × PV)) :=
 getL p3505 fun n3517 c3518 =>
 bnd' (m73_L0 N n3506 n3507 c3508 p3509 x3510 p3511 p3512 n3517 c3518 N 0 0) fun x3536 =>
 getN p3509 (
  getL p3511 fun n3542 c3543 =>
  casN n3542 1 (
   bnd' (m60 N c3543 p3512) fun o =>
   match o with
   | (n3546, n3547, c3548) =>
    grd (List.length (List.take n3507 (List.drop n3506 c3508)) = n3507) <|
    grd ((n3546 + n3547) ≤ List.length c3548) <|
    some ((.tup []), (.lst false 1 [(.lst false n3547 (List.take n3547 (List.drop n3546 (putP c3548 n3546 (List.take (min n3507 n3547) (List.take n3507 (List.drop n3506 c3508)))))))]), x3536, (.lst false 1 c3543))) (
  casN n3542 2 (
   bnd' (m60_2 N c3543 p3512) fun o =>
   match o with
   | (n3552, n3553, n3554, n3555, c3556) =>
    grd (List.length (List.take n3507 (List.drop n3506 c3508)) = n3507) <|
    grd ((n3552 + n3553) ≤ List.length c3556) <|
    some ((.tup []), (.lst false 2 [(.lst false n3553 (List.take n3553 (List.drop n3552 (putP c3556 n3552 (List.take (min n3507 n3553) (List.take n3507 (List.drop n3506 c3508))))))), (.lst false n3555 (List.take n3555 (List.drop n3554 (putP c3556 n3552 (List.take (min n3507 n3553) (List.take n3507 (List.drop n3506 c3508)))))))]), x3536, (.lst false 2 c3543))) (
  casN n3542 3 (
   bnd' (m60_3 N c3543 p3512) fun o =>
   match o with
   | (n3560, n3561, n3562, n3563, n3564, n3565, c3566) =>
    grd (List.length (List.take n3507 (List.drop n3506 c3508)) = n3507) <|
    grd ((n3560 + n3561) ≤ List.length c3566) <|
    some ((.tup []), (.lst false 3 [(.lst false n3561 (List.take n3561 (List.drop n3560 (putP c3566 n3560 (List.take (min n3507 n3561) (List.take n3507 (List.drop n3506 c3508))))))), (.lst false n3563 (List.take n3563 (List.drop n3562 (putP c3566 n3560 (List.take (min n3507 n3561) (List.take n3507 (List.drop n3506 c3508))))))), (.lst false n3565 (List.take n3565 (List.drop n3564 (putP c3566 n3560 (List.take (min n3507 n3561) (List.take n3507 (List.drop n3506 c3508)))))))]), x3536, (.lst false 3 c3543))) (
  none)))) fun n3539 c3540 =>
 grd (0 < n3539) <|
 brn (decide (x3536 ≥ x3510)) (
  some ((.tup []), (.lst false n3539 c3540), x3510, p3511)) (
  getL p3511 fun n3572 c3573 =>
  casN n3572 1 (
   bnd' (m60 N c3573 p3512) fun o =>
   match o with
   | (n3576, n3577, c3578) =>
    grd (List.length (List.take n3507 (List.drop n3506 c3508)) = n3507) <|
    grd ((n3576 + n3577) ≤ List.length c3578) <|
    some ((.tup []), (.lst false 1 [(.lst false n3577 (List.take n3577 (List.drop n3576 (putP c3578 n3576 (List.take (min n3507 n3577) (List.take n3507 (List.drop n3506 c3508)))))))]), x3536, (.lst false 1 c3573))) (
  casN n3572 2 (
   bnd' (m60_2 N c3573 p3512) fun o =>
   match o with
   | (n3582, n3583, n3584, n3585, c3586) =>
    grd (List.length (List.take n3507 (List.drop n3506 c3508)) = n3507) <|
    grd ((n3582 + n3583) ≤ List.length c3586) <|
    some ((.tup []), (.lst false 2 [(.lst false n3583 (List.take n3583 (List.drop n3582 (putP c3586 n3582 (List.take (min n3507 n3583) (List.take n3507 (List.drop n3506 c3508))))))), (.lst false n3585 (List.take n3585 (List.drop n3584 (putP c3586 n3582 (List.take (min n3507 n3583) (List.take n3507 (List.drop n3506 c3508)))))))]), x3536, (.lst false 2 c3573))) (
  casN n3572 3 (
   bnd' (m60_3 N c3573 p3512) fun o =>
   match o with
   | (n3590, n3591, n3592, n3593, n3594, n3595, c3596) =>
    grd (List.length (List.take n3507 (List.drop n3506 c3508)) = n3507) <|
    grd ((n3590 + n3591) ≤ List.length c3596) <|
    some ((.tup []), (.lst false 3 [(.lst false n3591 (List.take n3591 (List.drop n3590 (putP c3596 n3590 (List.take (min n3507 n3591) (List.take n3507 (List.drop n3506 c3508))))))), (.lst false n3593 (List.take n3593 (List.drop n3592 (putP c3596 n3590 (List.take (min n3507 n3591) (List.take n3507 (List.drop n3506 c3508))))))), (.lst false n3595 (List.take n3595 (List.drop n3594 (putP c3596 n3590 (List.take (min n3507 n3591) (List.take n3507 (List.drop n3506 c3508)))))))]), x3536, (.lst false 3 c3573))) (
  none))))
theorem c73 (N : Nat) (p3505 : PV) (n3506 : Nat) (n3507 : Nat) (c3508 : List PV) (p3509 : PV) (x3510 : Int) (p3511 : PV) (p3512 : PV) (r : PV) (p3602 : PV) (x3603 : Int) (p3604 : PV) (h : m73 N p3505 n3506 n3507 c3508 p3509 x3510 p3511 p3512 = some (r, p3602, x3603, p3604)) : V.Fn Try.prog 73 5 [.sl false 0 0 1 1, .v (.ipt [p3505]), .ptr 2 0, .ptr 3 0, .ptr 4 0] [(0, .r [.sl true 1 n3506 n3507 1]), (1, .p c3508), (2, .p [p3509]), (3, .p [(.int .i64 x3510)]), (4, .p [p3511, p3512])] (fun d ob' => d = .v r ∧ ob' = [(0, .r [.sl true 1 n3506 n3507 1]), (1, .p c3508), (2, .p [p3602]), (3, .p [(.int .i64 x3603)]), (4, .p [p3604, p3512])]) := by
 unfold m73 at h
 refine Fn_of (sz := 64) tab_ok [0, 1, 2, 3, 4, 6, 7, 8, 9, 10, 11, 12, 13, 14, 15, 16, 20, 21, 22, 23, 46, 50, 51, 52, 53] [] Try.func73 rfl rfl rfl (by simp) ?_
 simp only [initSt, initEnv, List.getD_cons_zero, List.getD_cons_succ, List.getD_nil]
 replace h := getL_some h; obtain ⟨n3517, c3518, h3516, h⟩ := h
 refine W_sound tab_ok mixed 11 _ _ _ ?_
 simp -implicitDefEqProofs only [go_sem, Nat.reduceBEq, Nat.reduceLT, h3516]
 repeat with_reducible refine And.intro (by first | kernel_rfl | decide) ?_
 refine Wp_block ?_
 refine Wp_loopL (WpL_step ?_)
 refine W_sound tab_ok mixed 23 _ _ _ ?_
 simp -implicitDefEqProofs only [go_sem, Nat.reduceBEq, Nat.reduceLT, Int.reduceLE, Int.reduceLT, Int.reduceToNat, ↓reduceIte]
 repeat with_reducible refine And.intro (by first | kernel_rfl | decide) ?_
 replace h := bnd'_some h; obtain ⟨o3605, h3606, h3607⟩ := h
 refine Wp_cut (fun s => ∃ x3536, x3536 = o3605 ∧ s = ⟨[], [(0, .sl false 0 0 1 1), (1, .v (.ipt [(.lst false n3517 c3518)])), (2, .ptr 2 0), (3, .ptr 3 0), (4, .ptr 4 0), (6, .v (.int .i64 x3536)), (7, .dead), (8, .dead), (9, .dead), (10, .dead), (11, .dead), (12, .dead), (13, .sl false 0 0 1 1), (14, .v (.int .i64 1)), (15, .v (.int .i64 0)), (16, .dead), (20, .dead), (21, .dead), (22, .dead), (23, .dead), (46, .dead), (50, .dead), (51, .dead), (52, .dead), (53, .dead)], [(0, .r [.sl true 1 n3506 n3507 1]), (1, .p c3508), (2, .p [p3509]), (3, .p [(.int .i64 x3510)]), (4, .p [p3511, p3512])], 5, []⟩) ?_ ?_
 ·refine Wp_block ?_
  refine Wp_loopG (fun n s => ∃ x3519, ∃ x3520, m73_L0 N n3506 n3507 c3508 p3509 x3510 p3511 p3512 n3517 c3518 n x3519 x3520 = some o3605 ∧ s = ⟨[], [(0, .sl false 0 0 1 1), (1, .v (.ipt [(.lst false n3517 c3518)])), (2, .ptr 2 0), (3, .ptr 3 0), (4, .ptr 4 0), (6, .v (.int .i64 x3519)), (7, .v (.int .i64 0)), (8, .dead), (9, .dead), (10, .dead), (11, .dead), (12, .dead), (13, .sl false 0 0 1 1), (14, .v (.int .i64 1)), (15, .v (.int .i64 0)), (16, .dead), (20, .sl true 1 n3506 n3507 1), (21, .v (.int .i64 ((n3507 : Nat) : Int))), (22, .v (.int .i64 x3520)), (23, .dead), (46, .dead), (50, .dead), (51, .dead), (52, .dead), (53, .dead)], [(0, .r [.sl true 1 n3506 n3507 1]), (1, .p c3508), (2, .p [p3509]), (3, .p [(.int .i64 x3510)]), (4, .p [p3511, p3512])], 5, []⟩) N _ ?_ ⟨_, _, h3606, rfl⟩ ?_
  ·exact Wk_keep [0, 1, 2, 3, 4, 6, 7, 13, 14, 15, 20, 21, 22] (by kernel_rfl)
  clear h3606
  rintro n _ ⟨x3519, x3520, h3606, rfl⟩
  cases n with
  | zero => cases h3606
  | succ n =>
   rw [m73_L0] at h3606
   replace h3606 := brn_some h3606; rcases h3606 with ⟨h3521, h3606⟩ | ⟨h3521, h3606⟩
   ·replace h3606 := grd_some h3606; obtain ⟨⟨g3522, g3523⟩, h3606⟩ := h3606
    replace h3606 := grd_some h3606; obtain ⟨g3524, h3606⟩ := h3606
    replace h3606 := getI_some h3606; obtain ⟨x3526, h3525, h3606⟩ := h3606
    replace h3606 := grd_some h3606; obtain ⟨g3527, h3606⟩ := h3606
    replace h3606 := grd_some h3606; obtain ⟨g3528, h3606⟩ := h3606
    replace h3606 := getL_some h3606; obtain ⟨n3530, c3531, h3529, h3606⟩ := h3606
    replace h3606 := grd_some h3606; obtain ⟨g3532, h3606⟩ := h3606
    replace h3606 := grd_some h3606; obtain ⟨g3533, h3606⟩ := h3606
    replace h3606 := getI_some h3606; obtain ⟨x3535, h3534, h3606⟩ := h3606
    refine W_sound tab_ok mixed 36 _ _ _ ?_
    simp -implicitDefEqProofs only [go_sem, Nat.reduceBEq, Nat.reduceLT, Int.reduceLE, Int.reduceToNat, ↓reduceIte, g3522, g3523, g3524, h3525, g3527, g3528, h3529, g3532, g3533, h3534]
    repeat with_reducible refine And.intro (by first | kernel_rfl | decide) ?_
    (try rw [h3525] at h3606)
    (try rw [h3529] at h3606)
    (try rw [h3534] at h3606)
    refine cutQ _ ?_ ⟨n, Nat.lt_succ_self n, _, _, h3606, rfl⟩
    exact Wk_keep [0, 1, 2, 3, 4, 6, 7, 13, 14, 15, 20, 21, 22] (by kernel_rfl)
   ·refine W_sound tab_ok mixed 7 _ _ _ ?_
    simp -implicitDefEqProofs only [go_sem, Nat.reduceBEq, Nat.reduceLT, ↓reduceIte, h3521]
    repeat with_reducible refine And.intro (by first | kernel_rfl | decide) ?_
    obtain rfl := Option.some.inj h3606
    refine cutQ _ ?_ ⟨_, rfl, rfl⟩
    exact Wk_keep [0, 1, 2, 3, 4, 6, 13, 14, 15] (by kernel_rfl)
 ·rintro _ ⟨x3536, rfl, rfl⟩
  refine W_sound tab_ok mixed 5 _ _ _ ?_
  simp -implicitDefEqProofs only [go_sem, Nat.reduceBEq, Nat.reduceLT, Int.reduceLE, Int.reduceToNat, ↓reduceIte, Int.reduceAdd]
  repeat with_reducible refine And.intro (by first | kernel_rfl | decide) ?_
  refine again (Wk_keep (st' := ⟨[], [(0, .sl false 0 0 1 1), (1, .v (.ipt [(.lst false n3517 c3518)])), (2, .ptr 2 0), (3, .ptr 3 0), (4, .ptr 4 0), (6, .v (.int .i64 x3536)), (7, .dead), (8, .dead), (9, .dead), (10, .dead), (11, .dead), (12, .dead), (13, .sl false 0 0 1 1), (14, .v (.int .i64 1)), (15, .v (.int .i64 1)), (16, .dead), (20, .dead), (21, .dead), (22, .dead), (23, .dead), (46, .dead), (50, .dead), (51, .dead), (52, .dead), (53, .dead)], [(0, .r [.sl true 1 n3506 n3507 1]), (1, .p c3508), (2, .p [p3509]), (3, .p [(.int .i64 x3510)]), (4, .p [p3511, p3512])], 5, []⟩) [0, 1, 2, 3, 4, 6, 13, 14, 15] (by kernel_rfl)) ?_
  replace h3607 := getN_some h3607; rcases h3607 with ⟨h3538, h3607⟩ | ⟨n3539, c3540, h3538, h3607⟩
  ·replace h3607 := getL_some h3607; obtain ⟨n3542, c3543, h3541, h3607⟩ := h3607
   replace h3607 := casN_some h3607; rcases h3607 with ⟨rfl, h3607⟩ | ⟨_, h3607⟩
   ·replace h3607 := bnd'_some h3607; obtain ⟨⟨n3546, n3547, c3548⟩, h3545, h3607⟩ := h3607
    (try dsimp only at h3607)
    refine W_sound tab_ok mixed 24 _ _ _ ?_
    simp -implicitDefEqProofs only [go_sem, Nat.reduceBEq, Nat.reduceAdd, Nat.reduceLT, Int.reduceLE, Int.reduceLT, Int.reduceToNat, ↓reduceIte, h3538, h3541]
    repeat with_reducible refine And.intro (by first | kernel_rfl | decide) ?_
    refine Wp_callD [] (c60_a N _ _ _ _ _ h3545) rfl rfl rfl (by first | rfl | (simp only [go_sem, Nat.reduceBEq, Nat.reduceAdd, Nat.reduceSub, Nat.reduceMul, Nat.reduceLT, Nat.reduceLeDiff, Int.reduceLE, Int.reduceLT, Int.reduceToNat, Int.reduceBEq, Int.reduceBNe, ↓reduceIte, Int.reduceAdd, Int.reduceSub, Int.reduceGT, Int.reduceGE, h3516, h3538, h3541] <;> rfl)) rfl (by kernel_rfl) ?_
    refine W_sound tab_ok mixed 9 _ _ _ ?_
    simp -implicitDefEqProofs only [go_sem, Nat.reduceBEq, Nat.reduceAdd, Nat.reduceSub, Nat.reduceMul, Nat.reduceLT, Nat.reduceLeDiff]
    repeat with_reducible refine And.intro (by first | kernel_rfl | decide) ?_
    refine Wp_block ?_
    refine Wp_loopL (WpL_step ?_)
    replace h3607 := grd_some h3607; obtain ⟨g3549, h3607⟩ := h3607
    replace h3607 := grd_some h3607; obtain ⟨g3550, h3607⟩ := h3607
    refine W_sound tab_ok mixed 30 _ _ _ ?_
    simp -implicitDefEqProofs only [go_sem, Nat.reduceBEq, Nat.reduceLT, Int.reduceLE, Int.reduceLT, Int.reduceToNat, ↓reduceIte, Int.reduceAdd, g3549, g3550]
    repeat with_reducible refine And.intro (by first | kernel_rfl | decide) ?_
    refine again (Wk_keep (st' := ⟨[], [(0, .dead), (1, .dead), (2, .ptr 2 0), (3, .dead), (4, .dead), (6, .dead), (7, .dead), (8, .dead), (9, .dead), (10, .dead), (11, .dead), (12, .dead), (13, .dead), (14, .dead), (15, .dead), (16, .dead), (20, .dead), (21, .dead), (22, .dead), (23, .dead), (46, .dead), (50, .sl false 0 0 1 1), (51, .v (.int .i64 1)), (52, .v (.int .i64 1)), (53, .dead)], [(0, .r [.sl true 1 n3506 n3507 1]), (1, .p c3508), (2, .r [.sl false 5 0 1 1]), (3, .p [(.int .i64 x3536)]), (4, .p [(.lst false 1 c3543), p3512]), (5, .r [.sl true 6 n3546 n3547 1]), (6, .p (putP c3548 n3546 (List.take (min n3507 n3547) (List.take n3507 (List.drop n3506 c3508)))))], 7, []⟩) [2, 50, 51, 52] (by kernel_rfl)) ?_
    refine W_sound tab_ok mixed 8 _ _ _ ?_
    simp -implicitDefEqProofs only [go_sem, Nat.reduceBEq, Nat.reduceLT, Int.reduceLE, Int.reduceLT, Int.reduceToNat, ↓reduceIte]
    repeat with_reducible refine And.intro (by first | kernel_rfl | decide) ?_
    refine FinQ_wk (Wk_freeze 6 (putP c3548 n3546 (List.take (min n3507 n3547) (List.take n3507 (List.drop n3506 c3508)))) (by rfl) (by decide) (by decide)) ?_
    simp -implicitDefEqProofs only [go_sem, Nat.reduceBEq]
    refine FinQ_wk (Wk_freeze 5 [(.lst true n3547 (List.take n3547 (List.drop n3546 (putP c3548 n3546 (List.take (min n3507 n3547) (List.take n3507 (List.drop n3506 c3508)))))))] (by rfl) (by decide) (by decide)) ?_
    simp -implicitDefEqProofs only [go_sem, Nat.reduceBEq]
    simp only [Option.some.injEq, Prod.mk.injEq] at h3607; obtain ⟨rfl, rfl, rfl, rfl⟩ := h3607
    exact finD (e2 := [(0, .dead), (1, .dead), (2, .dead), (3, .dead), (4, .dead), (6, .dead), (7, .dead), (8, .dead), (9, .dead), (10, .dead), (11, .dead), (12, .dead), (13, .dead), (14, .dead), (15, .dead), (16, .dead), (20, .dead), (21, .dead), (22, .dead), (23, .dead), (46, .dead), (50, .dead), (51, .dead), (52, .dead), (53, .dead)]) (ob2 := [(0, .r [.sl true 1 n3506 n3507 1]), (1, .p c3508), (2, .p [(.lst false 1 [(.lst false n3547 (List.take n3547 (List.drop n3546 (putP c3548 n3546 (List.take (min n3507 n3547) (List.take n3507 (List.drop n3506 c3508)))))))])]), (3, .p [(.int .i64 x3536)]), (4, .p [(.lst false 1 c3543), p3512])]) (st' := ⟨[], [(0, .dead), (1, .dead), (2, .dead), (3, .dead), (4, .dead), (6, .dead), (7, .dead), (8, .dead), (9, .dead), (10, .dead), (11, .dead), (12, .dead), (13, .dead), (14, .dead), (15, .dead), (16, .dead), (20, .dead), (21, .dead), (22, .dead), (23, .dead), (46, .dead), (50, .dead), (51, .dead), (52, .dead), (53, .dead)], [(0, .r [.sl true 1 n3506 n3507 1]), (1, .p c3508), (2, .p [(.lst false 1 [(.lst false n3547 (List.take n3547 (List.drop n3546 (putP c3548 n3546 (List.take (min n3507 n3547) (List.take n3507 (List.drop n3506 c3508)))))))])]), (3, .p [(.int .i64 x3536)]), (4, .p [(.lst false 1 c3543), p3512])], 5, []⟩) (.cons _ _ _ _ _ (.refl _) (.cons _ _ _ _ _ (.refl _) (.cons _ _ _ _ _ (.dead _) (.cons _ _ _ _ _ (.refl _) (.cons _ _ _ _ _ (.refl _) (.cons _ _ _ _ _ (.refl _) (.cons _ _ _ _ _ (.refl _) (.cons _ _ _ _ _ (.refl _) (.cons _ _ _ _ _ (.refl _) (.cons _ _ _ _ _ (.refl _) (.cons _ _ _ _ _ (.refl _) (.cons _ _ _ _ _ (.refl _) (.cons _ _ _ _ _ (.refl _) (.cons _ _ _ _ _ (.refl _) (.cons _ _ _ _ _ (.refl _) (.cons _ _ _ _ _ (.refl _) (.cons _ _ _ _ _ (.refl _) (.cons _ _ _ _ _ (.refl _) (.cons _ _ _ _ _ (.refl _) (.cons _ _ _ _ _ (.refl _) (.cons _ _ _ _ _ (.refl _) (.cons _ _ _ _ _ (.dead _) (.cons _ _ _ _ _ (.dead _) (.cons _ _ _ _ _ (.dead _) (.cons _ _ _ _ _ (.dead _) .nil))))))))))))))))))))))))) (.cons _ _ _ _ _ (DLes.refl _) (.cons _ _ _ _ _ (DLes.refl _) (.cons _ (.p _) (.p _) _ _ (DLes.of_p (.cons _ _ _ _ (.lst false false _ _ _ (fun h => by first | exact h | cases h) (.cons _ _ _ _ (.lst true false _ _ _ (fun h => by first | exact h | cases h) (PLes.refl _)) .nil)) .nil)) (.cons _ _ _ _ _ (DLes.refl _) (.cons _ _ _ _ _ (DLes.refl _) .nil))))) (by kernel_rfl) (by simp only [go_sem, resQ_nil, retD_none]; (try simp [R.val, retD_one, retD_two, retD_three, retD_none]); try assumption)
   ·skip
    replace h3607 := casN_some h3607; rcases h3607 with ⟨rfl, h3607⟩ | ⟨_, h3607⟩
    ·replace h3607 := bnd'_some h3607; obtain ⟨⟨n3552, n3553, n3554, n3555, c3556⟩, h3551, h3607⟩ := h3607
     (try dsimp only at h3607)
     refine W_sound tab_ok mixed 24 _ _ _ ?_
     simp -implicitDefEqProofs only [go_sem, Nat.reduceBEq, Nat.reduceAdd, Nat.reduceLT, Int.reduceLE, Int.reduceLT, Int.reduceToNat, ↓reduceIte, h3538, h3541]
     repeat with_reducible refine And.intro (by first | kernel_rfl | decide) ?_
     refine Wp_callD [] (c60_2_a N _ _ _ _ _ _ _ h3551) rfl rfl rfl (by first | rfl | (simp only [go_sem, Nat.reduceBEq, Nat.reduceAdd, Nat.reduceSub, Nat.reduceMul, Nat.reduceLT, Nat.reduceLeDiff, Int.reduceLE, Int.reduceLT, Int.reduceToNat, Int.reduceBEq, Int.reduceBNe, ↓reduceIte, Int.reduceAdd, Int.reduceSub, Int.reduceGT, Int.reduceGE, h3516, h3538, h3541] <;> rfl)) rfl (by kernel_rfl) ?_
     refine W_sound tab_ok mixed 9 _ _ _ ?_
     simp -implicitDefEqProofs only [go_sem, Nat.reduceBEq, Nat.reduceAdd, Nat.reduceSub, Nat.reduceMul, Nat.reduceLT, Nat.reduceLeDiff]
     repeat with_reducible refine And.intro (by first | kernel_rfl | decide) ?_
     refine Wp_block ?_
     refine Wp_loopL (WpL_step ?_)
     replace h3607 := grd_some h3607; obtain ⟨g3557, h3607⟩ := h3607
     replace h3607 := grd_some h3607; obtain ⟨g3558, h3607⟩ := h3607
     refine W_sound tab_ok mixed 30 _ _ _ ?_
     simp -implicitDefEqProofs only [go_sem, Nat.reduceBEq, Nat.reduceAdd, Nat.reduceLT, Nat.reduceLeDiff, Int.reduceLE, Int.reduceLT, Int.reduceToNat, ↓reduceIte, Int.reduceAdd, g3557, g3558]
     repeat with_reducible refine And.intro (by first | kernel_rfl | decide) ?_
     refine again (Wk_keep (st' := ⟨[], [(0, .dead), (1, .dead), (2, .ptr 2 0), (3, .dead), (4, .dead), (6, .dead), (7, .dead), (8, .dead), (9, .dead), (10, .dead), (11, .dead), (12, .dead), (13, .dead), (14, .dead), (15, .dead), (16, .dead), (20, .dead), (21, .dead), (22, .dead), (23, .dead), (46, .dead), (50, .sl false 0 0 1 1), (51, .v (.int .i64 1)), (52, .v (.int .i64 1)), (53, .dead)], [(0, .r [.sl true 1 n3506 n3507 1]), (1, .p c3508), (2, .r [.sl false 5 0 2 1]), (3, .p [(.int .i64 x3536)]), (4, .p [(.lst false 2 c3543), p3512]), (5, .r [.sl true 6 n3552 n3553 1, .sl true 6 n3554 n3555 1]), (6, .p (putP c3556 n3552 (List.take (min n3507 n3553) (List.take n3507 (List.drop n3506 c3508)))))], 7, []⟩) [2, 50, 51, 52] (by kernel_rfl)) ?_
     refine W_sound tab_ok mixed 8 _ _ _ ?_
     simp -implicitDefEqProofs only [go_sem, Nat.reduceBEq, Nat.reduceLT, Int.reduceLE, Int.reduceLT, Int.reduceToNat, ↓reduceIte]
     repeat with_reducible refine And.intro (by first | kernel_rfl | decide) ?_
     refine FinQ_wk (Wk_freeze 6 (putP c3556 n3552 (List.take (min n3507 n3553) (List.take n3507 (List.drop n3506 c3508)))) (by rfl) (by decide) (by decide)) ?_
     simp -implicitDefEqProofs only [go_sem, Nat.reduceBEq]
     refine FinQ_wk (Wk_freeze 5 [(.lst true n3553 (List.take n3553 (List.drop n3552 (putP c3556 n3552 (List.take (min n3507 n3553) (List.take n3507 (List.drop n3506 c3508))))))), (.lst true n3555 (List.take n3555 (List.drop n3554 (putP c3556 n3552 (List.take (min n3507 n3553) (List.take n3507 (List.drop n3506 c3508)))))))] (by rfl) (by decide) (by decide)) ?_
     simp -implicitDefEqProofs only [go_sem, Nat.reduceBEq, Nat.reduceAdd]
     simp only [Option.some.injEq, Prod.mk.injEq] at h3607; obtain ⟨rfl, rfl, rfl, rfl⟩ := h3607
     exact finD (e2 := [(0, .dead), (1, .dead), (2, .dead), (3, .dead), (4, .dead), (6, .dead), (7, .dead), (8, .dead), (9, .dead), (10, .dead), (11, .dead), (12, .dead), (13, .dead), (14, .dead), (15, .dead), (16, .dead), (20, .dead), (21, .dead), (22, .dead), (23, .dead), (46, .dead), (50, .dead), (51, .dead), (52, .dead), (53, .dead)]) (ob2 := [(0, .r [.sl true 1 n3506 n3507 1]), (1, .p c3508), (2, .p [(.lst false 2 [(.lst false n3553 (List.take n3553 (List.drop n3552 (putP c3556 n3552 (List.take (min n3507 n3553) (List.take n3507 (List.drop n3506 c3508))))))), (.lst false n3555 (List.take n3555 (List.drop n3554 (putP c3556 n3552 (List.take (min n3507 n3553) (List.take n3507 (List.drop n3506 c3508)))))))])]), (3, .p [(.int .i64 x3536)]), (4, .p [(.lst false 2 c3543), p3512])]) (st' := ⟨[], [(0, .dead), (1, .dead), (2, .dead), (3, .dead), (4, .dead), (6, .dead), (7, .dead), (8, .dead), (9, .dead), (10, .dead), (11, .dead), (12, .dead), (13, .dead), (14, .dead), (15, .dead), (16, .dead), (20, .dead), (21, .dead), (22, .dead), (23, .dead), (46, .dead), (50, .dead), (51, .dead), (52, .dead), (53, .dead)], [(0, .r [.sl true 1 n3506 n3507 1]), (1, .p c3508), (2, .p [(.lst false 2 [(.lst false n3553 (List.take n3553 (List.drop n3552 (putP c3556 n3552 (List.take (min n3507 n3553) (List.take n3507 (List.drop n3506 c3508))))))), (.lst false n3555 (List.take n3555 (List.drop n3554 (putP c3556 n3552 (List.take (min n3507 n3553) (List.take n3507 (List.drop n3506 c3508)))))))])]), (3, .p [(.int .i64 x3536)]), (4, .p [(.lst false 2 c3543), p3512])], 5, []⟩) (.cons _ _ _ _ _ (.refl _) (.cons _ _ _ _ _ (.refl _) (.cons _ _ _ _ _ (.dead _) (.cons _ _ _ _ _ (.refl _) (.cons _ _ _ _ _ (.refl _) (.cons _ _ _ _ _ (.refl _) (.cons _ _ _ _ _ (.refl _) (.cons _ _ _ _ _ (.refl _) (.cons _ _ _ _ _ (.refl _) (.cons _ _ _ _ _ (.refl _) (.cons _ _ _ _ _ (.refl _) (.cons _ _ _ _ _ (.refl _) (.cons _ _ _ _ _ (.refl _) (.cons _ _ _ _ _ (.refl _) (.cons _ _ _ _ _ (.refl _) (.cons _ _ _ _ _ (.refl _) (.cons _ _ _ _ _ (.refl _) (.cons _ _ _ _ _ (.refl _) (.cons _ _ _ _ _ (.refl _) (.cons _ _ _ _ _ (.refl _) (.cons _ _ _ _ _ (.refl _) (.cons _ _ _ _ _ (.dead _) (.cons _ _ _ _ _ (.dead _) (.cons _ _ _ _ _ (.dead _) (.cons _ _ _ _ _ (.dead _) .nil))))))))))))))))))))))))) (.cons _ _ _ _ _ (DLes.refl _) (.cons _ _ _ _ _ (DLes.refl _) (.cons _ (.p _) (.p _) _ _ (DLes.of_p (.cons _ _ _ _ (.lst false false _ _ _ (fun h => by first | exact h | cases h) (.cons _ _ _ _ (.lst true false _ _ _ (fun h => by first | exact h | cases h) (PLes.refl _)) (.cons _ _ _ _ (.lst true false _ _ _ (fun h => by first | exact h | cases h) (PLes.refl _)) .nil))) .nil)) (.cons _ _ _ _ _ (DLes.refl _) (.cons _ _ _ _ _ (DLes.refl _) .nil))))) (by kernel_rfl) (by simp only [go_sem, resQ_nil, retD_none]; (try simp [R.val, retD_one, retD_two, retD_three, retD_none]); try assumption)
    ·skip
     replace h3607 := casN_some h3607; rcases h3607 with ⟨rfl, h3607⟩ | ⟨_, h3607⟩
     ·replace h3607 := bnd'_some h3607; obtain ⟨⟨n3560, n3561, n3562, n3563, n3564, n3565, c3566⟩, h3559, h3607⟩ := h3607
      (try dsimp only at h3607)
      refine W_sound tab_ok mixed 24 _ _ _ ?_
      simp -implicitDefEqProofs only [go_sem, Nat.reduceBEq, Nat.reduceAdd, Nat.reduceLT, Int.reduceLE, Int.reduceLT, Int.reduceToNat, ↓reduceIte, h3538, h3541]
      repeat with_reducible refine And.intro (by first | kernel_rfl | decide) ?_
      refine Wp_callD [] (c60_3_a N _ _ _ _ _ _ _ _ _ h3559) rfl rfl rfl (by first | rfl | (simp only [go_sem, Nat.reduceBEq, Nat.reduceAdd, Nat.reduceSub, Nat.reduceMul, Nat.reduceLT, Nat.reduceLeDiff, Int.reduceLE, Int.reduceLT, Int.reduceToNat, Int.reduceBEq, Int.reduceBNe, ↓reduceIte, Int.reduceAdd, Int.reduceSub, Int.reduceGT, Int.reduceGE, h3516, h3538, h3541] <;> rfl)) rfl (by kernel_rfl) ?_
      refine W_sound tab_ok mixed 9 _ _ _ ?_
      simp -implicitDefEqProofs only [go_sem, Nat.reduceBEq, Nat.reduceAdd, Nat.reduceSub, Nat.reduceMul, Nat.reduceLT, Nat.reduceLeDiff]
      repeat with_reducible refine And.intro (by first | kernel_rfl | decide) ?_
      refine Wp_block ?_
      refine Wp_loopL (WpL_step ?_)
      replace h3607 := grd_some h3607; obtain ⟨g3567, h3607⟩ := h3607
      replace h3607 := grd_some h3607; obtain ⟨g3568, h3607⟩ := h3607
      refine W_sound tab_ok mixed 30 _ _ _ ?_
      simp -implicitDefEqProofs only [go_sem, Nat.reduceBEq, Nat.reduceAdd, Nat.reduceLT, Nat.reduceLeDiff, Int.reduceLE, Int.reduceLT, Int.reduceToNat, ↓reduceIte, Int.reduceAdd, g3567, g3568]
      repeat with_reducible refine And.intro (by first | kernel_rfl | decide) ?_
      refine again (Wk_keep (st' := ⟨[], [(0, .dead), (1, .dead), (2, .ptr 2 0), (3, .dead), (4, .dead), (6, .dead), (7, .dead), (8, .dead), (9, .dead), (10, .dead), (11, .dead), (12, .dead), (13, .dead), (14, .dead), (15, .dead), (16, .dead), (20, .dead), (21, .dead), (22, .dead), (23, .dead), (46, .dead), (50, .sl false 0 0 1 1), (51, .v (.int .i64 1)), (52, .v (.int .i64 1)), (53, .dead)], [(0, .r [.sl true 1 n3506 n3507 1]), (1, .p c3508), (2, .r [.sl false 5 0 3 1]), (3, .p [(.int .i64 x3536)]), (4, .p [(.lst false 3 c3543), p3512]), (5, .r [.sl true 6 n3560 n3561 1, .sl true 6 n3562 n3563 1, .sl true 6 n3564 n3565 1]), (6, .p (putP c3566 n3560 (List.take (min n3507 n3561) (List.take n3507 (List.drop n3506 c3508)))))], 7, []⟩) [2, 50, 51, 52] (by kernel_rfl)) ?_
      refine W_sound tab_ok mixed 8 _ _ _ ?_
      simp -implicitDefEqProofs only [go_sem, Nat.reduceBEq, Nat.reduceLT, Int.reduceLE, Int.reduceLT, Int.reduceToNat, ↓reduceIte]
      repeat with_reducible refine And.intro (by first | kernel_rfl | decide) ?_
      refine FinQ_wk (Wk_freeze 6 (putP c3566 n3560 (List.take (min n3507 n3561) (List.take n3507 (List.drop n3506 c3508)))) (by rfl) (by decide) (by decide)) ?_
      simp -implicitDefEqProofs only [go_sem, Nat.reduceBEq]
      refine FinQ_wk (Wk_freeze 5 [(.lst true n3561 (List.take n3561 (List.drop n3560 (putP c3566 n3560 (List.take (min n3507 n3561) (List.take n3507 (List.drop n3506 c3508))))))), (.lst true n3563 (List.take n3563 (List.drop n3562 (putP c3566 n3560 (List.take (min n3507 n3561) (List.take n3507 (List.drop n3506 c3508))))))), (.lst true n3565 (List.take n3565 (List.drop n3564 (putP c3566 n3560 (List.take (min n3507 n3561) (List.take n3507 (List.drop n3506 c3508)))))))] (by rfl) (by decide) (by decide)) ?_
      simp -implicitDefEqProofs only [go_sem, Nat.reduceBEq, Nat.reduceAdd]
      simp only [Option.some.injEq, Prod.mk.injEq] at h3607; obtain ⟨rfl, rfl, rfl, rfl⟩ := h3607
      exact finD (e2 := [(0, .dead), (1, .dead), (2, .dead), (3, .dead), (4, .dead), (6, .dead), (7, .dead), (8, .dead), (9, .dead), (10, .dead), (11, .dead), (12, .dead), (13, .dead), (14, .dead), (15, .dead), (16, .dead), (20, .dead), (21, .dead), (22, .dead), (23, .dead), (46, .dead), (50, .dead), (51, .dead), (52, .dead), (53, .dead)]) (ob2 := [(0, .r [.sl true 1 n3506 n3507 1]), (1, .p c3508), (2, .p [(.lst false 3 [(.lst false n3561 (List.take n3561 (List.drop n3560 (putP c3566 n3560 (List.take (min n3507 n3561) (List.take n3507 (List.drop n3506 c3508))))))), (.lst false n3563 (List.take n3563 (List.drop n3562 (putP c3566 n3560 (List.take (min n3507 n3561) (List.take n3507 (List.drop n3506 c3508))))))), (.lst false n3565 (List.take n3565 (List.drop n3564 (putP c3566 n3560 (List.take (min n3507 n3561) (List.take n3507 (List.drop n3506 c3508)))))))])]), (3, .p [(.int .i64 x3536)]), (4, .p [(.lst false 3 c3543), p3512])]) (st' := ⟨[], [(0, .dead), (1, .dead), (2, .dead), (3, .dead), (4, .dead), (6, .dead), (7, .dead), (8, .dead), (9, .dead), (10, .dead), (11, .dead), (12, .dead), (13, .dead), (14, .dead), (15, .dead), (16, .dead), (20, .dead), (21, .dead), (22, .dead), (23, .dead), (46, .dead), (50, .dead), (51, .dead), (52, .dead), (53, .dead)], [(0, .r [.sl true 1 n3506 n3507 1]), (1, .p c3508), (2, .p [(.lst false 3 [(.lst false n3561 (List.take n3561 (List.drop n3560 (putP c3566 n3560 (List.take (min n3507 n3561) (List.take n3507 (List.drop n3506 c3508))))))), (.lst false n3563 (List.take n3563 (List.drop n3562 (putP c3566 n3560 (List.take (min n3507 n3561) (List.take n3507 (List.drop n3506 c3508))))))), (.lst false n3565 (List.take n3565 (List.drop n3564 (putP c3566 n3560 (List.take (min n3507 n3561) (List.take n3507 (List.drop n3506 c3508)))))))])]), (3, .p [(.int .i64 x3536)]), (4, .p [(.lst false 3 c3543), p3512])], 5, []⟩) (.cons _ _ _ _ _ (.refl _) (.cons _ _ _ _ _ (.refl _) (.cons _ _ _ _ _ (.dead _) (.cons _ _ _ _ _ (.refl _) (.cons _ _ _ _ _ (.refl _) (.cons _ _ _ _ _ (.refl _) (.cons _ _ _ _ _ (.refl _) (.cons _ _ _ _ _ (.refl _) (.cons _ _ _ _ _ (.refl _) (.cons _ _ _ _ _ (.refl _) (.cons _ _ _ _ _ (.refl _) (.cons _ _ _ _ _ (.refl _) (.cons _ _ _ _ _ (.refl _) (.cons _ _ _ _ _ (.refl _) (.cons _ _ _ _ _ (.refl _) (.cons _ _ _ _ _ (.refl _) (.cons _ _ _ _ _ (.refl _) (.cons _ _ _ _ _ (.refl _) (.cons _ _ _ _ _ (.refl _) (.cons _ _ _ _ _ (.refl _) (.cons _ _ _ _ _ (.refl _) (.cons _ _ _ _ _ (.dead _) (.cons _ _ _ _ _ (.dead _) (.cons _ _ _ _ _ (.dead _) (.cons _ _ _ _ _ (.dead _) .nil))))))))))))))))))))))))) (.cons _ _ _ _ _ (DLes.refl _) (.cons _ _ _ _ _ (DLes.refl _) (.cons _ (.p _) (.p _) _ _ (DLes.of_p (.cons _ _ _ _ (.lst false false _ _ _ (fun h => by first | exact h | cases h) (.cons _ _ _ _ (.lst true false _ _ _ (fun h => by first | exact h | cases h) (PLes.refl _)) (.cons _ _ _ _ (.lst true false _ _ _ (fun h => by first | exact h | cases h) (PLes.refl _)) (.cons _ _ _ _ (.lst true false _ _ _ (fun h => by first | exact h | cases h) (PLes.refl _)) .nil)))) .nil)) (.cons _ _ _ _ _ (DLes.refl _) (.cons _ _ _ _ _ (DLes.refl _) .nil))))) (by kernel_rfl) (by simp only [go_sem, resQ_nil, retD_none]; (try simp [R.val, retD_one, retD_two, retD_three, retD_none]); try assumption)
     ·skip
      cases h3607
  ·replace h3607 := grd_some h3607; obtain ⟨g3569, h3607⟩ := h3607
   replace h3607 := brn_some h3607; rcases h3607 with ⟨h3570, h3607⟩ | ⟨h3570, h3607⟩
   ·refine W_sound tab_ok mixed 21 _ _ _ ?_
    simp -implicitDefEqProofs only [go_sem, Nat.reduceBEq, Nat.reduceLT, Int.reduceLE, Int.reduceLT, Int.reduceToNat, ↓reduceIte, h3538, g3569, h3570]
    repeat with_reducible refine And.intro (by first | kernel_rfl | decide) ?_
    simp only [Option.some.injEq, Prod.mk.injEq] at h3607; obtain ⟨rfl, rfl, rfl, rfl⟩ := h3607
    exact finD (st' := ⟨[], [(0, .dead), (1, .dead), (2, .dead), (3, .dead), (4, .dead), (6, .dead), (7, .dead), (8, .dead), (9, .dead), (10, .dead), (11, .dead), (12, .dead), (13, .dead), (14, .dead), (15, .dead), (16, .dead), (20, .dead), (21, .dead), (22, .dead), (23, .dead), (46, .dead), (50, .dead), (51, .dead), (52, .dead), (53, .dead)], [(0, .r [.sl true 1 n3506 n3507 1]), (1, .p c3508), (2, .p [(.lst false n3539 c3540)]), (3, .p [(.int .i64 x3510)]), (4, .p [p3511, p3512])], 5, []⟩) (keepE_le [] _) (OLe.refl _) (by kernel_rfl) (by simp only [go_sem, resQ_nil, retD_none]; (try simp [R.val, retD_one, retD_two, retD_three, retD_none]); try assumption)
   ·replace h3607 := getL_some h3607; obtain ⟨n3572, c3573, h3571, h3607⟩ := h3607
    replace h3607 := casN_some h3607; rcases h3607 with ⟨rfl, h3607⟩ | ⟨_, h3607⟩
    ·replace h3607 := bnd'_some h3607; obtain ⟨⟨n3576, n3577, c3578⟩, h3575, h3607⟩ := h3607
     (try dsimp only at h3607)
     refine W_sound tab_ok mixed 24 _ _ _ ?_
     simp -implicitDefEqProofs only [go_sem, Nat.reduceBEq, Nat.reduceAdd, Nat.reduceLT, Int.reduceLE, Int.reduceLT, Int.reduceToNat, ↓reduceIte, h3538, g3569, h3570, h3571]
     repeat with_reducible refine And.intro (by first | kernel_rfl | decide) ?_
     refine Wp_callD [] (c60_a N _ _ _ _ _ h3575) rfl rfl rfl (by first | rfl | (simp only [go_sem, Nat.reduceBEq, Nat.reduceAdd, Nat.reduceSub, Nat.reduceMul, Nat.reduceLT, Nat.reduceLeDiff, Int.reduceLE, Int.reduceLT, Int.reduceToNat, Int.reduceBEq, Int.reduceBNe, ↓reduceIte, Int.reduceAdd, Int.reduceSub, Int.reduceGT, Int.reduceGE, h3516, h3538, g3569, h3570, h3571] <;> rfl)) rfl (by kernel_rfl) ?_
     refine W_sound tab_ok mixed 9 _ _ _ ?_
     simp -implicitDefEqProofs only [go_sem, Nat.reduceBEq, Nat.reduceAdd, Nat.reduceSub, Nat.reduceMul, Nat.reduceLT, Nat.reduceLeDiff]
     repeat with_reducible refine And.intro (by first | kernel_rfl | decide) ?_
     refine Wp_block ?_
     refine Wp_loopL (WpL_step ?_)
     replace h3607 := grd_some h3607; obtain ⟨g3579, h3607⟩ := h3607
     replace h3607 := grd_some h3607; obtain ⟨g3580, h3607⟩ := h3607
     refine W_sound tab_ok mixed 30 _ _ _ ?_
     simp -implicitDefEqProofs only [go_sem, Nat.reduceBEq, Nat.reduceLT, Int.reduceLE, Int.reduceLT, Int.reduceToNat, ↓reduceIte, Int.reduceAdd, g3579, g3580]
     repeat with_reducible refine And.intro (by first | kernel_rfl | decide) ?_
     refine again (Wk_keep (st' := ⟨[], [(0, .dead), (1, .dead), (2, .ptr 2 0), (3, .dead), (4, .dead), (6, .dead), (7, .dead), (8, .dead), (9, .dead), (10, .dead), (11, .dead), (12, .dead), (13, .dead), (14, .dead), (15, .dead), (16, .dead), (20, .dead), (21, .dead), (22, .dead), (23, .dead), (46, .dead), (50, .sl false 0 0 1 1), (51, .v (.int .i64 1)), (52, .v (.int .i64 1)), (53, .dead)], [(0, .r [.sl true 1 n3506 n3507 1]), (1, .p c3508), (2, .r [.sl false 5 0 1 1]), (3, .p [(.int .i64 x3536)]), (4, .p [(.lst false 1 c3573), p3512]), (5, .r [.sl true 6 n3576 n3577 1]), (6, .p (putP c3578 n3576 (List.take (min n3507 n3577) (List.take n3507 (List.drop n3506 c3508)))))], 7, []⟩) [2, 50, 51, 52] (by kernel_rfl)) ?_
     refine W_sound tab_ok mixed 8 _ _ _ ?_
     simp -implicitDefEqProofs only [go_sem, Nat.reduceBEq, Nat.reduceLT, Int.reduceLE, Int.reduceLT, Int.reduceToNat, ↓reduceIte]
     repeat with_reducible refine And.intro (by first | kernel_rfl | decide) ?_
     refine FinQ_wk (Wk_freeze 6 (putP c3578 n3576 (List.take (min n3507 n3577) (List.take n3507 (List.drop n3506 c3508)))) (by rfl) (by decide) (by decide)) ?_
     simp -implicitDefEqProofs only [go_sem, Nat.reduceBEq]
     refine FinQ_wk (Wk_freeze 5 [(.lst true n3577 (List.take n3577 (List.drop n3576 (putP c3578 n3576 (List.take (min n3507 n3577) (List.take n3507 (List.drop n3506 c3508)))))))] (by rfl) (by decide) (by decide)) ?_
     simp -implicitDefEqProofs only [go_sem, Nat.reduceBEq]
     simp only [Option.some.injEq, Prod.mk.injEq] at h3607; obtain ⟨rfl, rfl, rfl, rfl⟩ := h3607
     exact finD (e2 := [(0, .dead), (1, .dead), (2, .dead), (3, .dead), (4, .dead), (6, .dead), (7, .dead), (8, .dead), (9, .dead), (10, .dead), (11, .dead), (12, .dead), (13, .dead), (14, .dead), (15, .dead), (16, .dead), (20, .dead), (21, .dead), (22, .dead), (23, .dead), (46, .dead), (50, .dead), (51, .dead), (52, .dead), (53, .dead)]) (ob2 := [(0, .r [.sl true 1 n3506 n3507 1]), (1, .p c3508), (2, .p [(.lst false 1 [(.lst false n3577 (List.take n3577 (List.drop n3576 (putP c3578 n3576 (List.take (min n3507 n3577) (List.take n3507 (List.drop n3506 c3508)))))))])]), (3, .p [(.int .i64 x3536)]), (4, .p [(.lst false 1 c3573), p3512])]) (st' := ⟨[], [(0, .dead), (1, .dead), (2, .dead), (3, .dead), (4, .dead), (6, .dead), (7, .dead), (8, .dead), (9, .dead), (10, .dead), (11, .dead), (12, .dead), (13, .dead), (14, .dead), (15, .dead), (16, .dead), (20, .dead), (21, .dead), (22, .dead), (23, .dead), (46, .dead), (50, .dead), (51, .dead), (52, .dead), (53, .dead)], [(0, .r [.sl true 1 n3506 n3507 1]), (1, .p c3508), (2, .p [(.lst false 1 [(.lst false n3577 (List.take n3577 (List.drop n3576 (putP c3578 n3576 (List.take (min n3507 n3577) (List.take n3507 (List.drop n3506 c3508)))))))])]), (3, .p [(.int .i64 x3536)]), (4, .p [(.lst false 1 c3573), p3512])], 5, []⟩) (.cons _ _ _ _ _ (.refl _) (.cons _ _ _ _ _ (.refl _) (.cons _ _ _ _ _ (.dead _) (.cons _ _ _ _ _ (.refl _) (.cons _ _ _ _ _ (.refl _) (.cons _ _ _ _ _ (.refl _) (.cons _ _ _ _ _ (.refl _) (.cons _ _ _ _ _ (.refl _) (.cons _ _ _ _ _ (.refl _) (.cons _ _ _ _ _ (.refl _) (.cons _ _ _ _ _ (.refl _) (.cons _ _ _ _ _ (.refl _) (.cons _ _ _ _ _ (.refl _) (.cons _ _ _ _ _ (.refl _) (.cons _ _ _ _ _ (.refl _) (.cons _ _ _ _ _ (.refl _) (.cons _ _ _ _ _ (.refl _) (.cons _ _ _ _ _ (.refl _) (.cons _ _ _ _ _ (.refl _) (.cons _ _ _ _ _ (.refl _) (.cons _ _ _ _ _ (.refl _) (.cons _ _ _ _ _ (.dead _) (.cons _ _ _ _ _ (.dead _) (.cons _ _ _ _ _ (.dead _) (.cons _ _ _ _ _ (.dead _) .nil))))))))))))))))))))))))) (.cons _ _ _ _ _ (DLes.refl _) (.cons _ _ _ _ _ (DLes.refl _) (.cons _ (.p _) (.p _) _ _ (DLes.of_p (.cons _ _ _ _ (.lst false false _ _ _ (fun h => by first | exact h | cases h) (.cons _ _ _ _ (.lst true false _ _ _ (fun h => by first | exact h | cases h) (PLes.refl _)) .nil)) .nil)) (.cons _ _ _ _ _ (DLes.refl _) (.cons _ _ _ _ _ (DLes.refl _) .nil))))) (by kernel_rfl) (by simp only [go_sem, resQ_nil, retD_none]; (try simp [R.val, retD_one, retD_two, retD_three, retD_none]); try assumption)
    ·skip
     replace h3607 := casN_some h3607; rcases h3607 with ⟨rfl, h3607⟩ | ⟨_, h3607⟩
     ·replace h3607 := bnd'_some h3607; obtain ⟨⟨n3582, n3583, n3584, n3585, c3586⟩, h3581, h3607⟩ := h3607
      (try dsimp only at h3607)
      refine W_sound tab_ok mixed 24 _ _ _ ?_
      simp -implicitDefEqProofs only [go_sem, Nat.reduceBEq, Nat.reduceAdd, Nat.reduceLT, Int.reduceLE, Int.reduceLT, Int.reduceToNat, ↓reduceIte, h3538, g3569, h3570, h3571]
      repeat with_reducible refine And.intro (by first | kernel_rfl | decide) ?_
      refine Wp_callD [] (c60_2_a N _ _ _ _ _ _ _ h3581) rfl rfl rfl (by first | rfl | (simp only [go_sem, Nat.reduceBEq, Nat.reduceAdd, Nat.reduceSub, Nat.reduceMul, Nat.reduceLT, Nat.reduceLeDiff, Int.reduceLE, Int.reduceLT, Int.reduceToNat, Int.reduceBEq, Int.reduceBNe, ↓reduceIte, Int.reduceAdd, Int.reduceSub, Int.reduceGT, Int.reduceGE, h3516, h3538, g3569, h3570, h3571] <;> rfl)) rfl (by kernel_rfl) ?_
      refine W_sound tab_ok mixed 9 _ _ _ ?_
      simp -implicitDefEqProofs only [go_sem, Nat.reduceBEq, Nat.reduceAdd, Nat.reduceSub, Nat.reduceMul, Nat.reduceLT, Nat.reduceLeDiff]
      repeat with_reducible refine And.intro (by first | kernel_rfl | decide) ?_
      refine Wp_block ?_
      refine Wp_loopL (WpL_step ?_)
      replace h3607 := grd_some h3607; obtain ⟨g3587, h3607⟩ := h3607
      replace h3607 := grd_some h3607; obtain ⟨g3588, h3607⟩ := h3607
      refine W_sound tab_ok mixed 30 _ _ _ ?_
      simp -implicitDefEqProofs only [go_sem, Nat.reduceBEq, Nat.reduceAdd, Nat.reduceLT, Nat.reduceLeDiff, Int.reduceLE, Int.reduceLT, Int.reduceToNat, ↓reduceIte, Int.reduceAdd, g3587, g3588]
      repeat with_reducible refine And.intro (by first | kernel_rfl | decide) ?_
      refine again (Wk_keep (st' := ⟨[], [(0, .dead), (1, .dead), (2, .ptr 2 0), (3, .dead), (4, .dead), (6, .dead), (7, .dead), (8, .dead), (9, .dead), (10, .dead), (11, .dead), (12, .dead), (13, .dead), (14, .dead), (15, .dead), (16, .dead), (20, .dead), (21, .dead), (22, .dead), (23, .dead), (46, .dead), (50, .sl false 0 0 1 1), (51, .v (.int .i64 1)), (52, .v (.int .i64 1)), (53, .dead)], [(0, .r [.sl true 1 n3506 n3507 1]), (1, .p c3508), (2, .r [.sl false 5 0 2 1]), (3, .p [(.int .i64 x3536)]), (4, .p [(.lst false 2 c3573), p3512]), (5, .r [.sl true 6 n3582 n3583 1, .sl true 6 n3584 n3585 1]), (6, .p (putP c3586 n3582 (List.take (min n3507 n3583) (List.take n3507 (List.drop n3506 c3508)))))], 7, []⟩) [2, 50, 51, 52] (by kernel_rfl)) ?_
      refine W_sound tab_ok mixed 8 _ _ _ ?_
      simp -implicitDefEqProofs only [go_sem, Nat.reduceBEq, Nat.reduceLT, Int.reduceLE, Int.reduceLT, Int.reduceToNat, ↓reduceIte]
      repeat with_reducible refine And.intro (by first | kernel_rfl | decide) ?_
      refine FinQ_wk (Wk_freeze 6 (putP c3586 n3582 (List.take (min n3507 n3583) (List.take n3507 (List.drop n3506 c3508)))) (by rfl) (by decide) (by decide)) ?_
      simp -implicitDefEqProofs only [go_sem, Nat.reduceBEq]
      refine FinQ_wk (Wk_freeze 5 [(.lst true n3583 (List.take n3583 (List.drop n3582 (putP c3586 n3582 (List.take (min n3507 n3583) (List.take n3507 (List.drop n3506 c3508))))))), (.lst true n3585 (List.take n3585 (List.drop n3584 (putP c3586 n3582 (List.take (min n3507 n3583) (List.take n3507 (List.drop n3506 c3508)))))))] (by rfl) (by decide) (by decide)) ?_
      simp -implicitDefEqProofs only [go_sem, Nat.reduceBEq, Nat.reduceAdd]
      simp only [Option.some.injEq, Prod.mk.injEq] at h3607; obtain ⟨rfl, rfl, rfl, rfl⟩ := h3607
      exact finD (e2 := [(0, .dead), (1, .dead), (2, .dead), (3, .dead), (4, .dead), (6, .dead), (7, .dead), (8, .dead), (9, .dead), (10, .dead), (11, .dead), (12, .dead), (13, .dead), (14, .dead), (15, .dead), (16, .dead), (20, .dead), (21, .dead), (22, .dead), (23, .dead), (46, .dead), (50, .dead), (51, .dead), (52, .dead), (53, .dead)]) (ob2 := [(0, .r [.sl true 1 n3506 n3507 1]), (1, .p c3508), (2, .p [(.lst false 2 [(.lst false n3583 (List.take n3583 (List.drop n3582 (putP c3586 n3582 (List.take (min n3507 n3583) (List.take n3507 (List.drop n3506 c3508))))))), (.lst false n3585 (List.take n3585 (List.drop n3584 (putP c3586 n3582 (List.take (min n3507 n3583) (List.take n3507 (List.drop n3506 c3508)))))))])]), (3, .p [(.int .i64 x3536)]), (4, .p [(.lst false 2 c3573), p3512])]) (st' := ⟨[], [(0, .dead), (1, .dead), (2, .dead), (3, .dead), (4, .dead), (6, .dead), (7, .dead), (8, .dead), (9, .dead), (10, .dead), (11, .dead), (12, .dead), (13, .dead), (14, .dead), (15, .dead), (16, .dead), (20, .dead), (21, .dead), (22, .dead), (23, .dead), (46, .dead), (50, .dead), (51, .dead), (52, .dead), (53, .dead)], [(0, .r [.sl true 1 n3506 n3507 1]), (1, .p c3508), (2, .p [(.lst false 2 [(.lst false n3583 (List.take n3583 (List.drop n3582 (putP c3586 n3582 (List.take (min n3507 n3583) (List.take n3507 (List.drop n3506 c3508))))))), (.lst false n3585 (List.take n3585 (List.drop n3584 (putP c3586 n3582 (List.take (min n3507 n3583) (List.take n3507 (List.drop n3506 c3508)))))))])]), (3, .p [(.int .i64 x3536)]), (4, .p [(.lst false 2 c3573), p3512])], 5, []⟩) (.cons _ _ _ _ _ (.refl _) (.cons _ _ _ _ _ (.refl _) (.cons _ _ _ _ _ (.dead _) (.cons _ _ _ _ _ (.refl _) (.cons _ _ _ _ _ (.refl _) (.cons _ _ _ _ _ (.refl _) (.cons _ _ _ _ _ (.refl _) (.cons _ _ _ _ _ (.refl _) (.cons _ _ _ _ _ (.refl _) (.cons _ _ _ _ _ (.refl _) (.cons _ _ _ _ _ (.refl _) (.cons _ _ _ _ _ (.refl _) (.cons _ _ _ _ _ (.refl _) (.cons _ _ _ _ _ (.refl _) (.cons _ _ _ _ _ (.refl _) (.cons _ _ _ _ _ (.refl _) (.cons _ _ _ _ _ (.refl _) (.cons _ _ _ _ _ (.refl _) (.cons _ _ _ _ _ (.refl _) (.cons _ _ _ _ _ (.refl _) (.cons _ _ _ _ _ (.refl _) (.cons _ _ _ _ _ (.dead _) (.cons _ _ _ _ _ (.dead _) (.cons _ _ _ _ _ (.dead _) (.cons _ _ _ _ _ (.dead _) .nil))))))))))))))))))))))))) (.cons _ _ _ _ _ (DLes.refl _) (.cons _ _ _ _ _ (DLes.refl _) (.cons _ (.p _) (.p _) _ _ (DLes.of_p (.cons _ _ _ _ (.lst false false _ _ _ (fun h => by first | exact h | cases h) (.cons _ _ _ _ (.lst true false _ _ _ (fun h => by first | exact h | cases h) (PLes.refl _)) (.cons _ _ _ _ (.lst true false _ _ _ (fun h => by first | exact h | cases h) (PLes.refl _)) .nil))) .nil)) (.cons _ _ _ _ _ (DLes.refl _) (.cons _ _ _ _ _ (DLes.refl _) .nil))))) (by kernel_rfl) (by simp only [go_sem, resQ_nil, retD_none]; (try simp [R.val, retD_one, retD_two, retD_three, retD_none]); try assumption)
     ·skip
      replace h3607 := casN_some h3607; rcases h3607 with ⟨rfl, h3607⟩ | ⟨_, h3607⟩
      ·replace h3607 := bnd'_some h3607; obtain ⟨⟨n3590, n3591, n3592, n3593, n3594, n3595, c3596⟩, h3589, h3607⟩ := h3607
       (try dsimp only at h3607)
       refine W_sound tab_ok mixed 24 _ _ _ ?_
       simp -implicitDefEqProofs only [go_sem, Nat.reduceBEq, Nat.reduceAdd, Nat.reduceLT, Int.reduceLE, Int.reduceLT, Int.reduceToNat, ↓reduceIte, h3538, g3569, h3570, h3571]
       repeat with_reducible refine And.intro (by first | kernel_rfl | decide) ?_
       refine Wp_callD [] (c60_3_a N _ _ _ _ _ _ _ _ _ h3589) rfl rfl rfl (by first | rfl | (simp only [go_sem, Nat.reduceBEq, Nat.reduceAdd, Nat.reduceSub, Nat.reduceMul, Nat.reduceLT, Nat.reduceLeDiff, Int.reduceLE, Int.reduceLT, Int.reduceToNat, Int.reduceBEq, Int.reduceBNe, ↓reduceIte, Int.reduceAdd, Int.reduceSub, Int.reduceGT, Int.reduceGE, h3516, h3538, g3569, h3570, h3571] <;> rfl)) rfl (by kernel_rfl) ?_
       refine W_sound tab_ok mixed 9 _ _ _ ?_
       simp -implicitDefEqProofs only [go_sem, Nat.reduceBEq, Nat.reduceAdd, Nat.reduceSub, Nat.reduceMul, Nat.reduceLT, Nat.reduceLeDiff]
       repeat with_reducible refine And.intro (by first | kernel_rfl | decide) ?_
       refine Wp_block ?_
       refine Wp_loopL (WpL_step ?_)
       replace h3607 := grd_some h3607; obtain ⟨g3597, h3607⟩ := h3607
       replace h3607 := grd_some h3607; obtain ⟨g3598, h3607⟩ := h3607
       refine W_sound tab_ok mixed 30 _ _ _ ?_
       simp -implicitDefEqProofs only [go_sem, Nat.reduceBEq, Nat.reduceAdd, Nat.reduceLT, Nat.reduceLeDiff, Int.reduceLE, Int.reduceLT, Int.reduceToNat, ↓reduceIte, Int.reduceAdd, g3597, g3598]
       repeat with_reducible refine And.intro (by first | kernel_rfl | decide) ?_
       refine again (Wk_keep (st' := ⟨[], [(0, .dead), (1, .dead), (2, .ptr 2 0), (3, .dead), (4, .dead), (6, .dead), (7, .dead), (8, .dead), (9, .dead), (10, .dead), (11, .dead), (12, .dead), (13, .dead), (14, .dead), (15, .dead), (16, .dead), (20, .dead), (21, .dead), (22, .dead), (23, .dead), (46, .dead), (50, .sl false 0 0 1 1), (51, .v (.int .i64 1)), (52, .v (.int .i64 1)), (53, .dead)], [(0, .r [.sl true 1 n3506 n3507 1]), (1, .p c3508), (2, .r [.sl false 5 0 3 1]), (3, .p [(.int .i64 x3536)]), (4, .p [(.lst false 3 c3573), p3512]), (5, .r [.sl true 6 n3590 n3591 1, .sl true 6 n3592 n3593 1, .sl true 6 n3594 n3595 1]), (6, .p (putP c3596 n3590 (List.take (min n3507 n3591) (List.take n3507 (List.drop n3506 c3508)))))], 7, []⟩) [2, 50, 51, 52] (by kernel_rfl)) ?_
       refine W_sound tab_ok mixed 8 _ _ _ ?_
       simp -implicitDefEqProofs only [go_sem, Nat.reduceBEq, Nat.reduceLT, Int.reduceLE, Int.reduceLT, Int.reduceToNat, ↓reduceIte]
       repeat with_reducible refine And.intro (by first | kernel_rfl | decide) ?_
       refine FinQ_wk (Wk_freeze 6 (putP c3596 n3590 (List.take (min n3507 n3591) (List.take n3507 (List.drop n3506 c3508)))) (by rfl) (by decide) (by decide)) ?_
       simp -implicitDefEqProofs only [go_sem, Nat.reduceBEq]
       refine FinQ_wk (Wk_freeze 5 [(.lst true n3591 (List.take n3591 (List.drop n3590 (putP c3596 n3590 (List.take (min n3507 n3591) (List.take n3507 (List.drop n3506 c3508))))))), (.lst true n3593 (List.take n3593 (List.drop n3592 (putP c3596 n3590 (List.take (min n3507 n3591) (List.take n3507 (List.drop n3506 c3508))))))), (.lst true n3595 (List.take n3595 (List.drop n3594 (putP c3596 n3590 (List.take (min n3507 n3591) (List.take n3507 (List.drop n3506 c3508)))))))] (by rfl) (by decide) (by decide)) ?_
       simp -implicitDefEqProofs only [go_sem, Nat.reduceBEq, Nat.reduceAdd]
       simp only [Option.some.injEq, Prod.mk.injEq] at h3607; obtain ⟨rfl, rfl, rfl, rfl⟩ := h3607
       exact finD (e2 := [(0, .dead), (1, .dead), (2, .dead), (3, .dead), (4, .dead), (6, .dead), (7, .dead), (8, .dead), (9, .dead), (10, .dead), (11, .dead), (12, .dead), (13, .dead), (14, .dead), (15, .dead), (16, .dead), (20, .dead), (21, .dead), (22, .dead), (23, .dead), (46, .dead), (50, .dead), (51, .dead), (52, .dead), (53, .dead)]) (ob2 := [(0, .r [.sl true 1 n3506 n3507 1]), (1, .p c3508), (2, .p [(.lst false 3 [(.lst false n3591 (List.take n3591 (List.drop n3590 (putP c3596 n3590 (List.take (min n3507 n3591) (List.take n3507 (List.drop n3506 c3508))))))), (.lst false n3593 (List.take n3593 (List.drop n3592 (putP c3596 n3590 (List.take (min n3507 n3591) (List.take n3507 (List.drop n3506 c3508))))))), (.lst false n3595 (List.take n3595 (List.drop n3594 (putP c3596 n3590 (List.take (min n3507 n3591) (List.take n3507 (List.drop n3506 c3508)))))))])]), (3, .p [(.int .i64 x3536)]), (4, .p [(.lst false 3 c3573), p3512])]) (st' := ⟨[], [(0, .dead), (1, .dead), (2, .dead), (3, .dead), (4, .dead), (6, .dead), (7, .dead), (8, .dead), (9, .dead), (10, .dead), (11, .dead), (12, .dead), (13, .dead), (14, .dead), (15, .dead), (16, .dead), (20, .dead), (21, .dead), (22, .dead), (23, .dead), (46, .dead), (50, .dead), (51, .dead), (52, .dead), (53, .dead)], [(0, .r [.sl true 1 n3506 n3507 1]), (1, .p c3508), (2, .p [(.lst false 3 [(.lst false n3591 (List.take n3591 (List.drop n3590 (putP c3596 n3590 (List.take (min n3507 n3591) (List.take n3507 (List.drop n3506 c3508))))))), (.lst false n3593 (List.take n3593 (List.drop n3592 (putP c3596 n3590 (List.take (min n3507 n3591) (List.take n3507 (List.drop n3506 c3508))))))), (.lst false n3595 (List.take n3595 (List.drop n3594 (putP c3596 n3590 (List.take (min n3507 n3591) (List.take n3507 (List.drop n3506 c3508)))))))])]), (3, .p [(.int .i64 x3536)]), (4, .p [(.lst false 3 c3573), p3512])], 5, []⟩) (.cons _ _ _ _ _ (.refl _) (.cons _ _ _ _ _ (.refl _) (.cons _ _ _ _ _ (.dead _) (.cons _ _ _ _ _ (.refl _) (.cons _ _ _ _ _ (.refl _) (.cons _ _ _ _ _ (.refl _) (.cons _ _ _ _ _ (.refl _) (.cons _ _ _ _ _ (.refl _) (.cons _ _ _ _ _ (.refl _) (.cons _ _ _ _ _ (.refl _) (.cons _ _ _ _ _ (.refl _) (.cons _ _ _ _ _ (.refl _) (.cons _ _ _ _ _ (.refl _) (.cons _ _ _ _ _ (.refl _) (.cons _ _ _ _ _ (.refl _) (.cons _ _ _ _ _ (.refl _) (.cons _ _ _ _ _ (.refl _) (.cons _ _ _ _ _ (.refl _) (.cons _ _ _ _ _ (.refl _) (.cons _ _ _ _ _ (.refl _) (.cons _ _ _ _ _ (.refl _) (.cons _ _ _ _ _ (.dead _) (.cons _ _ _ _ _ (.dead _) (.cons _ _ _ _ _ (.dead _) (.cons _ _ _ _ _ (.dead _) .nil))))))))))))))))))))))))) (.cons _ _ _ _ _ (DLes.refl _) (.cons _ _ _ _ _ (DLes.refl _) (.cons _ (.p _) (.p _) _ _ (DLes.of_p (.cons _ _ _ _ (.lst false false _ _ _ (fun h => by first | exact h | cases h) (.cons _ _ _ _ (.lst true false _ _ _ (fun h => by first | exact h | cases h) (PLes.refl _)) (.cons _ _ _ _ (.lst true false _ _ _ (fun h => by first | exact h | cases h) (PLes.refl _)) (.cons _ _ _ _ (.lst true false _ _ _ (fun h => by first | exact h | cases h) (PLes.refl _)) .nil)))) .nil)) (.cons _ _ _ _ _ (DLes.refl _) (.cons _ _ _ _ _ (DLes.refl _) .nil))))) (by kernel_rfl) (by simp only [go_sem, resQ_nil, retD_none]; (try simp [R.val, retD_one, retD_two, retD_three, retD_none]); try assumption)
      ·skip
       cases h3607
noncomputable def m73_2_L0 (N : Nat) (n3820 : Nat) (n3821 : Nat) (n3822 : Nat) (n3823 : Nat) (c3824 : List PV) (p3825 : PV) (x3826 : Int) (p3827 : PV) (p3828 : PV) (n3833 : Nat) (c3834 : List PV) : Nat → Int → Int → Option (Int)
 | 0, _, _ => none
 | n + 1, x3835, x3836 =>
  brn (decide (x3836 < ((n3821 : Nat) : Int))) (
   grd (0 ≤ x3836 ∧ x3836 < ((n3821 : Nat) : Int)) <|
   grd ((n3820 + (Int.toNat x3836)) < List.length c3824) <|
   getI .i64 (gp c3824 (n3820 + (Int.toNat x3836))) fun x3842 =>
   grd (0 < ((n3833 : Nat) : Int)) <|
   grd (0 < List.length c3834) <|
   getL (gp c3834 0) fun n3846 c3847 =>
   grd (x3836 < ((n3846 : Nat) : Int)) <|
   grd (0 < List.length (List.drop (Int.toNat x3836) c3847)) <|
   getI .i64 (gp c3847 (Int.toNat x3836)) fun x3851 =>
   m73_2_L0 N n3820 n3821 n3822 n3823 c3824 p3825 x3826 p3827 p3828 n3833 c3834 n (IntKind.i64.wrap (x3835 + (IntKind.i64.wrap (x3842 * x3851)))) (IntKind.i64.wrap (x3836 + 1))) (
   some x3835)
noncomputable def m73_2_L1 (N : Nat) (n3820 : Nat) (n3821 : Nat) (n3822 : Nat) (n3823 : Nat) (c3824 : List PV) (p3825 : PV) (x3826 : Int) (p3827 : PV) (p3828 : PV) (n3833 : Nat) (c3834 : List PV) : Nat → Int → Int → Option (Int)
 | 0, _, _ => none
 | n + 1, x3853, x3854 =>
  brn (decide (x3854 < ((n3823 : Nat) : Int))) (
   grd (0 ≤ x3854 ∧ x3854 < ((n3823 : Nat) : Int)) <|
   grd ((n3822 + (Int.toNat x3854)) < List.length c3824) <|
   getI .i64 (gp c3824 (n3822 + (Int.toNat x3854))) fun x3860 =>
   grd (1 < ((n3833 : Nat) : Int)) <|
   grd (0 < List.length (List.drop 1 c3834)) <|
   getL (gp c3834 1) fun n3864 c3865 =>
   grd (x3854 < ((n3864 : Nat) : Int)) <|
   grd (0 < List.length (List.drop (Int.toNat x3854) c3865)) <|
   getI .i64 (gp c3865 (Int.toNat x3854)) fun x3869 =>
   m73_2_L1 N n3820 n3821 n3822 n3823 c3824 p3825 x3826 p3827 p3828 n3833 c3834 n (IntKind.i64.wrap (x3853 + (IntKind.i64.wrap (x3860 * x3869)))) (IntKind.i64.wrap (x3854 + 1))) (
   some x3853)
noncomputable def m73_2 (N : Nat) (p3819 : PV) (n3820 : Nat) (n3821 : Nat) (n3822 : Nat) (n3823 : Nat) (c3824 : List PV) (p3825 : PV) (x3826 : Int) (p3827 : PV) (p3828 : PV) : Option ((PV × PV × Int × PV)) :=
 getL p3819 fun n3833 c3834 =>
 bnd' (m73_2_L0 N n3820 n3821 n3822 n3823 c3824 p3825 x3826 p3827 p3828 n3833 c3834 N 0 0) fun x3852 =>
 bnd' (m73_2_L1 N n3820 n3821 n3822 n3823 c3824 p3825 x3826 p3827 p3828 n3833 c3834 N x3852 0) fun x3870 =>
 getN p3825 (
  getL p3827 fun n3876 c3877 =>
  casN n3876 1 (
   bnd' (m60 N c3877 p3828) fun o =>
   match o with
   | (n3880, n3881, c3882) =>
    grd (List.length (List.take n3821 (List.drop n3820 c3824)) = n3821) <|
    grd ((n3880 + n3881) ≤ List.length c3882) <|
    none) (
  casN n3876 2 (
   bnd' (m60_2 N c3877 p3828) fun o =>
   match o with
   | (n3886, n3887, n3888, n3889, c3890) =>
    grd (List.length (List.take n3821 (List.drop n3820 c3824)) = n3821) <|
    grd ((n3886 + n3887) ≤ List.length c3890) <|
    grd (List.length (List.take n3823 (List.drop n3822 c3824)) = n3823) <|
    grd ((n3888 + n3889) ≤ List.length c3890) <|
    some ((.tup []), (.lst false 2 [(.lst false n3887 (List.take n3887 (List.drop n3886 (putP (putP c3890 n3886 (List.take (min n3821 n3887) (List.take n3821 (List.drop n3820 c3824)))) n3888 (List.take (min n3823 n3889) (List.take n3823 (List.drop n3822 c3824))))))), (.lst false n3889 (List.take n3889 (List.drop n3888 (putP (putP c3890 n3886 (List.take (min n3821 n3887) (List.take n3821 (List.drop n3820 c3824)))) n3888 (List.take (min n3823 n3889) (List.take n3823 (List.drop n3822 c3824)))))))]), x3870, (.lst false 2 c3877))) (
  casN n3876 3 (
   bnd' (m60_3 N c3877 p3828) fun o =>
   match o with
   | (n3896, n3897, n3898, n3899, n3900, n3901, c3902) =>
    grd (List.length (List.take n3821 (List.drop n3820 c3824)) = n3821) <|
    grd ((n3896 + n3897) ≤ List.length c3902) <|
    grd (List.length (List.take n3823 (List.drop n3822 c3824)) = n3823) <|
    grd ((n3898 + n3899) ≤ List.length c3902) <|
    some ((.tup []), (.lst false 3 [(.lst false n3897 (List.take n3897 (List.drop n3896 (putP (putP c3902 n3896 (List.take (min n3821 n3897) (List.take n3821 (List.drop n3820 c3824)))) n3898 (List.take (min n3823 n3899) (List.take n3823 (List.drop n3822 c3824))))))), (.lst false n3899 (List.take n3899 (List.drop n3898 (putP (putP c3902 n3896 (List.take (min n3821 n3897) (List.take n3821 (List.drop n3820 c3824)))) n3898 (List.take (min n3823 n3899) (List.take n3823 (List.drop n3822 c3824))))))), (.lst false n3901 (List.take n3901 (List.drop n3900 (putP (putP c3902 n3896 (List.take (min n3821 n3897) (List.take n3821 (List.drop n3820 c3824)))) n3898 (List.take (min n3823 n3899) (List.take n3823 (List.drop n3822 c3824)))))))]), x3870, (.lst false 3 c3877))) (
  none)))) fun n3873 c3874 =>
 grd (0 < n3873) <|
 brn (decide (x3870 ≥ x3826)) (
  some ((.tup []), (.lst false n3873 c3874), x3826, p3827)) (
  getL p3827 fun n3910 c3911 =>
  casN n3910 1 (
   bnd' (m60 N c3911 p3828) fun o =>
   match o with
   | (n3914, n3915, c3916) =>
    grd (List.length (List.take n3821 (List.drop n3820 c3824)) = n3821) <|
    grd ((n3914 + n3915) ≤ List.length c3916) <|
    none) (
  casN n3910 2 (
   bnd' (m60_2 N c3911 p3828) fun o =>
   match o with
   | (n3920, n3921, n3922, n3923, c3924) =>
    grd (List.length (List.take n3821 (List.drop n3820 c3824)) = n3821) <|
    grd ((n3920 + n3921) ≤ List.length c3924) <|
    grd (List.length (List.take n3823 (List.drop n3822 c3824)) = n3823) <|
    grd ((n3922 + n3923) ≤ List.length c3924) <|
    some ((.tup []), (.lst false 2 [(.lst false n3921 (List.take n3921 (List.drop n3920 (putP (putP c3924 n3920 (List.take (min n3821 n3921) (List.take n3821 (List.drop n3820 c3824)))) n3922 (List.take (min n3823 n3923) (List.take n3823 (List.drop n3822 c3824))))))), (.lst false n3923 (List.take n3923 (List.drop n3922 (putP (putP c3924 n3920 (List.take (min n3821 n3921) (List.take n3821 (List.drop n3820 c3824)))) n3922 (List.take (min n3823 n3923) (List.take n3823 (List.drop n3822 c3824)))))))]), x3870, (.lst false 2 c3911))) (
  casN n3910 3 (
   bnd' (m60_3 N c3911 p3828) fun o =>
   match o with
   | (n3930, n3931, n3932, n3933, n3934, n3935, c3936) =>
    grd (List.length (List.take n3821 (List.drop n3820 c3824)) = n3821) <|
    grd ((n3930 + n3931) ≤ List.length c3936) <|
    grd (List.length (List.take n3823 (List.drop n3822 c3824)) = n3823) <|
    grd ((n3932 + n3933) ≤ List.length c3936) <|
    some ((.tup []), (.lst false 3 [(.lst false n3931 (List.take n3931 (List.drop n3930 (putP (putP c3936 n3930 (List.take (min n3821 n3931) (List.take n3821 (List.drop n3820 c3824)))) n3932 (List.take (min n3823 n3933) (List.take n3823 (List.drop n3822 c3824))))))), (.lst false n3933 (List.take n3933 (List.drop n3932 (putP (putP c3936 n3930 (List.take (min n3821 n3931) (List.take n3821 (List.drop n3820 c3824)))) n3932 (List.take (min n3823 n3933) (List.take n3823 (List.drop n3822 c3824))))))), (.lst false n3935 (List.take n3935 (List.drop n3934 (putP (putP c3936 n3930 (List.take (min n3821 n3931) (List.take n3821 (List.drop n3820 c3824)))) n3932 (List.take (min n3823 n3933) (List.take n3823 (List.drop n3822 c3824)))))))]), x3870, (.lst false 3 c3911))) (
  none))))
theorem c73_2 (N : Nat) (p3819 : PV) (n3820 : Nat) (n3821 : Nat) (n3822 : Nat) (n3823 : Nat) (c3824 : List PV) (p3825 : PV) (x3826 : Int) (p3827 : PV) (p3828 : PV) (r : PV) (p3944 : PV) (x3945 : Int) (p3946 : PV) (h : m73_2 N p3819 n3820 n3821 n3822 n3823 c3824 p3825 x3826 p3827 p3828 = some (r, p3944, x3945, p3946)) : V.Fn Try.prog 73 5 [.sl false 0 0 2 1, .v (.ipt [p3819]), .ptr 2 0, .ptr 3 0, .ptr 4 0] [(0, .r [.sl true 1 n3820 n3821 1, .sl true 1 n3822 n3823 1]), (1, .p c3824), (2, .p [p3825]), (3, .p [(.int .i64 x3826)]), (4, .p [p3827, p3828])] (fun d ob' => d = .v r ∧ ob' = [(0, .r [.sl true 1 n3820 n3821 1, .sl true 1 n3822 n3823 1]), (1, .p c3824), (2, .p [p3944]), (3, .p [(.int .i64 x3945)]), (4, .p [p3946, p3828])]) := by
 unfold m73_2 at h
 refine Fn_of (sz := 64) tab_ok [0, 1, 2, 3, 4, 6, 7, 8, 9, 10, 11, 12, 13, 14, 15, 16, 20, 21, 22, 23, 46, 50, 51, 52, 53] [] Try.func73 rfl rfl rfl (by simp) ?_
 simp only [initSt, initEnv, List.getD_cons_zero, List.getD_cons_succ, List.getD_nil]
 replace h := getL_some h; obtain ⟨n3833, c3834, h3832, h⟩ := h
 refine W_sound tab_ok mixed 11 _ _ _ ?_
 simp -implicitDefEqProofs only [go_sem, Nat.reduceBEq, Nat.reduceLT, h3832]
 repeat with_reducible refine And.intro (by first | kernel_rfl | decide) ?_
 refine Wp_block ?_
 refine Wp_loopL (WpL_step ?_)
 refine W_sound tab_ok mixed 23 _ _ _ ?_
 simp -implicitDefEqProofs only [go_sem, Nat.reduceBEq, Nat.reduceAdd, Nat.reduceLT, Nat.reduceLeDiff, Int.reduceLE, Int.reduceLT, Int.reduceToNat, ↓reduceIte]
 repeat with_reducible refine And.intro (by first | kernel_rfl | decide) ?_
 replace h := bnd'_some h; obtain ⟨o3947, h3948, h3949⟩ := h
 refine Wp_cut (fun s => ∃ x3852, x3852 = o3947 ∧ s = ⟨[], [(0, .sl false 0 0 2 1), (1, .v (.ipt [(.lst false n3833 c3834)])), (2, .ptr 2 0), (3, .ptr 3 0), (4, .ptr 4 0), (6, .v (.int .i64 x3852)), (7, .dead), (8, .dead), (9, .dead), (10, .dead), (11, .dead), (12, .dead), (13, .sl false 0 0 2 1), (14, .v (.int .i64 2)), (15, .v (.int .i64 0)), (16, .dead), (20, .dead), (21, .dead), (22, .dead), (23, .dead), (46, .dead), (50, .dead), (51, .dead), (52, .dead), (53, .dead)], [(0, .r [.sl true 1 n3820 n3821 1, .sl true 1 n3822 n3823 1]), (1, .p c3824), (2, .p [p3825]), (3, .p [(.int .i64 x3826)]), (4, .p [p3827, p3828])], 5, []⟩) ?_ ?_
 ·refine Wp_block ?_
  refine Wp_loopG (fun n s => ∃ x3835, ∃ x3836, m73_2_L0 N n3820 n3821 n3822 n3823 c3824 p3825 x3826 p3827 p3828 n3833 c3834 n x3835 x3836 = some o3947 ∧ s = ⟨[], [(0, .sl false 0 0 2 1), (1, .v (.ipt [(.lst false n3833 c3834)])), (2, .ptr 2 0), (3, .ptr 3 0), (4, .ptr 4 0), (6, .v (.int .i64 x3835)), (7, .v (.int .i64 0)), (8, .dead), (9, .dead), (10, .dead), (11, .dead), (12, .dead), (13, .sl false 0 0 2 1), (14, .v (.int .i64 2)), (15, .v (.int .i64 0)), (16, .dead), (20, .sl true 1 n3820 n3821 1), (21, .v (.int .i64 ((n3821 : Nat) : Int))), (22, .v (.int .i64 x3836)), (23, .dead), (46, .dead), (50, .dead), (51, .dead), (52, .dead), (53, .dead)], [(0, .r [.sl true 1 n3820 n3821 1, .sl true 1 n3822 n3823 1]), (1, .p c3824), (2, .p [p3825]), (3, .p [(.int .i64 x3826)]), (4, .p [p3827, p3828])], 5, []⟩) N _ ?_ ⟨_, _, h3948, rfl⟩ ?_
  ·exact Wk_keep [0, 1, 2, 3, 4, 6, 7, 13, 14, 15, 20, 21, 22] (by kernel_rfl)
  clear h3948
  rintro n _ ⟨x3835, x3836, h3948, rfl⟩
  cases n with
  | zero => cases h3948
  | succ n =>
   rw [m73_2_L0] at h3948
   replace h3948 := brn_some h3948; rcases h3948 with ⟨h3837, h3948⟩ | ⟨h3837, h3948⟩
   ·replace h3948 := grd_some h3948; obtain ⟨⟨g3838, g3839⟩, h3948⟩ := h3948
    replace h3948 := grd_some h3948; obtain ⟨g3840, h3948⟩ := h3948
    replace h3948 := getI_some h3948; obtain ⟨x3842, h3841, h3948⟩ := h3948
    replace h3948 := grd_some h3948; obtain ⟨g3843, h3948⟩ := h3948
    replace h3948 := grd_some h3948; obtain ⟨g3844, h3948⟩ := h3948
    replace h3948 := getL_some h3948; obtain ⟨n3846, c3847, h3845, h3948⟩ := h3948
    replace h3948 := grd_some h3948; obtain ⟨g3848, h3948⟩ := h3948
    replace h3948 := grd_some h3948; obtain ⟨g3849, h3948⟩ := h3948
    replace h3948 := getI_some h3948; obtain ⟨x3851, h3850, h3948⟩ := h3948
    refine W_sound tab_ok mixed 36 _ _ _ ?_
    simp -implicitDefEqProofs only [go_sem, Nat.reduceBEq, Nat.reduceLT, Int.reduceLE, Int.reduceToNat, ↓reduceIte, g3838, g3839, g3840, h3841, g3843, g3844, h3845, g3848, g3849, h3850]
    repeat with_reducible refine And.intro (by first | kernel_rfl | decide) ?_
    (try rw [h3841] at h3948)
    (try rw [h3845] at h3948)
    (try rw [h3850] at h3948)
    refine cutQ _ ?_ ⟨n, Nat.lt_succ_self n, _, _, h3948, rfl⟩
    exact Wk_keep [0, 1, 2, 3, 4, 6, 7, 13, 14, 15, 20, 21, 22] (by kernel_rfl)
   ·refine W_sound tab_ok mixed 7 _ _ _ ?_
    simp -implicitDefEqProofs only [go_sem, Nat.reduceBEq, Nat.reduceLT, ↓reduceIte, h3837]
    repeat with_reducible refine And.intro (by first | kernel_rfl | decide) ?_
    obtain rfl := Option.some.inj h3948
    refine cutQ _ ?_ ⟨_, rfl, rfl⟩
    exact Wk_keep [0, 1, 2, 3, 4, 6, 13, 14, 15] (by kernel_rfl)
 ·rintro _ ⟨x3852, rfl, rfl⟩
  refine W_sound tab_ok mixed 5 _ _ _ ?_
  simp -implicitDefEqProofs only [go_sem, Nat.reduceBEq, Nat.reduceLT, Int.reduceLE, Int.reduceToNat, ↓reduceIte, Int.reduceAdd]
  repeat with_reducible refine And.intro (by first | kernel_rfl | decide) ?_
  refine again (Wk_keep (st' := ⟨[], [(0, .sl false 0 0 2 1), (1, .v (.ipt [(.lst false n3833 c3834)])), (2, .ptr 2 0), (3, .ptr 3 0), (4, .ptr 4 0), (6, .v (.int .i64 x3852)), (7, .dead), (8, .dead), (9, .dead), (10, .dead), (11, .dead), (12, .dead), (13, .sl false 0 0 2 1), (14, .v (.int .i64 2)), (15, .v (.int .i64 1)), (16, .dead), (20, .dead), (21, .dead), (22, .dead), (23, .dead), (46, .dead), (50, .dead), (51, .dead), (52, .dead), (53, .dead)], [(0, .r [.sl true 1 n3820 n3821 1, .sl true 1 n3822 n3823 1]), (1, .p c3824), (2, .p [p3825]), (3, .p [(.int .i64 x3826)]), (4, .p [p3827, p3828])], 5, []⟩) [0, 1, 2, 3, 4, 6, 13, 14, 15] (by kernel_rfl)) ?_
  refine W_sound tab_ok mixed 23 _ _ _ ?_
  simp -implicitDefEqProofs only [go_sem, Nat.reduceBEq, Nat.reduceAdd, Nat.reduceLT, Int.reduceLE, Int.reduceLT, Int.reduceToNat, ↓reduceIte]
  repeat with_reducible refine And.intro (by first | kernel_rfl | decide) ?_
  replace h3949 := bnd'_some h3949; obtain ⟨o3950, h3951, h3952⟩ := h3949
  refine Wp_cut (fun s => ∃ x3870, x3870 = o3950 ∧ s = ⟨[], [(0, .sl false 0 0 2 1), (1, .v (.ipt [(.lst false n3833 c3834)])), (2, .ptr 2 0), (3, .ptr 3 0), (4, .ptr 4 0), (6, .v (.int .i64 x3870)), (7, .dead), (8, .dead), (9, .dead), (10, .dead), (11, .dead), (12, .dead), (13, .sl false 0 0 2 1), (14, .v (.int .i64 2)), (15, .v (.int .i64 1)), (16, .dead), (20, .dead), (21, .dead), (22, .dead), (23, .dead), (46, .dead), (50, .dead), (51, .dead), (52, .dead), (53, .dead)], [(0, .r [.sl true 1 n3820 n3821 1, .sl true 1 n3822 n3823 1]), (1, .p c3824), (2, .p [p3825]), (3, .p [(.int .i64 x3826)]), (4, .p [p3827, p3828])], 5, []⟩) ?_ ?_
  ·refine Wp_block ?_
   refine Wp_loopG (fun n s => ∃ x3853, ∃ x3854, m73_2_L1 N n3820 n3821 n3822 n3823 c3824 p3825 x3826 p3827 p3828 n3833 c3834 n x3853 x3854 = some o3950 ∧ s = ⟨[], [(0, .sl false 0 0 2 1), (1, .v (.ipt [(.lst false n3833 c3834)])), (2, .ptr 2 0), (3, .ptr 3 0), (4, .ptr 4 0), (6, .v (.int .i64 x3853)), (7, .v (.int .i64 1)), (8, .dead), (9, .dead), (10, .dead), (11, .dead), (12, .dead), (13, .sl false 0 0 2 1), (14, .v (.int .i64 2)), (15, .v (.int .i64 1)), (16, .dead), (20, .sl true 1 n3822 n3823 1), (21, .v (.int .i64 ((n3823 : Nat) : Int))), (22, .v (.int .i64 x3854)), (23, .dead), (46, .dead), (50, .dead), (51, .dead), (52, .dead), (53, .dead)], [(0, .r [.sl true 1 n3820 n3821 1, .sl true 1 n3822 n3823 1]), (1, .p c3824), (2, .p [p3825]), (3, .p [(.int .i64 x3826)]), (4, .p [p3827, p3828])], 5, []⟩) N _ ?_ ⟨_, _, h3951, rfl⟩ ?_
   ·exact Wk_keep [0, 1, 2, 3, 4, 6, 7, 13, 14, 15, 20, 21, 22] (by kernel_rfl)
   clear h3951
   rintro n _ ⟨x3853, x3854, h3951, rfl⟩
   cases n with
   | zero => cases h3951
   | succ n =>
    rw [m73_2_L1] at h3951
    replace h3951 := brn_some h3951; rcases h3951 with ⟨h3855, h3951⟩ | ⟨h3855, h3951⟩
    ·replace h3951 := grd_some h3951; obtain ⟨⟨g3856, g3857⟩, h3951⟩ := h3951
     replace h3951 := grd_some h3951; obtain ⟨g3858, h3951⟩ := h3951
     replace h3951 := getI_some h3951; obtain ⟨x3860, h3859, h3951⟩ := h3951
     replace h3951 := grd_some h3951; obtain ⟨g3861, h3951⟩ := h3951
     replace h3951 := grd_some h3951; obtain ⟨g3862, h3951⟩ := h3951
     replace h3951 := getL_some h3951; obtain ⟨n3864, c3865, h3863, h3951⟩ := h3951
     replace h3951 := grd_some h3951; obtain ⟨g3866, h3951⟩ := h3951
     replace h3951 := grd_some h3951; obtain ⟨g3867, h3951⟩ := h3951
     replace h3951 := getI_some h3951; obtain ⟨x3869, h3868, h3951⟩ := h3951
     refine W_sound tab_ok mixed 36 _ _ _ ?_
     simp -implicitDefEqProofs only [go_sem, Nat.reduceBEq, Nat.reduceLT, Int.reduceLE, Int.reduceToNat, ↓reduceIte, g3856, g3857, g3858, h3859, g3861, g3862, h3863, g3866, g3867, h3868]
     repeat with_reducible refine And.intro (by first | kernel_rfl | decide) ?_
     (try rw [h3859] at h3951)
     (try rw [h3863] at h3951)
     (try rw [h3868] at h3951)
     refine cutQ _ ?_ ⟨n, Nat.lt_succ_self n, _, _, h3951, rfl⟩
     exact Wk_keep [0, 1, 2, 3, 4, 6, 7, 13, 14, 15, 20, 21, 22] (by kernel_rfl)
    ·refine W_sound tab_ok mixed 7 _ _ _ ?_
     simp -implicitDefEqProofs only [go_sem, Nat.reduceBEq, Nat.reduceLT, ↓reduceIte, h3855]
     repeat with_reducible refine And.intro (by first | kernel_rfl | decide) ?_
     obtain rfl := Option.some.inj h3951
     refine cutQ _ ?_ ⟨_, rfl, rfl⟩
     exact Wk_keep [0, 1, 2, 3, 4, 6, 13, 14, 15] (by kernel_rfl)
  ·rintro _ ⟨x3870, rfl, rfl⟩
   refine W_sound tab_ok mixed 5 _ _ _ ?_
   simp -implicitDefEqProofs only [go_sem, Nat.reduceBEq, Nat.reduceLT, Int.reduceLE, Int.reduceToNat, ↓reduceIte, Int.reduceAdd]
   repeat with_reducible refine And.intro (by first | kernel_rfl | decide) ?_
   refine again (Wk_keep (st' := ⟨[], [(0, .sl false 0 0 2 1), (1, .v (.ipt [(.lst false n3833 c3834)])), (2, .ptr 2 0), (3, .ptr 3 0), (4, .ptr 4 0), (6, .v (.int .i64 x3870)), (7, .dead), (8, .dead), (9, .dead), (10, .dead), (11, .dead), (12, .dead), (13, .sl false 0 0 2 1), (14, .v (.int .i64 2)), (15, .v (.int .i64 2)), (16, .dead), (20, .dead), (21, .dead), (22, .dead), (23, .dead), (46, .dead), (50, .dead), (51, .dead), (52, .dead), (53, .dead)], [(0, .r [.sl true 1 n3820 n3821 1, .sl true 1 n3822 n3823 1]), (1, .p c3824), (2, .p [p3825]), (3, .p [(.int .i64 x3826)]), (4, .p [p3827, p3828])], 5, []⟩) [0, 1, 2, 3, 4, 6, 13, 14, 15] (by kernel_rfl)) ?_
   replace h3952 := getN_some h3952; rcases h3952 with ⟨h3872, h3952⟩ | ⟨n3873, c3874, h3872, h3952⟩
   ·replace h3952 := getL_some h3952; obtain ⟨n3876, c3877, h3875, h3952⟩ := h3952
    replace h3952 := casN_some h3952; rcases h3952 with ⟨rfl, h3952⟩ | ⟨_, h3952⟩
    ·replace h3952 := bnd'_some h3952; obtain ⟨⟨n3880, n3881, c3882⟩, h3879, h3952⟩ := h3952
     (try dsimp only at h3952)
     refine W_sound tab_ok mixed 24 _ _ _ ?_
     simp -implicitDefEqProofs only [go_sem, Nat.reduceBEq, Nat.reduceAdd, Nat.reduceLT, Int.reduceLE, Int.reduceLT, Int.reduceToNat, ↓reduceIte, h3872, h3875]
     repeat with_reducible refine And.intro (by first | kernel_rfl | decide) ?_
     refine Wp_callD [] (c60_a N _ _ _ _ _ h3879) rfl rfl rfl (by first | rfl | (simp only [go_sem, Nat.reduceBEq, Nat.reduceAdd, Nat.reduceSub, Nat.reduceMul, Nat.reduceLT, Nat.reduceLeDiff, Int.reduceLE, Int.reduceLT, Int.reduceToNat, Int.reduceBEq, Int.reduceBNe, ↓reduceIte, Int.reduceAdd, Int.reduceSub, Int.reduceGT, Int.reduceGE, h3832, h3872, h3875] <;> rfl)) rfl (by kernel_rfl) ?_
     refine W_sound tab_ok mixed 9 _ _ _ ?_
     simp -implicitDefEqProofs only [go_sem, Nat.reduceBEq, Nat.reduceAdd, Nat.reduceSub, Nat.reduceMul, Nat.reduceLT, Nat.reduceLeDiff]
     repeat with_reducible refine And.intro (by first | kernel_rfl | decide) ?_
     refine Wp_block ?_
     refine Wp_loopL (WpL_step ?_)
     replace h3952 := grd_some h3952; obtain ⟨g3883, h3952⟩ := h3952
     replace h3952 := grd_some h3952; obtain ⟨g3884, h3952⟩ := h3952
     refine W_sound tab_ok mixed 30 _ _ _ ?_
     simp -implicitDefEqProofs only [go_sem, Nat.reduceBEq, Nat.reduceAdd, Nat.reduceLT, Nat.reduceLeDiff, Int.reduceLE, Int.reduceLT, Int.reduceToNat, ↓reduceIte, Int.reduceAdd, g3883, g3884]
     repeat with_reducible refine And.intro (by first | kernel_rfl | decide) ?_
     refine again (Wk_keep (st' := ⟨[], [(0, .dead), (1, .dead), (2, .ptr 2 0), (3, .dead), (4, .dead), (6, .dead), (7, .dead), (8, .dead), (9, .dead), (10, .dead), (11, .dead), (12, .dead), (13, .dead), (14, .dead), (15, .dead), (16, .dead), (20, .dead), (21, .dead), (22, .dead), (23, .dead), (46, .dead), (50, .sl false 0 0 2 1), (51, .v (.int .i64 2)), (52, .v (.int .i64 1)), (53, .dead)], [(0, .r [.sl true 1 n3820 n3821 1, .sl true 1 n3822 n3823 1]), (1, .p c3824), (2, .r [.sl false 5 0 1 1]), (3, .p [(.int .i64 x3870)]), (4, .p [(.lst false 1 c3877), p3828]), (5, .r [.sl true 6 n3880 n3881 1]), (6, .p (putP c3882 n3880 (List.take (min n3821 n3881) (List.take n3821 (List.drop n3820 c3824)))))], 7, []⟩) [2, 50, 51, 52] (by kernel_rfl)) ?_
     cases h3952
    ·skip
     replace h3952 := casN_some h3952; rcases h3952 with ⟨rfl, h3952⟩ | ⟨_, h3952⟩
     ·replace h3952 := bnd'_some h3952; obtain ⟨⟨n3886, n3887, n3888, n3889, c3890⟩, h3885, h3952⟩ := h3952
      (try dsimp only at h3952)
      refine W_sound tab_ok mixed 24 _ _ _ ?_
      simp -implicitDefEqProofs only [go_sem, Nat.reduceBEq, Nat.reduceAdd, Nat.reduceLT, Int.reduceLE, Int.reduceLT, Int.reduceToNat, ↓reduceIte, h3872, h3875]
      repeat with_reducible refine And.intro (by first | kernel_rfl | decide) ?_
      refine Wp_callD [] (c60_2_a N _ _ _ _ _ _ _ h3885) rfl rfl rfl (by first | rfl | (simp only [go_sem, Nat.reduceBEq, Nat.reduceAdd, Nat.reduceSub, Nat.reduceMul, Nat.reduceLT, Nat.reduceLeDiff, Int.reduceLE, Int.reduceLT, Int.reduceToNat, Int.reduceBEq, Int.reduceBNe, ↓reduceIte, Int.reduceAdd, Int.reduceSub, Int.reduceGT, Int.reduceGE, h3832, h3872, h3875] <;> rfl)) rfl (by kernel_rfl) ?_
      refine W_sound tab_ok mixed 9 _ _ _ ?_
      simp -implicitDefEqProofs only [go_sem, Nat.reduceBEq, Nat.reduceAdd, Nat.reduceSub, Nat.reduceMul, Nat.reduceLT, Nat.reduceLeDiff]
      repeat with_reducible refine And.intro (by first | kernel_rfl | decide) ?_
      refine Wp_block ?_
      refine Wp_loopL (WpL_step ?_)
      replace h3952 := grd_some h3952; obtain ⟨g3891, h3952⟩ := h3952
      replace h3952 := grd_some h3952; obtain ⟨g3892, h3952⟩ := h3952
      refine W_sound tab_ok mixed 30 _ _ _ ?_
      simp -implicitDefEqProofs only [go_sem, Nat.reduceBEq, Nat.reduceAdd, Nat.reduceLT, Nat.reduceLeDiff, Int.reduceLE, Int.reduceLT, Int.reduceToNat, ↓reduceIte, Int.reduceAdd, g3891, g3892]
      repeat with_reducible refine And.intro (by first | kernel_rfl | decide) ?_
      refine again (Wk_keep (st' := ⟨[], [(0, .dead), (1, .dead), (2, .ptr 2 0), (3, .dead), (4, .dead), (6, .dead), (7, .dead), (8, .dead), (9, .dead), (10, .dead), (11, .dead), (12, .dead), (13, .dead), (14, .dead), (15, .dead), (16, .dead), (20, .dead), (21, .dead), (22, .dead), (23, .dead), (46, .dead), (50, .sl false 0 0 2 1), (51, .v (.int .i64 2)), (52, .v (.int .i64 1)), (53, .dead)], [(0, .r [.sl true 1 n3820 n3821 1, .sl true 1 n3822 n3823 1]), (1, .p c3824), (2, .r [.sl false 5 0 2 1]), (3, .p [(.int .i64 x3870)]), (4, .p [(.lst false 2 c3877), p3828]), (5, .r [.sl true 6 n3886 n3887 1, .sl true 6 n3888 n3889 1]), (6, .p (putP c3890 n3886 (List.take (min n3821 n3887) (List.take n3821 (List.drop n3820 c3824)))))], 7, []⟩) [2, 50, 51, 52] (by kernel_rfl)) ?_
      replace h3952 := grd_some h3952; obtain ⟨g3893, h3952⟩ := h3952
      replace h3952 := grd_some h3952; obtain ⟨g3894, h3952⟩ := h3952
      refine W_sound tab_ok mixed 30 _ _ _ ?_
      simp -implicitDefEqProofs only [go_sem, Nat.reduceBEq, Nat.reduceAdd, Nat.reduceLT, Int.reduceLE, Int.reduceLT, Int.reduceToNat, ↓reduceIte, Int.reduceAdd, g3893, g3894]
      repeat with_reducible refine And.intro (by first | kernel_rfl | decide) ?_
      refine again (Wk_keep (st' := ⟨[], [(0, .dead), (1, .dead), (2, .ptr 2 0), (3, .dead), (4, .dead), (6, .dead), (7, .dead), (8, .dead), (9, .dead), (10, .dead), (11, .dead), (12, .dead), (13, .dead), (14, .dead), (15, .dead), (16, .dead), (20, .dead), (21, .dead), (22, .dead), (23, .dead), (46, .dead), (50, .sl false 0 0 2 1), (51, .v (.int .i64 2)), (52, .v (.int .i64 2)), (53, .dead)], [(0, .r [.sl true 1 n3820 n3821 1, .sl true 1 n3822 n3823 1]), (1, .p c3824), (2, .r [.sl false 5 0 2 1]), (3, .p [(.int .i64 x3870)]), (4, .p [(.lst false 2 c3877), p3828]), (5, .r [.sl true 6 n3886 n3887 1, .sl true 6 n3888 n3889 1]), (6, .p (putP (putP c3890 n3886 (List.take (min n3821 n3887) (List.take n3821 (List.drop n3820 c3824)))) n3888 (List.take (min n3823 n3889) (List.take n3823 (List.drop n3822 c3824)))))], 7, []⟩) [2, 50, 51, 52] (by kernel_rfl)) ?_
      refine W_sound tab_ok mixed 8 _ _ _ ?_
      simp -implicitDefEqProofs only [go_sem, Nat.reduceBEq, Nat.reduceLT, Int.reduceLE, Int.reduceLT, Int.reduceToNat, ↓reduceIte]
      repeat with_reducible refine And.intro (by first | kernel_rfl | decide) ?_
      refine FinQ_wk (Wk_freeze 6 (putP (putP c3890 n3886 (List.take (min n3821 n3887) (List.take n3821 (List.drop n3820 c3824)))) n3888 (List.take (min n3823 n3889) (List.take n3823 (List.drop n3822 c3824)))) (by rfl) (by decide) (by decide)) ?_
      simp -implicitDefEqProofs only [go_sem, Nat.reduceBEq]
      refine FinQ_wk (Wk_freeze 5 [(.lst true n3887 (List.take n3887 (List.drop n3886 (putP (putP c3890 n3886 (List.take (min n3821 n3887) (List.take n3821 (List.drop n3820 c3824)))) n3888 (List.take (min n3823 n3889) (List.take n3823 (List.drop n3822 c3824))))))), (.lst true n3889 (List.take n3889 (List.drop n3888 (putP (putP c3890 n3886 (List.take (min n3821 n3887) (List.take n3821 (List.drop n3820 c3824)))) n3888 (List.take (min n3823 n3889) (List.take n3823 (List.drop n3822 c3824)))))))] (by rfl) (by decide) (by decide)) ?_
      simp -implicitDefEqProofs only [go_sem, Nat.reduceBEq, Nat.reduceAdd]
      simp only [Option.some.injEq, Prod.mk.injEq] at h3952; obtain ⟨rfl, rfl, rfl, rfl⟩ := h3952
      exact finD (e2 := [(0, .dead), (1, .dead), (2, .dead), (3, .dead), (4, .dead), (6, .dead), (7, .dead), (8, .dead), (9, .dead), (10, .dead), (11, .dead), (12, .dead), (13, .dead), (14, .dead), (15, .dead), (16, .dead), (20, .dead), (21, .dead), (22, .dead), (23, .dead), (46, .dead), (50, .dead), (51, .dead), (52, .dead), (53, .dead)]) (ob2 := [(0, .r [.sl true 1 n3820 n3821 1, .sl true 1 n3822 n3823 1]), (1, .p c3824), (2, .p [(.lst false 2 [(.lst false n3887 (List.take n3887 (List.drop n3886 (putP (putP c3890 n3886 (List.take (min n3821 n3887) (List.take n3821 (List.drop n3820 c3824)))) n3888 (List.take (min n3823 n3889) (List.take n3823 (List.drop n3822 c3824))))))), (.lst false n3889 (List.take n3889 (List.drop n3888 (putP (putP c3890 n3886 (List.take (min n3821 n3887) (List.take n3821 (List.drop n3820 c3824)))) n3888 (List.take (min n3823 n3889) (List.take n3823 (List.drop n3822 c3824)))))))])]), (3, .p [(.int .i64 x3870)]), (4, .p [(.lst false 2 c3877), p3828])]) (st' := ⟨[], [(0, .dead), (1, .dead), (2, .dead), (3, .dead), (4, .dead), (6, .dead), (7, .dead), (8, .dead), (9, .dead), (10, .dead), (11, .dead), (12, .dead), (13, .dead), (14, .dead), (15, .dead), (16, .dead), (20, .dead), (21, .dead), (22, .dead), (23, .dead), (46, .dead), (50, .dead), (51, .dead), (52, .dead), (53, .dead)], [(0, .r [.sl true 1 n3820 n3821 1, .sl true 1 n3822 n3823 1]), (1, .p c3824), (2, .p [(.lst false 2 [(.lst false n3887 (List.take n3887 (List.drop n3886 (putP (putP c3890 n3886 (List.take (min n3821 n3887) (List.take n3821 (List.drop n3820 c3824)))) n3888 (List.take (min n3823 n3889) (List.take n3823 (List.drop n3822 c3824))))))), (.lst false n3889 (List.take n3889 (List.drop n3888 (putP (putP c3890 n3886 (List.take (min n3821 n3887) (List.take n3821 (List.drop n3820 c3824)))) n3888 (List.take (min n3823 n3889) (List.take n3823 (List.drop n3822 c3824)))))))])]), (3, .p [(.int .i64 x3870)]), (4, .p [(.lst false 2 c3877), p3828])], 5, []⟩) (.cons _ _ _ _ _ (.refl _) (.cons _ _ _ _ _ (.refl _) (.cons _ _ _ _ _ (.dead _) (.cons _ _ _ _ _ (.refl _) (.cons _ _ _ _ _ (.refl _) (.cons _ _ _ _ _ (.refl _) (.cons _ _ _ _ _ (.refl _) (.cons _ _ _ _ _ (.refl _) (.cons _ _ _ _ _ (.refl _) (.cons _ _ _ _ _ (.refl _) (.cons _ _ _ _ _ (.refl _) (.cons _ _ _ _ _ (.refl _) (.cons _ _ _ _ _ (.refl _) (.cons _ _ _ _ _ (.refl _) (.cons _ _ _ _ _ (.refl _) (.cons _ _ _ _ _ (.refl _) (.cons _ _ _ _ _ (.refl _) (.cons _ _ _ _ _ (.refl _) (.cons _ _ _ _ _ (.refl _) (.cons _ _ _ _ _ (.refl _) (.cons _ _ _ _ _ (.refl _) (.cons _ _ _ _ _ (.dead _) (.cons _ _ _ _ _ (.dead _) (.cons _ _ _ _ _ (.dead _) (.cons _ _ _ _ _ (.dead _) .nil))))))))))))))))))))))))) (.cons _ _ _ _ _ (DLes.refl _) (.cons _ _ _ _ _ (DLes.refl _) (.cons _ (.p _) (.p _) _ _ (DLes.of_p (.cons _ _ _ _ (.lst false false _ _ _ (fun h => by first | exact h | cases h) (.cons _ _ _ _ (.lst true false _ _ _ (fun h => by first | exact h | cases h) (PLes.refl _)) (.cons _ _ _ _ (.lst true false _ _ _ (fun h => by first | exact h | cases h) (PLes.refl _)) .nil))) .nil)) (.cons _ _ _ _ _ (DLes.refl _) (.cons _ _ _ _ _ (DLes.refl _) .nil))))) (by kernel_rfl) (by simp only [go_sem, resQ_nil, retD_none]; (try simp [R.val, retD_one, retD_two, retD_three, retD_none]); try assumption)
     ·skip
      replace h3952 := casN_some h3952; rcases h3952 with ⟨rfl, h3952⟩ | ⟨_, h3952⟩
      ·replace h3952 := bnd'_some h3952; obtain ⟨⟨n3896, n3897, n3898, n3899, n3900, n3901, c3902⟩, h3895, h3952⟩ := h3952
       (try dsimp only at h3952)
       refine W_sound tab_ok mixed 24 _ _ _ ?_
       simp -implicitDefEqProofs only [go_sem, Nat.reduceBEq, Nat.reduceAdd, Nat.reduceLT, Int.reduceLE, Int.reduceLT, Int.reduceToNat, ↓reduceIte, h3872, h3875]
       repeat with_reducible refine And.intro (by first | kernel_rfl | decide) ?_
       refine Wp_callD [] (c60_3_a N _ _ _ _ _ _ _ _ _ h3895) rfl rfl rfl (by first | rfl | (simp only [go_sem, Nat.reduceBEq, Nat.reduceAdd, Nat.reduceSub, Nat.reduceMul, Nat.reduceLT, Nat.reduceLeDiff, Int.reduceLE, Int.reduceLT, Int.reduceToNat, Int.reduceBEq, Int.reduceBNe, ↓reduceIte, Int.reduceAdd, Int.reduceSub, Int.reduceGT, Int.reduceGE, h3832, h3872, h3875] <;> rfl)) rfl (by kernel_rfl) ?_
       refine W_sound tab_ok mixed 9 _ _ _ ?_
       simp -implicitDefEqProofs only [go_sem, Nat.reduceBEq, Nat.reduceAdd, Nat.reduceSub, Nat.reduceMul, Nat.reduceLT, Nat.reduceLeDiff]
       repeat with_reducible refine And.intro (by first | kernel_rfl | decide) ?_
       refine Wp_block ?_
       refine Wp_loopL (WpL_step ?_)
       replace h3952 := grd_some h3952; obtain ⟨g3903, h3952⟩ := h3952
       replace h3952 := grd_some h3952; obtain ⟨g3904, h3952⟩ := h3952
       refine W_sound tab_ok mixed 30 _ _ _ ?_
       simp -implicitDefEqProofs only [go_sem, Nat.reduceBEq, Nat.reduceAdd, Nat.reduceLT, Nat.reduceLeDiff, Int.reduceLE, Int.reduceLT, Int.reduceToNat, ↓reduceIte, Int.reduceAdd, g3903, g3904]
       repeat with_reducible refine And.intro (by first | kernel_rfl | decide) ?_
       refine again (Wk_keep (st' := ⟨[], [(0, .dead), (1, .dead), (2, .ptr 2 0), (3, .dead), (4, .dead), (6, .dead), (7, .dead), (8, .dead), (9, .dead), (10, .dead), (11, .dead), (12, .dead), (13, .dead), (14, .dead), (15, .dead), (16, .dead), (20, .dead), (21, .dead), (22, .dead), (23, .dead), (46, .dead), (50, .sl false 0 0 2 1), (51, .v (.int .i64 2)), (52, .v (.int .i64 1)), (53, .dead)], [(0, .r [.sl true 1 n3820 n3821 1, .sl true 1 n3822 n3823 1]), (1, .p c3824), (2, .r [.sl false 5 0 3 1]), (3, .p [(.int .i64 x3870)]), (4, .p [(.lst false 3 c3877), p3828]), (5, .r [.sl true 6 n3896 n3897 1, .sl true 6 n3898 n3899 1, .sl true 6 n3900 n3901 1]), (6, .p (putP c3902 n3896 (List.take (min n3821 n3897) (List.take n3821 (List.drop n3820 c3824)))))], 7, []⟩) [2, 50, 51, 52] (by kernel_rfl)) ?_
       replace h3952 := grd_some h3952; obtain ⟨g3905, h3952⟩ := h3952
       replace h3952 := grd_some h3952; obtain ⟨g3906, h3952⟩ := h3952
       refine W_sound tab_ok mixed 30 _ _ _ ?_
       simp -implicitDefEqProofs only [go_sem, Nat.reduceBEq, Nat.reduceAdd, Nat.reduceLT, Nat.reduceLeDiff, Int.reduceLE, Int.reduceLT, Int.reduceToNat, ↓reduceIte, Int.reduceAdd, g3905, g3906]
       repeat with_reducible refine And.intro (by first | kernel_rfl | decide) ?_
       refine again (Wk_keep (st' := ⟨[], [(0, .dead), (1, .dead), (2, .ptr 2 0), (3, .dead), (4, .dead), (6, .dead), (7, .dead), (8, .dead), (9, .dead), (10, .dead), (11, .dead), (12, .dead), (13, .dead), (14, .dead), (15, .dead), (16, .dead), (20, .dead), (21, .dead), (22, .dead), (23, .dead), (46, .dead), (50, .sl false 0 0 2 1), (51, .v (.int .i64 2)), (52, .v (.int .i64 2)), (53, .dead)], [(0, .r [.sl true 1 n3820 n3821 1, .sl true 1 n3822 n3823 1]), (1, .p c3824), (2, .r [.sl false 5 0 3 1]), (3, .p [(.int .i64 x3870)]), (4, .p [(.lst false 3 c3877), p3828]), (5, .r [.sl true 6 n3896 n3897 1, .sl true 6 n3898 n3899 1, .sl true 6 n3900 n3901 1]), (6, .p (putP (putP c3902 n3896 (List.take (min n3821 n3897) (List.take n3821 (List.drop n3820 c3824)))) n3898 (List.take (min n3823 n3899) (List.take n3823 (List.drop n3822 c3824)))))], 7, []⟩) [2, 50, 51, 52] (by kernel_rfl)) ?_
       refine W_sound tab_ok mixed 8 _ _ _ ?_
       simp -implicitDefEqProofs only [go_sem, Nat.reduceBEq, Nat.reduceLT, Int.reduceLE, Int.reduceLT, Int.reduceToNat, ↓reduceIte]
       repeat with_reducible refine And.intro (by first | kernel_rfl | decide) ?_
       refine FinQ_wk (Wk_freeze 6 (putP (putP c3902 n3896 (List.take (min n3821 n3897) (List.take n3821 (List.drop n3820 c3824)))) n3898 (List.take (min n3823 n3899) (List.take n3823 (List.drop n3822 c3824)))) (by rfl) (by decide) (by decide)) ?_
       simp -implicitDefEqProofs only [go_sem, Nat.reduceBEq]
       refine FinQ_wk (Wk_freeze 5 [(.lst true n3897 (List.take n3897 (List.drop n3896 (putP (putP c3902 n3896 (List.take (min n3821 n3897) (List.take n3821 (List.drop n3820 c3824)))) n3898 (List.take (min n3823 n3899) (List.take n3823 (List.drop n3822 c3824))))))), (.lst true n3899 (List.take n3899 (List.drop n3898 (putP (putP c3902 n3896 (List.take (min n3821 n3897) (List.take n3821 (List.drop n3820 c3824)))) n3898 (List.take (min n3823 n3899) (List.take n3823 (List.drop n3822 c3824))))))), (.lst true n3901 (List.take n3901 (List.drop n3900 (putP (putP c3902 n3896 (List.take (min n3821 n3897) (List.take n3821 (List.drop n3820 c3824)))) n3898 (List.take (min n3823 n3899) (List.take n3823 (List.drop n3822 c3824)))))))] (by rfl) (by decide) (by decide)) ?_
       simp -implicitDefEqProofs only [go_sem, Nat.reduceBEq, Nat.reduceAdd]
       simp only [Option.some.injEq, Prod.mk.injEq] at h3952; obtain ⟨rfl, rfl, rfl, rfl⟩ := h3952
       exact finD (e2 := [(0, .dead), (1, .dead), (2, .dead), (3, .dead), (4, .dead), (6, .dead), (7, .dead), (8, .dead), (9, .dead), (10, .dead), (11, .dead), (12, .dead), (13, .dead), (14, .dead), (15, .dead), (16, .dead), (20, .dead), (21, .dead), (22, .dead), (23, .dead), (46, .dead), (50, .dead), (51, .dead), (52, .dead), (53, .dead)]) (ob2 := [(0, .r [.sl true 1 n3820 n3821 1, .sl true 1 n3822 n3823 1]), (1, .p c3824), (2, .p [(.lst false 3 [(.lst false n3897 (List.take n3897 (List.drop n3896 (putP (putP c3902 n3896 (List.take (min n3821 n3897) (List.take n3821 (List.drop n3820 c3824)))) n3898 (List.take (min n3823 n3899) (List.take n3823 (List.drop n3822 c3824))))))), (.lst false n3899 (List.take n3899 (List.drop n3898 (putP (putP c3902 n3896 (List.take (min n3821 n3897) (List.take n3821 (List.drop n3820 c3824)))) n3898 (List.take (min n3823 n3899) (List.take n3823 (List.drop n3822 c3824))))))), (.lst false n3901 (List.take n3901 (List.drop n3900 (putP (putP c3902 n3896 (List.take (min n3821 n3897) (List.take n3821 (List.drop n3820 c3824)))) n3898 (List.take (min n3823 n3899) (List.take n3823 (List.drop n3822 c3824)))))))])]), (3, .p [(.int .i64 x3870)]), (4, .p [(.lst false 3 c3877), p3828])]) (st' := ⟨[], [(0, .dead), (1, .dead), (2, .dead), (3, .dead), (4, .dead), (6, .dead), (7, .dead), (8, .dead), (9, .dead), (10, .dead), (11, .dead), (12, .dead), (13, .dead), (14, .dead), (15, .dead), (16, .dead), (20, .dead), (21, .dead), (22, .dead), (23, .dead), (46, .dead), (50, .dead), (51, .dead), (52, .dead), (53, .dead)], [(0, .r [.sl true 1 n3820 n3821 1, .sl true 1 n3822 n3823 1]), (1, .p c3824), (2, .p [(.lst false 3 [(.lst false n3897 (List.take n3897 (List.drop n3896 (putP (putP c3902 n3896 (List.take (min n3821 n3897) (List.take n3821 (List.drop n3820 c3824)))) n3898 (List.take (min n3823 n3899) (List.take n3823 (List.drop n3822 c3824))))))), (.lst false n3899 (List.take n3899 (List.drop n3898 (putP (putP c3902 n3896 (List.take (min n3821 n3897) (List.take n3821 (List.drop n3820 c3824)))) n3898 (List.take (min n3823 n3899) (List.take n3823 (List.drop n3822 c3824))))))), (.lst false n3901 (List.take n3901 (List.drop n3900 (putP (putP c3902 n3896 (List.take (min n3821 n3897) (List.take n3821 (List.drop n3820 c3824)))) n3898 (List.take (min n3823 n3899) (List.take n3823 (List.drop n3822 c3824)))))))])]), (3, .p [(.int .i64 x3870)]), (4, .p [(.lst false 3 c3877), p3828])], 5, []⟩) (.cons _ _ _ _ _ (.refl _) (.cons _ _ _ _ _ (.refl _) (.cons _ _ _ _ _ (.dead _) (.cons _ _ _ _ _ (.refl _) (.cons _ _ _ _ _ (.refl _) (.cons _ _ _ _ _ (.refl _) (.cons _ _ _ _ _ (.refl _) (.cons _ _ _ _ _ (.refl _) (.cons _ _ _ _ _ (.refl _) (.cons _ _ _ _ _ (.refl _) (.cons _ _ _ _ _ (.refl _) (.cons _ _ _ _ _ (.refl _) (.cons _ _ _ _ _ (.refl _) (.cons _ _ _ _ _ (.refl _) (.cons _ _ _ _ _ (.refl _) (.cons _ _ _ _ _ (.refl _) (.cons _ _ _ _ _ (.refl _) (.cons _ _ _ _ _ (.refl _) (.cons _ _ _ _ _ (.refl _) (.cons _ _ _ _ _ (.refl _) (.cons _ _ _ _ _ (.refl _) (.cons _ _ _ _ _ (.dead _) (.cons _ _ _ _ _ (.dead _) (.cons _ _ _ _ _ (.dead _) (.cons _ _ _ _ _ (.dead _) .nil))))))))))))))))))))))))) (.cons _ _ _ _ _ (DLes.refl _) (.cons _ _ _ _ _ (DLes.refl _) (.cons _ (.p _) (.p _) _ _ (DLes.of_p (.cons _ _ _ _ (.lst false false _ _ _ (fun h => by first | exact h | cases h) (.cons _ _ _ _ (.lst true false _ _ _ (fun h => by first | exact h | cases h) (PLes.refl _)) (.cons _ _ _ _ (.lst true false _ _ _ (fun h => by first | exact h | cases h) (PLes.refl _)) (.cons _ _ _ _ (.lst true false _ _ _ (fun h => by first | exact h | cases h) (PLes.refl _)) .nil)))) .nil)) (.cons _ _ _ _ _ (DLes.refl _) (.cons _ _ _ _ _ (DLes.refl _) .nil))))) (by kernel_rfl) (by simp only [go_sem, resQ_nil, retD_none]; (try simp [R.val, retD_one, retD_two, retD_three, retD_none]); try assumption)
      ·skip
       cases h3952
   ·replace h3952 := grd_some h3952; obtain ⟨g3907, h3952⟩ := h3952
    replace h3952 := brn_some h3952; rcases h3952 with ⟨h3908, h3952⟩ | ⟨h3908, h3952⟩
    ·refine W_sound tab_ok mixed 21 _ _ _ ?_
     simp -implicitDefEqProofs only [go_sem, Nat.reduceBEq, Nat.reduceLT, Int.reduceLE, Int.reduceLT, Int.reduceToNat, ↓reduceIte, h3872, g3907, h3908]
     repeat with_reducible refine And.intro (by first | kernel_rfl | decide) ?_
     simp only [Option.some.injEq, Prod.mk.injEq] at h3952; obtain ⟨rfl, rfl, rfl, rfl⟩ := h3952
     exact finD (st' := ⟨[], [(0, .dead), (1, .dead), (2, .dead), (3, .dead), (4, .dead), (6, .dead), (7, .dead), (8, .dead), (9, .dead), (10, .dead), (11, .dead), (12, .dead), (13, .dead), (14, .dead), (15, .dead), (16, .dead), (20, .dead), (21, .dead), (22, .dead), (23, .dead), (46, .dead), (50, .dead), (51, .dead), (52, .dead), (53, .dead)], [(0, .r [.sl true 1 n3820 n3821 1, .sl true 1 n3822 n3823 1]), (1, .p c3824), (2, .p [(.lst false n3873 c3874)]), (3, .p [(.int .i64 x3826)]), (4, .p [p3827, p3828])], 5, []⟩) (keepE_le [] _) (OLe.refl _) (by kernel_rfl) (by simp only [go_sem, resQ_nil, retD_none]; (try simp [R.val, retD_one, retD_two, retD_three, retD_none]); try assumption)
    ·replace h3952 := getL_some h3952; obtain ⟨n3910, c3911, h3909, h3952⟩ := h3952
     replace h3952 := casN_some h3952; rcases h3952 with ⟨rfl, h3952⟩ | ⟨_, h3952⟩
     ·replace h3952 := bnd'_some h3952; obtain ⟨⟨n3914, n3915, c3916⟩, h3913, h3952⟩ := h3952
      (try dsimp only at h3952)
      refine W_sound tab_ok mixed 24 _ _ _ ?_
      simp -implicitDefEqProofs only [go_sem, Nat.reduceBEq, Nat.reduceAdd, Nat.reduceLT, Int.reduceLE, Int.reduceLT, Int.reduceToNat, ↓reduceIte, h3872, g3907, h3908, h3909]
      repeat with_reducible refine And.intro (by first | kernel_rfl | decide) ?_
      refine Wp_callD [] (c60_a N _ _ _ _ _ h3913) rfl rfl rfl (by first | rfl | (simp only [go_sem, Nat.reduceBEq, Nat.reduceAdd, Nat.reduceSub, Nat.reduceMul, Nat.reduceLT, Nat.reduceLeDiff, Int.reduceLE, Int.reduceLT, Int.reduceToNat, Int.reduceBEq, Int.reduceBNe, ↓reduceIte, Int.reduceAdd, Int.reduceSub, Int.reduceGT, Int.reduceGE, h3832, h3872, g3907, h3908, h3909] <;> rfl)) rfl (by kernel_rfl) ?_
      refine W_sound tab_ok mixed 9 _ _ _ ?_
      simp -implicitDefEqProofs only [go_sem, Nat.reduceBEq, Nat.reduceAdd, Nat.reduceSub, Nat.reduceMul, Nat.reduceLT, Nat.reduceLeDiff]
      repeat with_reducible refine And.intro (by first | kernel_rfl | decide) ?_
      refine Wp_block ?_
      refine Wp_loopL (WpL_step ?_)
      replace h3952 := grd_some h3952; obtain ⟨g3917, h3952⟩ := h3952
      replace h3952 := grd_some h3952; obtain ⟨g3918, h3952⟩ := h3952
      refine W_sound tab_ok mixed 30 _ _ _ ?_
      simp -implicitDefEqProofs only [go_sem, Nat.reduceBEq, Nat.reduceAdd, Nat.reduceLT, Nat.reduceLeDiff, Int.reduceLE, Int.reduceLT, Int.reduceToNat, ↓reduceIte, Int.reduceAdd, g3917, g3918]
      repeat with_reducible refine And.intro (by first | kernel_rfl | decide) ?_
      refine again (Wk_keep (st' := ⟨[], [(0, .dead), (1, .dead), (2, .ptr 2 0), (3, .dead), (4, .dead), (6, .dead), (7, .dead), (8, .dead), (9, .dead), (10, .dead), (11, .dead), (12, .dead), (13, .dead), (14, .dead), (15, .dead), (16, .dead), (20, .dead), (21, .dead), (22, .dead), (23, .dead), (46, .dead), (50, .sl false 0 0 2 1), (51, .v (.int .i64 2)), (52, .v (.int .i64 1)), (53, .dead)], [(0, .r [.sl true 1 n3820 n3821 1, .sl true 1 n3822 n3823 1]), (1, .p c3824), (2, .r [.sl false 5 0 1 1]), (3, .p [(.int .i64 x3870)]), (4, .p [(.lst false 1 c3911), p3828]), (5, .r [.sl true 6 n3914 n3915 1]), (6, .p (putP c3916 n3914 (List.take (min n3821 n3915) (List.take n3821 (List.drop n3820 c3824)))))], 7, []⟩) [2, 50, 51, 52] (by kernel_rfl)) ?_
      cases h3952
     ·skip
      replace h3952 := casN_some h3952; rcases h3952 with ⟨rfl, h3952⟩ | ⟨_, h3952⟩
      ·replace h3952 := bnd'_some h3952; obtain ⟨⟨n3920, n3921, n3922, n3923, c3924⟩, h3919, h3952⟩ := h3952
       (try dsimp only at h3952)
       refine W_sound tab_ok mixed 24 _ _ _ ?_
       simp -implicitDefEqProofs only [go_sem, Nat.reduceBEq, Nat.reduceAdd, Nat.reduceLT, Int.reduceLE, Int.reduceLT, Int.reduceToNat, ↓reduceIte, h3872, g3907, h3908, h3909]
       repeat with_reducible refine And.intro (by first | kernel_rfl | decide) ?_
       refine Wp_callD [] (c60_2_a N _ _ _ _ _ _ _ h3919) rfl rfl rfl (by first | rfl | (simp only [go_sem, Nat.reduceBEq, Nat.reduceAdd, Nat.reduceSub, Nat.reduceMul, Nat.reduceLT, Nat.reduceLeDiff, Int.reduceLE, Int.reduceLT, Int.reduceToNat, Int.reduceBEq, Int.reduceBNe, ↓reduceIte, Int.reduceAdd, Int.reduceSub, Int.reduceGT, Int.reduceGE, h3832, h3872, g3907, h3908, h3909] <;> rfl)) rfl (by kernel_rfl) ?_
       refine W_sound tab_ok mixed 9 _ _ _ ?_
       simp -implicitDefEqProofs only [go_sem, Nat.reduceBEq, Nat.reduceAdd, Nat.reduceSub, Nat.reduceMul, Nat.reduceLT, Nat.reduceLeDiff]
       repeat with_reducible refine And.intro (by first | kernel_rfl | decide) ?_
       refine Wp_block ?_
       refine Wp_loopL (WpL_step ?_)
       replace h3952 := grd_some h3952; obtain ⟨g3925, h3952⟩ := h3952
       replace h3952 := grd_some h3952; obtain ⟨g3926, h3952⟩ := h3952
       refine W_sound tab_ok mixed 30 _ _ _ ?_
       simp -implicitDefEqProofs only [go_sem, Nat.reduceBEq, Nat.reduceAdd, Nat.reduceLT, Nat.reduceLeDiff, Int.reduceLE, Int.reduceLT, Int.reduceToNat, ↓reduceIte, Int.reduceAdd, g3925, g3926]
       repeat with_reducible refine And.intro (by first | kernel_rfl | decide) ?_
       refine again (Wk_keep (st' := ⟨[], [(0, .dead), (1, .dead), (2, .ptr 2 0), (3, .dead), (4, .dead), (6, .dead), (7, .dead), (8, .dead), (9, .dead), (10, .dead), (11, .dead), (12, .dead), (13, .dead), (14, .dead), (15, .dead), (16, .dead), (20, .dead), (21, .dead), (22, .dead), (23, .dead), (46, .dead), (50, .sl false 0 0 2 1), (51, .v (.int .i64 2)), (52, .v (.int .i64 1)), (53, .dead)], [(0, .r [.sl true 1 n3820 n3821 1, .sl true 1 n3822 n3823 1]), (1, .p c3824), (2, .r [.sl false 5 0 2 1]), (3, .p [(.int .i64 x3870)]), (4, .p [(.lst false 2 c3911), p3828]), (5, .r [.sl true 6 n3920 n3921 1, .sl true 6 n3922 n3923 1]), (6, .p (putP c3924 n3920 (List.take (min n3821 n3921) (List.take n3821 (List.drop n3820 c3824)))))], 7, []⟩) [2, 50, 51, 52] (by kernel_rfl)) ?_
       replace h3952 := grd_some h3952; obtain ⟨g3927, h3952⟩ := h3952
       replace h3952 := grd_some h3952; obtain ⟨g3928, h3952⟩ := h3952
       refine W_sound tab_ok mixed 30 _ _ _ ?_
       simp -implicitDefEqProofs only [go_sem, Nat.reduceBEq, Nat.reduceAdd, Nat.reduceLT, Int.reduceLE, Int.reduceLT, Int.reduceToNat, ↓reduceIte, Int.reduceAdd, g3927, g3928]
       repeat with_reducible refine And.intro (by first | kernel_rfl | decide) ?_
       refine again (Wk_keep (st' := ⟨[], [(0, .dead), (1, .dead), (2, .ptr 2 0), (3, .dead), (4, .dead), (6, .dead), (7, .dead), (8, .dead), (9, .dead), (10, .dead), (11, .dead), (12, .dead), (13, .dead), (14, .dead), (15, .dead), (16, .dead), (20, .dead), (21, .dead), (22, .dead), (23, .dead), (46, .dead), (50, .sl false 0 0 2 1), (51, .v (.int .i64 2)), (52, .v (.int .i64 2)), (53, .dead)], [(0, .r [.sl true 1 n3820 n3821 1, .sl true 1 n3822 n3823 1]), (1, .p c3824), (2, .r [.sl false 5 0 2 1]), (3, .p [(.int .i64 x3870)]), (4, .p [(.lst false 2 c3911), p3828]), (5, .r [.sl true 6 n3920 n3921 1, .sl true 6 n3922 n3923 1]), (6, .p (putP (putP c3924 n3920 (List.take (min n3821 n3921) (List.take n3821 (List.drop n3820 c3824)))) n3922 (List.take (min n3823 n3923) (List.take n3823 (List.drop n3822 c3824)))))], 7, []⟩) [2, 50, 51, 52] (by kernel_rfl)) ?_
       refine W_sound tab_ok mixed 8 _ _ _ ?_
       simp -implicitDefEqProofs only [go_sem, Nat.reduceBEq, Nat.reduceLT, Int.reduceLE, Int.reduceLT, Int.reduceToNat, ↓reduceIte]
       repeat with_reducible refine And.intro (by first | kernel_rfl | decide) ?_
       refine FinQ_wk (Wk_freeze 6 (putP (putP c3924 n3920 (List.take (min n3821 n3921) (List.take n3821 (List.drop n3820 c3824)))) n3922 (List.take (min n3823 n3923) (List.take n3823 (List.drop n3822 c3824)))) (by rfl) (by decide) (by decide)) ?_
       simp -implicitDefEqProofs only [go_sem, Nat.reduceBEq]
       refine FinQ_wk (Wk_freeze 5 [(.lst true n3921 (List.take n3921 (List.drop n3920 (putP (putP c3924 n3920 (List.take (min n3821 n3921) (List.take n3821 (List.drop n3820 c3824)))) n3922 (List.take (min n3823 n3923) (List.take n3823 (List.drop n3822 c3824))))))), (.lst true n3923 (List.take n3923 (List.drop n3922 (putP (putP c3924 n3920 (List.take (min n3821 n3921) (List.take n3821 (List.drop n3820 c3824)))) n3922 (List.take (min n3823 n3923) (List.take n3823 (List.drop n3822 c3824)))))))] (by rfl) (by decide) (by decide)) ?_
       simp -implicitDefEqProofs only [go_sem, Nat.reduceBEq, Nat.reduceAdd]
       simp only [Option.some.injEq, Prod.mk.injEq] at h3952; obtain ⟨rfl, rfl, rfl, rfl⟩ := h3952
       exact finD (e2 := [(0, .dead), (1, .dead), (2, .dead), (3, .dead), (4, .dead), (6, .dead), (7, .dead), (8, .dead), (9, .dead), (10, .dead), (11, .dead), (12, .dead), (13, .dead), (14, .dead), (15, .dead), (16, .dead), (20, .dead), (21, .dead), (22, .dead), (23, .dead), (46, .dead), (50, .dead), (51, .dead), (52, .dead), (53, .dead)]) (ob2 := [(0, .r [.sl true 1 n3820 n3821 1, .sl true 1 n3822 n3823 1]), (1, .p c3824), (2, .p [(.lst false 2 [(.lst false n3921 (List.take n3921 (List.drop n3920 (putP (putP c3924 n3920 (List.take (min n3821 n3921) (List.take n3821 (List.drop n3820 c3824)))) n3922 (List.take (min n3823 n3923) (List.take n3823 (List.drop n3822 c3824))))))), (.lst false n3923 (List.take n3923 (List.drop n3922 (putP (putP c3924 n3920 (List.take (min n3821 n3921) (List.take n3821 (List.drop n3820 c3824)))) n3922 (List.take (min n3823 n3923) (List.take n3823 (List.drop n3822 c3824)))))))])]), (3, .p [(.int .i64 x3870)]), (4, .p [(.lst false 2 c3911), p3828])]) (st' := ⟨[], [(0, .dead), (1, .dead), (2, .dead), (3, .dead), (4, .dead), (6, .dead), (7, .dead), (8, .dead), (9, .dead), (10, .dead), (11, .dead), (12, .dead), (13, .dead), (14, .dead), (15, .dead), (16, .dead), (20, .dead), (21, .dead), (22, .dead), (23, .dead), (46, .dead), (50, .dead), (51, .dead), (52, .dead), (53, .dead)], [(0, .r [.sl true 1 n3820 n3821 1, .sl true 1 n3822 n3823 1]), (1, .p c3824), (2, .p [(.lst false 2 [(.lst false n3921 (List.take n3921 (List.drop n3920 (putP (putP c3924 n3920 (List.take (min n3821 n3921) (List.take n3821 (List.drop n3820 c3824)))) n3922 (List.take (min n3823 n3923) (List.take n3823 (List.drop n3822 c3824))))))), (.lst false n3923 (List.take n3923 (List.drop n3922 (putP (putP c3924 n3920 (List.take (min n3821 n3921) (List.take n3821 (List.drop n3820 c3824)))) n3922 (List.take (min n3823 n3923) (List.take n3823 (List.drop n3822 c3824)))))))])]), (3, .p [(.int .i64 x3870)]), (4, .p [(.lst false 2 c3911), p3828])], 5, []⟩) (.cons _ _ _ _ _ (.refl _) (.cons _ _ _ _ _ (.refl _) (.cons _ _ _ _ _ (.dead _) (.cons _ _ _ _ _ (.refl _) (.cons _ _ _ _ _ (.refl _) (.cons _ _ _ _ _ (.refl _) (.cons _ _ _ _ _ (.refl _) (.cons _ _ _ _ _ (.refl _) (.cons _ _ _ _ _ (.refl _) (.cons _ _ _ _ _ (.refl _) (.cons _ _ _ _ _ (.refl _) (.cons _ _ _ _ _ (.refl _) (.cons _ _ _ _ _ (.refl _) (.cons _ _ _ _ _ (.refl _) (.cons _ _ _ _ _ (.refl _) (.cons _ _ _ _ _ (.refl _) (.cons _ _ _ _ _ (.refl _) (.cons _ _ _ _ _ (.refl _) (.cons _ _ _ _ _ (.refl _) (.cons _ _ _ _ _ (.refl _) (.cons _ _ _ _ _ (.refl _) (.cons _ _ _ _ _ (.dead _) (.cons _ _ _ _ _ (.dead _) (.cons _ _ _ _ _ (.dead _) (.cons _ _ _ _ _ (.dead _) .nil))))))))))))))))))))))))) (.cons _ _ _ _ _ (DLes.refl _) (.cons _ _ _ _ _ (DLes.refl _) (.cons _ (.p _) (.p _) _ _ (DLes.of_p (.cons _ _ _ _ (.lst false false _ _ _ (fun h => by first | exact h | cases h) (.cons _ _ _ _ (.lst true false _ _ _ (fun h => by first | exact h | cases h) (PLes.refl _)) (.cons _ _ _ _ (.lst true false _ _ _ (fun h => by first | exact h | cases h) (PLes.refl _)) .nil))) .nil)) (.cons _ _ _ _ _ (DLes.refl _) (.cons _ _ _ _ _ (DLes.refl _) .nil))))) (by kernel_rfl) (by simp only [go_sem, resQ_nil, retD_none]; (try simp [R.val, retD_one, retD_two, retD_three, retD_none]); try assumption)
      ·skip
       replace h3952 := casN_some h3952; rcases h3952 with ⟨rfl, h3952⟩ | ⟨_, h3952⟩
       ·replace h3952 := bnd'_some h3952; obtain ⟨⟨n3930, n3931, n3932, n3933, n3934, n3935, c3936⟩, h3929, h3952⟩ := h3952
        (try dsimp only at h3952)
        refine W_sound tab_ok mixed 24 _ _ _ ?_
        simp -implicitDefEqProofs only [go_sem, Nat.reduceBEq, Nat.reduceAdd, Nat.reduceLT, Int.reduceLE, Int.reduceLT, Int.reduceToNat, ↓reduceIte, h3872, g3907, h3908, h3909]
        repeat with_reducible refine And.intro (by first | kernel_rfl | decide) ?_
        refine Wp_callD [] (c60_3_a N _ _ _ _ _ _ _ _ _ h3929) rfl rfl rfl (by first | rfl | (simp only [go_sem, Nat.reduceBEq, Nat.reduceAdd, Nat.reduceSub, Nat.reduceMul, Nat.reduceLT, Nat.reduceLeDiff, Int.reduceLE, Int.reduceLT, Int.reduceToNat, Int.reduceBEq, Int.reduceBNe, ↓reduceIte, Int.reduceAdd, Int.reduceSub, Int.reduceGT, Int.reduceGE, h3832, h3872, g3907, h3908, h3909] <;> rfl)) rfl (by kernel_rfl) ?_
        refine W_sound tab_ok mixed 9 _ _ _ ?_
        simp -implicitDefEqProofs only [go_sem, Nat.reduceBEq, Nat.reduceAdd, Nat.reduceSub, Nat.reduceMul, Nat.reduceLT, Nat.reduceLeDiff]
        repeat with_reducible refine And.intro (by first | kernel_rfl | decide) ?_
        refine Wp_block ?_
        refine Wp_loopL (WpL_step ?_)
        replace h3952 := grd_some h3952; obtain ⟨g3937, h3952⟩ := h3952
        replace h3952 := grd_some h3952; obtain ⟨g3938, h3952⟩ := h3952
        refine W_sound tab_ok mixed 30 _ _ _ ?_
        simp -implicitDefEqProofs only [go_sem, Nat.reduceBEq, Nat.reduceAdd, Nat.reduceLT, Nat.reduceLeDiff, Int.reduceLE, Int.reduceLT, Int.reduceToNat, ↓reduceIte, Int.reduceAdd, g3937, g3938]
        repeat with_reducible refine And.intro (by first | kernel_rfl | decide) ?_
        refine again (Wk_keep (st' := ⟨[], [(0, .dead), (1, .dead), (2, .ptr 2 0), (3, .dead), (4, .dead), (6, .dead), (7, .dead), (8, .dead), (9, .dead), (10, .dead), (11, .dead), (12, .dead), (13, .dead), (14, .dead), (15, .dead), (16, .dead), (20, .dead), (21, .dead), (22, .dead), (23, .dead), (46, .dead), (50, .sl false 0 0 2 1), (51, .v (.int .i64 2)), (52, .v (.int .i64 1)), (53, .dead)], [(0, .r [.sl true 1 n3820 n3821 1, .sl true 1 n3822 n3823 1]), (1, .p c3824), (2, .r [.sl false 5 0 3 1]), (3, .p [(.int .i64 x3870)]), (4, .p [(.lst false 3 c3911), p3828]), (5, .r [.sl true 6 n3930 n3931 1, .sl true 6 n3932 n3933 1, .sl true 6 n3934 n3935 1]), (6, .p (putP c3936 n3930 (List.take (min n3821 n3931) (List.take n3821 (List.drop n3820 c3824)))))], 7, []⟩) [2, 50, 51, 52] (by kernel_rfl)) ?_
        replace h3952 := grd_some h3952; obtain ⟨g3939, h3952⟩ := h3952
        replace h3952 := grd_some h3952; obtain ⟨g3940, h3952⟩ := h3952
        refine W_sound tab_ok mixed 30 _ _ _ ?_
        simp -implicitDefEqProofs only [go_sem, Nat.reduceBEq, Nat.reduceAdd, Nat.reduceLT, Nat.reduceLeDiff, Int.reduceLE, Int.reduceLT, Int.reduceToNat, ↓reduceIte, Int.reduceAdd, g3939, g3940]
        repeat with_reducible refine And.intro (by first | kernel_rfl | decide) ?_
        refine again (Wk_keep (st' := ⟨[], [(0, .dead), (1, .dead), (2, .ptr 2 0), (3, .dead), (4, .dead), (6, .dead), (7, .dead), (8, .dead), (9, .dead), (10, .dead), (11, .dead), (12, .dead), (13, .dead), (14, .dead), (15, .dead), (16, .dead), (20, .dead), (21, .dead), (22, .dead), (23, .dead), (46, .dead), (50, .sl false 0 0 2 1), (51, .v (.int .i64 2)), (52, .v (.int .i64 2)), (53, .dead)], [(0, .r [.sl true 1 n3820 n3821 1, .sl true 1 n3822 n3823 1]), (1, .p c3824), (2, .r [.sl false 5 0 3 1]), (3, .p [(.int .i64 x3870)]), (4, .p [(.lst false 3 c3911), p3828]), (5, .r [.sl true 6 n3930 n3931 1, .sl true 6 n3932 n3933 1, .sl true 6 n3934 n3935 1]), (6, .p (putP (putP c3936 n3930 (List.take (min n3821 n3931) (List.take n3821 (List.drop n3820 c3824)))) n3932 (List.take (min n3823 n3933) (List.take n3823 (List.drop n3822 c3824)))))], 7, []⟩) [2, 50, 51, 52] (by kernel_rfl)) ?_
        refine W_sound tab_ok mixed 8 _ _ _ ?_
        simp -implicitDefEqProofs only [go_sem, Nat.reduceBEq, Nat.reduceLT, Int.reduceLE, Int.reduceLT, Int.reduceToNat, ↓reduceIte]
        repeat with_reducible refine And.intro (by first | kernel_rfl | decide) ?_
        refine FinQ_wk (Wk_freeze 6 (putP (putP c3936 n3930 (List.take (min n3821 n3931) (List.take n3821 (List.drop n3820 c3824)))) n3932 (List.take (min n3823 n3933) (List.take n3823 (List.drop n3822 c3824)))) (by rfl) (by decide) (by decide)) ?_
        simp -implicitDefEqProofs only [go_sem, Nat.reduceBEq]
        refine FinQ_wk (Wk_freeze 5 [(.lst true n3931 (List.take n3931 (List.drop n3930 (putP (putP c3936 n3930 (List.take (min n3821 n3931) (List.take n3821 (List.drop n3820 c3824)))) n3932 (List.take (min n3823 n3933) (List.take n3823 (List.drop n3822 c3824))))))), (.lst true n3933 (List.take n3933 (List.drop n3932 (putP (putP c3936 n3930 (List.take (min n3821 n3931) (List.take n3821 (List.drop n3820 c3824)))) n3932 (List.take (min n3823 n3933) (List.take n3823 (List.drop n3822 c3824))))))), (.lst true n3935 (List.take n3935 (List.drop n3934 (putP (putP c3936 n3930 (List.take (min n3821 n3931) (List.take n3821 (List.drop n3820 c3824)))) n3932 (List.take (min n3823 n3933) (List.take n3823 (List.drop n3822 c3824)))))))] (by rfl) (by decide) (by decide)) ?_
        simp -implicitDefEqProofs only [go_sem, Nat.reduceBEq, Nat.reduceAdd]
        simp only [Option.some.injEq, Prod.mk.injEq] at h3952; obtain ⟨rfl, rfl, rfl, rfl⟩ := h3952
        exact finD (e2 := [(0, .dead), (1, .dead), (2, .dead), (3, .dead), (4, .dead), (6, .dead), (7, .dead), (8, .dead), (9, .dead), (10, .dead), (11, .dead), (12, .dead), (13, .dead), (14, .dead), (15, .dead), (16, .dead), (20, .dead), (21, .dead), (22, .dead), (23, .dead), (46, .dead), (50, .dead), (51, .dead), (52, .dead), (53, .dead)]) (ob2 := [(0, .r [.sl true 1 n3820 n3821 1, .sl true 1 n3822 n3823 1]), (1, .p c3824), (2, .p [(.lst false 3 [(.lst false n3931 (List.take n3931 (List.drop n3930 (putP (putP c3936 n3930 (List.take (min n3821 n3931) (List.take n3821 (List.drop n3820 c3824)))) n3932 (List.take (min n3823 n3933) (List.take n3823 (List.drop n3822 c3824))))))), (.lst false n3933 (List.take n3933 (List.drop n3932 (putP (putP c3936 n3930 (List.take (min n3821 n3931) (List.take n3821 (List.drop n3820 c3824)))) n3932 (List.take (min n3823 n3933) (List.take n3823 (List.drop n3822 c3824))))))), (.lst false n3935 (List.take n3935 (List.drop n3934 (putP (putP c3936 n3930 (List.take (min n3821 n3931) (List.take n3821 (List.drop n3820 c3824)))) n3932 (List.take (min n3823 n3933) (List.take n3823 (List.drop n3822 c3824)))))))])]), (3, .p [(.int .i64 x3870)]), (4, .p [(.lst false 3 c3911), p3828])]) (st' := ⟨[], [(0, .dead), (1, .dead), (2, .dead), (3, .dead), (4, .dead), (6, .dead), (7, .dead), (8, .dead), (9, .dead), (10, .dead), (11, .dead), (12, .dead), (13, .dead), (14, .dead), (15, .dead), (16, .dead), (20, .dead), (21, .dead), (22, .dead), (23, .dead), (46, .dead), (50, .dead), (51, .dead), (52, .dead), (53, .dead)], [(0, .r [.sl true 1 n3820 n3821 1, .sl true 1 n3822 n3823 1]), (1, .p c3824), (2, .p [(.lst false 3 [(.lst false n3931 (List.take n3931 (List.drop n3930 (putP (putP c3936 n3930 (List.take (min n3821 n3931) (List.take n3821 (List.drop n3820 c3824)))) n3932 (List.take (min n3823 n3933) (List.take n3823 (List.drop n3822 c3824))))))), (.lst false n3933 (List.take n3933 (List.drop n3932 (putP (putP c3936 n3930 (List.take (min n3821 n3931) (List.take n3821 (List.drop n3820 c3824)))) n3932 (List.take (min n3823 n3933) (List.take n3823 (List.drop n3822 c3824))))))), (.lst false n3935 (List.take n3935 (List.drop n3934 (putP (putP c3936 n3930 (List.take (min n3821 n3931) (List.take n3821 (List.drop n3820 c3824)))) n3932 (List.take (min n3823 n3933) (List.take n3823 (List.drop n3822 c3824)))))))])]), (3, .p [(.int .i64 x3870)]), (4, .p [(.lst false 3 c3911), p3828])], 5, []⟩) (.cons _ _ _ _ _ (.refl _) (.cons _ _ _ _ _ (.refl _) (.cons _ _ _ _ _ (.dead _) (.cons _ _ _ _ _ (.refl _) (.cons _ _ _ _ _ (.refl _) (.cons _ _ _ _ _ (.refl _) (.cons _ _ _ _ _ (.refl _) (.cons _ _ _ _ _ (.refl _) (.cons _ _ _ _ _ (.refl _) (.cons _ _ _ _ _ (.refl _) (.cons _ _ _ _ _ (.refl _) (.cons _ _ _ _ _ (.refl _) (.cons _ _ _ _ _ (.refl _) (.cons _ _ _ _ _ (.refl _) (.cons _ _ _ _ _ (.refl _) (.cons _ _ _ _ _ (.refl _) (.cons _ _ _ _ _ (.refl _) (.cons _ _ _ _ _ (.refl _) (.cons _ _ _ _ _ (.refl _) (.cons _ _ _ _ _ (.refl _) (.cons _ _ _ _ _ (.refl _) (.cons _ _ _ _ _ (.dead _) (.cons _ _ _ _ _ (.dead _) (.cons _ _ _ _ _ (.dead _) (.cons _ _ _ _ _ (.dead _) .nil))))))))))))))))))))))))) (.cons _ _ _ _ _ (DLes.refl _) (.cons _ _ _ _ _ (DLes.refl _) (.cons _ (.p _) (.p _) _ _ (DLes.of_p (.cons _ _ _ _ (.lst false false _ _ _ (fun h => by first | exact h | cases h) (.cons _ _ _ _ (.lst true false _ _ _ (fun h => by first | exact h | cases h) (PLes.refl _)) (.cons _ _ _ _ (.lst true false _ _ _ (fun h => by first | exact h | cases h) (PLes.refl _)) (.cons _ _ _ _ (.lst true false _ _ _ (fun h => by first | exact h | cases h) (PLes.refl _)) .nil)))) .nil)) (.cons _ _ _ _ _ (DLes.refl _) (.cons _ _ _ _ _ (DLes.refl _) .nil))))) (by kernel_rfl) (by simp only [go_sem, resQ_nil, retD_none]; (try simp [R.val, retD_one, retD_two, retD_three, retD_none]); try assumption)
       ·skip
        cases h3952
noncomputable def m73_3_L0 (N : Nat) (n4473 : Nat) (n4474 : Nat) (n4475 : Nat) (n4476 : Nat) (n4477 : Nat) (n4478 : Nat) (c4479 : List PV) (p4480 : PV) (x4481 : Int) (p4482 : PV) (p4483 : PV) (n4488 : Nat) (c4489 : List PV) : Nat → Int → Int → Option (Int)
 | 0, _, _ => none
 | n + 1, x4490, x4491 =>
  brn (decide (x4491 < ((n4474 : Nat) : Int))) (
   grd (0 ≤ x4491 ∧ x4491 < ((n4474 : Nat) : Int)) <|
   grd ((n4473 + (Int.toNat x4491)) < List.length c4479) <|
   getI .i64 (gp c4479 (n4473 + (Int.toNat x4491))) fun x4497 =>
   grd (0 < ((n4488 : Nat) : Int)) <|
   grd (0 < List.length c4489) <|
   getL (gp c4489 0) fun n4501 c4502 =>
   grd (x4491 < ((n4501 : Nat) : Int)) <|
   grd (0 < List.length (List.drop (Int.toNat x4491) c4502)) <|
   getI .i64 (gp c4502 (Int.toNat x4491)) fun x4506 =>
   m73_3_L0 N n4473 n4474 n4475 n4476 n4477 n4478 c4479 p4480 x4481 p4482 p4483 n4488 c4489 n (IntKind.i64.wrap (x4490 + (IntKind.i64.wrap (x4497 * x4506)))) (IntKind.i64.wrap (x4491 + 1))) (
   some x4490)
noncomputable def m73_3_L1 (N : Nat) (n4473 : Nat) (n4474 : Nat) (n4475 : Nat) (n4476 : Nat) (n4477 : Nat) (n4478 : Nat) (c4479 : List PV) (p4480 : PV) (x4481 : Int) (p4482 : PV) (p4483 : PV) (n4488 : Nat) (c4489 : List PV) : Nat → Int → Int → Option (Int)
 | 0, _, _ => none
 | n + 1, x4508, x4509 =>
  brn (decide (x4509 < ((n4476 : Nat) : Int))) (
   grd (0 ≤ x4509 ∧ x4509 < ((n4476 : Nat) : Int)) <|
   grd ((n4475 + (Int.toNat x4509)) < List.length c4479) <|
   getI .i64 (gp c4479 (n4475 + (Int.toNat x4509))) fun x4515 =>
   grd (1 < ((n4488 : Nat) : Int)) <|
   grd (0 < List.length (List.drop 1 c4489)) <|
   getL (gp c4489 1) fun n4519 c4520 =>
   grd (x4509 < ((n4519 : Nat) : Int)) <|
   grd (0 < List.length (List.drop (Int.toNat x4509) c4520)) <|
   getI .i64 (gp c4520 (Int.toNat x4509)) fun x4524 =>
   m73_3_L1 N n4473 n4474 n4475 n4476 n4477 n4478 c4479 p4480 x4481 p4482 p4483 n4488 c4489 n (IntKind.i64.wrap (x4508 + (IntKind.i64.wrap (x4515 * x4524)))) (IntKind.i64.wrap (x4509 + 1))) (
   some x4508)
noncomputable def m73_3_L2 (N : Nat) (n4473 : Nat) (n4474 : Nat) (n4475 : Nat) (n4476 : Nat) (n4477 : Nat) (n4478 : Nat) (c4479 : List PV) (p4480 : PV) (x4481 : Int) (p4482 : PV) (p4483 : PV) (n4488 : Nat) (c4489 : List PV) : Nat → Int → Int → Option (Int)
 | 0, _, _ => none
 | n + 1, x4526, x4527 =>
  brn (decide (x4527 < ((n4478 : Nat) : Int))) (
   grd (0 ≤ x4527 ∧ x4527 < ((n4478 : Nat) : Int)) <|
   grd ((n4477 + (Int.toNat x4527)) < List.length c4479) <|
   getI .i64 (gp c4479 (n4477 + (Int.toNat x4527))) fun x4533 =>
   grd (2 < ((n4488 : Nat) : Int)) <|
   grd (0 < List.length (List.drop 2 c4489)) <|
   getL (gp c4489 2) fun n4537 c4538 =>
   grd (x4527 < ((n4537 : Nat) : Int)) <|
   grd (0 < List.length (List.drop (Int.toNat x4527) c4538)) <|
   getI .i64 (gp c4538 (Int.toNat x4527)) fun x4542 =>
   m73_3_L2 N n4473 n4474 n4475 n4476 n4477 n4478 c4479 p4480 x4481 p4482 p4483 n4488 c4489 n (IntKind.i64.wrap (x4526 + (IntKind.i64.wrap (x4533 * x4542)))) (IntKind.i64.wrap (x4527 + 1))) (
   some x4526)
noncomputable def m73_3 (N : Nat) (p4472 : PV) (n4473 : Nat) (n4474 : Nat) (n4475 : Nat) (n4476 : Nat) (n4477 : Nat) (n4478 : Nat) (c4479 : List PV) (p4480 : PV) (x4481 : Int) (p4482 : PV) (p4483 : PV) : Option ((PV × PV × Int × PV)) :=
 getL p4472 fun n4488 c4489 =>
 bnd' (m73_3_L0 N n4473 n4474 n4475 n4476 n4477 n4478 c4479 p4480 x4481 p4482 p4483 n4488 c4489 N 0 0) fun x4507 =>
 bnd' (m73_3_L1 N n4473 n4474 n4475 n4476 n4477 n4478 c4479 p4480 x4481 p4482 p4483 n4488 c4489 N x4507 0) fun x4525 =>
 bnd' (m73_3_L2 N n4473 n4474 n4475 n4476 n4477 n4478 c4479 p4480 x4481 p4482 p4483 n4488 c4489 N x4525 0) fun x4543 =>
 getN p4480 (
  getL p4482 fun n4549 c4550 =>
  casN n4549 1 (
   bnd' (m60 N c4550 p4483) fun o =>
   match o with
   | (n4553, n4554, c4555) =>
    grd (List.length (List.take n4474 (List.drop n4473 c4479)) = n4474) <|
    grd ((n4553 + n4554) ≤ List.length c4555) <|
    none) (
  casN n4549 2 (
   bnd' (m60_2 N c4550 p4483) fun o =>
   match o with
   | (n4559, n4560, n4561, n4562, c4563) =>
    grd (List.length (List.take n4474 (List.drop n4473 c4479)) = n4474) <|
    grd ((n4559 + n4560) ≤ List.length c4563) <|
    grd (List.length (List.take n4476 (List.drop n4475 c4479)) = n4476) <|
    grd ((n4561 + n4562) ≤ List.length c4563) <|
    none) (
  casN n4549 3 (
   bnd' (m60_3 N c4550 p4483) fun o =>
   match o with
   | (n4569, n4570, n4571, n4572, n4573, n4574, c4575) =>
    grd (List.length (List.take n4474 (List.drop n4473 c4479)) = n4474) <|
    grd ((n4569 + n4570) ≤ List.length c4575) <|
    grd (List.length (List.take n4476 (List.drop n4475 c4479)) = n4476) <|
    grd ((n4571 + n4572) ≤ List.length c4575) <|
    grd (List.length (List.take n4478 (List.drop n4477 c4479)) = n4478) <|
    grd ((n4573 + n4574) ≤ List.length c4575) <|
    some ((.tup []), (.lst false 3 [(.lst false n4570 (List.take n4570 (List.drop n4569 (putP (putP (putP c4575 n4569 (List.take (min n4474 n4570) (List.take n4474 (List.drop n4473 c4479)))) n4571 (List.take (min n4476 n4572) (List.take n4476 (List.drop n4475 c4479)))) n4573 (List.take (min n4478 n4574) (List.take n4478 (List.drop n4477 c4479))))))), (.lst false n4572 (List.take n4572 (List.drop n4571 (putP (putP (putP c4575 n4569 (List.take (min n4474 n4570) (List.take n4474 (List.drop n4473 c4479)))) n4571 (List.take (min n4476 n4572) (List.take n4476 (List.drop n4475 c4479)))) n4573 (List.take (min n4478 n4574) (List.take n4478 (List.drop n4477 c4479))))))), (.lst false n4574 (List.take n4574 (List.drop n4573 (putP (putP (putP c4575 n4569 (List.take (min n4474 n4570) (List.take n4474 (List.drop n4473 c4479)))) n4571 (List.take (min n4476 n4572) (List.take n4476 (List.drop n4475 c4479)))) n4573 (List.take (min n4478 n4574) (List.take n4478 (List.drop n4477 c4479)))))))]), x4543, (.lst false 3 c4550))) (
  none)))) fun n4546 c4547 =>
 grd (0 < n4546) <|
 brn (decide (x4543 ≥ x4481)) (
  some ((.tup []), (.lst false n4546 c4547), x4481, p4482)) (
  getL p4482 fun n4585 c4586 =>
  casN n4585 1 (
   bnd' (m60 N c4586 p4483) fun o =>
   match o with
   | (n4589, n4590, c4591) =>
    grd (List.length (List.take n4474 (List.drop n4473 c4479)) = n4474) <|
    grd ((n4589 + n4590) ≤ List.length c4591) <|
    none) (
  casN n4585 2 (
   bnd' (m60_2 N c4586 p4483) fun o =>
   match o with
   | (n4595, n4596, n4597, n4598, c4599) =>
    grd (List.length (List.take n4474 (List.drop n4473 c4479)) = n4474) <|
    grd ((n4595 + n4596) ≤ List.length c4599) <|
    grd (List.length (List.take n4476 (List.drop n4475 c4479)) = n4476) <|
    grd ((n4597 + n4598) ≤ List.length c4599) <|
    none) (
  casN n4585 3 (
   bnd' (m60_3 N c4586 p4483) fun o =>
   match o with
   | (n4605, n4606, n4607, n4608, n4609, n4610, c4611) =>
    grd (List.length (List.take n4474 (List.drop n4473 c4479)) = n4474) <|
    grd ((n4605 + n4606) ≤ List.length c4611) <|
    grd (List.length (List.take n4476 (List.drop n4475 c4479)) = n4476) <|
    grd ((n4607 + n4608) ≤ List.length c4611) <|
    grd (List.length (List.take n4478 (List.drop n4477 c4479)) = n4478) <|
    grd ((n4609 + n4610) ≤ List.length c4611) <|
    some ((.tup []), (.lst false 3 [(.lst false n4606 (List.take n4606 (List.drop n4605 (putP (putP (putP c4611 n4605 (List.take (min n4474 n4606) (List.take n4474 (List.drop n4473 c4479)))) n4607 (List.take (min n4476 n4608) (List.take n4476 (List.drop n4475 c4479)))) n4609 (List.take (min n4478 n4610) (List.take n4478 (List.drop n4477 c4479))))))), (.lst false n4608 (List.take n4608 (List.drop n4607 (putP (putP (putP c4611 n4605 (List.take (min n4474 n4606) (List.take n4474 (List.drop n4473 c4479)))) n4607 (List.take (min n4476 n4608) (List.take n4476 (List.drop n4475 c4479)))) n4609 (List.take (min n4478 n4610) (List.take n4478 (List.drop n4477 c4479))))))), (.lst false n4610 (List.take n4610 (List.drop n4609 (putP (putP (putP c4611 n4605 (List.take (min n4474 n4606) (List.take n4474 (List.drop n4473 c4479)))) n4607 (List.take (min n4476 n4608) (List.take n4476 (List.drop n4475 c4479)))) n4609 (List.take (min n4478 n4610) (List.take n4478 (List.drop n4477 c4479)))))))]), x4543, (.lst false 3 c4586))) (
  none))))
theorem c73_3 (N : Nat) (p4472 : PV) (n4473 : Nat) (n4474 : Nat) (n4475 : Nat) (n4476 : Nat) (n4477 : Nat) (n4478 : Nat) (c4479 : List PV) (p4480 : PV) (x4481 : Int) (p4482 : PV) (p4483 : PV) (r : PV) (p4621 : PV) (x4622 : Int) (p4623 : PV) (h : m73_3 N p4472 n4473 n4474 n4475 n4476 n4477 n4478 c4479 p4480 x4481 p4482 p4483 = some (r, p4621, x4622, p4623)) : V.Fn Try.prog 73 5 [.sl false 0 0 3 1, .v (.ipt [p4472]), .ptr 2 0, .ptr 3 0, .ptr 4 0] [(0, .r [.sl true 1 n4473 n4474 1, .sl true 1 n4475 n4476 1, .sl true 1 n4477 n4478 1]), (1, .p c4479), (2, .p [p4480]), (3, .p [(.int .i64 x4481)]), (4, .p [p4482, p4483])] (fun d ob' => d = .v r ∧ ob' = [(0, .r [.sl true 1 n4473 n4474 1, .sl true 1 n4475 n4476 1, .sl true 1 n4477 n4478 1]), (1, .p c4479), (2, .p [p4621]), (3, .p [(.int .i64 x4622)]), (4, .p [p4623, p4483])]) := by
 unfold m73_3 at h
 refine Fn_of (sz := 64) tab_ok [0, 1, 2, 3, 4, 6, 7, 8, 9, 10, 11, 12, 13, 14, 15, 16, 20, 21, 22, 23, 46, 50, 51, 52, 53] [] Try.func73 rfl rfl rfl (by simp) ?_
 simp only [initSt, initEnv, List.getD_cons_zero, List.getD_cons_succ, List.getD_nil]
 replace h := getL_some h; obtain ⟨n4488, c4489, h4487, h⟩ := h
 refine W_sound tab_ok mixed 11 _ _ _ ?_
 simp -implicitDefEqProofs only [go_sem, Nat.reduceBEq, Nat.reduceLT, h4487]
 repeat with_reducible refine And.intro (by first | kernel_rfl | decide) ?_
 refine Wp_block ?_
 refine Wp_loopL (WpL_step ?_)
 refine W_sound tab_ok mixed 23 _ _ _ ?_
 simp -implicitDefEqProofs only [go_sem, Nat.reduceBEq, Nat.reduceAdd, Nat.reduceLT, Nat.reduceLeDiff, Int.reduceLE, Int.reduceLT, Int.reduceToNat, ↓reduceIte]
 repeat with_reducible refine And.intro (by first | kernel_rfl | decide) ?_
 replace h := bnd'_some h; obtain ⟨o4624, h4625, h4626⟩ := h
 refine Wp_cut (fun s => ∃ x4507, x4507 = o4624 ∧ s = ⟨[], [(0, .sl false 0 0 3 1), (1, .v (.ipt [(.lst false n4488 c4489)])), (2, .ptr 2 0), (3, .ptr 3 0), (4, .ptr 4 0), (6, .v (.int .i64 x4507)), (7, .dead), (8, .dead), (9, .dead), (10, .dead), (11, .dead), (12, .dead), (13, .sl false 0 0 3 1), (14, .v (.int .i64 3)), (15, .v (.int .i64 0)), (16, .dead), (20, .dead), (21, .dead), (22, .dead), (23, .dead), (46, .dead), (50, .dead), (51, .dead), (52, .dead), (53, .dead)], [(0, .r [.sl true 1 n4473 n4474 1, .sl true 1 n4475 n4476 1, .sl true 1 n4477 n4478 1]), (1, .p c4479), (2, .p [p4480]), (3, .p [(.int .i64 x4481)]), (4, .p [p4482, p4483])], 5, []⟩) ?_ ?_
 ·refine Wp_block ?_
  refine Wp_loopG (fun n s => ∃ x4490, ∃ x4491, m73_3_L0 N n4473 n4474 n4475 n4476 n4477 n4478 c4479 p4480 x4481 p4482 p4483 n4488 c4489 n x4490 x4491 = some o4624 ∧ s = ⟨[], [(0, .sl false 0 0 3 1), (1, .v (.ipt [(.lst false n4488 c4489)])), (2, .ptr 2 0), (3, .ptr 3 0), (4, .ptr 4 0), (6, .v (.int .i64 x4490)), (7, .v (.int .i64 0)), (8, .dead), (9, .dead), (10, .dead), (11, .dead), (12, .dead), (13, .sl false 0 0 3 1), (14, .v (.int .i64 3)), (15, .v (.int .i64 0)), (16, .dead), (20, .sl true 1 n4473 n4474 1), (21, .v (.int .i64 ((n4474 : Nat) : Int))), (22, .v (.int .i64 x4491)), (23, .dead), (46, .dead), (50, .dead), (51, .dead), (52, .dead), (53, .dead)], [(0, .r [.sl true 1 n4473 n4474 1, .sl true 1 n4475 n4476 1, .sl true 1 n4477 n4478 1]), (1, .p c4479), (2, .p [p4480]), (3, .p [(.int .i64 x4481)]), (4, .p [p4482, p4483])], 5, []⟩) N _ ?_ ⟨_, _, h4625, rfl⟩ ?_
  ·exact Wk_keep [0, 1, 2, 3, 4, 6, 7, 13, 14, 15, 20, 21, 22] (by kernel_rfl)
  clear h4625
  rintro n _ ⟨x4490, x4491, h4625, rfl⟩
  cases n with
  | zero => cases h4625
  | succ n =>
   rw [m73_3_L0] at h4625
   replace h4625 := brn_some h4625; rcases h4625 with ⟨h4492, h4625⟩ | ⟨h4492, h4625⟩
   ·replace h4625 := grd_some h4625; obtain ⟨⟨g4493, g4494⟩, h4625⟩ := h4625
    replace h4625 := grd_some h4625; obtain ⟨g4495, h4625⟩ := h4625
    replace h4625 := getI_some h4625; obtain ⟨x4497, h4496, h4625⟩ := h4625
    replace h4625 := grd_some h4625; obtain ⟨g4498, h4625⟩ := h4625
    replace h4625 := grd_some h4625; obtain ⟨g4499, h4625⟩ := h4625
    replace h4625 := getL_some h4625; obtain ⟨n4501, c4502, h4500, h4625⟩ := h4625
    replace h4625 := grd_some h4625; obtain ⟨g4503, h4625⟩ := h4625
    replace h4625 := grd_some h4625; obtain ⟨g4504, h4625⟩ := h4625
    replace h4625 := getI_some h4625; obtain ⟨x4506, h4505, h4625⟩ := h4625
    refine W_sound tab_ok mixed 36 _ _ _ ?_
    simp -implicitDefEqProofs only [go_sem, Nat.reduceBEq, Nat.reduceLT, Int.reduceLE, Int.reduceToNat, ↓reduceIte, g4493, g4494, g4495, h4496, g4498, g4499, h4500, g4503, g4504, h4505]
    repeat with_reducible refine And.intro (by first | kernel_rfl | decide) ?_
    (try rw [h4496] at h4625)
    (try rw [h4500] at h4625)
    (try rw [h4505] at h4625)
    refine cutQ _ ?_ ⟨n, Nat.lt_succ_self n, _, _, h4625, rfl⟩
    exact Wk_keep [0, 1, 2, 3, 4, 6, 7, 13, 14, 15, 20, 21, 22] (by kernel_rfl)
   ·refine W_sound tab_ok mixed 7 _ _ _ ?_
    simp -implicitDefEqProofs only [go_sem, Nat.reduceBEq, Nat.reduceLT, ↓reduceIte, h4492]
    repeat with_reducible refine And.intro (by first | kernel_rfl | decide) ?_
    obtain rfl := Option.some.inj h4625
    refine cutQ _ ?_ ⟨_, rfl, rfl⟩
    exact Wk_keep [0, 1, 2, 3, 4, 6, 13, 14, 15] (by kernel_rfl)
 ·rintro _ ⟨x4507, rfl, rfl⟩
  refine W_sound tab_ok mixed 5 _ _ _ ?_
  simp -implicitDefEqProofs only [go_sem, Nat.reduceBEq, Nat.reduceLT, Int.reduceLE, Int.reduceToNat, ↓reduceIte, Int.reduceAdd]
  repeat with_reducible refine And.intro (by first | kernel_rfl | decide) ?_
  refine again (Wk_keep (st' := ⟨[], [(0, .sl false 0 0 3 1), (1, .v (.ipt [(.lst false n4488 c4489)])), (2, .ptr 2 0), (3, .ptr 3 0), (4, .ptr 4 0), (6, .v (.int .i64 x4507)), (7, .dead), (8, .dead), (9, .dead), (10, .dead), (11, .dead), (12, .dead), (13, .sl false 0 0 3 1), (14, .v (.int .i64 3)), (15, .v (.int .i64 1)), (16, .dead), (20, .dead), (21, .dead), (22, .dead), (23, .dead), (46, .dead), (50, .dead), (51, .dead), (52, .dead), (53, .dead)], [(0, .r [.sl true 1 n4473 n4474 1, .sl true 1 n4475 n4476 1, .sl true 1 n4477 n4478 1]), (1, .p c4479), (2, .p [p4480]), (3, .p [(.int .i64 x4481)]), (4, .p [p4482, p4483])], 5, []⟩) [0, 1, 2, 3, 4, 6, 13, 14, 15] (by kernel_rfl)) ?_
  refine W_sound tab_ok mixed 23 _ _ _ ?_
  simp -implicitDefEqProofs only [go_sem, Nat.reduceBEq, Nat.reduceAdd, Nat.reduceLT, Nat.reduceLeDiff, Int.reduceLE, Int.reduceLT, Int.reduceToNat, ↓reduceIte]
  repeat with_reducible refine And.intro (by first | kernel_rfl | decide) ?_
  replace h4626 := bnd'_some h4626; obtain ⟨o4627, h4628, h4629⟩ := h4626
  refine Wp_cut (fun s => ∃ x4525, x4525 = o4627 ∧ s = ⟨[], [(0, .sl false 0 0 3 1), (1, .v (.ipt [(.lst false n4488 c4489)])), (2, .ptr 2 0), (3, .ptr 3 0), (4, .ptr 4 0), (6, .v (.int .i64 x4525)), (7, .dead), (8, .dead), (9, .dead), (10, .dead), (11, .dead), (12, .dead), (13, .sl false 0 0 3 1), (14, .v (.int .i64 3)), (15, .v (.int .i64 1)), (16, .dead), (20, .dead), (21, .dead), (22, .dead), (23, .dead), (46, .dead), (50, .dead), (51, .dead), (52, .dead), (53, .dead)], [(0, .r [.sl true 1 n4473 n4474 1, .sl true 1 n4475 n4476 1, .sl true 1 n4477 n4478 1]), (1, .p c4479), (2, .p [p4480]), (3, .p [(.int .i64 x4481)]), (4, .p [p4482, p4483])], 5, []⟩) ?_ ?_
  ·refine Wp_block ?_
   refine Wp_loopG (fun n s => ∃ x4508, ∃ x4509, m73_3_L1 N n4473 n4474 n4475 n4476 n4477 n4478 c4479 p4480 x4481 p4482 p4483 n4488 c4489 n x4508 x4509 = some o4627 ∧ s = ⟨[], [(0, .sl false 0 0 3 1), (1, .v (.ipt [(.lst false n4488 c4489)])), (2, .ptr 2 0), (3, .ptr 3 0), (4, .ptr 4 0), (6, .v (.int .i64 x4508)), (7, .v (.int .i64 1)), (8, .dead), (9, .dead), (10, .dead), (11, .dead), (12, .dead), (13, .sl false 0 0 3 1), (14, .v (.int .i64 3)), (15, .v (.int .i64 1)), (16, .dead), (20, .sl true 1 n4475 n4476 1), (21, .v (.int .i64 ((n4476 : Nat) : Int))), (22, .v (.int .i64 x4509)), (23, .dead), (46, .dead), (50, .dead), (51, .dead), (52, .dead), (53, .dead)], [(0, .r [.sl true 1 n4473 n4474 1, .sl true 1 n4475 n4476 1, .sl true 1 n4477 n4478 1]), (1, .p c4479), (2, .p [p4480]), (3, .p [(.int .i64 x4481)]), (4, .p [p4482, p4483])], 5, []⟩) N _ ?_ ⟨_, _, h4628, rfl⟩ ?_
   ·exact Wk_keep [0, 1, 2, 3, 4, 6, 7, 13, 14, 15, 20, 21, 22] (by kernel_rfl)
   clear h4628
   rintro n _ ⟨x4508, x4509, h4628, rfl⟩
   cases n with
   | zero => cases h4628
   | succ n =>
    rw [m73_3_L1] at h4628
    replace h4628 := brn_some h4628; rcases h4628 with ⟨h4510, h4628⟩ | ⟨h4510, h4628⟩
    ·replace h4628 := grd_some h4628; obtain ⟨⟨g4511, g4512⟩, h4628⟩ := h4628
     replace h4628 := grd_some h4628; obtain ⟨g4513, h4628⟩ := h4628
     replace h4628 := getI_some h4628; obtain ⟨x4515, h4514, h4628⟩ := h4628
     replace h4628 := grd_some h4628; obtain ⟨g4516, h4628⟩ := h4628
     replace h4628 := grd_some h4628; obtain ⟨g4517, h4628⟩ := h4628
     replace h4628 := getL_some h4628; obtain ⟨n4519, c4520, h4518, h4628⟩ := h4628
     replace h4628 := grd_some h4628; obtain ⟨g4521, h4628⟩ := h4628
     replace h4628 := grd_some h4628; obtain ⟨g4522, h4628⟩ := h4628
     replace h4628 := getI_some h4628; obtain ⟨x4524, h4523, h4628⟩ := h4628
     refine W_sound tab_ok mixed 36 _ _ _ ?_
     simp -implicitDefEqProofs only [go_sem, Nat.reduceBEq, Nat.reduceLT, Int.reduceLE, Int.reduceToNat, ↓reduceIte, g4511, g4512, g4513, h4514, g4516, g4517, h4518, g4521, g4522, h4523]
     repeat with_reducible refine And.intro (by first | kernel_rfl | decide) ?_
     (try rw [h4514] at h4628)
     (try rw [h4518] at h4628)
     (try rw [h4523] at h4628)
     refine cutQ _ ?_ ⟨n, Nat.lt_succ_self n, _, _, h4628, rfl⟩
     exact Wk_keep [0, 1, 2, 3, 4, 6, 7, 13, 14, 15, 20, 21, 22] (by kernel_rfl)
    ·refine W_sound tab_ok mixed 7 _ _ _ ?_
     simp -implicitDefEqProofs only [go_sem, Nat.reduceBEq, Nat.reduceLT, ↓reduceIte, h4510]
     repeat with_reducible refine And.intro (by first | kernel_rfl | decide) ?_
     obtain rfl := Option.some.inj h4628
     refine cutQ _ ?_ ⟨_, rfl, rfl⟩
     exact Wk_keep [0, 1, 2, 3, 4, 6, 13, 14, 15] (by kernel_rfl)
  ·rintro _ ⟨x4525, rfl, rfl⟩
   refine W_sound tab_ok mixed 5 _ _ _ ?_
   simp -implicitDefEqProofs only [go_sem, Nat.reduceBEq, Nat.reduceLT, Int.reduceLE, Int.reduceToNat, ↓reduceIte, Int.reduceAdd]
   repeat with_reducible refine And.intro (by first | kernel_rfl | decide) ?_
   refine again (Wk_keep (st' := ⟨[], [(0, .sl false 0 0 3 1), (1, .v (.ipt [(.lst false n4488 c4489)])), (2, .ptr 2 0), (3, .ptr 3 0), (4, .ptr 4 0), (6, .v (.int .i64 x4525)), (7, .dead), (8, .dead), (9, .dead), (10, .dead), (11, .dead), (12, .dead), (13, .sl false 0 0 3 1), (14, .v (.int .i64 3)), (15, .v (.int .i64 2)), (16, .dead), (20, .dead), (21, .dead), (22, .dead), (23, .dead), (46, .dead), (50, .dead), (51, .dead), (52, .dead), (53, .dead)], [(0, .r [.sl true 1 n4473 n4474 1, .sl true 1 n4475 n4476 1, .sl true 1 n4477 n4478 1]), (1, .p c4479), (2, .p [p4480]), (3, .p [(.int .i64 x4481)]), (4, .p [p4482, p4483])], 5, []⟩) [0, 1, 2, 3, 4, 6, 13, 14, 15] (by kernel_rfl)) ?_
   refine W_sound tab_ok mixed 23 _ _ _ ?_
   simp -implicitDefEqProofs only [go_sem, Nat.reduceBEq, Nat.reduceAdd, Nat.reduceLT, Int.reduceLE, Int.reduceLT, Int.reduceToNat, ↓reduceIte]
   repeat with_reducible refine And.intro (by first | kernel_rfl | decide) ?_
   replace h4629 := bnd'_some h4629; obtain ⟨o4630, h4631, h4632⟩ := h4629
   refine Wp_cut (fun s => ∃ x4543, x4543 = o4630 ∧ s = ⟨[], [(0, .sl false 0 0 3 1), (1, .v (.ipt [(.lst false n4488 c4489)])), (2, .ptr 2 0), (3, .ptr 3 0), (4, .ptr 4 0), (6, .v (.int .i64 x4543)), (7, .dead), (8, .dead), (9, .dead), (10, .dead), (11, .dead), (12, .dead), (13, .sl false 0 0 3 1), (14, .v (.int .i64 3)), (15, .v (.int .i64 2)), (16, .dead), (20, .dead), (21, .dead), (22, .dead), (23, .dead), (46, .dead), (50, .dead), (51, .dead), (52, .dead), (53, .dead)], [(0, .r [.sl true 1 n4473 n4474 1, .sl true 1 n4475 n4476 1, .sl true 1 n4477 n4478 1]), (1, .p c4479), (2, .p [p4480]), (3, .p [(.int .i64 x4481)]), (4, .p [p4482, p4483])], 5, []⟩) ?_ ?_
   ·refine Wp_block ?_
    refine Wp_loopG (fun n s => ∃ x4526, ∃ x4527, m73_3_L2 N n4473 n4474 n4475 n4476 n4477 n4478 c4479 p4480 x4481 p4482 p4483 n4488 c4489 n x4526 x4527 = some o4630 ∧ s = ⟨[], [(0, .sl false 0 0 3 1), (1, .v (.ipt [(.lst false n4488 c4489)])), (2, .ptr 2 0), (3, .ptr 3 0), (4, .ptr 4 0), (6, .v (.int .i64 x4526)), (7, .v (.int .i64 2)), (8, .dead), (9, .dead), (10, .dead), (11, .dead), (12, .dead), (13, .sl false 0 0 3 1), (14, .v (.int .i64 3)), (15, .v (.int .i64 2)), (16, .dead), (20, .sl true 1 n4477 n4478 1), (21, .v (.int .i64 ((n4478 : Nat) : Int))), (22, .v (.int .i64 x4527)), (23, .dead), (46, .dead), (50, .dead), (51, .dead), (52, .dead), (53, .dead)], [(0, .r [.sl true 1 n4473 n4474 1, .sl true 1 n4475 n4476 1, .sl true 1 n4477 n4478 1]), (1, .p c4479), (2, .p [p4480]), (3, .p [(.int .i64 x4481)]), (4, .p [p4482, p4483])], 5, []⟩) N _ ?_ ⟨_, _, h4631, rfl⟩ ?_
    ·exact Wk_keep [0, 1, 2, 3, 4, 6, 7, 13, 14, 15, 20, 21, 22] (by kernel_rfl)
    clear h4631
    rintro n _ ⟨x4526, x4527, h4631, rfl⟩
    cases n with
    | zero => cases h4631
    | succ n =>
     rw [m73_3_L2] at h4631
     replace h4631 := brn_some h4631; rcases h4631 with ⟨h4528, h4631⟩ | ⟨h4528, h4631⟩
     ·replace h4631 := grd_some h4631; obtain ⟨⟨g4529, g4530⟩, h4631⟩ := h4631
      replace h4631 := grd_some h4631; obtain ⟨g4531, h4631⟩ := h4631
      replace h4631 := getI_some h4631; obtain ⟨x4533, h4532, h4631⟩ := h4631
      replace h4631 := grd_some h4631; obtain ⟨g4534, h4631⟩ := h4631
      replace h4631 := grd_some h4631; obtain ⟨g4535, h4631⟩ := h4631
      replace h4631 := getL_some h4631; obtain ⟨n4537, c4538, h4536, h4631⟩ := h4631
      replace h4631 := grd_some h4631; obtain ⟨g4539, h4631⟩ := h4631
      replace h4631 := grd_some h4631; obtain ⟨g4540, h4631⟩ := h4631
      replace h4631 := getI_some h4631; obtain ⟨x4542, h4541, h4631⟩ := h4631
      refine W_sound tab_ok mixed 36 _ _ _ ?_
      simp -implicitDefEqProofs only [go_sem, Nat.reduceBEq, Nat.reduceLT, Int.reduceLE, Int.reduceToNat, ↓reduceIte, g4529, g4530, g4531, h4532, g4534, g4535, h4536, g4539, g4540, h4541]
      repeat with_reducible refine And.intro (by first | kernel_rfl | decide) ?_
      (try rw [h4532] at h4631)
      (try rw [h4536] at h4631)
      (try rw [h4541] at h4631)
      refine cutQ _ ?_ ⟨n, Nat.lt_succ_self n, _, _, h4631, rfl⟩
      exact Wk_keep [0, 1, 2, 3, 4, 6, 7, 13, 14, 15, 20, 21, 22] (by kernel_rfl)
     ·refine W_sound tab_ok mixed 7 _ _ _ ?_
      simp -implicitDefEqProofs only [go_sem, Nat.reduceBEq, Nat.reduceLT, ↓reduceIte, h4528]
      repeat with_reducible refine And.intro (by first | kernel_rfl | decide) ?_
      obtain rfl := Option.some.inj h4631
      refine cutQ _ ?_ ⟨_, rfl, rfl⟩
      exact Wk_keep [0, 1, 2, 3, 4, 6, 13, 14, 15] (by kernel_rfl)
   ·rintro _ ⟨x4543, rfl, rfl⟩
    refine W_sound tab_ok mixed 5 _ _ _ ?_
    simp -implicitDefEqProofs only [go_sem, Nat.reduceBEq, Nat.reduceLT, Int.reduceLE, Int.reduceToNat, ↓reduceIte, Int.reduceAdd]
    repeat with_reducible refine And.intro (by first | kernel_rfl | decide) ?_
    refine again (Wk_keep (st' := ⟨[], [(0, .sl false 0 0 3 1), (1, .v (.ipt [(.lst false n4488 c4489)])), (2, .ptr 2 0), (3, .ptr 3 0), (4, .ptr 4 0), (6, .v (.int .i64 x4543)), (7, .dead), (8, .dead), (9, .dead), (10, .dead), (11, .dead), (12, .dead), (13, .sl false 0 0 3 1), (14, .v (.int .i64 3)), (15, .v (.int .i64 3)), (16, .dead), (20, .dead), (21, .dead), (22, .dead), (23, .dead), (46, .dead), (50, .dead), (51, .dead), (52, .dead), (53, .dead)], [(0, .r [.sl true 1 n4473 n4474 1, .sl true 1 n4475 n4476 1, .sl true 1 n4477 n4478 1]), (1, .p c4479), (2, .p [p4480]), (3, .p [(.int .i64 x4481)]), (4, .p [p4482, p4483])], 5, []⟩) [0, 1, 2, 3, 4, 6, 13, 14, 15] (by kernel_rfl)) ?_
    replace h4632 := getN_some h4632; rcases h4632 with ⟨h4545, h4632⟩ | ⟨n4546, c4547, h4545, h4632⟩
    ·replace h4632 := getL_some h4632; obtain ⟨n4549, c4550, h4548, h4632⟩ := h4632
     replace h4632 := casN_some h4632; rcases h4632 with ⟨rfl, h4632⟩ | ⟨_, h4632⟩
     ·replace h4632 := bnd'_some h4632; obtain ⟨⟨n4553, n4554, c4555⟩, h4552, h4632⟩ := h4632
      (try dsimp only at h4632)
      refine W_sound tab_ok mixed 24 _ _ _ ?_
      simp -implicitDefEqProofs only [go_sem, Nat.reduceBEq, Nat.reduceAdd, Nat.reduceLT, Int.reduceLE, Int.reduceLT, Int.reduceToNat, ↓reduceIte, h4545, h4548]
      repeat with_reducible refine And.intro (by first | kernel_rfl | decide) ?_
      refine Wp_callD [] (c60_a N _ _ _ _ _ h4552) rfl rfl rfl (by first | rfl | (simp only [go_sem, Nat.reduceBEq, Nat.reduceAdd, Nat.reduceSub, Nat.reduceMul, Nat.reduceLT, Nat.reduceLeDiff, Int.reduceLE, Int.reduceLT, Int.reduceToNat, Int.reduceBEq, Int.reduceBNe, ↓reduceIte, Int.reduceAdd, Int.reduceSub, Int.reduceGT, Int.reduceGE, h4487, h4545, h4548] <;> rfl)) rfl (by kernel_rfl) ?_
      refine W_sound tab_ok mixed 9 _ _ _ ?_
      simp -implicitDefEqProofs only [go_sem, Nat.reduceBEq, Nat.reduceAdd, Nat.reduceSub, Nat.reduceMul, Nat.reduceLT, Nat.reduceLeDiff]
      repeat with_reducible refine And.intro (by first | kernel_rfl | decide) ?_
      refine Wp_block ?_
      refine Wp_loopL (WpL_step ?_)
      replace h4632 := grd_some h4632; obtain ⟨g4556, h4632⟩ := h4632
      replace h4632 := grd_some h4632; obtain ⟨g4557, h4632⟩ := h4632
      refine W_sound tab_ok mixed 30 _ _ _ ?_
      simp -implicitDefEqProofs only [go_sem, Nat.reduceBEq, Nat.reduceAdd, Nat.reduceLT, Nat.reduceLeDiff, Int.reduceLE, Int.reduceLT, Int.reduceToNat, ↓reduceIte, Int.reduceAdd, g4556, g4557]
      repeat with_reducible refine And.intro (by first | kernel_rfl | decide) ?_
      refine again (Wk_keep (st' := ⟨[], [(0, .dead), (1, .dead), (2, .ptr 2 0), (3, .dead), (4, .dead), (6, .dead), (7, .dead), (8, .dead), (9, .dead), (10, .dead), (11, .dead), (12, .dead), (13, .dead), (14, .dead), (15, .dead), (16, .dead), (20, .dead), (21, .dead), (22, .dead), (23, .dead), (46, .dead), (50, .sl false 0 0 3 1), (51, .v (.int .i64 3)), (52, .v (.int .i64 1)), (53, .dead)], [(0, .r [.sl true 1 n4473 n4474 1, .sl true 1 n4475 n4476 1, .sl true 1 n4477 n4478 1]), (1, .p c4479), (2, .r [.sl false 5 0 1 1]), (3, .p [(.int .i64 x4543)]), (4, .p [(.lst false 1 c4550), p4483]), (5, .r [.sl true 6 n4553 n4554 1]), (6, .p (putP c4555 n4553 (List.take (min n4474 n4554) (List.take n4474 (List.drop n4473 c4479)))))], 7, []⟩) [2, 50, 51, 52] (by kernel_rfl)) ?_
      cases h4632
     ·skip
      replace h4632 := casN_some h4632; rcases h4632 with ⟨rfl, h4632⟩ | ⟨_, h4632⟩
      ·replace h4632 := bnd'_some h4632; obtain ⟨⟨n4559, n4560, n4561, n4562, c4563⟩, h4558, h4632⟩ := h4632
       (try dsimp only at h4632)
       refine W_sound tab_ok mixed 24 _ _ _ ?_
       simp -implicitDefEqProofs only [go_sem, Nat.reduceBEq, Nat.reduceAdd, Nat.reduceLT, Int.reduceLE, Int.reduceLT, Int.reduceToNat, ↓reduceIte, h4545, h4548]
       repeat with_reducible refine And.intro (by first | kernel_rfl | decide) ?_
       refine Wp_callD [] (c60_2_a N _ _ _ _ _ _ _ h4558) rfl rfl rfl (by first | rfl | (simp only [go_sem, Nat.reduceBEq, Nat.reduceAdd, Nat.reduceSub, Nat.reduceMul, Nat.reduceLT, Nat.reduceLeDiff, Int.reduceLE, Int.reduceLT, Int.reduceToNat, Int.reduceBEq, Int.reduceBNe, ↓reduceIte, Int.reduceAdd, Int.reduceSub, Int.reduceGT, Int.reduceGE, h4487, h4545, h4548] <;> rfl)) rfl (by kernel_rfl) ?_
       refine W_sound tab_ok mixed 9 _ _ _ ?_
       simp -implicitDefEqProofs only [go_sem, Nat.reduceBEq, Nat.reduceAdd, Nat.reduceSub, Nat.reduceMul, Nat.reduceLT, Nat.reduceLeDiff]
       repeat with_reducible refine And.intro (by first | kernel_rfl | decide) ?_
       refine Wp_block ?_
       refine Wp_loopL (WpL_step ?_)
       replace h4632 := grd_some h4632; obtain ⟨g4564, h4632⟩ := h4632
       replace h4632 := grd_some h4632; obtain ⟨g4565, h4632⟩ := h4632
       refine W_sound tab_ok mixed 30 _ _ _ ?_
       simp -implicitDefEqProofs only [go_sem, Nat.reduceBEq, Nat.reduceAdd, Nat.reduceLT, Nat.reduceLeDiff, Int.reduceLE, Int.reduceLT, Int.reduceToNat, ↓reduceIte, Int.reduceAdd, g4564, g4565]
       repeat with_reducible refine And.intro (by first | kernel_rfl | decide) ?_
       refine again (Wk_keep (st' := ⟨[], [(0, .dead), (1, .dead), (2, .ptr 2 0), (3, .dead), (4, .dead), (6, .dead), (7, .dead), (8, .dead), (9, .dead), (10, .dead), (11, .dead), (12, .dead), (13, .dead), (14, .dead), (15, .dead), (16, .dead), (20, .dead), (21, .dead), (22, .dead), (23, .dead), (46, .dead), (50, .sl false 0 0 3 1), (51, .v (.int .i64 3)), (52, .v (.int .i64 1)), (53, .dead)], [(0, .r [.sl true 1 n4473 n4474 1, .sl true 1 n4475 n4476 1, .sl true 1 n4477 n4478 1]), (1, .p c4479), (2, .r [.sl false 5 0 2 1]), (3, .p [(.int .i64 x4543)]), (4, .p [(.lst false 2 c4550), p4483]), (5, .r [.sl true 6 n4559 n4560 1, .sl true 6 n4561 n4562 1]), (6, .p (putP c4563 n4559 (List.take (min n4474 n4560) (List.take n4474 (List.drop n4473 c4479)))))], 7, []⟩) [2, 50, 51, 52] (by kernel_rfl)) ?_
       replace h4632 := grd_some h4632; obtain ⟨g4566, h4632⟩ := h4632
       replace h4632 := grd_some h4632; obtain ⟨g4567, h4632⟩ := h4632
       refine W_sound tab_ok mixed 30 _ _ _ ?_
       simp -implicitDefEqProofs only [go_sem, Nat.reduceBEq, Nat.reduceAdd, Nat.reduceLT, Nat.reduceLeDiff, Int.reduceLE, Int.reduceLT, Int.reduceToNat, ↓reduceIte, Int.reduceAdd, g4566, g4567]
       repeat with_reducible refine And.intro (by first | kernel_rfl | decide) ?_
       refine again (Wk_keep (st' := ⟨[], [(0, .dead), (1, .dead), (2, .ptr 2 0), (3, .dead), (4, .dead), (6, .dead), (7, .dead), (8, .dead), (9, .dead), (10, .dead), (11, .dead), (12, .dead), (13, .dead), (14, .dead), (15, .dead), (16, .dead), (20, .dead), (21, .dead), (22, .dead), (23, .dead), (46, .dead), (50, .sl false 0 0 3 1), (51, .v (.int .i64 3)), (52, .v (.int .i64 2)), (53, .dead)], [(0, .r [.sl true 1 n4473 n4474 1, .sl true 1 n4475 n4476 1, .sl true 1 n4477 n4478 1]), (1, .p c4479), (2, .r [.sl false 5 0 2 1]), (3, .p [(.int .i64 x4543)]), (4, .p [(.lst false 2 c4550), p4483]), (5, .r [.sl true 6 n4559 n4560 1, .sl true 6 n4561 n4562 1]), (6, .p (putP (putP c4563 n4559 (List.take (min n4474 n4560) (List.take n4474 (List.drop n4473 c4479)))) n4561 (List.take (min n4476 n4562) (List.take n4476 (List.drop n4475 c4479)))))], 7, []⟩) [2, 50, 51, 52] (by kernel_rfl)) ?_
       cases h4632
      ·skip
       replace h4632 := casN_some h4632; rcases h4632 with ⟨rfl, h4632⟩ | ⟨_, h4632⟩
       ·replace h4632 := bnd'_some h4632; obtain ⟨⟨n4569, n4570, n4571, n4572, n4573, n4574, c4575⟩, h4568, h4632⟩ := h4632
        (try dsimp only at h4632)
        refine W_sound tab_ok mixed 24 _ _ _ ?_
        simp -implicitDefEqProofs only [go_sem, Nat.reduceBEq, Nat.reduceAdd, Nat.reduceLT, Int.reduceLE, Int.reduceLT, Int.reduceToNat, ↓reduceIte, h4545, h4548]
        repeat with_reducible refine And.intro (by first | kernel_rfl | decide) ?_
        refine Wp_callD [] (c60_3_a N _ _ _ _ _ _ _ _ _ h4568) rfl rfl rfl (by first | rfl | (simp only [go_sem, Nat.reduceBEq, Nat.reduceAdd, Nat.reduceSub, Nat.reduceMul, Nat.reduceLT, Nat.reduceLeDiff, Int.reduceLE, Int.reduceLT, Int.reduceToNat, Int.reduceBEq, Int.reduceBNe, ↓reduceIte, Int.reduceAdd, Int.reduceSub, Int.reduceGT, Int.reduceGE, h4487, h4545, h4548] <;> rfl)) rfl (by kernel_rfl) ?_
        refine W_sound tab_ok mixed 9 _ _ _ ?_
        simp -implicitDefEqProofs only [go_sem, Nat.reduceBEq, Nat.reduceAdd, Nat.reduceSub, Nat.reduceMul, Nat.reduceLT, Nat.reduceLeDiff]
        repeat with_reducible refine And.intro (by first | kernel_rfl | decide) ?_
        refine Wp_block ?_
        refine Wp_loopL (WpL_step ?_)
        replace h4632 := grd_some h4632; obtain ⟨g4576, h4632⟩ := h4632
        replace h4632 := grd_some h4632; obtain ⟨g4577, h4632⟩ := h4632
        refine W_sound tab_ok mixed 30 _ _ _ ?_
        simp -implicitDefEqProofs only [go_sem, Nat.reduceBEq, Nat.reduceAdd, Nat.reduceLT, Nat.reduceLeDiff, Int.reduceLE, Int.reduceLT, Int.reduceToNat, ↓reduceIte, Int.reduceAdd, g4576, g4577]
        repeat with_reducible refine And.intro (by first | kernel_rfl | decide) ?_
        refine again (Wk_keep (st' := ⟨[], [(0, .dead), (1, .dead), (2, .ptr 2 0), (3, .dead), (4, .dead), (6, .dead), (7, .dead), (8, .dead), (9, .dead), (10, .dead), (11, .dead), (12, .dead), (13, .dead), (14, .dead), (15, .dead), (16, .dead), (20, .dead), (21, .dead), (22, .dead), (23, .dead), (46, .dead), (50, .sl false 0 0 3 1), (51, .v (.int .i64 3)), (52, .v (.int .i64 1)), (53, .dead)], [(0, .r [.sl true 1 n4473 n4474 1, .sl true 1 n4475 n4476 1, .sl true 1 n4477 n4478 1]), (1, .p c4479), (2, .r [.sl false 5 0 3 1]), (3, .p [(.int .i64 x4543)]), (4, .p [(.lst false 3 c4550), p4483]), (5, .r [.sl true 6 n4569 n4570 1, .sl true 6 n4571 n4572 1, .sl true 6 n4573 n4574 1]), (6, .p (putP c4575 n4569 (List.take (min n4474 n4570) (List.take n4474 (List.drop n4473 c4479)))))], 7, []⟩) [2, 50, 51, 52] (by kernel_rfl)) ?_
        replace h4632 := grd_some h4632; obtain ⟨g4578, h4632⟩ := h4632
        replace h4632 := grd_some h4632; obtain ⟨g4579, h4632⟩ := h4632
        refine W_sound tab_ok mixed 30 _ _ _ ?_
        simp -implicitDefEqProofs only [go_sem, Nat.reduceBEq, Nat.reduceAdd, Nat.reduceLT, Nat.reduceLeDiff, Int.reduceLE, Int.reduceLT, Int.reduceToNat, ↓reduceIte, Int.reduceAdd, g4578, g4579]
        repeat with_reducible refine And.intro (by first | kernel_rfl | decide) ?_
        refine again (Wk_keep (st' := ⟨[], [(0, .dead), (1, .dead), (2, .ptr 2 0), (3, .dead), (4, .dead), (6, .dead), (7, .dead), (8, .dead), (9, .dead), (10, .dead), (11, .dead), (12, .dead), (13, .dead), (14, .dead), (15, .dead), (16, .dead), (20, .dead), (21, .dead), (22, .dead), (23, .dead), (46, .dead), (50, .sl false 0 0 3 1), (51, .v (.int .i64 3)), (52, .v (.int .i64 2)), (53, .dead)], [(0, .r [.sl true 1 n4473 n4474 1, .sl true 1 n4475 n4476 1, .sl true 1 n4477 n4478 1]), (1, .p c4479), (2, .r [.sl false 5 0 3 1]), (3, .p [(.int .i64 x4543)]), (4, .p [(.lst false 3 c4550), p4483]), (5, .r [.sl true 6 n4569 n4570 1, .sl true 6 n4571 n4572 1, .sl true 6 n4573 n4574 1]), (6, .p (putP (putP c4575 n4569 (List.take (min n4474 n4570) (List.take n4474 (List.drop n4473 c4479)))) n4571 (List.take (min n4476 n4572) (List.take n4476 (List.drop n4475 c4479)))))], 7, []⟩) [2, 50, 51, 52] (by kernel_rfl)) ?_
        replace h4632 := grd_some h4632; obtain ⟨g4580, h4632⟩ := h4632
        replace h4632 := grd_some h4632; obtain ⟨g4581, h4632⟩ := h4632
        refine W_sound tab_ok mixed 30 _ _ _ ?_
        simp -implicitDefEqProofs only [go_sem, Nat.reduceBEq, Nat.reduceAdd, Nat.reduceLT, Int.reduceLE, Int.reduceLT, Int.reduceToNat, ↓reduceIte, Int.reduceAdd, g4580, g4581]
        repeat with_reducible refine And.intro (by first | kernel_rfl | decide) ?_
        refine again (Wk_keep (st' := ⟨[], [(0, .dead), (1, .dead), (2, .ptr 2 0), (3, .dead), (4, .dead), (6, .dead), (7, .dead), (8, .dead), (9, .dead), (10, .dead), (11, .dead), (12, .dead), (13, .dead), (14, .dead), (15, .dead), (16, .dead), (20, .dead), (21, .dead), (22, .dead), (23, .dead), (46, .dead), (50, .sl false 0 0 3 1), (51, .v (.int .i64 3)), (52, .v (.int .i64 3)), (53, .dead)], [(0, .r [.sl true 1 n4473 n4474 1, .sl true 1 n4475 n4476 1, .sl true 1 n4477 n4478 1]), (1, .p c4479), (2, .r [.sl false 5 0 3 1]), (3, .p [(.int .i64 x4543)]), (4, .p [(.lst false 3 c4550), p4483]), (5, .r [.sl true 6 n4569 n4570 1, .sl true 6 n4571 n4572 1, .sl true 6 n4573 n4574 1]), (6, .p (putP (putP (putP c4575 n4569 (List.take (min n4474 n4570) (List.take n4474 (List.drop n4473 c4479)))) n4571 (List.take (min n4476 n4572) (List.take n4476 (List.drop n4475 c4479)))) n4573 (List.take (min n4478 n4574) (List.take n4478 (List.drop n4477 c4479)))))], 7, []⟩) [2, 50, 51, 52] (by kernel_rfl)) ?_
        refine W_sound tab_ok mixed 8 _ _ _ ?_
        simp -implicitDefEqProofs only [go_sem, Nat.reduceBEq, Nat.reduceLT, Int.reduceLE, Int.reduceLT, Int.reduceToNat, ↓reduceIte]
        repeat with_reducible refine And.intro (by first | kernel_rfl | decide) ?_
        refine FinQ_wk (Wk_freeze 6 (putP (putP (putP c4575 n4569 (List.take (min n4474 n4570) (List.take n4474 (List.drop n4473 c4479)))) n4571 (List.take (min n4476 n4572) (List.take n4476 (List.drop n4475 c4479)))) n4573 (List.take (min n4478 n4574) (List.take n4478 (List.drop n4477 c4479)))) (by rfl) (by decide) (by decide)) ?_
        simp -implicitDefEqProofs only [go_sem, Nat.reduceBEq]
        refine FinQ_wk (Wk_freeze 5 [(.lst true n4570 (List.take n4570 (List.drop n4569 (putP (putP (putP c4575 n4569 (List.take (min n4474 n4570) (List.take n4474 (List.drop n4473 c4479)))) n4571 (List.take (min n4476 n4572) (List.take n4476 (List.drop n4475 c4479)))) n4573 (List.take (min n4478 n4574) (List.take n4478 (List.drop n4477 c4479))))))), (.lst true n4572 (List.take n4572 (List.drop n4571 (putP (putP (putP c4575 n4569 (List.take (min n4474 n4570) (List.take n4474 (List.drop n4473 c4479)))) n4571 (List.take (min n4476 n4572) (List.take n4476 (List.drop n4475 c4479)))) n4573 (List.take (min n4478 n4574) (List.take n4478 (List.drop n4477 c4479))))))), (.lst true n4574 (List.take n4574 (List.drop n4573 (putP (putP (putP c4575 n4569 (List.take (min n4474 n4570) (List.take n4474 (List.drop n4473 c4479)))) n4571 (List.take (min n4476 n4572) (List.take n4476 (List.drop n4475 c4479)))) n4573 (List.take (min n4478 n4574) (List.take n4478 (List.drop n4477 c4479)))))))] (by rfl) (by decide) (by decide)) ?_
        simp -implicitDefEqProofs only [go_sem, Nat.reduceBEq, Nat.reduceAdd]
        simp only [Option.some.injEq, Prod.mk.injEq] at h4632; obtain ⟨rfl, rfl, rfl, rfl⟩ := h4632
        exact finD (e2 := [(0, .dead), (1, .dead), (2, .dead), (3, .dead), (4, .dead), (6, .dead), (7, .dead), (8, .dead), (9, .dead), (10, .dead), (11, .dead), (12, .dead), (13, .dead), (14, .dead), (15, .dead), (16, .dead), (20, .dead), (21, .dead), (22, .dead), (23, .dead), (46, .dead), (50, .dead), (51, .dead), (52, .dead), (53, .dead)]) (ob2 := [(0, .r [.sl true 1 n4473 n4474 1, .sl true 1 n4475 n4476 1, .sl true 1 n4477 n4478 1]), (1, .p c4479), (2, .p [(.lst false 3 [(.lst false n4570 (List.take n4570 (List.drop n4569 (putP (putP (putP c4575 n4569 (List.take (min n4474 n4570) (List.take n4474 (List.drop n4473 c4479)))) n4571 (List.take (min n4476 n4572) (List.take n4476 (List.drop n4475 c4479)))) n4573 (List.take (min n4478 n4574) (List.take n4478 (List.drop n4477 c4479))))))), (.lst false n4572 (List.take n4572 (List.drop n4571 (putP (putP (putP c4575 n4569 (List.take (min n4474 n4570) (List.take n4474 (List.drop n4473 c4479)))) n4571 (List.take (min n4476 n4572) (List.take n4476 (List.drop n4475 c4479)))) n4573 (List.take (min n4478 n4574) (List.take n4478 (List.drop n4477 c4479))))))), (.lst false n4574 (List.take n4574 (List.drop n4573 (putP (putP (putP c4575 n4569 (List.take (min n4474 n4570) (List.take n4474 (List.drop n4473 c4479)))) n4571 (List.take (min n4476 n4572) (List.take n4476 (List.drop n4475 c4479)))) n4573 (List.take (min n4478 n4574) (List.take n4478 (List.drop n4477 c4479)))))))])]), (3, .p [(.int .i64 x4543)]), (4, .p [(.lst false 3 c4550), p4483])]) (st' := ⟨[], [(0, .dead), (1, .dead), (2, .dead), (3, .dead), (4, .dead), (6, .dead), (7, .dead), (8, .dead), (9, .dead), (10, .dead), (11, .dead), (12, .dead), (13, .dead), (14, .dead), (15, .dead), (16, .dead), (20, .dead), (21, .dead), (22, .dead), (23, .dead), (46, .dead), (50, .dead), (51, .dead), (52, .dead), (53, .dead)], [(0, .r [.sl true 1 n4473 n4474 1, .sl true 1 n4475 n4476 1, .sl true 1 n4477 n4478 1]), (1, .p c4479), (2, .p [(.lst false 3 [(.lst false n4570 (List.take n4570 (List.drop n4569 (putP (putP (putP c4575 n4569 (List.take (min n4474 n4570) (List.take n4474 (List.drop n4473 c4479)))) n4571 (List.take (min n4476 n4572) (List.take n4476 (List.drop n4475 c4479)))) n4573 (List.take (min n4478 n4574) (List.take n4478 (List.drop n4477 c4479))))))), (.lst false n4572 (List.take n4572 (List.drop n4571 (putP (putP (putP c4575 n4569 (List.take (min n4474 n4570) (List.take n4474 (List.drop n4473 c4479)))) n4571 (List.take (min n4476 n4572) (List.take n4476 (List.drop n4475 c4479)))) n4573 (List.take (min n4478 n4574) (List.take n4478 (List.drop n4477 c4479))))))), (.lst false n4574 (List.take n4574 (List.drop n4573 (putP (putP (putP c4575 n4569 (List.take (min n4474 n4570) (List.take n4474 (List.drop n4473 c4479)))) n4571 (List.take (min n4476 n4572) (List.take n4476 (List.drop n4475 c4479)))) n4573 (List.take (min n4478 n4574) (List.take n4478 (List.drop n4477 c4479)))))))])]), (3, .p [(.int .i64 x4543)]), (4, .p [(.lst false 3 c4550), p4483])], 5, []⟩) (.cons _ _ _ _ _ (.refl _) (.cons _ _ _ _ _ (.refl _) (.cons _ _ _ _ _ (.dead _) (.cons _ _ _ _ _ (.refl _) (.cons _ _ _ _ _ (.refl _) (.cons _ _ _ _ _ (.refl _) (.cons _ _ _ _ _ (.refl _) (.cons _ _ _ _ _ (.refl _) (.cons _ _ _ _ _ (.refl _) (.cons _ _ _ _ _ (.refl _) (.cons _ _ _ _ _ (.refl _) (.cons _ _ _ _ _ (.refl _) (.cons _ _ _ _ _ (.refl _) (.cons _ _ _ _ _ (.refl _) (.cons _ _ _ _ _ (.refl _) (.cons _ _ _ _ _ (.refl _) (.cons _ _ _ _ _ (.refl _) (.cons _ _ _ _ _ (.refl _) (.cons _ _ _ _ _ (.refl _) (.cons _ _ _ _ _ (.refl _) (.cons _ _ _ _ _ (.refl _) (.cons _ _ _ _ _ (.dead _) (.cons _ _ _ _ _ (.dead _) (.cons _ _ _ _ _ (.dead _) (.cons _ _ _ _ _ (.dead _) .nil))))))))))))))))))))))))) (.cons _ _ _ _ _ (DLes.refl _) (.cons _ _ _ _ _ (DLes.refl _) (.cons _ (.p _) (.p _) _ _ (DLes.of_p (.cons _ _ _ _ (.lst false false _ _ _ (fun h => by first | exact h | cases h) (.cons _ _ _ _ (.lst true false _ _ _ (fun h => by first | exact h | cases h) (PLes.refl _)) (.cons _ _ _ _ (.lst true false _ _ _ (fun h => by first | exact h | cases h) (PLes.refl _)) (.cons _ _ _ _ (.lst true false _ _ _ (fun h => by first | exact h | cases h) (PLes.refl _)) .nil)))) .nil)) (.cons _ _ _ _ _ (DLes.refl _) (.cons _ _ _ _ _ (DLes.refl _) .nil))))) (by kernel_rfl) (by simp only [go_sem, resQ_nil, retD_none]; (try simp [R.val, retD_one, retD_two, retD_three, retD_none]); try assumption)
       ·skip
        cases h4632
    ·replace h4632 := grd_some h4632; obtain ⟨g4582, h4632⟩ := h4632
     replace h4632 := brn_some h4632; rcases h4632 with ⟨h4583, h4632⟩ | ⟨h4583, h4632⟩
     ·refine W_sound tab_ok mixed 21 _ _ _ ?_
      simp -implicitDefEqProofs only [go_sem, Nat.reduceBEq, Nat.reduceLT, Int.reduceLE, Int.reduceLT, Int.reduceToNat, ↓reduceIte, h4545, g4582, h4583]
      repeat with_reducible refine And.intro (by first | kernel_rfl | decide) ?_
      simp only [Option.some.injEq, Prod.mk.injEq] at h4632; obtain ⟨rfl, rfl, rfl, rfl⟩ := h4632
      exact finD (st' := ⟨[], [(0, .dead), (1, .dead), (2, .dead), (3, .dead), (4, .dead), (6, .dead), (7, .dead), (8, .dead), (9, .dead), (10, .dead), (11, .dead), (12, .dead), (13, .dead), (14, .dead), (15, .dead), (16, .dead), (20, .dead), (21, .dead), (22, .dead), (23, .dead), (46, .dead), (50, .dead), (51, .dead), (52, .dead), (53, .dead)], [(0, .r [.sl true 1 n4473 n4474 1, .sl true 1 n4475 n4476 1, .sl true 1 n4477 n4478 1]), (1, .p c4479), (2, .p [(.lst false n4546 c4547)]), (3, .p [(.int .i64 x4481)]), (4, .p [p4482, p4483])], 5, []⟩) (keepE_le [] _) (OLe.refl _) (by kernel_rfl) (by simp only [go_sem, resQ_nil, retD_none]; (try simp [R.val, retD_one, retD_two, retD_three, retD_none]); try assumption)
     ·replace h4632 := getL_some h4632; obtain ⟨n4585, c4586, h4584, h4632⟩ := h4632
      replace h4632 := casN_some h4632; rcases h4632 with ⟨rfl, h4632⟩ | ⟨_, h4632⟩
      ·replace h4632 := bnd'_some h4632; obtain ⟨⟨n4589, n4590, c4591⟩, h4588, h4632⟩ := h4632
       (try dsimp only at h4632)
       refine W_sound tab_ok mixed 24 _ _ _ ?_
       simp -implicitDefEqProofs only [go_sem, Nat.reduceBEq, Nat.reduceAdd, Nat.reduceLT, Int.reduceLE, Int.reduceLT, Int.reduceToNat, ↓reduceIte, h4545, g4582, h4583, h4584]
       repeat with_reducible refine And.intro (by first | kernel_rfl | decide) ?_
       refine Wp_callD [] (c60_a N _ _ _ _ _ h4588) rfl rfl rfl (by first | rfl | (simp only [go_sem, Nat.reduceBEq, Nat.reduceAdd, Nat.reduceSub, Nat.reduceMul, Nat.reduceLT, Nat.reduceLeDiff, Int.reduceLE, Int.reduceLT, Int.reduceToNat, Int.reduceBEq, Int.reduceBNe, ↓reduceIte, Int.reduceAdd, Int.reduceSub, Int.reduceGT, Int.reduceGE, h4487, h4545, g4582, h4583, h4584] <;> rfl)) rfl (by kernel_rfl) ?_
       refine W_sound tab_ok mixed 9 _ _ _ ?_
       simp -implicitDefEqProofs only [go_sem, Nat.reduceBEq, Nat.reduceAdd, Nat.reduceSub, Nat.reduceMul, Nat.reduceLT, Nat.reduceLeDiff]
       repeat with_reducible refine And.intro (by first | kernel_rfl | decide) ?_
       refine Wp_block ?_
       refine Wp_loopL (WpL_step ?_)
       replace h4632 := grd_some h4632; obtain ⟨g4592, h4632⟩ := h4632
       replace h4632 := grd_some h4632; obtain ⟨g4593, h4632⟩ := h4632
       refine W_sound tab_ok mixed 30 _ _ _ ?_
       simp -implicitDefEqProofs only [go_sem, Nat.reduceBEq, Nat.reduceAdd, Nat.reduceLT, Nat.reduceLeDiff, Int.reduceLE, Int.reduceLT, Int.reduceToNat, ↓reduceIte, Int.reduceAdd, g4592, g4593]
       repeat with_reducible refine And.intro (by first | kernel_rfl | decide) ?_
       refine again (Wk_keep (st' := ⟨[], [(0, .dead), (1, .dead), (2, .ptr 2 0), (3, .dead), (4, .dead), (6, .dead), (7, .dead), (8, .dead), (9, .dead), (10, .dead), (11, .dead), (12, .dead), (13, .dead), (14, .dead), (15, .dead), (16, .dead), (20, .dead), (21, .dead), (22, .dead), (23, .dead), (46, .dead), (50, .sl false 0 0 3 1), (51, .v (.int .i64 3)), (52, .v (.int .i64 1)), (53, .dead)], [(0, .r [.sl true 1 n4473 n4474 1, .sl true 1 n4475 n4476 1, .sl true 1 n4477 n4478 1]), (1, .p c4479), (2, .r [.sl false 5 0 1 1]), (3, .p [(.int .i64 x4543)]), (4, .p [(.lst false 1 c4586), p4483]), (5, .r [.sl true 6 n4589 n4590 1]), (6, .p (putP c4591 n4589 (List.take (min n4474 n4590) (List.take n4474 (List.drop n4473 c4479)))))], 7, []⟩) [2, 50, 51, 52] (by kernel_rfl)) ?_
       cases h4632
      ·skip
       replace h4632 := casN_some h4632; rcases h4632 with ⟨rfl, h4632⟩ | ⟨_, h4632⟩
       ·replace h4632 := bnd'_some h4632; obtain ⟨⟨n4595, n4596, n4597, n4598, c4599⟩, h4594, h4632⟩ := h4632
        (try dsimp only at h4632)
        refine W_sound tab_ok mixed 24 _ _ _ ?_
        simp -implicitDefEqProofs only [go_sem, Nat.reduceBEq, Nat.reduceAdd, Nat.reduceLT, Int.reduceLE, Int.reduceLT, Int.reduceToNat, ↓reduceIte, h4545, g4582, h4583, h4584]
        repeat with_reducible refine And.intro (by first | kernel_rfl | decide) ?_
        refine Wp_callD [] (c60_2_a N _ _ _ _ _ _ _ h4594) rfl rfl rfl (by first | rfl | (simp only [go_sem, Nat.reduceBEq, Nat.reduceAdd, Nat.reduceSub, Nat.reduceMul, Nat.reduceLT, Nat.reduceLeDiff, Int.reduceLE, Int.reduceLT, Int.reduceToNat, Int.reduceBEq, Int.reduceBNe, ↓reduceIte, Int.reduceAdd, Int.reduceSub, Int.reduceGT, Int.reduceGE, h4487, h4545, g4582, h4583, h4584] <;> rfl)) rfl (by kernel_rfl) ?_
        refine W_sound tab_ok mixed 9 _ _ _ ?_
        simp -implicitDefEqProofs only [go_sem, Nat.reduceBEq, Nat.reduceAdd, Nat.reduceSub, Nat.reduceMul, Nat.reduceLT, Nat.reduceLeDiff]
        repeat with_reducible refine And.intro (by first | kernel_rfl | decide) ?_
        refine Wp_block ?_
        refine Wp_loopL (WpL_step ?_)
        replace h4632 := grd_some h4632; obtain ⟨g4600, h4632⟩ := h4632
        replace h4632 := grd_some h4632; obtain ⟨g4601, h4632⟩ := h4632
        refine W_sound tab_ok mixed 30 _ _ _ ?_
        simp -implicitDefEqProofs only [go_sem, Nat.reduceBEq, Nat.reduceAdd, Nat.reduceLT, Nat.reduceLeDiff, Int.reduceLE, Int.reduceLT, Int.reduceToNat, ↓reduceIte, Int.reduceAdd, g4600, g4601]
        repeat with_reducible refine And.intro (by first | kernel_rfl | decide) ?_
        refine again (Wk_keep (st' := ⟨[], [(0, .dead), (1, .dead), (2, .ptr 2 0), (3, .dead), (4, .dead), (6, .dead), (7, .dead), (8, .dead), (9, .dead), (10, .dead), (11, .dead), (12, .dead), (13, .dead), (14, .dead), (15, .dead), (16, .dead), (20, .dead), (21, .dead), (22, .dead), (23, .dead), (46, .dead), (50, .sl false 0 0 3 1), (51, .v (.int .i64 3)), (52, .v (.int .i64 1)), (53, .dead)], [(0, .r [.sl true 1 n4473 n4474 1, .sl true 1 n4475 n4476 1, .sl true 1 n4477 n4478 1]), (1, .p c4479), (2, .r [.sl false 5 0 2 1]), (3, .p [(.int .i64 x4543)]), (4, .p [(.lst false 2 c4586), p4483]), (5, .r [.sl true 6 n4595 n4596 1, .sl true 6 n4597 n4598 1]), (6, .p (putP c4599 n4595 (List.take (min n4474 n4596) (List.take n4474 (List.drop n4473 c4479)))))], 7, []⟩) [2, 50, 51, 52] (by kernel_rfl)) ?_
        replace h4632 := grd_some h4632; obtain ⟨g4602, h4632⟩ := h4632
        replace h4632 := grd_some h4632; obtain ⟨g4603, h4632⟩ := h4632
        refine W_sound tab_ok mixed 30 _ _ _ ?_
        simp -implicitDefEqProofs only [go_sem, Nat.reduceBEq, Nat.reduceAdd, Nat.reduceLT, Nat.reduceLeDiff, Int.reduceLE, Int.reduceLT, Int.reduceToNat, ↓reduceIte, Int.reduceAdd, g4602, g4603]
        repeat with_reducible refine And.intro (by first | kernel_rfl | decide) ?_
        refine again (Wk_keep (st' := ⟨[], [(0, .dead), (1, .dead), (2, .ptr 2 0), (3, .dead), (4, .dead), (6, .dead), (7, .dead), (8, .dead), (9, .dead), (10, .dead), (11, .dead), (12, .dead), (13, .dead), (14, .dead), (15, .dead), (16, .dead), (20, .dead), (21, .dead), (22, .dead), (23, .dead), (46, .dead), (50, .sl false 0 0 3 1), (51, .v (.int .i64 3)), (52, .v (.int .i64 2)), (53, .dead)], [(0, .r [.sl true 1 n4473 n4474 1, .sl true 1 n4475 n4476 1, .sl true 1 n4477 n4478 1]), (1, .p c4479), (2, .r [.sl false 5 0 2 1]), (3, .p [(.int .i64 x4543)]), (4, .p [(.lst false 2 c4586), p4483]), (5, .r [.sl true 6 n4595 n4596 1, .sl true 6 n4597 n4598 1]), (6, .p (putP (putP c4599 n4595 (List.take (min n4474 n4596) (List.take n4474 (List.drop n4473 c4479)))) n4597 (List.take (min n4476 n4598) (List.take n4476 (List.drop n4475 c4479)))))], 7, []⟩) [2, 50, 51, 52] (by kernel_rfl)) ?_
        cases h4632
       ·skip
        replace h4632 := casN_some h4632; rcases h4632 with ⟨rfl, h4632⟩ | ⟨_, h4632⟩
        ·replace h4632 := bnd'_some h4632; obtain ⟨⟨n4605, n4606, n4607, n4608, n4609, n4610, c4611⟩, h4604, h4632⟩ := h4632
         (try dsimp only at h4632)
         refine W_sound tab_ok mixed 24 _ _ _ ?_
         simp -implicitDefEqProofs only [go_sem, Nat.reduceBEq, Nat.reduceAdd, Nat.reduceLT, Int.reduceLE, Int.reduceLT, Int.reduceToNat, ↓reduceIte, h4545, g4582, h4583, h4584]
         repeat with_reducible refine And.intro (by first | kernel_rfl | decide) ?_
         refine Wp_callD [] (c60_3_a N _ _ _ _ _ _ _ _ _ h4604) rfl rfl rfl (by first | rfl | (simp only [go_sem, Nat.reduceBEq, Nat.reduceAdd, Nat.reduceSub, Nat.reduceMul, Nat.reduceLT, Nat.reduceLeDiff, Int.reduceLE, Int.reduceLT, Int.reduceToNat, Int.reduceBEq, Int.reduceBNe, ↓reduceIte, Int.reduceAdd, Int.reduceSub, Int.reduceGT, Int.reduceGE, h4487, h4545, g4582, h4583, h4584] <;> rfl)) rfl (by kernel_rfl) ?_
         refine W_sound tab_ok mixed 9 _ _ _ ?_
         simp -implicitDefEqProofs only [go_sem, Nat.reduceBEq, Nat.reduceAdd, Nat.reduceSub, Nat.reduceMul, Nat.reduceLT, Nat.reduceLeDiff]
         repeat with_reducible refine And.intro (by first | kernel_rfl | decide) ?_
         refine Wp_block ?_
         refine Wp_loopL (WpL_step ?_)
         replace h4632 := grd_some h4632; obtain ⟨g4612, h4632⟩ := h4632
         replace h4632 := grd_some h4632; obtain ⟨g4613, h4632⟩ := h4632
         refine W_sound tab_ok mixed 30 _ _ _ ?_
         simp -implicitDefEqProofs only [go_sem, Nat.reduceBEq, Nat.reduceAdd, Nat.reduceLT, Nat.reduceLeDiff, Int.reduceLE, Int.reduceLT, Int.reduceToNat, ↓reduceIte, Int.reduceAdd, g4612, g4613]
         repeat with_reducible refine And.intro (by first | kernel_rfl | decide) ?_
         refine again (Wk_keep (st' := ⟨[], [(0, .dead), (1, .dead), (2, .ptr 2 0), (3, .dead), (4, .dead), (6, .dead), (7, .dead), (8, .dead), (9, .dead), (10, .dead), (11, .dead), (12, .dead), (13, .dead), (14, .dead), (15, .dead), (16, .dead), (20, .dead), (21, .dead), (22, .dead), (23, .dead), (46, .dead), (50, .sl false 0 0 3 1), (51, .v (.int .i64 3)), (52, .v (.int .i64 1)), (53, .dead)], [(0, .r [.sl true 1 n4473 n4474 1, .sl true 1 n4475 n4476 1, .sl true 1 n4477 n4478 1]), (1, .p c4479), (2, .r [.sl false 5 0 3 1]), (3, .p [(.int .i64 x4543)]), (4, .p [(.lst false 3 c4586), p4483]), (5, .r [.sl true 6 n4605 n4606 1, .sl true 6 n4607 n4608 1, .sl true 6 n4609 n4610 1]), (6, .p (putP c4611 n4605 (List.take (min n4474 n4606) (List.take n4474 (List.drop n4473 c4479)))))], 7, []⟩) [2, 50, 51, 52] (by kernel_rfl)) ?_
         replace h4632 := grd_some h4632; obtain ⟨g4614, h4632⟩ := h4632
         replace h4632 := grd_some h4632; obtain ⟨g4615, h4632⟩ := h4632
         refine W_sound tab_ok mixed 30 _ _ _ ?_
         simp -implicitDefEqProofs only [go_sem, Nat.reduceBEq, Nat.reduceAdd, Nat.reduceLT, Nat.reduceLeDiff, Int.reduceLE, Int.reduceLT, Int.reduceToNat, ↓reduceIte, Int.reduceAdd, g4614, g4615]
         repeat with_reducible refine And.intro (by first | kernel_rfl | decide) ?_
         refine again (Wk_keep (st' := ⟨[], [(0, .dead), (1, .dead), (2, .ptr 2 0), (3, .dead), (4, .dead), (6, .dead), (7, .dead), (8, .dead), (9, .dead), (10, .dead), (11, .dead), (12, .dead), (13, .dead), (14, .dead), (15, .dead), (16, .dead), (20, .dead), (21, .dead), (22, .dead), (23, .dead), (46, .dead), (50, .sl false 0 0 3 1), (51, .v (.int .i64 3)), (52, .v (.int .i64 2)), (53, .dead)], [(0, .r [.sl true 1 n4473 n4474 1, .sl true 1 n4475 n4476 1, .sl true 1 n4477 n4478 1]), (1, .p c4479), (2, .r [.sl false 5 0 3 1]), (3, .p [(.int .i64 x4543)]), (4, .p [(.lst false 3 c4586), p4483]), (5, .r [.sl true 6 n4605 n4606 1, .sl true 6 n4607 n4608 1, .sl true 6 n4609 n4610 1]), (6, .p (putP (putP c4611 n4605 (List.take (min n4474 n4606) (List.take n4474 (List.drop n4473 c4479)))) n4607 (List.take (min n4476 n4608) (List.take n4476 (List.drop n4475 c4479)))))], 7, []⟩) [2, 50, 51, 52] (by kernel_rfl)) ?_
         replace h4632 := grd_some h4632; obtain ⟨g4616, h4632⟩ := h4632
         replace h4632 := grd_some h4632; obtain ⟨g4617, h4632⟩ := h4632
         refine W_sound tab_ok mixed 30 _ _ _ ?_
         simp -implicitDefEqProofs only [go_sem, Nat.reduceBEq, Nat.reduceAdd, Nat.reduceLT, Int.reduceLE, Int.reduceLT, Int.reduceToNat, ↓reduceIte, Int.reduceAdd, g4616, g4617]
         repeat with_reducible refine And.intro (by first | kernel_rfl | decide) ?_
         refine again (Wk_keep (st' := ⟨[], [(0, .dead), (1, .dead), (2, .ptr 2 0), (3, .dead), (4, .dead), (6, .dead), (7, .dead), (8, .dead), (9, .dead), (10, .dead), (11, .dead), (12, .dead), (13, .dead), (14, .dead), (15, .dead), (16, .dead), (20, .dead), (21, .dead), (22, .dead), (23, .dead), (46, .dead), (50, .sl false 0 0 3 1), (51, .v (.int .i64 3)), (52, .v (.int .i64 3)), (53, .dead)], [(0, .r [.sl true 1 n4473 n4474 1, .sl true 1 n4475 n4476 1, .sl true 1 n4477 n4478 1]), (1, .p c4479), (2, .r [.sl false 5 0 3 1]), (3, .p [(.int .i64 x4543)]), (4, .p [(.lst false 3 c4586), p4483]), (5, .r [.sl true 6 n4605 n4606 1, .sl true 6 n4607 n4608 1, .sl true 6 n4609 n4610 1]), (6, .p (putP (putP (putP c4611 n4605 (List.take (min n4474 n4606) (List.take n4474 (List.drop n4473 c4479)))) n4607 (List.take (min n4476 n4608) (List.take n4476 (List.drop n4475 c4479)))) n4609 (List.take (min n4478 n4610) (List.take n4478 (List.drop n4477 c4479)))))], 7, []⟩) [2, 50, 51, 52] (by kernel_rfl)) ?_
         refine W_sound tab_ok mixed 8 _ _ _ ?_
         simp -implicitDefEqProofs only [go_sem, Nat.reduceBEq, Nat.reduceLT, Int.reduceLE, Int.reduceLT, Int.reduceToNat, ↓reduceIte]
         repeat with_reducible refine And.intro (by first | kernel_rfl | decide) ?_
         refine FinQ_wk (Wk_freeze 6 (putP (putP (putP c4611 n4605 (List.take (min n4474 n4606) (List.take n4474 (List.drop n4473 c4479)))) n4607 (List.take (min n4476 n4608) (List.take n4476 (List.drop n4475 c4479)))) n4609 (List.take (min n4478 n4610) (List.take n4478 (List.drop n4477 c4479)))) (by rfl) (by decide) (by decide)) ?_
         simp -implicitDefEqProofs only [go_sem, Nat.reduceBEq]
         refine FinQ_wk (Wk_freeze 5 [(.lst true n4606 (List.take n4606 (List.drop n4605 (putP (putP (putP c4611 n4605 (List.take (min n4474 n4606) (List.take n4474 (List.drop n4473 c4479)))) n4607 (List.take (min n4476 n4608) (List.take n4476 (List.drop n4475 c4479)))) n4609 (List.take (min n4478 n4610) (List.take n4478 (List.drop n4477 c4479))))))), (.lst true n4608 (List.take n4608 (List.drop n4607 (putP (putP (putP c4611 n4605 (List.take (min n4474 n4606) (List.take n4474 (List.drop n4473 c4479)))) n4607 (List.take (min n4476 n4608) (List.take n4476 (List.drop n4475 c4479)))) n4609 (List.take (min n4478 n4610) (List.take n4478 (List.drop n4477 c4479))))))), (.lst true n4610 (List.take n4610 (List.drop n4609 (putP (putP (putP c4611 n4605 (List.take (min n4474 n4606) (List.take n4474 (List.drop n4473 c4479)))) n4607 (List.take (min n4476 n4608) (List.take n4476 (List.drop n4475 c4479)))) n4609 (List.take (min n4478 n4610) (List.take n4478 (List.drop n4477 c4479)))))))] (by rfl) (by decide) (by decide)) ?_
         simp -implicitDefEqProofs only [go_sem, Nat.reduceBEq, Nat.reduceAdd]
         simp only [Option.some.injEq, Prod.mk.injEq] at h4632; obtain ⟨rfl, rfl, rfl, rfl⟩ := h4632
         exact finD (e2 := [(0, .dead), (1, .dead), (2, .dead), (3, .dead), (4, .dead), (6, .dead), (7, .dead), (8, .dead), (9, .dead), (10, .dead), (11, .dead), (12, .dead), (13, .dead), (14, .dead), (15, .dead), (16, .dead), (20, .dead), (21, .dead), (22, .dead), (23, .dead), (46, .dead), (50, .dead), (51, .dead), (52, .dead), (53, .dead)]) (ob2 := [(0, .r [.sl true 1 n4473 n4474 1, .sl true 1 n4475 n4476 1, .sl true 1 n4477 n4478 1]), (1, .p c4479), (2, .p [(.lst false 3 [(.lst false n4606 (List.take n4606 (List.drop n4605 (putP (putP (putP c4611 n4605 (List.take (min n4474 n4606) (List.take n4474 (List.drop n4473 c4479)))) n4607 (List.take (min n4476 n4608) (List.take n4476 (List.drop n4475 c4479)))) n4609 (List.take (min n4478 n4610) (List.take n4478 (List.drop n4477 c4479))))))), (.lst false n4608 (List.take n4608 (List.drop n4607 (putP (putP (putP c4611 n4605 (List.take (min n4474 n4606) (List.take n4474 (List.drop n4473 c4479)))) n4607 (List.take (min n4476 n4608) (List.take n4476 (List.drop n4475 c4479)))) n4609 (List.take (min n4478 n4610) (List.take n4478 (List.drop n4477 c4479))))))), (.lst false n4610 (List.take n4610 (List.drop n4609 (putP (putP (putP c4611 n4605 (List.take (min n4474 n4606) (List.take n4474 (List.drop n4473 c4479)))) n4607 (List.take (min n4476 n4608) (List.take n4476 (List.drop n4475 c4479)))) n4609 (List.take (min n4478 n4610) (List.take n4478 (List.drop n4477 c4479)))))))])]), (3, .p [(.int .i64 x4543)]), (4, .p [(.lst false 3 c4586), p4483])]) (st' := ⟨[], [(0, .dead), (1, .dead), (2, .dead), (3, .dead), (4, .dead), (6, .dead), (7, .dead), (8, .dead), (9, .dead), (10, .dead), (11, .dead), (12, .dead), (13, .dead), (14, .dead), (15, .dead), (16, .dead), (20, .dead), (21, .dead), (22, .dead), (23, .dead), (46, .dead), (50, .dead), (51, .dead), (52, .dead), (53, .dead)], [(0, .r [.sl true 1 n4473 n4474 1, .sl true 1 n4475 n4476 1, .sl true 1 n4477 n4478 1]), (1, .p c4479), (2, .p [(.lst false 3 [(.lst false n4606 (List.take n4606 (List.drop n4605 (putP (putP (putP c4611 n4605 (List.take (min n4474 n4606) (List.take n4474 (List.drop n4473 c4479)))) n4607 (List.take (min n4476 n4608) (List.take n4476 (List.drop n4475 c4479)))) n4609 (List.take (min n4478 n4610) (List.take n4478 (List.drop n4477 c4479))))))), (.lst false n4608 (List.take n4608 (List.drop n4607 (putP (putP (putP c4611 n4605 (List.take (min n4474 n4606) (List.take n4474 (List.drop n4473 c4479)))) n4607 (List.take (min n4476 n4608) (List.take n4476 (List.drop n4475 c4479)))) n4609 (List.take (min n4478 n4610) (List.take n4478 (List.drop n4477 c4479))))))), (.lst false n4610 (List.take n4610 (List.drop n4609 (putP (putP (putP c4611 n4605 (List.take (min n4474 n4606) (List.take n4474 (List.drop n4473 c4479)))) n4607 (List.take (min n4476 n4608) (List.take n4476 (List.drop n4475 c4479)))) n4609 (List.take (min n4478 n4610) (List.take n4478 (List.drop n4477 c4479)))))))])]), (3, .p [(.int .i64 x4543)]), (4, .p [(.lst false 3 c4586), p4483])], 5, []⟩) (.cons _ _ _ _ _ (.refl _) (.cons _ _ _ _ _ (.refl _) (.cons _ _ _ _ _ (.dead _) (.cons _ _ _ _ _ (.refl _) (.cons _ _ _ _ _ (.refl _) (.cons _ _ _ _ _ (.refl _) (.cons _ _ _ _ _ (.refl _) (.cons _ _ _ _ _ (.refl _) (.cons _ _ _ _ _ (.refl _) (.cons _ _ _ _ _ (.refl _) (.cons _ _ _ _ _ (.refl _) (.cons _ _ _ _ _ (.refl _) (.cons _ _ _ _ _ (.refl _) (.cons _ _ _ _ _ (.refl _) (.cons _ _ _ _ _ (.refl _) (.cons _ _ _ _ _ (.refl _) (.cons _ _ _ _ _ (.refl _) (.cons _ _ _ _ _ (.refl _) (.cons _ _ _ _ _ (.refl _) (.cons _ _ _ _ _ (.refl _) (.cons _ _ _ _ _ (.refl _) (.cons _ _ _ _ _ (.dead _) (.cons _ _ _ _ _ (.dead _) (.cons _ _ _ _ _ (.dead _) (.cons _ _ _ _ _ (.dead _) .nil))))))))))))))))))))))))) (.cons _ _ _ _ _ (DLes.refl _) (.cons _ _ _ _ _ (DLes.refl _) (.cons _ (.p _) (.p _) _ _ (DLes.of_p (.cons _ _ _ _ (.lst false false _ _ _ (fun h => by first | exact h | cases h) (.cons _ _ _ _ (.lst true false _ _ _ (fun h => by first | exact h | cases h) (PLes.refl _)) (.cons _ _ _ _ (.lst true false _ _ _ (fun h => by first | exact h | cases h) (PLes.refl _)) (.cons _ _ _ _ (.lst true false _ _ _ (fun h => by first | exact h | cases h) (PLes.refl _)) .nil)))) .nil)) (.cons _ _ _ _ _ (DLes.refl _) (.cons _ _ _ _ _ (DLes.refl _) .nil))))) (by kernel_rfl) (by simp only [go_sem, resQ_nil, retD_none]; (try simp [R.val, retD_one, retD_two, retD_three, retD_none]); try assumption)
        ·skip
         cases h4632
noncomputable def m72_2_L1 (N : Nat) (c5164 : List PV) (n5615 : Nat) (n5616 : Nat) (n5617 : Nat) (n5618 : Nat) (n5619 : Nat) (n5620 : Nat) (n5622 : Nat) (c5623 : List PV) (x5841 : Int) (p5845 : PV) (p5846 : PV) (c5847 : List PV) : Option ((Int × PV × PV × List PV)) :=
  casI x5841 0 (
   grd (0 < List.length c5164) <|
   getI .i64 (gp c5164 0) fun x5851 =>
   bnd' (m95 N n5615 n5616 (.lst false n5622 c5623) x5851 c5847) fun (p5852, c5854) =>
   getT0 p5852 <|
   some (0, p5845, p5846, c5854)) (
  casI x5841 1 (
   getL p5845 fun n5857 c5858 =>
   grd (0 < List.length (List.drop 1 c5164)) <|
   getI .i64 (gp c5164 1) fun x5861 =>
   bnd' (m95 N n5617 n5618 (.lst false n5857 c5858) x5861 c5847) fun (p5862, c5864) =>
   getT0 p5862 <|
   some (1, (.lst false n5857 c5858), p5846, c5864)) (
  casI x5841 2 (
   getL p5846 fun n5867 c5868 =>
   grd (0 < List.length (List.drop 2 c5164)) <|
   getI .i64 (gp c5164 2) fun x5871 =>
   bnd' (m95 N n5619 n5620 (.lst false n5867 c5868) x5871 c5847) fun (p5872, c5874) =>
   getT0 p5872 <|
   some (2, p5845, (.lst false n5867 c5868), c5874)) (
  none)))
noncomputable def m72_2_L3 (N : Nat) (p5151 : PV) (p5155 : PV) (c5164 : List PV) (n5166 : Nat) (c5167 : List PV) (n5615 : Nat) (n5616 : Nat) (n5617 : Nat) (n5618 : Nat) (n5619 : Nat) (n5620 : Nat) (n5622 : Nat) (c5623 : List PV) (p6025 : PV) (x6026 : Int) (p6027 : PV) : Nat → Int → PV → PV → List PV → Option (((Int × PV × PV × List PV) ⊕ (PV × PV × Int × PV)))
 | 0, _, _, _, _ => none
 | n + 1, x6055, p6056, p6057, c6058 =>
  casI x6055 0 (
   bnd' (m96 N n5615 n5616 (.lst false n5622 c5623) c6058) fun (p6060, c6062) =>
   getB p6060 fun b6064 =>
   brn b6064 (
    some (.inl (0, p6056, p6057, c6062))) (
    some (.inr ((.tup []), p6025, x6026, p6027)))) (
  casI x6055 1 (
   getL p6056 fun n6067 c6068 =>
   bnd' (m96 N n5617 n5618 (.lst false n6067 c6068) c6058) fun (p6069, c6071) =>
   getB p6069 fun b6073 =>
   brn b6073 (
    some (.inl (1, (.lst false n6067 c6068), p6057, c6071))) (
    m72_2_L3 N p5151 p5155 c5164 n5166 c5167 n5615 n5616 n5617 n5618 n5619 n5620 n5622 c5623 p6025 x6026 p6027 n 0 (.lst false n6067 c6068) p6057 c6071)) (
  casI x6055 2 (
   getL p6057 fun n6076 c6077 =>
   bnd' (m96 N n5619 n5620 (.lst false n6076 c6077) c6058) fun (p6078, c6080) =>
   getB p6078 fun b6082 =>
   brn b6082 (
    some (.inl (2, p6056, (.lst false n6076 c6077), c6080))) (
    m72_2_L3 N p5151 p5155 c5164 n5166 c5167 n5615 n5616 n5617 n5618 n5619 n5620 n5622 c5623 p6025 x6026 p6027 n 1 p6056 (.lst false n6076 c6077) c6080)) (
  none)))
noncomputable def m72_2_L4 (N : Nat) (p5151 : PV) (p5155 : PV) (c5164 : List PV) (n5166 : Nat) (c5167 : List PV) (n5615 : Nat) (n5616 : Nat) (n5617 : Nat) (n5618 : Nat) (n5619 : Nat) (n5620 : Nat) (n5622 : Nat) (c5623 : List PV) (p6016 : PV) (x6017 : Int) (p6018 : PV) (c6021 : List PV) (n6121 : Nat) (c6122 : List PV) (n6123 : Nat) : Nat → Int → List PV → Option (List PV)
 | 0, _, _ => none
 | n + 1, x6138, c6139 =>
  brn (decide (x6138 < ((n5618 : Nat) : Int))) (
   grd (0 ≤ x6138 ∧ x6138 < ((n5618 : Nat) : Int)) <|
   grd ((n5617 + (Int.toNat x6138)) < List.length c6021) <|
   getI .i64 (gp c6021 (n5617 + (Int.toNat x6138))) fun x6145 =>
   grd (x6138 < ((n6123 : Nat) : Int)) <|
   grd ((Int.toNat x6138) < List.length c6139) <|
   getI .i64 (gp c6139 (Int.toNat x6138)) fun x6149 =>
   grd (((Int.toNat x6138) + 1) ≤ List.length c6139) <|
   m72_2_L4 N p5151 p5155 c5164 n5166 c5167 n5615 n5616 n5617 n5618 n5619 n5620 n5622 c5623 p6016 x6017 p6018 c6021 n6121 c6122 n6123 n (IntKind.i64.wrap (x6138 + 1)) (List.set c6139 (Int.toNat x6138) (.int .i64 (IntKind.i64.wrap (x6149 - x6145))))) (
   some c6139)
noncomputable def m72_2_L5 (N : Nat) (p5151 : PV) (p5155 : PV) (c5164 : List PV) (n5166 : Nat) (c5167 : List PV) (n5615 : Nat) (n5616 : Nat) (n5617 : Nat) (n5618 : Nat) (n5619 : Nat) (n5620 : Nat) (n5622 : Nat) (c5623 : List PV) (p6016 : PV) (x6017 : Int) (p6018 : PV) (p6020 : PV) (c6021 : List PV) (n6090 : Nat) : Nat → Int → List PV → Option (List PV)
 | 0, _, _ => none
 | n + 1, x6105, c6106 =>
  brn (decide (x6105 < ((n5616 : Nat) : Int))) (
   grd (0 ≤ x6105 ∧ x6105 < ((n5616 : Nat) : Int)) <|
   grd ((n5615 + (Int.toNat x6105)) < List.length c6021) <|
   getI .i64 (gp c6021 (n5615 + (Int.toNat x6105))) fun x6112 =>
   grd (x6105 < ((n6090 : Nat) : Int)) <|
   grd ((Int.toNat x6105) < List.length c6106) <|
   getI .i64 (gp c6106 (Int.toNat x6105)) fun x6116 =>
   grd (((Int.toNat x6105) + 1) ≤ List.length c6106) <|
   m72_2_L5 N p5151 p5155 c5164 n5166 c5167 n5615 n5616 n5617 n5618 n5619 n5620 n5622 c5623 p6016 x6017 p6018 p6020 c6021 n6090 n (IntKind.i64.wrap (x6105 + 1)) (List.set c6106 (Int.toNat x6105) (.int .i64 (IntKind.i64.wrap (x6116 - x6112))))) (
   some c6106)
noncomputable def m72_2_L2 (N : Nat) (p5151 : PV) (p5155 : PV) (c5164 : List PV) (n5166 : Nat) (c5167 : List PV) (n5615 : Nat) (n5616 : Nat) (n5617 : Nat) (n5618 : Nat) (n5619 : Nat) (n5620 : Nat) (n5622 : Nat) (c5623 : List PV) : Nat → Int → PV → Int → PV → PV → PV → List PV → Option (((PV × PV × Int × PV) ⊕ (Int × PV × Int × PV × PV × PV × List PV)))
 | 0, _, _, _, _, _, _, _ => none
 | n + 1, x6015, p6016, x6017, p6018, p6019, p6020, c6021 =>
  brn (x6015 == 2) (
   bnd' (m73_3 N p5151 n5615 n5616 n5617 n5618 n5619 n5620 c6021 p6016 x6017 p6018 p5155) fun (p6023, p6025, x6026, p6027) =>
   getT0 p6023 <|
   bnd' (m72_2_L3 N p5151 p5155 c5164 n5166 c5167 n5615 n5616 n5617 n5618 n5619 n5620 n5622 c5623 p6025 x6026 p6027 N x6015 p6019 p6020 c6021) fun o =>
   match o with
   | .inl (x6084, p6085, p6086, c6087) =>
    m72_2_L2 N p5151 p5155 c5164 n5166 c5167 n5615 n5616 n5617 n5618 n5619 n5620 n5622 c5623 n x6084 p6025 x6026 p6027 p6085 p6086 c6087
   | .inr p6088 =>
    some (.inl p6088)) (
   casI x6015 0 (
    bnd' (m53 N (.lst false n5622 c5623)) fun (n6090, c6091) =>
    bnd' (m72_2_L5 N p5151 p5155 c5164 n5166 c5167 n5615 n5616 n5617 n5618 n5619 n5620 n5622 c5623 p6016 x6017 p6018 p6020 c6021 n6090 N 0 c6091) fun c6118 =>
    grd (List.length c6118 = n6090) <|
    some (.inr (1, p6016, x6017, p6018, (.lst false n6090 c6118), p6020, c6021))) (
   casI x6015 1 (
    getL p6019 fun n6121 c6122 =>
    bnd' (m53 N (.lst false n6121 c6122)) fun (n6123, c6124) =>
    bnd' (m72_2_L4 N p5151 p5155 c5164 n5166 c5167 n5615 n5616 n5617 n5618 n5619 n5620 n5622 c5623 p6016 x6017 p6018 c6021 n6121 c6122 n6123 N 0 c6124) fun c6151 =>
    grd (List.length c6151 = n6123) <|
    some (.inr (2, p6016, x6017, p6018, (.lst false n6121 c6122), (.lst false n6123 c6151), c6021))) (
   casI x6015 2 (
    none) (
   casI x6015 3 (
    bnd' (m53_2 N ) fun (n6153, c6154) =>
    none) (
   none)))))
noncomputable def m72_2_L0 (N : Nat) (p5151 : PV) (p5155 : PV) (c5164 : List PV) (n5166 : Nat) (c5167 : List PV) (n5615 : Nat) (n5616 : Nat) (n5617 : Nat) (n5618 : Nat) (n5619 : Nat) (n5620 : Nat) (n5622 : Nat) (c5623 : List PV) : Nat → Int → PV → Int → PV → PV → PV → List PV → Option ((PV × PV × Int × PV))
 | 0, _, _, _, _, _, _, _ => none
 | n + 1, x5841, p5842, x5843, p5844, p5845, p5846, c5847 =>
  bnd' (m72_2_L1 N c5164 n5615 n5616 n5617 n5618 n5619 n5620 n5622 c5623 x5841 p5845 p5846 c5847) fun o =>
  match o with
  | (x5876, p5877, p5878, c5879) =>
   bnd' (m72_2_L2 N p5151 p5155 c5164 n5166 c5167 n5615 n5616 n5617 n5618 n5619 n5620 n5622 c5623 N x5876 p5842 x5843 p5844 p5877 p5878 c5879) fun o =>
   match o with
   | .inl p6156 =>
    some p6156
   | .inr (x6157, p6158, x6159, p6160, p6161, p6162, c6163) =>
    m72_2_L0 N p5151 p5155 c5164 n5166 c5167 n5615 n5616 n5617 n5618 n5619 n5620 n5622 c5623 n x6157 p6158 x6159 p6160 p6161 p6162 c6163
noncomputable def m72_2_L7 (N : Nat) (c5164 : List PV) (n5250 : Nat) (n5251 : Nat) (n5252 : Nat) (n5253 : Nat) (n5255 : Nat) (c5256 : List PV) (x5404 : Int) (p5408 : PV) (c5409 : List PV) : Option ((Int × PV × List PV)) :=
  casI x5404 0 (
   grd (0 < List.length c5164) <|
   getI .i64 (gp c5164 0) fun x5413 =>
   bnd' (m95 N n5250 n5251 (.lst false n5255 c5256) x5413 c5409) fun (p5414, c5416) =>
   getT0 p5414 <|
   some (0, p5408, c5416)) (
  casI x5404 1 (
   getL p5408 fun n5419 c5420 =>
   grd (0 < List.length (List.drop 1 c5164)) <|
   getI .i64 (gp c5164 1) fun x5423 =>
   bnd' (m95 N n5252 n5253 (.lst false n5419 c5420) x5423 c5409) fun (p5424, c5426) =>
   getT0 p5424 <|
   some (1, (.lst false n5419 c5420), c5426)) (
  none))
noncomputable def m72_2_L9 (N : Nat) (p5151 : PV) (p5155 : PV) (c5164 : List PV) (n5166 : Nat) (c5167 : List PV) (n5250 : Nat) (n5251 : Nat) (n5252 : Nat) (n5253 : Nat) (n5255 : Nat) (c5256 : List PV) (p5525 : PV) (x5526 : Int) (p5527 : PV) : Nat → Int → PV → List PV → Option (((Int × PV × List PV) ⊕ (PV × PV × Int × PV)))
 | 0, _, _, _ => none
 | n + 1, x5546, p5547, c5548 =>
  casI x5546 0 (
   bnd' (m96 N n5250 n5251 (.lst false n5255 c5256) c5548) fun (p5550, c5552) =>
   getB p5550 fun b5554 =>
   brn b5554 (
    some (.inl (0, p5547, c5552))) (
    some (.inr ((.tup []), p5525, x5526, p5527)))) (
  casI x5546 1 (
   getL p5547 fun n5557 c5558 =>
   bnd' (m96 N n5252 n5253 (.lst false n5557 c5558) c5548) fun (p5559, c5561) =>
   getB p5559 fun b5563 =>
   brn b5563 (
    some (.inl (1, (.lst false n5557 c5558), c5561))) (
    m72_2_L9 N p5151 p5155 c5164 n5166 c5167 n5250 n5251 n5252 n5253 n5255 c5256 p5525 x5526 p5527 n 0 (.lst false n5557 c5558) c5561)) (
  none))
noncomputable def m72_2_L10 (N : Nat) (p5151 : PV) (p5155 : PV) (c5164 : List PV) (n5166 : Nat) (c5167 : List PV) (n5250 : Nat) (n5251 : Nat) (n5252 : Nat) (n5253 : Nat) (n5255 : Nat) (c5256 : List PV) (p5517 : PV) (x5518 : Int) (p5519 : PV) (c5521 : List PV) (n5570 : Nat) : Nat → Int → List PV → Option (List PV)
 | 0, _, _ => none
 | n + 1, x5585, c5586 =>
  brn (decide (x5585 < ((n5251 : Nat) : Int))) (
   grd (0 ≤ x5585 ∧ x5585 < ((n5251 : Nat) : Int)) <|
   grd ((n5250 + (Int.toNat x5585)) < List.length c5521) <|
   getI .i64 (gp c5521 (n5250 + (Int.toNat x5585))) fun x5592 =>
   grd (x5585 < ((n5570 : Nat) : Int)) <|
   grd ((Int.toNat x5585) < List.length c5586) <|
   getI .i64 (gp c5586 (Int.toNat x5585)) fun x5596 =>
   grd (((Int.toNat x5585) + 1) ≤ List.length c5586) <|
   m72_2_L10 N p5151 p5155 c5164 n5166 c5167 n5250 n5251 n5252 n5253 n5255 c5256 p5517 x5518 p5519 c5521 n5570 n (IntKind.i64.wrap (x5585 + 1)) (List.set c5586 (Int.toNat x5585) (.int .i64 (IntKind.i64.wrap (x5596 - x5592))))) (
   some c5586)
noncomputable def m72_2_L8 (N : Nat) (p5151 : PV) (p5155 : PV) (c5164 : List PV) (n5166 : Nat) (c5167 : List PV) (n5250 : Nat) (n5251 : Nat) (n5252 : Nat) (n5253 : Nat) (n5255 : Nat) (c5256 : List PV) : Nat → Int → PV → Int → PV → PV → List PV → Option (((PV × PV × Int × PV) ⊕ (Int × PV × Int × PV × PV × List PV)))
 | 0, _, _, _, _, _, _ => none
 | n + 1, x5516, p5517, x5518, p5519, p5520, c5521 =>
  brn (x5516 == 1) (
   bnd' (m73_2 N p5151 n5250 n5251 n5252 n5253 c5521 p5517 x5518 p5519 p5155) fun (p5523, p5525, x5526, p5527) =>
   getT0 p5523 <|
   bnd' (m72_2_L9 N p5151 p5155 c5164 n5166 c5167 n5250 n5251 n5252 n5253 n5255 c5256 p5525 x5526 p5527 N x5516 p5520 c5521) fun o =>
   match o with
   | .inl (x5565, p5566, c5567) =>
    m72_2_L8 N p5151 p5155 c5164 n5166 c5167 n5250 n5251 n5252 n5253 n5255 c5256 n x5565 p5525 x5526 p5527 p5566 c5567
   | .inr p5568 =>
    some (.inl p5568)) (
   casI x5516 0 (
    bnd' (m53 N (.lst false n5255 c5256)) fun (n5570, c5571) =>
    bnd' (m72_2_L10 N p5151 p5155 c5164 n5166 c5167 n5250 n5251 n5252 n5253 n5255 c5256 p5517 x5518 p5519 c5521 n5570 N 0 c5571) fun c5598 =>
    grd (List.length c5598 = n5570) <|
    some (.inr (1, p5517, x5518, p5519, (.lst false n5570 c5598), c5521))) (
   casI x5516 1 (
    none) (
   casI x5516 2 (
    bnd' (m53_2 N ) fun (n5600, c5601) =>
    none) (
   casI x5516 3 (
    bnd' (m53_2 N ) fun (n5603, c5604) =>
    none) (
   none)))))
noncomputable def m72_2_L6 (N : Nat) (p5151 : PV) (p5155 : PV) (c5164 : List PV) (n5166 : Nat) (c5167 : List PV) (n5250 : Nat) (n5251 : Nat) (n5252 : Nat) (n5253 : Nat) (n5255 : Nat) (c5256 : List PV) : Nat → Int → PV → Int → PV → PV → List PV → Option ((PV × PV × Int × PV))
 | 0, _, _, _, _, _, _ => none
 | n + 1, x5404, p5405, x5406, p5407, p5408, c5409 =>
  bnd' (m72_2_L7 N c5164 n5250 n5251 n5252 n5253 n5255 c5256 x5404 p5408 c5409) fun o =>
  match o with
  | (x5428, p5429, c5430) =>
   bnd' (m72_2_L8 N p5151 p5155 c5164 n5166 c5167 n5250 n5251 n5252 n5253 n5255 c5256 N x5428 p5405 x5406 p5407 p5429 c5430) fun o =>
   match o with
   | .inl p5606 =>
    some p5606
   | .inr (x5607, p5608, x5609, p5610, p5611, c5612) =>
    m72_2_L6 N p5151 p5155 c5164 n5166 c5167 n5250 n5251 n5252 n5253 n5255 c5256 n x5607 p5608 x5609 p5610 p5611 c5612
noncomputable def m72_2_L12 (N : Nat) (c5164 : List PV) (n5170 : Nat) (n5171 : Nat) (c5172 : List PV) (n5173 : Nat) (c5174 : List PV) (x5177 : Int) : Option (List PV) :=
  casI x5177 0 (
   grd (0 < List.length c5164) <|
   getI .i64 (gp c5164 0) fun x5181 =>
   bnd' (m95 N n5170 n5171 (.lst false n5173 c5174) x5181 c5172) fun (p5182, c5184) =>
   getT0 p5182 <|
   some c5184) (
  none)
noncomputable def m72_2_L14 (N : Nat) (p5151 : PV) (p5155 : PV) (c5164 : List PV) (n5166 : Nat) (c5167 : List PV) (n5170 : Nat) (n5171 : Nat) (n5173 : Nat) (c5174 : List PV) (c5219 : List PV) (p5223 : PV) (x5224 : Int) (p5225 : PV) : Nat → Int → Option ((List PV ⊕ (PV × PV × Int × PV)))
 | 0, _ => none
 | n + 1, x5227 =>
  casI x5227 0 (
   bnd' (m96 N n5170 n5171 (.lst false n5173 c5174) c5219) fun (p5229, c5231) =>
   getB p5229 fun b5233 =>
   brn b5233 (
    some (.inl c5231)) (
    some (.inr ((.tup []), p5223, x5224, p5225)))) (
  none)
noncomputable def m72_2_L13 (N : Nat) (p5151 : PV) (p5155 : PV) (c5164 : List PV) (n5166 : Nat) (c5167 : List PV) (n5170 : Nat) (n5171 : Nat) (n5173 : Nat) (c5174 : List PV) : Nat → Int → PV → Int → PV → List PV → Option ((PV × PV × Int × PV))
 | 0, _, _, _, _, _ => none
 | n + 1, x5215, p5216, x5217, p5218, c5219 =>
  brn (x5215 == 0) (
   bnd' (m73 N p5151 n5170 n5171 c5219 p5216 x5217 p5218 p5155) fun (p5221, p5223, x5224, p5225) =>
   getT0 p5221 <|
   bnd' (m72_2_L14 N p5151 p5155 c5164 n5166 c5167 n5170 n5171 n5173 c5174 c5219 p5223 x5224 p5225 N x5215) fun o =>
   match o with
   | .inl c5235 =>
    m72_2_L13 N p5151 p5155 c5164 n5166 c5167 n5170 n5171 n5173 c5174 n 0 p5223 x5224 p5225 c5235
   | .inr p5236 =>
    some p5236) (
   casI x5215 0 (
    none) (
   casI x5215 1 (
    bnd' (m53_2 N ) fun (n5238, c5239) =>
    none) (
   casI x5215 2 (
    bnd' (m53_2 N ) fun (n5241, c5242) =>
    none) (
   casI x5215 3 (
    bnd' (m53_2 N ) fun (n5244, c5245) =>
    none) (
   none)))))
noncomputable def m72_2_L11 (N : Nat) (p5151 : PV) (p5152 : PV) (x5153 : Int) (p5154 : PV) (p5155 : PV) (c5164 : List PV) (n5166 : Nat) (c5167 : List PV) (n5170 : Nat) (n5171 : Nat) (c5172 : List PV) (n5173 : Nat) (c5174 : List PV) : Nat → Int → Option ((PV × PV × Int × PV))
 | 0, _ => none
 | n + 1, x5177 =>
  bnd' (m72_2_L12 N c5164 n5170 n5171 c5172 n5173 c5174 x5177) fun c5186 =>
  bnd' (m72_2_L13 N p5151 p5155 c5164 n5166 c5167 n5170 n5171 n5173 c5174 N 0 p5152 x5153 p5154 c5186) fun o =>
  match o with
  | p5247 =>
   some p5247
noncomputable def m72_2 (N : Nat) (p5150 : PV) (p5151 : PV) (p5152 : PV) (x5153 : Int) (p5154 : PV) (p5155 : PV) : Option ((PV × PV × Int × PV)) :=
 getA2 p5150 fun p5160 p5161 =>
 getL p5160 fun n5163 c5164 =>
 getL p5161 fun n5166 c5167 =>
 casN n5163 1 (
  bnd' (m60 N c5164 (.lst false n5166 c5167)) fun o =>
  match o with
  | (n5170, n5171, c5172) =>
   bnd' (m53 N (.lst false n5166 c5167)) fun (n5173, c5174) =>
   grd (List.length c5174 = n5173) <|
   bnd' (m72_2_L11 N p5151 p5152 x5153 p5154 p5155 c5164 n5166 c5167 n5170 n5171 c5172 n5173 c5174 N 0) fun o =>
   match o with
   | p5248 =>
    some p5248) (
 casN n5163 2 (
  bnd' (m60_2 N c5164 (.lst false n5166 c5167)) fun o =>
  match o with
  | (n5250, n5251, n5252, n5253, c5254) =>
   bnd' (m53 N (.lst false n5166 c5167)) fun (n5255, c5256) =>
   grd (List.length c5256 = n5255) <|
   bnd' (m72_2_L6 N p5151 p5155 c5164 n5166 c5167 n5250 n5251 n5252 n5253 n5255 c5256 N 0 p5152 x5153 p5154 (.lst false 0 []) c5254) fun o =>
   match o with
   | p5613 =>
    some p5613) (
 casN n5163 3 (
  bnd' (m60_3 N c5164 (.lst false n5166 c5167)) fun o =>
  match o with
  | (n5615, n5616, n5617, n5618, n5619, n5620, c5621) =>
   bnd' (m53 N (.lst false n5166 c5167)) fun (n5622, c5623) =>
   grd (List.length c5623 = n5622) <|
   bnd' (m72_2_L0 N p5151 p5155 c5164 n5166 c5167 n5615 n5616 n5617 n5618 n5619 n5620 n5622 c5623 N 0 p5152 x5153 p5154 (.lst false 0 []) (.lst false 0 []) c5621) fun o =>
   match o with
   | p6164 =>
    some p6164) (
 none)))
theorem c72_2 (N : Nat) (p5150 : PV) (p5151 : PV) (p5152 : PV) (x5153 : Int) (p5154 : PV) (p5155 : PV) (r : PV) (p6168 : PV) (x6169 : Int) (p6170 : PV) (h : m72_2 N p5150 p5151 p5152 x5153 p5154 p5155 = some (r, p6168, x6169, p6170)) : V.Fn Try.prog 72 3 [.v p5150, .fn 73 [.v (.ipt [p5151]), .ptr 0 0, .ptr 1 0, .ptr 2 0]] [(0, .p [p5152]), (1, .p [(.int .i64 x5153)]), (2, .p [p5154, p5155])] (fun d ob' => d = .v r ∧ ob' = [(0, .p [p6168]), (1, .p [(.int .i64 x6169)]), (2, .p [p6170, p5155])]) := by
 unfold m72_2 at h
 refine Fn_of (sz := 80) tab_ok [0, 1, 2, 4, 5, 6, 7, 8, 33, 47, 48, 49, 50, 75, 79] [] Try.func72 rfl rfl rfl (by simp) ?_
 simp only [initSt, initEnv, List.getD_cons_zero, List.getD_cons_succ, List.getD_nil]
 replace h := getA2_some h; obtain ⟨p5160, p5161, h5159, h⟩ := h
 replace h := getL_some h; obtain ⟨n5163, c5164, h5162, h⟩ := h
 replace h := getL_some h; obtain ⟨n5166, c5167, h5165, h⟩ := h
 refine W_sound tab_ok mixed 4 _ _ _ ?_
 simp -implicitDefEqProofs only [go_sem, Nat.reduceBEq, Nat.reduceAdd, Nat.reduceLT, Nat.reduceLeDiff, h5159, h5162, h5165]
 repeat with_reducible refine And.intro (by first | kernel_rfl | decide) ?_
 refine Wp_scopeS (l := 0) rfl ?_
 replace h := casN_some h; rcases h with ⟨rfl, h⟩ | ⟨_, h⟩
 ·replace h := bnd'_some h; obtain ⟨⟨n5170, n5171, c5172⟩, h5169, h⟩ := h
  (try dsimp only at h)
  refine W_sound tab_ok mixed 3 _ _ _ ?_
  simp -implicitDefEqProofs only [go_sem, Nat.reduceBEq, Nat.reduceAdd, Nat.reduceLT]
  repeat with_reducible refine And.intro (by first | kernel_rfl | decide) ?_
  refine Wp_callD [] (c60_a N _ _ _ _ _ h5169) rfl rfl rfl (by first | rfl | (simp only [go_sem, Nat.reduceBEq, Nat.reduceAdd, Nat.reduceSub, Nat.reduceMul, Nat.reduceLT, Nat.reduceLeDiff, Int.reduceLE, Int.reduceLT, Int.reduceToNat, Int.reduceBEq, Int.reduceBNe, ↓reduceIte, Int.reduceAdd, Int.reduceSub, Int.reduceGT, Int.reduceGE, h5159, h5162, h5165] <;> rfl)) rfl (by kernel_rfl) ?_
  replace h := bnd'_some h; obtain ⟨⟨n5173, c5174⟩, h5175, h⟩ := h
  (try dsimp only at h)
  refine W_sound tab_ok mixed 6 _ _ _ ?_
  simp -implicitDefEqProofs only [go_sem, Nat.reduceBEq, Nat.reduceAdd, Nat.reduceSub, Nat.reduceMul, Nat.reduceLT, Nat.reduceLeDiff]
  repeat with_reducible refine And.intro (by first | kernel_rfl | decide) ?_
  refine Wp_callD [] (c53 N _ _ _ h5175) rfl rfl rfl (by first | rfl | (simp only [go_sem, Nat.reduceBEq, Nat.reduceAdd, Nat.reduceSub, Nat.reduceMul, Nat.reduceLT, Nat.reduceLeDiff, Int.reduceLE, Int.reduceLT, Int.reduceToNat, Int.reduceBEq, Int.reduceBNe, ↓reduceIte, Int.reduceAdd, Int.reduceSub, Int.reduceGT, Int.reduceGE, h5159, h5162, h5165] <;> rfl)) rfl (by kernel_rfl) ?_
  refine W_sound tab_ok mixed 8 _ _ _ ?_
  simp -implicitDefEqProofs only [go_sem, Nat.reduceBEq, Nat.reduceAdd, Nat.reduceSub, Nat.reduceMul, Nat.reduceLT, Nat.reduceLeDiff]
  repeat with_reducible refine And.intro (by first | kernel_rfl | decide) ?_
  replace h := grd_some h; obtain ⟨g5176, h⟩ := h
  refine Wp_wkK (Wk_freeze 1030 c5174 (by rfl) (by decide) (by decide)) rfl ?_
  simp -implicitDefEqProofs only [go_sem, Nat.reduceBEq, g5176]
  (try simp -implicitDefEqProofs only [go_sem, Nat.reduceBEq, Nat.reduceAdd, Nat.reduceSub, Nat.reduceMul, Nat.reduceLT, Nat.reduceLeDiff, Int.reduceLE, Int.reduceLT, Int.reduceToNat, Int.reduceBEq, Int.reduceBNe, ↓reduceIte, Int.reduceAdd, Int.reduceSub, Int.reduceGT, Int.reduceGE, h5159, h5162, h5165, g5176])
  replace h := bnd'_some h; obtain ⟨o6171, h6172, h6173⟩ := h
  refine Wp_labelS (fun n s => ∃ x5177, m72_2_L11 N p5151 p5152 x5153 p5154 p5155 c5164 n5166 c5167 n5170 n5171 c5172 n5173 c5174 n x5177 = some o6171 ∧ s = ⟨[], [(0, .dead), (1, .fn 73 [.v (.ipt [p5151]), .ptr 0 0, .ptr 1 0, .ptr 2 0]), (2, .ptr 3 0), (4, .sl false 4 0 1 1), (5, .ptr 5 0), (6, .v (.int .i64 x5177)), (7, .dead), (8, .dead), (33, .dead), (47, .dead), (48, .dead), (49, .dead), (50, .dead), (75, .dead), (79, .dead)], [(0, .p [p5152]), (1, .p [(.int .i64 x5153)]), (2, .p [p5154, p5155]), (3, .p [(.lst false 1 c5164), (.lst false n5166 c5167)]), (4, .r [.sl true 6 n5170 n5171 1]), (5, .p [(.lst false n5173 c5174), .nl, .nl, .nl]), (6, .p c5172)], 7, []⟩) N _ (by kernel_rfl) (Wk_keep (st' := ⟨[], [(0, .dead), (1, .fn 73 [.v (.ipt [p5151]), .ptr 0 0, .ptr 1 0, .ptr 2 0]), (2, .ptr 3 0), (4, .sl false 4 0 1 1), (5, .ptr 5 0), (6, .v (.int .i64 0)), (7, .dead), (8, .dead), (33, .dead), (47, .dead), (48, .dead), (49, .dead), (50, .dead), (75, .dead), (79, .dead)], [(0, .p [p5152]), (1, .p [(.int .i64 x5153)]), (2, .p [p5154, p5155]), (3, .p [(.lst false 1 c5164), (.lst false n5166 c5167)]), (4, .r [.sl true 6 n5170 n5171 1]), (5, .p [(.lst false n5173 c5174), .nl, .nl, .nl]), (6, .p c5172)], 7, []⟩) [1, 2, 4, 5, 6] (by kernel_rfl)) ⟨_, h6172, rfl⟩ ?_
  clear h6172
  rintro n _ ⟨x5177, h6172, rfl⟩
  cases n with
  | zero => cases h6172
  | succ n =>
   rw [m72_2_L11] at h6172
   (try simp -implicitDefEqProofs only [go_sem, Nat.reduceBEq, Nat.reduceAdd, Nat.reduceSub, Nat.reduceMul, Nat.reduceLT, Nat.reduceLeDiff, Int.reduceLE, Int.reduceLT, Int.reduceToNat, Int.reduceBEq, Int.reduceBNe, ↓reduceIte, Int.reduceAdd, Int.reduceSub, Int.reduceGT, Int.reduceGE, h5159, h5162, h5165, g5176])
   replace h6172 := bnd'_some h6172; obtain ⟨o6174, h6175, h6176⟩ := h6172
   refine Wp_seq1 (fun s => ∃ c5186, c5186 = o6174 ∧ s = ⟨[], [(0, .dead), (1, .fn 73 [.v (.ipt [p5151]), .ptr 0 0, .ptr 1 0, .ptr 2 0]), (2, .ptr 3 0), (4, .sl false 4 0 1 1), (5, .ptr 5 0), (6, .v (.int .i64 0)), (7, .dead), (8, .dead), (33, .dead), (47, .dead), (48, .dead), (49, .dead), (50, .dead), (75, .dead), (79, .dead)], [(0, .p [p5152]), (1, .p [(.int .i64 x5153)]), (2, .p [p5154, p5155]), (3, .p [(.lst false 1 c5164), (.lst false n5166 c5167)]), (4, .r [.sl true 6 n5170 n5171 1]), (5, .p [(.lst false n5173 c5174), .nl, .nl, .nl]), (6, .p c5186)], 7, []⟩) ?_ ?_
   ·clear h6176
    unfold m72_2_L12 at h6175
    replace h6175 := casI_some h6175; rcases h6175 with ⟨rfl, h6175⟩ | ⟨_, h6175⟩
    ·replace h6175 := grd_some h6175; obtain ⟨g5179, h6175⟩ := h6175
     replace h6175 := getI_some h6175; obtain ⟨x5181, h5180, h6175⟩ := h6175
     replace h6175 := bnd'_some h6175; obtain ⟨⟨p5182, c5184⟩, h5183, h6175⟩ := h6175
     (try dsimp only at h6175)
     refine W_sound tab_ok mixed 13 _ _ _ ?_
     simp -implicitDefEqProofs only [go_sem, Nat.reduceBEq, Nat.reduceAdd, Nat.reduceLT, Nat.reduceLeDiff, Int.reduceLT, g5179, h5180]
     repeat with_reducible refine And.intro (by first | kernel_rfl | decide) ?_
     refine Wp_callD [6] (c95 N _ _ _ _ _ _ _ h5183) rfl rfl rfl (by first | rfl | (simp only [go_sem, Nat.reduceBEq, Nat.reduceAdd, Nat.reduceSub, Nat.reduceMul, Nat.reduceLT, Nat.reduceLeDiff, Int.reduceLE, Int.reduceLT, Int.reduceToNat, Int.reduceBEq, Int.reduceBNe, ↓reduceIte, Int.reduceAdd, Int.reduceSub, Int.reduceGT, Int.reduceGE, h5159, h5162, h5165, g5176, g5179, h5180] <;> rfl)) rfl (by kernel_rfl) ?_
     replace h6175 := getT0_some h6175; obtain ⟨h5185, h6175⟩ := h6175
     refine W_sound tab_ok mixed 1 _ _ _ ?_
     simp -implicitDefEqProofs only [go_sem, Nat.reduceBEq, Nat.reduceAdd, Nat.reduceSub, Nat.reduceMul, Nat.reduceLT, h5185]
     repeat with_reducible refine And.intro (by first | kernel_rfl | decide) ?_
     obtain rfl := Option.some.inj h6175
     refine cutQ _ ?_ ⟨_, rfl, rfl⟩
     exact Wk_keep [1, 2, 4, 5, 6] (by kernel_rfl)
    ·skip
     cases h6175
   ·rintro _ ⟨c5186, rfl, rfl⟩
    (try simp -implicitDefEqProofs only [go_sem, Nat.reduceBEq, Nat.reduceAdd, Nat.reduceSub, Nat.reduceMul, Nat.reduceLT, Nat.reduceLeDiff, Int.reduceLE, Int.reduceLT, Int.reduceToNat, Int.reduceBEq, Int.reduceBNe, ↓reduceIte, Int.reduceAdd, Int.reduceSub, Int.reduceGT, Int.reduceGE, h5159, h5162, h5165, g5176])
    replace h6176 := bnd'_some h6176; obtain ⟨o6177, h6178, h6179⟩ := h6176
    refine Wp_cut (fun _ => False) ?_ ?_
    ·refine Wp_block ?_
     refine Wp_loopG (fun n s => ∃ x5215, ∃ p5216, ∃ x5217, ∃ p5218, ∃ c5219, m72_2_L13 N p5151 p5155 c5164 n5166 c5167 n5170 n5171 n5173 c5174 n x5215 p5216 x5217 p5218 c5219 = some o6177 ∧ s = ⟨[], [(0, .dead), (1, .fn 73 [.v (.ipt [p5151]), .ptr 0 0, .ptr 1 0, .ptr 2 0]), (2, .ptr 3 0), (4, .sl false 4 0 1 1), (5, .ptr 5 0), (6, .v (.int .i64 x5215)), (7, .dead), (8, .dead), (33, .dead), (47, .dead), (48, .dead), (49, .dead), (50, .dead), (75, .dead), (79, .dead)], [(0, .p [p5216]), (1, .p [(.int .i64 x5217)]), (2, .p [p5218, p5155]), (3, .p [(.lst false 1 c5164), (.lst false n5166 c5167)]), (4, .r [.sl true 6 n5170 n5171 1]), (5, .p [(.lst false n5173 c5174), .nl, .nl, .nl]), (6, .p c5219)], 7, []⟩) N _ ?_ ⟨_, _, _, _, _, h6178, rfl⟩ ?_
     ·exact Wk_keep [1, 2, 4, 5, 6] (by kernel_rfl)
     clear h6178
     rintro n _ ⟨x5215, p5216, x5217, p5218, c5219, h6178, rfl⟩
     cases n with
     | zero => cases h6178
     | succ n =>
      rw [m72_2_L13] at h6178
      replace h6178 := brn_some h6178; rcases h6178 with ⟨h5220, h6178⟩ | ⟨h5220, h6178⟩
      ·replace h6178 := bnd'_some h6178; obtain ⟨⟨p5221, p5223, x5224, p5225⟩, h5222, h6178⟩ := h6178
       (try dsimp only at h6178)
       refine W_sound tab_ok mixed 15 _ _ _ ?_
       simp -implicitDefEqProofs only [go_sem, Nat.reduceBEq, Nat.reduceAdd, Nat.reduceLT, Nat.reduceLeDiff, Int.reduceLE, Int.reduceToNat, ↓reduceIte, Int.reduceSub, h5220]
       repeat with_reducible refine And.intro (by first | kernel_rfl | decide) ?_
       refine Wp_callD [4, 6, 0, 1, 2] (c73 N _ _ _ _ _ _ _ _ _ _ _ _ h5222) rfl rfl rfl (by first | rfl | (simp only [go_sem, Nat.reduceBEq, Nat.reduceAdd, Nat.reduceSub, Nat.reduceMul, Nat.reduceLT, Nat.reduceLeDiff, Int.reduceLE, Int.reduceLT, Int.reduceToNat, Int.reduceBEq, Int.reduceBNe, ↓reduceIte, Int.reduceAdd, Int.reduceSub, Int.reduceGT, Int.reduceGE, h5159, h5162, h5165, g5176, h5220] <;> rfl)) rfl (by kernel_rfl) ?_
       replace h6178 := getT0_some h6178; obtain ⟨h5226, h6178⟩ := h6178
       refine W_sound tab_ok mixed 1 _ _ _ ?_
       simp -implicitDefEqProofs only [go_sem, Nat.reduceBEq, Nat.reduceAdd, Nat.reduceSub, Nat.reduceMul, Nat.reduceLT, h5226]
       repeat with_reducible refine And.intro (by first | kernel_rfl | decide) ?_
       replace h6178 := bnd'_some h6178; obtain ⟨o6180, h6181, h6182⟩ := h6178
       refine Wp_cut (fun s => ∃ c5235, (.inl c5235) = o6180 ∧ s = ⟨[], [(0, .dead), (1, .fn 73 [.v (.ipt [p5151]), .ptr 0 0, .ptr 1 0, .ptr 2 0]), (2, .ptr 3 0), (4, .sl false 4 0 1 1), (5, .ptr 5 0), (6, .v (.int .i64 0)), (7, .dead), (8, .dead), (33, .dead), (47, .dead), (48, .dead), (49, .dead), (50, .dead), (75, .dead), (79, .dead)], [(0, .p [p5223]), (1, .p [(.int .i64 x5224)]), (2, .p [p5225, p5155]), (3, .p [(.lst false 1 c5164), (.lst false n5166 c5167)]), (4, .r [.sl true 6 n5170 n5171 1]), (5, .p [(.lst false n5173 c5174), .nl, .nl, .nl]), (6, .p c5235)], 7, []⟩) ?_ ?_
       ·refine Wp_block ?_
        refine Wp_loopG (fun n s => ∃ x5227, m72_2_L14 N p5151 p5155 c5164 n5166 c5167 n5170 n5171 n5173 c5174 c5219 p5223 x5224 p5225 n x5227 = some o6180 ∧ s = ⟨[], [(0, .dead), (1, .fn 73 [.v (.ipt [p5151]), .ptr 0 0, .ptr 1 0, .ptr 2 0]), (2, .ptr 3 0), (4, .sl false 4 0 1 1), (5, .ptr 5 0), (6, .v (.int .i64 x5227)), (7, .dead), (8, .dead), (33, .dead), (47, .dead), (48, .dead), (49, .dead), (50, .dead), (75, .dead), (79, .dead)], [(0, .p [p5223]), (1, .p [(.int .i64 x5224)]), (2, .p [p5225, p5155]), (3, .p [(.lst false 1 c5164), (.lst false n5166 c5167)]), (4, .r [.sl true 6 n5170 n5171 1]), (5, .p [(.lst false n5173 c5174), .nl, .nl, .nl]), (6, .p c5219)], 7, []⟩) N _ ?_ ⟨_, h6181, rfl⟩ ?_
        ·exact Wk_keep [1, 2, 4, 5, 6] (by kernel_rfl)
        clear h6181
        rintro n _ ⟨x5227, h6181, rfl⟩
        cases n with
        | zero => cases h6181
        | succ n =>
         rw [m72_2_L14] at h6181
         replace h6181 := casI_some h6181; rcases h6181 with ⟨rfl, h6181⟩ | ⟨_, h6181⟩
         ·replace h6181 := bnd'_some h6181; obtain ⟨⟨p5229, c5231⟩, h5230, h6181⟩ := h6181
          (try dsimp only at h6181)
          refine W_sound tab_ok mixed 10 _ _ _ ?_
          simp -implicitDefEqProofs only [go_sem, Nat.reduceBEq, Nat.reduceAdd, Nat.reduceLT, Nat.reduceLeDiff, Int.reduceLT]
          repeat with_reducible refine And.intro (by first | kernel_rfl | decide) ?_
          refine Wp_callD [6] (c96 N _ _ _ _ _ _ h5230) rfl rfl rfl (by first | rfl | (simp only [go_sem, Nat.reduceBEq, Nat.reduceAdd, Nat.reduceSub, Nat.reduceMul, Nat.reduceLT, Nat.reduceLeDiff, Int.reduceLE, Int.reduceLT, Int.reduceToNat, Int.reduceBEq, Int.reduceBNe, ↓reduceIte, Int.reduceAdd, Int.reduceSub, Int.reduceGT, Int.reduceGE, h5159, h5162, h5165, g5176, h5220, h5226] <;> rfl)) rfl (by kernel_rfl) ?_
          replace h6181 := getB_some h6181; obtain ⟨b5233, h5232, h6181⟩ := h6181
          replace h6181 := brn_some h6181; rcases h6181 with ⟨h5234, h6181⟩ | ⟨h5234, h6181⟩
          ·refine W_sound tab_ok mixed 4 _ _ _ ?_
           simp -implicitDefEqProofs only [go_sem, Nat.reduceBEq, Nat.reduceAdd, Nat.reduceSub, Nat.reduceMul, Nat.reduceLT, h5232, h5234]
           repeat with_reducible refine And.intro (by first | kernel_rfl | decide) ?_
           obtain rfl := Option.some.inj h6181
           refine cutQ _ ?_ ⟨_, rfl, rfl⟩
           exact Wk_keep [1, 2, 4, 5, 6] (by kernel_rfl)
          ·refine W_sound tab_ok mixed 19 _ _ _ ?_
           simp -implicitDefEqProofs only [go_sem, Nat.reduceBEq, Nat.reduceAdd, Nat.reduceSub, Nat.reduceMul, Nat.reduceLT, Int.reduceLE, Int.reduceLT, Int.reduceToNat, ↓reduceIte, Int.reduceSub, h5232, h5234]
           repeat with_reducible refine And.intro (by first | kernel_rfl | decide) ?_
           obtain rfl := Option.some.inj h6181
           (try dsimp only at h6182)
           obtain rfl := Option.some.inj h6182
           (try dsimp only at h6179)
           obtain rfl := Option.some.inj h6179
           (try dsimp only at h6173)
           simp only [Option.some.injEq, Prod.mk.injEq] at h6173; obtain ⟨rfl, rfl, rfl, rfl⟩ := h6173
           exact finD (st' := ⟨[], [(0, .dead), (1, .dead), (2, .dead), (4, .dead), (5, .dead), (6, .dead), (7, .dead), (8, .dead), (33, .dead), (47, .dead), (48, .dead), (49, .dead), (50, .dead), (75, .dead), (79, .dead)], [(0, .p [p5223]), (1, .p [(.int .i64 x5224)]), (2, .p [p5225, p5155])], 3, []⟩) (keepE_le [] _) (OLe.refl _) (by kernel_rfl) (by simp only [go_sem, resQ_nil, retD_none]; (try simp [R.val, retD_one, retD_two, retD_three, retD_none]); try assumption)
         ·skip
          cases h6181
       ·rintro _ ⟨c5235, rfl, rfl⟩
        (try dsimp only at h6182)
        refine W_sound tab_ok mixed 1 _ _ _ ?_
        simp -implicitDefEqProofs only [go_sem]
        repeat with_reducible refine And.intro (by first | kernel_rfl | decide) ?_
        refine cutQ _ ?_ ⟨n, Nat.lt_succ_self n, _, _, _, _, _, h6182, rfl⟩
        exact Wk_keep [1, 2, 4, 5, 6] (by kernel_rfl)
      ·replace h6178 := casI_some h6178; rcases h6178 with ⟨rfl, h6178⟩ | ⟨_, h6178⟩
       ·cases h6178
       ·skip
        replace h6178 := casI_some h6178; rcases h6178 with ⟨rfl, h6178⟩ | ⟨_, h6178⟩
        ·replace h6178 := bnd'_some h6178; obtain ⟨⟨n5238, c5239⟩, h5240, h6178⟩ := h6178
         (try dsimp only at h6178)
         refine W_sound tab_ok mixed 19 _ _ _ ?_
         simp -implicitDefEqProofs only [go_sem, Nat.reduceBEq, Nat.reduceAdd, Nat.reduceLT, Nat.reduceLeDiff, Int.reduceLE, Int.reduceLT, Int.reduceToNat, ↓reduceIte, Int.reduceAdd, Int.reduceSub, h5220]
         repeat with_reducible refine And.intro (by first | kernel_rfl | decide) ?_
         refine Wp_callD [] (c53_2 N  _ _ h5240) rfl rfl rfl (by first | rfl | (simp only [go_sem, Nat.reduceBEq, Nat.reduceAdd, Nat.reduceSub, Nat.reduceMul, Nat.reduceLT, Nat.reduceLeDiff, Int.reduceLE, Int.reduceLT, Int.reduceToNat, Int.reduceBEq, Int.reduceBNe, ↓reduceIte, Int.reduceAdd, Int.reduceSub, Int.reduceGT, Int.reduceGE, h5159, h5162, h5165, g5176, h5220] <;> rfl)) rfl (by kernel_rfl) ?_
         cases h6178
        ·skip
         replace h6178 := casI_some h6178; rcases h6178 with ⟨rfl, h6178⟩ | ⟨_, h6178⟩
         ·replace h6178 := bnd'_some h6178; obtain ⟨⟨n5241, c5242⟩, h5243, h6178⟩ := h6178
          (try dsimp only at h6178)
          refine W_sound tab_ok mixed 19 _ _ _ ?_
          simp -implicitDefEqProofs only [go_sem, Nat.reduceBEq, Nat.reduceAdd, Nat.reduceLT, Nat.reduceLeDiff, Int.reduceLE, Int.reduceLT, Int.reduceToNat, ↓reduceIte, Int.reduceAdd, Int.reduceSub, h5220]
          repeat with_reducible refine And.intro (by first | kernel_rfl | decide) ?_
          refine Wp_callD [] (c53_2 N  _ _ h5243) rfl rfl rfl (by first | rfl | (simp only [go_sem, Nat.reduceBEq, Nat.reduceAdd, Nat.reduceSub, Nat.reduceMul, Nat.reduceLT, Nat.reduceLeDiff, Int.reduceLE, Int.reduceLT, Int.reduceToNat, Int.reduceBEq, Int.reduceBNe, ↓reduceIte, Int.reduceAdd, Int.reduceSub, Int.reduceGT, Int.reduceGE, h5159, h5162, h5165, g5176, h5220] <;> rfl)) rfl (by kernel_rfl) ?_
          cases h6178
         ·skip
          replace h6178 := casI_some h6178; rcases h6178 with ⟨rfl, h6178⟩ | ⟨_, h6178⟩
          ·replace h6178 := bnd'_some h6178; obtain ⟨⟨n5244, c5245⟩, h5246, h6178⟩ := h6178
           (try dsimp only at h6178)
           refine W_sound tab_ok mixed 19 _ _ _ ?_
           simp -implicitDefEqProofs only [go_sem, Nat.reduceBEq, Nat.reduceAdd, Nat.reduceLT, Nat.reduceLeDiff, Int.reduceLE, Int.reduceLT, Int.reduceToNat, ↓reduceIte, Int.reduceAdd, Int.reduceSub, h5220]
           repeat with_reducible refine And.intro (by first | kernel_rfl | decide) ?_
           refine Wp_callD [] (c53_2 N  _ _ h5246) rfl rfl rfl (by first | rfl | (simp only [go_sem, Nat.reduceBEq, Nat.reduceAdd, Nat.reduceSub, Nat.reduceMul, Nat.reduceLT, Nat.reduceLeDiff, Int.reduceLE, Int.reduceLT, Int.reduceToNat, Int.reduceBEq, Int.reduceBNe, ↓reduceIte, Int.reduceAdd, Int.reduceSub, Int.reduceGT, Int.reduceGE, h5159, h5162, h5165, g5176, h5220] <;> rfl)) rfl (by kernel_rfl) ?_
           cases h6178
          ·skip
           cases h6178
    ·intro _ hf; exact hf.elim
 ·skip
  replace h := casN_some h; rcases h with ⟨rfl, h⟩ | ⟨_, h⟩
  ·replace h := bnd'_some h; obtain ⟨⟨n5250, n5251, n5252, n5253, c5254⟩, h5249, h⟩ := h
   (try dsimp only at h)
   refine W_sound tab_ok mixed 3 _ _ _ ?_
   simp -implicitDefEqProofs only [go_sem, Nat.reduceBEq, Nat.reduceAdd, Nat.reduceLT]
   repeat with_reducible refine And.intro (by first | kernel_rfl | decide) ?_
   refine Wp_callD [] (c60_2_a N _ _ _ _ _ _ _ h5249) rfl rfl rfl (by first | rfl | (simp only [go_sem, Nat.reduceBEq, Nat.reduceAdd, Nat.reduceSub, Nat.reduceMul, Nat.reduceLT, Nat.reduceLeDiff, Int.reduceLE, Int.reduceLT, Int.reduceToNat, Int.reduceBEq, Int.reduceBNe, ↓reduceIte, Int.reduceAdd, Int.reduceSub, Int.reduceGT, Int.reduceGE, h5159, h5162, h5165] <;> rfl)) rfl (by kernel_rfl) ?_
   replace h := bnd'_some h; obtain ⟨⟨n5255, c5256⟩, h5257, h⟩ := h
   (try dsimp only at h)
   refine W_sound tab_ok mixed 6 _ _ _ ?_
   simp -implicitDefEqProofs only [go_sem, Nat.reduceBEq, Nat.reduceAdd, Nat.reduceSub, Nat.reduceMul, Nat.reduceLT, Nat.reduceLeDiff]
   repeat with_reducible refine And.intro (by first | kernel_rfl | decide) ?_
   refine Wp_callD [] (c53 N _ _ _ h5257) rfl rfl rfl (by first | rfl | (simp only [go_sem, Nat.reduceBEq, Nat.reduceAdd, Nat.reduceSub, Nat.reduceMul, Nat.reduceLT, Nat.reduceLeDiff, Int.reduceLE, Int.reduceLT, Int.reduceToNat, Int.reduceBEq, Int.reduceBNe, ↓reduceIte, Int.reduceAdd, Int.reduceSub, Int.reduceGT, Int.reduceGE, h5159, h5162, h5165] <;> rfl)) rfl (by kernel_rfl) ?_
   refine W_sound tab_ok mixed 8 _ _ _ ?_
   simp -implicitDefEqProofs only [go_sem, Nat.reduceBEq, Nat.reduceAdd, Nat.reduceSub, Nat.reduceMul, Nat.reduceLT, Nat.reduceLeDiff]
   repeat with_reducible refine And.intro (by first | kernel_rfl | decide) ?_
   replace h := grd_some h; obtain ⟨g5258, h⟩ := h
   refine Wp_wkK (Wk_freeze 1030 c5256 (by rfl) (by decide) (by decide)) rfl ?_
   simp -implicitDefEqProofs only [go_sem, Nat.reduceBEq, g5258]
   (try simp -implicitDefEqProofs only [go_sem, Nat.reduceBEq, Nat.reduceAdd, Nat.reduceSub, Nat.reduceMul, Nat.reduceLT, Nat.reduceLeDiff, Int.reduceLE, Int.reduceLT, Int.reduceToNat, Int.reduceBEq, Int.reduceBNe, ↓reduceIte, Int.reduceAdd, Int.reduceSub, Int.reduceGT, Int.reduceGE, h5159, h5162, h5165, g5258])
   replace h := bnd'_some h; obtain ⟨o6183, h6184, h6185⟩ := h
   refine Wp_labelS (fun n s => ∃ x5404, ∃ p5405, ∃ x5406, ∃ p5407, ∃ p5408, ∃ c5409, m72_2_L6 N p5151 p5155 c5164 n5166 c5167 n5250 n5251 n5252 n5253 n5255 c5256 n x5404 p5405 x5406 p5407 p5408 c5409 = some o6183 ∧ s = ⟨[], [(0, .dead), (1, .fn 73 [.v (.ipt [p5151]), .ptr 0 0, .ptr 1 0, .ptr 2 0]), (2, .ptr 3 0), (4, .sl false 4 0 2 1), (5, .ptr 5 0), (6, .v (.int .i64 x5404)), (7, .dead), (8, .dead), (33, .dead), (47, .dead), (48, .dead), (49, .dead), (50, .dead), (75, .dead), (79, .dead)], [(0, .p [p5405]), (1, .p [(.int .i64 x5406)]), (2, .p [p5407, p5155]), (3, .p [(.lst false 2 c5164), (.lst false n5166 c5167)]), (4, .r [.sl true 6 n5250 n5251 1, .sl true 6 n5252 n5253 1]), (5, .p [(.lst false n5255 c5256), p5408, .nl, .nl]), (6, .p c5409)], 7, []⟩) N _ (by kernel_rfl) ((Wk_le (.cons _ _ _ _ _ (.dead _) (.cons _ _ _ _ _ (.refl _) (.cons _ _ _ _ _ (.refl _) (.cons _ _ _ _ _ (.refl _) (.cons _ _ _ _ _ (.refl _) (.cons _ _ _ _ _ (.refl _) (.cons _ _ _ _ _ (.refl _) (.cons _ _ _ _ _ (.refl _) (.cons _ _ _ _ _ (.refl _) (.cons _ _ _ _ _ (.refl _) (.cons _ _ _ _ _ (.refl _) (.cons _ _ _ _ _ (.refl _) (.cons _ _ _ _ _ (.refl _) (.cons _ _ _ _ _ (.refl _) (.cons _ _ _ _ _ (.refl _) .nil))))))))))))))) (.cons _ _ _ _ _ (DLes.refl _) (.cons _ _ _ _ _ (DLes.refl _) (.cons _ _ _ _ _ (DLes.refl _) (.cons _ _ _ _ _ (DLes.refl _) (.cons _ _ _ _ _ (DLes.refl _) (.cons _ _ _ _ _ (DLes.refl _) (.cons _ (.p _) (.p _) _ _ (DLes.of_p (.cons _ _ _ _ (.refl _) (.cons _ _ _ _ (.nl false) (.cons _ _ _ _ (.refl _) (.cons _ _ _ _ (.refl _) .nil))))) .nil)))))))).trans (cmpS_ok (st' := ⟨[], [(0, .dead), (1, .fn 73 [.v (.ipt [p5151]), .ptr 0 0, .ptr 1 0, .ptr 2 0]), (2, .ptr 3 0), (4, .sl false 4 0 2 1), (5, .ptr 5 0), (6, .v (.int .i64 0)), (7, .dead), (8, .dead), (33, .dead), (47, .dead), (48, .dead), (49, .dead), (50, .dead), (75, .dead), (79, .dead)], [(0, .p [p5152]), (1, .p [(.int .i64 x5153)]), (2, .p [p5154, p5155]), (3, .p [(.lst false 2 c5164), (.lst false n5166 c5167)]), (4, .r [.sl true 6 n5250 n5251 1, .sl true 6 n5252 n5253 1]), (5, .p [(.lst false n5255 c5256), (.lst false 0 []), .nl, .nl]), (6, .p c5254)], 7, []⟩) (by kernel_rfl))) ⟨_, _, _, _, _, _, h6184, rfl⟩ ?_
   clear h6184
   rintro n _ ⟨x5404, p5405, x5406, p5407, p5408, c5409, h6184, rfl⟩
   cases n with
   | zero => cases h6184
   | succ n =>
    rw [m72_2_L6] at h6184
    (try simp -implicitDefEqProofs only [go_sem, Nat.reduceBEq, Nat.reduceAdd, Nat.reduceSub, Nat.reduceMul, Nat.reduceLT, Nat.reduceLeDiff, Int.reduceLE, Int.reduceLT, Int.reduceToNat, Int.reduceBEq, Int.reduceBNe, ↓reduceIte, Int.reduceAdd, Int.reduceSub, Int.reduceGT, Int.reduceGE, h5159, h5162, h5165, g5258])
    replace h6184 := bnd'_some h6184; obtain ⟨o6186, h6187, h6188⟩ := h6184
    refine Wp_seq1 (fun s => ∃ x5428, ∃ p5429, ∃ c5430, (x5428, p5429, c5430) = o6186 ∧ s = ⟨[], [(0, .dead), (1, .fn 73 [.v (.ipt [p5151]), .ptr 0 0, .ptr 1 0, .ptr 2 0]), (2, .ptr 3 0), (4, .sl false 4 0 2 1), (5, .ptr 5 0), (6, .v (.int .i64 x5428)), (7, .dead), (8, .dead), (33, .dead), (47, .dead), (48, .dead), (49, .dead), (50, .dead), (75, .dead), (79, .dead)], [(0, .p [p5405]), (1, .p [(.int .i64 x5406)]), (2, .p [p5407, p5155]), (3, .p [(.lst false 2 c5164), (.lst false n5166 c5167)]), (4, .r [.sl true 6 n5250 n5251 1, .sl true 6 n5252 n5253 1]), (5, .p [(.lst false n5255 c5256), p5429, .nl, .nl]), (6, .p c5430)], 7, []⟩) ?_ ?_
    ·clear h6188
     unfold m72_2_L7 at h6187
     replace h6187 := casI_some h6187; rcases h6187 with ⟨rfl, h6187⟩ | ⟨_, h6187⟩
     ·replace h6187 := grd_some h6187; obtain ⟨g5411, h6187⟩ := h6187
      replace h6187 := getI_some h6187; obtain ⟨x5413, h5412, h6187⟩ := h6187
      replace h6187 := bnd'_some h6187; obtain ⟨⟨p5414, c5416⟩, h5415, h6187⟩ := h6187
      (try dsimp only at h6187)
      refine W_sound tab_ok mixed 13 _ _ _ ?_
      simp -implicitDefEqProofs only [go_sem, Nat.reduceBEq, Nat.reduceAdd, Nat.reduceLT, Nat.reduceLeDiff, Int.reduceLT, g5411, h5412]
      repeat with_reducible refine And.intro (by first | kernel_rfl | decide) ?_
      refine Wp_callD [6] (c95 N _ _ _ _ _ _ _ h5415) rfl rfl rfl (by first | rfl | (simp only [go_sem, Nat.reduceBEq, Nat.reduceAdd, Nat.reduceSub, Nat.reduceMul, Nat.reduceLT, Nat.reduceLeDiff, Int.reduceLE, Int.reduceLT, Int.reduceToNat, Int.reduceBEq, Int.reduceBNe, ↓reduceIte, Int.reduceAdd, Int.reduceSub, Int.reduceGT, Int.reduceGE, h5159, h5162, h5165, g5258, g5411, h5412] <;> rfl)) rfl (by kernel_rfl) ?_
      replace h6187 := getT0_some h6187; obtain ⟨h5417, h6187⟩ := h6187
      refine W_sound tab_ok mixed 1 _ _ _ ?_
      simp -implicitDefEqProofs only [go_sem, Nat.reduceBEq, Nat.reduceAdd, Nat.reduceSub, Nat.reduceMul, Nat.reduceLT, h5417]
      repeat with_reducible refine And.intro (by first | kernel_rfl | decide) ?_
      obtain rfl := Option.some.inj h6187
      refine cutQ _ ?_ ⟨_, _, _, rfl, rfl⟩
      exact Wk_keep [1, 2, 4, 5, 6] (by kernel_rfl)
     ·skip
      replace h6187 := casI_some h6187; rcases h6187 with ⟨rfl, h6187⟩ | ⟨_, h6187⟩
      ·replace h6187 := getL_some h6187; obtain ⟨n5419, c5420, h5418, h6187⟩ := h6187
       replace h6187 := grd_some h6187; obtain ⟨g5421, h6187⟩ := h6187
       replace h6187 := getI_some h6187; obtain ⟨x5423, h5422, h6187⟩ := h6187
       replace h6187 := bnd'_some h6187; obtain ⟨⟨p5424, c5426⟩, h5425, h6187⟩ := h6187
       (try dsimp only at h6187)
       refine W_sound tab_ok mixed 13 _ _ _ ?_
       simp -implicitDefEqProofs only [go_sem, Nat.reduceBEq, Nat.reduceAdd, Nat.reduceLT, Nat.reduceLeDiff, Int.reduceLE, Int.reduceLT, Int.reduceToNat, h5418, g5421, h5422]
       repeat with_reducible refine And.intro (by first | kernel_rfl | decide) ?_
       refine Wp_callD [6] (c95 N _ _ _ _ _ _ _ h5425) rfl rfl rfl (by first | rfl | (simp only [go_sem, Nat.reduceBEq, Nat.reduceAdd, Nat.reduceSub, Nat.reduceMul, Nat.reduceLT, Nat.reduceLeDiff, Int.reduceLE, Int.reduceLT, Int.reduceToNat, Int.reduceBEq, Int.reduceBNe, ↓reduceIte, Int.reduceAdd, Int.reduceSub, Int.reduceGT, Int.reduceGE, h5159, h5162, h5165, g5258, h5418, g5421, h5422] <;> rfl)) rfl (by kernel_rfl) ?_
       replace h6187 := getT0_some h6187; obtain ⟨h5427, h6187⟩ := h6187
       refine W_sound tab_ok mixed 1 _ _ _ ?_
       simp -implicitDefEqProofs only [go_sem, Nat.reduceBEq, Nat.reduceAdd, Nat.reduceSub, Nat.reduceMul, Nat.reduceLT, h5427]
       repeat with_reducible refine And.intro (by first | kernel_rfl | decide) ?_
       obtain rfl := Option.some.inj h6187
       refine cutQ _ ?_ ⟨_, _, _, rfl, rfl⟩
       exact Wk_keep [1, 2, 4, 5, 6] (by kernel_rfl)
      ·skip
       cases h6187
    ·rintro _ ⟨x5428, p5429, c5430, rfl, rfl⟩
     (try dsimp only at h6188)
     (try simp -implicitDefEqProofs only [go_sem, Nat.reduceBEq, Nat.reduceAdd, Nat.reduceSub, Nat.reduceMul, Nat.reduceLT, Nat.reduceLeDiff, Int.reduceLE, Int.reduceLT, Int.reduceToNat, Int.reduceBEq, Int.reduceBNe, ↓reduceIte, Int.reduceAdd, Int.reduceSub, Int.reduceGT, Int.reduceGE, h5159, h5162, h5165, g5258])
     replace h6188 := bnd'_some h6188; obtain ⟨o6189, h6190, h6191⟩ := h6188
     refine Wp_cut (fun _ => False) ?_ ?_
     ·refine Wp_block ?_
      refine Wp_loopG (fun n s => ∃ x5516, ∃ p5517, ∃ x5518, ∃ p5519, ∃ p5520, ∃ c5521, m72_2_L8 N p5151 p5155 c5164 n5166 c5167 n5250 n5251 n5252 n5253 n5255 c5256 n x5516 p5517 x5518 p5519 p5520 c5521 = some o6189 ∧ s = ⟨[], [(0, .dead), (1, .fn 73 [.v (.ipt [p5151]), .ptr 0 0, .ptr 1 0, .ptr 2 0]), (2, .ptr 3 0), (4, .sl false 4 0 2 1), (5, .ptr 5 0), (6, .v (.int .i64 x5516)), (7, .dead), (8, .dead), (33, .dead), (47, .dead), (48, .dead), (49, .dead), (50, .dead), (75, .dead), (79, .dead)], [(0, .p [p5517]), (1, .p [(.int .i64 x5518)]), (2, .p [p5519, p5155]), (3, .p [(.lst false 2 c5164), (.lst false n5166 c5167)]), (4, .r [.sl true 6 n5250 n5251 1, .sl true 6 n5252 n5253 1]), (5, .p [(.lst false n5255 c5256), p5520, .nl, .nl]), (6, .p c5521)], 7, []⟩) N _ ?_ ⟨_, _, _, _, _, _, h6190, rfl⟩ ?_
      ·exact Wk_keep [1, 2, 4, 5, 6] (by kernel_rfl)
      clear h6190
      rintro n _ ⟨x5516, p5517, x5518, p5519, p5520, c5521, h6190, rfl⟩
      cases n with
      | zero => cases h6190
      | succ n =>
       rw [m72_2_L8] at h6190
       replace h6190 := brn_some h6190; rcases h6190 with ⟨h5522, h6190⟩ | ⟨h5522, h6190⟩
       ·replace h6190 := bnd'_some h6190; obtain ⟨⟨p5523, p5525, x5526, p5527⟩, h5524, h6190⟩ := h6190
        (try dsimp only at h6190)
        refine W_sound tab_ok mixed 15 _ _ _ ?_
        simp -implicitDefEqProofs only [go_sem, Nat.reduceBEq, Nat.reduceAdd, Nat.reduceLT, Nat.reduceLeDiff, Int.reduceLE, Int.reduceToNat, ↓reduceIte, Int.reduceSub, h5522]
        repeat with_reducible refine And.intro (by first | kernel_rfl | decide) ?_
        refine Wp_callD [4, 6, 0, 1, 2] (c73_2 N _ _ _ _ _ _ _ _ _ _ _ _ _ _ h5524) rfl rfl rfl (by first | rfl | (simp only [go_sem, Nat.reduceBEq, Nat.reduceAdd, Nat.reduceSub, Nat.reduceMul, Nat.reduceLT, Nat.reduceLeDiff, Int.reduceLE, Int.reduceLT, Int.reduceToNat, Int.reduceBEq, Int.reduceBNe, ↓reduceIte, Int.reduceAdd, Int.reduceSub, Int.reduceGT, Int.reduceGE, h5159, h5162, h5165, g5258, h5522] <;> rfl)) rfl (by kernel_rfl) ?_
        replace h6190 := getT0_some h6190; obtain ⟨h5528, h6190⟩ := h6190
        refine W_sound tab_ok mixed 1 _ _ _ ?_
        simp -implicitDefEqProofs only [go_sem, Nat.reduceBEq, Nat.reduceAdd, Nat.reduceSub, Nat.reduceMul, Nat.reduceLT, h5528]
        repeat with_reducible refine And.intro (by first | kernel_rfl | decide) ?_
        replace h6190 := bnd'_some h6190; obtain ⟨o6192, h6193, h6194⟩ := h6190
        refine Wp_cut (fun s => ∃ x5565, ∃ p5566, ∃ c5567, (.inl (x5565, p5566, c5567)) = o6192 ∧ s = ⟨[], [(0, .dead), (1, .fn 73 [.v (.ipt [p5151]), .ptr 0 0, .ptr 1 0, .ptr 2 0]), (2, .ptr 3 0), (4, .sl false 4 0 2 1), (5, .ptr 5 0), (6, .v (.int .i64 x5565)), (7, .dead), (8, .dead), (33, .dead), (47, .dead), (48, .dead), (49, .dead), (50, .dead), (75, .dead), (79, .dead)], [(0, .p [p5525]), (1, .p [(.int .i64 x5526)]), (2, .p [p5527, p5155]), (3, .p [(.lst false 2 c5164), (.lst false n5166 c5167)]), (4, .r [.sl true 6 n5250 n5251 1, .sl true 6 n5252 n5253 1]), (5, .p [(.lst false n5255 c5256), p5566, .nl, .nl]), (6, .p c5567)], 7, []⟩) ?_ ?_
        ·refine Wp_block ?_
         refine Wp_loopG (fun n s => ∃ x5546, ∃ p5547, ∃ c5548, m72_2_L9 N p5151 p5155 c5164 n5166 c5167 n5250 n5251 n5252 n5253 n5255 c5256 p5525 x5526 p5527 n x5546 p5547 c5548 = some o6192 ∧ s = ⟨[], [(0, .dead), (1, .fn 73 [.v (.ipt [p5151]), .ptr 0 0, .ptr 1 0, .ptr 2 0]), (2, .ptr 3 0), (4, .sl false 4 0 2 1), (5, .ptr 5 0), (6, .v (.int .i64 x5546)), (7, .dead), (8, .dead), (33, .dead), (47, .dead), (48, .dead), (49, .dead), (50, .dead), (75, .dead), (79, .dead)], [(0, .p [p5525]), (1, .p [(.int .i64 x5526)]), (2, .p [p5527, p5155]), (3, .p [(.lst false 2 c5164), (.lst false n5166 c5167)]), (4, .r [.sl true 6 n5250 n5251 1, .sl true 6 n5252 n5253 1]), (5, .p [(.lst false n5255 c5256), p5547, .nl, .nl]), (6, .p c5548)], 7, []⟩) N _ ?_ ⟨_, _, _, h6193, rfl⟩ ?_
         ·exact Wk_keep [1, 2, 4, 5, 6] (by kernel_rfl)
         clear h6193
         rintro n _ ⟨x5546, p5547, c5548, h6193, rfl⟩
         cases n with
         | zero => cases h6193
         | succ n =>
          rw [m72_2_L9] at h6193
          replace h6193 := casI_some h6193; rcases h6193 with ⟨rfl, h6193⟩ | ⟨_, h6193⟩
          ·replace h6193 := bnd'_some h6193; obtain ⟨⟨p5550, c5552⟩, h5551, h6193⟩ := h6193
           (try dsimp only at h6193)
           refine W_sound tab_ok mixed 10 _ _ _ ?_
           simp -implicitDefEqProofs only [go_sem, Nat.reduceBEq, Nat.reduceAdd, Nat.reduceLT, Nat.reduceLeDiff, Int.reduceLT]
           repeat with_reducible refine And.intro (by first | kernel_rfl | decide) ?_
           refine Wp_callD [6] (c96 N _ _ _ _ _ _ h5551) rfl rfl rfl (by first | rfl | (simp only [go_sem, Nat.reduceBEq, Nat.reduceAdd, Nat.reduceSub, Nat.reduceMul, Nat.reduceLT, Nat.reduceLeDiff, Int.reduceLE, Int.reduceLT, Int.reduceToNat, Int.reduceBEq, Int.reduceBNe, ↓reduceIte, Int.reduceAdd, Int.reduceSub, Int.reduceGT, Int.reduceGE, h5159, h5162, h5165, g5258, h5522, h5528] <;> rfl)) rfl (by kernel_rfl) ?_
           replace h6193 := getB_some h6193; obtain ⟨b5554, h5553, h6193⟩ := h6193
           replace h6193 := brn_some h6193; rcases h6193 with ⟨h5555, h6193⟩ | ⟨h5555, h6193⟩
           ·refine W_sound tab_ok mixed 4 _ _ _ ?_
            simp -implicitDefEqProofs only [go_sem, Nat.reduceBEq, Nat.reduceAdd, Nat.reduceSub, Nat.reduceMul, Nat.reduceLT, h5553, h5555]
            repeat with_reducible refine And.intro (by first | kernel_rfl | decide) ?_
            obtain rfl := Option.some.inj h6193
            refine cutQ _ ?_ ⟨_, _, _, rfl, rfl⟩
            exact Wk_keep [1, 2, 4, 5, 6] (by kernel_rfl)
           ·refine W_sound tab_ok mixed 19 _ _ _ ?_
            simp -implicitDefEqProofs only [go_sem, Nat.reduceBEq, Nat.reduceAdd, Nat.reduceSub, Nat.reduceMul, Nat.reduceLT, Int.reduceLE, Int.reduceLT, Int.reduceToNat, ↓reduceIte, Int.reduceSub, h5553, h5555]
            repeat with_reducible refine And.intro (by first | kernel_rfl | decide) ?_
            obtain rfl := Option.some.inj h6193
            (try dsimp only at h6194)
            obtain rfl := Option.some.inj h6194
            (try dsimp only at h6191)
            obtain rfl := Option.some.inj h6191
            (try dsimp only at h6185)
            simp only [Option.some.injEq, Prod.mk.injEq] at h6185; obtain ⟨rfl, rfl, rfl, rfl⟩ := h6185
            exact finD (st' := ⟨[], [(0, .dead), (1, .dead), (2, .dead), (4, .dead), (5, .dead), (6, .dead), (7, .dead), (8, .dead), (33, .dead), (47, .dead), (48, .dead), (49, .dead), (50, .dead), (75, .dead), (79, .dead)], [(0, .p [p5525]), (1, .p [(.int .i64 x5526)]), (2, .p [p5527, p5155])], 3, []⟩) (keepE_le [] _) (OLe.refl _) (by kernel_rfl) (by simp only [go_sem, resQ_nil, retD_none]; (try simp [R.val, retD_one, retD_two, retD_three, retD_none]); try assumption)
          ·skip
           replace h6193 := casI_some h6193; rcases h6193 with ⟨rfl, h6193⟩ | ⟨_, h6193⟩
           ·replace h6193 := getL_some h6193; obtain ⟨n5557, c5558, h5556, h6193⟩ := h6193
            replace h6193 := bnd'_some h6193; obtain ⟨⟨p5559, c5561⟩, h5560, h6193⟩ := h6193
            (try dsimp only at h6193)
            refine W_sound tab_ok mixed 10 _ _ _ ?_
            simp -implicitDefEqProofs only [go_sem, Nat.reduceBEq, Nat.reduceAdd, Nat.reduceLT, Nat.reduceLeDiff, Int.reduceLE, Int.reduceLT, Int.reduceToNat, h5556]
            repeat with_reducible refine And.intro (by first | kernel_rfl | decide) ?_
            refine Wp_callD [6] (c96 N _ _ _ _ _ _ h5560) rfl rfl rfl (by first | rfl | (simp only [go_sem, Nat.reduceBEq, Nat.reduceAdd, Nat.reduceSub, Nat.reduceMul, Nat.reduceLT, Nat.reduceLeDiff, Int.reduceLE, Int.reduceLT, Int.reduceToNat, Int.reduceBEq, Int.reduceBNe, ↓reduceIte, Int.reduceAdd, Int.reduceSub, Int.reduceGT, Int.reduceGE, h5159, h5162, h5165, g5258, h5522, h5528, h5556] <;> rfl)) rfl (by kernel_rfl) ?_
            replace h6193 := getB_some h6193; obtain ⟨b5563, h5562, h6193⟩ := h6193
            replace h6193 := brn_some h6193; rcases h6193 with ⟨h5564, h6193⟩ | ⟨h5564, h6193⟩
            ·refine W_sound tab_ok mixed 4 _ _ _ ?_
             simp -implicitDefEqProofs only [go_sem, Nat.reduceBEq, Nat.reduceAdd, Nat.reduceSub, Nat.reduceMul, Nat.reduceLT, h5562, h5564]
             repeat with_reducible refine And.intro (by first | kernel_rfl | decide) ?_
             obtain rfl := Option.some.inj h6193
             refine cutQ _ ?_ ⟨_, _, _, rfl, rfl⟩
             exact Wk_keep [1, 2, 4, 5, 6] (by kernel_rfl)
            ·refine W_sound tab_ok mixed 19 _ _ _ ?_
             simp -implicitDefEqProofs only [go_sem, Nat.reduceBEq, Nat.reduceAdd, Nat.reduceSub, Nat.reduceMul, Nat.reduceLT, Int.reduceLE, Int.reduceLT, Int.reduceToNat, ↓reduceIte, Int.reduceSub, h5562, h5564]
             repeat with_reducible refine And.intro (by first | kernel_rfl | decide) ?_
             refine cutQ _ ?_ ⟨n, Nat.lt_succ_self n, _, _, _, h6193, rfl⟩
             exact Wk_keep [1, 2, 4, 5, 6] (by kernel_rfl)
           ·skip
            cases h6193
        ·rintro _ ⟨x5565, p5566, c5567, rfl, rfl⟩
         (try dsimp only at h6194)
         refine W_sound tab_ok mixed 1 _ _ _ ?_
         simp -implicitDefEqProofs only [go_sem]
         repeat with_reducible refine And.intro (by first | kernel_rfl | decide) ?_
         refine cutQ _ ?_ ⟨n, Nat.lt_succ_self n, _, _, _, _, _, _, h6194, rfl⟩
         exact Wk_keep [1, 2, 4, 5, 6] (by kernel_rfl)
       ·replace h6190 := casI_some h6190; rcases h6190 with ⟨rfl, h6190⟩ | ⟨_, h6190⟩
        ·replace h6190 := bnd'_some h6190; obtain ⟨⟨n5570, c5571⟩, h5572, h6190⟩ := h6190
         (try dsimp only at h6190)
         refine W_sound tab_ok mixed 19 _ _ _ ?_
         simp -implicitDefEqProofs only [go_sem, Nat.reduceBEq, Nat.reduceAdd, Nat.reduceLT, Nat.reduceLeDiff, Int.reduceLE, Int.reduceLT, Int.reduceToNat, ↓reduceIte, Int.reduceAdd, Int.reduceSub, h5522]
         repeat with_reducible refine And.intro (by first | kernel_rfl | decide) ?_
         refine Wp_callD [] (c53 N _ _ _ h5572) rfl rfl rfl (by first | rfl | (simp only [go_sem, Nat.reduceBEq, Nat.reduceAdd, Nat.reduceSub, Nat.reduceMul, Nat.reduceLT, Nat.reduceLeDiff, Int.reduceLE, Int.reduceLT, Int.reduceToNat, Int.reduceBEq, Int.reduceBNe, ↓reduceIte, Int.reduceAdd, Int.reduceSub, Int.reduceGT, Int.reduceGE, h5159, h5162, h5165, g5258, h5522] <;> rfl)) rfl (by kernel_rfl) ?_
         refine W_sound tab_ok mixed 13 _ _ _ ?_
         simp -implicitDefEqProofs only [go_sem, Nat.reduceBEq, Nat.reduceAdd, Nat.reduceSub, Nat.reduceMul, Nat.reduceLT, Nat.reduceLeDiff, Int.reduceLE, Int.reduceLT, Int.reduceToNat]
         repeat with_reducible refine And.intro (by first | kernel_rfl | decide) ?_
         replace h6190 := bnd'_some h6190; obtain ⟨o6195, h6196, h6197⟩ := h6190
         refine Wp_cut (fun s => ∃ c5598, c5598 = o6195 ∧ s = ⟨[], [(0, .dead), (1, .fn 73 [.v (.ipt [p5151]), .ptr 0 0, .ptr 1 0, .ptr 2 0]), (2, .ptr 3 0), (4, .sl false 4 0 2 1), (5, .ptr 5 0), (6, .v (.int .i64 0)), (7, .dead), (8, .dead), (33, .dead), (47, .dead), (48, .dead), (49, .dead), (50, .dead), (75, .dead), (79, .dead)], [(0, .p [p5517]), (1, .p [(.int .i64 x5518)]), (2, .p [p5519, p5155]), (3, .p [(.lst false 2 c5164), (.lst false n5166 c5167)]), (4, .r [.sl true 6 n5250 n5251 1, .sl true 6 n5252 n5253 1]), (5, .r [.v (.lst false n5255 c5256), .sl false 7 0 n5570 1, .v .nl, .v .nl]), (6, .p c5521), (7, .p c5598)], 8, []⟩) ?_ ?_
         ·refine Wp_block ?_
          refine Wp_loopG (fun n s => ∃ x5585, ∃ c5586, m72_2_L10 N p5151 p5155 c5164 n5166 c5167 n5250 n5251 n5252 n5253 n5255 c5256 p5517 x5518 p5519 c5521 n5570 n x5585 c5586 = some o6195 ∧ s = ⟨[], [(0, .dead), (1, .fn 73 [.v (.ipt [p5151]), .ptr 0 0, .ptr 1 0, .ptr 2 0]), (2, .ptr 3 0), (4, .sl false 4 0 2 1), (5, .ptr 5 0), (6, .v (.int .i64 0)), (7, .dead), (8, .dead), (33, .dead), (47, .sl true 6 n5250 n5251 1), (48, .v (.int .i64 ((n5251 : Nat) : Int))), (49, .v (.int .i64 x5585)), (50, .dead), (75, .dead), (79, .dead)], [(0, .p [p5517]), (1, .p [(.int .i64 x5518)]), (2, .p [p5519, p5155]), (3, .p [(.lst false 2 c5164), (.lst false n5166 c5167)]), (4, .r [.sl true 6 n5250 n5251 1, .sl true 6 n5252 n5253 1]), (5, .r [.v (.lst false n5255 c5256), .sl false 7 0 n5570 1, .v .nl, .v .nl]), (6, .p c5521), (7, .p c5586)], 8, []⟩) N _ ?_ ⟨_, _, h6196, rfl⟩ ?_
          ·exact Wk_keep [1, 2, 4, 5, 6, 47, 48, 49] (by kernel_rfl)
          clear h6196
          rintro n _ ⟨x5585, c5586, h6196, rfl⟩
          cases n with
          | zero => cases h6196
          | succ n =>
           rw [m72_2_L10] at h6196
           replace h6196 := brn_some h6196; rcases h6196 with ⟨h5587, h6196⟩ | ⟨h5587, h6196⟩
           ·replace h6196 := grd_some h6196; obtain ⟨⟨g5588, g5589⟩, h6196⟩ := h6196
            replace h6196 := grd_some h6196; obtain ⟨g5590, h6196⟩ := h6196
            replace h6196 := getI_some h6196; obtain ⟨x5592, h5591, h6196⟩ := h6196
            replace h6196 := grd_some h6196; obtain ⟨g5593, h6196⟩ := h6196
            replace h6196 := grd_some h6196; obtain ⟨g5594, h6196⟩ := h6196
            replace h6196 := getI_some h6196; obtain ⟨x5596, h5595, h6196⟩ := h6196
            replace h6196 := grd_some h6196; obtain ⟨g5597, h6196⟩ := h6196
            refine W_sound tab_ok mixed 35 _ _ _ ?_
            simp -implicitDefEqProofs only [go_sem, Nat.reduceBEq, Nat.reduceAdd, Nat.reduceLT, Nat.reduceLeDiff, Int.reduceLE, Int.reduceLT, Int.reduceToNat, ↓reduceIte, Int.reduceAdd, g5588, g5589, g5590, h5591, g5593, g5594, h5595, g5597]
            repeat with_reducible refine And.intro (by first | kernel_rfl | decide) ?_
            (try rw [h5591] at h6196)
            (try rw [h5595] at h6196)
            refine cutQ _ ?_ ⟨n, Nat.lt_succ_self n, _, _, h6196, rfl⟩
            exact Wk_keep [1, 2, 4, 5, 6, 47, 48, 49] (by kernel_rfl)
           ·refine W_sound tab_ok mixed 7 _ _ _ ?_
            simp -implicitDefEqProofs only [go_sem, Nat.reduceBEq, Nat.reduceLT, ↓reduceIte, h5587]
            repeat with_reducible refine And.intro (by first | kernel_rfl | decide) ?_
            obtain rfl := Option.some.inj h6196
            refine cutQ _ ?_ ⟨_, rfl, rfl⟩
            exact Wk_keep [1, 2, 4, 5, 6] (by kernel_rfl)
         ·rintro _ ⟨c5598, rfl, rfl⟩
          refine W_sound tab_ok mixed 7 _ _ _ ?_
          simp -implicitDefEqProofs only [go_sem, Nat.reduceBEq, Nat.reduceLT, Int.reduceLE, Int.reduceToNat, ↓reduceIte, Int.reduceAdd]
          repeat with_reducible refine And.intro (by first | kernel_rfl | decide) ?_
          replace h6197 := grd_some h6197; obtain ⟨g5599, h6197⟩ := h6197
          refine Wp_wkK (Wk_freeze 7 c5598 (by rfl) (by decide) (by decide)) rfl ?_
          simp -implicitDefEqProofs only [go_sem, Nat.reduceBEq, g5599]
          (try simp -implicitDefEqProofs only [go_sem, Nat.reduceBEq, Nat.reduceAdd, Nat.reduceSub, Nat.reduceMul, Nat.reduceLT, Nat.reduceLeDiff, Int.reduceLE, Int.reduceLT, Int.reduceToNat, Int.reduceBEq, Int.reduceBNe, ↓reduceIte, Int.reduceAdd, Int.reduceSub, Int.reduceGT, Int.reduceGE, h5159, h5162, h5165, g5258, h5522, g5599])
          obtain rfl := Option.some.inj h6197
          (try dsimp only at h6191)
          refine Wp_goto _ rfl ?_ ⟨_, Nat.lt_succ_self _, _, _, _, _, _, _, h6191, rfl⟩
          exact Wk_keep (st' := ⟨[], [(0, .dead), (1, .fn 73 [.v (.ipt [p5151]), .ptr 0 0, .ptr 1 0, .ptr 2 0]), (2, .ptr 3 0), (4, .sl false 4 0 2 1), (5, .ptr 5 0), (6, .v (.int .i64 1)), (7, .dead), (8, .dead), (33, .dead), (47, .dead), (48, .dead), (49, .dead), (50, .dead), (75, .dead), (79, .dead)], [(0, .p [p5517]), (1, .p [(.int .i64 x5518)]), (2, .p [p5519, p5155]), (3, .p [(.lst false 2 c5164), (.lst false n5166 c5167)]), (4, .r [.sl true 6 n5250 n5251 1, .sl true 6 n5252 n5253 1]), (5, .p [(.lst false n5255 c5256), (.lst false n5570 c5598), .nl, .nl]), (6, .p c5521)], 7, []⟩) [1, 2, 4, 5, 6] (by kernel_rfl)
        ·skip
         replace h6190 := casI_some h6190; rcases h6190 with ⟨rfl, h6190⟩ | ⟨_, h6190⟩
         ·cases h6190
         ·skip
          replace h6190 := casI_some h6190; rcases h6190 with ⟨rfl, h6190⟩ | ⟨_, h6190⟩
          ·replace h6190 := bnd'_some h6190; obtain ⟨⟨n5600, c5601⟩, h5602, h6190⟩ := h6190
           (try dsimp only at h6190)
           refine W_sound tab_ok mixed 19 _ _ _ ?_
           simp -implicitDefEqProofs only [go_sem, Nat.reduceBEq, Nat.reduceAdd, Nat.reduceLT, Nat.reduceLeDiff, Int.reduceLE, Int.reduceLT, Int.reduceToNat, ↓reduceIte, Int.reduceAdd, Int.reduceSub, h5522]
           repeat with_reducible refine And.intro (by first | kernel_rfl | decide) ?_
           refine Wp_callD [] (c53_2 N  _ _ h5602) rfl rfl rfl (by first | rfl | (simp only [go_sem, Nat.reduceBEq, Nat.reduceAdd, Nat.reduceSub, Nat.reduceMul, Nat.reduceLT, Nat.reduceLeDiff, Int.reduceLE, Int.reduceLT, Int.reduceToNat, Int.reduceBEq, Int.reduceBNe, ↓reduceIte, Int.reduceAdd, Int.reduceSub, Int.reduceGT, Int.reduceGE, h5159, h5162, h5165, g5258, h5522] <;> rfl)) rfl (by kernel_rfl) ?_
           cases h6190
          ·skip
           replace h6190 := casI_some h6190; rcases h6190 with ⟨rfl, h6190⟩ | ⟨_, h6190⟩
           ·replace h6190 := bnd'_some h6190; obtain ⟨⟨n5603, c5604⟩, h5605, h6190⟩ := h6190
            (try dsimp only at h6190)
            refine W_sound tab_ok mixed 19 _ _ _ ?_
            simp -implicitDefEqProofs only [go_sem, Nat.reduceBEq, Nat.reduceAdd, Nat.reduceLT, Nat.reduceLeDiff, Int.reduceLE, Int.reduceLT, Int.reduceToNat, ↓reduceIte, Int.reduceAdd, Int.reduceSub, h5522]
            repeat with_reducible refine And.intro (by first | kernel_rfl | decide) ?_
            refine Wp_callD [] (c53_2 N  _ _ h5605) rfl rfl rfl (by first | rfl | (simp only [go_sem, Nat.reduceBEq, Nat.reduceAdd, Nat.reduceSub, Nat.reduceMul, Nat.reduceLT, Nat.reduceLeDiff, Int.reduceLE, Int.reduceLT, Int.reduceToNat, Int.reduceBEq, Int.reduceBNe, ↓reduceIte, Int.reduceAdd, Int.reduceSub, Int.reduceGT, Int.reduceGE, h5159, h5162, h5165, g5258, h5522] <;> rfl)) rfl (by kernel_rfl) ?_
            cases h6190
           ·skip
            cases h6190
     ·intro _ hf; exact hf.elim
  ·skip
   replace h := casN_some h; rcases h with ⟨rfl, h⟩ | ⟨_, h⟩
   ·replace h := bnd'_some h; obtain ⟨⟨n5615, n5616, n5617, n5618, n5619, n5620, c5621⟩, h5614, h⟩ := h
    (try dsimp only at h)
    refine W_sound tab_ok mixed 3 _ _ _ ?_
    simp -implicitDefEqProofs only [go_sem, Nat.reduceBEq, Nat.reduceAdd, Nat.reduceLT]
    repeat with_reducible refine And.intro (by first | kernel_rfl | decide) ?_
    refine Wp_callD [] (c60_3_a N _ _ _ _ _ _ _ _ _ h5614) rfl rfl rfl (by first | rfl | (simp only [go_sem, Nat.reduceBEq, Nat.reduceAdd, Nat.reduceSub, Nat.reduceMul, Nat.reduceLT, Nat.reduceLeDiff, Int.reduceLE, Int.reduceLT, Int.reduceToNat, Int.reduceBEq, Int.reduceBNe, ↓reduceIte, Int.reduceAdd, Int.reduceSub, Int.reduceGT, Int.reduceGE, h5159, h5162, h5165] <;> rfl)) rfl (by kernel_rfl) ?_
    replace h := bnd'_some h; obtain ⟨⟨n5622, c5623⟩, h5624, h⟩ := h
    (try dsimp only at h)
    refine W_sound tab_ok mixed 6 _ _ _ ?_
    simp -implicitDefEqProofs only [go_sem, Nat.reduceBEq, Nat.reduceAdd, Nat.reduceSub, Nat.reduceMul, Nat.reduceLT, Nat.reduceLeDiff]
    repeat with_reducible refine And.intro (by first | kernel_rfl | decide) ?_
    refine Wp_callD [] (c53 N _ _ _ h5624) rfl rfl rfl (by first | rfl | (simp only [go_sem, Nat.reduceBEq, Nat.reduceAdd, Nat.reduceSub, Nat.reduceMul, Nat.reduceLT, Nat.reduceLeDiff, Int.reduceLE, Int.reduceLT, Int.reduceToNat, Int.reduceBEq, Int.reduceBNe, ↓reduceIte, Int.reduceAdd, Int.reduceSub, Int.reduceGT, Int.reduceGE, h5159, h5162, h5165] <;> rfl)) rfl (by kernel_rfl) ?_
    refine W_sound tab_ok mixed 8 _ _ _ ?_
    simp -implicitDefEqProofs only [go_sem, Nat.reduceBEq, Nat.reduceAdd, Nat.reduceSub, Nat.reduceMul, Nat.reduceLT, Nat.reduceLeDiff]
    repeat with_reducible refine And.intro (by first | kernel_rfl | decide) ?_
    replace h := grd_some h; obtain ⟨g5625, h⟩ := h
    refine Wp_wkK (Wk_freeze 1030 c5623 (by rfl) (by decide) (by decide)) rfl ?_
    simp -implicitDefEqProofs only [go_sem, Nat.reduceBEq, g5625]
    (try simp -implicitDefEqProofs only [go_sem, Nat.reduceBEq, Nat.reduceAdd, Nat.reduceSub, Nat.reduceMul, Nat.reduceLT, Nat.reduceLeDiff, Int.reduceLE, Int.reduceLT, Int.reduceToNat, Int.reduceBEq, Int.reduceBNe, ↓reduceIte, Int.reduceAdd, Int.reduceSub, Int.reduceGT, Int.reduceGE, h5159, h5162, h5165, g5625])
    replace h := bnd'_some h; obtain ⟨o6198, h6199, h6200⟩ := h
    refine Wp_labelS (fun n s => ∃ x5841, ∃ p5842, ∃ x5843, ∃ p5844, ∃ p5845, ∃ p5846, ∃ c5847, m72_2_L0 N p5151 p5155 c5164 n5166 c5167 n5615 n5616 n5617 n5618 n5619 n5620 n5622 c5623 n x5841 p5842 x5843 p5844 p5845 p5846 c5847 = some o6198 ∧ s = ⟨[], [(0, .dead), (1, .fn 73 [.v (.ipt [p5151]), .ptr 0 0, .ptr 1 0, .ptr 2 0]), (2, .ptr 3 0), (4, .sl false 4 0 3 1), (5, .ptr 5 0), (6, .v (.int .i64 x5841)), (7, .dead), (8, .dead), (33, .dead), (47, .dead), (48, .dead), (49, .dead), (50, .dead), (75, .dead), (79, .dead)], [(0, .p [p5842]), (1, .p [(.int .i64 x5843)]), (2, .p [p5844, p5155]), (3, .p [(.lst false 3 c5164), (.lst false n5166 c5167)]), (4, .r [.sl true 6 n5615 n5616 1, .sl true 6 n5617 n5618 1, .sl true 6 n5619 n5620 1]), (5, .p [(.lst false n5622 c5623), p5845, p5846, .nl]), (6, .p c5847)], 7, []⟩) N _ (by kernel_rfl) ((Wk_le (.cons _ _ _ _ _ (.dead _) (.cons _ _ _ _ _ (.refl _) (.cons _ _ _ _ _ (.refl _) (.cons _ _ _ _ _ (.refl _) (.cons _ _ _ _ _ (.refl _) (.cons _ _ _ _ _ (.refl _) (.cons _ _ _ _ _ (.refl _) (.cons _ _ _ _ _ (.refl _) (.cons _ _ _ _ _ (.refl _) (.cons _ _ _ _ _ (.refl _) (.cons _ _ _ _ _ (.refl _) (.cons _ _ _ _ _ (.refl _) (.cons _ _ _ _ _ (.refl _) (.cons _ _ _ _ _ (.refl _) (.cons _ _ _ _ _ (.refl _) .nil))))))))))))))) (.cons _ _ _ _ _ (DLes.refl _) (.cons _ _ _ _ _ (DLes.refl _) (.cons _ _ _ _ _ (DLes.refl _) (.cons _ _ _ _ _ (DLes.refl _) (.cons _ _ _ _ _ (DLes.refl _) (.cons _ _ _ _ _ (DLes.refl _) (.cons _ (.p _) (.p _) _ _ (DLes.of_p (.cons _ _ _ _ (.refl _) (.cons _ _ _ _ (.nl false) (.cons _ _ _ _ (.nl false) (.cons _ _ _ _ (.refl _) .nil))))) .nil)))))))).trans (cmpS_ok (st' := ⟨[], [(0, .dead), (1, .fn 73 [.v (.ipt [p5151]), .ptr 0 0, .ptr 1 0, .ptr 2 0]), (2, .ptr 3 0), (4, .sl false 4 0 3 1), (5, .ptr 5 0), (6, .v (.int .i64 0)), (7, .dead), (8, .dead), (33, .dead), (47, .dead), (48, .dead), (49, .dead), (50, .dead), (75, .dead), (79, .dead)], [(0, .p [p5152]), (1, .p [(.int .i64 x5153)]), (2, .p [p5154, p5155]), (3, .p [(.lst false 3 c5164), (.lst false n5166 c5167)]), (4, .r [.sl true 6 n5615 n5616 1, .sl true 6 n5617 n5618 1, .sl true 6 n5619 n5620 1]), (5, .p [(.lst false n5622 c5623), (.lst false 0 []), (.lst false 0 []), .nl]), (6, .p c5621)], 7, []⟩) (by kernel_rfl))) ⟨_, _, _, _, _, _, _, h6199, rfl⟩ ?_
    clear h6199
    rintro n _ ⟨x5841, p5842, x5843, p5844, p5845, p5846, c5847, h6199, rfl⟩
    cases n with
    | zero => cases h6199
    | succ n =>
     rw [m72_2_L0] at h6199
     (try simp -implicitDefEqProofs only [go_sem, Nat.reduceBEq, Nat.reduceAdd, Nat.reduceSub, Nat.reduceMul, Nat.reduceLT, Nat.reduceLeDiff, Int.reduceLE, Int.reduceLT, Int.reduceToNat, Int.reduceBEq, Int.reduceBNe, ↓reduceIte, Int.reduceAdd, Int.reduceSub, Int.reduceGT, Int.reduceGE, h5159, h5162, h5165, g5625])
     replace h6199 := bnd'_some h6199; obtain ⟨o6201, h6202, h6203⟩ := h6199
     refine Wp_seq1 (fun s => ∃ x5876, ∃ p5877, ∃ p5878, ∃ c5879, (x5876, p5877, p5878, c5879) = o6201 ∧ s = ⟨[], [(0, .dead), (1, .fn 73 [.v (.ipt [p5151]), .ptr 0 0, .ptr 1 0, .ptr 2 0]), (2, .ptr 3 0), (4, .sl false 4 0 3 1), (5, .ptr 5 0), (6, .v (.int .i64 x5876)), (7, .dead), (8, .dead), (33, .dead), (47, .dead), (48, .dead), (49, .dead), (50, .dead), (75, .dead), (79, .dead)], [(0, .p [p5842]), (1, .p [(.int .i64 x5843)]), (2, .p [p5844, p5155]), (3, .p [(.lst false 3 c5164), (.lst false n5166 c5167)]), (4, .r [.sl true 6 n5615 n5616 1, .sl true 6 n5617 n5618 1, .sl true 6 n5619 n5620 1]), (5, .p [(.lst false n5622 c5623), p5877, p5878, .nl]), (6, .p c5879)], 7, []⟩) ?_ ?_
     ·clear h6203
      unfold m72_2_L1 at h6202
      replace h6202 := casI_some h6202; rcases h6202 with ⟨rfl, h6202⟩ | ⟨_, h6202⟩
      ·replace h6202 := grd_some h6202; obtain ⟨g5849, h6202⟩ := h6202
       replace h6202 := getI_some h6202; obtain ⟨x5851, h5850, h6202⟩ := h6202
       replace h6202 := bnd'_some h6202; obtain ⟨⟨p5852, c5854⟩, h5853, h6202⟩ := h6202
       (try dsimp only at h6202)
       refine W_sound tab_ok mixed 13 _ _ _ ?_
       simp -implicitDefEqProofs only [go_sem, Nat.reduceBEq, Nat.reduceAdd, Nat.reduceLT, Nat.reduceLeDiff, Int.reduceLT, g5849, h5850]
       repeat with_reducible refine And.intro (by first | kernel_rfl | decide) ?_
       refine Wp_callD [6] (c95 N _ _ _ _ _ _ _ h5853) rfl rfl rfl (by first | rfl | (simp only [go_sem, Nat.reduceBEq, Nat.reduceAdd, Nat.reduceSub, Nat.reduceMul, Nat.reduceLT, Nat.reduceLeDiff, Int.reduceLE, Int.reduceLT, Int.reduceToNat, Int.reduceBEq, Int.reduceBNe, ↓reduceIte, Int.reduceAdd, Int.reduceSub, Int.reduceGT, Int.reduceGE, h5159, h5162, h5165, g5625, g5849, h5850] <;> rfl)) rfl (by kernel_rfl) ?_
       replace h6202 := getT0_some h6202; obtain ⟨h5855, h6202⟩ := h6202
       refine W_sound tab_ok mixed 1 _ _ _ ?_
       simp -implicitDefEqProofs only [go_sem, Nat.reduceBEq, Nat.reduceAdd, Nat.reduceSub, Nat.reduceMul, Nat.reduceLT, h5855]
       repeat with_reducible refine And.intro (by first | kernel_rfl | decide) ?_
       obtain rfl := Option.some.inj h6202
       refine cutQ _ ?_ ⟨_, _, _, _, rfl, rfl⟩
       exact Wk_keep [1, 2, 4, 5, 6] (by kernel_rfl)
      ·skip
       replace h6202 := casI_some h6202; rcases h6202 with ⟨rfl, h6202⟩ | ⟨_, h6202⟩
       ·replace h6202 := getL_some h6202; obtain ⟨n5857, c5858, h5856, h6202⟩ := h6202
        replace h6202 := grd_some h6202; obtain ⟨g5859, h6202⟩ := h6202
        replace h6202 := getI_some h6202; obtain ⟨x5861, h5860, h6202⟩ := h6202
        replace h6202 := bnd'_some h6202; obtain ⟨⟨p5862, c5864⟩, h5863, h6202⟩ := h6202
        (try dsimp only at h6202)
        refine W_sound tab_ok mixed 13 _ _ _ ?_
        simp -implicitDefEqProofs only [go_sem, Nat.reduceBEq, Nat.reduceAdd, Nat.reduceLT, Nat.reduceLeDiff, Int.reduceLE, Int.reduceLT, Int.reduceToNat, h5856, g5859, h5860]
        repeat with_reducible refine And.intro (by first | kernel_rfl | decide) ?_
        refine Wp_callD [6] (c95 N _ _ _ _ _ _ _ h5863) rfl rfl rfl (by first | rfl | (simp only [go_sem, Nat.reduceBEq, Nat.reduceAdd, Nat.reduceSub, Nat.reduceMul, Nat.reduceLT, Nat.reduceLeDiff, Int.reduceLE, Int.reduceLT, Int.reduceToNat, Int.reduceBEq, Int.reduceBNe, ↓reduceIte, Int.reduceAdd, Int.reduceSub, Int.reduceGT, Int.reduceGE, h5159, h5162, h5165, g5625, h5856, g5859, h5860] <;> rfl)) rfl (by kernel_rfl) ?_
        replace h6202 := getT0_some h6202; obtain ⟨h5865, h6202⟩ := h6202
        refine W_sound tab_ok mixed 1 _ _ _ ?_
        simp -implicitDefEqProofs only [go_sem, Nat.reduceBEq, Nat.reduceAdd, Nat.reduceSub, Nat.reduceMul, Nat.reduceLT, h5865]
        repeat with_reducible refine And.intro (by first | kernel_rfl | decide) ?_
        obtain rfl := Option.some.inj h6202
        refine cutQ _ ?_ ⟨_, _, _, _, rfl, rfl⟩
        exact Wk_keep [1, 2, 4, 5, 6] (by kernel_rfl)
       ·skip
        replace h6202 := casI_some h6202; rcases h6202 with ⟨rfl, h6202⟩ | ⟨_, h6202⟩
        ·replace h6202 := getL_some h6202; obtain ⟨n5867, c5868, h5866, h6202⟩ := h6202
         replace h6202 := grd_some h6202; obtain ⟨g5869, h6202⟩ := h6202
         replace h6202 := getI_some h6202; obtain ⟨x5871, h5870, h6202⟩ := h6202
         replace h6202 := bnd'_some h6202; obtain ⟨⟨p5872, c5874⟩, h5873, h6202⟩ := h6202
         (try dsimp only at h6202)
         refine W_sound tab_ok mixed 13 _ _ _ ?_
         simp -implicitDefEqProofs only [go_sem, Nat.reduceBEq, Nat.reduceAdd, Nat.reduceLT, Nat.reduceLeDiff, Int.reduceLE, Int.reduceLT, Int.reduceToNat, h5866, g5869, h5870]
         repeat with_reducible refine And.intro (by first | kernel_rfl | decide) ?_
         refine Wp_callD [6] (c95 N _ _ _ _ _ _ _ h5873) rfl rfl rfl (by first | rfl | (simp only [go_sem, Nat.reduceBEq, Nat.reduceAdd, Nat.reduceSub, Nat.reduceMul, Nat.reduceLT, Nat.reduceLeDiff, Int.reduceLE, Int.reduceLT, Int.reduceToNat, Int.reduceBEq, Int.reduceBNe, ↓reduceIte, Int.reduceAdd, Int.reduceSub, Int.reduceGT, Int.reduceGE, h5159, h5162, h5165, g5625, h5866, g5869, h5870] <;> rfl)) rfl (by kernel_rfl) ?_
         replace h6202 := getT0_some h6202; obtain ⟨h5875, h6202⟩ := h6202
         refine W_sound tab_ok mixed 1 _ _ _ ?_
         simp -implicitDefEqProofs only [go_sem, Nat.reduceBEq, Nat.reduceAdd, Nat.reduceSub, Nat.reduceMul, Nat.reduceLT, h5875]
         repeat with_reducible refine And.intro (by first | kernel_rfl | decide) ?_
         obtain rfl := Option.some.inj h6202
         refine cutQ _ ?_ ⟨_, _, _, _, rfl, rfl⟩
         exact Wk_keep [1, 2, 4, 5, 6] (by kernel_rfl)
        ·skip
         cases h6202
     ·rintro _ ⟨x5876, p5877, p5878, c5879, rfl, rfl⟩
      (try dsimp only at h6203)
      (try simp -implicitDefEqProofs only [go_sem, Nat.reduceBEq, Nat.reduceAdd, Nat.reduceSub, Nat.reduceMul, Nat.reduceLT, Nat.reduceLeDiff, Int.reduceLE, Int.reduceLT, Int.reduceToNat, Int.reduceBEq, Int.reduceBNe, ↓reduceIte, Int.reduceAdd, Int.reduceSub, Int.reduceGT, Int.reduceGE, h5159, h5162, h5165, g5625])
      replace h6203 := bnd'_some h6203; obtain ⟨o6204, h6205, h6206⟩ := h6203
      refine Wp_cut (fun _ => False) ?_ ?_
      ·refine Wp_block ?_
       refine Wp_loopG (fun n s => ∃ x6015, ∃ p6016, ∃ x6017, ∃ p6018, ∃ p6019, ∃ p6020, ∃ c6021, m72_2_L2 N p5151 p5155 c5164 n5166 c5167 n5615 n5616 n5617 n5618 n5619 n5620 n5622 c5623 n x6015 p6016 x6017 p6018 p6019 p6020 c6021 = some o6204 ∧ s = ⟨[], [(0, .dead), (1, .fn 73 [.v (.ipt [p5151]), .ptr 0 0, .ptr 1 0, .ptr 2 0]), (2, .ptr 3 0), (4, .sl false 4 0 3 1), (5, .ptr 5 0), (6, .v (.int .i64 x6015)), (7, .dead), (8, .dead), (33, .dead), (47, .dead), (48, .dead), (49, .dead), (50, .dead), (75, .dead), (79, .dead)], [(0, .p [p6016]), (1, .p [(.int .i64 x6017)]), (2, .p [p6018, p5155]), (3, .p [(.lst false 3 c5164), (.lst false n5166 c5167)]), (4, .r [.sl true 6 n5615 n5616 1, .sl true 6 n5617 n5618 1, .sl true 6 n5619 n5620 1]), (5, .p [(.lst false n5622 c5623), p6019, p6020, .nl]), (6, .p c6021)], 7, []⟩) N _ ?_ ⟨_, _, _, _, _, _, _, h6205, rfl⟩ ?_
       ·exact Wk_keep [1, 2, 4, 5, 6] (by kernel_rfl)
       clear h6205
       rintro n _ ⟨x6015, p6016, x6017, p6018, p6019, p6020, c6021, h6205, rfl⟩
       cases n with
       | zero => cases h6205
       | succ n =>
        rw [m72_2_L2] at h6205
        replace h6205 := brn_some h6205; rcases h6205 with ⟨h6022, h6205⟩ | ⟨h6022, h6205⟩
        ·replace h6205 := bnd'_some h6205; obtain ⟨⟨p6023, p6025, x6026, p6027⟩, h6024, h6205⟩ := h6205
         (try dsimp only at h6205)
         refine W_sound tab_ok mixed 15 _ _ _ ?_
         simp -implicitDefEqProofs only [go_sem, Nat.reduceBEq, Nat.reduceAdd, Nat.reduceLT, Nat.reduceLeDiff, Int.reduceLE, Int.reduceToNat, ↓reduceIte, Int.reduceSub, h6022]
         repeat with_reducible refine And.intro (by first | kernel_rfl | decide) ?_
         refine Wp_callD [4, 6, 0, 1, 2] (c73_3 N _ _ _ _ _ _ _ _ _ _ _ _ _ _ _ _ h6024) rfl rfl rfl (by first | rfl | (simp only [go_sem, Nat.reduceBEq, Nat.reduceAdd, Nat.reduceSub, Nat.reduceMul, Nat.reduceLT, Nat.reduceLeDiff, Int.reduceLE, Int.reduceLT, Int.reduceToNat, Int.reduceBEq, Int.reduceBNe, ↓reduceIte, Int.reduceAdd, Int.reduceSub, Int.reduceGT, Int.reduceGE, h5159, h5162, h5165, g5625, h6022] <;> rfl)) rfl (by kernel_rfl) ?_
         replace h6205 := getT0_some h6205; obtain ⟨h6028, h6205⟩ := h6205
         refine W_sound tab_ok mixed 1 _ _ _ ?_
         simp -implicitDefEqProofs only [go_sem, Nat.reduceBEq, Nat.reduceAdd, Nat.reduceSub, Nat.reduceMul, Nat.reduceLT, h6028]
         repeat with_reducible refine And.intro (by first | kernel_rfl | decide) ?_
         replace h6205 := bnd'_some h6205; obtain ⟨o6207, h6208, h6209⟩ := h6205
         refine Wp_cut (fun s => ∃ x6084, ∃ p6085, ∃ p6086, ∃ c6087, (.inl (x6084, p6085, p6086, c6087)) = o6207 ∧ s = ⟨[], [(0, .dead), (1, .fn 73 [.v (.ipt [p5151]), .ptr 0 0, .ptr 1 0, .ptr 2 0]), (2, .ptr 3 0), (4, .sl false 4 0 3 1), (5, .ptr 5 0), (6, .v (.int .i64 x6084)), (7, .dead), (8, .dead), (33, .dead), (47, .dead), (48, .dead), (49, .dead), (50, .dead), (75, .dead), (79, .dead)], [(0, .p [p6025]), (1, .p [(.int .i64 x6026)]), (2, .p [p6027, p5155]), (3, .p [(.lst false 3 c5164), (.lst false n5166 c5167)]), (4, .r [.sl true 6 n5615 n5616 1, .sl true 6 n5617 n5618 1, .sl true 6 n5619 n5620 1]), (5, .p [(.lst false n5622 c5623), p6085, p6086, .nl]), (6, .p c6087)], 7, []⟩) ?_ ?_
         ·refine Wp_block ?_
          refine Wp_loopG (fun n s => ∃ x6055, ∃ p6056, ∃ p6057, ∃ c6058, m72_2_L3 N p5151 p5155 c5164 n5166 c5167 n5615 n5616 n5617 n5618 n5619 n5620 n5622 c5623 p6025 x6026 p6027 n x6055 p6056 p6057 c6058 = some o6207 ∧ s = ⟨[], [(0, .dead), (1, .fn 73 [.v (.ipt [p5151]), .ptr 0 0, .ptr 1 0, .ptr 2 0]), (2, .ptr 3 0), (4, .sl false 4 0 3 1), (5, .ptr 5 0), (6, .v (.int .i64 x6055)), (7, .dead), (8, .dead), (33, .dead), (47, .dead), (48, .dead), (49, .dead), (50, .dead), (75, .dead), (79, .dead)], [(0, .p [p6025]), (1, .p [(.int .i64 x6026)]), (2, .p [p6027, p5155]), (3, .p [(.lst false 3 c5164), (.lst false n5166 c5167)]), (4, .r [.sl true 6 n5615 n5616 1, .sl true 6 n5617 n5618 1, .sl true 6 n5619 n5620 1]), (5, .p [(.lst false n5622 c5623), p6056, p6057, .nl]), (6, .p c6058)], 7, []⟩) N _ ?_ ⟨_, _, _, _, h6208, rfl⟩ ?_
          ·exact Wk_keep [1, 2, 4, 5, 6] (by kernel_rfl)
          clear h6208
          rintro n _ ⟨x6055, p6056, p6057, c6058, h6208, rfl⟩
          cases n with
          | zero => cases h6208
          | succ n =>
           rw [m72_2_L3] at h6208
           replace h6208 := casI_some h6208; rcases h6208 with ⟨rfl, h6208⟩ | ⟨_, h6208⟩
           ·replace h6208 := bnd'_some h6208; obtain ⟨⟨p6060, c6062⟩, h6061, h6208⟩ := h6208
            (try dsimp only at h6208)
            refine W_sound tab_ok mixed 10 _ _ _ ?_
            simp -implicitDefEqProofs only [go_sem, Nat.reduceBEq, Nat.reduceAdd, Nat.reduceLT, Nat.reduceLeDiff, Int.reduceLT]
            repeat with_reducible refine And.intro (by first | kernel_rfl | decide) ?_
            refine Wp_callD [6] (c96 N _ _ _ _ _ _ h6061) rfl rfl rfl (by first | rfl | (simp only [go_sem, Nat.reduceBEq, Nat.reduceAdd, Nat.reduceSub, Nat.reduceMul, Nat.reduceLT, Nat.reduceLeDiff, Int.reduceLE, Int.reduceLT, Int.reduceToNat, Int.reduceBEq, Int.reduceBNe, ↓reduceIte, Int.reduceAdd, Int.reduceSub, Int.reduceGT, Int.reduceGE, h5159, h5162, h5165, g5625, h6022, h6028] <;> rfl)) rfl (by kernel_rfl) ?_
            replace h6208 := getB_some h6208; obtain ⟨b6064, h6063, h6208⟩ := h6208
            replace h6208 := brn_some h6208; rcases h6208 with ⟨h6065, h6208⟩ | ⟨h6065, h6208⟩
            ·refine W_sound tab_ok mixed 4 _ _ _ ?_
             simp -implicitDefEqProofs only [go_sem, Nat.reduceBEq, Nat.reduceAdd, Nat.reduceSub, Nat.reduceMul, Nat.reduceLT, h6063, h6065]
             repeat with_reducible refine And.intro (by first | kernel_rfl | decide) ?_
             obtain rfl := Option.some.inj h6208
             refine cutQ _ ?_ ⟨_, _, _, _, rfl, rfl⟩
             exact Wk_keep [1, 2, 4, 5, 6] (by kernel_rfl)
            ·refine W_sound tab_ok mixed 19 _ _ _ ?_
             simp -implicitDefEqProofs only [go_sem, Nat.reduceBEq, Nat.reduceAdd, Nat.reduceSub, Nat.reduceMul, Nat.reduceLT, Int.reduceLE, Int.reduceLT, Int.reduceToNat, ↓reduceIte, Int.reduceSub, h6063, h6065]
             repeat with_reducible refine And.intro (by first | kernel_rfl | decide) ?_
             obtain rfl := Option.some.inj h6208
             (try dsimp only at h6209)
             obtain rfl := Option.some.inj h6209
             (try dsimp only at h6206)
             obtain rfl := Option.some.inj h6206
             (try dsimp only at h6200)
             simp only [Option.some.injEq, Prod.mk.injEq] at h6200; obtain ⟨rfl, rfl, rfl, rfl⟩ := h6200
             exact finD (st' := ⟨[], [(0, .dead), (1, .dead), (2, .dead), (4, .dead), (5, .dead), (6, .dead), (7, .dead), (8, .dead), (33, .dead), (47, .dead), (48, .dead), (49, .dead), (50, .dead), (75, .dead), (79, .dead)], [(0, .p [p6025]), (1, .p [(.int .i64 x6026)]), (2, .p [p6027, p5155])], 3, []⟩) (keepE_le [] _) (OLe.refl _) (by kernel_rfl) (by simp only [go_sem, resQ_nil, retD_none]; (try simp [R.val, retD_one, retD_two, retD_three, retD_none]); try assumption)
           ·skip
            replace h6208 := casI_some h6208; rcases h6208 with ⟨rfl, h6208⟩ | ⟨_, h6208⟩
            ·replace h6208 := getL_some h6208; obtain ⟨n6067, c6068, h6066, h6208⟩ := h6208
             replace h6208 := bnd'_some h6208; obtain ⟨⟨p6069, c6071⟩, h6070, h6208⟩ := h6208
             (try dsimp only at h6208)
             refine W_sound tab_ok mixed 10 _ _ _ ?_
             simp -implicitDefEqProofs only [go_sem, Nat.reduceBEq, Nat.reduceAdd, Nat.reduceLT, Nat.reduceLeDiff, Int.reduceLE, Int.reduceLT, Int.reduceToNat, h6066]
             repeat with_reducible refine And.intro (by first | kernel_rfl | decide) ?_
             refine Wp_callD [6] (c96 N _ _ _ _ _ _ h6070) rfl rfl rfl (by first | rfl | (simp only [go_sem, Nat.reduceBEq, Nat.reduceAdd, Nat.reduceSub, Nat.reduceMul, Nat.reduceLT, Nat.reduceLeDiff, Int.reduceLE, Int.reduceLT, Int.reduceToNat, Int.reduceBEq, Int.reduceBNe, ↓reduceIte, Int.reduceAdd, Int.reduceSub, Int.reduceGT, Int.reduceGE, h5159, h5162, h5165, g5625, h6022, h6028, h6066] <;> rfl)) rfl (by kernel_rfl) ?_
             replace h6208 := getB_some h6208; obtain ⟨b6073, h6072, h6208⟩ := h6208
             replace h6208 := brn_some h6208; rcases h6208 with ⟨h6074, h6208⟩ | ⟨h6074, h6208⟩
             ·refine W_sound tab_ok mixed 4 _ _ _ ?_
              simp -implicitDefEqProofs only [go_sem, Nat.reduceBEq, Nat.reduceAdd, Nat.reduceSub, Nat.reduceMul, Nat.reduceLT, h6072, h6074]
              repeat with_reducible refine And.intro (by first | kernel_rfl | decide) ?_
              obtain rfl := Option.some.inj h6208
              refine cutQ _ ?_ ⟨_, _, _, _, rfl, rfl⟩
              exact Wk_keep [1, 2, 4, 5, 6] (by kernel_rfl)
             ·refine W_sound tab_ok mixed 19 _ _ _ ?_
              simp -implicitDefEqProofs only [go_sem, Nat.reduceBEq, Nat.reduceAdd, Nat.reduceSub, Nat.reduceMul, Nat.reduceLT, Int.reduceLE, Int.reduceLT, Int.reduceToNat, ↓reduceIte, Int.reduceSub, h6072, h6074]
              repeat with_reducible refine And.intro (by first | kernel_rfl | decide) ?_
              refine cutQ _ ?_ ⟨n, Nat.lt_succ_self n, _, _, _, _, h6208, rfl⟩
              exact Wk_keep [1, 2, 4, 5, 6] (by kernel_rfl)
            ·skip
             replace h6208 := casI_some h6208; rcases h6208 with ⟨rfl, h6208⟩ | ⟨_, h6208⟩
             ·replace h6208 := getL_some h6208; obtain ⟨n6076, c6077, h6075, h6208⟩ := h6208
              replace h6208 := bnd'_some h6208; obtain ⟨⟨p6078, c6080⟩, h6079, h6208⟩ := h6208
              (try dsimp only at h6208)
              refine W_sound tab_ok mixed 10 _ _ _ ?_
              simp -implicitDefEqProofs only [go_sem, Nat.reduceBEq, Nat.reduceAdd, Nat.reduceLT, Nat.reduceLeDiff, Int.reduceLE, Int.reduceLT, Int.reduceToNat, h6075]
              repeat with_reducible refine And.intro (by first | kernel_rfl | decide) ?_
              refine Wp_callD [6] (c96 N _ _ _ _ _ _ h6079) rfl rfl rfl (by first | rfl | (simp only [go_sem, Nat.reduceBEq, Nat.reduceAdd, Nat.reduceSub, Nat.reduceMul, Nat.reduceLT, Nat.reduceLeDiff, Int.reduceLE, Int.reduceLT, Int.reduceToNat, Int.reduceBEq, Int.reduceBNe, ↓reduceIte, Int.reduceAdd, Int.reduceSub, Int.reduceGT, Int.reduceGE, h5159, h5162, h5165, g5625, h6022, h6028, h6075] <;> rfl)) rfl (by kernel_rfl) ?_
              replace h6208 := getB_some h6208; obtain ⟨b6082, h6081, h6208⟩ := h6208
              replace h6208 := brn_some h6208; rcases h6208 with ⟨h6083, h6208⟩ | ⟨h6083, h6208⟩
              ·refine W_sound tab_ok mixed 4 _ _ _ ?_
               simp -implicitDefEqProofs only [go_sem, Nat.reduceBEq, Nat.reduceAdd, Nat.reduceSub, Nat.reduceMul, Nat.reduceLT, h6081, h6083]
               repeat with_reducible refine And.intro (by first | kernel_rfl | decide) ?_
               obtain rfl := Option.some.inj h6208
               refine cutQ _ ?_ ⟨_, _, _, _, rfl, rfl⟩
               exact Wk_keep [1, 2, 4, 5, 6] (by kernel_rfl)
              ·refine W_sound tab_ok mixed 19 _ _ _ ?_
               simp -implicitDefEqProofs only [go_sem, Nat.reduceBEq, Nat.reduceAdd, Nat.reduceSub, Nat.reduceMul, Nat.reduceLT, Int.reduceLE, Int.reduceLT, Int.reduceToNat, ↓reduceIte, Int.reduceSub, h6081, h6083]
               repeat with_reducible refine And.intro (by first | kernel_rfl | decide) ?_
               refine cutQ _ ?_ ⟨n, Nat.lt_succ_self n, _, _, _, _, h6208, rfl⟩
               exact Wk_keep [1, 2, 4, 5, 6] (by kernel_rfl)
             ·skip
              cases h6208
         ·rintro _ ⟨x6084, p6085, p6086, c6087, rfl, rfl⟩
          (try dsimp only at h6209)
          refine W_sound tab_ok mixed 1 _ _ _ ?_
          simp -implicitDefEqProofs only [go_sem]
          repeat with_reducible refine And.intro (by first | kernel_rfl | decide) ?_
          refine cutQ _ ?_ ⟨n, Nat.lt_succ_self n, _, _, _, _, _, _, _, h6209, rfl⟩
          exact Wk_keep [1, 2, 4, 5, 6] (by kernel_rfl)
        ·replace h6205 := casI_some h6205; rcases h6205 with ⟨rfl, h6205⟩ | ⟨_, h6205⟩
         ·replace h6205 := bnd'_some h6205; obtain ⟨⟨n6090, c6091⟩, h6092, h6205⟩ := h6205
          (try dsimp only at h6205)
          refine W_sound tab_ok mixed 19 _ _ _ ?_
          simp -implicitDefEqProofs only [go_sem, Nat.reduceBEq, Nat.reduceAdd, Nat.reduceLT, Nat.reduceLeDiff, Int.reduceLE, Int.reduceLT, Int.reduceToNat, ↓reduceIte, Int.reduceAdd, Int.reduceSub, h6022]
          repeat with_reducible refine And.intro (by first | kernel_rfl | decide) ?_
          refine Wp_callD [] (c53 N _ _ _ h6092) rfl rfl rfl (by first | rfl | (simp only [go_sem, Nat.reduceBEq, Nat.reduceAdd, Nat.reduceSub, Nat.reduceMul, Nat.reduceLT, Nat.reduceLeDiff, Int.reduceLE, Int.reduceLT, Int.reduceToNat, Int.reduceBEq, Int.reduceBNe, ↓reduceIte, Int.reduceAdd, Int.reduceSub, Int.reduceGT, Int.reduceGE, h5159, h5162, h5165, g5625, h6022] <;> rfl)) rfl (by kernel_rfl) ?_
          refine W_sound tab_ok mixed 13 _ _ _ ?_
          simp -implicitDefEqProofs only [go_sem, Nat.reduceBEq, Nat.reduceAdd, Nat.reduceSub, Nat.reduceMul, Nat.reduceLT, Nat.reduceLeDiff, Int.reduceLE, Int.reduceLT, Int.reduceToNat]
          repeat with_reducible refine And.intro (by first | kernel_rfl | decide) ?_
          replace h6205 := bnd'_some h6205; obtain ⟨o6210, h6211, h6212⟩ := h6205
          refine Wp_cut (fun s => ∃ c6118, c6118 = o6210 ∧ s = ⟨[], [(0, .dead), (1, .fn 73 [.v (.ipt [p5151]), .ptr 0 0, .ptr 1 0, .ptr 2 0]), (2, .ptr 3 0), (4, .sl false 4 0 3 1), (5, .ptr 5 0), (6, .v (.int .i64 0)), (7, .dead), (8, .dead), (33, .dead), (47, .dead), (48, .dead), (49, .dead), (50, .dead), (75, .dead), (79, .dead)], [(0, .p [p6016]), (1, .p [(.int .i64 x6017)]), (2, .p [p6018, p5155]), (3, .p [(.lst false 3 c5164), (.lst false n5166 c5167)]), (4, .r [.sl true 6 n5615 n5616 1, .sl true 6 n5617 n5618 1, .sl true 6 n5619 n5620 1]), (5, .r [.v (.lst false n5622 c5623), .sl false 7 0 n6090 1, .v p6020, .v .nl]), (6, .p c6021), (7, .p c6118)], 8, []⟩) ?_ ?_
          ·refine Wp_block ?_
           refine Wp_loopG (fun n s => ∃ x6105, ∃ c6106, m72_2_L5 N p5151 p5155 c5164 n5166 c5167 n5615 n5616 n5617 n5618 n5619 n5620 n5622 c5623 p6016 x6017 p6018 p6020 c6021 n6090 n x6105 c6106 = some o6210 ∧ s = ⟨[], [(0, .dead), (1, .fn 73 [.v (.ipt [p5151]), .ptr 0 0, .ptr 1 0, .ptr 2 0]), (2, .ptr 3 0), (4, .sl false 4 0 3 1), (5, .ptr 5 0), (6, .v (.int .i64 0)), (7, .dead), (8, .dead), (33, .dead), (47, .sl true 6 n5615 n5616 1), (48, .v (.int .i64 ((n5616 : Nat) : Int))), (49, .v (.int .i64 x6105)), (50, .dead), (75, .dead), (79, .dead)], [(0, .p [p6016]), (1, .p [(.int .i64 x6017)]), (2, .p [p6018, p5155]), (3, .p [(.lst false 3 c5164), (.lst false n5166 c5167)]), (4, .r [.sl true 6 n5615 n5616 1, .sl true 6 n5617 n5618 1, .sl true 6 n5619 n5620 1]), (5, .r [.v (.lst false n5622 c5623), .sl false 7 0 n6090 1, .v p6020, .v .nl]), (6, .p c6021), (7, .p c6106)], 8, []⟩) N _ ?_ ⟨_, _, h6211, rfl⟩ ?_
           ·exact Wk_keep [1, 2, 4, 5, 6, 47, 48, 49] (by kernel_rfl)
           clear h6211
           rintro n _ ⟨x6105, c6106, h6211, rfl⟩
           cases n with
           | zero => cases h6211
           | succ n =>
            rw [m72_2_L5] at h6211
            replace h6211 := brn_some h6211; rcases h6211 with ⟨h6107, h6211⟩ | ⟨h6107, h6211⟩
            ·replace h6211 := grd_some h6211; obtain ⟨⟨g6108, g6109⟩, h6211⟩ := h6211
             replace h6211 := grd_some h6211; obtain ⟨g6110, h6211⟩ := h6211
             replace h6211 := getI_some h6211; obtain ⟨x6112, h6111, h6211⟩ := h6211
             replace h6211 := grd_some h6211; obtain ⟨g6113, h6211⟩ := h6211
             replace h6211 := grd_some h6211; obtain ⟨g6114, h6211⟩ := h6211
             replace h6211 := getI_some h6211; obtain ⟨x6116, h6115, h6211⟩ := h6211
             replace h6211 := grd_some h6211; obtain ⟨g6117, h6211⟩ := h6211
             refine W_sound tab_ok mixed 35 _ _ _ ?_
             simp -implicitDefEqProofs only [go_sem, Nat.reduceBEq, Nat.reduceAdd, Nat.reduceLT, Nat.reduceLeDiff, Int.reduceLE, Int.reduceLT, Int.reduceToNat, ↓reduceIte, Int.reduceAdd, g6108, g6109, g6110, h6111, g6113, g6114, h6115, g6117]
             repeat with_reducible refine And.intro (by first | kernel_rfl | decide) ?_
             (try rw [h6111] at h6211)
             (try rw [h6115] at h6211)
             refine cutQ _ ?_ ⟨n, Nat.lt_succ_self n, _, _, h6211, rfl⟩
             exact Wk_keep [1, 2, 4, 5, 6, 47, 48, 49] (by kernel_rfl)
            ·refine W_sound tab_ok mixed 7 _ _ _ ?_
             simp -implicitDefEqProofs only [go_sem, Nat.reduceBEq, Nat.reduceLT, ↓reduceIte, h6107]
             repeat with_reducible refine And.intro (by first | kernel_rfl | decide) ?_
             obtain rfl := Option.some.inj h6211
             refine cutQ _ ?_ ⟨_, rfl, rfl⟩
             exact Wk_keep [1, 2, 4, 5, 6] (by kernel_rfl)
          ·rintro _ ⟨c6118, rfl, rfl⟩
           refine W_sound tab_ok mixed 7 _ _ _ ?_
           simp -implicitDefEqProofs only [go_sem, Nat.reduceBEq, Nat.reduceLT, Int.reduceLE, Int.reduceToNat, ↓reduceIte, Int.reduceAdd]
           repeat with_reducible refine And.intro (by first | kernel_rfl | decide) ?_
           replace h6212 := grd_some h6212; obtain ⟨g6119, h6212⟩ := h6212
           refine Wp_wkK (Wk_freeze 7 c6118 (by rfl) (by decide) (by decide)) rfl ?_
           simp -implicitDefEqProofs only [go_sem, Nat.reduceBEq, g6119]
           (try simp -implicitDefEqProofs only [go_sem, Nat.reduceBEq, Nat.reduceAdd, Nat.reduceSub, Nat.reduceMul, Nat.reduceLT, Nat.reduceLeDiff, Int.reduceLE, Int.reduceLT, Int.reduceToNat, Int.reduceBEq, Int.reduceBNe, ↓reduceIte, Int.reduceAdd, Int.reduceSub, Int.reduceGT, Int.reduceGE, h5159, h5162, h5165, g5625, h6022, g6119])
           obtain rfl := Option.some.inj h6212
           (try dsimp only at h6206)
           refine Wp_goto _ rfl ?_ ⟨_, Nat.lt_succ_self _, _, _, _, _, _, _, _, h6206, rfl⟩
           exact Wk_keep (st' := ⟨[], [(0, .dead), (1, .fn 73 [.v (.ipt [p5151]), .ptr 0 0, .ptr 1 0, .ptr 2 0]), (2, .ptr 3 0), (4, .sl false 4 0 3 1), (5, .ptr 5 0), (6, .v (.int .i64 1)), (7, .dead), (8, .dead), (33, .dead), (47, .dead), (48, .dead), (49, .dead), (50, .dead), (75, .dead), (79, .dead)], [(0, .p [p6016]), (1, .p [(.int .i64 x6017)]), (2, .p [p6018, p5155]), (3, .p [(.lst false 3 c5164), (.lst false n5166 c5167)]), (4, .r [.sl true 6 n5615 n5616 1, .sl true 6 n5617 n5618 1, .sl true 6 n5619 n5620 1]), (5, .p [(.lst false n5622 c5623), (.lst false n6090 c6118), p6020, .nl]), (6, .p c6021)], 7, []⟩) [1, 2, 4, 5, 6] (by kernel_rfl)
         ·skip
          replace h6205 := casI_some h6205; rcases h6205 with ⟨rfl, h6205⟩ | ⟨_, h6205⟩
          ·replace h6205 := getL_some h6205; obtain ⟨n6121, c6122, h6120, h6205⟩ := h6205
           replace h6205 := bnd'_some h6205; obtain ⟨⟨n6123, c6124⟩, h6125, h6205⟩ := h6205
           (try dsimp only at h6205)
           refine W_sound tab_ok mixed 19 _ _ _ ?_
           simp -implicitDefEqProofs only [go_sem, Nat.reduceBEq, Nat.reduceAdd, Nat.reduceLT, Nat.reduceLeDiff, Int.reduceLE, Int.reduceLT, Int.reduceToNat, ↓reduceIte, Int.reduceAdd, Int.reduceSub, h6022, h6120]
           repeat with_reducible refine And.intro (by first | kernel_rfl | decide) ?_
           refine Wp_callD [] (c53 N _ _ _ h6125) rfl rfl rfl (by first | rfl | (simp only [go_sem, Nat.reduceBEq, Nat.reduceAdd, Nat.reduceSub, Nat.reduceMul, Nat.reduceLT, Nat.reduceLeDiff, Int.reduceLE, Int.reduceLT, Int.reduceToNat, Int.reduceBEq, Int.reduceBNe, ↓reduceIte, Int.reduceAdd, Int.reduceSub, Int.reduceGT, Int.reduceGE, h5159, h5162, h5165, g5625, h6022, h6120] <;> rfl)) rfl (by kernel_rfl) ?_
           refine W_sound tab_ok mixed 13 _ _ _ ?_
           simp -implicitDefEqProofs only [go_sem, Nat.reduceBEq, Nat.reduceAdd, Nat.reduceSub, Nat.reduceMul, Nat.reduceLT, Nat.reduceLeDiff, Int.reduceLE, Int.reduceLT, Int.reduceToNat]
           repeat with_reducible refine And.intro (by first | kernel_rfl | decide) ?_
           replace h6205 := bnd'_some h6205; obtain ⟨o6213, h6214, h6215⟩ := h6205
           refine Wp_cut (fun s => ∃ c6151, c6151 = o6213 ∧ s = ⟨[], [(0, .dead), (1, .fn 73 [.v (.ipt [p5151]), .ptr 0 0, .ptr 1 0, .ptr 2 0]), (2, .ptr 3 0), (4, .sl false 4 0 3 1), (5, .ptr 5 0), (6, .v (.int .i64 1)), (7, .dead), (8, .dead), (33, .dead), (47, .dead), (48, .dead), (49, .dead), (50, .dead), (75, .dead), (79, .dead)], [(0, .p [p6016]), (1, .p [(.int .i64 x6017)]), (2, .p [p6018, p5155]), (3, .p [(.lst false 3 c5164), (.lst false n5166 c5167)]), (4, .r [.sl true 6 n5615 n5616 1, .sl true 6 n5617 n5618 1, .sl true 6 n5619 n5620 1]), (5, .r [.v (.lst false n5622 c5623), .v (.lst false n6121 c6122), .sl false 7 0 n6123 1, .v .nl]), (6, .p c6021), (7, .p c6151)], 8, []⟩) ?_ ?_
           ·refine Wp_block ?_
            refine Wp_loopG (fun n s => ∃ x6138, ∃ c6139, m72_2_L4 N p5151 p5155 c5164 n5166 c5167 n5615 n5616 n5617 n5618 n5619 n5620 n5622 c5623 p6016 x6017 p6018 c6021 n6121 c6122 n6123 n x6138 c6139 = some o6213 ∧ s = ⟨[], [(0, .dead), (1, .fn 73 [.v (.ipt [p5151]), .ptr 0 0, .ptr 1 0, .ptr 2 0]), (2, .ptr 3 0), (4, .sl false 4 0 3 1), (5, .ptr 5 0), (6, .v (.int .i64 1)), (7, .dead), (8, .dead), (33, .dead), (47, .sl true 6 n5617 n5618 1), (48, .v (.int .i64 ((n5618 : Nat) : Int))), (49, .v (.int .i64 x6138)), (50, .dead), (75, .dead), (79, .dead)], [(0, .p [p6016]), (1, .p [(.int .i64 x6017)]), (2, .p [p6018, p5155]), (3, .p [(.lst false 3 c5164), (.lst false n5166 c5167)]), (4, .r [.sl true 6 n5615 n5616 1, .sl true 6 n5617 n5618 1, .sl true 6 n5619 n5620 1]), (5, .r [.v (.lst false n5622 c5623), .v (.lst false n6121 c6122), .sl false 7 0 n6123 1, .v .nl]), (6, .p c6021), (7, .p c6139)], 8, []⟩) N _ ?_ ⟨_, _, h6214, rfl⟩ ?_
            ·exact Wk_keep [1, 2, 4, 5, 6, 47, 48, 49] (by kernel_rfl)
            clear h6214
            rintro n _ ⟨x6138, c6139, h6214, rfl⟩
            cases n with
            | zero => cases h6214
            | succ n =>
             rw [m72_2_L4] at h6214
             replace h6214 := brn_some h6214; rcases h6214 with ⟨h6140, h6214⟩ | ⟨h6140, h6214⟩
             ·replace h6214 := grd_some h6214; obtain ⟨⟨g6141, g6142⟩, h6214⟩ := h6214
              replace h6214 := grd_some h6214; obtain ⟨g6143, h6214⟩ := h6214
              replace h6214 := getI_some h6214; obtain ⟨x6145, h6144, h6214⟩ := h6214
              replace h6214 := grd_some h6214; obtain ⟨g6146, h6214⟩ := h6214
              replace h6214 := grd_some h6214; obtain ⟨g6147, h6214⟩ := h6214
              replace h6214 := getI_some h6214; obtain ⟨x6149, h6148, h6214⟩ := h6214
              replace h6214 := grd_some h6214; obtain ⟨g6150, h6214⟩ := h6214
              refine W_sound tab_ok mixed 35 _ _ _ ?_
              simp -implicitDefEqProofs only [go_sem, Nat.reduceBEq, Nat.reduceAdd, Nat.reduceLT, Nat.reduceLeDiff, Int.reduceLE, Int.reduceLT, Int.reduceToNat, ↓reduceIte, Int.reduceAdd, g6141, g6142, g6143, h6144, g6146, g6147, h6148, g6150]
              repeat with_reducible refine And.intro (by first | kernel_rfl | decide) ?_
              (try rw [h6144] at h6214)
              (try rw [h6148] at h6214)
              refine cutQ _ ?_ ⟨n, Nat.lt_succ_self n, _, _, h6214, rfl⟩
              exact Wk_keep [1, 2, 4, 5, 6, 47, 48, 49] (by kernel_rfl)
             ·refine W_sound tab_ok mixed 7 _ _ _ ?_
              simp -implicitDefEqProofs only [go_sem, Nat.reduceBEq, Nat.reduceLT, ↓reduceIte, h6140]
              repeat with_reducible refine And.intro (by first | kernel_rfl | decide) ?_
              obtain rfl := Option.some.inj h6214
              refine cutQ _ ?_ ⟨_, rfl, rfl⟩
              exact Wk_keep [1, 2, 4, 5, 6] (by kernel_rfl)
           ·rintro _ ⟨c6151, rfl, rfl⟩
            refine W_sound tab_ok mixed 7 _ _ _ ?_
            simp -implicitDefEqProofs only [go_sem, Nat.reduceBEq, Nat.reduceLT, Int.reduceLE, Int.reduceToNat, ↓reduceIte, Int.reduceAdd]
            repeat with_reducible refine And.intro (by first | kernel_rfl | decide) ?_
            replace h6215 := grd_some h6215; obtain ⟨g6152, h6215⟩ := h6215
            refine Wp_wkK (Wk_freeze 7 c6151 (by rfl) (by decide) (by decide)) rfl ?_
            simp -implicitDefEqProofs only [go_sem, Nat.reduceBEq, g6152]
            (try simp -implicitDefEqProofs only [go_sem, Nat.reduceBEq, Nat.reduceAdd, Nat.reduceSub, Nat.reduceMul, Nat.reduceLT, Nat.reduceLeDiff, Int.reduceLE, Int.reduceLT, Int.reduceToNat, Int.reduceBEq, Int.reduceBNe, ↓reduceIte, Int.reduceAdd, Int.reduceSub, Int.reduceGT, Int.reduceGE, h5159, h5162, h5165, g5625, h6022, h6120, g6152])
            obtain rfl := Option.some.inj h6215
            (try dsimp only at h6206)
            refine Wp_goto _ rfl ?_ ⟨_, Nat.lt_succ_self _, _, _, _, _, _, _, _, h6206, rfl⟩
            exact Wk_keep (st' := ⟨[], [(0, .dead), (1, .fn 73 [.v (.ipt [p5151]), .ptr 0 0, .ptr 1 0, .ptr 2 0]), (2, .ptr 3 0), (4, .sl false 4 0 3 1), (5, .ptr 5 0), (6, .v (.int .i64 2)), (7, .dead), (8, .dead), (33, .dead), (47, .dead), (48, .dead), (49, .dead), (50, .dead), (75, .dead), (79, .dead)], [(0, .p [p6016]), (1, .p [(.int .i64 x6017)]), (2, .p [p6018, p5155]), (3, .p [(.lst false 3 c5164), (.lst false n5166 c5167)]), (4, .r [.sl true 6 n5615 n5616 1, .sl true 6 n5617 n5618 1, .sl true 6 n5619 n5620 1]), (5, .p [(.lst false n5622 c5623), (.lst false n6121 c6122), (.lst false n6123 c6151), .nl]), (6, .p c6021)], 7, []⟩) [1, 2, 4, 5, 6] (by kernel_rfl)
          ·skip
           replace h6205 := casI_some h6205; rcases h6205 with ⟨rfl, h6205⟩ | ⟨_, h6205⟩
           ·cases h6205
           ·skip
            replace h6205 := casI_some h6205; rcases h6205 with ⟨rfl, h6205⟩ | ⟨_, h6205⟩
            ·replace h6205 := bnd'_some h6205; obtain ⟨⟨n6153, c6154⟩, h6155, h6205⟩ := h6205
             (try dsimp only at h6205)
             refine W_sound tab_ok mixed 19 _ _ _ ?_
             simp -implicitDefEqProofs only [go_sem, Nat.reduceBEq, Nat.reduceAdd, Nat.reduceLT, Nat.reduceLeDiff, Int.reduceLE, Int.reduceLT, Int.reduceToNat, ↓reduceIte, Int.reduceAdd, Int.reduceSub, h6022]
             repeat with_reducible refine And.intro (by first | kernel_rfl | decide) ?_
             refine Wp_callD [] (c53_2 N  _ _ h6155) rfl rfl rfl (by first | rfl | (simp only [go_sem, Nat.reduceBEq, Nat.reduceAdd, Nat.reduceSub, Nat.reduceMul, Nat.reduceLT, Nat.reduceLeDiff, Int.reduceLE, Int.reduceLT, Int.reduceToNat, Int.reduceBEq, Int.reduceBNe, ↓reduceIte, Int.reduceAdd, Int.reduceSub, Int.reduceGT, Int.reduceGE, h5159, h5162, h5165, g5625, h6022] <;> rfl)) rfl (by kernel_rfl) ?_
             cases h6205
            ·skip
             cases h6205
      ·intro _ hf; exact hf.elim
   ·skip
    cases h
noncomputable def m27 (N : Nat) (p3362 : PV) (p3363 : PV) : Option (PV) :=
 getL p3362 fun n3365 c3366 =>
 getA2 p3363 fun p3368 p3369 =>
 bnd' (m25 N (.lst false n3365 c3366) (.agg [p3368, p3369])) fun p3370 =>
 getI .i64 p3370 fun x3373 =>
 brn (x3373 != 0) (
  some (.tup [(.lst false 0 []), (.int .i64 x3373)])) (
  bnd' (m72_2 N (.agg [p3368, p3369]) (.lst false n3365 c3366) .nl 0 p3368 p3369) fun (p6216, p6218, x6219, p6220) =>
  getT0 p6216 <|
  getN p6218 (
   some (.tup [(.lst false 0 []), (.int .i64 0)])) fun n6224 c6225 =>
  some (.tup [(.lst false n6224 c6225), (.int .i64 0)]))
theorem c27 (N : Nat) (p3362 : PV) (p3363 : PV) (r : PV)  (h : m27 N p3362 p3363 = some r) : FnP Try.prog 27 [p3362, p3363] r := by
 unfold m27 at h
 refine Fn_of (sz := 19) tab_ok [0, 1, 2, 3, 4, 5, 6, 7, 8, 13] [.tmp 4, .tmp 5] Try.func27 rfl rfl rfl (by simp) ?_
 simp only [initSt, initEnv, List.map_cons, List.map_nil, List.getD_cons_zero, List.getD_cons_succ, List.getD_nil]
 replace h := getL_some h; obtain ⟨n3365, c3366, h3364, h⟩ := h
 replace h := getA2_some h; obtain ⟨p3368, p3369, h3367, h⟩ := h
 replace h := bnd'_some h; obtain ⟨p3370, h3371, h⟩ := h
 refine W_sound tab_ok mixed 12 _ _ _ ?_
 simp -implicitDefEqProofs only [go_sem, Nat.reduceBEq, Nat.reduceAdd, Nat.reduceLT, Nat.reduceLeDiff, h3364, h3367]
 repeat with_reducible refine And.intro (by first | kernel_rfl | decide) ?_
 refine Wp_callP (c25 N _ _ _ h3371) (by kernel_rfl) rfl rfl rfl rfl (by decide) ?_
 replace h := getI_some h; obtain ⟨x3373, h3372, h⟩ := h
 replace h := brn_some h; rcases h with ⟨h3374, h⟩ | ⟨h3374, h⟩
 ·refine W_sound tab_ok mixed 16 _ _ _ ?_
  simp -implicitDefEqProofs only [go_sem, Nat.reduceBEq, Nat.reduceLT, ↓reduceIte, h3372, h3374]
  repeat with_reducible refine And.intro (by first | kernel_rfl | decide) ?_
  obtain rfl := Option.some.inj h
  exact finC [(4, .v .nl), (5, .v (.int .i64 x3373))] [(4, .v (.lst false 0 [])), (5, .v (.int .i64 x3373))] (by simp [leE, lk_cons]) (.cons _ _ _ _ _ (.v _ _ (.nl false)) (.cons _ _ _ _ _ (.v _ _ (.refl _)) .nil)) (by rfl) (by simp [leE, lk_cons]) (by decide) (by decide) rfl (by simp only [go_sem, Nat.reduceBEq, resQ_tmp, resQ_nil, retD_two]; (try simp [R.val, retD_one, retD_two, retD_three, retD_none]); try assumption)
 ·refine W_sound tab_ok mixed 19 _ _ _ ?_
  simp -implicitDefEqProofs only [go_sem, Nat.reduceBEq, Nat.reduceAdd, Nat.reduceLT, Nat.reduceLeDiff, ↓reduceIte, h3372, h3374]
  repeat with_reducible refine And.intro (by first | kernel_rfl | decide) ?_
  refine Wp_wkK (Wk_freeze 2 [(.lst false n3365 c3366)] (by rfl) (by decide) (by decide)) rfl ?_
  simp -implicitDefEqProofs only [go_sem, Nat.reduceBEq]
  replace h := bnd'_some h; obtain ⟨⟨p6216, p6218, x6219, p6220⟩, h6217, h⟩ := h
  (try dsimp only at h)
  refine W_sound tab_ok mixed 3 _ _ _ ?_
  simp -implicitDefEqProofs only [go_sem, Nat.reduceBEq, Nat.reduceAdd, Nat.reduceLT]
  repeat with_reducible refine And.intro (by first | kernel_rfl | decide) ?_
  refine Wp_callD [11, 20, 3] (c72_2 N _ _ _ _ _ _ _ _ _ _ h6217) rfl rfl rfl (by first | rfl | (simp only [go_sem, Nat.reduceBEq, Nat.reduceAdd, Nat.reduceSub, Nat.reduceMul, Nat.reduceLT, Nat.reduceLeDiff, Int.reduceLE, Int.reduceLT, Int.reduceToNat, Int.reduceBEq, Int.reduceBNe, ↓reduceIte, h3364, h3367, h3372, h3374] <;> rfl)) rfl (by kernel_rfl) ?_
  replace h := getT0_some h; obtain ⟨h6221, h⟩ := h
  replace h := getN_some h; rcases h with ⟨h6223, h⟩ | ⟨n6224, c6225, h6223, h⟩
  ·refine W_sound tab_ok mixed 9 _ _ _ ?_
   simp -implicitDefEqProofs only [go_sem, Nat.reduceBEq, Nat.reduceAdd, Nat.reduceSub, Nat.reduceMul, Nat.reduceLT, h6221, h6223]
   repeat with_reducible refine And.intro (by first | kernel_rfl | decide) ?_
   obtain rfl := Option.some.inj h
   exact finC [(4, .v .nl), (5, .v (.int .i64 0))] [(4, .v (.lst false 0 [])), (5, .v (.int .i64 0))] (by simp [leE, lk_cons]) (.cons _ _ _ _ _ (.v _ _ (.nl false)) (.cons _ _ _ _ _ (.v _ _ (.refl _)) .nil)) (by rfl) (by simp [leE, lk_cons]) (by decide) (by decide) rfl (by simp only [go_sem, Nat.reduceBEq, resQ_tmp, resQ_nil, retD_two]; (try simp [R.val, retD_one, retD_two, retD_three, retD_none]); try assumption)
  ·refine W_sound tab_ok mixed 9 _ _ _ ?_
   simp -implicitDefEqProofs only [go_sem, Nat.reduceBEq, Nat.reduceAdd, Nat.reduceSub, Nat.reduceMul, Nat.reduceLT, h6221, h6223]
   repeat with_reducible refine And.intro (by first | kernel_rfl | decide) ?_
   obtain rfl := Option.some.inj h
   exact finC [(4, .v (.lst false n6224 c6225)), (5, .v (.int .i64 0))] [(4, .v (.lst false n6224 c6225)), (5, .v (.int .i64 0))] (by simp [leE, lk_cons]) (.cons _ _ _ _ _ (.v _ _ (.refl _)) (.cons _ _ _ _ _ (.v _ _ (.refl _)) .nil)) (by rfl) (by simp [leE, lk_cons]) (by decide) (by decide) rfl (by simp only [go_sem, Nat.reduceBEq, resQ_tmp, resQ_nil, retD_two]; (try simp [R.val, retD_one, retD_two, retD_three, retD_none]); try assumption)
end Go.Proofs.Yteidcinajdehkaa
