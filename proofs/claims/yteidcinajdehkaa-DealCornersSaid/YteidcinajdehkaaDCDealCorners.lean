/-
  DealCorners: the law returns true.
-/
import Derived.Test.YteidcinajdehkaaDCCstA
import Derived.Test.YteidcinajdehkaaDCPriA
import Derived.Test.YteidcinajdehkaaDCDcoA
import Derived.Test.YteidcinajdehkaaDCV41
import Derived.Test.YteidcinajdehkaaDCV32
import Derived.Test.YteidcinajdehkaaRows
import Derived.Test.YteidcinajdehkaaDCV31
import Derived.WalkKit
import Derived.ProofKit
import Derived.OpenShut
set_option linter.unusedSimpArgs false
set_option linter.unusedVariables false
namespace Go.Proofs.Yteidcinajdehkaa
open Go.V
set_option maxRecDepth 100000
set_option maxHeartbeats 4000000
set_option linter.unusedSimpArgs false
set_option linter.unusedVariables false
attribute [local go_sem] tl1 tl2 tl3 tl4 tl5 tl9 tl17 tl21 tl22 tl23 tl24 tl25 tl26 tl27 tl28 tl29 tl30 tl32 tl33 tl35 tl36 tl37 tl38 tl39 tl40 tl41 tl42 tl43 tl44 tl46 tl48 tl50 tl51 tl52 tl53 tl54 tl56 tl58 tl59 tl60 tl61 tl62 tl63 tl64 tl65 tl66 tl67 tl68 tl69 tl70 tl72 tl74 tl75 tl76 tl77 tl78 tl79 tl80 tl81 tl82 tl83 tl84 tl85 tl86 tl87 tl88 tl89 tl90 tl91 tl92 tl93 tl94 tl95 tl96 tl97 tl98 tl99 tl100 tl101 tl102 tl103 tl104 tl105 tl106 tl107 tl108 tl109 tl110 tl111 tl112 tl113 tl114 tl115 tl116 tl117 tl118 tl119 tl120 tl121 tl122 tl128 tl129 tl133 ne_eq not_false_eq_true Int.le_refl Nat.le_refl Int.cast_ofNat_Int
noncomputable def m22_L0 (N : Nat) (n3440 : Nat) (c3441 : List PV) (n3443 : Nat) (c3444 : List PV) : Nat → Int → Option ((PV ⊕ Unit))
  | 0, _ => none
  | n + 1, x3446 =>
    brn (decide (x3446 < ((n3440 : Nat) : Int))) (
      grd (0 ≤ x3446 ∧ x3446 < ((n3440 : Nat) : Int)) <|
      grd (0 < List.length (List.drop (Int.toNat x3446) c3441)) <|
      getL (gp c3441 (Int.toNat x3446)) fun n3452 c3453 =>
      grd (x3446 < ((n3443 : Nat) : Int)) <|
      grd (0 < List.length (List.drop (Int.toNat x3446) c3444)) <|
      getL (gp c3444 (Int.toNat x3446)) fun n3457 c3458 =>
      bnd' (m37 N (.lst false n3452 c3453) (.lst false n3457 c3458)) fun p3459 =>
      getB p3459 fun b3462 =>
      brn b3462 (
        m22_L0 N n3440 c3441 n3443 c3444 n (IntKind.i64.wrap (x3446 + 1))) (
        some (.inl (.bool false)))) (
      some (.inr ()))
noncomputable def m22 (N : Nat) (p3437 : PV) (p3438 : PV) : Option (PV) :=
  getL p3437 fun n3440 c3441 =>
  getL p3438 fun n3443 c3444 =>
  brn (((n3440 : Nat) : Int) != ((n3443 : Nat) : Int)) (
    some (.bool false)) (
    bnd' (m22_L0 N n3440 c3441 n3443 c3444 N 0) fun o =>
    match o with
    | .inl p3464 =>
      some p3464
    | .inr () =>
      some (.bool true))
theorem c22 (N : Nat) (p3437 : PV) (p3438 : PV) (r : PV)  (h : m22 N p3437 p3438 = some r) : FnP Try.prog 22 [p3437, p3438] r := by
  unfold m22 at h
  refine Fn_of (sz := 27) tab_ok [0, 1, 4, 5, 10, 14, 26] [.tmp 4] Try.func22 rfl rfl rfl (by simp) ?_
  simp only [initSt, initEnv, List.map_cons, List.map_nil, List.getD_cons_zero, List.getD_cons_succ, List.getD_nil]
  have hh := getL_some h; clear h; obtain ⟨n3440, c3441, h3439, h⟩ := hh
  have hh := getL_some h; clear h; obtain ⟨n3443, c3444, h3442, h⟩ := hh
  have hh := brn_some h; clear h; rcases hh with ⟨h3445, h⟩ | ⟨h3445, h⟩
  · refine W_sound tab_ok mixed 20 _ _ _ ?_
    simp -implicitDefEqProofs only [go_sem, Nat.reduceBEq, Nat.reduceAdd, Nat.reduceSub, Nat.reduceMul, Nat.reduceLT, Nat.reduceLeDiff, Int.reduceLE, Int.reduceLT, Int.reduceToNat, Int.reduceBEq, Int.reduceBNe, ↓reduceIte, h3439, h3442, h3445]
    repeat with_reducible refine And.intro (by first | kernel_rfl | decide) ?_
    obtain rfl := Option.some.inj h
    exact finC [(4, .v (.bool false))] [(4, .v (.bool false))] (by simp [leE, lk_cons]) (.cons _ _ _ _ _ (.v _ _ (.refl _)) .nil) (by rfl) (by simp [leE, lk_cons]) (by decide) (by decide) rfl (by simp only [go_sem, Nat.reduceBEq, Nat.reduceAdd, Nat.reduceSub, Nat.reduceMul, Nat.reduceLT, Nat.reduceLeDiff, Int.reduceLE, Int.reduceLT, Int.reduceToNat, Int.reduceBEq, Int.reduceBNe, ↓reduceIte, resQ_tmp, resQ_cell, resQ_nil, retD_one, retD_two, retD_three, retD_none]; try simp [R.val, retD_one, retD_two, retD_three, retD_none])
  · refine W_sound tab_ok mixed 20 _ _ _ ?_
    simp -implicitDefEqProofs only [go_sem, Nat.reduceBEq, Nat.reduceAdd, Nat.reduceSub, Nat.reduceMul, Nat.reduceLT, Nat.reduceLeDiff, Int.reduceLE, Int.reduceLT, Int.reduceToNat, Int.reduceBEq, Int.reduceBNe, ↓reduceIte, h3439, h3442, h3445]
    repeat with_reducible refine And.intro (by first | kernel_rfl | decide) ?_
    have hh := bnd'_some h; clear h; obtain ⟨o3465, h3466, h3467⟩ := hh
    refine Wp_cut (fun s => (.inr ()) = o3465 ∧ s = ⟨[], [(0, .dead), (1, .dead), (4, .dead), (5, .dead), (10, .dead), (14, .dead), (26, .dead)], [], 0, []⟩) ?_ ?_
    · refine Wp_block ?_
      refine Wp_loopG (fun n s => ∃ x3446, m22_L0 N n3440 c3441 n3443 c3444 n x3446 = some o3465 ∧ s = ⟨[], [(0, .v (.lst false n3440 c3441)), (1, .v (.lst false n3443 c3444)), (4, .dead), (5, .v (.int .i64 x3446)), (10, .dead), (14, .dead), (26, .dead)], [], 0, []⟩) N _ (Wk_keep (st' := ⟨[], [(0, .v (.lst false n3440 c3441)), (1, .v (.lst false n3443 c3444)), (4, .dead), (5, .v (.int .i64 0)), (10, .dead), (14, .dead), (26, .dead)], [], 0, []⟩) [0, 1, 5] (by kernel_rfl)) ⟨_, h3466, rfl⟩ ?_
      clear h3466
      rintro n _ ⟨x3446, h3466, rfl⟩
      cases n with
      | zero => cases h3466
      | succ n =>
        rw [m22_L0] at h3466
        have hh := brn_some h3466; clear h3466; rcases hh with ⟨h3447, h3466⟩ | ⟨h3447, h3466⟩
        · have hh := grd_some h3466; clear h3466; obtain ⟨⟨g3448, g3449⟩, h3466⟩ := hh
          have hh := grd_some h3466; clear h3466; obtain ⟨g3450, h3466⟩ := hh
          have hh := getL_some h3466; clear h3466; obtain ⟨n3452, c3453, h3451, h3466⟩ := hh
          have hh := grd_some h3466; clear h3466; obtain ⟨g3454, h3466⟩ := hh
          have hh := grd_some h3466; clear h3466; obtain ⟨g3455, h3466⟩ := hh
          have hh := getL_some h3466; clear h3466; obtain ⟨n3457, c3458, h3456, h3466⟩ := hh
          have hh := bnd'_some h3466; clear h3466; obtain ⟨p3459, h3460, h3466⟩ := hh
          refine W_sound tab_ok mixed 22 _ _ _ ?_
          simp -implicitDefEqProofs only [go_sem, Nat.reduceBEq, Nat.reduceAdd, Nat.reduceSub, Nat.reduceMul, Nat.reduceLT, Nat.reduceLeDiff, Int.reduceLE, Int.reduceLT, Int.reduceToNat, Int.reduceBEq, Int.reduceBNe, ↓reduceIte, h3439, h3442, h3445, h3447, g3448, g3449, g3450, h3451, g3454, g3455, h3456]
          repeat with_reducible refine And.intro (by first | kernel_rfl | decide) ?_
          refine Wp_callP (c37 N _ _ _ h3460) (by kernel_rfl) rfl rfl rfl rfl (by decide) ?_
          have hh := getB_some h3466; clear h3466; obtain ⟨b3462, h3461, h3466⟩ := hh
          have hh := brn_some h3466; clear h3466; rcases hh with ⟨h3463, h3466⟩ | ⟨h3463, h3466⟩
          · refine W_sound tab_ok mixed 10 _ _ _ ?_
            simp -implicitDefEqProofs only [go_sem, Nat.reduceBEq, Nat.reduceAdd, Nat.reduceSub, Nat.reduceMul, Nat.reduceLT, Nat.reduceLeDiff, Int.reduceLE, Int.reduceLT, Int.reduceToNat, Int.reduceBEq, Int.reduceBNe, ↓reduceIte, h3439, h3442, h3445, h3447, g3448, g3449, g3450, h3451, g3454, g3455, h3456, h3461, h3463]
            repeat with_reducible refine And.intro (by first | kernel_rfl | decide) ?_
            refine cutQ _ ?_ ⟨n, Nat.lt_succ_self n, _, h3466, rfl⟩
            exact Wk_keep [0, 1, 5] (by kernel_rfl)
          · refine W_sound tab_ok mixed 9 _ _ _ ?_
            simp -implicitDefEqProofs only [go_sem, Nat.reduceBEq, Nat.reduceAdd, Nat.reduceSub, Nat.reduceMul, Nat.reduceLT, Nat.reduceLeDiff, Int.reduceLE, Int.reduceLT, Int.reduceToNat, Int.reduceBEq, Int.reduceBNe, ↓reduceIte, h3439, h3442, h3445, h3447, g3448, g3449, g3450, h3451, g3454, g3455, h3456, h3461, h3463]
            repeat with_reducible refine And.intro (by first | kernel_rfl | decide) ?_
            obtain rfl := Option.some.inj h3466
            (try dsimp only at h3467)
            obtain rfl := Option.some.inj h3467
            exact finC [(4, .v (.bool false))] [(4, .v (.bool false))] (by simp [leE, lk_cons]) (.cons _ _ _ _ _ (.v _ _ (.refl _)) .nil) (by rfl) (by simp [leE, lk_cons]) (by decide) (by decide) rfl (by simp only [go_sem, Nat.reduceBEq, Nat.reduceAdd, Nat.reduceSub, Nat.reduceMul, Nat.reduceLT, Nat.reduceLeDiff, Int.reduceLE, Int.reduceLT, Int.reduceToNat, Int.reduceBEq, Int.reduceBNe, ↓reduceIte, resQ_tmp, resQ_cell, resQ_nil, retD_one, retD_two, retD_three, retD_none]; try simp [R.val, retD_one, retD_two, retD_three, retD_none])
        · refine W_sound tab_ok mixed 10 _ _ _ ?_
          simp -implicitDefEqProofs only [go_sem, Nat.reduceBEq, Nat.reduceAdd, Nat.reduceSub, Nat.reduceMul, Nat.reduceLT, Nat.reduceLeDiff, Int.reduceLE, Int.reduceLT, Int.reduceToNat, Int.reduceBEq, Int.reduceBNe, ↓reduceIte, h3439, h3442, h3445, h3447]
          repeat with_reducible refine And.intro (by first | kernel_rfl | decide) ?_
          obtain rfl := Option.some.inj h3466
          refine cutQ _ ?_ ⟨rfl, rfl⟩
          exact Wk_keep [] (by kernel_rfl)
    · rintro _ ⟨rfl, rfl⟩
      (try dsimp only at h3467)
      refine W_sound tab_ok mixed 6 _ _ _ ?_
      simp -implicitDefEqProofs only [go_sem, Nat.reduceBEq, Nat.reduceAdd, Nat.reduceSub, Nat.reduceMul, Nat.reduceLT, Nat.reduceLeDiff, Int.reduceLE, Int.reduceLT, Int.reduceToNat, Int.reduceBEq, Int.reduceBNe, ↓reduceIte, h3439, h3442, h3445]
      repeat with_reducible refine And.intro (by first | kernel_rfl | decide) ?_
      obtain rfl := Option.some.inj h3467
      exact finC [(4, .v (.bool true))] [(4, .v (.bool true))] (by simp [leE, lk_cons]) (.cons _ _ _ _ _ (.v _ _ (.refl _)) .nil) (by rfl) (by simp [leE, lk_cons]) (by decide) (by decide) rfl (by simp only [go_sem, Nat.reduceBEq, Nat.reduceAdd, Nat.reduceSub, Nat.reduceMul, Nat.reduceLT, Nat.reduceLeDiff, Int.reduceLE, Int.reduceLT, Int.reduceToNat, Int.reduceBEq, Int.reduceBNe, ↓reduceIte, resQ_tmp, resQ_cell, resQ_nil, retD_one, retD_two, retD_three, retD_none]; try simp [R.val, retD_one, retD_two, retD_three, retD_none])
noncomputable def m3 (N : Nat) (p3468 : PV) (p3469 : PV) (p3470 : PV) : Option (PV) :=
  getL p3468 fun n3472 c3473 =>
  getA2 p3469 fun p3475 p3476 =>
  getL p3470 fun n3478 c3479 =>
  bnd' (m15 N (.lst false n3472 c3473)) fun p3480 =>
  getB p3480 fun b3483 =>
  brn b3483 (
    bnd' (m17 N ) fun p3485 =>
    getB p3485 fun b3488 =>
    some (.bool b3488)) (
    bnd' (m16 N (.agg [p3475, p3476])) fun p3489 =>
    getB p3489 fun b3492 =>
    brn b3492 (
      bnd' (m17 N ) fun p3494 =>
      getB p3494 fun b3497 =>
      some (.bool b3497)) (
      bnd' (m15 N (.lst false n3478 c3479)) fun p3498 =>
      getB p3498 fun b3501 =>
      brn b3501 (
        bnd' (m17 N ) fun p3503 =>
        getB p3503 fun b3506 =>
        some (.bool b3506)) (
        bnd' (m18 N (.lst false n3472 c3473) (.agg [p3475, p3476])) fun p3507 =>
        getT2 p3507 fun p3510 p3511 =>
        getL p3510 fun n3513 c3514 =>
        getI .i64 p3511 fun x3516 =>
        bnd' (m19 N (.lst false n3472 c3473) (.agg [p3475, p3476])) fun p3517 =>
        getT2 p3517 fun p3520 p3521 =>
        getL p3520 fun n3523 c3524 =>
        getI .i64 p3521 fun x3526 =>
        bnd' (m20 N (.lst false n3472 c3473) (.agg [p3475, p3476]) (.lst false n3478 c3479)) fun p3527 =>
        getT2 p3527 fun p3530 p3531 =>
        getI .i64 p3530 fun x3533 =>
        getI .i64 p3531 fun x3535 =>
        bnd' (m21 N (.lst false n3472 c3473) (.agg [p3475, p3476]) (.lst false n3478 c3479)) fun p3536 =>
        getT2 p3536 fun p3539 p3540 =>
        getI .i64 p3539 fun x3542 =>
        getI .i64 p3540 fun x3544 =>
        bnd' (m22 N (.lst false n3513 c3514) (.lst false n3523 c3524)) fun p3545 =>
        getB p3545 fun b3548 =>
        brn b3548 (
          brn (x3516 == x3526) (
            brn (x3533 == x3542) (
              brn (x3535 == x3544) (
                bnd' (m23 N (.lst false n3472 c3473)) fun p3553 =>
                getI .i64 p3553 fun x3556 =>
                bnd' (m24 N (.lst false n3472 c3473)) fun p3557 =>
                getI .i64 p3557 fun x3560 =>
                brn (x3556 == x3560) (
                  bnd' (m25 N (.lst false n3472 c3473) (.agg [p3475, p3476])) fun p3562 =>
                  getI .i64 p3562 fun x3565 =>
                  bnd' (m26 N (.lst false n3472 c3473) (.agg [p3475, p3476])) fun p3566 =>
                  getI .i64 p3566 fun x3569 =>
                  brn (x3565 == x3569) (
                    bnd' (m17 N ) fun p3571 =>
                    getB p3571 fun b3574 =>
                    some (.bool b3574)) (
                    some (.bool false))) (
                  some (.bool false))) (
                some (.bool false))) (
              some (.bool false))) (
            some (.bool false))) (
          some (.bool false)))))
theorem c3 (N : Nat) (p3468 : PV) (p3469 : PV) (p3470 : PV) (r : PV)  (h : m3 N p3468 p3469 p3470 = some r) : FnP Try.prog 3 [p3468, p3469, p3470] r := by
  unfold m3 at h
  refine Fn_of (sz := 91) tab_ok [0, 1, 2, 4, 6, 7, 8, 9, 10, 11, 12, 13, 14, 15, 25] [.tmp 6] Try.func3 rfl rfl rfl (by simp) ?_
  simp only [initSt, initEnv, List.map_cons, List.map_nil, List.getD_cons_zero, List.getD_cons_succ, List.getD_nil]
  have hh := getL_some h; clear h; obtain ⟨n3472, c3473, h3471, h⟩ := hh
  have hh := getA2_some h; clear h; obtain ⟨p3475, p3476, h3474, h⟩ := hh
  have hh := getL_some h; clear h; obtain ⟨n3478, c3479, h3477, h⟩ := hh
  have hh := bnd'_some h; clear h; obtain ⟨p3480, h3481, h⟩ := hh
  refine W_sound tab_ok mixed 9 _ _ _ ?_
  simp -implicitDefEqProofs only [go_sem, Nat.reduceBEq, Nat.reduceAdd, Nat.reduceSub, Nat.reduceMul, Nat.reduceLT, Nat.reduceLeDiff, Int.reduceLE, Int.reduceLT, Int.reduceToNat, Int.reduceBEq, Int.reduceBNe, ↓reduceIte, h3471, h3474, h3477]
  repeat with_reducible refine And.intro (by first | kernel_rfl | decide) ?_
  refine Wp_callP (c15 N _ _ h3481) (by kernel_rfl) rfl rfl rfl rfl (by decide) ?_
  have hh := getB_some h; clear h; obtain ⟨b3483, h3482, h⟩ := hh
  have hh := brn_some h; clear h; rcases hh with ⟨h3484, h⟩ | ⟨h3484, h⟩
  · have hh := bnd'_some h; clear h; obtain ⟨p3485, h3486, h⟩ := hh
    refine W_sound tab_ok mixed 12 _ _ _ ?_
    simp -implicitDefEqProofs only [go_sem, Nat.reduceBEq, Nat.reduceAdd, Nat.reduceSub, Nat.reduceMul, Nat.reduceLT, Nat.reduceLeDiff, Int.reduceLE, Int.reduceLT, Int.reduceToNat, Int.reduceBEq, Int.reduceBNe, ↓reduceIte, h3471, h3474, h3477, h3482, h3484]
    repeat with_reducible refine And.intro (by first | kernel_rfl | decide) ?_
    refine Wp_callP (c17 N  _ h3486) (by kernel_rfl) rfl rfl rfl rfl (by decide) ?_
    have hh := getB_some h; clear h; obtain ⟨b3488, h3487, h⟩ := hh
    refine W_sound tab_ok mixed 4 _ _ _ ?_
    simp -implicitDefEqProofs only [go_sem, Nat.reduceBEq, Nat.reduceAdd, Nat.reduceSub, Nat.reduceMul, Nat.reduceLT, Nat.reduceLeDiff, Int.reduceLE, Int.reduceLT, Int.reduceToNat, Int.reduceBEq, Int.reduceBNe, ↓reduceIte, h3471, h3474, h3477, h3482, h3484, h3487]
    repeat with_reducible refine And.intro (by first | kernel_rfl | decide) ?_
    obtain rfl := Option.some.inj h
    exact finC [(6, .v (.bool b3488))] [(6, .v (.bool b3488))] (by simp [leE, lk_cons]) (.cons _ _ _ _ _ (.v _ _ (.refl _)) .nil) (by rfl) (by simp [leE, lk_cons]) (by decide) (by decide) rfl (by simp only [go_sem, Nat.reduceBEq, Nat.reduceAdd, Nat.reduceSub, Nat.reduceMul, Nat.reduceLT, Nat.reduceLeDiff, Int.reduceLE, Int.reduceLT, Int.reduceToNat, Int.reduceBEq, Int.reduceBNe, ↓reduceIte, resQ_tmp, resQ_cell, resQ_nil, retD_one, retD_two, retD_three, retD_none]; try simp [R.val, retD_one, retD_two, retD_three, retD_none])
  · have hh := bnd'_some h; clear h; obtain ⟨p3489, h3490, h⟩ := hh
    refine W_sound tab_ok mixed 2 _ _ _ ?_
    simp -implicitDefEqProofs only [go_sem, Nat.reduceBEq, Nat.reduceAdd, Nat.reduceSub, Nat.reduceMul, Nat.reduceLT, Nat.reduceLeDiff, Int.reduceLE, Int.reduceLT, Int.reduceToNat, Int.reduceBEq, Int.reduceBNe, ↓reduceIte, h3471, h3474, h3477, h3482, h3484]
    repeat with_reducible refine And.intro (by first | kernel_rfl | decide) ?_
    refine Wp_callP (c16 N _ _ h3490) (by kernel_rfl) rfl rfl rfl rfl (by decide) ?_
    have hh := getB_some h; clear h; obtain ⟨b3492, h3491, h⟩ := hh
    have hh := brn_some h; clear h; rcases hh with ⟨h3493, h⟩ | ⟨h3493, h⟩
    · have hh := bnd'_some h; clear h; obtain ⟨p3494, h3495, h⟩ := hh
      refine W_sound tab_ok mixed 9 _ _ _ ?_
      simp -implicitDefEqProofs only [go_sem, Nat.reduceBEq, Nat.reduceAdd, Nat.reduceSub, Nat.reduceMul, Nat.reduceLT, Nat.reduceLeDiff, Int.reduceLE, Int.reduceLT, Int.reduceToNat, Int.reduceBEq, Int.reduceBNe, ↓reduceIte, h3471, h3474, h3477, h3482, h3484, h3491, h3493]
      repeat with_reducible refine And.intro (by first | kernel_rfl | decide) ?_
      refine Wp_callP (c17 N  _ h3495) (by kernel_rfl) rfl rfl rfl rfl (by decide) ?_
      have hh := getB_some h; clear h; obtain ⟨b3497, h3496, h⟩ := hh
      refine W_sound tab_ok mixed 4 _ _ _ ?_
      simp -implicitDefEqProofs only [go_sem, Nat.reduceBEq, Nat.reduceAdd, Nat.reduceSub, Nat.reduceMul, Nat.reduceLT, Nat.reduceLeDiff, Int.reduceLE, Int.reduceLT, Int.reduceToNat, Int.reduceBEq, Int.reduceBNe, ↓reduceIte, h3471, h3474, h3477, h3482, h3484, h3491, h3493, h3496]
      repeat with_reducible refine And.intro (by first | kernel_rfl | decide) ?_
      obtain rfl := Option.some.inj h
      exact finC [(6, .v (.bool b3497))] [(6, .v (.bool b3497))] (by simp [leE, lk_cons]) (.cons _ _ _ _ _ (.v _ _ (.refl _)) .nil) (by rfl) (by simp [leE, lk_cons]) (by decide) (by decide) rfl (by simp only [go_sem, Nat.reduceBEq, Nat.reduceAdd, Nat.reduceSub, Nat.reduceMul, Nat.reduceLT, Nat.reduceLeDiff, Int.reduceLE, Int.reduceLT, Int.reduceToNat, Int.reduceBEq, Int.reduceBNe, ↓reduceIte, resQ_tmp, resQ_cell, resQ_nil, retD_one, retD_two, retD_three, retD_none]; try simp [R.val, retD_one, retD_two, retD_three, retD_none])
    · have hh := bnd'_some h; clear h; obtain ⟨p3498, h3499, h⟩ := hh
      refine W_sound tab_ok mixed 3 _ _ _ ?_
      simp -implicitDefEqProofs only [go_sem, Nat.reduceBEq, Nat.reduceAdd, Nat.reduceSub, Nat.reduceMul, Nat.reduceLT, Nat.reduceLeDiff, Int.reduceLE, Int.reduceLT, Int.reduceToNat, Int.reduceBEq, Int.reduceBNe, ↓reduceIte, h3471, h3474, h3477, h3482, h3484, h3491, h3493]
      repeat with_reducible refine And.intro (by first | kernel_rfl | decide) ?_
      refine Wp_callP (c15 N _ _ h3499) (by kernel_rfl) rfl rfl rfl rfl (by decide) ?_
      have hh := getB_some h; clear h; obtain ⟨b3501, h3500, h⟩ := hh
      have hh := brn_some h; clear h; rcases hh with ⟨h3502, h⟩ | ⟨h3502, h⟩
      · have hh := bnd'_some h; clear h; obtain ⟨p3503, h3504, h⟩ := hh
        refine W_sound tab_ok mixed 5 _ _ _ ?_
        simp -implicitDefEqProofs only [go_sem, Nat.reduceBEq, Nat.reduceAdd, Nat.reduceSub, Nat.reduceMul, Nat.reduceLT, Nat.reduceLeDiff, Int.reduceLE, Int.reduceLT, Int.reduceToNat, Int.reduceBEq, Int.reduceBNe, ↓reduceIte, h3471, h3474, h3477, h3482, h3484, h3491, h3493, h3500, h3502]
        repeat with_reducible refine And.intro (by first | kernel_rfl | decide) ?_
        refine Wp_callP (c17 N  _ h3504) (by kernel_rfl) rfl rfl rfl rfl (by decide) ?_
        have hh := getB_some h; clear h; obtain ⟨b3506, h3505, h⟩ := hh
        refine W_sound tab_ok mixed 4 _ _ _ ?_
        simp -implicitDefEqProofs only [go_sem, Nat.reduceBEq, Nat.reduceAdd, Nat.reduceSub, Nat.reduceMul, Nat.reduceLT, Nat.reduceLeDiff, Int.reduceLE, Int.reduceLT, Int.reduceToNat, Int.reduceBEq, Int.reduceBNe, ↓reduceIte, h3471, h3474, h3477, h3482, h3484, h3491, h3493, h3500, h3502, h3505]
        repeat with_reducible refine And.intro (by first | kernel_rfl | decide) ?_
        obtain rfl := Option.some.inj h
        exact finC [(6, .v (.bool b3506))] [(6, .v (.bool b3506))] (by simp [leE, lk_cons]) (.cons _ _ _ _ _ (.v _ _ (.refl _)) .nil) (by rfl) (by simp [leE, lk_cons]) (by decide) (by decide) rfl (by simp only [go_sem, Nat.reduceBEq, Nat.reduceAdd, Nat.reduceSub, Nat.reduceMul, Nat.reduceLT, Nat.reduceLeDiff, Int.reduceLE, Int.reduceLT, Int.reduceToNat, Int.reduceBEq, Int.reduceBNe, ↓reduceIte, resQ_tmp, resQ_cell, resQ_nil, retD_one, retD_two, retD_three, retD_none]; try simp [R.val, retD_one, retD_two, retD_three, retD_none])
      · have hh := bnd'_some h; clear h; obtain ⟨p3507, h3508, h⟩ := hh
        refine W_sound tab_ok mixed 14 _ _ _ ?_
        simp -implicitDefEqProofs only [go_sem, Nat.reduceBEq, Nat.reduceAdd, Nat.reduceSub, Nat.reduceMul, Nat.reduceLT, Nat.reduceLeDiff, Int.reduceLE, Int.reduceLT, Int.reduceToNat, Int.reduceBEq, Int.reduceBNe, ↓reduceIte, h3471, h3474, h3477, h3482, h3484, h3491, h3493, h3500, h3502]
        repeat with_reducible refine And.intro (by first | kernel_rfl | decide) ?_
        refine Wp_callP (c18 N _ _ _ h3508) (by kernel_rfl) rfl rfl rfl rfl (by decide) ?_
        have hh := getT2_some h; clear h; obtain ⟨p3510, p3511, h3509, h⟩ := hh
        have hh := getL_some h; clear h; obtain ⟨n3513, c3514, h3512, h⟩ := hh
        have hh := getI_some h; clear h; obtain ⟨x3516, h3515, h⟩ := hh
        have hh := bnd'_some h; clear h; obtain ⟨p3517, h3518, h⟩ := hh
        refine W_sound tab_ok mixed 10 _ _ _ ?_
        simp -implicitDefEqProofs only [go_sem, Nat.reduceBEq, Nat.reduceAdd, Nat.reduceSub, Nat.reduceMul, Nat.reduceLT, Nat.reduceLeDiff, Int.reduceLE, Int.reduceLT, Int.reduceToNat, Int.reduceBEq, Int.reduceBNe, ↓reduceIte, h3471, h3474, h3477, h3482, h3484, h3491, h3493, h3500, h3502, h3509, h3512, h3515]
        repeat with_reducible refine And.intro (by first | kernel_rfl | decide) ?_
        refine Wp_callP (c19 N _ _ _ h3518) (by kernel_rfl) rfl rfl rfl rfl (by decide) ?_
        have hh := getT2_some h; clear h; obtain ⟨p3520, p3521, h3519, h⟩ := hh
        have hh := getL_some h; clear h; obtain ⟨n3523, c3524, h3522, h⟩ := hh
        have hh := getI_some h; clear h; obtain ⟨x3526, h3525, h⟩ := hh
        have hh := bnd'_some h; clear h; obtain ⟨p3527, h3528, h⟩ := hh
        refine W_sound tab_ok mixed 11 _ _ _ ?_
        simp -implicitDefEqProofs only [go_sem, Nat.reduceBEq, Nat.reduceAdd, Nat.reduceSub, Nat.reduceMul, Nat.reduceLT, Nat.reduceLeDiff, Int.reduceLE, Int.reduceLT, Int.reduceToNat, Int.reduceBEq, Int.reduceBNe, ↓reduceIte, h3471, h3474, h3477, h3482, h3484, h3491, h3493, h3500, h3502, h3509, h3512, h3515, h3519, h3522, h3525]
        repeat with_reducible refine And.intro (by first | kernel_rfl | decide) ?_
        refine Wp_callP (c20 N _ _ _ _ h3528) (by kernel_rfl) rfl rfl rfl rfl (by decide) ?_
        have hh := getT2_some h; clear h; obtain ⟨p3530, p3531, h3529, h⟩ := hh
        have hh := getI_some h; clear h; obtain ⟨x3533, h3532, h⟩ := hh
        have hh := getI_some h; clear h; obtain ⟨x3535, h3534, h⟩ := hh
        have hh := bnd'_some h; clear h; obtain ⟨p3536, h3537, h⟩ := hh
        refine W_sound tab_ok mixed 11 _ _ _ ?_
        simp -implicitDefEqProofs only [go_sem, Nat.reduceBEq, Nat.reduceAdd, Nat.reduceSub, Nat.reduceMul, Nat.reduceLT, Nat.reduceLeDiff, Int.reduceLE, Int.reduceLT, Int.reduceToNat, Int.reduceBEq, Int.reduceBNe, ↓reduceIte, h3471, h3474, h3477, h3482, h3484, h3491, h3493, h3500, h3502, h3509, h3512, h3515, h3519, h3522, h3525, h3529, h3532, h3534]
        repeat with_reducible refine And.intro (by first | kernel_rfl | decide) ?_
        refine Wp_callP (c21 N _ _ _ _ h3537) (by kernel_rfl) rfl rfl rfl rfl (by decide) ?_
        have hh := getT2_some h; clear h; obtain ⟨p3539, p3540, h3538, h⟩ := hh
        have hh := getI_some h; clear h; obtain ⟨x3542, h3541, h⟩ := hh
        have hh := getI_some h; clear h; obtain ⟨x3544, h3543, h⟩ := hh
        have hh := bnd'_some h; clear h; obtain ⟨p3545, h3546, h⟩ := hh
        refine W_sound tab_ok mixed 10 _ _ _ ?_
        simp -implicitDefEqProofs only [go_sem, Nat.reduceBEq, Nat.reduceAdd, Nat.reduceSub, Nat.reduceMul, Nat.reduceLT, Nat.reduceLeDiff, Int.reduceLE, Int.reduceLT, Int.reduceToNat, Int.reduceBEq, Int.reduceBNe, ↓reduceIte, h3471, h3474, h3477, h3482, h3484, h3491, h3493, h3500, h3502, h3509, h3512, h3515, h3519, h3522, h3525, h3529, h3532, h3534, h3538, h3541, h3543]
        repeat with_reducible refine And.intro (by first | kernel_rfl | decide) ?_
        refine Wp_callP (c22 N _ _ _ h3546) (by kernel_rfl) rfl rfl rfl rfl (by decide) ?_
        have hh := getB_some h; clear h; obtain ⟨b3548, h3547, h⟩ := hh
        have hh := brn_some h; clear h; rcases hh with ⟨h3549, h⟩ | ⟨h3549, h⟩
        · have hh := brn_some h; clear h; rcases hh with ⟨h3550, h⟩ | ⟨h3550, h⟩
          · have hh := brn_some h; clear h; rcases hh with ⟨h3551, h⟩ | ⟨h3551, h⟩
            · have hh := brn_some h; clear h; rcases hh with ⟨h3552, h⟩ | ⟨h3552, h⟩
              · have hh := bnd'_some h; clear h; obtain ⟨p3553, h3554, h⟩ := hh
                refine W_sound tab_ok mixed 17 _ _ _ ?_
                simp -implicitDefEqProofs only [go_sem, Nat.reduceBEq, Nat.reduceAdd, Nat.reduceSub, Nat.reduceMul, Nat.reduceLT, Nat.reduceLeDiff, Int.reduceLE, Int.reduceLT, Int.reduceToNat, Int.reduceBEq, Int.reduceBNe, ↓reduceIte, h3471, h3474, h3477, h3482, h3484, h3491, h3493, h3500, h3502, h3509, h3512, h3515, h3519, h3522, h3525, h3529, h3532, h3534, h3538, h3541, h3543, h3547, h3549, h3550, h3551, h3552]
                repeat with_reducible refine And.intro (by first | kernel_rfl | decide) ?_
                refine Wp_callP (c23 N _ _ h3554) (by kernel_rfl) rfl rfl rfl rfl (by decide) ?_
                have hh := getI_some h; clear h; obtain ⟨x3556, h3555, h⟩ := hh
                have hh := bnd'_some h; clear h; obtain ⟨p3557, h3558, h⟩ := hh
                refine W_sound tab_ok mixed 1 _ _ _ ?_
                simp -implicitDefEqProofs only [go_sem, Nat.reduceBEq, Nat.reduceAdd, Nat.reduceSub, Nat.reduceMul, Nat.reduceLT, Nat.reduceLeDiff, Int.reduceLE, Int.reduceLT, Int.reduceToNat, Int.reduceBEq, Int.reduceBNe, ↓reduceIte, h3471, h3474, h3477, h3482, h3484, h3491, h3493, h3500, h3502, h3509, h3512, h3515, h3519, h3522, h3525, h3529, h3532, h3534, h3538, h3541, h3543, h3547, h3549, h3550, h3551, h3552, h3555]
                repeat with_reducible refine And.intro (by first | kernel_rfl | decide) ?_
                refine Wp_callP (c24 N _ _ h3558) (by kernel_rfl) rfl rfl rfl rfl (by decide) ?_
                have hh := getI_some h; clear h; obtain ⟨x3560, h3559, h⟩ := hh
                have hh := brn_some h; clear h; rcases hh with ⟨h3561, h⟩ | ⟨h3561, h⟩
                · have hh := bnd'_some h; clear h; obtain ⟨p3562, h3563, h⟩ := hh
                  refine W_sound tab_ok mixed 5 _ _ _ ?_
                  simp -implicitDefEqProofs only [go_sem, Nat.reduceBEq, Nat.reduceAdd, Nat.reduceSub, Nat.reduceMul, Nat.reduceLT, Nat.reduceLeDiff, Int.reduceLE, Int.reduceLT, Int.reduceToNat, Int.reduceBEq, Int.reduceBNe, ↓reduceIte, h3471, h3474, h3477, h3482, h3484, h3491, h3493, h3500, h3502, h3509, h3512, h3515, h3519, h3522, h3525, h3529, h3532, h3534, h3538, h3541, h3543, h3547, h3549, h3550, h3551, h3552, h3555, h3559, h3561]
                  repeat with_reducible refine And.intro (by first | kernel_rfl | decide) ?_
                  refine Wp_callP (c25 N _ _ _ h3563) (by kernel_rfl) rfl rfl rfl rfl (by decide) ?_
                  have hh := getI_some h; clear h; obtain ⟨x3565, h3564, h⟩ := hh
                  have hh := bnd'_some h; clear h; obtain ⟨p3566, h3567, h⟩ := hh
                  refine W_sound tab_ok mixed 2 _ _ _ ?_
                  simp -implicitDefEqProofs only [go_sem, Nat.reduceBEq, Nat.reduceAdd, Nat.reduceSub, Nat.reduceMul, Nat.reduceLT, Nat.reduceLeDiff, Int.reduceLE, Int.reduceLT, Int.reduceToNat, Int.reduceBEq, Int.reduceBNe, ↓reduceIte, h3471, h3474, h3477, h3482, h3484, h3491, h3493, h3500, h3502, h3509, h3512, h3515, h3519, h3522, h3525, h3529, h3532, h3534, h3538, h3541, h3543, h3547, h3549, h3550, h3551, h3552, h3555, h3559, h3561, h3564]
                  repeat with_reducible refine And.intro (by first | kernel_rfl | decide) ?_
                  refine Wp_callP (c26 N _ _ _ h3567) (by kernel_rfl) rfl rfl rfl rfl (by decide) ?_
                  have hh := getI_some h; clear h; obtain ⟨x3569, h3568, h⟩ := hh
                  have hh := brn_some h; clear h; rcases hh with ⟨h3570, h⟩ | ⟨h3570, h⟩
                  · have hh := bnd'_some h; clear h; obtain ⟨p3571, h3572, h⟩ := hh
                    refine W_sound tab_ok mixed 3 _ _ _ ?_
                    simp -implicitDefEqProofs only [go_sem, Nat.reduceBEq, Nat.reduceAdd, Nat.reduceSub, Nat.reduceMul, Nat.reduceLT, Nat.reduceLeDiff, Int.reduceLE, Int.reduceLT, Int.reduceToNat, Int.reduceBEq, Int.reduceBNe, ↓reduceIte, h3471, h3474, h3477, h3482, h3484, h3491, h3493, h3500, h3502, h3509, h3512, h3515, h3519, h3522, h3525, h3529, h3532, h3534, h3538, h3541, h3543, h3547, h3549, h3550, h3551, h3552, h3555, h3559, h3561, h3564, h3568, h3570]
                    repeat with_reducible refine And.intro (by first | kernel_rfl | decide) ?_
                    refine Wp_callP (c17 N  _ h3572) (by kernel_rfl) rfl rfl rfl rfl (by decide) ?_
                    have hh := getB_some h; clear h; obtain ⟨b3574, h3573, h⟩ := hh
                    refine W_sound tab_ok mixed 5 _ _ _ ?_
                    simp -implicitDefEqProofs only [go_sem, Nat.reduceBEq, Nat.reduceAdd, Nat.reduceSub, Nat.reduceMul, Nat.reduceLT, Nat.reduceLeDiff, Int.reduceLE, Int.reduceLT, Int.reduceToNat, Int.reduceBEq, Int.reduceBNe, ↓reduceIte, h3471, h3474, h3477, h3482, h3484, h3491, h3493, h3500, h3502, h3509, h3512, h3515, h3519, h3522, h3525, h3529, h3532, h3534, h3538, h3541, h3543, h3547, h3549, h3550, h3551, h3552, h3555, h3559, h3561, h3564, h3568, h3570, h3573]
                    repeat with_reducible refine And.intro (by first | kernel_rfl | decide) ?_
                    obtain rfl := Option.some.inj h
                    exact finC [(6, .v (.bool b3574))] [(6, .v (.bool b3574))] (by simp [leE, lk_cons]) (.cons _ _ _ _ _ (.v _ _ (.refl _)) .nil) (by rfl) (by simp [leE, lk_cons]) (by decide) (by decide) rfl (by simp only [go_sem, Nat.reduceBEq, Nat.reduceAdd, Nat.reduceSub, Nat.reduceMul, Nat.reduceLT, Nat.reduceLeDiff, Int.reduceLE, Int.reduceLT, Int.reduceToNat, Int.reduceBEq, Int.reduceBNe, ↓reduceIte, resQ_tmp, resQ_cell, resQ_nil, retD_one, retD_two, retD_three, retD_none]; try simp [R.val, retD_one, retD_two, retD_three, retD_none])
                  · refine W_sound tab_ok mixed 9 _ _ _ ?_
                    simp -implicitDefEqProofs only [go_sem, Nat.reduceBEq, Nat.reduceAdd, Nat.reduceSub, Nat.reduceMul, Nat.reduceLT, Nat.reduceLeDiff, Int.reduceLE, Int.reduceLT, Int.reduceToNat, Int.reduceBEq, Int.reduceBNe, ↓reduceIte, h3471, h3474, h3477, h3482, h3484, h3491, h3493, h3500, h3502, h3509, h3512, h3515, h3519, h3522, h3525, h3529, h3532, h3534, h3538, h3541, h3543, h3547, h3549, h3550, h3551, h3552, h3555, h3559, h3561, h3564, h3568, h3570]
                    repeat with_reducible refine And.intro (by first | kernel_rfl | decide) ?_
                    obtain rfl := Option.some.inj h
                    exact finC [(6, .v (.bool false))] [(6, .v (.bool false))] (by simp [leE, lk_cons]) (.cons _ _ _ _ _ (.v _ _ (.refl _)) .nil) (by rfl) (by simp [leE, lk_cons]) (by decide) (by decide) rfl (by simp only [go_sem, Nat.reduceBEq, Nat.reduceAdd, Nat.reduceSub, Nat.reduceMul, Nat.reduceLT, Nat.reduceLeDiff, Int.reduceLE, Int.reduceLT, Int.reduceToNat, Int.reduceBEq, Int.reduceBNe, ↓reduceIte, resQ_tmp, resQ_cell, resQ_nil, retD_one, retD_two, retD_three, retD_none]; try simp [R.val, retD_one, retD_two, retD_three, retD_none])
                · refine W_sound tab_ok mixed 18 _ _ _ ?_
                  simp -implicitDefEqProofs only [go_sem, Nat.reduceBEq, Nat.reduceAdd, Nat.reduceSub, Nat.reduceMul, Nat.reduceLT, Nat.reduceLeDiff, Int.reduceLE, Int.reduceLT, Int.reduceToNat, Int.reduceBEq, Int.reduceBNe, ↓reduceIte, h3471, h3474, h3477, h3482, h3484, h3491, h3493, h3500, h3502, h3509, h3512, h3515, h3519, h3522, h3525, h3529, h3532, h3534, h3538, h3541, h3543, h3547, h3549, h3550, h3551, h3552, h3555, h3559, h3561]
                  repeat with_reducible refine And.intro (by first | kernel_rfl | decide) ?_
                  obtain rfl := Option.some.inj h
                  exact finC [(6, .v (.bool false))] [(6, .v (.bool false))] (by simp [leE, lk_cons]) (.cons _ _ _ _ _ (.v _ _ (.refl _)) .nil) (by rfl) (by simp [leE, lk_cons]) (by decide) (by decide) rfl (by simp only [go_sem, Nat.reduceBEq, Nat.reduceAdd, Nat.reduceSub, Nat.reduceMul, Nat.reduceLT, Nat.reduceLeDiff, Int.reduceLE, Int.reduceLT, Int.reduceToNat, Int.reduceBEq, Int.reduceBNe, ↓reduceIte, resQ_tmp, resQ_cell, resQ_nil, retD_one, retD_two, retD_three, retD_none]; try simp [R.val, retD_one, retD_two, retD_three, retD_none])
              · refine W_sound tab_ok mixed 38 _ _ _ ?_
                simp -implicitDefEqProofs only [go_sem, Nat.reduceBEq, Nat.reduceAdd, Nat.reduceSub, Nat.reduceMul, Nat.reduceLT, Nat.reduceLeDiff, Int.reduceLE, Int.reduceLT, Int.reduceToNat, Int.reduceBEq, Int.reduceBNe, ↓reduceIte, h3471, h3474, h3477, h3482, h3484, h3491, h3493, h3500, h3502, h3509, h3512, h3515, h3519, h3522, h3525, h3529, h3532, h3534, h3538, h3541, h3543, h3547, h3549, h3550, h3551, h3552]
                repeat with_reducible refine And.intro (by first | kernel_rfl | decide) ?_
                obtain rfl := Option.some.inj h
                exact finC [(6, .v (.bool false))] [(6, .v (.bool false))] (by simp [leE, lk_cons]) (.cons _ _ _ _ _ (.v _ _ (.refl _)) .nil) (by rfl) (by simp [leE, lk_cons]) (by decide) (by decide) rfl (by simp only [go_sem, Nat.reduceBEq, Nat.reduceAdd, Nat.reduceSub, Nat.reduceMul, Nat.reduceLT, Nat.reduceLeDiff, Int.reduceLE, Int.reduceLT, Int.reduceToNat, Int.reduceBEq, Int.reduceBNe, ↓reduceIte, resQ_tmp, resQ_cell, resQ_nil, retD_one, retD_two, retD_three, retD_none]; try simp [R.val, retD_one, retD_two, retD_three, retD_none])
            · refine W_sound tab_ok mixed 38 _ _ _ ?_
              simp -implicitDefEqProofs only [go_sem, Nat.reduceBEq, Nat.reduceAdd, Nat.reduceSub, Nat.reduceMul, Nat.reduceLT, Nat.reduceLeDiff, Int.reduceLE, Int.reduceLT, Int.reduceToNat, Int.reduceBEq, Int.reduceBNe, ↓reduceIte, h3471, h3474, h3477, h3482, h3484, h3491, h3493, h3500, h3502, h3509, h3512, h3515, h3519, h3522, h3525, h3529, h3532, h3534, h3538, h3541, h3543, h3547, h3549, h3550, h3551]
              repeat with_reducible refine And.intro (by first | kernel_rfl | decide) ?_
              obtain rfl := Option.some.inj h
              exact finC [(6, .v (.bool false))] [(6, .v (.bool false))] (by simp [leE, lk_cons]) (.cons _ _ _ _ _ (.v _ _ (.refl _)) .nil) (by rfl) (by simp [leE, lk_cons]) (by decide) (by decide) rfl (by simp only [go_sem, Nat.reduceBEq, Nat.reduceAdd, Nat.reduceSub, Nat.reduceMul, Nat.reduceLT, Nat.reduceLeDiff, Int.reduceLE, Int.reduceLT, Int.reduceToNat, Int.reduceBEq, Int.reduceBNe, ↓reduceIte, resQ_tmp, resQ_cell, resQ_nil, retD_one, retD_two, retD_three, retD_none]; try simp [R.val, retD_one, retD_two, retD_three, retD_none])
          · refine W_sound tab_ok mixed 38 _ _ _ ?_
            simp -implicitDefEqProofs only [go_sem, Nat.reduceBEq, Nat.reduceAdd, Nat.reduceSub, Nat.reduceMul, Nat.reduceLT, Nat.reduceLeDiff, Int.reduceLE, Int.reduceLT, Int.reduceToNat, Int.reduceBEq, Int.reduceBNe, ↓reduceIte, h3471, h3474, h3477, h3482, h3484, h3491, h3493, h3500, h3502, h3509, h3512, h3515, h3519, h3522, h3525, h3529, h3532, h3534, h3538, h3541, h3543, h3547, h3549, h3550]
            repeat with_reducible refine And.intro (by first | kernel_rfl | decide) ?_
            obtain rfl := Option.some.inj h
            exact finC [(6, .v (.bool false))] [(6, .v (.bool false))] (by simp [leE, lk_cons]) (.cons _ _ _ _ _ (.v _ _ (.refl _)) .nil) (by rfl) (by simp [leE, lk_cons]) (by decide) (by decide) rfl (by simp only [go_sem, Nat.reduceBEq, Nat.reduceAdd, Nat.reduceSub, Nat.reduceMul, Nat.reduceLT, Nat.reduceLeDiff, Int.reduceLE, Int.reduceLT, Int.reduceToNat, Int.reduceBEq, Int.reduceBNe, ↓reduceIte, resQ_tmp, resQ_cell, resQ_nil, retD_one, retD_two, retD_three, retD_none]; try simp [R.val, retD_one, retD_two, retD_three, retD_none])
        · refine W_sound tab_ok mixed 38 _ _ _ ?_
          simp -implicitDefEqProofs only [go_sem, Nat.reduceBEq, Nat.reduceAdd, Nat.reduceSub, Nat.reduceMul, Nat.reduceLT, Nat.reduceLeDiff, Int.reduceLE, Int.reduceLT, Int.reduceToNat, Int.reduceBEq, Int.reduceBNe, ↓reduceIte, h3471, h3474, h3477, h3482, h3484, h3491, h3493, h3500, h3502, h3509, h3512, h3515, h3519, h3522, h3525, h3529, h3532, h3534, h3538, h3541, h3543, h3547, h3549]
          repeat with_reducible refine And.intro (by first | kernel_rfl | decide) ?_
          obtain rfl := Option.some.inj h
          exact finC [(6, .v (.bool false))] [(6, .v (.bool false))] (by simp [leE, lk_cons]) (.cons _ _ _ _ _ (.v _ _ (.refl _)) .nil) (by rfl) (by simp [leE, lk_cons]) (by decide) (by decide) rfl (by simp only [go_sem, Nat.reduceBEq, Nat.reduceAdd, Nat.reduceSub, Nat.reduceMul, Nat.reduceLT, Nat.reduceLeDiff, Int.reduceLE, Int.reduceLT, Int.reduceToNat, Int.reduceBEq, Int.reduceBNe, ↓reduceIte, resQ_tmp, resQ_cell, resQ_nil, retD_one, retD_two, retD_three, retD_none]; try simp [R.val, retD_one, retD_two, retD_three, retD_none])
end Go.Proofs.Yteidcinajdehkaa
namespace Go.Proofs.Yteidcinajdehkaa
open Go.V
theorem brn_t {α : Type} {b : Bool} {x y : Option α} (h : b = true) : brn b x y = x := by subst h; rfl
theorem brn_f {α : Type} {b : Bool} {x y : Option α} (h : b = false) : brn b x y = y := by subst h; rfl
theorem grd_t {α : Type} {p : Prop} [Decidable p] {k : Option α} (h : p) : grd p k = k := by simp [grd, h]
theorem wrapN {n : Nat} (h : n ≤ 100000) : IntKind.i64.wrap ((n : Int) + 1) = ((n + 1 : Nat) : Int) := by
  rw [wrap64 (by omega) (by omega)]; omega
theorem toNatN (n : Nat) : Int.toNat (n : Int) = n := by omega
theorem eq0_t {n : Nat} (h : n = 0) : ((n : Int) == 0) = true := by subst h; rfl
theorem eq0_f {n : Nat} (h : n ≠ 0) : ((n : Int) == 0) = false := by
  rw [beq_eq_false_iff_ne]; omega
theorem range'_step {i n : Nat} (h : i < n) : List.range' i (n - i) = i :: List.range' (i + 1) (n - (i + 1)) := by
  rw [show n - i = (n - (i + 1)) + 1 by omega, List.range'_succ]
def iL (X : List Int) : List PV := X.map (PV.int .i64)
theorem iL_len (X : List Int) : (iL X).length = X.length := by simp [iL]
def en (X : List Int) (i : Nat) : Int := X.getD i 0
theorem iL_gp {X : List Int} {i : Nat} (h : i < X.length) : gp (iL X) i = .int .i64 (en X i) := by
  simp [iL, gp, en, List.getD, h]
def rwP (r : List Int) : PV := .lst false r.length (iL r)
def rwsP (L : List (List Int)) : List PV := L.map rwP
theorem rws_len (L : List (List Int)) : (rwsP L).length = L.length := by simp [rwsP]
def ro (L : List (List Int)) (i : Nat) : List Int := L.getD i []
theorem rws_gp {L : List (List Int)} {i : Nat} (h : i < L.length) : gp (rwsP L) i = .lst false (ro L i).length (iL (ro L i)) := by
  simp [rwsP, gp, ro, rwP, List.getD, h]
theorem ro_mem {L : List (List Int)} {i : Nat} (h : i < L.length) : ro L i ∈ L := by
  simp [ro, List.getD, h]
theorem en_mem {X : List Int} {i : Nat} (h : i < X.length) : en X i ∈ X := by
  simp [en, List.getD, h]
theorem drop_ro {L : List (List Int)} {i : Nat} (h : i < L.length) : L.drop i = ro L i :: L.drop (i + 1) := by
  rw [List.drop_eq_getElem_cons h]; simp [ro, List.getD, h]
theorem drop_en {L : List Int} {i : Nat} (h : i < L.length) : L.drop i = en L i :: L.drop (i + 1) := by
  rw [List.drop_eq_getElem_cons h]; simp [en, List.getD, h]
def lgL (L : List (List Int)) : Bool := decide (20 < L.length) || L.any fun r => decide (20 < r.length)
theorem large_L (N : Nat) (L : List (List Int)) (hL : L.length ≤ 20) : ∀ (r i fuel : Nat), L.length - i = r → r < fuel →
    m15_L0 N L.length (rwsP L) fuel (i : Int) = some (if (L.drop i).any (fun r => decide (20 < r.length)) then .inl (.bool true) else .inr ())
  | r, i, 0, _, h => by omega
  | r, i, f + 1, hr, hf => by
    have hl := rws_len L
    rw [m15_L0]
    by_cases hi : i < L.length
    · have ih := large_L N L hL (r - 1) (i + 1) f (by omega) (by omega)
      rw [brn_t (by simp; omega), toNatN, grd_t ⟨by omega, by omega⟩, grd_t (by simp only [List.length_drop]; omega), rws_gp hi, drop_ro hi]
      simp only [getL, List.any_cons]
      by_cases h : 20 < (ro L i).length
      · rw [brn_t (by simp; omega)]; simp [h]
      · rw [brn_f (by simp; omega), wrapN (by omega), ih]; simp [h]
    · rw [brn_f (by simp; omega), List.drop_eq_nil_of_le (by omega)]; rfl
theorem large_ok (N : Nat) (hN : 100 ≤ N) (L : List (List Int)) : m15 N (.lst false L.length (rwsP L)) = some (.bool (lgL L)) := by
  simp only [m15, getL]
  by_cases h : 20 < L.length
  · rw [brn_t (by simp; omega)]; simp [lgL, h]
  · have := large_L N L (by omega) L.length 0 N (by omega) (by omega)
    rw [brn_f (by simp; omega), show m15_L0 N L.length (rwsP L) N 0 = _ from this, List.drop_zero]
    simp only [lgL, h, decide_false, Bool.false_or]
    cases L.any fun r => decide (20 < r.length) <;> rfl
def bad (lo hi n : Int) : Bool := decide (n < lo) || decide (n > hi)
theorem wrong_L (N : Nat) (lo hi : Int) (X : List Int) (hX : X.length ≤ 1000) : ∀ (r i fuel : Nat), X.length - i = r → r < fuel →
    ∃ o, m103_L0 N lo hi X.length (iL X) fuel (i : Int) = some o ∧ ((X.drop i).any (bad lo hi) = true → ∃ k : Nat, o = .inl (.int .i64 (k : Int))) ∧ ((X.drop i).any (bad lo hi) = false → o = .inr ())
  | r, i, 0, _, h => by omega
  | r, i, f + 1, hr, hf => by
    have hl := iL_len X
    rw [m103_L0]
    by_cases hi' : i < X.length
    · obtain ⟨o, o1, o2, o3⟩ := wrong_L N lo hi X hX (r - 1) (i + 1) f (by omega) (by omega)
      have hb : m93 N (en X i) lo hi = some (.bool (bad lo hi (en X i))) := by
        unfold m93 bad
        by_cases h : en X i < lo
        · rw [brn_t (by simpa using h)]; simp [h]
        · rw [brn_f (by simpa using h)]; simp [h]
      rw [brn_t (by simp; omega), toNatN, grd_t ⟨by omega, by omega⟩, grd_t (by simp only [List.length_drop]; omega), iL_gp hi', drop_en hi']
      simp only [getI, if_true, hb, bnd', getB, List.any_cons]
      cases h : bad lo hi (en X i) with
      | true => rw [brn_t rfl]; exact ⟨_, rfl, fun _ => ⟨i, rfl⟩, fun h => by simp at h⟩
      | false =>
        rw [brn_f rfl, wrapN (by omega)]
        exact ⟨o, o1, fun h => o2 (by simpa using h), fun h => o3 (by simpa using h)⟩
    · rw [brn_f (by simp; omega), List.drop_eq_nil_of_le (by omega)]
      exact ⟨_, rfl, fun h => by simp at h, fun _ => rfl⟩
theorem wrong_ok (N : Nat) (hN : 2000 ≤ N) (lo hi : Int) (X : List Int) (hX : X.length ≤ 1000) : m68 N (.lst false X.length (iL X)) lo hi = some (.bool (X.any (bad lo hi))) := by
  obtain ⟨o, o1, o2, o3⟩ := wrong_L N lo hi X hX X.length 0 N (by omega) (by omega)
  rw [List.drop_zero] at o2 o3
  simp only [m68, m92, m103, getL]
  rw [show m103_L0 N lo hi X.length (iL X) N 0 = some o from o1]
  cases h : X.any (bad lo hi) with
  | true =>
    obtain ⟨k, hk⟩ := o2 h
    rw [hk]; simp [bnd', getI, getB]
  | false => rw [o3 h]; simp [bnd', getI, getB]
def selF : Bool → PV ⊕ Unit
  | true => .inl (.bool false)
  | false => .inr ()
theorem within_L (N : Nat) (lo hi : Int) (X : List Int) (hX : X.length ≤ 1000) : ∀ (r i fuel : Nat), X.length - i = r → r < fuel →
    m70_L0 N lo hi X.length (iL X) fuel (i : Int) = some (selF ((X.drop i).any (bad lo hi)))
  | r, i, 0, _, h => by omega
  | r, i, f + 1, hr, hf => by
    have hl := iL_len X
    rw [m70_L0]
    by_cases hi' : i < X.length
    · have ih := within_L N lo hi X hX (r - 1) (i + 1) f (by omega) (by omega)
      have hb : m94 N (en X i) lo hi = some (.bool (!bad lo hi (en X i))) := by
        unfold m94 bad
        by_cases h : en X i < lo
        · rw [brn_f (by simp; omega)]; simp [h]
        · rw [brn_t (by simp; omega)]
          by_cases h2 : en X i > hi
          · have : ¬ en X i ≤ hi := by omega
            simp [h, h2, this]
          · have : en X i ≤ hi := by omega
            simp [h, h2, this]
      rw [brn_t (by simp; omega), toNatN, grd_t ⟨by omega, by omega⟩, grd_t (by simp only [List.length_drop]; omega), iL_gp hi', drop_en hi']
      simp only [getI, if_true, hb, bnd', getB, List.any_cons]
      rcases Bool.eq_false_or_eq_true (bad lo hi (en X i)) with h | h
      · rw [h, Bool.not_true, brn_f rfl, Bool.true_or]; rfl
      · rw [h, Bool.not_false, brn_t rfl, wrapN (by omega), ih, Bool.false_or]
    · rw [brn_f (by simp; omega), List.drop_eq_nil_of_le (by omega)]; rfl
theorem within_ok (N : Nat) (hN : 2000 ≤ N) (lo hi : Int) (X : List Int) (hX : X.length ≤ 1000) : m70 N (.lst false X.length (iL X)) lo hi = some (.bool (!X.any (bad lo hi))) := by
  have := within_L N lo hi X hX X.length 0 N (by omega) (by omega)
  simp only [m70, getL]
  rw [show m70_L0 N lo hi X.length (iL X) N 0 = _ from this, List.drop_zero]
  cases X.any (bad lo hi) <;> rfl
def chR (c : Nat) : List (List Int) → Int
  | [] => 0
  | r :: rs => if r.length ≠ c then 5 else if r.any (bad 0 20) then 1 else chR c rs
def chk (L : List (List Int)) : Int :=
  if L.length = 0 then 4 else if (ro L 0).length = 0 then 4 else if 3 < L.length then 3 else if 4 < (ro L 0).length then 3 else chR (ro L 0).length L
def outE (e : Int) : PV ⊕ Unit := if e = 0 then .inr () else .inl (.int .i64 e)
theorem check_L (N : Nat) (hN : 2000 ≤ N) (L : List (List Int)) (hL : L.length ≤ 20) (hr20 : ∀ r ∈ L, r.length ≤ 20) (c : Nat) : ∀ (r i fuel : Nat), L.length - i = r → r < fuel →
    m23_L0 N L.length (rwsP L) c fuel (i : Int) = some (outE (chR c (L.drop i))) ∧ m24_L0 N L.length (rwsP L) c fuel (i : Int) = some (outE (chR c (L.drop i)))
  | r, i, 0, _, h => by omega
  | r, i, f + 1, hr, hf => by
    have hl := rws_len L
    rw [m23_L0, m24_L0]
    by_cases hi : i < L.length
    · obtain ⟨i1, i2⟩ := check_L N hN L hL hr20 c (r - 1) (i + 1) f (by omega) (by omega)
      have hm := hr20 _ (ro_mem hi)
      have q1 : ∀ {α : Type} (y z : Option α), brn (decide ((i : Int) < (L.length : Int))) y z = y := fun y z => brn_t (by simp; omega)
      rw [q1, q1, toNatN, grd_t ⟨by omega, by omega⟩, grd_t (by simp only [List.length_drop]; omega), grd_t ⟨by omega, by omega⟩, grd_t (by simp only [List.length_drop]; omega), rws_gp hi, drop_ro hi]
      simp only [getL, wrong_ok N hN 0 20 (ro L i) (by omega), within_ok N hN 0 20 (ro L i) (by omega), bnd', getB, chR]
      by_cases h : (ro L i).length = c
      · have q2 : ∀ {α : Type} (y z : Option α), brn (((ro L i).length : Int) != (c : Int)) y z = z := fun y z => brn_f (by simp; omega)
        rw [q2, q2, if_neg (by simpa using h)]
        cases hb : (ro L i).any (bad 0 20) with
        | true => rw [brn_t rfl, if_pos rfl]; exact ⟨rfl, rfl⟩
        | false =>
          rw [brn_f rfl, wrapN (by omega), if_neg (by simp)]
          exact ⟨i1, i2⟩
      · have q2 : ∀ {α : Type} (y z : Option α), brn (((ro L i).length : Int) != (c : Int)) y z = y := fun y z => brn_t (by simp; omega)
        rw [q2, q2, if_pos h]
        exact ⟨rfl, rfl⟩
    · have q1 : ∀ {α : Type} (y z : Option α), brn (decide ((i : Int) < (L.length : Int))) y z = z := fun y z => brn_f (by simp; omega)
      rw [q1, q1, List.drop_eq_nil_of_le (by omega)]
      exact ⟨rfl, rfl⟩
theorem outE_end {x : Int} : (match outE x with | .inl p => some p | .inr () => some (PV.int .i64 0)) = some (.int .i64 x) := by
  unfold outE
  by_cases h : x = 0
  · rw [if_pos h, h]
  · rw [if_neg h]
theorem check_ok (N : Nat) (hN : 2000 ≤ N) (L : List (List Int)) (hL : lgL L = false) : m23 N (.lst false L.length (rwsP L)) = some (.int .i64 (chk L)) ∧ m24 N (.lst false L.length (rwsP L)) = some (.int .i64 (chk L)) := by
  simp only [lgL, Bool.or_eq_false_iff, decide_eq_false_iff_not] at hL
  have hL1 : L.length ≤ 20 := by omega
  have hr20 : ∀ r ∈ L, r.length ≤ 20 := fun r hr => by
    have h := hL.2
    rw [List.any_eq_false] at h
    have := h r hr
    simp at this; exact this
  have hl := rws_len L
  simp only [m23, m24, getL]
  unfold chk
  by_cases h0 : L.length = 0
  · have q : ∀ {α : Type} (y z : Option α), brn ((L.length : Int) == 0) y z = y := fun y z => brn_t (eq0_t h0)
    rw [q, q, if_pos h0]; exact ⟨rfl, rfl⟩
  · have q : ∀ {α : Type} (y z : Option α), brn ((L.length : Int) == 0) y z = z := fun y z => brn_f (eq0_f h0)
    rw [q, q, if_neg h0, grd_t (by omega), grd_t (by omega), grd_t (by omega), grd_t (by omega), rws_gp (by omega)]
    simp only []
    by_cases h1 : (ro L 0).length = 0
    · have q : ∀ {α : Type} (y z : Option α), brn (((ro L 0).length : Int) == 0) y z = y := fun y z => brn_t (eq0_t h1)
      rw [q, q, if_pos h1]; exact ⟨rfl, rfl⟩
    · have q : ∀ {α : Type} (y z : Option α), brn (((ro L 0).length : Int) == 0) y z = z := fun y z => brn_f (eq0_f h1)
      rw [q, q, if_neg h1]
      by_cases h2 : 3 < L.length
      · have q : ∀ {α : Type} (y z : Option α), brn (decide ((L.length : Int) > 3)) y z = y := fun y z => brn_t (by simp; omega)
        rw [q, q, if_pos h2]; exact ⟨rfl, rfl⟩
      · have q : ∀ {α : Type} (y z : Option α), brn (decide ((L.length : Int) > 3)) y z = z := fun y z => brn_f (by simp; omega)
        rw [q, q, if_neg h2]
        by_cases h3 : 4 < (ro L 0).length
        · have q : ∀ {α : Type} (y z : Option α), brn (decide (((ro L 0).length : Int) > 4)) y z = y := fun y z => brn_t (by simp; omega)
          rw [q, q, if_pos h3]; exact ⟨rfl, rfl⟩
        · have q : ∀ {α : Type} (y z : Option α), brn (decide (((ro L 0).length : Int) > 4)) y z = z := fun y z => brn_f (by simp; omega)
          obtain ⟨e1, e2⟩ := check_L N hN L hL1 hr20 (ro L 0).length L.length 0 N (by omega) (by omega)
          rw [List.drop_zero] at e1 e2
          rw [q, q, if_neg h3, show m23_L0 N L.length (rwsP L) (ro L 0).length N 0 = _ from e1, show m24_L0 N L.length (rwsP L) (ro L 0).length N 0 = _ from e2]
          simp only [bnd']
          exact ⟨outE_end, outE_end⟩
structure Okc (L : List (List Int)) (c : Nat) : Prop where
  r1 : 1 ≤ L.length
  r3 : L.length ≤ 3
  c1 : 1 ≤ c
  c4 : c ≤ 4
  row : ∀ i, i < L.length → (ro L i).length = c
  val : ∀ i j, i < L.length → j < c → 0 ≤ en (ro L i) j ∧ en (ro L i) j ≤ 20
theorem chR_zero {c : Nat} : ∀ {L : List (List Int)}, chR c L = 0 → ∀ r ∈ L, r.length = c ∧ r.any (bad 0 20) = false
  | [], _, _, h => by simp at h
  | r :: rs, h, x, hx => by
    unfold chR at h
    split at h
    · cases h
    · rename_i h1
      split at h
      · cases h
      · rename_i h2
        rcases List.mem_cons.1 hx with rfl | hx
        · exact ⟨by omega, by simpa using h2⟩
        · exact chR_zero h x hx
theorem chk_zero {L : List (List Int)} (h : chk L = 0) : Okc L (ro L 0).length := by
  unfold chk at h
  split at h
  · cases h
  · split at h
    · cases h
    · split at h
      · cases h
      · split at h
        · cases h
        · have hz := chR_zero h
          refine ⟨by omega, by omega, by omega, by omega, fun i hi => (hz _ (ro_mem hi)).1, fun i j hi hj => ?_⟩
          obtain ⟨h1, h2⟩ := hz _ (ro_mem hi)
          rw [List.any_eq_false] at h2
          have := h2 _ (en_mem (X := ro L i) (i := j) (by omega))
          simp only [bad, Bool.or_eq_true, decide_eq_true_eq, not_or] at this
          omega
def cst (L : List (List Int)) (i j : Nat) : Int := en (ro L i) j
theorem all_step {p : Nat → Bool} {i n : Nat} (h : i < n) : (List.range' i (n - i)).all p = (p i && (List.range' (i + 1) (n - (i + 1))).all p) := by
  rw [range'_step h, List.all_cons]
theorem all_end {p : Nat → Bool} {i n : Nat} (h : ¬ i < n) : (List.range' i (n - i)).all p = true := by
  rw [show n - i = 0 by omega]; rfl
end Go.Proofs.Yteidcinajdehkaa
namespace Go.Proofs.Yteidcinajdehkaa
open Go.V
set_option linter.unusedSectionVars false
theorem bnd_t {α β : Type} {x : α} {f : α → Option β} : bnd' (some x) f = f x := rfl
theorem getI_t {α : Type} {k : IntKind} {x : Int} {f : Int → Option α} : getI k (.int k x) f = f x := by simp [getI]
theorem getB_t {α : Type} {b : Bool} {f : Bool → Option α} : getB (.bool b) f = f b := rfl
theorem getL_t {α : Type} {n : Nat} {c : List PV} {f : Nat → List PV → Option α} : getL (.lst false n c) f = f n c := rfl
theorem getA2_t {α : Type} {a b : PV} {f : PV → PV → Option α} : getA2 (.agg [a, b]) f = f a b := rfl
theorem getT2_t {α : Type} {a b : PV} {f : PV → PV → Option α} : getT2 (.tup [a, b]) f = f a b := rfl
theorem any_bad {lo hi : Int} {X : List Int} (h : X.any (bad lo hi) = false) {i : Nat} (hi' : i < X.length) : lo ≤ en X i ∧ en X i ≤ hi := by
  rw [List.any_eq_false] at h
  have := h _ (en_mem hi')
  simp only [bad, Bool.or_eq_true, decide_eq_true_eq, not_or] at this
  omega
theorem sum_L (N : Nat) (X : List Int) (hX : X.length ≤ 20) (h5 : X.any (bad 0 5) = false) : ∀ (r i fuel : Nat) (a : Int), X.length - i = r → r < fuel → 0 ≤ a → a ≤ 5 * i →
    m69_L0 N X.length (iL X) fuel a (i : Int) = some (a + (X.drop i).sum) ∧ m64_L0 N X.length (iL X) fuel a (i : Int) = some (a + (X.drop i).sum)
  | r, i, 0, _, _, h, _, _ => by omega
  | r, i, f + 1, a, hr, hf, h0, h1 => by
    by_cases h : i < X.length
    · have b := any_bad h5 h
      obtain ⟨e1, e2⟩ := sum_L N X hX h5 (r - 1) (i + 1) f (a + en X i) (by omega) (by omega) (by omega) (by omega)
      have hl := iL_len X
      have e3 : a + (X.drop i).sum = a + en X i + (X.drop (i + 1)).sum := by rw [drop_en h, List.sum_cons]; omega
      rw [e3, ← e1]
      constructor
      · rw [m69_L0, brn_t (decide_eq_true (by omega)), grd_t ⟨by omega, by omega⟩, toNatN, grd_t (by rw [List.length_drop]; omega), iL_gp h, getI_t, wrap64 (n := a + en X i) (by omega) (by omega), wrapN (by omega)]
      · rw [m64_L0, brn_t (decide_eq_true (by omega)), grd_t ⟨by omega, by omega⟩, toNatN, grd_t (by rw [List.length_drop]; omega), iL_gp h, getI_t, wrap64 (n := a + en X i) (by omega) (by omega), wrapN (by omega), e1, e2]
    · rw [m69_L0, m64_L0, brn_f (decide_eq_false (by omega)), brn_f (decide_eq_false (by omega)), List.drop_eq_nil_of_le (by omega)]
      simp
theorem sum_ok (N : Nat) (hN : 2000 ≤ N) (X : List Int) (hX : X.length ≤ 20) (h5 : X.any (bad 0 5) = false) : m69 N (rwP X) = some (.int .i64 X.sum) ∧ m64 N (rwP X) = some (.int .i64 X.sum) := by
  obtain ⟨e1, e2⟩ := sum_L N X hX h5 X.length 0 N 0 (by omega) (by omega) (by omega) (by omega)
  rw [List.drop_zero, Int.zero_add] at e1 e2
  unfold rwP
  rw [m69, m64, getL_t, getL_t, show m69_L0 N _ _ N 0 0 = _ from e1, show m64_L0 N _ _ N 0 0 = _ from e2]
  exact ⟨rfl, rfl⟩
def ldE (L : List (List Int)) (H W : List Int) : Int :=
  if chk L ≠ 0 then chk L else if H.length ≠ L.length then 5 else if W.length ≠ (ro L 0).length then 5 else if H.any (bad 0 5) then 1 else if W.any (bad 0 5) then 1 else if H.sum ≠ W.sum then 17 else 0
theorem loaded_ok (N : Nat) (hN : 2000 ≤ N) (L : List (List Int)) (hL : lgL L = false) (H W : List Int) (hH : H.length ≤ 20) (hW : W.length ≤ 20) :
    m25 N (.lst false L.length (rwsP L)) (.agg [rwP H, rwP W]) = some (.int .i64 (ldE L H W)) ∧ m26 N (.lst false L.length (rwsP L)) (.agg [rwP H, rwP W]) = some (.int .i64 (ldE L H W)) := by
  obtain ⟨c1, c2⟩ := check_ok N hN L hL
  have w1 := wrong_ok N hN 0 5 H (by omega)
  have w2 := wrong_ok N hN 0 5 W (by omega)
  have v1 := within_ok N hN 0 5 H (by omega)
  have v2 := within_ok N hN 0 5 W (by omega)
  constructor
  · rw [m25, getL_t, getA2_t, c1, bnd_t, getI_t]
    unfold ldE
    by_cases h : chk L = 0
    · have ok := chk_zero h
      have r1 := ok.r1
      rw [h, brn_f (b := ((0 : Int) != 0)) rfl, if_neg (show ¬ ((0 : Int) ≠ 0) by simp)]
      unfold rwP
      rw [getL_t]
      by_cases h1 : H.length = L.length
      · rw [brn_f (bne_eq_false_iff_eq.2 (by omega)), if_neg (by simpa using h1), getL_t, grd_t (by omega), grd_t (by rw [rws_len]; omega), rws_gp (by omega), getL_t]
        by_cases h2 : W.length = (ro L 0).length
        · rw [brn_f (bne_eq_false_iff_eq.2 (by omega)), if_neg (by simpa using h2), w1, bnd_t, getB_t]
          cases h3 : H.any (bad 0 5) with
          | true => rfl
          | false =>
            rw [brn_f rfl, w2, bnd_t, getB_t]
            cases h4 : W.any (bad 0 5) with
            | true => rfl
            | false =>
              have s1 := (sum_ok N hN H hH h3).1
              have t1 := (sum_ok N hN W hW h4).1
              unfold rwP at s1 t1
              rw [brn_f rfl, s1, bnd_t, getI_t, t1, bnd_t, getI_t]
              by_cases h5 : H.sum = W.sum
              · rw [brn_f (by simp [h5])]; simp [h5]
              · rw [brn_t (by simp [h5])]; simp [h5]
        · rw [brn_t (bne_iff_ne.2 (by omega)), if_pos h2]
      · rw [brn_t (bne_iff_ne.2 (by omega)), if_pos h1]
    · rw [brn_t (by simpa using h), if_pos h]
  · rw [m26, getL_t, getA2_t, c2, bnd_t, getI_t]
    unfold ldE
    by_cases h : chk L = 0
    · have ok := chk_zero h
      have r1 := ok.r1
      rw [h, brn_f (b := ((0 : Int) != 0)) rfl, if_neg (show ¬ ((0 : Int) ≠ 0) by simp)]
      unfold rwP
      rw [getL_t]
      by_cases h1 : H.length = L.length
      · rw [brn_f (bne_eq_false_iff_eq.2 (by omega)), if_neg (by simpa using h1), getL_t, grd_t (by omega), grd_t (by rw [rws_len]; omega), rws_gp (by omega), getL_t]
        by_cases h2 : W.length = (ro L 0).length
        · rw [brn_f (bne_eq_false_iff_eq.2 (by omega)), if_neg (by simpa using h2), v1, bnd_t, getB_t]
          cases h3 : H.any (bad 0 5) with
          | true => rfl
          | false =>
            rw [brn_t (b := !false) rfl, v2, bnd_t, getB_t]
            cases h4 : W.any (bad 0 5) with
            | true => rfl
            | false =>
              have s1 := (sum_ok N hN H hH h3).2
              have t1 := (sum_ok N hN W hW h4).2
              unfold rwP at s1 t1
              rw [brn_t (b := !false) rfl, s1, bnd_t, getI_t, t1, bnd_t, getI_t]
              by_cases h5 : H.sum = W.sum
              · rw [brn_f (by simp [h5])]; simp [h5]
              · rw [brn_t (by simp [h5])]; simp [h5]
        · rw [brn_t (bne_iff_ne.2 (by omega)), if_pos h2]
      · rw [brn_t (bne_iff_ne.2 (by omega)), if_pos h1]
    · rw [brn_t (by simpa using h), if_pos h]
def fiR (p : List Int → Bool) : Nat → List (List Int) → PV ⊕ Unit
  | _, [] => .inr ()
  | i, r :: rs => if p r then .inl (.int .i64 (i : Int)) else fiR p (i + 1) rs
theorem shp_L (N : Nat) (p : PV) (W : List Int) (D : List (List Int)) (hD : D.length ≤ 20) : ∀ (r i fuel : Nat), D.length - i = r → r < fuel →
    m91_L0 N p (rwP W) D.length (rwsP D) fuel (i : Int) = some (fiR (fun r => r.length != W.length) i (D.drop i))
  | r, i, 0, _, h => by omega
  | r, i, f + 1, hr, hf => by
    rw [m91_L0]
    by_cases h : i < D.length
    · have hl := rws_len D
      rw [brn_t (decide_eq_true (by omega)), grd_t ⟨by omega, by omega⟩, toNatN, grd_t (by rw [List.length_drop]; omega), rws_gp h, getL_t, drop_ro h, fiR]
      unfold rwP
      rw [m66, getL_t, getL_t, bnd_t, getB_t]
      by_cases e : (ro D i).length = W.length
      · rw [brn_f (bne_eq_false_iff_eq.2 (by omega)), if_neg (by simpa using e), wrapN (by omega)]
        exact shp_L N p W D hD (r - 1) (i + 1) f (by omega) (by omega)
      · rw [brn_t (bne_iff_ne.2 (by omega)), if_pos (by simpa using e)]
    · rw [brn_f (decide_eq_false (by omega)), List.drop_eq_nil_of_le (by omega)]; rfl
def fiO : PV ⊕ Unit → Option PV
  | .inl q => some q
  | .inr () => some (.int .i64 (-1))
theorem fiR_any {p : List Int → Bool} : ∀ (D : List (List Int)) (i : Nat), fiO (fiR p i D) = some (.int .i64 (if D.any p then (((D.findIdx p + i : Nat) : Int)) else -1))
  | [], i => rfl
  | r :: D, i => by
    rw [fiR, List.any_cons, List.findIdx_cons]
    cases h : p r with
    | true => simp [fiO]
    | false =>
      rw [if_neg (by simp), fiR_any D (i + 1)]
      simp only [Bool.false_or, cond_false]
      congr 2
      split <;> simp <;> omega
theorem shp_ok (N : Nat) (hN : 2000 ≤ N) (p : PV) (W : List Int) (D : List (List Int)) (hD : D.length ≤ 20) : m65 N (.lst false D.length (rwsP D)) p (rwP W) = some (.bool (D.any fun r => r.length != W.length)) := by
  have e := shp_L N p W D hD D.length 0 N (by omega) (by omega)
  rw [List.drop_zero] at e
  rw [m65, getL_t, m91, getL_t, show m91_L0 N p (rwP W) D.length (rwsP D) N 0 = _ from e, bnd_t]
  have := fiR_any (p := fun r : List Int => r.length != W.length) D 0
  show bnd' (fiO (fiR _ 0 D)) _ = _
  rw [this, bnd_t, getI_t]
  cases D.any fun r => r.length != W.length
  · rfl
  · rw [if_pos rfl, decide_eq_true (show ((D.findIdx _ + 0 : Nat) : Int) ≥ 0 by omega)]
theorem rng_L (N : Nat) (hN : 2000 ≤ N) (D : List (List Int)) (hD : D.length ≤ 20) (hr : ∀ r ∈ D, r.length ≤ 20) : ∀ (r i fuel : Nat), D.length - i = r → r < fuel →
    m91_2_L0 N D.length (rwsP D) fuel (i : Int) = some (fiR (fun r => r.any (bad 0 5)) i (D.drop i))
  | r, i, 0, _, h => by omega
  | r, i, f + 1, hr', hf => by
    rw [m91_2_L0]
    by_cases h : i < D.length
    · have hl := rws_len D
      have h2 := hr _ (ro_mem h)
      rw [brn_t (decide_eq_true (by omega)), grd_t ⟨by omega, by omega⟩, toNatN, grd_t (by rw [List.length_drop]; omega), rws_gp h, getL_t, drop_ro h, fiR]
      rw [m67, getL_t, wrong_ok N hN 0 5 (ro D i) (by omega), bnd_t, getB_t, bnd_t, getB_t]
      cases (ro D i).any (bad 0 5) with
      | true => rw [brn_t rfl, if_pos rfl]
      | false =>
        rw [brn_f rfl, if_neg (by simp), wrapN (by omega)]
        exact rng_L N hN D hD hr (r - 1) (i + 1) f (by omega) (by omega)
    · rw [brn_f (decide_eq_false (by omega)), List.drop_eq_nil_of_le (by omega)]; rfl
theorem rng_ok (N : Nat) (hN : 2000 ≤ N) (D : List (List Int)) (hD : D.length ≤ 20) (hr : ∀ r ∈ D, r.length ≤ 20) : m65_2 N (.lst false D.length (rwsP D)) = some (.bool (D.any fun r => r.any (bad 0 5))) := by
  have e := rng_L N hN D hD hr D.length 0 N (by omega) (by omega)
  rw [List.drop_zero] at e
  rw [m65_2, getL_t, m91_2, getL_t, show m91_2_L0 N D.length (rwsP D) N 0 = _ from e, bnd_t]
  have := fiR_any (p := fun r : List Int => r.any (bad 0 5)) D 0
  show bnd' (fiO (fiR _ 0 D)) _ = _
  rw [this, bnd_t, getI_t]
  cases D.any fun r => r.any (bad 0 5)
  · rfl
  · rw [if_pos rfl, decide_eq_true (show ((D.findIdx _ + 0 : Nat) : Int) ≥ 0 by omega)]
def subF (w r : List Int) (j : Nat) : List Int := (List.range w.length).map fun k => if j ≤ k then en w k - en r k else en w k
theorem en_map {f : Nat → Int} {n k : Nat} (h : k < n) : en ((List.range n).map f) k = f k := by simp [en, List.getD, h]
theorem en_set {w : List Int} {j k : Nat} {x : Int} (hj : j < w.length) : en (w.set j x) k = if k = j then x else en w k := by
  unfold en
  by_cases h : k = j
  · subst h; simp [List.getD, hj]
  · rw [if_neg h]; simp [List.getD, List.getElem?_set_ne (Ne.symm h)]
theorem subF_step {w r : List Int} {j : Nat} (hj : j < w.length) : subF (w.set j (en w j - en r j)) r (j + 1) = subF w r j := by
  unfold subF
  rw [List.length_set]
  refine List.map_congr_left fun k _ => ?_
  rw [en_set hj]
  by_cases h : k = j
  · subst h; rw [if_neg (by omega), if_pos rfl, if_pos (by omega)]
  · by_cases h2 : j ≤ k
    · rw [if_pos (by omega), if_neg h, if_pos h2]
    · rw [if_neg (by omega), if_neg h, if_neg h2]
theorem list_en (w : List Int) : (List.range w.length).map (en w) = w := by
  apply List.ext_getElem
  · simp
  · intro i h1 h2
    simp [en, List.getD, h2]
theorem subF_end {w r : List Int} {j : Nat} (hj : w.length ≤ j) : subF w r j = w := by
  have : subF w r j = (List.range w.length).map (en w) := List.map_congr_left fun k hk => by
    rw [List.mem_range] at hk
    rw [if_neg (by omega)]
  rw [this, list_en]
def rcF (L : List (List Int)) (i : Nat) (r : List Int) (c j : Nat) : Int := ((List.range' j (c - j)).map fun k => en r k * cst L i k).sum
theorem iL_set (w : List Int) (j : Nat) (x : Int) : (iL w).set j (.int .i64 x) = iL (w.set j x) := by simp [iL, List.map_set]
theorem mul_b {a b : Int} (h1 : 0 ≤ a) (h2 : a ≤ 5) (h3 : 0 ≤ b) (h4 : b ≤ 20) : 0 ≤ a * b ∧ a * b ≤ 100 :=
  ⟨Int.mul_nonneg h1 h3, Int.le_trans (Int.mul_le_mul h2 h4 h3 (by omega)) (by decide)⟩
theorem row_L (N : Nat) (L : List (List Int)) (c : Nat) (hL : Okc L c) (nd : Nat) (cd : List PV) (nw : Nat) (cw : List PV) (nh : Nat) (ch : List PV) (i : Nat) (hi : i < L.length) (x : List Int) (hx : x.length = c) (h5 : x.any (bad 0 5) = false) :
    ∀ (r j fuel : Nat) (a : Int) (w : List Int), c - j = r → r < fuel → w.length = c → (∀ k, j ≤ k → k < c → -1000 ≤ en w k ∧ en w k ≤ 1000) → 0 ≤ a → a ≤ 100 * 4 * i + 100 * j → j ≤ c →
    m20_L1 N L.length (rwsP L) nd cd nw cw c (i : Int) c (iL x) nh ch fuel a (j : Int) (iL w) = some (a + rcF L i x c j, iL (subF w x j))
  | r, j, 0, _, _, _, h, _, _, _, _, _ => by omega
  | r, j, f + 1, a, w, hr, hf, hw, hb, h0, h1, hj => by
    have hc4 := hL.c4
    have hr3 := hL.r3
    rw [m20_L1]
    by_cases h : j < c
    · have bx := any_bad h5 (i := j) (by omega)
      have bw := hb j (by omega) h
      have bc := hL.val i j hi h
      have hm := mul_b bx.1 bx.2 bc.1 bc.2
      have lx := iL_len x
      have lw := iL_len w
      have ll := rws_len L
      have lr := hL.row i hi
      have lri := iL_len (ro L i)
      rw [brn_t (decide_eq_true (by omega)), grd_t ⟨by omega, by omega⟩, toNatN, grd_t (by rw [List.length_drop]; omega), iL_gp (by omega), getI_t, grd_t (by omega), grd_t (by omega), iL_gp (by omega), getI_t, grd_t (by omega), grd_t (by omega), toNatN, grd_t (by rw [List.length_drop]; omega), rws_gp hi, getL_t, grd_t (by omega), grd_t (by rw [List.length_drop]; omega), iL_gp (by omega), getI_t]
      rw [wrap64 (n := en x j * en (ro L i) j) (by omega) (by omega), wrap64 (n := a + en x j * en (ro L i) j) (by omega) (by omega), wrapN (by omega), wrap64 (n := en w j - en x j) (by omega) (by omega), iL_set]
      have ih := row_L N L c hL nd cd nw cw nh ch i hi x hx h5 (r - 1) (j + 1) f (a + en x j * en (ro L i) j) (w.set j (en w j - en x j)) (by omega) (by omega) (by rw [List.length_set]; exact hw) (fun k hk hk2 => by
        rw [en_set (by omega), if_neg (by omega)]
        exact hb k (by omega) hk2) (by omega) (by omega) (by omega)
      rw [ih, subF_step (by omega)]
      have e : rcF L i x c j = en x j * en (ro L i) j + rcF L i x c (j + 1) := by
        unfold rcF
        rw [range'_step h, List.map_cons, List.sum_cons]; rfl
      rw [e, Int.add_assoc]
    · rw [brn_f (decide_eq_false (by omega)), subF_end (by omega)]
      unfold rcF
      rw [Nat.sub_eq_zero_of_le (by omega)]
      simp
def runC (L : List (List Int)) (c : Nat) (H : List Int) : Nat → List (List Int) → Int → List Int → PV ⊕ (Int × List PV)
  | _, [], a, w => .inr (a, iL w)
  | i, r :: rs, a, w => if r.sum ≠ en H i then .inl (.tup [.int .i64 0, .int .i64 17]) else runC L c H (i + 1) rs (a + rcF L i r c 0) (subF w r 0)
theorem subF_len (w r : List Int) (j : Nat) : (subF w r j).length = w.length := by simp [subF]
theorem en_subF {w r : List Int} {k : Nat} (h : k < w.length) : en (subF w r 0) k = en w k - en r k := by
  unfold subF
  rw [en_map h, if_pos (by omega)]
theorem rcF_b {L : List (List Int)} {c : Nat} (hL : Okc L c) {i : Nat} (hi : i < L.length) {x : List Int} (hx : x.length = c) (h5 : x.any (bad 0 5) = false) : ∀ (r j : Nat), c - j = r → 0 ≤ rcF L i x c j ∧ rcF L i x c j ≤ 100 * r
  | 0, j, h => by unfold rcF; rw [h]; simp
  | r + 1, j, h => by
    have hj : j < c := by omega
    have ih := rcF_b hL hi hx h5 r (j + 1) (by omega)
    have bx := any_bad h5 (i := j) (by omega)
    have bc := hL.val i j hi hj
    have hm := mul_b bx.1 bx.2 bc.1 bc.2
    have e : rcF L i x c j = en x j * en (ro L i) j + rcF L i x c (j + 1) := by
      unfold rcF
      rw [range'_step hj, List.map_cons, List.sum_cons]; rfl
    omega
theorem cost_L (N : Nat) (hN : 2000 ≤ N) (L : List (List Int)) (c : Nat) (hL : Okc L c) (H W : List Int) (hH : H.length = L.length) (D : List (List Int)) (hD : D.length = L.length) (hr : ∀ r ∈ D, r.length = c ∧ r.any (bad 0 5) = false) :
    ∀ (s i fuel : Nat) (a : Int) (w : List Int), D.length - i = s → s < fuel → w.length = c → (∀ k, k < c → -5 * (i : Int) ≤ en w k ∧ en w k ≤ 5) → 0 ≤ a → a ≤ 400 * i →
    m20_L0 N L.length (rwsP L) D.length (rwsP D) W.length (iL W) c fuel (rwP H) a (i : Int) (iL w) = some (runC L c H i (D.drop i) a w)
  | s, i, 0, _, _, _, h, _, _, _, _ => by omega
  | s, i, f + 1, a, w, hs, hf, hw, hb, h0, h1 => by
    have hc4 := hL.c4
    have hr3 := hL.r3
    rw [m20_L0]
    by_cases h : i < D.length
    · obtain ⟨r1, r2⟩ := hr _ (ro_mem h)
      have lD := rws_len D
      have lH := iL_len H
      have S := (sum_ok N hN (ro D i) (by omega) r2).1
      rw [brn_t (decide_eq_true (by omega)), grd_t ⟨by omega, by omega⟩, toNatN, grd_t (by rw [List.length_drop]; omega), rws_gp h, getL_t]
      unfold rwP at S ⊢
      rw [S, bnd_t, getI_t, getL_t, grd_t (by omega), grd_t (by rw [List.length_drop]; omega), iL_gp (by omega), getI_t, drop_ro h, runC]
      by_cases e : (ro D i).sum = en H i
      · rw [brn_f (bne_eq_false_iff_eq.2 e), if_neg (by simpa using e), r1]
        have R := row_L N L c hL D.length (rwsP D) W.length (iL W) H.length (iL H) i (by omega) (ro D i) r1 r2 c 0 N a w (by omega) (by omega) hw (fun k _ hk => by have := hb k hk; omega) h0 (by omega) (by omega)
        rw [show m20_L1 N L.length (rwsP L) D.length (rwsP D) W.length (iL W) c (i : Int) c (iL (ro D i)) H.length (iL H) N a 0 (iL w) = _ from R, bnd_t]
        have rb := rcF_b hL (i := i) (by omega) r1 r2 c 0 (by omega)
        show m20_L0 N _ _ _ _ _ _ _ f _ _ _ _ = _
        rw [wrapN (by omega)]
        exact cost_L N hN L c hL H W hH D hD hr (s - 1) (i + 1) f (a + rcF L i (ro D i) c 0) (subF w (ro D i) 0) (by omega) (by omega) (by rw [subF_len]; exact hw) (fun k hk => by
          rw [en_subF (by omega)]
          have b1 := hb k hk
          have b2 := any_bad r2 (i := k) (by omega)
          omega) (by omega) (by omega)
      · rw [brn_t (bne_iff_ne.2 e), if_pos e]
    · rw [brn_f (decide_eq_false (by omega)), List.drop_eq_nil_of_le (by omega)]; rfl
def rwB (H : List Int) : Nat → List (List Int) → Bool
  | _, [] => true
  | i, r :: rs => decide (r.sum = en H i) && rwB H (i + 1) rs
def cF (L : List (List Int)) (c : Nat) : Nat → List (List Int) → Int
  | _, [] => 0
  | i, r :: rs => rcF L i r c 0 + cF L c (i + 1) rs
def leftF : List Int → List (List Int) → List Int
  | w, [] => w
  | w, r :: rs => leftF (subF w r 0) rs
def colS (D : List (List Int)) (k : Nat) : Int := (D.map fun r => en r k).sum
theorem runC_eq (L : List (List Int)) (c : Nat) (H : List Int) : ∀ (D : List (List Int)) (i : Nat) (a : Int) (w : List Int), runC L c H i D a w = if rwB H i D then .inr (a + cF L c i D, iL (leftF w D)) else .inl (.tup [.int .i64 0, .int .i64 17])
  | [], i, a, w => by simp [runC, rwB, cF, leftF]
  | r :: D, i, a, w => by
    rw [runC, rwB, cF, leftF]
    by_cases h : r.sum = en H i
    · rw [if_neg (by simpa using h), runC_eq L c H D, decide_eq_true h, Bool.true_and, Int.add_assoc]
    · rw [if_pos h, decide_eq_false h, Bool.false_and, if_neg (by simp)]
theorem leftF_len : ∀ (D : List (List Int)) (w : List Int), (leftF w D).length = w.length
  | [], _ => rfl
  | r :: D, w => by rw [leftF, leftF_len D, subF_len]
theorem en_left : ∀ (D : List (List Int)) (w : List Int) {k : Nat}, k < w.length → en (leftF w D) k = en w k - colS D k
  | [], w, k, _ => by simp [leftF, colS]
  | r :: D, w, k, h => by
    rw [leftF, en_left D _ (by rw [subF_len]; exact h), en_subF h]
    unfold colS
    rw [List.map_cons, List.sum_cons]
    omega
def clB (W : List Int) (D : List (List Int)) : Bool := (List.range W.length).all fun k => decide (colS D k = en W k)
theorem left_bad (W : List Int) (D : List (List Int)) : (leftF W D).any (bad 0 0) = !clB W D := by
  rw [Bool.eq_iff_iff, List.any_eq_true]
  unfold clB
  rw [Bool.not_eq_true', List.all_eq_false]
  constructor
  · rintro ⟨x, hx, hb⟩
    obtain ⟨k, hk, rfl⟩ := List.getElem_of_mem hx
    have hk' : k < W.length := by rwa [leftF_len] at hk
    refine ⟨k, List.mem_range.2 hk', ?_⟩
    have e := en_left D W hk'
    have : (leftF W D)[k] = en (leftF W D) k := by simp [en, List.getD, hk]
    rw [this, e] at hb
    simp [bad] at hb
    simp; omega
  · rintro ⟨k, hk, hb⟩
    have hk' := List.mem_range.1 hk
    have e := en_left D W hk'
    refine ⟨_, en_mem (X := leftF W D) (i := k) (by rw [leftF_len]; exact hk'), ?_⟩
    rw [e]
    simp [bad]
    simp at hb
    omega
def cstE (L : List (List Int)) (H W : List Int) (D : List (List Int)) : Int × Int :=
  if ldE L H W ≠ 0 then (0, ldE L H W) else if D.length ≠ L.length then (0, 5) else if D.any (fun r => r.length != W.length) then (0, 5) else if D.any (fun r => r.any (bad 0 5)) then (0, 1)
  else if rwB H 0 D then (if clB W D then (cF L W.length 0 D, 0) else (0, 17)) else (0, 17)
theorem ldE_zero {L : List (List Int)} {H W : List Int} (h : ldE L H W = 0) : Okc L W.length ∧ H.length = L.length ∧ H.any (bad 0 5) = false ∧ W.any (bad 0 5) = false ∧ H.sum = W.sum := by
  unfold ldE at h
  by_cases h1 : chk L = 0
  · rw [if_neg (by simpa using h1)] at h
    split at h
    · cases h
    · rename_i h2
      split at h
      · cases h
      · rename_i h3
        split at h
        · cases h
        · rename_i h4
          split at h
          · cases h
          · rename_i h5
            split at h
            · cases h
            · rename_i h6
              have h3 : W.length = (ro L 0).length := by omega
              exact ⟨h3 ▸ chk_zero h1, by omega, by simpa using h4, by simpa using h5, by omega⟩
  · rw [if_pos h1] at h; exact absurd h h1
theorem cost_ok (N : Nat) (hN : 2000 ≤ N) (L : List (List Int)) (hL : lgL L = false) (H W : List Int) (hH : H.length ≤ 20) (hW : W.length ≤ 20) (D : List (List Int)) (hD : lgL D = false) :
    m20 N (.lst false L.length (rwsP L)) (.agg [rwP H, rwP W]) (.lst false D.length (rwsP D)) = some (.tup [.int .i64 (cstE L H W D).1, .int .i64 (cstE L H W D).2]) := by
  have ld := (loaded_ok N hN L hL H W hH hW).1
  rw [m20, getL_t, getA2_t, getL_t, ld, bnd_t, getI_t]
  unfold cstE
  by_cases h : ldE L H W = 0
  · obtain ⟨ok, k1, k2, k3, k4⟩ := ldE_zero h
    have hc4 := ok.c4
    have hr3 := ok.r3
    rw [h, brn_f (b := ((0 : Int) != 0)) rfl, if_neg (show ¬ ((0 : Int) ≠ 0) by simp)]
    by_cases h1 : D.length = L.length
    · rw [brn_f (bne_eq_false_iff_eq.2 (by omega)), if_neg (by simpa using h1), shp_ok N hN (rwP H) W D (by omega), bnd_t, getB_t]
      cases h2 : D.any fun r => r.length != W.length with
      | true => rfl
      | false =>
        have rows : ∀ r ∈ D, r.length = W.length := fun r hr => by
          have := List.any_eq_false.1 h2 r hr
          simpa using this
        rw [brn_f rfl, rng_ok N hN D (by omega) (fun r hr => by have := rows r hr; omega), bnd_t, getB_t]
        cases h3 : D.any fun r => r.any (bad 0 5) with
        | true => rfl
        | false =>
          have vals : ∀ r ∈ D, r.length = W.length ∧ r.any (bad 0 5) = false := fun r hr => by
            have := List.any_eq_false.1 h3 r hr
            exact ⟨rows r hr, by simpa using this⟩
          have C := cost_L N hN L W.length ok H W k1 D h1 vals D.length 0 N 0 W (by omega) (by omega) rfl (fun k hk => by have := any_bad k3 (i := k) hk; omega) (by omega) (by omega)
          rw [List.drop_zero, runC_eq, Int.zero_add] at C
          have lW := iL_len W
          have c1 := ok.c1
          rw [brn_f rfl]
          unfold rwP
          rw [getL_t, m53, getL_t, grd_t (by omega), grd_t (by omega), grd_t (by omega), bnd_t]
          show bnd' (m20_L0 N _ _ _ _ _ _ _ N _ 0 0 _) _ = _
          rw [show m20_L0 N L.length (rwsP L) D.length (rwsP D) W.length (iL W) W.length N (.lst false H.length (iL H)) 0 0 (iL W) = _ from C]
          cases h4 : rwB H 0 D with
          | false => rfl
          | true =>
            rw [if_pos rfl, bnd_t]
            have ll := leftF_len D W
            have wr := wrong_ok N hN 0 0 (leftF W D) (by omega)
            rw [left_bad, ll] at wr
            have li := iL_len (leftF W D)
            show grd _ _ = _
            rw [grd_t (by omega), wr, bnd_t, getB_t]
            cases clB W D <;> rfl
    · rw [brn_t (bne_iff_ne.2 (by omega)), if_pos h1]
  · rw [brn_t (by simpa using h), if_pos h]
def e2 (n : Int) : PV := .tup [.int .i64 0, .int .i64 n]
section
variable (N : Nat) (hN : 2000 ≤ N) (L : List (List Int)) (H W : List Int) (D : List (List Int)) (hD : D.length ≤ 20)
include hD
theorem rs_L0 : ∀ (r i fuel : Nat), D.length - i = r → r < fuel →
    m21_L0 N L.length (rwsP L) D.length (rwsP D) H.length (iL H) fuel (i : Int) (rwP W) = some (if (D.drop i).any (fun r => r.length != W.length) then .inl (e2 5) else .inr (rwP W))
  | r, i, 0, _, h => by omega
  | r, i, f + 1, hr, hf => by
    rw [m21_L0]
    by_cases h : i < D.length
    · have hl := rws_len D
      rw [brn_t (decide_eq_true (by omega)), grd_t ⟨by omega, by omega⟩, toNatN, grd_t (by rw [List.length_drop]; omega), rws_gp h, getL_t, drop_ro h, List.any_cons]
      unfold rwP
      rw [getL_t]
      by_cases e : (ro D i).length = W.length
      · rw [brn_f (bne_eq_false_iff_eq.2 (by omega)), wrapN (by omega), show ((ro D i).length != W.length) = false by simpa using e, Bool.false_or]
        exact rs_L0 (r - 1) (i + 1) f (by omega) (by omega)
      · rw [brn_t (bne_iff_ne.2 (by omega)), show ((ro D i).length != W.length) = true by simpa using e, Bool.true_or, if_pos rfl]; rfl
    · rw [brn_f (decide_eq_false (by omega)), List.drop_eq_nil_of_le (by omega)]; rfl
end
def addF (w r : List Int) (j : Nat) : List Int := (List.range w.length).map fun k => if j ≤ k then en w k + en r k else en w k
theorem addF_step {w r : List Int} {j : Nat} (hj : j < w.length) : addF (w.set j (en w j + en r j)) r (j + 1) = addF w r j := by
  unfold addF
  rw [List.length_set]
  refine List.map_congr_left fun k _ => ?_
  rw [en_set hj]
  by_cases h : k = j
  · subst h; rw [if_neg (by omega), if_pos rfl, if_pos (by omega)]
  · by_cases h2 : j ≤ k
    · rw [if_pos (by omega), if_neg h, if_pos h2]
    · rw [if_neg (by omega), if_neg h, if_neg h2]
theorem addF_end {w r : List Int} {j : Nat} (hj : w.length ≤ j) : addF w r j = w := by
  have : addF w r j = (List.range w.length).map (en w) := List.map_congr_left fun k hk => by
    rw [List.mem_range] at hk
    rw [if_neg (by omega)]
  rw [this, list_en]
theorem addF_len (w r : List Int) (j : Nat) : (addF w r j).length = w.length := by simp [addF]
theorem en_addF {w r : List Int} {k : Nat} (h : k < w.length) : en (addF w r 0) k = en w k + en r k := by
  unfold addF
  rw [en_map h, if_pos (by omega)]
theorem add_L (N : Nat) (nl : Nat) (cl : List PV) (nd : Nat) (cd : List PV) (nh : Nat) (ch : List PV) (cw : List PV) (i : Int) (c : Nat) (hc : c ≤ 4) (x : List Int) (hx : x.length = c) (h5 : x.any (bad 0 5) = false) :
    ∀ (r j fuel : Nat) (w : List Int), c - j = r → r < fuel → w.length = c → (∀ k, j ≤ k → k < c → -1000 ≤ en w k ∧ en w k ≤ 1000) → j ≤ c →
    m21_L2 N nl cl nd cd nh ch c cw i c (iL x) fuel (j : Int) (iL w) = some (iL (addF w x j))
  | r, j, 0, _, _, h, _, _, _ => by omega
  | r, j, f + 1, w, hr, hf, hw, hb, hj => by
    rw [m21_L2]
    by_cases h : j < c
    · have bx := any_bad h5 (i := j) (by omega)
      have bw := hb j (by omega) h
      have lx := iL_len x
      have lw := iL_len w
      rw [brn_t (decide_eq_true (by omega)), grd_t ⟨by omega, by omega⟩, toNatN, grd_t (by omega), iL_gp (by omega), getI_t, grd_t (by omega), grd_t (by rw [List.length_drop]; omega), iL_gp (by omega), getI_t, grd_t (by omega)]
      rw [wrap64 (n := en w j + en x j) (by omega) (by omega), wrapN (by omega), iL_set]
      rw [add_L N nl cl nd cd nh ch cw i c hc x hx h5 (r - 1) (j + 1) f (w.set j (en w j + en x j)) (by omega) (by omega) (by rw [List.length_set]; exact hw) (fun k hk hk2 => by
        rw [en_set (by omega), if_neg (by omega)]
        exact hb k (by omega) hk2) (by omega), addF_step (by omega)]
    · rw [brn_f (decide_eq_false (by omega)), addF_end (by omega)]
def gotF : List Int → List (List Int) → List Int
  | w, [] => w
  | w, r :: rs => gotF (addF w r 0) rs
theorem gotF_len : ∀ (D : List (List Int)) (w : List Int), (gotF w D).length = w.length
  | [], _ => rfl
  | r :: D, w => by rw [gotF, gotF_len D, addF_len]
theorem en_got : ∀ (D : List (List Int)) (w : List Int) {k : Nat}, k < w.length → en (gotF w D) k = en w k + colS D k
  | [], w, k, _ => by simp [gotF, colS]
  | r :: D, w, k, h => by
    rw [gotF, en_got D _ (by rw [addF_len]; exact h), en_addF h]
    unfold colS
    rw [List.map_cons, List.sum_cons]
    omega
theorem rs_L1 (N : Nat) (hN : 2000 ≤ N) (nl : Nat) (cl : List PV) (nh : Nat) (ch : List PV) (cw : List PV) (c : Nat) (hc : c ≤ 4) (D : List (List Int)) (hD : D.length ≤ 20) (hr : ∀ r ∈ D, r.length = c) :
    ∀ (s i fuel : Nat) (w : List Int), D.length - i = s → s < fuel → w.length = c → (∀ k, k < c → 0 ≤ en w k ∧ en w k ≤ 5 * i) →
    m21_L1 N nl cl D.length (rwsP D) nh ch c cw fuel (i : Int) (iL w) = some (if (D.drop i).any (fun r => r.any (bad 0 5)) then .inl (e2 1) else .inr (iL (gotF w (D.drop i))))
  | s, i, 0, _, _, h, _, _ => by omega
  | s, i, f + 1, w, hs, hf, hw, hb => by
    rw [m21_L1]
    by_cases h : i < D.length
    · have hl := rws_len D
      have rl := hr _ (ro_mem h)
      rw [brn_t (decide_eq_true (by omega)), grd_t ⟨by omega, by omega⟩, toNatN, grd_t (by rw [List.length_drop]; omega), rws_gp h, getL_t, drop_ro h, List.any_cons, within_ok N hN 0 5 (ro D i) (by omega), bnd_t, getB_t]
      cases h5 : (ro D i).any (bad 0 5) with
      | true => rw [brn_f (b := !true) rfl, Bool.true_or, if_pos rfl]; rfl
      | false =>
        rw [brn_t (b := !false) rfl, Bool.false_or, rl]
        have A := add_L N nl cl D.length (rwsP D) nh ch cw (i : Int) c hc (ro D i) rl h5 c 0 N w (by omega) (by omega) hw (fun k _ hk => by have := hb k hk; omega) (by omega)
        rw [show m21_L2 N nl cl D.length (rwsP D) nh ch c cw (i : Int) c (iL (ro D i)) N 0 (iL w) = _ from A, bnd_t, wrapN (by omega), gotF]
        exact rs_L1 N hN nl cl nh ch cw c hc D hD hr (s - 1) (i + 1) f (addF w (ro D i) 0) (by omega) (by omega) (by rw [addF_len]; exact hw) (fun k hk => by
          rw [en_addF (by omega)]
          have b1 := hb k hk
          have b2 := any_bad h5 (i := k) (by omega)
          omega)
    · rw [brn_f (decide_eq_false (by omega)), List.drop_eq_nil_of_le (by omega)]; rfl
theorem rs_L3 (N : Nat) (hN : 2000 ≤ N) (nl : Nat) (cl : List PV) (nw : Nat) (cw : List PV) (g : List PV) (H : List Int) (D : List (List Int)) (hD : D.length ≤ 20) (hH : H.length = D.length) (hr : ∀ r ∈ D, r.length ≤ 20 ∧ r.any (bad 0 5) = false) :
    ∀ (s i fuel : Nat), D.length - i = s → s < fuel → m21_L3 N nl cl D.length (rwsP D) H.length (iL H) nw cw g fuel (i : Int) = some (if rwB H i (D.drop i) then .inr () else .inl (e2 17))
  | s, i, 0, _, h => by omega
  | s, i, f + 1, hs, hf => by
    rw [m21_L3]
    by_cases h : i < D.length
    · have hl := rws_len D
      have lH := iL_len H
      obtain ⟨r1, r2⟩ := hr _ (ro_mem h)
      have S := (sum_ok N hN (ro D i) r1 r2).2
      unfold rwP at S
      rw [brn_t (decide_eq_true (by omega)), grd_t ⟨by omega, by omega⟩, toNatN, grd_t (by rw [List.length_drop]; omega), rws_gp h, getL_t, S, bnd_t, getI_t, grd_t (by omega), grd_t (by rw [List.length_drop]; omega), iL_gp (by omega), getI_t, drop_ro h, rwB]
      by_cases e : (ro D i).sum = en H i
      · rw [brn_f (bne_eq_false_iff_eq.2 e), decide_eq_true e, Bool.true_and, wrapN (by omega)]
        exact rs_L3 N hN nl cl nw cw g H D hD hH hr (s - 1) (i + 1) f (by omega) (by omega)
      · rw [brn_t (bne_iff_ne.2 e), decide_eq_false e, Bool.false_and]; rfl
    · rw [brn_f (decide_eq_false (by omega)), List.drop_eq_nil_of_le (by omega)]; rfl
theorem rs_L4 (N : Nat) (nl : Nat) (cl : List PV) (nd : Nat) (cd : List PV) (nh : Nat) (ch : List PV) (G W : List Int) (hG : G.length = W.length) (hW : W.length ≤ 20) :
    ∀ (s i fuel : Nat), W.length - i = s → s < fuel → m21_L4 N nl cl nd cd nh ch W.length (iL W) (iL G) fuel (i : Int) = some (if (List.range' i (W.length - i)).all (fun k => decide (en G k = en W k)) then .inr () else .inl (e2 17))
  | s, i, 0, _, h => by omega
  | s, i, f + 1, hs, hf => by
    rw [m21_L4]
    by_cases h : i < W.length
    · have lG := iL_len G
      have lW := iL_len W
      rw [brn_t (decide_eq_true (by omega)), grd_t ⟨by omega, by omega⟩, toNatN, grd_t (by omega), iL_gp (by omega), getI_t, grd_t (by rw [List.length_drop]; omega), iL_gp h, getI_t, all_step h]
      by_cases e : en G i = en W i
      · rw [brn_f (bne_eq_false_iff_eq.2 e), decide_eq_true e, Bool.true_and, wrapN (by omega)]
        exact rs_L4 N nl cl nd cd nh ch G W hG hW (s - 1) (i + 1) f (by omega) (by omega)
      · rw [brn_t (bne_iff_ne.2 e), decide_eq_false e, Bool.false_and]; rfl
    · rw [brn_f (decide_eq_false (by omega)), all_end h]; rfl
theorem rc_L (N : Nat) (L : List (List Int)) (c : Nat) (hL : Okc L c) (D : List (List Int)) (hD : D.length = L.length) (i : Nat) (hi : i < L.length) (hx : (ro D i).length = c) (h5 : (ro D i).any (bad 0 5) = false) :
    ∀ (r j fuel : Nat) (a : Int), c - j = r → r < fuel → 0 ≤ a → a ≤ 100 * 4 * i + 100 * j → j ≤ c →
    m71_L1 N L.length (rwsP L) D.length (rwsP D) (i : Int) fuel a (j : Int) = some (a + rcF L i (ro D i) c j)
  | r, j, 0, _, _, h, _, _, _ => by omega
  | r, j, f + 1, a, hr, hf, h0, h1, hj => by
    have hc4 := hL.c4
    have hr3 := hL.r3
    have ll := rws_len L
    have ld := rws_len D
    have lr := hL.row i hi
    have lri := iL_len (ro L i)
    have ldi := iL_len (ro D i)
    rw [m71_L1, grd_t ⟨by omega, by omega⟩, toNatN, grd_t (by rw [List.length_drop]; omega), rws_gp hi, getL_t]
    by_cases h : j < c
    · have bx := any_bad h5 (i := j) (by omega)
      have bc := hL.val i j hi h
      have hm := mul_b bx.1 bx.2 bc.1 bc.2
      rw [Int.mul_comm] at hm
      rw [brn_t (decide_eq_true (by omega)), grd_t ⟨by omega, by omega⟩, toNatN, grd_t (by rw [List.length_drop]; omega), iL_gp (by omega), getI_t, grd_t (by omega), grd_t (by rw [List.length_drop]; omega), rws_gp (by omega), getL_t, grd_t (by omega), grd_t (by rw [List.length_drop]; omega), iL_gp (by omega), getI_t]
      rw [wrap64 (n := en (ro L i) j * en (ro D i) j) (by omega) (by omega), wrap64 (n := a + en (ro L i) j * en (ro D i) j) (by omega) (by omega), wrapN (by omega)]
      have ih := rc_L N L c hL D hD i hi hx h5 (r - 1) (j + 1) f (a + en (ro L i) j * en (ro D i) j) (by omega) (by omega) (by omega) (by omega) (by omega)
      rw [ih]
      have e : rcF L i (ro D i) c j = en (ro D i) j * en (ro L i) j + rcF L i (ro D i) c (j + 1) := by
        unfold rcF
        rw [range'_step h, List.map_cons, List.sum_cons]; rfl
      rw [e, Int.mul_comm (en (ro D i) j), Int.add_assoc]
    · rw [brn_f (decide_eq_false (by omega))]
      unfold rcF
      rw [Nat.sub_eq_zero_of_le (by omega)]
      simp
theorem rc_L0 (N : Nat) (hN : 2000 ≤ N) (L : List (List Int)) (c : Nat) (hL : Okc L c) (D : List (List Int)) (hD : D.length = L.length) (hr : ∀ r ∈ D, r.length = c ∧ r.any (bad 0 5) = false) :
    ∀ (s i fuel : Nat) (a : Int), L.length - i = s → s < fuel → 0 ≤ a → a ≤ 400 * i → m71_L0 N L.length (rwsP L) D.length (rwsP D) fuel a (i : Int) = some (a + cF L c i (D.drop i))
  | s, i, 0, _, _, h, _, _ => by omega
  | s, i, f + 1, a, hs, hf, h0, h1 => by
    have hc4 := hL.c4
    have hr3 := hL.r3
    rw [m71_L0]
    by_cases h : i < L.length
    · obtain ⟨r1, r2⟩ := hr _ (ro_mem (L := D) (i := i) (by omega))
      have R := rc_L N L c hL D hD i h r1 r2 c 0 N a (by omega) (by omega) h0 (by omega) (by omega)
      have rb := rcF_b hL (i := i) h r1 r2 c 0 (by omega)
      rw [brn_t (decide_eq_true (by omega)), show m71_L1 N L.length (rwsP L) D.length (rwsP D) (i : Int) N a 0 = _ from R, bnd_t, wrapN (by omega), rc_L0 N hN L c hL D hD hr (s - 1) (i + 1) f (a + rcF L i (ro D i) c 0) (by omega) (by omega) (by omega) (by omega), drop_ro (L := D) (i := i) (by omega), cF, Int.add_assoc]
    · rw [brn_f (decide_eq_false (by omega)), List.drop_eq_nil_of_le (by omega)]
      simp [cF]
theorem got_all (W : List Int) (D : List (List Int)) (hD : ∀ r ∈ D, r.length = W.length) : ((List.range' 0 (W.length - 0)).all fun k => decide (en (gotF (List.replicate W.length 0) D) k = en W k)) = clB W D := by
  unfold clB
  rw [Nat.sub_zero, ← List.range_eq_range', Bool.eq_iff_iff, List.all_eq_true, List.all_eq_true]
  have e : ∀ k, k < W.length → en (gotF (List.replicate W.length 0) D) k = colS D k := fun k hk => by
    rw [en_got D _ (by rw [List.length_replicate]; exact hk)]
    have : en (List.replicate W.length 0) k = 0 := by simp [en, List.getD, hk]
    omega
  constructor
  · intro h k hk
    have := h k hk
    rwa [e k (List.mem_range.1 hk)] at this
  · intro h k hk
    have := h k hk
    rwa [e k (List.mem_range.1 hk)]
theorem iL_zeros (n : Nat) : List.replicate n (PV.int .i64 0) = iL (List.replicate n 0) := by simp [iL]
theorem costr_ok (N : Nat) (hN : 2000 ≤ N) (L : List (List Int)) (hL : lgL L = false) (H W : List Int) (hH : H.length ≤ 20) (hW : W.length ≤ 20) (D : List (List Int)) (hD : lgL D = false) :
    m21 N (.lst false L.length (rwsP L)) (.agg [rwP H, rwP W]) (.lst false D.length (rwsP D)) = some (.tup [.int .i64 (cstE L H W D).1, .int .i64 (cstE L H W D).2]) := by
  have ld := (loaded_ok N hN L hL H W hH hW).2
  have hD20 : D.length ≤ 20 := by simp only [lgL, Bool.or_eq_false_iff, decide_eq_false_iff_not] at hD; omega
  rw [m21, getL_t, getA2_t, getL_t, ld, bnd_t, getI_t]
  unfold cstE
  by_cases h : ldE L H W = 0
  · obtain ⟨ok, k1, k2, k3, k4⟩ := ldE_zero h
    have hc4 := ok.c4
    have hr3 := ok.r3
    rw [h, brn_f (b := ((0 : Int) != 0)) rfl, if_neg (show ¬ ((0 : Int) ≠ 0) by simp)]
    have S := rs_L0 N L H W D hD20 D.length 0 N (by omega) (by omega)
    rw [List.drop_zero] at S
    unfold rwP
    unfold rwP at S
    rw [getL_t]
    by_cases h1 : D.length = L.length
    · rw [brn_f (bne_eq_false_iff_eq.2 (by omega)), if_neg (by simpa using h1), show m21_L0 N L.length (rwsP L) D.length (rwsP D) H.length (iL H) N 0 (.lst false W.length (iL W)) = _ from S]
      cases h2 : D.any fun r => r.length != W.length with
      | true => rfl
      | false =>
        have rows : ∀ r ∈ D, r.length = W.length := fun r hr => by
          have := List.any_eq_false.1 h2 r hr
          simpa using this
        rw [if_neg (by simp), bnd_t]
        show getL _ _ = _
        rw [getL_t, grd_t ⟨by omega, by omega, by omega⟩, iL_zeros]
        have R := rs_L1 N hN L.length (rwsP L) H.length (iL H) (iL W) W.length hc4 D hD20 rows D.length 0 N (List.replicate W.length 0) (by omega) (by omega) (by simp) (fun k hk => by simp [en, List.getD, hk])
        rw [List.drop_zero] at R
        rw [show m21_L1 N L.length (rwsP L) D.length (rwsP D) H.length (iL H) W.length (iL W) N 0 (iL (List.replicate W.length 0)) = _ from R]
        cases h3 : D.any fun r => r.any (bad 0 5) with
        | true => rfl
        | false =>
          have vals : ∀ r ∈ D, r.length = W.length ∧ r.any (bad 0 5) = false := fun r hr => by
            have := List.any_eq_false.1 h3 r hr
            exact ⟨rows r hr, by simpa using this⟩
          rw [if_neg (by simp), bnd_t]
          have R3 := rs_L3 N hN L.length (rwsP L) W.length (iL W) (iL (gotF (List.replicate W.length 0) D)) H D hD20 (by omega) (fun r hr => by have := vals r hr; exact ⟨by omega, this.2⟩) D.length 0 N (by omega) (by omega)
          rw [List.drop_zero] at R3
          show bnd' (m21_L3 N _ _ _ _ _ _ _ _ _ N 0) _ = _
          rw [show m21_L3 N L.length (rwsP L) D.length (rwsP D) H.length (iL H) W.length (iL W) (iL (gotF (List.replicate W.length 0) D)) N 0 = _ from R3]
          cases h4 : rwB H 0 D with
          | false => rfl
          | true =>
            rw [if_pos rfl, bnd_t]
            have R4 := rs_L4 N L.length (rwsP L) D.length (rwsP D) H.length (iL H) (gotF (List.replicate W.length 0) D) W (by rw [gotF_len, List.length_replicate]) hW W.length 0 N (by omega) (by omega)
            rw [got_all W D rows] at R4
            show bnd' (m21_L4 N _ _ _ _ _ _ _ _ _ N 0) _ = _
            rw [show m21_L4 N L.length (rwsP L) D.length (rwsP D) H.length (iL H) W.length (iL W) (iL (gotF (List.replicate W.length 0) D)) N 0 = _ from R4]
            cases h5 : clB W D with
            | false => rfl
            | true =>
              rw [if_pos rfl, bnd_t]
              have R5 := rc_L0 N hN L W.length ok D h1 vals L.length 0 N 0 (by omega) (by omega) (by omega) (by omega)
              rw [List.drop_zero, Int.zero_add] at R5
              show bnd' (m71 N _ _) _ = _
              rw [m71, getL_t, getL_t, show m71_L0 N L.length (rwsP L) D.length (rwsP D) N 0 0 = _ from R5, bnd_t, bnd_t, getI_t]
              rfl
    · rw [brn_t (bne_iff_ne.2 (by omega)), if_pos h1]
  · rw [brn_t (by simpa using h), if_pos h]
theorem brn_dt {α : Type} {p : Prop} [Decidable p] {x y : Option α} (h : p) : brn (decide p) x y = x := brn_t (decide_eq_true h)
theorem brn_df {α : Type} {p : Prop} [Decidable p] {x y : Option α} (h : ¬ p) : brn (decide p) x y = y := brn_f (decide_eq_false h)
theorem brn_et {α : Type} {a b : Int} {x y : Option α} (h : a = b) : brn (a == b) x y = x := brn_t (by simpa using h)
theorem brn_ef {α : Type} {a b : Int} {x y : Option α} (h : a ≠ b) : brn (a == b) x y = y := brn_f (by simpa using h)
theorem brn_nt {α : Type} {a b : Int} {x y : Option α} (h : a ≠ b) : brn (a != b) x y = x := brn_t (by simpa using h)
theorem brn_nf {α : Type} {a b : Int} {x y : Option α} (h : a = b) : brn (a != b) x y = y := brn_f (by simpa using h)
theorem gI_n {α : Type} {X : List Int} {i : Nat} {f : Int → Option α} (h : i < X.length) : getI .i64 (gp (iL X) (Int.toNat (i : Int))) f = f (en X i) := by
  rw [toNatN, iL_gp h, getI_t]
theorem gI_0 {α : Type} {X : List Int} {f : Int → Option α} (h : 0 < X.length) : getI .i64 (gp (iL X) 0) f = f (en X 0) := by
  rw [iL_gp h, getI_t]
theorem gL_n {α : Type} {L : List (List Int)} {i : Nat} {f : Nat → List PV → Option α} (h : i < L.length) : getL (gp (rwsP L) (Int.toNat (i : Int))) f = f (ro L i).length (iL (ro L i)) := by
  rw [toNatN, rws_gp h, getL_t]
theorem minI_ok (a b : Int) : (minI a b = a ∨ minI a b = b) ∧ minI a b ≤ a ∧ minI a b ≤ b := by
  unfold minI; split <;> omega
theorem getT0_t {α : Type} {k : Option α} : getT0 (.tup []) k = k := rfl
structure Lds (R C : Nat) (H W : List Int) : Prop where
  hl : H.length = R
  wl : W.length = C
  h5 : ∀ k, k < R → 0 ≤ en H k ∧ en H k ≤ 5
  w5 : ∀ k, k < C → 0 ≤ en W k ∧ en W k ≤ 5
def Bd (b : Nat) (P : List Int) : Prop := ∀ k, k < P.length → -(20 * (b : Int)) ≤ en P k ∧ en P k ≤ 20 * b
theorem en_app1 {P : List Int} {x : Int} {k : Nat} (h : k < P.length) : en (P ++ [x]) k = en P k := by
  simp [en, List.getD, List.getElem?_append_left h]
theorem en_app2 {P : List Int} {x : Int} {k : Nat} (h : k = P.length) : en (P ++ [x]) k = x := by
  subst h; simp [en, List.getD]
theorem Bd.app {b b' : Nat} {P : List Int} {x : Int} (h : Bd b P) (hb : b ≤ b') (hx : -(20 * (b' : Int)) ≤ x ∧ x ≤ 20 * b') : Bd b' (P ++ [x]) := fun k hk => by
  by_cases h1 : k < P.length
  · rw [en_app1 h1]; have := h k h1; omega
  · rw [en_app2 (by simp at hk; omega)]; exact hx
theorem Bd.mono {b b' : Nat} {P : List Int} (h : Bd b P) (hb : b ≤ b') : Bd b' P := fun k hk => by
  have := h k hk; omega
def stp (R C : Nat) (H W : List Int) : Nat → Nat → Nat → Int → Int → List (Nat × Nat)
  | 0, _, _, _, _ => []
  | f + 1, i, j, hs, ws => (i, j) :: (
    if hs - minI hs ws = 0 ∧ i + 1 < R then stp R C H W f (i + 1) j (en H (i + 1)) (ws - minI hs ws)
    else if j + 1 < C then stp R C H W f i (j + 1) (hs - minI hs ws) (en W (j + 1))
    else [])
def fl : List (Nat × Nat) → List PV
  | [] => []
  | s :: S => .int .i64 (s.1 : Int) :: .int .i64 (s.2 : Int) :: fl S
theorem fl_len : ∀ S : List (Nat × Nat), (fl S).length = S.length * 2
  | [] => rfl
  | s :: S => by simp only [fl, List.length_cons, fl_len S]; omega
theorem fl_gp0 : ∀ {S : List (Nat × Nat)} {k : Nat} {s : Nat × Nat} {T : List (Nat × Nat)}, S.drop k = s :: T → gp (fl S) (k * 2) = .int .i64 (s.1 : Int) ∧ gp (fl S) (k * 2 + 1) = .int .i64 (s.2 : Int)
  | [], k, s, T, h => by simp at h
  | x :: S, 0, s, T, h => by
    simp only [List.drop_zero, List.cons.injEq] at h
    rw [← h.1]
    exact ⟨rfl, rfl⟩
  | x :: S, k + 1, s, T, h => by
    rw [List.drop_succ_cons] at h
    have ih := fl_gp0 h
    rw [show (k + 1) * 2 = k * 2 + 2 by omega]
    exact ih
theorem stp_len (R C : Nat) (H W : List Int) : ∀ (f i j : Nat) (hs ws : Int), (stp R C H W f i j hs ws).length ≤ f
  | 0, _, _, _, _ => by simp [stp]
  | f + 1, i, j, hs, ws => by
    rw [stp, List.length_cons]
    split
    · have := stp_len R C H W f (i + 1) j (en H (i + 1)) (ws - minI hs ws); omega
    · split
      · have := stp_len R C H W f i (j + 1) (hs - minI hs ws) (en W (j + 1)); omega
      · simp
theorem loop63 (N R C : Nat) (hR : R ≤ 3) (hC : C ≤ 4) (H W : List Int) (hl : Lds R C H W) : ∀ (f fuel i j k : Nat) (S0 : List (Nat × Nat)) (hA wA : List Int),
    (R - i) + (C - j) ≤ f → f < fuel → i < R → j < C → hA.length = R → wA.length = C → (∀ k, i < k → en hA k = en H k) → (∀ k, j < k → en wA k = en W k) → 0 ≤ en hA i → en hA i ≤ 5 → 0 ≤ en wA j → en wA j ≤ 5 → S0.length = k → k + f ≤ 100 →
    ∃ S, S = stp R C H W f i j (en hA i) (en wA j) ∧ m63_L0 N R C fuel k i j (fl S0) (iL hA) (iL wA) = some (k + S.length, fl (S0 ++ S))
  | 0, _, i, j, _, _, _, _, h, _, h1, h2, _, _, _, _, _, _, _, _, _, _ => by omega
  | f + 1, 0, i, j, _, _, _, _, h, hf, h1, h2, _, _, _, _, _, _, _, _, _, _ => by omega
  | f + 1, fuel + 1, i, j, k, S0, hA, wA, h, hf, hi, hj, lh, lw, eh, ew, h0, h5, w0, w5, hk, hk2 => by
    have mm := minI_ok (en hA i) (en wA j)
    have l1 := hl.hl
    have l2 := hl.wl
    have lf := fl_len S0
    have app : fl S0 ++ [PV.int .i64 (i : Int), PV.int .i64 (j : Int)] = fl (S0 ++ [(i, j)]) := by
      clear lf hk
      induction S0 with
      | nil => rfl
      | cons s S ih => simp only [fl, List.cons_append, ih]
    refine ⟨_, rfl, ?_⟩
    rw [m63_L0, brn_dt (by omega)]
    simp (disch := (try simp only [List.length_drop, iL_len, rws_len, toNatN, fl_len]) <;> omega) only [↓grd_t, ↓gI_n]
    rw [toNatN, toNatN, wrap64 (n := en hA i - minI (en hA i) (en wA j)) (by omega) (by omega), wrap64 (n := en wA j - minI (en hA i) (en wA j)) (by omega) (by omega), wrapN (n := i) (by omega), wrapN (n := j) (by omega), iL_set, iL_set, iL_gp (by rw [List.length_set]; omega), getI_t, en_set (by omega), if_pos rfl, app, stp]
    have nextj : m63_L0 N R C fuel (k + 1) i ((j + 1 : Nat) : Int) (fl (S0 ++ [(i, j)])) (iL (hA.set i (en hA i - minI (en hA i) (en wA j)))) (iL (wA.set j (en wA j - minI (en hA i) (en wA j)))) = some (k + ((i, j) :: (if j + 1 < C then stp R C H W f i (j + 1) (en hA i - minI (en hA i) (en wA j)) (en W (j + 1)) else [])).length, fl (S0 ++ (i, j) :: (if j + 1 < C then stp R C H W f i (j + 1) (en hA i - minI (en hA i) (en wA j)) (en W (j + 1)) else []))) := by
      by_cases g : j + 1 < C
      · have v := hl.w5 (j + 1) g
        obtain ⟨S, hS, e⟩ := loop63 N R C hR hC H W hl f fuel i (j + 1) (k + 1) (S0 ++ [(i, j)]) (hA.set i (en hA i - minI (en hA i) (en wA j))) (wA.set j (en wA j - minI (en hA i) (en wA j))) (by omega) (by omega) hi g (by simpa using lh) (by simpa using lw)
          (fun k hk => by rw [en_set (by omega), if_neg (by omega)]; exact eh k hk) (fun k hk => by rw [en_set (by omega), if_neg (by omega)]; exact ew k (by omega))
          (by rw [en_set (by omega), if_pos rfl]; omega) (by rw [en_set (by omega), if_pos rfl]; omega) (by rw [en_set (by omega), if_neg (by omega), ew (j + 1) (by omega)]; omega) (by rw [en_set (by omega), if_neg (by omega), ew (j + 1) (by omega)]; omega) (by simp; omega) (by omega)
        rw [en_set (by omega), if_pos rfl, en_set (by omega), if_neg (by omega), ew (j + 1) (by omega)] at hS
        rw [e, if_pos g, ← hS]
        simp; omega
      · cases fuel with
        | zero => omega
        | succ fuel =>
          rw [m63_L0, brn_df (by omega), if_neg g]
          simp
    by_cases h1 : en hA i - minI (en hA i) (en wA j) = 0
    · rw [brn_et h1]
      by_cases h2 : i + 1 < R
      · have v := hl.h5 (i + 1) h2
        rw [brn_dt (by omega), if_pos ⟨h1, h2⟩]
        obtain ⟨S, hS, e⟩ := loop63 N R C hR hC H W hl f fuel (i + 1) j (k + 1) (S0 ++ [(i, j)]) (hA.set i (en hA i - minI (en hA i) (en wA j))) (wA.set j (en wA j - minI (en hA i) (en wA j))) (by omega) (by omega) h2 hj (by simpa using lh) (by simpa using lw)
          (fun k hk => by rw [en_set (by omega), if_neg (by omega)]; exact eh k (by omega)) (fun k hk => by rw [en_set (by omega), if_neg (by omega)]; exact ew k hk)
          (by rw [en_set (by omega), if_neg (by omega), eh (i + 1) (by omega)]; omega) (by rw [en_set (by omega), if_neg (by omega), eh (i + 1) (by omega)]; omega) (by rw [en_set (by omega), if_pos rfl]; omega) (by rw [en_set (by omega), if_pos rfl]; omega) (by simp; omega) (by omega)
        rw [en_set (by omega), if_neg (by omega), eh (i + 1) (by omega), en_set (by omega), if_pos rfl] at hS
        rw [e, ← hS]
        simp; omega
      · rw [brn_df (by omega), if_neg (by omega)]
        exact nextj
    · rw [brn_ef h1, if_neg (by omega)]
      exact nextj
theorem gI_f0 {α : Type} {S T : List (Nat × Nat)} {k : Nat} {s : Nat × Nat} {f : Int → Option α} (h : S.drop k = s :: T) : getI .i64 (gp (fl S) (k * 2)) f = f (s.1 : Int) := by
  rw [(fl_gp0 h).1, getI_t]
theorem gI_f1 {α : Type} {S T : List (Nat × Nat)} {k : Nat} {s : Nat × Nat} {f : Int → Option α} (h : S.drop k = s :: T) : getI .i64 (gp (fl S) (k * 2 + 1)) f = f (s.2 : Int) := by
  rw [(fl_gp0 h).2, getI_t]
theorem drop_lt {α : Type} {S T : List α} {k : Nat} {s : α} (h : S.drop k = s :: T) : k < S.length := by
  have : (S.drop k).length ≠ 0 := by rw [h]; simp
  rw [List.length_drop] at this; omega
theorem drop_next {α : Type} {S T : List α} {k : Nat} {s : α} (h : S.drop k = s :: T) : S.drop (k + 1) = T := by
  rw [← List.drop_drop, h]; rfl
theorem Lds.mk' {L : List (List Int)} {H W : List Int} (h : ldE L H W = 0) : Lds L.length W.length H W := by
  obtain ⟨ok, k1, k2, k3, k4⟩ := ldE_zero h
  exact ⟨k1, rfl, fun k hk => any_bad k2 (by omega), fun k hk => any_bad k3 hk⟩
theorem isame_L (N : Nat) (X : List Int) (hX : X.length ≤ 1000) : ∀ (s i fuel : Nat), X.length - i = s → s < fuel →
    m37_L0 N X.length (iL X) X.length (iL X) fuel (i : Int) = some (.inr ())
  | s, i, 0, _, h => by omega
  | s, i, f + 1, hs, hf => by
    rw [m37_L0]
    by_cases hi : i < X.length
    · have ih := isame_L N X hX (s - 1) (i + 1) f (by omega) (by omega)
      rw [brn_dt (by omega)]
      simp (disch := (try simp only [List.length_drop, iL_len, rws_len, toNatN]) <;> omega) only [↓grd_t, ↓gI_n]
      rw [brn_nf rfl, wrapN (by omega), ih]
    · rw [brn_df (by omega)]
theorem isame_ok (N : Nat) (hN : 2000 ≤ N) (X : List Int) (hX : X.length ≤ 1000) : m37 N (.lst false X.length (iL X)) (.lst false X.length (iL X)) = some (.bool true) := by
  have := isame_L N X hX X.length 0 N (by omega) (by omega)
  rw [m37, getL_t, getL_t, brn_nf rfl, show m37_L0 N X.length (iL X) X.length (iL X) N 0 = _ from this]
  rfl
def hvL (H W : List Int) : Bool := decide (20 < H.length) || decide (20 < W.length)
theorem heavy_ok (N : Nat) (H W : List Int) : m16 N (.agg [rwP H, rwP W]) = some (.bool (hvL H W)) := by
  rw [m16, getA2_t]
  unfold rwP hvL
  rw [getL_t]
  by_cases h : 20 < H.length
  · rw [brn_dt (by omega), decide_eq_true h]; rfl
  · rw [brn_df (by omega), decide_eq_false h, getL_t, Bool.false_or]
    congr 2
    exact decide_eq_decide.2 (by omega)
theorem cI_t {α : Type} {n v : Int} {k1 k2 : Option α} (h : n = v) : casI n v k1 k2 = k1 := if_pos h
theorem cI_f {α : Type} {n v : Int} {k1 k2 : Option α} (h : n ≠ v) : casI n v k1 k2 = k2 := if_neg h
theorem cN_t {α : Type} {n v : Nat} {k1 k2 : Option α} (h : n = v) : casN n v k1 k2 = k1 := if_pos h
theorem cN_f {α : Type} {n v : Nat} {k1 k2 : Option α} (h : n ≠ v) : casN n v k1 k2 = k2 := if_neg h
theorem gI_i {α : Type} {X : List Int} {i : Nat} {f : Int → Option α} (h : i < X.length) : getI .i64 (gp (iL X) i) f = f (en X i) := by
  rw [iL_gp h, getI_t]
def row (M : Nat → Nat → Int) (C a : Nat) : List Int := (List.range C).map (M a)
theorem row_len (M : Nat → Nat → Int) (C a : Nat) : (row M C a).length = C := by simp [row]
theorem en_row {M : Nat → Nat → Int} {C a b : Nat} (h : b < C) : en (row M C a) b = M a b := by simp [en, row, List.getD, h]
def upd (M : Nat → Nat → Int) (i j : Nat) (x : Int) : Nat → Nat → Int := fun a b => if a = i ∧ b = j then x else M a b
theorem upd_ne {M : Nat → Nat → Int} {i j a b : Nat} {x : Int} (h : ¬ (a = i ∧ b = j)) : upd M i j x a b = M a b := if_neg h
theorem row_upd_eq {M : Nat → Nat → Int} {C i j : Nat} {x : Int} : (row M C i).set j x = row (upd M i j x) C i := by
  apply List.ext_getElem
  · simp [row]
  · intro n h1 h2
    simp only [row, List.getElem_set, List.getElem_map, List.getElem_range, upd]
    by_cases h : j = n
    · rw [if_pos h, if_pos ⟨trivial, h.symm⟩]
    · rw [if_neg h, if_neg (fun q => h q.2.symm)]
theorem row_upd_ne {M : Nat → Nat → Int} {C i j a : Nat} {x : Int} (h : a ≠ i) : row (upd M i j x) C a = row M C a := by
  unfold row
  exact List.map_congr_left fun b _ => upd_ne (by omega)
def sN (f : Nat → Int) : Nat → Int
  | 0 => 0
  | n + 1 => sN f n + f n
theorem sN_row (M : Nat → Nat → Int) (a : Nat) : ∀ C, (row M C a).sum = sN (M a) C
  | 0 => rfl
  | C + 1 => by
    have ih := sN_row M a C
    unfold row at ih ⊢
    rw [List.range_succ, List.map_append, List.sum_append, ih, sN]
    simp
theorem sN_upd (f : Nat → Int) (k : Nat) (x : Int) : ∀ n, sN (fun b => if b = k then x else f b) n = sN f n + (if k < n then x - f k else 0)
  | 0 => rfl
  | n + 1 => by
    rw [sN, sN, sN_upd f k x n]
    by_cases h : n = k
    · subst h
      rw [if_pos rfl, if_neg (by omega), if_pos (by omega)]; omega
    · rw [if_neg h]
      by_cases g : k < n
      · rw [if_pos g, if_pos (by omega)]; omega
      · rw [if_neg g, if_neg (by omega)]; omega
theorem sN_congr {f g : Nat → Int} : ∀ n, (∀ k, k < n → f k = g k) → sN f n = sN g n
  | 0, _ => rfl
  | n + 1, h => by rw [sN, sN, sN_congr n (fun k hk => h k (by omega)), h n (by omega)]
theorem sN_zero {f : Nat → Int} : ∀ n, (∀ k, k < n → f k = 0) → sN f n = 0
  | 0, _ => rfl
  | n + 1, h => by rw [sN, sN_zero n (fun k hk => h k (by omega)), h n (by omega)]; rfl
theorem rs_upd {M : Nat → Nat → Int} {i j C : Nat} {x : Int} (h : j < C) : sN (upd M i j x i) C = sN (M i) C + (x - M i j) := by
  rw [sN_congr (g := fun b => if b = j then x else M i b) C (fun k _ => by unfold upd; by_cases g : k = j <;> simp [g]), sN_upd, if_pos h]
theorem cs_upd {M : Nat → Nat → Int} {i j R : Nat} {x : Int} (h : i < R) : sN (fun a => upd M i j x a j) R = sN (fun a => M a j) R + (x - M i j) := by
  rw [sN_congr (g := fun a => if a = i then x else M a j) R (fun k _ => by unfold upd; by_cases g : k = i <;> simp [g]), sN_upd (fun a => M a j), if_pos h]
def corM (R C : Nat) (H W : List Int) : Nat → Nat → Nat → Int → Int → (Nat → Nat → Int) → Nat → Nat → Int
  | 0, _, _, _, _, M => M
  | f + 1, i, j, hs, ws, M =>
    if hs - minI hs ws = 0 ∧ i + 1 < R then corM R C H W f (i + 1) j (en H (i + 1)) (ws - minI hs ws) (upd M i j (minI hs ws))
    else if j + 1 < C then corM R C H W f i (j + 1) (hs - minI hs ws) (en W (j + 1)) (upd M i j (minI hs ws))
    else upd M i j (minI hs ws)
structure Inv (R C : Nat) (H W : List Int) (i j : Nat) (hs ws : Int) (M : Nat → Nat → Int) : Prop where
  z : ∀ a b, (i < a ∨ j < b ∨ (a = i ∧ b = j)) → M a b = 0
  b5 : ∀ a b, 0 ≤ M a b ∧ M a b ≤ 5
  rs : sN (M i) C = en H i - hs
  cs : sN (fun a => M a j) R = en W j - ws
  h0 : 0 ≤ hs
  h1 : hs ≤ en H i
  w0 : 0 ≤ ws
  w1 : ws ≤ en W j
theorem Inv.upd5 {R C : Nat} {H W : List Int} {i j : Nat} {hs ws : Int} {M : Nat → Nat → Int} (v : Inv R C H W i j hs ws M) (h5 : en H i ≤ 5) : ∀ a b, 0 ≤ upd M i j (minI hs ws) a b ∧ upd M i j (minI hs ws) a b ≤ 5 := fun a b => by
  have mm := minI_ok hs ws
  have := v.b5 a b
  have := v.h0
  have := v.h1
  have := v.w0
  unfold upd; split
  · rcases mm with ⟨e | e, _, _⟩ <;> omega
  · omega
theorem Inv.down {R C : Nat} {H W : List Int} (hl : Lds R C H W) {i j : Nat} {hs ws : Int} {M : Nat → Nat → Int} (v : Inv R C H W i j hs ws M) (hi : i + 1 < R) (hj : j < C) : Inv R C H W (i + 1) j (en H (i + 1)) (ws - minI hs ws) (upd M i j (minI hs ws)) := by
  have mm := minI_ok hs ws
  have h5 := hl.h5 i (by omega)
  have h6 := hl.h5 (i + 1) hi
  have := v.h0
  have := v.w0
  have := v.w1
  refine ⟨fun a b h => ?_, v.upd5 h5.2, ?_, ?_, h6.1, Int.le_refl _, by omega, by omega⟩
  · rw [upd_ne (by omega)]; exact v.z a b (by omega)
  · rw [sN_zero C fun k _ => by rw [upd_ne (by omega)]; exact v.z _ _ (by omega)]; omega
  · rw [cs_upd (by omega), v.cs, v.z i j (by omega)]; omega
theorem Inv.right {R C : Nat} {H W : List Int} (hl : Lds R C H W) {i j : Nat} {hs ws : Int} {M : Nat → Nat → Int} (v : Inv R C H W i j hs ws M) (hi : i < R) (hj : j + 1 < C) : Inv R C H W i (j + 1) (hs - minI hs ws) (en W (j + 1)) (upd M i j (minI hs ws)) := by
  have mm := minI_ok hs ws
  have h5 := hl.h5 i (by omega)
  have w6 := hl.w5 (j + 1) hj
  have := v.h0
  have := v.h1
  have := v.w0
  refine ⟨fun a b h => ?_, v.upd5 h5.2, ?_, ?_, by omega, by omega, w6.1, Int.le_refl _⟩
  · rw [upd_ne (by omega)]; exact v.z a b (by omega)
  · rw [rs_upd (by omega), v.rs, v.z i j (by omega)]; omega
  · rw [sN_zero R fun k _ => by
      show upd M i j (minI hs ws) k (j + 1) = 0
      rw [upd_ne (by omega)]; exact v.z _ _ (by omega)]; omega
theorem sum2_L (N : Nat) (X : List Int) (hX : X.length ≤ 20) (h5 : ∀ k, k < X.length → 0 ≤ en X k ∧ en X k ≤ 5) : ∀ (r i fuel : Nat) (a : Int), X.length - i = r → r < fuel → 0 ≤ a → a ≤ 5 * i →
    m64_2_L0 N X.length (iL X) fuel a (i : Int) = some (a + (X.drop i).sum)
  | r, i, 0, _, _, h, _, _ => by omega
  | r, i, f + 1, a, hr, hf, h0, h1 => by
    by_cases h : i < X.length
    · have b := h5 i h
      have hl := iL_len X
      rw [m64_2_L0, brn_dt (by omega), grd_t ⟨by omega, by omega⟩, grd_t (by rw [toNatN]; omega), gI_n h, wrap64 (n := a + en X i) (by omega) (by omega), wrapN (by omega), sum2_L N X hX h5 (r - 1) (i + 1) f (a + en X i) (by omega) (by omega) (by omega) (by omega), drop_en h, List.sum_cons, Int.add_assoc]
    · rw [m64_2_L0, brn_df (by omega), List.drop_eq_nil_of_le (by omega)]
      simp
theorem sumr_ok (N : Nat) (hN : 2000 ≤ N) (M : Nat → Nat → Int) (C a : Nat) (hC : C ≤ 4) (h5 : ∀ a b, 0 ≤ M a b ∧ M a b ≤ 5) : m64_2 N C (iL (row M C a)) = some (.int .i64 (sN (M a) C)) := by
  have e := sum2_L N (row M C a) (by rw [row_len]; omega) (fun k hk => by rw [row_len] at hk; rw [en_row hk]; exact h5 a k) C 0 N 0 (by rw [row_len]; omega) (by omega) (by omega) (by omega)
  rw [row_len, List.drop_zero, sN_row, Int.zero_add] at e
  rw [m64_2, show m64_2_L0 N C (iL (row M C a)) N 0 0 = _ from e, bnd_t]
theorem set_0 {A B : List PV} {C j : Nat} {x : PV} (hA : A.length = C) (hj : j < C) : List.set (A ++ B) (0 + j) x = A.set j x ++ B := by
  rw [Nat.zero_add, List.set_append, if_pos (by omega)]
theorem set_1 {A B : List PV} {C k j : Nat} {x : PV} (hA : A.length = C) : List.set (A ++ B) (C + k + j) x = A ++ List.set B (k + j) x := by
  rw [List.set_append, if_neg (by omega), hA, show C + k + j - C = k + j by omega]
def flR1 (M : Nat → Nat → Int) (C : Nat) : List PV := iL (row M C 0)
theorem st62_1 (N C : Nat) (M : Nat → Nat → Int) (i j : Nat) (x : Int) (hi : i < 1) (hj : j < C) : m62 N i j x 0 C (flR1 M C) = some (.tup [], flR1 (upd M i j x) C) := by
  unfold m62 flR1
  have lr : ∀ a, (iL (row M C a)).length = C := fun a => by rw [iL_len, row_len]
  have h : i = 0 := by omega
  subst h
  · rw [cI_t (by omega)]
    rw [grd_t ⟨by omega, by omega⟩, grd_t (by simp only [List.length_append, lr, toNatN]; omega), toNatN]
    rw [Nat.zero_add, iL_set, row_upd_eq]
theorem cl61_1 (N C : Nat) (hC : C ≤ 4) (H W : List Int) (hl : Lds 1 C H W) : ∀ (f fuel i j : Nat) (hs ws : Int) (M : Nat → Nat → Int),
    (1 - i) + (C - j) ≤ f → f ≤ fuel → i < 1 → j < C → 0 ≤ hs → hs ≤ 5 → 0 ≤ ws → ws ≤ 5 →
    m61_2_L0 N 0 C 1 (iL H) C (iL W) fuel i j hs ws (flR1 M C) = some (.tup [], flR1 (corM 1 C H W f i j hs ws M) C)
  | 0, _, i, j, _, _, _, h, _, h1, h2, _, _, _, _ => by omega
  | f + 1, 0, i, j, _, _, _, h, hf, h1, h2, _, _, _, _ => by omega
  | f + 1, fuel + 1, i, j, hs, ws, M, h, hf, hi, hj, h0, h5, w0, w5 => by
    have mm := minI_ok hs ws
    have l1 := hl.hl
    have l2 := hl.wl
    rw [m61_2_L0, st62_1 N C M i j _ hi hj, bnd_t]
    show getT0 (.tup []) _ = _
    rw [getT0_t, wrap64 (n := hs - minI hs ws) (by omega) (by omega), wrap64 (n := ((1 : Nat) : Int) - 1) (by omega) (by omega), wrap64 (n := ((C : Nat) : Int) - 1) (by omega) (by omega), wrapN (n := i) (by omega), wrapN (n := j) (by omega), wrap64 (n := ws - minI hs ws) (by omega) (by omega), corM]
    have next2 : j + 1 < C → m61_2_L0 N 0 C 1 (iL H) C (iL W) fuel i ((j + 1 : Nat) : Int) (hs - minI hs ws) (en W (j + 1)) (flR1 (upd M i j (minI hs ws)) C) = some (.tup [], flR1 (corM 1 C H W f i (j + 1) (hs - minI hs ws) (en W (j + 1)) (upd M i j (minI hs ws))) C) := fun g => by
      have w1 := hl.w5 (j + 1) g
      exact cl61_1 N C hC H W hl f fuel i (j + 1) (hs - minI hs ws) (en W (j + 1)) _ (by omega) (by omega) hi g (by omega) (by omega) (by omega) (by omega)
    by_cases h1 : hs - minI hs ws = 0
    · rw [brn_et h1]
      by_cases h2 : i + 1 < 1
      · have w1 := hl.h5 (i + 1) h2
        rw [brn_dt (by omega), if_pos ⟨h1, h2⟩]
        simp (disch := (try simp only [List.length_drop, List.length_append, iL_len, rws_len, row_len, fl_len, toNatN]) <;> omega) only [↓grd_t, ↓gI_n]
        exact cl61_1 N C hC H W hl f fuel (i + 1) j (en H (i + 1)) (ws - minI hs ws) _ (by omega) (by omega) h2 hj (by omega) (by omega) (by omega) (by omega)
      · rw [brn_df (by omega), if_neg (by omega)]
        by_cases h3 : j + 1 < C
        · rw [brn_dt (by omega), if_pos h3]
          simp (disch := (try simp only [List.length_drop, List.length_append, iL_len, rws_len, row_len, fl_len, toNatN]) <;> omega) only [↓grd_t, ↓gI_n]
          exact next2 h3
        · rw [brn_df (by omega), if_neg h3]
    · rw [brn_ef h1, if_neg (by omega)]
      by_cases h3 : j + 1 < C
      · rw [brn_dt (by omega), if_pos h3]
        simp (disch := (try simp only [List.length_drop, List.length_append, iL_len, rws_len, row_len, fl_len, toNatN]) <;> omega) only [↓grd_t, ↓gI_n]
        exact next2 h3
      · rw [brn_df (by omega), if_neg h3]
theorem col1_0 (N : Nat) (hN : 2000 ≤ N) (M : Nat → Nat → Int) (C j : Nat) (h5 : ∀ a b, 0 ≤ M a b ∧ M a b ≤ 5) (hj : j < C) (cH : List PV) (cW : List PV) (s : Nat) (cS : List PV) (k x : Int) : m19_L8 N cH C cW s cS k (iL (row M C 0)) j x N 0 0 = some (sN (fun a => M a j) 1) := by
  obtain ⟨n, rfl⟩ : ∃ n, N = n + 2 := ⟨N - 2, by omega⟩
  have b0 := h5 0 j
  rw [m19_L8, brn_dt (by omega), cI_t (by omega), grd_t ⟨by omega, by omega⟩, grd_t (by rw [iL_len, row_len, toNatN]; omega), gI_n (by rw [row_len]; omega), en_row hj, wrap64 (n := 0 + M 0 j) (by omega) (by omega)]
  rw [m19_L8, brn_df (by omega)]
  rfl
theorem cl19_1 (N : Nat) (hN : 2000 ≤ N) (C : Nat) (hC : C ≤ 4) (H W : List Int) (hl : Lds 1 C H W) (S : List (Nat × Nat)) (hS : S.length ≤ 100) : ∀ (f fuel i j k : Nat) (hs ws : Int) (M : Nat → Nat → Int),
    (1 - i) + (C - j) ≤ f → f < fuel → i < 1 → j < C → Inv 1 C H W i j hs ws M → S.drop k = stp 1 C H W f i j hs ws →
    m19_L7 N (iL H) C (iL W) S.length (fl S) fuel (k : Int) (iL (row M C 0)) = some (iL (row (corM 1 C H W f i j hs ws M) C 0))
  | 0, _, i, j, _, _, _, _, h, _, h1, h2, _, _ => by omega
  | f + 1, 0, i, j, _, _, _, _, h, hf, h1, h2, _, _ => by omega
  | f + 1, fuel + 1, i, j, k, hs, ws, M, h, hf, hi, hj, v, hd => by
    have mm := minI_ok hs ws
    have l1 := hl.hl
    have l2 := hl.wl
    have vh := hl.h5 i hi
    have vw := hl.w5 j hj
    have v0 := v.h0
    have v1 := v.h1
    have v2 := v.w0
    have v3 := v.w1
    rw [stp] at hd
    have hk := drop_lt hd
    have hn := drop_next hd
    have lf := fl_len S
    have fin : m19_L7 N (iL H) C (iL W) S.length (fl S) fuel ((k + 1 : Nat) : Int) (iL (row (upd M i j (minI hs ws)) C 0)) = some (iL (row (corM 1 C H W (f + 1) i j hs ws M) C 0)) := by
      rw [corM]
      by_cases g : hs - minI hs ws = 0 ∧ i + 1 < 1
      · rw [if_pos g] at hn ⊢
        exact cl19_1 N hN C hC H W hl S hS f fuel (i + 1) j (k + 1) _ _ _ (by omega) (by omega) g.2 hj (v.down hl g.2 hj) hn
      · rw [if_neg g] at hn ⊢
        by_cases g2 : j + 1 < C
        · rw [if_pos g2] at hn ⊢
          exact cl19_1 N hN C hC H W hl S hS f fuel i (j + 1) (k + 1) _ _ _ (by omega) (by omega) hi g2 (v.right hl hi g2) hn
        · rw [if_neg g2] at hn ⊢
          have := List.drop_eq_nil_iff.1 hn
          cases fuel with
          | zero => omega
          | succ fuel => rw [m19_L7, brn_df (by omega)]
    rw [m19_L7, brn_dt (by omega), grd_t ⟨by omega, by omega⟩, grd_t (by rw [List.length_drop, toNatN]; omega), toNatN, gI_f0 hd, grd_t (by rw [List.length_drop, List.length_drop]; omega), gI_f1 hd]
    simp only []
    have h : i = 0 := by omega
    subst h
    · rw [cI_t (by omega)]
      rw [sumr_ok N hN M C 0 hC v.b5, bnd_t, getI_t, col1_0 N hN M C j v.b5 hj, bnd_t]
      rw [grd_t (by simp only [List.length_drop, iL_len]; omega), gI_i (by omega), grd_t ⟨by omega, by omega⟩, grd_t (by rw [List.length_drop, iL_len, toNatN]; omega), gI_n (by omega), grd_t (by rw [iL_len, row_len, toNatN]; omega), v.rs, v.cs]
      rw [wrap64 (n := en H 0 - (en H 0 - hs)) (by omega) (by omega), wrap64 (n := en W j - (en W j - ws)) (by omega) (by omega), wrapN (by omega), toNatN, show en H 0 - (en H 0 - hs) = hs by omega, show en W j - (en W j - ws) = ws by omega, iL_set, row_upd_eq]
      have r := fin
      exact r
def flR2 (M : Nat → Nat → Int) (C : Nat) : List PV := iL (row M C 0) ++ (iL (row M C 1))
theorem st62_2 (N C : Nat) (M : Nat → Nat → Int) (i j : Nat) (x : Int) (hi : i < 2) (hj : j < C) : m62_2 N i j x 0 C C C (flR2 M C) = some (.tup [], flR2 (upd M i j x) C) := by
  unfold m62_2 flR2
  have lr : ∀ a, (iL (row M C a)).length = C := fun a => by rw [iL_len, row_len]
  have h : i = 0 ∨ i = 1 := by omega
  rcases h with rfl | rfl
  · rw [cI_t (by omega)]
    rw [grd_t ⟨by omega, by omega⟩, grd_t (by simp only [List.length_append, lr, toNatN]; omega), toNatN]
    rw [set_0 (lr _) hj, iL_set, row_upd_eq, row_upd_ne (show 1 ≠ 0 by omega)]
  · rw [cI_f (by omega), cI_t (by omega)]
    rw [grd_t ⟨by omega, by omega⟩, grd_t (by simp only [List.length_append, lr, toNatN]; omega), toNatN]
    rw [show C + j = C + 0 + j by omega, set_1 (lr _), Nat.zero_add, iL_set, row_upd_eq, row_upd_ne (show 0 ≠ 1 by omega)]
theorem cl61_2 (N C : Nat) (hC : C ≤ 4) (H W : List Int) (hl : Lds 2 C H W) : ∀ (f fuel i j : Nat) (hs ws : Int) (M : Nat → Nat → Int),
    (2 - i) + (C - j) ≤ f → f ≤ fuel → i < 2 → j < C → 0 ≤ hs → hs ≤ 5 → 0 ≤ ws → ws ≤ 5 →
    m61_3_L0 N 0 C C C 2 (iL H) C (iL W) fuel i j hs ws (flR2 M C) = some (.tup [], flR2 (corM 2 C H W f i j hs ws M) C)
  | 0, _, i, j, _, _, _, h, _, h1, h2, _, _, _, _ => by omega
  | f + 1, 0, i, j, _, _, _, h, hf, h1, h2, _, _, _, _ => by omega
  | f + 1, fuel + 1, i, j, hs, ws, M, h, hf, hi, hj, h0, h5, w0, w5 => by
    have mm := minI_ok hs ws
    have l1 := hl.hl
    have l2 := hl.wl
    rw [m61_3_L0, st62_2 N C M i j _ hi hj, bnd_t]
    show getT0 (.tup []) _ = _
    rw [getT0_t, wrap64 (n := hs - minI hs ws) (by omega) (by omega), wrap64 (n := ((2 : Nat) : Int) - 1) (by omega) (by omega), wrap64 (n := ((C : Nat) : Int) - 1) (by omega) (by omega), wrapN (n := i) (by omega), wrapN (n := j) (by omega), wrap64 (n := ws - minI hs ws) (by omega) (by omega), corM]
    have next2 : j + 1 < C → m61_3_L0 N 0 C C C 2 (iL H) C (iL W) fuel i ((j + 1 : Nat) : Int) (hs - minI hs ws) (en W (j + 1)) (flR2 (upd M i j (minI hs ws)) C) = some (.tup [], flR2 (corM 2 C H W f i (j + 1) (hs - minI hs ws) (en W (j + 1)) (upd M i j (minI hs ws))) C) := fun g => by
      have w1 := hl.w5 (j + 1) g
      exact cl61_2 N C hC H W hl f fuel i (j + 1) (hs - minI hs ws) (en W (j + 1)) _ (by omega) (by omega) hi g (by omega) (by omega) (by omega) (by omega)
    by_cases h1 : hs - minI hs ws = 0
    · rw [brn_et h1]
      by_cases h2 : i + 1 < 2
      · have w1 := hl.h5 (i + 1) h2
        rw [brn_dt (by omega), if_pos ⟨h1, h2⟩]
        simp (disch := (try simp only [List.length_drop, List.length_append, iL_len, rws_len, row_len, fl_len, toNatN]) <;> omega) only [↓grd_t, ↓gI_n]
        exact cl61_2 N C hC H W hl f fuel (i + 1) j (en H (i + 1)) (ws - minI hs ws) _ (by omega) (by omega) h2 hj (by omega) (by omega) (by omega) (by omega)
      · rw [brn_df (by omega), if_neg (by omega)]
        by_cases h3 : j + 1 < C
        · rw [brn_dt (by omega), if_pos h3]
          simp (disch := (try simp only [List.length_drop, List.length_append, iL_len, rws_len, row_len, fl_len, toNatN]) <;> omega) only [↓grd_t, ↓gI_n]
          exact next2 h3
        · rw [brn_df (by omega), if_neg h3]
    · rw [brn_ef h1, if_neg (by omega)]
      by_cases h3 : j + 1 < C
      · rw [brn_dt (by omega), if_pos h3]
        simp (disch := (try simp only [List.length_drop, List.length_append, iL_len, rws_len, row_len, fl_len, toNatN]) <;> omega) only [↓grd_t, ↓gI_n]
        exact next2 h3
      · rw [brn_df (by omega), if_neg h3]
theorem col2_0 (N : Nat) (hN : 2000 ≤ N) (M : Nat → Nat → Int) (C j : Nat) (h5 : ∀ a b, 0 ≤ M a b ∧ M a b ≤ 5) (hj : j < C) (cH : List PV) (cW : List PV) (s : Nat) (cS : List PV) (k x : Int) : m19_L6 N cH C cW s cS k (iL (row M C 0)) (iL (row M C 1)) j x N 0 0 = some (sN (fun a => M a j) 2) := by
  obtain ⟨n, rfl⟩ : ∃ n, N = n + 3 := ⟨N - 3, by omega⟩
  have b0 := h5 0 j
  have b1 := h5 1 j
  rw [m19_L6, brn_dt (by omega), cI_t (by omega), grd_t ⟨by omega, by omega⟩, grd_t (by rw [iL_len, row_len, toNatN]; omega), gI_n (by rw [row_len]; omega), en_row hj, wrap64 (n := 0 + M 0 j) (by omega) (by omega)]
  rw [m19_L6, brn_dt (by omega), cI_f (by omega), cI_t (by omega), grd_t ⟨by omega, by omega⟩, grd_t (by rw [iL_len, row_len, toNatN]; omega), gI_n (by rw [row_len]; omega), en_row hj, wrap64 (n := 0 + M 0 j + M 1 j) (by omega) (by omega)]
  rw [m19_L6, brn_df (by omega)]
  rfl
theorem col2_1 (N : Nat) (hN : 2000 ≤ N) (M : Nat → Nat → Int) (C j : Nat) (h5 : ∀ a b, 0 ≤ M a b ∧ M a b ≤ 5) (hj : j < C) (cH : List PV) (cW : List PV) (s : Nat) (cS : List PV) (k x : Int) : m19_L5 N cH C cW s cS k (iL (row M C 0)) (iL (row M C 1)) j x N 0 0 = some (sN (fun a => M a j) 2) := by
  obtain ⟨n, rfl⟩ : ∃ n, N = n + 3 := ⟨N - 3, by omega⟩
  have b0 := h5 0 j
  have b1 := h5 1 j
  rw [m19_L5, brn_dt (by omega), cI_t (by omega), grd_t ⟨by omega, by omega⟩, grd_t (by rw [iL_len, row_len, toNatN]; omega), gI_n (by rw [row_len]; omega), en_row hj, wrap64 (n := 0 + M 0 j) (by omega) (by omega)]
  rw [m19_L5, brn_dt (by omega), cI_f (by omega), cI_t (by omega), grd_t ⟨by omega, by omega⟩, grd_t (by rw [iL_len, row_len, toNatN]; omega), gI_n (by rw [row_len]; omega), en_row hj, wrap64 (n := 0 + M 0 j + M 1 j) (by omega) (by omega)]
  rw [m19_L5, brn_df (by omega)]
  rfl
theorem cl19_2 (N : Nat) (hN : 2000 ≤ N) (C : Nat) (hC : C ≤ 4) (H W : List Int) (hl : Lds 2 C H W) (S : List (Nat × Nat)) (hS : S.length ≤ 100) : ∀ (f fuel i j k : Nat) (hs ws : Int) (M : Nat → Nat → Int),
    (2 - i) + (C - j) ≤ f → f < fuel → i < 2 → j < C → Inv 2 C H W i j hs ws M → S.drop k = stp 2 C H W f i j hs ws →
    m19_L4 N (iL H) C (iL W) S.length (fl S) fuel (k : Int) (iL (row M C 0)) (iL (row M C 1)) = some (iL (row (corM 2 C H W f i j hs ws M) C 0), iL (row (corM 2 C H W f i j hs ws M) C 1))
  | 0, _, i, j, _, _, _, _, h, _, h1, h2, _, _ => by omega
  | f + 1, 0, i, j, _, _, _, _, h, hf, h1, h2, _, _ => by omega
  | f + 1, fuel + 1, i, j, k, hs, ws, M, h, hf, hi, hj, v, hd => by
    have mm := minI_ok hs ws
    have l1 := hl.hl
    have l2 := hl.wl
    have vh := hl.h5 i hi
    have vw := hl.w5 j hj
    have v0 := v.h0
    have v1 := v.h1
    have v2 := v.w0
    have v3 := v.w1
    rw [stp] at hd
    have hk := drop_lt hd
    have hn := drop_next hd
    have lf := fl_len S
    have fin : m19_L4 N (iL H) C (iL W) S.length (fl S) fuel ((k + 1 : Nat) : Int) (iL (row (upd M i j (minI hs ws)) C 0)) (iL (row (upd M i j (minI hs ws)) C 1)) = some (iL (row (corM 2 C H W (f + 1) i j hs ws M) C 0), iL (row (corM 2 C H W (f + 1) i j hs ws M) C 1)) := by
      rw [corM]
      by_cases g : hs - minI hs ws = 0 ∧ i + 1 < 2
      · rw [if_pos g] at hn ⊢
        exact cl19_2 N hN C hC H W hl S hS f fuel (i + 1) j (k + 1) _ _ _ (by omega) (by omega) g.2 hj (v.down hl g.2 hj) hn
      · rw [if_neg g] at hn ⊢
        by_cases g2 : j + 1 < C
        · rw [if_pos g2] at hn ⊢
          exact cl19_2 N hN C hC H W hl S hS f fuel i (j + 1) (k + 1) _ _ _ (by omega) (by omega) hi g2 (v.right hl hi g2) hn
        · rw [if_neg g2] at hn ⊢
          have := List.drop_eq_nil_iff.1 hn
          cases fuel with
          | zero => omega
          | succ fuel => rw [m19_L4, brn_df (by omega)]
    rw [m19_L4, brn_dt (by omega), grd_t ⟨by omega, by omega⟩, grd_t (by rw [List.length_drop, toNatN]; omega), toNatN, gI_f0 hd, grd_t (by rw [List.length_drop, List.length_drop]; omega), gI_f1 hd]
    simp only []
    have h : i = 0 ∨ i = 1 := by omega
    rcases h with rfl | rfl
    · rw [cI_t (by omega)]
      rw [sumr_ok N hN M C 0 hC v.b5, bnd_t, getI_t, col2_0 N hN M C j v.b5 hj, bnd_t]
      rw [grd_t (by simp only [List.length_drop, iL_len]; omega), gI_i (by omega), grd_t ⟨by omega, by omega⟩, grd_t (by rw [List.length_drop, iL_len, toNatN]; omega), gI_n (by omega), grd_t (by rw [iL_len, row_len, toNatN]; omega), v.rs, v.cs]
      rw [wrap64 (n := en H 0 - (en H 0 - hs)) (by omega) (by omega), wrap64 (n := en W j - (en W j - ws)) (by omega) (by omega), wrapN (by omega), toNatN, show en H 0 - (en H 0 - hs) = hs by omega, show en W j - (en W j - ws) = ws by omega, iL_set, row_upd_eq]
      have r := fin
      rw [row_upd_ne (C := C) (M := M) (j := j) (x := minI hs ws) (show 1 ≠ 0 by omega)] at r
      exact r
    · rw [cI_f (by omega), cI_t (by omega)]
      rw [sumr_ok N hN M C 1 hC v.b5, bnd_t, getI_t, col2_1 N hN M C j v.b5 hj, bnd_t]
      rw [grd_t (by simp only [List.length_drop, iL_len]; omega), gI_i (by omega), grd_t ⟨by omega, by omega⟩, grd_t (by rw [List.length_drop, iL_len, toNatN]; omega), gI_n (by omega), grd_t (by rw [iL_len, row_len, toNatN]; omega), v.rs, v.cs]
      rw [wrap64 (n := en H 1 - (en H 1 - hs)) (by omega) (by omega), wrap64 (n := en W j - (en W j - ws)) (by omega) (by omega), wrapN (by omega), toNatN, show en H 1 - (en H 1 - hs) = hs by omega, show en W j - (en W j - ws) = ws by omega, iL_set, row_upd_eq]
      have r := fin
      rw [row_upd_ne (C := C) (M := M) (j := j) (x := minI hs ws) (show 0 ≠ 1 by omega)] at r
      exact r
def flR3 (M : Nat → Nat → Int) (C : Nat) : List PV := iL (row M C 0) ++ (iL (row M C 1) ++ (iL (row M C 2)))
theorem st62_3 (N C : Nat) (M : Nat → Nat → Int) (i j : Nat) (x : Int) (hi : i < 3) (hj : j < C) : m62_3 N i j x 0 C C C (2 * C) C (flR3 M C) = some (.tup [], flR3 (upd M i j x) C) := by
  unfold m62_3 flR3
  have lr : ∀ a, (iL (row M C a)).length = C := fun a => by rw [iL_len, row_len]
  have h : i = 0 ∨ i = 1 ∨ i = 2 := by omega
  rcases h with rfl | rfl | rfl
  · rw [cI_t (by omega)]
    rw [grd_t ⟨by omega, by omega⟩, grd_t (by simp only [List.length_append, lr, toNatN]; omega), toNatN]
    rw [set_0 (lr _) hj, iL_set, row_upd_eq, row_upd_ne (show 1 ≠ 0 by omega), row_upd_ne (show 2 ≠ 0 by omega)]
  · rw [cI_f (by omega), cI_t (by omega)]
    rw [grd_t ⟨by omega, by omega⟩, grd_t (by simp only [List.length_append, lr, toNatN]; omega), toNatN]
    rw [show C + j = C + 0 + j by omega, set_1 (lr _), set_0 (lr _) hj, iL_set, row_upd_eq, row_upd_ne (show 0 ≠ 1 by omega), row_upd_ne (show 2 ≠ 1 by omega)]
  · rw [cI_f (by omega), cI_f (by omega), cI_t (by omega)]
    rw [grd_t ⟨by omega, by omega⟩, grd_t (by simp only [List.length_append, lr, toNatN]; omega), toNatN]
    rw [show 2 * C + j = C + C + j by omega, set_1 (lr _), show C + j = C + 0 + j by omega, set_1 (lr _), Nat.zero_add, iL_set, row_upd_eq, row_upd_ne (show 0 ≠ 2 by omega), row_upd_ne (show 1 ≠ 2 by omega)]
theorem cl61_3 (N C : Nat) (hC : C ≤ 4) (H W : List Int) (hl : Lds 3 C H W) : ∀ (f fuel i j : Nat) (hs ws : Int) (M : Nat → Nat → Int),
    (3 - i) + (C - j) ≤ f → f ≤ fuel → i < 3 → j < C → 0 ≤ hs → hs ≤ 5 → 0 ≤ ws → ws ≤ 5 →
    m61_4_L0 N 0 C C C (2 * C) C 3 (iL H) C (iL W) fuel i j hs ws (flR3 M C) = some (.tup [], flR3 (corM 3 C H W f i j hs ws M) C)
  | 0, _, i, j, _, _, _, h, _, h1, h2, _, _, _, _ => by omega
  | f + 1, 0, i, j, _, _, _, h, hf, h1, h2, _, _, _, _ => by omega
  | f + 1, fuel + 1, i, j, hs, ws, M, h, hf, hi, hj, h0, h5, w0, w5 => by
    have mm := minI_ok hs ws
    have l1 := hl.hl
    have l2 := hl.wl
    rw [m61_4_L0, st62_3 N C M i j _ hi hj, bnd_t]
    show getT0 (.tup []) _ = _
    rw [getT0_t, wrap64 (n := hs - minI hs ws) (by omega) (by omega), wrap64 (n := ((3 : Nat) : Int) - 1) (by omega) (by omega), wrap64 (n := ((C : Nat) : Int) - 1) (by omega) (by omega), wrapN (n := i) (by omega), wrapN (n := j) (by omega), wrap64 (n := ws - minI hs ws) (by omega) (by omega), corM]
    have next2 : j + 1 < C → m61_4_L0 N 0 C C C (2 * C) C 3 (iL H) C (iL W) fuel i ((j + 1 : Nat) : Int) (hs - minI hs ws) (en W (j + 1)) (flR3 (upd M i j (minI hs ws)) C) = some (.tup [], flR3 (corM 3 C H W f i (j + 1) (hs - minI hs ws) (en W (j + 1)) (upd M i j (minI hs ws))) C) := fun g => by
      have w1 := hl.w5 (j + 1) g
      exact cl61_3 N C hC H W hl f fuel i (j + 1) (hs - minI hs ws) (en W (j + 1)) _ (by omega) (by omega) hi g (by omega) (by omega) (by omega) (by omega)
    by_cases h1 : hs - minI hs ws = 0
    · rw [brn_et h1]
      by_cases h2 : i + 1 < 3
      · have w1 := hl.h5 (i + 1) h2
        rw [brn_dt (by omega), if_pos ⟨h1, h2⟩]
        simp (disch := (try simp only [List.length_drop, List.length_append, iL_len, rws_len, row_len, fl_len, toNatN]) <;> omega) only [↓grd_t, ↓gI_n]
        exact cl61_3 N C hC H W hl f fuel (i + 1) j (en H (i + 1)) (ws - minI hs ws) _ (by omega) (by omega) h2 hj (by omega) (by omega) (by omega) (by omega)
      · rw [brn_df (by omega), if_neg (by omega)]
        by_cases h3 : j + 1 < C
        · rw [brn_dt (by omega), if_pos h3]
          simp (disch := (try simp only [List.length_drop, List.length_append, iL_len, rws_len, row_len, fl_len, toNatN]) <;> omega) only [↓grd_t, ↓gI_n]
          exact next2 h3
        · rw [brn_df (by omega), if_neg h3]
    · rw [brn_ef h1, if_neg (by omega)]
      by_cases h3 : j + 1 < C
      · rw [brn_dt (by omega), if_pos h3]
        simp (disch := (try simp only [List.length_drop, List.length_append, iL_len, rws_len, row_len, fl_len, toNatN]) <;> omega) only [↓grd_t, ↓gI_n]
        exact next2 h3
      · rw [brn_df (by omega), if_neg h3]
theorem col3_0 (N : Nat) (hN : 2000 ≤ N) (M : Nat → Nat → Int) (C j : Nat) (h5 : ∀ a b, 0 ≤ M a b ∧ M a b ≤ 5) (hj : j < C) (cH : List PV) (cW : List PV) (s : Nat) (cS : List PV) (k x : Int) : m19_L3 N cH C cW s cS k (iL (row M C 0)) (iL (row M C 1)) (iL (row M C 2)) j x N 0 0 = some (sN (fun a => M a j) 3) := by
  obtain ⟨n, rfl⟩ : ∃ n, N = n + 4 := ⟨N - 4, by omega⟩
  have b0 := h5 0 j
  have b1 := h5 1 j
  have b2 := h5 2 j
  rw [m19_L3, brn_dt (by omega), cI_t (by omega), grd_t ⟨by omega, by omega⟩, grd_t (by rw [iL_len, row_len, toNatN]; omega), gI_n (by rw [row_len]; omega), en_row hj, wrap64 (n := 0 + M 0 j) (by omega) (by omega)]
  rw [m19_L3, brn_dt (by omega), cI_f (by omega), cI_t (by omega), grd_t ⟨by omega, by omega⟩, grd_t (by rw [iL_len, row_len, toNatN]; omega), gI_n (by rw [row_len]; omega), en_row hj, wrap64 (n := 0 + M 0 j + M 1 j) (by omega) (by omega)]
  rw [m19_L3, brn_dt (by omega), cI_f (by omega), cI_f (by omega), cI_t (by omega), grd_t ⟨by omega, by omega⟩, grd_t (by rw [iL_len, row_len, toNatN]; omega), gI_n (by rw [row_len]; omega), en_row hj, wrap64 (n := 0 + M 0 j + M 1 j + M 2 j) (by omega) (by omega)]
  rw [m19_L3, brn_df (by omega)]
  rfl
theorem col3_1 (N : Nat) (hN : 2000 ≤ N) (M : Nat → Nat → Int) (C j : Nat) (h5 : ∀ a b, 0 ≤ M a b ∧ M a b ≤ 5) (hj : j < C) (cH : List PV) (cW : List PV) (s : Nat) (cS : List PV) (k x : Int) : m19_L2 N cH C cW s cS k (iL (row M C 0)) (iL (row M C 1)) (iL (row M C 2)) j x N 0 0 = some (sN (fun a => M a j) 3) := by
  obtain ⟨n, rfl⟩ : ∃ n, N = n + 4 := ⟨N - 4, by omega⟩
  have b0 := h5 0 j
  have b1 := h5 1 j
  have b2 := h5 2 j
  rw [m19_L2, brn_dt (by omega), cI_t (by omega), grd_t ⟨by omega, by omega⟩, grd_t (by rw [iL_len, row_len, toNatN]; omega), gI_n (by rw [row_len]; omega), en_row hj, wrap64 (n := 0 + M 0 j) (by omega) (by omega)]
  rw [m19_L2, brn_dt (by omega), cI_f (by omega), cI_t (by omega), grd_t ⟨by omega, by omega⟩, grd_t (by rw [iL_len, row_len, toNatN]; omega), gI_n (by rw [row_len]; omega), en_row hj, wrap64 (n := 0 + M 0 j + M 1 j) (by omega) (by omega)]
  rw [m19_L2, brn_dt (by omega), cI_f (by omega), cI_f (by omega), cI_t (by omega), grd_t ⟨by omega, by omega⟩, grd_t (by rw [iL_len, row_len, toNatN]; omega), gI_n (by rw [row_len]; omega), en_row hj, wrap64 (n := 0 + M 0 j + M 1 j + M 2 j) (by omega) (by omega)]
  rw [m19_L2, brn_df (by omega)]
  rfl
theorem col3_2 (N : Nat) (hN : 2000 ≤ N) (M : Nat → Nat → Int) (C j : Nat) (h5 : ∀ a b, 0 ≤ M a b ∧ M a b ≤ 5) (hj : j < C) (cH : List PV) (cW : List PV) (s : Nat) (cS : List PV) (k x : Int) : m19_L1 N cH C cW s cS k (iL (row M C 0)) (iL (row M C 1)) (iL (row M C 2)) j x N 0 0 = some (sN (fun a => M a j) 3) := by
  obtain ⟨n, rfl⟩ : ∃ n, N = n + 4 := ⟨N - 4, by omega⟩
  have b0 := h5 0 j
  have b1 := h5 1 j
  have b2 := h5 2 j
  rw [m19_L1, brn_dt (by omega), cI_t (by omega), grd_t ⟨by omega, by omega⟩, grd_t (by rw [iL_len, row_len, toNatN]; omega), gI_n (by rw [row_len]; omega), en_row hj, wrap64 (n := 0 + M 0 j) (by omega) (by omega)]
  rw [m19_L1, brn_dt (by omega), cI_f (by omega), cI_t (by omega), grd_t ⟨by omega, by omega⟩, grd_t (by rw [iL_len, row_len, toNatN]; omega), gI_n (by rw [row_len]; omega), en_row hj, wrap64 (n := 0 + M 0 j + M 1 j) (by omega) (by omega)]
  rw [m19_L1, brn_dt (by omega), cI_f (by omega), cI_f (by omega), cI_t (by omega), grd_t ⟨by omega, by omega⟩, grd_t (by rw [iL_len, row_len, toNatN]; omega), gI_n (by rw [row_len]; omega), en_row hj, wrap64 (n := 0 + M 0 j + M 1 j + M 2 j) (by omega) (by omega)]
  rw [m19_L1, brn_df (by omega)]
  rfl
theorem cl19_3 (N : Nat) (hN : 2000 ≤ N) (C : Nat) (hC : C ≤ 4) (H W : List Int) (hl : Lds 3 C H W) (S : List (Nat × Nat)) (hS : S.length ≤ 100) : ∀ (f fuel i j k : Nat) (hs ws : Int) (M : Nat → Nat → Int),
    (3 - i) + (C - j) ≤ f → f < fuel → i < 3 → j < C → Inv 3 C H W i j hs ws M → S.drop k = stp 3 C H W f i j hs ws →
    m19_L0 N (iL H) C (iL W) S.length (fl S) fuel (k : Int) (iL (row M C 0)) (iL (row M C 1)) (iL (row M C 2)) = some (iL (row (corM 3 C H W f i j hs ws M) C 0), iL (row (corM 3 C H W f i j hs ws M) C 1), iL (row (corM 3 C H W f i j hs ws M) C 2))
  | 0, _, i, j, _, _, _, _, h, _, h1, h2, _, _ => by omega
  | f + 1, 0, i, j, _, _, _, _, h, hf, h1, h2, _, _ => by omega
  | f + 1, fuel + 1, i, j, k, hs, ws, M, h, hf, hi, hj, v, hd => by
    have mm := minI_ok hs ws
    have l1 := hl.hl
    have l2 := hl.wl
    have vh := hl.h5 i hi
    have vw := hl.w5 j hj
    have v0 := v.h0
    have v1 := v.h1
    have v2 := v.w0
    have v3 := v.w1
    rw [stp] at hd
    have hk := drop_lt hd
    have hn := drop_next hd
    have lf := fl_len S
    have fin : m19_L0 N (iL H) C (iL W) S.length (fl S) fuel ((k + 1 : Nat) : Int) (iL (row (upd M i j (minI hs ws)) C 0)) (iL (row (upd M i j (minI hs ws)) C 1)) (iL (row (upd M i j (minI hs ws)) C 2)) = some (iL (row (corM 3 C H W (f + 1) i j hs ws M) C 0), iL (row (corM 3 C H W (f + 1) i j hs ws M) C 1), iL (row (corM 3 C H W (f + 1) i j hs ws M) C 2)) := by
      rw [corM]
      by_cases g : hs - minI hs ws = 0 ∧ i + 1 < 3
      · rw [if_pos g] at hn ⊢
        exact cl19_3 N hN C hC H W hl S hS f fuel (i + 1) j (k + 1) _ _ _ (by omega) (by omega) g.2 hj (v.down hl g.2 hj) hn
      · rw [if_neg g] at hn ⊢
        by_cases g2 : j + 1 < C
        · rw [if_pos g2] at hn ⊢
          exact cl19_3 N hN C hC H W hl S hS f fuel i (j + 1) (k + 1) _ _ _ (by omega) (by omega) hi g2 (v.right hl hi g2) hn
        · rw [if_neg g2] at hn ⊢
          have := List.drop_eq_nil_iff.1 hn
          cases fuel with
          | zero => omega
          | succ fuel => rw [m19_L0, brn_df (by omega)]
    rw [m19_L0, brn_dt (by omega), grd_t ⟨by omega, by omega⟩, grd_t (by rw [List.length_drop, toNatN]; omega), toNatN, gI_f0 hd, grd_t (by rw [List.length_drop, List.length_drop]; omega), gI_f1 hd]
    simp only []
    have h : i = 0 ∨ i = 1 ∨ i = 2 := by omega
    rcases h with rfl | rfl | rfl
    · rw [cI_t (by omega)]
      rw [sumr_ok N hN M C 0 hC v.b5, bnd_t, getI_t, col3_0 N hN M C j v.b5 hj, bnd_t]
      rw [grd_t (by simp only [List.length_drop, iL_len]; omega), gI_i (by omega), grd_t ⟨by omega, by omega⟩, grd_t (by rw [List.length_drop, iL_len, toNatN]; omega), gI_n (by omega), grd_t (by rw [iL_len, row_len, toNatN]; omega), v.rs, v.cs]
      rw [wrap64 (n := en H 0 - (en H 0 - hs)) (by omega) (by omega), wrap64 (n := en W j - (en W j - ws)) (by omega) (by omega), wrapN (by omega), toNatN, show en H 0 - (en H 0 - hs) = hs by omega, show en W j - (en W j - ws) = ws by omega, iL_set, row_upd_eq]
      have r := fin
      rw [row_upd_ne (C := C) (M := M) (j := j) (x := minI hs ws) (show 1 ≠ 0 by omega), row_upd_ne (C := C) (M := M) (j := j) (x := minI hs ws) (show 2 ≠ 0 by omega)] at r
      exact r
    · rw [cI_f (by omega), cI_t (by omega)]
      rw [sumr_ok N hN M C 1 hC v.b5, bnd_t, getI_t, col3_1 N hN M C j v.b5 hj, bnd_t]
      rw [grd_t (by simp only [List.length_drop, iL_len]; omega), gI_i (by omega), grd_t ⟨by omega, by omega⟩, grd_t (by rw [List.length_drop, iL_len, toNatN]; omega), gI_n (by omega), grd_t (by rw [iL_len, row_len, toNatN]; omega), v.rs, v.cs]
      rw [wrap64 (n := en H 1 - (en H 1 - hs)) (by omega) (by omega), wrap64 (n := en W j - (en W j - ws)) (by omega) (by omega), wrapN (by omega), toNatN, show en H 1 - (en H 1 - hs) = hs by omega, show en W j - (en W j - ws) = ws by omega, iL_set, row_upd_eq]
      have r := fin
      rw [row_upd_ne (C := C) (M := M) (j := j) (x := minI hs ws) (show 0 ≠ 1 by omega), row_upd_ne (C := C) (M := M) (j := j) (x := minI hs ws) (show 2 ≠ 1 by omega)] at r
      exact r
    · rw [cI_f (by omega), cI_f (by omega), cI_t (by omega)]
      rw [sumr_ok N hN M C 2 hC v.b5, bnd_t, getI_t, col3_2 N hN M C j v.b5 hj, bnd_t]
      rw [grd_t (by simp only [List.length_drop, iL_len]; omega), gI_i (by omega), grd_t ⟨by omega, by omega⟩, grd_t (by rw [List.length_drop, iL_len, toNatN]; omega), gI_n (by omega), grd_t (by rw [iL_len, row_len, toNatN]; omega), v.rs, v.cs]
      rw [wrap64 (n := en H 2 - (en H 2 - hs)) (by omega) (by omega), wrap64 (n := en W j - (en W j - ws)) (by omega) (by omega), wrapN (by omega), toNatN, show en H 2 - (en H 2 - hs) = hs by omega, show en W j - (en W j - ws) = ws by omega, iL_set, row_upd_eq]
      have r := fin
      rw [row_upd_ne (C := C) (M := M) (j := j) (x := minI hs ws) (show 0 ≠ 2 by omega), row_upd_ne (C := C) (M := M) (j := j) (x := minI hs ws) (show 1 ≠ 2 by omega)] at r
      exact r
def M0 : Nat → Nat → Int := fun _ _ => 0
theorem row0 (C a : Nat) : iL (row M0 C a) = List.replicate C (PV.int .i64 0) := by
  unfold row M0 iL
  rw [List.map_map]
  apply List.ext_getElem
  · simp
  · intro n h1 h2; simp
theorem tN (k C : Nat) (hC : C ≤ 4) (hk : k ≤ 4) : Int.toNat (IntKind.i64.wrap ((k : Int) * (C : Int))) = k * C := by
  have h : k * C ≤ 16 := Nat.mul_le_mul hk hC
  have e : (k : Int) * (C : Int) = ((k * C : Nat) : Int) := by push_cast; rfl
  rw [e, wrap64 (by omega) (by omega)]; omega
theorem tk_l {A B : List PV} {C : Nat} (h : A.length = C) : List.take C (A ++ B) = A := by rw [← h]; simp
theorem dr_l {A B : List PV} {C : Nat} (h : A.length = C) : List.drop C (A ++ B) = B := by rw [← h]; simp
theorem tk_a {A : List PV} {C : Nat} (h : A.length = C) : List.take C A = A := by rw [← h]; simp
def corF (R C : Nat) (H W : List Int) : Nat → Nat → Int := corM R C H W 100 0 0 (en H 0) (en W 0) M0
def corT (R C : Nat) (H W : List Int) : List (List Int) := (List.range R).map (row (corF R C H W) C)
def corL (L : List (List Int)) (H W : List Int) : List (List Int) := if ldE L H W ≠ 0 then [] else corT L.length W.length H W
def corE (L : List (List Int)) (H W : List Int) : PV := .tup [.lst false (corL L H W).length (rwsP (corL L H W)), .int .i64 (ldE L H W)]
theorem inv0 {R C : Nat} {H W : List Int} (l : Lds R C H W) (hR : 0 < R) (hC : 0 < C) : Inv R C H W 0 0 (en H 0) (en W 0) M0 :=
  ⟨fun _ _ _ => rfl, fun _ _ => ⟨by unfold M0; omega, by unfold M0; omega⟩, by rw [sN_zero (f := M0 0) C fun _ _ => rfl]; omega, by rw [sN_zero (f := fun a => M0 a 0) R fun _ _ => rfl]; omega, (l.h5 0 hR).1, Int.le_refl _, (l.w5 0 hC).1, Int.le_refl _⟩
theorem st63 (N R C : Nat) (hN : 2000 ≤ N) (hR : R ≤ 3) (hC : C ≤ 4) (r1 : 0 < R) (c1 : 0 < C) (H W : List Int) (l : Lds R C H W) : ∃ S, S.length ≤ 100 ∧ S = stp R C H W 100 0 0 (en H 0) (en W 0) ∧ m63 N (.agg [.lst false R (iL H), .lst false C (iL W)]) = some (.lst false S.length (fl S)) := by
  have v0 := l.h5 0 (by omega)
  have w0 := l.w5 0 (by omega)
  have k1 := l.hl
  have k2 := l.wl
  have lH := iL_len H
  have lW := iL_len W
  obtain ⟨S, hS, e⟩ := loop63 N R C hR hC H W l 100 N 0 0 0 [] H W (by omega) (by omega) (by omega) (by omega) k1 k2 (fun k _ => rfl) (fun k _ => rfl) v0.1 v0.2 w0.1 w0.2 rfl (by omega)
  have sl := stp_len R C H W 100 0 0 (en H 0) (en W 0)
  rw [← hS] at sl
  have lf := fl_len S
  rw [List.nil_append, Nat.zero_add] at e
  refine ⟨S, sl, hS, ?_⟩
  rw [m63, getA2_t, getL_t, grd_t (by omega), brn_dt (by omega), grd_t (by omega), getL_t, grd_t (by omega), brn_dt (by omega), grd_t (by omega)]
  rw [show m63_L0 N R C N 0 0 0 [] (iL H) (iL W) = _ from e, bnd_t]
  show grd _ _ = _
  rw [grd_t lf]
theorem tab_1 (N C : Nat) (hC : C ≤ 4) (H W : List Int) (hH : H.length = 1) (hW : W.length = C) : m60 N (.agg [rwP H, rwP W]) = some (.inl (0, C, flR1 M0 C)) := by
  have t0 := tN 0 C hC (by omega)
  have t1 := tN 1 C hC (by omega)
  have t2 := tN 2 C hC (by omega)
  have t3 := tN 3 C hC (by omega)
  have w0 : IntKind.i64.wrap (0 * (C : Int)) = 0 := by rw [Int.zero_mul]; rfl
  have w1 : IntKind.i64.wrap (1 * (C : Int)) = C := by rw [Int.one_mul, wrap64 (by omega) (by omega)]
  have w2 : IntKind.i64.wrap (2 * (C : Int)) = 2 * C := by rw [wrap64 (by omega) (by omega)]
  have w3 : IntKind.i64.wrap (3 * (C : Int)) = 3 * C := by rw [wrap64 (by omega) (by omega)]
  have wn : IntKind.i64.wrap (((1 : Nat) : Int) * (C : Int)) = 1 * C := by rw [wrap64 (by omega) (by omega)]; omega
  have e0 : Int.toNat (0 : Int) = 0 := rfl
  have e1 : Int.toNat ((C : Int) - 0) = C := by omega
  have e2 : Int.toNat (2 * (C : Int) - C) = C := by omega
  have e3 : Int.toNat (3 * (C : Int) - 2 * C) = C := by omega
  have f1 : Int.toNat (C : Int) = C := by omega
  have f2 : Int.toNat (2 * (C : Int)) = 2 * C := by omega
  have f3 : Int.toNat (3 * (C : Int)) = 3 * C := by omega
  unfold rwP
  rw [m60, getA2_t, getL_t, getL_t, hH, hW, wn, w0, w1, grd_t ⟨by omega, by omega, by omega⟩, cN_t rfl]
  rw [grd_t ⟨by omega, by omega, by omega⟩]
  simp only [e0, e1, e2, f1, f2, f3]
  unfold flR1
  simp only [row0]
  try rfl
  try rw [show 2 * C = C + C by omega]
  try rw [show 3 * C = C + (C + C) by omega]
theorem cor61_1 (N C : Nat) (hN : 2000 ≤ N) (hC : C ≤ 4) (c1 : 0 < C) (H W : List Int) (l : Lds 1 C H W) : m61_2 N (.agg [rwP H, rwP W]) 0 C (flR1 M0 C) = some (.tup [], flR1 (corF 1 C H W) C) := by
  have v0 := l.h5 0 (by omega)
  have w0 := l.w5 0 (by omega)
  have k1 := l.hl
  have k2 := l.wl
  have lH := iL_len H
  have lW := iL_len W
  have lp := cl61_1 N C hC H W l 100 N 0 0 (en H 0) (en W 0) M0 (by omega) (by omega) (by omega) (by omega) v0.1 v0.2 w0.1 w0.2
  unfold rwP
  rw [m61_2, getA2_t, getL_t, grd_t (by omega), grd_t (by omega), gI_0 (by omega), getL_t, grd_t (by omega), grd_t (by omega), gI_0 (by omega), k1, k2]
  rw [show m61_2_L0 N 0 C 1 (iL H) C (iL W) N 0 0 (en H 0) (en W 0) (flR1 M0 C) = _ from lp, bnd_t]
  rfl
theorem cor19_1 (N C : Nat) (hN : 2000 ≤ N) (hC : C ≤ 4) (c1 : 0 < C) (H W : List Int) (l : Lds 1 C H W) (S : List (Nat × Nat)) (sl : S.length ≤ 100) (hS : S = stp 1 C H W 100 0 0 (en H 0) (en W 0)) : m19_L7 N (iL H) C (iL W) S.length (fl S) N 0 (List.replicate C (.int .i64 0)) = some (iL (row (corF 1 C H W) C 0)) := by
  have r := cl19_1 N hN C hC H W l S sl 100 N 0 0 0 (en H 0) (en W 0) M0 (by omega) (by omega) (by omega) (by omega) (inv0 l (by omega) c1) hS
  simp only [row0] at r
  exact r
theorem tab_2 (N C : Nat) (hC : C ≤ 4) (H W : List Int) (hH : H.length = 2) (hW : W.length = C) : m60 N (.agg [rwP H, rwP W]) = some (.inr (.inl (0, C, C, C, flR2 M0 C))) := by
  have t0 := tN 0 C hC (by omega)
  have t1 := tN 1 C hC (by omega)
  have t2 := tN 2 C hC (by omega)
  have t3 := tN 3 C hC (by omega)
  have w0 : IntKind.i64.wrap (0 * (C : Int)) = 0 := by rw [Int.zero_mul]; rfl
  have w1 : IntKind.i64.wrap (1 * (C : Int)) = C := by rw [Int.one_mul, wrap64 (by omega) (by omega)]
  have w2 : IntKind.i64.wrap (2 * (C : Int)) = 2 * C := by rw [wrap64 (by omega) (by omega)]
  have w3 : IntKind.i64.wrap (3 * (C : Int)) = 3 * C := by rw [wrap64 (by omega) (by omega)]
  have wn : IntKind.i64.wrap (((2 : Nat) : Int) * (C : Int)) = 2 * C := by rw [wrap64 (by omega) (by omega)]; omega
  have e0 : Int.toNat (0 : Int) = 0 := rfl
  have e1 : Int.toNat ((C : Int) - 0) = C := by omega
  have e2 : Int.toNat (2 * (C : Int) - C) = C := by omega
  have e3 : Int.toNat (3 * (C : Int) - 2 * C) = C := by omega
  have f1 : Int.toNat (C : Int) = C := by omega
  have f2 : Int.toNat (2 * (C : Int)) = 2 * C := by omega
  have f3 : Int.toNat (3 * (C : Int)) = 3 * C := by omega
  unfold rwP
  rw [m60, getA2_t, getL_t, getL_t, hH, hW, wn, w0, w1, w2, grd_t ⟨by omega, by omega, by omega⟩, cN_f (by omega), cN_t rfl]
  rw [grd_t ⟨by omega, by omega, by omega⟩, grd_t ⟨by omega, by omega, by omega⟩]
  simp only [e0, e1, e2, f1, f2, f3]
  unfold flR2
  simp only [row0, List.replicate_append_replicate]
  try rfl
  try rw [show 2 * C = C + C by omega]
  try rw [show 3 * C = C + (C + C) by omega]
theorem cor61_2 (N C : Nat) (hN : 2000 ≤ N) (hC : C ≤ 4) (c1 : 0 < C) (H W : List Int) (l : Lds 2 C H W) : m61_3 N (.agg [rwP H, rwP W]) 0 C C C (flR2 M0 C) = some (.tup [], flR2 (corF 2 C H W) C) := by
  have v0 := l.h5 0 (by omega)
  have w0 := l.w5 0 (by omega)
  have k1 := l.hl
  have k2 := l.wl
  have lH := iL_len H
  have lW := iL_len W
  have lp := cl61_2 N C hC H W l 100 N 0 0 (en H 0) (en W 0) M0 (by omega) (by omega) (by omega) (by omega) v0.1 v0.2 w0.1 w0.2
  unfold rwP
  rw [m61_3, getA2_t, getL_t, grd_t (by omega), grd_t (by omega), gI_0 (by omega), getL_t, grd_t (by omega), grd_t (by omega), gI_0 (by omega), k1, k2]
  rw [show m61_3_L0 N 0 C C C 2 (iL H) C (iL W) N 0 0 (en H 0) (en W 0) (flR2 M0 C) = _ from lp, bnd_t]
  rfl
theorem cor19_2 (N C : Nat) (hN : 2000 ≤ N) (hC : C ≤ 4) (c1 : 0 < C) (H W : List Int) (l : Lds 2 C H W) (S : List (Nat × Nat)) (sl : S.length ≤ 100) (hS : S = stp 2 C H W 100 0 0 (en H 0) (en W 0)) : m19_L4 N (iL H) C (iL W) S.length (fl S) N 0 (List.replicate C (.int .i64 0)) (List.replicate C (.int .i64 0)) = some (iL (row (corF 2 C H W) C 0), iL (row (corF 2 C H W) C 1)) := by
  have r := cl19_2 N hN C hC H W l S sl 100 N 0 0 0 (en H 0) (en W 0) M0 (by omega) (by omega) (by omega) (by omega) (inv0 l (by omega) c1) hS
  simp only [row0] at r
  exact r
theorem tab_3 (N C : Nat) (hC : C ≤ 4) (H W : List Int) (hH : H.length = 3) (hW : W.length = C) : m60 N (.agg [rwP H, rwP W]) = some (.inr (.inr (0, C, C, C, 2 * C, C, flR3 M0 C))) := by
  have t0 := tN 0 C hC (by omega)
  have t1 := tN 1 C hC (by omega)
  have t2 := tN 2 C hC (by omega)
  have t3 := tN 3 C hC (by omega)
  have w0 : IntKind.i64.wrap (0 * (C : Int)) = 0 := by rw [Int.zero_mul]; rfl
  have w1 : IntKind.i64.wrap (1 * (C : Int)) = C := by rw [Int.one_mul, wrap64 (by omega) (by omega)]
  have w2 : IntKind.i64.wrap (2 * (C : Int)) = 2 * C := by rw [wrap64 (by omega) (by omega)]
  have w3 : IntKind.i64.wrap (3 * (C : Int)) = 3 * C := by rw [wrap64 (by omega) (by omega)]
  have wn : IntKind.i64.wrap (((3 : Nat) : Int) * (C : Int)) = 3 * C := by rw [wrap64 (by omega) (by omega)]; omega
  have e0 : Int.toNat (0 : Int) = 0 := rfl
  have e1 : Int.toNat ((C : Int) - 0) = C := by omega
  have e2 : Int.toNat (2 * (C : Int) - C) = C := by omega
  have e3 : Int.toNat (3 * (C : Int) - 2 * C) = C := by omega
  have f1 : Int.toNat (C : Int) = C := by omega
  have f2 : Int.toNat (2 * (C : Int)) = 2 * C := by omega
  have f3 : Int.toNat (3 * (C : Int)) = 3 * C := by omega
  unfold rwP
  rw [m60, getA2_t, getL_t, getL_t, hH, hW, wn, w0, w1, w2, w3, grd_t ⟨by omega, by omega, by omega⟩, cN_f (by omega), cN_f (by omega), cN_t rfl]
  rw [grd_t ⟨by omega, by omega, by omega⟩, grd_t ⟨by omega, by omega, by omega⟩, grd_t ⟨by omega, by omega, by omega⟩]
  simp only [e0, e1, e2, e3, f1, f2, f3]
  unfold flR3
  simp only [row0, List.replicate_append_replicate]
  try rfl
  try rw [show 2 * C = C + C by omega]
  try rw [show 3 * C = C + (C + C) by omega]
theorem cor61_3 (N C : Nat) (hN : 2000 ≤ N) (hC : C ≤ 4) (c1 : 0 < C) (H W : List Int) (l : Lds 3 C H W) : m61_4 N (.agg [rwP H, rwP W]) 0 C C C (2 * C) C (flR3 M0 C) = some (.tup [], flR3 (corF 3 C H W) C) := by
  have v0 := l.h5 0 (by omega)
  have w0 := l.w5 0 (by omega)
  have k1 := l.hl
  have k2 := l.wl
  have lH := iL_len H
  have lW := iL_len W
  have lp := cl61_3 N C hC H W l 100 N 0 0 (en H 0) (en W 0) M0 (by omega) (by omega) (by omega) (by omega) v0.1 v0.2 w0.1 w0.2
  unfold rwP
  rw [m61_4, getA2_t, getL_t, grd_t (by omega), grd_t (by omega), gI_0 (by omega), getL_t, grd_t (by omega), grd_t (by omega), gI_0 (by omega), k1, k2]
  rw [show m61_4_L0 N 0 C C C (2 * C) C 3 (iL H) C (iL W) N 0 0 (en H 0) (en W 0) (flR3 M0 C) = _ from lp, bnd_t]
  rfl
theorem cor19_3 (N C : Nat) (hN : 2000 ≤ N) (hC : C ≤ 4) (c1 : 0 < C) (H W : List Int) (l : Lds 3 C H W) (S : List (Nat × Nat)) (sl : S.length ≤ 100) (hS : S = stp 3 C H W 100 0 0 (en H 0) (en W 0)) : m19_L0 N (iL H) C (iL W) S.length (fl S) N 0 (List.replicate C (.int .i64 0)) (List.replicate C (.int .i64 0)) (List.replicate C (.int .i64 0)) = some (iL (row (corF 3 C H W) C 0), iL (row (corF 3 C H W) C 1), iL (row (corF 3 C H W) C 2)) := by
  have r := cl19_3 N hN C hC H W l S sl 100 N 0 0 0 (en H 0) (en W 0) M0 (by omega) (by omega) (by omega) (by omega) (inv0 l (by omega) c1) hS
  simp only [row0] at r
  exact r
theorem flr1 (F : Nat → Nat → Int) (C : Nat) : List.take C (List.drop 0 (flR1 F C)) = iL (row F C 0) := by
  have lr : ∀ a, (iL (row F C a)).length = C := fun a => by rw [iL_len, row_len]
  unfold flR1; rw [List.drop_zero, tk_a (lr 0)]
theorem flr2 (F : Nat → Nat → Int) (C : Nat) : List.take C (List.drop 0 (flR2 F C)) = iL (row F C 0) ∧ List.take C (List.drop C (flR2 F C)) = iL (row F C 1) := by
  have lr : ∀ a, (iL (row F C a)).length = C := fun a => by rw [iL_len, row_len]
  unfold flR2; rw [List.drop_zero, tk_l (lr 0), dr_l (lr 0), tk_a (lr 1)]; exact ⟨rfl, rfl⟩
theorem flr3 (F : Nat → Nat → Int) (C : Nat) : List.take C (List.drop 0 (flR3 F C)) = iL (row F C 0) ∧ List.take C (List.drop C (flR3 F C)) = iL (row F C 1) ∧ List.take C (List.drop (2 * C) (flR3 F C)) = iL (row F C 2) := by
  have lr : ∀ a, (iL (row F C a)).length = C := fun a => by rw [iL_len, row_len]
  unfold flR3; rw [show 2 * C = C + C by omega, ← List.drop_drop, List.drop_zero, tk_l (lr 0), dr_l (lr 0), tk_l (lr 1), dr_l (lr 1), tk_a (lr 2)]; exact ⟨rfl, rfl, rfl⟩
theorem corner_ok (N : Nat) (hN : 2000 ≤ N) (L : List (List Int)) (hL : lgL L = false) (H W : List Int) (hH : H.length ≤ 20) (hW : W.length ≤ 20) :
    m18 N (.lst false L.length (rwsP L)) (.agg [rwP H, rwP W]) = some (corE L H W) ∧ m19 N (.lst false L.length (rwsP L)) (.agg [rwP H, rwP W]) = some (corE L H W) := by
  obtain ⟨ld1, ld2⟩ := loaded_ok N hN L hL H W hH hW
  have q : m19 N (.lst false L.length (rwsP L)) (.agg [rwP H, rwP W]) = m19 N (.lst false L.length (rwsP L)) (.agg [.lst false H.length (iL H), .lst false W.length (iL W)]) := rfl
  have ld3 : m26 N (.lst false L.length (rwsP L)) (.agg [.lst false H.length (iL H), .lst false W.length (iL W)]) = some (.int .i64 (ldE L H W)) := ld2
  rw [q, m18, m19, getL_t, getL_t, getA2_t, getA2_t, getL_t, getL_t, ld1, ld3, bnd_t, bnd_t, getI_t, getI_t]
  unfold corE corL
  by_cases h : ldE L H W = 0
  · obtain ⟨ok, k1, k2, k3, k4⟩ := ldE_zero h
    have l := Lds.mk' h
    have r1 := ok.r1
    have r3 := ok.r3
    have c1 := ok.c1
    have c4 := ok.c4
    obtain ⟨S, sl, hS, e63⟩ := st63 N L.length W.length hN r3 c4 (by omega) (by omega) H W l
    rw [brn_nf h, brn_nf h, if_neg (show ¬ ldE L H W ≠ 0 by simpa using h), h]
    have hc : L.length = 1 ∨ L.length = 2 ∨ L.length = 3 := by omega
    rw [k1]
    rcases hc with e | e | e
    all_goals rw [e] at l e63 hS k1 ⊢
    · have A := tab_1 N W.length c4 H W k1 rfl
      have B := cor61_1 N W.length hN c4 (by omega) H W l
      have D := cor19_1 N W.length hN c4 (by omega) H W l S sl hS
      have T := flr1 (corF 1 W.length H W) W.length
      have lr : ∀ a, (iL (row (corF 1 W.length H W) W.length a)).length = W.length := fun a => by rw [iL_len, row_len]
      rw [A, bnd_t, cN_t rfl, grd_t ⟨by omega, by omega, by omega⟩, e63, bnd_t, getL_t, D, bnd_t]
      simp only []
      rw [B, bnd_t, grd_t (lr 0)]
      constructor
      · show getT0 (.tup []) _ = _
        rw [getT0_t, T]
        unfold corT rwsP rwP
        simp [List.range_succ, row_len]
      · unfold corT rwsP rwP
        simp [List.range_succ, row_len]
    · have A := tab_2 N W.length c4 H W k1 rfl
      have B := cor61_2 N W.length hN c4 (by omega) H W l
      have D := cor19_2 N W.length hN c4 (by omega) H W l S sl hS
      have T := flr2 (corF 2 W.length H W) W.length
      have lr : ∀ a, (iL (row (corF 2 W.length H W) W.length a)).length = W.length := fun a => by rw [iL_len, row_len]
      rw [A, bnd_t, cN_f (by omega), cN_t rfl, grd_t ⟨by omega, by omega, by omega⟩, e63, bnd_t, getL_t, D, bnd_t]
      simp only []
      rw [B, bnd_t, grd_t (lr 0), grd_t (lr 1)]
      constructor
      · show getT0 (.tup []) _ = _
        rw [getT0_t, T.1, T.2]
        unfold corT rwsP rwP
        simp [List.range_succ, row_len]
      · unfold corT rwsP rwP
        simp [List.range_succ, row_len]
    · have A := tab_3 N W.length c4 H W k1 rfl
      have B := cor61_3 N W.length hN c4 (by omega) H W l
      have D := cor19_3 N W.length hN c4 (by omega) H W l S sl hS
      have T := flr3 (corF 3 W.length H W) W.length
      have lr : ∀ a, (iL (row (corF 3 W.length H W) W.length a)).length = W.length := fun a => by rw [iL_len, row_len]
      rw [A, bnd_t, cN_f (by omega), cN_f (by omega), cN_t rfl, grd_t ⟨by omega, by omega, by omega⟩, e63, bnd_t, getL_t, D, bnd_t]
      simp only []
      rw [B, bnd_t, grd_t (lr 0), grd_t (lr 1), grd_t (lr 2)]
      constructor
      · show getT0 (.tup []) _ = _
        rw [getT0_t, T.1, T.2.1, T.2.2]
        unfold corT rwsP rwP
        simp [List.range_succ, row_len]
      · unfold corT rwsP rwP
        simp [List.range_succ, row_len]
  · rw [brn_nt h, brn_nt h, if_pos h]; exact ⟨rfl, rfl⟩
theorem corL_b (L : List (List Int)) (H W : List Int) (hH : H.length ≤ 20) (hW : W.length ≤ 20) : (corL L H W).length ≤ 20 ∧ ∀ r ∈ corL L H W, r.length ≤ 1000 := by
  unfold corL
  by_cases h : ldE L H W = 0
  · obtain ⟨ok, k1, k2, k3, k4⟩ := ldE_zero h
    have r3 := ok.r3
    rw [if_neg (show ¬ ldE L H W ≠ 0 by simpa using h)]
    unfold corT
    refine ⟨by simp; omega, fun r hr => ?_⟩
    obtain ⟨a, _, rfl⟩ := List.mem_map.1 hr
    rw [row_len]; omega
  · rw [if_pos h]
    exact ⟨by simp, by simp⟩
theorem alike_L (N : Nat) (hN : 2000 ≤ N) (T : List (List Int)) (hT : T.length ≤ 20) (hr : ∀ r ∈ T, r.length ≤ 1000) : ∀ (r i fuel : Nat), T.length - i = r → r < fuel → m22_L0 N T.length (rwsP T) T.length (rwsP T) fuel (i : Int) = some (.inr ())
  | r, i, 0, _, h => by omega
  | r, i, f + 1, h1, h2 => by
    have lT := rws_len T
    rw [m22_L0]
    by_cases h : i < T.length
    · have e := isame_ok N hN (ro T i) (hr _ (ro_mem h))
      unfold rwP at e
      rw [brn_dt (by omega)]
      simp (disch := (try simp only [List.length_drop, iL_len, rws_len, toNatN]) <;> omega) only [↓grd_t, ↓gL_n]
      rw [e, bnd_t, getB_t, brn_t rfl, wrapN (by omega)]
      exact alike_L N hN T hT hr (r - 1) (i + 1) f (by omega) (by omega)
    · rw [brn_df (by omega)]
theorem alike_ok (N : Nat) (hN : 2000 ≤ N) (T : List (List Int)) (hT : T.length ≤ 20) (hr : ∀ r ∈ T, r.length ≤ 1000) : m22 N (.lst false T.length (rwsP T)) (.lst false T.length (rwsP T)) = some (.bool true) := by
  rw [m22, getL_t, getL_t, brn_f (by simp), show m22_L0 N T.length (rwsP T) T.length (rwsP T) N 0 = _ from alike_L N hN T hT hr T.length 0 N (by omega) (by omega), bnd_t]
theorem law3 (L : List (List Int)) (H W : List Int) (D : List (List Int)) : m3 2000 (.lst false L.length (rwsP L)) (.agg [rwP H, rwP W]) (.lst false D.length (rwsP D)) = some (.bool true) := by
  have w : ∀ {b : Bool}, (bnd' (m17 2000) fun p => getB p fun b => some (PV.bool b)) = some (.bool true) := rfl
  rw [m3, getL_t, getA2_t, getL_t, large_ok 2000 (by omega) L, bnd_t, getB_t]
  cases hl : lgL L with
  | true => rfl
  | false =>
    rw [brn_f rfl, heavy_ok, bnd_t, getB_t]
    cases hh : hvL H W with
    | true => rfl
    | false =>
      rw [brn_f rfl, large_ok 2000 (by omega) D, bnd_t, getB_t]
      cases hd : lgL D with
      | true => rfl
      | false =>
        rw [brn_f rfl]
        unfold hvL at hh
        simp only [Bool.or_eq_false_iff, decide_eq_false_iff_not] at hh
        obtain ⟨e1, e2⟩ := corner_ok 2000 (by omega) L hl H W (by omega) (by omega)
        obtain ⟨x1, x2⟩ := corL_b L H W (by omega) (by omega)
        have e3 := cost_ok 2000 (by omega) L hl H W (by omega) (by omega) D hd
        have e4 := costr_ok 2000 (by omega) L hl H W (by omega) (by omega) D hd
        obtain ⟨e5, e6⟩ := check_ok 2000 (by omega) L hl
        obtain ⟨e7, e8⟩ := loaded_ok 2000 (by omega) L hl H W (by omega) (by omega)
        have e9 := alike_ok 2000 (by omega) _ x1 x2
        unfold corE at e1 e2
        rw [e1, bnd_t, getT2_t, getL_t, getI_t, e2, bnd_t, getT2_t, getL_t, getI_t, e3, bnd_t, getT2_t, getI_t, getI_t, e4, bnd_t, getT2_t, getI_t, getI_t, e9, bnd_t, getB_t, brn_t rfl, brn_et rfl, brn_et rfl, brn_et rfl, e5, bnd_t, getI_t, e6, bnd_t, getI_t, brn_et rfl, e7, bnd_t, getI_t, e8, bnd_t, getI_t, brn_et rfl]
        rfl
end Go.Proofs.Yteidcinajdehkaa
namespace Go.Proofs.Yteidcinajdehkaa
open Go.V
theorem row_of {x : List PV} (h : PT tab 23 x) : ∃ (y : PV) (r : List Int), x = [y] ∧ PLe y (rwP r) := by
  rcases h.slice' tl23 rfl with h | ⟨xs, h, hx⟩
  · exact ⟨.nl, [], h, .nl false⟩
  · obtain ⟨L, h1, h2, _⟩ := opened (fun p : Int => [PV.int .i64 p]) (fun x => PT tab 3 x) (fun _ => True)
      (fun x hx => by obtain ⟨n, e, _⟩ := hx.int' tl3 rfl; exact ⟨n, e, trivial⟩) xs hx
    refine ⟨_, L, h, ?_⟩
    rw [h2, ← h1]
    have : L.flatMap (fun p : Int => [PV.int .i64 p]) = iL L := by
      clear h1 h2
      induction L with
      | nil => rfl
      | cons a L ih => simpa [iL] using ih
    rw [this]
    exact .refl _
theorem rows_of' : ∀ (xs : List (List PV)), (∀ x ∈ xs, PT tab 23 x) → ∃ L : List (List Int), L.length = xs.length ∧ PLes xs.flatten (rwsP L)
  | [], _ => ⟨[], rfl, .nil⟩
  | x :: xs, h => by
    obtain ⟨L, h1, h2⟩ := rows_of' xs fun y hy => h y (.tail _ hy)
    obtain ⟨y, r, rfl, hr⟩ := row_of (h x (.head _))
    exact ⟨r :: L, by simp [h1], .cons _ _ _ _ hr h2⟩
theorem rows_of {x : PV} (h : PT tab 22 [x]) : ∃ L : List (List Int), PLe x (.lst false L.length (rwsP L)) := by
  rcases h.slice' tl22 rfl with h | ⟨xs, h, hx⟩
  · cases h; exact ⟨[], .nl false⟩
  · cases h
    obtain ⟨L, h1, h2⟩ := rows_of' xs hx
    refine ⟨L, ?_⟩
    rw [h1]
    exact .lst false false _ _ _ (fun h => h) h2
theorem two_of {qs : List PV} (h : PTs tab [(0, 23), (1, 23)] qs) : ∃ H W : List Int, PLes qs [rwP H, rwP W] := by
  obtain ⟨x, rs, rfl, hx, h⟩ := h.cons'
  obtain ⟨y, rs, rfl, hy, h⟩ := h.cons'
  obtain rfl := h.nil'
  obtain ⟨a, H, rfl, hH⟩ := row_of hx
  obtain ⟨b, W, rfl, hW⟩ := row_of hy
  exact ⟨H, W, .cons _ _ _ _ hH (.cons _ _ _ _ hW .nil)⟩
theorem con3 (x0 : PV) (h0 : PT tab 22 [x0]) (x1 : List PV) (h1 : PT tab 25 x1) (x2 : PV) (h2 : PT tab 22 [x2]) : FnP Try.prog 3 [x0, .agg x1, x2] (.bool true) := by
  obtain ⟨L, hL⟩ := rows_of h0
  obtain ⟨H, W, hl⟩ := two_of (h1.structs tl25 rfl)
  obtain ⟨D, hD⟩ := rows_of h2
  exact FnP_le (c3 2000 _ _ _ _ (law3 L H W D)) (.cons _ _ _ _ hL (.cons _ _ _ _ (.agg _ _ hl) (.cons _ _ _ _ hD .nil))) (.refl _)
end Go.Proofs.Yteidcinajdehkaa
namespace Go.Proofs.Yteidcinajdehkaa.dealCorners
open Go.ChangeShapes Go.WideShapes Go.ChangeAt Go.RowKit Go.V
theorem own : ownKnob Try.prog.godebug = none := by kernel_rfl
theorem laid : laidOutB Try.prog = true := by kernel_rfl
set_option maxRecDepth 100000 in
theorem lifted (os : Os) (started : os.Started) (H : Type) (enc : TypeId × Value → H) :
    ReturnsInHanded {} Try.checked os 3 .any (Rows.dealCornersSpec.pre6 enc Try.prog Try.f3 Rows.dealCornersRow.domain false) (Rows.dealCornersSpec.post enc Try.prog Try.f3 false true false false) := by
  refine returnsInHanded_of_change (C := Try.checked) own started (by kernel_rfl) Try.func3
    (ChangeSpec.witness6 (enc := enc) (C := Try.checked) false ⟨#[], #[.slice none 0 0, .agg #[.slice none 0 0, .slice none 0 0], .slice none 0 0], []⟩ 8 (by kernel_rfl) (by kernel_rfl) (by kernel_rfl) (by kernel_rfl)) ?_
  intro W base args ds gs before hval0 hW hcnd _
  have hW' := hW
  obtain ⟨p, q, hA0, hV, rfl, hfz, hnd⟩ := hW
  have hA : DataW.TrodAll enc Try.prog W 0 (fun _ => true) true Try.f3.params.toList args.toList ds p := hA0
  rw [Try.params3] at hA
  obtain ⟨v0, vs0, d0, ds0, p0, q0, e0, rfl, rfl, h0, hr0⟩ := trodAll_cons hA
  obtain ⟨v1, vs1, d1, ds1, p1, q1, e1, rfl, rfl, h1, hr1⟩ := trodAll_cons hr0
  obtain ⟨v2, vs2, d2, ds2, p2, q2, e2, rfl, rfl, h2, hr2⟩ := trodAll_cons hr1
  obtain ⟨rfl, rfl, rfl⟩ := trodAll_nil hr2
  subst e2
  subst e1
  obtain rfl : args = #[v0, v1, v2] := by cases args; simp_all
  obtain ⟨x0, k0, t0⟩ := arg_one (n := 8) tab_ok (hval0 0 22 v0 rfl rfl) h0 (by kernel_rfl) (by kernel_rfl)
  obtain ⟨x1, k1, t1⟩ := arg_agg (n := 8) tab_ok (hval0 1 25 v1 rfl rfl) h1 (by kernel_rfl) (by kernel_rfl)
  obtain ⟨x2, k2, t2⟩ := arg_one (n := 8) tab_ok (hval0 2 22 v2 rfl rfl) h2 (by kernel_rfl) (by kernel_rfl)
  obtain ⟨rfl, rfl⟩ := trodVars_none hV
  clear hA0 hval0
  simp only [List.append_nil] at hW'
  refine (FnP.calls (W := W) (vals := #[v0, v1, v2]) (con3 x0 t0 x1 t1 x2 t2) (.cons _ _ _ _ k0 (.cons _ _ _ _ k1 (.cons _ _ _ _ k2 .nil))) (fun x hx => by simp [Gv] at hx)).mono fun e W' ⟨he, hg⟩ => ?_
  subst he
  exact ⟨_, rfl, post_of_kept (pv := []) hW' (fun _ _ _ => trodAll_cons_mk (shut_bool Try.underlying4 _) trodAll_mk0) (fun sp hsp => trodAll_cons_mk (Kept.trod hg laid (by kernel_rfl) (of_decide_eq_true (by kernel_rfl)) h0 (fun y hy => hsp y (by simp [hy]))) (trodAll_cons_mk (Kept.trod hg laid (by kernel_rfl) (of_decide_eq_true (by kernel_rfl)) h1 (fun y hy => hsp y (by simp [hy]))) (trodAll_cons_mk (Kept.trod hg laid (by kernel_rfl) (of_decide_eq_true (by kernel_rfl)) h2 (fun y hy => hsp y (by simp [hy]))) (trodAll_mk0)))) (fun _ _ => rfl) (by simp)
    hg (ok_one (by kernel_rfl) rfl (okWide_bool_mk Try.underlying4 _))⟩
theorem over : Rows.dealCornersRow.holds Try.pinned (OpenSpec.ofChange Rows.dealCornersSpec) :=
  OpenClaim.holds_of_wide 3 Try.f3 rfl rfl rfl rfl rfl rfl rfl ⟨rfl, rfl, rfl, rfl, rfl⟩ rfl rfl rfl rfl rfl (by kernel_rfl) Try.func3 (by kernel_rfl)
    (of_decide_eq_true (by kernel_rfl)) (by unfold Func.isWrapper; first | (rw [if_pos (by decide +kernel)]; kernel_rfl) | (rw [if_neg (by decide +kernel)]; exact ⟨rfl, rfl⟩))
    (fun os started H enc _ => lifted os started H enc)
end Go.Proofs.Yteidcinajdehkaa.dealCorners
namespace Go.Proofs.Yteidcinajdehkaa
/-- the statement -/
theorem dealCorners_holds : Rows.DealCornersSaid := dealCorners.over
#print axioms dealCorners_holds
end Go.Proofs.Yteidcinajdehkaa
