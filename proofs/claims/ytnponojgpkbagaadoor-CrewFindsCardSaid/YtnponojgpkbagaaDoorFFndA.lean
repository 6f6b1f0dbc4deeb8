/-
  Models and laws.
-/
import Derived.Test.YtnponojgpkbagaaDoorFChkB
import Derived.Test.YtnponojgpkbagaaDoorFWhyA
import Derived.Test.YtnponojgpkbagaaDoorB
import Derived.Test.YtnponojgpkbagaaDoorV35
namespace Go.Proofs.YtnponojgpkbagaaDoor
open Go.V
set_option maxRecDepth 100000
set_option maxHeartbeats 4000000
set_option linter.unusedSimpArgs false
set_option linter.unusedVariables false
attribute [local go_sem] tl1 tl2 tl3 tl4 tl5 tl9 tl17 tl21 tl22 tl23 tl24 tl25 tl26 tl27 tl28 tl29 tl31 tl32 tl34 tl35 tl36 tl37 tl38 tl39 tl40 tl41 tl42 tl43 tl44 tl45 tl47 tl48 tl49 tl50 tl51 tl52 tl53 tl54 tl55 tl56 tl57 tl58 tl59 tl60 tl61 tl62 tl63 tl64 tl65 tl66 tl67 tl68 tl69 tl70 tl71 tl72 tl73 tl74 tl75 tl76 tl77 tl78 tl79 tl80 tl81 tl82 tl83 tl84 tl85 tl86 tl87 tl88 tl89 tl90 tl92 tl94 tl95 tl96 tl97 tl98 tl99 tl100 tl101 tl102 tl103 tl104 tl105 tl106 tl107 tl108 tl109 tl110 tl111 tl112 tl113 tl114 tl115 tl116 tl118 tl119 tl121 tl122 tl123 tl124 tl125 tl126 tl127 tl128 tl129 tl131 tl133 tl134 tl135 tl136 tl142 tl146

def m78 (N : Nat) (p3235 : PV) (b3236 : Bool) : Option ((PV × PV × Bool)) :=
  some ((.bool false), (.lst false 0 []), false)
theorem c78 (N : Nat) (p3235 : PV) (b3236 : Bool) (r : PV) (p3239 : PV) (b3240 : Bool) (h : m78 N p3235 b3236 = some (r, p3239, b3240)) : V.Fn Tryd.prog 78 2 [.v .nl, .ptr 0 0, .ptr 1 0] [(0, .p [p3235]), (1, .p [(.bool b3236)])] (fun d ob' => d = .v r ∧ ob' = [(0, .p [p3239]), (1, .p [(.bool b3240)])]) := by
  unfold m78 at h
  refine Fn_of (sz := 6) tab_ok [0, 1, 2, 4] [.tmp 4] Tryd.func78 rfl rfl rfl (by simp) ?_
  simp only [initSt, initEnv, List.map_cons, List.map_nil, List.getD_cons_zero, List.getD_cons_succ, List.getD_nil]
  refine W_sound tab_ok mixed 16 _ _ _ ?_
  simp -implicitDefEqProofs only [go_sem, ne_eq, not_false_eq_true, Nat.reduceBEq, Nat.reduceAdd, Nat.reduceSub, Nat.reduceMul, Nat.reduceLT, Nat.reduceLeDiff, Int.reduceLE, Int.reduceLT, Int.reduceToNat, Int.reduceBEq, Int.reduceBNe, Int.le_refl, Nat.le_refl, decide_true, decide_false, Int.cast_ofNat_Int, ↓reduceIte]
  repeat with_reducible refine And.intro (by first | kernel_rfl | decide) ?_
  simp only [Option.some.injEq, Prod.mk.injEq] at h; obtain ⟨rfl, rfl, rfl⟩ := h
  exact finD (e2 := [(0, .dead), (1, .dead), (2, .dead), (4, .v (.bool false))]) (ob2 := [(0, .p [(.lst false 0 [])]), (1, .p [(.bool false)])]) (st' := ⟨[], [(0, .dead), (1, .dead), (2, .dead), (4, .v (.bool false))], [(0, .p [(.lst false 0 [])]), (1, .p [(.bool false)])], 2, []⟩) (.cons _ _ _ _ _ (.dead _) (.cons _ _ _ _ _ (.dead _) (.cons _ _ _ _ _ (.dead _) (.cons _ _ _ _ _ (.refl _) .nil)))) (.cons _ _ _ _ _ (DLes.of_p (.cons _ _ _ _ (.nl false) .nil)) (.cons _ _ _ _ _ (DLes.refl _) .nil)) (by kernel_rfl) (by simp only [go_sem, ne_eq, not_false_eq_true, Nat.reduceBEq, Nat.reduceAdd, Nat.reduceSub, Nat.reduceMul, Nat.reduceLT, Nat.reduceLeDiff, Int.reduceLE, Int.reduceLT, Int.reduceToNat, Int.reduceBEq, Int.reduceBNe, Int.le_refl, Nat.le_refl, decide_true, decide_false, Int.cast_ofNat_Int, ↓reduceIte, resQ_tmp, resQ_cell, resQ_nil, retD_one, retD_two, retD_three, retD_none]; try simp [R.val, retD_one, retD_two, retD_three, retD_none])

def m78_2 (N : Nat) (p3308 : PV) (p3309 : PV) (b3310 : Bool) : Option ((PV × PV × Bool)) :=
  getL p3308 fun n3314 c3315 =>
  some ((.bool false), (.lst false n3314 c3315), false)
theorem c78_2 (N : Nat) (p3308 : PV) (p3309 : PV) (b3310 : Bool) (r : PV) (p3317 : PV) (b3318 : Bool) (h : m78_2 N p3308 p3309 b3310 = some (r, p3317, b3318)) : V.Fn Tryd.prog 78 2 [.v p3308, .ptr 0 0, .ptr 1 0] [(0, .p [p3309]), (1, .p [(.bool b3310)])] (fun d ob' => d = .v r ∧ ob' = [(0, .p [p3317]), (1, .p [(.bool b3318)])]) := by
  unfold m78_2 at h
  refine Fn_of (sz := 6) tab_ok [0, 1, 2, 4] [.tmp 4] Tryd.func78 rfl rfl rfl (by simp) ?_
  simp only [initSt, initEnv, List.map_cons, List.map_nil, List.getD_cons_zero, List.getD_cons_succ, List.getD_nil]
  have hh := getL_some h; clear h; obtain ⟨n3314, c3315, h3313, h⟩ := hh
  refine W_sound tab_ok mixed 16 _ _ _ ?_
  simp -implicitDefEqProofs only [go_sem, ne_eq, not_false_eq_true, Nat.reduceBEq, Nat.reduceAdd, Nat.reduceSub, Nat.reduceMul, Nat.reduceLT, Nat.reduceLeDiff, Int.reduceLE, Int.reduceLT, Int.reduceToNat, Int.reduceBEq, Int.reduceBNe, Int.le_refl, Nat.le_refl, decide_true, decide_false, Int.cast_ofNat_Int, ↓reduceIte, h3313]
  repeat with_reducible refine And.intro (by first | kernel_rfl | decide) ?_
  simp only [Option.some.injEq, Prod.mk.injEq] at h; obtain ⟨rfl, rfl, rfl⟩ := h
  exact finD (e2 := [(0, .dead), (1, .dead), (2, .dead), (4, .v (.bool false))]) (ob2 := [(0, .p [(.lst false n3314 c3315)]), (1, .p [(.bool false)])]) (st' := ⟨[], [(0, .dead), (1, .dead), (2, .dead), (4, .v (.bool false))], [(0, .p [(.lst false n3314 c3315)]), (1, .p [(.bool false)])], 2, []⟩) (.cons _ _ _ _ _ (.dead _) (.cons _ _ _ _ _ (.dead _) (.cons _ _ _ _ _ (.dead _) (.cons _ _ _ _ _ (.refl _) .nil)))) (.cons _ _ _ _ _ (DLes.refl _) (.cons _ _ _ _ _ (DLes.refl _) .nil)) (by kernel_rfl) (by simp only [go_sem, ne_eq, not_false_eq_true, Nat.reduceBEq, Nat.reduceAdd, Nat.reduceSub, Nat.reduceMul, Nat.reduceLT, Nat.reduceLeDiff, Int.reduceLE, Int.reduceLT, Int.reduceToNat, Int.reduceBEq, Int.reduceBNe, Int.le_refl, Nat.le_refl, decide_true, decide_false, Int.cast_ofNat_Int, ↓reduceIte, resQ_tmp, resQ_cell, resQ_nil, retD_one, retD_two, retD_three, retD_none]; try simp [R.val, retD_one, retD_two, retD_three, retD_none])

def m99_2_L0 (N : Nat) (rec : PV → PV → PV → PV → Bool → PV → PV → Option ((PV × PV × PV × Bool × PV))) (p3378 : PV) (n3385 : Nat) (c3386 : List PV) (p3388 : PV) (p3389 : PV) (p3390 : PV) (p3391 : PV) (p3392 : PV) (n3415 : Nat) (c3416 : List PV) : Nat → Int → PV → PV → Bool → PV → Option (((PV × PV × PV × Bool × PV) ⊕ (PV × PV × Bool × PV)))
  | 0, _, _, _, _, _ => none
  | n + 1, x3450, p3451, p3452, b3453, p3454 =>
    brn (decide (x3450 < ((n3415 : Nat) : Int))) (
      grd (0 ≤ x3450 ∧ x3450 < ((n3415 : Nat) : Int)) <|
      grd (2 ≤ List.length (List.drop ((Int.toNat x3450) * 2) c3416)) <|
      getA2 (.agg (List.take 2 (List.drop ((Int.toNat x3450) * 2) c3416))) fun p3460 p3461 =>
      bnd' (m71 N (.agg [p3388, p3389, p3390, p3391, p3392]) (.agg [p3460, p3461])) fun p3462 =>
      getB p3462 fun b3465 =>
      brn b3465 (
        m99_2_L0 N rec p3378 n3385 c3386 p3388 p3389 p3390 p3391 p3392 n3415 c3416 n (IntKind.i64.wrap (x3450 + 1)) p3451 p3452 b3453 p3454) (
        grd (((n3385 : Nat) : Int) ≤ ((n3385 : Nat) : Int)) <|
        grd (List.length c3386 = n3385) <|
        grd ((n3385 + 1) ≤ 1099511627776) <|
        bnd' (m98 N (.agg [p3388, p3389, p3390, p3391, p3392]) (.agg [p3460, p3461])) fun p3470 =>
        getA5 p3470 fun p3473 p3474 p3475 p3476 p3477 =>
        bnd' (rec (.lst false (n3385 + 1) (c3386 ++ [(.int .i64 x3450)])) (.agg [p3473, p3474, p3475, p3476, p3477]) p3451 p3452 b3453 p3378 p3454) fun (p3478, p3480, p3481, b3482, p3483) =>
        getB p3478 fun b3485 =>
        brn b3485 (
          m99_2_L0 N rec p3378 n3385 c3386 p3388 p3389 p3390 p3391 p3392 n3415 c3416 n (IntKind.i64.wrap (x3450 + 1)) p3480 p3481 b3482 p3483) (
          some (.inl ((.bool false), p3480, p3481, b3482, p3483))))) (
      some (.inr (p3451, p3452, b3453, p3454)))
def m99_2 (N : Nat) : Nat → PV → PV → PV → PV → Bool → PV → PV → Option ((PV × PV × PV × Bool × PV))
  | 0, _, _, _, _, _, _, _ => none
  | fu + 1, p3373, p3374, p3375, p3376, b3377, p3378, p3379 =>
    getL p3373 fun n3385 c3386 =>
    getA5 p3374 fun p3388 p3389 p3390 p3391 p3392 =>
    getL p3375 fun n3394 c3395 =>
    brn (((n3385 : Nat) : Int) == ((n3394 : Nat) : Int)) (
      bnd' (m78_2 N (.lst false n3385 c3386) p3376 b3377) fun (p3397, p3399, b3400) =>
      getB p3397 fun b3402 =>
      some ((.bool b3402), (.lst false n3394 c3395), p3399, b3400, p3379)) (
      getL p3379 fun n3404 c3405 =>
      grd (0 ≤ ((n3385 : Nat) : Int) ∧ ((n3385 : Nat) : Int) < ((n3394 : Nat) : Int)) <|
      grd (0 < List.length (List.drop n3385 c3395)) <|
      getI .i64 (gp c3395 n3385) fun x3410 =>
      grd (0 ≤ x3410 ∧ x3410 < ((n3404 : Nat) : Int)) <|
      grd (0 < List.length (List.drop (Int.toNat x3410) c3405)) <|
      getL (gp c3405 (Int.toNat x3410)) fun n3415 c3416 =>
      bnd' (m99_2_L0 N (m99_2 N fu) p3378 n3385 c3386 p3388 p3389 p3390 p3391 p3392 n3415 c3416 N 0 (.lst false n3394 c3395) p3376 b3377 (.lst false n3404 c3405)) fun o =>
      match o with
      | .inl p3487 =>
        some p3487
      | .inr (p3488, p3489, b3490, p3491) =>
        some ((.bool true), p3488, p3489, b3490, p3491))
theorem c99_2 (N : Nat) : ∀ (fu : Nat) (p3373 : PV) (p3374 : PV) (p3375 : PV) (p3376 : PV) (b3377 : Bool) (p3378 : PV) (p3379 : PV) (r : PV) (p3496 : PV) (p3497 : PV) (b3498 : Bool) (p3499 : PV) (h : m99_2 N fu p3373 p3374 p3375 p3376 b3377 p3378 p3379 = some (r, p3496, p3497, b3498, p3499)), V.Fn Tryd.prog 99 6 [.v p3373, .v p3374, .ptr 0 0, .ptr 1 0, .ptr 4 0, .ptr 5 0] [(0, .p [p3375]), (1, .r [.fn 78 [.ptr 2 0, .ptr 3 0]]), (2, .p [p3376]), (3, .p [(.bool b3377)]), (4, .p [p3378, p3379]), (5, .r [.fn 99 [.ptr 0 0, .ptr 1 0, .ptr 4 0, .ptr 5 0]])] (fun d ob' => d = .v r ∧ ob' = [(0, .p [p3496]), (1, .r [.fn 78 [.ptr 2 0, .ptr 3 0]]), (2, .p [p3497]), (3, .p [(.bool b3498)]), (4, .p [p3378, p3499]), (5, .r [.fn 99 [.ptr 0 0, .ptr 1 0, .ptr 4 0, .ptr 5 0]])]) := by
  intro fu
  induction fu with
  | zero => intro p3373 p3374 p3375 p3376 b3377 p3378 p3379 r p3496 p3497 b3498 p3499 h; cases h
  | succ fu ih =>
    intro p3373 p3374 p3375 p3376 b3377 p3378 p3379 r p3496 p3497 b3498 p3499 h
    rw [m99_2] at h
    refine Fn_of (sz := 55) tab_ok [0, 1, 2, 3, 4, 5, 7, 8, 9, 10, 11, 17, 28, 29, 30, 31, 53] [.tmp 8] Tryd.func99 rfl rfl rfl (by simp) ?_
    simp only [initSt, initEnv, List.map_cons, List.map_nil, List.getD_cons_zero, List.getD_cons_succ, List.getD_nil]
    have hh := getL_some h; clear h; obtain ⟨n3385, c3386, h3384, h⟩ := hh
    have hh := getA5_some h; clear h; obtain ⟨p3388, p3389, p3390, p3391, p3392, h3387, h⟩ := hh
    have hh := getL_some h; clear h; obtain ⟨n3394, c3395, h3393, h⟩ := hh
    have hh := brn_some h; clear h; rcases hh with ⟨h3396, h⟩ | ⟨h3396, h⟩
    · have hh := bnd'_some h; clear h; obtain ⟨⟨p3397, p3399, b3400⟩, h3398, h⟩ := hh
      (try dsimp only at h)
      refine W_sound tab_ok mixed 24 _ _ _ ?_
      simp -implicitDefEqProofs only [go_sem, ne_eq, not_false_eq_true, Nat.reduceBEq, Nat.reduceAdd, Nat.reduceSub, Nat.reduceMul, Nat.reduceLT, Nat.reduceLeDiff, Int.reduceLE, Int.reduceLT, Int.reduceToNat, Int.reduceBEq, Int.reduceBNe, Int.le_refl, Nat.le_refl, decide_true, decide_false, Int.cast_ofNat_Int, ↓reduceIte, h3384, h3387, h3393, h3396]
      repeat with_reducible refine And.intro (by first | kernel_rfl | decide) ?_
      refine Wp_callD [2, 3] (c78_2 N _ _ _ _ _ _ h3398) rfl rfl rfl (by first | rfl | (simp only [go_sem, ne_eq, not_false_eq_true, Nat.reduceBEq, Nat.reduceAdd, Nat.reduceSub, Nat.reduceMul, Nat.reduceLT, Nat.reduceLeDiff, Int.reduceLE, Int.reduceLT, Int.reduceToNat, Int.reduceBEq, Int.reduceBNe, Int.le_refl, Nat.le_refl, decide_true, decide_false, Int.cast_ofNat_Int, ↓reduceIte, h3384, h3387, h3393, h3396] <;> rfl)) rfl (by kernel_rfl) ?_
      have hh := getB_some h; clear h; obtain ⟨b3402, h3401, h⟩ := hh
      refine W_sound tab_ok mixed 4 _ _ _ ?_
      simp -implicitDefEqProofs only [go_sem, ne_eq, not_false_eq_true, Nat.reduceBEq, Nat.reduceAdd, Nat.reduceSub, Nat.reduceMul, Nat.reduceLT, Nat.reduceLeDiff, Int.reduceLE, Int.reduceLT, Int.reduceToNat, Int.reduceBEq, Int.reduceBNe, Int.le_refl, Nat.le_refl, decide_true, decide_false, Int.cast_ofNat_Int, ↓reduceIte, h3384, h3387, h3393, h3396, h3401]
      repeat with_reducible refine And.intro (by first | kernel_rfl | decide) ?_
      simp only [Option.some.injEq, Prod.mk.injEq] at h; obtain ⟨rfl, rfl, rfl, rfl, rfl⟩ := h
      exact finD (e2 := [(0, .dead), (1, .dead), (2, .dead), (3, .dead), (4, .dead), (5, .dead), (7, .dead), (8, .v (.bool b3402)), (9, .dead), (10, .dead), (11, .dead), (17, .dead), (28, .dead), (29, .dead), (30, .dead), (31, .dead), (53, .dead)]) (ob2 := [(0, .p [(.lst false n3394 c3395)]), (1, .r [.fn 78 [.ptr 2 0, .ptr 3 0]]), (4, .p [p3378, p3379]), (5, .r [.fn 99 [.ptr 0 0, .ptr 1 0, .ptr 4 0, .ptr 5 0]]), (13, .p [p3388, p3389, p3390, p3391, p3392]), (3, .p [(.bool b3400)]), (2, .p [p3399])]) (st' := ⟨[], [(0, .dead), (1, .dead), (2, .dead), (3, .dead), (4, .dead), (5, .dead), (7, .dead), (8, .v (.bool b3402)), (9, .dead), (10, .dead), (11, .dead), (17, .dead), (28, .dead), (29, .dead), (30, .dead), (31, .dead), (53, .dead)], [(0, .p [(.lst false n3394 c3395)]), (1, .r [.fn 78 [.ptr 2 0, .ptr 3 0]]), (2, .p [p3399]), (3, .p [(.bool b3400)]), (4, .p [p3378, p3379]), (5, .r [.fn 99 [.ptr 0 0, .ptr 1 0, .ptr 4 0, .ptr 5 0]])], 6, []⟩) (.cons _ _ _ _ _ (.dead _) (.cons _ _ _ _ _ (.dead _) (.cons _ _ _ _ _ (.dead _) (.cons _ _ _ _ _ (.dead _) (.cons _ _ _ _ _ (.dead _) (.cons _ _ _ _ _ (.dead _) (.cons _ _ _ _ _ (.dead _) (.cons _ _ _ _ _ (.refl _) (.cons _ _ _ _ _ (.dead _) (.cons _ _ _ _ _ (.refl _) (.cons _ _ _ _ _ (.refl _) (.cons _ _ _ _ _ (.dead _) (.cons _ _ _ _ _ (.refl _) (.cons _ _ _ _ _ (.refl _) (.cons _ _ _ _ _ (.refl _) (.cons _ _ _ _ _ (.refl _) (.cons _ _ _ _ _ (.refl _) .nil))))))))))))))))) (.cons _ _ _ _ _ (DLes.refl _) (.cons _ _ _ _ _ (DLes.refl _) (.cons _ _ _ _ _ (DLes.refl _) (.cons _ _ _ _ _ (DLes.refl _) (.cons _ _ _ _ _ (DLes.refl _) (.cons _ _ _ _ _ (DLes.refl _) (.cons _ _ _ _ _ (DLes.refl _) .nil))))))) (by kernel_rfl) (by simp only [go_sem, ne_eq, not_false_eq_true, Nat.reduceBEq, Nat.reduceAdd, Nat.reduceSub, Nat.reduceMul, Nat.reduceLT, Nat.reduceLeDiff, Int.reduceLE, Int.reduceLT, Int.reduceToNat, Int.reduceBEq, Int.reduceBNe, Int.le_refl, Nat.le_refl, decide_true, decide_false, Int.cast_ofNat_Int, ↓reduceIte, resQ_tmp, resQ_cell, resQ_nil, retD_one, retD_two, retD_three, retD_none]; try simp [R.val, retD_one, retD_two, retD_three, retD_none])
    · have hh := getL_some h; clear h; obtain ⟨n3404, c3405, h3403, h⟩ := hh
      have hh := grd_some h; clear h; obtain ⟨⟨g3406, g3407⟩, h⟩ := hh
      have hh := grd_some h; clear h; obtain ⟨g3408, h⟩ := hh
      have hh := getI_some h; clear h; obtain ⟨x3410, h3409, h⟩ := hh
      have hh := grd_some h; clear h; obtain ⟨⟨g3411, g3412⟩, h⟩ := hh
      have hh := grd_some h; clear h; obtain ⟨g3413, h⟩ := hh
      have hh := getL_some h; clear h; obtain ⟨n3415, c3416, h3414, h⟩ := hh
      refine W_sound tab_ok mixed 35 _ _ _ ?_
      simp -implicitDefEqProofs only [go_sem, ne_eq, not_false_eq_true, Nat.reduceBEq, Nat.reduceAdd, Nat.reduceSub, Nat.reduceMul, Nat.reduceLT, Nat.reduceLeDiff, Int.reduceLE, Int.reduceLT, Int.reduceToNat, Int.reduceBEq, Int.reduceBNe, Int.le_refl, Nat.le_refl, decide_true, decide_false, Int.cast_ofNat_Int, ↓reduceIte, h3384, h3387, h3393, h3396, h3403, g3406, g3407, g3408, h3409, g3411, g3412, g3413, h3414]
      repeat with_reducible refine And.intro (by first | kernel_rfl | decide) ?_
      have hh := bnd'_some h; clear h; obtain ⟨o3500, h3501, h3502⟩ := hh
      refine Wp_cut (fun s => ∃ p3488, ∃ p3489, ∃ b3490, ∃ p3491, (.inr (p3488, p3489, b3490, p3491)) = o3500 ∧ s = ⟨[], [(0, .dead), (1, .dead), (2, .dead), (3, .dead), (4, .dead), (5, .dead), (7, .dead), (8, .dead), (9, .dead), (10, .dead), (11, .dead), (17, .dead), (28, .dead), (29, .dead), (30, .dead), (31, .dead), (53, .dead)], [(0, .p [p3488]), (1, .r [.fn 78 [.ptr 2 0, .ptr 3 0]]), (2, .p [p3489]), (3, .p [(.bool b3490)]), (4, .p [p3378, p3491]), (5, .r [.fn 99 [.ptr 0 0, .ptr 1 0, .ptr 4 0, .ptr 5 0]])], 6, []⟩) ?_ ?_
      · refine Wp_block ?_
        refine Wp_loopG (fun n s => ∃ x3450, ∃ p3451, ∃ p3452, ∃ b3453, ∃ p3454, m99_2_L0 N (m99_2 N fu) p3378 n3385 c3386 p3388 p3389 p3390 p3391 p3392 n3415 c3416 n x3450 p3451 p3452 b3453 p3454 = some o3500 ∧ s = ⟨[], [(0, .v (.lst false n3385 c3386)), (1, .dead), (2, .dead), (3, .dead), (4, .dead), (5, .ptr 5 0), (7, .ptr 6 0), (8, .dead), (9, .v (.int .i64 ((n3385 : Nat) : Int))), (10, .dead), (11, .dead), (17, .dead), (28, .v (.lst false n3415 c3416)), (29, .v (.int .i64 ((n3415 : Nat) : Int))), (30, .v (.int .i64 x3450)), (31, .dead), (53, .dead)], [(0, .p [p3451]), (1, .r [.fn 78 [.ptr 2 0, .ptr 3 0]]), (2, .p [p3452]), (3, .p [(.bool b3453)]), (4, .p [p3378, p3454]), (5, .r [.fn 99 [.ptr 0 0, .ptr 1 0, .ptr 4 0, .ptr 5 0]]), (6, .p [p3388, p3389, p3390, p3391, p3392])], 7, []⟩) N _ ((Wk_le (.cons _ _ _ _ _ (.refl _) (.cons _ _ _ _ _ (.dead _) (.cons _ _ _ _ _ (.dead _) (.cons _ _ _ _ _ (.dead _) (.cons _ _ _ _ _ (.dead _) (.cons _ _ _ _ _ (.refl _) (.cons _ _ _ _ _ (.refl _) (.cons _ _ _ _ _ (.dead _) (.cons _ _ _ _ _ (.refl _) (.cons _ _ _ _ _ (.refl _) (.cons _ _ _ _ _ (.refl _) (.cons _ _ _ _ _ (.dead _) (.cons _ _ _ _ _ (.refl _) (.cons _ _ _ _ _ (.refl _) (.cons _ _ _ _ _ (.refl _) (.cons _ _ _ _ _ (.refl _) (.cons _ _ _ _ _ (.refl _) .nil))))))))))))))))) (OLe.refl _)).trans (cmpS_ok (st' := ⟨[], [(0, .v (.lst false n3385 c3386)), (1, .dead), (2, .dead), (3, .dead), (4, .dead), (5, .ptr 5 0), (7, .ptr 6 0), (8, .dead), (9, .v (.int .i64 ((n3385 : Nat) : Int))), (10, .dead), (11, .dead), (17, .dead), (28, .v (.lst false n3415 c3416)), (29, .v (.int .i64 ((n3415 : Nat) : Int))), (30, .v (.int .i64 0)), (31, .dead), (53, .dead)], [(0, .p [(.lst false n3394 c3395)]), (1, .r [.fn 78 [.ptr 2 0, .ptr 3 0]]), (2, .p [p3376]), (3, .p [(.bool b3377)]), (4, .p [p3378, (.lst false n3404 c3405)]), (5, .r [.fn 99 [.ptr 0 0, .ptr 1 0, .ptr 4 0, .ptr 5 0]]), (6, .p [p3388, p3389, p3390, p3391, p3392])], 7, []⟩) (by kernel_rfl))) ⟨_, _, _, _, _, h3501, rfl⟩ ?_
        clear h3501
        rintro n _ ⟨x3450, p3451, p3452, b3453, p3454, h3501, rfl⟩
        cases n with
        | zero => cases h3501
        | succ n =>
          rw [m99_2_L0] at h3501
          have hh := brn_some h3501; clear h3501; rcases hh with ⟨h3455, h3501⟩ | ⟨h3455, h3501⟩
          · have hh := grd_some h3501; clear h3501; obtain ⟨⟨g3456, g3457⟩, h3501⟩ := hh
            have hh := grd_some h3501; clear h3501; obtain ⟨g3458, h3501⟩ := hh
            have hh := getA2_some h3501; clear h3501; obtain ⟨p3460, p3461, h3459, h3501⟩ := hh
            injection h3459 with h3459
            have hh := bnd'_some h3501; clear h3501; obtain ⟨p3462, h3463, h3501⟩ := hh
            refine W_sound tab_ok mixed 22 _ _ _ ?_
            simp -implicitDefEqProofs only [go_sem, ne_eq, not_false_eq_true, Nat.reduceBEq, Nat.reduceAdd, Nat.reduceSub, Nat.reduceMul, Nat.reduceLT, Nat.reduceLeDiff, Int.reduceLE, Int.reduceLT, Int.reduceToNat, Int.reduceBEq, Int.reduceBNe, Int.le_refl, Nat.le_refl, decide_true, decide_false, Int.cast_ofNat_Int, ↓reduceIte, h3384, h3387, h3393, h3396, h3403, g3406, g3407, g3408, h3409, g3411, g3412, g3413, h3414, h3455, g3456, g3457, g3458, h3459]
            repeat with_reducible refine And.intro (by first | kernel_rfl | decide) ?_
            refine Wp_callP (c71 N _ _ _ h3463) (by kernel_rfl) rfl rfl rfl rfl (by decide) ?_
            have hh := getB_some h3501; clear h3501; obtain ⟨b3465, h3464, h3501⟩ := hh
            have hh := brn_some h3501; clear h3501; rcases hh with ⟨h3466, h3501⟩ | ⟨h3466, h3501⟩
            · refine W_sound tab_ok mixed 24 _ _ _ ?_
              simp -implicitDefEqProofs only [go_sem, ne_eq, not_false_eq_true, Nat.reduceBEq, Nat.reduceAdd, Nat.reduceSub, Nat.reduceMul, Nat.reduceLT, Nat.reduceLeDiff, Int.reduceLE, Int.reduceLT, Int.reduceToNat, Int.reduceBEq, Int.reduceBNe, Int.le_refl, Nat.le_refl, decide_true, decide_false, Int.cast_ofNat_Int, ↓reduceIte, h3384, h3387, h3393, h3396, h3403, g3406, g3407, g3408, h3409, g3411, g3412, g3413, h3414, h3455, g3456, g3457, g3458, h3459, h3464, h3466]
              repeat with_reducible refine And.intro (by first | kernel_rfl | decide) ?_
              exact cutQ _ ((Wk_le (.cons _ _ _ _ _ (.refl _) (.cons _ _ _ _ _ (.refl _) (.cons _ _ _ _ _ (.refl _) (.cons _ _ _ _ _ (.refl _) (.cons _ _ _ _ _ (.refl _) (.cons _ _ _ _ _ (.refl _) (.cons _ _ _ _ _ (.refl _) (.cons _ _ _ _ _ (.refl _) (.cons _ _ _ _ _ (.refl _) (.cons _ _ _ _ _ (.dead _) (.cons _ _ _ _ _ (.dead _) (.cons _ _ _ _ _ (.refl _) (.cons _ _ _ _ _ (.refl _) (.cons _ _ _ _ _ (.refl _) (.cons _ _ _ _ _ (.refl _) (.cons _ _ _ _ _ (.dead _) (.cons _ _ _ _ _ (.dead _) .nil))))))))))))))))) (OLe.refl _)).trans (cmpS_ok (st' := ⟨[], [(0, .v (.lst false n3385 c3386)), (1, .dead), (2, .dead), (3, .dead), (4, .dead), (5, .ptr 5 0), (7, .ptr 6 0), (8, .dead), (9, .v (.int .i64 ((n3385 : Nat) : Int))), (10, .dead), (11, .dead), (17, .dead), (28, .v (.lst false n3415 c3416)), (29, .v (.int .i64 ((n3415 : Nat) : Int))), (30, .v (.int .i64 (IntKind.i64.wrap (x3450 + 1)))), (31, .dead), (53, .dead)], [(0, .p [p3451]), (1, .r [.fn 78 [.ptr 2 0, .ptr 3 0]]), (2, .p [p3452]), (3, .p [(.bool b3453)]), (4, .p [p3378, p3454]), (5, .r [.fn 99 [.ptr 0 0, .ptr 1 0, .ptr 4 0, .ptr 5 0]]), (6, .p [p3388, p3389, p3390, p3391, p3392])], 7, []⟩) (by kernel_rfl))) ⟨n, Nat.lt_succ_self n, _, _, _, _, _, h3501, rfl⟩
            · have hh := grd_some h3501; clear h3501; obtain ⟨g3467, h3501⟩ := hh
              have hh := grd_some h3501; clear h3501; obtain ⟨g3468, h3501⟩ := hh
              have hh := grd_some h3501; clear h3501; obtain ⟨g3469, h3501⟩ := hh
              have hh := bnd'_some h3501; clear h3501; obtain ⟨p3470, h3471, h3501⟩ := hh
              refine W_sound tab_ok mixed 12 _ _ _ ?_
              simp -implicitDefEqProofs only [go_sem, ne_eq, not_false_eq_true, Nat.reduceBEq, Nat.reduceAdd, Nat.reduceSub, Nat.reduceMul, Nat.reduceLT, Nat.reduceLeDiff, Int.reduceLE, Int.reduceLT, Int.reduceToNat, Int.reduceBEq, Int.reduceBNe, Int.le_refl, Nat.le_refl, decide_true, decide_false, Int.cast_ofNat_Int, ↓reduceIte, h3384, h3387, h3393, h3396, h3403, g3406, g3407, g3408, h3409, g3411, g3412, g3413, h3414, h3455, g3456, g3457, g3458, h3459, h3464, h3466, g3467, g3468, g3469]
              repeat with_reducible refine And.intro (by first | kernel_rfl | decide) ?_
              refine Wp_callP (c98 N _ _ _ h3471) (by kernel_rfl) rfl rfl rfl rfl (by decide) ?_
              have hh := getA5_some h3501; clear h3501; obtain ⟨p3473, p3474, p3475, p3476, p3477, h3472, h3501⟩ := hh
              have hh := bnd'_some h3501; clear h3501; obtain ⟨⟨p3478, p3480, p3481, b3482, p3483⟩, h3479, h3501⟩ := hh
              (try dsimp only at h3501)
              (try simp -implicitDefEqProofs only [go_sem, ne_eq, not_false_eq_true, Nat.reduceBEq, Nat.reduceAdd, Nat.reduceSub, Nat.reduceMul, Nat.reduceLT, Nat.reduceLeDiff, Int.reduceLE, Int.reduceLT, Int.reduceToNat, Int.reduceBEq, Int.reduceBNe, Int.le_refl, Nat.le_refl, decide_true, decide_false, Int.cast_ofNat_Int, ↓reduceIte, h3384, h3387, h3393, h3396, h3403, g3406, g3407, g3408, h3409, g3411, g3412, g3413, h3414, h3455, g3456, g3457, g3458, h3459, h3464, h3466, g3467, g3468, g3469, h3472])
              refine Wp_callDF [(66, (c3386 ++ [(.int .i64 x3450)]))] [0, 1, 2, 3, 4, 5] (ih _ _ _ _ _ _ _ _ _ _ _ _ h3479) rfl rfl rfl (by first | rfl | (simp only [go_sem, ne_eq, not_false_eq_true, Nat.reduceBEq, Nat.reduceAdd, Nat.reduceSub, Nat.reduceMul, Nat.reduceLT, Nat.reduceLeDiff, Int.reduceLE, Int.reduceLT, Int.reduceToNat, Int.reduceBEq, Int.reduceBNe, Int.le_refl, Nat.le_refl, decide_true, decide_false, Int.cast_ofNat_Int, ↓reduceIte, h3384, h3387, h3393, h3396, h3403, g3406, g3407, g3408, h3409, g3411, g3412, g3413, h3414, h3455, g3456, g3457, g3458, h3459, h3464, h3466, g3467, g3468, g3469, h3472] <;> rfl)) rfl (by kernel_rfl) rfl rfl (by simp [roF, obL]) ?_
              have hh := getB_some h3501; clear h3501; obtain ⟨b3485, h3484, h3501⟩ := hh
              have hh := brn_some h3501; clear h3501; rcases hh with ⟨h3486, h3501⟩ | ⟨h3486, h3501⟩
              · refine W_sound tab_ok mixed 10 _ _ _ ?_
                simp -implicitDefEqProofs only [go_sem, ne_eq, not_false_eq_true, Nat.reduceBEq, Nat.reduceAdd, Nat.reduceSub, Nat.reduceMul, Nat.reduceLT, Nat.reduceLeDiff, Int.reduceLE, Int.reduceLT, Int.reduceToNat, Int.reduceBEq, Int.reduceBNe, Int.le_refl, Nat.le_refl, decide_true, decide_false, Int.cast_ofNat_Int, ↓reduceIte, h3384, h3387, h3393, h3396, h3403, g3406, g3407, g3408, h3409, g3411, g3412, g3413, h3414, h3455, g3456, g3457, g3458, h3459, h3464, h3466, g3467, g3468, g3469, h3472, h3484, h3486]
                repeat with_reducible refine And.intro (by first | kernel_rfl | decide) ?_
                exact cutQ _ ((Wk_le (.cons _ _ _ _ _ (.refl _) (.cons _ _ _ _ _ (.refl _) (.cons _ _ _ _ _ (.refl _) (.cons _ _ _ _ _ (.refl _) (.cons _ _ _ _ _ (.refl _) (.cons _ _ _ _ _ (.refl _) (.cons _ _ _ _ _ (.refl _) (.cons _ _ _ _ _ (.refl _) (.cons _ _ _ _ _ (.refl _) (.cons _ _ _ _ _ (.dead _) (.cons _ _ _ _ _ (.dead _) (.cons _ _ _ _ _ (.refl _) (.cons _ _ _ _ _ (.refl _) (.cons _ _ _ _ _ (.refl _) (.cons _ _ _ _ _ (.refl _) (.cons _ _ _ _ _ (.dead _) (.cons _ _ _ _ _ (.dead _) .nil))))))))))))))))) (OLe.refl _)).trans (cmpS_ok (st' := ⟨[], [(0, .v (.lst false n3385 c3386)), (1, .dead), (2, .dead), (3, .dead), (4, .dead), (5, .ptr 5 0), (7, .ptr 6 0), (8, .dead), (9, .v (.int .i64 ((n3385 : Nat) : Int))), (10, .dead), (11, .dead), (17, .dead), (28, .v (.lst false n3415 c3416)), (29, .v (.int .i64 ((n3415 : Nat) : Int))), (30, .v (.int .i64 (IntKind.i64.wrap (x3450 + 1)))), (31, .dead), (53, .dead)], [(0, .p [p3480]), (1, .r [.fn 78 [.ptr 2 0, .ptr 3 0]]), (2, .p [p3481]), (3, .p [(.bool b3482)]), (4, .p [p3378, p3483]), (5, .r [.fn 99 [.ptr 0 0, .ptr 1 0, .ptr 4 0, .ptr 5 0]]), (6, .p [p3388, p3389, p3390, p3391, p3392])], 7, []⟩) (by kernel_rfl))) ⟨n, Nat.lt_succ_self n, _, _, _, _, _, h3501, rfl⟩
              · refine W_sound tab_ok mixed 10 _ _ _ ?_
                simp -implicitDefEqProofs only [go_sem, ne_eq, not_false_eq_true, Nat.reduceBEq, Nat.reduceAdd, Nat.reduceSub, Nat.reduceMul, Nat.reduceLT, Nat.reduceLeDiff, Int.reduceLE, Int.reduceLT, Int.reduceToNat, Int.reduceBEq, Int.reduceBNe, Int.le_refl, Nat.le_refl, decide_true, decide_false, Int.cast_ofNat_Int, ↓reduceIte, h3384, h3387, h3393, h3396, h3403, g3406, g3407, g3408, h3409, g3411, g3412, g3413, h3414, h3455, g3456, g3457, g3458, h3459, h3464, h3466, g3467, g3468, g3469, h3472, h3484, h3486]
                repeat with_reducible refine And.intro (by first | kernel_rfl | decide) ?_
                obtain rfl := Option.some.inj h3501
                (try dsimp only at h3502)
                simp only [Option.some.injEq, Prod.mk.injEq] at h3502; obtain ⟨rfl, rfl, rfl, rfl, rfl⟩ := h3502
                exact finD (e2 := [(0, .dead), (1, .dead), (2, .dead), (3, .dead), (4, .dead), (5, .dead), (7, .dead), (8, .v (.bool false)), (9, .dead), (10, .dead), (11, .dead), (17, .dead), (28, .dead), (29, .dead), (30, .dead), (31, .dead), (53, .dead)]) (ob2 := [(6, .p [p3388, p3389, p3390, p3391, p3392]), (18, .p [p3460, p3461]), (65, .p [(.int .i64 x3450)]), (5, .r [.fn 99 [.ptr 0 0, .ptr 1 0, .ptr 4 0, .ptr 5 0]]), (4, .p [p3378, p3483]), (3, .p [(.bool b3482)]), (2, .p [p3481]), (1, .r [.fn 78 [.ptr 2 0, .ptr 3 0]]), (0, .p [p3480])]) (st' := ⟨[], [(0, .dead), (1, .dead), (2, .dead), (3, .dead), (4, .dead), (5, .dead), (7, .dead), (8, .v (.bool false)), (9, .dead), (10, .dead), (11, .dead), (17, .dead), (28, .dead), (29, .dead), (30, .dead), (31, .dead), (53, .dead)], [(0, .p [p3480]), (1, .r [.fn 78 [.ptr 2 0, .ptr 3 0]]), (2, .p [p3481]), (3, .p [(.bool b3482)]), (4, .p [p3378, p3483]), (5, .r [.fn 99 [.ptr 0 0, .ptr 1 0, .ptr 4 0, .ptr 5 0]])], 6, []⟩) (.cons _ _ _ _ _ (.dead _) (.cons _ _ _ _ _ (.refl _) (.cons _ _ _ _ _ (.refl _) (.cons _ _ _ _ _ (.refl _) (.cons _ _ _ _ _ (.refl _) (.cons _ _ _ _ _ (.dead _) (.cons _ _ _ _ _ (.dead _) (.cons _ _ _ _ _ (.refl _) (.cons _ _ _ _ _ (.dead _) (.cons _ _ _ _ _ (.dead _) (.cons _ _ _ _ _ (.dead _) (.cons _ _ _ _ _ (.refl _) (.cons _ _ _ _ _ (.dead _) (.cons _ _ _ _ _ (.dead _) (.cons _ _ _ _ _ (.dead _) (.cons _ _ _ _ _ (.dead _) (.cons _ _ _ _ _ (.dead _) .nil))))))))))))))))) (.cons _ _ _ _ _ (DLes.refl _) (.cons _ _ _ _ _ (DLes.refl _) (.cons _ _ _ _ _ (DLes.refl _) (.cons _ _ _ _ _ (DLes.refl _) (.cons _ _ _ _ _ (DLes.refl _) (.cons _ _ _ _ _ (DLes.refl _) (.cons _ _ _ _ _ (DLes.refl _) (.cons _ _ _ _ _ (DLes.refl _) (.cons _ _ _ _ _ (DLes.refl _) .nil))))))))) (by kernel_rfl) (by simp only [go_sem, ne_eq, not_false_eq_true, Nat.reduceBEq, Nat.reduceAdd, Nat.reduceSub, Nat.reduceMul, Nat.reduceLT, Nat.reduceLeDiff, Int.reduceLE, Int.reduceLT, Int.reduceToNat, Int.reduceBEq, Int.reduceBNe, Int.le_refl, Nat.le_refl, decide_true, decide_false, Int.cast_ofNat_Int, ↓reduceIte, resQ_tmp, resQ_cell, resQ_nil, retD_one, retD_two, retD_three, retD_none]; try simp [R.val, retD_one, retD_two, retD_three, retD_none])
          · refine W_sound tab_ok mixed 7 _ _ _ ?_
            simp -implicitDefEqProofs only [go_sem, ne_eq, not_false_eq_true, Nat.reduceBEq, Nat.reduceAdd, Nat.reduceSub, Nat.reduceMul, Nat.reduceLT, Nat.reduceLeDiff, Int.reduceLE, Int.reduceLT, Int.reduceToNat, Int.reduceBEq, Int.reduceBNe, Int.le_refl, Nat.le_refl, decide_true, decide_false, Int.cast_ofNat_Int, ↓reduceIte, h3384, h3387, h3393, h3396, h3403, g3406, g3407, g3408, h3409, g3411, g3412, g3413, h3414, h3455]
            repeat with_reducible refine And.intro (by first | kernel_rfl | decide) ?_
            obtain rfl := Option.some.inj h3501
            exact cutQ _ ((Wk_le (.cons _ _ _ _ _ (.dead _) (.cons _ _ _ _ _ (.refl _) (.cons _ _ _ _ _ (.refl _) (.cons _ _ _ _ _ (.refl _) (.cons _ _ _ _ _ (.refl _) (.cons _ _ _ _ _ (.dead _) (.cons _ _ _ _ _ (.dead _) (.cons _ _ _ _ _ (.refl _) (.cons _ _ _ _ _ (.dead _) (.cons _ _ _ _ _ (.refl _) (.cons _ _ _ _ _ (.refl _) (.cons _ _ _ _ _ (.refl _) (.cons _ _ _ _ _ (.dead _) (.cons _ _ _ _ _ (.dead _) (.cons _ _ _ _ _ (.dead _) (.cons _ _ _ _ _ (.dead _) (.cons _ _ _ _ _ (.refl _) .nil))))))))))))))))) (OLe.refl _)).trans (cmpS_ok (st' := ⟨[], [(0, .dead), (1, .dead), (2, .dead), (3, .dead), (4, .dead), (5, .dead), (7, .dead), (8, .dead), (9, .dead), (10, .dead), (11, .dead), (17, .dead), (28, .dead), (29, .dead), (30, .dead), (31, .dead), (53, .dead)], [(0, .p [p3451]), (1, .r [.fn 78 [.ptr 2 0, .ptr 3 0]]), (2, .p [p3452]), (3, .p [(.bool b3453)]), (4, .p [p3378, p3454]), (5, .r [.fn 99 [.ptr 0 0, .ptr 1 0, .ptr 4 0, .ptr 5 0]])], 6, []⟩) (by kernel_rfl))) ⟨_, _, _, _, rfl, rfl⟩
      · rintro _ ⟨p3488, p3489, b3490, p3491, rfl, rfl⟩
        (try dsimp only at h3502)
        refine W_sound tab_ok mixed 6 _ _ _ ?_
        simp -implicitDefEqProofs only [go_sem, ne_eq, not_false_eq_true, Nat.reduceBEq, Nat.reduceAdd, Nat.reduceSub, Nat.reduceMul, Nat.reduceLT, Nat.reduceLeDiff, Int.reduceLE, Int.reduceLT, Int.reduceToNat, Int.reduceBEq, Int.reduceBNe, Int.le_refl, Nat.le_refl, decide_true, decide_false, Int.cast_ofNat_Int, ↓reduceIte, h3384, h3387, h3393, h3396, h3403, g3406, g3407, g3408, h3409, g3411, g3412, g3413, h3414]
        repeat with_reducible refine And.intro (by first | kernel_rfl | decide) ?_
        simp only [Option.some.injEq, Prod.mk.injEq] at h3502; obtain ⟨rfl, rfl, rfl, rfl, rfl⟩ := h3502
        exact finD (e2 := [(0, .dead), (1, .dead), (2, .dead), (3, .dead), (4, .dead), (5, .dead), (7, .dead), (8, .v (.bool true)), (9, .dead), (10, .dead), (11, .dead), (17, .dead), (28, .dead), (29, .dead), (30, .dead), (31, .dead), (53, .dead)]) (ob2 := [(0, .p [p3488]), (1, .r [.fn 78 [.ptr 2 0, .ptr 3 0]]), (2, .p [p3489]), (3, .p [(.bool b3490)]), (4, .p [p3378, p3491]), (5, .r [.fn 99 [.ptr 0 0, .ptr 1 0, .ptr 4 0, .ptr 5 0]])]) (st' := ⟨[], [(0, .dead), (1, .dead), (2, .dead), (3, .dead), (4, .dead), (5, .dead), (7, .dead), (8, .v (.bool true)), (9, .dead), (10, .dead), (11, .dead), (17, .dead), (28, .dead), (29, .dead), (30, .dead), (31, .dead), (53, .dead)], [(0, .p [p3488]), (1, .r [.fn 78 [.ptr 2 0, .ptr 3 0]]), (2, .p [p3489]), (3, .p [(.bool b3490)]), (4, .p [p3378, p3491]), (5, .r [.fn 99 [.ptr 0 0, .ptr 1 0, .ptr 4 0, .ptr 5 0]])], 6, []⟩) (.cons _ _ _ _ _ (.refl _) (.cons _ _ _ _ _ (.refl _) (.cons _ _ _ _ _ (.refl _) (.cons _ _ _ _ _ (.refl _) (.cons _ _ _ _ _ (.refl _) (.cons _ _ _ _ _ (.refl _) (.cons _ _ _ _ _ (.refl _) (.cons _ _ _ _ _ (.refl _) (.cons _ _ _ _ _ (.refl _) (.cons _ _ _ _ _ (.refl _) (.cons _ _ _ _ _ (.refl _) (.cons _ _ _ _ _ (.refl _) (.cons _ _ _ _ _ (.refl _) (.cons _ _ _ _ _ (.refl _) (.cons _ _ _ _ _ (.refl _) (.cons _ _ _ _ _ (.refl _) (.cons _ _ _ _ _ (.refl _) .nil))))))))))))))))) (.cons _ _ _ _ _ (DLes.refl _) (.cons _ _ _ _ _ (DLes.refl _) (.cons _ _ _ _ _ (DLes.refl _) (.cons _ _ _ _ _ (DLes.refl _) (.cons _ _ _ _ _ (DLes.refl _) (.cons _ _ _ _ _ (DLes.refl _) .nil)))))) (by kernel_rfl) (by simp only [go_sem, ne_eq, not_false_eq_true, Nat.reduceBEq, Nat.reduceAdd, Nat.reduceSub, Nat.reduceMul, Nat.reduceLT, Nat.reduceLeDiff, Int.reduceLE, Int.reduceLT, Int.reduceToNat, Int.reduceBEq, Int.reduceBNe, Int.le_refl, Nat.le_refl, decide_true, decide_false, Int.cast_ofNat_Int, ↓reduceIte, resQ_tmp, resQ_cell, resQ_nil, retD_one, retD_two, retD_three, retD_none]; try simp [R.val, retD_one, retD_two, retD_three, retD_none])

def m99_L0 (N : Nat) (p3559 : PV) (p3566 : PV) (p3567 : PV) (p3568 : PV) (p3569 : PV) (p3570 : PV) (n3592 : Nat) (c3593 : List PV) : Nat → Int → PV → PV → Bool → PV → Option (((PV × PV × PV × Bool × PV) ⊕ (PV × PV × Bool × PV)))
  | 0, _, _, _, _, _ => none
  | n + 1, x3624, p3625, p3626, b3627, p3628 =>
    brn (decide (x3624 < ((n3592 : Nat) : Int))) (
      grd (0 ≤ x3624 ∧ x3624 < ((n3592 : Nat) : Int)) <|
      grd (2 ≤ List.length (List.drop ((Int.toNat x3624) * 2) c3593)) <|
      getA2 (.agg (List.take 2 (List.drop ((Int.toNat x3624) * 2) c3593))) fun p3634 p3635 =>
      bnd' (m71 N (.agg [p3566, p3567, p3568, p3569, p3570]) (.agg [p3634, p3635])) fun p3636 =>
      getB p3636 fun b3639 =>
      brn b3639 (
        m99_L0 N p3559 p3566 p3567 p3568 p3569 p3570 n3592 c3593 n (IntKind.i64.wrap (x3624 + 1)) p3625 p3626 b3627 p3628) (
        bnd' (m98 N (.agg [p3566, p3567, p3568, p3569, p3570]) (.agg [p3634, p3635])) fun p3641 =>
        getA5 p3641 fun p3644 p3645 p3646 p3647 p3648 =>
        bnd' (m99_2 N N (.lst false 1 [(.int .i64 x3624)]) (.agg [p3644, p3645, p3646, p3647, p3648]) p3625 p3626 b3627 p3559 p3628) fun (p3649, p3651, p3652, b3653, p3654) =>
        getB p3649 fun b3656 =>
        brn b3656 (
          m99_L0 N p3559 p3566 p3567 p3568 p3569 p3570 n3592 c3593 n (IntKind.i64.wrap (x3624 + 1)) p3651 p3652 b3653 p3654) (
          some (.inl ((.bool false), p3651, p3652, b3653, p3654))))) (
      some (.inr (p3625, p3626, b3627, p3628)))
def m99 (N : Nat) (p3555 : PV) (p3556 : PV) (p3557 : PV) (b3558 : Bool) (p3559 : PV) (p3560 : PV) : Option ((PV × PV × PV × Bool × PV)) :=
  getA5 p3555 fun p3566 p3567 p3568 p3569 p3570 =>
  getL p3556 fun n3572 c3573 =>
  brn (0 == ((n3572 : Nat) : Int)) (
    bnd' (m78 N p3557 b3558) fun (p3575, p3577, b3578) =>
    getB p3575 fun b3580 =>
    some ((.bool b3580), (.lst false n3572 c3573), p3577, b3578, p3560)) (
    getL p3560 fun n3582 c3583 =>
    grd (0 < ((n3572 : Nat) : Int)) <|
    grd (0 < List.length c3573) <|
    getI .i64 (gp c3573 0) fun x3587 =>
    grd (0 ≤ x3587 ∧ x3587 < ((n3582 : Nat) : Int)) <|
    grd (0 < List.length (List.drop (Int.toNat x3587) c3583)) <|
    getL (gp c3583 (Int.toNat x3587)) fun n3592 c3593 =>
    bnd' (m99_L0 N p3559 p3566 p3567 p3568 p3569 p3570 n3592 c3593 N 0 (.lst false n3572 c3573) p3557 b3558 (.lst false n3582 c3583)) fun o =>
    match o with
    | .inl p3658 =>
      some p3658
    | .inr (p3659, p3660, b3661, p3662) =>
      some ((.bool true), p3659, p3660, b3661, p3662))
theorem c99 (N : Nat) (p3555 : PV) (p3556 : PV) (p3557 : PV) (b3558 : Bool) (p3559 : PV) (p3560 : PV) (r : PV) (p3667 : PV) (p3668 : PV) (b3669 : Bool) (p3670 : PV) (h : m99 N p3555 p3556 p3557 b3558 p3559 p3560 = some (r, p3667, p3668, b3669, p3670)) : V.Fn Tryd.prog 99 6 [.v .nl, .v p3555, .ptr 0 0, .ptr 1 0, .ptr 4 0, .ptr 5 0] [(0, .p [p3556]), (1, .r [.fn 78 [.ptr 2 0, .ptr 3 0]]), (2, .p [p3557]), (3, .p [(.bool b3558)]), (4, .p [p3559, p3560]), (5, .r [.fn 99 [.ptr 0 0, .ptr 1 0, .ptr 4 0, .ptr 5 0]])] (fun d ob' => d = .v r ∧ ob' = [(0, .p [p3667]), (1, .r [.fn 78 [.ptr 2 0, .ptr 3 0]]), (2, .p [p3668]), (3, .p [(.bool b3669)]), (4, .p [p3559, p3670]), (5, .r [.fn 99 [.ptr 0 0, .ptr 1 0, .ptr 4 0, .ptr 5 0]])]) := by
  unfold m99 at h
  refine Fn_of (sz := 55) tab_ok [0, 1, 2, 3, 4, 5, 7, 8, 9, 10, 11, 17, 28, 29, 30, 31, 53] [.tmp 8] Tryd.func99 rfl rfl rfl (by simp) ?_
  simp only [initSt, initEnv, List.map_cons, List.map_nil, List.getD_cons_zero, List.getD_cons_succ, List.getD_nil]
  have hh := getA5_some h; clear h; obtain ⟨p3566, p3567, p3568, p3569, p3570, h3565, h⟩ := hh
  have hh := getL_some h; clear h; obtain ⟨n3572, c3573, h3571, h⟩ := hh
  have hh := brn_some h; clear h; rcases hh with ⟨h3574, h⟩ | ⟨h3574, h⟩
  · have hh := bnd'_some h; clear h; obtain ⟨⟨p3575, p3577, b3578⟩, h3576, h⟩ := hh
    (try dsimp only at h)
    refine W_sound tab_ok mixed 24 _ _ _ ?_
    simp -implicitDefEqProofs only [go_sem, ne_eq, not_false_eq_true, Nat.reduceBEq, Nat.reduceAdd, Nat.reduceSub, Nat.reduceMul, Nat.reduceLT, Nat.reduceLeDiff, Int.reduceLE, Int.reduceLT, Int.reduceToNat, Int.reduceBEq, Int.reduceBNe, Int.le_refl, Nat.le_refl, decide_true, decide_false, Int.cast_ofNat_Int, ↓reduceIte, h3565, h3571, h3574]
    repeat with_reducible refine And.intro (by first | kernel_rfl | decide) ?_
    refine Wp_callD [2, 3] (c78 N _ _ _ _ _ h3576) rfl rfl rfl (by first | rfl | (simp only [go_sem, ne_eq, not_false_eq_true, Nat.reduceBEq, Nat.reduceAdd, Nat.reduceSub, Nat.reduceMul, Nat.reduceLT, Nat.reduceLeDiff, Int.reduceLE, Int.reduceLT, Int.reduceToNat, Int.reduceBEq, Int.reduceBNe, Int.le_refl, Nat.le_refl, decide_true, decide_false, Int.cast_ofNat_Int, ↓reduceIte, h3565, h3571, h3574] <;> rfl)) rfl (by kernel_rfl) ?_
    have hh := getB_some h; clear h; obtain ⟨b3580, h3579, h⟩ := hh
    refine W_sound tab_ok mixed 4 _ _ _ ?_
    simp -implicitDefEqProofs only [go_sem, ne_eq, not_false_eq_true, Nat.reduceBEq, Nat.reduceAdd, Nat.reduceSub, Nat.reduceMul, Nat.reduceLT, Nat.reduceLeDiff, Int.reduceLE, Int.reduceLT, Int.reduceToNat, Int.reduceBEq, Int.reduceBNe, Int.le_refl, Nat.le_refl, decide_true, decide_false, Int.cast_ofNat_Int, ↓reduceIte, h3565, h3571, h3574, h3579]
    repeat with_reducible refine And.intro (by first | kernel_rfl | decide) ?_
    simp only [Option.some.injEq, Prod.mk.injEq] at h; obtain ⟨rfl, rfl, rfl, rfl, rfl⟩ := h
    exact finD (e2 := [(0, .dead), (1, .dead), (2, .dead), (3, .dead), (4, .dead), (5, .dead), (7, .dead), (8, .v (.bool b3580)), (9, .dead), (10, .dead), (11, .dead), (17, .dead), (28, .dead), (29, .dead), (30, .dead), (31, .dead), (53, .dead)]) (ob2 := [(0, .p [(.lst false n3572 c3573)]), (1, .r [.fn 78 [.ptr 2 0, .ptr 3 0]]), (4, .p [p3559, p3560]), (5, .r [.fn 99 [.ptr 0 0, .ptr 1 0, .ptr 4 0, .ptr 5 0]]), (13, .p [p3566, p3567, p3568, p3569, p3570]), (3, .p [(.bool b3578)]), (2, .p [p3577])]) (st' := ⟨[], [(0, .dead), (1, .dead), (2, .dead), (3, .dead), (4, .dead), (5, .dead), (7, .dead), (8, .v (.bool b3580)), (9, .dead), (10, .dead), (11, .dead), (17, .dead), (28, .dead), (29, .dead), (30, .dead), (31, .dead), (53, .dead)], [(0, .p [(.lst false n3572 c3573)]), (1, .r [.fn 78 [.ptr 2 0, .ptr 3 0]]), (2, .p [p3577]), (3, .p [(.bool b3578)]), (4, .p [p3559, p3560]), (5, .r [.fn 99 [.ptr 0 0, .ptr 1 0, .ptr 4 0, .ptr 5 0]])], 6, []⟩) (.cons _ _ _ _ _ (.dead _) (.cons _ _ _ _ _ (.dead _) (.cons _ _ _ _ _ (.dead _) (.cons _ _ _ _ _ (.dead _) (.cons _ _ _ _ _ (.dead _) (.cons _ _ _ _ _ (.dead _) (.cons _ _ _ _ _ (.dead _) (.cons _ _ _ _ _ (.refl _) (.cons _ _ _ _ _ (.dead _) (.cons _ _ _ _ _ (.refl _) (.cons _ _ _ _ _ (.refl _) (.cons _ _ _ _ _ (.dead _) (.cons _ _ _ _ _ (.refl _) (.cons _ _ _ _ _ (.refl _) (.cons _ _ _ _ _ (.refl _) (.cons _ _ _ _ _ (.refl _) (.cons _ _ _ _ _ (.refl _) .nil))))))))))))))))) (.cons _ _ _ _ _ (DLes.refl _) (.cons _ _ _ _ _ (DLes.refl _) (.cons _ _ _ _ _ (DLes.refl _) (.cons _ _ _ _ _ (DLes.refl _) (.cons _ _ _ _ _ (DLes.refl _) (.cons _ _ _ _ _ (DLes.refl _) (.cons _ _ _ _ _ (DLes.refl _) .nil))))))) (by kernel_rfl) (by simp only [go_sem, ne_eq, not_false_eq_true, Nat.reduceBEq, Nat.reduceAdd, Nat.reduceSub, Nat.reduceMul, Nat.reduceLT, Nat.reduceLeDiff, Int.reduceLE, Int.reduceLT, Int.reduceToNat, Int.reduceBEq, Int.reduceBNe, Int.le_refl, Nat.le_refl, decide_true, decide_false, Int.cast_ofNat_Int, ↓reduceIte, resQ_tmp, resQ_cell, resQ_nil, retD_one, retD_two, retD_three, retD_none]; try simp [R.val, retD_one, retD_two, retD_three, retD_none])
  · have hh := getL_some h; clear h; obtain ⟨n3582, c3583, h3581, h⟩ := hh
    have hh := grd_some h; clear h; obtain ⟨g3584, h⟩ := hh
    have hh := grd_some h; clear h; obtain ⟨g3585, h⟩ := hh
    have hh := getI_some h; clear h; obtain ⟨x3587, h3586, h⟩ := hh
    have hh := grd_some h; clear h; obtain ⟨⟨g3588, g3589⟩, h⟩ := hh
    have hh := grd_some h; clear h; obtain ⟨g3590, h⟩ := hh
    have hh := getL_some h; clear h; obtain ⟨n3592, c3593, h3591, h⟩ := hh
    refine W_sound tab_ok mixed 35 _ _ _ ?_
    simp -implicitDefEqProofs only [go_sem, ne_eq, not_false_eq_true, Nat.reduceBEq, Nat.reduceAdd, Nat.reduceSub, Nat.reduceMul, Nat.reduceLT, Nat.reduceLeDiff, Int.reduceLE, Int.reduceLT, Int.reduceToNat, Int.reduceBEq, Int.reduceBNe, Int.le_refl, Nat.le_refl, decide_true, decide_false, Int.cast_ofNat_Int, ↓reduceIte, h3565, h3571, h3574, h3581, g3584, g3585, h3586, g3588, g3589, g3590, h3591]
    repeat with_reducible refine And.intro (by first | kernel_rfl | decide) ?_
    have hh := bnd'_some h; clear h; obtain ⟨o3671, h3672, h3673⟩ := hh
    refine Wp_cut (fun s => ∃ p3659, ∃ p3660, ∃ b3661, ∃ p3662, (.inr (p3659, p3660, b3661, p3662)) = o3671 ∧ s = ⟨[], [(0, .dead), (1, .dead), (2, .dead), (3, .dead), (4, .dead), (5, .dead), (7, .dead), (8, .dead), (9, .dead), (10, .dead), (11, .dead), (17, .dead), (28, .dead), (29, .dead), (30, .dead), (31, .dead), (53, .dead)], [(0, .p [p3659]), (1, .r [.fn 78 [.ptr 2 0, .ptr 3 0]]), (2, .p [p3660]), (3, .p [(.bool b3661)]), (4, .p [p3559, p3662]), (5, .r [.fn 99 [.ptr 0 0, .ptr 1 0, .ptr 4 0, .ptr 5 0]])], 6, []⟩) ?_ ?_
    · refine Wp_block ?_
      refine Wp_loopG (fun n s => ∃ x3624, ∃ p3625, ∃ p3626, ∃ b3627, ∃ p3628, m99_L0 N p3559 p3566 p3567 p3568 p3569 p3570 n3592 c3593 n x3624 p3625 p3626 b3627 p3628 = some o3671 ∧ s = ⟨[], [(0, .v .nl), (1, .dead), (2, .dead), (3, .dead), (4, .dead), (5, .ptr 5 0), (7, .ptr 6 0), (8, .dead), (9, .v (.int .i64 0)), (10, .dead), (11, .dead), (17, .dead), (28, .v (.lst false n3592 c3593)), (29, .v (.int .i64 ((n3592 : Nat) : Int))), (30, .v (.int .i64 x3624)), (31, .dead), (53, .dead)], [(0, .p [p3625]), (1, .r [.fn 78 [.ptr 2 0, .ptr 3 0]]), (2, .p [p3626]), (3, .p [(.bool b3627)]), (4, .p [p3559, p3628]), (5, .r [.fn 99 [.ptr 0 0, .ptr 1 0, .ptr 4 0, .ptr 5 0]]), (6, .p [p3566, p3567, p3568, p3569, p3570])], 7, []⟩) N _ ((Wk_le (.cons _ _ _ _ _ (.refl _) (.cons _ _ _ _ _ (.dead _) (.cons _ _ _ _ _ (.dead _) (.cons _ _ _ _ _ (.dead _) (.cons _ _ _ _ _ (.dead _) (.cons _ _ _ _ _ (.refl _) (.cons _ _ _ _ _ (.refl _) (.cons _ _ _ _ _ (.dead _) (.cons _ _ _ _ _ (.refl _) (.cons _ _ _ _ _ (.refl _) (.cons _ _ _ _ _ (.refl _) (.cons _ _ _ _ _ (.dead _) (.cons _ _ _ _ _ (.refl _) (.cons _ _ _ _ _ (.refl _) (.cons _ _ _ _ _ (.refl _) (.cons _ _ _ _ _ (.refl _) (.cons _ _ _ _ _ (.refl _) .nil))))))))))))))))) (OLe.refl _)).trans (cmpS_ok (st' := ⟨[], [(0, .v .nl), (1, .dead), (2, .dead), (3, .dead), (4, .dead), (5, .ptr 5 0), (7, .ptr 6 0), (8, .dead), (9, .v (.int .i64 0)), (10, .dead), (11, .dead), (17, .dead), (28, .v (.lst false n3592 c3593)), (29, .v (.int .i64 ((n3592 : Nat) : Int))), (30, .v (.int .i64 0)), (31, .dead), (53, .dead)], [(0, .p [(.lst false n3572 c3573)]), (1, .r [.fn 78 [.ptr 2 0, .ptr 3 0]]), (2, .p [p3557]), (3, .p [(.bool b3558)]), (4, .p [p3559, (.lst false n3582 c3583)]), (5, .r [.fn 99 [.ptr 0 0, .ptr 1 0, .ptr 4 0, .ptr 5 0]]), (6, .p [p3566, p3567, p3568, p3569, p3570])], 7, []⟩) (by kernel_rfl))) ⟨_, _, _, _, _, h3672, rfl⟩ ?_
      clear h3672
      rintro n _ ⟨x3624, p3625, p3626, b3627, p3628, h3672, rfl⟩
      cases n with
      | zero => cases h3672
      | succ n =>
        rw [m99_L0] at h3672
        have hh := brn_some h3672; clear h3672; rcases hh with ⟨h3629, h3672⟩ | ⟨h3629, h3672⟩
        · have hh := grd_some h3672; clear h3672; obtain ⟨⟨g3630, g3631⟩, h3672⟩ := hh
          have hh := grd_some h3672; clear h3672; obtain ⟨g3632, h3672⟩ := hh
          have hh := getA2_some h3672; clear h3672; obtain ⟨p3634, p3635, h3633, h3672⟩ := hh
          injection h3633 with h3633
          have hh := bnd'_some h3672; clear h3672; obtain ⟨p3636, h3637, h3672⟩ := hh
          refine W_sound tab_ok mixed 22 _ _ _ ?_
          simp -implicitDefEqProofs only [go_sem, ne_eq, not_false_eq_true, Nat.reduceBEq, Nat.reduceAdd, Nat.reduceSub, Nat.reduceMul, Nat.reduceLT, Nat.reduceLeDiff, Int.reduceLE, Int.reduceLT, Int.reduceToNat, Int.reduceBEq, Int.reduceBNe, Int.le_refl, Nat.le_refl, decide_true, decide_false, Int.cast_ofNat_Int, ↓reduceIte, h3565, h3571, h3574, h3581, g3584, g3585, h3586, g3588, g3589, g3590, h3591, h3629, g3630, g3631, g3632, h3633]
          repeat with_reducible refine And.intro (by first | kernel_rfl | decide) ?_
          refine Wp_callP (c71 N _ _ _ h3637) (by kernel_rfl) rfl rfl rfl rfl (by decide) ?_
          have hh := getB_some h3672; clear h3672; obtain ⟨b3639, h3638, h3672⟩ := hh
          have hh := brn_some h3672; clear h3672; rcases hh with ⟨h3640, h3672⟩ | ⟨h3640, h3672⟩
          · refine W_sound tab_ok mixed 24 _ _ _ ?_
            simp -implicitDefEqProofs only [go_sem, ne_eq, not_false_eq_true, Nat.reduceBEq, Nat.reduceAdd, Nat.reduceSub, Nat.reduceMul, Nat.reduceLT, Nat.reduceLeDiff, Int.reduceLE, Int.reduceLT, Int.reduceToNat, Int.reduceBEq, Int.reduceBNe, Int.le_refl, Nat.le_refl, decide_true, decide_false, Int.cast_ofNat_Int, ↓reduceIte, h3565, h3571, h3574, h3581, g3584, g3585, h3586, g3588, g3589, g3590, h3591, h3629, g3630, g3631, g3632, h3633, h3638, h3640]
            repeat with_reducible refine And.intro (by first | kernel_rfl | decide) ?_
            exact cutQ _ ((Wk_le (.cons _ _ _ _ _ (.refl _) (.cons _ _ _ _ _ (.refl _) (.cons _ _ _ _ _ (.refl _) (.cons _ _ _ _ _ (.refl _) (.cons _ _ _ _ _ (.refl _) (.cons _ _ _ _ _ (.refl _) (.cons _ _ _ _ _ (.refl _) (.cons _ _ _ _ _ (.refl _) (.cons _ _ _ _ _ (.refl _) (.cons _ _ _ _ _ (.dead _) (.cons _ _ _ _ _ (.dead _) (.cons _ _ _ _ _ (.refl _) (.cons _ _ _ _ _ (.refl _) (.cons _ _ _ _ _ (.refl _) (.cons _ _ _ _ _ (.refl _) (.cons _ _ _ _ _ (.dead _) (.cons _ _ _ _ _ (.dead _) .nil))))))))))))))))) (OLe.refl _)).trans (cmpS_ok (st' := ⟨[], [(0, .v .nl), (1, .dead), (2, .dead), (3, .dead), (4, .dead), (5, .ptr 5 0), (7, .ptr 6 0), (8, .dead), (9, .v (.int .i64 0)), (10, .dead), (11, .dead), (17, .dead), (28, .v (.lst false n3592 c3593)), (29, .v (.int .i64 ((n3592 : Nat) : Int))), (30, .v (.int .i64 (IntKind.i64.wrap (x3624 + 1)))), (31, .dead), (53, .dead)], [(0, .p [p3625]), (1, .r [.fn 78 [.ptr 2 0, .ptr 3 0]]), (2, .p [p3626]), (3, .p [(.bool b3627)]), (4, .p [p3559, p3628]), (5, .r [.fn 99 [.ptr 0 0, .ptr 1 0, .ptr 4 0, .ptr 5 0]]), (6, .p [p3566, p3567, p3568, p3569, p3570])], 7, []⟩) (by kernel_rfl))) ⟨n, Nat.lt_succ_self n, _, _, _, _, _, h3672, rfl⟩
          · have hh := bnd'_some h3672; clear h3672; obtain ⟨p3641, h3642, h3672⟩ := hh
            refine W_sound tab_ok mixed 12 _ _ _ ?_
            simp -implicitDefEqProofs only [go_sem, ne_eq, not_false_eq_true, Nat.reduceBEq, Nat.reduceAdd, Nat.reduceSub, Nat.reduceMul, Nat.reduceLT, Nat.reduceLeDiff, Int.reduceLE, Int.reduceLT, Int.reduceToNat, Int.reduceBEq, Int.reduceBNe, Int.le_refl, Nat.le_refl, decide_true, decide_false, Int.cast_ofNat_Int, ↓reduceIte, h3565, h3571, h3574, h3581, g3584, g3585, h3586, g3588, g3589, g3590, h3591, h3629, g3630, g3631, g3632, h3633, h3638, h3640]
            repeat with_reducible refine And.intro (by first | kernel_rfl | decide) ?_
            refine Wp_callP (c98 N _ _ _ h3642) (by kernel_rfl) rfl rfl rfl rfl (by decide) ?_
            have hh := getA5_some h3672; clear h3672; obtain ⟨p3644, p3645, p3646, p3647, p3648, h3643, h3672⟩ := hh
            have hh := bnd'_some h3672; clear h3672; obtain ⟨⟨p3649, p3651, p3652, b3653, p3654⟩, h3650, h3672⟩ := hh
            (try dsimp only at h3672)
            (try simp -implicitDefEqProofs only [go_sem, ne_eq, not_false_eq_true, Nat.reduceBEq, Nat.reduceAdd, Nat.reduceSub, Nat.reduceMul, Nat.reduceLT, Nat.reduceLeDiff, Int.reduceLE, Int.reduceLT, Int.reduceToNat, Int.reduceBEq, Int.reduceBNe, Int.le_refl, Nat.le_refl, decide_true, decide_false, Int.cast_ofNat_Int, ↓reduceIte, h3565, h3571, h3574, h3581, g3584, g3585, h3586, g3588, g3589, g3590, h3591, h3629, g3630, g3631, g3632, h3633, h3638, h3640, h3643])
            refine Wp_callDF [(66, [(.int .i64 x3624)])] [0, 1, 2, 3, 4, 5] (c99_2 N N _ _ _ _ _ _ _ _ _ _ _ _ h3650) rfl rfl rfl (by first | rfl | (simp only [go_sem, ne_eq, not_false_eq_true, Nat.reduceBEq, Nat.reduceAdd, Nat.reduceSub, Nat.reduceMul, Nat.reduceLT, Nat.reduceLeDiff, Int.reduceLE, Int.reduceLT, Int.reduceToNat, Int.reduceBEq, Int.reduceBNe, Int.le_refl, Nat.le_refl, decide_true, decide_false, Int.cast_ofNat_Int, ↓reduceIte, h3565, h3571, h3574, h3581, g3584, g3585, h3586, g3588, g3589, g3590, h3591, h3629, g3630, g3631, g3632, h3633, h3638, h3640, h3643] <;> rfl)) rfl (by kernel_rfl) rfl rfl (by simp [roF, obL]) ?_
            have hh := getB_some h3672; clear h3672; obtain ⟨b3656, h3655, h3672⟩ := hh
            have hh := brn_some h3672; clear h3672; rcases hh with ⟨h3657, h3672⟩ | ⟨h3657, h3672⟩
            · refine W_sound tab_ok mixed 10 _ _ _ ?_
              simp -implicitDefEqProofs only [go_sem, ne_eq, not_false_eq_true, Nat.reduceBEq, Nat.reduceAdd, Nat.reduceSub, Nat.reduceMul, Nat.reduceLT, Nat.reduceLeDiff, Int.reduceLE, Int.reduceLT, Int.reduceToNat, Int.reduceBEq, Int.reduceBNe, Int.le_refl, Nat.le_refl, decide_true, decide_false, Int.cast_ofNat_Int, ↓reduceIte, h3565, h3571, h3574, h3581, g3584, g3585, h3586, g3588, g3589, g3590, h3591, h3629, g3630, g3631, g3632, h3633, h3638, h3640, h3643, h3655, h3657]
              repeat with_reducible refine And.intro (by first | kernel_rfl | decide) ?_
              exact cutQ _ ((Wk_le (.cons _ _ _ _ _ (.refl _) (.cons _ _ _ _ _ (.refl _) (.cons _ _ _ _ _ (.refl _) (.cons _ _ _ _ _ (.refl _) (.cons _ _ _ _ _ (.refl _) (.cons _ _ _ _ _ (.refl _) (.cons _ _ _ _ _ (.refl _) (.cons _ _ _ _ _ (.refl _) (.cons _ _ _ _ _ (.refl _) (.cons _ _ _ _ _ (.dead _) (.cons _ _ _ _ _ (.dead _) (.cons _ _ _ _ _ (.refl _) (.cons _ _ _ _ _ (.refl _) (.cons _ _ _ _ _ (.refl _) (.cons _ _ _ _ _ (.refl _) (.cons _ _ _ _ _ (.dead _) (.cons _ _ _ _ _ (.dead _) .nil))))))))))))))))) (OLe.refl _)).trans (cmpS_ok (st' := ⟨[], [(0, .v .nl), (1, .dead), (2, .dead), (3, .dead), (4, .dead), (5, .ptr 5 0), (7, .ptr 6 0), (8, .dead), (9, .v (.int .i64 0)), (10, .dead), (11, .dead), (17, .dead), (28, .v (.lst false n3592 c3593)), (29, .v (.int .i64 ((n3592 : Nat) : Int))), (30, .v (.int .i64 (IntKind.i64.wrap (x3624 + 1)))), (31, .dead), (53, .dead)], [(0, .p [p3651]), (1, .r [.fn 78 [.ptr 2 0, .ptr 3 0]]), (2, .p [p3652]), (3, .p [(.bool b3653)]), (4, .p [p3559, p3654]), (5, .r [.fn 99 [.ptr 0 0, .ptr 1 0, .ptr 4 0, .ptr 5 0]]), (6, .p [p3566, p3567, p3568, p3569, p3570])], 7, []⟩) (by kernel_rfl))) ⟨n, Nat.lt_succ_self n, _, _, _, _, _, h3672, rfl⟩
            · refine W_sound tab_ok mixed 10 _ _ _ ?_
              simp -implicitDefEqProofs only [go_sem, ne_eq, not_false_eq_true, Nat.reduceBEq, Nat.reduceAdd, Nat.reduceSub, Nat.reduceMul, Nat.reduceLT, Nat.reduceLeDiff, Int.reduceLE, Int.reduceLT, Int.reduceToNat, Int.reduceBEq, Int.reduceBNe, Int.le_refl, Nat.le_refl, decide_true, decide_false, Int.cast_ofNat_Int, ↓reduceIte, h3565, h3571, h3574, h3581, g3584, g3585, h3586, g3588, g3589, g3590, h3591, h3629, g3630, g3631, g3632, h3633, h3638, h3640, h3643, h3655, h3657]
              repeat with_reducible refine And.intro (by first | kernel_rfl | decide) ?_
              obtain rfl := Option.some.inj h3672
              (try dsimp only at h3673)
              simp only [Option.some.injEq, Prod.mk.injEq] at h3673; obtain ⟨rfl, rfl, rfl, rfl, rfl⟩ := h3673
              exact finD (e2 := [(0, .dead), (1, .dead), (2, .dead), (3, .dead), (4, .dead), (5, .dead), (7, .dead), (8, .v (.bool false)), (9, .dead), (10, .dead), (11, .dead), (17, .dead), (28, .dead), (29, .dead), (30, .dead), (31, .dead), (53, .dead)]) (ob2 := [(6, .p [p3566, p3567, p3568, p3569, p3570]), (18, .p [p3634, p3635]), (65, .p [(.int .i64 x3624)]), (5, .r [.fn 99 [.ptr 0 0, .ptr 1 0, .ptr 4 0, .ptr 5 0]]), (4, .p [p3559, p3654]), (3, .p [(.bool b3653)]), (2, .p [p3652]), (1, .r [.fn 78 [.ptr 2 0, .ptr 3 0]]), (0, .p [p3651])]) (st' := ⟨[], [(0, .dead), (1, .dead), (2, .dead), (3, .dead), (4, .dead), (5, .dead), (7, .dead), (8, .v (.bool false)), (9, .dead), (10, .dead), (11, .dead), (17, .dead), (28, .dead), (29, .dead), (30, .dead), (31, .dead), (53, .dead)], [(0, .p [p3651]), (1, .r [.fn 78 [.ptr 2 0, .ptr 3 0]]), (2, .p [p3652]), (3, .p [(.bool b3653)]), (4, .p [p3559, p3654]), (5, .r [.fn 99 [.ptr 0 0, .ptr 1 0, .ptr 4 0, .ptr 5 0]])], 6, []⟩) (.cons _ _ _ _ _ (.dead _) (.cons _ _ _ _ _ (.refl _) (.cons _ _ _ _ _ (.refl _) (.cons _ _ _ _ _ (.refl _) (.cons _ _ _ _ _ (.refl _) (.cons _ _ _ _ _ (.dead _) (.cons _ _ _ _ _ (.dead _) (.cons _ _ _ _ _ (.refl _) (.cons _ _ _ _ _ (.dead _) (.cons _ _ _ _ _ (.dead _) (.cons _ _ _ _ _ (.dead _) (.cons _ _ _ _ _ (.refl _) (.cons _ _ _ _ _ (.dead _) (.cons _ _ _ _ _ (.dead _) (.cons _ _ _ _ _ (.dead _) (.cons _ _ _ _ _ (.dead _) (.cons _ _ _ _ _ (.dead _) .nil))))))))))))))))) (.cons _ _ _ _ _ (DLes.refl _) (.cons _ _ _ _ _ (DLes.refl _) (.cons _ _ _ _ _ (DLes.refl _) (.cons _ _ _ _ _ (DLes.refl _) (.cons _ _ _ _ _ (DLes.refl _) (.cons _ _ _ _ _ (DLes.refl _) (.cons _ _ _ _ _ (DLes.refl _) (.cons _ _ _ _ _ (DLes.refl _) (.cons _ _ _ _ _ (DLes.refl _) .nil))))))))) (by kernel_rfl) (by simp only [go_sem, ne_eq, not_false_eq_true, Nat.reduceBEq, Nat.reduceAdd, Nat.reduceSub, Nat.reduceMul, Nat.reduceLT, Nat.reduceLeDiff, Int.reduceLE, Int.reduceLT, Int.reduceToNat, Int.reduceBEq, Int.reduceBNe, Int.le_refl, Nat.le_refl, decide_true, decide_false, Int.cast_ofNat_Int, ↓reduceIte, resQ_tmp, resQ_cell, resQ_nil, retD_one, retD_two, retD_three, retD_none]; try simp [R.val, retD_one, retD_two, retD_three, retD_none])
        · refine W_sound tab_ok mixed 7 _ _ _ ?_
          simp -implicitDefEqProofs only [go_sem, ne_eq, not_false_eq_true, Nat.reduceBEq, Nat.reduceAdd, Nat.reduceSub, Nat.reduceMul, Nat.reduceLT, Nat.reduceLeDiff, Int.reduceLE, Int.reduceLT, Int.reduceToNat, Int.reduceBEq, Int.reduceBNe, Int.le_refl, Nat.le_refl, decide_true, decide_false, Int.cast_ofNat_Int, ↓reduceIte, h3565, h3571, h3574, h3581, g3584, g3585, h3586, g3588, g3589, g3590, h3591, h3629]
          repeat with_reducible refine And.intro (by first | kernel_rfl | decide) ?_
          obtain rfl := Option.some.inj h3672
          exact cutQ _ ((Wk_le (.cons _ _ _ _ _ (.dead _) (.cons _ _ _ _ _ (.refl _) (.cons _ _ _ _ _ (.refl _) (.cons _ _ _ _ _ (.refl _) (.cons _ _ _ _ _ (.refl _) (.cons _ _ _ _ _ (.dead _) (.cons _ _ _ _ _ (.dead _) (.cons _ _ _ _ _ (.refl _) (.cons _ _ _ _ _ (.dead _) (.cons _ _ _ _ _ (.refl _) (.cons _ _ _ _ _ (.refl _) (.cons _ _ _ _ _ (.refl _) (.cons _ _ _ _ _ (.dead _) (.cons _ _ _ _ _ (.dead _) (.cons _ _ _ _ _ (.dead _) (.cons _ _ _ _ _ (.dead _) (.cons _ _ _ _ _ (.refl _) .nil))))))))))))))))) (OLe.refl _)).trans (cmpS_ok (st' := ⟨[], [(0, .dead), (1, .dead), (2, .dead), (3, .dead), (4, .dead), (5, .dead), (7, .dead), (8, .dead), (9, .dead), (10, .dead), (11, .dead), (17, .dead), (28, .dead), (29, .dead), (30, .dead), (31, .dead), (53, .dead)], [(0, .p [p3625]), (1, .r [.fn 78 [.ptr 2 0, .ptr 3 0]]), (2, .p [p3626]), (3, .p [(.bool b3627)]), (4, .p [p3559, p3628]), (5, .r [.fn 99 [.ptr 0 0, .ptr 1 0, .ptr 4 0, .ptr 5 0]])], 6, []⟩) (by kernel_rfl))) ⟨_, _, _, _, rfl, rfl⟩
    · rintro _ ⟨p3659, p3660, b3661, p3662, rfl, rfl⟩
      (try dsimp only at h3673)
      refine W_sound tab_ok mixed 6 _ _ _ ?_
      simp -implicitDefEqProofs only [go_sem, ne_eq, not_false_eq_true, Nat.reduceBEq, Nat.reduceAdd, Nat.reduceSub, Nat.reduceMul, Nat.reduceLT, Nat.reduceLeDiff, Int.reduceLE, Int.reduceLT, Int.reduceToNat, Int.reduceBEq, Int.reduceBNe, Int.le_refl, Nat.le_refl, decide_true, decide_false, Int.cast_ofNat_Int, ↓reduceIte, h3565, h3571, h3574, h3581, g3584, g3585, h3586, g3588, g3589, g3590, h3591]
      repeat with_reducible refine And.intro (by first | kernel_rfl | decide) ?_
      simp only [Option.some.injEq, Prod.mk.injEq] at h3673; obtain ⟨rfl, rfl, rfl, rfl, rfl⟩ := h3673
      exact finD (e2 := [(0, .dead), (1, .dead), (2, .dead), (3, .dead), (4, .dead), (5, .dead), (7, .dead), (8, .v (.bool true)), (9, .dead), (10, .dead), (11, .dead), (17, .dead), (28, .dead), (29, .dead), (30, .dead), (31, .dead), (53, .dead)]) (ob2 := [(0, .p [p3659]), (1, .r [.fn 78 [.ptr 2 0, .ptr 3 0]]), (2, .p [p3660]), (3, .p [(.bool b3661)]), (4, .p [p3559, p3662]), (5, .r [.fn 99 [.ptr 0 0, .ptr 1 0, .ptr 4 0, .ptr 5 0]])]) (st' := ⟨[], [(0, .dead), (1, .dead), (2, .dead), (3, .dead), (4, .dead), (5, .dead), (7, .dead), (8, .v (.bool true)), (9, .dead), (10, .dead), (11, .dead), (17, .dead), (28, .dead), (29, .dead), (30, .dead), (31, .dead), (53, .dead)], [(0, .p [p3659]), (1, .r [.fn 78 [.ptr 2 0, .ptr 3 0]]), (2, .p [p3660]), (3, .p [(.bool b3661)]), (4, .p [p3559, p3662]), (5, .r [.fn 99 [.ptr 0 0, .ptr 1 0, .ptr 4 0, .ptr 5 0]])], 6, []⟩) (.cons _ _ _ _ _ (.refl _) (.cons _ _ _ _ _ (.refl _) (.cons _ _ _ _ _ (.refl _) (.cons _ _ _ _ _ (.refl _) (.cons _ _ _ _ _ (.refl _) (.cons _ _ _ _ _ (.refl _) (.cons _ _ _ _ _ (.refl _) (.cons _ _ _ _ _ (.refl _) (.cons _ _ _ _ _ (.refl _) (.cons _ _ _ _ _ (.refl _) (.cons _ _ _ _ _ (.refl _) (.cons _ _ _ _ _ (.refl _) (.cons _ _ _ _ _ (.refl _) (.cons _ _ _ _ _ (.refl _) (.cons _ _ _ _ _ (.refl _) (.cons _ _ _ _ _ (.refl _) (.cons _ _ _ _ _ (.refl _) .nil))))))))))))))))) (.cons _ _ _ _ _ (DLes.refl _) (.cons _ _ _ _ _ (DLes.refl _) (.cons _ _ _ _ _ (DLes.refl _) (.cons _ _ _ _ _ (DLes.refl _) (.cons _ _ _ _ _ (DLes.refl _) (.cons _ _ _ _ _ (DLes.refl _) .nil)))))) (by kernel_rfl) (by simp only [go_sem, ne_eq, not_false_eq_true, Nat.reduceBEq, Nat.reduceAdd, Nat.reduceSub, Nat.reduceMul, Nat.reduceLT, Nat.reduceLeDiff, Int.reduceLE, Int.reduceLT, Int.reduceToNat, Int.reduceBEq, Int.reduceBNe, Int.le_refl, Nat.le_refl, decide_true, decide_false, Int.cast_ofNat_Int, ↓reduceIte, resQ_tmp, resQ_cell, resQ_nil, retD_one, retD_two, retD_three, retD_none]; try simp [R.val, retD_one, retD_two, retD_three, retD_none])

def m76 (N : Nat) (p3684 : PV) (p3685 : PV) (p3686 : PV) (b3687 : Bool) : Option ((PV × PV × Bool)) :=
  getA2 p3684 fun p3691 p3692 =>
  getL p3685 fun n3694 c3695 =>
  bnd' (m97 N ) fun p3696 =>
  getA5 p3696 fun p3699 p3700 p3701 p3702 p3703 =>
  bnd' (m99 N (.agg [p3699, p3700, p3701, p3702, p3703]) (.lst false n3694 c3695) p3686 b3687 p3691 p3692) fun (p3704, p3706, p3707, b3708, p3709) =>
  getB p3704 fun b3711 =>
  some ((.tup []), p3707, b3708)
theorem c76 (N : Nat) (p3684 : PV) (p3685 : PV) (p3686 : PV) (b3687 : Bool) (r : PV) (p3714 : PV) (b3715 : Bool) (h : m76 N p3684 p3685 p3686 b3687 = some (r, p3714, b3715)) : V.Fn Tryd.prog 76 2 [.v p3684, .v p3685, .fn 78 [.ptr 0 0, .ptr 1 0]] [(0, .p [p3686]), (1, .p [(.bool b3687)])] (fun d ob' => d = .v r ∧ ob' = [(0, .p [p3714]), (1, .p [(.bool b3715)])]) := by
  unfold m76 at h
  refine Fn_of (sz := 11) tab_ok [0, 1, 2, 3, 4, 5, 6] [] Tryd.func76 rfl rfl rfl (by simp) ?_
  simp only [initSt, initEnv, List.map_cons, List.map_nil, List.getD_cons_zero, List.getD_cons_succ, List.getD_nil]
  have hh := getA2_some h; clear h; obtain ⟨p3691, p3692, h3690, h⟩ := hh
  have hh := getL_some h; clear h; obtain ⟨n3694, c3695, h3693, h⟩ := hh
  have hh := bnd'_some h; clear h; obtain ⟨p3696, h3697, h⟩ := hh
  refine W_sound tab_ok mixed 17 _ _ _ ?_
  simp -implicitDefEqProofs only [go_sem, ne_eq, not_false_eq_true, Nat.reduceBEq, Nat.reduceAdd, Nat.reduceSub, Nat.reduceMul, Nat.reduceLT, Nat.reduceLeDiff, Int.reduceLE, Int.reduceLT, Int.reduceToNat, Int.reduceBEq, Int.reduceBNe, Int.le_refl, Nat.le_refl, decide_true, decide_false, Int.cast_ofNat_Int, ↓reduceIte, h3690, h3693]
  repeat with_reducible refine And.intro (by first | kernel_rfl | decide) ?_
  refine Wp_callP (c97 N  _ h3697) (by kernel_rfl) rfl rfl rfl rfl (by decide) ?_
  have hh := getA5_some h; clear h; obtain ⟨p3699, p3700, p3701, p3702, p3703, h3698, h⟩ := hh
  have hh := bnd'_some h; clear h; obtain ⟨⟨p3704, p3706, p3707, b3708, p3709⟩, h3705, h⟩ := hh
  (try dsimp only at h)
  (try simp -implicitDefEqProofs only [go_sem, ne_eq, not_false_eq_true, Nat.reduceBEq, Nat.reduceAdd, Nat.reduceSub, Nat.reduceMul, Nat.reduceLT, Nat.reduceLeDiff, Int.reduceLE, Int.reduceLT, Int.reduceToNat, Int.reduceBEq, Int.reduceBNe, Int.le_refl, Nat.le_refl, decide_true, decide_false, Int.cast_ofNat_Int, ↓reduceIte, h3690, h3693, h3698])
  refine Wp_callD [6, 7, 0, 1, 5, 14] (c99 N _ _ _ _ _ _ _ _ _ _ _ h3705) rfl rfl rfl (by first | rfl | (simp only [go_sem, ne_eq, not_false_eq_true, Nat.reduceBEq, Nat.reduceAdd, Nat.reduceSub, Nat.reduceMul, Nat.reduceLT, Nat.reduceLeDiff, Int.reduceLE, Int.reduceLT, Int.reduceToNat, Int.reduceBEq, Int.reduceBNe, Int.le_refl, Nat.le_refl, decide_true, decide_false, Int.cast_ofNat_Int, ↓reduceIte, h3690, h3693, h3698] <;> rfl)) rfl (by kernel_rfl) ?_
  have hh := getB_some h; clear h; obtain ⟨b3711, h3710, h⟩ := hh
  refine W_sound tab_ok mixed 2 _ _ _ ?_
  simp -implicitDefEqProofs only [go_sem, ne_eq, not_false_eq_true, Nat.reduceBEq, Nat.reduceAdd, Nat.reduceSub, Nat.reduceMul, Nat.reduceLT, Nat.reduceLeDiff, Int.reduceLE, Int.reduceLT, Int.reduceToNat, Int.reduceBEq, Int.reduceBNe, Int.le_refl, Nat.le_refl, decide_true, decide_false, Int.cast_ofNat_Int, ↓reduceIte, h3690, h3693, h3698, h3710]
  repeat with_reducible refine And.intro (by first | kernel_rfl | decide) ?_
  simp only [Option.some.injEq, Prod.mk.injEq] at h; obtain ⟨rfl, rfl, rfl⟩ := h
  exact finD (e2 := [(0, .dead), (1, .dead), (2, .dead), (3, .dead), (4, .dead), (5, .dead), (6, .dead)]) (ob2 := [(14, .r [.fn 99 [.ptr 6 0, .ptr 7 0, .ptr 5 0, .ptr 14 0]]), (5, .p [p3691, p3709]), (1, .p [(.bool b3708)]), (0, .p [p3707]), (7, .r [.fn 78 [.ptr 0 0, .ptr 1 0]]), (6, .p [p3706])]) (st' := ⟨[], [(0, .dead), (1, .dead), (2, .dead), (3, .dead), (4, .dead), (5, .dead), (6, .dead)], [(0, .p [p3707]), (1, .p [(.bool b3708)])], 2, []⟩) (.cons _ _ _ _ _ (.dead _) (.cons _ _ _ _ _ (.dead _) (.cons _ _ _ _ _ (.dead _) (.cons _ _ _ _ _ (.dead _) (.cons _ _ _ _ _ (.dead _) (.cons _ _ _ _ _ (.dead _) (.cons _ _ _ _ _ (.dead _) .nil))))))) (.cons _ _ _ _ _ (DLes.refl _) (.cons _ _ _ _ _ (DLes.refl _) (.cons _ _ _ _ _ (DLes.refl _) (.cons _ _ _ _ _ (DLes.refl _) (.cons _ _ _ _ _ (DLes.refl _) (.cons _ _ _ _ _ (DLes.refl _) .nil)))))) (by kernel_rfl) (by simp only [go_sem, ne_eq, not_false_eq_true, Nat.reduceBEq, Nat.reduceAdd, Nat.reduceSub, Nat.reduceMul, Nat.reduceLT, Nat.reduceLeDiff, Int.reduceLE, Int.reduceLT, Int.reduceToNat, Int.reduceBEq, Int.reduceBNe, Int.le_refl, Nat.le_refl, decide_true, decide_false, Int.cast_ofNat_Int, ↓reduceIte, resQ_tmp, resQ_cell, resQ_nil, retD_one, retD_two, retD_three, retD_none]; try simp [R.val, retD_one, retD_two, retD_three, retD_none])

def m26 (N : Nat) (p3181 : PV) : Option (PV) :=
  getA2 p3181 fun p3183 p3184 =>
  bnd' (m22 N (.agg [p3183, p3184])) fun p3185 =>
  getI .i64 p3185 fun x3188 =>
  brn (x3188 != 0) (
    some (.tup [(.lst false 0 []), (.int .i64 x3188)])) (
    getL p3184 fun n3191 c3192 =>
    grd (0 ≤ ((n3191 : Nat) : Int)) <|
    bnd' (m77 N (IntKind.u64.wrap ((IntKind.u64.wrap (1 * 2 ^ (min n3191 64))) - 1))) fun p3194 =>
    getL p3194 fun n3197 c3198 =>
    bnd' (m76 N (.agg [p3183, (.lst false n3191 c3192)]) (.lst false n3197 c3198) .nl true) fun (p3716, p3718, b3719) =>
    getT0 p3716 <|
    brn b3719 (
      some (.tup [(.lst false 0 []), (.int .i64 12)])) (
      getL p3718 fun n3723 c3724 =>
      some (.tup [(.lst false n3723 c3724), (.int .i64 0)])))
theorem c26 (N : Nat) (p3181 : PV) (r : PV)  (h : m26 N p3181 = some r) : FnP Tryd.prog 26 [p3181] r := by
  unfold m26 at h
  refine Fn_of (sz := 23) tab_ok [0, 1, 2, 3, 4, 5, 6, 10, 21] [.tmp 2, .tmp 3] Tryd.func26 rfl rfl rfl (by simp) ?_
  simp only [initSt, initEnv, List.map_cons, List.map_nil, List.getD_cons_zero, List.getD_cons_succ, List.getD_nil]
  have hh := getA2_some h; clear h; obtain ⟨p3183, p3184, h3182, h⟩ := hh
  have hh := bnd'_some h; clear h; obtain ⟨p3185, h3186, h⟩ := hh
  refine W_sound tab_ok mixed 10 _ _ _ ?_
  simp -implicitDefEqProofs only [go_sem, ne_eq, not_false_eq_true, Nat.reduceBEq, Nat.reduceAdd, Nat.reduceSub, Nat.reduceMul, Nat.reduceLT, Nat.reduceLeDiff, Int.reduceLE, Int.reduceLT, Int.reduceToNat, Int.reduceBEq, Int.reduceBNe, Int.le_refl, Nat.le_refl, decide_true, decide_false, Int.cast_ofNat_Int, ↓reduceIte, h3182]
  repeat with_reducible refine And.intro (by first | kernel_rfl | decide) ?_
  refine Wp_callP (c22 N _ _ h3186) (by kernel_rfl) rfl rfl rfl rfl (by decide) ?_
  have hh := getI_some h; clear h; obtain ⟨x3188, h3187, h⟩ := hh
  have hh := brn_some h; clear h; rcases hh with ⟨h3189, h⟩ | ⟨h3189, h⟩
  · refine W_sound tab_ok mixed 16 _ _ _ ?_
    simp -implicitDefEqProofs only [go_sem, ne_eq, not_false_eq_true, Nat.reduceBEq, Nat.reduceAdd, Nat.reduceSub, Nat.reduceMul, Nat.reduceLT, Nat.reduceLeDiff, Int.reduceLE, Int.reduceLT, Int.reduceToNat, Int.reduceBEq, Int.reduceBNe, Int.le_refl, Nat.le_refl, decide_true, decide_false, Int.cast_ofNat_Int, ↓reduceIte, h3182, h3187, h3189]
    repeat with_reducible refine And.intro (by first | kernel_rfl | decide) ?_
    obtain rfl := Option.some.inj h
    exact finC [(2, .v .nl), (3, .v (.int .i64 x3188))] [(2, .v (.lst false 0 [])), (3, .v (.int .i64 x3188))] (by simp [leE, lk_cons]) (.cons _ _ _ _ _ (.v _ _ (.nl false)) (.cons _ _ _ _ _ (.v _ _ (.refl _)) .nil)) (by rfl) (by simp [leE, lk_cons]) (by decide) (by decide) rfl (by simp only [go_sem, ne_eq, not_false_eq_true, Nat.reduceBEq, Nat.reduceAdd, Nat.reduceSub, Nat.reduceMul, Nat.reduceLT, Nat.reduceLeDiff, Int.reduceLE, Int.reduceLT, Int.reduceToNat, Int.reduceBEq, Int.reduceBNe, Int.le_refl, Nat.le_refl, decide_true, decide_false, Int.cast_ofNat_Int, ↓reduceIte, resQ_tmp, resQ_cell, resQ_nil, retD_one, retD_two, retD_three, retD_none]; try simp [R.val, retD_one, retD_two, retD_three, retD_none])
  · have hh := getL_some h; clear h; obtain ⟨n3191, c3192, h3190, h⟩ := hh
    have hh := grd_some h; clear h; obtain ⟨g3193, h⟩ := hh
    have hh := bnd'_some h; clear h; obtain ⟨p3194, h3195, h⟩ := hh
    refine W_sound tab_ok mixed 26 _ _ _ ?_
    simp -implicitDefEqProofs only [go_sem, ne_eq, not_false_eq_true, Nat.reduceBEq, Nat.reduceAdd, Nat.reduceSub, Nat.reduceMul, Nat.reduceLT, Nat.reduceLeDiff, Int.reduceLE, Int.reduceLT, Int.reduceToNat, Int.reduceBEq, Int.reduceBNe, Int.le_refl, Nat.le_refl, decide_true, decide_false, Int.cast_ofNat_Int, ↓reduceIte, h3182, h3187, h3189, h3190, g3193]
    repeat with_reducible refine And.intro (by first | kernel_rfl | decide) ?_
    refine Wp_callP (c77 N _ _ h3195) (by kernel_rfl) rfl rfl rfl rfl (by decide) ?_
    have hh := getL_some h; clear h; obtain ⟨n3197, c3198, h3196, h⟩ := hh
    have hh := bnd'_some h; clear h; obtain ⟨⟨p3716, p3718, b3719⟩, h3717, h⟩ := hh
    (try dsimp only at h)
    refine W_sound tab_ok mixed 1 _ _ _ ?_
    simp -implicitDefEqProofs only [go_sem, ne_eq, not_false_eq_true, Nat.reduceBEq, Nat.reduceAdd, Nat.reduceSub, Nat.reduceMul, Nat.reduceLT, Nat.reduceLeDiff, Int.reduceLE, Int.reduceLT, Int.reduceToNat, Int.reduceBEq, Int.reduceBNe, Int.le_refl, Nat.le_refl, decide_true, decide_false, Int.cast_ofNat_Int, ↓reduceIte, h3182, h3187, h3189, h3190, g3193, h3196]
    repeat with_reducible refine And.intro (by first | kernel_rfl | decide) ?_
    refine Wp_callD [7, 14] (c76 N _ _ _ _ _ _ _ h3717) rfl rfl rfl (by first | rfl | (simp only [go_sem, ne_eq, not_false_eq_true, Nat.reduceBEq, Nat.reduceAdd, Nat.reduceSub, Nat.reduceMul, Nat.reduceLT, Nat.reduceLeDiff, Int.reduceLE, Int.reduceLT, Int.reduceToNat, Int.reduceBEq, Int.reduceBNe, Int.le_refl, Nat.le_refl, decide_true, decide_false, Int.cast_ofNat_Int, ↓reduceIte, h3182, h3187, h3189, h3190, g3193, h3196] <;> rfl)) rfl (by kernel_rfl) ?_
    have hh := getT0_some h; clear h; obtain ⟨h3720, h⟩ := hh
    have hh := brn_some h; clear h; rcases hh with ⟨h3721, h⟩ | ⟨h3721, h⟩
    · refine W_sound tab_ok mixed 14 _ _ _ ?_
      simp -implicitDefEqProofs only [go_sem, ne_eq, not_false_eq_true, Nat.reduceBEq, Nat.reduceAdd, Nat.reduceSub, Nat.reduceMul, Nat.reduceLT, Nat.reduceLeDiff, Int.reduceLE, Int.reduceLT, Int.reduceToNat, Int.reduceBEq, Int.reduceBNe, Int.le_refl, Nat.le_refl, decide_true, decide_false, Int.cast_ofNat_Int, ↓reduceIte, h3182, h3187, h3189, h3190, g3193, h3196, h3720, h3721]
      repeat with_reducible refine And.intro (by first | kernel_rfl | decide) ?_
      obtain rfl := Option.some.inj h
      exact finC [(2, .v .nl), (3, .v (.int .i64 12))] [(2, .v (.lst false 0 [])), (3, .v (.int .i64 12))] (by simp [leE, lk_cons]) (.cons _ _ _ _ _ (.v _ _ (.nl false)) (.cons _ _ _ _ _ (.v _ _ (.refl _)) .nil)) (by rfl) (by simp [leE, lk_cons]) (by decide) (by decide) rfl (by simp only [go_sem, ne_eq, not_false_eq_true, Nat.reduceBEq, Nat.reduceAdd, Nat.reduceSub, Nat.reduceMul, Nat.reduceLT, Nat.reduceLeDiff, Int.reduceLE, Int.reduceLT, Int.reduceToNat, Int.reduceBEq, Int.reduceBNe, Int.le_refl, Nat.le_refl, decide_true, decide_false, Int.cast_ofNat_Int, ↓reduceIte, resQ_tmp, resQ_cell, resQ_nil, retD_one, retD_two, retD_three, retD_none]; try simp [R.val, retD_one, retD_two, retD_three, retD_none])
    · have hh := getL_some h; clear h; obtain ⟨n3723, c3724, h3722, h⟩ := hh
      refine W_sound tab_ok mixed 16 _ _ _ ?_
      simp -implicitDefEqProofs only [go_sem, ne_eq, not_false_eq_true, Nat.reduceBEq, Nat.reduceAdd, Nat.reduceSub, Nat.reduceMul, Nat.reduceLT, Nat.reduceLeDiff, Int.reduceLE, Int.reduceLT, Int.reduceToNat, Int.reduceBEq, Int.reduceBNe, Int.le_refl, Nat.le_refl, decide_true, decide_false, Int.cast_ofNat_Int, ↓reduceIte, h3182, h3187, h3189, h3190, g3193, h3196, h3720, h3721, h3722]
      repeat with_reducible refine And.intro (by first | kernel_rfl | decide) ?_
      obtain rfl := Option.some.inj h
      exact finC [(2, .v (.lst false n3723 c3724)), (3, .v (.int .i64 0))] [(2, .v (.lst false n3723 c3724)), (3, .v (.int .i64 0))] (by simp [leE, lk_cons]) (.cons _ _ _ _ _ (.v _ _ (.refl _)) (.cons _ _ _ _ _ (.v _ _ (.refl _)) .nil)) (by rfl) (by simp [leE, lk_cons]) (by decide) (by decide) rfl (by simp only [go_sem, ne_eq, not_false_eq_true, Nat.reduceBEq, Nat.reduceAdd, Nat.reduceSub, Nat.reduceMul, Nat.reduceLT, Nat.reduceLeDiff, Int.reduceLE, Int.reduceLT, Int.reduceToNat, Int.reduceBEq, Int.reduceBNe, Int.le_refl, Nat.le_refl, decide_true, decide_false, Int.cast_ofNat_Int, ↓reduceIte, resQ_tmp, resQ_cell, resQ_nil, retD_one, retD_two, retD_three, retD_none]; try simp [R.val, retD_one, retD_two, retD_three, retD_none])

def m79_L0 (N : Nat) (rec : PV → PV → PV → PV → Option (PV)) (n3757 : Nat) (c3758 : List PV) (n3760 : Nat) (c3761 : List PV) (n3763 : Nat) (c3764 : List PV) (n3767 : Nat) (c3768 : List PV) (n3778 : Nat) (c3779 : List PV) : Nat → Nat → Int → PV → List PV → Option ((Nat × List PV))
  | 0, _, _, _, _ => none
  | n + 1, n3933, x3934, p3935, c3936 =>
    brn (decide (x3934 < ((n3778 : Nat) : Int))) (
      grd (List.length c3764 = (n3763 * 2)) <|
      brn (decide (0 < n3763)) (
        grd (n3763 ≤ 1099511627776) <|
        grd (0 ≤ x3934 ∧ x3934 < ((n3778 : Nat) : Int)) <|
        grd (2 ≤ List.length (List.drop ((Int.toNat x3934) * 2) c3779)) <|
        getA2 (.agg (List.take 2 (List.drop ((Int.toNat x3934) * 2) c3779))) fun p3945 p3946 =>
        grd ((n3763 + 1) ≤ 1099511627776) <|
        grd (List.length (c3764 ++ [p3945, p3946]) = ((n3763 + 1) * 2)) <|
        getI .i64 p3935 fun x3950 =>
        bnd' (m74 N x3950 (.lst false (n3763 + 1) (c3764 ++ [p3945, p3946]))) fun p3951 =>
        getB p3951 fun b3954 =>
        brn b3954 (
          grd (List.length c3761 = n3760) <|
          brn (decide (0 < n3760)) (
            grd (n3760 ≤ 1099511627776) <|
            grd ((n3760 + 1) ≤ 1099511627776) <|
            bnd' (rec (.agg [(.int .i64 x3950), (.lst false n3767 c3768)]) (.lst false n3757 c3758) (.lst false (n3760 + 1) (c3761 ++ [(.int .i64 x3934)])) (.lst false (n3763 + 1) (c3764 ++ [p3945, p3946]))) fun p3960 =>
            getL p3960 fun n3963 c3964 =>
            grd (List.length c3964 = n3963) <|
            grd ((n3933 + n3963) ≤ 1099511627776) <|
            grd (List.length c3936 = n3933) <|
            m79_L0 N rec n3757 c3758 n3760 c3761 n3763 c3764 n3767 c3768 n3778 c3779 n (n3933 + n3963) (IntKind.i64.wrap (x3934 + 1)) (.int .i64 x3950) (c3936 ++ c3964)) (
            grd (n3760 ≤ 1099511627776) <|
            grd ((n3760 + 1) ≤ 1099511627776) <|
            bnd' (rec (.agg [(.int .i64 x3950), (.lst false n3767 c3768)]) (.lst false n3757 c3758) (.lst false (n3760 + 1) (c3761 ++ [(.int .i64 x3934)])) (.lst false (n3763 + 1) (c3764 ++ [p3945, p3946]))) fun p3970 =>
            getL p3970 fun n3973 c3974 =>
            grd (List.length c3974 = n3973) <|
            grd ((n3933 + n3973) ≤ 1099511627776) <|
            grd (List.length c3936 = n3933) <|
            m79_L0 N rec n3757 c3758 n3760 c3761 n3763 c3764 n3767 c3768 n3778 c3779 n (n3933 + n3973) (IntKind.i64.wrap (x3934 + 1)) (.int .i64 x3950) (c3936 ++ c3974))) (
          m79_L0 N rec n3757 c3758 n3760 c3761 n3763 c3764 n3767 c3768 n3778 c3779 n n3933 (IntKind.i64.wrap (x3934 + 1)) (.int .i64 x3950) c3936)) (
        grd (n3763 ≤ 1099511627776) <|
        grd (0 ≤ x3934 ∧ x3934 < ((n3778 : Nat) : Int)) <|
        grd (2 ≤ List.length (List.drop ((Int.toNat x3934) * 2) c3779)) <|
        getA2 (.agg (List.take 2 (List.drop ((Int.toNat x3934) * 2) c3779))) fun p3983 p3984 =>
        grd ((n3763 + 1) ≤ 1099511627776) <|
        grd (List.length (c3764 ++ [p3983, p3984]) = ((n3763 + 1) * 2)) <|
        getI .i64 p3935 fun x3988 =>
        bnd' (m74 N x3988 (.lst false (n3763 + 1) (c3764 ++ [p3983, p3984]))) fun p3989 =>
        getB p3989 fun b3992 =>
        brn b3992 (
          grd (List.length c3761 = n3760) <|
          brn (decide (0 < n3760)) (
            grd (n3760 ≤ 1099511627776) <|
            grd ((n3760 + 1) ≤ 1099511627776) <|
            bnd' (rec (.agg [(.int .i64 x3988), (.lst false n3767 c3768)]) (.lst false n3757 c3758) (.lst false (n3760 + 1) (c3761 ++ [(.int .i64 x3934)])) (.lst false (n3763 + 1) (c3764 ++ [p3983, p3984]))) fun p3998 =>
            getL p3998 fun n4001 c4002 =>
            grd (List.length c4002 = n4001) <|
            grd ((n3933 + n4001) ≤ 1099511627776) <|
            grd (List.length c3936 = n3933) <|
            m79_L0 N rec n3757 c3758 n3760 c3761 n3763 c3764 n3767 c3768 n3778 c3779 n (n3933 + n4001) (IntKind.i64.wrap (x3934 + 1)) (.int .i64 x3988) (c3936 ++ c4002)) (
            grd (n3760 ≤ 1099511627776) <|
            grd ((n3760 + 1) ≤ 1099511627776) <|
            bnd' (rec (.agg [(.int .i64 x3988), (.lst false n3767 c3768)]) (.lst false n3757 c3758) (.lst false (n3760 + 1) (c3761 ++ [(.int .i64 x3934)])) (.lst false (n3763 + 1) (c3764 ++ [p3983, p3984]))) fun p4008 =>
            getL p4008 fun n4011 c4012 =>
            grd (List.length c4012 = n4011) <|
            grd ((n3933 + n4011) ≤ 1099511627776) <|
            grd (List.length c3936 = n3933) <|
            m79_L0 N rec n3757 c3758 n3760 c3761 n3763 c3764 n3767 c3768 n3778 c3779 n (n3933 + n4011) (IntKind.i64.wrap (x3934 + 1)) (.int .i64 x3988) (c3936 ++ c4012))) (
          m79_L0 N rec n3757 c3758 n3760 c3761 n3763 c3764 n3767 c3768 n3778 c3779 n n3933 (IntKind.i64.wrap (x3934 + 1)) (.int .i64 x3988) c3936))) (
      some (n3933, c3936))
def m79 (N : Nat) : Nat → PV → PV → PV → PV → Option (PV)
  | 0, _, _, _, _ => none
  | fu + 1, p3749, p3750, p3751, p3752 =>
    getA2 p3749 fun p3754 p3755 =>
    getL p3750 fun n3757 c3758 =>
    getL p3751 fun n3760 c3761 =>
    getL p3752 fun n3763 c3764 =>
    brn (((n3760 : Nat) : Int) == ((n3757 : Nat) : Int)) (
      some (.lst false 1 [(.lst false n3760 c3761)])) (
      getL p3755 fun n3767 c3768 =>
      grd (0 ≤ ((n3760 : Nat) : Int) ∧ ((n3760 : Nat) : Int) < ((n3757 : Nat) : Int)) <|
      grd (0 < List.length (List.drop n3760 c3758)) <|
      getI .i64 (gp c3758 n3760) fun x3773 =>
      grd (0 ≤ x3773 ∧ x3773 < ((n3767 : Nat) : Int)) <|
      grd (0 < List.length (List.drop (Int.toNat x3773) c3768)) <|
      getL (gp c3768 (Int.toNat x3773)) fun n3778 c3779 =>
      bnd' (m79_L0 N (m79 N fu) n3757 c3758 n3760 c3761 n3763 c3764 n3767 c3768 n3778 c3779 N 0 0 p3754 []) fun o =>
      match o with
      | (n4016, c4017) =>
        grd (List.length c4017 = n4016) <|
        some (.lst false n4016 c4017))
theorem c79 (N : Nat) : ∀ (fu : Nat) (p3749 : PV) (p3750 : PV) (p3751 : PV) (p3752 : PV) (r : PV)  (h : m79 N fu p3749 p3750 p3751 p3752 = some r), FnP Tryd.prog 79 [p3749, p3750, p3751, p3752] r := by
  intro fu
  induction fu with
  | zero => intro p3749 p3750 p3751 p3752 r h; cases h
  | succ fu ih =>
    intro p3749 p3750 p3751 p3752 r h
    rw [m79] at h
    refine Fn_of (sz := 61) tab_ok [0, 1, 2, 3, 4, 8, 9, 10, 11, 12, 17, 32, 47] [.tmp 8] Tryd.func79 rfl rfl rfl (by simp) ?_
    simp only [initSt, initEnv, List.map_cons, List.map_nil, List.getD_cons_zero, List.getD_cons_succ, List.getD_nil]
    have hh := getA2_some h; clear h; obtain ⟨p3754, p3755, h3753, h⟩ := hh
    have hh := getL_some h; clear h; obtain ⟨n3757, c3758, h3756, h⟩ := hh
    have hh := getL_some h; clear h; obtain ⟨n3760, c3761, h3759, h⟩ := hh
    have hh := getL_some h; clear h; obtain ⟨n3763, c3764, h3762, h⟩ := hh
    have hh := brn_some h; clear h; rcases hh with ⟨h3765, h⟩ | ⟨h3765, h⟩
    · refine W_sound tab_ok mixed 23 _ _ _ ?_
      simp -implicitDefEqProofs only [go_sem, ne_eq, not_false_eq_true, Nat.reduceBEq, Nat.reduceAdd, Nat.reduceSub, Nat.reduceMul, Nat.reduceLT, Nat.reduceLeDiff, Int.reduceLE, Int.reduceLT, Int.reduceToNat, Int.reduceBEq, Int.reduceBNe, Int.le_refl, Nat.le_refl, decide_true, decide_false, Int.cast_ofNat_Int, ↓reduceIte, h3753, h3756, h3759, h3762, h3765]
      repeat with_reducible refine And.intro (by first | kernel_rfl | decide) ?_
      refine FinQ_wk (Wk_freeze 24 [(.lst false n3760 c3761)] (by rfl) (by decide) (by decide)) ?_
      simp -implicitDefEqProofs only [go_sem, ne_eq, not_false_eq_true, Nat.reduceBEq, Nat.reduceAdd, Nat.reduceSub, Nat.reduceMul, Nat.reduceLT, Nat.reduceLeDiff, Int.reduceLE, Int.reduceLT, Int.reduceToNat, Int.reduceBEq, Int.reduceBNe, Int.le_refl, Nat.le_refl, decide_true, decide_false, Int.cast_ofNat_Int, ↓reduceIte, h3753, h3756, h3759, h3762, h3765]
      obtain rfl := Option.some.inj h
      exact finC [(8, .v (.lst true 1 [(.lst false n3760 c3761)]))] [(8, .v (.lst false 1 [(.lst false n3760 c3761)]))] (by simp [leE, lk_cons]) (.cons _ _ _ _ _ (.v _ _ (.lst true false _ _ _ (fun h => by first | exact h | cases h) (PLes.refl _))) .nil) (by rfl) (by simp [leE, lk_cons]) (by decide) (by decide) rfl (by simp only [go_sem, ne_eq, not_false_eq_true, Nat.reduceBEq, Nat.reduceAdd, Nat.reduceSub, Nat.reduceMul, Nat.reduceLT, Nat.reduceLeDiff, Int.reduceLE, Int.reduceLT, Int.reduceToNat, Int.reduceBEq, Int.reduceBNe, Int.le_refl, Nat.le_refl, decide_true, decide_false, Int.cast_ofNat_Int, ↓reduceIte, resQ_tmp, resQ_cell, resQ_nil, retD_one, retD_two, retD_three, retD_none]; try simp [R.val, retD_one, retD_two, retD_three, retD_none])
    · have hh := getL_some h; clear h; obtain ⟨n3767, c3768, h3766, h⟩ := hh
      have hh := grd_some h; clear h; obtain ⟨⟨g3769, g3770⟩, h⟩ := hh
      have hh := grd_some h; clear h; obtain ⟨g3771, h⟩ := hh
      have hh := getI_some h; clear h; obtain ⟨x3773, h3772, h⟩ := hh
      have hh := grd_some h; clear h; obtain ⟨⟨g3774, g3775⟩, h⟩ := hh
      have hh := grd_some h; clear h; obtain ⟨g3776, h⟩ := hh
      have hh := getL_some h; clear h; obtain ⟨n3778, c3779, h3777, h⟩ := hh
      refine W_sound tab_ok mixed 38 _ _ _ ?_
      simp -implicitDefEqProofs only [go_sem, ne_eq, not_false_eq_true, Nat.reduceBEq, Nat.reduceAdd, Nat.reduceSub, Nat.reduceMul, Nat.reduceLT, Nat.reduceLeDiff, Int.reduceLE, Int.reduceLT, Int.reduceToNat, Int.reduceBEq, Int.reduceBNe, Int.le_refl, Nat.le_refl, decide_true, decide_false, Int.cast_ofNat_Int, ↓reduceIte, h3753, h3756, h3759, h3762, h3765, h3766, g3769, g3770, g3771, h3772, g3774, g3775, g3776, h3777]
      repeat with_reducible refine And.intro (by first | kernel_rfl | decide) ?_
      refine Wp_weaken (Wk_ownS 9 1 rfl (by decide) (by decide)) ?_
      simp -implicitDefEqProofs only [go_sem, ne_eq, not_false_eq_true, Nat.reduceBEq, Nat.reduceAdd, Nat.reduceSub, Nat.reduceMul, Nat.reduceLT, Nat.reduceLeDiff, Int.reduceLE, Int.reduceLT, Int.reduceToNat, Int.reduceBEq, Int.reduceBNe, Int.le_refl, Nat.le_refl, decide_true, decide_false, Int.cast_ofNat_Int, ↓reduceIte, h3753, h3756, h3759, h3762, h3765, h3766, g3769, g3770, g3771, h3772, g3774, g3775, g3776, h3777]
      have hh := bnd'_some h; clear h; obtain ⟨o4019, h4020, h4021⟩ := hh
      refine Wp_cut (fun s => ∃ n4016, ∃ c4017, (n4016, c4017) = o4019 ∧ s = ⟨[], [(0, .dead), (1, .dead), (2, .dead), (3, .dead), (4, .dead), (8, .dead), (9, .sl false 0 0 n4016 1), (10, .dead), (11, .dead), (12, .dead), (17, .dead), (32, .dead), (47, .dead)], [(0, .p c4017)], 1, []⟩) ?_ ?_
      · refine Wp_block ?_
        refine Wp_loopG (fun n s => ∃ n3933, ∃ x3934, ∃ p3935, ∃ c3936, m79_L0 N (m79 N fu) n3757 c3758 n3760 c3761 n3763 c3764 n3767 c3768 n3778 c3779 n n3933 x3934 p3935 c3936 = some o4019 ∧ s = ⟨[], [(0, .dead), (1, .v (.lst false n3757 c3758)), (2, .v (.lst false n3760 c3761)), (3, .v (.lst false n3763 c3764)), (4, .ptr 0 0), (8, .dead), (9, .sl false 1 0 n3933 1), (10, .v (.lst false n3778 c3779)), (11, .v (.int .i64 x3934)), (12, .dead), (17, .dead), (32, .dead), (47, .dead)], [(0, .p [p3935, (.lst false n3767 c3768)]), (1, .p c3936)], 2, []⟩) N _ ((Wk_le (.cons _ _ _ _ _ (.dead _) (.cons _ _ _ _ _ (.refl _) (.cons _ _ _ _ _ (.refl _) (.cons _ _ _ _ _ (.refl _) (.cons _ _ _ _ _ (.refl _) (.cons _ _ _ _ _ (.dead _) (.cons _ _ _ _ _ (.refl _) (.cons _ _ _ _ _ (.refl _) (.cons _ _ _ _ _ (.refl _) (.cons _ _ _ _ _ (.refl _) (.cons _ _ _ _ _ (.dead _) (.cons _ _ _ _ _ (.refl _) (.cons _ _ _ _ _ (.refl _) .nil))))))))))))) (OLe.refl _)).trans (cmpS_ok (st' := ⟨[], [(0, .dead), (1, .v (.lst false n3757 c3758)), (2, .v (.lst false n3760 c3761)), (3, .v (.lst false n3763 c3764)), (4, .ptr 0 0), (8, .dead), (9, .sl false 1 0 0 1), (10, .v (.lst false n3778 c3779)), (11, .v (.int .i64 0)), (12, .dead), (17, .dead), (32, .dead), (47, .dead)], [(0, .p [p3754, (.lst false n3767 c3768)]), (1, .p [])], 2, []⟩) (by kernel_rfl))) ⟨_, _, _, _, h4020, rfl⟩ ?_
        clear h4020
        rintro n _ ⟨n3933, x3934, p3935, c3936, h4020, rfl⟩
        cases n with
        | zero => cases h4020
        | succ n =>
          rw [m79_L0] at h4020
          have hh := brn_some h4020; clear h4020; rcases hh with ⟨h3937, h4020⟩ | ⟨h3937, h4020⟩
          · have hh := grd_some h4020; clear h4020; obtain ⟨g3938, h4020⟩ := hh
            have hh := brn_some h4020; clear h4020; rcases hh with ⟨h3939, h4020⟩ | ⟨h3939, h4020⟩
            · have hh := grd_some h4020; clear h4020; obtain ⟨g3940, h4020⟩ := hh
              have hh := grd_some h4020; clear h4020; obtain ⟨⟨g3941, g3942⟩, h4020⟩ := hh
              have hh := grd_some h4020; clear h4020; obtain ⟨g3943, h4020⟩ := hh
              have hh := getA2_some h4020; clear h4020; obtain ⟨p3945, p3946, h3944, h4020⟩ := hh
              injection h3944 with h3944
              have hh := grd_some h4020; clear h4020; obtain ⟨g3947, h4020⟩ := hh
              refine W_sound tab_ok mixed 26 _ _ _ ?_
              simp -implicitDefEqProofs only [go_sem, ne_eq, not_false_eq_true, Nat.reduceBEq, Nat.reduceAdd, Nat.reduceSub, Nat.reduceMul, Nat.reduceLT, Nat.reduceLeDiff, Int.reduceLE, Int.reduceLT, Int.reduceToNat, Int.reduceBEq, Int.reduceBNe, Int.le_refl, Nat.le_refl, decide_true, decide_false, Int.cast_ofNat_Int, ↓reduceIte, h3753, h3756, h3759, h3762, h3765, h3766, g3769, g3770, g3771, h3772, g3774, g3775, g3776, h3777, h3937, g3938, h3939, g3940, g3941, g3942, g3943, h3944, g3947]
              repeat with_reducible refine And.intro (by first | kernel_rfl | decide) ?_
              have hh := grd_some h4020; clear h4020; obtain ⟨g3948, h4020⟩ := hh
              refine Wp_wkK (Wk_freeze 45 (c3764 ++ [p3945, p3946]) (by rfl) (by decide) (by decide)) rfl ?_
              simp -implicitDefEqProofs only [go_sem, ne_eq, not_false_eq_true, Nat.reduceBEq, Nat.reduceAdd, Nat.reduceSub, Nat.reduceMul, Nat.reduceLT, Nat.reduceLeDiff, Int.reduceLE, Int.reduceLT, Int.reduceToNat, Int.reduceBEq, Int.reduceBNe, Int.le_refl, Nat.le_refl, decide_true, decide_false, Int.cast_ofNat_Int, ↓reduceIte, h3753, h3756, h3759, h3762, h3765, h3766, g3769, g3770, g3771, h3772, g3774, g3775, g3776, h3777, h3937, g3938, h3939, g3940, g3941, g3942, g3943, h3944, g3947, g3948]
              have hh := getI_some h4020; clear h4020; obtain ⟨x3950, h3949, h4020⟩ := hh
              have hh := bnd'_some h4020; clear h4020; obtain ⟨p3951, h3952, h4020⟩ := hh
              refine W_sound tab_ok mixed 4 _ _ _ ?_
              simp -implicitDefEqProofs only [go_sem, ne_eq, not_false_eq_true, Nat.reduceBEq, Nat.reduceAdd, Nat.reduceSub, Nat.reduceMul, Nat.reduceLT, Nat.reduceLeDiff, Int.reduceLE, Int.reduceLT, Int.reduceToNat, Int.reduceBEq, Int.reduceBNe, Int.le_refl, Nat.le_refl, decide_true, decide_false, Int.cast_ofNat_Int, ↓reduceIte, h3753, h3756, h3759, h3762, h3765, h3766, g3769, g3770, g3771, h3772, g3774, g3775, g3776, h3777, h3937, g3938, h3939, g3940, g3941, g3942, g3943, h3944, g3947, g3948, h3949]
              repeat with_reducible refine And.intro (by first | kernel_rfl | decide) ?_
              refine Wp_callP (c74 N _ _ _ h3952) (by kernel_rfl) rfl rfl rfl rfl (by decide) ?_
              have hh := getB_some h4020; clear h4020; obtain ⟨b3954, h3953, h4020⟩ := hh
              have hh := brn_some h4020; clear h4020; rcases hh with ⟨h3955, h4020⟩ | ⟨h3955, h4020⟩
              · have hh := grd_some h4020; clear h4020; obtain ⟨g3956, h4020⟩ := hh
                have hh := brn_some h4020; clear h4020; rcases hh with ⟨h3957, h4020⟩ | ⟨h3957, h4020⟩
                · have hh := grd_some h4020; clear h4020; obtain ⟨g3958, h4020⟩ := hh
                  have hh := grd_some h4020; clear h4020; obtain ⟨g3959, h4020⟩ := hh
                  have hh := bnd'_some h4020; clear h4020; obtain ⟨p3960, h3961, h4020⟩ := hh
                  refine W_sound tab_ok mixed 13 _ _ _ ?_
                  simp -implicitDefEqProofs only [go_sem, ne_eq, not_false_eq_true, Nat.reduceBEq, Nat.reduceAdd, Nat.reduceSub, Nat.reduceMul, Nat.reduceLT, Nat.reduceLeDiff, Int.reduceLE, Int.reduceLT, Int.reduceToNat, Int.reduceBEq, Int.reduceBNe, Int.le_refl, Nat.le_refl, decide_true, decide_false, Int.cast_ofNat_Int, ↓reduceIte, h3753, h3756, h3759, h3762, h3765, h3766, g3769, g3770, g3771, h3772, g3774, g3775, g3776, h3777, h3937, g3938, h3939, g3940, g3941, g3942, g3943, h3944, g3947, g3948, h3949, h3953, h3955, g3956, h3957, g3958, g3959]
                  repeat with_reducible refine And.intro (by first | kernel_rfl | decide) ?_
                  refine Wp_callF [(102, (c3761 ++ [(.int .i64 x3934)]))] (ih _ _ _ _ _ h3961) (by kernel_rfl) rfl rfl rfl (by simp only [go_sem, ne_eq, not_false_eq_true, Nat.reduceBEq, Nat.reduceAdd, Nat.reduceSub, Nat.reduceMul, Nat.reduceLT, Nat.reduceLeDiff, Int.reduceLE, Int.reduceLT, Int.reduceToNat, Int.reduceBEq, Int.reduceBNe, Int.le_refl, Nat.le_refl, decide_true, decide_false, Int.cast_ofNat_Int, ↓reduceIte, h3753, h3756, h3759, h3762, h3765, h3766, g3769, g3770, g3771, h3772, g3774, g3775, g3776, h3777, h3937, g3938, h3939, g3940, g3941, g3942, g3943, h3944, g3947, g3948, h3949, h3953, h3955, g3956, h3957, g3958, g3959] <;> rfl) (by decide) rfl (by simp [roF, obL]) rfl ?_
                  have hh := getL_some h4020; clear h4020; obtain ⟨n3963, c3964, h3962, h4020⟩ := hh
                  have hh := grd_some h4020; clear h4020; obtain ⟨g3965, h4020⟩ := hh
                  have hh := grd_some h4020; clear h4020; obtain ⟨g3966, h4020⟩ := hh
                  have hh := grd_some h4020; clear h4020; obtain ⟨g3967, h4020⟩ := hh
                  refine W_sound tab_ok mixed 9 _ _ _ ?_
                  simp -implicitDefEqProofs only [go_sem, ne_eq, not_false_eq_true, Nat.reduceBEq, Nat.reduceAdd, Nat.reduceSub, Nat.reduceMul, Nat.reduceLT, Nat.reduceLeDiff, Int.reduceLE, Int.reduceLT, Int.reduceToNat, Int.reduceBEq, Int.reduceBNe, Int.le_refl, Nat.le_refl, decide_true, decide_false, Int.cast_ofNat_Int, ↓reduceIte, h3753, h3756, h3759, h3762, h3765, h3766, g3769, g3770, g3771, h3772, g3774, g3775, g3776, h3777, h3937, g3938, h3939, g3940, g3941, g3942, g3943, h3944, g3947, g3948, h3949, h3953, h3955, g3956, h3957, g3958, g3959, h3962, g3965, g3966, g3967]
                  repeat with_reducible refine And.intro (by first | kernel_rfl | decide) ?_
                  exact cutQ _ ((Wk_le (.cons _ _ _ _ _ (.refl _) (.cons _ _ _ _ _ (.refl _) (.cons _ _ _ _ _ (.refl _) (.cons _ _ _ _ _ (.refl _) (.cons _ _ _ _ _ (.refl _) (.cons _ _ _ _ _ (.refl _) (.cons _ _ _ _ _ (.refl _) (.cons _ _ _ _ _ (.refl _) (.cons _ _ _ _ _ (.refl _) (.cons _ _ _ _ _ (.dead _) (.cons _ _ _ _ _ (.refl _) (.cons _ _ _ _ _ (.dead _) (.cons _ _ _ _ _ (.dead _) .nil))))))))))))) (OLe.refl _)).trans (cmpS_ok (st' := ⟨[], [(0, .dead), (1, .v (.lst false n3757 c3758)), (2, .v (.lst false n3760 c3761)), (3, .v (.lst false n3763 c3764)), (4, .ptr 0 0), (8, .dead), (9, .sl false 1 0 (n3933 + n3963) 1), (10, .v (.lst false n3778 c3779)), (11, .v (.int .i64 (IntKind.i64.wrap (x3934 + 1)))), (12, .dead), (17, .dead), (32, .dead), (47, .dead)], [(0, .p [(.int .i64 x3950), (.lst false n3767 c3768)]), (1, .p (c3936 ++ c3964))], 2, []⟩) (by kernel_rfl))) ⟨n, Nat.lt_succ_self n, _, _, _, _, h4020, rfl⟩
                · have hh := grd_some h4020; clear h4020; obtain ⟨g3968, h4020⟩ := hh
                  have hh := grd_some h4020; clear h4020; obtain ⟨g3969, h4020⟩ := hh
                  have hh := bnd'_some h4020; clear h4020; obtain ⟨p3970, h3971, h4020⟩ := hh
                  refine W_sound tab_ok mixed 13 _ _ _ ?_
                  simp -implicitDefEqProofs only [go_sem, ne_eq, not_false_eq_true, Nat.reduceBEq, Nat.reduceAdd, Nat.reduceSub, Nat.reduceMul, Nat.reduceLT, Nat.reduceLeDiff, Int.reduceLE, Int.reduceLT, Int.reduceToNat, Int.reduceBEq, Int.reduceBNe, Int.le_refl, Nat.le_refl, decide_true, decide_false, Int.cast_ofNat_Int, ↓reduceIte, h3753, h3756, h3759, h3762, h3765, h3766, g3769, g3770, g3771, h3772, g3774, g3775, g3776, h3777, h3937, g3938, h3939, g3940, g3941, g3942, g3943, h3944, g3947, g3948, h3949, h3953, h3955, g3956, h3957, g3968, g3969]
                  repeat with_reducible refine And.intro (by first | kernel_rfl | decide) ?_
                  refine Wp_callF [(102, (c3761 ++ [(.int .i64 x3934)]))] (ih _ _ _ _ _ h3971) (by kernel_rfl) rfl rfl rfl (by simp only [go_sem, ne_eq, not_false_eq_true, Nat.reduceBEq, Nat.reduceAdd, Nat.reduceSub, Nat.reduceMul, Nat.reduceLT, Nat.reduceLeDiff, Int.reduceLE, Int.reduceLT, Int.reduceToNat, Int.reduceBEq, Int.reduceBNe, Int.le_refl, Nat.le_refl, decide_true, decide_false, Int.cast_ofNat_Int, ↓reduceIte, h3753, h3756, h3759, h3762, h3765, h3766, g3769, g3770, g3771, h3772, g3774, g3775, g3776, h3777, h3937, g3938, h3939, g3940, g3941, g3942, g3943, h3944, g3947, g3948, h3949, h3953, h3955, g3956, h3957, g3968, g3969] <;> rfl) (by decide) rfl (by simp [roF, obL]) rfl ?_
                  have hh := getL_some h4020; clear h4020; obtain ⟨n3973, c3974, h3972, h4020⟩ := hh
                  have hh := grd_some h4020; clear h4020; obtain ⟨g3975, h4020⟩ := hh
                  have hh := grd_some h4020; clear h4020; obtain ⟨g3976, h4020⟩ := hh
                  have hh := grd_some h4020; clear h4020; obtain ⟨g3977, h4020⟩ := hh
                  refine W_sound tab_ok mixed 9 _ _ _ ?_
                  simp -implicitDefEqProofs only [go_sem, ne_eq, not_false_eq_true, Nat.reduceBEq, Nat.reduceAdd, Nat.reduceSub, Nat.reduceMul, Nat.reduceLT, Nat.reduceLeDiff, Int.reduceLE, Int.reduceLT, Int.reduceToNat, Int.reduceBEq, Int.reduceBNe, Int.le_refl, Nat.le_refl, decide_true, decide_false, Int.cast_ofNat_Int, ↓reduceIte, h3753, h3756, h3759, h3762, h3765, h3766, g3769, g3770, g3771, h3772, g3774, g3775, g3776, h3777, h3937, g3938, h3939, g3940, g3941, g3942, g3943, h3944, g3947, g3948, h3949, h3953, h3955, g3956, h3957, g3968, g3969, h3972, g3975, g3976, g3977]
                  repeat with_reducible refine And.intro (by first | kernel_rfl | decide) ?_
                  exact cutQ _ ((Wk_le (.cons _ _ _ _ _ (.refl _) (.cons _ _ _ _ _ (.refl _) (.cons _ _ _ _ _ (.refl _) (.cons _ _ _ _ _ (.refl _) (.cons _ _ _ _ _ (.refl _) (.cons _ _ _ _ _ (.refl _) (.cons _ _ _ _ _ (.refl _) (.cons _ _ _ _ _ (.refl _) (.cons _ _ _ _ _ (.refl _) (.cons _ _ _ _ _ (.dead _) (.cons _ _ _ _ _ (.refl _) (.cons _ _ _ _ _ (.dead _) (.cons _ _ _ _ _ (.dead _) .nil))))))))))))) (OLe.refl _)).trans (cmpS_ok (st' := ⟨[], [(0, .dead), (1, .v (.lst false n3757 c3758)), (2, .v (.lst false n3760 c3761)), (3, .v (.lst false n3763 c3764)), (4, .ptr 0 0), (8, .dead), (9, .sl false 1 0 (n3933 + n3973) 1), (10, .v (.lst false n3778 c3779)), (11, .v (.int .i64 (IntKind.i64.wrap (x3934 + 1)))), (12, .dead), (17, .dead), (32, .dead), (47, .dead)], [(0, .p [(.int .i64 x3950), (.lst false n3767 c3768)]), (1, .p (c3936 ++ c3974))], 2, []⟩) (by kernel_rfl))) ⟨n, Nat.lt_succ_self n, _, _, _, _, h4020, rfl⟩
              · refine W_sound tab_ok mixed 9 _ _ _ ?_
                simp -implicitDefEqProofs only [go_sem, ne_eq, not_false_eq_true, Nat.reduceBEq, Nat.reduceAdd, Nat.reduceSub, Nat.reduceMul, Nat.reduceLT, Nat.reduceLeDiff, Int.reduceLE, Int.reduceLT, Int.reduceToNat, Int.reduceBEq, Int.reduceBNe, Int.le_refl, Nat.le_refl, decide_true, decide_false, Int.cast_ofNat_Int, ↓reduceIte, h3753, h3756, h3759, h3762, h3765, h3766, g3769, g3770, g3771, h3772, g3774, g3775, g3776, h3777, h3937, g3938, h3939, g3940, g3941, g3942, g3943, h3944, g3947, g3948, h3949, h3953, h3955]
                repeat with_reducible refine And.intro (by first | kernel_rfl | decide) ?_
                exact cutQ _ ((Wk_le (.cons _ _ _ _ _ (.refl _) (.cons _ _ _ _ _ (.refl _) (.cons _ _ _ _ _ (.refl _) (.cons _ _ _ _ _ (.refl _) (.cons _ _ _ _ _ (.refl _) (.cons _ _ _ _ _ (.refl _) (.cons _ _ _ _ _ (.refl _) (.cons _ _ _ _ _ (.refl _) (.cons _ _ _ _ _ (.refl _) (.cons _ _ _ _ _ (.dead _) (.cons _ _ _ _ _ (.refl _) (.cons _ _ _ _ _ (.dead _) (.cons _ _ _ _ _ (.dead _) .nil))))))))))))) (OLe.refl _)).trans (cmpS_ok (st' := ⟨[], [(0, .dead), (1, .v (.lst false n3757 c3758)), (2, .v (.lst false n3760 c3761)), (3, .v (.lst false n3763 c3764)), (4, .ptr 0 0), (8, .dead), (9, .sl false 1 0 n3933 1), (10, .v (.lst false n3778 c3779)), (11, .v (.int .i64 (IntKind.i64.wrap (x3934 + 1)))), (12, .dead), (17, .dead), (32, .dead), (47, .dead)], [(0, .p [(.int .i64 x3950), (.lst false n3767 c3768)]), (1, .p c3936)], 2, []⟩) (by kernel_rfl))) ⟨n, Nat.lt_succ_self n, _, _, _, _, h4020, rfl⟩
            · have hh := grd_some h4020; clear h4020; obtain ⟨g3978, h4020⟩ := hh
              have hh := grd_some h4020; clear h4020; obtain ⟨⟨g3979, g3980⟩, h4020⟩ := hh
              have hh := grd_some h4020; clear h4020; obtain ⟨g3981, h4020⟩ := hh
              have hh := getA2_some h4020; clear h4020; obtain ⟨p3983, p3984, h3982, h4020⟩ := hh
              injection h3982 with h3982
              have hh := grd_some h4020; clear h4020; obtain ⟨g3985, h4020⟩ := hh
              refine W_sound tab_ok mixed 26 _ _ _ ?_
              simp -implicitDefEqProofs only [go_sem, ne_eq, not_false_eq_true, Nat.reduceBEq, Nat.reduceAdd, Nat.reduceSub, Nat.reduceMul, Nat.reduceLT, Nat.reduceLeDiff, Int.reduceLE, Int.reduceLT, Int.reduceToNat, Int.reduceBEq, Int.reduceBNe, Int.le_refl, Nat.le_refl, decide_true, decide_false, Int.cast_ofNat_Int, ↓reduceIte, h3753, h3756, h3759, h3762, h3765, h3766, g3769, g3770, g3771, h3772, g3774, g3775, g3776, h3777, h3937, g3938, h3939, g3978, g3979, g3980, g3981, h3982, g3985]
              repeat with_reducible refine And.intro (by first | kernel_rfl | decide) ?_
              have hh := grd_some h4020; clear h4020; obtain ⟨g3986, h4020⟩ := hh
              refine Wp_wkK (Wk_freeze 45 (c3764 ++ [p3983, p3984]) (by rfl) (by decide) (by decide)) rfl ?_
              simp -implicitDefEqProofs only [go_sem, ne_eq, not_false_eq_true, Nat.reduceBEq, Nat.reduceAdd, Nat.reduceSub, Nat.reduceMul, Nat.reduceLT, Nat.reduceLeDiff, Int.reduceLE, Int.reduceLT, Int.reduceToNat, Int.reduceBEq, Int.reduceBNe, Int.le_refl, Nat.le_refl, decide_true, decide_false, Int.cast_ofNat_Int, ↓reduceIte, h3753, h3756, h3759, h3762, h3765, h3766, g3769, g3770, g3771, h3772, g3774, g3775, g3776, h3777, h3937, g3938, h3939, g3978, g3979, g3980, g3981, h3982, g3985, g3986]
              have hh := getI_some h4020; clear h4020; obtain ⟨x3988, h3987, h4020⟩ := hh
              have hh := bnd'_some h4020; clear h4020; obtain ⟨p3989, h3990, h4020⟩ := hh
              refine W_sound tab_ok mixed 4 _ _ _ ?_
              simp -implicitDefEqProofs only [go_sem, ne_eq, not_false_eq_true, Nat.reduceBEq, Nat.reduceAdd, Nat.reduceSub, Nat.reduceMul, Nat.reduceLT, Nat.reduceLeDiff, Int.reduceLE, Int.reduceLT, Int.reduceToNat, Int.reduceBEq, Int.reduceBNe, Int.le_refl, Nat.le_refl, decide_true, decide_false, Int.cast_ofNat_Int, ↓reduceIte, h3753, h3756, h3759, h3762, h3765, h3766, g3769, g3770, g3771, h3772, g3774, g3775, g3776, h3777, h3937, g3938, h3939, g3978, g3979, g3980, g3981, h3982, g3985, g3986, h3987]
              repeat with_reducible refine And.intro (by first | kernel_rfl | decide) ?_
              refine Wp_callP (c74 N _ _ _ h3990) (by kernel_rfl) rfl rfl rfl rfl (by decide) ?_
              have hh := getB_some h4020; clear h4020; obtain ⟨b3992, h3991, h4020⟩ := hh
              have hh := brn_some h4020; clear h4020; rcases hh with ⟨h3993, h4020⟩ | ⟨h3993, h4020⟩
              · have hh := grd_some h4020; clear h4020; obtain ⟨g3994, h4020⟩ := hh
                have hh := brn_some h4020; clear h4020; rcases hh with ⟨h3995, h4020⟩ | ⟨h3995, h4020⟩
                · have hh := grd_some h4020; clear h4020; obtain ⟨g3996, h4020⟩ := hh
                  have hh := grd_some h4020; clear h4020; obtain ⟨g3997, h4020⟩ := hh
                  have hh := bnd'_some h4020; clear h4020; obtain ⟨p3998, h3999, h4020⟩ := hh
                  refine W_sound tab_ok mixed 13 _ _ _ ?_
                  simp -implicitDefEqProofs only [go_sem, ne_eq, not_false_eq_true, Nat.reduceBEq, Nat.reduceAdd, Nat.reduceSub, Nat.reduceMul, Nat.reduceLT, Nat.reduceLeDiff, Int.reduceLE, Int.reduceLT, Int.reduceToNat, Int.reduceBEq, Int.reduceBNe, Int.le_refl, Nat.le_refl, decide_true, decide_false, Int.cast_ofNat_Int, ↓reduceIte, h3753, h3756, h3759, h3762, h3765, h3766, g3769, g3770, g3771, h3772, g3774, g3775, g3776, h3777, h3937, g3938, h3939, g3978, g3979, g3980, g3981, h3982, g3985, g3986, h3987, h3991, h3993, g3994, h3995, g3996, g3997]
                  repeat with_reducible refine And.intro (by first | kernel_rfl | decide) ?_
                  refine Wp_callF [(102, (c3761 ++ [(.int .i64 x3934)]))] (ih _ _ _ _ _ h3999) (by kernel_rfl) rfl rfl rfl (by simp only [go_sem, ne_eq, not_false_eq_true, Nat.reduceBEq, Nat.reduceAdd, Nat.reduceSub, Nat.reduceMul, Nat.reduceLT, Nat.reduceLeDiff, Int.reduceLE, Int.reduceLT, Int.reduceToNat, Int.reduceBEq, Int.reduceBNe, Int.le_refl, Nat.le_refl, decide_true, decide_false, Int.cast_ofNat_Int, ↓reduceIte, h3753, h3756, h3759, h3762, h3765, h3766, g3769, g3770, g3771, h3772, g3774, g3775, g3776, h3777, h3937, g3938, h3939, g3978, g3979, g3980, g3981, h3982, g3985, g3986, h3987, h3991, h3993, g3994, h3995, g3996, g3997] <;> rfl) (by decide) rfl (by simp [roF, obL]) rfl ?_
                  have hh := getL_some h4020; clear h4020; obtain ⟨n4001, c4002, h4000, h4020⟩ := hh
                  have hh := grd_some h4020; clear h4020; obtain ⟨g4003, h4020⟩ := hh
                  have hh := grd_some h4020; clear h4020; obtain ⟨g4004, h4020⟩ := hh
                  have hh := grd_some h4020; clear h4020; obtain ⟨g4005, h4020⟩ := hh
                  refine W_sound tab_ok mixed 9 _ _ _ ?_
                  simp -implicitDefEqProofs only [go_sem, ne_eq, not_false_eq_true, Nat.reduceBEq, Nat.reduceAdd, Nat.reduceSub, Nat.reduceMul, Nat.reduceLT, Nat.reduceLeDiff, Int.reduceLE, Int.reduceLT, Int.reduceToNat, Int.reduceBEq, Int.reduceBNe, Int.le_refl, Nat.le_refl, decide_true, decide_false, Int.cast_ofNat_Int, ↓reduceIte, h3753, h3756, h3759, h3762, h3765, h3766, g3769, g3770, g3771, h3772, g3774, g3775, g3776, h3777, h3937, g3938, h3939, g3978, g3979, g3980, g3981, h3982, g3985, g3986, h3987, h3991, h3993, g3994, h3995, g3996, g3997, h4000, g4003, g4004, g4005]
                  repeat with_reducible refine And.intro (by first | kernel_rfl | decide) ?_
                  exact cutQ _ ((Wk_le (.cons _ _ _ _ _ (.refl _) (.cons _ _ _ _ _ (.refl _) (.cons _ _ _ _ _ (.refl _) (.cons _ _ _ _ _ (.refl _) (.cons _ _ _ _ _ (.refl _) (.cons _ _ _ _ _ (.refl _) (.cons _ _ _ _ _ (.refl _) (.cons _ _ _ _ _ (.refl _) (.cons _ _ _ _ _ (.refl _) (.cons _ _ _ _ _ (.dead _) (.cons _ _ _ _ _ (.refl _) (.cons _ _ _ _ _ (.dead _) (.cons _ _ _ _ _ (.dead _) .nil))))))))))))) (OLe.refl _)).trans (cmpS_ok (st' := ⟨[], [(0, .dead), (1, .v (.lst false n3757 c3758)), (2, .v (.lst false n3760 c3761)), (3, .v (.lst false n3763 c3764)), (4, .ptr 0 0), (8, .dead), (9, .sl false 1 0 (n3933 + n4001) 1), (10, .v (.lst false n3778 c3779)), (11, .v (.int .i64 (IntKind.i64.wrap (x3934 + 1)))), (12, .dead), (17, .dead), (32, .dead), (47, .dead)], [(0, .p [(.int .i64 x3988), (.lst false n3767 c3768)]), (1, .p (c3936 ++ c4002))], 2, []⟩) (by kernel_rfl))) ⟨n, Nat.lt_succ_self n, _, _, _, _, h4020, rfl⟩
                · have hh := grd_some h4020; clear h4020; obtain ⟨g4006, h4020⟩ := hh
                  have hh := grd_some h4020; clear h4020; obtain ⟨g4007, h4020⟩ := hh
                  have hh := bnd'_some h4020; clear h4020; obtain ⟨p4008, h4009, h4020⟩ := hh
                  refine W_sound tab_ok mixed 13 _ _ _ ?_
                  simp -implicitDefEqProofs only [go_sem, ne_eq, not_false_eq_true, Nat.reduceBEq, Nat.reduceAdd, Nat.reduceSub, Nat.reduceMul, Nat.reduceLT, Nat.reduceLeDiff, Int.reduceLE, Int.reduceLT, Int.reduceToNat, Int.reduceBEq, Int.reduceBNe, Int.le_refl, Nat.le_refl, decide_true, decide_false, Int.cast_ofNat_Int, ↓reduceIte, h3753, h3756, h3759, h3762, h3765, h3766, g3769, g3770, g3771, h3772, g3774, g3775, g3776, h3777, h3937, g3938, h3939, g3978, g3979, g3980, g3981, h3982, g3985, g3986, h3987, h3991, h3993, g3994, h3995, g4006, g4007]
                  repeat with_reducible refine And.intro (by first | kernel_rfl | decide) ?_
                  refine Wp_callF [(102, (c3761 ++ [(.int .i64 x3934)]))] (ih _ _ _ _ _ h4009) (by kernel_rfl) rfl rfl rfl (by simp only [go_sem, ne_eq, not_false_eq_true, Nat.reduceBEq, Nat.reduceAdd, Nat.reduceSub, Nat.reduceMul, Nat.reduceLT, Nat.reduceLeDiff, Int.reduceLE, Int.reduceLT, Int.reduceToNat, Int.reduceBEq, Int.reduceBNe, Int.le_refl, Nat.le_refl, decide_true, decide_false, Int.cast_ofNat_Int, ↓reduceIte, h3753, h3756, h3759, h3762, h3765, h3766, g3769, g3770, g3771, h3772, g3774, g3775, g3776, h3777, h3937, g3938, h3939, g3978, g3979, g3980, g3981, h3982, g3985, g3986, h3987, h3991, h3993, g3994, h3995, g4006, g4007] <;> rfl) (by decide) rfl (by simp [roF, obL]) rfl ?_
                  have hh := getL_some h4020; clear h4020; obtain ⟨n4011, c4012, h4010, h4020⟩ := hh
                  have hh := grd_some h4020; clear h4020; obtain ⟨g4013, h4020⟩ := hh
                  have hh := grd_some h4020; clear h4020; obtain ⟨g4014, h4020⟩ := hh
                  have hh := grd_some h4020; clear h4020; obtain ⟨g4015, h4020⟩ := hh
                  refine W_sound tab_ok mixed 9 _ _ _ ?_
                  simp -implicitDefEqProofs only [go_sem, ne_eq, not_false_eq_true, Nat.reduceBEq, Nat.reduceAdd, Nat.reduceSub, Nat.reduceMul, Nat.reduceLT, Nat.reduceLeDiff, Int.reduceLE, Int.reduceLT, Int.reduceToNat, Int.reduceBEq, Int.reduceBNe, Int.le_refl, Nat.le_refl, decide_true, decide_false, Int.cast_ofNat_Int, ↓reduceIte, h3753, h3756, h3759, h3762, h3765, h3766, g3769, g3770, g3771, h3772, g3774, g3775, g3776, h3777, h3937, g3938, h3939, g3978, g3979, g3980, g3981, h3982, g3985, g3986, h3987, h3991, h3993, g3994, h3995, g4006, g4007, h4010, g4013, g4014, g4015]
                  repeat with_reducible refine And.intro (by first | kernel_rfl | decide) ?_
                  exact cutQ _ ((Wk_le (.cons _ _ _ _ _ (.refl _) (.cons _ _ _ _ _ (.refl _) (.cons _ _ _ _ _ (.refl _) (.cons _ _ _ _ _ (.refl _) (.cons _ _ _ _ _ (.refl _) (.cons _ _ _ _ _ (.refl _) (.cons _ _ _ _ _ (.refl _) (.cons _ _ _ _ _ (.refl _) (.cons _ _ _ _ _ (.refl _) (.cons _ _ _ _ _ (.dead _) (.cons _ _ _ _ _ (.refl _) (.cons _ _ _ _ _ (.dead _) (.cons _ _ _ _ _ (.dead _) .nil))))))))))))) (OLe.refl _)).trans (cmpS_ok (st' := ⟨[], [(0, .dead), (1, .v (.lst false n3757 c3758)), (2, .v (.lst false n3760 c3761)), (3, .v (.lst false n3763 c3764)), (4, .ptr 0 0), (8, .dead), (9, .sl false 1 0 (n3933 + n4011) 1), (10, .v (.lst false n3778 c3779)), (11, .v (.int .i64 (IntKind.i64.wrap (x3934 + 1)))), (12, .dead), (17, .dead), (32, .dead), (47, .dead)], [(0, .p [(.int .i64 x3988), (.lst false n3767 c3768)]), (1, .p (c3936 ++ c4012))], 2, []⟩) (by kernel_rfl))) ⟨n, Nat.lt_succ_self n, _, _, _, _, h4020, rfl⟩
              · refine W_sound tab_ok mixed 9 _ _ _ ?_
                simp -implicitDefEqProofs only [go_sem, ne_eq, not_false_eq_true, Nat.reduceBEq, Nat.reduceAdd, Nat.reduceSub, Nat.reduceMul, Nat.reduceLT, Nat.reduceLeDiff, Int.reduceLE, Int.reduceLT, Int.reduceToNat, Int.reduceBEq, Int.reduceBNe, Int.le_refl, Nat.le_refl, decide_true, decide_false, Int.cast_ofNat_Int, ↓reduceIte, h3753, h3756, h3759, h3762, h3765, h3766, g3769, g3770, g3771, h3772, g3774, g3775, g3776, h3777, h3937, g3938, h3939, g3978, g3979, g3980, g3981, h3982, g3985, g3986, h3987, h3991, h3993]
                repeat with_reducible refine And.intro (by first | kernel_rfl | decide) ?_
                exact cutQ _ ((Wk_le (.cons _ _ _ _ _ (.refl _) (.cons _ _ _ _ _ (.refl _) (.cons _ _ _ _ _ (.refl _) (.cons _ _ _ _ _ (.refl _) (.cons _ _ _ _ _ (.refl _) (.cons _ _ _ _ _ (.refl _) (.cons _ _ _ _ _ (.refl _) (.cons _ _ _ _ _ (.refl _) (.cons _ _ _ _ _ (.refl _) (.cons _ _ _ _ _ (.dead _) (.cons _ _ _ _ _ (.refl _) (.cons _ _ _ _ _ (.dead _) (.cons _ _ _ _ _ (.dead _) .nil))))))))))))) (OLe.refl _)).trans (cmpS_ok (st' := ⟨[], [(0, .dead), (1, .v (.lst false n3757 c3758)), (2, .v (.lst false n3760 c3761)), (3, .v (.lst false n3763 c3764)), (4, .ptr 0 0), (8, .dead), (9, .sl false 1 0 n3933 1), (10, .v (.lst false n3778 c3779)), (11, .v (.int .i64 (IntKind.i64.wrap (x3934 + 1)))), (12, .dead), (17, .dead), (32, .dead), (47, .dead)], [(0, .p [(.int .i64 x3988), (.lst false n3767 c3768)]), (1, .p c3936)], 2, []⟩) (by kernel_rfl))) ⟨n, Nat.lt_succ_self n, _, _, _, _, h4020, rfl⟩
          · refine W_sound tab_ok mixed 10 _ _ _ ?_
            simp -implicitDefEqProofs only [go_sem, ne_eq, not_false_eq_true, Nat.reduceBEq, Nat.reduceAdd, Nat.reduceSub, Nat.reduceMul, Nat.reduceLT, Nat.reduceLeDiff, Int.reduceLE, Int.reduceLT, Int.reduceToNat, Int.reduceBEq, Int.reduceBNe, Int.le_refl, Nat.le_refl, decide_true, decide_false, Int.cast_ofNat_Int, ↓reduceIte, h3753, h3756, h3759, h3762, h3765, h3766, g3769, g3770, g3771, h3772, g3774, g3775, g3776, h3777, h3937]
            repeat with_reducible refine And.intro (by first | kernel_rfl | decide) ?_
            obtain rfl := Option.some.inj h4020
            exact cutQ _ ((Wk_le (.cons _ _ _ _ _ (.refl _) (.cons _ _ _ _ _ (.dead _) (.cons _ _ _ _ _ (.dead _) (.cons _ _ _ _ _ (.dead _) (.cons _ _ _ _ _ (.dead _) (.cons _ _ _ _ _ (.refl _) (.cons _ _ _ _ _ (.refl _) (.cons _ _ _ _ _ (.dead _) (.cons _ _ _ _ _ (.dead _) (.cons _ _ _ _ _ (.refl _) (.cons _ _ _ _ _ (.refl _) (.cons _ _ _ _ _ (.dead _) (.cons _ _ _ _ _ (.refl _) .nil))))))))))))) (OLe.refl _)).trans (cmpS_ok (st' := ⟨[], [(0, .dead), (1, .dead), (2, .dead), (3, .dead), (4, .dead), (8, .dead), (9, .sl false 0 0 n3933 1), (10, .dead), (11, .dead), (12, .dead), (17, .dead), (32, .dead), (47, .dead)], [(0, .p c3936)], 1, []⟩) (by kernel_rfl))) ⟨_, _, rfl, rfl⟩
      · rintro _ ⟨n4016, c4017, rfl, rfl⟩
        (try dsimp only at h4021)
        refine W_sound tab_ok mixed 7 _ _ _ ?_
        simp -implicitDefEqProofs only [go_sem, ne_eq, not_false_eq_true, Nat.reduceBEq, Nat.reduceAdd, Nat.reduceSub, Nat.reduceMul, Nat.reduceLT, Nat.reduceLeDiff, Int.reduceLE, Int.reduceLT, Int.reduceToNat, Int.reduceBEq, Int.reduceBNe, Int.le_refl, Nat.le_refl, decide_true, decide_false, Int.cast_ofNat_Int, ↓reduceIte, h3753, h3756, h3759, h3762, h3765, h3766, g3769, g3770, g3771, h3772, g3774, g3775, g3776, h3777]
        repeat with_reducible refine And.intro (by first | kernel_rfl | decide) ?_
        have hh := grd_some h4021; clear h4021; obtain ⟨g4018, h4021⟩ := hh
        refine FinQ_wk (Wk_freeze 0 c4017 (by rfl) (by decide) (by decide)) ?_
        simp -implicitDefEqProofs only [go_sem, ne_eq, not_false_eq_true, Nat.reduceBEq, Nat.reduceAdd, Nat.reduceSub, Nat.reduceMul, Nat.reduceLT, Nat.reduceLeDiff, Int.reduceLE, Int.reduceLT, Int.reduceToNat, Int.reduceBEq, Int.reduceBNe, Int.le_refl, Nat.le_refl, decide_true, decide_false, Int.cast_ofNat_Int, ↓reduceIte, h3753, h3756, h3759, h3762, h3765, h3766, g3769, g3770, g3771, h3772, g3774, g3775, g3776, h3777, g4018]
        obtain rfl := Option.some.inj h4021
        exact finC [(8, .v (.lst false n4016 c4017))] [(8, .v (.lst false n4016 c4017))] (by simp [leE, lk_cons]) (.cons _ _ _ _ _ (.v _ _ (.refl _)) .nil) (by rfl) (by simp [leE, lk_cons]) (by decide) (by decide) rfl (by simp only [go_sem, ne_eq, not_false_eq_true, Nat.reduceBEq, Nat.reduceAdd, Nat.reduceSub, Nat.reduceMul, Nat.reduceLT, Nat.reduceLeDiff, Int.reduceLE, Int.reduceLT, Int.reduceToNat, Int.reduceBEq, Int.reduceBNe, Int.le_refl, Nat.le_refl, decide_true, decide_false, Int.cast_ofNat_Int, ↓reduceIte, resQ_tmp, resQ_cell, resQ_nil, retD_one, retD_two, retD_three, retD_none]; try simp [R.val, retD_one, retD_two, retD_three, retD_none])

def m27 (N : Nat) (p3735 : PV) : Option (PV) :=
  getA2 p3735 fun p3737 p3738 =>
  bnd' (m23 N (.agg [p3737, p3738])) fun p3739 =>
  getI .i64 p3739 fun x3742 =>
  brn (x3742 != 0) (
    some (.tup [(.lst false 0 []), (.int .i64 x3742)])) (
    bnd' (m80 N (.agg [p3737, p3738])) fun p3744 =>
    getL p3744 fun n3747 c3748 =>
    bnd' (m79 N N (.agg [p3737, p3738]) (.lst false n3747 c3748) (.lst false 0 []) (.lst false 0 [])) fun p4022 =>
    getL p4022 fun n4025 c4026 =>
    brn (((n4025 : Nat) : Int) == 0) (
      some (.tup [(.lst false 0 []), (.int .i64 12)])) (
      grd (0 < ((n4025 : Nat) : Int)) <|
      grd (0 < List.length c4026) <|
      getL (gp c4026 0) fun n4031 c4032 =>
      some (.tup [(.lst false n4031 c4032), (.int .i64 0)])))
theorem c27 (N : Nat) (p3735 : PV) (r : PV)  (h : m27 N p3735 = some r) : FnP Tryd.prog 27 [p3735] r := by
  unfold m27 at h
  refine Fn_of (sz := 21) tab_ok [0, 1, 2, 3, 4, 5, 9, 17] [.tmp 2, .tmp 3] Tryd.func27 rfl rfl rfl (by simp) ?_
  simp only [initSt, initEnv, List.map_cons, List.map_nil, List.getD_cons_zero, List.getD_cons_succ, List.getD_nil]
  have hh := getA2_some h; clear h; obtain ⟨p3737, p3738, h3736, h⟩ := hh
  have hh := bnd'_some h; clear h; obtain ⟨p3739, h3740, h⟩ := hh
  refine W_sound tab_ok mixed 9 _ _ _ ?_
  simp -implicitDefEqProofs only [go_sem, ne_eq, not_false_eq_true, Nat.reduceBEq, Nat.reduceAdd, Nat.reduceSub, Nat.reduceMul, Nat.reduceLT, Nat.reduceLeDiff, Int.reduceLE, Int.reduceLT, Int.reduceToNat, Int.reduceBEq, Int.reduceBNe, Int.le_refl, Nat.le_refl, decide_true, decide_false, Int.cast_ofNat_Int, ↓reduceIte, h3736]
  repeat with_reducible refine And.intro (by first | kernel_rfl | decide) ?_
  refine Wp_callP (c23 N _ _ h3740) (by kernel_rfl) rfl rfl rfl rfl (by decide) ?_
  have hh := getI_some h; clear h; obtain ⟨x3742, h3741, h⟩ := hh
  have hh := brn_some h; clear h; rcases hh with ⟨h3743, h⟩ | ⟨h3743, h⟩
  · refine W_sound tab_ok mixed 17 _ _ _ ?_
    simp -implicitDefEqProofs only [go_sem, ne_eq, not_false_eq_true, Nat.reduceBEq, Nat.reduceAdd, Nat.reduceSub, Nat.reduceMul, Nat.reduceLT, Nat.reduceLeDiff, Int.reduceLE, Int.reduceLT, Int.reduceToNat, Int.reduceBEq, Int.reduceBNe, Int.le_refl, Nat.le_refl, decide_true, decide_false, Int.cast_ofNat_Int, ↓reduceIte, h3736, h3741, h3743]
    repeat with_reducible refine And.intro (by first | kernel_rfl | decide) ?_
    obtain rfl := Option.some.inj h
    exact finC [(2, .v .nl), (3, .v (.int .i64 x3742))] [(2, .v (.lst false 0 [])), (3, .v (.int .i64 x3742))] (by simp [leE, lk_cons]) (.cons _ _ _ _ _ (.v _ _ (.nl false)) (.cons _ _ _ _ _ (.v _ _ (.refl _)) .nil)) (by rfl) (by simp [leE, lk_cons]) (by decide) (by decide) rfl (by simp only [go_sem, ne_eq, not_false_eq_true, Nat.reduceBEq, Nat.reduceAdd, Nat.reduceSub, Nat.reduceMul, Nat.reduceLT, Nat.reduceLeDiff, Int.reduceLE, Int.reduceLT, Int.reduceToNat, Int.reduceBEq, Int.reduceBNe, Int.le_refl, Nat.le_refl, decide_true, decide_false, Int.cast_ofNat_Int, ↓reduceIte, resQ_tmp, resQ_cell, resQ_nil, retD_one, retD_two, retD_three, retD_none]; try simp [R.val, retD_one, retD_two, retD_three, retD_none])
  · have hh := bnd'_some h; clear h; obtain ⟨p3744, h3745, h⟩ := hh
    refine W_sound tab_ok mixed 14 _ _ _ ?_
    simp -implicitDefEqProofs only [go_sem, ne_eq, not_false_eq_true, Nat.reduceBEq, Nat.reduceAdd, Nat.reduceSub, Nat.reduceMul, Nat.reduceLT, Nat.reduceLeDiff, Int.reduceLE, Int.reduceLT, Int.reduceToNat, Int.reduceBEq, Int.reduceBNe, Int.le_refl, Nat.le_refl, decide_true, decide_false, Int.cast_ofNat_Int, ↓reduceIte, h3736, h3741, h3743]
    repeat with_reducible refine And.intro (by first | kernel_rfl | decide) ?_
    refine Wp_callP (c80 N _ _ h3745) (by kernel_rfl) rfl rfl rfl rfl (by decide) ?_
    have hh := getL_some h; clear h; obtain ⟨n3747, c3748, h3746, h⟩ := hh
    have hh := bnd'_some h; clear h; obtain ⟨p4022, h4023, h⟩ := hh
    (try simp -implicitDefEqProofs only [go_sem, ne_eq, not_false_eq_true, Nat.reduceBEq, Nat.reduceAdd, Nat.reduceSub, Nat.reduceMul, Nat.reduceLT, Nat.reduceLeDiff, Int.reduceLE, Int.reduceLT, Int.reduceToNat, Int.reduceBEq, Int.reduceBNe, Int.le_refl, Nat.le_refl, decide_true, decide_false, Int.cast_ofNat_Int, ↓reduceIte, h3736, h3741, h3743, h3746])
    refine Wp_callP (FnP_le (c79 N N _ _ _ _ _ h4023) (.cons _ _ _ _ (.refl _) (.cons _ _ _ _ (.refl _) (.cons _ _ _ _ (.nl false) (.cons _ _ _ _ (.nl false) .nil)))) (.refl _)) (by kernel_rfl) rfl rfl rfl rfl (by decide) ?_
    have hh := getL_some h; clear h; obtain ⟨n4025, c4026, h4024, h⟩ := hh
    have hh := brn_some h; clear h; rcases hh with ⟨h4027, h⟩ | ⟨h4027, h⟩
    · refine W_sound tab_ok mixed 17 _ _ _ ?_
      simp -implicitDefEqProofs only [go_sem, ne_eq, not_false_eq_true, Nat.reduceBEq, Nat.reduceAdd, Nat.reduceSub, Nat.reduceMul, Nat.reduceLT, Nat.reduceLeDiff, Int.reduceLE, Int.reduceLT, Int.reduceToNat, Int.reduceBEq, Int.reduceBNe, Int.le_refl, Nat.le_refl, decide_true, decide_false, Int.cast_ofNat_Int, ↓reduceIte, h3736, h3741, h3743, h3746, h4024, h4027]
      repeat with_reducible refine And.intro (by first | kernel_rfl | decide) ?_
      obtain rfl := Option.some.inj h
      exact finC [(2, .v .nl), (3, .v (.int .i64 12))] [(2, .v (.lst false 0 [])), (3, .v (.int .i64 12))] (by simp [leE, lk_cons]) (.cons _ _ _ _ _ (.v _ _ (.nl false)) (.cons _ _ _ _ _ (.v _ _ (.refl _)) .nil)) (by rfl) (by simp [leE, lk_cons]) (by decide) (by decide) rfl (by simp only [go_sem, ne_eq, not_false_eq_true, Nat.reduceBEq, Nat.reduceAdd, Nat.reduceSub, Nat.reduceMul, Nat.reduceLT, Nat.reduceLeDiff, Int.reduceLE, Int.reduceLT, Int.reduceToNat, Int.reduceBEq, Int.reduceBNe, Int.le_refl, Nat.le_refl, decide_true, decide_false, Int.cast_ofNat_Int, ↓reduceIte, resQ_tmp, resQ_cell, resQ_nil, retD_one, retD_two, retD_three, retD_none]; try simp [R.val, retD_one, retD_two, retD_three, retD_none])
    · have hh := grd_some h; clear h; obtain ⟨g4028, h⟩ := hh
      have hh := grd_some h; clear h; obtain ⟨g4029, h⟩ := hh
      have hh := getL_some h; clear h; obtain ⟨n4031, c4032, h4030, h⟩ := hh
      refine W_sound tab_ok mixed 21 _ _ _ ?_
      simp -implicitDefEqProofs only [go_sem, ne_eq, not_false_eq_true, Nat.reduceBEq, Nat.reduceAdd, Nat.reduceSub, Nat.reduceMul, Nat.reduceLT, Nat.reduceLeDiff, Int.reduceLE, Int.reduceLT, Int.reduceToNat, Int.reduceBEq, Int.reduceBNe, Int.le_refl, Nat.le_refl, decide_true, decide_false, Int.cast_ofNat_Int, ↓reduceIte, h3736, h3741, h3743, h3746, h4024, h4027, g4028, g4029, h4030]
      repeat with_reducible refine And.intro (by first | kernel_rfl | decide) ?_
      obtain rfl := Option.some.inj h
      exact finC [(2, .v (.lst false n4031 c4032)), (3, .v (.int .i64 0))] [(2, .v (.lst false n4031 c4032)), (3, .v (.int .i64 0))] (by simp [leE, lk_cons]) (.cons _ _ _ _ _ (.v _ _ (.refl _)) (.cons _ _ _ _ _ (.v _ _ (.refl _)) .nil)) (by rfl) (by simp [leE, lk_cons]) (by decide) (by decide) rfl (by simp only [go_sem, ne_eq, not_false_eq_true, Nat.reduceBEq, Nat.reduceAdd, Nat.reduceSub, Nat.reduceMul, Nat.reduceLT, Nat.reduceLeDiff, Int.reduceLE, Int.reduceLT, Int.reduceToNat, Int.reduceBEq, Int.reduceBNe, Int.le_refl, Nat.le_refl, decide_true, decide_false, Int.cast_ofNat_Int, ↓reduceIte, resQ_tmp, resQ_cell, resQ_nil, retD_one, retD_two, retD_three, retD_none]; try simp [R.val, retD_one, retD_two, retD_three, retD_none])

def m81 (N : Nat) (x4094 : Int) : Option ((PV × Int)) :=
  some ((.bool true), (IntKind.i64.wrap (x4094 + 1)))
theorem c81 (N : Nat) (x4094 : Int) (r : PV) (x4096 : Int) (h : m81 N x4094 = some (r, x4096)) : V.Fn Tryd.prog 81 1 [.v .nl, .ptr 0 0] [(0, .p [(.int .i64 x4094)])] (fun d ob' => d = .v r ∧ ob' = [(0, .p [(.int .i64 x4096)])]) := by
  unfold m81 at h
  refine Fn_of (sz := 6) tab_ok [0, 1, 3] [.tmp 3] Tryd.func81 rfl rfl rfl (by simp) ?_
  simp only [initSt, initEnv, List.map_cons, List.map_nil, List.getD_cons_zero, List.getD_cons_succ, List.getD_nil]
  refine W_sound tab_ok mixed 16 _ _ _ ?_
  simp -implicitDefEqProofs only [go_sem, ne_eq, not_false_eq_true, Nat.reduceBEq, Nat.reduceAdd, Nat.reduceSub, Nat.reduceMul, Nat.reduceLT, Nat.reduceLeDiff, Int.reduceLE, Int.reduceLT, Int.reduceToNat, Int.reduceBEq, Int.reduceBNe, Int.le_refl, Nat.le_refl, decide_true, decide_false, Int.cast_ofNat_Int, ↓reduceIte]
  repeat with_reducible refine And.intro (by first | kernel_rfl | decide) ?_
  simp only [Option.some.injEq, Prod.mk.injEq] at h; obtain ⟨rfl, rfl⟩ := h
  exact finD (e2 := [(0, .dead), (1, .dead), (3, .v (.bool true))]) (ob2 := [(0, .p [(.int .i64 (IntKind.i64.wrap (x4094 + 1)))])]) (st' := ⟨[], [(0, .dead), (1, .dead), (3, .v (.bool true))], [(0, .p [(.int .i64 (IntKind.i64.wrap (x4094 + 1)))])], 1, []⟩) (.cons _ _ _ _ _ (.dead _) (.cons _ _ _ _ _ (.dead _) (.cons _ _ _ _ _ (.refl _) .nil))) (.cons _ _ _ _ _ (DLes.refl _) .nil) (by kernel_rfl) (by simp only [go_sem, ne_eq, not_false_eq_true, Nat.reduceBEq, Nat.reduceAdd, Nat.reduceSub, Nat.reduceMul, Nat.reduceLT, Nat.reduceLeDiff, Int.reduceLE, Int.reduceLT, Int.reduceToNat, Int.reduceBEq, Int.reduceBNe, Int.le_refl, Nat.le_refl, decide_true, decide_false, Int.cast_ofNat_Int, ↓reduceIte, resQ_tmp, resQ_cell, resQ_nil, retD_one, retD_two, retD_three, retD_none]; try simp [R.val, retD_one, retD_two, retD_three, retD_none])

def m81_2 (N : Nat) (p4160 : PV) (x4161 : Int) : Option ((PV × Int)) :=
  getL p4160 fun n4164 c4165 =>
  some ((.bool true), (IntKind.i64.wrap (x4161 + 1)))
theorem c81_2 (N : Nat) (p4160 : PV) (x4161 : Int) (r : PV) (x4166 : Int) (h : m81_2 N p4160 x4161 = some (r, x4166)) : V.Fn Tryd.prog 81 1 [.v p4160, .ptr 0 0] [(0, .p [(.int .i64 x4161)])] (fun d ob' => d = .v r ∧ ob' = [(0, .p [(.int .i64 x4166)])]) := by
  unfold m81_2 at h
  refine Fn_of (sz := 6) tab_ok [0, 1, 3] [.tmp 3] Tryd.func81 rfl rfl rfl (by simp) ?_
  simp only [initSt, initEnv, List.map_cons, List.map_nil, List.getD_cons_zero, List.getD_cons_succ, List.getD_nil]
  have hh := getL_some h; clear h; obtain ⟨n4164, c4165, h4163, h⟩ := hh
  refine W_sound tab_ok mixed 16 _ _ _ ?_
  simp -implicitDefEqProofs only [go_sem, ne_eq, not_false_eq_true, Nat.reduceBEq, Nat.reduceAdd, Nat.reduceSub, Nat.reduceMul, Nat.reduceLT, Nat.reduceLeDiff, Int.reduceLE, Int.reduceLT, Int.reduceToNat, Int.reduceBEq, Int.reduceBNe, Int.le_refl, Nat.le_refl, decide_true, decide_false, Int.cast_ofNat_Int, ↓reduceIte, h4163]
  repeat with_reducible refine And.intro (by first | kernel_rfl | decide) ?_
  simp only [Option.some.injEq, Prod.mk.injEq] at h; obtain ⟨rfl, rfl⟩ := h
  exact finD (e2 := [(0, .dead), (1, .dead), (3, .v (.bool true))]) (ob2 := [(0, .p [(.int .i64 (IntKind.i64.wrap (x4161 + 1)))])]) (st' := ⟨[], [(0, .dead), (1, .dead), (3, .v (.bool true))], [(0, .p [(.int .i64 (IntKind.i64.wrap (x4161 + 1)))])], 1, []⟩) (.cons _ _ _ _ _ (.dead _) (.cons _ _ _ _ _ (.dead _) (.cons _ _ _ _ _ (.refl _) .nil))) (.cons _ _ _ _ _ (DLes.refl _) .nil) (by kernel_rfl) (by simp only [go_sem, ne_eq, not_false_eq_true, Nat.reduceBEq, Nat.reduceAdd, Nat.reduceSub, Nat.reduceMul, Nat.reduceLT, Nat.reduceLeDiff, Int.reduceLE, Int.reduceLT, Int.reduceToNat, Int.reduceBEq, Int.reduceBNe, Int.le_refl, Nat.le_refl, decide_true, decide_false, Int.cast_ofNat_Int, ↓reduceIte, resQ_tmp, resQ_cell, resQ_nil, retD_one, retD_two, retD_three, retD_none]; try simp [R.val, retD_one, retD_two, retD_three, retD_none])

def m99_4_L0 (N : Nat) (rec : PV → PV → PV → Int → PV → PV → Option ((PV × PV × Int × PV))) (p4223 : PV) (n4229 : Nat) (c4230 : List PV) (p4232 : PV) (p4233 : PV) (p4234 : PV) (p4235 : PV) (p4236 : PV) (n4258 : Nat) (c4259 : List PV) : Nat → Int → PV → Int → PV → Option (((PV × PV × Int × PV) ⊕ (PV × Int × PV)))
  | 0, _, _, _, _ => none
  | n + 1, x4292, p4293, x4294, p4295 =>
    brn (decide (x4292 < ((n4258 : Nat) : Int))) (
      grd (0 ≤ x4292 ∧ x4292 < ((n4258 : Nat) : Int)) <|
      grd (2 ≤ List.length (List.drop ((Int.toNat x4292) * 2) c4259)) <|
      getA2 (.agg (List.take 2 (List.drop ((Int.toNat x4292) * 2) c4259))) fun p4301 p4302 =>
      bnd' (m71 N (.agg [p4232, p4233, p4234, p4235, p4236]) (.agg [p4301, p4302])) fun p4303 =>
      getB p4303 fun b4306 =>
      brn b4306 (
        m99_4_L0 N rec p4223 n4229 c4230 p4232 p4233 p4234 p4235 p4236 n4258 c4259 n (IntKind.i64.wrap (x4292 + 1)) p4293 x4294 p4295) (
        grd (((n4229 : Nat) : Int) ≤ ((n4229 : Nat) : Int)) <|
        grd (List.length c4230 = n4229) <|
        grd ((n4229 + 1) ≤ 1099511627776) <|
        bnd' (m98 N (.agg [p4232, p4233, p4234, p4235, p4236]) (.agg [p4301, p4302])) fun p4311 =>
        getA5 p4311 fun p4314 p4315 p4316 p4317 p4318 =>
        bnd' (rec (.lst false (n4229 + 1) (c4230 ++ [(.int .i64 x4292)])) (.agg [p4314, p4315, p4316, p4317, p4318]) p4293 x4294 p4223 p4295) fun (p4319, p4321, x4322, p4323) =>
        getB p4319 fun b4325 =>
        brn b4325 (
          m99_4_L0 N rec p4223 n4229 c4230 p4232 p4233 p4234 p4235 p4236 n4258 c4259 n (IntKind.i64.wrap (x4292 + 1)) p4321 x4322 p4323) (
          some (.inl ((.bool false), p4321, x4322, p4323))))) (
      some (.inr (p4293, x4294, p4295)))
def m99_4 (N : Nat) : Nat → PV → PV → PV → Int → PV → PV → Option ((PV × PV × Int × PV))
  | 0, _, _, _, _, _, _ => none
  | fu + 1, p4219, p4220, p4221, x4222, p4223, p4224 =>
    getL p4219 fun n4229 c4230 =>
    getA5 p4220 fun p4232 p4233 p4234 p4235 p4236 =>
    getL p4221 fun n4238 c4239 =>
    brn (((n4229 : Nat) : Int) == ((n4238 : Nat) : Int)) (
      bnd' (m81_2 N (.lst false n4229 c4230) x4222) fun (p4241, x4243) =>
      getB p4241 fun b4245 =>
      some ((.bool b4245), (.lst false n4238 c4239), x4243, p4224)) (
      getL p4224 fun n4247 c4248 =>
      grd (0 ≤ ((n4229 : Nat) : Int) ∧ ((n4229 : Nat) : Int) < ((n4238 : Nat) : Int)) <|
      grd (0 < List.length (List.drop n4229 c4239)) <|
      getI .i64 (gp c4239 n4229) fun x4253 =>
      grd (0 ≤ x4253 ∧ x4253 < ((n4247 : Nat) : Int)) <|
      grd (0 < List.length (List.drop (Int.toNat x4253) c4248)) <|
      getL (gp c4248 (Int.toNat x4253)) fun n4258 c4259 =>
      bnd' (m99_4_L0 N (m99_4 N fu) p4223 n4229 c4230 p4232 p4233 p4234 p4235 p4236 n4258 c4259 N 0 (.lst false n4238 c4239) x4222 (.lst false n4247 c4248)) fun o =>
      match o with
      | .inl p4327 =>
        some p4327
      | .inr (p4328, x4329, p4330) =>
        some ((.bool true), p4328, x4329, p4330))
theorem c99_4 (N : Nat) : ∀ (fu : Nat) (p4219 : PV) (p4220 : PV) (p4221 : PV) (x4222 : Int) (p4223 : PV) (p4224 : PV) (r : PV) (p4334 : PV) (x4335 : Int) (p4336 : PV) (h : m99_4 N fu p4219 p4220 p4221 x4222 p4223 p4224 = some (r, p4334, x4335, p4336)), V.Fn Tryd.prog 99 5 [.v p4219, .v p4220, .ptr 0 0, .ptr 1 0, .ptr 3 0, .ptr 4 0] [(0, .p [p4221]), (1, .r [.fn 81 [.ptr 2 0]]), (2, .p [(.int .i64 x4222)]), (3, .p [p4223, p4224]), (4, .r [.fn 99 [.ptr 0 0, .ptr 1 0, .ptr 3 0, .ptr 4 0]])] (fun d ob' => d = .v r ∧ ob' = [(0, .p [p4334]), (1, .r [.fn 81 [.ptr 2 0]]), (2, .p [(.int .i64 x4335)]), (3, .p [p4223, p4336]), (4, .r [.fn 99 [.ptr 0 0, .ptr 1 0, .ptr 3 0, .ptr 4 0]])]) := by
  intro fu
  induction fu with
  | zero => intro p4219 p4220 p4221 x4222 p4223 p4224 r p4334 x4335 p4336 h; cases h
  | succ fu ih =>
    intro p4219 p4220 p4221 x4222 p4223 p4224 r p4334 x4335 p4336 h
    rw [m99_4] at h
    refine Fn_of (sz := 55) tab_ok [0, 1, 2, 3, 4, 5, 7, 8, 9, 10, 11, 17, 28, 29, 30, 31, 53] [.tmp 8] Tryd.func99 rfl rfl rfl (by simp) ?_
    simp only [initSt, initEnv, List.map_cons, List.map_nil, List.getD_cons_zero, List.getD_cons_succ, List.getD_nil]
    have hh := getL_some h; clear h; obtain ⟨n4229, c4230, h4228, h⟩ := hh
    have hh := getA5_some h; clear h; obtain ⟨p4232, p4233, p4234, p4235, p4236, h4231, h⟩ := hh
    have hh := getL_some h; clear h; obtain ⟨n4238, c4239, h4237, h⟩ := hh
    have hh := brn_some h; clear h; rcases hh with ⟨h4240, h⟩ | ⟨h4240, h⟩
    · have hh := bnd'_some h; clear h; obtain ⟨⟨p4241, x4243⟩, h4242, h⟩ := hh
      (try dsimp only at h)
      refine W_sound tab_ok mixed 24 _ _ _ ?_
      simp -implicitDefEqProofs only [go_sem, ne_eq, not_false_eq_true, Nat.reduceBEq, Nat.reduceAdd, Nat.reduceSub, Nat.reduceMul, Nat.reduceLT, Nat.reduceLeDiff, Int.reduceLE, Int.reduceLT, Int.reduceToNat, Int.reduceBEq, Int.reduceBNe, Int.le_refl, Nat.le_refl, decide_true, decide_false, Int.cast_ofNat_Int, ↓reduceIte, h4228, h4231, h4237, h4240]
      repeat with_reducible refine And.intro (by first | kernel_rfl | decide) ?_
      refine Wp_callD [2] (c81_2 N _ _ _ _ h4242) rfl rfl rfl (by first | rfl | (simp only [go_sem, ne_eq, not_false_eq_true, Nat.reduceBEq, Nat.reduceAdd, Nat.reduceSub, Nat.reduceMul, Nat.reduceLT, Nat.reduceLeDiff, Int.reduceLE, Int.reduceLT, Int.reduceToNat, Int.reduceBEq, Int.reduceBNe, Int.le_refl, Nat.le_refl, decide_true, decide_false, Int.cast_ofNat_Int, ↓reduceIte, h4228, h4231, h4237, h4240] <;> rfl)) rfl (by kernel_rfl) ?_
      have hh := getB_some h; clear h; obtain ⟨b4245, h4244, h⟩ := hh
      refine W_sound tab_ok mixed 4 _ _ _ ?_
      simp -implicitDefEqProofs only [go_sem, ne_eq, not_false_eq_true, Nat.reduceBEq, Nat.reduceAdd, Nat.reduceSub, Nat.reduceMul, Nat.reduceLT, Nat.reduceLeDiff, Int.reduceLE, Int.reduceLT, Int.reduceToNat, Int.reduceBEq, Int.reduceBNe, Int.le_refl, Nat.le_refl, decide_true, decide_false, Int.cast_ofNat_Int, ↓reduceIte, h4228, h4231, h4237, h4240, h4244]
      repeat with_reducible refine And.intro (by first | kernel_rfl | decide) ?_
      simp only [Option.some.injEq, Prod.mk.injEq] at h; obtain ⟨rfl, rfl, rfl, rfl⟩ := h
      exact finD (e2 := [(0, .dead), (1, .dead), (2, .dead), (3, .dead), (4, .dead), (5, .dead), (7, .dead), (8, .v (.bool b4245)), (9, .dead), (10, .dead), (11, .dead), (17, .dead), (28, .dead), (29, .dead), (30, .dead), (31, .dead), (53, .dead)]) (ob2 := [(0, .p [(.lst false n4238 c4239)]), (1, .r [.fn 81 [.ptr 2 0]]), (3, .p [p4223, p4224]), (4, .r [.fn 99 [.ptr 0 0, .ptr 1 0, .ptr 3 0, .ptr 4 0]]), (12, .p [p4232, p4233, p4234, p4235, p4236]), (2, .p [(.int .i64 x4243)])]) (st' := ⟨[], [(0, .dead), (1, .dead), (2, .dead), (3, .dead), (4, .dead), (5, .dead), (7, .dead), (8, .v (.bool b4245)), (9, .dead), (10, .dead), (11, .dead), (17, .dead), (28, .dead), (29, .dead), (30, .dead), (31, .dead), (53, .dead)], [(0, .p [(.lst false n4238 c4239)]), (1, .r [.fn 81 [.ptr 2 0]]), (2, .p [(.int .i64 x4243)]), (3, .p [p4223, p4224]), (4, .r [.fn 99 [.ptr 0 0, .ptr 1 0, .ptr 3 0, .ptr 4 0]])], 5, []⟩) (.cons _ _ _ _ _ (.dead _) (.cons _ _ _ _ _ (.dead _) (.cons _ _ _ _ _ (.dead _) (.cons _ _ _ _ _ (.dead _) (.cons _ _ _ _ _ (.dead _) (.cons _ _ _ _ _ (.dead _) (.cons _ _ _ _ _ (.dead _) (.cons _ _ _ _ _ (.refl _) (.cons _ _ _ _ _ (.dead _) (.cons _ _ _ _ _ (.refl _) (.cons _ _ _ _ _ (.refl _) (.cons _ _ _ _ _ (.dead _) (.cons _ _ _ _ _ (.refl _) (.cons _ _ _ _ _ (.refl _) (.cons _ _ _ _ _ (.refl _) (.cons _ _ _ _ _ (.refl _) (.cons _ _ _ _ _ (.refl _) .nil))))))))))))))))) (.cons _ _ _ _ _ (DLes.refl _) (.cons _ _ _ _ _ (DLes.refl _) (.cons _ _ _ _ _ (DLes.refl _) (.cons _ _ _ _ _ (DLes.refl _) (.cons _ _ _ _ _ (DLes.refl _) (.cons _ _ _ _ _ (DLes.refl _) .nil)))))) (by kernel_rfl) (by simp only [go_sem, ne_eq, not_false_eq_true, Nat.reduceBEq, Nat.reduceAdd, Nat.reduceSub, Nat.reduceMul, Nat.reduceLT, Nat.reduceLeDiff, Int.reduceLE, Int.reduceLT, Int.reduceToNat, Int.reduceBEq, Int.reduceBNe, Int.le_refl, Nat.le_refl, decide_true, decide_false, Int.cast_ofNat_Int, ↓reduceIte, resQ_tmp, resQ_cell, resQ_nil, retD_one, retD_two, retD_three, retD_none]; try simp [R.val, retD_one, retD_two, retD_three, retD_none])
    · have hh := getL_some h; clear h; obtain ⟨n4247, c4248, h4246, h⟩ := hh
      have hh := grd_some h; clear h; obtain ⟨⟨g4249, g4250⟩, h⟩ := hh
      have hh := grd_some h; clear h; obtain ⟨g4251, h⟩ := hh
      have hh := getI_some h; clear h; obtain ⟨x4253, h4252, h⟩ := hh
      have hh := grd_some h; clear h; obtain ⟨⟨g4254, g4255⟩, h⟩ := hh
      have hh := grd_some h; clear h; obtain ⟨g4256, h⟩ := hh
      have hh := getL_some h; clear h; obtain ⟨n4258, c4259, h4257, h⟩ := hh
      refine W_sound tab_ok mixed 35 _ _ _ ?_
      simp -implicitDefEqProofs only [go_sem, ne_eq, not_false_eq_true, Nat.reduceBEq, Nat.reduceAdd, Nat.reduceSub, Nat.reduceMul, Nat.reduceLT, Nat.reduceLeDiff, Int.reduceLE, Int.reduceLT, Int.reduceToNat, Int.reduceBEq, Int.reduceBNe, Int.le_refl, Nat.le_refl, decide_true, decide_false, Int.cast_ofNat_Int, ↓reduceIte, h4228, h4231, h4237, h4240, h4246, g4249, g4250, g4251, h4252, g4254, g4255, g4256, h4257]
      repeat with_reducible refine And.intro (by first | kernel_rfl | decide) ?_
      have hh := bnd'_some h; clear h; obtain ⟨o4337, h4338, h4339⟩ := hh
      refine Wp_cut (fun s => ∃ p4328, ∃ x4329, ∃ p4330, (.inr (p4328, x4329, p4330)) = o4337 ∧ s = ⟨[], [(0, .dead), (1, .dead), (2, .dead), (3, .dead), (4, .dead), (5, .dead), (7, .dead), (8, .dead), (9, .dead), (10, .dead), (11, .dead), (17, .dead), (28, .dead), (29, .dead), (30, .dead), (31, .dead), (53, .dead)], [(0, .p [p4328]), (1, .r [.fn 81 [.ptr 2 0]]), (2, .p [(.int .i64 x4329)]), (3, .p [p4223, p4330]), (4, .r [.fn 99 [.ptr 0 0, .ptr 1 0, .ptr 3 0, .ptr 4 0]])], 5, []⟩) ?_ ?_
      · refine Wp_block ?_
        refine Wp_loopG (fun n s => ∃ x4292, ∃ p4293, ∃ x4294, ∃ p4295, m99_4_L0 N (m99_4 N fu) p4223 n4229 c4230 p4232 p4233 p4234 p4235 p4236 n4258 c4259 n x4292 p4293 x4294 p4295 = some o4337 ∧ s = ⟨[], [(0, .v (.lst false n4229 c4230)), (1, .dead), (2, .dead), (3, .dead), (4, .dead), (5, .ptr 4 0), (7, .ptr 5 0), (8, .dead), (9, .v (.int .i64 ((n4229 : Nat) : Int))), (10, .dead), (11, .dead), (17, .dead), (28, .v (.lst false n4258 c4259)), (29, .v (.int .i64 ((n4258 : Nat) : Int))), (30, .v (.int .i64 x4292)), (31, .dead), (53, .dead)], [(0, .p [p4293]), (1, .r [.fn 81 [.ptr 2 0]]), (2, .p [(.int .i64 x4294)]), (3, .p [p4223, p4295]), (4, .r [.fn 99 [.ptr 0 0, .ptr 1 0, .ptr 3 0, .ptr 4 0]]), (5, .p [p4232, p4233, p4234, p4235, p4236])], 6, []⟩) N _ ((Wk_le (.cons _ _ _ _ _ (.refl _) (.cons _ _ _ _ _ (.dead _) (.cons _ _ _ _ _ (.dead _) (.cons _ _ _ _ _ (.dead _) (.cons _ _ _ _ _ (.dead _) (.cons _ _ _ _ _ (.refl _) (.cons _ _ _ _ _ (.refl _) (.cons _ _ _ _ _ (.dead _) (.cons _ _ _ _ _ (.refl _) (.cons _ _ _ _ _ (.refl _) (.cons _ _ _ _ _ (.refl _) (.cons _ _ _ _ _ (.dead _) (.cons _ _ _ _ _ (.refl _) (.cons _ _ _ _ _ (.refl _) (.cons _ _ _ _ _ (.refl _) (.cons _ _ _ _ _ (.refl _) (.cons _ _ _ _ _ (.refl _) .nil))))))))))))))))) (OLe.refl _)).trans (cmpS_ok (st' := ⟨[], [(0, .v (.lst false n4229 c4230)), (1, .dead), (2, .dead), (3, .dead), (4, .dead), (5, .ptr 4 0), (7, .ptr 5 0), (8, .dead), (9, .v (.int .i64 ((n4229 : Nat) : Int))), (10, .dead), (11, .dead), (17, .dead), (28, .v (.lst false n4258 c4259)), (29, .v (.int .i64 ((n4258 : Nat) : Int))), (30, .v (.int .i64 0)), (31, .dead), (53, .dead)], [(0, .p [(.lst false n4238 c4239)]), (1, .r [.fn 81 [.ptr 2 0]]), (2, .p [(.int .i64 x4222)]), (3, .p [p4223, (.lst false n4247 c4248)]), (4, .r [.fn 99 [.ptr 0 0, .ptr 1 0, .ptr 3 0, .ptr 4 0]]), (5, .p [p4232, p4233, p4234, p4235, p4236])], 6, []⟩) (by kernel_rfl))) ⟨_, _, _, _, h4338, rfl⟩ ?_
        clear h4338
        rintro n _ ⟨x4292, p4293, x4294, p4295, h4338, rfl⟩
        cases n with
        | zero => cases h4338
        | succ n =>
          rw [m99_4_L0] at h4338
          have hh := brn_some h4338; clear h4338; rcases hh with ⟨h4296, h4338⟩ | ⟨h4296, h4338⟩
          · have hh := grd_some h4338; clear h4338; obtain ⟨⟨g4297, g4298⟩, h4338⟩ := hh
            have hh := grd_some h4338; clear h4338; obtain ⟨g4299, h4338⟩ := hh
            have hh := getA2_some h4338; clear h4338; obtain ⟨p4301, p4302, h4300, h4338⟩ := hh
            injection h4300 with h4300
            have hh := bnd'_some h4338; clear h4338; obtain ⟨p4303, h4304, h4338⟩ := hh
            refine W_sound tab_ok mixed 22 _ _ _ ?_
            simp -implicitDefEqProofs only [go_sem, ne_eq, not_false_eq_true, Nat.reduceBEq, Nat.reduceAdd, Nat.reduceSub, Nat.reduceMul, Nat.reduceLT, Nat.reduceLeDiff, Int.reduceLE, Int.reduceLT, Int.reduceToNat, Int.reduceBEq, Int.reduceBNe, Int.le_refl, Nat.le_refl, decide_true, decide_false, Int.cast_ofNat_Int, ↓reduceIte, h4228, h4231, h4237, h4240, h4246, g4249, g4250, g4251, h4252, g4254, g4255, g4256, h4257, h4296, g4297, g4298, g4299, h4300]
            repeat with_reducible refine And.intro (by first | kernel_rfl | decide) ?_
            refine Wp_callP (c71 N _ _ _ h4304) (by kernel_rfl) rfl rfl rfl rfl (by decide) ?_
            have hh := getB_some h4338; clear h4338; obtain ⟨b4306, h4305, h4338⟩ := hh
            have hh := brn_some h4338; clear h4338; rcases hh with ⟨h4307, h4338⟩ | ⟨h4307, h4338⟩
            · refine W_sound tab_ok mixed 24 _ _ _ ?_
              simp -implicitDefEqProofs only [go_sem, ne_eq, not_false_eq_true, Nat.reduceBEq, Nat.reduceAdd, Nat.reduceSub, Nat.reduceMul, Nat.reduceLT, Nat.reduceLeDiff, Int.reduceLE, Int.reduceLT, Int.reduceToNat, Int.reduceBEq, Int.reduceBNe, Int.le_refl, Nat.le_refl, decide_true, decide_false, Int.cast_ofNat_Int, ↓reduceIte, h4228, h4231, h4237, h4240, h4246, g4249, g4250, g4251, h4252, g4254, g4255, g4256, h4257, h4296, g4297, g4298, g4299, h4300, h4305, h4307]
              repeat with_reducible refine And.intro (by first | kernel_rfl | decide) ?_
              exact cutQ _ ((Wk_le (.cons _ _ _ _ _ (.refl _) (.cons _ _ _ _ _ (.refl _) (.cons _ _ _ _ _ (.refl _) (.cons _ _ _ _ _ (.refl _) (.cons _ _ _ _ _ (.refl _) (.cons _ _ _ _ _ (.refl _) (.cons _ _ _ _ _ (.refl _) (.cons _ _ _ _ _ (.refl _) (.cons _ _ _ _ _ (.refl _) (.cons _ _ _ _ _ (.dead _) (.cons _ _ _ _ _ (.dead _) (.cons _ _ _ _ _ (.refl _) (.cons _ _ _ _ _ (.refl _) (.cons _ _ _ _ _ (.refl _) (.cons _ _ _ _ _ (.refl _) (.cons _ _ _ _ _ (.dead _) (.cons _ _ _ _ _ (.dead _) .nil))))))))))))))))) (OLe.refl _)).trans (cmpS_ok (st' := ⟨[], [(0, .v (.lst false n4229 c4230)), (1, .dead), (2, .dead), (3, .dead), (4, .dead), (5, .ptr 4 0), (7, .ptr 5 0), (8, .dead), (9, .v (.int .i64 ((n4229 : Nat) : Int))), (10, .dead), (11, .dead), (17, .dead), (28, .v (.lst false n4258 c4259)), (29, .v (.int .i64 ((n4258 : Nat) : Int))), (30, .v (.int .i64 (IntKind.i64.wrap (x4292 + 1)))), (31, .dead), (53, .dead)], [(0, .p [p4293]), (1, .r [.fn 81 [.ptr 2 0]]), (2, .p [(.int .i64 x4294)]), (3, .p [p4223, p4295]), (4, .r [.fn 99 [.ptr 0 0, .ptr 1 0, .ptr 3 0, .ptr 4 0]]), (5, .p [p4232, p4233, p4234, p4235, p4236])], 6, []⟩) (by kernel_rfl))) ⟨n, Nat.lt_succ_self n, _, _, _, _, h4338, rfl⟩
            · have hh := grd_some h4338; clear h4338; obtain ⟨g4308, h4338⟩ := hh
              have hh := grd_some h4338; clear h4338; obtain ⟨g4309, h4338⟩ := hh
              have hh := grd_some h4338; clear h4338; obtain ⟨g4310, h4338⟩ := hh
              have hh := bnd'_some h4338; clear h4338; obtain ⟨p4311, h4312, h4338⟩ := hh
              refine W_sound tab_ok mixed 12 _ _ _ ?_
              simp -implicitDefEqProofs only [go_sem, ne_eq, not_false_eq_true, Nat.reduceBEq, Nat.reduceAdd, Nat.reduceSub, Nat.reduceMul, Nat.reduceLT, Nat.reduceLeDiff, Int.reduceLE, Int.reduceLT, Int.reduceToNat, Int.reduceBEq, Int.reduceBNe, Int.le_refl, Nat.le_refl, decide_true, decide_false, Int.cast_ofNat_Int, ↓reduceIte, h4228, h4231, h4237, h4240, h4246, g4249, g4250, g4251, h4252, g4254, g4255, g4256, h4257, h4296, g4297, g4298, g4299, h4300, h4305, h4307, g4308, g4309, g4310]
              repeat with_reducible refine And.intro (by first | kernel_rfl | decide) ?_
              refine Wp_callP (c98 N _ _ _ h4312) (by kernel_rfl) rfl rfl rfl rfl (by decide) ?_
              have hh := getA5_some h4338; clear h4338; obtain ⟨p4314, p4315, p4316, p4317, p4318, h4313, h4338⟩ := hh
              have hh := bnd'_some h4338; clear h4338; obtain ⟨⟨p4319, p4321, x4322, p4323⟩, h4320, h4338⟩ := hh
              (try dsimp only at h4338)
              (try simp -implicitDefEqProofs only [go_sem, ne_eq, not_false_eq_true, Nat.reduceBEq, Nat.reduceAdd, Nat.reduceSub, Nat.reduceMul, Nat.reduceLT, Nat.reduceLeDiff, Int.reduceLE, Int.reduceLT, Int.reduceToNat, Int.reduceBEq, Int.reduceBNe, Int.le_refl, Nat.le_refl, decide_true, decide_false, Int.cast_ofNat_Int, ↓reduceIte, h4228, h4231, h4237, h4240, h4246, g4249, g4250, g4251, h4252, g4254, g4255, g4256, h4257, h4296, g4297, g4298, g4299, h4300, h4305, h4307, g4308, g4309, g4310, h4313])
              refine Wp_callDF [(65, (c4230 ++ [(.int .i64 x4292)]))] [0, 1, 2, 3, 4] (ih _ _ _ _ _ _ _ _ _ _ h4320) rfl rfl rfl (by first | rfl | (simp only [go_sem, ne_eq, not_false_eq_true, Nat.reduceBEq, Nat.reduceAdd, Nat.reduceSub, Nat.reduceMul, Nat.reduceLT, Nat.reduceLeDiff, Int.reduceLE, Int.reduceLT, Int.reduceToNat, Int.reduceBEq, Int.reduceBNe, Int.le_refl, Nat.le_refl, decide_true, decide_false, Int.cast_ofNat_Int, ↓reduceIte, h4228, h4231, h4237, h4240, h4246, g4249, g4250, g4251, h4252, g4254, g4255, g4256, h4257, h4296, g4297, g4298, g4299, h4300, h4305, h4307, g4308, g4309, g4310, h4313] <;> rfl)) rfl (by kernel_rfl) rfl rfl (by simp [roF, obL]) ?_
              have hh := getB_some h4338; clear h4338; obtain ⟨b4325, h4324, h4338⟩ := hh
              have hh := brn_some h4338; clear h4338; rcases hh with ⟨h4326, h4338⟩ | ⟨h4326, h4338⟩
              · refine W_sound tab_ok mixed 10 _ _ _ ?_
                simp -implicitDefEqProofs only [go_sem, ne_eq, not_false_eq_true, Nat.reduceBEq, Nat.reduceAdd, Nat.reduceSub, Nat.reduceMul, Nat.reduceLT, Nat.reduceLeDiff, Int.reduceLE, Int.reduceLT, Int.reduceToNat, Int.reduceBEq, Int.reduceBNe, Int.le_refl, Nat.le_refl, decide_true, decide_false, Int.cast_ofNat_Int, ↓reduceIte, h4228, h4231, h4237, h4240, h4246, g4249, g4250, g4251, h4252, g4254, g4255, g4256, h4257, h4296, g4297, g4298, g4299, h4300, h4305, h4307, g4308, g4309, g4310, h4313, h4324, h4326]
                repeat with_reducible refine And.intro (by first | kernel_rfl | decide) ?_
                exact cutQ _ ((Wk_le (.cons _ _ _ _ _ (.refl _) (.cons _ _ _ _ _ (.refl _) (.cons _ _ _ _ _ (.refl _) (.cons _ _ _ _ _ (.refl _) (.cons _ _ _ _ _ (.refl _) (.cons _ _ _ _ _ (.refl _) (.cons _ _ _ _ _ (.refl _) (.cons _ _ _ _ _ (.refl _) (.cons _ _ _ _ _ (.refl _) (.cons _ _ _ _ _ (.dead _) (.cons _ _ _ _ _ (.dead _) (.cons _ _ _ _ _ (.refl _) (.cons _ _ _ _ _ (.refl _) (.cons _ _ _ _ _ (.refl _) (.cons _ _ _ _ _ (.refl _) (.cons _ _ _ _ _ (.dead _) (.cons _ _ _ _ _ (.dead _) .nil))))))))))))))))) (OLe.refl _)).trans (cmpS_ok (st' := ⟨[], [(0, .v (.lst false n4229 c4230)), (1, .dead), (2, .dead), (3, .dead), (4, .dead), (5, .ptr 4 0), (7, .ptr 5 0), (8, .dead), (9, .v (.int .i64 ((n4229 : Nat) : Int))), (10, .dead), (11, .dead), (17, .dead), (28, .v (.lst false n4258 c4259)), (29, .v (.int .i64 ((n4258 : Nat) : Int))), (30, .v (.int .i64 (IntKind.i64.wrap (x4292 + 1)))), (31, .dead), (53, .dead)], [(0, .p [p4321]), (1, .r [.fn 81 [.ptr 2 0]]), (2, .p [(.int .i64 x4322)]), (3, .p [p4223, p4323]), (4, .r [.fn 99 [.ptr 0 0, .ptr 1 0, .ptr 3 0, .ptr 4 0]]), (5, .p [p4232, p4233, p4234, p4235, p4236])], 6, []⟩) (by kernel_rfl))) ⟨n, Nat.lt_succ_self n, _, _, _, _, h4338, rfl⟩
              · refine W_sound tab_ok mixed 10 _ _ _ ?_
                simp -implicitDefEqProofs only [go_sem, ne_eq, not_false_eq_true, Nat.reduceBEq, Nat.reduceAdd, Nat.reduceSub, Nat.reduceMul, Nat.reduceLT, Nat.reduceLeDiff, Int.reduceLE, Int.reduceLT, Int.reduceToNat, Int.reduceBEq, Int.reduceBNe, Int.le_refl, Nat.le_refl, decide_true, decide_false, Int.cast_ofNat_Int, ↓reduceIte, h4228, h4231, h4237, h4240, h4246, g4249, g4250, g4251, h4252, g4254, g4255, g4256, h4257, h4296, g4297, g4298, g4299, h4300, h4305, h4307, g4308, g4309, g4310, h4313, h4324, h4326]
                repeat with_reducible refine And.intro (by first | kernel_rfl | decide) ?_
                obtain rfl := Option.some.inj h4338
                (try dsimp only at h4339)
                simp only [Option.some.injEq, Prod.mk.injEq] at h4339; obtain ⟨rfl, rfl, rfl, rfl⟩ := h4339
                exact finD (e2 := [(0, .dead), (1, .dead), (2, .dead), (3, .dead), (4, .dead), (5, .dead), (7, .dead), (8, .v (.bool false)), (9, .dead), (10, .dead), (11, .dead), (17, .dead), (28, .dead), (29, .dead), (30, .dead), (31, .dead), (53, .dead)]) (ob2 := [(5, .p [p4232, p4233, p4234, p4235, p4236]), (17, .p [p4301, p4302]), (64, .p [(.int .i64 x4292)]), (4, .r [.fn 99 [.ptr 0 0, .ptr 1 0, .ptr 3 0, .ptr 4 0]]), (3, .p [p4223, p4323]), (2, .p [(.int .i64 x4322)]), (1, .r [.fn 81 [.ptr 2 0]]), (0, .p [p4321])]) (st' := ⟨[], [(0, .dead), (1, .dead), (2, .dead), (3, .dead), (4, .dead), (5, .dead), (7, .dead), (8, .v (.bool false)), (9, .dead), (10, .dead), (11, .dead), (17, .dead), (28, .dead), (29, .dead), (30, .dead), (31, .dead), (53, .dead)], [(0, .p [p4321]), (1, .r [.fn 81 [.ptr 2 0]]), (2, .p [(.int .i64 x4322)]), (3, .p [p4223, p4323]), (4, .r [.fn 99 [.ptr 0 0, .ptr 1 0, .ptr 3 0, .ptr 4 0]])], 5, []⟩) (.cons _ _ _ _ _ (.dead _) (.cons _ _ _ _ _ (.refl _) (.cons _ _ _ _ _ (.refl _) (.cons _ _ _ _ _ (.refl _) (.cons _ _ _ _ _ (.refl _) (.cons _ _ _ _ _ (.dead _) (.cons _ _ _ _ _ (.dead _) (.cons _ _ _ _ _ (.refl _) (.cons _ _ _ _ _ (.dead _) (.cons _ _ _ _ _ (.dead _) (.cons _ _ _ _ _ (.dead _) (.cons _ _ _ _ _ (.refl _) (.cons _ _ _ _ _ (.dead _) (.cons _ _ _ _ _ (.dead _) (.cons _ _ _ _ _ (.dead _) (.cons _ _ _ _ _ (.dead _) (.cons _ _ _ _ _ (.dead _) .nil))))))))))))))))) (.cons _ _ _ _ _ (DLes.refl _) (.cons _ _ _ _ _ (DLes.refl _) (.cons _ _ _ _ _ (DLes.refl _) (.cons _ _ _ _ _ (DLes.refl _) (.cons _ _ _ _ _ (DLes.refl _) (.cons _ _ _ _ _ (DLes.refl _) (.cons _ _ _ _ _ (DLes.refl _) (.cons _ _ _ _ _ (DLes.refl _) .nil)))))))) (by kernel_rfl) (by simp only [go_sem, ne_eq, not_false_eq_true, Nat.reduceBEq, Nat.reduceAdd, Nat.reduceSub, Nat.reduceMul, Nat.reduceLT, Nat.reduceLeDiff, Int.reduceLE, Int.reduceLT, Int.reduceToNat, Int.reduceBEq, Int.reduceBNe, Int.le_refl, Nat.le_refl, decide_true, decide_false, Int.cast_ofNat_Int, ↓reduceIte, resQ_tmp, resQ_cell, resQ_nil, retD_one, retD_two, retD_three, retD_none]; try simp [R.val, retD_one, retD_two, retD_three, retD_none])
          · refine W_sound tab_ok mixed 7 _ _ _ ?_
            simp -implicitDefEqProofs only [go_sem, ne_eq, not_false_eq_true, Nat.reduceBEq, Nat.reduceAdd, Nat.reduceSub, Nat.reduceMul, Nat.reduceLT, Nat.reduceLeDiff, Int.reduceLE, Int.reduceLT, Int.reduceToNat, Int.reduceBEq, Int.reduceBNe, Int.le_refl, Nat.le_refl, decide_true, decide_false, Int.cast_ofNat_Int, ↓reduceIte, h4228, h4231, h4237, h4240, h4246, g4249, g4250, g4251, h4252, g4254, g4255, g4256, h4257, h4296]
            repeat with_reducible refine And.intro (by first | kernel_rfl | decide) ?_
            obtain rfl := Option.some.inj h4338
            exact cutQ _ ((Wk_le (.cons _ _ _ _ _ (.dead _) (.cons _ _ _ _ _ (.refl _) (.cons _ _ _ _ _ (.refl _) (.cons _ _ _ _ _ (.refl _) (.cons _ _ _ _ _ (.refl _) (.cons _ _ _ _ _ (.dead _) (.cons _ _ _ _ _ (.dead _) (.cons _ _ _ _ _ (.refl _) (.cons _ _ _ _ _ (.dead _) (.cons _ _ _ _ _ (.refl _) (.cons _ _ _ _ _ (.refl _) (.cons _ _ _ _ _ (.refl _) (.cons _ _ _ _ _ (.dead _) (.cons _ _ _ _ _ (.dead _) (.cons _ _ _ _ _ (.dead _) (.cons _ _ _ _ _ (.dead _) (.cons _ _ _ _ _ (.refl _) .nil))))))))))))))))) (OLe.refl _)).trans (cmpS_ok (st' := ⟨[], [(0, .dead), (1, .dead), (2, .dead), (3, .dead), (4, .dead), (5, .dead), (7, .dead), (8, .dead), (9, .dead), (10, .dead), (11, .dead), (17, .dead), (28, .dead), (29, .dead), (30, .dead), (31, .dead), (53, .dead)], [(0, .p [p4293]), (1, .r [.fn 81 [.ptr 2 0]]), (2, .p [(.int .i64 x4294)]), (3, .p [p4223, p4295]), (4, .r [.fn 99 [.ptr 0 0, .ptr 1 0, .ptr 3 0, .ptr 4 0]])], 5, []⟩) (by kernel_rfl))) ⟨_, _, _, rfl, rfl⟩
      · rintro _ ⟨p4328, x4329, p4330, rfl, rfl⟩
        (try dsimp only at h4339)
        refine W_sound tab_ok mixed 6 _ _ _ ?_
        simp -implicitDefEqProofs only [go_sem, ne_eq, not_false_eq_true, Nat.reduceBEq, Nat.reduceAdd, Nat.reduceSub, Nat.reduceMul, Nat.reduceLT, Nat.reduceLeDiff, Int.reduceLE, Int.reduceLT, Int.reduceToNat, Int.reduceBEq, Int.reduceBNe, Int.le_refl, Nat.le_refl, decide_true, decide_false, Int.cast_ofNat_Int, ↓reduceIte, h4228, h4231, h4237, h4240, h4246, g4249, g4250, g4251, h4252, g4254, g4255, g4256, h4257]
        repeat with_reducible refine And.intro (by first | kernel_rfl | decide) ?_
        simp only [Option.some.injEq, Prod.mk.injEq] at h4339; obtain ⟨rfl, rfl, rfl, rfl⟩ := h4339
        exact finD (e2 := [(0, .dead), (1, .dead), (2, .dead), (3, .dead), (4, .dead), (5, .dead), (7, .dead), (8, .v (.bool true)), (9, .dead), (10, .dead), (11, .dead), (17, .dead), (28, .dead), (29, .dead), (30, .dead), (31, .dead), (53, .dead)]) (ob2 := [(0, .p [p4328]), (1, .r [.fn 81 [.ptr 2 0]]), (2, .p [(.int .i64 x4329)]), (3, .p [p4223, p4330]), (4, .r [.fn 99 [.ptr 0 0, .ptr 1 0, .ptr 3 0, .ptr 4 0]])]) (st' := ⟨[], [(0, .dead), (1, .dead), (2, .dead), (3, .dead), (4, .dead), (5, .dead), (7, .dead), (8, .v (.bool true)), (9, .dead), (10, .dead), (11, .dead), (17, .dead), (28, .dead), (29, .dead), (30, .dead), (31, .dead), (53, .dead)], [(0, .p [p4328]), (1, .r [.fn 81 [.ptr 2 0]]), (2, .p [(.int .i64 x4329)]), (3, .p [p4223, p4330]), (4, .r [.fn 99 [.ptr 0 0, .ptr 1 0, .ptr 3 0, .ptr 4 0]])], 5, []⟩) (.cons _ _ _ _ _ (.refl _) (.cons _ _ _ _ _ (.refl _) (.cons _ _ _ _ _ (.refl _) (.cons _ _ _ _ _ (.refl _) (.cons _ _ _ _ _ (.refl _) (.cons _ _ _ _ _ (.refl _) (.cons _ _ _ _ _ (.refl _) (.cons _ _ _ _ _ (.refl _) (.cons _ _ _ _ _ (.refl _) (.cons _ _ _ _ _ (.refl _) (.cons _ _ _ _ _ (.refl _) (.cons _ _ _ _ _ (.refl _) (.cons _ _ _ _ _ (.refl _) (.cons _ _ _ _ _ (.refl _) (.cons _ _ _ _ _ (.refl _) (.cons _ _ _ _ _ (.refl _) (.cons _ _ _ _ _ (.refl _) .nil))))))))))))))))) (.cons _ _ _ _ _ (DLes.refl _) (.cons _ _ _ _ _ (DLes.refl _) (.cons _ _ _ _ _ (DLes.refl _) (.cons _ _ _ _ _ (DLes.refl _) (.cons _ _ _ _ _ (DLes.refl _) .nil))))) (by kernel_rfl) (by simp only [go_sem, ne_eq, not_false_eq_true, Nat.reduceBEq, Nat.reduceAdd, Nat.reduceSub, Nat.reduceMul, Nat.reduceLT, Nat.reduceLeDiff, Int.reduceLE, Int.reduceLT, Int.reduceToNat, Int.reduceBEq, Int.reduceBNe, Int.le_refl, Nat.le_refl, decide_true, decide_false, Int.cast_ofNat_Int, ↓reduceIte, resQ_tmp, resQ_cell, resQ_nil, retD_one, retD_two, retD_three, retD_none]; try simp [R.val, retD_one, retD_two, retD_three, retD_none])

def m99_3_L0 (N : Nat) (p4390 : PV) (p4396 : PV) (p4397 : PV) (p4398 : PV) (p4399 : PV) (p4400 : PV) (n4421 : Nat) (c4422 : List PV) : Nat → Int → PV → Int → PV → Option (((PV × PV × Int × PV) ⊕ (PV × Int × PV)))
  | 0, _, _, _, _ => none
  | n + 1, x4452, p4453, x4454, p4455 =>
    brn (decide (x4452 < ((n4421 : Nat) : Int))) (
      grd (0 ≤ x4452 ∧ x4452 < ((n4421 : Nat) : Int)) <|
      grd (2 ≤ List.length (List.drop ((Int.toNat x4452) * 2) c4422)) <|
      getA2 (.agg (List.take 2 (List.drop ((Int.toNat x4452) * 2) c4422))) fun p4461 p4462 =>
      bnd' (m71 N (.agg [p4396, p4397, p4398, p4399, p4400]) (.agg [p4461, p4462])) fun p4463 =>
      getB p4463 fun b4466 =>
      brn b4466 (
        m99_3_L0 N p4390 p4396 p4397 p4398 p4399 p4400 n4421 c4422 n (IntKind.i64.wrap (x4452 + 1)) p4453 x4454 p4455) (
        bnd' (m98 N (.agg [p4396, p4397, p4398, p4399, p4400]) (.agg [p4461, p4462])) fun p4468 =>
        getA5 p4468 fun p4471 p4472 p4473 p4474 p4475 =>
        bnd' (m99_4 N N (.lst false 1 [(.int .i64 x4452)]) (.agg [p4471, p4472, p4473, p4474, p4475]) p4453 x4454 p4390 p4455) fun (p4476, p4478, x4479, p4480) =>
        getB p4476 fun b4482 =>
        brn b4482 (
          m99_3_L0 N p4390 p4396 p4397 p4398 p4399 p4400 n4421 c4422 n (IntKind.i64.wrap (x4452 + 1)) p4478 x4479 p4480) (
          some (.inl ((.bool false), p4478, x4479, p4480))))) (
      some (.inr (p4453, x4454, p4455)))
def m99_3 (N : Nat) (p4387 : PV) (p4388 : PV) (x4389 : Int) (p4390 : PV) (p4391 : PV) : Option ((PV × PV × Int × PV)) :=
  getA5 p4387 fun p4396 p4397 p4398 p4399 p4400 =>
  getL p4388 fun n4402 c4403 =>
  brn (0 == ((n4402 : Nat) : Int)) (
    bnd' (m81 N x4389) fun (p4405, x4407) =>
    getB p4405 fun b4409 =>
    some ((.bool b4409), (.lst false n4402 c4403), x4407, p4391)) (
    getL p4391 fun n4411 c4412 =>
    grd (0 < ((n4402 : Nat) : Int)) <|
    grd (0 < List.length c4403) <|
    getI .i64 (gp c4403 0) fun x4416 =>
    grd (0 ≤ x4416 ∧ x4416 < ((n4411 : Nat) : Int)) <|
    grd (0 < List.length (List.drop (Int.toNat x4416) c4412)) <|
    getL (gp c4412 (Int.toNat x4416)) fun n4421 c4422 =>
    bnd' (m99_3_L0 N p4390 p4396 p4397 p4398 p4399 p4400 n4421 c4422 N 0 (.lst false n4402 c4403) x4389 (.lst false n4411 c4412)) fun o =>
    match o with
    | .inl p4484 =>
      some p4484
    | .inr (p4485, x4486, p4487) =>
      some ((.bool true), p4485, x4486, p4487))
theorem c99_3 (N : Nat) (p4387 : PV) (p4388 : PV) (x4389 : Int) (p4390 : PV) (p4391 : PV) (r : PV) (p4491 : PV) (x4492 : Int) (p4493 : PV) (h : m99_3 N p4387 p4388 x4389 p4390 p4391 = some (r, p4491, x4492, p4493)) : V.Fn Tryd.prog 99 5 [.v .nl, .v p4387, .ptr 0 0, .ptr 1 0, .ptr 3 0, .ptr 4 0] [(0, .p [p4388]), (1, .r [.fn 81 [.ptr 2 0]]), (2, .p [(.int .i64 x4389)]), (3, .p [p4390, p4391]), (4, .r [.fn 99 [.ptr 0 0, .ptr 1 0, .ptr 3 0, .ptr 4 0]])] (fun d ob' => d = .v r ∧ ob' = [(0, .p [p4491]), (1, .r [.fn 81 [.ptr 2 0]]), (2, .p [(.int .i64 x4492)]), (3, .p [p4390, p4493]), (4, .r [.fn 99 [.ptr 0 0, .ptr 1 0, .ptr 3 0, .ptr 4 0]])]) := by
  unfold m99_3 at h
  refine Fn_of (sz := 55) tab_ok [0, 1, 2, 3, 4, 5, 7, 8, 9, 10, 11, 17, 28, 29, 30, 31, 53] [.tmp 8] Tryd.func99 rfl rfl rfl (by simp) ?_
  simp only [initSt, initEnv, List.map_cons, List.map_nil, List.getD_cons_zero, List.getD_cons_succ, List.getD_nil]
  have hh := getA5_some h; clear h; obtain ⟨p4396, p4397, p4398, p4399, p4400, h4395, h⟩ := hh
  have hh := getL_some h; clear h; obtain ⟨n4402, c4403, h4401, h⟩ := hh
  have hh := brn_some h; clear h; rcases hh with ⟨h4404, h⟩ | ⟨h4404, h⟩
  · have hh := bnd'_some h; clear h; obtain ⟨⟨p4405, x4407⟩, h4406, h⟩ := hh
    (try dsimp only at h)
    refine W_sound tab_ok mixed 24 _ _ _ ?_
    simp -implicitDefEqProofs only [go_sem, ne_eq, not_false_eq_true, Nat.reduceBEq, Nat.reduceAdd, Nat.reduceSub, Nat.reduceMul, Nat.reduceLT, Nat.reduceLeDiff, Int.reduceLE, Int.reduceLT, Int.reduceToNat, Int.reduceBEq, Int.reduceBNe, Int.le_refl, Nat.le_refl, decide_true, decide_false, Int.cast_ofNat_Int, ↓reduceIte, h4395, h4401, h4404]
    repeat with_reducible refine And.intro (by first | kernel_rfl | decide) ?_
    refine Wp_callD [2] (c81 N _ _ _ h4406) rfl rfl rfl (by first | rfl | (simp only [go_sem, ne_eq, not_false_eq_true, Nat.reduceBEq, Nat.reduceAdd, Nat.reduceSub, Nat.reduceMul, Nat.reduceLT, Nat.reduceLeDiff, Int.reduceLE, Int.reduceLT, Int.reduceToNat, Int.reduceBEq, Int.reduceBNe, Int.le_refl, Nat.le_refl, decide_true, decide_false, Int.cast_ofNat_Int, ↓reduceIte, h4395, h4401, h4404] <;> rfl)) rfl (by kernel_rfl) ?_
    have hh := getB_some h; clear h; obtain ⟨b4409, h4408, h⟩ := hh
    refine W_sound tab_ok mixed 4 _ _ _ ?_
    simp -implicitDefEqProofs only [go_sem, ne_eq, not_false_eq_true, Nat.reduceBEq, Nat.reduceAdd, Nat.reduceSub, Nat.reduceMul, Nat.reduceLT, Nat.reduceLeDiff, Int.reduceLE, Int.reduceLT, Int.reduceToNat, Int.reduceBEq, Int.reduceBNe, Int.le_refl, Nat.le_refl, decide_true, decide_false, Int.cast_ofNat_Int, ↓reduceIte, h4395, h4401, h4404, h4408]
    repeat with_reducible refine And.intro (by first | kernel_rfl | decide) ?_
    simp only [Option.some.injEq, Prod.mk.injEq] at h; obtain ⟨rfl, rfl, rfl, rfl⟩ := h
    exact finD (e2 := [(0, .dead), (1, .dead), (2, .dead), (3, .dead), (4, .dead), (5, .dead), (7, .dead), (8, .v (.bool b4409)), (9, .dead), (10, .dead), (11, .dead), (17, .dead), (28, .dead), (29, .dead), (30, .dead), (31, .dead), (53, .dead)]) (ob2 := [(0, .p [(.lst false n4402 c4403)]), (1, .r [.fn 81 [.ptr 2 0]]), (3, .p [p4390, p4391]), (4, .r [.fn 99 [.ptr 0 0, .ptr 1 0, .ptr 3 0, .ptr 4 0]]), (12, .p [p4396, p4397, p4398, p4399, p4400]), (2, .p [(.int .i64 x4407)])]) (st' := ⟨[], [(0, .dead), (1, .dead), (2, .dead), (3, .dead), (4, .dead), (5, .dead), (7, .dead), (8, .v (.bool b4409)), (9, .dead), (10, .dead), (11, .dead), (17, .dead), (28, .dead), (29, .dead), (30, .dead), (31, .dead), (53, .dead)], [(0, .p [(.lst false n4402 c4403)]), (1, .r [.fn 81 [.ptr 2 0]]), (2, .p [(.int .i64 x4407)]), (3, .p [p4390, p4391]), (4, .r [.fn 99 [.ptr 0 0, .ptr 1 0, .ptr 3 0, .ptr 4 0]])], 5, []⟩) (.cons _ _ _ _ _ (.dead _) (.cons _ _ _ _ _ (.dead _) (.cons _ _ _ _ _ (.dead _) (.cons _ _ _ _ _ (.dead _) (.cons _ _ _ _ _ (.dead _) (.cons _ _ _ _ _ (.dead _) (.cons _ _ _ _ _ (.dead _) (.cons _ _ _ _ _ (.refl _) (.cons _ _ _ _ _ (.dead _) (.cons _ _ _ _ _ (.refl _) (.cons _ _ _ _ _ (.refl _) (.cons _ _ _ _ _ (.dead _) (.cons _ _ _ _ _ (.refl _) (.cons _ _ _ _ _ (.refl _) (.cons _ _ _ _ _ (.refl _) (.cons _ _ _ _ _ (.refl _) (.cons _ _ _ _ _ (.refl _) .nil))))))))))))))))) (.cons _ _ _ _ _ (DLes.refl _) (.cons _ _ _ _ _ (DLes.refl _) (.cons _ _ _ _ _ (DLes.refl _) (.cons _ _ _ _ _ (DLes.refl _) (.cons _ _ _ _ _ (DLes.refl _) (.cons _ _ _ _ _ (DLes.refl _) .nil)))))) (by kernel_rfl) (by simp only [go_sem, ne_eq, not_false_eq_true, Nat.reduceBEq, Nat.reduceAdd, Nat.reduceSub, Nat.reduceMul, Nat.reduceLT, Nat.reduceLeDiff, Int.reduceLE, Int.reduceLT, Int.reduceToNat, Int.reduceBEq, Int.reduceBNe, Int.le_refl, Nat.le_refl, decide_true, decide_false, Int.cast_ofNat_Int, ↓reduceIte, resQ_tmp, resQ_cell, resQ_nil, retD_one, retD_two, retD_three, retD_none]; try simp [R.val, retD_one, retD_two, retD_three, retD_none])
  · have hh := getL_some h; clear h; obtain ⟨n4411, c4412, h4410, h⟩ := hh
    have hh := grd_some h; clear h; obtain ⟨g4413, h⟩ := hh
    have hh := grd_some h; clear h; obtain ⟨g4414, h⟩ := hh
    have hh := getI_some h; clear h; obtain ⟨x4416, h4415, h⟩ := hh
    have hh := grd_some h; clear h; obtain ⟨⟨g4417, g4418⟩, h⟩ := hh
    have hh := grd_some h; clear h; obtain ⟨g4419, h⟩ := hh
    have hh := getL_some h; clear h; obtain ⟨n4421, c4422, h4420, h⟩ := hh
    refine W_sound tab_ok mixed 35 _ _ _ ?_
    simp -implicitDefEqProofs only [go_sem, ne_eq, not_false_eq_true, Nat.reduceBEq, Nat.reduceAdd, Nat.reduceSub, Nat.reduceMul, Nat.reduceLT, Nat.reduceLeDiff, Int.reduceLE, Int.reduceLT, Int.reduceToNat, Int.reduceBEq, Int.reduceBNe, Int.le_refl, Nat.le_refl, decide_true, decide_false, Int.cast_ofNat_Int, ↓reduceIte, h4395, h4401, h4404, h4410, g4413, g4414, h4415, g4417, g4418, g4419, h4420]
    repeat with_reducible refine And.intro (by first | kernel_rfl | decide) ?_
    have hh := bnd'_some h; clear h; obtain ⟨o4494, h4495, h4496⟩ := hh
    refine Wp_cut (fun s => ∃ p4485, ∃ x4486, ∃ p4487, (.inr (p4485, x4486, p4487)) = o4494 ∧ s = ⟨[], [(0, .dead), (1, .dead), (2, .dead), (3, .dead), (4, .dead), (5, .dead), (7, .dead), (8, .dead), (9, .dead), (10, .dead), (11, .dead), (17, .dead), (28, .dead), (29, .dead), (30, .dead), (31, .dead), (53, .dead)], [(0, .p [p4485]), (1, .r [.fn 81 [.ptr 2 0]]), (2, .p [(.int .i64 x4486)]), (3, .p [p4390, p4487]), (4, .r [.fn 99 [.ptr 0 0, .ptr 1 0, .ptr 3 0, .ptr 4 0]])], 5, []⟩) ?_ ?_
    · refine Wp_block ?_
      refine Wp_loopG (fun n s => ∃ x4452, ∃ p4453, ∃ x4454, ∃ p4455, m99_3_L0 N p4390 p4396 p4397 p4398 p4399 p4400 n4421 c4422 n x4452 p4453 x4454 p4455 = some o4494 ∧ s = ⟨[], [(0, .v .nl), (1, .dead), (2, .dead), (3, .dead), (4, .dead), (5, .ptr 4 0), (7, .ptr 5 0), (8, .dead), (9, .v (.int .i64 0)), (10, .dead), (11, .dead), (17, .dead), (28, .v (.lst false n4421 c4422)), (29, .v (.int .i64 ((n4421 : Nat) : Int))), (30, .v (.int .i64 x4452)), (31, .dead), (53, .dead)], [(0, .p [p4453]), (1, .r [.fn 81 [.ptr 2 0]]), (2, .p [(.int .i64 x4454)]), (3, .p [p4390, p4455]), (4, .r [.fn 99 [.ptr 0 0, .ptr 1 0, .ptr 3 0, .ptr 4 0]]), (5, .p [p4396, p4397, p4398, p4399, p4400])], 6, []⟩) N _ ((Wk_le (.cons _ _ _ _ _ (.refl _) (.cons _ _ _ _ _ (.dead _) (.cons _ _ _ _ _ (.dead _) (.cons _ _ _ _ _ (.dead _) (.cons _ _ _ _ _ (.dead _) (.cons _ _ _ _ _ (.refl _) (.cons _ _ _ _ _ (.refl _) (.cons _ _ _ _ _ (.dead _) (.cons _ _ _ _ _ (.refl _) (.cons _ _ _ _ _ (.refl _) (.cons _ _ _ _ _ (.refl _) (.cons _ _ _ _ _ (.dead _) (.cons _ _ _ _ _ (.refl _) (.cons _ _ _ _ _ (.refl _) (.cons _ _ _ _ _ (.refl _) (.cons _ _ _ _ _ (.refl _) (.cons _ _ _ _ _ (.refl _) .nil))))))))))))))))) (OLe.refl _)).trans (cmpS_ok (st' := ⟨[], [(0, .v .nl), (1, .dead), (2, .dead), (3, .dead), (4, .dead), (5, .ptr 4 0), (7, .ptr 5 0), (8, .dead), (9, .v (.int .i64 0)), (10, .dead), (11, .dead), (17, .dead), (28, .v (.lst false n4421 c4422)), (29, .v (.int .i64 ((n4421 : Nat) : Int))), (30, .v (.int .i64 0)), (31, .dead), (53, .dead)], [(0, .p [(.lst false n4402 c4403)]), (1, .r [.fn 81 [.ptr 2 0]]), (2, .p [(.int .i64 x4389)]), (3, .p [p4390, (.lst false n4411 c4412)]), (4, .r [.fn 99 [.ptr 0 0, .ptr 1 0, .ptr 3 0, .ptr 4 0]]), (5, .p [p4396, p4397, p4398, p4399, p4400])], 6, []⟩) (by kernel_rfl))) ⟨_, _, _, _, h4495, rfl⟩ ?_
      clear h4495
      rintro n _ ⟨x4452, p4453, x4454, p4455, h4495, rfl⟩
      cases n with
      | zero => cases h4495
      | succ n =>
        rw [m99_3_L0] at h4495
        have hh := brn_some h4495; clear h4495; rcases hh with ⟨h4456, h4495⟩ | ⟨h4456, h4495⟩
        · have hh := grd_some h4495; clear h4495; obtain ⟨⟨g4457, g4458⟩, h4495⟩ := hh
          have hh := grd_some h4495; clear h4495; obtain ⟨g4459, h4495⟩ := hh
          have hh := getA2_some h4495; clear h4495; obtain ⟨p4461, p4462, h4460, h4495⟩ := hh
          injection h4460 with h4460
          have hh := bnd'_some h4495; clear h4495; obtain ⟨p4463, h4464, h4495⟩ := hh
          refine W_sound tab_ok mixed 22 _ _ _ ?_
          simp -implicitDefEqProofs only [go_sem, ne_eq, not_false_eq_true, Nat.reduceBEq, Nat.reduceAdd, Nat.reduceSub, Nat.reduceMul, Nat.reduceLT, Nat.reduceLeDiff, Int.reduceLE, Int.reduceLT, Int.reduceToNat, Int.reduceBEq, Int.reduceBNe, Int.le_refl, Nat.le_refl, decide_true, decide_false, Int.cast_ofNat_Int, ↓reduceIte, h4395, h4401, h4404, h4410, g4413, g4414, h4415, g4417, g4418, g4419, h4420, h4456, g4457, g4458, g4459, h4460]
          repeat with_reducible refine And.intro (by first | kernel_rfl | decide) ?_
          refine Wp_callP (c71 N _ _ _ h4464) (by kernel_rfl) rfl rfl rfl rfl (by decide) ?_
          have hh := getB_some h4495; clear h4495; obtain ⟨b4466, h4465, h4495⟩ := hh
          have hh := brn_some h4495; clear h4495; rcases hh with ⟨h4467, h4495⟩ | ⟨h4467, h4495⟩
          · refine W_sound tab_ok mixed 24 _ _ _ ?_
            simp -implicitDefEqProofs only [go_sem, ne_eq, not_false_eq_true, Nat.reduceBEq, Nat.reduceAdd, Nat.reduceSub, Nat.reduceMul, Nat.reduceLT, Nat.reduceLeDiff, Int.reduceLE, Int.reduceLT, Int.reduceToNat, Int.reduceBEq, Int.reduceBNe, Int.le_refl, Nat.le_refl, decide_true, decide_false, Int.cast_ofNat_Int, ↓reduceIte, h4395, h4401, h4404, h4410, g4413, g4414, h4415, g4417, g4418, g4419, h4420, h4456, g4457, g4458, g4459, h4460, h4465, h4467]
            repeat with_reducible refine And.intro (by first | kernel_rfl | decide) ?_
            exact cutQ _ ((Wk_le (.cons _ _ _ _ _ (.refl _) (.cons _ _ _ _ _ (.refl _) (.cons _ _ _ _ _ (.refl _) (.cons _ _ _ _ _ (.refl _) (.cons _ _ _ _ _ (.refl _) (.cons _ _ _ _ _ (.refl _) (.cons _ _ _ _ _ (.refl _) (.cons _ _ _ _ _ (.refl _) (.cons _ _ _ _ _ (.refl _) (.cons _ _ _ _ _ (.dead _) (.cons _ _ _ _ _ (.dead _) (.cons _ _ _ _ _ (.refl _) (.cons _ _ _ _ _ (.refl _) (.cons _ _ _ _ _ (.refl _) (.cons _ _ _ _ _ (.refl _) (.cons _ _ _ _ _ (.dead _) (.cons _ _ _ _ _ (.dead _) .nil))))))))))))))))) (OLe.refl _)).trans (cmpS_ok (st' := ⟨[], [(0, .v .nl), (1, .dead), (2, .dead), (3, .dead), (4, .dead), (5, .ptr 4 0), (7, .ptr 5 0), (8, .dead), (9, .v (.int .i64 0)), (10, .dead), (11, .dead), (17, .dead), (28, .v (.lst false n4421 c4422)), (29, .v (.int .i64 ((n4421 : Nat) : Int))), (30, .v (.int .i64 (IntKind.i64.wrap (x4452 + 1)))), (31, .dead), (53, .dead)], [(0, .p [p4453]), (1, .r [.fn 81 [.ptr 2 0]]), (2, .p [(.int .i64 x4454)]), (3, .p [p4390, p4455]), (4, .r [.fn 99 [.ptr 0 0, .ptr 1 0, .ptr 3 0, .ptr 4 0]]), (5, .p [p4396, p4397, p4398, p4399, p4400])], 6, []⟩) (by kernel_rfl))) ⟨n, Nat.lt_succ_self n, _, _, _, _, h4495, rfl⟩
          · have hh := bnd'_some h4495; clear h4495; obtain ⟨p4468, h4469, h4495⟩ := hh
            refine W_sound tab_ok mixed 12 _ _ _ ?_
            simp -implicitDefEqProofs only [go_sem, ne_eq, not_false_eq_true, Nat.reduceBEq, Nat.reduceAdd, Nat.reduceSub, Nat.reduceMul, Nat.reduceLT, Nat.reduceLeDiff, Int.reduceLE, Int.reduceLT, Int.reduceToNat, Int.reduceBEq, Int.reduceBNe, Int.le_refl, Nat.le_refl, decide_true, decide_false, Int.cast_ofNat_Int, ↓reduceIte, h4395, h4401, h4404, h4410, g4413, g4414, h4415, g4417, g4418, g4419, h4420, h4456, g4457, g4458, g4459, h4460, h4465, h4467]
            repeat with_reducible refine And.intro (by first | kernel_rfl | decide) ?_
            refine Wp_callP (c98 N _ _ _ h4469) (by kernel_rfl) rfl rfl rfl rfl (by decide) ?_
            have hh := getA5_some h4495; clear h4495; obtain ⟨p4471, p4472, p4473, p4474, p4475, h4470, h4495⟩ := hh
            have hh := bnd'_some h4495; clear h4495; obtain ⟨⟨p4476, p4478, x4479, p4480⟩, h4477, h4495⟩ := hh
            (try dsimp only at h4495)
            (try simp -implicitDefEqProofs only [go_sem, ne_eq, not_false_eq_true, Nat.reduceBEq, Nat.reduceAdd, Nat.reduceSub, Nat.reduceMul, Nat.reduceLT, Nat.reduceLeDiff, Int.reduceLE, Int.reduceLT, Int.reduceToNat, Int.reduceBEq, Int.reduceBNe, Int.le_refl, Nat.le_refl, decide_true, decide_false, Int.cast_ofNat_Int, ↓reduceIte, h4395, h4401, h4404, h4410, g4413, g4414, h4415, g4417, g4418, g4419, h4420, h4456, g4457, g4458, g4459, h4460, h4465, h4467, h4470])
            refine Wp_callDF [(65, [(.int .i64 x4452)])] [0, 1, 2, 3, 4] (c99_4 N N _ _ _ _ _ _ _ _ _ _ h4477) rfl rfl rfl (by first | rfl | (simp only [go_sem, ne_eq, not_false_eq_true, Nat.reduceBEq, Nat.reduceAdd, Nat.reduceSub, Nat.reduceMul, Nat.reduceLT, Nat.reduceLeDiff, Int.reduceLE, Int.reduceLT, Int.reduceToNat, Int.reduceBEq, Int.reduceBNe, Int.le_refl, Nat.le_refl, decide_true, decide_false, Int.cast_ofNat_Int, ↓reduceIte, h4395, h4401, h4404, h4410, g4413, g4414, h4415, g4417, g4418, g4419, h4420, h4456, g4457, g4458, g4459, h4460, h4465, h4467, h4470] <;> rfl)) rfl (by kernel_rfl) rfl rfl (by simp [roF, obL]) ?_
            have hh := getB_some h4495; clear h4495; obtain ⟨b4482, h4481, h4495⟩ := hh
            have hh := brn_some h4495; clear h4495; rcases hh with ⟨h4483, h4495⟩ | ⟨h4483, h4495⟩
            · refine W_sound tab_ok mixed 10 _ _ _ ?_
              simp -implicitDefEqProofs only [go_sem, ne_eq, not_false_eq_true, Nat.reduceBEq, Nat.reduceAdd, Nat.reduceSub, Nat.reduceMul, Nat.reduceLT, Nat.reduceLeDiff, Int.reduceLE, Int.reduceLT, Int.reduceToNat, Int.reduceBEq, Int.reduceBNe, Int.le_refl, Nat.le_refl, decide_true, decide_false, Int.cast_ofNat_Int, ↓reduceIte, h4395, h4401, h4404, h4410, g4413, g4414, h4415, g4417, g4418, g4419, h4420, h4456, g4457, g4458, g4459, h4460, h4465, h4467, h4470, h4481, h4483]
              repeat with_reducible refine And.intro (by first | kernel_rfl | decide) ?_
              exact cutQ _ ((Wk_le (.cons _ _ _ _ _ (.refl _) (.cons _ _ _ _ _ (.refl _) (.cons _ _ _ _ _ (.refl _) (.cons _ _ _ _ _ (.refl _) (.cons _ _ _ _ _ (.refl _) (.cons _ _ _ _ _ (.refl _) (.cons _ _ _ _ _ (.refl _) (.cons _ _ _ _ _ (.refl _) (.cons _ _ _ _ _ (.refl _) (.cons _ _ _ _ _ (.dead _) (.cons _ _ _ _ _ (.dead _) (.cons _ _ _ _ _ (.refl _) (.cons _ _ _ _ _ (.refl _) (.cons _ _ _ _ _ (.refl _) (.cons _ _ _ _ _ (.refl _) (.cons _ _ _ _ _ (.dead _) (.cons _ _ _ _ _ (.dead _) .nil))))))))))))))))) (OLe.refl _)).trans (cmpS_ok (st' := ⟨[], [(0, .v .nl), (1, .dead), (2, .dead), (3, .dead), (4, .dead), (5, .ptr 4 0), (7, .ptr 5 0), (8, .dead), (9, .v (.int .i64 0)), (10, .dead), (11, .dead), (17, .dead), (28, .v (.lst false n4421 c4422)), (29, .v (.int .i64 ((n4421 : Nat) : Int))), (30, .v (.int .i64 (IntKind.i64.wrap (x4452 + 1)))), (31, .dead), (53, .dead)], [(0, .p [p4478]), (1, .r [.fn 81 [.ptr 2 0]]), (2, .p [(.int .i64 x4479)]), (3, .p [p4390, p4480]), (4, .r [.fn 99 [.ptr 0 0, .ptr 1 0, .ptr 3 0, .ptr 4 0]]), (5, .p [p4396, p4397, p4398, p4399, p4400])], 6, []⟩) (by kernel_rfl))) ⟨n, Nat.lt_succ_self n, _, _, _, _, h4495, rfl⟩
            · refine W_sound tab_ok mixed 10 _ _ _ ?_
              simp -implicitDefEqProofs only [go_sem, ne_eq, not_false_eq_true, Nat.reduceBEq, Nat.reduceAdd, Nat.reduceSub, Nat.reduceMul, Nat.reduceLT, Nat.reduceLeDiff, Int.reduceLE, Int.reduceLT, Int.reduceToNat, Int.reduceBEq, Int.reduceBNe, Int.le_refl, Nat.le_refl, decide_true, decide_false, Int.cast_ofNat_Int, ↓reduceIte, h4395, h4401, h4404, h4410, g4413, g4414, h4415, g4417, g4418, g4419, h4420, h4456, g4457, g4458, g4459, h4460, h4465, h4467, h4470, h4481, h4483]
              repeat with_reducible refine And.intro (by first | kernel_rfl | decide) ?_
              obtain rfl := Option.some.inj h4495
              (try dsimp only at h4496)
              simp only [Option.some.injEq, Prod.mk.injEq] at h4496; obtain ⟨rfl, rfl, rfl, rfl⟩ := h4496
              exact finD (e2 := [(0, .dead), (1, .dead), (2, .dead), (3, .dead), (4, .dead), (5, .dead), (7, .dead), (8, .v (.bool false)), (9, .dead), (10, .dead), (11, .dead), (17, .dead), (28, .dead), (29, .dead), (30, .dead), (31, .dead), (53, .dead)]) (ob2 := [(5, .p [p4396, p4397, p4398, p4399, p4400]), (17, .p [p4461, p4462]), (64, .p [(.int .i64 x4452)]), (4, .r [.fn 99 [.ptr 0 0, .ptr 1 0, .ptr 3 0, .ptr 4 0]]), (3, .p [p4390, p4480]), (2, .p [(.int .i64 x4479)]), (1, .r [.fn 81 [.ptr 2 0]]), (0, .p [p4478])]) (st' := ⟨[], [(0, .dead), (1, .dead), (2, .dead), (3, .dead), (4, .dead), (5, .dead), (7, .dead), (8, .v (.bool false)), (9, .dead), (10, .dead), (11, .dead), (17, .dead), (28, .dead), (29, .dead), (30, .dead), (31, .dead), (53, .dead)], [(0, .p [p4478]), (1, .r [.fn 81 [.ptr 2 0]]), (2, .p [(.int .i64 x4479)]), (3, .p [p4390, p4480]), (4, .r [.fn 99 [.ptr 0 0, .ptr 1 0, .ptr 3 0, .ptr 4 0]])], 5, []⟩) (.cons _ _ _ _ _ (.dead _) (.cons _ _ _ _ _ (.refl _) (.cons _ _ _ _ _ (.refl _) (.cons _ _ _ _ _ (.refl _) (.cons _ _ _ _ _ (.refl _) (.cons _ _ _ _ _ (.dead _) (.cons _ _ _ _ _ (.dead _) (.cons _ _ _ _ _ (.refl _) (.cons _ _ _ _ _ (.dead _) (.cons _ _ _ _ _ (.dead _) (.cons _ _ _ _ _ (.dead _) (.cons _ _ _ _ _ (.refl _) (.cons _ _ _ _ _ (.dead _) (.cons _ _ _ _ _ (.dead _) (.cons _ _ _ _ _ (.dead _) (.cons _ _ _ _ _ (.dead _) (.cons _ _ _ _ _ (.dead _) .nil))))))))))))))))) (.cons _ _ _ _ _ (DLes.refl _) (.cons _ _ _ _ _ (DLes.refl _) (.cons _ _ _ _ _ (DLes.refl _) (.cons _ _ _ _ _ (DLes.refl _) (.cons _ _ _ _ _ (DLes.refl _) (.cons _ _ _ _ _ (DLes.refl _) (.cons _ _ _ _ _ (DLes.refl _) (.cons _ _ _ _ _ (DLes.refl _) .nil)))))))) (by kernel_rfl) (by simp only [go_sem, ne_eq, not_false_eq_true, Nat.reduceBEq, Nat.reduceAdd, Nat.reduceSub, Nat.reduceMul, Nat.reduceLT, Nat.reduceLeDiff, Int.reduceLE, Int.reduceLT, Int.reduceToNat, Int.reduceBEq, Int.reduceBNe, Int.le_refl, Nat.le_refl, decide_true, decide_false, Int.cast_ofNat_Int, ↓reduceIte, resQ_tmp, resQ_cell, resQ_nil, retD_one, retD_two, retD_three, retD_none]; try simp [R.val, retD_one, retD_two, retD_three, retD_none])
        · refine W_sound tab_ok mixed 7 _ _ _ ?_
          simp -implicitDefEqProofs only [go_sem, ne_eq, not_false_eq_true, Nat.reduceBEq, Nat.reduceAdd, Nat.reduceSub, Nat.reduceMul, Nat.reduceLT, Nat.reduceLeDiff, Int.reduceLE, Int.reduceLT, Int.reduceToNat, Int.reduceBEq, Int.reduceBNe, Int.le_refl, Nat.le_refl, decide_true, decide_false, Int.cast_ofNat_Int, ↓reduceIte, h4395, h4401, h4404, h4410, g4413, g4414, h4415, g4417, g4418, g4419, h4420, h4456]
          repeat with_reducible refine And.intro (by first | kernel_rfl | decide) ?_
          obtain rfl := Option.some.inj h4495
          exact cutQ _ ((Wk_le (.cons _ _ _ _ _ (.dead _) (.cons _ _ _ _ _ (.refl _) (.cons _ _ _ _ _ (.refl _) (.cons _ _ _ _ _ (.refl _) (.cons _ _ _ _ _ (.refl _) (.cons _ _ _ _ _ (.dead _) (.cons _ _ _ _ _ (.dead _) (.cons _ _ _ _ _ (.refl _) (.cons _ _ _ _ _ (.dead _) (.cons _ _ _ _ _ (.refl _) (.cons _ _ _ _ _ (.refl _) (.cons _ _ _ _ _ (.refl _) (.cons _ _ _ _ _ (.dead _) (.cons _ _ _ _ _ (.dead _) (.cons _ _ _ _ _ (.dead _) (.cons _ _ _ _ _ (.dead _) (.cons _ _ _ _ _ (.refl _) .nil))))))))))))))))) (OLe.refl _)).trans (cmpS_ok (st' := ⟨[], [(0, .dead), (1, .dead), (2, .dead), (3, .dead), (4, .dead), (5, .dead), (7, .dead), (8, .dead), (9, .dead), (10, .dead), (11, .dead), (17, .dead), (28, .dead), (29, .dead), (30, .dead), (31, .dead), (53, .dead)], [(0, .p [p4453]), (1, .r [.fn 81 [.ptr 2 0]]), (2, .p [(.int .i64 x4454)]), (3, .p [p4390, p4455]), (4, .r [.fn 99 [.ptr 0 0, .ptr 1 0, .ptr 3 0, .ptr 4 0]])], 5, []⟩) (by kernel_rfl))) ⟨_, _, _, rfl, rfl⟩
    · rintro _ ⟨p4485, x4486, p4487, rfl, rfl⟩
      (try dsimp only at h4496)
      refine W_sound tab_ok mixed 6 _ _ _ ?_
      simp -implicitDefEqProofs only [go_sem, ne_eq, not_false_eq_true, Nat.reduceBEq, Nat.reduceAdd, Nat.reduceSub, Nat.reduceMul, Nat.reduceLT, Nat.reduceLeDiff, Int.reduceLE, Int.reduceLT, Int.reduceToNat, Int.reduceBEq, Int.reduceBNe, Int.le_refl, Nat.le_refl, decide_true, decide_false, Int.cast_ofNat_Int, ↓reduceIte, h4395, h4401, h4404, h4410, g4413, g4414, h4415, g4417, g4418, g4419, h4420]
      repeat with_reducible refine And.intro (by first | kernel_rfl | decide) ?_
      simp only [Option.some.injEq, Prod.mk.injEq] at h4496; obtain ⟨rfl, rfl, rfl, rfl⟩ := h4496
      exact finD (e2 := [(0, .dead), (1, .dead), (2, .dead), (3, .dead), (4, .dead), (5, .dead), (7, .dead), (8, .v (.bool true)), (9, .dead), (10, .dead), (11, .dead), (17, .dead), (28, .dead), (29, .dead), (30, .dead), (31, .dead), (53, .dead)]) (ob2 := [(0, .p [p4485]), (1, .r [.fn 81 [.ptr 2 0]]), (2, .p [(.int .i64 x4486)]), (3, .p [p4390, p4487]), (4, .r [.fn 99 [.ptr 0 0, .ptr 1 0, .ptr 3 0, .ptr 4 0]])]) (st' := ⟨[], [(0, .dead), (1, .dead), (2, .dead), (3, .dead), (4, .dead), (5, .dead), (7, .dead), (8, .v (.bool true)), (9, .dead), (10, .dead), (11, .dead), (17, .dead), (28, .dead), (29, .dead), (30, .dead), (31, .dead), (53, .dead)], [(0, .p [p4485]), (1, .r [.fn 81 [.ptr 2 0]]), (2, .p [(.int .i64 x4486)]), (3, .p [p4390, p4487]), (4, .r [.fn 99 [.ptr 0 0, .ptr 1 0, .ptr 3 0, .ptr 4 0]])], 5, []⟩) (.cons _ _ _ _ _ (.refl _) (.cons _ _ _ _ _ (.refl _) (.cons _ _ _ _ _ (.refl _) (.cons _ _ _ _ _ (.refl _) (.cons _ _ _ _ _ (.refl _) (.cons _ _ _ _ _ (.refl _) (.cons _ _ _ _ _ (.refl _) (.cons _ _ _ _ _ (.refl _) (.cons _ _ _ _ _ (.refl _) (.cons _ _ _ _ _ (.refl _) (.cons _ _ _ _ _ (.refl _) (.cons _ _ _ _ _ (.refl _) (.cons _ _ _ _ _ (.refl _) (.cons _ _ _ _ _ (.refl _) (.cons _ _ _ _ _ (.refl _) (.cons _ _ _ _ _ (.refl _) (.cons _ _ _ _ _ (.refl _) .nil))))))))))))))))) (.cons _ _ _ _ _ (DLes.refl _) (.cons _ _ _ _ _ (DLes.refl _) (.cons _ _ _ _ _ (DLes.refl _) (.cons _ _ _ _ _ (DLes.refl _) (.cons _ _ _ _ _ (DLes.refl _) .nil))))) (by kernel_rfl) (by simp only [go_sem, ne_eq, not_false_eq_true, Nat.reduceBEq, Nat.reduceAdd, Nat.reduceSub, Nat.reduceMul, Nat.reduceLT, Nat.reduceLeDiff, Int.reduceLE, Int.reduceLT, Int.reduceToNat, Int.reduceBEq, Int.reduceBNe, Int.le_refl, Nat.le_refl, decide_true, decide_false, Int.cast_ofNat_Int, ↓reduceIte, resQ_tmp, resQ_cell, resQ_nil, retD_one, retD_two, retD_three, retD_none]; try simp [R.val, retD_one, retD_two, retD_three, retD_none])

def m76_2 (N : Nat) (p4505 : PV) (p4506 : PV) (x4507 : Int) : Option ((PV × Int)) :=
  getA2 p4505 fun p4510 p4511 =>
  getL p4506 fun n4513 c4514 =>
  bnd' (m97 N ) fun p4515 =>
  getA5 p4515 fun p4518 p4519 p4520 p4521 p4522 =>
  bnd' (m99_3 N (.agg [p4518, p4519, p4520, p4521, p4522]) (.lst false n4513 c4514) x4507 p4510 p4511) fun (p4523, p4525, x4526, p4527) =>
  getB p4523 fun b4529 =>
  some ((.tup []), x4526)
theorem c76_2 (N : Nat) (p4505 : PV) (p4506 : PV) (x4507 : Int) (r : PV) (x4531 : Int) (h : m76_2 N p4505 p4506 x4507 = some (r, x4531)) : V.Fn Tryd.prog 76 1 [.v p4505, .v p4506, .fn 81 [.ptr 0 0]] [(0, .p [(.int .i64 x4507)])] (fun d ob' => d = .v r ∧ ob' = [(0, .p [(.int .i64 x4531)])]) := by
  unfold m76_2 at h
  refine Fn_of (sz := 11) tab_ok [0, 1, 2, 3, 4, 5, 6] [] Tryd.func76 rfl rfl rfl (by simp) ?_
  simp only [initSt, initEnv, List.map_cons, List.map_nil, List.getD_cons_zero, List.getD_cons_succ, List.getD_nil]
  have hh := getA2_some h; clear h; obtain ⟨p4510, p4511, h4509, h⟩ := hh
  have hh := getL_some h; clear h; obtain ⟨n4513, c4514, h4512, h⟩ := hh
  have hh := bnd'_some h; clear h; obtain ⟨p4515, h4516, h⟩ := hh
  refine W_sound tab_ok mixed 17 _ _ _ ?_
  simp -implicitDefEqProofs only [go_sem, ne_eq, not_false_eq_true, Nat.reduceBEq, Nat.reduceAdd, Nat.reduceSub, Nat.reduceMul, Nat.reduceLT, Nat.reduceLeDiff, Int.reduceLE, Int.reduceLT, Int.reduceToNat, Int.reduceBEq, Int.reduceBNe, Int.le_refl, Nat.le_refl, decide_true, decide_false, Int.cast_ofNat_Int, ↓reduceIte, h4509, h4512]
  repeat with_reducible refine And.intro (by first | kernel_rfl | decide) ?_
  refine Wp_callP (c97 N  _ h4516) (by kernel_rfl) rfl rfl rfl rfl (by decide) ?_
  have hh := getA5_some h; clear h; obtain ⟨p4518, p4519, p4520, p4521, p4522, h4517, h⟩ := hh
  have hh := bnd'_some h; clear h; obtain ⟨⟨p4523, p4525, x4526, p4527⟩, h4524, h⟩ := hh
  (try dsimp only at h)
  (try simp -implicitDefEqProofs only [go_sem, ne_eq, not_false_eq_true, Nat.reduceBEq, Nat.reduceAdd, Nat.reduceSub, Nat.reduceMul, Nat.reduceLT, Nat.reduceLeDiff, Int.reduceLE, Int.reduceLT, Int.reduceToNat, Int.reduceBEq, Int.reduceBNe, Int.le_refl, Nat.le_refl, decide_true, decide_false, Int.cast_ofNat_Int, ↓reduceIte, h4509, h4512, h4517])
  refine Wp_callD [5, 6, 0, 4, 13] (c99_3 N _ _ _ _ _ _ _ _ _ h4524) rfl rfl rfl (by first | rfl | (simp only [go_sem, ne_eq, not_false_eq_true, Nat.reduceBEq, Nat.reduceAdd, Nat.reduceSub, Nat.reduceMul, Nat.reduceLT, Nat.reduceLeDiff, Int.reduceLE, Int.reduceLT, Int.reduceToNat, Int.reduceBEq, Int.reduceBNe, Int.le_refl, Nat.le_refl, decide_true, decide_false, Int.cast_ofNat_Int, ↓reduceIte, h4509, h4512, h4517] <;> rfl)) rfl (by kernel_rfl) ?_
  have hh := getB_some h; clear h; obtain ⟨b4529, h4528, h⟩ := hh
  refine W_sound tab_ok mixed 2 _ _ _ ?_
  simp -implicitDefEqProofs only [go_sem, ne_eq, not_false_eq_true, Nat.reduceBEq, Nat.reduceAdd, Nat.reduceSub, Nat.reduceMul, Nat.reduceLT, Nat.reduceLeDiff, Int.reduceLE, Int.reduceLT, Int.reduceToNat, Int.reduceBEq, Int.reduceBNe, Int.le_refl, Nat.le_refl, decide_true, decide_false, Int.cast_ofNat_Int, ↓reduceIte, h4509, h4512, h4517, h4528]
  repeat with_reducible refine And.intro (by first | kernel_rfl | decide) ?_
  simp only [Option.some.injEq, Prod.mk.injEq] at h; obtain ⟨rfl, rfl⟩ := h
  exact finD (e2 := [(0, .dead), (1, .dead), (2, .dead), (3, .dead), (4, .dead), (5, .dead), (6, .dead)]) (ob2 := [(13, .r [.fn 99 [.ptr 5 0, .ptr 6 0, .ptr 4 0, .ptr 13 0]]), (4, .p [p4510, p4527]), (0, .p [(.int .i64 x4526)]), (6, .r [.fn 81 [.ptr 0 0]]), (5, .p [p4525])]) (st' := ⟨[], [(0, .dead), (1, .dead), (2, .dead), (3, .dead), (4, .dead), (5, .dead), (6, .dead)], [(0, .p [(.int .i64 x4526)])], 1, []⟩) (.cons _ _ _ _ _ (.dead _) (.cons _ _ _ _ _ (.dead _) (.cons _ _ _ _ _ (.dead _) (.cons _ _ _ _ _ (.dead _) (.cons _ _ _ _ _ (.dead _) (.cons _ _ _ _ _ (.dead _) (.cons _ _ _ _ _ (.dead _) .nil))))))) (.cons _ _ _ _ _ (DLes.refl _) (.cons _ _ _ _ _ (DLes.refl _) (.cons _ _ _ _ _ (DLes.refl _) (.cons _ _ _ _ _ (DLes.refl _) (.cons _ _ _ _ _ (DLes.refl _) .nil))))) (by kernel_rfl) (by simp only [go_sem, ne_eq, not_false_eq_true, Nat.reduceBEq, Nat.reduceAdd, Nat.reduceSub, Nat.reduceMul, Nat.reduceLT, Nat.reduceLeDiff, Int.reduceLE, Int.reduceLT, Int.reduceToNat, Int.reduceBEq, Int.reduceBNe, Int.le_refl, Nat.le_refl, decide_true, decide_false, Int.cast_ofNat_Int, ↓reduceIte, resQ_tmp, resQ_cell, resQ_nil, retD_one, retD_two, retD_three, retD_none]; try simp [R.val, retD_one, retD_two, retD_three, retD_none])

def m28 (N : Nat) (p4043 : PV) : Option (PV) :=
  getA2 p4043 fun p4045 p4046 =>
  bnd' (m22 N (.agg [p4045, p4046])) fun p4047 =>
  getI .i64 p4047 fun x4050 =>
  brn (x4050 != 0) (
    some (.tup [(.int .i64 0), (.int .i64 x4050)])) (
    getL p4046 fun n4053 c4054 =>
    grd (0 ≤ ((n4053 : Nat) : Int)) <|
    bnd' (m77 N (IntKind.u64.wrap ((IntKind.u64.wrap (1 * 2 ^ (min n4053 64))) - 1))) fun p4056 =>
    getL p4056 fun n4059 c4060 =>
    bnd' (m76_2 N (.agg [p4045, (.lst false n4053 c4054)]) (.lst false n4059 c4060) 0) fun (p4532, x4534) =>
    getT0 p4532 <|
    some (.tup [(.int .i64 x4534), (.int .i64 0)]))
theorem c28 (N : Nat) (p4043 : PV) (r : PV)  (h : m28 N p4043 = some r) : FnP Tryd.prog 28 [p4043] r := by
  unfold m28 at h
  refine Fn_of (sz := 21) tab_ok [0, 1, 2, 3, 4, 5, 9] [.tmp 2, .tmp 3] Tryd.func28 rfl rfl rfl (by simp) ?_
  simp only [initSt, initEnv, List.map_cons, List.map_nil, List.getD_cons_zero, List.getD_cons_succ, List.getD_nil]
  have hh := getA2_some h; clear h; obtain ⟨p4045, p4046, h4044, h⟩ := hh
  have hh := bnd'_some h; clear h; obtain ⟨p4047, h4048, h⟩ := hh
  refine W_sound tab_ok mixed 10 _ _ _ ?_
  simp -implicitDefEqProofs only [go_sem, ne_eq, not_false_eq_true, Nat.reduceBEq, Nat.reduceAdd, Nat.reduceSub, Nat.reduceMul, Nat.reduceLT, Nat.reduceLeDiff, Int.reduceLE, Int.reduceLT, Int.reduceToNat, Int.reduceBEq, Int.reduceBNe, Int.le_refl, Nat.le_refl, decide_true, decide_false, Int.cast_ofNat_Int, ↓reduceIte, h4044]
  repeat with_reducible refine And.intro (by first | kernel_rfl | decide) ?_
  refine Wp_callP (c22 N _ _ h4048) (by kernel_rfl) rfl rfl rfl rfl (by decide) ?_
  have hh := getI_some h; clear h; obtain ⟨x4050, h4049, h⟩ := hh
  have hh := brn_some h; clear h; rcases hh with ⟨h4051, h⟩ | ⟨h4051, h⟩
  · refine W_sound tab_ok mixed 16 _ _ _ ?_
    simp -implicitDefEqProofs only [go_sem, ne_eq, not_false_eq_true, Nat.reduceBEq, Nat.reduceAdd, Nat.reduceSub, Nat.reduceMul, Nat.reduceLT, Nat.reduceLeDiff, Int.reduceLE, Int.reduceLT, Int.reduceToNat, Int.reduceBEq, Int.reduceBNe, Int.le_refl, Nat.le_refl, decide_true, decide_false, Int.cast_ofNat_Int, ↓reduceIte, h4044, h4049, h4051]
    repeat with_reducible refine And.intro (by first | kernel_rfl | decide) ?_
    obtain rfl := Option.some.inj h
    exact finC [(2, .v (.int .i64 0)), (3, .v (.int .i64 x4050))] [(2, .v (.int .i64 0)), (3, .v (.int .i64 x4050))] (by simp [leE, lk_cons]) (.cons _ _ _ _ _ (.v _ _ (.refl _)) (.cons _ _ _ _ _ (.v _ _ (.refl _)) .nil)) (by rfl) (by simp [leE, lk_cons]) (by decide) (by decide) rfl (by simp only [go_sem, ne_eq, not_false_eq_true, Nat.reduceBEq, Nat.reduceAdd, Nat.reduceSub, Nat.reduceMul, Nat.reduceLT, Nat.reduceLeDiff, Int.reduceLE, Int.reduceLT, Int.reduceToNat, Int.reduceBEq, Int.reduceBNe, Int.le_refl, Nat.le_refl, decide_true, decide_false, Int.cast_ofNat_Int, ↓reduceIte, resQ_tmp, resQ_cell, resQ_nil, retD_one, retD_two, retD_three, retD_none]; try simp [R.val, retD_one, retD_two, retD_three, retD_none])
  · have hh := getL_some h; clear h; obtain ⟨n4053, c4054, h4052, h⟩ := hh
    have hh := grd_some h; clear h; obtain ⟨g4055, h⟩ := hh
    have hh := bnd'_some h; clear h; obtain ⟨p4056, h4057, h⟩ := hh
    refine W_sound tab_ok mixed 22 _ _ _ ?_
    simp -implicitDefEqProofs only [go_sem, ne_eq, not_false_eq_true, Nat.reduceBEq, Nat.reduceAdd, Nat.reduceSub, Nat.reduceMul, Nat.reduceLT, Nat.reduceLeDiff, Int.reduceLE, Int.reduceLT, Int.reduceToNat, Int.reduceBEq, Int.reduceBNe, Int.le_refl, Nat.le_refl, decide_true, decide_false, Int.cast_ofNat_Int, ↓reduceIte, h4044, h4049, h4051, h4052, g4055]
    repeat with_reducible refine And.intro (by first | kernel_rfl | decide) ?_
    refine Wp_callP (c77 N _ _ h4057) (by kernel_rfl) rfl rfl rfl rfl (by decide) ?_
    have hh := getL_some h; clear h; obtain ⟨n4059, c4060, h4058, h⟩ := hh
    have hh := bnd'_some h; clear h; obtain ⟨⟨p4532, x4534⟩, h4533, h⟩ := hh
    (try dsimp only at h)
    refine W_sound tab_ok mixed 1 _ _ _ ?_
    simp -implicitDefEqProofs only [go_sem, ne_eq, not_false_eq_true, Nat.reduceBEq, Nat.reduceAdd, Nat.reduceSub, Nat.reduceMul, Nat.reduceLT, Nat.reduceLeDiff, Int.reduceLE, Int.reduceLT, Int.reduceToNat, Int.reduceBEq, Int.reduceBNe, Int.le_refl, Nat.le_refl, decide_true, decide_false, Int.cast_ofNat_Int, ↓reduceIte, h4044, h4049, h4051, h4052, g4055, h4058]
    repeat with_reducible refine And.intro (by first | kernel_rfl | decide) ?_
    refine Wp_callD [7] (c76_2 N _ _ _ _ _ h4533) rfl rfl rfl (by first | rfl | (simp only [go_sem, ne_eq, not_false_eq_true, Nat.reduceBEq, Nat.reduceAdd, Nat.reduceSub, Nat.reduceMul, Nat.reduceLT, Nat.reduceLeDiff, Int.reduceLE, Int.reduceLT, Int.reduceToNat, Int.reduceBEq, Int.reduceBNe, Int.le_refl, Nat.le_refl, decide_true, decide_false, Int.cast_ofNat_Int, ↓reduceIte, h4044, h4049, h4051, h4052, g4055, h4058] <;> rfl)) rfl (by kernel_rfl) ?_
    have hh := getT0_some h; clear h; obtain ⟨h4535, h⟩ := hh
    refine W_sound tab_ok mixed 9 _ _ _ ?_
    simp -implicitDefEqProofs only [go_sem, ne_eq, not_false_eq_true, Nat.reduceBEq, Nat.reduceAdd, Nat.reduceSub, Nat.reduceMul, Nat.reduceLT, Nat.reduceLeDiff, Int.reduceLE, Int.reduceLT, Int.reduceToNat, Int.reduceBEq, Int.reduceBNe, Int.le_refl, Nat.le_refl, decide_true, decide_false, Int.cast_ofNat_Int, ↓reduceIte, h4044, h4049, h4051, h4052, g4055, h4058, h4535]
    repeat with_reducible refine And.intro (by first | kernel_rfl | decide) ?_
    obtain rfl := Option.some.inj h
    exact finC [(2, .v (.int .i64 x4534)), (3, .v (.int .i64 0))] [(2, .v (.int .i64 x4534)), (3, .v (.int .i64 0))] (by simp [leE, lk_cons]) (.cons _ _ _ _ _ (.v _ _ (.refl _)) (.cons _ _ _ _ _ (.v _ _ (.refl _)) .nil)) (by rfl) (by simp [leE, lk_cons]) (by decide) (by decide) rfl (by simp only [go_sem, ne_eq, not_false_eq_true, Nat.reduceBEq, Nat.reduceAdd, Nat.reduceSub, Nat.reduceMul, Nat.reduceLT, Nat.reduceLeDiff, Int.reduceLE, Int.reduceLT, Int.reduceToNat, Int.reduceBEq, Int.reduceBNe, Int.le_refl, Nat.le_refl, decide_true, decide_false, Int.cast_ofNat_Int, ↓reduceIte, resQ_tmp, resQ_cell, resQ_nil, retD_one, retD_two, retD_three, retD_none]; try simp [R.val, retD_one, retD_two, retD_three, retD_none])

def m29 (N : Nat) (p4545 : PV) : Option (PV) :=
  getA2 p4545 fun p4547 p4548 =>
  bnd' (m23 N (.agg [p4547, p4548])) fun p4549 =>
  getI .i64 p4549 fun x4552 =>
  brn (x4552 != 0) (
    some (.tup [(.int .i64 0), (.int .i64 x4552)])) (
    bnd' (m80 N (.agg [p4547, p4548])) fun p4554 =>
    getL p4554 fun n4557 c4558 =>
    bnd' (m79 N N (.agg [p4547, p4548]) (.lst false n4557 c4558) (.lst false 0 []) (.lst false 0 [])) fun p4559 =>
    getL p4559 fun n4562 c4563 =>
    some (.tup [(.int .i64 ((n4562 : Nat) : Int)), (.int .i64 0)]))
theorem c29 (N : Nat) (p4545 : PV) (r : PV)  (h : m29 N p4545 = some r) : FnP Tryd.prog 29 [p4545] r := by
  unfold m29 at h
  refine Fn_of (sz := 15) tab_ok [0, 1, 2, 3, 4, 8] [.tmp 2, .tmp 3] Tryd.func29 rfl rfl rfl (by simp) ?_
  simp only [initSt, initEnv, List.map_cons, List.map_nil, List.getD_cons_zero, List.getD_cons_succ, List.getD_nil]
  have hh := getA2_some h; clear h; obtain ⟨p4547, p4548, h4546, h⟩ := hh
  have hh := bnd'_some h; clear h; obtain ⟨p4549, h4550, h⟩ := hh
  refine W_sound tab_ok mixed 9 _ _ _ ?_
  simp -implicitDefEqProofs only [go_sem, ne_eq, not_false_eq_true, Nat.reduceBEq, Nat.reduceAdd, Nat.reduceSub, Nat.reduceMul, Nat.reduceLT, Nat.reduceLeDiff, Int.reduceLE, Int.reduceLT, Int.reduceToNat, Int.reduceBEq, Int.reduceBNe, Int.le_refl, Nat.le_refl, decide_true, decide_false, Int.cast_ofNat_Int, ↓reduceIte, h4546]
  repeat with_reducible refine And.intro (by first | kernel_rfl | decide) ?_
  refine Wp_callP (c23 N _ _ h4550) (by kernel_rfl) rfl rfl rfl rfl (by decide) ?_
  have hh := getI_some h; clear h; obtain ⟨x4552, h4551, h⟩ := hh
  have hh := brn_some h; clear h; rcases hh with ⟨h4553, h⟩ | ⟨h4553, h⟩
  · refine W_sound tab_ok mixed 17 _ _ _ ?_
    simp -implicitDefEqProofs only [go_sem, ne_eq, not_false_eq_true, Nat.reduceBEq, Nat.reduceAdd, Nat.reduceSub, Nat.reduceMul, Nat.reduceLT, Nat.reduceLeDiff, Int.reduceLE, Int.reduceLT, Int.reduceToNat, Int.reduceBEq, Int.reduceBNe, Int.le_refl, Nat.le_refl, decide_true, decide_false, Int.cast_ofNat_Int, ↓reduceIte, h4546, h4551, h4553]
    repeat with_reducible refine And.intro (by first | kernel_rfl | decide) ?_
    obtain rfl := Option.some.inj h
    exact finC [(2, .v (.int .i64 0)), (3, .v (.int .i64 x4552))] [(2, .v (.int .i64 0)), (3, .v (.int .i64 x4552))] (by simp [leE, lk_cons]) (.cons _ _ _ _ _ (.v _ _ (.refl _)) (.cons _ _ _ _ _ (.v _ _ (.refl _)) .nil)) (by rfl) (by simp [leE, lk_cons]) (by decide) (by decide) rfl (by simp only [go_sem, ne_eq, not_false_eq_true, Nat.reduceBEq, Nat.reduceAdd, Nat.reduceSub, Nat.reduceMul, Nat.reduceLT, Nat.reduceLeDiff, Int.reduceLE, Int.reduceLT, Int.reduceToNat, Int.reduceBEq, Int.reduceBNe, Int.le_refl, Nat.le_refl, decide_true, decide_false, Int.cast_ofNat_Int, ↓reduceIte, resQ_tmp, resQ_cell, resQ_nil, retD_one, retD_two, retD_three, retD_none]; try simp [R.val, retD_one, retD_two, retD_three, retD_none])
  · have hh := bnd'_some h; clear h; obtain ⟨p4554, h4555, h⟩ := hh
    refine W_sound tab_ok mixed 14 _ _ _ ?_
    simp -implicitDefEqProofs only [go_sem, ne_eq, not_false_eq_true, Nat.reduceBEq, Nat.reduceAdd, Nat.reduceSub, Nat.reduceMul, Nat.reduceLT, Nat.reduceLeDiff, Int.reduceLE, Int.reduceLT, Int.reduceToNat, Int.reduceBEq, Int.reduceBNe, Int.le_refl, Nat.le_refl, decide_true, decide_false, Int.cast_ofNat_Int, ↓reduceIte, h4546, h4551, h4553]
    repeat with_reducible refine And.intro (by first | kernel_rfl | decide) ?_
    refine Wp_callP (c80 N _ _ h4555) (by kernel_rfl) rfl rfl rfl rfl (by decide) ?_
    have hh := getL_some h; clear h; obtain ⟨n4557, c4558, h4556, h⟩ := hh
    have hh := bnd'_some h; clear h; obtain ⟨p4559, h4560, h⟩ := hh
    (try simp -implicitDefEqProofs only [go_sem, ne_eq, not_false_eq_true, Nat.reduceBEq, Nat.reduceAdd, Nat.reduceSub, Nat.reduceMul, Nat.reduceLT, Nat.reduceLeDiff, Int.reduceLE, Int.reduceLT, Int.reduceToNat, Int.reduceBEq, Int.reduceBNe, Int.le_refl, Nat.le_refl, decide_true, decide_false, Int.cast_ofNat_Int, ↓reduceIte, h4546, h4551, h4553, h4556])
    refine Wp_callP (FnP_le (c79 N N _ _ _ _ _ h4560) (.cons _ _ _ _ (.refl _) (.cons _ _ _ _ (.refl _) (.cons _ _ _ _ (.nl false) (.cons _ _ _ _ (.nl false) .nil)))) (.refl _)) (by kernel_rfl) rfl rfl rfl rfl (by decide) ?_
    have hh := getL_some h; clear h; obtain ⟨n4562, c4563, h4561, h⟩ := hh
    refine W_sound tab_ok mixed 6 _ _ _ ?_
    simp -implicitDefEqProofs only [go_sem, ne_eq, not_false_eq_true, Nat.reduceBEq, Nat.reduceAdd, Nat.reduceSub, Nat.reduceMul, Nat.reduceLT, Nat.reduceLeDiff, Int.reduceLE, Int.reduceLT, Int.reduceToNat, Int.reduceBEq, Int.reduceBNe, Int.le_refl, Nat.le_refl, decide_true, decide_false, Int.cast_ofNat_Int, ↓reduceIte, h4546, h4551, h4553, h4556, h4561]
    repeat with_reducible refine And.intro (by first | kernel_rfl | decide) ?_
    obtain rfl := Option.some.inj h
    exact finC [(2, .v (.int .i64 ((n4562 : Nat) : Int))), (3, .v (.int .i64 0))] [(2, .v (.int .i64 ((n4562 : Nat) : Int))), (3, .v (.int .i64 0))] (by simp [leE, lk_cons]) (.cons _ _ _ _ _ (.v _ _ (.refl _)) (.cons _ _ _ _ _ (.v _ _ (.refl _)) .nil)) (by rfl) (by simp [leE, lk_cons]) (by decide) (by decide) rfl (by simp only [go_sem, ne_eq, not_false_eq_true, Nat.reduceBEq, Nat.reduceAdd, Nat.reduceSub, Nat.reduceMul, Nat.reduceLT, Nat.reduceLeDiff, Int.reduceLE, Int.reduceLT, Int.reduceToNat, Int.reduceBEq, Int.reduceBNe, Int.le_refl, Nat.le_refl, decide_true, decide_false, Int.cast_ofNat_Int, ↓reduceIte, resQ_tmp, resQ_cell, resQ_nil, retD_one, retD_two, retD_three, retD_none]; try simp [R.val, retD_one, retD_two, retD_three, retD_none])

def m4 (N : Nat) (p3166 : PV) : Option (PV) :=
  getA2 p3166 fun p3168 p3169 =>
  bnd' (m15 N (.agg [p3168, p3169])) fun p3170 =>
  getB p3170 fun b3173 =>
  brn b3173 (
    bnd' (m16 N ) fun p3175 =>
    getB p3175 fun b3178 =>
    some (.bool b3178)) (
    getI .i64 p3168 fun x3180 =>
    bnd' (m26 N (.agg [(.int .i64 x3180), p3169])) fun p3725 =>
    getT2 p3725 fun p3728 p3729 =>
    getL p3728 fun n3731 c3732 =>
    getI .i64 p3729 fun x3734 =>
    bnd' (m27 N (.agg [(.int .i64 x3180), p3169])) fun p4033 =>
    getT2 p4033 fun p4036 p4037 =>
    getL p4036 fun n4039 c4040 =>
    getI .i64 p4037 fun x4042 =>
    bnd' (m28 N (.agg [(.int .i64 x3180), p3169])) fun p4536 =>
    getT2 p4536 fun p4539 p4540 =>
    getI .i64 p4539 fun x4542 =>
    getI .i64 p4540 fun x4544 =>
    bnd' (m29 N (.agg [(.int .i64 x3180), p3169])) fun p4564 =>
    getT2 p4564 fun p4567 p4568 =>
    getI .i64 p4567 fun x4570 =>
    getI .i64 p4568 fun x4572 =>
    bnd' (m21 N (.lst false n3731 c3732) (.lst false n4039 c4040)) fun p4573 =>
    getB p4573 fun b4576 =>
    brn b4576 (
      brn (x3734 == x4042) (
        brn (x4542 == x4570) (
          brn (x4544 == x4572) (
            bnd' (m16 N ) fun p4581 =>
            getB p4581 fun b4584 =>
            some (.bool b4584)) (
            some (.bool false))) (
          some (.bool false))) (
        some (.bool false))) (
      some (.bool false)))
theorem c4 (N : Nat) (p3166 : PV) (r : PV)  (h : m4 N p3166 = some r) : FnP Tryd.prog 4 [p3166] r := by
  unfold m4 at h
  refine Fn_of (sz := 57) tab_ok [0, 1, 2, 3, 4, 5, 6, 7, 8, 9, 10, 11, 13] [.tmp 2] Tryd.func4 rfl rfl rfl (by simp) ?_
  simp only [initSt, initEnv, List.map_cons, List.map_nil, List.getD_cons_zero, List.getD_cons_succ, List.getD_nil]
  have hh := getA2_some h; clear h; obtain ⟨p3168, p3169, h3167, h⟩ := hh
  have hh := bnd'_some h; clear h; obtain ⟨p3170, h3171, h⟩ := hh
  refine W_sound tab_ok mixed 9 _ _ _ ?_
  simp -implicitDefEqProofs only [go_sem, ne_eq, not_false_eq_true, Nat.reduceBEq, Nat.reduceAdd, Nat.reduceSub, Nat.reduceMul, Nat.reduceLT, Nat.reduceLeDiff, Int.reduceLE, Int.reduceLT, Int.reduceToNat, Int.reduceBEq, Int.reduceBNe, Int.le_refl, Nat.le_refl, decide_true, decide_false, Int.cast_ofNat_Int, ↓reduceIte, h3167]
  repeat with_reducible refine And.intro (by first | kernel_rfl | decide) ?_
  refine Wp_callP (c15 N _ _ h3171) (by kernel_rfl) rfl rfl rfl rfl (by decide) ?_
  have hh := getB_some h; clear h; obtain ⟨b3173, h3172, h⟩ := hh
  have hh := brn_some h; clear h; rcases hh with ⟨h3174, h⟩ | ⟨h3174, h⟩
  · have hh := bnd'_some h; clear h; obtain ⟨p3175, h3176, h⟩ := hh
    refine W_sound tab_ok mixed 4 _ _ _ ?_
    simp -implicitDefEqProofs only [go_sem, ne_eq, not_false_eq_true, Nat.reduceBEq, Nat.reduceAdd, Nat.reduceSub, Nat.reduceMul, Nat.reduceLT, Nat.reduceLeDiff, Int.reduceLE, Int.reduceLT, Int.reduceToNat, Int.reduceBEq, Int.reduceBNe, Int.le_refl, Nat.le_refl, decide_true, decide_false, Int.cast_ofNat_Int, ↓reduceIte, h3167, h3172, h3174]
    repeat with_reducible refine And.intro (by first | kernel_rfl | decide) ?_
    refine Wp_callP (c16 N  _ h3176) (by kernel_rfl) rfl rfl rfl rfl (by decide) ?_
    have hh := getB_some h; clear h; obtain ⟨b3178, h3177, h⟩ := hh
    refine W_sound tab_ok mixed 4 _ _ _ ?_
    simp -implicitDefEqProofs only [go_sem, ne_eq, not_false_eq_true, Nat.reduceBEq, Nat.reduceAdd, Nat.reduceSub, Nat.reduceMul, Nat.reduceLT, Nat.reduceLeDiff, Int.reduceLE, Int.reduceLT, Int.reduceToNat, Int.reduceBEq, Int.reduceBNe, Int.le_refl, Nat.le_refl, decide_true, decide_false, Int.cast_ofNat_Int, ↓reduceIte, h3167, h3172, h3174, h3177]
    repeat with_reducible refine And.intro (by first | kernel_rfl | decide) ?_
    obtain rfl := Option.some.inj h
    exact finC [(2, .v (.bool b3178))] [(2, .v (.bool b3178))] (by simp [leE, lk_cons]) (.cons _ _ _ _ _ (.v _ _ (.refl _)) .nil) (by rfl) (by simp [leE, lk_cons]) (by decide) (by decide) rfl (by simp only [go_sem, ne_eq, not_false_eq_true, Nat.reduceBEq, Nat.reduceAdd, Nat.reduceSub, Nat.reduceMul, Nat.reduceLT, Nat.reduceLeDiff, Int.reduceLE, Int.reduceLT, Int.reduceToNat, Int.reduceBEq, Int.reduceBNe, Int.le_refl, Nat.le_refl, decide_true, decide_false, Int.cast_ofNat_Int, ↓reduceIte, resQ_tmp, resQ_cell, resQ_nil, retD_one, retD_two, retD_three, retD_none]; try simp [R.val, retD_one, retD_two, retD_three, retD_none])
  · have hh := getI_some h; clear h; obtain ⟨x3180, h3179, h⟩ := hh
    have hh := bnd'_some h; clear h; obtain ⟨p3725, h3726, h⟩ := hh
    refine W_sound tab_ok mixed 12 _ _ _ ?_
    simp -implicitDefEqProofs only [go_sem, ne_eq, not_false_eq_true, Nat.reduceBEq, Nat.reduceAdd, Nat.reduceSub, Nat.reduceMul, Nat.reduceLT, Nat.reduceLeDiff, Int.reduceLE, Int.reduceLT, Int.reduceToNat, Int.reduceBEq, Int.reduceBNe, Int.le_refl, Nat.le_refl, decide_true, decide_false, Int.cast_ofNat_Int, ↓reduceIte, h3167, h3172, h3174, h3179]
    repeat with_reducible refine And.intro (by first | kernel_rfl | decide) ?_
    refine Wp_callP (c26 N _ _ h3726) (by kernel_rfl) rfl rfl rfl rfl (by decide) ?_
    have hh := getT2_some h; clear h; obtain ⟨p3728, p3729, h3727, h⟩ := hh
    have hh := getL_some h; clear h; obtain ⟨n3731, c3732, h3730, h⟩ := hh
    have hh := getI_some h; clear h; obtain ⟨x3734, h3733, h⟩ := hh
    have hh := bnd'_some h; clear h; obtain ⟨p4033, h4034, h⟩ := hh
    refine W_sound tab_ok mixed 9 _ _ _ ?_
    simp -implicitDefEqProofs only [go_sem, ne_eq, not_false_eq_true, Nat.reduceBEq, Nat.reduceAdd, Nat.reduceSub, Nat.reduceMul, Nat.reduceLT, Nat.reduceLeDiff, Int.reduceLE, Int.reduceLT, Int.reduceToNat, Int.reduceBEq, Int.reduceBNe, Int.le_refl, Nat.le_refl, decide_true, decide_false, Int.cast_ofNat_Int, ↓reduceIte, h3167, h3172, h3174, h3179, h3727, h3730, h3733]
    repeat with_reducible refine And.intro (by first | kernel_rfl | decide) ?_
    refine Wp_callP (c27 N _ _ h4034) (by kernel_rfl) rfl rfl rfl rfl (by decide) ?_
    have hh := getT2_some h; clear h; obtain ⟨p4036, p4037, h4035, h⟩ := hh
    have hh := getL_some h; clear h; obtain ⟨n4039, c4040, h4038, h⟩ := hh
    have hh := getI_some h; clear h; obtain ⟨x4042, h4041, h⟩ := hh
    have hh := bnd'_some h; clear h; obtain ⟨p4536, h4537, h⟩ := hh
    refine W_sound tab_ok mixed 9 _ _ _ ?_
    simp -implicitDefEqProofs only [go_sem, ne_eq, not_false_eq_true, Nat.reduceBEq, Nat.reduceAdd, Nat.reduceSub, Nat.reduceMul, Nat.reduceLT, Nat.reduceLeDiff, Int.reduceLE, Int.reduceLT, Int.reduceToNat, Int.reduceBEq, Int.reduceBNe, Int.le_refl, Nat.le_refl, decide_true, decide_false, Int.cast_ofNat_Int, ↓reduceIte, h3167, h3172, h3174, h3179, h3727, h3730, h3733, h4035, h4038, h4041]
    repeat with_reducible refine And.intro (by first | kernel_rfl | decide) ?_
    refine Wp_callP (c28 N _ _ h4537) (by kernel_rfl) rfl rfl rfl rfl (by decide) ?_
    have hh := getT2_some h; clear h; obtain ⟨p4539, p4540, h4538, h⟩ := hh
    have hh := getI_some h; clear h; obtain ⟨x4542, h4541, h⟩ := hh
    have hh := getI_some h; clear h; obtain ⟨x4544, h4543, h⟩ := hh
    have hh := bnd'_some h; clear h; obtain ⟨p4564, h4565, h⟩ := hh
    refine W_sound tab_ok mixed 9 _ _ _ ?_
    simp -implicitDefEqProofs only [go_sem, ne_eq, not_false_eq_true, Nat.reduceBEq, Nat.reduceAdd, Nat.reduceSub, Nat.reduceMul, Nat.reduceLT, Nat.reduceLeDiff, Int.reduceLE, Int.reduceLT, Int.reduceToNat, Int.reduceBEq, Int.reduceBNe, Int.le_refl, Nat.le_refl, decide_true, decide_false, Int.cast_ofNat_Int, ↓reduceIte, h3167, h3172, h3174, h3179, h3727, h3730, h3733, h4035, h4038, h4041, h4538, h4541, h4543]
    repeat with_reducible refine And.intro (by first | kernel_rfl | decide) ?_
    refine Wp_callP (c29 N _ _ h4565) (by kernel_rfl) rfl rfl rfl rfl (by decide) ?_
    have hh := getT2_some h; clear h; obtain ⟨p4567, p4568, h4566, h⟩ := hh
    have hh := getI_some h; clear h; obtain ⟨x4570, h4569, h⟩ := hh
    have hh := getI_some h; clear h; obtain ⟨x4572, h4571, h⟩ := hh
    have hh := bnd'_some h; clear h; obtain ⟨p4573, h4574, h⟩ := hh
    refine W_sound tab_ok mixed 10 _ _ _ ?_
    simp -implicitDefEqProofs only [go_sem, ne_eq, not_false_eq_true, Nat.reduceBEq, Nat.reduceAdd, Nat.reduceSub, Nat.reduceMul, Nat.reduceLT, Nat.reduceLeDiff, Int.reduceLE, Int.reduceLT, Int.reduceToNat, Int.reduceBEq, Int.reduceBNe, Int.le_refl, Nat.le_refl, decide_true, decide_false, Int.cast_ofNat_Int, ↓reduceIte, h3167, h3172, h3174, h3179, h3727, h3730, h3733, h4035, h4038, h4041, h4538, h4541, h4543, h4566, h4569, h4571]
    repeat with_reducible refine And.intro (by first | kernel_rfl | decide) ?_
    refine Wp_callP (c21 N _ _ _ h4574) (by kernel_rfl) rfl rfl rfl rfl (by decide) ?_
    have hh := getB_some h; clear h; obtain ⟨b4576, h4575, h⟩ := hh
    have hh := brn_some h; clear h; rcases hh with ⟨h4577, h⟩ | ⟨h4577, h⟩
    · have hh := brn_some h; clear h; rcases hh with ⟨h4578, h⟩ | ⟨h4578, h⟩
      · have hh := brn_some h; clear h; rcases hh with ⟨h4579, h⟩ | ⟨h4579, h⟩
        · have hh := brn_some h; clear h; rcases hh with ⟨h4580, h⟩ | ⟨h4580, h⟩
          · have hh := bnd'_some h; clear h; obtain ⟨p4581, h4582, h⟩ := hh
            refine W_sound tab_ok mixed 16 _ _ _ ?_
            simp -implicitDefEqProofs only [go_sem, ne_eq, not_false_eq_true, Nat.reduceBEq, Nat.reduceAdd, Nat.reduceSub, Nat.reduceMul, Nat.reduceLT, Nat.reduceLeDiff, Int.reduceLE, Int.reduceLT, Int.reduceToNat, Int.reduceBEq, Int.reduceBNe, Int.le_refl, Nat.le_refl, decide_true, decide_false, Int.cast_ofNat_Int, ↓reduceIte, h3167, h3172, h3174, h3179, h3727, h3730, h3733, h4035, h4038, h4041, h4538, h4541, h4543, h4566, h4569, h4571, h4575, h4577, h4578, h4579, h4580]
            repeat with_reducible refine And.intro (by first | kernel_rfl | decide) ?_
            refine Wp_callP (c16 N  _ h4582) (by kernel_rfl) rfl rfl rfl rfl (by decide) ?_
            have hh := getB_some h; clear h; obtain ⟨b4584, h4583, h⟩ := hh
            refine W_sound tab_ok mixed 5 _ _ _ ?_
            simp -implicitDefEqProofs only [go_sem, ne_eq, not_false_eq_true, Nat.reduceBEq, Nat.reduceAdd, Nat.reduceSub, Nat.reduceMul, Nat.reduceLT, Nat.reduceLeDiff, Int.reduceLE, Int.reduceLT, Int.reduceToNat, Int.reduceBEq, Int.reduceBNe, Int.le_refl, Nat.le_refl, decide_true, decide_false, Int.cast_ofNat_Int, ↓reduceIte, h3167, h3172, h3174, h3179, h3727, h3730, h3733, h4035, h4038, h4041, h4538, h4541, h4543, h4566, h4569, h4571, h4575, h4577, h4578, h4579, h4580, h4583]
            repeat with_reducible refine And.intro (by first | kernel_rfl | decide) ?_
            obtain rfl := Option.some.inj h
            exact finC [(2, .v (.bool b4584))] [(2, .v (.bool b4584))] (by simp [leE, lk_cons]) (.cons _ _ _ _ _ (.v _ _ (.refl _)) .nil) (by rfl) (by simp [leE, lk_cons]) (by decide) (by decide) rfl (by simp only [go_sem, ne_eq, not_false_eq_true, Nat.reduceBEq, Nat.reduceAdd, Nat.reduceSub, Nat.reduceMul, Nat.reduceLT, Nat.reduceLeDiff, Int.reduceLE, Int.reduceLT, Int.reduceToNat, Int.reduceBEq, Int.reduceBNe, Int.le_refl, Nat.le_refl, decide_true, decide_false, Int.cast_ofNat_Int, ↓reduceIte, resQ_tmp, resQ_cell, resQ_nil, retD_one, retD_two, retD_three, retD_none]; try simp [R.val, retD_one, retD_two, retD_three, retD_none])
          · refine W_sound tab_ok mixed 22 _ _ _ ?_
            simp -implicitDefEqProofs only [go_sem, ne_eq, not_false_eq_true, Nat.reduceBEq, Nat.reduceAdd, Nat.reduceSub, Nat.reduceMul, Nat.reduceLT, Nat.reduceLeDiff, Int.reduceLE, Int.reduceLT, Int.reduceToNat, Int.reduceBEq, Int.reduceBNe, Int.le_refl, Nat.le_refl, decide_true, decide_false, Int.cast_ofNat_Int, ↓reduceIte, h3167, h3172, h3174, h3179, h3727, h3730, h3733, h4035, h4038, h4041, h4538, h4541, h4543, h4566, h4569, h4571, h4575, h4577, h4578, h4579, h4580]
            repeat with_reducible refine And.intro (by first | kernel_rfl | decide) ?_
            obtain rfl := Option.some.inj h
            exact finC [(2, .v (.bool false))] [(2, .v (.bool false))] (by simp [leE, lk_cons]) (.cons _ _ _ _ _ (.v _ _ (.refl _)) .nil) (by rfl) (by simp [leE, lk_cons]) (by decide) (by decide) rfl (by simp only [go_sem, ne_eq, not_false_eq_true, Nat.reduceBEq, Nat.reduceAdd, Nat.reduceSub, Nat.reduceMul, Nat.reduceLT, Nat.reduceLeDiff, Int.reduceLE, Int.reduceLT, Int.reduceToNat, Int.reduceBEq, Int.reduceBNe, Int.le_refl, Nat.le_refl, decide_true, decide_false, Int.cast_ofNat_Int, ↓reduceIte, resQ_tmp, resQ_cell, resQ_nil, retD_one, retD_two, retD_three, retD_none]; try simp [R.val, retD_one, retD_two, retD_three, retD_none])
        · refine W_sound tab_ok mixed 22 _ _ _ ?_
          simp -implicitDefEqProofs only [go_sem, ne_eq, not_false_eq_true, Nat.reduceBEq, Nat.reduceAdd, Nat.reduceSub, Nat.reduceMul, Nat.reduceLT, Nat.reduceLeDiff, Int.reduceLE, Int.reduceLT, Int.reduceToNat, Int.reduceBEq, Int.reduceBNe, Int.le_refl, Nat.le_refl, decide_true, decide_false, Int.cast_ofNat_Int, ↓reduceIte, h3167, h3172, h3174, h3179, h3727, h3730, h3733, h4035, h4038, h4041, h4538, h4541, h4543, h4566, h4569, h4571, h4575, h4577, h4578, h4579]
          repeat with_reducible refine And.intro (by first | kernel_rfl | decide) ?_
          obtain rfl := Option.some.inj h
          exact finC [(2, .v (.bool false))] [(2, .v (.bool false))] (by simp [leE, lk_cons]) (.cons _ _ _ _ _ (.v _ _ (.refl _)) .nil) (by rfl) (by simp [leE, lk_cons]) (by decide) (by decide) rfl (by simp only [go_sem, ne_eq, not_false_eq_true, Nat.reduceBEq, Nat.reduceAdd, Nat.reduceSub, Nat.reduceMul, Nat.reduceLT, Nat.reduceLeDiff, Int.reduceLE, Int.reduceLT, Int.reduceToNat, Int.reduceBEq, Int.reduceBNe, Int.le_refl, Nat.le_refl, decide_true, decide_false, Int.cast_ofNat_Int, ↓reduceIte, resQ_tmp, resQ_cell, resQ_nil, retD_one, retD_two, retD_three, retD_none]; try simp [R.val, retD_one, retD_two, retD_three, retD_none])
      · refine W_sound tab_ok mixed 22 _ _ _ ?_
        simp -implicitDefEqProofs only [go_sem, ne_eq, not_false_eq_true, Nat.reduceBEq, Nat.reduceAdd, Nat.reduceSub, Nat.reduceMul, Nat.reduceLT, Nat.reduceLeDiff, Int.reduceLE, Int.reduceLT, Int.reduceToNat, Int.reduceBEq, Int.reduceBNe, Int.le_refl, Nat.le_refl, decide_true, decide_false, Int.cast_ofNat_Int, ↓reduceIte, h3167, h3172, h3174, h3179, h3727, h3730, h3733, h4035, h4038, h4041, h4538, h4541, h4543, h4566, h4569, h4571, h4575, h4577, h4578]
        repeat with_reducible refine And.intro (by first | kernel_rfl | decide) ?_
        obtain rfl := Option.some.inj h
        exact finC [(2, .v (.bool false))] [(2, .v (.bool false))] (by simp [leE, lk_cons]) (.cons _ _ _ _ _ (.v _ _ (.refl _)) .nil) (by rfl) (by simp [leE, lk_cons]) (by decide) (by decide) rfl (by simp only [go_sem, ne_eq, not_false_eq_true, Nat.reduceBEq, Nat.reduceAdd, Nat.reduceSub, Nat.reduceMul, Nat.reduceLT, Nat.reduceLeDiff, Int.reduceLE, Int.reduceLT, Int.reduceToNat, Int.reduceBEq, Int.reduceBNe, Int.le_refl, Nat.le_refl, decide_true, decide_false, Int.cast_ofNat_Int, ↓reduceIte, resQ_tmp, resQ_cell, resQ_nil, retD_one, retD_two, retD_three, retD_none]; try simp [R.val, retD_one, retD_two, retD_three, retD_none])
    · refine W_sound tab_ok mixed 22 _ _ _ ?_
      simp -implicitDefEqProofs only [go_sem, ne_eq, not_false_eq_true, Nat.reduceBEq, Nat.reduceAdd, Nat.reduceSub, Nat.reduceMul, Nat.reduceLT, Nat.reduceLeDiff, Int.reduceLE, Int.reduceLT, Int.reduceToNat, Int.reduceBEq, Int.reduceBNe, Int.le_refl, Nat.le_refl, decide_true, decide_false, Int.cast_ofNat_Int, ↓reduceIte, h3167, h3172, h3174, h3179, h3727, h3730, h3733, h4035, h4038, h4041, h4538, h4541, h4543, h4566, h4569, h4571, h4575, h4577]
      repeat with_reducible refine And.intro (by first | kernel_rfl | decide) ?_
      obtain rfl := Option.some.inj h
      exact finC [(2, .v (.bool false))] [(2, .v (.bool false))] (by simp [leE, lk_cons]) (.cons _ _ _ _ _ (.v _ _ (.refl _)) .nil) (by rfl) (by simp [leE, lk_cons]) (by decide) (by decide) rfl (by simp only [go_sem, ne_eq, not_false_eq_true, Nat.reduceBEq, Nat.reduceAdd, Nat.reduceSub, Nat.reduceMul, Nat.reduceLT, Nat.reduceLeDiff, Int.reduceLE, Int.reduceLT, Int.reduceToNat, Int.reduceBEq, Int.reduceBNe, Int.le_refl, Nat.le_refl, decide_true, decide_false, Int.cast_ofNat_Int, ↓reduceIte, resQ_tmp, resQ_cell, resQ_nil, retD_one, retD_two, retD_three, retD_none]; try simp [R.val, retD_one, retD_two, retD_three, retD_none])
end Go.Proofs.YtnponojgpkbagaaDoor
