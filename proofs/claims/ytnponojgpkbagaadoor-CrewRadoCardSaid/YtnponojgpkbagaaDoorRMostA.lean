/-
  Models and laws.
-/
import Derived.Test.YtnponojgpkbagaaDoorRWhyA
import Derived.Test.YtnponojgpkbagaaDoorRV35
import Derived.Test.YtnponojgpkbagaaDoorRV36
namespace Go.Proofs.YtnponojgpkbagaaDoor
open Go.V
open Nat renaming reduceBEq → qa, reduceAdd → qb, reduceSub → qc, reduceMul → qd, reduceLT → qe, reduceLeDiff → qf
open Int renaming reduceLE → qg, reduceLT → qh, reduceToNat → qi, reduceBEq → qj, reduceBNe → qk
set_option maxRecDepth 100000
set_option maxHeartbeats 4000000
set_option linter.unusedSimpArgs false
set_option linter.unusedVariables false
attribute [local go_sem] tl1 tl2 tl3 tl4 tl5 tl9 tl17 tl21 tl22 tl23 tl24 tl25 tl26 tl27 tl28 tl29 tl31 tl32 tl34 tl35 tl36 tl37 tl38 tl39 tl40 tl41 tl42 tl43 tl44 tl45 tl47 tl48 tl49 tl50 tl51 tl52 tl53 tl54 tl55 tl56 tl57 tl58 tl59 tl60 tl61 tl62 tl63 tl64 tl65 tl66 tl67 tl68 tl69 tl70 tl71 tl72 tl73 tl74 tl75 tl76 tl77 tl78 tl79 tl80 tl81 tl82 tl83 tl84 tl85 tl86 tl87 tl88 tl89 tl90 tl92 tl94 tl95 tl96 tl97 tl98 tl99 tl100 tl101 tl102 tl103 tl104 tl105 tl106 tl107 tl108 tl109 tl110 tl111 tl112 tl113 tl114 tl115 tl116 tl118 tl119 tl121 tl122 tl123 tl124 tl125 tl126 tl127 tl128 tl129 tl131 tl133 tl134 tl135 tl136 tl142 tl146
def m78 (N : Nat) (p3235 : PV) (b3236 : Bool) : Option ((PV × PV × Bool)) :=
  some ((.bool false), (.lst false 0 []), false)
theorem c78 (N : Nat) (p3235 : PV) (b3236 : Bool) (r : PV) (p3239 : PV) (b3240 : Bool) (h : m78 N p3235 b3236 = some (r, p3239, b3240)) : V.Fn Tryd.prog 78 2 [.v .nl, .ptr 0 0, .ptr 1 0] [(0, .p [p3235]), (1, .p [(.bool b3236)])] (fun d ob' => d = .v r ∧ ob' = [(0, .p [p3239]), (1, .p [(.bool b3240)])]) := by
  unfold m78 at h
  refine Fn_of (sz := 6) tab_ok [0, 1, 2, 4] [.tmp 4] Tryd.func78 rfl rfl rfl (by simp) ?_
  simp only [initSt, initEnv, List.map_cons, List.map_nil, List.getD_cons_zero, List.getD_cons_succ, List.getD_nil]
  refine W_sound tab_ok mixed 16 _ _ _ ?_
  simp -implicitDefEqProofs only [go_sem, qa, qb, qc, qd, qe, qf, qg, qh, qi, qj, qk, ↓reduceIte]
  repeat with_reducible refine ⟨by first | kernel_rfl | decide, ?_⟩
  simp only [Option.some.injEq, Prod.mk.injEq] at h; obtain ⟨rfl, rfl, rfl⟩ := h
  exact finD (e2 := [(0, .dead), (1, .dead), (2, .dead), (4, .v (.bool false))]) (ob2 := [(0, .p [(.lst false 0 [])]), (1, .p [(.bool false)])]) (st' := ⟨[], [(0, .dead), (1, .dead), (2, .dead), (4, .v (.bool false))], [(0, .p [(.lst false 0 [])]), (1, .p [(.bool false)])], 2, []⟩) (.k (.k (.k (.r .nil)))) (.cons _ _ _ _ _ (DLes.of_p (.cons _ _ _ _ (.nl false) .nil)) (.cons _ _ _ _ _ (DLes.refl _) .nil)) (by kernel_rfl) (by simp only [go_sem, qa, qb, qc, qd, qe, qf, qg, qh, qi, qj, qk, ↓reduceIte, resQ_tmp, resQ_cell, resQ_nil, retD_one, retD_two, retD_three, retD_none]; try simp [R.val, retD_one, retD_two, retD_three, retD_none])
def m78_2 (N : Nat) (p3308 : PV) (p3309 : PV) (b3310 : Bool) : Option ((PV × PV × Bool)) :=
  getL p3308 fun n3314 c3315 =>
  some ((.bool false), (.lst false n3314 c3315), false)
theorem c78_2 (N : Nat) (p3308 : PV) (p3309 : PV) (b3310 : Bool) (r : PV) (p3317 : PV) (b3318 : Bool) (h : m78_2 N p3308 p3309 b3310 = some (r, p3317, b3318)) : V.Fn Tryd.prog 78 2 [.v p3308, .ptr 0 0, .ptr 1 0] [(0, .p [p3309]), (1, .p [(.bool b3310)])] (fun d ob' => d = .v r ∧ ob' = [(0, .p [p3317]), (1, .p [(.bool b3318)])]) := by
  unfold m78_2 at h
  refine Fn_of (sz := 6) tab_ok [0, 1, 2, 4] [.tmp 4] Tryd.func78 rfl rfl rfl (by simp) ?_
  simp only [initSt, initEnv, List.map_cons, List.map_nil, List.getD_cons_zero, List.getD_cons_succ, List.getD_nil]
  have hh := getL_some h; clear h; obtain ⟨n3314, c3315, h3313, h⟩ := hh
  refine W_sound tab_ok mixed 16 _ _ _ ?_
  simp -implicitDefEqProofs only [go_sem, qa, qb, qc, qd, qe, qf, qg, qh, qi, qj, qk, ↓reduceIte, h3313]
  repeat with_reducible refine ⟨by first | kernel_rfl | decide, ?_⟩
  simp only [Option.some.injEq, Prod.mk.injEq] at h; obtain ⟨rfl, rfl, rfl⟩ := h
  exact finD (e2 := [(0, .dead), (1, .dead), (2, .dead), (4, .v (.bool false))]) (ob2 := [(0, .p [(.lst false n3314 c3315)]), (1, .p [(.bool false)])]) (st' := ⟨[], [(0, .dead), (1, .dead), (2, .dead), (4, .v (.bool false))], [(0, .p [(.lst false n3314 c3315)]), (1, .p [(.bool false)])], 2, []⟩) (.k (.k (.k (.r .nil)))) (.cons _ _ _ _ _ (DLes.refl _) (.cons _ _ _ _ _ (DLes.refl _) .nil)) (by kernel_rfl) (by simp only [go_sem, qa, qb, qc, qd, qe, qf, qg, qh, qi, qj, qk, ↓reduceIte, resQ_tmp, resQ_cell, resQ_nil, retD_one, retD_two, retD_three, retD_none]; try simp [R.val, retD_one, retD_two, retD_three, retD_none])
def m99_2_L0 (N : Nat) (rec : PV → PV → PV → PV → Bool → PV → PV → Option ((PV × PV × PV × Bool × PV))) (p3378 : PV) (n3385 : Nat) (c3386 : List PV) (p3388 : PV) (p3389 : PV) (p3390 : PV) (p3391 : PV) (p3392 : PV) (n3415 : Nat) (c3416 : List PV) : Nat → Int → PV → PV → Bool → PV → Option (((PV × PV × PV × Bool × PV) ⊕ (PV × PV × Bool × PV)))
  | 0, _, _, _, _, _ => none
  | n + 1, x3450, p3451, p3452, b3453, p3454 =>
    brn (decide (x3450 < ((n3415 : Nat) : Int))) (
      grd (0 ≤ x3450 ∧ x3450 < ((n3415 : Nat) : Int)) <|
      grd (2 ≤ List.length (List.drop ((Int.toNat x3450) * 2) c3416)) <|
      getA2 (.agg (List.take 2 (List.drop ((Int.toNat x3450) * 2) c3416))) fun p3460 p3461 =>
      bnd' (m71 N (.agg [p3388, p3389, p3390, p3391, p3392]) (.agg [p3460, p3461])) fun p3462 =>
      getB p3462 fun b3465 =>
      brn b3465 (
        m99_2_L0 N rec p3378 n3385 c3386 p3388 p3389 p3390 p3391 p3392 n3415 c3416 n (IntKind.i64.wrap (x3450 + 1)) p3451 p3452 b3453 p3454) (
        grd (((n3385 : Nat) : Int) ≤ ((n3385 : Nat) : Int)) <|
        grd (List.length c3386 = n3385) <|
        grd ((n3385 + 1) ≤ 1099511627776) <|
        bnd' (m98 N (.agg [p3388, p3389, p3390, p3391, p3392]) (.agg [p3460, p3461])) fun p3470 =>
        getA5 p3470 fun p3473 p3474 p3475 p3476 p3477 =>
        bnd' (rec (.lst false (n3385 + 1) (c3386 ++ [(.int .i64 x3450)])) (.agg [p3473, p3474, p3475, p3476, p3477]) p3451 p3452 b3453 p3378 p3454) fun (p3478, p3480, p3481, b3482, p3483) =>
        getB p3478 fun b3485 =>
        brn b3485 (
          m99_2_L0 N rec p3378 n3385 c3386 p3388 p3389 p3390 p3391 p3392 n3415 c3416 n (IntKind.i64.wrap (x3450 + 1)) p3480 p3481 b3482 p3483) (
          some (.inl ((.bool false), p3480, p3481, b3482, p3483))))) (
      some (.inr (p3451, p3452, b3453, p3454)))
def m99_2 (N : Nat) : Nat → PV → PV → PV → PV → Bool → PV → PV → Option ((PV × PV × PV × Bool × PV))
  | 0, _, _, _, _, _, _, _ => none
  | fu + 1, p3373, p3374, p3375, p3376, b3377, p3378, p3379 =>
    getL p3373 fun n3385 c3386 =>
    getA5 p3374 fun p3388 p3389 p3390 p3391 p3392 =>
    getL p3375 fun n3394 c3395 =>
    brn (((n3385 : Nat) : Int) == ((n3394 : Nat) : Int)) (
      bnd' (m78_2 N (.lst false n3385 c3386) p3376 b3377) fun (p3397, p3399, b3400) =>
      getB p3397 fun b3402 =>
      some ((.bool b3402), (.lst false n3394 c3395), p3399, b3400, p3379)) (
      getL p3379 fun n3404 c3405 =>
      grd (0 ≤ ((n3385 : Nat) : Int) ∧ ((n3385 : Nat) : Int) < ((n3394 : Nat) : Int)) <|
      grd (0 < List.length (List.drop n3385 c3395)) <|
      getI .i64 (gp c3395 n3385) fun x3410 =>
      grd (0 ≤ x3410 ∧ x3410 < ((n3404 : Nat) : Int)) <|
      grd (0 < List.length (List.drop (Int.toNat x3410) c3405)) <|
      getL (gp c3405 (Int.toNat x3410)) fun n3415 c3416 =>
      bnd' (m99_2_L0 N (m99_2 N fu) p3378 n3385 c3386 p3388 p3389 p3390 p3391 p3392 n3415 c3416 N 0 (.lst false n3394 c3395) p3376 b3377 (.lst false n3404 c3405)) fun o =>
      match o with
      | .inl p3487 =>
        some p3487
      | .inr (p3488, p3489, b3490, p3491) =>
        some ((.bool true), p3488, p3489, b3490, p3491))
theorem c99_2 (N : Nat) : ∀ (fu : Nat) (p3373 : PV) (p3374 : PV) (p3375 : PV) (p3376 : PV) (b3377 : Bool) (p3378 : PV) (p3379 : PV) (r : PV) (p3496 : PV) (p3497 : PV) (b3498 : Bool) (p3499 : PV) (h : m99_2 N fu p3373 p3374 p3375 p3376 b3377 p3378 p3379 = some (r, p3496, p3497, b3498, p3499)), V.Fn Tryd.prog 99 6 [.v p3373, .v p3374, .ptr 0 0, .ptr 1 0, .ptr 4 0, .ptr 5 0] [(0, .p [p3375]), (1, .r [.fn 78 [.ptr 2 0, .ptr 3 0]]), (2, .p [p3376]), (3, .p [(.bool b3377)]), (4, .p [p3378, p3379]), (5, .r [.fn 99 [.ptr 0 0, .ptr 1 0, .ptr 4 0, .ptr 5 0]])] (fun d ob' => d = .v r ∧ ob' = [(0, .p [p3496]), (1, .r [.fn 78 [.ptr 2 0, .ptr 3 0]]), (2, .p [p3497]), (3, .p [(.bool b3498)]), (4, .p [p3378, p3499]), (5, .r [.fn 99 [.ptr 0 0, .ptr 1 0, .ptr 4 0, .ptr 5 0]])]) := by
  intro fu
  induction fu with
  | zero => intro p3373 p3374 p3375 p3376 b3377 p3378 p3379 r p3496 p3497 b3498 p3499 h; cases h
  | succ fu ih =>
    intro p3373 p3374 p3375 p3376 b3377 p3378 p3379 r p3496 p3497 b3498 p3499 h
    rw [m99_2] at h
    refine Fn_of (sz := 55) tab_ok [0, 1, 2, 3, 4, 5, 7, 8, 9, 10, 11, 17, 28, 29, 30, 31, 53] [.tmp 8] Tryd.func99 rfl rfl rfl (by simp) ?_
    simp only [initSt, initEnv, List.map_cons, List.map_nil, List.getD_cons_zero, List.getD_cons_succ, List.getD_nil]
    have hh := getL_some h; clear h; obtain ⟨n3385, c3386, h3384, h⟩ := hh
    have hh := getA5_some h; clear h; obtain ⟨p3388, p3389, p3390, p3391, p3392, h3387, h⟩ := hh
    have hh := getL_some h; clear h; obtain ⟨n3394, c3395, h3393, h⟩ := hh
    have hh := brn_some h; clear h; rcases hh with ⟨h3396, h⟩ | ⟨h3396, h⟩
    · have hh := bnd'_some h; clear h; obtain ⟨⟨p3397, p3399, b3400⟩, h3398, h⟩ := hh
      (try dsimp only at h)
      refine W_sound tab_ok mixed 24 _ _ _ ?_
      simp -implicitDefEqProofs only [go_sem, qa, qb, qc, qd, qe, qf, qg, qh, qi, qj, qk, ↓reduceIte, h3384, h3387, h3393, h3396]
      repeat with_reducible refine ⟨by first | kernel_rfl | decide, ?_⟩
      refine Wp_callD [2, 3] (c78_2 N _ _ _ _ _ _ h3398) rfl rfl rfl (by first | rfl | (simp only [go_sem, qa, qb, qc, qd, qe, qf, qg, qh, qi, qj, qk, ↓reduceIte, h3384, h3387, h3393, h3396] <;> rfl)) rfl (by kernel_rfl) ?_
      have hh := getB_some h; clear h; obtain ⟨b3402, h3401, h⟩ := hh
      refine W_sound tab_ok mixed 4 _ _ _ ?_
      simp -implicitDefEqProofs only [go_sem, qa, qb, qc, qd, qe, qf, qg, qh, qi, qj, qk, ↓reduceIte, h3384, h3387, h3393, h3396, h3401]
      repeat with_reducible refine ⟨by first | kernel_rfl | decide, ?_⟩
      simp only [Option.some.injEq, Prod.mk.injEq] at h; obtain ⟨rfl, rfl, rfl, rfl, rfl⟩ := h
      exact finD (e2 := [(0, .dead), (1, .dead), (2, .dead), (3, .dead), (4, .dead), (5, .dead), (7, .dead), (8, .v (.bool b3402)), (9, .dead), (10, .dead), (11, .dead), (17, .dead), (28, .dead), (29, .dead), (30, .dead), (31, .dead), (53, .dead)]) (ob2 := [(0, .p [(.lst false n3394 c3395)]), (1, .r [.fn 78 [.ptr 2 0, .ptr 3 0]]), (4, .p [p3378, p3379]), (5, .r [.fn 99 [.ptr 0 0, .ptr 1 0, .ptr 4 0, .ptr 5 0]]), (13, .p [p3388, p3389, p3390, p3391, p3392]), (3, .p [(.bool b3400)]), (2, .p [p3399])]) (st' := ⟨[], [(0, .dead), (1, .dead), (2, .dead), (3, .dead), (4, .dead), (5, .dead), (7, .dead), (8, .v (.bool b3402)), (9, .dead), (10, .dead), (11, .dead), (17, .dead), (28, .dead), (29, .dead), (30, .dead), (31, .dead), (53, .dead)], [(0, .p [(.lst false n3394 c3395)]), (1, .r [.fn 78 [.ptr 2 0, .ptr 3 0]]), (2, .p [p3399]), (3, .p [(.bool b3400)]), (4, .p [p3378, p3379]), (5, .r [.fn 99 [.ptr 0 0, .ptr 1 0, .ptr 4 0, .ptr 5 0]])], 6, []⟩) (.k (.k (.k (.k (.k (.k (.k (.r (.k (.r (.r (.k (.r (.r (.r (.r (.r .nil))))))))))))))))) (.cons _ _ _ _ _ (DLes.refl _) (.cons _ _ _ _ _ (DLes.refl _) (.cons _ _ _ _ _ (DLes.refl _) (.cons _ _ _ _ _ (DLes.refl _) (.cons _ _ _ _ _ (DLes.refl _) (.cons _ _ _ _ _ (DLes.refl _) (.cons _ _ _ _ _ (DLes.refl _) .nil))))))) (by kernel_rfl) (by simp only [go_sem, qa, qb, qc, qd, qe, qf, qg, qh, qi, qj, qk, ↓reduceIte, resQ_tmp, resQ_cell, resQ_nil, retD_one, retD_two, retD_three, retD_none]; try simp [R.val, retD_one, retD_two, retD_three, retD_none])
    · have hh := getL_some h; clear h; obtain ⟨n3404, c3405, h3403, h⟩ := hh
      have hh := grd_some h; clear h; obtain ⟨⟨g3406, g3407⟩, h⟩ := hh
      have hh := grd_some h; clear h; obtain ⟨g3408, h⟩ := hh
      have hh := getI_some h; clear h; obtain ⟨x3410, h3409, h⟩ := hh
      have hh := grd_some h; clear h; obtain ⟨⟨g3411, g3412⟩, h⟩ := hh
      have hh := grd_some h; clear h; obtain ⟨g3413, h⟩ := hh
      have hh := getL_some h; clear h; obtain ⟨n3415, c3416, h3414, h⟩ := hh
      refine W_sound tab_ok mixed 35 _ _ _ ?_
      simp -implicitDefEqProofs only [go_sem, qa, qb, qc, qd, qe, qf, qg, qh, qi, qj, qk, ↓reduceIte, h3384, h3387, h3393, h3396, h3403, g3406, g3407, g3408, h3409, g3411, g3412, g3413, h3414]
      repeat with_reducible refine ⟨by first | kernel_rfl | decide, ?_⟩
      have hh := bnd'_some h; clear h; obtain ⟨o3500, h3501, h3502⟩ := hh
      refine Wp_cut (fun s => ∃ p3488, ∃ p3489, ∃ b3490, ∃ p3491, (.inr (p3488, p3489, b3490, p3491)) = o3500 ∧ s = ⟨[], [(0, .dead), (1, .dead), (2, .dead), (3, .dead), (4, .dead), (5, .dead), (7, .dead), (8, .dead), (9, .dead), (10, .dead), (11, .dead), (17, .dead), (28, .dead), (29, .dead), (30, .dead), (31, .dead), (53, .dead)], [(0, .p [p3488]), (1, .r [.fn 78 [.ptr 2 0, .ptr 3 0]]), (2, .p [p3489]), (3, .p [(.bool b3490)]), (4, .p [p3378, p3491]), (5, .r [.fn 99 [.ptr 0 0, .ptr 1 0, .ptr 4 0, .ptr 5 0]])], 6, []⟩) ?_ ?_
      · refine Wp_block ?_
        refine Wp_loopG (fun n s => ∃ x3450, ∃ p3451, ∃ p3452, ∃ b3453, ∃ p3454, m99_2_L0 N (m99_2 N fu) p3378 n3385 c3386 p3388 p3389 p3390 p3391 p3392 n3415 c3416 n x3450 p3451 p3452 b3453 p3454 = some o3500 ∧ s = ⟨[], [(0, .v (.lst false n3385 c3386)), (1, .dead), (2, .dead), (3, .dead), (4, .dead), (5, .ptr 5 0), (7, .ptr 6 0), (8, .dead), (9, .v (.int .i64 ((n3385 : Nat) : Int))), (10, .dead), (11, .dead), (17, .dead), (28, .v (.lst false n3415 c3416)), (29, .v (.int .i64 ((n3415 : Nat) : Int))), (30, .v (.int .i64 x3450)), (31, .dead), (53, .dead)], [(0, .p [p3451]), (1, .r [.fn 78 [.ptr 2 0, .ptr 3 0]]), (2, .p [p3452]), (3, .p [(.bool b3453)]), (4, .p [p3378, p3454]), (5, .r [.fn 99 [.ptr 0 0, .ptr 1 0, .ptr 4 0, .ptr 5 0]]), (6, .p [p3388, p3389, p3390, p3391, p3392])], 7, []⟩) N _ ((Wk_le (.r (.k (.k (.k (.k (.r (.r (.k (.r (.r (.r (.k (.r (.r (.r (.r (.r .nil))))))))))))))))) (OLe.refl _)).trans (cmpS_ok (st' := ⟨[], [(0, .v (.lst false n3385 c3386)), (1, .dead), (2, .dead), (3, .dead), (4, .dead), (5, .ptr 5 0), (7, .ptr 6 0), (8, .dead), (9, .v (.int .i64 ((n3385 : Nat) : Int))), (10, .dead), (11, .dead), (17, .dead), (28, .v (.lst false n3415 c3416)), (29, .v (.int .i64 ((n3415 : Nat) : Int))), (30, .v (.int .i64 0)), (31, .dead), (53, .dead)], [(0, .p [(.lst false n3394 c3395)]), (1, .r [.fn 78 [.ptr 2 0, .ptr 3 0]]), (2, .p [p3376]), (3, .p [(.bool b3377)]), (4, .p [p3378, (.lst false n3404 c3405)]), (5, .r [.fn 99 [.ptr 0 0, .ptr 1 0, .ptr 4 0, .ptr 5 0]]), (6, .p [p3388, p3389, p3390, p3391, p3392])], 7, []⟩) (by kernel_rfl))) ⟨_, _, _, _, _, h3501, rfl⟩ ?_
        clear h3501
        rintro n _ ⟨x3450, p3451, p3452, b3453, p3454, h3501, rfl⟩
        cases n with
        | zero => cases h3501
        | succ n =>
          rw [m99_2_L0] at h3501
          have hh := brn_some h3501; clear h3501; rcases hh with ⟨h3455, h3501⟩ | ⟨h3455, h3501⟩
          · have hh := grd_some h3501; clear h3501; obtain ⟨⟨g3456, g3457⟩, h3501⟩ := hh
            have hh := grd_some h3501; clear h3501; obtain ⟨g3458, h3501⟩ := hh
            have hh := getA2_some h3501; clear h3501; obtain ⟨p3460, p3461, h3459, h3501⟩ := hh
            injection h3459 with h3459
            have hh := bnd'_some h3501; clear h3501; obtain ⟨p3462, h3463, h3501⟩ := hh
            refine W_sound tab_ok mixed 22 _ _ _ ?_
            simp -implicitDefEqProofs only [go_sem, qa, qb, qc, qd, qe, qf, qg, qh, qi, qj, qk, ↓reduceIte, h3384, h3387, h3393, h3396, h3403, g3406, g3407, g3408, h3409, g3411, g3412, g3413, h3414, h3455, g3456, g3457, g3458, h3459]
            repeat with_reducible refine ⟨by first | kernel_rfl | decide, ?_⟩
            refine Wp_callP (c71 N _ _ _ h3463) (by kernel_rfl) rfl rfl rfl rfl (by decide) ?_
            have hh := getB_some h3501; clear h3501; obtain ⟨b3465, h3464, h3501⟩ := hh
            have hh := brn_some h3501; clear h3501; rcases hh with ⟨h3466, h3501⟩ | ⟨h3466, h3501⟩
            · refine W_sound tab_ok mixed 24 _ _ _ ?_
              simp -implicitDefEqProofs only [go_sem, qa, qb, qc, qd, qe, qf, qg, qh, qi, qj, qk, ↓reduceIte, h3384, h3387, h3393, h3396, h3403, g3406, g3407, g3408, h3409, g3411, g3412, g3413, h3414, h3455, g3456, g3457, g3458, h3459, h3464, h3466]
              repeat with_reducible refine ⟨by first | kernel_rfl | decide, ?_⟩
              exact cutQ _ ((Wk_le (.r (.r (.r (.r (.r (.r (.r (.r (.r (.k (.k (.r (.r (.r (.r (.k (.k .nil))))))))))))))))) (OLe.refl _)).trans (cmpS_ok (st' := ⟨[], [(0, .v (.lst false n3385 c3386)), (1, .dead), (2, .dead), (3, .dead), (4, .dead), (5, .ptr 5 0), (7, .ptr 6 0), (8, .dead), (9, .v (.int .i64 ((n3385 : Nat) : Int))), (10, .dead), (11, .dead), (17, .dead), (28, .v (.lst false n3415 c3416)), (29, .v (.int .i64 ((n3415 : Nat) : Int))), (30, .v (.int .i64 (IntKind.i64.wrap (x3450 + 1)))), (31, .dead), (53, .dead)], [(0, .p [p3451]), (1, .r [.fn 78 [.ptr 2 0, .ptr 3 0]]), (2, .p [p3452]), (3, .p [(.bool b3453)]), (4, .p [p3378, p3454]), (5, .r [.fn 99 [.ptr 0 0, .ptr 1 0, .ptr 4 0, .ptr 5 0]]), (6, .p [p3388, p3389, p3390, p3391, p3392])], 7, []⟩) (by kernel_rfl))) ⟨n, Nat.lt_succ_self n, _, _, _, _, _, h3501, rfl⟩
            · have hh := grd_some h3501; clear h3501; obtain ⟨g3467, h3501⟩ := hh
              have hh := grd_some h3501; clear h3501; obtain ⟨g3468, h3501⟩ := hh
              have hh := grd_some h3501; clear h3501; obtain ⟨g3469, h3501⟩ := hh
              have hh := bnd'_some h3501; clear h3501; obtain ⟨p3470, h3471, h3501⟩ := hh
              refine W_sound tab_ok mixed 12 _ _ _ ?_
              simp -implicitDefEqProofs only [go_sem, qa, qb, qc, qd, qe, qf, qg, qh, qi, qj, qk, ↓reduceIte, h3384, h3387, h3393, h3396, h3403, g3406, g3407, g3408, h3409, g3411, g3412, g3413, h3414, h3455, g3456, g3457, g3458, h3459, h3464, h3466, g3467, g3468, g3469]
              repeat with_reducible refine ⟨by first | kernel_rfl | decide, ?_⟩
              refine Wp_callP (c98 N _ _ _ h3471) (by kernel_rfl) rfl rfl rfl rfl (by decide) ?_
              have hh := getA5_some h3501; clear h3501; obtain ⟨p3473, p3474, p3475, p3476, p3477, h3472, h3501⟩ := hh
              have hh := bnd'_some h3501; clear h3501; obtain ⟨⟨p3478, p3480, p3481, b3482, p3483⟩, h3479, h3501⟩ := hh
              (try dsimp only at h3501)
              (try simp -implicitDefEqProofs only [go_sem, qa, qb, qc, qd, qe, qf, qg, qh, qi, qj, qk, ↓reduceIte, h3384, h3387, h3393, h3396, h3403, g3406, g3407, g3408, h3409, g3411, g3412, g3413, h3414, h3455, g3456, g3457, g3458, h3459, h3464, h3466, g3467, g3468, g3469, h3472])
              refine Wp_callDF [(66, (c3386 ++ [(.int .i64 x3450)]))] [0, 1, 2, 3, 4, 5] (ih _ _ _ _ _ _ _ _ _ _ _ _ h3479) rfl rfl rfl (by first | rfl | (simp only [go_sem, qa, qb, qc, qd, qe, qf, qg, qh, qi, qj, qk, ↓reduceIte, h3384, h3387, h3393, h3396, h3403, g3406, g3407, g3408, h3409, g3411, g3412, g3413, h3414, h3455, g3456, g3457, g3458, h3459, h3464, h3466, g3467, g3468, g3469, h3472] <;> rfl)) rfl (by kernel_rfl) rfl rfl (by simp [roF, obL]) ?_
              have hh := getB_some h3501; clear h3501; obtain ⟨b3485, h3484, h3501⟩ := hh
              have hh := brn_some h3501; clear h3501; rcases hh with ⟨h3486, h3501⟩ | ⟨h3486, h3501⟩
              · refine W_sound tab_ok mixed 10 _ _ _ ?_
                simp -implicitDefEqProofs only [go_sem, qa, qb, qc, qd, qe, qf, qg, qh, qi, qj, qk, ↓reduceIte, h3384, h3387, h3393, h3396, h3403, g3406, g3407, g3408, h3409, g3411, g3412, g3413, h3414, h3455, g3456, g3457, g3458, h3459, h3464, h3466, g3467, g3468, g3469, h3472, h3484, h3486]
                repeat with_reducible refine ⟨by first | kernel_rfl | decide, ?_⟩
                exact cutQ _ ((Wk_le (.r (.r (.r (.r (.r (.r (.r (.r (.r (.k (.k (.r (.r (.r (.r (.k (.k .nil))))))))))))))))) (OLe.refl _)).trans (cmpS_ok (st' := ⟨[], [(0, .v (.lst false n3385 c3386)), (1, .dead), (2, .dead), (3, .dead), (4, .dead), (5, .ptr 5 0), (7, .ptr 6 0), (8, .dead), (9, .v (.int .i64 ((n3385 : Nat) : Int))), (10, .dead), (11, .dead), (17, .dead), (28, .v (.lst false n3415 c3416)), (29, .v (.int .i64 ((n3415 : Nat) : Int))), (30, .v (.int .i64 (IntKind.i64.wrap (x3450 + 1)))), (31, .dead), (53, .dead)], [(0, .p [p3480]), (1, .r [.fn 78 [.ptr 2 0, .ptr 3 0]]), (2, .p [p3481]), (3, .p [(.bool b3482)]), (4, .p [p3378, p3483]), (5, .r [.fn 99 [.ptr 0 0, .ptr 1 0, .ptr 4 0, .ptr 5 0]]), (6, .p [p3388, p3389, p3390, p3391, p3392])], 7, []⟩) (by kernel_rfl))) ⟨n, Nat.lt_succ_self n, _, _, _, _, _, h3501, rfl⟩
              · refine W_sound tab_ok mixed 10 _ _ _ ?_
                simp -implicitDefEqProofs only [go_sem, qa, qb, qc, qd, qe, qf, qg, qh, qi, qj, qk, ↓reduceIte, h3384, h3387, h3393, h3396, h3403, g3406, g3407, g3408, h3409, g3411, g3412, g3413, h3414, h3455, g3456, g3457, g3458, h3459, h3464, h3466, g3467, g3468, g3469, h3472, h3484, h3486]
                repeat with_reducible refine ⟨by first | kernel_rfl | decide, ?_⟩
                obtain rfl := Option.some.inj h3501
                (try dsimp only at h3502)
                simp only [Option.some.injEq, Prod.mk.injEq] at h3502; obtain ⟨rfl, rfl, rfl, rfl, rfl⟩ := h3502
                exact finD (e2 := [(0, .dead), (1, .dead), (2, .dead), (3, .dead), (4, .dead), (5, .dead), (7, .dead), (8, .v (.bool false)), (9, .dead), (10, .dead), (11, .dead), (17, .dead), (28, .dead), (29, .dead), (30, .dead), (31, .dead), (53, .dead)]) (ob2 := [(6, .p [p3388, p3389, p3390, p3391, p3392]), (18, .p [p3460, p3461]), (65, .p [(.int .i64 x3450)]), (5, .r [.fn 99 [.ptr 0 0, .ptr 1 0, .ptr 4 0, .ptr 5 0]]), (4, .p [p3378, p3483]), (3, .p [(.bool b3482)]), (2, .p [p3481]), (1, .r [.fn 78 [.ptr 2 0, .ptr 3 0]]), (0, .p [p3480])]) (st' := ⟨[], [(0, .dead), (1, .dead), (2, .dead), (3, .dead), (4, .dead), (5, .dead), (7, .dead), (8, .v (.bool false)), (9, .dead), (10, .dead), (11, .dead), (17, .dead), (28, .dead), (29, .dead), (30, .dead), (31, .dead), (53, .dead)], [(0, .p [p3480]), (1, .r [.fn 78 [.ptr 2 0, .ptr 3 0]]), (2, .p [p3481]), (3, .p [(.bool b3482)]), (4, .p [p3378, p3483]), (5, .r [.fn 99 [.ptr 0 0, .ptr 1 0, .ptr 4 0, .ptr 5 0]])], 6, []⟩) (.k (.r (.r (.r (.r (.k (.k (.r (.k (.k (.k (.r (.k (.k (.k (.k (.k .nil))))))))))))))))) (.cons _ _ _ _ _ (DLes.refl _) (.cons _ _ _ _ _ (DLes.refl _) (.cons _ _ _ _ _ (DLes.refl _) (.cons _ _ _ _ _ (DLes.refl _) (.cons _ _ _ _ _ (DLes.refl _) (.cons _ _ _ _ _ (DLes.refl _) (.cons _ _ _ _ _ (DLes.refl _) (.cons _ _ _ _ _ (DLes.refl _) (.cons _ _ _ _ _ (DLes.refl _) .nil))))))))) (by kernel_rfl) (by simp only [go_sem, qa, qb, qc, qd, qe, qf, qg, qh, qi, qj, qk, ↓reduceIte, resQ_tmp, resQ_cell, resQ_nil, retD_one, retD_two, retD_three, retD_none]; try simp [R.val, retD_one, retD_two, retD_three, retD_none])
          · refine W_sound tab_ok mixed 7 _ _ _ ?_
            simp -implicitDefEqProofs only [go_sem, qa, qb, qc, qd, qe, qf, qg, qh, qi, qj, qk, ↓reduceIte, h3384, h3387, h3393, h3396, h3403, g3406, g3407, g3408, h3409, g3411, g3412, g3413, h3414, h3455]
            repeat with_reducible refine ⟨by first | kernel_rfl | decide, ?_⟩
            obtain rfl := Option.some.inj h3501
            exact cutQ _ ((Wk_le (.k (.r (.r (.r (.r (.k (.k (.r (.k (.r (.r (.r (.k (.k (.k (.k (.r .nil))))))))))))))))) (OLe.refl _)).trans (cmpS_ok (st' := ⟨[], [(0, .dead), (1, .dead), (2, .dead), (3, .dead), (4, .dead), (5, .dead), (7, .dead), (8, .dead), (9, .dead), (10, .dead), (11, .dead), (17, .dead), (28, .dead), (29, .dead), (30, .dead), (31, .dead), (53, .dead)], [(0, .p [p3451]), (1, .r [.fn 78 [.ptr 2 0, .ptr 3 0]]), (2, .p [p3452]), (3, .p [(.bool b3453)]), (4, .p [p3378, p3454]), (5, .r [.fn 99 [.ptr 0 0, .ptr 1 0, .ptr 4 0, .ptr 5 0]])], 6, []⟩) (by kernel_rfl))) ⟨_, _, _, _, rfl, rfl⟩
      · rintro _ ⟨p3488, p3489, b3490, p3491, rfl, rfl⟩
        (try dsimp only at h3502)
        refine W_sound tab_ok mixed 6 _ _ _ ?_
        simp -implicitDefEqProofs only [go_sem, qa, qb, qc, qd, qe, qf, qg, qh, qi, qj, qk, ↓reduceIte, h3384, h3387, h3393, h3396, h3403, g3406, g3407, g3408, h3409, g3411, g3412, g3413, h3414]
        repeat with_reducible refine ⟨by first | kernel_rfl | decide, ?_⟩
        simp only [Option.some.injEq, Prod.mk.injEq] at h3502; obtain ⟨rfl, rfl, rfl, rfl, rfl⟩ := h3502
        exact finD (e2 := [(0, .dead), (1, .dead), (2, .dead), (3, .dead), (4, .dead), (5, .dead), (7, .dead), (8, .v (.bool true)), (9, .dead), (10, .dead), (11, .dead), (17, .dead), (28, .dead), (29, .dead), (30, .dead), (31, .dead), (53, .dead)]) (ob2 := [(0, .p [p3488]), (1, .r [.fn 78 [.ptr 2 0, .ptr 3 0]]), (2, .p [p3489]), (3, .p [(.bool b3490)]), (4, .p [p3378, p3491]), (5, .r [.fn 99 [.ptr 0 0, .ptr 1 0, .ptr 4 0, .ptr 5 0]])]) (st' := ⟨[], [(0, .dead), (1, .dead), (2, .dead), (3, .dead), (4, .dead), (5, .dead), (7, .dead), (8, .v (.bool true)), (9, .dead), (10, .dead), (11, .dead), (17, .dead), (28, .dead), (29, .dead), (30, .dead), (31, .dead), (53, .dead)], [(0, .p [p3488]), (1, .r [.fn 78 [.ptr 2 0, .ptr 3 0]]), (2, .p [p3489]), (3, .p [(.bool b3490)]), (4, .p [p3378, p3491]), (5, .r [.fn 99 [.ptr 0 0, .ptr 1 0, .ptr 4 0, .ptr 5 0]])], 6, []⟩) (.r (.r (.r (.r (.r (.r (.r (.r (.r (.r (.r (.r (.r (.r (.r (.r (.r .nil))))))))))))))))) (.cons _ _ _ _ _ (DLes.refl _) (.cons _ _ _ _ _ (DLes.refl _) (.cons _ _ _ _ _ (DLes.refl _) (.cons _ _ _ _ _ (DLes.refl _) (.cons _ _ _ _ _ (DLes.refl _) (.cons _ _ _ _ _ (DLes.refl _) .nil)))))) (by kernel_rfl) (by simp only [go_sem, qa, qb, qc, qd, qe, qf, qg, qh, qi, qj, qk, ↓reduceIte, resQ_tmp, resQ_cell, resQ_nil, retD_one, retD_two, retD_three, retD_none]; try simp [R.val, retD_one, retD_two, retD_three, retD_none])
def m99_L0 (N : Nat) (p3559 : PV) (p3566 : PV) (p3567 : PV) (p3568 : PV) (p3569 : PV) (p3570 : PV) (n3592 : Nat) (c3593 : List PV) : Nat → Int → PV → PV → Bool → PV → Option (((PV × PV × PV × Bool × PV) ⊕ (PV × PV × Bool × PV)))
  | 0, _, _, _, _, _ => none
  | n + 1, x3624, p3625, p3626, b3627, p3628 =>
    brn (decide (x3624 < ((n3592 : Nat) : Int))) (
      grd (0 ≤ x3624 ∧ x3624 < ((n3592 : Nat) : Int)) <|
      grd (2 ≤ List.length (List.drop ((Int.toNat x3624) * 2) c3593)) <|
      getA2 (.agg (List.take 2 (List.drop ((Int.toNat x3624) * 2) c3593))) fun p3634 p3635 =>
      bnd' (m71 N (.agg [p3566, p3567, p3568, p3569, p3570]) (.agg [p3634, p3635])) fun p3636 =>
      getB p3636 fun b3639 =>
      brn b3639 (
        m99_L0 N p3559 p3566 p3567 p3568 p3569 p3570 n3592 c3593 n (IntKind.i64.wrap (x3624 + 1)) p3625 p3626 b3627 p3628) (
        bnd' (m98 N (.agg [p3566, p3567, p3568, p3569, p3570]) (.agg [p3634, p3635])) fun p3641 =>
        getA5 p3641 fun p3644 p3645 p3646 p3647 p3648 =>
        bnd' (m99_2 N N (.lst false 1 [(.int .i64 x3624)]) (.agg [p3644, p3645, p3646, p3647, p3648]) p3625 p3626 b3627 p3559 p3628) fun (p3649, p3651, p3652, b3653, p3654) =>
        getB p3649 fun b3656 =>
        brn b3656 (
          m99_L0 N p3559 p3566 p3567 p3568 p3569 p3570 n3592 c3593 n (IntKind.i64.wrap (x3624 + 1)) p3651 p3652 b3653 p3654) (
          some (.inl ((.bool false), p3651, p3652, b3653, p3654))))) (
      some (.inr (p3625, p3626, b3627, p3628)))
def m99 (N : Nat) (p3555 : PV) (p3556 : PV) (p3557 : PV) (b3558 : Bool) (p3559 : PV) (p3560 : PV) : Option ((PV × PV × PV × Bool × PV)) :=
  getA5 p3555 fun p3566 p3567 p3568 p3569 p3570 =>
  getL p3556 fun n3572 c3573 =>
  brn (0 == ((n3572 : Nat) : Int)) (
    bnd' (m78 N p3557 b3558) fun (p3575, p3577, b3578) =>
    getB p3575 fun b3580 =>
    some ((.bool b3580), (.lst false n3572 c3573), p3577, b3578, p3560)) (
    getL p3560 fun n3582 c3583 =>
    grd (0 < ((n3572 : Nat) : Int)) <|
    grd (0 < List.length c3573) <|
    getI .i64 (gp c3573 0) fun x3587 =>
    grd (0 ≤ x3587 ∧ x3587 < ((n3582 : Nat) : Int)) <|
    grd (0 < List.length (List.drop (Int.toNat x3587) c3583)) <|
    getL (gp c3583 (Int.toNat x3587)) fun n3592 c3593 =>
    bnd' (m99_L0 N p3559 p3566 p3567 p3568 p3569 p3570 n3592 c3593 N 0 (.lst false n3572 c3573) p3557 b3558 (.lst false n3582 c3583)) fun o =>
    match o with
    | .inl p3658 =>
      some p3658
    | .inr (p3659, p3660, b3661, p3662) =>
      some ((.bool true), p3659, p3660, b3661, p3662))
theorem c99 (N : Nat) (p3555 : PV) (p3556 : PV) (p3557 : PV) (b3558 : Bool) (p3559 : PV) (p3560 : PV) (r : PV) (p3667 : PV) (p3668 : PV) (b3669 : Bool) (p3670 : PV) (h : m99 N p3555 p3556 p3557 b3558 p3559 p3560 = some (r, p3667, p3668, b3669, p3670)) : V.Fn Tryd.prog 99 6 [.v .nl, .v p3555, .ptr 0 0, .ptr 1 0, .ptr 4 0, .ptr 5 0] [(0, .p [p3556]), (1, .r [.fn 78 [.ptr 2 0, .ptr 3 0]]), (2, .p [p3557]), (3, .p [(.bool b3558)]), (4, .p [p3559, p3560]), (5, .r [.fn 99 [.ptr 0 0, .ptr 1 0, .ptr 4 0, .ptr 5 0]])] (fun d ob' => d = .v r ∧ ob' = [(0, .p [p3667]), (1, .r [.fn 78 [.ptr 2 0, .ptr 3 0]]), (2, .p [p3668]), (3, .p [(.bool b3669)]), (4, .p [p3559, p3670]), (5, .r [.fn 99 [.ptr 0 0, .ptr 1 0, .ptr 4 0, .ptr 5 0]])]) := by
  unfold m99 at h
  refine Fn_of (sz := 55) tab_ok [0, 1, 2, 3, 4, 5, 7, 8, 9, 10, 11, 17, 28, 29, 30, 31, 53] [.tmp 8] Tryd.func99 rfl rfl rfl (by simp) ?_
  simp only [initSt, initEnv, List.map_cons, List.map_nil, List.getD_cons_zero, List.getD_cons_succ, List.getD_nil]
  have hh := getA5_some h; clear h; obtain ⟨p3566, p3567, p3568, p3569, p3570, h3565, h⟩ := hh
  have hh := getL_some h; clear h; obtain ⟨n3572, c3573, h3571, h⟩ := hh
  have hh := brn_some h; clear h; rcases hh with ⟨h3574, h⟩ | ⟨h3574, h⟩
  · have hh := bnd'_some h; clear h; obtain ⟨⟨p3575, p3577, b3578⟩, h3576, h⟩ := hh
    (try dsimp only at h)
    refine W_sound tab_ok mixed 24 _ _ _ ?_
    simp -implicitDefEqProofs only [go_sem, qa, qb, qc, qd, qe, qf, qg, qh, qi, qj, qk, ↓reduceIte, h3565, h3571, h3574]
    repeat with_reducible refine ⟨by first | kernel_rfl | decide, ?_⟩
    refine Wp_callD [2, 3] (c78 N _ _ _ _ _ h3576) rfl rfl rfl (by first | rfl | (simp only [go_sem, qa, qb, qc, qd, qe, qf, qg, qh, qi, qj, qk, ↓reduceIte, h3565, h3571, h3574] <;> rfl)) rfl (by kernel_rfl) ?_
    have hh := getB_some h; clear h; obtain ⟨b3580, h3579, h⟩ := hh
    refine W_sound tab_ok mixed 4 _ _ _ ?_
    simp -implicitDefEqProofs only [go_sem, qa, qb, qc, qd, qe, qf, qg, qh, qi, qj, qk, ↓reduceIte, h3565, h3571, h3574, h3579]
    repeat with_reducible refine ⟨by first | kernel_rfl | decide, ?_⟩
    simp only [Option.some.injEq, Prod.mk.injEq] at h; obtain ⟨rfl, rfl, rfl, rfl, rfl⟩ := h
    exact finD (e2 := [(0, .dead), (1, .dead), (2, .dead), (3, .dead), (4, .dead), (5, .dead), (7, .dead), (8, .v (.bool b3580)), (9, .dead), (10, .dead), (11, .dead), (17, .dead), (28, .dead), (29, .dead), (30, .dead), (31, .dead), (53, .dead)]) (ob2 := [(0, .p [(.lst false n3572 c3573)]), (1, .r [.fn 78 [.ptr 2 0, .ptr 3 0]]), (4, .p [p3559, p3560]), (5, .r [.fn 99 [.ptr 0 0, .ptr 1 0, .ptr 4 0, .ptr 5 0]]), (13, .p [p3566, p3567, p3568, p3569, p3570]), (3, .p [(.bool b3578)]), (2, .p [p3577])]) (st' := ⟨[], [(0, .dead), (1, .dead), (2, .dead), (3, .dead), (4, .dead), (5, .dead), (7, .dead), (8, .v (.bool b3580)), (9, .dead), (10, .dead), (11, .dead), (17, .dead), (28, .dead), (29, .dead), (30, .dead), (31, .dead), (53, .dead)], [(0, .p [(.lst false n3572 c3573)]), (1, .r [.fn 78 [.ptr 2 0, .ptr 3 0]]), (2, .p [p3577]), (3, .p [(.bool b3578)]), (4, .p [p3559, p3560]), (5, .r [.fn 99 [.ptr 0 0, .ptr 1 0, .ptr 4 0, .ptr 5 0]])], 6, []⟩) (.k (.k (.k (.k (.k (.k (.k (.r (.k (.r (.r (.k (.r (.r (.r (.r (.r .nil))))))))))))))))) (.cons _ _ _ _ _ (DLes.refl _) (.cons _ _ _ _ _ (DLes.refl _) (.cons _ _ _ _ _ (DLes.refl _) (.cons _ _ _ _ _ (DLes.refl _) (.cons _ _ _ _ _ (DLes.refl _) (.cons _ _ _ _ _ (DLes.refl _) (.cons _ _ _ _ _ (DLes.refl _) .nil))))))) (by kernel_rfl) (by simp only [go_sem, qa, qb, qc, qd, qe, qf, qg, qh, qi, qj, qk, ↓reduceIte, resQ_tmp, resQ_cell, resQ_nil, retD_one, retD_two, retD_three, retD_none]; try simp [R.val, retD_one, retD_two, retD_three, retD_none])
  · have hh := getL_some h; clear h; obtain ⟨n3582, c3583, h3581, h⟩ := hh
    have hh := grd_some h; clear h; obtain ⟨g3584, h⟩ := hh
    have hh := grd_some h; clear h; obtain ⟨g3585, h⟩ := hh
    have hh := getI_some h; clear h; obtain ⟨x3587, h3586, h⟩ := hh
    have hh := grd_some h; clear h; obtain ⟨⟨g3588, g3589⟩, h⟩ := hh
    have hh := grd_some h; clear h; obtain ⟨g3590, h⟩ := hh
    have hh := getL_some h; clear h; obtain ⟨n3592, c3593, h3591, h⟩ := hh
    refine W_sound tab_ok mixed 35 _ _ _ ?_
    simp -implicitDefEqProofs only [go_sem, qa, qb, qc, qd, qe, qf, qg, qh, qi, qj, qk, ↓reduceIte, h3565, h3571, h3574, h3581, g3584, g3585, h3586, g3588, g3589, g3590, h3591]
    repeat with_reducible refine ⟨by first | kernel_rfl | decide, ?_⟩
    have hh := bnd'_some h; clear h; obtain ⟨o3671, h3672, h3673⟩ := hh
    refine Wp_cut (fun s => ∃ p3659, ∃ p3660, ∃ b3661, ∃ p3662, (.inr (p3659, p3660, b3661, p3662)) = o3671 ∧ s = ⟨[], [(0, .dead), (1, .dead), (2, .dead), (3, .dead), (4, .dead), (5, .dead), (7, .dead), (8, .dead), (9, .dead), (10, .dead), (11, .dead), (17, .dead), (28, .dead), (29, .dead), (30, .dead), (31, .dead), (53, .dead)], [(0, .p [p3659]), (1, .r [.fn 78 [.ptr 2 0, .ptr 3 0]]), (2, .p [p3660]), (3, .p [(.bool b3661)]), (4, .p [p3559, p3662]), (5, .r [.fn 99 [.ptr 0 0, .ptr 1 0, .ptr 4 0, .ptr 5 0]])], 6, []⟩) ?_ ?_
    · refine Wp_block ?_
      refine Wp_loopG (fun n s => ∃ x3624, ∃ p3625, ∃ p3626, ∃ b3627, ∃ p3628, m99_L0 N p3559 p3566 p3567 p3568 p3569 p3570 n3592 c3593 n x3624 p3625 p3626 b3627 p3628 = some o3671 ∧ s = ⟨[], [(0, .v .nl), (1, .dead), (2, .dead), (3, .dead), (4, .dead), (5, .ptr 5 0), (7, .ptr 6 0), (8, .dead), (9, .v (.int .i64 0)), (10, .dead), (11, .dead), (17, .dead), (28, .v (.lst false n3592 c3593)), (29, .v (.int .i64 ((n3592 : Nat) : Int))), (30, .v (.int .i64 x3624)), (31, .dead), (53, .dead)], [(0, .p [p3625]), (1, .r [.fn 78 [.ptr 2 0, .ptr 3 0]]), (2, .p [p3626]), (3, .p [(.bool b3627)]), (4, .p [p3559, p3628]), (5, .r [.fn 99 [.ptr 0 0, .ptr 1 0, .ptr 4 0, .ptr 5 0]]), (6, .p [p3566, p3567, p3568, p3569, p3570])], 7, []⟩) N _ ((Wk_le (.r (.k (.k (.k (.k (.r (.r (.k (.r (.r (.r (.k (.r (.r (.r (.r (.r .nil))))))))))))))))) (OLe.refl _)).trans (cmpS_ok (st' := ⟨[], [(0, .v .nl), (1, .dead), (2, .dead), (3, .dead), (4, .dead), (5, .ptr 5 0), (7, .ptr 6 0), (8, .dead), (9, .v (.int .i64 0)), (10, .dead), (11, .dead), (17, .dead), (28, .v (.lst false n3592 c3593)), (29, .v (.int .i64 ((n3592 : Nat) : Int))), (30, .v (.int .i64 0)), (31, .dead), (53, .dead)], [(0, .p [(.lst false n3572 c3573)]), (1, .r [.fn 78 [.ptr 2 0, .ptr 3 0]]), (2, .p [p3557]), (3, .p [(.bool b3558)]), (4, .p [p3559, (.lst false n3582 c3583)]), (5, .r [.fn 99 [.ptr 0 0, .ptr 1 0, .ptr 4 0, .ptr 5 0]]), (6, .p [p3566, p3567, p3568, p3569, p3570])], 7, []⟩) (by kernel_rfl))) ⟨_, _, _, _, _, h3672, rfl⟩ ?_
      clear h3672
      rintro n _ ⟨x3624, p3625, p3626, b3627, p3628, h3672, rfl⟩
      cases n with
      | zero => cases h3672
      | succ n =>
        rw [m99_L0] at h3672
        have hh := brn_some h3672; clear h3672; rcases hh with ⟨h3629, h3672⟩ | ⟨h3629, h3672⟩
        · have hh := grd_some h3672; clear h3672; obtain ⟨⟨g3630, g3631⟩, h3672⟩ := hh
          have hh := grd_some h3672; clear h3672; obtain ⟨g3632, h3672⟩ := hh
          have hh := getA2_some h3672; clear h3672; obtain ⟨p3634, p3635, h3633, h3672⟩ := hh
          injection h3633 with h3633
          have hh := bnd'_some h3672; clear h3672; obtain ⟨p3636, h3637, h3672⟩ := hh
          refine W_sound tab_ok mixed 22 _ _ _ ?_
          simp -implicitDefEqProofs only [go_sem, qa, qb, qc, qd, qe, qf, qg, qh, qi, qj, qk, ↓reduceIte, h3565, h3571, h3574, h3581, g3584, g3585, h3586, g3588, g3589, g3590, h3591, h3629, g3630, g3631, g3632, h3633]
          repeat with_reducible refine ⟨by first | kernel_rfl | decide, ?_⟩
          refine Wp_callP (c71 N _ _ _ h3637) (by kernel_rfl) rfl rfl rfl rfl (by decide) ?_
          have hh := getB_some h3672; clear h3672; obtain ⟨b3639, h3638, h3672⟩ := hh
          have hh := brn_some h3672; clear h3672; rcases hh with ⟨h3640, h3672⟩ | ⟨h3640, h3672⟩
          · refine W_sound tab_ok mixed 24 _ _ _ ?_
            simp -implicitDefEqProofs only [go_sem, qa, qb, qc, qd, qe, qf, qg, qh, qi, qj, qk, ↓reduceIte, h3565, h3571, h3574, h3581, g3584, g3585, h3586, g3588, g3589, g3590, h3591, h3629, g3630, g3631, g3632, h3633, h3638, h3640]
            repeat with_reducible refine ⟨by first | kernel_rfl | decide, ?_⟩
            exact cutQ _ ((Wk_le (.r (.r (.r (.r (.r (.r (.r (.r (.r (.k (.k (.r (.r (.r (.r (.k (.k .nil))))))))))))))))) (OLe.refl _)).trans (cmpS_ok (st' := ⟨[], [(0, .v .nl), (1, .dead), (2, .dead), (3, .dead), (4, .dead), (5, .ptr 5 0), (7, .ptr 6 0), (8, .dead), (9, .v (.int .i64 0)), (10, .dead), (11, .dead), (17, .dead), (28, .v (.lst false n3592 c3593)), (29, .v (.int .i64 ((n3592 : Nat) : Int))), (30, .v (.int .i64 (IntKind.i64.wrap (x3624 + 1)))), (31, .dead), (53, .dead)], [(0, .p [p3625]), (1, .r [.fn 78 [.ptr 2 0, .ptr 3 0]]), (2, .p [p3626]), (3, .p [(.bool b3627)]), (4, .p [p3559, p3628]), (5, .r [.fn 99 [.ptr 0 0, .ptr 1 0, .ptr 4 0, .ptr 5 0]]), (6, .p [p3566, p3567, p3568, p3569, p3570])], 7, []⟩) (by kernel_rfl))) ⟨n, Nat.lt_succ_self n, _, _, _, _, _, h3672, rfl⟩
          · have hh := bnd'_some h3672; clear h3672; obtain ⟨p3641, h3642, h3672⟩ := hh
            refine W_sound tab_ok mixed 12 _ _ _ ?_
            simp -implicitDefEqProofs only [go_sem, qa, qb, qc, qd, qe, qf, qg, qh, qi, qj, qk, ↓reduceIte, h3565, h3571, h3574, h3581, g3584, g3585, h3586, g3588, g3589, g3590, h3591, h3629, g3630, g3631, g3632, h3633, h3638, h3640]
            repeat with_reducible refine ⟨by first | kernel_rfl | decide, ?_⟩
            refine Wp_callP (c98 N _ _ _ h3642) (by kernel_rfl) rfl rfl rfl rfl (by decide) ?_
            have hh := getA5_some h3672; clear h3672; obtain ⟨p3644, p3645, p3646, p3647, p3648, h3643, h3672⟩ := hh
            have hh := bnd'_some h3672; clear h3672; obtain ⟨⟨p3649, p3651, p3652, b3653, p3654⟩, h3650, h3672⟩ := hh
            (try dsimp only at h3672)
            (try simp -implicitDefEqProofs only [go_sem, qa, qb, qc, qd, qe, qf, qg, qh, qi, qj, qk, ↓reduceIte, h3565, h3571, h3574, h3581, g3584, g3585, h3586, g3588, g3589, g3590, h3591, h3629, g3630, g3631, g3632, h3633, h3638, h3640, h3643])
            refine Wp_callDF [(66, [(.int .i64 x3624)])] [0, 1, 2, 3, 4, 5] (c99_2 N N _ _ _ _ _ _ _ _ _ _ _ _ h3650) rfl rfl rfl (by first | rfl | (simp only [go_sem, qa, qb, qc, qd, qe, qf, qg, qh, qi, qj, qk, ↓reduceIte, h3565, h3571, h3574, h3581, g3584, g3585, h3586, g3588, g3589, g3590, h3591, h3629, g3630, g3631, g3632, h3633, h3638, h3640, h3643] <;> rfl)) rfl (by kernel_rfl) rfl rfl (by simp [roF, obL]) ?_
            have hh := getB_some h3672; clear h3672; obtain ⟨b3656, h3655, h3672⟩ := hh
            have hh := brn_some h3672; clear h3672; rcases hh with ⟨h3657, h3672⟩ | ⟨h3657, h3672⟩
            · refine W_sound tab_ok mixed 10 _ _ _ ?_
              simp -implicitDefEqProofs only [go_sem, qa, qb, qc, qd, qe, qf, qg, qh, qi, qj, qk, ↓reduceIte, h3565, h3571, h3574, h3581, g3584, g3585, h3586, g3588, g3589, g3590, h3591, h3629, g3630, g3631, g3632, h3633, h3638, h3640, h3643, h3655, h3657]
              repeat with_reducible refine ⟨by first | kernel_rfl | decide, ?_⟩
              exact cutQ _ ((Wk_le (.r (.r (.r (.r (.r (.r (.r (.r (.r (.k (.k (.r (.r (.r (.r (.k (.k .nil))))))))))))))))) (OLe.refl _)).trans (cmpS_ok (st' := ⟨[], [(0, .v .nl), (1, .dead), (2, .dead), (3, .dead), (4, .dead), (5, .ptr 5 0), (7, .ptr 6 0), (8, .dead), (9, .v (.int .i64 0)), (10, .dead), (11, .dead), (17, .dead), (28, .v (.lst false n3592 c3593)), (29, .v (.int .i64 ((n3592 : Nat) : Int))), (30, .v (.int .i64 (IntKind.i64.wrap (x3624 + 1)))), (31, .dead), (53, .dead)], [(0, .p [p3651]), (1, .r [.fn 78 [.ptr 2 0, .ptr 3 0]]), (2, .p [p3652]), (3, .p [(.bool b3653)]), (4, .p [p3559, p3654]), (5, .r [.fn 99 [.ptr 0 0, .ptr 1 0, .ptr 4 0, .ptr 5 0]]), (6, .p [p3566, p3567, p3568, p3569, p3570])], 7, []⟩) (by kernel_rfl))) ⟨n, Nat.lt_succ_self n, _, _, _, _, _, h3672, rfl⟩
            · refine W_sound tab_ok mixed 10 _ _ _ ?_
              simp -implicitDefEqProofs only [go_sem, qa, qb, qc, qd, qe, qf, qg, qh, qi, qj, qk, ↓reduceIte, h3565, h3571, h3574, h3581, g3584, g3585, h3586, g3588, g3589, g3590, h3591, h3629, g3630, g3631, g3632, h3633, h3638, h3640, h3643, h3655, h3657]
              repeat with_reducible refine ⟨by first | kernel_rfl | decide, ?_⟩
              obtain rfl := Option.some.inj h3672
              (try dsimp only at h3673)
              simp only [Option.some.injEq, Prod.mk.injEq] at h3673; obtain ⟨rfl, rfl, rfl, rfl, rfl⟩ := h3673
              exact finD (e2 := [(0, .dead), (1, .dead), (2, .dead), (3, .dead), (4, .dead), (5, .dead), (7, .dead), (8, .v (.bool false)), (9, .dead), (10, .dead), (11, .dead), (17, .dead), (28, .dead), (29, .dead), (30, .dead), (31, .dead), (53, .dead)]) (ob2 := [(6, .p [p3566, p3567, p3568, p3569, p3570]), (18, .p [p3634, p3635]), (65, .p [(.int .i64 x3624)]), (5, .r [.fn 99 [.ptr 0 0, .ptr 1 0, .ptr 4 0, .ptr 5 0]]), (4, .p [p3559, p3654]), (3, .p [(.bool b3653)]), (2, .p [p3652]), (1, .r [.fn 78 [.ptr 2 0, .ptr 3 0]]), (0, .p [p3651])]) (st' := ⟨[], [(0, .dead), (1, .dead), (2, .dead), (3, .dead), (4, .dead), (5, .dead), (7, .dead), (8, .v (.bool false)), (9, .dead), (10, .dead), (11, .dead), (17, .dead), (28, .dead), (29, .dead), (30, .dead), (31, .dead), (53, .dead)], [(0, .p [p3651]), (1, .r [.fn 78 [.ptr 2 0, .ptr 3 0]]), (2, .p [p3652]), (3, .p [(.bool b3653)]), (4, .p [p3559, p3654]), (5, .r [.fn 99 [.ptr 0 0, .ptr 1 0, .ptr 4 0, .ptr 5 0]])], 6, []⟩) (.k (.r (.r (.r (.r (.k (.k (.r (.k (.k (.k (.r (.k (.k (.k (.k (.k .nil))))))))))))))))) (.cons _ _ _ _ _ (DLes.refl _) (.cons _ _ _ _ _ (DLes.refl _) (.cons _ _ _ _ _ (DLes.refl _) (.cons _ _ _ _ _ (DLes.refl _) (.cons _ _ _ _ _ (DLes.refl _) (.cons _ _ _ _ _ (DLes.refl _) (.cons _ _ _ _ _ (DLes.refl _) (.cons _ _ _ _ _ (DLes.refl _) (.cons _ _ _ _ _ (DLes.refl _) .nil))))))))) (by kernel_rfl) (by simp only [go_sem, qa, qb, qc, qd, qe, qf, qg, qh, qi, qj, qk, ↓reduceIte, resQ_tmp, resQ_cell, resQ_nil, retD_one, retD_two, retD_three, retD_none]; try simp [R.val, retD_one, retD_two, retD_three, retD_none])
        · refine W_sound tab_ok mixed 7 _ _ _ ?_
          simp -implicitDefEqProofs only [go_sem, qa, qb, qc, qd, qe, qf, qg, qh, qi, qj, qk, ↓reduceIte, h3565, h3571, h3574, h3581, g3584, g3585, h3586, g3588, g3589, g3590, h3591, h3629]
          repeat with_reducible refine ⟨by first | kernel_rfl | decide, ?_⟩
          obtain rfl := Option.some.inj h3672
          exact cutQ _ ((Wk_le (.k (.r (.r (.r (.r (.k (.k (.r (.k (.r (.r (.r (.k (.k (.k (.k (.r .nil))))))))))))))))) (OLe.refl _)).trans (cmpS_ok (st' := ⟨[], [(0, .dead), (1, .dead), (2, .dead), (3, .dead), (4, .dead), (5, .dead), (7, .dead), (8, .dead), (9, .dead), (10, .dead), (11, .dead), (17, .dead), (28, .dead), (29, .dead), (30, .dead), (31, .dead), (53, .dead)], [(0, .p [p3625]), (1, .r [.fn 78 [.ptr 2 0, .ptr 3 0]]), (2, .p [p3626]), (3, .p [(.bool b3627)]), (4, .p [p3559, p3628]), (5, .r [.fn 99 [.ptr 0 0, .ptr 1 0, .ptr 4 0, .ptr 5 0]])], 6, []⟩) (by kernel_rfl))) ⟨_, _, _, _, rfl, rfl⟩
    · rintro _ ⟨p3659, p3660, b3661, p3662, rfl, rfl⟩
      (try dsimp only at h3673)
      refine W_sound tab_ok mixed 6 _ _ _ ?_
      simp -implicitDefEqProofs only [go_sem, qa, qb, qc, qd, qe, qf, qg, qh, qi, qj, qk, ↓reduceIte, h3565, h3571, h3574, h3581, g3584, g3585, h3586, g3588, g3589, g3590, h3591]
      repeat with_reducible refine ⟨by first | kernel_rfl | decide, ?_⟩
      simp only [Option.some.injEq, Prod.mk.injEq] at h3673; obtain ⟨rfl, rfl, rfl, rfl, rfl⟩ := h3673
      exact finD (e2 := [(0, .dead), (1, .dead), (2, .dead), (3, .dead), (4, .dead), (5, .dead), (7, .dead), (8, .v (.bool true)), (9, .dead), (10, .dead), (11, .dead), (17, .dead), (28, .dead), (29, .dead), (30, .dead), (31, .dead), (53, .dead)]) (ob2 := [(0, .p [p3659]), (1, .r [.fn 78 [.ptr 2 0, .ptr 3 0]]), (2, .p [p3660]), (3, .p [(.bool b3661)]), (4, .p [p3559, p3662]), (5, .r [.fn 99 [.ptr 0 0, .ptr 1 0, .ptr 4 0, .ptr 5 0]])]) (st' := ⟨[], [(0, .dead), (1, .dead), (2, .dead), (3, .dead), (4, .dead), (5, .dead), (7, .dead), (8, .v (.bool true)), (9, .dead), (10, .dead), (11, .dead), (17, .dead), (28, .dead), (29, .dead), (30, .dead), (31, .dead), (53, .dead)], [(0, .p [p3659]), (1, .r [.fn 78 [.ptr 2 0, .ptr 3 0]]), (2, .p [p3660]), (3, .p [(.bool b3661)]), (4, .p [p3559, p3662]), (5, .r [.fn 99 [.ptr 0 0, .ptr 1 0, .ptr 4 0, .ptr 5 0]])], 6, []⟩) (.r (.r (.r (.r (.r (.r (.r (.r (.r (.r (.r (.r (.r (.r (.r (.r (.r .nil))))))))))))))))) (.cons _ _ _ _ _ (DLes.refl _) (.cons _ _ _ _ _ (DLes.refl _) (.cons _ _ _ _ _ (DLes.refl _) (.cons _ _ _ _ _ (DLes.refl _) (.cons _ _ _ _ _ (DLes.refl _) (.cons _ _ _ _ _ (DLes.refl _) .nil)))))) (by kernel_rfl) (by simp only [go_sem, qa, qb, qc, qd, qe, qf, qg, qh, qi, qj, qk, ↓reduceIte, resQ_tmp, resQ_cell, resQ_nil, retD_one, retD_two, retD_three, retD_none]; try simp [R.val, retD_one, retD_two, retD_three, retD_none])
def m76 (N : Nat) (p3684 : PV) (p3685 : PV) (p3686 : PV) (b3687 : Bool) : Option ((PV × PV × Bool)) :=
  getA2 p3684 fun p3691 p3692 =>
  getL p3685 fun n3694 c3695 =>
  bnd' (m97 N ) fun p3696 =>
  getA5 p3696 fun p3699 p3700 p3701 p3702 p3703 =>
  bnd' (m99 N (.agg [p3699, p3700, p3701, p3702, p3703]) (.lst false n3694 c3695) p3686 b3687 p3691 p3692) fun (p3704, p3706, p3707, b3708, p3709) =>
  getB p3704 fun b3711 =>
  some ((.tup []), p3707, b3708)
theorem c76 (N : Nat) (p3684 : PV) (p3685 : PV) (p3686 : PV) (b3687 : Bool) (r : PV) (p3714 : PV) (b3715 : Bool) (h : m76 N p3684 p3685 p3686 b3687 = some (r, p3714, b3715)) : V.Fn Tryd.prog 76 2 [.v p3684, .v p3685, .fn 78 [.ptr 0 0, .ptr 1 0]] [(0, .p [p3686]), (1, .p [(.bool b3687)])] (fun d ob' => d = .v r ∧ ob' = [(0, .p [p3714]), (1, .p [(.bool b3715)])]) := by
  unfold m76 at h
  refine Fn_of (sz := 11) tab_ok [0, 1, 2, 3, 4, 5, 6] [] Tryd.func76 rfl rfl rfl (by simp) ?_
  simp only [initSt, initEnv, List.map_cons, List.map_nil, List.getD_cons_zero, List.getD_cons_succ, List.getD_nil]
  have hh := getA2_some h; clear h; obtain ⟨p3691, p3692, h3690, h⟩ := hh
  have hh := getL_some h; clear h; obtain ⟨n3694, c3695, h3693, h⟩ := hh
  have hh := bnd'_some h; clear h; obtain ⟨p3696, h3697, h⟩ := hh
  refine W_sound tab_ok mixed 17 _ _ _ ?_
  simp -implicitDefEqProofs only [go_sem, qa, qb, qc, qd, qe, qf, qg, qh, qi, qj, qk, ↓reduceIte, h3690, h3693]
  repeat with_reducible refine ⟨by first | kernel_rfl | decide, ?_⟩
  refine Wp_callP (c97 N  _ h3697) (by kernel_rfl) rfl rfl rfl rfl (by decide) ?_
  have hh := getA5_some h; clear h; obtain ⟨p3699, p3700, p3701, p3702, p3703, h3698, h⟩ := hh
  have hh := bnd'_some h; clear h; obtain ⟨⟨p3704, p3706, p3707, b3708, p3709⟩, h3705, h⟩ := hh
  (try dsimp only at h)
  (try simp -implicitDefEqProofs only [go_sem, qa, qb, qc, qd, qe, qf, qg, qh, qi, qj, qk, ↓reduceIte, h3690, h3693, h3698])
  refine Wp_callD [6, 7, 0, 1, 5, 14] (c99 N _ _ _ _ _ _ _ _ _ _ _ h3705) rfl rfl rfl (by first | rfl | (simp only [go_sem, qa, qb, qc, qd, qe, qf, qg, qh, qi, qj, qk, ↓reduceIte, h3690, h3693, h3698] <;> rfl)) rfl (by kernel_rfl) ?_
  have hh := getB_some h; clear h; obtain ⟨b3711, h3710, h⟩ := hh
  refine W_sound tab_ok mixed 2 _ _ _ ?_
  simp -implicitDefEqProofs only [go_sem, qa, qb, qc, qd, qe, qf, qg, qh, qi, qj, qk, ↓reduceIte, h3690, h3693, h3698, h3710]
  repeat with_reducible refine ⟨by first | kernel_rfl | decide, ?_⟩
  simp only [Option.some.injEq, Prod.mk.injEq] at h; obtain ⟨rfl, rfl, rfl⟩ := h
  exact finD (e2 := [(0, .dead), (1, .dead), (2, .dead), (3, .dead), (4, .dead), (5, .dead), (6, .dead)]) (ob2 := [(14, .r [.fn 99 [.ptr 6 0, .ptr 7 0, .ptr 5 0, .ptr 14 0]]), (5, .p [p3691, p3709]), (1, .p [(.bool b3708)]), (0, .p [p3707]), (7, .r [.fn 78 [.ptr 0 0, .ptr 1 0]]), (6, .p [p3706])]) (st' := ⟨[], [(0, .dead), (1, .dead), (2, .dead), (3, .dead), (4, .dead), (5, .dead), (6, .dead)], [(0, .p [p3707]), (1, .p [(.bool b3708)])], 2, []⟩) (.k (.k (.k (.k (.k (.k (.k .nil))))))) (.cons _ _ _ _ _ (DLes.refl _) (.cons _ _ _ _ _ (DLes.refl _) (.cons _ _ _ _ _ (DLes.refl _) (.cons _ _ _ _ _ (DLes.refl _) (.cons _ _ _ _ _ (DLes.refl _) (.cons _ _ _ _ _ (DLes.refl _) .nil)))))) (by kernel_rfl) (by simp only [go_sem, qa, qb, qc, qd, qe, qf, qg, qh, qi, qj, qk, ↓reduceIte, resQ_tmp, resQ_cell, resQ_nil, retD_one, retD_two, retD_three, retD_none]; try simp [R.val, retD_one, retD_two, retD_three, retD_none])
def m26 (N : Nat) (p3181 : PV) : Option (PV) :=
  getA2 p3181 fun p3183 p3184 =>
  bnd' (m22 N (.agg [p3183, p3184])) fun p3185 =>
  getI .i64 p3185 fun x3188 =>
  brn (x3188 != 0) (
    some (.tup [(.lst false 0 []), (.int .i64 x3188)])) (
    getL p3184 fun n3191 c3192 =>
    grd (0 ≤ ((n3191 : Nat) : Int)) <|
    bnd' (m77 N (IntKind.u64.wrap ((IntKind.u64.wrap (1 * 2 ^ (min n3191 64))) - 1))) fun p3194 =>
    getL p3194 fun n3197 c3198 =>
    bnd' (m76 N (.agg [p3183, (.lst false n3191 c3192)]) (.lst false n3197 c3198) .nl true) fun (p3716, p3718, b3719) =>
    getT0 p3716 <|
    brn b3719 (
      some (.tup [(.lst false 0 []), (.int .i64 12)])) (
      getL p3718 fun n3723 c3724 =>
      some (.tup [(.lst false n3723 c3724), (.int .i64 0)])))
theorem c26 (N : Nat) (p3181 : PV) (r : PV)  (h : m26 N p3181 = some r) : FnP Tryd.prog 26 [p3181] r := by
  unfold m26 at h
  refine Fn_of (sz := 23) tab_ok [0, 1, 2, 3, 4, 5, 6, 10, 21] [.tmp 2, .tmp 3] Tryd.func26 rfl rfl rfl (by simp) ?_
  simp only [initSt, initEnv, List.map_cons, List.map_nil, List.getD_cons_zero, List.getD_cons_succ, List.getD_nil]
  have hh := getA2_some h; clear h; obtain ⟨p3183, p3184, h3182, h⟩ := hh
  have hh := bnd'_some h; clear h; obtain ⟨p3185, h3186, h⟩ := hh
  refine W_sound tab_ok mixed 10 _ _ _ ?_
  simp -implicitDefEqProofs only [go_sem, qa, qb, qc, qd, qe, qf, qg, qh, qi, qj, qk, ↓reduceIte, h3182]
  repeat with_reducible refine ⟨by first | kernel_rfl | decide, ?_⟩
  refine Wp_callP (c22 N _ _ h3186) (by kernel_rfl) rfl rfl rfl rfl (by decide) ?_
  have hh := getI_some h; clear h; obtain ⟨x3188, h3187, h⟩ := hh
  have hh := brn_some h; clear h; rcases hh with ⟨h3189, h⟩ | ⟨h3189, h⟩
  · refine W_sound tab_ok mixed 16 _ _ _ ?_
    simp -implicitDefEqProofs only [go_sem, qa, qb, qc, qd, qe, qf, qg, qh, qi, qj, qk, ↓reduceIte, h3182, h3187, h3189]
    repeat with_reducible refine ⟨by first | kernel_rfl | decide, ?_⟩
    obtain rfl := Option.some.inj h
    exact finC [(2, .v .nl), (3, .v (.int .i64 x3188))] [(2, .v (.lst false 0 [])), (3, .v (.int .i64 x3188))] (by simp [leE, lk_cons]) (.cons _ _ _ _ _ (.v _ _ (.nl false)) (.cons _ _ _ _ _ (.v _ _ (.refl _)) .nil)) (by rfl) (by simp [leE, lk_cons]) (by decide) (by decide) rfl (by simp only [go_sem, qa, qb, qc, qd, qe, qf, qg, qh, qi, qj, qk, ↓reduceIte, resQ_tmp, resQ_cell, resQ_nil, retD_one, retD_two, retD_three, retD_none]; try simp [R.val, retD_one, retD_two, retD_three, retD_none])
  · have hh := getL_some h; clear h; obtain ⟨n3191, c3192, h3190, h⟩ := hh
    have hh := grd_some h; clear h; obtain ⟨g3193, h⟩ := hh
    have hh := bnd'_some h; clear h; obtain ⟨p3194, h3195, h⟩ := hh
    refine W_sound tab_ok mixed 26 _ _ _ ?_
    simp -implicitDefEqProofs only [go_sem, qa, qb, qc, qd, qe, qf, qg, qh, qi, qj, qk, ↓reduceIte, h3182, h3187, h3189, h3190, g3193]
    repeat with_reducible refine ⟨by first | kernel_rfl | decide, ?_⟩
    refine Wp_callP (c77 N _ _ h3195) (by kernel_rfl) rfl rfl rfl rfl (by decide) ?_
    have hh := getL_some h; clear h; obtain ⟨n3197, c3198, h3196, h⟩ := hh
    have hh := bnd'_some h; clear h; obtain ⟨⟨p3716, p3718, b3719⟩, h3717, h⟩ := hh
    (try dsimp only at h)
    refine W_sound tab_ok mixed 1 _ _ _ ?_
    simp -implicitDefEqProofs only [go_sem, qa, qb, qc, qd, qe, qf, qg, qh, qi, qj, qk, ↓reduceIte, h3182, h3187, h3189, h3190, g3193, h3196]
    repeat with_reducible refine ⟨by first | kernel_rfl | decide, ?_⟩
    refine Wp_callD [7, 14] (c76 N _ _ _ _ _ _ _ h3717) rfl rfl rfl (by first | rfl | (simp only [go_sem, qa, qb, qc, qd, qe, qf, qg, qh, qi, qj, qk, ↓reduceIte, h3182, h3187, h3189, h3190, g3193, h3196] <;> rfl)) rfl (by kernel_rfl) ?_
    have hh := getT0_some h; clear h; obtain ⟨h3720, h⟩ := hh
    have hh := brn_some h; clear h; rcases hh with ⟨h3721, h⟩ | ⟨h3721, h⟩
    · refine W_sound tab_ok mixed 14 _ _ _ ?_
      simp -implicitDefEqProofs only [go_sem, qa, qb, qc, qd, qe, qf, qg, qh, qi, qj, qk, ↓reduceIte, h3182, h3187, h3189, h3190, g3193, h3196, h3720, h3721]
      repeat with_reducible refine ⟨by first | kernel_rfl | decide, ?_⟩
      obtain rfl := Option.some.inj h
      exact finC [(2, .v .nl), (3, .v (.int .i64 12))] [(2, .v (.lst false 0 [])), (3, .v (.int .i64 12))] (by simp [leE, lk_cons]) (.cons _ _ _ _ _ (.v _ _ (.nl false)) (.cons _ _ _ _ _ (.v _ _ (.refl _)) .nil)) (by rfl) (by simp [leE, lk_cons]) (by decide) (by decide) rfl (by simp only [go_sem, qa, qb, qc, qd, qe, qf, qg, qh, qi, qj, qk, ↓reduceIte, resQ_tmp, resQ_cell, resQ_nil, retD_one, retD_two, retD_three, retD_none]; try simp [R.val, retD_one, retD_two, retD_three, retD_none])
    · have hh := getL_some h; clear h; obtain ⟨n3723, c3724, h3722, h⟩ := hh
      refine W_sound tab_ok mixed 16 _ _ _ ?_
      simp -implicitDefEqProofs only [go_sem, qa, qb, qc, qd, qe, qf, qg, qh, qi, qj, qk, ↓reduceIte, h3182, h3187, h3189, h3190, g3193, h3196, h3720, h3721, h3722]
      repeat with_reducible refine ⟨by first | kernel_rfl | decide, ?_⟩
      obtain rfl := Option.some.inj h
      exact finC [(2, .v (.lst false n3723 c3724)), (3, .v (.int .i64 0))] [(2, .v (.lst false n3723 c3724)), (3, .v (.int .i64 0))] (by simp [leE, lk_cons]) (.cons _ _ _ _ _ (.v _ _ (.refl _)) (.cons _ _ _ _ _ (.v _ _ (.refl _)) .nil)) (by rfl) (by simp [leE, lk_cons]) (by decide) (by decide) rfl (by simp only [go_sem, qa, qb, qc, qd, qe, qf, qg, qh, qi, qj, qk, ↓reduceIte, resQ_tmp, resQ_cell, resQ_nil, retD_one, retD_two, retD_three, retD_none]; try simp [R.val, retD_one, retD_two, retD_three, retD_none])
def m81 (N : Nat) (x4094 : Int) : Option ((PV × Int)) :=
  some ((.bool true), (IntKind.i64.wrap (x4094 + 1)))
theorem c81 (N : Nat) (x4094 : Int) (r : PV) (x4096 : Int) (h : m81 N x4094 = some (r, x4096)) : V.Fn Tryd.prog 81 1 [.v .nl, .ptr 0 0] [(0, .p [(.int .i64 x4094)])] (fun d ob' => d = .v r ∧ ob' = [(0, .p [(.int .i64 x4096)])]) := by
  unfold m81 at h
  refine Fn_of (sz := 6) tab_ok [0, 1, 3] [.tmp 3] Tryd.func81 rfl rfl rfl (by simp) ?_
  simp only [initSt, initEnv, List.map_cons, List.map_nil, List.getD_cons_zero, List.getD_cons_succ, List.getD_nil]
  refine W_sound tab_ok mixed 16 _ _ _ ?_
  simp -implicitDefEqProofs only [go_sem, qa, qb, qc, qd, qe, qf, qg, qh, qi, qj, qk, ↓reduceIte]
  repeat with_reducible refine ⟨by first | kernel_rfl | decide, ?_⟩
  simp only [Option.some.injEq, Prod.mk.injEq] at h; obtain ⟨rfl, rfl⟩ := h
  exact finD (e2 := [(0, .dead), (1, .dead), (3, .v (.bool true))]) (ob2 := [(0, .p [(.int .i64 (IntKind.i64.wrap (x4094 + 1)))])]) (st' := ⟨[], [(0, .dead), (1, .dead), (3, .v (.bool true))], [(0, .p [(.int .i64 (IntKind.i64.wrap (x4094 + 1)))])], 1, []⟩) (.k (.k (.r .nil))) (.cons _ _ _ _ _ (DLes.refl _) .nil) (by kernel_rfl) (by simp only [go_sem, qa, qb, qc, qd, qe, qf, qg, qh, qi, qj, qk, ↓reduceIte, resQ_tmp, resQ_cell, resQ_nil, retD_one, retD_two, retD_three, retD_none]; try simp [R.val, retD_one, retD_two, retD_three, retD_none])
def m81_2 (N : Nat) (p4160 : PV) (x4161 : Int) : Option ((PV × Int)) :=
  getL p4160 fun n4164 c4165 =>
  some ((.bool true), (IntKind.i64.wrap (x4161 + 1)))
theorem c81_2 (N : Nat) (p4160 : PV) (x4161 : Int) (r : PV) (x4166 : Int) (h : m81_2 N p4160 x4161 = some (r, x4166)) : V.Fn Tryd.prog 81 1 [.v p4160, .ptr 0 0] [(0, .p [(.int .i64 x4161)])] (fun d ob' => d = .v r ∧ ob' = [(0, .p [(.int .i64 x4166)])]) := by
  unfold m81_2 at h
  refine Fn_of (sz := 6) tab_ok [0, 1, 3] [.tmp 3] Tryd.func81 rfl rfl rfl (by simp) ?_
  simp only [initSt, initEnv, List.map_cons, List.map_nil, List.getD_cons_zero, List.getD_cons_succ, List.getD_nil]
  have hh := getL_some h; clear h; obtain ⟨n4164, c4165, h4163, h⟩ := hh
  refine W_sound tab_ok mixed 16 _ _ _ ?_
  simp -implicitDefEqProofs only [go_sem, qa, qb, qc, qd, qe, qf, qg, qh, qi, qj, qk, ↓reduceIte, h4163]
  repeat with_reducible refine ⟨by first | kernel_rfl | decide, ?_⟩
  simp only [Option.some.injEq, Prod.mk.injEq] at h; obtain ⟨rfl, rfl⟩ := h
  exact finD (e2 := [(0, .dead), (1, .dead), (3, .v (.bool true))]) (ob2 := [(0, .p [(.int .i64 (IntKind.i64.wrap (x4161 + 1)))])]) (st' := ⟨[], [(0, .dead), (1, .dead), (3, .v (.bool true))], [(0, .p [(.int .i64 (IntKind.i64.wrap (x4161 + 1)))])], 1, []⟩) (.k (.k (.r .nil))) (.cons _ _ _ _ _ (DLes.refl _) .nil) (by kernel_rfl) (by simp only [go_sem, qa, qb, qc, qd, qe, qf, qg, qh, qi, qj, qk, ↓reduceIte, resQ_tmp, resQ_cell, resQ_nil, retD_one, retD_two, retD_three, retD_none]; try simp [R.val, retD_one, retD_two, retD_three, retD_none])
def m99_4_L0 (N : Nat) (rec : PV → PV → PV → Int → PV → PV → Option ((PV × PV × Int × PV))) (p4223 : PV) (n4229 : Nat) (c4230 : List PV) (p4232 : PV) (p4233 : PV) (p4234 : PV) (p4235 : PV) (p4236 : PV) (n4258 : Nat) (c4259 : List PV) : Nat → Int → PV → Int → PV → Option (((PV × PV × Int × PV) ⊕ (PV × Int × PV)))
  | 0, _, _, _, _ => none
  | n + 1, x4292, p4293, x4294, p4295 =>
    brn (decide (x4292 < ((n4258 : Nat) : Int))) (
      grd (0 ≤ x4292 ∧ x4292 < ((n4258 : Nat) : Int)) <|
      grd (2 ≤ List.length (List.drop ((Int.toNat x4292) * 2) c4259)) <|
      getA2 (.agg (List.take 2 (List.drop ((Int.toNat x4292) * 2) c4259))) fun p4301 p4302 =>
      bnd' (m71 N (.agg [p4232, p4233, p4234, p4235, p4236]) (.agg [p4301, p4302])) fun p4303 =>
      getB p4303 fun b4306 =>
      brn b4306 (
        m99_4_L0 N rec p4223 n4229 c4230 p4232 p4233 p4234 p4235 p4236 n4258 c4259 n (IntKind.i64.wrap (x4292 + 1)) p4293 x4294 p4295) (
        grd (((n4229 : Nat) : Int) ≤ ((n4229 : Nat) : Int)) <|
        grd (List.length c4230 = n4229) <|
        grd ((n4229 + 1) ≤ 1099511627776) <|
        bnd' (m98 N (.agg [p4232, p4233, p4234, p4235, p4236]) (.agg [p4301, p4302])) fun p4311 =>
        getA5 p4311 fun p4314 p4315 p4316 p4317 p4318 =>
        bnd' (rec (.lst false (n4229 + 1) (c4230 ++ [(.int .i64 x4292)])) (.agg [p4314, p4315, p4316, p4317, p4318]) p4293 x4294 p4223 p4295) fun (p4319, p4321, x4322, p4323) =>
        getB p4319 fun b4325 =>
        brn b4325 (
          m99_4_L0 N rec p4223 n4229 c4230 p4232 p4233 p4234 p4235 p4236 n4258 c4259 n (IntKind.i64.wrap (x4292 + 1)) p4321 x4322 p4323) (
          some (.inl ((.bool false), p4321, x4322, p4323))))) (
      some (.inr (p4293, x4294, p4295)))
def m99_4 (N : Nat) : Nat → PV → PV → PV → Int → PV → PV → Option ((PV × PV × Int × PV))
  | 0, _, _, _, _, _, _ => none
  | fu + 1, p4219, p4220, p4221, x4222, p4223, p4224 =>
    getL p4219 fun n4229 c4230 =>
    getA5 p4220 fun p4232 p4233 p4234 p4235 p4236 =>
    getL p4221 fun n4238 c4239 =>
    brn (((n4229 : Nat) : Int) == ((n4238 : Nat) : Int)) (
      bnd' (m81_2 N (.lst false n4229 c4230) x4222) fun (p4241, x4243) =>
      getB p4241 fun b4245 =>
      some ((.bool b4245), (.lst false n4238 c4239), x4243, p4224)) (
      getL p4224 fun n4247 c4248 =>
      grd (0 ≤ ((n4229 : Nat) : Int) ∧ ((n4229 : Nat) : Int) < ((n4238 : Nat) : Int)) <|
      grd (0 < List.length (List.drop n4229 c4239)) <|
      getI .i64 (gp c4239 n4229) fun x4253 =>
      grd (0 ≤ x4253 ∧ x4253 < ((n4247 : Nat) : Int)) <|
      grd (0 < List.length (List.drop (Int.toNat x4253) c4248)) <|
      getL (gp c4248 (Int.toNat x4253)) fun n4258 c4259 =>
      bnd' (m99_4_L0 N (m99_4 N fu) p4223 n4229 c4230 p4232 p4233 p4234 p4235 p4236 n4258 c4259 N 0 (.lst false n4238 c4239) x4222 (.lst false n4247 c4248)) fun o =>
      match o with
      | .inl p4327 =>
        some p4327
      | .inr (p4328, x4329, p4330) =>
        some ((.bool true), p4328, x4329, p4330))
theorem c99_4 (N : Nat) : ∀ (fu : Nat) (p4219 : PV) (p4220 : PV) (p4221 : PV) (x4222 : Int) (p4223 : PV) (p4224 : PV) (r : PV) (p4334 : PV) (x4335 : Int) (p4336 : PV) (h : m99_4 N fu p4219 p4220 p4221 x4222 p4223 p4224 = some (r, p4334, x4335, p4336)), V.Fn Tryd.prog 99 5 [.v p4219, .v p4220, .ptr 0 0, .ptr 1 0, .ptr 3 0, .ptr 4 0] [(0, .p [p4221]), (1, .r [.fn 81 [.ptr 2 0]]), (2, .p [(.int .i64 x4222)]), (3, .p [p4223, p4224]), (4, .r [.fn 99 [.ptr 0 0, .ptr 1 0, .ptr 3 0, .ptr 4 0]])] (fun d ob' => d = .v r ∧ ob' = [(0, .p [p4334]), (1, .r [.fn 81 [.ptr 2 0]]), (2, .p [(.int .i64 x4335)]), (3, .p [p4223, p4336]), (4, .r [.fn 99 [.ptr 0 0, .ptr 1 0, .ptr 3 0, .ptr 4 0]])]) := by
  intro fu
  induction fu with
  | zero => intro p4219 p4220 p4221 x4222 p4223 p4224 r p4334 x4335 p4336 h; cases h
  | succ fu ih =>
    intro p4219 p4220 p4221 x4222 p4223 p4224 r p4334 x4335 p4336 h
    rw [m99_4] at h
    refine Fn_of (sz := 55) tab_ok [0, 1, 2, 3, 4, 5, 7, 8, 9, 10, 11, 17, 28, 29, 30, 31, 53] [.tmp 8] Tryd.func99 rfl rfl rfl (by simp) ?_
    simp only [initSt, initEnv, List.map_cons, List.map_nil, List.getD_cons_zero, List.getD_cons_succ, List.getD_nil]
    have hh := getL_some h; clear h; obtain ⟨n4229, c4230, h4228, h⟩ := hh
    have hh := getA5_some h; clear h; obtain ⟨p4232, p4233, p4234, p4235, p4236, h4231, h⟩ := hh
    have hh := getL_some h; clear h; obtain ⟨n4238, c4239, h4237, h⟩ := hh
    have hh := brn_some h; clear h; rcases hh with ⟨h4240, h⟩ | ⟨h4240, h⟩
    · have hh := bnd'_some h; clear h; obtain ⟨⟨p4241, x4243⟩, h4242, h⟩ := hh
      (try dsimp only at h)
      refine W_sound tab_ok mixed 24 _ _ _ ?_
      simp -implicitDefEqProofs only [go_sem, qa, qb, qc, qd, qe, qf, qg, qh, qi, qj, qk, ↓reduceIte, h4228, h4231, h4237, h4240]
      repeat with_reducible refine ⟨by first | kernel_rfl | decide, ?_⟩
      refine Wp_callD [2] (c81_2 N _ _ _ _ h4242) rfl rfl rfl (by first | rfl | (simp only [go_sem, qa, qb, qc, qd, qe, qf, qg, qh, qi, qj, qk, ↓reduceIte, h4228, h4231, h4237, h4240] <;> rfl)) rfl (by kernel_rfl) ?_
      have hh := getB_some h; clear h; obtain ⟨b4245, h4244, h⟩ := hh
      refine W_sound tab_ok mixed 4 _ _ _ ?_
      simp -implicitDefEqProofs only [go_sem, qa, qb, qc, qd, qe, qf, qg, qh, qi, qj, qk, ↓reduceIte, h4228, h4231, h4237, h4240, h4244]
      repeat with_reducible refine ⟨by first | kernel_rfl | decide, ?_⟩
      simp only [Option.some.injEq, Prod.mk.injEq] at h; obtain ⟨rfl, rfl, rfl, rfl⟩ := h
      exact finD (e2 := [(0, .dead), (1, .dead), (2, .dead), (3, .dead), (4, .dead), (5, .dead), (7, .dead), (8, .v (.bool b4245)), (9, .dead), (10, .dead), (11, .dead), (17, .dead), (28, .dead), (29, .dead), (30, .dead), (31, .dead), (53, .dead)]) (ob2 := [(0, .p [(.lst false n4238 c4239)]), (1, .r [.fn 81 [.ptr 2 0]]), (3, .p [p4223, p4224]), (4, .r [.fn 99 [.ptr 0 0, .ptr 1 0, .ptr 3 0, .ptr 4 0]]), (12, .p [p4232, p4233, p4234, p4235, p4236]), (2, .p [(.int .i64 x4243)])]) (st' := ⟨[], [(0, .dead), (1, .dead), (2, .dead), (3, .dead), (4, .dead), (5, .dead), (7, .dead), (8, .v (.bool b4245)), (9, .dead), (10, .dead), (11, .dead), (17, .dead), (28, .dead), (29, .dead), (30, .dead), (31, .dead), (53, .dead)], [(0, .p [(.lst false n4238 c4239)]), (1, .r [.fn 81 [.ptr 2 0]]), (2, .p [(.int .i64 x4243)]), (3, .p [p4223, p4224]), (4, .r [.fn 99 [.ptr 0 0, .ptr 1 0, .ptr 3 0, .ptr 4 0]])], 5, []⟩) (.k (.k (.k (.k (.k (.k (.k (.r (.k (.r (.r (.k (.r (.r (.r (.r (.r .nil))))))))))))))))) (.cons _ _ _ _ _ (DLes.refl _) (.cons _ _ _ _ _ (DLes.refl _) (.cons _ _ _ _ _ (DLes.refl _) (.cons _ _ _ _ _ (DLes.refl _) (.cons _ _ _ _ _ (DLes.refl _) (.cons _ _ _ _ _ (DLes.refl _) .nil)))))) (by kernel_rfl) (by simp only [go_sem, qa, qb, qc, qd, qe, qf, qg, qh, qi, qj, qk, ↓reduceIte, resQ_tmp, resQ_cell, resQ_nil, retD_one, retD_two, retD_three, retD_none]; try simp [R.val, retD_one, retD_two, retD_three, retD_none])
    · have hh := getL_some h; clear h; obtain ⟨n4247, c4248, h4246, h⟩ := hh
      have hh := grd_some h; clear h; obtain ⟨⟨g4249, g4250⟩, h⟩ := hh
      have hh := grd_some h; clear h; obtain ⟨g4251, h⟩ := hh
      have hh := getI_some h; clear h; obtain ⟨x4253, h4252, h⟩ := hh
      have hh := grd_some h; clear h; obtain ⟨⟨g4254, g4255⟩, h⟩ := hh
      have hh := grd_some h; clear h; obtain ⟨g4256, h⟩ := hh
      have hh := getL_some h; clear h; obtain ⟨n4258, c4259, h4257, h⟩ := hh
      refine W_sound tab_ok mixed 35 _ _ _ ?_
      simp -implicitDefEqProofs only [go_sem, qa, qb, qc, qd, qe, qf, qg, qh, qi, qj, qk, ↓reduceIte, h4228, h4231, h4237, h4240, h4246, g4249, g4250, g4251, h4252, g4254, g4255, g4256, h4257]
      repeat with_reducible refine ⟨by first | kernel_rfl | decide, ?_⟩
      have hh := bnd'_some h; clear h; obtain ⟨o4337, h4338, h4339⟩ := hh
      refine Wp_cut (fun s => ∃ p4328, ∃ x4329, ∃ p4330, (.inr (p4328, x4329, p4330)) = o4337 ∧ s = ⟨[], [(0, .dead), (1, .dead), (2, .dead), (3, .dead), (4, .dead), (5, .dead), (7, .dead), (8, .dead), (9, .dead), (10, .dead), (11, .dead), (17, .dead), (28, .dead), (29, .dead), (30, .dead), (31, .dead), (53, .dead)], [(0, .p [p4328]), (1, .r [.fn 81 [.ptr 2 0]]), (2, .p [(.int .i64 x4329)]), (3, .p [p4223, p4330]), (4, .r [.fn 99 [.ptr 0 0, .ptr 1 0, .ptr 3 0, .ptr 4 0]])], 5, []⟩) ?_ ?_
      · refine Wp_block ?_
        refine Wp_loopG (fun n s => ∃ x4292, ∃ p4293, ∃ x4294, ∃ p4295, m99_4_L0 N (m99_4 N fu) p4223 n4229 c4230 p4232 p4233 p4234 p4235 p4236 n4258 c4259 n x4292 p4293 x4294 p4295 = some o4337 ∧ s = ⟨[], [(0, .v (.lst false n4229 c4230)), (1, .dead), (2, .dead), (3, .dead), (4, .dead), (5, .ptr 4 0), (7, .ptr 5 0), (8, .dead), (9, .v (.int .i64 ((n4229 : Nat) : Int))), (10, .dead), (11, .dead), (17, .dead), (28, .v (.lst false n4258 c4259)), (29, .v (.int .i64 ((n4258 : Nat) : Int))), (30, .v (.int .i64 x4292)), (31, .dead), (53, .dead)], [(0, .p [p4293]), (1, .r [.fn 81 [.ptr 2 0]]), (2, .p [(.int .i64 x4294)]), (3, .p [p4223, p4295]), (4, .r [.fn 99 [.ptr 0 0, .ptr 1 0, .ptr 3 0, .ptr 4 0]]), (5, .p [p4232, p4233, p4234, p4235, p4236])], 6, []⟩) N _ ((Wk_le (.r (.k (.k (.k (.k (.r (.r (.k (.r (.r (.r (.k (.r (.r (.r (.r (.r .nil))))))))))))))))) (OLe.refl _)).trans (cmpS_ok (st' := ⟨[], [(0, .v (.lst false n4229 c4230)), (1, .dead), (2, .dead), (3, .dead), (4, .dead), (5, .ptr 4 0), (7, .ptr 5 0), (8, .dead), (9, .v (.int .i64 ((n4229 : Nat) : Int))), (10, .dead), (11, .dead), (17, .dead), (28, .v (.lst false n4258 c4259)), (29, .v (.int .i64 ((n4258 : Nat) : Int))), (30, .v (.int .i64 0)), (31, .dead), (53, .dead)], [(0, .p [(.lst false n4238 c4239)]), (1, .r [.fn 81 [.ptr 2 0]]), (2, .p [(.int .i64 x4222)]), (3, .p [p4223, (.lst false n4247 c4248)]), (4, .r [.fn 99 [.ptr 0 0, .ptr 1 0, .ptr 3 0, .ptr 4 0]]), (5, .p [p4232, p4233, p4234, p4235, p4236])], 6, []⟩) (by kernel_rfl))) ⟨_, _, _, _, h4338, rfl⟩ ?_
        clear h4338
        rintro n _ ⟨x4292, p4293, x4294, p4295, h4338, rfl⟩
        cases n with
        | zero => cases h4338
        | succ n =>
          rw [m99_4_L0] at h4338
          have hh := brn_some h4338; clear h4338; rcases hh with ⟨h4296, h4338⟩ | ⟨h4296, h4338⟩
          · have hh := grd_some h4338; clear h4338; obtain ⟨⟨g4297, g4298⟩, h4338⟩ := hh
            have hh := grd_some h4338; clear h4338; obtain ⟨g4299, h4338⟩ := hh
            have hh := getA2_some h4338; clear h4338; obtain ⟨p4301, p4302, h4300, h4338⟩ := hh
            injection h4300 with h4300
            have hh := bnd'_some h4338; clear h4338; obtain ⟨p4303, h4304, h4338⟩ := hh
            refine W_sound tab_ok mixed 22 _ _ _ ?_
            simp -implicitDefEqProofs only [go_sem, qa, qb, qc, qd, qe, qf, qg, qh, qi, qj, qk, ↓reduceIte, h4228, h4231, h4237, h4240, h4246, g4249, g4250, g4251, h4252, g4254, g4255, g4256, h4257, h4296, g4297, g4298, g4299, h4300]
            repeat with_reducible refine ⟨by first | kernel_rfl | decide, ?_⟩
            refine Wp_callP (c71 N _ _ _ h4304) (by kernel_rfl) rfl rfl rfl rfl (by decide) ?_
            have hh := getB_some h4338; clear h4338; obtain ⟨b4306, h4305, h4338⟩ := hh
            have hh := brn_some h4338; clear h4338; rcases hh with ⟨h4307, h4338⟩ | ⟨h4307, h4338⟩
            · refine W_sound tab_ok mixed 24 _ _ _ ?_
              simp -implicitDefEqProofs only [go_sem, qa, qb, qc, qd, qe, qf, qg, qh, qi, qj, qk, ↓reduceIte, h4228, h4231, h4237, h4240, h4246, g4249, g4250, g4251, h4252, g4254, g4255, g4256, h4257, h4296, g4297, g4298, g4299, h4300, h4305, h4307]
              repeat with_reducible refine ⟨by first | kernel_rfl | decide, ?_⟩
              exact cutQ _ ((Wk_le (.r (.r (.r (.r (.r (.r (.r (.r (.r (.k (.k (.r (.r (.r (.r (.k (.k .nil))))))))))))))))) (OLe.refl _)).trans (cmpS_ok (st' := ⟨[], [(0, .v (.lst false n4229 c4230)), (1, .dead), (2, .dead), (3, .dead), (4, .dead), (5, .ptr 4 0), (7, .ptr 5 0), (8, .dead), (9, .v (.int .i64 ((n4229 : Nat) : Int))), (10, .dead), (11, .dead), (17, .dead), (28, .v (.lst false n4258 c4259)), (29, .v (.int .i64 ((n4258 : Nat) : Int))), (30, .v (.int .i64 (IntKind.i64.wrap (x4292 + 1)))), (31, .dead), (53, .dead)], [(0, .p [p4293]), (1, .r [.fn 81 [.ptr 2 0]]), (2, .p [(.int .i64 x4294)]), (3, .p [p4223, p4295]), (4, .r [.fn 99 [.ptr 0 0, .ptr 1 0, .ptr 3 0, .ptr 4 0]]), (5, .p [p4232, p4233, p4234, p4235, p4236])], 6, []⟩) (by kernel_rfl))) ⟨n, Nat.lt_succ_self n, _, _, _, _, h4338, rfl⟩
            · have hh := grd_some h4338; clear h4338; obtain ⟨g4308, h4338⟩ := hh
              have hh := grd_some h4338; clear h4338; obtain ⟨g4309, h4338⟩ := hh
              have hh := grd_some h4338; clear h4338; obtain ⟨g4310, h4338⟩ := hh
              have hh := bnd'_some h4338; clear h4338; obtain ⟨p4311, h4312, h4338⟩ := hh
              refine W_sound tab_ok mixed 12 _ _ _ ?_
              simp -implicitDefEqProofs only [go_sem, qa, qb, qc, qd, qe, qf, qg, qh, qi, qj, qk, ↓reduceIte, h4228, h4231, h4237, h4240, h4246, g4249, g4250, g4251, h4252, g4254, g4255, g4256, h4257, h4296, g4297, g4298, g4299, h4300, h4305, h4307, g4308, g4309, g4310]
              repeat with_reducible refine ⟨by first | kernel_rfl | decide, ?_⟩
              refine Wp_callP (c98 N _ _ _ h4312) (by kernel_rfl) rfl rfl rfl rfl (by decide) ?_
              have hh := getA5_some h4338; clear h4338; obtain ⟨p4314, p4315, p4316, p4317, p4318, h4313, h4338⟩ := hh
              have hh := bnd'_some h4338; clear h4338; obtain ⟨⟨p4319, p4321, x4322, p4323⟩, h4320, h4338⟩ := hh
              (try dsimp only at h4338)
              (try simp -implicitDefEqProofs only [go_sem, qa, qb, qc, qd, qe, qf, qg, qh, qi, qj, qk, ↓reduceIte, h4228, h4231, h4237, h4240, h4246, g4249, g4250, g4251, h4252, g4254, g4255, g4256, h4257, h4296, g4297, g4298, g4299, h4300, h4305, h4307, g4308, g4309, g4310, h4313])
              refine Wp_callDF [(65, (c4230 ++ [(.int .i64 x4292)]))] [0, 1, 2, 3, 4] (ih _ _ _ _ _ _ _ _ _ _ h4320) rfl rfl rfl (by first | rfl | (simp only [go_sem, qa, qb, qc, qd, qe, qf, qg, qh, qi, qj, qk, ↓reduceIte, h4228, h4231, h4237, h4240, h4246, g4249, g4250, g4251, h4252, g4254, g4255, g4256, h4257, h4296, g4297, g4298, g4299, h4300, h4305, h4307, g4308, g4309, g4310, h4313] <;> rfl)) rfl (by kernel_rfl) rfl rfl (by simp [roF, obL]) ?_
              have hh := getB_some h4338; clear h4338; obtain ⟨b4325, h4324, h4338⟩ := hh
              have hh := brn_some h4338; clear h4338; rcases hh with ⟨h4326, h4338⟩ | ⟨h4326, h4338⟩
              · refine W_sound tab_ok mixed 10 _ _ _ ?_
                simp -implicitDefEqProofs only [go_sem, qa, qb, qc, qd, qe, qf, qg, qh, qi, qj, qk, ↓reduceIte, h4228, h4231, h4237, h4240, h4246, g4249, g4250, g4251, h4252, g4254, g4255, g4256, h4257, h4296, g4297, g4298, g4299, h4300, h4305, h4307, g4308, g4309, g4310, h4313, h4324, h4326]
                repeat with_reducible refine ⟨by first | kernel_rfl | decide, ?_⟩
                exact cutQ _ ((Wk_le (.r (.r (.r (.r (.r (.r (.r (.r (.r (.k (.k (.r (.r (.r (.r (.k (.k .nil))))))))))))))))) (OLe.refl _)).trans (cmpS_ok (st' := ⟨[], [(0, .v (.lst false n4229 c4230)), (1, .dead), (2, .dead), (3, .dead), (4, .dead), (5, .ptr 4 0), (7, .ptr 5 0), (8, .dead), (9, .v (.int .i64 ((n4229 : Nat) : Int))), (10, .dead), (11, .dead), (17, .dead), (28, .v (.lst false n4258 c4259)), (29, .v (.int .i64 ((n4258 : Nat) : Int))), (30, .v (.int .i64 (IntKind.i64.wrap (x4292 + 1)))), (31, .dead), (53, .dead)], [(0, .p [p4321]), (1, .r [.fn 81 [.ptr 2 0]]), (2, .p [(.int .i64 x4322)]), (3, .p [p4223, p4323]), (4, .r [.fn 99 [.ptr 0 0, .ptr 1 0, .ptr 3 0, .ptr 4 0]]), (5, .p [p4232, p4233, p4234, p4235, p4236])], 6, []⟩) (by kernel_rfl))) ⟨n, Nat.lt_succ_self n, _, _, _, _, h4338, rfl⟩
              · refine W_sound tab_ok mixed 10 _ _ _ ?_
                simp -implicitDefEqProofs only [go_sem, qa, qb, qc, qd, qe, qf, qg, qh, qi, qj, qk, ↓reduceIte, h4228, h4231, h4237, h4240, h4246, g4249, g4250, g4251, h4252, g4254, g4255, g4256, h4257, h4296, g4297, g4298, g4299, h4300, h4305, h4307, g4308, g4309, g4310, h4313, h4324, h4326]
                repeat with_reducible refine ⟨by first | kernel_rfl | decide, ?_⟩
                obtain rfl := Option.some.inj h4338
                (try dsimp only at h4339)
                simp only [Option.some.injEq, Prod.mk.injEq] at h4339; obtain ⟨rfl, rfl, rfl, rfl⟩ := h4339
                exact finD (e2 := [(0, .dead), (1, .dead), (2, .dead), (3, .dead), (4, .dead), (5, .dead), (7, .dead), (8, .v (.bool false)), (9, .dead), (10, .dead), (11, .dead), (17, .dead), (28, .dead), (29, .dead), (30, .dead), (31, .dead), (53, .dead)]) (ob2 := [(5, .p [p4232, p4233, p4234, p4235, p4236]), (17, .p [p4301, p4302]), (64, .p [(.int .i64 x4292)]), (4, .r [.fn 99 [.ptr 0 0, .ptr 1 0, .ptr 3 0, .ptr 4 0]]), (3, .p [p4223, p4323]), (2, .p [(.int .i64 x4322)]), (1, .r [.fn 81 [.ptr 2 0]]), (0, .p [p4321])]) (st' := ⟨[], [(0, .dead), (1, .dead), (2, .dead), (3, .dead), (4, .dead), (5, .dead), (7, .dead), (8, .v (.bool false)), (9, .dead), (10, .dead), (11, .dead), (17, .dead), (28, .dead), (29, .dead), (30, .dead), (31, .dead), (53, .dead)], [(0, .p [p4321]), (1, .r [.fn 81 [.ptr 2 0]]), (2, .p [(.int .i64 x4322)]), (3, .p [p4223, p4323]), (4, .r [.fn 99 [.ptr 0 0, .ptr 1 0, .ptr 3 0, .ptr 4 0]])], 5, []⟩) (.k (.r (.r (.r (.r (.k (.k (.r (.k (.k (.k (.r (.k (.k (.k (.k (.k .nil))))))))))))))))) (.cons _ _ _ _ _ (DLes.refl _) (.cons _ _ _ _ _ (DLes.refl _) (.cons _ _ _ _ _ (DLes.refl _) (.cons _ _ _ _ _ (DLes.refl _) (.cons _ _ _ _ _ (DLes.refl _) (.cons _ _ _ _ _ (DLes.refl _) (.cons _ _ _ _ _ (DLes.refl _) (.cons _ _ _ _ _ (DLes.refl _) .nil)))))))) (by kernel_rfl) (by simp only [go_sem, qa, qb, qc, qd, qe, qf, qg, qh, qi, qj, qk, ↓reduceIte, resQ_tmp, resQ_cell, resQ_nil, retD_one, retD_two, retD_three, retD_none]; try simp [R.val, retD_one, retD_two, retD_three, retD_none])
          · refine W_sound tab_ok mixed 7 _ _ _ ?_
            simp -implicitDefEqProofs only [go_sem, qa, qb, qc, qd, qe, qf, qg, qh, qi, qj, qk, ↓reduceIte, h4228, h4231, h4237, h4240, h4246, g4249, g4250, g4251, h4252, g4254, g4255, g4256, h4257, h4296]
            repeat with_reducible refine ⟨by first | kernel_rfl | decide, ?_⟩
            obtain rfl := Option.some.inj h4338
            exact cutQ _ ((Wk_le (.k (.r (.r (.r (.r (.k (.k (.r (.k (.r (.r (.r (.k (.k (.k (.k (.r .nil))))))))))))))))) (OLe.refl _)).trans (cmpS_ok (st' := ⟨[], [(0, .dead), (1, .dead), (2, .dead), (3, .dead), (4, .dead), (5, .dead), (7, .dead), (8, .dead), (9, .dead), (10, .dead), (11, .dead), (17, .dead), (28, .dead), (29, .dead), (30, .dead), (31, .dead), (53, .dead)], [(0, .p [p4293]), (1, .r [.fn 81 [.ptr 2 0]]), (2, .p [(.int .i64 x4294)]), (3, .p [p4223, p4295]), (4, .r [.fn 99 [.ptr 0 0, .ptr 1 0, .ptr 3 0, .ptr 4 0]])], 5, []⟩) (by kernel_rfl))) ⟨_, _, _, rfl, rfl⟩
      · rintro _ ⟨p4328, x4329, p4330, rfl, rfl⟩
        (try dsimp only at h4339)
        refine W_sound tab_ok mixed 6 _ _ _ ?_
        simp -implicitDefEqProofs only [go_sem, qa, qb, qc, qd, qe, qf, qg, qh, qi, qj, qk, ↓reduceIte, h4228, h4231, h4237, h4240, h4246, g4249, g4250, g4251, h4252, g4254, g4255, g4256, h4257]
        repeat with_reducible refine ⟨by first | kernel_rfl | decide, ?_⟩
        simp only [Option.some.injEq, Prod.mk.injEq] at h4339; obtain ⟨rfl, rfl, rfl, rfl⟩ := h4339
        exact finD (e2 := [(0, .dead), (1, .dead), (2, .dead), (3, .dead), (4, .dead), (5, .dead), (7, .dead), (8, .v (.bool true)), (9, .dead), (10, .dead), (11, .dead), (17, .dead), (28, .dead), (29, .dead), (30, .dead), (31, .dead), (53, .dead)]) (ob2 := [(0, .p [p4328]), (1, .r [.fn 81 [.ptr 2 0]]), (2, .p [(.int .i64 x4329)]), (3, .p [p4223, p4330]), (4, .r [.fn 99 [.ptr 0 0, .ptr 1 0, .ptr 3 0, .ptr 4 0]])]) (st' := ⟨[], [(0, .dead), (1, .dead), (2, .dead), (3, .dead), (4, .dead), (5, .dead), (7, .dead), (8, .v (.bool true)), (9, .dead), (10, .dead), (11, .dead), (17, .dead), (28, .dead), (29, .dead), (30, .dead), (31, .dead), (53, .dead)], [(0, .p [p4328]), (1, .r [.fn 81 [.ptr 2 0]]), (2, .p [(.int .i64 x4329)]), (3, .p [p4223, p4330]), (4, .r [.fn 99 [.ptr 0 0, .ptr 1 0, .ptr 3 0, .ptr 4 0]])], 5, []⟩) (.r (.r (.r (.r (.r (.r (.r (.r (.r (.r (.r (.r (.r (.r (.r (.r (.r .nil))))))))))))))))) (.cons _ _ _ _ _ (DLes.refl _) (.cons _ _ _ _ _ (DLes.refl _) (.cons _ _ _ _ _ (DLes.refl _) (.cons _ _ _ _ _ (DLes.refl _) (.cons _ _ _ _ _ (DLes.refl _) .nil))))) (by kernel_rfl) (by simp only [go_sem, qa, qb, qc, qd, qe, qf, qg, qh, qi, qj, qk, ↓reduceIte, resQ_tmp, resQ_cell, resQ_nil, retD_one, retD_two, retD_three, retD_none]; try simp [R.val, retD_one, retD_two, retD_three, retD_none])
def m99_3_L0 (N : Nat) (p4390 : PV) (p4396 : PV) (p4397 : PV) (p4398 : PV) (p4399 : PV) (p4400 : PV) (n4421 : Nat) (c4422 : List PV) : Nat → Int → PV → Int → PV → Option (((PV × PV × Int × PV) ⊕ (PV × Int × PV)))
  | 0, _, _, _, _ => none
  | n + 1, x4452, p4453, x4454, p4455 =>
    brn (decide (x4452 < ((n4421 : Nat) : Int))) (
      grd (0 ≤ x4452 ∧ x4452 < ((n4421 : Nat) : Int)) <|
      grd (2 ≤ List.length (List.drop ((Int.toNat x4452) * 2) c4422)) <|
      getA2 (.agg (List.take 2 (List.drop ((Int.toNat x4452) * 2) c4422))) fun p4461 p4462 =>
      bnd' (m71 N (.agg [p4396, p4397, p4398, p4399, p4400]) (.agg [p4461, p4462])) fun p4463 =>
      getB p4463 fun b4466 =>
      brn b4466 (
        m99_3_L0 N p4390 p4396 p4397 p4398 p4399 p4400 n4421 c4422 n (IntKind.i64.wrap (x4452 + 1)) p4453 x4454 p4455) (
        bnd' (m98 N (.agg [p4396, p4397, p4398, p4399, p4400]) (.agg [p4461, p4462])) fun p4468 =>
        getA5 p4468 fun p4471 p4472 p4473 p4474 p4475 =>
        bnd' (m99_4 N N (.lst false 1 [(.int .i64 x4452)]) (.agg [p4471, p4472, p4473, p4474, p4475]) p4453 x4454 p4390 p4455) fun (p4476, p4478, x4479, p4480) =>
        getB p4476 fun b4482 =>
        brn b4482 (
          m99_3_L0 N p4390 p4396 p4397 p4398 p4399 p4400 n4421 c4422 n (IntKind.i64.wrap (x4452 + 1)) p4478 x4479 p4480) (
          some (.inl ((.bool false), p4478, x4479, p4480))))) (
      some (.inr (p4453, x4454, p4455)))
def m99_3 (N : Nat) (p4387 : PV) (p4388 : PV) (x4389 : Int) (p4390 : PV) (p4391 : PV) : Option ((PV × PV × Int × PV)) :=
  getA5 p4387 fun p4396 p4397 p4398 p4399 p4400 =>
  getL p4388 fun n4402 c4403 =>
  brn (0 == ((n4402 : Nat) : Int)) (
    bnd' (m81 N x4389) fun (p4405, x4407) =>
    getB p4405 fun b4409 =>
    some ((.bool b4409), (.lst false n4402 c4403), x4407, p4391)) (
    getL p4391 fun n4411 c4412 =>
    grd (0 < ((n4402 : Nat) : Int)) <|
    grd (0 < List.length c4403) <|
    getI .i64 (gp c4403 0) fun x4416 =>
    grd (0 ≤ x4416 ∧ x4416 < ((n4411 : Nat) : Int)) <|
    grd (0 < List.length (List.drop (Int.toNat x4416) c4412)) <|
    getL (gp c4412 (Int.toNat x4416)) fun n4421 c4422 =>
    bnd' (m99_3_L0 N p4390 p4396 p4397 p4398 p4399 p4400 n4421 c4422 N 0 (.lst false n4402 c4403) x4389 (.lst false n4411 c4412)) fun o =>
    match o with
    | .inl p4484 =>
      some p4484
    | .inr (p4485, x4486, p4487) =>
      some ((.bool true), p4485, x4486, p4487))
theorem c99_3 (N : Nat) (p4387 : PV) (p4388 : PV) (x4389 : Int) (p4390 : PV) (p4391 : PV) (r : PV) (p4491 : PV) (x4492 : Int) (p4493 : PV) (h : m99_3 N p4387 p4388 x4389 p4390 p4391 = some (r, p4491, x4492, p4493)) : V.Fn Tryd.prog 99 5 [.v .nl, .v p4387, .ptr 0 0, .ptr 1 0, .ptr 3 0, .ptr 4 0] [(0, .p [p4388]), (1, .r [.fn 81 [.ptr 2 0]]), (2, .p [(.int .i64 x4389)]), (3, .p [p4390, p4391]), (4, .r [.fn 99 [.ptr 0 0, .ptr 1 0, .ptr 3 0, .ptr 4 0]])] (fun d ob' => d = .v r ∧ ob' = [(0, .p [p4491]), (1, .r [.fn 81 [.ptr 2 0]]), (2, .p [(.int .i64 x4492)]), (3, .p [p4390, p4493]), (4, .r [.fn 99 [.ptr 0 0, .ptr 1 0, .ptr 3 0, .ptr 4 0]])]) := by
  unfold m99_3 at h
  refine Fn_of (sz := 55) tab_ok [0, 1, 2, 3, 4, 5, 7, 8, 9, 10, 11, 17, 28, 29, 30, 31, 53] [.tmp 8] Tryd.func99 rfl rfl rfl (by simp) ?_
  simp only [initSt, initEnv, List.map_cons, List.map_nil, List.getD_cons_zero, List.getD_cons_succ, List.getD_nil]
  have hh := getA5_some h; clear h; obtain ⟨p4396, p4397, p4398, p4399, p4400, h4395, h⟩ := hh
  have hh := getL_some h; clear h; obtain ⟨n4402, c4403, h4401, h⟩ := hh
  have hh := brn_some h; clear h; rcases hh with ⟨h4404, h⟩ | ⟨h4404, h⟩
  · have hh := bnd'_some h; clear h; obtain ⟨⟨p4405, x4407⟩, h4406, h⟩ := hh
    (try dsimp only at h)
    refine W_sound tab_ok mixed 24 _ _ _ ?_
    simp -implicitDefEqProofs only [go_sem, qa, qb, qc, qd, qe, qf, qg, qh, qi, qj, qk, ↓reduceIte, h4395, h4401, h4404]
    repeat with_reducible refine ⟨by first | kernel_rfl | decide, ?_⟩
    refine Wp_callD [2] (c81 N _ _ _ h4406) rfl rfl rfl (by first | rfl | (simp only [go_sem, qa, qb, qc, qd, qe, qf, qg, qh, qi, qj, qk, ↓reduceIte, h4395, h4401, h4404] <;> rfl)) rfl (by kernel_rfl) ?_
    have hh := getB_some h; clear h; obtain ⟨b4409, h4408, h⟩ := hh
    refine W_sound tab_ok mixed 4 _ _ _ ?_
    simp -implicitDefEqProofs only [go_sem, qa, qb, qc, qd, qe, qf, qg, qh, qi, qj, qk, ↓reduceIte, h4395, h4401, h4404, h4408]
    repeat with_reducible refine ⟨by first | kernel_rfl | decide, ?_⟩
    simp only [Option.some.injEq, Prod.mk.injEq] at h; obtain ⟨rfl, rfl, rfl, rfl⟩ := h
    exact finD (e2 := [(0, .dead), (1, .dead), (2, .dead), (3, .dead), (4, .dead), (5, .dead), (7, .dead), (8, .v (.bool b4409)), (9, .dead), (10, .dead), (11, .dead), (17, .dead), (28, .dead), (29, .dead), (30, .dead), (31, .dead), (53, .dead)]) (ob2 := [(0, .p [(.lst false n4402 c4403)]), (1, .r [.fn 81 [.ptr 2 0]]), (3, .p [p4390, p4391]), (4, .r [.fn 99 [.ptr 0 0, .ptr 1 0, .ptr 3 0, .ptr 4 0]]), (12, .p [p4396, p4397, p4398, p4399, p4400]), (2, .p [(.int .i64 x4407)])]) (st' := ⟨[], [(0, .dead), (1, .dead), (2, .dead), (3, .dead), (4, .dead), (5, .dead), (7, .dead), (8, .v (.bool b4409)), (9, .dead), (10, .dead), (11, .dead), (17, .dead), (28, .dead), (29, .dead), (30, .dead), (31, .dead), (53, .dead)], [(0, .p [(.lst false n4402 c4403)]), (1, .r [.fn 81 [.ptr 2 0]]), (2, .p [(.int .i64 x4407)]), (3, .p [p4390, p4391]), (4, .r [.fn 99 [.ptr 0 0, .ptr 1 0, .ptr 3 0, .ptr 4 0]])], 5, []⟩) (.k (.k (.k (.k (.k (.k (.k (.r (.k (.r (.r (.k (.r (.r (.r (.r (.r .nil))))))))))))))))) (.cons _ _ _ _ _ (DLes.refl _) (.cons _ _ _ _ _ (DLes.refl _) (.cons _ _ _ _ _ (DLes.refl _) (.cons _ _ _ _ _ (DLes.refl _) (.cons _ _ _ _ _ (DLes.refl _) (.cons _ _ _ _ _ (DLes.refl _) .nil)))))) (by kernel_rfl) (by simp only [go_sem, qa, qb, qc, qd, qe, qf, qg, qh, qi, qj, qk, ↓reduceIte, resQ_tmp, resQ_cell, resQ_nil, retD_one, retD_two, retD_three, retD_none]; try simp [R.val, retD_one, retD_two, retD_three, retD_none])
  · have hh := getL_some h; clear h; obtain ⟨n4411, c4412, h4410, h⟩ := hh
    have hh := grd_some h; clear h; obtain ⟨g4413, h⟩ := hh
    have hh := grd_some h; clear h; obtain ⟨g4414, h⟩ := hh
    have hh := getI_some h; clear h; obtain ⟨x4416, h4415, h⟩ := hh
    have hh := grd_some h; clear h; obtain ⟨⟨g4417, g4418⟩, h⟩ := hh
    have hh := grd_some h; clear h; obtain ⟨g4419, h⟩ := hh
    have hh := getL_some h; clear h; obtain ⟨n4421, c4422, h4420, h⟩ := hh
    refine W_sound tab_ok mixed 35 _ _ _ ?_
    simp -implicitDefEqProofs only [go_sem, qa, qb, qc, qd, qe, qf, qg, qh, qi, qj, qk, ↓reduceIte, h4395, h4401, h4404, h4410, g4413, g4414, h4415, g4417, g4418, g4419, h4420]
    repeat with_reducible refine ⟨by first | kernel_rfl | decide, ?_⟩
    have hh := bnd'_some h; clear h; obtain ⟨o4494, h4495, h4496⟩ := hh
    refine Wp_cut (fun s => ∃ p4485, ∃ x4486, ∃ p4487, (.inr (p4485, x4486, p4487)) = o4494 ∧ s = ⟨[], [(0, .dead), (1, .dead), (2, .dead), (3, .dead), (4, .dead), (5, .dead), (7, .dead), (8, .dead), (9, .dead), (10, .dead), (11, .dead), (17, .dead), (28, .dead), (29, .dead), (30, .dead), (31, .dead), (53, .dead)], [(0, .p [p4485]), (1, .r [.fn 81 [.ptr 2 0]]), (2, .p [(.int .i64 x4486)]), (3, .p [p4390, p4487]), (4, .r [.fn 99 [.ptr 0 0, .ptr 1 0, .ptr 3 0, .ptr 4 0]])], 5, []⟩) ?_ ?_
    · refine Wp_block ?_
      refine Wp_loopG (fun n s => ∃ x4452, ∃ p4453, ∃ x4454, ∃ p4455, m99_3_L0 N p4390 p4396 p4397 p4398 p4399 p4400 n4421 c4422 n x4452 p4453 x4454 p4455 = some o4494 ∧ s = ⟨[], [(0, .v .nl), (1, .dead), (2, .dead), (3, .dead), (4, .dead), (5, .ptr 4 0), (7, .ptr 5 0), (8, .dead), (9, .v (.int .i64 0)), (10, .dead), (11, .dead), (17, .dead), (28, .v (.lst false n4421 c4422)), (29, .v (.int .i64 ((n4421 : Nat) : Int))), (30, .v (.int .i64 x4452)), (31, .dead), (53, .dead)], [(0, .p [p4453]), (1, .r [.fn 81 [.ptr 2 0]]), (2, .p [(.int .i64 x4454)]), (3, .p [p4390, p4455]), (4, .r [.fn 99 [.ptr 0 0, .ptr 1 0, .ptr 3 0, .ptr 4 0]]), (5, .p [p4396, p4397, p4398, p4399, p4400])], 6, []⟩) N _ ((Wk_le (.r (.k (.k (.k (.k (.r (.r (.k (.r (.r (.r (.k (.r (.r (.r (.r (.r .nil))))))))))))))))) (OLe.refl _)).trans (cmpS_ok (st' := ⟨[], [(0, .v .nl), (1, .dead), (2, .dead), (3, .dead), (4, .dead), (5, .ptr 4 0), (7, .ptr 5 0), (8, .dead), (9, .v (.int .i64 0)), (10, .dead), (11, .dead), (17, .dead), (28, .v (.lst false n4421 c4422)), (29, .v (.int .i64 ((n4421 : Nat) : Int))), (30, .v (.int .i64 0)), (31, .dead), (53, .dead)], [(0, .p [(.lst false n4402 c4403)]), (1, .r [.fn 81 [.ptr 2 0]]), (2, .p [(.int .i64 x4389)]), (3, .p [p4390, (.lst false n4411 c4412)]), (4, .r [.fn 99 [.ptr 0 0, .ptr 1 0, .ptr 3 0, .ptr 4 0]]), (5, .p [p4396, p4397, p4398, p4399, p4400])], 6, []⟩) (by kernel_rfl))) ⟨_, _, _, _, h4495, rfl⟩ ?_
      clear h4495
      rintro n _ ⟨x4452, p4453, x4454, p4455, h4495, rfl⟩
      cases n with
      | zero => cases h4495
      | succ n =>
        rw [m99_3_L0] at h4495
        have hh := brn_some h4495; clear h4495; rcases hh with ⟨h4456, h4495⟩ | ⟨h4456, h4495⟩
        · have hh := grd_some h4495; clear h4495; obtain ⟨⟨g4457, g4458⟩, h4495⟩ := hh
          have hh := grd_some h4495; clear h4495; obtain ⟨g4459, h4495⟩ := hh
          have hh := getA2_some h4495; clear h4495; obtain ⟨p4461, p4462, h4460, h4495⟩ := hh
          injection h4460 with h4460
          have hh := bnd'_some h4495; clear h4495; obtain ⟨p4463, h4464, h4495⟩ := hh
          refine W_sound tab_ok mixed 22 _ _ _ ?_
          simp -implicitDefEqProofs only [go_sem, qa, qb, qc, qd, qe, qf, qg, qh, qi, qj, qk, ↓reduceIte, h4395, h4401, h4404, h4410, g4413, g4414, h4415, g4417, g4418, g4419, h4420, h4456, g4457, g4458, g4459, h4460]
          repeat with_reducible refine ⟨by first | kernel_rfl | decide, ?_⟩
          refine Wp_callP (c71 N _ _ _ h4464) (by kernel_rfl) rfl rfl rfl rfl (by decide) ?_
          have hh := getB_some h4495; clear h4495; obtain ⟨b4466, h4465, h4495⟩ := hh
          have hh := brn_some h4495; clear h4495; rcases hh with ⟨h4467, h4495⟩ | ⟨h4467, h4495⟩
          · refine W_sound tab_ok mixed 24 _ _ _ ?_
            simp -implicitDefEqProofs only [go_sem, qa, qb, qc, qd, qe, qf, qg, qh, qi, qj, qk, ↓reduceIte, h4395, h4401, h4404, h4410, g4413, g4414, h4415, g4417, g4418, g4419, h4420, h4456, g4457, g4458, g4459, h4460, h4465, h4467]
            repeat with_reducible refine ⟨by first | kernel_rfl | decide, ?_⟩
            exact cutQ _ ((Wk_le (.r (.r (.r (.r (.r (.r (.r (.r (.r (.k (.k (.r (.r (.r (.r (.k (.k .nil))))))))))))))))) (OLe.refl _)).trans (cmpS_ok (st' := ⟨[], [(0, .v .nl), (1, .dead), (2, .dead), (3, .dead), (4, .dead), (5, .ptr 4 0), (7, .ptr 5 0), (8, .dead), (9, .v (.int .i64 0)), (10, .dead), (11, .dead), (17, .dead), (28, .v (.lst false n4421 c4422)), (29, .v (.int .i64 ((n4421 : Nat) : Int))), (30, .v (.int .i64 (IntKind.i64.wrap (x4452 + 1)))), (31, .dead), (53, .dead)], [(0, .p [p4453]), (1, .r [.fn 81 [.ptr 2 0]]), (2, .p [(.int .i64 x4454)]), (3, .p [p4390, p4455]), (4, .r [.fn 99 [.ptr 0 0, .ptr 1 0, .ptr 3 0, .ptr 4 0]]), (5, .p [p4396, p4397, p4398, p4399, p4400])], 6, []⟩) (by kernel_rfl))) ⟨n, Nat.lt_succ_self n, _, _, _, _, h4495, rfl⟩
          · have hh := bnd'_some h4495; clear h4495; obtain ⟨p4468, h4469, h4495⟩ := hh
            refine W_sound tab_ok mixed 12 _ _ _ ?_
            simp -implicitDefEqProofs only [go_sem, qa, qb, qc, qd, qe, qf, qg, qh, qi, qj, qk, ↓reduceIte, h4395, h4401, h4404, h4410, g4413, g4414, h4415, g4417, g4418, g4419, h4420, h4456, g4457, g4458, g4459, h4460, h4465, h4467]
            repeat with_reducible refine ⟨by first | kernel_rfl | decide, ?_⟩
            refine Wp_callP (c98 N _ _ _ h4469) (by kernel_rfl) rfl rfl rfl rfl (by decide) ?_
            have hh := getA5_some h4495; clear h4495; obtain ⟨p4471, p4472, p4473, p4474, p4475, h4470, h4495⟩ := hh
            have hh := bnd'_some h4495; clear h4495; obtain ⟨⟨p4476, p4478, x4479, p4480⟩, h4477, h4495⟩ := hh
            (try dsimp only at h4495)
            (try simp -implicitDefEqProofs only [go_sem, qa, qb, qc, qd, qe, qf, qg, qh, qi, qj, qk, ↓reduceIte, h4395, h4401, h4404, h4410, g4413, g4414, h4415, g4417, g4418, g4419, h4420, h4456, g4457, g4458, g4459, h4460, h4465, h4467, h4470])
            refine Wp_callDF [(65, [(.int .i64 x4452)])] [0, 1, 2, 3, 4] (c99_4 N N _ _ _ _ _ _ _ _ _ _ h4477) rfl rfl rfl (by first | rfl | (simp only [go_sem, qa, qb, qc, qd, qe, qf, qg, qh, qi, qj, qk, ↓reduceIte, h4395, h4401, h4404, h4410, g4413, g4414, h4415, g4417, g4418, g4419, h4420, h4456, g4457, g4458, g4459, h4460, h4465, h4467, h4470] <;> rfl)) rfl (by kernel_rfl) rfl rfl (by simp [roF, obL]) ?_
            have hh := getB_some h4495; clear h4495; obtain ⟨b4482, h4481, h4495⟩ := hh
            have hh := brn_some h4495; clear h4495; rcases hh with ⟨h4483, h4495⟩ | ⟨h4483, h4495⟩
            · refine W_sound tab_ok mixed 10 _ _ _ ?_
              simp -implicitDefEqProofs only [go_sem, qa, qb, qc, qd, qe, qf, qg, qh, qi, qj, qk, ↓reduceIte, h4395, h4401, h4404, h4410, g4413, g4414, h4415, g4417, g4418, g4419, h4420, h4456, g4457, g4458, g4459, h4460, h4465, h4467, h4470, h4481, h4483]
              repeat with_reducible refine ⟨by first | kernel_rfl | decide, ?_⟩
              exact cutQ _ ((Wk_le (.r (.r (.r (.r (.r (.r (.r (.r (.r (.k (.k (.r (.r (.r (.r (.k (.k .nil))))))))))))))))) (OLe.refl _)).trans (cmpS_ok (st' := ⟨[], [(0, .v .nl), (1, .dead), (2, .dead), (3, .dead), (4, .dead), (5, .ptr 4 0), (7, .ptr 5 0), (8, .dead), (9, .v (.int .i64 0)), (10, .dead), (11, .dead), (17, .dead), (28, .v (.lst false n4421 c4422)), (29, .v (.int .i64 ((n4421 : Nat) : Int))), (30, .v (.int .i64 (IntKind.i64.wrap (x4452 + 1)))), (31, .dead), (53, .dead)], [(0, .p [p4478]), (1, .r [.fn 81 [.ptr 2 0]]), (2, .p [(.int .i64 x4479)]), (3, .p [p4390, p4480]), (4, .r [.fn 99 [.ptr 0 0, .ptr 1 0, .ptr 3 0, .ptr 4 0]]), (5, .p [p4396, p4397, p4398, p4399, p4400])], 6, []⟩) (by kernel_rfl))) ⟨n, Nat.lt_succ_self n, _, _, _, _, h4495, rfl⟩
            · refine W_sound tab_ok mixed 10 _ _ _ ?_
              simp -implicitDefEqProofs only [go_sem, qa, qb, qc, qd, qe, qf, qg, qh, qi, qj, qk, ↓reduceIte, h4395, h4401, h4404, h4410, g4413, g4414, h4415, g4417, g4418, g4419, h4420, h4456, g4457, g4458, g4459, h4460, h4465, h4467, h4470, h4481, h4483]
              repeat with_reducible refine ⟨by first | kernel_rfl | decide, ?_⟩
              obtain rfl := Option.some.inj h4495
              (try dsimp only at h4496)
              simp only [Option.some.injEq, Prod.mk.injEq] at h4496; obtain ⟨rfl, rfl, rfl, rfl⟩ := h4496
              exact finD (e2 := [(0, .dead), (1, .dead), (2, .dead), (3, .dead), (4, .dead), (5, .dead), (7, .dead), (8, .v (.bool false)), (9, .dead), (10, .dead), (11, .dead), (17, .dead), (28, .dead), (29, .dead), (30, .dead), (31, .dead), (53, .dead)]) (ob2 := [(5, .p [p4396, p4397, p4398, p4399, p4400]), (17, .p [p4461, p4462]), (64, .p [(.int .i64 x4452)]), (4, .r [.fn 99 [.ptr 0 0, .ptr 1 0, .ptr 3 0, .ptr 4 0]]), (3, .p [p4390, p4480]), (2, .p [(.int .i64 x4479)]), (1, .r [.fn 81 [.ptr 2 0]]), (0, .p [p4478])]) (st' := ⟨[], [(0, .dead), (1, .dead), (2, .dead), (3, .dead), (4, .dead), (5, .dead), (7, .dead), (8, .v (.bool false)), (9, .dead), (10, .dead), (11, .dead), (17, .dead), (28, .dead), (29, .dead), (30, .dead), (31, .dead), (53, .dead)], [(0, .p [p4478]), (1, .r [.fn 81 [.ptr 2 0]]), (2, .p [(.int .i64 x4479)]), (3, .p [p4390, p4480]), (4, .r [.fn 99 [.ptr 0 0, .ptr 1 0, .ptr 3 0, .ptr 4 0]])], 5, []⟩) (.k (.r (.r (.r (.r (.k (.k (.r (.k (.k (.k (.r (.k (.k (.k (.k (.k .nil))))))))))))))))) (.cons _ _ _ _ _ (DLes.refl _) (.cons _ _ _ _ _ (DLes.refl _) (.cons _ _ _ _ _ (DLes.refl _) (.cons _ _ _ _ _ (DLes.refl _) (.cons _ _ _ _ _ (DLes.refl _) (.cons _ _ _ _ _ (DLes.refl _) (.cons _ _ _ _ _ (DLes.refl _) (.cons _ _ _ _ _ (DLes.refl _) .nil)))))))) (by kernel_rfl) (by simp only [go_sem, qa, qb, qc, qd, qe, qf, qg, qh, qi, qj, qk, ↓reduceIte, resQ_tmp, resQ_cell, resQ_nil, retD_one, retD_two, retD_three, retD_none]; try simp [R.val, retD_one, retD_two, retD_three, retD_none])
        · refine W_sound tab_ok mixed 7 _ _ _ ?_
          simp -implicitDefEqProofs only [go_sem, qa, qb, qc, qd, qe, qf, qg, qh, qi, qj, qk, ↓reduceIte, h4395, h4401, h4404, h4410, g4413, g4414, h4415, g4417, g4418, g4419, h4420, h4456]
          repeat with_reducible refine ⟨by first | kernel_rfl | decide, ?_⟩
          obtain rfl := Option.some.inj h4495
          exact cutQ _ ((Wk_le (.k (.r (.r (.r (.r (.k (.k (.r (.k (.r (.r (.r (.k (.k (.k (.k (.r .nil))))))))))))))))) (OLe.refl _)).trans (cmpS_ok (st' := ⟨[], [(0, .dead), (1, .dead), (2, .dead), (3, .dead), (4, .dead), (5, .dead), (7, .dead), (8, .dead), (9, .dead), (10, .dead), (11, .dead), (17, .dead), (28, .dead), (29, .dead), (30, .dead), (31, .dead), (53, .dead)], [(0, .p [p4453]), (1, .r [.fn 81 [.ptr 2 0]]), (2, .p [(.int .i64 x4454)]), (3, .p [p4390, p4455]), (4, .r [.fn 99 [.ptr 0 0, .ptr 1 0, .ptr 3 0, .ptr 4 0]])], 5, []⟩) (by kernel_rfl))) ⟨_, _, _, rfl, rfl⟩
    · rintro _ ⟨p4485, x4486, p4487, rfl, rfl⟩
      (try dsimp only at h4496)
      refine W_sound tab_ok mixed 6 _ _ _ ?_
      simp -implicitDefEqProofs only [go_sem, qa, qb, qc, qd, qe, qf, qg, qh, qi, qj, qk, ↓reduceIte, h4395, h4401, h4404, h4410, g4413, g4414, h4415, g4417, g4418, g4419, h4420]
      repeat with_reducible refine ⟨by first | kernel_rfl | decide, ?_⟩
      simp only [Option.some.injEq, Prod.mk.injEq] at h4496; obtain ⟨rfl, rfl, rfl, rfl⟩ := h4496
      exact finD (e2 := [(0, .dead), (1, .dead), (2, .dead), (3, .dead), (4, .dead), (5, .dead), (7, .dead), (8, .v (.bool true)), (9, .dead), (10, .dead), (11, .dead), (17, .dead), (28, .dead), (29, .dead), (30, .dead), (31, .dead), (53, .dead)]) (ob2 := [(0, .p [p4485]), (1, .r [.fn 81 [.ptr 2 0]]), (2, .p [(.int .i64 x4486)]), (3, .p [p4390, p4487]), (4, .r [.fn 99 [.ptr 0 0, .ptr 1 0, .ptr 3 0, .ptr 4 0]])]) (st' := ⟨[], [(0, .dead), (1, .dead), (2, .dead), (3, .dead), (4, .dead), (5, .dead), (7, .dead), (8, .v (.bool true)), (9, .dead), (10, .dead), (11, .dead), (17, .dead), (28, .dead), (29, .dead), (30, .dead), (31, .dead), (53, .dead)], [(0, .p [p4485]), (1, .r [.fn 81 [.ptr 2 0]]), (2, .p [(.int .i64 x4486)]), (3, .p [p4390, p4487]), (4, .r [.fn 99 [.ptr 0 0, .ptr 1 0, .ptr 3 0, .ptr 4 0]])], 5, []⟩) (.r (.r (.r (.r (.r (.r (.r (.r (.r (.r (.r (.r (.r (.r (.r (.r (.r .nil))))))))))))))))) (.cons _ _ _ _ _ (DLes.refl _) (.cons _ _ _ _ _ (DLes.refl _) (.cons _ _ _ _ _ (DLes.refl _) (.cons _ _ _ _ _ (DLes.refl _) (.cons _ _ _ _ _ (DLes.refl _) .nil))))) (by kernel_rfl) (by simp only [go_sem, qa, qb, qc, qd, qe, qf, qg, qh, qi, qj, qk, ↓reduceIte, resQ_tmp, resQ_cell, resQ_nil, retD_one, retD_two, retD_three, retD_none]; try simp [R.val, retD_one, retD_two, retD_three, retD_none])
def m76_2 (N : Nat) (p4505 : PV) (p4506 : PV) (x4507 : Int) : Option ((PV × Int)) :=
  getA2 p4505 fun p4510 p4511 =>
  getL p4506 fun n4513 c4514 =>
  bnd' (m97 N ) fun p4515 =>
  getA5 p4515 fun p4518 p4519 p4520 p4521 p4522 =>
  bnd' (m99_3 N (.agg [p4518, p4519, p4520, p4521, p4522]) (.lst false n4513 c4514) x4507 p4510 p4511) fun (p4523, p4525, x4526, p4527) =>
  getB p4523 fun b4529 =>
  some ((.tup []), x4526)
theorem c76_2 (N : Nat) (p4505 : PV) (p4506 : PV) (x4507 : Int) (r : PV) (x4531 : Int) (h : m76_2 N p4505 p4506 x4507 = some (r, x4531)) : V.Fn Tryd.prog 76 1 [.v p4505, .v p4506, .fn 81 [.ptr 0 0]] [(0, .p [(.int .i64 x4507)])] (fun d ob' => d = .v r ∧ ob' = [(0, .p [(.int .i64 x4531)])]) := by
  unfold m76_2 at h
  refine Fn_of (sz := 11) tab_ok [0, 1, 2, 3, 4, 5, 6] [] Tryd.func76 rfl rfl rfl (by simp) ?_
  simp only [initSt, initEnv, List.map_cons, List.map_nil, List.getD_cons_zero, List.getD_cons_succ, List.getD_nil]
  have hh := getA2_some h; clear h; obtain ⟨p4510, p4511, h4509, h⟩ := hh
  have hh := getL_some h; clear h; obtain ⟨n4513, c4514, h4512, h⟩ := hh
  have hh := bnd'_some h; clear h; obtain ⟨p4515, h4516, h⟩ := hh
  refine W_sound tab_ok mixed 17 _ _ _ ?_
  simp -implicitDefEqProofs only [go_sem, qa, qb, qc, qd, qe, qf, qg, qh, qi, qj, qk, ↓reduceIte, h4509, h4512]
  repeat with_reducible refine ⟨by first | kernel_rfl | decide, ?_⟩
  refine Wp_callP (c97 N  _ h4516) (by kernel_rfl) rfl rfl rfl rfl (by decide) ?_
  have hh := getA5_some h; clear h; obtain ⟨p4518, p4519, p4520, p4521, p4522, h4517, h⟩ := hh
  have hh := bnd'_some h; clear h; obtain ⟨⟨p4523, p4525, x4526, p4527⟩, h4524, h⟩ := hh
  (try dsimp only at h)
  (try simp -implicitDefEqProofs only [go_sem, qa, qb, qc, qd, qe, qf, qg, qh, qi, qj, qk, ↓reduceIte, h4509, h4512, h4517])
  refine Wp_callD [5, 6, 0, 4, 13] (c99_3 N _ _ _ _ _ _ _ _ _ h4524) rfl rfl rfl (by first | rfl | (simp only [go_sem, qa, qb, qc, qd, qe, qf, qg, qh, qi, qj, qk, ↓reduceIte, h4509, h4512, h4517] <;> rfl)) rfl (by kernel_rfl) ?_
  have hh := getB_some h; clear h; obtain ⟨b4529, h4528, h⟩ := hh
  refine W_sound tab_ok mixed 2 _ _ _ ?_
  simp -implicitDefEqProofs only [go_sem, qa, qb, qc, qd, qe, qf, qg, qh, qi, qj, qk, ↓reduceIte, h4509, h4512, h4517, h4528]
  repeat with_reducible refine ⟨by first | kernel_rfl | decide, ?_⟩
  simp only [Option.some.injEq, Prod.mk.injEq] at h; obtain ⟨rfl, rfl⟩ := h
  exact finD (e2 := [(0, .dead), (1, .dead), (2, .dead), (3, .dead), (4, .dead), (5, .dead), (6, .dead)]) (ob2 := [(13, .r [.fn 99 [.ptr 5 0, .ptr 6 0, .ptr 4 0, .ptr 13 0]]), (4, .p [p4510, p4527]), (0, .p [(.int .i64 x4526)]), (6, .r [.fn 81 [.ptr 0 0]]), (5, .p [p4525])]) (st' := ⟨[], [(0, .dead), (1, .dead), (2, .dead), (3, .dead), (4, .dead), (5, .dead), (6, .dead)], [(0, .p [(.int .i64 x4526)])], 1, []⟩) (.k (.k (.k (.k (.k (.k (.k .nil))))))) (.cons _ _ _ _ _ (DLes.refl _) (.cons _ _ _ _ _ (DLes.refl _) (.cons _ _ _ _ _ (DLes.refl _) (.cons _ _ _ _ _ (DLes.refl _) (.cons _ _ _ _ _ (DLes.refl _) .nil))))) (by kernel_rfl) (by simp only [go_sem, qa, qb, qc, qd, qe, qf, qg, qh, qi, qj, qk, ↓reduceIte, resQ_tmp, resQ_cell, resQ_nil, retD_one, retD_two, retD_three, retD_none]; try simp [R.val, retD_one, retD_two, retD_three, retD_none])
def m28 (N : Nat) (p4043 : PV) : Option (PV) :=
  getA2 p4043 fun p4045 p4046 =>
  bnd' (m22 N (.agg [p4045, p4046])) fun p4047 =>
  getI .i64 p4047 fun x4050 =>
  brn (x4050 != 0) (
    some (.tup [(.int .i64 0), (.int .i64 x4050)])) (
    getL p4046 fun n4053 c4054 =>
    grd (0 ≤ ((n4053 : Nat) : Int)) <|
    bnd' (m77 N (IntKind.u64.wrap ((IntKind.u64.wrap (1 * 2 ^ (min n4053 64))) - 1))) fun p4056 =>
    getL p4056 fun n4059 c4060 =>
    bnd' (m76_2 N (.agg [p4045, (.lst false n4053 c4054)]) (.lst false n4059 c4060) 0) fun (p4532, x4534) =>
    getT0 p4532 <|
    some (.tup [(.int .i64 x4534), (.int .i64 0)]))
theorem c28 (N : Nat) (p4043 : PV) (r : PV)  (h : m28 N p4043 = some r) : FnP Tryd.prog 28 [p4043] r := by
  unfold m28 at h
  refine Fn_of (sz := 21) tab_ok [0, 1, 2, 3, 4, 5, 9] [.tmp 2, .tmp 3] Tryd.func28 rfl rfl rfl (by simp) ?_
  simp only [initSt, initEnv, List.map_cons, List.map_nil, List.getD_cons_zero, List.getD_cons_succ, List.getD_nil]
  have hh := getA2_some h; clear h; obtain ⟨p4045, p4046, h4044, h⟩ := hh
  have hh := bnd'_some h; clear h; obtain ⟨p4047, h4048, h⟩ := hh
  refine W_sound tab_ok mixed 10 _ _ _ ?_
  simp -implicitDefEqProofs only [go_sem, qa, qb, qc, qd, qe, qf, qg, qh, qi, qj, qk, ↓reduceIte, h4044]
  repeat with_reducible refine ⟨by first | kernel_rfl | decide, ?_⟩
  refine Wp_callP (c22 N _ _ h4048) (by kernel_rfl) rfl rfl rfl rfl (by decide) ?_
  have hh := getI_some h; clear h; obtain ⟨x4050, h4049, h⟩ := hh
  have hh := brn_some h; clear h; rcases hh with ⟨h4051, h⟩ | ⟨h4051, h⟩
  · refine W_sound tab_ok mixed 16 _ _ _ ?_
    simp -implicitDefEqProofs only [go_sem, qa, qb, qc, qd, qe, qf, qg, qh, qi, qj, qk, ↓reduceIte, h4044, h4049, h4051]
    repeat with_reducible refine ⟨by first | kernel_rfl | decide, ?_⟩
    obtain rfl := Option.some.inj h
    exact finC [(2, .v (.int .i64 0)), (3, .v (.int .i64 x4050))] [(2, .v (.int .i64 0)), (3, .v (.int .i64 x4050))] (by simp [leE, lk_cons]) (.cons _ _ _ _ _ (.v _ _ (.refl _)) (.cons _ _ _ _ _ (.v _ _ (.refl _)) .nil)) (by rfl) (by simp [leE, lk_cons]) (by decide) (by decide) rfl (by simp only [go_sem, qa, qb, qc, qd, qe, qf, qg, qh, qi, qj, qk, ↓reduceIte, resQ_tmp, resQ_cell, resQ_nil, retD_one, retD_two, retD_three, retD_none]; try simp [R.val, retD_one, retD_two, retD_three, retD_none])
  · have hh := getL_some h; clear h; obtain ⟨n4053, c4054, h4052, h⟩ := hh
    have hh := grd_some h; clear h; obtain ⟨g4055, h⟩ := hh
    have hh := bnd'_some h; clear h; obtain ⟨p4056, h4057, h⟩ := hh
    refine W_sound tab_ok mixed 22 _ _ _ ?_
    simp -implicitDefEqProofs only [go_sem, qa, qb, qc, qd, qe, qf, qg, qh, qi, qj, qk, ↓reduceIte, h4044, h4049, h4051, h4052, g4055]
    repeat with_reducible refine ⟨by first | kernel_rfl | decide, ?_⟩
    refine Wp_callP (c77 N _ _ h4057) (by kernel_rfl) rfl rfl rfl rfl (by decide) ?_
    have hh := getL_some h; clear h; obtain ⟨n4059, c4060, h4058, h⟩ := hh
    have hh := bnd'_some h; clear h; obtain ⟨⟨p4532, x4534⟩, h4533, h⟩ := hh
    (try dsimp only at h)
    refine W_sound tab_ok mixed 1 _ _ _ ?_
    simp -implicitDefEqProofs only [go_sem, qa, qb, qc, qd, qe, qf, qg, qh, qi, qj, qk, ↓reduceIte, h4044, h4049, h4051, h4052, g4055, h4058]
    repeat with_reducible refine ⟨by first | kernel_rfl | decide, ?_⟩
    refine Wp_callD [7] (c76_2 N _ _ _ _ _ h4533) rfl rfl rfl (by first | rfl | (simp only [go_sem, qa, qb, qc, qd, qe, qf, qg, qh, qi, qj, qk, ↓reduceIte, h4044, h4049, h4051, h4052, g4055, h4058] <;> rfl)) rfl (by kernel_rfl) ?_
    have hh := getT0_some h; clear h; obtain ⟨h4535, h⟩ := hh
    refine W_sound tab_ok mixed 9 _ _ _ ?_
    simp -implicitDefEqProofs only [go_sem, qa, qb, qc, qd, qe, qf, qg, qh, qi, qj, qk, ↓reduceIte, h4044, h4049, h4051, h4052, g4055, h4058, h4535]
    repeat with_reducible refine ⟨by first | kernel_rfl | decide, ?_⟩
    obtain rfl := Option.some.inj h
    exact finC [(2, .v (.int .i64 x4534)), (3, .v (.int .i64 0))] [(2, .v (.int .i64 x4534)), (3, .v (.int .i64 0))] (by simp [leE, lk_cons]) (.cons _ _ _ _ _ (.v _ _ (.refl _)) (.cons _ _ _ _ _ (.v _ _ (.refl _)) .nil)) (by rfl) (by simp [leE, lk_cons]) (by decide) (by decide) rfl (by simp only [go_sem, qa, qb, qc, qd, qe, qf, qg, qh, qi, qj, qk, ↓reduceIte, resQ_tmp, resQ_cell, resQ_nil, retD_one, retD_two, retD_three, retD_none]; try simp [R.val, retD_one, retD_two, retD_three, retD_none])
def m100 (N : Nat) (b4649 : Bool) : Option ((PV × Bool)) :=
  some ((.bool false), true)
theorem c100 (N : Nat) (b4649 : Bool) (r : PV) (b4651 : Bool) (h : m100 N b4649 = some (r, b4651)) : V.Fn Tryd.prog 100 1 [.v .nl, .ptr 0 0] [(0, .p [(.bool b4649)])] (fun d ob' => d = .v r ∧ ob' = [(0, .p [(.bool b4651)])]) := by
  unfold m100 at h
  refine Fn_of (sz := 4) tab_ok [0, 1, 3] [.tmp 3] Tryd.func100 rfl rfl rfl (by simp) ?_
  simp only [initSt, initEnv, List.map_cons, List.map_nil, List.getD_cons_zero, List.getD_cons_succ, List.getD_nil]
  refine W_sound tab_ok mixed 14 _ _ _ ?_
  simp -implicitDefEqProofs only [go_sem, qa, qb, qc, qd, qe, qf, qg, qh, qi, qj, qk, ↓reduceIte]
  repeat with_reducible refine ⟨by first | kernel_rfl | decide, ?_⟩
  simp only [Option.some.injEq, Prod.mk.injEq] at h; obtain ⟨rfl, rfl⟩ := h
  exact finD (e2 := [(0, .dead), (1, .dead), (3, .v (.bool false))]) (ob2 := [(0, .p [(.bool true)])]) (st' := ⟨[], [(0, .dead), (1, .dead), (3, .v (.bool false))], [(0, .p [(.bool true)])], 1, []⟩) (.k (.k (.r .nil))) (.cons _ _ _ _ _ (DLes.refl _) .nil) (by kernel_rfl) (by simp only [go_sem, qa, qb, qc, qd, qe, qf, qg, qh, qi, qj, qk, ↓reduceIte, resQ_tmp, resQ_cell, resQ_nil, retD_one, retD_two, retD_three, retD_none]; try simp [R.val, retD_one, retD_two, retD_three, retD_none])
def m100_2 (N : Nat) (p4715 : PV) (b4716 : Bool) : Option ((PV × Bool)) :=
  getL p4715 fun n4719 c4720 =>
  some ((.bool false), true)
theorem c100_2 (N : Nat) (p4715 : PV) (b4716 : Bool) (r : PV) (b4721 : Bool) (h : m100_2 N p4715 b4716 = some (r, b4721)) : V.Fn Tryd.prog 100 1 [.v p4715, .ptr 0 0] [(0, .p [(.bool b4716)])] (fun d ob' => d = .v r ∧ ob' = [(0, .p [(.bool b4721)])]) := by
  unfold m100_2 at h
  refine Fn_of (sz := 4) tab_ok [0, 1, 3] [.tmp 3] Tryd.func100 rfl rfl rfl (by simp) ?_
  simp only [initSt, initEnv, List.map_cons, List.map_nil, List.getD_cons_zero, List.getD_cons_succ, List.getD_nil]
  have hh := getL_some h; clear h; obtain ⟨n4719, c4720, h4718, h⟩ := hh
  refine W_sound tab_ok mixed 14 _ _ _ ?_
  simp -implicitDefEqProofs only [go_sem, qa, qb, qc, qd, qe, qf, qg, qh, qi, qj, qk, ↓reduceIte, h4718]
  repeat with_reducible refine ⟨by first | kernel_rfl | decide, ?_⟩
  simp only [Option.some.injEq, Prod.mk.injEq] at h; obtain ⟨rfl, rfl⟩ := h
  exact finD (e2 := [(0, .dead), (1, .dead), (3, .v (.bool false))]) (ob2 := [(0, .p [(.bool true)])]) (st' := ⟨[], [(0, .dead), (1, .dead), (3, .v (.bool false))], [(0, .p [(.bool true)])], 1, []⟩) (.k (.k (.r .nil))) (.cons _ _ _ _ _ (DLes.refl _) .nil) (by kernel_rfl) (by simp only [go_sem, qa, qb, qc, qd, qe, qf, qg, qh, qi, qj, qk, ↓reduceIte, resQ_tmp, resQ_cell, resQ_nil, retD_one, retD_two, retD_three, retD_none]; try simp [R.val, retD_one, retD_two, retD_three, retD_none])
def m99_6_L0 (N : Nat) (rec : PV → PV → PV → Bool → PV → PV → Option ((PV × PV × Bool × PV))) (p4778 : PV) (n4784 : Nat) (c4785 : List PV) (p4787 : PV) (p4788 : PV) (p4789 : PV) (p4790 : PV) (p4791 : PV) (n4813 : Nat) (c4814 : List PV) : Nat → Int → PV → Bool → PV → Option (((PV × PV × Bool × PV) ⊕ (PV × Bool × PV)))
  | 0, _, _, _, _ => none
  | n + 1, x4847, p4848, b4849, p4850 =>
    brn (decide (x4847 < ((n4813 : Nat) : Int))) (
      grd (0 ≤ x4847 ∧ x4847 < ((n4813 : Nat) : Int)) <|
      grd (2 ≤ List.length (List.drop ((Int.toNat x4847) * 2) c4814)) <|
      getA2 (.agg (List.take 2 (List.drop ((Int.toNat x4847) * 2) c4814))) fun p4856 p4857 =>
      bnd' (m71 N (.agg [p4787, p4788, p4789, p4790, p4791]) (.agg [p4856, p4857])) fun p4858 =>
      getB p4858 fun b4861 =>
      brn b4861 (
        m99_6_L0 N rec p4778 n4784 c4785 p4787 p4788 p4789 p4790 p4791 n4813 c4814 n (IntKind.i64.wrap (x4847 + 1)) p4848 b4849 p4850) (
        grd (((n4784 : Nat) : Int) ≤ ((n4784 : Nat) : Int)) <|
        grd (List.length c4785 = n4784) <|
        grd ((n4784 + 1) ≤ 1099511627776) <|
        bnd' (m98 N (.agg [p4787, p4788, p4789, p4790, p4791]) (.agg [p4856, p4857])) fun p4866 =>
        getA5 p4866 fun p4869 p4870 p4871 p4872 p4873 =>
        bnd' (rec (.lst false (n4784 + 1) (c4785 ++ [(.int .i64 x4847)])) (.agg [p4869, p4870, p4871, p4872, p4873]) p4848 b4849 p4778 p4850) fun (p4874, p4876, b4877, p4878) =>
        getB p4874 fun b4880 =>
        brn b4880 (
          m99_6_L0 N rec p4778 n4784 c4785 p4787 p4788 p4789 p4790 p4791 n4813 c4814 n (IntKind.i64.wrap (x4847 + 1)) p4876 b4877 p4878) (
          some (.inl ((.bool false), p4876, b4877, p4878))))) (
      some (.inr (p4848, b4849, p4850)))
def m99_6 (N : Nat) : Nat → PV → PV → PV → Bool → PV → PV → Option ((PV × PV × Bool × PV))
  | 0, _, _, _, _, _, _ => none
  | fu + 1, p4774, p4775, p4776, b4777, p4778, p4779 =>
    getL p4774 fun n4784 c4785 =>
    getA5 p4775 fun p4787 p4788 p4789 p4790 p4791 =>
    getL p4776 fun n4793 c4794 =>
    brn (((n4784 : Nat) : Int) == ((n4793 : Nat) : Int)) (
      bnd' (m100_2 N (.lst false n4784 c4785) b4777) fun (p4796, b4798) =>
      getB p4796 fun b4800 =>
      some ((.bool b4800), (.lst false n4793 c4794), b4798, p4779)) (
      getL p4779 fun n4802 c4803 =>
      grd (0 ≤ ((n4784 : Nat) : Int) ∧ ((n4784 : Nat) : Int) < ((n4793 : Nat) : Int)) <|
      grd (0 < List.length (List.drop n4784 c4794)) <|
      getI .i64 (gp c4794 n4784) fun x4808 =>
      grd (0 ≤ x4808 ∧ x4808 < ((n4802 : Nat) : Int)) <|
      grd (0 < List.length (List.drop (Int.toNat x4808) c4803)) <|
      getL (gp c4803 (Int.toNat x4808)) fun n4813 c4814 =>
      bnd' (m99_6_L0 N (m99_6 N fu) p4778 n4784 c4785 p4787 p4788 p4789 p4790 p4791 n4813 c4814 N 0 (.lst false n4793 c4794) b4777 (.lst false n4802 c4803)) fun o =>
      match o with
      | .inl p4882 =>
        some p4882
      | .inr (p4883, b4884, p4885) =>
        some ((.bool true), p4883, b4884, p4885))
theorem c99_6 (N : Nat) : ∀ (fu : Nat) (p4774 : PV) (p4775 : PV) (p4776 : PV) (b4777 : Bool) (p4778 : PV) (p4779 : PV) (r : PV) (p4889 : PV) (b4890 : Bool) (p4891 : PV) (h : m99_6 N fu p4774 p4775 p4776 b4777 p4778 p4779 = some (r, p4889, b4890, p4891)), V.Fn Tryd.prog 99 5 [.v p4774, .v p4775, .ptr 0 0, .ptr 1 0, .ptr 3 0, .ptr 4 0] [(0, .p [p4776]), (1, .r [.fn 100 [.ptr 2 0]]), (2, .p [(.bool b4777)]), (3, .p [p4778, p4779]), (4, .r [.fn 99 [.ptr 0 0, .ptr 1 0, .ptr 3 0, .ptr 4 0]])] (fun d ob' => d = .v r ∧ ob' = [(0, .p [p4889]), (1, .r [.fn 100 [.ptr 2 0]]), (2, .p [(.bool b4890)]), (3, .p [p4778, p4891]), (4, .r [.fn 99 [.ptr 0 0, .ptr 1 0, .ptr 3 0, .ptr 4 0]])]) := by
  intro fu
  induction fu with
  | zero => intro p4774 p4775 p4776 b4777 p4778 p4779 r p4889 b4890 p4891 h; cases h
  | succ fu ih =>
    intro p4774 p4775 p4776 b4777 p4778 p4779 r p4889 b4890 p4891 h
    rw [m99_6] at h
    refine Fn_of (sz := 55) tab_ok [0, 1, 2, 3, 4, 5, 7, 8, 9, 10, 11, 17, 28, 29, 30, 31, 53] [.tmp 8] Tryd.func99 rfl rfl rfl (by simp) ?_
    simp only [initSt, initEnv, List.map_cons, List.map_nil, List.getD_cons_zero, List.getD_cons_succ, List.getD_nil]
    have hh := getL_some h; clear h; obtain ⟨n4784, c4785, h4783, h⟩ := hh
    have hh := getA5_some h; clear h; obtain ⟨p4787, p4788, p4789, p4790, p4791, h4786, h⟩ := hh
    have hh := getL_some h; clear h; obtain ⟨n4793, c4794, h4792, h⟩ := hh
    have hh := brn_some h; clear h; rcases hh with ⟨h4795, h⟩ | ⟨h4795, h⟩
    · have hh := bnd'_some h; clear h; obtain ⟨⟨p4796, b4798⟩, h4797, h⟩ := hh
      (try dsimp only at h)
      refine W_sound tab_ok mixed 24 _ _ _ ?_
      simp -implicitDefEqProofs only [go_sem, qa, qb, qc, qd, qe, qf, qg, qh, qi, qj, qk, ↓reduceIte, h4783, h4786, h4792, h4795]
      repeat with_reducible refine ⟨by first | kernel_rfl | decide, ?_⟩
      refine Wp_callD [2] (c100_2 N _ _ _ _ h4797) rfl rfl rfl (by first | rfl | (simp only [go_sem, qa, qb, qc, qd, qe, qf, qg, qh, qi, qj, qk, ↓reduceIte, h4783, h4786, h4792, h4795] <;> rfl)) rfl (by kernel_rfl) ?_
      have hh := getB_some h; clear h; obtain ⟨b4800, h4799, h⟩ := hh
      refine W_sound tab_ok mixed 4 _ _ _ ?_
      simp -implicitDefEqProofs only [go_sem, qa, qb, qc, qd, qe, qf, qg, qh, qi, qj, qk, ↓reduceIte, h4783, h4786, h4792, h4795, h4799]
      repeat with_reducible refine ⟨by first | kernel_rfl | decide, ?_⟩
      simp only [Option.some.injEq, Prod.mk.injEq] at h; obtain ⟨rfl, rfl, rfl, rfl⟩ := h
      exact finD (e2 := [(0, .dead), (1, .dead), (2, .dead), (3, .dead), (4, .dead), (5, .dead), (7, .dead), (8, .v (.bool b4800)), (9, .dead), (10, .dead), (11, .dead), (17, .dead), (28, .dead), (29, .dead), (30, .dead), (31, .dead), (53, .dead)]) (ob2 := [(0, .p [(.lst false n4793 c4794)]), (1, .r [.fn 100 [.ptr 2 0]]), (3, .p [p4778, p4779]), (4, .r [.fn 99 [.ptr 0 0, .ptr 1 0, .ptr 3 0, .ptr 4 0]]), (12, .p [p4787, p4788, p4789, p4790, p4791]), (2, .p [(.bool b4798)])]) (st' := ⟨[], [(0, .dead), (1, .dead), (2, .dead), (3, .dead), (4, .dead), (5, .dead), (7, .dead), (8, .v (.bool b4800)), (9, .dead), (10, .dead), (11, .dead), (17, .dead), (28, .dead), (29, .dead), (30, .dead), (31, .dead), (53, .dead)], [(0, .p [(.lst false n4793 c4794)]), (1, .r [.fn 100 [.ptr 2 0]]), (2, .p [(.bool b4798)]), (3, .p [p4778, p4779]), (4, .r [.fn 99 [.ptr 0 0, .ptr 1 0, .ptr 3 0, .ptr 4 0]])], 5, []⟩) (.k (.k (.k (.k (.k (.k (.k (.r (.k (.r (.r (.k (.r (.r (.r (.r (.r .nil))))))))))))))))) (.cons _ _ _ _ _ (DLes.refl _) (.cons _ _ _ _ _ (DLes.refl _) (.cons _ _ _ _ _ (DLes.refl _) (.cons _ _ _ _ _ (DLes.refl _) (.cons _ _ _ _ _ (DLes.refl _) (.cons _ _ _ _ _ (DLes.refl _) .nil)))))) (by kernel_rfl) (by simp only [go_sem, qa, qb, qc, qd, qe, qf, qg, qh, qi, qj, qk, ↓reduceIte, resQ_tmp, resQ_cell, resQ_nil, retD_one, retD_two, retD_three, retD_none]; try simp [R.val, retD_one, retD_two, retD_three, retD_none])
    · have hh := getL_some h; clear h; obtain ⟨n4802, c4803, h4801, h⟩ := hh
      have hh := grd_some h; clear h; obtain ⟨⟨g4804, g4805⟩, h⟩ := hh
      have hh := grd_some h; clear h; obtain ⟨g4806, h⟩ := hh
      have hh := getI_some h; clear h; obtain ⟨x4808, h4807, h⟩ := hh
      have hh := grd_some h; clear h; obtain ⟨⟨g4809, g4810⟩, h⟩ := hh
      have hh := grd_some h; clear h; obtain ⟨g4811, h⟩ := hh
      have hh := getL_some h; clear h; obtain ⟨n4813, c4814, h4812, h⟩ := hh
      refine W_sound tab_ok mixed 35 _ _ _ ?_
      simp -implicitDefEqProofs only [go_sem, qa, qb, qc, qd, qe, qf, qg, qh, qi, qj, qk, ↓reduceIte, h4783, h4786, h4792, h4795, h4801, g4804, g4805, g4806, h4807, g4809, g4810, g4811, h4812]
      repeat with_reducible refine ⟨by first | kernel_rfl | decide, ?_⟩
      have hh := bnd'_some h; clear h; obtain ⟨o4892, h4893, h4894⟩ := hh
      refine Wp_cut (fun s => ∃ p4883, ∃ b4884, ∃ p4885, (.inr (p4883, b4884, p4885)) = o4892 ∧ s = ⟨[], [(0, .dead), (1, .dead), (2, .dead), (3, .dead), (4, .dead), (5, .dead), (7, .dead), (8, .dead), (9, .dead), (10, .dead), (11, .dead), (17, .dead), (28, .dead), (29, .dead), (30, .dead), (31, .dead), (53, .dead)], [(0, .p [p4883]), (1, .r [.fn 100 [.ptr 2 0]]), (2, .p [(.bool b4884)]), (3, .p [p4778, p4885]), (4, .r [.fn 99 [.ptr 0 0, .ptr 1 0, .ptr 3 0, .ptr 4 0]])], 5, []⟩) ?_ ?_
      · refine Wp_block ?_
        refine Wp_loopG (fun n s => ∃ x4847, ∃ p4848, ∃ b4849, ∃ p4850, m99_6_L0 N (m99_6 N fu) p4778 n4784 c4785 p4787 p4788 p4789 p4790 p4791 n4813 c4814 n x4847 p4848 b4849 p4850 = some o4892 ∧ s = ⟨[], [(0, .v (.lst false n4784 c4785)), (1, .dead), (2, .dead), (3, .dead), (4, .dead), (5, .ptr 4 0), (7, .ptr 5 0), (8, .dead), (9, .v (.int .i64 ((n4784 : Nat) : Int))), (10, .dead), (11, .dead), (17, .dead), (28, .v (.lst false n4813 c4814)), (29, .v (.int .i64 ((n4813 : Nat) : Int))), (30, .v (.int .i64 x4847)), (31, .dead), (53, .dead)], [(0, .p [p4848]), (1, .r [.fn 100 [.ptr 2 0]]), (2, .p [(.bool b4849)]), (3, .p [p4778, p4850]), (4, .r [.fn 99 [.ptr 0 0, .ptr 1 0, .ptr 3 0, .ptr 4 0]]), (5, .p [p4787, p4788, p4789, p4790, p4791])], 6, []⟩) N _ ((Wk_le (.r (.k (.k (.k (.k (.r (.r (.k (.r (.r (.r (.k (.r (.r (.r (.r (.r .nil))))))))))))))))) (OLe.refl _)).trans (cmpS_ok (st' := ⟨[], [(0, .v (.lst false n4784 c4785)), (1, .dead), (2, .dead), (3, .dead), (4, .dead), (5, .ptr 4 0), (7, .ptr 5 0), (8, .dead), (9, .v (.int .i64 ((n4784 : Nat) : Int))), (10, .dead), (11, .dead), (17, .dead), (28, .v (.lst false n4813 c4814)), (29, .v (.int .i64 ((n4813 : Nat) : Int))), (30, .v (.int .i64 0)), (31, .dead), (53, .dead)], [(0, .p [(.lst false n4793 c4794)]), (1, .r [.fn 100 [.ptr 2 0]]), (2, .p [(.bool b4777)]), (3, .p [p4778, (.lst false n4802 c4803)]), (4, .r [.fn 99 [.ptr 0 0, .ptr 1 0, .ptr 3 0, .ptr 4 0]]), (5, .p [p4787, p4788, p4789, p4790, p4791])], 6, []⟩) (by kernel_rfl))) ⟨_, _, _, _, h4893, rfl⟩ ?_
        clear h4893
        rintro n _ ⟨x4847, p4848, b4849, p4850, h4893, rfl⟩
        cases n with
        | zero => cases h4893
        | succ n =>
          rw [m99_6_L0] at h4893
          have hh := brn_some h4893; clear h4893; rcases hh with ⟨h4851, h4893⟩ | ⟨h4851, h4893⟩
          · have hh := grd_some h4893; clear h4893; obtain ⟨⟨g4852, g4853⟩, h4893⟩ := hh
            have hh := grd_some h4893; clear h4893; obtain ⟨g4854, h4893⟩ := hh
            have hh := getA2_some h4893; clear h4893; obtain ⟨p4856, p4857, h4855, h4893⟩ := hh
            injection h4855 with h4855
            have hh := bnd'_some h4893; clear h4893; obtain ⟨p4858, h4859, h4893⟩ := hh
            refine W_sound tab_ok mixed 22 _ _ _ ?_
            simp -implicitDefEqProofs only [go_sem, qa, qb, qc, qd, qe, qf, qg, qh, qi, qj, qk, ↓reduceIte, h4783, h4786, h4792, h4795, h4801, g4804, g4805, g4806, h4807, g4809, g4810, g4811, h4812, h4851, g4852, g4853, g4854, h4855]
            repeat with_reducible refine ⟨by first | kernel_rfl | decide, ?_⟩
            refine Wp_callP (c71 N _ _ _ h4859) (by kernel_rfl) rfl rfl rfl rfl (by decide) ?_
            have hh := getB_some h4893; clear h4893; obtain ⟨b4861, h4860, h4893⟩ := hh
            have hh := brn_some h4893; clear h4893; rcases hh with ⟨h4862, h4893⟩ | ⟨h4862, h4893⟩
            · refine W_sound tab_ok mixed 24 _ _ _ ?_
              simp -implicitDefEqProofs only [go_sem, qa, qb, qc, qd, qe, qf, qg, qh, qi, qj, qk, ↓reduceIte, h4783, h4786, h4792, h4795, h4801, g4804, g4805, g4806, h4807, g4809, g4810, g4811, h4812, h4851, g4852, g4853, g4854, h4855, h4860, h4862]
              repeat with_reducible refine ⟨by first | kernel_rfl | decide, ?_⟩
              exact cutQ _ ((Wk_le (.r (.r (.r (.r (.r (.r (.r (.r (.r (.k (.k (.r (.r (.r (.r (.k (.k .nil))))))))))))))))) (OLe.refl _)).trans (cmpS_ok (st' := ⟨[], [(0, .v (.lst false n4784 c4785)), (1, .dead), (2, .dead), (3, .dead), (4, .dead), (5, .ptr 4 0), (7, .ptr 5 0), (8, .dead), (9, .v (.int .i64 ((n4784 : Nat) : Int))), (10, .dead), (11, .dead), (17, .dead), (28, .v (.lst false n4813 c4814)), (29, .v (.int .i64 ((n4813 : Nat) : Int))), (30, .v (.int .i64 (IntKind.i64.wrap (x4847 + 1)))), (31, .dead), (53, .dead)], [(0, .p [p4848]), (1, .r [.fn 100 [.ptr 2 0]]), (2, .p [(.bool b4849)]), (3, .p [p4778, p4850]), (4, .r [.fn 99 [.ptr 0 0, .ptr 1 0, .ptr 3 0, .ptr 4 0]]), (5, .p [p4787, p4788, p4789, p4790, p4791])], 6, []⟩) (by kernel_rfl))) ⟨n, Nat.lt_succ_self n, _, _, _, _, h4893, rfl⟩
            · have hh := grd_some h4893; clear h4893; obtain ⟨g4863, h4893⟩ := hh
              have hh := grd_some h4893; clear h4893; obtain ⟨g4864, h4893⟩ := hh
              have hh := grd_some h4893; clear h4893; obtain ⟨g4865, h4893⟩ := hh
              have hh := bnd'_some h4893; clear h4893; obtain ⟨p4866, h4867, h4893⟩ := hh
              refine W_sound tab_ok mixed 12 _ _ _ ?_
              simp -implicitDefEqProofs only [go_sem, qa, qb, qc, qd, qe, qf, qg, qh, qi, qj, qk, ↓reduceIte, h4783, h4786, h4792, h4795, h4801, g4804, g4805, g4806, h4807, g4809, g4810, g4811, h4812, h4851, g4852, g4853, g4854, h4855, h4860, h4862, g4863, g4864, g4865]
              repeat with_reducible refine ⟨by first | kernel_rfl | decide, ?_⟩
              refine Wp_callP (c98 N _ _ _ h4867) (by kernel_rfl) rfl rfl rfl rfl (by decide) ?_
              have hh := getA5_some h4893; clear h4893; obtain ⟨p4869, p4870, p4871, p4872, p4873, h4868, h4893⟩ := hh
              have hh := bnd'_some h4893; clear h4893; obtain ⟨⟨p4874, p4876, b4877, p4878⟩, h4875, h4893⟩ := hh
              (try dsimp only at h4893)
              (try simp -implicitDefEqProofs only [go_sem, qa, qb, qc, qd, qe, qf, qg, qh, qi, qj, qk, ↓reduceIte, h4783, h4786, h4792, h4795, h4801, g4804, g4805, g4806, h4807, g4809, g4810, g4811, h4812, h4851, g4852, g4853, g4854, h4855, h4860, h4862, g4863, g4864, g4865, h4868])
              refine Wp_callDF [(65, (c4785 ++ [(.int .i64 x4847)]))] [0, 1, 2, 3, 4] (ih _ _ _ _ _ _ _ _ _ _ h4875) rfl rfl rfl (by first | rfl | (simp only [go_sem, qa, qb, qc, qd, qe, qf, qg, qh, qi, qj, qk, ↓reduceIte, h4783, h4786, h4792, h4795, h4801, g4804, g4805, g4806, h4807, g4809, g4810, g4811, h4812, h4851, g4852, g4853, g4854, h4855, h4860, h4862, g4863, g4864, g4865, h4868] <;> rfl)) rfl (by kernel_rfl) rfl rfl (by simp [roF, obL]) ?_
              have hh := getB_some h4893; clear h4893; obtain ⟨b4880, h4879, h4893⟩ := hh
              have hh := brn_some h4893; clear h4893; rcases hh with ⟨h4881, h4893⟩ | ⟨h4881, h4893⟩
              · refine W_sound tab_ok mixed 10 _ _ _ ?_
                simp -implicitDefEqProofs only [go_sem, qa, qb, qc, qd, qe, qf, qg, qh, qi, qj, qk, ↓reduceIte, h4783, h4786, h4792, h4795, h4801, g4804, g4805, g4806, h4807, g4809, g4810, g4811, h4812, h4851, g4852, g4853, g4854, h4855, h4860, h4862, g4863, g4864, g4865, h4868, h4879, h4881]
                repeat with_reducible refine ⟨by first | kernel_rfl | decide, ?_⟩
                exact cutQ _ ((Wk_le (.r (.r (.r (.r (.r (.r (.r (.r (.r (.k (.k (.r (.r (.r (.r (.k (.k .nil))))))))))))))))) (OLe.refl _)).trans (cmpS_ok (st' := ⟨[], [(0, .v (.lst false n4784 c4785)), (1, .dead), (2, .dead), (3, .dead), (4, .dead), (5, .ptr 4 0), (7, .ptr 5 0), (8, .dead), (9, .v (.int .i64 ((n4784 : Nat) : Int))), (10, .dead), (11, .dead), (17, .dead), (28, .v (.lst false n4813 c4814)), (29, .v (.int .i64 ((n4813 : Nat) : Int))), (30, .v (.int .i64 (IntKind.i64.wrap (x4847 + 1)))), (31, .dead), (53, .dead)], [(0, .p [p4876]), (1, .r [.fn 100 [.ptr 2 0]]), (2, .p [(.bool b4877)]), (3, .p [p4778, p4878]), (4, .r [.fn 99 [.ptr 0 0, .ptr 1 0, .ptr 3 0, .ptr 4 0]]), (5, .p [p4787, p4788, p4789, p4790, p4791])], 6, []⟩) (by kernel_rfl))) ⟨n, Nat.lt_succ_self n, _, _, _, _, h4893, rfl⟩
              · refine W_sound tab_ok mixed 10 _ _ _ ?_
                simp -implicitDefEqProofs only [go_sem, qa, qb, qc, qd, qe, qf, qg, qh, qi, qj, qk, ↓reduceIte, h4783, h4786, h4792, h4795, h4801, g4804, g4805, g4806, h4807, g4809, g4810, g4811, h4812, h4851, g4852, g4853, g4854, h4855, h4860, h4862, g4863, g4864, g4865, h4868, h4879, h4881]
                repeat with_reducible refine ⟨by first | kernel_rfl | decide, ?_⟩
                obtain rfl := Option.some.inj h4893
                (try dsimp only at h4894)
                simp only [Option.some.injEq, Prod.mk.injEq] at h4894; obtain ⟨rfl, rfl, rfl, rfl⟩ := h4894
                exact finD (e2 := [(0, .dead), (1, .dead), (2, .dead), (3, .dead), (4, .dead), (5, .dead), (7, .dead), (8, .v (.bool false)), (9, .dead), (10, .dead), (11, .dead), (17, .dead), (28, .dead), (29, .dead), (30, .dead), (31, .dead), (53, .dead)]) (ob2 := [(5, .p [p4787, p4788, p4789, p4790, p4791]), (17, .p [p4856, p4857]), (64, .p [(.int .i64 x4847)]), (4, .r [.fn 99 [.ptr 0 0, .ptr 1 0, .ptr 3 0, .ptr 4 0]]), (3, .p [p4778, p4878]), (2, .p [(.bool b4877)]), (1, .r [.fn 100 [.ptr 2 0]]), (0, .p [p4876])]) (st' := ⟨[], [(0, .dead), (1, .dead), (2, .dead), (3, .dead), (4, .dead), (5, .dead), (7, .dead), (8, .v (.bool false)), (9, .dead), (10, .dead), (11, .dead), (17, .dead), (28, .dead), (29, .dead), (30, .dead), (31, .dead), (53, .dead)], [(0, .p [p4876]), (1, .r [.fn 100 [.ptr 2 0]]), (2, .p [(.bool b4877)]), (3, .p [p4778, p4878]), (4, .r [.fn 99 [.ptr 0 0, .ptr 1 0, .ptr 3 0, .ptr 4 0]])], 5, []⟩) (.k (.r (.r (.r (.r (.k (.k (.r (.k (.k (.k (.r (.k (.k (.k (.k (.k .nil))))))))))))))))) (.cons _ _ _ _ _ (DLes.refl _) (.cons _ _ _ _ _ (DLes.refl _) (.cons _ _ _ _ _ (DLes.refl _) (.cons _ _ _ _ _ (DLes.refl _) (.cons _ _ _ _ _ (DLes.refl _) (.cons _ _ _ _ _ (DLes.refl _) (.cons _ _ _ _ _ (DLes.refl _) (.cons _ _ _ _ _ (DLes.refl _) .nil)))))))) (by kernel_rfl) (by simp only [go_sem, qa, qb, qc, qd, qe, qf, qg, qh, qi, qj, qk, ↓reduceIte, resQ_tmp, resQ_cell, resQ_nil, retD_one, retD_two, retD_three, retD_none]; try simp [R.val, retD_one, retD_two, retD_three, retD_none])
          · refine W_sound tab_ok mixed 7 _ _ _ ?_
            simp -implicitDefEqProofs only [go_sem, qa, qb, qc, qd, qe, qf, qg, qh, qi, qj, qk, ↓reduceIte, h4783, h4786, h4792, h4795, h4801, g4804, g4805, g4806, h4807, g4809, g4810, g4811, h4812, h4851]
            repeat with_reducible refine ⟨by first | kernel_rfl | decide, ?_⟩
            obtain rfl := Option.some.inj h4893
            exact cutQ _ ((Wk_le (.k (.r (.r (.r (.r (.k (.k (.r (.k (.r (.r (.r (.k (.k (.k (.k (.r .nil))))))))))))))))) (OLe.refl _)).trans (cmpS_ok (st' := ⟨[], [(0, .dead), (1, .dead), (2, .dead), (3, .dead), (4, .dead), (5, .dead), (7, .dead), (8, .dead), (9, .dead), (10, .dead), (11, .dead), (17, .dead), (28, .dead), (29, .dead), (30, .dead), (31, .dead), (53, .dead)], [(0, .p [p4848]), (1, .r [.fn 100 [.ptr 2 0]]), (2, .p [(.bool b4849)]), (3, .p [p4778, p4850]), (4, .r [.fn 99 [.ptr 0 0, .ptr 1 0, .ptr 3 0, .ptr 4 0]])], 5, []⟩) (by kernel_rfl))) ⟨_, _, _, rfl, rfl⟩
      · rintro _ ⟨p4883, b4884, p4885, rfl, rfl⟩
        (try dsimp only at h4894)
        refine W_sound tab_ok mixed 6 _ _ _ ?_
        simp -implicitDefEqProofs only [go_sem, qa, qb, qc, qd, qe, qf, qg, qh, qi, qj, qk, ↓reduceIte, h4783, h4786, h4792, h4795, h4801, g4804, g4805, g4806, h4807, g4809, g4810, g4811, h4812]
        repeat with_reducible refine ⟨by first | kernel_rfl | decide, ?_⟩
        simp only [Option.some.injEq, Prod.mk.injEq] at h4894; obtain ⟨rfl, rfl, rfl, rfl⟩ := h4894
        exact finD (e2 := [(0, .dead), (1, .dead), (2, .dead), (3, .dead), (4, .dead), (5, .dead), (7, .dead), (8, .v (.bool true)), (9, .dead), (10, .dead), (11, .dead), (17, .dead), (28, .dead), (29, .dead), (30, .dead), (31, .dead), (53, .dead)]) (ob2 := [(0, .p [p4883]), (1, .r [.fn 100 [.ptr 2 0]]), (2, .p [(.bool b4884)]), (3, .p [p4778, p4885]), (4, .r [.fn 99 [.ptr 0 0, .ptr 1 0, .ptr 3 0, .ptr 4 0]])]) (st' := ⟨[], [(0, .dead), (1, .dead), (2, .dead), (3, .dead), (4, .dead), (5, .dead), (7, .dead), (8, .v (.bool true)), (9, .dead), (10, .dead), (11, .dead), (17, .dead), (28, .dead), (29, .dead), (30, .dead), (31, .dead), (53, .dead)], [(0, .p [p4883]), (1, .r [.fn 100 [.ptr 2 0]]), (2, .p [(.bool b4884)]), (3, .p [p4778, p4885]), (4, .r [.fn 99 [.ptr 0 0, .ptr 1 0, .ptr 3 0, .ptr 4 0]])], 5, []⟩) (.r (.r (.r (.r (.r (.r (.r (.r (.r (.r (.r (.r (.r (.r (.r (.r (.r .nil))))))))))))))))) (.cons _ _ _ _ _ (DLes.refl _) (.cons _ _ _ _ _ (DLes.refl _) (.cons _ _ _ _ _ (DLes.refl _) (.cons _ _ _ _ _ (DLes.refl _) (.cons _ _ _ _ _ (DLes.refl _) .nil))))) (by kernel_rfl) (by simp only [go_sem, qa, qb, qc, qd, qe, qf, qg, qh, qi, qj, qk, ↓reduceIte, resQ_tmp, resQ_cell, resQ_nil, retD_one, retD_two, retD_three, retD_none]; try simp [R.val, retD_one, retD_two, retD_three, retD_none])
def m99_5_L0 (N : Nat) (p4945 : PV) (p4951 : PV) (p4952 : PV) (p4953 : PV) (p4954 : PV) (p4955 : PV) (n4976 : Nat) (c4977 : List PV) : Nat → Int → PV → Bool → PV → Option (((PV × PV × Bool × PV) ⊕ (PV × Bool × PV)))
  | 0, _, _, _, _ => none
  | n + 1, x5007, p5008, b5009, p5010 =>
    brn (decide (x5007 < ((n4976 : Nat) : Int))) (
      grd (0 ≤ x5007 ∧ x5007 < ((n4976 : Nat) : Int)) <|
      grd (2 ≤ List.length (List.drop ((Int.toNat x5007) * 2) c4977)) <|
      getA2 (.agg (List.take 2 (List.drop ((Int.toNat x5007) * 2) c4977))) fun p5016 p5017 =>
      bnd' (m71 N (.agg [p4951, p4952, p4953, p4954, p4955]) (.agg [p5016, p5017])) fun p5018 =>
      getB p5018 fun b5021 =>
      brn b5021 (
        m99_5_L0 N p4945 p4951 p4952 p4953 p4954 p4955 n4976 c4977 n (IntKind.i64.wrap (x5007 + 1)) p5008 b5009 p5010) (
        bnd' (m98 N (.agg [p4951, p4952, p4953, p4954, p4955]) (.agg [p5016, p5017])) fun p5023 =>
        getA5 p5023 fun p5026 p5027 p5028 p5029 p5030 =>
        bnd' (m99_6 N N (.lst false 1 [(.int .i64 x5007)]) (.agg [p5026, p5027, p5028, p5029, p5030]) p5008 b5009 p4945 p5010) fun (p5031, p5033, b5034, p5035) =>
        getB p5031 fun b5037 =>
        brn b5037 (
          m99_5_L0 N p4945 p4951 p4952 p4953 p4954 p4955 n4976 c4977 n (IntKind.i64.wrap (x5007 + 1)) p5033 b5034 p5035) (
          some (.inl ((.bool false), p5033, b5034, p5035))))) (
      some (.inr (p5008, b5009, p5010)))
def m99_5 (N : Nat) (p4942 : PV) (p4943 : PV) (b4944 : Bool) (p4945 : PV) (p4946 : PV) : Option ((PV × PV × Bool × PV)) :=
  getA5 p4942 fun p4951 p4952 p4953 p4954 p4955 =>
  getL p4943 fun n4957 c4958 =>
  brn (0 == ((n4957 : Nat) : Int)) (
    bnd' (m100 N b4944) fun (p4960, b4962) =>
    getB p4960 fun b4964 =>
    some ((.bool b4964), (.lst false n4957 c4958), b4962, p4946)) (
    getL p4946 fun n4966 c4967 =>
    grd (0 < ((n4957 : Nat) : Int)) <|
    grd (0 < List.length c4958) <|
    getI .i64 (gp c4958 0) fun x4971 =>
    grd (0 ≤ x4971 ∧ x4971 < ((n4966 : Nat) : Int)) <|
    grd (0 < List.length (List.drop (Int.toNat x4971) c4967)) <|
    getL (gp c4967 (Int.toNat x4971)) fun n4976 c4977 =>
    bnd' (m99_5_L0 N p4945 p4951 p4952 p4953 p4954 p4955 n4976 c4977 N 0 (.lst false n4957 c4958) b4944 (.lst false n4966 c4967)) fun o =>
    match o with
    | .inl p5039 =>
      some p5039
    | .inr (p5040, b5041, p5042) =>
      some ((.bool true), p5040, b5041, p5042))
theorem c99_5 (N : Nat) (p4942 : PV) (p4943 : PV) (b4944 : Bool) (p4945 : PV) (p4946 : PV) (r : PV) (p5046 : PV) (b5047 : Bool) (p5048 : PV) (h : m99_5 N p4942 p4943 b4944 p4945 p4946 = some (r, p5046, b5047, p5048)) : V.Fn Tryd.prog 99 5 [.v .nl, .v p4942, .ptr 0 0, .ptr 1 0, .ptr 3 0, .ptr 4 0] [(0, .p [p4943]), (1, .r [.fn 100 [.ptr 2 0]]), (2, .p [(.bool b4944)]), (3, .p [p4945, p4946]), (4, .r [.fn 99 [.ptr 0 0, .ptr 1 0, .ptr 3 0, .ptr 4 0]])] (fun d ob' => d = .v r ∧ ob' = [(0, .p [p5046]), (1, .r [.fn 100 [.ptr 2 0]]), (2, .p [(.bool b5047)]), (3, .p [p4945, p5048]), (4, .r [.fn 99 [.ptr 0 0, .ptr 1 0, .ptr 3 0, .ptr 4 0]])]) := by
  unfold m99_5 at h
  refine Fn_of (sz := 55) tab_ok [0, 1, 2, 3, 4, 5, 7, 8, 9, 10, 11, 17, 28, 29, 30, 31, 53] [.tmp 8] Tryd.func99 rfl rfl rfl (by simp) ?_
  simp only [initSt, initEnv, List.map_cons, List.map_nil, List.getD_cons_zero, List.getD_cons_succ, List.getD_nil]
  have hh := getA5_some h; clear h; obtain ⟨p4951, p4952, p4953, p4954, p4955, h4950, h⟩ := hh
  have hh := getL_some h; clear h; obtain ⟨n4957, c4958, h4956, h⟩ := hh
  have hh := brn_some h; clear h; rcases hh with ⟨h4959, h⟩ | ⟨h4959, h⟩
  · have hh := bnd'_some h; clear h; obtain ⟨⟨p4960, b4962⟩, h4961, h⟩ := hh
    (try dsimp only at h)
    refine W_sound tab_ok mixed 24 _ _ _ ?_
    simp -implicitDefEqProofs only [go_sem, qa, qb, qc, qd, qe, qf, qg, qh, qi, qj, qk, ↓reduceIte, h4950, h4956, h4959]
    repeat with_reducible refine ⟨by first | kernel_rfl | decide, ?_⟩
    refine Wp_callD [2] (c100 N _ _ _ h4961) rfl rfl rfl (by first | rfl | (simp only [go_sem, qa, qb, qc, qd, qe, qf, qg, qh, qi, qj, qk, ↓reduceIte, h4950, h4956, h4959] <;> rfl)) rfl (by kernel_rfl) ?_
    have hh := getB_some h; clear h; obtain ⟨b4964, h4963, h⟩ := hh
    refine W_sound tab_ok mixed 4 _ _ _ ?_
    simp -implicitDefEqProofs only [go_sem, qa, qb, qc, qd, qe, qf, qg, qh, qi, qj, qk, ↓reduceIte, h4950, h4956, h4959, h4963]
    repeat with_reducible refine ⟨by first | kernel_rfl | decide, ?_⟩
    simp only [Option.some.injEq, Prod.mk.injEq] at h; obtain ⟨rfl, rfl, rfl, rfl⟩ := h
    exact finD (e2 := [(0, .dead), (1, .dead), (2, .dead), (3, .dead), (4, .dead), (5, .dead), (7, .dead), (8, .v (.bool b4964)), (9, .dead), (10, .dead), (11, .dead), (17, .dead), (28, .dead), (29, .dead), (30, .dead), (31, .dead), (53, .dead)]) (ob2 := [(0, .p [(.lst false n4957 c4958)]), (1, .r [.fn 100 [.ptr 2 0]]), (3, .p [p4945, p4946]), (4, .r [.fn 99 [.ptr 0 0, .ptr 1 0, .ptr 3 0, .ptr 4 0]]), (12, .p [p4951, p4952, p4953, p4954, p4955]), (2, .p [(.bool b4962)])]) (st' := ⟨[], [(0, .dead), (1, .dead), (2, .dead), (3, .dead), (4, .dead), (5, .dead), (7, .dead), (8, .v (.bool b4964)), (9, .dead), (10, .dead), (11, .dead), (17, .dead), (28, .dead), (29, .dead), (30, .dead), (31, .dead), (53, .dead)], [(0, .p [(.lst false n4957 c4958)]), (1, .r [.fn 100 [.ptr 2 0]]), (2, .p [(.bool b4962)]), (3, .p [p4945, p4946]), (4, .r [.fn 99 [.ptr 0 0, .ptr 1 0, .ptr 3 0, .ptr 4 0]])], 5, []⟩) (.k (.k (.k (.k (.k (.k (.k (.r (.k (.r (.r (.k (.r (.r (.r (.r (.r .nil))))))))))))))))) (.cons _ _ _ _ _ (DLes.refl _) (.cons _ _ _ _ _ (DLes.refl _) (.cons _ _ _ _ _ (DLes.refl _) (.cons _ _ _ _ _ (DLes.refl _) (.cons _ _ _ _ _ (DLes.refl _) (.cons _ _ _ _ _ (DLes.refl _) .nil)))))) (by kernel_rfl) (by simp only [go_sem, qa, qb, qc, qd, qe, qf, qg, qh, qi, qj, qk, ↓reduceIte, resQ_tmp, resQ_cell, resQ_nil, retD_one, retD_two, retD_three, retD_none]; try simp [R.val, retD_one, retD_two, retD_three, retD_none])
  · have hh := getL_some h; clear h; obtain ⟨n4966, c4967, h4965, h⟩ := hh
    have hh := grd_some h; clear h; obtain ⟨g4968, h⟩ := hh
    have hh := grd_some h; clear h; obtain ⟨g4969, h⟩ := hh
    have hh := getI_some h; clear h; obtain ⟨x4971, h4970, h⟩ := hh
    have hh := grd_some h; clear h; obtain ⟨⟨g4972, g4973⟩, h⟩ := hh
    have hh := grd_some h; clear h; obtain ⟨g4974, h⟩ := hh
    have hh := getL_some h; clear h; obtain ⟨n4976, c4977, h4975, h⟩ := hh
    refine W_sound tab_ok mixed 35 _ _ _ ?_
    simp -implicitDefEqProofs only [go_sem, qa, qb, qc, qd, qe, qf, qg, qh, qi, qj, qk, ↓reduceIte, h4950, h4956, h4959, h4965, g4968, g4969, h4970, g4972, g4973, g4974, h4975]
    repeat with_reducible refine ⟨by first | kernel_rfl | decide, ?_⟩
    have hh := bnd'_some h; clear h; obtain ⟨o5049, h5050, h5051⟩ := hh
    refine Wp_cut (fun s => ∃ p5040, ∃ b5041, ∃ p5042, (.inr (p5040, b5041, p5042)) = o5049 ∧ s = ⟨[], [(0, .dead), (1, .dead), (2, .dead), (3, .dead), (4, .dead), (5, .dead), (7, .dead), (8, .dead), (9, .dead), (10, .dead), (11, .dead), (17, .dead), (28, .dead), (29, .dead), (30, .dead), (31, .dead), (53, .dead)], [(0, .p [p5040]), (1, .r [.fn 100 [.ptr 2 0]]), (2, .p [(.bool b5041)]), (3, .p [p4945, p5042]), (4, .r [.fn 99 [.ptr 0 0, .ptr 1 0, .ptr 3 0, .ptr 4 0]])], 5, []⟩) ?_ ?_
    · refine Wp_block ?_
      refine Wp_loopG (fun n s => ∃ x5007, ∃ p5008, ∃ b5009, ∃ p5010, m99_5_L0 N p4945 p4951 p4952 p4953 p4954 p4955 n4976 c4977 n x5007 p5008 b5009 p5010 = some o5049 ∧ s = ⟨[], [(0, .v .nl), (1, .dead), (2, .dead), (3, .dead), (4, .dead), (5, .ptr 4 0), (7, .ptr 5 0), (8, .dead), (9, .v (.int .i64 0)), (10, .dead), (11, .dead), (17, .dead), (28, .v (.lst false n4976 c4977)), (29, .v (.int .i64 ((n4976 : Nat) : Int))), (30, .v (.int .i64 x5007)), (31, .dead), (53, .dead)], [(0, .p [p5008]), (1, .r [.fn 100 [.ptr 2 0]]), (2, .p [(.bool b5009)]), (3, .p [p4945, p5010]), (4, .r [.fn 99 [.ptr 0 0, .ptr 1 0, .ptr 3 0, .ptr 4 0]]), (5, .p [p4951, p4952, p4953, p4954, p4955])], 6, []⟩) N _ ((Wk_le (.r (.k (.k (.k (.k (.r (.r (.k (.r (.r (.r (.k (.r (.r (.r (.r (.r .nil))))))))))))))))) (OLe.refl _)).trans (cmpS_ok (st' := ⟨[], [(0, .v .nl), (1, .dead), (2, .dead), (3, .dead), (4, .dead), (5, .ptr 4 0), (7, .ptr 5 0), (8, .dead), (9, .v (.int .i64 0)), (10, .dead), (11, .dead), (17, .dead), (28, .v (.lst false n4976 c4977)), (29, .v (.int .i64 ((n4976 : Nat) : Int))), (30, .v (.int .i64 0)), (31, .dead), (53, .dead)], [(0, .p [(.lst false n4957 c4958)]), (1, .r [.fn 100 [.ptr 2 0]]), (2, .p [(.bool b4944)]), (3, .p [p4945, (.lst false n4966 c4967)]), (4, .r [.fn 99 [.ptr 0 0, .ptr 1 0, .ptr 3 0, .ptr 4 0]]), (5, .p [p4951, p4952, p4953, p4954, p4955])], 6, []⟩) (by kernel_rfl))) ⟨_, _, _, _, h5050, rfl⟩ ?_
      clear h5050
      rintro n _ ⟨x5007, p5008, b5009, p5010, h5050, rfl⟩
      cases n with
      | zero => cases h5050
      | succ n =>
        rw [m99_5_L0] at h5050
        have hh := brn_some h5050; clear h5050; rcases hh with ⟨h5011, h5050⟩ | ⟨h5011, h5050⟩
        · have hh := grd_some h5050; clear h5050; obtain ⟨⟨g5012, g5013⟩, h5050⟩ := hh
          have hh := grd_some h5050; clear h5050; obtain ⟨g5014, h5050⟩ := hh
          have hh := getA2_some h5050; clear h5050; obtain ⟨p5016, p5017, h5015, h5050⟩ := hh
          injection h5015 with h5015
          have hh := bnd'_some h5050; clear h5050; obtain ⟨p5018, h5019, h5050⟩ := hh
          refine W_sound tab_ok mixed 22 _ _ _ ?_
          simp -implicitDefEqProofs only [go_sem, qa, qb, qc, qd, qe, qf, qg, qh, qi, qj, qk, ↓reduceIte, h4950, h4956, h4959, h4965, g4968, g4969, h4970, g4972, g4973, g4974, h4975, h5011, g5012, g5013, g5014, h5015]
          repeat with_reducible refine ⟨by first | kernel_rfl | decide, ?_⟩
          refine Wp_callP (c71 N _ _ _ h5019) (by kernel_rfl) rfl rfl rfl rfl (by decide) ?_
          have hh := getB_some h5050; clear h5050; obtain ⟨b5021, h5020, h5050⟩ := hh
          have hh := brn_some h5050; clear h5050; rcases hh with ⟨h5022, h5050⟩ | ⟨h5022, h5050⟩
          · refine W_sound tab_ok mixed 24 _ _ _ ?_
            simp -implicitDefEqProofs only [go_sem, qa, qb, qc, qd, qe, qf, qg, qh, qi, qj, qk, ↓reduceIte, h4950, h4956, h4959, h4965, g4968, g4969, h4970, g4972, g4973, g4974, h4975, h5011, g5012, g5013, g5014, h5015, h5020, h5022]
            repeat with_reducible refine ⟨by first | kernel_rfl | decide, ?_⟩
            exact cutQ _ ((Wk_le (.r (.r (.r (.r (.r (.r (.r (.r (.r (.k (.k (.r (.r (.r (.r (.k (.k .nil))))))))))))))))) (OLe.refl _)).trans (cmpS_ok (st' := ⟨[], [(0, .v .nl), (1, .dead), (2, .dead), (3, .dead), (4, .dead), (5, .ptr 4 0), (7, .ptr 5 0), (8, .dead), (9, .v (.int .i64 0)), (10, .dead), (11, .dead), (17, .dead), (28, .v (.lst false n4976 c4977)), (29, .v (.int .i64 ((n4976 : Nat) : Int))), (30, .v (.int .i64 (IntKind.i64.wrap (x5007 + 1)))), (31, .dead), (53, .dead)], [(0, .p [p5008]), (1, .r [.fn 100 [.ptr 2 0]]), (2, .p [(.bool b5009)]), (3, .p [p4945, p5010]), (4, .r [.fn 99 [.ptr 0 0, .ptr 1 0, .ptr 3 0, .ptr 4 0]]), (5, .p [p4951, p4952, p4953, p4954, p4955])], 6, []⟩) (by kernel_rfl))) ⟨n, Nat.lt_succ_self n, _, _, _, _, h5050, rfl⟩
          · have hh := bnd'_some h5050; clear h5050; obtain ⟨p5023, h5024, h5050⟩ := hh
            refine W_sound tab_ok mixed 12 _ _ _ ?_
            simp -implicitDefEqProofs only [go_sem, qa, qb, qc, qd, qe, qf, qg, qh, qi, qj, qk, ↓reduceIte, h4950, h4956, h4959, h4965, g4968, g4969, h4970, g4972, g4973, g4974, h4975, h5011, g5012, g5013, g5014, h5015, h5020, h5022]
            repeat with_reducible refine ⟨by first | kernel_rfl | decide, ?_⟩
            refine Wp_callP (c98 N _ _ _ h5024) (by kernel_rfl) rfl rfl rfl rfl (by decide) ?_
            have hh := getA5_some h5050; clear h5050; obtain ⟨p5026, p5027, p5028, p5029, p5030, h5025, h5050⟩ := hh
            have hh := bnd'_some h5050; clear h5050; obtain ⟨⟨p5031, p5033, b5034, p5035⟩, h5032, h5050⟩ := hh
            (try dsimp only at h5050)
            (try simp -implicitDefEqProofs only [go_sem, qa, qb, qc, qd, qe, qf, qg, qh, qi, qj, qk, ↓reduceIte, h4950, h4956, h4959, h4965, g4968, g4969, h4970, g4972, g4973, g4974, h4975, h5011, g5012, g5013, g5014, h5015, h5020, h5022, h5025])
            refine Wp_callDF [(65, [(.int .i64 x5007)])] [0, 1, 2, 3, 4] (c99_6 N N _ _ _ _ _ _ _ _ _ _ h5032) rfl rfl rfl (by first | rfl | (simp only [go_sem, qa, qb, qc, qd, qe, qf, qg, qh, qi, qj, qk, ↓reduceIte, h4950, h4956, h4959, h4965, g4968, g4969, h4970, g4972, g4973, g4974, h4975, h5011, g5012, g5013, g5014, h5015, h5020, h5022, h5025] <;> rfl)) rfl (by kernel_rfl) rfl rfl (by simp [roF, obL]) ?_
            have hh := getB_some h5050; clear h5050; obtain ⟨b5037, h5036, h5050⟩ := hh
            have hh := brn_some h5050; clear h5050; rcases hh with ⟨h5038, h5050⟩ | ⟨h5038, h5050⟩
            · refine W_sound tab_ok mixed 10 _ _ _ ?_
              simp -implicitDefEqProofs only [go_sem, qa, qb, qc, qd, qe, qf, qg, qh, qi, qj, qk, ↓reduceIte, h4950, h4956, h4959, h4965, g4968, g4969, h4970, g4972, g4973, g4974, h4975, h5011, g5012, g5013, g5014, h5015, h5020, h5022, h5025, h5036, h5038]
              repeat with_reducible refine ⟨by first | kernel_rfl | decide, ?_⟩
              exact cutQ _ ((Wk_le (.r (.r (.r (.r (.r (.r (.r (.r (.r (.k (.k (.r (.r (.r (.r (.k (.k .nil))))))))))))))))) (OLe.refl _)).trans (cmpS_ok (st' := ⟨[], [(0, .v .nl), (1, .dead), (2, .dead), (3, .dead), (4, .dead), (5, .ptr 4 0), (7, .ptr 5 0), (8, .dead), (9, .v (.int .i64 0)), (10, .dead), (11, .dead), (17, .dead), (28, .v (.lst false n4976 c4977)), (29, .v (.int .i64 ((n4976 : Nat) : Int))), (30, .v (.int .i64 (IntKind.i64.wrap (x5007 + 1)))), (31, .dead), (53, .dead)], [(0, .p [p5033]), (1, .r [.fn 100 [.ptr 2 0]]), (2, .p [(.bool b5034)]), (3, .p [p4945, p5035]), (4, .r [.fn 99 [.ptr 0 0, .ptr 1 0, .ptr 3 0, .ptr 4 0]]), (5, .p [p4951, p4952, p4953, p4954, p4955])], 6, []⟩) (by kernel_rfl))) ⟨n, Nat.lt_succ_self n, _, _, _, _, h5050, rfl⟩
            · refine W_sound tab_ok mixed 10 _ _ _ ?_
              simp -implicitDefEqProofs only [go_sem, qa, qb, qc, qd, qe, qf, qg, qh, qi, qj, qk, ↓reduceIte, h4950, h4956, h4959, h4965, g4968, g4969, h4970, g4972, g4973, g4974, h4975, h5011, g5012, g5013, g5014, h5015, h5020, h5022, h5025, h5036, h5038]
              repeat with_reducible refine ⟨by first | kernel_rfl | decide, ?_⟩
              obtain rfl := Option.some.inj h5050
              (try dsimp only at h5051)
              simp only [Option.some.injEq, Prod.mk.injEq] at h5051; obtain ⟨rfl, rfl, rfl, rfl⟩ := h5051
              exact finD (e2 := [(0, .dead), (1, .dead), (2, .dead), (3, .dead), (4, .dead), (5, .dead), (7, .dead), (8, .v (.bool false)), (9, .dead), (10, .dead), (11, .dead), (17, .dead), (28, .dead), (29, .dead), (30, .dead), (31, .dead), (53, .dead)]) (ob2 := [(5, .p [p4951, p4952, p4953, p4954, p4955]), (17, .p [p5016, p5017]), (64, .p [(.int .i64 x5007)]), (4, .r [.fn 99 [.ptr 0 0, .ptr 1 0, .ptr 3 0, .ptr 4 0]]), (3, .p [p4945, p5035]), (2, .p [(.bool b5034)]), (1, .r [.fn 100 [.ptr 2 0]]), (0, .p [p5033])]) (st' := ⟨[], [(0, .dead), (1, .dead), (2, .dead), (3, .dead), (4, .dead), (5, .dead), (7, .dead), (8, .v (.bool false)), (9, .dead), (10, .dead), (11, .dead), (17, .dead), (28, .dead), (29, .dead), (30, .dead), (31, .dead), (53, .dead)], [(0, .p [p5033]), (1, .r [.fn 100 [.ptr 2 0]]), (2, .p [(.bool b5034)]), (3, .p [p4945, p5035]), (4, .r [.fn 99 [.ptr 0 0, .ptr 1 0, .ptr 3 0, .ptr 4 0]])], 5, []⟩) (.k (.r (.r (.r (.r (.k (.k (.r (.k (.k (.k (.r (.k (.k (.k (.k (.k .nil))))))))))))))))) (.cons _ _ _ _ _ (DLes.refl _) (.cons _ _ _ _ _ (DLes.refl _) (.cons _ _ _ _ _ (DLes.refl _) (.cons _ _ _ _ _ (DLes.refl _) (.cons _ _ _ _ _ (DLes.refl _) (.cons _ _ _ _ _ (DLes.refl _) (.cons _ _ _ _ _ (DLes.refl _) (.cons _ _ _ _ _ (DLes.refl _) .nil)))))))) (by kernel_rfl) (by simp only [go_sem, qa, qb, qc, qd, qe, qf, qg, qh, qi, qj, qk, ↓reduceIte, resQ_tmp, resQ_cell, resQ_nil, retD_one, retD_two, retD_three, retD_none]; try simp [R.val, retD_one, retD_two, retD_three, retD_none])
        · refine W_sound tab_ok mixed 7 _ _ _ ?_
          simp -implicitDefEqProofs only [go_sem, qa, qb, qc, qd, qe, qf, qg, qh, qi, qj, qk, ↓reduceIte, h4950, h4956, h4959, h4965, g4968, g4969, h4970, g4972, g4973, g4974, h4975, h5011]
          repeat with_reducible refine ⟨by first | kernel_rfl | decide, ?_⟩
          obtain rfl := Option.some.inj h5050
          exact cutQ _ ((Wk_le (.k (.r (.r (.r (.r (.k (.k (.r (.k (.r (.r (.r (.k (.k (.k (.k (.r .nil))))))))))))))))) (OLe.refl _)).trans (cmpS_ok (st' := ⟨[], [(0, .dead), (1, .dead), (2, .dead), (3, .dead), (4, .dead), (5, .dead), (7, .dead), (8, .dead), (9, .dead), (10, .dead), (11, .dead), (17, .dead), (28, .dead), (29, .dead), (30, .dead), (31, .dead), (53, .dead)], [(0, .p [p5008]), (1, .r [.fn 100 [.ptr 2 0]]), (2, .p [(.bool b5009)]), (3, .p [p4945, p5010]), (4, .r [.fn 99 [.ptr 0 0, .ptr 1 0, .ptr 3 0, .ptr 4 0]])], 5, []⟩) (by kernel_rfl))) ⟨_, _, _, rfl, rfl⟩
    · rintro _ ⟨p5040, b5041, p5042, rfl, rfl⟩
      (try dsimp only at h5051)
      refine W_sound tab_ok mixed 6 _ _ _ ?_
      simp -implicitDefEqProofs only [go_sem, qa, qb, qc, qd, qe, qf, qg, qh, qi, qj, qk, ↓reduceIte, h4950, h4956, h4959, h4965, g4968, g4969, h4970, g4972, g4973, g4974, h4975]
      repeat with_reducible refine ⟨by first | kernel_rfl | decide, ?_⟩
      simp only [Option.some.injEq, Prod.mk.injEq] at h5051; obtain ⟨rfl, rfl, rfl, rfl⟩ := h5051
      exact finD (e2 := [(0, .dead), (1, .dead), (2, .dead), (3, .dead), (4, .dead), (5, .dead), (7, .dead), (8, .v (.bool true)), (9, .dead), (10, .dead), (11, .dead), (17, .dead), (28, .dead), (29, .dead), (30, .dead), (31, .dead), (53, .dead)]) (ob2 := [(0, .p [p5040]), (1, .r [.fn 100 [.ptr 2 0]]), (2, .p [(.bool b5041)]), (3, .p [p4945, p5042]), (4, .r [.fn 99 [.ptr 0 0, .ptr 1 0, .ptr 3 0, .ptr 4 0]])]) (st' := ⟨[], [(0, .dead), (1, .dead), (2, .dead), (3, .dead), (4, .dead), (5, .dead), (7, .dead), (8, .v (.bool true)), (9, .dead), (10, .dead), (11, .dead), (17, .dead), (28, .dead), (29, .dead), (30, .dead), (31, .dead), (53, .dead)], [(0, .p [p5040]), (1, .r [.fn 100 [.ptr 2 0]]), (2, .p [(.bool b5041)]), (3, .p [p4945, p5042]), (4, .r [.fn 99 [.ptr 0 0, .ptr 1 0, .ptr 3 0, .ptr 4 0]])], 5, []⟩) (.r (.r (.r (.r (.r (.r (.r (.r (.r (.r (.r (.r (.r (.r (.r (.r (.r .nil))))))))))))))))) (.cons _ _ _ _ _ (DLes.refl _) (.cons _ _ _ _ _ (DLes.refl _) (.cons _ _ _ _ _ (DLes.refl _) (.cons _ _ _ _ _ (DLes.refl _) (.cons _ _ _ _ _ (DLes.refl _) .nil))))) (by kernel_rfl) (by simp only [go_sem, qa, qb, qc, qd, qe, qf, qg, qh, qi, qj, qk, ↓reduceIte, resQ_tmp, resQ_cell, resQ_nil, retD_one, retD_two, retD_three, retD_none]; try simp [R.val, retD_one, retD_two, retD_three, retD_none])
def m76_3 (N : Nat) (p5060 : PV) (p5061 : PV) (b5062 : Bool) : Option ((PV × Bool)) :=
  getA2 p5060 fun p5065 p5066 =>
  getL p5061 fun n5068 c5069 =>
  bnd' (m97 N ) fun p5070 =>
  getA5 p5070 fun p5073 p5074 p5075 p5076 p5077 =>
  bnd' (m99_5 N (.agg [p5073, p5074, p5075, p5076, p5077]) (.lst false n5068 c5069) b5062 p5065 p5066) fun (p5078, p5080, b5081, p5082) =>
  getB p5078 fun b5084 =>
  some ((.tup []), b5081)
theorem c76_3 (N : Nat) (p5060 : PV) (p5061 : PV) (b5062 : Bool) (r : PV) (b5086 : Bool) (h : m76_3 N p5060 p5061 b5062 = some (r, b5086)) : V.Fn Tryd.prog 76 1 [.v p5060, .v p5061, .fn 100 [.ptr 0 0]] [(0, .p [(.bool b5062)])] (fun d ob' => d = .v r ∧ ob' = [(0, .p [(.bool b5086)])]) := by
  unfold m76_3 at h
  refine Fn_of (sz := 11) tab_ok [0, 1, 2, 3, 4, 5, 6] [] Tryd.func76 rfl rfl rfl (by simp) ?_
  simp only [initSt, initEnv, List.map_cons, List.map_nil, List.getD_cons_zero, List.getD_cons_succ, List.getD_nil]
  have hh := getA2_some h; clear h; obtain ⟨p5065, p5066, h5064, h⟩ := hh
  have hh := getL_some h; clear h; obtain ⟨n5068, c5069, h5067, h⟩ := hh
  have hh := bnd'_some h; clear h; obtain ⟨p5070, h5071, h⟩ := hh
  refine W_sound tab_ok mixed 17 _ _ _ ?_
  simp -implicitDefEqProofs only [go_sem, qa, qb, qc, qd, qe, qf, qg, qh, qi, qj, qk, ↓reduceIte, h5064, h5067]
  repeat with_reducible refine ⟨by first | kernel_rfl | decide, ?_⟩
  refine Wp_callP (c97 N  _ h5071) (by kernel_rfl) rfl rfl rfl rfl (by decide) ?_
  have hh := getA5_some h; clear h; obtain ⟨p5073, p5074, p5075, p5076, p5077, h5072, h⟩ := hh
  have hh := bnd'_some h; clear h; obtain ⟨⟨p5078, p5080, b5081, p5082⟩, h5079, h⟩ := hh
  (try dsimp only at h)
  (try simp -implicitDefEqProofs only [go_sem, qa, qb, qc, qd, qe, qf, qg, qh, qi, qj, qk, ↓reduceIte, h5064, h5067, h5072])
  refine Wp_callD [5, 6, 0, 4, 13] (c99_5 N _ _ _ _ _ _ _ _ _ h5079) rfl rfl rfl (by first | rfl | (simp only [go_sem, qa, qb, qc, qd, qe, qf, qg, qh, qi, qj, qk, ↓reduceIte, h5064, h5067, h5072] <;> rfl)) rfl (by kernel_rfl) ?_
  have hh := getB_some h; clear h; obtain ⟨b5084, h5083, h⟩ := hh
  refine W_sound tab_ok mixed 2 _ _ _ ?_
  simp -implicitDefEqProofs only [go_sem, qa, qb, qc, qd, qe, qf, qg, qh, qi, qj, qk, ↓reduceIte, h5064, h5067, h5072, h5083]
  repeat with_reducible refine ⟨by first | kernel_rfl | decide, ?_⟩
  simp only [Option.some.injEq, Prod.mk.injEq] at h; obtain ⟨rfl, rfl⟩ := h
  exact finD (e2 := [(0, .dead), (1, .dead), (2, .dead), (3, .dead), (4, .dead), (5, .dead), (6, .dead)]) (ob2 := [(13, .r [.fn 99 [.ptr 5 0, .ptr 6 0, .ptr 4 0, .ptr 13 0]]), (4, .p [p5065, p5082]), (0, .p [(.bool b5081)]), (6, .r [.fn 100 [.ptr 0 0]]), (5, .p [p5080])]) (st' := ⟨[], [(0, .dead), (1, .dead), (2, .dead), (3, .dead), (4, .dead), (5, .dead), (6, .dead)], [(0, .p [(.bool b5081)])], 1, []⟩) (.k (.k (.k (.k (.k (.k (.k .nil))))))) (.cons _ _ _ _ _ (DLes.refl _) (.cons _ _ _ _ _ (DLes.refl _) (.cons _ _ _ _ _ (DLes.refl _) (.cons _ _ _ _ _ (DLes.refl _) (.cons _ _ _ _ _ (DLes.refl _) .nil))))) (by kernel_rfl) (by simp only [go_sem, qa, qb, qc, qd, qe, qf, qg, qh, qi, qj, qk, ↓reduceIte, resQ_tmp, resQ_cell, resQ_nil, retD_one, retD_two, retD_three, retD_none]; try simp [R.val, retD_one, retD_two, retD_three, retD_none])
def m82 (N : Nat) (p4608 : PV) (p4609 : PV) : Option (PV) :=
  getA2 p4608 fun p4611 p4612 =>
  getL p4609 fun n4614 c4615 =>
  bnd' (m76_3 N (.agg [p4611, p4612]) (.lst false n4614 c4615) false) fun (p5087, b5089) =>
  getT0 p5087 <|
  some (.bool b5089)
theorem c82 (N : Nat) (p4608 : PV) (p4609 : PV) (r : PV)  (h : m82 N p4608 p4609 = some r) : FnP Tryd.prog 82 [p4608, p4609] r := by
  unfold m82 at h
  refine Fn_of (sz := 11) tab_ok [0, 1, 2, 4, 5] [.tmp 4] Tryd.func82 rfl rfl rfl (by simp) ?_
  simp only [initSt, initEnv, List.map_cons, List.map_nil, List.getD_cons_zero, List.getD_cons_succ, List.getD_nil]
  have hh := getA2_some h; clear h; obtain ⟨p4611, p4612, h4610, h⟩ := hh
  have hh := getL_some h; clear h; obtain ⟨n4614, c4615, h4613, h⟩ := hh
  have hh := bnd'_some h; clear h; obtain ⟨⟨p5087, b5089⟩, h5088, h⟩ := hh
  (try dsimp only at h)
  refine W_sound tab_ok mixed 15 _ _ _ ?_
  simp -implicitDefEqProofs only [go_sem, qa, qb, qc, qd, qe, qf, qg, qh, qi, qj, qk, ↓reduceIte, h4610, h4613]
  repeat with_reducible refine ⟨by first | kernel_rfl | decide, ?_⟩
  refine Wp_callD [8] (c76_3 N _ _ _ _ _ h5088) rfl rfl rfl (by first | rfl | (simp only [go_sem, qa, qb, qc, qd, qe, qf, qg, qh, qi, qj, qk, ↓reduceIte, h4610, h4613] <;> rfl)) rfl (by kernel_rfl) ?_
  have hh := getT0_some h; clear h; obtain ⟨h5090, h⟩ := hh
  refine W_sound tab_ok mixed 8 _ _ _ ?_
  simp -implicitDefEqProofs only [go_sem, qa, qb, qc, qd, qe, qf, qg, qh, qi, qj, qk, ↓reduceIte, h4610, h4613, h5090]
  repeat with_reducible refine ⟨by first | kernel_rfl | decide, ?_⟩
  obtain rfl := Option.some.inj h
  exact finC [(4, .v (.bool b5089))] [(4, .v (.bool b5089))] (by simp [leE, lk_cons]) (.cons _ _ _ _ _ (.v _ _ (.refl _)) .nil) (by rfl) (by simp [leE, lk_cons]) (by decide) (by decide) rfl (by simp only [go_sem, qa, qb, qc, qd, qe, qf, qg, qh, qi, qj, qk, ↓reduceIte, resQ_tmp, resQ_cell, resQ_nil, retD_one, retD_two, retD_three, retD_none]; try simp [R.val, retD_one, retD_two, retD_three, retD_none])
def m68_3_L0 (N : Nat) (x4597 : Int) (b4598 : Bool) (p4599 : PV) : Nat → PV → Int → Option (PV)
  | 0, _, _ => none
  | n + 1, p5096, x5097 =>
    brn (decide (x5097 < (IntKind.u64.wrap (1 * 2 ^ (min (Int.toNat x4597) 64))))) (
      bnd' (m77 N x5097) fun p5099 =>
      getL p5099 fun n5102 c5103 =>
      bnd' (m82 N p4599 (.lst false n5102 c5103)) fun p5104 =>
      getB p5104 fun b5107 =>
      brn b5107 (
        getIf 1000025 p5096 (
          m68_3_L0 N x4597 b4598 p4599 n (.fn 1000025 [(.lst false n5102 c5103)]) (IntKind.u64.wrap (x5097 + 1))) fun p5110 =>
        getL p5110 fun n5112 c5113 =>
        brn (((n5102 : Nat) : Int) == ((n5112 : Nat) : Int)) (
          bnd' (m47 N (.lst false n5102 c5103) (.lst false n5112 c5113)) fun p5115 =>
          getI .i64 p5115 fun x5118 =>
          brn (decide (x5118 < 0)) (
            m68_3_L0 N x4597 b4598 p4599 n (.fn 1000025 [(.lst false n5102 c5103)]) (IntKind.u64.wrap (x5097 + 1))) (
            brn (((n5102 : Nat) : Int) != ((n5112 : Nat) : Int)) (
              brn ((decide (((n5102 : Nat) : Int) > ((n5112 : Nat) : Int))) == b4598) (
                m68_3_L0 N x4597 b4598 p4599 n (.fn 1000025 [(.lst false n5102 c5103)]) (IntKind.u64.wrap (x5097 + 1))) (
                m68_3_L0 N x4597 b4598 p4599 n (.fn 1000025 [(.lst false n5112 c5113)]) (IntKind.u64.wrap (x5097 + 1)))) (
              m68_3_L0 N x4597 b4598 p4599 n (.fn 1000025 [(.lst false n5112 c5113)]) (IntKind.u64.wrap (x5097 + 1))))) (
          brn (((n5102 : Nat) : Int) != ((n5112 : Nat) : Int)) (
            brn ((decide (((n5102 : Nat) : Int) > ((n5112 : Nat) : Int))) == b4598) (
              m68_3_L0 N x4597 b4598 p4599 n (.fn 1000025 [(.lst false n5102 c5103)]) (IntKind.u64.wrap (x5097 + 1))) (
              m68_3_L0 N x4597 b4598 p4599 n (.fn 1000025 [(.lst false n5112 c5113)]) (IntKind.u64.wrap (x5097 + 1)))) (
            m68_3_L0 N x4597 b4598 p4599 n (.fn 1000025 [(.lst false n5112 c5113)]) (IntKind.u64.wrap (x5097 + 1))))) (
        m68_3_L0 N x4597 b4598 p4599 n p5096 (IntKind.u64.wrap (x5097 + 1)))) (
      some p5096)
def m68_3 (N : Nat) (x4597 : Int) (b4598 : Bool) (p4599 : PV) : Option (PV) :=
  grd (0 ≤ x4597) <|
  bnd' (m68_3_L0 N x4597 b4598 p4599 N (.fn 999999 []) 0) fun p5124 =>
  getIf 1000025 p5124 (
    some (.tup [(.lst false 0 []), (.bool false)])) fun p5126 =>
  getL p5126 fun n5128 c5129 =>
  some (.tup [(.lst false n5128 c5129), (.bool true)])
theorem c68_3 (N : Nat) (x4597 : Int) (b4598 : Bool) (p4599 : PV) (r : PV)  (h : m68_3 N x4597 b4598 p4599 = some r) : FnP Tryd.prog 68 [(.int .i64 x4597), (.bool b4598), (.fn 999999 [(.fn 82 []), p4599])] r := by
  unfold m68_3 at h
  refine Fn_of (sz := 74) tab_ok [0, 1, 2, 6, 7, 8, 9, 10, 11, 12, 13, 14, 15, 17, 18, 19, 26, 63] [.tmp 6, .tmp 7] Tryd.func68 rfl rfl rfl (by simp) ?_
  simp only [initSt, initEnv, List.map_cons, List.map_nil, List.getD_cons_zero, List.getD_cons_succ, List.getD_nil]
  have hh := grd_some h; clear h; obtain ⟨g4600, h⟩ := hh
  refine W_sound tab_ok mixed 16 _ _ _ ?_
  simp -implicitDefEqProofs only [go_sem, qa, qb, qc, qd, qe, qf, qg, qh, qi, qj, qk, ↓reduceIte, g4600]
  repeat with_reducible refine ⟨by first | kernel_rfl | decide, ?_⟩
  have hh := bnd'_some h; clear h; obtain ⟨o5130, h5131, h5132⟩ := hh
  refine Wp_cut (fun s => ∃ p5124, p5124 = o5130 ∧ s = ⟨[], [(0, .dead), (1, .dead), (2, .dead), (6, .dead), (7, .dead), (8, .v p5124), (9, .dead), (10, .dead), (11, .dead), (12, .dead), (13, .dead), (14, .dead), (15, .dead), (17, .dead), (18, .dead), (19, .dead), (26, .dead), (63, .dead)], [], 0, []⟩) ?_ ?_
  · refine Wp_block ?_
    refine Wp_loopG (fun n s => ∃ p5096, ∃ x5097, m68_3_L0 N x4597 b4598 p4599 n p5096 x5097 = some o5130 ∧ s = ⟨[], [(0, .dead), (1, .v (.bool b4598)), (2, .v (.fn 999999 [(.fn 82 []), p4599])), (6, .dead), (7, .dead), (8, .v p5096), (9, .dead), (10, .dead), (11, .dead), (12, .dead), (13, .dead), (14, .dead), (15, .dead), (17, .v (.int .u64 (IntKind.u64.wrap (1 * 2 ^ (min (Int.toNat x4597) 64))))), (18, .v (.int .u64 x5097)), (19, .dead), (26, .dead), (63, .dead)], [], 0, []⟩) N _ ((Wk_le (.k (.r (.r (.k (.k (.r (.r (.r (.r (.r (.r (.r (.r (.r (.r (.r (.r (.r .nil)))))))))))))))))) (OLe.refl _)).trans (cmpS_ok (st' := ⟨[], [(0, .dead), (1, .v (.bool b4598)), (2, .v (.fn 999999 [(.fn 82 []), p4599])), (6, .dead), (7, .dead), (8, .v (.fn 999999 [])), (9, .dead), (10, .dead), (11, .dead), (12, .dead), (13, .dead), (14, .dead), (15, .dead), (17, .v (.int .u64 (IntKind.u64.wrap (1 * 2 ^ (min (Int.toNat x4597) 64))))), (18, .v (.int .u64 0)), (19, .dead), (26, .dead), (63, .dead)], [], 0, []⟩) (by kernel_rfl))) ⟨_, _, h5131, rfl⟩ ?_
    clear h5131
    rintro n _ ⟨p5096, x5097, h5131, rfl⟩
    cases n with
    | zero => cases h5131
    | succ n =>
      rw [m68_3_L0] at h5131
      have hh := brn_some h5131; clear h5131; rcases hh with ⟨h5098, h5131⟩ | ⟨h5098, h5131⟩
      · have hh := bnd'_some h5131; clear h5131; obtain ⟨p5099, h5100, h5131⟩ := hh
        refine W_sound tab_ok mixed 17 _ _ _ ?_
        simp -implicitDefEqProofs only [go_sem, qa, qb, qc, qd, qe, qf, qg, qh, qi, qj, qk, ↓reduceIte, g4600, h5098]
        repeat with_reducible refine ⟨by first | kernel_rfl | decide, ?_⟩
        refine Wp_callP (c77 N _ _ h5100) (by kernel_rfl) rfl rfl rfl rfl (by decide) ?_
        have hh := getL_some h5131; clear h5131; obtain ⟨n5102, c5103, h5101, h5131⟩ := hh
        have hh := bnd'_some h5131; clear h5131; obtain ⟨p5104, h5105, h5131⟩ := hh
        refine W_sound tab_ok mixed 7 _ _ _ ?_
        simp -implicitDefEqProofs only [go_sem, qa, qb, qc, qd, qe, qf, qg, qh, qi, qj, qk, ↓reduceIte, g4600, h5098, h5101]
        repeat with_reducible refine ⟨by first | kernel_rfl | decide, ?_⟩
        refine Wp_callP (c82 N _ _ _ h5105) (by kernel_rfl) rfl rfl rfl rfl (by decide) ?_
        have hh := getB_some h5131; clear h5131; obtain ⟨b5107, h5106, h5131⟩ := hh
        have hh := brn_some h5131; clear h5131; rcases hh with ⟨h5108, h5131⟩ | ⟨h5108, h5131⟩
        · have hh := getIf_some h5131; clear h5131; rcases hh with ⟨h5109, h5131⟩ | ⟨p5110, h5109, h5131⟩
          · refine W_sound tab_ok mixed 64 _ _ _ ?_
            simp -implicitDefEqProofs only [go_sem, qa, qb, qc, qd, qe, qf, qg, qh, qi, qj, qk, ↓reduceIte, g4600, h5098, h5101, h5106, h5108, h5109]
            repeat with_reducible refine ⟨by first | kernel_rfl | decide, ?_⟩
            exact cutQ _ ((Wk_le (.r (.r (.r (.r (.r (.r (.k (.k (.k (.k (.k (.r (.r (.r (.r (.k (.k (.k .nil)))))))))))))))))) (OLe.refl _)).trans (cmpS_ok (st' := ⟨[], [(0, .dead), (1, .v (.bool b4598)), (2, .v (.fn 999999 [(.fn 82 []), p4599])), (6, .dead), (7, .dead), (8, .v (.fn 1000025 [(.lst false n5102 c5103)])), (9, .dead), (10, .dead), (11, .dead), (12, .dead), (13, .dead), (14, .dead), (15, .dead), (17, .v (.int .u64 (IntKind.u64.wrap (1 * 2 ^ (min (Int.toNat x4597) 64))))), (18, .v (.int .u64 (IntKind.u64.wrap (x5097 + 1)))), (19, .dead), (26, .dead), (63, .dead)], [], 0, []⟩) (by kernel_rfl))) ⟨n, Nat.lt_succ_self n, _, _, h5131, rfl⟩
          · have hh := getL_some h5131; clear h5131; obtain ⟨n5112, c5113, h5111, h5131⟩ := hh
            have hh := brn_some h5131; clear h5131; rcases hh with ⟨h5114, h5131⟩ | ⟨h5114, h5131⟩
            · have hh := bnd'_some h5131; clear h5131; obtain ⟨p5115, h5116, h5131⟩ := hh
              refine W_sound tab_ok mixed 27 _ _ _ ?_
              simp -implicitDefEqProofs only [go_sem, qa, qb, qc, qd, qe, qf, qg, qh, qi, qj, qk, ↓reduceIte, g4600, h5098, h5101, h5106, h5108, h5109, h5111, h5114]
              repeat with_reducible refine ⟨by first | kernel_rfl | decide, ?_⟩
              refine Wp_callP (c47 N _ _ _ h5116) (by kernel_rfl) rfl rfl rfl rfl (by decide) ?_
              have hh := getI_some h5131; clear h5131; obtain ⟨x5118, h5117, h5131⟩ := hh
              have hh := brn_some h5131; clear h5131; rcases hh with ⟨h5119, h5131⟩ | ⟨h5119, h5131⟩
              · refine W_sound tab_ok mixed 36 _ _ _ ?_
                simp -implicitDefEqProofs only [go_sem, qa, qb, qc, qd, qe, qf, qg, qh, qi, qj, qk, ↓reduceIte, g4600, h5098, h5101, h5106, h5108, h5109, h5111, h5114, h5117, h5119]
                repeat with_reducible refine ⟨by first | kernel_rfl | decide, ?_⟩
                exact cutQ _ ((Wk_le (.r (.r (.r (.r (.r (.r (.k (.k (.k (.k (.k (.r (.r (.r (.r (.k (.k (.k .nil)))))))))))))))))) (OLe.refl _)).trans (cmpS_ok (st' := ⟨[], [(0, .dead), (1, .v (.bool b4598)), (2, .v (.fn 999999 [(.fn 82 []), p4599])), (6, .dead), (7, .dead), (8, .v (.fn 1000025 [(.lst false n5102 c5103)])), (9, .dead), (10, .dead), (11, .dead), (12, .dead), (13, .dead), (14, .dead), (15, .dead), (17, .v (.int .u64 (IntKind.u64.wrap (1 * 2 ^ (min (Int.toNat x4597) 64))))), (18, .v (.int .u64 (IntKind.u64.wrap (x5097 + 1)))), (19, .dead), (26, .dead), (63, .dead)], [], 0, []⟩) (by kernel_rfl))) ⟨n, Nat.lt_succ_self n, _, _, h5131, rfl⟩
              · have hh := brn_some h5131; clear h5131; rcases hh with ⟨h5120, h5131⟩ | ⟨h5120, h5131⟩
                · have hh := brn_some h5131; clear h5131; rcases hh with ⟨h5121, h5131⟩ | ⟨h5121, h5131⟩
                  · refine W_sound tab_ok mixed 36 _ _ _ ?_
                    simp -implicitDefEqProofs only [go_sem, qa, qb, qc, qd, qe, qf, qg, qh, qi, qj, qk, ↓reduceIte, g4600, h5098, h5101, h5106, h5108, h5109, h5111, h5114, h5117, h5119, h5120, h5121]
                    repeat with_reducible refine ⟨by first | kernel_rfl | decide, ?_⟩
                    exact cutQ _ ((Wk_le (.r (.r (.r (.r (.r (.r (.k (.k (.k (.k (.k (.r (.r (.r (.r (.k (.k (.k .nil)))))))))))))))))) (OLe.refl _)).trans (cmpS_ok (st' := ⟨[], [(0, .dead), (1, .v (.bool b4598)), (2, .v (.fn 999999 [(.fn 82 []), p4599])), (6, .dead), (7, .dead), (8, .v (.fn 1000025 [(.lst false n5102 c5103)])), (9, .dead), (10, .dead), (11, .dead), (12, .dead), (13, .dead), (14, .dead), (15, .dead), (17, .v (.int .u64 (IntKind.u64.wrap (1 * 2 ^ (min (Int.toNat x4597) 64))))), (18, .v (.int .u64 (IntKind.u64.wrap (x5097 + 1)))), (19, .dead), (26, .dead), (63, .dead)], [], 0, []⟩) (by kernel_rfl))) ⟨n, Nat.lt_succ_self n, _, _, h5131, rfl⟩
                  · refine W_sound tab_ok mixed 32 _ _ _ ?_
                    simp -implicitDefEqProofs only [go_sem, qa, qb, qc, qd, qe, qf, qg, qh, qi, qj, qk, ↓reduceIte, g4600, h5098, h5101, h5106, h5108, h5109, h5111, h5114, h5117, h5119, h5120, h5121]
                    repeat with_reducible refine ⟨by first | kernel_rfl | decide, ?_⟩
                    exact cutQ _ ((Wk_le (.r (.r (.r (.r (.r (.r (.k (.k (.k (.k (.k (.r (.r (.r (.r (.k (.k (.k .nil)))))))))))))))))) (OLe.refl _)).trans (cmpS_ok (st' := ⟨[], [(0, .dead), (1, .v (.bool b4598)), (2, .v (.fn 999999 [(.fn 82 []), p4599])), (6, .dead), (7, .dead), (8, .v (.fn 1000025 [(.lst false n5112 c5113)])), (9, .dead), (10, .dead), (11, .dead), (12, .dead), (13, .dead), (14, .dead), (15, .dead), (17, .v (.int .u64 (IntKind.u64.wrap (1 * 2 ^ (min (Int.toNat x4597) 64))))), (18, .v (.int .u64 (IntKind.u64.wrap (x5097 + 1)))), (19, .dead), (26, .dead), (63, .dead)], [], 0, []⟩) (by kernel_rfl))) ⟨n, Nat.lt_succ_self n, _, _, h5131, rfl⟩
                · refine W_sound tab_ok mixed 32 _ _ _ ?_
                  simp -implicitDefEqProofs only [go_sem, qa, qb, qc, qd, qe, qf, qg, qh, qi, qj, qk, ↓reduceIte, g4600, h5098, h5101, h5106, h5108, h5109, h5111, h5114, h5117, h5119, h5120]
                  repeat with_reducible refine ⟨by first | kernel_rfl | decide, ?_⟩
                  exact cutQ _ ((Wk_le (.r (.r (.r (.r (.r (.r (.k (.k (.k (.k (.k (.r (.r (.r (.r (.k (.k (.k .nil)))))))))))))))))) (OLe.refl _)).trans (cmpS_ok (st' := ⟨[], [(0, .dead), (1, .v (.bool b4598)), (2, .v (.fn 999999 [(.fn 82 []), p4599])), (6, .dead), (7, .dead), (8, .v (.fn 1000025 [(.lst false n5112 c5113)])), (9, .dead), (10, .dead), (11, .dead), (12, .dead), (13, .dead), (14, .dead), (15, .dead), (17, .v (.int .u64 (IntKind.u64.wrap (1 * 2 ^ (min (Int.toNat x4597) 64))))), (18, .v (.int .u64 (IntKind.u64.wrap (x5097 + 1)))), (19, .dead), (26, .dead), (63, .dead)], [], 0, []⟩) (by kernel_rfl))) ⟨n, Nat.lt_succ_self n, _, _, h5131, rfl⟩
            · have hh := brn_some h5131; clear h5131; rcases hh with ⟨h5122, h5131⟩ | ⟨h5122, h5131⟩
              · have hh := brn_some h5131; clear h5131; rcases hh with ⟨h5123, h5131⟩ | ⟨h5123, h5131⟩
                · refine W_sound tab_ok mixed 64 _ _ _ ?_
                  simp -implicitDefEqProofs only [go_sem, qa, qb, qc, qd, qe, qf, qg, qh, qi, qj, qk, ↓reduceIte, g4600, h5098, h5101, h5106, h5108, h5109, h5111, h5114, h5122, h5123]
                  repeat with_reducible refine ⟨by first | kernel_rfl | decide, ?_⟩
                  exact cutQ _ ((Wk_le (.r (.r (.r (.r (.r (.r (.k (.k (.k (.k (.k (.r (.r (.r (.r (.k (.k (.k .nil)))))))))))))))))) (OLe.refl _)).trans (cmpS_ok (st' := ⟨[], [(0, .dead), (1, .v (.bool b4598)), (2, .v (.fn 999999 [(.fn 82 []), p4599])), (6, .dead), (7, .dead), (8, .v (.fn 1000025 [(.lst false n5102 c5103)])), (9, .dead), (10, .dead), (11, .dead), (12, .dead), (13, .dead), (14, .dead), (15, .dead), (17, .v (.int .u64 (IntKind.u64.wrap (1 * 2 ^ (min (Int.toNat x4597) 64))))), (18, .v (.int .u64 (IntKind.u64.wrap (x5097 + 1)))), (19, .dead), (26, .dead), (63, .dead)], [], 0, []⟩) (by kernel_rfl))) ⟨n, Nat.lt_succ_self n, _, _, h5131, rfl⟩
                · refine W_sound tab_ok mixed 60 _ _ _ ?_
                  simp -implicitDefEqProofs only [go_sem, qa, qb, qc, qd, qe, qf, qg, qh, qi, qj, qk, ↓reduceIte, g4600, h5098, h5101, h5106, h5108, h5109, h5111, h5114, h5122, h5123]
                  repeat with_reducible refine ⟨by first | kernel_rfl | decide, ?_⟩
                  exact cutQ _ ((Wk_le (.r (.r (.r (.r (.r (.r (.k (.k (.k (.k (.k (.r (.r (.r (.r (.k (.k (.k .nil)))))))))))))))))) (OLe.refl _)).trans (cmpS_ok (st' := ⟨[], [(0, .dead), (1, .v (.bool b4598)), (2, .v (.fn 999999 [(.fn 82 []), p4599])), (6, .dead), (7, .dead), (8, .v (.fn 1000025 [(.lst false n5112 c5113)])), (9, .dead), (10, .dead), (11, .dead), (12, .dead), (13, .dead), (14, .dead), (15, .dead), (17, .v (.int .u64 (IntKind.u64.wrap (1 * 2 ^ (min (Int.toNat x4597) 64))))), (18, .v (.int .u64 (IntKind.u64.wrap (x5097 + 1)))), (19, .dead), (26, .dead), (63, .dead)], [], 0, []⟩) (by kernel_rfl))) ⟨n, Nat.lt_succ_self n, _, _, h5131, rfl⟩
              · refine W_sound tab_ok mixed 60 _ _ _ ?_
                simp -implicitDefEqProofs only [go_sem, qa, qb, qc, qd, qe, qf, qg, qh, qi, qj, qk, ↓reduceIte, g4600, h5098, h5101, h5106, h5108, h5109, h5111, h5114, h5122]
                repeat with_reducible refine ⟨by first | kernel_rfl | decide, ?_⟩
                exact cutQ _ ((Wk_le (.r (.r (.r (.r (.r (.r (.k (.k (.k (.k (.k (.r (.r (.r (.r (.k (.k (.k .nil)))))))))))))))))) (OLe.refl _)).trans (cmpS_ok (st' := ⟨[], [(0, .dead), (1, .v (.bool b4598)), (2, .v (.fn 999999 [(.fn 82 []), p4599])), (6, .dead), (7, .dead), (8, .v (.fn 1000025 [(.lst false n5112 c5113)])), (9, .dead), (10, .dead), (11, .dead), (12, .dead), (13, .dead), (14, .dead), (15, .dead), (17, .v (.int .u64 (IntKind.u64.wrap (1 * 2 ^ (min (Int.toNat x4597) 64))))), (18, .v (.int .u64 (IntKind.u64.wrap (x5097 + 1)))), (19, .dead), (26, .dead), (63, .dead)], [], 0, []⟩) (by kernel_rfl))) ⟨n, Nat.lt_succ_self n, _, _, h5131, rfl⟩
        · refine W_sound tab_ok mixed 8 _ _ _ ?_
          simp -implicitDefEqProofs only [go_sem, qa, qb, qc, qd, qe, qf, qg, qh, qi, qj, qk, ↓reduceIte, g4600, h5098, h5101, h5106, h5108]
          repeat with_reducible refine ⟨by first | kernel_rfl | decide, ?_⟩
          exact cutQ _ ((Wk_le (.r (.r (.r (.r (.r (.r (.k (.k (.r (.r (.r (.r (.r (.r (.r (.k (.k (.r .nil)))))))))))))))))) (OLe.refl _)).trans (cmpS_ok (st' := ⟨[], [(0, .dead), (1, .v (.bool b4598)), (2, .v (.fn 999999 [(.fn 82 []), p4599])), (6, .dead), (7, .dead), (8, .v p5096), (9, .dead), (10, .dead), (11, .dead), (12, .dead), (13, .dead), (14, .dead), (15, .dead), (17, .v (.int .u64 (IntKind.u64.wrap (1 * 2 ^ (min (Int.toNat x4597) 64))))), (18, .v (.int .u64 (IntKind.u64.wrap (x5097 + 1)))), (19, .dead), (26, .dead), (63, .dead)], [], 0, []⟩) (by kernel_rfl))) ⟨n, Nat.lt_succ_self n, _, _, h5131, rfl⟩
      · refine W_sound tab_ok mixed 7 _ _ _ ?_
        simp -implicitDefEqProofs only [go_sem, qa, qb, qc, qd, qe, qf, qg, qh, qi, qj, qk, ↓reduceIte, g4600, h5098]
        repeat with_reducible refine ⟨by first | kernel_rfl | decide, ?_⟩
        obtain rfl := Option.some.inj h5131
        exact cutQ _ ((Wk_le (.r (.k (.k (.r (.r (.r (.r (.r (.r (.r (.r (.r (.r (.k (.k (.k (.r (.r .nil)))))))))))))))))) (OLe.refl _)).trans (cmpS_ok (st' := ⟨[], [(0, .dead), (1, .dead), (2, .dead), (6, .dead), (7, .dead), (8, .v p5096), (9, .dead), (10, .dead), (11, .dead), (12, .dead), (13, .dead), (14, .dead), (15, .dead), (17, .dead), (18, .dead), (19, .dead), (26, .dead), (63, .dead)], [], 0, []⟩) (by kernel_rfl))) ⟨_, rfl, rfl⟩
  · rintro _ ⟨p5124, rfl, rfl⟩
    have hh := getIf_some h5132; clear h5132; rcases hh with ⟨h5125, h5132⟩ | ⟨p5126, h5125, h5132⟩
    · refine W_sound tab_ok mixed 19 _ _ _ ?_
      simp -implicitDefEqProofs only [go_sem, qa, qb, qc, qd, qe, qf, qg, qh, qi, qj, qk, ↓reduceIte, g4600, h5125]
      repeat with_reducible refine ⟨by first | kernel_rfl | decide, ?_⟩
      obtain rfl := Option.some.inj h5132
      exact finC [(6, .v .nl), (7, .v (.bool false))] [(6, .v (.lst false 0 [])), (7, .v (.bool false))] (by simp [leE, lk_cons]) (.cons _ _ _ _ _ (.v _ _ (.nl false)) (.cons _ _ _ _ _ (.v _ _ (.refl _)) .nil)) (by rfl) (by simp [leE, lk_cons]) (by decide) (by decide) rfl (by simp only [go_sem, qa, qb, qc, qd, qe, qf, qg, qh, qi, qj, qk, ↓reduceIte, resQ_tmp, resQ_cell, resQ_nil, retD_one, retD_two, retD_three, retD_none]; try simp [R.val, retD_one, retD_two, retD_three, retD_none])
    · have hh := getL_some h5132; clear h5132; obtain ⟨n5128, c5129, h5127, h5132⟩ := hh
      refine W_sound tab_ok mixed 19 _ _ _ ?_
      simp -implicitDefEqProofs only [go_sem, qa, qb, qc, qd, qe, qf, qg, qh, qi, qj, qk, ↓reduceIte, g4600, h5125, h5127]
      repeat with_reducible refine ⟨by first | kernel_rfl | decide, ?_⟩
      obtain rfl := Option.some.inj h5132
      exact finC [(6, .v (.lst false n5128 c5129)), (7, .v (.bool true))] [(6, .v (.lst false n5128 c5129)), (7, .v (.bool true))] (by simp [leE, lk_cons]) (.cons _ _ _ _ _ (.v _ _ (.refl _)) (.cons _ _ _ _ _ (.v _ _ (.refl _)) .nil)) (by rfl) (by simp [leE, lk_cons]) (by decide) (by decide) rfl (by simp only [go_sem, qa, qb, qc, qd, qe, qf, qg, qh, qi, qj, qk, ↓reduceIte, resQ_tmp, resQ_cell, resQ_nil, retD_one, retD_two, retD_three, retD_none]; try simp [R.val, retD_one, retD_two, retD_three, retD_none])
def m32 (N : Nat) (p4585 : PV) : Option (PV) :=
  getA2 p4585 fun p4587 p4588 =>
  bnd' (m22 N (.agg [p4587, p4588])) fun p4589 =>
  getI .i64 p4589 fun x4592 =>
  brn (x4592 != 0) (
    some (.tup [(.lst false 0 []), (.int .i64 x4592)])) (
    getL p4588 fun n4595 c4596 =>
    bnd' (m68_3 N ((n4595 : Nat) : Int) true (.agg [p4587, (.lst false n4595 c4596)])) fun p5133 =>
    getT2 p5133 fun p5136 p5137 =>
    getL p5136 fun n5139 c5140 =>
    getB p5137 fun b5142 =>
    some (.tup [(.lst false n5139 c5140), (.int .i64 0)]))
theorem c32 (N : Nat) (p4585 : PV) (r : PV)  (h : m32 N p4585 = some r) : FnP Tryd.prog 32 [p4585] r := by
  unfold m32 at h
  refine Fn_of (sz := 22) tab_ok [0, 1, 2, 3, 4, 5, 10] [.tmp 2, .tmp 3] Tryd.func32 rfl rfl rfl (by simp) ?_
  simp only [initSt, initEnv, List.map_cons, List.map_nil, List.getD_cons_zero, List.getD_cons_succ, List.getD_nil]
  have hh := getA2_some h; clear h; obtain ⟨p4587, p4588, h4586, h⟩ := hh
  have hh := bnd'_some h; clear h; obtain ⟨p4589, h4590, h⟩ := hh
  refine W_sound tab_ok mixed 10 _ _ _ ?_
  simp -implicitDefEqProofs only [go_sem, qa, qb, qc, qd, qe, qf, qg, qh, qi, qj, qk, ↓reduceIte, h4586]
  repeat with_reducible refine ⟨by first | kernel_rfl | decide, ?_⟩
  refine Wp_callP (c22 N _ _ h4590) (by kernel_rfl) rfl rfl rfl rfl (by decide) ?_
  have hh := getI_some h; clear h; obtain ⟨x4592, h4591, h⟩ := hh
  have hh := brn_some h; clear h; rcases hh with ⟨h4593, h⟩ | ⟨h4593, h⟩
  · refine W_sound tab_ok mixed 16 _ _ _ ?_
    simp -implicitDefEqProofs only [go_sem, qa, qb, qc, qd, qe, qf, qg, qh, qi, qj, qk, ↓reduceIte, h4586, h4591, h4593]
    repeat with_reducible refine ⟨by first | kernel_rfl | decide, ?_⟩
    obtain rfl := Option.some.inj h
    exact finC [(2, .v .nl), (3, .v (.int .i64 x4592))] [(2, .v (.lst false 0 [])), (3, .v (.int .i64 x4592))] (by simp [leE, lk_cons]) (.cons _ _ _ _ _ (.v _ _ (.nl false)) (.cons _ _ _ _ _ (.v _ _ (.refl _)) .nil)) (by rfl) (by simp [leE, lk_cons]) (by decide) (by decide) rfl (by simp only [go_sem, qa, qb, qc, qd, qe, qf, qg, qh, qi, qj, qk, ↓reduceIte, resQ_tmp, resQ_cell, resQ_nil, retD_one, retD_two, retD_three, retD_none]; try simp [R.val, retD_one, retD_two, retD_three, retD_none])
  · have hh := getL_some h; clear h; obtain ⟨n4595, c4596, h4594, h⟩ := hh
    have hh := bnd'_some h; clear h; obtain ⟨p5133, h5134, h⟩ := hh
    refine W_sound tab_ok mixed 16 _ _ _ ?_
    simp -implicitDefEqProofs only [go_sem, qa, qb, qc, qd, qe, qf, qg, qh, qi, qj, qk, ↓reduceIte, h4586, h4591, h4593, h4594]
    repeat with_reducible refine ⟨by first | kernel_rfl | decide, ?_⟩
    refine Wp_callP (c68_3 N _ _ _ _ h5134) (by kernel_rfl) rfl rfl rfl rfl (by decide) ?_
    have hh := getT2_some h; clear h; obtain ⟨p5136, p5137, h5135, h⟩ := hh
    have hh := getL_some h; clear h; obtain ⟨n5139, c5140, h5138, h⟩ := hh
    have hh := getB_some h; clear h; obtain ⟨b5142, h5141, h⟩ := hh
    refine W_sound tab_ok mixed 14 _ _ _ ?_
    simp -implicitDefEqProofs only [go_sem, qa, qb, qc, qd, qe, qf, qg, qh, qi, qj, qk, ↓reduceIte, h4586, h4591, h4593, h4594, h5135, h5138, h5141]
    repeat with_reducible refine ⟨by first | kernel_rfl | decide, ?_⟩
    obtain rfl := Option.some.inj h
    exact finC [(2, .v (.lst false n5139 c5140)), (3, .v (.int .i64 0))] [(2, .v (.lst false n5139 c5140)), (3, .v (.int .i64 0))] (by simp [leE, lk_cons]) (.cons _ _ _ _ _ (.v _ _ (.refl _)) (.cons _ _ _ _ _ (.v _ _ (.refl _)) .nil)) (by rfl) (by simp [leE, lk_cons]) (by decide) (by decide) rfl (by simp only [go_sem, qa, qb, qc, qd, qe, qf, qg, qh, qi, qj, qk, ↓reduceIte, resQ_tmp, resQ_cell, resQ_nil, retD_one, retD_two, retD_three, retD_none]; try simp [R.val, retD_one, retD_two, retD_three, retD_none])
end Go.Proofs.YtnponojgpkbagaaDoor
