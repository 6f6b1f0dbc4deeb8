/-
  Models and laws.
-/
import Derived.Test.YteidcinajdehkaaDCCstA
import Derived.Test.YteidcinajdehkaaDCPriA
import Derived.Test.YteidcinajdehkaaDCV41
set_option linter.unusedSimpArgs false
set_option linter.unusedVariables false
namespace Go.Proofs.Yteidcinajdehkaa
open Go.V
set_option maxRecDepth 100000
set_option maxHeartbeats 4000000
set_option linter.unusedSimpArgs false
set_option linter.unusedVariables false
attribute [local go_sem] tl1 tl2 tl3 tl4 tl5 tl9 tl17 tl21 tl22 tl23 tl24 tl25 tl26 tl27 tl28 tl29 tl30 tl32 tl33 tl35 tl36 tl37 tl38 tl39 tl40 tl41 tl42 tl43 tl44 tl46 tl48 tl50 tl51 tl52 tl53 tl54 tl56 tl58 tl59 tl60 tl61 tl62 tl63 tl64 tl65 tl66 tl67 tl68 tl69 tl70 tl72 tl74 tl75 tl76 tl77 tl78 tl79 tl80 tl81 tl82 tl83 tl84 tl85 tl86 tl87 tl88 tl89 tl90 tl91 tl92 tl93 tl94 tl95 tl96 tl97 tl98 tl99 tl100 tl101 tl102 tl103 tl104 tl105 tl106 tl107 tl108 tl109 tl110 tl111 tl112 tl113 tl114 tl115 tl116 tl117 tl118 tl119 tl120 tl121 tl122 tl128 tl129 tl133 ne_eq not_false_eq_true Int.le_refl Nat.le_refl Int.cast_ofNat_Int
noncomputable def m60 (N : Nat) (p2488 : PV) : Option (((Nat × Nat × List PV) ⊕ ((Nat × Nat × Nat × Nat × List PV) ⊕ (Nat × Nat × Nat × Nat × Nat × Nat × List PV)))) :=
  getA2 p2488 fun p2490 p2491 =>
  getL p2491 fun n2493 c2494 =>
  getL p2490 fun n2496 c2497 =>
  grd (0 ≤ (IntKind.i64.wrap (((n2496 : Nat) : Int) * ((n2493 : Nat) : Int))) ∧ (IntKind.i64.wrap (((n2496 : Nat) : Int) * ((n2493 : Nat) : Int))) ≤ (IntKind.i64.wrap (((n2496 : Nat) : Int) * ((n2493 : Nat) : Int))) ∧ (IntKind.i64.wrap (((n2496 : Nat) : Int) * ((n2493 : Nat) : Int))) ≤ 1099511627776) <|
  casN n2496 1 (
    grd (0 ≤ (IntKind.i64.wrap (0 * ((n2493 : Nat) : Int))) ∧ (IntKind.i64.wrap (0 * ((n2493 : Nat) : Int))) ≤ (IntKind.i64.wrap (1 * ((n2493 : Nat) : Int))) ∧ (IntKind.i64.wrap (1 * ((n2493 : Nat) : Int))) ≤ (((Int.toNat (IntKind.i64.wrap (1 * ((n2493 : Nat) : Int)))) : Nat) : Int)) <|
    some (.inl ((Int.toNat (IntKind.i64.wrap (0 * ((n2493 : Nat) : Int)))), (Int.toNat ((IntKind.i64.wrap (1 * ((n2493 : Nat) : Int))) - (IntKind.i64.wrap (0 * ((n2493 : Nat) : Int))))), (List.replicate (Int.toNat (IntKind.i64.wrap (1 * ((n2493 : Nat) : Int)))) (.int .i64 0))))) (
  casN n2496 2 (
    grd (0 ≤ (IntKind.i64.wrap (0 * ((n2493 : Nat) : Int))) ∧ (IntKind.i64.wrap (0 * ((n2493 : Nat) : Int))) ≤ (IntKind.i64.wrap (1 * ((n2493 : Nat) : Int))) ∧ (IntKind.i64.wrap (1 * ((n2493 : Nat) : Int))) ≤ (((Int.toNat (IntKind.i64.wrap (2 * ((n2493 : Nat) : Int)))) : Nat) : Int)) <|
    grd (0 ≤ (IntKind.i64.wrap (1 * ((n2493 : Nat) : Int))) ∧ (IntKind.i64.wrap (1 * ((n2493 : Nat) : Int))) ≤ (IntKind.i64.wrap (2 * ((n2493 : Nat) : Int))) ∧ (IntKind.i64.wrap (2 * ((n2493 : Nat) : Int))) ≤ (((Int.toNat (IntKind.i64.wrap (2 * ((n2493 : Nat) : Int)))) : Nat) : Int)) <|
    some (.inr (.inl ((Int.toNat (IntKind.i64.wrap (0 * ((n2493 : Nat) : Int)))), (Int.toNat ((IntKind.i64.wrap (1 * ((n2493 : Nat) : Int))) - (IntKind.i64.wrap (0 * ((n2493 : Nat) : Int))))), (Int.toNat (IntKind.i64.wrap (1 * ((n2493 : Nat) : Int)))), (Int.toNat ((IntKind.i64.wrap (2 * ((n2493 : Nat) : Int))) - (IntKind.i64.wrap (1 * ((n2493 : Nat) : Int))))), (List.replicate (Int.toNat (IntKind.i64.wrap (2 * ((n2493 : Nat) : Int)))) (.int .i64 0)))))) (
  casN n2496 3 (
    grd (0 ≤ (IntKind.i64.wrap (0 * ((n2493 : Nat) : Int))) ∧ (IntKind.i64.wrap (0 * ((n2493 : Nat) : Int))) ≤ (IntKind.i64.wrap (1 * ((n2493 : Nat) : Int))) ∧ (IntKind.i64.wrap (1 * ((n2493 : Nat) : Int))) ≤ (((Int.toNat (IntKind.i64.wrap (3 * ((n2493 : Nat) : Int)))) : Nat) : Int)) <|
    grd (0 ≤ (IntKind.i64.wrap (1 * ((n2493 : Nat) : Int))) ∧ (IntKind.i64.wrap (1 * ((n2493 : Nat) : Int))) ≤ (IntKind.i64.wrap (2 * ((n2493 : Nat) : Int))) ∧ (IntKind.i64.wrap (2 * ((n2493 : Nat) : Int))) ≤ (((Int.toNat (IntKind.i64.wrap (3 * ((n2493 : Nat) : Int)))) : Nat) : Int)) <|
    grd (0 ≤ (IntKind.i64.wrap (2 * ((n2493 : Nat) : Int))) ∧ (IntKind.i64.wrap (2 * ((n2493 : Nat) : Int))) ≤ (IntKind.i64.wrap (3 * ((n2493 : Nat) : Int))) ∧ (IntKind.i64.wrap (3 * ((n2493 : Nat) : Int))) ≤ (((Int.toNat (IntKind.i64.wrap (3 * ((n2493 : Nat) : Int)))) : Nat) : Int)) <|
    some (.inr (.inr ((Int.toNat (IntKind.i64.wrap (0 * ((n2493 : Nat) : Int)))), (Int.toNat ((IntKind.i64.wrap (1 * ((n2493 : Nat) : Int))) - (IntKind.i64.wrap (0 * ((n2493 : Nat) : Int))))), (Int.toNat (IntKind.i64.wrap (1 * ((n2493 : Nat) : Int)))), (Int.toNat ((IntKind.i64.wrap (2 * ((n2493 : Nat) : Int))) - (IntKind.i64.wrap (1 * ((n2493 : Nat) : Int))))), (Int.toNat (IntKind.i64.wrap (2 * ((n2493 : Nat) : Int)))), (Int.toNat ((IntKind.i64.wrap (3 * ((n2493 : Nat) : Int))) - (IntKind.i64.wrap (2 * ((n2493 : Nat) : Int))))), (List.replicate (Int.toNat (IntKind.i64.wrap (3 * ((n2493 : Nat) : Int)))) (.int .i64 0)))))) (
  none)))
theorem c60 (N : Nat) (p2488 : PV) (r : ((Nat × Nat × List PV) ⊕ ((Nat × Nat × Nat × Nat × List PV) ⊕ (Nat × Nat × Nat × Nat × Nat × Nat × List PV))))  (h : m60 N p2488 = some r) : V.Fn Try.prog 60 0 [.v p2488] [] (fun d ob' => match (generalizing := false) r with | .inl (n2505, n2506, c2507) => d = .sl false 0 0 1 1 ∧ ob' = [(0, .r [.sl true 1 n2505 n2506 1]), (1, .p c2507)] | .inr (.inl (n2514, n2515, n2516, n2517, c2518)) => d = .sl false 0 0 2 1 ∧ ob' = [(0, .r [.sl true 1 n2514 n2515 1, .sl true 1 n2516 n2517 1]), (1, .p c2518)] | .inr (.inr (n2528, n2529, n2530, n2531, n2532, n2533, c2534)) => d = .sl false 0 0 3 1 ∧ ob' = [(0, .r [.sl true 1 n2528 n2529 1, .sl true 1 n2530 n2531 1, .sl true 1 n2532 n2533 1]), (1, .p c2534)]) := by
  unfold m60 at h
  refine Fn_of (sz := 40) tab_ok [0, 1, 2, 3, 4, 5, 6, 18, 19, 20] [.tmp 2] Try.func60 rfl rfl rfl (by simp) ?_
  simp only [initSt, initEnv, List.map_cons, List.map_nil, List.getD_cons_zero, List.getD_cons_succ, List.getD_nil]
  have hh := getA2_some h; clear h; obtain ⟨p2490, p2491, h2489, h⟩ := hh
  have hh := getL_some h; clear h; obtain ⟨n2493, c2494, h2492, h⟩ := hh
  have hh := getL_some h; clear h; obtain ⟨n2496, c2497, h2495, h⟩ := hh
  have hh := grd_some h; clear h; obtain ⟨⟨g2498, g2499, g2500⟩, h⟩ := hh
  have hh := casN_some h; clear h; rcases hh with ⟨rfl, h⟩ | ⟨_, h⟩
  · (try simp only [Int.cast_ofNat_Int] at g2498)
    (try simp only [Int.cast_ofNat_Int] at g2499)
    (try simp only [Int.cast_ofNat_Int] at g2500)
    refine W_sound tab_ok mixed 34 _ _ _ ?_
    simp -implicitDefEqProofs only [go_sem, Nat.reduceBEq, Nat.reduceAdd, Nat.reduceSub, Nat.reduceMul, Nat.reduceLT, Nat.reduceLeDiff, Int.reduceLE, Int.reduceLT, Int.reduceToNat, Int.reduceBEq, Int.reduceBNe, ↓reduceIte, Int.reduceAdd, Int.reduceSub, Int.reduceGT, Int.reduceGE, h2489, h2492, h2495, g2498, g2499, g2500]
    repeat with_reducible refine And.intro (by first | kernel_rfl | decide) ?_
    refine Wp_block ?_
    refine Wp_loopL (WpL_step ?_)
    have hh := grd_some h; clear h; obtain ⟨⟨g2502, g2503, g2504⟩, h⟩ := hh
    refine W_sound tab_ok mixed 38 _ _ _ ?_
    simp -implicitDefEqProofs only [go_sem, Nat.reduceBEq, Nat.reduceAdd, Nat.reduceSub, Nat.reduceMul, Nat.reduceLT, Nat.reduceLeDiff, Int.reduceLE, Int.reduceLT, Int.reduceToNat, Int.reduceBEq, Int.reduceBNe, ↓reduceIte, Int.reduceAdd, Int.reduceSub, Int.reduceGT, Int.reduceGE, h2489, h2492, h2495, g2498, g2499, g2500, g2502, g2503, g2504]
    repeat with_reducible refine And.intro (by first | kernel_rfl | decide) ?_
    refine again (Wk_keep (st' := ⟨[], [(0, .dead), (1, .dead), (2, .dead), (3, .v (.int .i64 ((n2493 : Nat) : Int))), (4, .sl false 0 0 (Int.toNat (IntKind.i64.wrap (1 * ((n2493 : Nat) : Int)))) 1), (5, .sl false 1 0 1 1), (6, .dead), (18, .v (.int .i64 1)), (19, .v (.int .i64 1)), (20, .dead)], [(0, .p (List.replicate (Int.toNat (IntKind.i64.wrap (1 * ((n2493 : Nat) : Int)))) (.int .i64 0))), (1, .r [.sl true 0 (Int.toNat (IntKind.i64.wrap (0 * ((n2493 : Nat) : Int)))) (Int.toNat ((IntKind.i64.wrap (1 * ((n2493 : Nat) : Int))) - (IntKind.i64.wrap (0 * ((n2493 : Nat) : Int))))) 1])], 2, []⟩) [3, 4, 5, 18, 19] (by kernel_rfl)) ?_
    refine W_sound tab_ok mixed 14 _ _ _ ?_
    simp -implicitDefEqProofs only [go_sem, Nat.reduceBEq, Nat.reduceAdd, Nat.reduceSub, Nat.reduceMul, Nat.reduceLT, Nat.reduceLeDiff, Int.reduceLE, Int.reduceLT, Int.reduceToNat, Int.reduceBEq, Int.reduceBNe, ↓reduceIte, Int.reduceAdd, Int.reduceSub, Int.reduceGT, Int.reduceGE, h2489, h2492, h2495, g2498, g2499, g2500, g2502, g2503, g2504]
    repeat with_reducible refine And.intro (by first | kernel_rfl | decide) ?_
    obtain rfl := Option.some.inj h
    exact finD (st' := ⟨[], [(0, .dead), (1, .dead), (2, .sl false 0 0 1 1), (3, .dead), (4, .dead), (5, .dead), (6, .dead), (18, .dead), (19, .dead), (20, .dead)], [(0, .r [.sl true 1 (Int.toNat (IntKind.i64.wrap (0 * ((n2493 : Nat) : Int)))) (Int.toNat ((IntKind.i64.wrap (1 * ((n2493 : Nat) : Int))) - (IntKind.i64.wrap (0 * ((n2493 : Nat) : Int))))) 1]), (1, .p (List.replicate (Int.toNat (IntKind.i64.wrap (1 * ((n2493 : Nat) : Int)))) (.int .i64 0)))], 2, []⟩) (keepE_le [2] _) (OLe.refl _) (by kernel_rfl) (by simp only [go_sem, Nat.reduceBEq, Nat.reduceAdd, Nat.reduceSub, Nat.reduceMul, Nat.reduceLT, Nat.reduceLeDiff, Int.reduceLE, Int.reduceLT, Int.reduceToNat, Int.reduceBEq, Int.reduceBNe, ↓reduceIte, resQ_tmp, resQ_cell, resQ_nil, retD_one, retD_two, retD_three, retD_none] <;> first | rfl | exact ⟨rfl, rfl⟩ | (try simp [R.val, retD_one, retD_two, retD_three, retD_none]))
  · skip
    have hh := casN_some h; clear h; rcases hh with ⟨rfl, h⟩ | ⟨_, h⟩
    · (try simp only [Int.cast_ofNat_Int] at g2498)
      (try simp only [Int.cast_ofNat_Int] at g2499)
      (try simp only [Int.cast_ofNat_Int] at g2500)
      refine W_sound tab_ok mixed 34 _ _ _ ?_
      simp -implicitDefEqProofs only [go_sem, Nat.reduceBEq, Nat.reduceAdd, Nat.reduceSub, Nat.reduceMul, Nat.reduceLT, Nat.reduceLeDiff, Int.reduceLE, Int.reduceLT, Int.reduceToNat, Int.reduceBEq, Int.reduceBNe, ↓reduceIte, Int.reduceAdd, Int.reduceSub, Int.reduceGT, Int.reduceGE, h2489, h2492, h2495, g2498, g2499, g2500]
      repeat with_reducible refine And.intro (by first | kernel_rfl | decide) ?_
      refine Wp_block ?_
      refine Wp_loopL (WpL_step ?_)
      have hh := grd_some h; clear h; obtain ⟨⟨g2508, g2509, g2510⟩, h⟩ := hh
      refine W_sound tab_ok mixed 38 _ _ _ ?_
      simp -implicitDefEqProofs only [go_sem, Nat.reduceBEq, Nat.reduceAdd, Nat.reduceSub, Nat.reduceMul, Nat.reduceLT, Nat.reduceLeDiff, Int.reduceLE, Int.reduceLT, Int.reduceToNat, Int.reduceBEq, Int.reduceBNe, ↓reduceIte, Int.reduceAdd, Int.reduceSub, Int.reduceGT, Int.reduceGE, h2489, h2492, h2495, g2498, g2499, g2500, g2508, g2509, g2510]
      repeat with_reducible refine And.intro (by first | kernel_rfl | decide) ?_
      refine again (Wk_keep (st' := ⟨[], [(0, .dead), (1, .dead), (2, .dead), (3, .v (.int .i64 ((n2493 : Nat) : Int))), (4, .sl false 0 0 (Int.toNat (IntKind.i64.wrap (2 * ((n2493 : Nat) : Int)))) 1), (5, .sl false 1 0 1 1), (6, .dead), (18, .v (.int .i64 2)), (19, .v (.int .i64 1)), (20, .dead)], [(0, .p (List.replicate (Int.toNat (IntKind.i64.wrap (2 * ((n2493 : Nat) : Int)))) (.int .i64 0))), (1, .r [.sl true 0 (Int.toNat (IntKind.i64.wrap (0 * ((n2493 : Nat) : Int)))) (Int.toNat ((IntKind.i64.wrap (1 * ((n2493 : Nat) : Int))) - (IntKind.i64.wrap (0 * ((n2493 : Nat) : Int))))) 1])], 2, []⟩) [3, 4, 5, 18, 19] (by kernel_rfl)) ?_
      have hh := grd_some h; clear h; obtain ⟨⟨g2511, g2512, g2513⟩, h⟩ := hh
      refine W_sound tab_ok mixed 38 _ _ _ ?_
      simp -implicitDefEqProofs only [go_sem, Nat.reduceBEq, Nat.reduceAdd, Nat.reduceSub, Nat.reduceMul, Nat.reduceLT, Nat.reduceLeDiff, Int.reduceLE, Int.reduceLT, Int.reduceToNat, Int.reduceBEq, Int.reduceBNe, ↓reduceIte, Int.reduceAdd, Int.reduceSub, Int.reduceGT, Int.reduceGE, h2489, h2492, h2495, g2498, g2499, g2500, g2508, g2509, g2510, g2511, g2512, g2513]
      repeat with_reducible refine And.intro (by first | kernel_rfl | decide) ?_
      refine again (Wk_keep (st' := ⟨[], [(0, .dead), (1, .dead), (2, .dead), (3, .v (.int .i64 ((n2493 : Nat) : Int))), (4, .sl false 0 0 (Int.toNat (IntKind.i64.wrap (2 * ((n2493 : Nat) : Int)))) 1), (5, .sl false 1 0 2 1), (6, .dead), (18, .v (.int .i64 2)), (19, .v (.int .i64 2)), (20, .dead)], [(0, .p (List.replicate (Int.toNat (IntKind.i64.wrap (2 * ((n2493 : Nat) : Int)))) (.int .i64 0))), (1, .r [.sl true 0 (Int.toNat (IntKind.i64.wrap (0 * ((n2493 : Nat) : Int)))) (Int.toNat ((IntKind.i64.wrap (1 * ((n2493 : Nat) : Int))) - (IntKind.i64.wrap (0 * ((n2493 : Nat) : Int))))) 1, .sl true 0 (Int.toNat (IntKind.i64.wrap (1 * ((n2493 : Nat) : Int)))) (Int.toNat ((IntKind.i64.wrap (2 * ((n2493 : Nat) : Int))) - (IntKind.i64.wrap (1 * ((n2493 : Nat) : Int))))) 1])], 2, []⟩) [3, 4, 5, 18, 19] (by kernel_rfl)) ?_
      refine W_sound tab_ok mixed 14 _ _ _ ?_
      simp -implicitDefEqProofs only [go_sem, Nat.reduceBEq, Nat.reduceAdd, Nat.reduceSub, Nat.reduceMul, Nat.reduceLT, Nat.reduceLeDiff, Int.reduceLE, Int.reduceLT, Int.reduceToNat, Int.reduceBEq, Int.reduceBNe, ↓reduceIte, Int.reduceAdd, Int.reduceSub, Int.reduceGT, Int.reduceGE, h2489, h2492, h2495, g2498, g2499, g2500, g2508, g2509, g2510, g2511, g2512, g2513]
      repeat with_reducible refine And.intro (by first | kernel_rfl | decide) ?_
      obtain rfl := Option.some.inj h
      exact finD (st' := ⟨[], [(0, .dead), (1, .dead), (2, .sl false 0 0 2 1), (3, .dead), (4, .dead), (5, .dead), (6, .dead), (18, .dead), (19, .dead), (20, .dead)], [(0, .r [.sl true 1 (Int.toNat (IntKind.i64.wrap (0 * ((n2493 : Nat) : Int)))) (Int.toNat ((IntKind.i64.wrap (1 * ((n2493 : Nat) : Int))) - (IntKind.i64.wrap (0 * ((n2493 : Nat) : Int))))) 1, .sl true 1 (Int.toNat (IntKind.i64.wrap (1 * ((n2493 : Nat) : Int)))) (Int.toNat ((IntKind.i64.wrap (2 * ((n2493 : Nat) : Int))) - (IntKind.i64.wrap (1 * ((n2493 : Nat) : Int))))) 1]), (1, .p (List.replicate (Int.toNat (IntKind.i64.wrap (2 * ((n2493 : Nat) : Int)))) (.int .i64 0)))], 2, []⟩) (keepE_le [2] _) (OLe.refl _) (by kernel_rfl) (by simp only [go_sem, Nat.reduceBEq, Nat.reduceAdd, Nat.reduceSub, Nat.reduceMul, Nat.reduceLT, Nat.reduceLeDiff, Int.reduceLE, Int.reduceLT, Int.reduceToNat, Int.reduceBEq, Int.reduceBNe, ↓reduceIte, resQ_tmp, resQ_cell, resQ_nil, retD_one, retD_two, retD_three, retD_none] <;> first | rfl | exact ⟨rfl, rfl⟩ | (try simp [R.val, retD_one, retD_two, retD_three, retD_none]))
    · skip
      have hh := casN_some h; clear h; rcases hh with ⟨rfl, h⟩ | ⟨_, h⟩
      · (try simp only [Int.cast_ofNat_Int] at g2498)
        (try simp only [Int.cast_ofNat_Int] at g2499)
        (try simp only [Int.cast_ofNat_Int] at g2500)
        refine W_sound tab_ok mixed 34 _ _ _ ?_
        simp -implicitDefEqProofs only [go_sem, Nat.reduceBEq, Nat.reduceAdd, Nat.reduceSub, Nat.reduceMul, Nat.reduceLT, Nat.reduceLeDiff, Int.reduceLE, Int.reduceLT, Int.reduceToNat, Int.reduceBEq, Int.reduceBNe, ↓reduceIte, Int.reduceAdd, Int.reduceSub, Int.reduceGT, Int.reduceGE, h2489, h2492, h2495, g2498, g2499, g2500]
        repeat with_reducible refine And.intro (by first | kernel_rfl | decide) ?_
        refine Wp_block ?_
        refine Wp_loopL (WpL_step ?_)
        have hh := grd_some h; clear h; obtain ⟨⟨g2519, g2520, g2521⟩, h⟩ := hh
        refine W_sound tab_ok mixed 38 _ _ _ ?_
        simp -implicitDefEqProofs only [go_sem, Nat.reduceBEq, Nat.reduceAdd, Nat.reduceSub, Nat.reduceMul, Nat.reduceLT, Nat.reduceLeDiff, Int.reduceLE, Int.reduceLT, Int.reduceToNat, Int.reduceBEq, Int.reduceBNe, ↓reduceIte, Int.reduceAdd, Int.reduceSub, Int.reduceGT, Int.reduceGE, h2489, h2492, h2495, g2498, g2499, g2500, g2519, g2520, g2521]
        repeat with_reducible refine And.intro (by first | kernel_rfl | decide) ?_
        refine again (Wk_keep (st' := ⟨[], [(0, .dead), (1, .dead), (2, .dead), (3, .v (.int .i64 ((n2493 : Nat) : Int))), (4, .sl false 0 0 (Int.toNat (IntKind.i64.wrap (3 * ((n2493 : Nat) : Int)))) 1), (5, .sl false 1 0 1 1), (6, .dead), (18, .v (.int .i64 3)), (19, .v (.int .i64 1)), (20, .dead)], [(0, .p (List.replicate (Int.toNat (IntKind.i64.wrap (3 * ((n2493 : Nat) : Int)))) (.int .i64 0))), (1, .r [.sl true 0 (Int.toNat (IntKind.i64.wrap (0 * ((n2493 : Nat) : Int)))) (Int.toNat ((IntKind.i64.wrap (1 * ((n2493 : Nat) : Int))) - (IntKind.i64.wrap (0 * ((n2493 : Nat) : Int))))) 1])], 2, []⟩) [3, 4, 5, 18, 19] (by kernel_rfl)) ?_
        have hh := grd_some h; clear h; obtain ⟨⟨g2522, g2523, g2524⟩, h⟩ := hh
        refine W_sound tab_ok mixed 38 _ _ _ ?_
        simp -implicitDefEqProofs only [go_sem, Nat.reduceBEq, Nat.reduceAdd, Nat.reduceSub, Nat.reduceMul, Nat.reduceLT, Nat.reduceLeDiff, Int.reduceLE, Int.reduceLT, Int.reduceToNat, Int.reduceBEq, Int.reduceBNe, ↓reduceIte, Int.reduceAdd, Int.reduceSub, Int.reduceGT, Int.reduceGE, h2489, h2492, h2495, g2498, g2499, g2500, g2519, g2520, g2521, g2522, g2523, g2524]
        repeat with_reducible refine And.intro (by first | kernel_rfl | decide) ?_
        refine again (Wk_keep (st' := ⟨[], [(0, .dead), (1, .dead), (2, .dead), (3, .v (.int .i64 ((n2493 : Nat) : Int))), (4, .sl false 0 0 (Int.toNat (IntKind.i64.wrap (3 * ((n2493 : Nat) : Int)))) 1), (5, .sl false 1 0 2 1), (6, .dead), (18, .v (.int .i64 3)), (19, .v (.int .i64 2)), (20, .dead)], [(0, .p (List.replicate (Int.toNat (IntKind.i64.wrap (3 * ((n2493 : Nat) : Int)))) (.int .i64 0))), (1, .r [.sl true 0 (Int.toNat (IntKind.i64.wrap (0 * ((n2493 : Nat) : Int)))) (Int.toNat ((IntKind.i64.wrap (1 * ((n2493 : Nat) : Int))) - (IntKind.i64.wrap (0 * ((n2493 : Nat) : Int))))) 1, .sl true 0 (Int.toNat (IntKind.i64.wrap (1 * ((n2493 : Nat) : Int)))) (Int.toNat ((IntKind.i64.wrap (2 * ((n2493 : Nat) : Int))) - (IntKind.i64.wrap (1 * ((n2493 : Nat) : Int))))) 1])], 2, []⟩) [3, 4, 5, 18, 19] (by kernel_rfl)) ?_
        have hh := grd_some h; clear h; obtain ⟨⟨g2525, g2526, g2527⟩, h⟩ := hh
        refine W_sound tab_ok mixed 38 _ _ _ ?_
        simp -implicitDefEqProofs only [go_sem, Nat.reduceBEq, Nat.reduceAdd, Nat.reduceSub, Nat.reduceMul, Nat.reduceLT, Nat.reduceLeDiff, Int.reduceLE, Int.reduceLT, Int.reduceToNat, Int.reduceBEq, Int.reduceBNe, ↓reduceIte, Int.reduceAdd, Int.reduceSub, Int.reduceGT, Int.reduceGE, h2489, h2492, h2495, g2498, g2499, g2500, g2519, g2520, g2521, g2522, g2523, g2524, g2525, g2526, g2527]
        repeat with_reducible refine And.intro (by first | kernel_rfl | decide) ?_
        refine again (Wk_keep (st' := ⟨[], [(0, .dead), (1, .dead), (2, .dead), (3, .v (.int .i64 ((n2493 : Nat) : Int))), (4, .sl false 0 0 (Int.toNat (IntKind.i64.wrap (3 * ((n2493 : Nat) : Int)))) 1), (5, .sl false 1 0 3 1), (6, .dead), (18, .v (.int .i64 3)), (19, .v (.int .i64 3)), (20, .dead)], [(0, .p (List.replicate (Int.toNat (IntKind.i64.wrap (3 * ((n2493 : Nat) : Int)))) (.int .i64 0))), (1, .r [.sl true 0 (Int.toNat (IntKind.i64.wrap (0 * ((n2493 : Nat) : Int)))) (Int.toNat ((IntKind.i64.wrap (1 * ((n2493 : Nat) : Int))) - (IntKind.i64.wrap (0 * ((n2493 : Nat) : Int))))) 1, .sl true 0 (Int.toNat (IntKind.i64.wrap (1 * ((n2493 : Nat) : Int)))) (Int.toNat ((IntKind.i64.wrap (2 * ((n2493 : Nat) : Int))) - (IntKind.i64.wrap (1 * ((n2493 : Nat) : Int))))) 1, .sl true 0 (Int.toNat (IntKind.i64.wrap (2 * ((n2493 : Nat) : Int)))) (Int.toNat ((IntKind.i64.wrap (3 * ((n2493 : Nat) : Int))) - (IntKind.i64.wrap (2 * ((n2493 : Nat) : Int))))) 1])], 2, []⟩) [3, 4, 5, 18, 19] (by kernel_rfl)) ?_
        refine W_sound tab_ok mixed 14 _ _ _ ?_
        simp -implicitDefEqProofs only [go_sem, Nat.reduceBEq, Nat.reduceAdd, Nat.reduceSub, Nat.reduceMul, Nat.reduceLT, Nat.reduceLeDiff, Int.reduceLE, Int.reduceLT, Int.reduceToNat, Int.reduceBEq, Int.reduceBNe, ↓reduceIte, Int.reduceAdd, Int.reduceSub, Int.reduceGT, Int.reduceGE, h2489, h2492, h2495, g2498, g2499, g2500, g2519, g2520, g2521, g2522, g2523, g2524, g2525, g2526, g2527]
        repeat with_reducible refine And.intro (by first | kernel_rfl | decide) ?_
        obtain rfl := Option.some.inj h
        exact finD (st' := ⟨[], [(0, .dead), (1, .dead), (2, .sl false 0 0 3 1), (3, .dead), (4, .dead), (5, .dead), (6, .dead), (18, .dead), (19, .dead), (20, .dead)], [(0, .r [.sl true 1 (Int.toNat (IntKind.i64.wrap (0 * ((n2493 : Nat) : Int)))) (Int.toNat ((IntKind.i64.wrap (1 * ((n2493 : Nat) : Int))) - (IntKind.i64.wrap (0 * ((n2493 : Nat) : Int))))) 1, .sl true 1 (Int.toNat (IntKind.i64.wrap (1 * ((n2493 : Nat) : Int)))) (Int.toNat ((IntKind.i64.wrap (2 * ((n2493 : Nat) : Int))) - (IntKind.i64.wrap (1 * ((n2493 : Nat) : Int))))) 1, .sl true 1 (Int.toNat (IntKind.i64.wrap (2 * ((n2493 : Nat) : Int)))) (Int.toNat ((IntKind.i64.wrap (3 * ((n2493 : Nat) : Int))) - (IntKind.i64.wrap (2 * ((n2493 : Nat) : Int))))) 1]), (1, .p (List.replicate (Int.toNat (IntKind.i64.wrap (3 * ((n2493 : Nat) : Int)))) (.int .i64 0)))], 2, []⟩) (keepE_le [2] _) (OLe.refl _) (by kernel_rfl) (by simp only [go_sem, Nat.reduceBEq, Nat.reduceAdd, Nat.reduceSub, Nat.reduceMul, Nat.reduceLT, Nat.reduceLeDiff, Int.reduceLE, Int.reduceLT, Int.reduceToNat, Int.reduceBEq, Int.reduceBNe, ↓reduceIte, resQ_tmp, resQ_cell, resQ_nil, retD_one, retD_two, retD_three, retD_none] <;> first | rfl | exact ⟨rfl, rfl⟩ | (try simp [R.val, retD_one, retD_two, retD_three, retD_none]))
      · skip
        cases h
theorem c60_a (N : Nat) (p2488 : PV) (n2505 : Nat) (n2506 : Nat) (c2507 : List PV) (h : m60 N p2488 = some (.inl (n2505, n2506, c2507))) : V.Fn Try.prog 60 0 [.v p2488] [] (fun d ob' => d = .sl false 0 0 1 1 ∧ ob' = [(0, .r [.sl true 1 n2505 n2506 1]), (1, .p c2507)]) := c60 N p2488 _ h
theorem c60_b (N : Nat) (p2488 : PV) (n2514 : Nat) (n2515 : Nat) (n2516 : Nat) (n2517 : Nat) (c2518 : List PV) (h : m60 N p2488 = some (.inr (.inl (n2514, n2515, n2516, n2517, c2518)))) : V.Fn Try.prog 60 0 [.v p2488] [] (fun d ob' => d = .sl false 0 0 2 1 ∧ ob' = [(0, .r [.sl true 1 n2514 n2515 1, .sl true 1 n2516 n2517 1]), (1, .p c2518)]) := c60 N p2488 _ h
theorem c60_c (N : Nat) (p2488 : PV) (n2528 : Nat) (n2529 : Nat) (n2530 : Nat) (n2531 : Nat) (n2532 : Nat) (n2533 : Nat) (c2534 : List PV) (h : m60 N p2488 = some (.inr (.inr (n2528, n2529, n2530, n2531, n2532, n2533, c2534)))) : V.Fn Try.prog 60 0 [.v p2488] [] (fun d ob' => d = .sl false 0 0 3 1 ∧ ob' = [(0, .r [.sl true 1 n2528 n2529 1, .sl true 1 n2530 n2531 1, .sl true 1 n2532 n2533 1]), (1, .p c2534)]) := c60 N p2488 _ h
noncomputable def m62 (N : Nat) (x2574 : Int) (x2575 : Int) (x2576 : Int) (n2577 : Nat) (n2578 : Nat) (c2579 : List PV) : Option ((PV × List PV)) :=
  casI x2574 0 (
    grd (0 ≤ x2575 ∧ x2575 < ((n2578 : Nat) : Int)) <|
    grd (((n2577 + (Int.toNat x2575)) + 1) ≤ List.length c2579) <|
    some ((.tup []), (List.set c2579 (n2577 + (Int.toNat x2575)) (.int .i64 x2576)))) (
  none)
theorem c62 (N : Nat) (x2574 : Int) (x2575 : Int) (x2576 : Int) (n2577 : Nat) (n2578 : Nat) (c2579 : List PV) (r : PV) (c2585 : List PV) (h : m62 N x2574 x2575 x2576 n2577 n2578 c2579 = some (r, c2585)) : V.Fn Try.prog 62 3 [.v (.int .i64 x2574), .v (.int .i64 x2575), .v (.int .i64 x2576), .ptr 0 0] [(0, .r [.sl false 1 0 1 1]), (1, .r [.sl true 2 n2577 n2578 1]), (2, .p c2579)] (fun d ob' => d = .v r ∧ ob' = [(0, .r [.sl false 1 0 1 1]), (1, .r [.sl true 2 n2577 n2578 1]), (2, .p c2585)]) := by
  unfold m62 at h
  refine Fn_of (sz := 14) tab_ok [0, 1, 2, 3] [] Try.func62 rfl rfl rfl (by simp) ?_
  simp only [initSt, initEnv, List.map_cons, List.map_nil, List.getD_cons_zero, List.getD_cons_succ, List.getD_nil]
  have hh := casI_some h; clear h; rcases hh with ⟨rfl, h⟩ | ⟨_, h⟩
  · have hh := grd_some h; clear h; obtain ⟨⟨g2582, g2583⟩, h⟩ := hh
    have hh := grd_some h; clear h; obtain ⟨g2584, h⟩ := hh
    refine W_sound tab_ok mixed 11 _ _ _ ?_
    simp -implicitDefEqProofs only [go_sem, Nat.reduceBEq, Nat.reduceAdd, Nat.reduceSub, Nat.reduceMul, Nat.reduceLT, Nat.reduceLeDiff, Int.reduceLE, Int.reduceLT, Int.reduceToNat, Int.reduceBEq, Int.reduceBNe, ↓reduceIte, g2582, g2583, g2584]
    repeat with_reducible refine And.intro (by first | kernel_rfl | decide) ?_
    simp only [Option.some.injEq, Prod.mk.injEq] at h; obtain ⟨rfl, rfl⟩ := h
    exact finD (st' := ⟨[], [(0, .dead), (1, .dead), (2, .dead), (3, .dead)], [(0, .r [.sl false 1 0 1 1]), (1, .r [.sl true 2 n2577 n2578 1]), (2, .p (List.set c2579 (n2577 + (Int.toNat x2575)) (.int .i64 x2576)))], 3, []⟩) (keepE_le [] _) (OLe.refl _) (by kernel_rfl) (by simp only [go_sem, Nat.reduceBEq, Nat.reduceAdd, Nat.reduceSub, Nat.reduceMul, Nat.reduceLT, Nat.reduceLeDiff, Int.reduceLE, Int.reduceLT, Int.reduceToNat, Int.reduceBEq, Int.reduceBNe, ↓reduceIte, resQ_tmp, resQ_cell, resQ_nil, retD_one, retD_two, retD_three, retD_none]; try simp [R.val, retD_one, retD_two, retD_three, retD_none])
  · skip
    cases h
noncomputable def m61_2_L0 (N : Nat) (n2540 : Nat) (n2541 : Nat) (n2547 : Nat) (c2548 : List PV) (n2554 : Nat) (c2555 : List PV) : Nat → Int → Int → Int → Int → List PV → Option ((PV × List PV))
  | 0, _, _, _, _, _ => none
  | n + 1, x2609, x2610, x2611, x2612, c2613 =>
    bnd' (m62 N x2609 x2610 (minI x2611 x2612) n2540 n2541 c2613) fun (p2614, c2616) =>
    getT0 p2614 <|
    brn ((IntKind.i64.wrap (x2611 - (minI x2611 x2612))) == 0) (
      brn (decide (x2609 < (IntKind.i64.wrap (((n2547 : Nat) : Int) - 1)))) (
        grd (0 ≤ (IntKind.i64.wrap (x2609 + 1)) ∧ (IntKind.i64.wrap (x2609 + 1)) < ((n2547 : Nat) : Int)) <|
        grd (0 < List.length (List.drop (Int.toNat (IntKind.i64.wrap (x2609 + 1))) c2548)) <|
        getI .i64 (gp c2548 (Int.toNat (IntKind.i64.wrap (x2609 + 1)))) fun x2624 =>
        m61_2_L0 N n2540 n2541 n2547 c2548 n2554 c2555 n (IntKind.i64.wrap (x2609 + 1)) x2610 x2624 (IntKind.i64.wrap (x2612 - (minI x2611 x2612))) c2616) (
        brn (decide (x2610 < (IntKind.i64.wrap (((n2554 : Nat) : Int) - 1)))) (
          grd (0 ≤ (IntKind.i64.wrap (x2610 + 1)) ∧ (IntKind.i64.wrap (x2610 + 1)) < ((n2554 : Nat) : Int)) <|
          grd (0 < List.length (List.drop (Int.toNat (IntKind.i64.wrap (x2610 + 1))) c2555)) <|
          getI .i64 (gp c2555 (Int.toNat (IntKind.i64.wrap (x2610 + 1)))) fun x2630 =>
          m61_2_L0 N n2540 n2541 n2547 c2548 n2554 c2555 n x2609 (IntKind.i64.wrap (x2610 + 1)) (IntKind.i64.wrap (x2611 - (minI x2611 x2612))) x2630 c2616) (
          some ((.tup []), c2616)))) (
      brn (decide (x2610 < (IntKind.i64.wrap (((n2554 : Nat) : Int) - 1)))) (
        grd (0 ≤ (IntKind.i64.wrap (x2610 + 1)) ∧ (IntKind.i64.wrap (x2610 + 1)) < ((n2554 : Nat) : Int)) <|
        grd (0 < List.length (List.drop (Int.toNat (IntKind.i64.wrap (x2610 + 1))) c2555)) <|
        getI .i64 (gp c2555 (Int.toNat (IntKind.i64.wrap (x2610 + 1)))) fun x2636 =>
        m61_2_L0 N n2540 n2541 n2547 c2548 n2554 c2555 n x2609 (IntKind.i64.wrap (x2610 + 1)) (IntKind.i64.wrap (x2611 - (minI x2611 x2612))) x2636 c2616) (
        some ((.tup []), c2616)))
noncomputable def m61_2 (N : Nat) (p2539 : PV) (n2540 : Nat) (n2541 : Nat) (c2542 : List PV) : Option ((PV × List PV)) :=
  getA2 p2539 fun p2544 p2545 =>
  getL p2544 fun n2547 c2548 =>
  grd (0 < ((n2547 : Nat) : Int)) <|
  grd (0 < List.length c2548) <|
  getI .i64 (gp c2548 0) fun x2552 =>
  getL p2545 fun n2554 c2555 =>
  grd (0 < ((n2554 : Nat) : Int)) <|
  grd (0 < List.length c2555) <|
  getI .i64 (gp c2555 0) fun x2559 =>
  bnd' (m61_2_L0 N n2540 n2541 n2547 c2548 n2554 c2555 N 0 0 x2552 x2559 c2542) fun o =>
  match o with
  | p2637 =>
    some p2637
theorem c61_2 (N : Nat) (p2539 : PV) (n2540 : Nat) (n2541 : Nat) (c2542 : List PV) (r : PV) (c2638 : List PV) (h : m61_2 N p2539 n2540 n2541 c2542 = some (r, c2638)) : V.Fn Try.prog 61 3 [.v p2539, .fn 62 [.ptr 0 0]] [(0, .r [.sl false 1 0 1 1]), (1, .r [.sl true 2 n2540 n2541 1]), (2, .p c2542)] (fun d ob' => d = .v r ∧ ob' = [(0, .r [.sl false 3 0 1 1]), (3, .r [.sl true 4 n2540 n2541 1]), (4, .p c2638)]) := by
  unfold m61_2 at h
  refine Fn_of (sz := 63) tab_ok [0, 1, 2, 4, 5, 6, 7, 8, 31, 49] [] Try.func61 rfl rfl rfl (by simp) ?_
  simp only [initSt, initEnv, List.map_cons, List.map_nil, List.getD_cons_zero, List.getD_cons_succ, List.getD_nil]
  have hh := getA2_some h; clear h; obtain ⟨p2544, p2545, h2543, h⟩ := hh
  simp only [h2543]
  refine Wp_wkK (cmpT_ok (st' := ⟨[], [(0, .v (.agg [p2544, p2545])), (1, .fn 62 [.ptr 0 0]), (2, .dead), (4, .dead), (5, .dead), (6, .dead), (7, .dead), (8, .dead), (31, .dead), (49, .dead)], [(0, .r [.sl false 3 0 1 1]), (3, .r [.sl true 4 n2540 n2541 1]), (4, .p c2542)], 5, []⟩) [0, 1000000001, 1000000002, 1, 2] (by kernel_rfl)) rfl ?_
  have hh := getL_some h; clear h; obtain ⟨n2547, c2548, h2546, h⟩ := hh
  have hh := grd_some h; clear h; obtain ⟨g2549, h⟩ := hh
  have hh := grd_some h; clear h; obtain ⟨g2550, h⟩ := hh
  have hh := getI_some h; clear h; obtain ⟨x2552, h2551, h⟩ := hh
  have hh := getL_some h; clear h; obtain ⟨n2554, c2555, h2553, h⟩ := hh
  have hh := grd_some h; clear h; obtain ⟨g2556, h⟩ := hh
  have hh := grd_some h; clear h; obtain ⟨g2557, h⟩ := hh
  have hh := getI_some h; clear h; obtain ⟨x2559, h2558, h⟩ := hh
  refine W_sound tab_ok mixed 22 _ _ _ ?_
  simp -implicitDefEqProofs only [go_sem, Nat.reduceBEq, Nat.reduceAdd, Nat.reduceSub, Nat.reduceMul, Nat.reduceLT, Nat.reduceLeDiff, Int.reduceLE, Int.reduceLT, Int.reduceToNat, Int.reduceBEq, Int.reduceBNe, ↓reduceIte, h2543, h2546, g2549, g2550, h2551, h2553, g2556, g2557, h2558]
  repeat with_reducible refine And.intro (by first | kernel_rfl | decide) ?_
  have hh := bnd'_some h; clear h; obtain ⟨o2639, h2640, h2641⟩ := hh
  refine Wp_cut (fun _ => False) ?_ ?_
  · refine Wp_block ?_
    refine Wp_loopG (fun n s => ∃ x2609, ∃ x2610, ∃ x2611, ∃ x2612, ∃ c2613, m61_2_L0 N n2540 n2541 n2547 c2548 n2554 c2555 n x2609 x2610 x2611 x2612 c2613 = some o2639 ∧ s = ⟨[], [(0, .dead), (1, .fn 62 [.ptr 0 0]), (2, .ptr 3 0), (4, .v (.int .i64 x2609)), (5, .v (.int .i64 x2610)), (6, .v (.int .i64 x2611)), (7, .v (.int .i64 x2612)), (8, .dead), (31, .dead), (49, .dead)], [(0, .r [.sl false 4 0 1 1]), (3, .p [(.lst false n2547 c2548), (.lst false n2554 c2555)]), (4, .r [.sl true 5 n2540 n2541 1]), (5, .p c2613)], 6, []⟩) N _ (Wk_keep (st' := ⟨[], [(0, .dead), (1, .fn 62 [.ptr 0 0]), (2, .ptr 3 0), (4, .v (.int .i64 0)), (5, .v (.int .i64 0)), (6, .v (.int .i64 x2552)), (7, .v (.int .i64 x2559)), (8, .dead), (31, .dead), (49, .dead)], [(0, .r [.sl false 4 0 1 1]), (3, .p [(.lst false n2547 c2548), (.lst false n2554 c2555)]), (4, .r [.sl true 5 n2540 n2541 1]), (5, .p c2542)], 6, []⟩) [1, 2, 4, 5, 6, 7] (by kernel_rfl)) ⟨_, _, _, _, _, h2640, rfl⟩ ?_
    clear h2640
    rintro n _ ⟨x2609, x2610, x2611, x2612, c2613, h2640, rfl⟩
    cases n with
    | zero => cases h2640
    | succ n =>
      rw [m61_2_L0] at h2640
      have hh := bnd'_some h2640; clear h2640; obtain ⟨⟨p2614, c2616⟩, h2615, h2640⟩ := hh
      (try dsimp only at h2640)
      refine W_sound tab_ok mixed 14 _ _ _ ?_
      simp -implicitDefEqProofs only [go_sem, Nat.reduceBEq, Nat.reduceAdd, Nat.reduceSub, Nat.reduceMul, Nat.reduceLT, Nat.reduceLeDiff, Int.reduceLE, Int.reduceLT, Int.reduceToNat, Int.reduceBEq, Int.reduceBNe, ↓reduceIte, h2543, h2546, g2549, g2550, h2551, h2553, g2556, g2557, h2558]
      repeat with_reducible refine And.intro (by first | kernel_rfl | decide) ?_
      refine Wp_callD [0, 4, 5] (c62 N _ _ _ _ _ _ _ _ h2615) rfl rfl rfl (by first | rfl | (simp only [go_sem, Nat.reduceBEq, Nat.reduceAdd, Nat.reduceSub, Nat.reduceMul, Nat.reduceLT, Nat.reduceLeDiff, Int.reduceLE, Int.reduceLT, Int.reduceToNat, Int.reduceBEq, Int.reduceBNe, ↓reduceIte, h2543, h2546, g2549, g2550, h2551, h2553, g2556, g2557, h2558] <;> rfl)) rfl (by kernel_rfl) ?_
      have hh := getT0_some h2640; clear h2640; obtain ⟨h2617, h2640⟩ := hh
      have hh := brn_some h2640; clear h2640; rcases hh with ⟨h2618, h2640⟩ | ⟨h2618, h2640⟩
      · have hh := brn_some h2640; clear h2640; rcases hh with ⟨h2619, h2640⟩ | ⟨h2619, h2640⟩
        · have hh := grd_some h2640; clear h2640; obtain ⟨⟨g2620, g2621⟩, h2640⟩ := hh
          have hh := grd_some h2640; clear h2640; obtain ⟨g2622, h2640⟩ := hh
          have hh := getI_some h2640; clear h2640; obtain ⟨x2624, h2623, h2640⟩ := hh
          refine W_sound tab_ok mixed 44 _ _ _ ?_
          simp -implicitDefEqProofs only [go_sem, Nat.reduceBEq, Nat.reduceAdd, Nat.reduceSub, Nat.reduceMul, Nat.reduceLT, Nat.reduceLeDiff, Int.reduceLE, Int.reduceLT, Int.reduceToNat, Int.reduceBEq, Int.reduceBNe, ↓reduceIte, h2543, h2546, g2549, g2550, h2551, h2553, g2556, g2557, h2558, h2617, h2618, h2619, g2620, g2621, g2622, h2623]
          repeat with_reducible refine And.intro (by first | kernel_rfl | decide) ?_
          (try rw [h2551] at h2640)
          (try rw [h2558] at h2640)
          (try rw [h2623] at h2640)
          refine cutQ _ ?_ ⟨n, Nat.lt_succ_self n, _, _, _, _, _, h2640, rfl⟩
          exact Wk_keep [1, 2, 4, 5, 6, 7] (by kernel_rfl)
        · have hh := brn_some h2640; clear h2640; rcases hh with ⟨h2625, h2640⟩ | ⟨h2625, h2640⟩
          · have hh := grd_some h2640; clear h2640; obtain ⟨⟨g2626, g2627⟩, h2640⟩ := hh
            have hh := grd_some h2640; clear h2640; obtain ⟨g2628, h2640⟩ := hh
            have hh := getI_some h2640; clear h2640; obtain ⟨x2630, h2629, h2640⟩ := hh
            refine W_sound tab_ok mixed 55 _ _ _ ?_
            simp -implicitDefEqProofs only [go_sem, Nat.reduceBEq, Nat.reduceAdd, Nat.reduceSub, Nat.reduceMul, Nat.reduceLT, Nat.reduceLeDiff, Int.reduceLE, Int.reduceLT, Int.reduceToNat, Int.reduceBEq, Int.reduceBNe, ↓reduceIte, h2543, h2546, g2549, g2550, h2551, h2553, g2556, g2557, h2558, h2617, h2618, h2619, h2625, g2626, g2627, g2628, h2629]
            repeat with_reducible refine And.intro (by first | kernel_rfl | decide) ?_
            (try rw [h2551] at h2640)
            (try rw [h2558] at h2640)
            (try rw [h2629] at h2640)
            refine cutQ _ ?_ ⟨n, Nat.lt_succ_self n, _, _, _, _, _, h2640, rfl⟩
            exact Wk_keep [1, 2, 4, 5, 6, 7] (by kernel_rfl)
          · refine W_sound tab_ok mixed 41 _ _ _ ?_
            simp -implicitDefEqProofs only [go_sem, Nat.reduceBEq, Nat.reduceAdd, Nat.reduceSub, Nat.reduceMul, Nat.reduceLT, Nat.reduceLeDiff, Int.reduceLE, Int.reduceLT, Int.reduceToNat, Int.reduceBEq, Int.reduceBNe, ↓reduceIte, h2543, h2546, g2549, g2550, h2551, h2553, g2556, g2557, h2558, h2617, h2618, h2619, h2625]
            repeat with_reducible refine And.intro (by first | kernel_rfl | decide) ?_
            obtain rfl := Option.some.inj h2640
            (try dsimp only at h2641)
            simp only [Option.some.injEq, Prod.mk.injEq] at h2641; obtain ⟨rfl, rfl⟩ := h2641
            exact finD (st' := ⟨[], [(0, .dead), (1, .dead), (2, .dead), (4, .dead), (5, .dead), (6, .dead), (7, .dead), (8, .dead), (31, .dead), (49, .dead)], [(0, .r [.sl false 3 0 1 1]), (3, .r [.sl true 4 n2540 n2541 1]), (4, .p c2616)], 5, []⟩) (keepE_le [] _) (OLe.refl _) (by kernel_rfl) (by simp only [go_sem, Nat.reduceBEq, Nat.reduceAdd, Nat.reduceSub, Nat.reduceMul, Nat.reduceLT, Nat.reduceLeDiff, Int.reduceLE, Int.reduceLT, Int.reduceToNat, Int.reduceBEq, Int.reduceBNe, ↓reduceIte, resQ_tmp, resQ_cell, resQ_nil, retD_one, retD_two, retD_three, retD_none]; try simp [R.val, retD_one, retD_two, retD_three, retD_none])
      · have hh := brn_some h2640; clear h2640; rcases hh with ⟨h2631, h2640⟩ | ⟨h2631, h2640⟩
        · have hh := grd_some h2640; clear h2640; obtain ⟨⟨g2632, g2633⟩, h2640⟩ := hh
          have hh := grd_some h2640; clear h2640; obtain ⟨g2634, h2640⟩ := hh
          have hh := getI_some h2640; clear h2640; obtain ⟨x2636, h2635, h2640⟩ := hh
          refine W_sound tab_ok mixed 55 _ _ _ ?_
          simp -implicitDefEqProofs only [go_sem, Nat.reduceBEq, Nat.reduceAdd, Nat.reduceSub, Nat.reduceMul, Nat.reduceLT, Nat.reduceLeDiff, Int.reduceLE, Int.reduceLT, Int.reduceToNat, Int.reduceBEq, Int.reduceBNe, ↓reduceIte, h2543, h2546, g2549, g2550, h2551, h2553, g2556, g2557, h2558, h2617, h2618, h2631, g2632, g2633, g2634, h2635]
          repeat with_reducible refine And.intro (by first | kernel_rfl | decide) ?_
          (try rw [h2551] at h2640)
          (try rw [h2558] at h2640)
          (try rw [h2635] at h2640)
          refine cutQ _ ?_ ⟨n, Nat.lt_succ_self n, _, _, _, _, _, h2640, rfl⟩
          exact Wk_keep [1, 2, 4, 5, 6, 7] (by kernel_rfl)
        · refine W_sound tab_ok mixed 41 _ _ _ ?_
          simp -implicitDefEqProofs only [go_sem, Nat.reduceBEq, Nat.reduceAdd, Nat.reduceSub, Nat.reduceMul, Nat.reduceLT, Nat.reduceLeDiff, Int.reduceLE, Int.reduceLT, Int.reduceToNat, Int.reduceBEq, Int.reduceBNe, ↓reduceIte, h2543, h2546, g2549, g2550, h2551, h2553, g2556, g2557, h2558, h2617, h2618, h2631]
          repeat with_reducible refine And.intro (by first | kernel_rfl | decide) ?_
          obtain rfl := Option.some.inj h2640
          (try dsimp only at h2641)
          simp only [Option.some.injEq, Prod.mk.injEq] at h2641; obtain ⟨rfl, rfl⟩ := h2641
          exact finD (st' := ⟨[], [(0, .dead), (1, .dead), (2, .dead), (4, .dead), (5, .dead), (6, .dead), (7, .dead), (8, .dead), (31, .dead), (49, .dead)], [(0, .r [.sl false 3 0 1 1]), (3, .r [.sl true 4 n2540 n2541 1]), (4, .p c2616)], 5, []⟩) (keepE_le [] _) (OLe.refl _) (by kernel_rfl) (by simp only [go_sem, Nat.reduceBEq, Nat.reduceAdd, Nat.reduceSub, Nat.reduceMul, Nat.reduceLT, Nat.reduceLeDiff, Int.reduceLE, Int.reduceLT, Int.reduceToNat, Int.reduceBEq, Int.reduceBNe, ↓reduceIte, resQ_tmp, resQ_cell, resQ_nil, retD_one, retD_two, retD_three, retD_none]; try simp [R.val, retD_one, retD_two, retD_three, retD_none])
  · intro _ hf; exact hf.elim
noncomputable def m62_2 (N : Nat) (x2694 : Int) (x2695 : Int) (x2696 : Int) (n2697 : Nat) (n2698 : Nat) (n2699 : Nat) (n2700 : Nat) (c2701 : List PV) : Option ((PV × List PV)) :=
  casI x2694 0 (
    grd (0 ≤ x2695 ∧ x2695 < ((n2698 : Nat) : Int)) <|
    grd (((n2697 + (Int.toNat x2695)) + 1) ≤ List.length c2701) <|
    some ((.tup []), (List.set c2701 (n2697 + (Int.toNat x2695)) (.int .i64 x2696)))) (
  casI x2694 1 (
    grd (0 ≤ x2695 ∧ x2695 < ((n2700 : Nat) : Int)) <|
    grd (((n2699 + (Int.toNat x2695)) + 1) ≤ List.length c2701) <|
    some ((.tup []), (List.set c2701 (n2699 + (Int.toNat x2695)) (.int .i64 x2696)))) (
  none))
theorem c62_2 (N : Nat) (x2694 : Int) (x2695 : Int) (x2696 : Int) (n2697 : Nat) (n2698 : Nat) (n2699 : Nat) (n2700 : Nat) (c2701 : List PV) (r : PV) (c2711 : List PV) (h : m62_2 N x2694 x2695 x2696 n2697 n2698 n2699 n2700 c2701 = some (r, c2711)) : V.Fn Try.prog 62 3 [.v (.int .i64 x2694), .v (.int .i64 x2695), .v (.int .i64 x2696), .ptr 0 0] [(0, .r [.sl false 1 0 2 1]), (1, .r [.sl true 2 n2697 n2698 1, .sl true 2 n2699 n2700 1]), (2, .p c2701)] (fun d ob' => d = .v r ∧ ob' = [(0, .r [.sl false 1 0 2 1]), (1, .r [.sl true 2 n2697 n2698 1, .sl true 2 n2699 n2700 1]), (2, .p c2711)]) := by
  unfold m62_2 at h
  refine Fn_of (sz := 14) tab_ok [0, 1, 2, 3] [] Try.func62 rfl rfl rfl (by simp) ?_
  simp only [initSt, initEnv, List.map_cons, List.map_nil, List.getD_cons_zero, List.getD_cons_succ, List.getD_nil]
  have hh := casI_some h; clear h; rcases hh with ⟨rfl, h⟩ | ⟨_, h⟩
  · have hh := grd_some h; clear h; obtain ⟨⟨g2704, g2705⟩, h⟩ := hh
    have hh := grd_some h; clear h; obtain ⟨g2706, h⟩ := hh
    refine W_sound tab_ok mixed 11 _ _ _ ?_
    simp -implicitDefEqProofs only [go_sem, Nat.reduceBEq, Nat.reduceAdd, Nat.reduceSub, Nat.reduceMul, Nat.reduceLT, Nat.reduceLeDiff, Int.reduceLE, Int.reduceLT, Int.reduceToNat, Int.reduceBEq, Int.reduceBNe, ↓reduceIte, g2704, g2705, g2706]
    repeat with_reducible refine And.intro (by first | kernel_rfl | decide) ?_
    simp only [Option.some.injEq, Prod.mk.injEq] at h; obtain ⟨rfl, rfl⟩ := h
    exact finD (st' := ⟨[], [(0, .dead), (1, .dead), (2, .dead), (3, .dead)], [(0, .r [.sl false 1 0 2 1]), (1, .r [.sl true 2 n2697 n2698 1, .sl true 2 n2699 n2700 1]), (2, .p (List.set c2701 (n2697 + (Int.toNat x2695)) (.int .i64 x2696)))], 3, []⟩) (keepE_le [] _) (OLe.refl _) (by kernel_rfl) (by simp only [go_sem, Nat.reduceBEq, Nat.reduceAdd, Nat.reduceSub, Nat.reduceMul, Nat.reduceLT, Nat.reduceLeDiff, Int.reduceLE, Int.reduceLT, Int.reduceToNat, Int.reduceBEq, Int.reduceBNe, ↓reduceIte, resQ_tmp, resQ_cell, resQ_nil, retD_one, retD_two, retD_three, retD_none]; try simp [R.val, retD_one, retD_two, retD_three, retD_none])
  · skip
    have hh := casI_some h; clear h; rcases hh with ⟨rfl, h⟩ | ⟨_, h⟩
    · have hh := grd_some h; clear h; obtain ⟨⟨g2707, g2708⟩, h⟩ := hh
      have hh := grd_some h; clear h; obtain ⟨g2709, h⟩ := hh
      refine W_sound tab_ok mixed 11 _ _ _ ?_
      simp -implicitDefEqProofs only [go_sem, Nat.reduceBEq, Nat.reduceAdd, Nat.reduceSub, Nat.reduceMul, Nat.reduceLT, Nat.reduceLeDiff, Int.reduceLE, Int.reduceLT, Int.reduceToNat, Int.reduceBEq, Int.reduceBNe, ↓reduceIte, g2707, g2708, g2709]
      repeat with_reducible refine And.intro (by first | kernel_rfl | decide) ?_
      simp only [Option.some.injEq, Prod.mk.injEq] at h; obtain ⟨rfl, rfl⟩ := h
      exact finD (st' := ⟨[], [(0, .dead), (1, .dead), (2, .dead), (3, .dead)], [(0, .r [.sl false 1 0 2 1]), (1, .r [.sl true 2 n2697 n2698 1, .sl true 2 n2699 n2700 1]), (2, .p (List.set c2701 (n2699 + (Int.toNat x2695)) (.int .i64 x2696)))], 3, []⟩) (keepE_le [] _) (OLe.refl _) (by kernel_rfl) (by simp only [go_sem, Nat.reduceBEq, Nat.reduceAdd, Nat.reduceSub, Nat.reduceMul, Nat.reduceLT, Nat.reduceLeDiff, Int.reduceLE, Int.reduceLT, Int.reduceToNat, Int.reduceBEq, Int.reduceBNe, ↓reduceIte, resQ_tmp, resQ_cell, resQ_nil, retD_one, retD_two, retD_three, retD_none]; try simp [R.val, retD_one, retD_two, retD_three, retD_none])
    · skip
      cases h
noncomputable def m61_3_L0 (N : Nat) (n2652 : Nat) (n2653 : Nat) (n2654 : Nat) (n2655 : Nat) (n2661 : Nat) (c2662 : List PV) (n2668 : Nat) (c2669 : List PV) : Nat → Int → Int → Int → Int → List PV → Option ((PV × List PV))
  | 0, _, _, _, _, _ => none
  | n + 1, x2735, x2736, x2737, x2738, c2739 =>
    bnd' (m62_2 N x2735 x2736 (minI x2737 x2738) n2652 n2653 n2654 n2655 c2739) fun (p2740, c2742) =>
    getT0 p2740 <|
    brn ((IntKind.i64.wrap (x2737 - (minI x2737 x2738))) == 0) (
      brn (decide (x2735 < (IntKind.i64.wrap (((n2661 : Nat) : Int) - 1)))) (
        grd (0 ≤ (IntKind.i64.wrap (x2735 + 1)) ∧ (IntKind.i64.wrap (x2735 + 1)) < ((n2661 : Nat) : Int)) <|
        grd (0 < List.length (List.drop (Int.toNat (IntKind.i64.wrap (x2735 + 1))) c2662)) <|
        getI .i64 (gp c2662 (Int.toNat (IntKind.i64.wrap (x2735 + 1)))) fun x2750 =>
        m61_3_L0 N n2652 n2653 n2654 n2655 n2661 c2662 n2668 c2669 n (IntKind.i64.wrap (x2735 + 1)) x2736 x2750 (IntKind.i64.wrap (x2738 - (minI x2737 x2738))) c2742) (
        brn (decide (x2736 < (IntKind.i64.wrap (((n2668 : Nat) : Int) - 1)))) (
          grd (0 ≤ (IntKind.i64.wrap (x2736 + 1)) ∧ (IntKind.i64.wrap (x2736 + 1)) < ((n2668 : Nat) : Int)) <|
          grd (0 < List.length (List.drop (Int.toNat (IntKind.i64.wrap (x2736 + 1))) c2669)) <|
          getI .i64 (gp c2669 (Int.toNat (IntKind.i64.wrap (x2736 + 1)))) fun x2756 =>
          m61_3_L0 N n2652 n2653 n2654 n2655 n2661 c2662 n2668 c2669 n x2735 (IntKind.i64.wrap (x2736 + 1)) (IntKind.i64.wrap (x2737 - (minI x2737 x2738))) x2756 c2742) (
          some ((.tup []), c2742)))) (
      brn (decide (x2736 < (IntKind.i64.wrap (((n2668 : Nat) : Int) - 1)))) (
        grd (0 ≤ (IntKind.i64.wrap (x2736 + 1)) ∧ (IntKind.i64.wrap (x2736 + 1)) < ((n2668 : Nat) : Int)) <|
        grd (0 < List.length (List.drop (Int.toNat (IntKind.i64.wrap (x2736 + 1))) c2669)) <|
        getI .i64 (gp c2669 (Int.toNat (IntKind.i64.wrap (x2736 + 1)))) fun x2762 =>
        m61_3_L0 N n2652 n2653 n2654 n2655 n2661 c2662 n2668 c2669 n x2735 (IntKind.i64.wrap (x2736 + 1)) (IntKind.i64.wrap (x2737 - (minI x2737 x2738))) x2762 c2742) (
        some ((.tup []), c2742)))
noncomputable def m61_3 (N : Nat) (p2651 : PV) (n2652 : Nat) (n2653 : Nat) (n2654 : Nat) (n2655 : Nat) (c2656 : List PV) : Option ((PV × List PV)) :=
  getA2 p2651 fun p2658 p2659 =>
  getL p2658 fun n2661 c2662 =>
  grd (0 < ((n2661 : Nat) : Int)) <|
  grd (0 < List.length c2662) <|
  getI .i64 (gp c2662 0) fun x2666 =>
  getL p2659 fun n2668 c2669 =>
  grd (0 < ((n2668 : Nat) : Int)) <|
  grd (0 < List.length c2669) <|
  getI .i64 (gp c2669 0) fun x2673 =>
  bnd' (m61_3_L0 N n2652 n2653 n2654 n2655 n2661 c2662 n2668 c2669 N 0 0 x2666 x2673 c2656) fun o =>
  match o with
  | p2763 =>
    some p2763
theorem c61_3 (N : Nat) (p2651 : PV) (n2652 : Nat) (n2653 : Nat) (n2654 : Nat) (n2655 : Nat) (c2656 : List PV) (r : PV) (c2764 : List PV) (h : m61_3 N p2651 n2652 n2653 n2654 n2655 c2656 = some (r, c2764)) : V.Fn Try.prog 61 3 [.v p2651, .fn 62 [.ptr 0 0]] [(0, .r [.sl false 1 0 2 1]), (1, .r [.sl true 2 n2652 n2653 1, .sl true 2 n2654 n2655 1]), (2, .p c2656)] (fun d ob' => d = .v r ∧ ob' = [(0, .r [.sl false 3 0 2 1]), (3, .r [.sl true 4 n2652 n2653 1, .sl true 4 n2654 n2655 1]), (4, .p c2764)]) := by
  unfold m61_3 at h
  refine Fn_of (sz := 63) tab_ok [0, 1, 2, 4, 5, 6, 7, 8, 31, 49] [] Try.func61 rfl rfl rfl (by simp) ?_
  simp only [initSt, initEnv, List.map_cons, List.map_nil, List.getD_cons_zero, List.getD_cons_succ, List.getD_nil]
  have hh := getA2_some h; clear h; obtain ⟨p2658, p2659, h2657, h⟩ := hh
  simp only [h2657]
  refine Wp_wkK (cmpT_ok (st' := ⟨[], [(0, .v (.agg [p2658, p2659])), (1, .fn 62 [.ptr 0 0]), (2, .dead), (4, .dead), (5, .dead), (6, .dead), (7, .dead), (8, .dead), (31, .dead), (49, .dead)], [(0, .r [.sl false 3 0 2 1]), (3, .r [.sl true 4 n2652 n2653 1, .sl true 4 n2654 n2655 1]), (4, .p c2656)], 5, []⟩) [0, 1000000001, 1000000002, 1, 2] (by kernel_rfl)) rfl ?_
  have hh := getL_some h; clear h; obtain ⟨n2661, c2662, h2660, h⟩ := hh
  have hh := grd_some h; clear h; obtain ⟨g2663, h⟩ := hh
  have hh := grd_some h; clear h; obtain ⟨g2664, h⟩ := hh
  have hh := getI_some h; clear h; obtain ⟨x2666, h2665, h⟩ := hh
  have hh := getL_some h; clear h; obtain ⟨n2668, c2669, h2667, h⟩ := hh
  have hh := grd_some h; clear h; obtain ⟨g2670, h⟩ := hh
  have hh := grd_some h; clear h; obtain ⟨g2671, h⟩ := hh
  have hh := getI_some h; clear h; obtain ⟨x2673, h2672, h⟩ := hh
  refine W_sound tab_ok mixed 22 _ _ _ ?_
  simp -implicitDefEqProofs only [go_sem, Nat.reduceBEq, Nat.reduceAdd, Nat.reduceSub, Nat.reduceMul, Nat.reduceLT, Nat.reduceLeDiff, Int.reduceLE, Int.reduceLT, Int.reduceToNat, Int.reduceBEq, Int.reduceBNe, ↓reduceIte, h2657, h2660, g2663, g2664, h2665, h2667, g2670, g2671, h2672]
  repeat with_reducible refine And.intro (by first | kernel_rfl | decide) ?_
  have hh := bnd'_some h; clear h; obtain ⟨o2765, h2766, h2767⟩ := hh
  refine Wp_cut (fun _ => False) ?_ ?_
  · refine Wp_block ?_
    refine Wp_loopG (fun n s => ∃ x2735, ∃ x2736, ∃ x2737, ∃ x2738, ∃ c2739, m61_3_L0 N n2652 n2653 n2654 n2655 n2661 c2662 n2668 c2669 n x2735 x2736 x2737 x2738 c2739 = some o2765 ∧ s = ⟨[], [(0, .dead), (1, .fn 62 [.ptr 0 0]), (2, .ptr 3 0), (4, .v (.int .i64 x2735)), (5, .v (.int .i64 x2736)), (6, .v (.int .i64 x2737)), (7, .v (.int .i64 x2738)), (8, .dead), (31, .dead), (49, .dead)], [(0, .r [.sl false 4 0 2 1]), (3, .p [(.lst false n2661 c2662), (.lst false n2668 c2669)]), (4, .r [.sl true 5 n2652 n2653 1, .sl true 5 n2654 n2655 1]), (5, .p c2739)], 6, []⟩) N _ (Wk_keep (st' := ⟨[], [(0, .dead), (1, .fn 62 [.ptr 0 0]), (2, .ptr 3 0), (4, .v (.int .i64 0)), (5, .v (.int .i64 0)), (6, .v (.int .i64 x2666)), (7, .v (.int .i64 x2673)), (8, .dead), (31, .dead), (49, .dead)], [(0, .r [.sl false 4 0 2 1]), (3, .p [(.lst false n2661 c2662), (.lst false n2668 c2669)]), (4, .r [.sl true 5 n2652 n2653 1, .sl true 5 n2654 n2655 1]), (5, .p c2656)], 6, []⟩) [1, 2, 4, 5, 6, 7] (by kernel_rfl)) ⟨_, _, _, _, _, h2766, rfl⟩ ?_
    clear h2766
    rintro n _ ⟨x2735, x2736, x2737, x2738, c2739, h2766, rfl⟩
    cases n with
    | zero => cases h2766
    | succ n =>
      rw [m61_3_L0] at h2766
      have hh := bnd'_some h2766; clear h2766; obtain ⟨⟨p2740, c2742⟩, h2741, h2766⟩ := hh
      (try dsimp only at h2766)
      refine W_sound tab_ok mixed 14 _ _ _ ?_
      simp -implicitDefEqProofs only [go_sem, Nat.reduceBEq, Nat.reduceAdd, Nat.reduceSub, Nat.reduceMul, Nat.reduceLT, Nat.reduceLeDiff, Int.reduceLE, Int.reduceLT, Int.reduceToNat, Int.reduceBEq, Int.reduceBNe, ↓reduceIte, h2657, h2660, g2663, g2664, h2665, h2667, g2670, g2671, h2672]
      repeat with_reducible refine And.intro (by first | kernel_rfl | decide) ?_
      refine Wp_callD [0, 4, 5] (c62_2 N _ _ _ _ _ _ _ _ _ _ h2741) rfl rfl rfl (by first | rfl | (simp only [go_sem, Nat.reduceBEq, Nat.reduceAdd, Nat.reduceSub, Nat.reduceMul, Nat.reduceLT, Nat.reduceLeDiff, Int.reduceLE, Int.reduceLT, Int.reduceToNat, Int.reduceBEq, Int.reduceBNe, ↓reduceIte, h2657, h2660, g2663, g2664, h2665, h2667, g2670, g2671, h2672] <;> rfl)) rfl (by kernel_rfl) ?_
      have hh := getT0_some h2766; clear h2766; obtain ⟨h2743, h2766⟩ := hh
      have hh := brn_some h2766; clear h2766; rcases hh with ⟨h2744, h2766⟩ | ⟨h2744, h2766⟩
      · have hh := brn_some h2766; clear h2766; rcases hh with ⟨h2745, h2766⟩ | ⟨h2745, h2766⟩
        · have hh := grd_some h2766; clear h2766; obtain ⟨⟨g2746, g2747⟩, h2766⟩ := hh
          have hh := grd_some h2766; clear h2766; obtain ⟨g2748, h2766⟩ := hh
          have hh := getI_some h2766; clear h2766; obtain ⟨x2750, h2749, h2766⟩ := hh
          refine W_sound tab_ok mixed 44 _ _ _ ?_
          simp -implicitDefEqProofs only [go_sem, Nat.reduceBEq, Nat.reduceAdd, Nat.reduceSub, Nat.reduceMul, Nat.reduceLT, Nat.reduceLeDiff, Int.reduceLE, Int.reduceLT, Int.reduceToNat, Int.reduceBEq, Int.reduceBNe, ↓reduceIte, h2657, h2660, g2663, g2664, h2665, h2667, g2670, g2671, h2672, h2743, h2744, h2745, g2746, g2747, g2748, h2749]
          repeat with_reducible refine And.intro (by first | kernel_rfl | decide) ?_
          (try rw [h2665] at h2766)
          (try rw [h2672] at h2766)
          (try rw [h2749] at h2766)
          refine cutQ _ ?_ ⟨n, Nat.lt_succ_self n, _, _, _, _, _, h2766, rfl⟩
          exact Wk_keep [1, 2, 4, 5, 6, 7] (by kernel_rfl)
        · have hh := brn_some h2766; clear h2766; rcases hh with ⟨h2751, h2766⟩ | ⟨h2751, h2766⟩
          · have hh := grd_some h2766; clear h2766; obtain ⟨⟨g2752, g2753⟩, h2766⟩ := hh
            have hh := grd_some h2766; clear h2766; obtain ⟨g2754, h2766⟩ := hh
            have hh := getI_some h2766; clear h2766; obtain ⟨x2756, h2755, h2766⟩ := hh
            refine W_sound tab_ok mixed 55 _ _ _ ?_
            simp -implicitDefEqProofs only [go_sem, Nat.reduceBEq, Nat.reduceAdd, Nat.reduceSub, Nat.reduceMul, Nat.reduceLT, Nat.reduceLeDiff, Int.reduceLE, Int.reduceLT, Int.reduceToNat, Int.reduceBEq, Int.reduceBNe, ↓reduceIte, h2657, h2660, g2663, g2664, h2665, h2667, g2670, g2671, h2672, h2743, h2744, h2745, h2751, g2752, g2753, g2754, h2755]
            repeat with_reducible refine And.intro (by first | kernel_rfl | decide) ?_
            (try rw [h2665] at h2766)
            (try rw [h2672] at h2766)
            (try rw [h2755] at h2766)
            refine cutQ _ ?_ ⟨n, Nat.lt_succ_self n, _, _, _, _, _, h2766, rfl⟩
            exact Wk_keep [1, 2, 4, 5, 6, 7] (by kernel_rfl)
          · refine W_sound tab_ok mixed 41 _ _ _ ?_
            simp -implicitDefEqProofs only [go_sem, Nat.reduceBEq, Nat.reduceAdd, Nat.reduceSub, Nat.reduceMul, Nat.reduceLT, Nat.reduceLeDiff, Int.reduceLE, Int.reduceLT, Int.reduceToNat, Int.reduceBEq, Int.reduceBNe, ↓reduceIte, h2657, h2660, g2663, g2664, h2665, h2667, g2670, g2671, h2672, h2743, h2744, h2745, h2751]
            repeat with_reducible refine And.intro (by first | kernel_rfl | decide) ?_
            obtain rfl := Option.some.inj h2766
            (try dsimp only at h2767)
            simp only [Option.some.injEq, Prod.mk.injEq] at h2767; obtain ⟨rfl, rfl⟩ := h2767
            exact finD (st' := ⟨[], [(0, .dead), (1, .dead), (2, .dead), (4, .dead), (5, .dead), (6, .dead), (7, .dead), (8, .dead), (31, .dead), (49, .dead)], [(0, .r [.sl false 3 0 2 1]), (3, .r [.sl true 4 n2652 n2653 1, .sl true 4 n2654 n2655 1]), (4, .p c2742)], 5, []⟩) (keepE_le [] _) (OLe.refl _) (by kernel_rfl) (by simp only [go_sem, Nat.reduceBEq, Nat.reduceAdd, Nat.reduceSub, Nat.reduceMul, Nat.reduceLT, Nat.reduceLeDiff, Int.reduceLE, Int.reduceLT, Int.reduceToNat, Int.reduceBEq, Int.reduceBNe, ↓reduceIte, resQ_tmp, resQ_cell, resQ_nil, retD_one, retD_two, retD_three, retD_none]; try simp [R.val, retD_one, retD_two, retD_three, retD_none])
      · have hh := brn_some h2766; clear h2766; rcases hh with ⟨h2757, h2766⟩ | ⟨h2757, h2766⟩
        · have hh := grd_some h2766; clear h2766; obtain ⟨⟨g2758, g2759⟩, h2766⟩ := hh
          have hh := grd_some h2766; clear h2766; obtain ⟨g2760, h2766⟩ := hh
          have hh := getI_some h2766; clear h2766; obtain ⟨x2762, h2761, h2766⟩ := hh
          refine W_sound tab_ok mixed 55 _ _ _ ?_
          simp -implicitDefEqProofs only [go_sem, Nat.reduceBEq, Nat.reduceAdd, Nat.reduceSub, Nat.reduceMul, Nat.reduceLT, Nat.reduceLeDiff, Int.reduceLE, Int.reduceLT, Int.reduceToNat, Int.reduceBEq, Int.reduceBNe, ↓reduceIte, h2657, h2660, g2663, g2664, h2665, h2667, g2670, g2671, h2672, h2743, h2744, h2757, g2758, g2759, g2760, h2761]
          repeat with_reducible refine And.intro (by first | kernel_rfl | decide) ?_
          (try rw [h2665] at h2766)
          (try rw [h2672] at h2766)
          (try rw [h2761] at h2766)
          refine cutQ _ ?_ ⟨n, Nat.lt_succ_self n, _, _, _, _, _, h2766, rfl⟩
          exact Wk_keep [1, 2, 4, 5, 6, 7] (by kernel_rfl)
        · refine W_sound tab_ok mixed 41 _ _ _ ?_
          simp -implicitDefEqProofs only [go_sem, Nat.reduceBEq, Nat.reduceAdd, Nat.reduceSub, Nat.reduceMul, Nat.reduceLT, Nat.reduceLeDiff, Int.reduceLE, Int.reduceLT, Int.reduceToNat, Int.reduceBEq, Int.reduceBNe, ↓reduceIte, h2657, h2660, g2663, g2664, h2665, h2667, g2670, g2671, h2672, h2743, h2744, h2757]
          repeat with_reducible refine And.intro (by first | kernel_rfl | decide) ?_
          obtain rfl := Option.some.inj h2766
          (try dsimp only at h2767)
          simp only [Option.some.injEq, Prod.mk.injEq] at h2767; obtain ⟨rfl, rfl⟩ := h2767
          exact finD (st' := ⟨[], [(0, .dead), (1, .dead), (2, .dead), (4, .dead), (5, .dead), (6, .dead), (7, .dead), (8, .dead), (31, .dead), (49, .dead)], [(0, .r [.sl false 3 0 2 1]), (3, .r [.sl true 4 n2652 n2653 1, .sl true 4 n2654 n2655 1]), (4, .p c2742)], 5, []⟩) (keepE_le [] _) (OLe.refl _) (by kernel_rfl) (by simp only [go_sem, Nat.reduceBEq, Nat.reduceAdd, Nat.reduceSub, Nat.reduceMul, Nat.reduceLT, Nat.reduceLeDiff, Int.reduceLE, Int.reduceLT, Int.reduceToNat, Int.reduceBEq, Int.reduceBNe, ↓reduceIte, resQ_tmp, resQ_cell, resQ_nil, retD_one, retD_two, retD_three, retD_none]; try simp [R.val, retD_one, retD_two, retD_three, retD_none])
  · intro _ hf; exact hf.elim
noncomputable def m62_3 (N : Nat) (x2829 : Int) (x2830 : Int) (x2831 : Int) (n2832 : Nat) (n2833 : Nat) (n2834 : Nat) (n2835 : Nat) (n2836 : Nat) (n2837 : Nat) (c2838 : List PV) : Option ((PV × List PV)) :=
  casI x2829 0 (
    grd (0 ≤ x2830 ∧ x2830 < ((n2833 : Nat) : Int)) <|
    grd (((n2832 + (Int.toNat x2830)) + 1) ≤ List.length c2838) <|
    some ((.tup []), (List.set c2838 (n2832 + (Int.toNat x2830)) (.int .i64 x2831)))) (
  casI x2829 1 (
    grd (0 ≤ x2830 ∧ x2830 < ((n2835 : Nat) : Int)) <|
    grd (((n2834 + (Int.toNat x2830)) + 1) ≤ List.length c2838) <|
    some ((.tup []), (List.set c2838 (n2834 + (Int.toNat x2830)) (.int .i64 x2831)))) (
  casI x2829 2 (
    grd (0 ≤ x2830 ∧ x2830 < ((n2837 : Nat) : Int)) <|
    grd (((n2836 + (Int.toNat x2830)) + 1) ≤ List.length c2838) <|
    some ((.tup []), (List.set c2838 (n2836 + (Int.toNat x2830)) (.int .i64 x2831)))) (
  none)))
theorem c62_3 (N : Nat) (x2829 : Int) (x2830 : Int) (x2831 : Int) (n2832 : Nat) (n2833 : Nat) (n2834 : Nat) (n2835 : Nat) (n2836 : Nat) (n2837 : Nat) (c2838 : List PV) (r : PV) (c2851 : List PV) (h : m62_3 N x2829 x2830 x2831 n2832 n2833 n2834 n2835 n2836 n2837 c2838 = some (r, c2851)) : V.Fn Try.prog 62 3 [.v (.int .i64 x2829), .v (.int .i64 x2830), .v (.int .i64 x2831), .ptr 0 0] [(0, .r [.sl false 1 0 3 1]), (1, .r [.sl true 2 n2832 n2833 1, .sl true 2 n2834 n2835 1, .sl true 2 n2836 n2837 1]), (2, .p c2838)] (fun d ob' => d = .v r ∧ ob' = [(0, .r [.sl false 1 0 3 1]), (1, .r [.sl true 2 n2832 n2833 1, .sl true 2 n2834 n2835 1, .sl true 2 n2836 n2837 1]), (2, .p c2851)]) := by
  unfold m62_3 at h
  refine Fn_of (sz := 14) tab_ok [0, 1, 2, 3] [] Try.func62 rfl rfl rfl (by simp) ?_
  simp only [initSt, initEnv, List.map_cons, List.map_nil, List.getD_cons_zero, List.getD_cons_succ, List.getD_nil]
  have hh := casI_some h; clear h; rcases hh with ⟨rfl, h⟩ | ⟨_, h⟩
  · have hh := grd_some h; clear h; obtain ⟨⟨g2841, g2842⟩, h⟩ := hh
    have hh := grd_some h; clear h; obtain ⟨g2843, h⟩ := hh
    refine W_sound tab_ok mixed 11 _ _ _ ?_
    simp -implicitDefEqProofs only [go_sem, Nat.reduceBEq, Nat.reduceAdd, Nat.reduceSub, Nat.reduceMul, Nat.reduceLT, Nat.reduceLeDiff, Int.reduceLE, Int.reduceLT, Int.reduceToNat, Int.reduceBEq, Int.reduceBNe, ↓reduceIte, g2841, g2842, g2843]
    repeat with_reducible refine And.intro (by first | kernel_rfl | decide) ?_
    simp only [Option.some.injEq, Prod.mk.injEq] at h; obtain ⟨rfl, rfl⟩ := h
    exact finD (st' := ⟨[], [(0, .dead), (1, .dead), (2, .dead), (3, .dead)], [(0, .r [.sl false 1 0 3 1]), (1, .r [.sl true 2 n2832 n2833 1, .sl true 2 n2834 n2835 1, .sl true 2 n2836 n2837 1]), (2, .p (List.set c2838 (n2832 + (Int.toNat x2830)) (.int .i64 x2831)))], 3, []⟩) (keepE_le [] _) (OLe.refl _) (by kernel_rfl) (by simp only [go_sem, Nat.reduceBEq, Nat.reduceAdd, Nat.reduceSub, Nat.reduceMul, Nat.reduceLT, Nat.reduceLeDiff, Int.reduceLE, Int.reduceLT, Int.reduceToNat, Int.reduceBEq, Int.reduceBNe, ↓reduceIte, resQ_tmp, resQ_cell, resQ_nil, retD_one, retD_two, retD_three, retD_none]; try simp [R.val, retD_one, retD_two, retD_three, retD_none])
  · skip
    have hh := casI_some h; clear h; rcases hh with ⟨rfl, h⟩ | ⟨_, h⟩
    · have hh := grd_some h; clear h; obtain ⟨⟨g2844, g2845⟩, h⟩ := hh
      have hh := grd_some h; clear h; obtain ⟨g2846, h⟩ := hh
      refine W_sound tab_ok mixed 11 _ _ _ ?_
      simp -implicitDefEqProofs only [go_sem, Nat.reduceBEq, Nat.reduceAdd, Nat.reduceSub, Nat.reduceMul, Nat.reduceLT, Nat.reduceLeDiff, Int.reduceLE, Int.reduceLT, Int.reduceToNat, Int.reduceBEq, Int.reduceBNe, ↓reduceIte, g2844, g2845, g2846]
      repeat with_reducible refine And.intro (by first | kernel_rfl | decide) ?_
      simp only [Option.some.injEq, Prod.mk.injEq] at h; obtain ⟨rfl, rfl⟩ := h
      exact finD (st' := ⟨[], [(0, .dead), (1, .dead), (2, .dead), (3, .dead)], [(0, .r [.sl false 1 0 3 1]), (1, .r [.sl true 2 n2832 n2833 1, .sl true 2 n2834 n2835 1, .sl true 2 n2836 n2837 1]), (2, .p (List.set c2838 (n2834 + (Int.toNat x2830)) (.int .i64 x2831)))], 3, []⟩) (keepE_le [] _) (OLe.refl _) (by kernel_rfl) (by simp only [go_sem, Nat.reduceBEq, Nat.reduceAdd, Nat.reduceSub, Nat.reduceMul, Nat.reduceLT, Nat.reduceLeDiff, Int.reduceLE, Int.reduceLT, Int.reduceToNat, Int.reduceBEq, Int.reduceBNe, ↓reduceIte, resQ_tmp, resQ_cell, resQ_nil, retD_one, retD_two, retD_three, retD_none]; try simp [R.val, retD_one, retD_two, retD_three, retD_none])
    · skip
      have hh := casI_some h; clear h; rcases hh with ⟨rfl, h⟩ | ⟨_, h⟩
      · have hh := grd_some h; clear h; obtain ⟨⟨g2847, g2848⟩, h⟩ := hh
        have hh := grd_some h; clear h; obtain ⟨g2849, h⟩ := hh
        refine W_sound tab_ok mixed 11 _ _ _ ?_
        simp -implicitDefEqProofs only [go_sem, Nat.reduceBEq, Nat.reduceAdd, Nat.reduceSub, Nat.reduceMul, Nat.reduceLT, Nat.reduceLeDiff, Int.reduceLE, Int.reduceLT, Int.reduceToNat, Int.reduceBEq, Int.reduceBNe, ↓reduceIte, g2847, g2848, g2849]
        repeat with_reducible refine And.intro (by first | kernel_rfl | decide) ?_
        simp only [Option.some.injEq, Prod.mk.injEq] at h; obtain ⟨rfl, rfl⟩ := h
        exact finD (st' := ⟨[], [(0, .dead), (1, .dead), (2, .dead), (3, .dead)], [(0, .r [.sl false 1 0 3 1]), (1, .r [.sl true 2 n2832 n2833 1, .sl true 2 n2834 n2835 1, .sl true 2 n2836 n2837 1]), (2, .p (List.set c2838 (n2836 + (Int.toNat x2830)) (.int .i64 x2831)))], 3, []⟩) (keepE_le [] _) (OLe.refl _) (by kernel_rfl) (by simp only [go_sem, Nat.reduceBEq, Nat.reduceAdd, Nat.reduceSub, Nat.reduceMul, Nat.reduceLT, Nat.reduceLeDiff, Int.reduceLE, Int.reduceLT, Int.reduceToNat, Int.reduceBEq, Int.reduceBNe, ↓reduceIte, resQ_tmp, resQ_cell, resQ_nil, retD_one, retD_two, retD_three, retD_none]; try simp [R.val, retD_one, retD_two, retD_three, retD_none])
      · skip
        cases h
noncomputable def m61_4_L0 (N : Nat) (n2780 : Nat) (n2781 : Nat) (n2782 : Nat) (n2783 : Nat) (n2784 : Nat) (n2785 : Nat) (n2791 : Nat) (c2792 : List PV) (n2798 : Nat) (c2799 : List PV) : Nat → Int → Int → Int → Int → List PV → Option ((PV × List PV))
  | 0, _, _, _, _, _ => none
  | n + 1, x2875, x2876, x2877, x2878, c2879 =>
    bnd' (m62_3 N x2875 x2876 (minI x2877 x2878) n2780 n2781 n2782 n2783 n2784 n2785 c2879) fun (p2880, c2882) =>
    getT0 p2880 <|
    brn ((IntKind.i64.wrap (x2877 - (minI x2877 x2878))) == 0) (
      brn (decide (x2875 < (IntKind.i64.wrap (((n2791 : Nat) : Int) - 1)))) (
        grd (0 ≤ (IntKind.i64.wrap (x2875 + 1)) ∧ (IntKind.i64.wrap (x2875 + 1)) < ((n2791 : Nat) : Int)) <|
        grd (0 < List.length (List.drop (Int.toNat (IntKind.i64.wrap (x2875 + 1))) c2792)) <|
        getI .i64 (gp c2792 (Int.toNat (IntKind.i64.wrap (x2875 + 1)))) fun x2890 =>
        m61_4_L0 N n2780 n2781 n2782 n2783 n2784 n2785 n2791 c2792 n2798 c2799 n (IntKind.i64.wrap (x2875 + 1)) x2876 x2890 (IntKind.i64.wrap (x2878 - (minI x2877 x2878))) c2882) (
        brn (decide (x2876 < (IntKind.i64.wrap (((n2798 : Nat) : Int) - 1)))) (
          grd (0 ≤ (IntKind.i64.wrap (x2876 + 1)) ∧ (IntKind.i64.wrap (x2876 + 1)) < ((n2798 : Nat) : Int)) <|
          grd (0 < List.length (List.drop (Int.toNat (IntKind.i64.wrap (x2876 + 1))) c2799)) <|
          getI .i64 (gp c2799 (Int.toNat (IntKind.i64.wrap (x2876 + 1)))) fun x2896 =>
          m61_4_L0 N n2780 n2781 n2782 n2783 n2784 n2785 n2791 c2792 n2798 c2799 n x2875 (IntKind.i64.wrap (x2876 + 1)) (IntKind.i64.wrap (x2877 - (minI x2877 x2878))) x2896 c2882) (
          some ((.tup []), c2882)))) (
      brn (decide (x2876 < (IntKind.i64.wrap (((n2798 : Nat) : Int) - 1)))) (
        grd (0 ≤ (IntKind.i64.wrap (x2876 + 1)) ∧ (IntKind.i64.wrap (x2876 + 1)) < ((n2798 : Nat) : Int)) <|
        grd (0 < List.length (List.drop (Int.toNat (IntKind.i64.wrap (x2876 + 1))) c2799)) <|
        getI .i64 (gp c2799 (Int.toNat (IntKind.i64.wrap (x2876 + 1)))) fun x2902 =>
        m61_4_L0 N n2780 n2781 n2782 n2783 n2784 n2785 n2791 c2792 n2798 c2799 n x2875 (IntKind.i64.wrap (x2876 + 1)) (IntKind.i64.wrap (x2877 - (minI x2877 x2878))) x2902 c2882) (
        some ((.tup []), c2882)))
noncomputable def m61_4 (N : Nat) (p2779 : PV) (n2780 : Nat) (n2781 : Nat) (n2782 : Nat) (n2783 : Nat) (n2784 : Nat) (n2785 : Nat) (c2786 : List PV) : Option ((PV × List PV)) :=
  getA2 p2779 fun p2788 p2789 =>
  getL p2788 fun n2791 c2792 =>
  grd (0 < ((n2791 : Nat) : Int)) <|
  grd (0 < List.length c2792) <|
  getI .i64 (gp c2792 0) fun x2796 =>
  getL p2789 fun n2798 c2799 =>
  grd (0 < ((n2798 : Nat) : Int)) <|
  grd (0 < List.length c2799) <|
  getI .i64 (gp c2799 0) fun x2803 =>
  bnd' (m61_4_L0 N n2780 n2781 n2782 n2783 n2784 n2785 n2791 c2792 n2798 c2799 N 0 0 x2796 x2803 c2786) fun o =>
  match o with
  | p2903 =>
    some p2903
theorem c61_4 (N : Nat) (p2779 : PV) (n2780 : Nat) (n2781 : Nat) (n2782 : Nat) (n2783 : Nat) (n2784 : Nat) (n2785 : Nat) (c2786 : List PV) (r : PV) (c2904 : List PV) (h : m61_4 N p2779 n2780 n2781 n2782 n2783 n2784 n2785 c2786 = some (r, c2904)) : V.Fn Try.prog 61 3 [.v p2779, .fn 62 [.ptr 0 0]] [(0, .r [.sl false 1 0 3 1]), (1, .r [.sl true 2 n2780 n2781 1, .sl true 2 n2782 n2783 1, .sl true 2 n2784 n2785 1]), (2, .p c2786)] (fun d ob' => d = .v r ∧ ob' = [(0, .r [.sl false 3 0 3 1]), (3, .r [.sl true 4 n2780 n2781 1, .sl true 4 n2782 n2783 1, .sl true 4 n2784 n2785 1]), (4, .p c2904)]) := by
  unfold m61_4 at h
  refine Fn_of (sz := 63) tab_ok [0, 1, 2, 4, 5, 6, 7, 8, 31, 49] [] Try.func61 rfl rfl rfl (by simp) ?_
  simp only [initSt, initEnv, List.map_cons, List.map_nil, List.getD_cons_zero, List.getD_cons_succ, List.getD_nil]
  have hh := getA2_some h; clear h; obtain ⟨p2788, p2789, h2787, h⟩ := hh
  simp only [h2787]
  refine Wp_wkK (cmpT_ok (st' := ⟨[], [(0, .v (.agg [p2788, p2789])), (1, .fn 62 [.ptr 0 0]), (2, .dead), (4, .dead), (5, .dead), (6, .dead), (7, .dead), (8, .dead), (31, .dead), (49, .dead)], [(0, .r [.sl false 3 0 3 1]), (3, .r [.sl true 4 n2780 n2781 1, .sl true 4 n2782 n2783 1, .sl true 4 n2784 n2785 1]), (4, .p c2786)], 5, []⟩) [0, 1000000001, 1000000002, 1, 2] (by kernel_rfl)) rfl ?_
  have hh := getL_some h; clear h; obtain ⟨n2791, c2792, h2790, h⟩ := hh
  have hh := grd_some h; clear h; obtain ⟨g2793, h⟩ := hh
  have hh := grd_some h; clear h; obtain ⟨g2794, h⟩ := hh
  have hh := getI_some h; clear h; obtain ⟨x2796, h2795, h⟩ := hh
  have hh := getL_some h; clear h; obtain ⟨n2798, c2799, h2797, h⟩ := hh
  have hh := grd_some h; clear h; obtain ⟨g2800, h⟩ := hh
  have hh := grd_some h; clear h; obtain ⟨g2801, h⟩ := hh
  have hh := getI_some h; clear h; obtain ⟨x2803, h2802, h⟩ := hh
  refine W_sound tab_ok mixed 22 _ _ _ ?_
  simp -implicitDefEqProofs only [go_sem, Nat.reduceBEq, Nat.reduceAdd, Nat.reduceSub, Nat.reduceMul, Nat.reduceLT, Nat.reduceLeDiff, Int.reduceLE, Int.reduceLT, Int.reduceToNat, Int.reduceBEq, Int.reduceBNe, ↓reduceIte, h2787, h2790, g2793, g2794, h2795, h2797, g2800, g2801, h2802]
  repeat with_reducible refine And.intro (by first | kernel_rfl | decide) ?_
  have hh := bnd'_some h; clear h; obtain ⟨o2905, h2906, h2907⟩ := hh
  refine Wp_cut (fun _ => False) ?_ ?_
  · refine Wp_block ?_
    refine Wp_loopG (fun n s => ∃ x2875, ∃ x2876, ∃ x2877, ∃ x2878, ∃ c2879, m61_4_L0 N n2780 n2781 n2782 n2783 n2784 n2785 n2791 c2792 n2798 c2799 n x2875 x2876 x2877 x2878 c2879 = some o2905 ∧ s = ⟨[], [(0, .dead), (1, .fn 62 [.ptr 0 0]), (2, .ptr 3 0), (4, .v (.int .i64 x2875)), (5, .v (.int .i64 x2876)), (6, .v (.int .i64 x2877)), (7, .v (.int .i64 x2878)), (8, .dead), (31, .dead), (49, .dead)], [(0, .r [.sl false 4 0 3 1]), (3, .p [(.lst false n2791 c2792), (.lst false n2798 c2799)]), (4, .r [.sl true 5 n2780 n2781 1, .sl true 5 n2782 n2783 1, .sl true 5 n2784 n2785 1]), (5, .p c2879)], 6, []⟩) N _ (Wk_keep (st' := ⟨[], [(0, .dead), (1, .fn 62 [.ptr 0 0]), (2, .ptr 3 0), (4, .v (.int .i64 0)), (5, .v (.int .i64 0)), (6, .v (.int .i64 x2796)), (7, .v (.int .i64 x2803)), (8, .dead), (31, .dead), (49, .dead)], [(0, .r [.sl false 4 0 3 1]), (3, .p [(.lst false n2791 c2792), (.lst false n2798 c2799)]), (4, .r [.sl true 5 n2780 n2781 1, .sl true 5 n2782 n2783 1, .sl true 5 n2784 n2785 1]), (5, .p c2786)], 6, []⟩) [1, 2, 4, 5, 6, 7] (by kernel_rfl)) ⟨_, _, _, _, _, h2906, rfl⟩ ?_
    clear h2906
    rintro n _ ⟨x2875, x2876, x2877, x2878, c2879, h2906, rfl⟩
    cases n with
    | zero => cases h2906
    | succ n =>
      rw [m61_4_L0] at h2906
      have hh := bnd'_some h2906; clear h2906; obtain ⟨⟨p2880, c2882⟩, h2881, h2906⟩ := hh
      (try dsimp only at h2906)
      refine W_sound tab_ok mixed 14 _ _ _ ?_
      simp -implicitDefEqProofs only [go_sem, Nat.reduceBEq, Nat.reduceAdd, Nat.reduceSub, Nat.reduceMul, Nat.reduceLT, Nat.reduceLeDiff, Int.reduceLE, Int.reduceLT, Int.reduceToNat, Int.reduceBEq, Int.reduceBNe, ↓reduceIte, h2787, h2790, g2793, g2794, h2795, h2797, g2800, g2801, h2802]
      repeat with_reducible refine And.intro (by first | kernel_rfl | decide) ?_
      refine Wp_callD [0, 4, 5] (c62_3 N _ _ _ _ _ _ _ _ _ _ _ _ h2881) rfl rfl rfl (by first | rfl | (simp only [go_sem, Nat.reduceBEq, Nat.reduceAdd, Nat.reduceSub, Nat.reduceMul, Nat.reduceLT, Nat.reduceLeDiff, Int.reduceLE, Int.reduceLT, Int.reduceToNat, Int.reduceBEq, Int.reduceBNe, ↓reduceIte, h2787, h2790, g2793, g2794, h2795, h2797, g2800, g2801, h2802] <;> rfl)) rfl (by kernel_rfl) ?_
      have hh := getT0_some h2906; clear h2906; obtain ⟨h2883, h2906⟩ := hh
      have hh := brn_some h2906; clear h2906; rcases hh with ⟨h2884, h2906⟩ | ⟨h2884, h2906⟩
      · have hh := brn_some h2906; clear h2906; rcases hh with ⟨h2885, h2906⟩ | ⟨h2885, h2906⟩
        · have hh := grd_some h2906; clear h2906; obtain ⟨⟨g2886, g2887⟩, h2906⟩ := hh
          have hh := grd_some h2906; clear h2906; obtain ⟨g2888, h2906⟩ := hh
          have hh := getI_some h2906; clear h2906; obtain ⟨x2890, h2889, h2906⟩ := hh
          refine W_sound tab_ok mixed 44 _ _ _ ?_
          simp -implicitDefEqProofs only [go_sem, Nat.reduceBEq, Nat.reduceAdd, Nat.reduceSub, Nat.reduceMul, Nat.reduceLT, Nat.reduceLeDiff, Int.reduceLE, Int.reduceLT, Int.reduceToNat, Int.reduceBEq, Int.reduceBNe, ↓reduceIte, h2787, h2790, g2793, g2794, h2795, h2797, g2800, g2801, h2802, h2883, h2884, h2885, g2886, g2887, g2888, h2889]
          repeat with_reducible refine And.intro (by first | kernel_rfl | decide) ?_
          (try rw [h2795] at h2906)
          (try rw [h2802] at h2906)
          (try rw [h2889] at h2906)
          refine cutQ _ ?_ ⟨n, Nat.lt_succ_self n, _, _, _, _, _, h2906, rfl⟩
          exact Wk_keep [1, 2, 4, 5, 6, 7] (by kernel_rfl)
        · have hh := brn_some h2906; clear h2906; rcases hh with ⟨h2891, h2906⟩ | ⟨h2891, h2906⟩
          · have hh := grd_some h2906; clear h2906; obtain ⟨⟨g2892, g2893⟩, h2906⟩ := hh
            have hh := grd_some h2906; clear h2906; obtain ⟨g2894, h2906⟩ := hh
            have hh := getI_some h2906; clear h2906; obtain ⟨x2896, h2895, h2906⟩ := hh
            refine W_sound tab_ok mixed 55 _ _ _ ?_
            simp -implicitDefEqProofs only [go_sem, Nat.reduceBEq, Nat.reduceAdd, Nat.reduceSub, Nat.reduceMul, Nat.reduceLT, Nat.reduceLeDiff, Int.reduceLE, Int.reduceLT, Int.reduceToNat, Int.reduceBEq, Int.reduceBNe, ↓reduceIte, h2787, h2790, g2793, g2794, h2795, h2797, g2800, g2801, h2802, h2883, h2884, h2885, h2891, g2892, g2893, g2894, h2895]
            repeat with_reducible refine And.intro (by first | kernel_rfl | decide) ?_
            (try rw [h2795] at h2906)
            (try rw [h2802] at h2906)
            (try rw [h2895] at h2906)
            refine cutQ _ ?_ ⟨n, Nat.lt_succ_self n, _, _, _, _, _, h2906, rfl⟩
            exact Wk_keep [1, 2, 4, 5, 6, 7] (by kernel_rfl)
          · refine W_sound tab_ok mixed 41 _ _ _ ?_
            simp -implicitDefEqProofs only [go_sem, Nat.reduceBEq, Nat.reduceAdd, Nat.reduceSub, Nat.reduceMul, Nat.reduceLT, Nat.reduceLeDiff, Int.reduceLE, Int.reduceLT, Int.reduceToNat, Int.reduceBEq, Int.reduceBNe, ↓reduceIte, h2787, h2790, g2793, g2794, h2795, h2797, g2800, g2801, h2802, h2883, h2884, h2885, h2891]
            repeat with_reducible refine And.intro (by first | kernel_rfl | decide) ?_
            obtain rfl := Option.some.inj h2906
            (try dsimp only at h2907)
            simp only [Option.some.injEq, Prod.mk.injEq] at h2907; obtain ⟨rfl, rfl⟩ := h2907
            exact finD (st' := ⟨[], [(0, .dead), (1, .dead), (2, .dead), (4, .dead), (5, .dead), (6, .dead), (7, .dead), (8, .dead), (31, .dead), (49, .dead)], [(0, .r [.sl false 3 0 3 1]), (3, .r [.sl true 4 n2780 n2781 1, .sl true 4 n2782 n2783 1, .sl true 4 n2784 n2785 1]), (4, .p c2882)], 5, []⟩) (keepE_le [] _) (OLe.refl _) (by kernel_rfl) (by simp only [go_sem, Nat.reduceBEq, Nat.reduceAdd, Nat.reduceSub, Nat.reduceMul, Nat.reduceLT, Nat.reduceLeDiff, Int.reduceLE, Int.reduceLT, Int.reduceToNat, Int.reduceBEq, Int.reduceBNe, ↓reduceIte, resQ_tmp, resQ_cell, resQ_nil, retD_one, retD_two, retD_three, retD_none]; try simp [R.val, retD_one, retD_two, retD_three, retD_none])
      · have hh := brn_some h2906; clear h2906; rcases hh with ⟨h2897, h2906⟩ | ⟨h2897, h2906⟩
        · have hh := grd_some h2906; clear h2906; obtain ⟨⟨g2898, g2899⟩, h2906⟩ := hh
          have hh := grd_some h2906; clear h2906; obtain ⟨g2900, h2906⟩ := hh
          have hh := getI_some h2906; clear h2906; obtain ⟨x2902, h2901, h2906⟩ := hh
          refine W_sound tab_ok mixed 55 _ _ _ ?_
          simp -implicitDefEqProofs only [go_sem, Nat.reduceBEq, Nat.reduceAdd, Nat.reduceSub, Nat.reduceMul, Nat.reduceLT, Nat.reduceLeDiff, Int.reduceLE, Int.reduceLT, Int.reduceToNat, Int.reduceBEq, Int.reduceBNe, ↓reduceIte, h2787, h2790, g2793, g2794, h2795, h2797, g2800, g2801, h2802, h2883, h2884, h2897, g2898, g2899, g2900, h2901]
          repeat with_reducible refine And.intro (by first | kernel_rfl | decide) ?_
          (try rw [h2795] at h2906)
          (try rw [h2802] at h2906)
          (try rw [h2901] at h2906)
          refine cutQ _ ?_ ⟨n, Nat.lt_succ_self n, _, _, _, _, _, h2906, rfl⟩
          exact Wk_keep [1, 2, 4, 5, 6, 7] (by kernel_rfl)
        · refine W_sound tab_ok mixed 41 _ _ _ ?_
          simp -implicitDefEqProofs only [go_sem, Nat.reduceBEq, Nat.reduceAdd, Nat.reduceSub, Nat.reduceMul, Nat.reduceLT, Nat.reduceLeDiff, Int.reduceLE, Int.reduceLT, Int.reduceToNat, Int.reduceBEq, Int.reduceBNe, ↓reduceIte, h2787, h2790, g2793, g2794, h2795, h2797, g2800, g2801, h2802, h2883, h2884, h2897]
          repeat with_reducible refine And.intro (by first | kernel_rfl | decide) ?_
          obtain rfl := Option.some.inj h2906
          (try dsimp only at h2907)
          simp only [Option.some.injEq, Prod.mk.injEq] at h2907; obtain ⟨rfl, rfl⟩ := h2907
          exact finD (st' := ⟨[], [(0, .dead), (1, .dead), (2, .dead), (4, .dead), (5, .dead), (6, .dead), (7, .dead), (8, .dead), (31, .dead), (49, .dead)], [(0, .r [.sl false 3 0 3 1]), (3, .r [.sl true 4 n2780 n2781 1, .sl true 4 n2782 n2783 1, .sl true 4 n2784 n2785 1]), (4, .p c2882)], 5, []⟩) (keepE_le [] _) (OLe.refl _) (by kernel_rfl) (by simp only [go_sem, Nat.reduceBEq, Nat.reduceAdd, Nat.reduceSub, Nat.reduceMul, Nat.reduceLT, Nat.reduceLeDiff, Int.reduceLE, Int.reduceLT, Int.reduceToNat, Int.reduceBEq, Int.reduceBNe, ↓reduceIte, resQ_tmp, resQ_cell, resQ_nil, retD_one, retD_two, retD_three, retD_none]; try simp [R.val, retD_one, retD_two, retD_three, retD_none])
  · intro _ hf; exact hf.elim
noncomputable def m18 (N : Nat) (p2475 : PV) (p2476 : PV) : Option (PV) :=
  getL p2475 fun n2478 c2479 =>
  getA2 p2476 fun p2481 p2482 =>
  bnd' (m25 N (.lst false n2478 c2479) (.agg [p2481, p2482])) fun p2483 =>
  getI .i64 p2483 fun x2486 =>
  brn (x2486 != 0) (
    some (.tup [(.lst false 0 []), (.int .i64 x2486)])) (
    bnd' (m60 N (.agg [p2481, p2482])) fun o =>
    match o with
    | .inl (n2536, n2537, c2538) =>
      bnd' (m61_2 N (.agg [p2481, p2482]) n2536 n2537 c2538) fun (p2642, c2644) =>
      getT0 p2642 <|
      some (.tup [(.lst false 1 [(.lst false n2537 (List.take n2537 (List.drop n2536 c2644)))]), (.int .i64 0)])
    | .inr (.inl (n2646, n2647, n2648, n2649, c2650)) =>
      bnd' (m61_3 N (.agg [p2481, p2482]) n2646 n2647 n2648 n2649 c2650) fun (p2768, c2770) =>
      getT0 p2768 <|
      some (.tup [(.lst false 2 [(.lst false n2647 (List.take n2647 (List.drop n2646 c2770))), (.lst false n2649 (List.take n2649 (List.drop n2648 c2770)))]), (.int .i64 0)])
    | .inr (.inr (n2772, n2773, n2774, n2775, n2776, n2777, c2778)) =>
      bnd' (m61_4 N (.agg [p2481, p2482]) n2772 n2773 n2774 n2775 n2776 n2777 c2778) fun (p2908, c2910) =>
      getT0 p2908 <|
      some (.tup [(.lst false 3 [(.lst false n2773 (List.take n2773 (List.drop n2772 c2910))), (.lst false n2775 (List.take n2775 (List.drop n2774 c2910))), (.lst false n2777 (List.take n2777 (List.drop n2776 c2910)))]), (.int .i64 0)]))
theorem c18 (N : Nat) (p2475 : PV) (p2476 : PV) (r : PV)  (h : m18 N p2475 p2476 = some r) : FnP Try.prog 18 [p2475, p2476] r := by
  unfold m18 at h
  refine Fn_of (sz := 20) tab_ok [0, 1, 3, 4, 5, 6, 7, 12] [.tmp 4, .tmp 5] Try.func18 rfl rfl rfl (by simp) ?_
  simp only [initSt, initEnv, List.map_cons, List.map_nil, List.getD_cons_zero, List.getD_cons_succ, List.getD_nil]
  have hh := getL_some h; clear h; obtain ⟨n2478, c2479, h2477, h⟩ := hh
  have hh := getA2_some h; clear h; obtain ⟨p2481, p2482, h2480, h⟩ := hh
  have hh := bnd'_some h; clear h; obtain ⟨p2483, h2484, h⟩ := hh
  refine W_sound tab_ok mixed 11 _ _ _ ?_
  simp -implicitDefEqProofs only [go_sem, Nat.reduceBEq, Nat.reduceAdd, Nat.reduceSub, Nat.reduceMul, Nat.reduceLT, Nat.reduceLeDiff, Int.reduceLE, Int.reduceLT, Int.reduceToNat, Int.reduceBEq, Int.reduceBNe, ↓reduceIte, h2477, h2480]
  repeat with_reducible refine And.intro (by first | kernel_rfl | decide) ?_
  refine Wp_callP (c25 N _ _ _ h2484) (by kernel_rfl) rfl rfl rfl rfl (by decide) ?_
  have hh := getI_some h; clear h; obtain ⟨x2486, h2485, h⟩ := hh
  have hh := brn_some h; clear h; rcases hh with ⟨h2487, h⟩ | ⟨h2487, h⟩
  · refine W_sound tab_ok mixed 16 _ _ _ ?_
    simp -implicitDefEqProofs only [go_sem, Nat.reduceBEq, Nat.reduceAdd, Nat.reduceSub, Nat.reduceMul, Nat.reduceLT, Nat.reduceLeDiff, Int.reduceLE, Int.reduceLT, Int.reduceToNat, Int.reduceBEq, Int.reduceBNe, ↓reduceIte, h2477, h2480, h2485, h2487]
    repeat with_reducible refine And.intro (by first | kernel_rfl | decide) ?_
    obtain rfl := Option.some.inj h
    exact finC [(4, .v .nl), (5, .v (.int .i64 x2486))] [(4, .v (.lst false 0 [])), (5, .v (.int .i64 x2486))] (by simp [leE, lk_cons]) (.cons _ _ _ _ _ (.v _ _ (.nl false)) (.cons _ _ _ _ _ (.v _ _ (.refl _)) .nil)) (by rfl) (by simp [leE, lk_cons]) (by decide) (by decide) rfl (by simp only [go_sem, Nat.reduceBEq, Nat.reduceAdd, Nat.reduceSub, Nat.reduceMul, Nat.reduceLT, Nat.reduceLeDiff, Int.reduceLE, Int.reduceLT, Int.reduceToNat, Int.reduceBEq, Int.reduceBNe, ↓reduceIte, resQ_tmp, resQ_cell, resQ_nil, retD_one, retD_two, retD_three, retD_none]; try simp [R.val, retD_one, retD_two, retD_three, retD_none])
  · have hh := bnd'_some h; clear h; obtain ⟨oo, h2535, h⟩ := hh
    rcases oo with ⟨n2536, n2537, c2538⟩ | ⟨n2646, n2647, n2648, n2649, c2650⟩ | ⟨n2772, n2773, n2774, n2775, n2776, n2777, c2778⟩
    · (try dsimp only at h)
      refine W_sound tab_ok mixed 12 _ _ _ ?_
      simp -implicitDefEqProofs only [go_sem, Nat.reduceBEq, Nat.reduceAdd, Nat.reduceSub, Nat.reduceMul, Nat.reduceLT, Nat.reduceLeDiff, Int.reduceLE, Int.reduceLT, Int.reduceToNat, Int.reduceBEq, Int.reduceBNe, ↓reduceIte, h2477, h2480, h2485, h2487]
      repeat with_reducible refine And.intro (by first | kernel_rfl | decide) ?_
      refine Wp_callD [] (c60_a N _ _ _ _ h2535) rfl rfl rfl (by first | rfl | (simp only [go_sem, Nat.reduceBEq, Nat.reduceAdd, Nat.reduceSub, Nat.reduceMul, Nat.reduceLT, Nat.reduceLeDiff, Int.reduceLE, Int.reduceLT, Int.reduceToNat, Int.reduceBEq, Int.reduceBNe, ↓reduceIte, h2477, h2480, h2485, h2487] <;> rfl)) rfl (by kernel_rfl) ?_
      have hh := bnd'_some h; clear h; obtain ⟨⟨p2642, c2644⟩, h2643, h⟩ := hh
      (try dsimp only at h)
      refine W_sound tab_ok mixed 7 _ _ _ ?_
      simp -implicitDefEqProofs only [go_sem, Nat.reduceBEq, Nat.reduceAdd, Nat.reduceSub, Nat.reduceMul, Nat.reduceLT, Nat.reduceLeDiff, Int.reduceLE, Int.reduceLT, Int.reduceToNat, Int.reduceBEq, Int.reduceBNe, ↓reduceIte, h2477, h2480, h2485, h2487]
      repeat with_reducible refine And.intro (by first | kernel_rfl | decide) ?_
      refine Wp_callD [11, 19, 1019] (c61_2 N _ _ _ _ _ _ h2643) rfl rfl rfl (by first | rfl | (simp only [go_sem, Nat.reduceBEq, Nat.reduceAdd, Nat.reduceSub, Nat.reduceMul, Nat.reduceLT, Nat.reduceLeDiff, Int.reduceLE, Int.reduceLT, Int.reduceToNat, Int.reduceBEq, Int.reduceBNe, ↓reduceIte, h2477, h2480, h2485, h2487] <;> rfl)) rfl (by kernel_rfl) ?_
      have hh := getT0_some h; clear h; obtain ⟨h2645, h⟩ := hh
      refine W_sound tab_ok mixed 9 _ _ _ ?_
      simp -implicitDefEqProofs only [go_sem, Nat.reduceBEq, Nat.reduceAdd, Nat.reduceSub, Nat.reduceMul, Nat.reduceLT, Nat.reduceLeDiff, Int.reduceLE, Int.reduceLT, Int.reduceToNat, Int.reduceBEq, Int.reduceBNe, ↓reduceIte, h2477, h2480, h2485, h2487, h2645]
      repeat with_reducible refine And.intro (by first | kernel_rfl | decide) ?_
      refine FinQ_wk (Wk_freeze 2038 c2644 (by rfl) (by decide) (by decide)) ?_
      simp -implicitDefEqProofs only [go_sem, Nat.reduceBEq, Nat.reduceAdd, Nat.reduceSub, Nat.reduceMul, Nat.reduceLT, Nat.reduceLeDiff, Int.reduceLE, Int.reduceLT, Int.reduceToNat, Int.reduceBEq, Int.reduceBNe, ↓reduceIte, h2477, h2480, h2485, h2487, h2645]
      refine FinQ_wk (Wk_freeze 1038 [(.lst true n2537 (List.take n2537 (List.drop n2536 c2644)))] (by rfl) (by decide) (by decide)) ?_
      simp -implicitDefEqProofs only [go_sem, Nat.reduceBEq, Nat.reduceAdd, Nat.reduceSub, Nat.reduceMul, Nat.reduceLT, Nat.reduceLeDiff, Int.reduceLE, Int.reduceLT, Int.reduceToNat, Int.reduceBEq, Int.reduceBNe, ↓reduceIte, h2477, h2480, h2485, h2487, h2645]
      obtain rfl := Option.some.inj h
      exact finC [(4, .v (.lst false 1 [(.lst true n2537 (List.take n2537 (List.drop n2536 c2644)))])), (5, .v (.int .i64 0))] [(4, .v (.lst false 1 [(.lst false n2537 (List.take n2537 (List.drop n2536 c2644)))])), (5, .v (.int .i64 0))] (by simp [leE, lk_cons]) (.cons _ _ _ _ _ (.v _ _ (.lst false false _ _ _ (fun h => by first | exact h | cases h) (.cons _ _ _ _ (.lst true false _ _ _ (fun h => by first | exact h | cases h) (PLes.refl _)) .nil))) (.cons _ _ _ _ _ (.v _ _ (.refl _)) .nil)) (by rfl) (by simp [leE, lk_cons]) (by decide) (by decide) rfl (by simp only [go_sem, Nat.reduceBEq, Nat.reduceAdd, Nat.reduceSub, Nat.reduceMul, Nat.reduceLT, Nat.reduceLeDiff, Int.reduceLE, Int.reduceLT, Int.reduceToNat, Int.reduceBEq, Int.reduceBNe, ↓reduceIte, resQ_tmp, resQ_cell, resQ_nil, retD_one, retD_two, retD_three, retD_none]; try simp [R.val, retD_one, retD_two, retD_three, retD_none])
    · (try dsimp only at h)
      refine W_sound tab_ok mixed 12 _ _ _ ?_
      simp -implicitDefEqProofs only [go_sem, Nat.reduceBEq, Nat.reduceAdd, Nat.reduceSub, Nat.reduceMul, Nat.reduceLT, Nat.reduceLeDiff, Int.reduceLE, Int.reduceLT, Int.reduceToNat, Int.reduceBEq, Int.reduceBNe, ↓reduceIte, h2477, h2480, h2485, h2487]
      repeat with_reducible refine And.intro (by first | kernel_rfl | decide) ?_
      refine Wp_callD [] (c60_b N _ _ _ _ _ _ h2535) rfl rfl rfl (by first | rfl | (simp only [go_sem, Nat.reduceBEq, Nat.reduceAdd, Nat.reduceSub, Nat.reduceMul, Nat.reduceLT, Nat.reduceLeDiff, Int.reduceLE, Int.reduceLT, Int.reduceToNat, Int.reduceBEq, Int.reduceBNe, ↓reduceIte, h2477, h2480, h2485, h2487] <;> rfl)) rfl (by kernel_rfl) ?_
      have hh := bnd'_some h; clear h; obtain ⟨⟨p2768, c2770⟩, h2769, h⟩ := hh
      (try dsimp only at h)
      refine W_sound tab_ok mixed 7 _ _ _ ?_
      simp -implicitDefEqProofs only [go_sem, Nat.reduceBEq, Nat.reduceAdd, Nat.reduceSub, Nat.reduceMul, Nat.reduceLT, Nat.reduceLeDiff, Int.reduceLE, Int.reduceLT, Int.reduceToNat, Int.reduceBEq, Int.reduceBNe, ↓reduceIte, h2477, h2480, h2485, h2487]
      repeat with_reducible refine And.intro (by first | kernel_rfl | decide) ?_
      refine Wp_callD [11, 19, 1019] (c61_3 N _ _ _ _ _ _ _ _ h2769) rfl rfl rfl (by first | rfl | (simp only [go_sem, Nat.reduceBEq, Nat.reduceAdd, Nat.reduceSub, Nat.reduceMul, Nat.reduceLT, Nat.reduceLeDiff, Int.reduceLE, Int.reduceLT, Int.reduceToNat, Int.reduceBEq, Int.reduceBNe, ↓reduceIte, h2477, h2480, h2485, h2487] <;> rfl)) rfl (by kernel_rfl) ?_
      have hh := getT0_some h; clear h; obtain ⟨h2771, h⟩ := hh
      refine W_sound tab_ok mixed 9 _ _ _ ?_
      simp -implicitDefEqProofs only [go_sem, Nat.reduceBEq, Nat.reduceAdd, Nat.reduceSub, Nat.reduceMul, Nat.reduceLT, Nat.reduceLeDiff, Int.reduceLE, Int.reduceLT, Int.reduceToNat, Int.reduceBEq, Int.reduceBNe, ↓reduceIte, h2477, h2480, h2485, h2487, h2771]
      repeat with_reducible refine And.intro (by first | kernel_rfl | decide) ?_
      refine FinQ_wk (Wk_freeze 2038 c2770 (by rfl) (by decide) (by decide)) ?_
      simp -implicitDefEqProofs only [go_sem, Nat.reduceBEq, Nat.reduceAdd, Nat.reduceSub, Nat.reduceMul, Nat.reduceLT, Nat.reduceLeDiff, Int.reduceLE, Int.reduceLT, Int.reduceToNat, Int.reduceBEq, Int.reduceBNe, ↓reduceIte, h2477, h2480, h2485, h2487, h2771]
      refine FinQ_wk (Wk_freeze 1038 [(.lst true n2647 (List.take n2647 (List.drop n2646 c2770))), (.lst true n2649 (List.take n2649 (List.drop n2648 c2770)))] (by rfl) (by decide) (by decide)) ?_
      simp -implicitDefEqProofs only [go_sem, Nat.reduceBEq, Nat.reduceAdd, Nat.reduceSub, Nat.reduceMul, Nat.reduceLT, Nat.reduceLeDiff, Int.reduceLE, Int.reduceLT, Int.reduceToNat, Int.reduceBEq, Int.reduceBNe, ↓reduceIte, h2477, h2480, h2485, h2487, h2771]
      obtain rfl := Option.some.inj h
      exact finC [(4, .v (.lst false 2 [(.lst true n2647 (List.take n2647 (List.drop n2646 c2770))), (.lst true n2649 (List.take n2649 (List.drop n2648 c2770)))])), (5, .v (.int .i64 0))] [(4, .v (.lst false 2 [(.lst false n2647 (List.take n2647 (List.drop n2646 c2770))), (.lst false n2649 (List.take n2649 (List.drop n2648 c2770)))])), (5, .v (.int .i64 0))] (by simp [leE, lk_cons]) (.cons _ _ _ _ _ (.v _ _ (.lst false false _ _ _ (fun h => by first | exact h | cases h) (.cons _ _ _ _ (.lst true false _ _ _ (fun h => by first | exact h | cases h) (PLes.refl _)) (.cons _ _ _ _ (.lst true false _ _ _ (fun h => by first | exact h | cases h) (PLes.refl _)) .nil)))) (.cons _ _ _ _ _ (.v _ _ (.refl _)) .nil)) (by rfl) (by simp [leE, lk_cons]) (by decide) (by decide) rfl (by simp only [go_sem, Nat.reduceBEq, Nat.reduceAdd, Nat.reduceSub, Nat.reduceMul, Nat.reduceLT, Nat.reduceLeDiff, Int.reduceLE, Int.reduceLT, Int.reduceToNat, Int.reduceBEq, Int.reduceBNe, ↓reduceIte, resQ_tmp, resQ_cell, resQ_nil, retD_one, retD_two, retD_three, retD_none]; try simp [R.val, retD_one, retD_two, retD_three, retD_none])
    · (try dsimp only at h)
      refine W_sound tab_ok mixed 12 _ _ _ ?_
      simp -implicitDefEqProofs only [go_sem, Nat.reduceBEq, Nat.reduceAdd, Nat.reduceSub, Nat.reduceMul, Nat.reduceLT, Nat.reduceLeDiff, Int.reduceLE, Int.reduceLT, Int.reduceToNat, Int.reduceBEq, Int.reduceBNe, ↓reduceIte, h2477, h2480, h2485, h2487]
      repeat with_reducible refine And.intro (by first | kernel_rfl | decide) ?_
      refine Wp_callD [] (c60_c N _ _ _ _ _ _ _ _ h2535) rfl rfl rfl (by first | rfl | (simp only [go_sem, Nat.reduceBEq, Nat.reduceAdd, Nat.reduceSub, Nat.reduceMul, Nat.reduceLT, Nat.reduceLeDiff, Int.reduceLE, Int.reduceLT, Int.reduceToNat, Int.reduceBEq, Int.reduceBNe, ↓reduceIte, h2477, h2480, h2485, h2487] <;> rfl)) rfl (by kernel_rfl) ?_
      have hh := bnd'_some h; clear h; obtain ⟨⟨p2908, c2910⟩, h2909, h⟩ := hh
      (try dsimp only at h)
      refine W_sound tab_ok mixed 7 _ _ _ ?_
      simp -implicitDefEqProofs only [go_sem, Nat.reduceBEq, Nat.reduceAdd, Nat.reduceSub, Nat.reduceMul, Nat.reduceLT, Nat.reduceLeDiff, Int.reduceLE, Int.reduceLT, Int.reduceToNat, Int.reduceBEq, Int.reduceBNe, ↓reduceIte, h2477, h2480, h2485, h2487]
      repeat with_reducible refine And.intro (by first | kernel_rfl | decide) ?_
      refine Wp_callD [11, 19, 1019] (c61_4 N _ _ _ _ _ _ _ _ _ _ h2909) rfl rfl rfl (by first | rfl | (simp only [go_sem, Nat.reduceBEq, Nat.reduceAdd, Nat.reduceSub, Nat.reduceMul, Nat.reduceLT, Nat.reduceLeDiff, Int.reduceLE, Int.reduceLT, Int.reduceToNat, Int.reduceBEq, Int.reduceBNe, ↓reduceIte, h2477, h2480, h2485, h2487] <;> rfl)) rfl (by kernel_rfl) ?_
      have hh := getT0_some h; clear h; obtain ⟨h2911, h⟩ := hh
      refine W_sound tab_ok mixed 9 _ _ _ ?_
      simp -implicitDefEqProofs only [go_sem, Nat.reduceBEq, Nat.reduceAdd, Nat.reduceSub, Nat.reduceMul, Nat.reduceLT, Nat.reduceLeDiff, Int.reduceLE, Int.reduceLT, Int.reduceToNat, Int.reduceBEq, Int.reduceBNe, ↓reduceIte, h2477, h2480, h2485, h2487, h2911]
      repeat with_reducible refine And.intro (by first | kernel_rfl | decide) ?_
      refine FinQ_wk (Wk_freeze 2038 c2910 (by rfl) (by decide) (by decide)) ?_
      simp -implicitDefEqProofs only [go_sem, Nat.reduceBEq, Nat.reduceAdd, Nat.reduceSub, Nat.reduceMul, Nat.reduceLT, Nat.reduceLeDiff, Int.reduceLE, Int.reduceLT, Int.reduceToNat, Int.reduceBEq, Int.reduceBNe, ↓reduceIte, h2477, h2480, h2485, h2487, h2911]
      refine FinQ_wk (Wk_freeze 1038 [(.lst true n2773 (List.take n2773 (List.drop n2772 c2910))), (.lst true n2775 (List.take n2775 (List.drop n2774 c2910))), (.lst true n2777 (List.take n2777 (List.drop n2776 c2910)))] (by rfl) (by decide) (by decide)) ?_
      simp -implicitDefEqProofs only [go_sem, Nat.reduceBEq, Nat.reduceAdd, Nat.reduceSub, Nat.reduceMul, Nat.reduceLT, Nat.reduceLeDiff, Int.reduceLE, Int.reduceLT, Int.reduceToNat, Int.reduceBEq, Int.reduceBNe, ↓reduceIte, h2477, h2480, h2485, h2487, h2911]
      obtain rfl := Option.some.inj h
      exact finC [(4, .v (.lst false 3 [(.lst true n2773 (List.take n2773 (List.drop n2772 c2910))), (.lst true n2775 (List.take n2775 (List.drop n2774 c2910))), (.lst true n2777 (List.take n2777 (List.drop n2776 c2910)))])), (5, .v (.int .i64 0))] [(4, .v (.lst false 3 [(.lst false n2773 (List.take n2773 (List.drop n2772 c2910))), (.lst false n2775 (List.take n2775 (List.drop n2774 c2910))), (.lst false n2777 (List.take n2777 (List.drop n2776 c2910)))])), (5, .v (.int .i64 0))] (by simp [leE, lk_cons]) (.cons _ _ _ _ _ (.v _ _ (.lst false false _ _ _ (fun h => by first | exact h | cases h) (.cons _ _ _ _ (.lst true false _ _ _ (fun h => by first | exact h | cases h) (PLes.refl _)) (.cons _ _ _ _ (.lst true false _ _ _ (fun h => by first | exact h | cases h) (PLes.refl _)) (.cons _ _ _ _ (.lst true false _ _ _ (fun h => by first | exact h | cases h) (PLes.refl _)) .nil))))) (.cons _ _ _ _ _ (.v _ _ (.refl _)) .nil)) (by rfl) (by simp [leE, lk_cons]) (by decide) (by decide) rfl (by simp only [go_sem, Nat.reduceBEq, Nat.reduceAdd, Nat.reduceSub, Nat.reduceMul, Nat.reduceLT, Nat.reduceLeDiff, Int.reduceLE, Int.reduceLT, Int.reduceToNat, Int.reduceBEq, Int.reduceBNe, ↓reduceIte, resQ_tmp, resQ_cell, resQ_nil, retD_one, retD_two, retD_three, retD_none]; try simp [R.val, retD_one, retD_two, retD_three, retD_none])
noncomputable def m64_2_L0 (N : Nat) (n2951 : Nat) (c2952 : List PV) : Nat → Int → Int → Option (Int)
  | 0, _, _ => none
  | n + 1, x2953, x2954 =>
    brn (decide (x2954 < ((n2951 : Nat) : Int))) (
      grd (0 ≤ x2954 ∧ x2954 < ((n2951 : Nat) : Int)) <|
      grd ((Int.toNat x2954) < List.length c2952) <|
      getI .i64 (gp c2952 (Int.toNat x2954)) fun x2960 =>
      m64_2_L0 N n2951 c2952 n (IntKind.i64.wrap (x2953 + x2960)) (IntKind.i64.wrap (x2954 + 1))) (
      some x2953)
noncomputable def m64_2 (N : Nat) (n2951 : Nat) (c2952 : List PV) : Option (PV) :=
  bnd' (m64_2_L0 N n2951 c2952 N 0 0) fun x2961 =>
  some (.int .i64 x2961)
theorem c64_2 (N : Nat) (n2951 : Nat) (c2952 : List PV) (r : PV)  (h : m64_2 N n2951 c2952 = some r) : V.Fn Try.prog 64 1 [.sl false 0 0 n2951 1] [(0, .p c2952)] (fun d ob' => d = .v r ∧ ob' = [(0, .p c2952)]) := by
  unfold m64_2 at h
  refine Fn_of (sz := 18) tab_ok [0, 2, 3, 4, 8] [.tmp 2] Try.func64 rfl rfl rfl (by simp) ?_
  simp only [initSt, initEnv, List.map_cons, List.map_nil, List.getD_cons_zero, List.getD_cons_succ, List.getD_nil]
  refine W_sound tab_ok mixed 13 _ _ _ ?_
  simp -implicitDefEqProofs only [go_sem, Nat.reduceBEq, Nat.reduceAdd, Nat.reduceSub, Nat.reduceMul, Nat.reduceLT, Nat.reduceLeDiff, Int.reduceLE, Int.reduceLT, Int.reduceToNat, Int.reduceBEq, Int.reduceBNe, ↓reduceIte]
  repeat with_reducible refine And.intro (by first | kernel_rfl | decide) ?_
  have hh := bnd'_some h; clear h; obtain ⟨o2962, h2963, h2964⟩ := hh
  refine Wp_cut (fun s => ∃ x2961, x2961 = o2962 ∧ s = ⟨[], [(0, .dead), (2, .dead), (3, .v (.int .i64 x2961)), (4, .dead), (8, .dead)], [(0, .p c2952)], 1, []⟩) ?_ ?_
  · refine Wp_block ?_
    refine Wp_loopG (fun n s => ∃ x2953, ∃ x2954, m64_2_L0 N n2951 c2952 n x2953 x2954 = some o2962 ∧ s = ⟨[], [(0, .sl false 0 0 n2951 1), (2, .dead), (3, .v (.int .i64 x2953)), (4, .v (.int .i64 x2954)), (8, .dead)], [(0, .p c2952)], 1, []⟩) N _ (Wk_keep (st' := ⟨[], [(0, .sl false 0 0 n2951 1), (2, .dead), (3, .v (.int .i64 0)), (4, .v (.int .i64 0)), (8, .dead)], [(0, .p c2952)], 1, []⟩) [0, 3, 4] (by kernel_rfl)) ⟨_, _, h2963, rfl⟩ ?_
    clear h2963
    rintro n _ ⟨x2953, x2954, h2963, rfl⟩
    cases n with
    | zero => cases h2963
    | succ n =>
      rw [m64_2_L0] at h2963
      have hh := brn_some h2963; clear h2963; rcases hh with ⟨h2955, h2963⟩ | ⟨h2955, h2963⟩
      · have hh := grd_some h2963; clear h2963; obtain ⟨⟨g2956, g2957⟩, h2963⟩ := hh
        have hh := grd_some h2963; clear h2963; obtain ⟨g2958, h2963⟩ := hh
        have hh := getI_some h2963; clear h2963; obtain ⟨x2960, h2959, h2963⟩ := hh
        refine W_sound tab_ok mixed 27 _ _ _ ?_
        simp -implicitDefEqProofs only [go_sem, Nat.reduceBEq, Nat.reduceAdd, Nat.reduceSub, Nat.reduceMul, Nat.reduceLT, Nat.reduceLeDiff, Int.reduceLE, Int.reduceLT, Int.reduceToNat, Int.reduceBEq, Int.reduceBNe, ↓reduceIte, h2955, g2956, g2957, g2958, h2959]
        repeat with_reducible refine And.intro (by first | kernel_rfl | decide) ?_
        (try rw [h2959] at h2963)
        refine cutQ _ ?_ ⟨n, Nat.lt_succ_self n, _, _, h2963, rfl⟩
        exact Wk_keep [0, 3, 4] (by kernel_rfl)
      · refine W_sound tab_ok mixed 10 _ _ _ ?_
        simp -implicitDefEqProofs only [go_sem, Nat.reduceBEq, Nat.reduceAdd, Nat.reduceSub, Nat.reduceMul, Nat.reduceLT, Nat.reduceLeDiff, Int.reduceLE, Int.reduceLT, Int.reduceToNat, Int.reduceBEq, Int.reduceBNe, ↓reduceIte, h2955]
        repeat with_reducible refine And.intro (by first | kernel_rfl | decide) ?_
        obtain rfl := Option.some.inj h2963
        refine cutQ _ ?_ ⟨_, rfl, rfl⟩
        exact Wk_keep [3] (by kernel_rfl)
  · rintro _ ⟨x2961, rfl, rfl⟩
    refine W_sound tab_ok mixed 7 _ _ _ ?_
    simp -implicitDefEqProofs only [go_sem, Nat.reduceBEq, Nat.reduceAdd, Nat.reduceSub, Nat.reduceMul, Nat.reduceLT, Nat.reduceLeDiff, Int.reduceLE, Int.reduceLT, Int.reduceToNat, Int.reduceBEq, Int.reduceBNe, ↓reduceIte]
    repeat with_reducible refine And.intro (by first | kernel_rfl | decide) ?_
    obtain rfl := Option.some.inj h2964
    exact finD (st' := ⟨[], [(0, .dead), (2, .v (.int .i64 x2961)), (3, .dead), (4, .dead), (8, .dead)], [(0, .p c2952)], 1, []⟩) (keepE_le [2] _) (OLe.refl _) (by kernel_rfl) (by simp only [go_sem, Nat.reduceBEq, Nat.reduceAdd, Nat.reduceSub, Nat.reduceMul, Nat.reduceLT, Nat.reduceLeDiff, Int.reduceLE, Int.reduceLT, Int.reduceToNat, Int.reduceBEq, Int.reduceBNe, ↓reduceIte, resQ_tmp, resQ_cell, resQ_nil, retD_one, retD_two, retD_three, retD_none]; try simp [R.val, retD_one, retD_two, retD_three, retD_none])
noncomputable def m19_L1 (N : Nat) (c2922 : List PV) (n2924 : Nat) (c2925 : List PV) (n3179 : Nat) (c3180 : List PV) (x3291 : Int) (c3292 : List PV) (c3293 : List PV) (c3294 : List PV) (x3303 : Int) (x3374 : Int) : Nat → Int → Int → Option (Int)
  | 0, _, _ => none
  | n + 1, x3375, x3376 =>
    brn (decide (x3376 < 3)) (
      casI x3376 0 (
        grd (0 ≤ x3303 ∧ x3303 < ((n2924 : Nat) : Int)) <|
        grd ((Int.toNat x3303) < List.length c3292) <|
        getI .i64 (gp c3292 (Int.toNat x3303)) fun x3383 =>
        m19_L1 N c2922 n2924 c2925 n3179 c3180 x3291 c3292 c3293 c3294 x3303 x3374 n (IntKind.i64.wrap (x3375 + x3383)) 1) (
      casI x3376 1 (
        grd (0 ≤ x3303 ∧ x3303 < ((n2924 : Nat) : Int)) <|
        grd ((Int.toNat x3303) < List.length c3293) <|
        getI .i64 (gp c3293 (Int.toNat x3303)) fun x3388 =>
        m19_L1 N c2922 n2924 c2925 n3179 c3180 x3291 c3292 c3293 c3294 x3303 x3374 n (IntKind.i64.wrap (x3375 + x3388)) 2) (
      casI x3376 2 (
        grd (0 ≤ x3303 ∧ x3303 < ((n2924 : Nat) : Int)) <|
        grd ((Int.toNat x3303) < List.length c3294) <|
        getI .i64 (gp c3294 (Int.toNat x3303)) fun x3393 =>
        m19_L1 N c2922 n2924 c2925 n3179 c3180 x3291 c3292 c3293 c3294 x3303 x3374 n (IntKind.i64.wrap (x3375 + x3393)) 3) (
      none)))) (
      some x3375)
noncomputable def m19_L2 (N : Nat) (c2922 : List PV) (n2924 : Nat) (c2925 : List PV) (n3179 : Nat) (c3180 : List PV) (x3291 : Int) (c3292 : List PV) (c3293 : List PV) (c3294 : List PV) (x3303 : Int) (x3341 : Int) : Nat → Int → Int → Option (Int)
  | 0, _, _ => none
  | n + 1, x3342, x3343 =>
    brn (decide (x3343 < 3)) (
      casI x3343 0 (
        grd (0 ≤ x3303 ∧ x3303 < ((n2924 : Nat) : Int)) <|
        grd ((Int.toNat x3303) < List.length c3292) <|
        getI .i64 (gp c3292 (Int.toNat x3303)) fun x3350 =>
        m19_L2 N c2922 n2924 c2925 n3179 c3180 x3291 c3292 c3293 c3294 x3303 x3341 n (IntKind.i64.wrap (x3342 + x3350)) 1) (
      casI x3343 1 (
        grd (0 ≤ x3303 ∧ x3303 < ((n2924 : Nat) : Int)) <|
        grd ((Int.toNat x3303) < List.length c3293) <|
        getI .i64 (gp c3293 (Int.toNat x3303)) fun x3355 =>
        m19_L2 N c2922 n2924 c2925 n3179 c3180 x3291 c3292 c3293 c3294 x3303 x3341 n (IntKind.i64.wrap (x3342 + x3355)) 2) (
      casI x3343 2 (
        grd (0 ≤ x3303 ∧ x3303 < ((n2924 : Nat) : Int)) <|
        grd ((Int.toNat x3303) < List.length c3294) <|
        getI .i64 (gp c3294 (Int.toNat x3303)) fun x3360 =>
        m19_L2 N c2922 n2924 c2925 n3179 c3180 x3291 c3292 c3293 c3294 x3303 x3341 n (IntKind.i64.wrap (x3342 + x3360)) 3) (
      none)))) (
      some x3342)
noncomputable def m19_L3 (N : Nat) (c2922 : List PV) (n2924 : Nat) (c2925 : List PV) (n3179 : Nat) (c3180 : List PV) (x3291 : Int) (c3292 : List PV) (c3293 : List PV) (c3294 : List PV) (x3303 : Int) (x3308 : Int) : Nat → Int → Int → Option (Int)
  | 0, _, _ => none
  | n + 1, x3309, x3310 =>
    brn (decide (x3310 < 3)) (
      casI x3310 0 (
        grd (0 ≤ x3303 ∧ x3303 < ((n2924 : Nat) : Int)) <|
        grd ((Int.toNat x3303) < List.length c3292) <|
        getI .i64 (gp c3292 (Int.toNat x3303)) fun x3317 =>
        m19_L3 N c2922 n2924 c2925 n3179 c3180 x3291 c3292 c3293 c3294 x3303 x3308 n (IntKind.i64.wrap (x3309 + x3317)) 1) (
      casI x3310 1 (
        grd (0 ≤ x3303 ∧ x3303 < ((n2924 : Nat) : Int)) <|
        grd ((Int.toNat x3303) < List.length c3293) <|
        getI .i64 (gp c3293 (Int.toNat x3303)) fun x3322 =>
        m19_L3 N c2922 n2924 c2925 n3179 c3180 x3291 c3292 c3293 c3294 x3303 x3308 n (IntKind.i64.wrap (x3309 + x3322)) 2) (
      casI x3310 2 (
        grd (0 ≤ x3303 ∧ x3303 < ((n2924 : Nat) : Int)) <|
        grd ((Int.toNat x3303) < List.length c3294) <|
        getI .i64 (gp c3294 (Int.toNat x3303)) fun x3327 =>
        m19_L3 N c2922 n2924 c2925 n3179 c3180 x3291 c3292 c3293 c3294 x3303 x3308 n (IntKind.i64.wrap (x3309 + x3327)) 3) (
      none)))) (
      some x3309)
noncomputable def m19_L0 (N : Nat) (c2922 : List PV) (n2924 : Nat) (c2925 : List PV) (n3179 : Nat) (c3180 : List PV) : Nat → Int → List PV → List PV → List PV → Option ((List PV × List PV × List PV))
  | 0, _, _, _, _ => none
  | n + 1, x3291, c3292, c3293, c3294 =>
    brn (decide (x3291 < ((n3179 : Nat) : Int))) (
      grd (0 ≤ x3291 ∧ x3291 < ((n3179 : Nat) : Int)) <|
      grd (0 < List.length (List.drop ((Int.toNat x3291) * 2) c3180)) <|
      getI .i64 (gp c3180 ((Int.toNat x3291) * 2)) fun x3300 =>
      grd (0 < List.length (List.drop 1 (List.drop ((Int.toNat x3291) * 2) c3180))) <|
      getI .i64 (gp c3180 (((Int.toNat x3291) * 2) + 1)) fun x3303 =>
      casI x3300 0 (
        bnd' (m64_2 N n2924 c3292) fun p3305 =>
        getI .i64 p3305 fun x3308 =>
        bnd' (m19_L3 N c2922 n2924 c2925 n3179 c3180 x3291 c3292 c3293 c3294 x3303 x3308 N 0 0) fun x3328 =>
        grd (0 < List.length c2922) <|
        getI .i64 (gp c2922 0) fun x3331 =>
        grd (0 ≤ x3303 ∧ x3303 < ((n2924 : Nat) : Int)) <|
        grd (0 < List.length (List.drop (Int.toNat x3303) c2925)) <|
        getI .i64 (gp c2925 (Int.toNat x3303)) fun x3336 =>
        grd (((Int.toNat x3303) + 1) ≤ List.length c3292) <|
        m19_L0 N c2922 n2924 c2925 n3179 c3180 n (IntKind.i64.wrap (x3291 + 1)) (List.set c3292 (Int.toNat x3303) (.int .i64 (minI (IntKind.i64.wrap (x3331 - x3308)) (IntKind.i64.wrap (x3336 - x3328))))) c3293 c3294) (
      casI x3300 1 (
        bnd' (m64_2 N n2924 c3293) fun p3338 =>
        getI .i64 p3338 fun x3341 =>
        bnd' (m19_L2 N c2922 n2924 c2925 n3179 c3180 x3291 c3292 c3293 c3294 x3303 x3341 N 0 0) fun x3361 =>
        grd (0 < List.length (List.drop 1 c2922)) <|
        getI .i64 (gp c2922 1) fun x3364 =>
        grd (0 ≤ x3303 ∧ x3303 < ((n2924 : Nat) : Int)) <|
        grd (0 < List.length (List.drop (Int.toNat x3303) c2925)) <|
        getI .i64 (gp c2925 (Int.toNat x3303)) fun x3369 =>
        grd (((Int.toNat x3303) + 1) ≤ List.length c3293) <|
        m19_L0 N c2922 n2924 c2925 n3179 c3180 n (IntKind.i64.wrap (x3291 + 1)) c3292 (List.set c3293 (Int.toNat x3303) (.int .i64 (minI (IntKind.i64.wrap (x3364 - x3341)) (IntKind.i64.wrap (x3369 - x3361))))) c3294) (
      casI x3300 2 (
        bnd' (m64_2 N n2924 c3294) fun p3371 =>
        getI .i64 p3371 fun x3374 =>
        bnd' (m19_L1 N c2922 n2924 c2925 n3179 c3180 x3291 c3292 c3293 c3294 x3303 x3374 N 0 0) fun x3394 =>
        grd (0 < List.length (List.drop 2 c2922)) <|
        getI .i64 (gp c2922 2) fun x3397 =>
        grd (0 ≤ x3303 ∧ x3303 < ((n2924 : Nat) : Int)) <|
        grd (0 < List.length (List.drop (Int.toNat x3303) c2925)) <|
        getI .i64 (gp c2925 (Int.toNat x3303)) fun x3402 =>
        grd (((Int.toNat x3303) + 1) ≤ List.length c3294) <|
        m19_L0 N c2922 n2924 c2925 n3179 c3180 n (IntKind.i64.wrap (x3291 + 1)) c3292 c3293 (List.set c3294 (Int.toNat x3303) (.int .i64 (minI (IntKind.i64.wrap (x3397 - x3374)) (IntKind.i64.wrap (x3402 - x3394)))))) (
      none)))) (
      some (c3292, c3293, c3294))
noncomputable def m19_L5 (N : Nat) (c2922 : List PV) (n2924 : Nat) (c2925 : List PV) (n3031 : Nat) (c3032 : List PV) (x3100 : Int) (c3101 : List PV) (c3102 : List PV) (x3111 : Int) (x3144 : Int) : Nat → Int → Int → Option (Int)
  | 0, _, _ => none
  | n + 1, x3145, x3146 =>
    brn (decide (x3146 < 2)) (
      casI x3146 0 (
        grd (0 ≤ x3111 ∧ x3111 < ((n2924 : Nat) : Int)) <|
        grd ((Int.toNat x3111) < List.length c3101) <|
        getI .i64 (gp c3101 (Int.toNat x3111)) fun x3153 =>
        m19_L5 N c2922 n2924 c2925 n3031 c3032 x3100 c3101 c3102 x3111 x3144 n (IntKind.i64.wrap (x3145 + x3153)) 1) (
      casI x3146 1 (
        grd (0 ≤ x3111 ∧ x3111 < ((n2924 : Nat) : Int)) <|
        grd ((Int.toNat x3111) < List.length c3102) <|
        getI .i64 (gp c3102 (Int.toNat x3111)) fun x3158 =>
        m19_L5 N c2922 n2924 c2925 n3031 c3032 x3100 c3101 c3102 x3111 x3144 n (IntKind.i64.wrap (x3145 + x3158)) 2) (
      none))) (
      some x3145)
noncomputable def m19_L6 (N : Nat) (c2922 : List PV) (n2924 : Nat) (c2925 : List PV) (n3031 : Nat) (c3032 : List PV) (x3100 : Int) (c3101 : List PV) (c3102 : List PV) (x3111 : Int) (x3116 : Int) : Nat → Int → Int → Option (Int)
  | 0, _, _ => none
  | n + 1, x3117, x3118 =>
    brn (decide (x3118 < 2)) (
      casI x3118 0 (
        grd (0 ≤ x3111 ∧ x3111 < ((n2924 : Nat) : Int)) <|
        grd ((Int.toNat x3111) < List.length c3101) <|
        getI .i64 (gp c3101 (Int.toNat x3111)) fun x3125 =>
        m19_L6 N c2922 n2924 c2925 n3031 c3032 x3100 c3101 c3102 x3111 x3116 n (IntKind.i64.wrap (x3117 + x3125)) 1) (
      casI x3118 1 (
        grd (0 ≤ x3111 ∧ x3111 < ((n2924 : Nat) : Int)) <|
        grd ((Int.toNat x3111) < List.length c3102) <|
        getI .i64 (gp c3102 (Int.toNat x3111)) fun x3130 =>
        m19_L6 N c2922 n2924 c2925 n3031 c3032 x3100 c3101 c3102 x3111 x3116 n (IntKind.i64.wrap (x3117 + x3130)) 2) (
      none))) (
      some x3117)
noncomputable def m19_L4 (N : Nat) (c2922 : List PV) (n2924 : Nat) (c2925 : List PV) (n3031 : Nat) (c3032 : List PV) : Nat → Int → List PV → List PV → Option ((List PV × List PV))
  | 0, _, _, _ => none
  | n + 1, x3100, c3101, c3102 =>
    brn (decide (x3100 < ((n3031 : Nat) : Int))) (
      grd (0 ≤ x3100 ∧ x3100 < ((n3031 : Nat) : Int)) <|
      grd (0 < List.length (List.drop ((Int.toNat x3100) * 2) c3032)) <|
      getI .i64 (gp c3032 ((Int.toNat x3100) * 2)) fun x3108 =>
      grd (0 < List.length (List.drop 1 (List.drop ((Int.toNat x3100) * 2) c3032))) <|
      getI .i64 (gp c3032 (((Int.toNat x3100) * 2) + 1)) fun x3111 =>
      casI x3108 0 (
        bnd' (m64_2 N n2924 c3101) fun p3113 =>
        getI .i64 p3113 fun x3116 =>
        bnd' (m19_L6 N c2922 n2924 c2925 n3031 c3032 x3100 c3101 c3102 x3111 x3116 N 0 0) fun x3131 =>
        grd (0 < List.length c2922) <|
        getI .i64 (gp c2922 0) fun x3134 =>
        grd (0 ≤ x3111 ∧ x3111 < ((n2924 : Nat) : Int)) <|
        grd (0 < List.length (List.drop (Int.toNat x3111) c2925)) <|
        getI .i64 (gp c2925 (Int.toNat x3111)) fun x3139 =>
        grd (((Int.toNat x3111) + 1) ≤ List.length c3101) <|
        m19_L4 N c2922 n2924 c2925 n3031 c3032 n (IntKind.i64.wrap (x3100 + 1)) (List.set c3101 (Int.toNat x3111) (.int .i64 (minI (IntKind.i64.wrap (x3134 - x3116)) (IntKind.i64.wrap (x3139 - x3131))))) c3102) (
      casI x3108 1 (
        bnd' (m64_2 N n2924 c3102) fun p3141 =>
        getI .i64 p3141 fun x3144 =>
        bnd' (m19_L5 N c2922 n2924 c2925 n3031 c3032 x3100 c3101 c3102 x3111 x3144 N 0 0) fun x3159 =>
        grd (0 < List.length (List.drop 1 c2922)) <|
        getI .i64 (gp c2922 1) fun x3162 =>
        grd (0 ≤ x3111 ∧ x3111 < ((n2924 : Nat) : Int)) <|
        grd (0 < List.length (List.drop (Int.toNat x3111) c2925)) <|
        getI .i64 (gp c2925 (Int.toNat x3111)) fun x3167 =>
        grd (((Int.toNat x3111) + 1) ≤ List.length c3102) <|
        m19_L4 N c2922 n2924 c2925 n3031 c3032 n (IntKind.i64.wrap (x3100 + 1)) c3101 (List.set c3102 (Int.toNat x3111) (.int .i64 (minI (IntKind.i64.wrap (x3162 - x3144)) (IntKind.i64.wrap (x3167 - x3159)))))) (
      none))) (
      some (c3101, c3102))
noncomputable def m19_L8 (N : Nat) (c2922 : List PV) (n2924 : Nat) (c2925 : List PV) (n2938 : Nat) (c2939 : List PV) (x2988 : Int) (c2989 : List PV) (x2998 : Int) (x3003 : Int) : Nat → Int → Int → Option (Int)
  | 0, _, _ => none
  | n + 1, x3004, x3005 =>
    brn (decide (x3005 < 1)) (
      casI x3005 0 (
        grd (0 ≤ x2998 ∧ x2998 < ((n2924 : Nat) : Int)) <|
        grd ((Int.toNat x2998) < List.length c2989) <|
        getI .i64 (gp c2989 (Int.toNat x2998)) fun x3012 =>
        m19_L8 N c2922 n2924 c2925 n2938 c2939 x2988 c2989 x2998 x3003 n (IntKind.i64.wrap (x3004 + x3012)) 1) (
      none)) (
      some x3004)
noncomputable def m19_L7 (N : Nat) (c2922 : List PV) (n2924 : Nat) (c2925 : List PV) (n2938 : Nat) (c2939 : List PV) : Nat → Int → List PV → Option (List PV)
  | 0, _, _ => none
  | n + 1, x2988, c2989 =>
    brn (decide (x2988 < ((n2938 : Nat) : Int))) (
      grd (0 ≤ x2988 ∧ x2988 < ((n2938 : Nat) : Int)) <|
      grd (0 < List.length (List.drop ((Int.toNat x2988) * 2) c2939)) <|
      getI .i64 (gp c2939 ((Int.toNat x2988) * 2)) fun x2995 =>
      grd (0 < List.length (List.drop 1 (List.drop ((Int.toNat x2988) * 2) c2939))) <|
      getI .i64 (gp c2939 (((Int.toNat x2988) * 2) + 1)) fun x2998 =>
      casI x2995 0 (
        bnd' (m64_2 N n2924 c2989) fun p3000 =>
        getI .i64 p3000 fun x3003 =>
        bnd' (m19_L8 N c2922 n2924 c2925 n2938 c2939 x2988 c2989 x2998 x3003 N 0 0) fun x3013 =>
        grd (0 < List.length c2922) <|
        getI .i64 (gp c2922 0) fun x3016 =>
        grd (0 ≤ x2998 ∧ x2998 < ((n2924 : Nat) : Int)) <|
        grd (0 < List.length (List.drop (Int.toNat x2998) c2925)) <|
        getI .i64 (gp c2925 (Int.toNat x2998)) fun x3021 =>
        grd (((Int.toNat x2998) + 1) ≤ List.length c2989) <|
        m19_L7 N c2922 n2924 c2925 n2938 c2939 n (IntKind.i64.wrap (x2988 + 1)) (List.set c2989 (Int.toNat x2998) (.int .i64 (minI (IntKind.i64.wrap (x3016 - x3003)) (IntKind.i64.wrap (x3021 - x3013)))))) (
      none)) (
      some c2989)
noncomputable def m19 (N : Nat) (p2912 : PV) (p2913 : PV) : Option (PV) :=
  getL p2912 fun n2915 c2916 =>
  getA2 p2913 fun p2918 p2919 =>
  getL p2918 fun n2921 c2922 =>
  getL p2919 fun n2924 c2925 =>
  bnd' (m26 N (.lst false n2915 c2916) (.agg [(.lst false n2921 c2922), (.lst false n2924 c2925)])) fun p2926 =>
  getI .i64 p2926 fun x2929 =>
  brn (x2929 != 0) (
    some (.tup [(.lst false 0 []), (.int .i64 x2929)])) (
    casN n2921 1 (
      grd (0 ≤ ((n2924 : Nat) : Int) ∧ ((n2924 : Nat) : Int) ≤ ((n2924 : Nat) : Int) ∧ ((n2924 : Nat) : Int) ≤ 1099511627776) <|
      bnd' (m63 N (.agg [(.lst false 1 c2922), (.lst false n2924 c2925)])) fun p2935 =>
      getL p2935 fun n2938 c2939 =>
      bnd' (m19_L7 N c2922 n2924 c2925 n2938 c2939 N 0 (List.replicate n2924 (.int .i64 0))) fun c3023 =>
      grd (List.length c3023 = n2924) <|
      some (.tup [(.lst false 1 [(.lst false n2924 c3023)]), (.int .i64 0)])) (
    casN n2921 2 (
      grd (0 ≤ ((n2924 : Nat) : Int) ∧ ((n2924 : Nat) : Int) ≤ ((n2924 : Nat) : Int) ∧ ((n2924 : Nat) : Int) ≤ 1099511627776) <|
      bnd' (m63 N (.agg [(.lst false 2 c2922), (.lst false n2924 c2925)])) fun p3028 =>
      getL p3028 fun n3031 c3032 =>
      bnd' (m19_L4 N c2922 n2924 c2925 n3031 c3032 N 0 (List.replicate n2924 (.int .i64 0)) (List.replicate n2924 (.int .i64 0))) fun o =>
      match o with
      | (c3169, c3170) =>
        grd (List.length c3169 = n2924) <|
        grd (List.length c3170 = n2924) <|
        some (.tup [(.lst false 2 [(.lst false n2924 c3169), (.lst false n2924 c3170)]), (.int .i64 0)])) (
    casN n2921 3 (
      grd (0 ≤ ((n2924 : Nat) : Int) ∧ ((n2924 : Nat) : Int) ≤ ((n2924 : Nat) : Int) ∧ ((n2924 : Nat) : Int) ≤ 1099511627776) <|
      bnd' (m63 N (.agg [(.lst false 3 c2922), (.lst false n2924 c2925)])) fun p3176 =>
      getL p3176 fun n3179 c3180 =>
      bnd' (m19_L0 N c2922 n2924 c2925 n3179 c3180 N 0 (List.replicate n2924 (.int .i64 0)) (List.replicate n2924 (.int .i64 0)) (List.replicate n2924 (.int .i64 0))) fun o =>
      match o with
      | (c3404, c3405, c3406) =>
        grd (List.length c3404 = n2924) <|
        grd (List.length c3405 = n2924) <|
        grd (List.length c3406 = n2924) <|
        some (.tup [(.lst false 3 [(.lst false n2924 c3404), (.lst false n2924 c3405), (.lst false n2924 c3406)]), (.int .i64 0)])) (
    none))))
theorem c19 (N : Nat) (p2912 : PV) (p2913 : PV) (r : PV)  (h : m19 N p2912 p2913 = some r) : FnP Try.prog 19 [p2912, p2913] r := by
  unfold m19 at h
  refine Fn_of (sz := 96) tab_ok [0, 1, 3, 4, 5, 6, 7, 8, 9, 10, 11, 12, 13, 14, 15, 20, 26, 41, 62] [.tmp 4, .tmp 5] Try.func19 rfl rfl rfl (by simp) ?_
  simp only [initSt, initEnv, List.map_cons, List.map_nil, List.getD_cons_zero, List.getD_cons_succ, List.getD_nil]
  have hh := getL_some h; clear h; obtain ⟨n2915, c2916, h2914, h⟩ := hh
  have hh := getA2_some h; clear h; obtain ⟨p2918, p2919, h2917, h⟩ := hh
  have hh := getL_some h; clear h; obtain ⟨n2921, c2922, h2920, h⟩ := hh
  have hh := getL_some h; clear h; obtain ⟨n2924, c2925, h2923, h⟩ := hh
  have hh := bnd'_some h; clear h; obtain ⟨p2926, h2927, h⟩ := hh
  refine W_sound tab_ok mixed 10 _ _ _ ?_
  simp -implicitDefEqProofs only [go_sem, Nat.reduceBEq, Nat.reduceAdd, Nat.reduceSub, Nat.reduceMul, Nat.reduceLT, Nat.reduceLeDiff, Int.reduceLE, Int.reduceLT, Int.reduceToNat, Int.reduceBEq, Int.reduceBNe, ↓reduceIte, Int.reduceAdd, Int.reduceSub, Int.reduceGT, Int.reduceGE, h2914, h2917, h2920, h2923]
  repeat with_reducible refine And.intro (by first | kernel_rfl | decide) ?_
  refine Wp_callP (c26 N _ _ _ h2927) (by kernel_rfl) rfl rfl rfl rfl (by decide) ?_
  have hh := getI_some h; clear h; obtain ⟨x2929, h2928, h⟩ := hh
  have hh := brn_some h; clear h; rcases hh with ⟨h2930, h⟩ | ⟨h2930, h⟩
  · refine W_sound tab_ok mixed 17 _ _ _ ?_
    simp -implicitDefEqProofs only [go_sem, Nat.reduceBEq, Nat.reduceAdd, Nat.reduceSub, Nat.reduceMul, Nat.reduceLT, Nat.reduceLeDiff, Int.reduceLE, Int.reduceLT, Int.reduceToNat, Int.reduceBEq, Int.reduceBNe, ↓reduceIte, Int.reduceAdd, Int.reduceSub, Int.reduceGT, Int.reduceGE, h2914, h2917, h2920, h2923, h2928, h2930]
    repeat with_reducible refine And.intro (by first | kernel_rfl | decide) ?_
    obtain rfl := Option.some.inj h
    exact finC [(4, .v .nl), (5, .v (.int .i64 x2929))] [(4, .v (.lst false 0 [])), (5, .v (.int .i64 x2929))] (by simp [leE, lk_cons]) (.cons _ _ _ _ _ (.v _ _ (.nl false)) (.cons _ _ _ _ _ (.v _ _ (.refl _)) .nil)) (by rfl) (by simp [leE, lk_cons]) (by decide) (by decide) rfl (by simp only [go_sem, Nat.reduceBEq, Nat.reduceAdd, Nat.reduceSub, Nat.reduceMul, Nat.reduceLT, Nat.reduceLeDiff, Int.reduceLE, Int.reduceLT, Int.reduceToNat, Int.reduceBEq, Int.reduceBNe, ↓reduceIte, resQ_tmp, resQ_cell, resQ_nil, retD_one, retD_two, retD_three, retD_none]; try simp [R.val, retD_one, retD_two, retD_three, retD_none])
  · have hh := casN_some h; clear h; rcases hh with ⟨rfl, h⟩ | ⟨_, h⟩
    · refine W_sound tab_ok mixed 19 _ _ _ ?_
      simp -implicitDefEqProofs only [go_sem, Nat.reduceBEq, Nat.reduceAdd, Nat.reduceSub, Nat.reduceMul, Nat.reduceLT, Nat.reduceLeDiff, Int.reduceLE, Int.reduceLT, Int.reduceToNat, Int.reduceBEq, Int.reduceBNe, ↓reduceIte, Int.reduceAdd, Int.reduceSub, Int.reduceGT, Int.reduceGE, h2914, h2917, h2920, h2923, h2928, h2930]
      repeat with_reducible refine And.intro (by first | kernel_rfl | decide) ?_
      refine Wp_block ?_
      refine Wp_loopL (WpL_step ?_)
      have hh := grd_some h; clear h; obtain ⟨⟨g2932, g2933, g2934⟩, h⟩ := hh
      refine W_sound tab_ok mixed 29 _ _ _ ?_
      simp -implicitDefEqProofs only [go_sem, Nat.reduceBEq, Nat.reduceAdd, Nat.reduceSub, Nat.reduceMul, Nat.reduceLT, Nat.reduceLeDiff, Int.reduceLE, Int.reduceLT, Int.reduceToNat, Int.reduceBEq, Int.reduceBNe, ↓reduceIte, Int.reduceAdd, Int.reduceSub, Int.reduceGT, Int.reduceGE, h2914, h2917, h2920, h2923, h2928, h2930, g2932, g2933, g2934]
      repeat with_reducible refine And.intro (by first | kernel_rfl | decide) ?_
      refine again (Wk_keep (st' := ⟨[], [(0, .dead), (1, .dead), (3, .ptr 0 0), (4, .dead), (5, .dead), (6, .dead), (7, .sl false 1 0 1 1), (8, .v (.int .i64 1)), (9, .dead), (10, .dead), (11, .dead), (12, .dead), (13, .dead), (14, .dead), (15, .dead), (20, .dead), (26, .dead), (41, .dead), (62, .dead)], [(0, .p [(.lst false 1 c2922), (.lst false n2924 c2925)]), (1, .r [.sl false 2 0 n2924 1]), (2, .p (List.replicate n2924 (.int .i64 0)))], 3, []⟩) [3, 7, 8] (by kernel_rfl)) ?_
      have hh := bnd'_some h; clear h; obtain ⟨p2935, h2936, h⟩ := hh
      refine W_sound tab_ok mixed 14 _ _ _ ?_
      simp -implicitDefEqProofs only [go_sem, Nat.reduceBEq, Nat.reduceAdd, Nat.reduceSub, Nat.reduceMul, Nat.reduceLT, Nat.reduceLeDiff, Int.reduceLE, Int.reduceLT, Int.reduceToNat, Int.reduceBEq, Int.reduceBNe, ↓reduceIte, Int.reduceAdd, Int.reduceSub, Int.reduceGT, Int.reduceGE, h2914, h2917, h2920, h2923, h2928, h2930, g2932, g2933, g2934]
      repeat with_reducible refine And.intro (by first | kernel_rfl | decide) ?_
      refine Wp_callP (c63 N _ _ h2936) (by kernel_rfl) rfl rfl rfl rfl (by decide) ?_
      have hh := getL_some h; clear h; obtain ⟨n2938, c2939, h2937, h⟩ := hh
      refine W_sound tab_ok mixed 7 _ _ _ ?_
      simp -implicitDefEqProofs only [go_sem, Nat.reduceBEq, Nat.reduceAdd, Nat.reduceSub, Nat.reduceMul, Nat.reduceLT, Nat.reduceLeDiff, Int.reduceLE, Int.reduceLT, Int.reduceToNat, Int.reduceBEq, Int.reduceBNe, ↓reduceIte, Int.reduceAdd, Int.reduceSub, Int.reduceGT, Int.reduceGE, h2914, h2917, h2920, h2923, h2928, h2930, g2932, g2933, g2934, h2937]
      repeat with_reducible refine And.intro (by first | kernel_rfl | decide) ?_
      have hh := bnd'_some h; clear h; obtain ⟨o3410, h3411, h3412⟩ := hh
      refine Wp_cut (fun s => ∃ c3023, c3023 = o3410 ∧ s = ⟨[], [(0, .dead), (1, .dead), (3, .dead), (4, .dead), (5, .dead), (6, .dead), (7, .sl false 0 0 1 1), (8, .dead), (9, .dead), (10, .dead), (11, .dead), (12, .dead), (13, .dead), (14, .dead), (15, .dead), (20, .dead), (26, .dead), (41, .dead), (62, .dead)], [(0, .r [.sl false 1 0 n2924 1]), (1, .p c3023)], 2, []⟩) ?_ ?_
      · refine Wp_block ?_
        refine Wp_loopG (fun n s => ∃ x2988, ∃ c2989, m19_L7 N c2922 n2924 c2925 n2938 c2939 n x2988 c2989 = some o3410 ∧ s = ⟨[], [(0, .dead), (1, .dead), (3, .ptr 0 0), (4, .dead), (5, .dead), (6, .dead), (7, .sl false 1 0 1 1), (8, .dead), (9, .v (.lst false n2938 c2939)), (10, .v (.int .i64 x2988)), (11, .dead), (12, .dead), (13, .dead), (14, .dead), (15, .dead), (20, .dead), (26, .dead), (41, .dead), (62, .dead)], [(0, .p [(.lst false 1 c2922), (.lst false n2924 c2925)]), (1, .r [.sl false 2 0 n2924 1]), (2, .p c2989)], 3, []⟩) N _ (Wk_keep (st' := ⟨[], [(0, .dead), (1, .dead), (3, .ptr 0 0), (4, .dead), (5, .dead), (6, .dead), (7, .sl false 1 0 1 1), (8, .dead), (9, .v (.lst false n2938 c2939)), (10, .v (.int .i64 0)), (11, .dead), (12, .dead), (13, .dead), (14, .dead), (15, .dead), (20, .dead), (26, .dead), (41, .dead), (62, .dead)], [(0, .p [(.lst false 1 c2922), (.lst false n2924 c2925)]), (1, .r [.sl false 2 0 n2924 1]), (2, .p (List.replicate n2924 (.int .i64 0)))], 3, []⟩) [3, 7, 9, 10] (by kernel_rfl)) ⟨_, _, h3411, rfl⟩ ?_
        clear h3411
        rintro n _ ⟨x2988, c2989, h3411, rfl⟩
        cases n with
        | zero => cases h3411
        | succ n =>
          rw [m19_L7] at h3411
          have hh := brn_some h3411; clear h3411; rcases hh with ⟨h2990, h3411⟩ | ⟨h2990, h3411⟩
          · have hh := grd_some h3411; clear h3411; obtain ⟨⟨g2991, g2992⟩, h3411⟩ := hh
            have hh := grd_some h3411; clear h3411; obtain ⟨g2993, h3411⟩ := hh
            have hh := getI_some h3411; clear h3411; obtain ⟨x2995, h2994, h3411⟩ := hh
            have hh := grd_some h3411; clear h3411; obtain ⟨g2996, h3411⟩ := hh
            have hh := getI_some h3411; clear h3411; obtain ⟨x2998, h2997, h3411⟩ := hh
            have hh := casI_some h3411; clear h3411; rcases hh with ⟨rfl, h3411⟩ | ⟨_, h3411⟩
            · have hh := bnd'_some h3411; clear h3411; obtain ⟨p3000, h3001, h3411⟩ := hh
              (try dsimp only at h3411)
              refine W_sound tab_ok mixed 33 _ _ _ ?_
              simp -implicitDefEqProofs only [go_sem, Nat.reduceBEq, Nat.reduceAdd, Nat.reduceSub, Nat.reduceMul, Nat.reduceLT, Nat.reduceLeDiff, Int.reduceLE, Int.reduceLT, Int.reduceToNat, Int.reduceBEq, Int.reduceBNe, ↓reduceIte, Int.reduceAdd, Int.reduceSub, Int.reduceGT, Int.reduceGE, h2914, h2917, h2920, h2923, h2928, h2930, g2932, g2933, g2934, h2937, h2990, g2991, g2992, g2993, h2994, g2996, h2997]
              repeat with_reducible refine And.intro (by first | kernel_rfl | decide) ?_
              refine Wp_callD [2] (c64_2 N _ _ _ h3001) rfl rfl rfl (by first | rfl | (simp only [go_sem, Nat.reduceBEq, Nat.reduceAdd, Nat.reduceSub, Nat.reduceMul, Nat.reduceLT, Nat.reduceLeDiff, Int.reduceLE, Int.reduceLT, Int.reduceToNat, Int.reduceBEq, Int.reduceBNe, ↓reduceIte, Int.reduceAdd, Int.reduceSub, Int.reduceGT, Int.reduceGE, h2914, h2917, h2920, h2923, h2928, h2930, g2932, g2933, g2934, h2937, h2990, g2991, g2992, g2993, h2994, g2996, h2997] <;> rfl)) rfl (by kernel_rfl) ?_
              have hh := getI_some h3411; clear h3411; obtain ⟨x3003, h3002, h3411⟩ := hh
              refine W_sound tab_ok mixed 8 _ _ _ ?_
              simp -implicitDefEqProofs only [go_sem, Nat.reduceBEq, Nat.reduceAdd, Nat.reduceSub, Nat.reduceMul, Nat.reduceLT, Nat.reduceLeDiff, Int.reduceLE, Int.reduceLT, Int.reduceToNat, Int.reduceBEq, Int.reduceBNe, ↓reduceIte, Int.reduceAdd, Int.reduceSub, Int.reduceGT, Int.reduceGE, h2914, h2917, h2920, h2923, h2928, h2930, g2932, g2933, g2934, h2937, h2990, g2991, g2992, g2993, h2994, g2996, h2997, h3002]
              repeat with_reducible refine And.intro (by first | kernel_rfl | decide) ?_
              have hh := bnd'_some h3411; clear h3411; obtain ⟨o3413, h3414, h3415⟩ := hh
              refine Wp_cut (fun s => ∃ x3013, x3013 = o3413 ∧ s = ⟨[], [(0, .dead), (1, .dead), (3, .ptr 0 0), (4, .dead), (5, .dead), (6, .dead), (7, .sl false 1 0 1 1), (8, .dead), (9, .v (.lst false n2938 c2939)), (10, .v (.int .i64 x2988)), (11, .v (.int .i64 0)), (12, .v (.int .i64 x2998)), (13, .v (.int .i64 x3003)), (14, .v (.int .i64 x3013)), (15, .dead), (20, .dead), (26, .dead), (41, .dead), (62, .dead)], [(0, .p [(.lst false 1 c2922), (.lst false n2924 c2925)]), (1, .r [.sl false 2 0 n2924 1]), (2, .p c2989)], 3, []⟩) ?_ ?_
              · refine Wp_block ?_
                refine Wp_loopG (fun n s => ∃ x3004, ∃ x3005, m19_L8 N c2922 n2924 c2925 n2938 c2939 x2988 c2989 x2998 x3003 n x3004 x3005 = some o3413 ∧ s = ⟨[], [(0, .dead), (1, .dead), (3, .ptr 0 0), (4, .dead), (5, .dead), (6, .dead), (7, .sl false 1 0 1 1), (8, .dead), (9, .v (.lst false n2938 c2939)), (10, .v (.int .i64 x2988)), (11, .v (.int .i64 0)), (12, .v (.int .i64 x2998)), (13, .v (.int .i64 x3003)), (14, .v (.int .i64 x3004)), (15, .v (.int .i64 x3005)), (20, .dead), (26, .dead), (41, .dead), (62, .dead)], [(0, .p [(.lst false 1 c2922), (.lst false n2924 c2925)]), (1, .r [.sl false 2 0 n2924 1]), (2, .p c2989)], 3, []⟩) N _ (Wk_keep (st' := ⟨[], [(0, .dead), (1, .dead), (3, .ptr 0 0), (4, .dead), (5, .dead), (6, .dead), (7, .sl false 1 0 1 1), (8, .dead), (9, .v (.lst false n2938 c2939)), (10, .v (.int .i64 x2988)), (11, .v (.int .i64 0)), (12, .v (.int .i64 x2998)), (13, .v (.int .i64 x3003)), (14, .v (.int .i64 0)), (15, .v (.int .i64 0)), (20, .dead), (26, .dead), (41, .dead), (62, .dead)], [(0, .p [(.lst false 1 c2922), (.lst false n2924 c2925)]), (1, .r [.sl false 2 0 n2924 1]), (2, .p c2989)], 3, []⟩) [3, 7, 9, 10, 11, 12, 13, 14, 15] (by kernel_rfl)) ⟨_, _, h3414, rfl⟩ ?_
                clear h3414
                rintro n _ ⟨x3004, x3005, h3414, rfl⟩
                cases n with
                | zero => cases h3414
                | succ n =>
                  rw [m19_L8] at h3414
                  have hh := brn_some h3414; clear h3414; rcases hh with ⟨h3006, h3414⟩ | ⟨h3006, h3414⟩
                  · have hh := casI_some h3414; clear h3414; rcases hh with ⟨rfl, h3414⟩ | ⟨_, h3414⟩
                    · have hh := grd_some h3414; clear h3414; obtain ⟨⟨g3008, g3009⟩, h3414⟩ := hh
                      have hh := grd_some h3414; clear h3414; obtain ⟨g3010, h3414⟩ := hh
                      have hh := getI_some h3414; clear h3414; obtain ⟨x3012, h3011, h3414⟩ := hh
                      refine W_sound tab_ok mixed 30 _ _ _ ?_
                      simp -implicitDefEqProofs only [go_sem, Nat.reduceBEq, Nat.reduceAdd, Nat.reduceSub, Nat.reduceMul, Nat.reduceLT, Nat.reduceLeDiff, Int.reduceLE, Int.reduceLT, Int.reduceToNat, Int.reduceBEq, Int.reduceBNe, ↓reduceIte, Int.reduceAdd, Int.reduceSub, Int.reduceGT, Int.reduceGE, h2914, h2917, h2920, h2923, h2928, h2930, g2932, g2933, g2934, h2937, h2990, g2991, g2992, g2993, h2994, g2996, h2997, h3002, h3006, g3008, g3009, g3010, h3011]
                      repeat with_reducible refine And.intro (by first | kernel_rfl | decide) ?_
                      (try rw [h2994] at h3414)
                      (try rw [h2997] at h3414)
                      (try rw [h3011] at h3414)
                      refine cutQ _ ?_ ⟨n, Nat.lt_succ_self n, _, _, h3414, rfl⟩
                      exact Wk_keep [3, 7, 9, 10, 11, 12, 13, 14, 15] (by kernel_rfl)
                    · skip
                      cases h3414
                  · refine W_sound tab_ok mixed 10 _ _ _ ?_
                    simp -implicitDefEqProofs only [go_sem, Nat.reduceBEq, Nat.reduceAdd, Nat.reduceSub, Nat.reduceMul, Nat.reduceLT, Nat.reduceLeDiff, Int.reduceLE, Int.reduceLT, Int.reduceToNat, Int.reduceBEq, Int.reduceBNe, ↓reduceIte, Int.reduceAdd, Int.reduceSub, Int.reduceGT, Int.reduceGE, h2914, h2917, h2920, h2923, h2928, h2930, g2932, g2933, g2934, h2937, h2990, g2991, g2992, g2993, h2994, g2996, h2997, h3002, h3006]
                    repeat with_reducible refine And.intro (by first | kernel_rfl | decide) ?_
                    obtain rfl := Option.some.inj h3414
                    refine cutQ _ ?_ ⟨_, rfl, rfl⟩
                    exact Wk_keep [3, 7, 9, 10, 11, 12, 13, 14] (by kernel_rfl)
              · rintro _ ⟨x3013, rfl, rfl⟩
                have hh := grd_some h3415; clear h3415; obtain ⟨g3014, h3415⟩ := hh
                have hh := getI_some h3415; clear h3415; obtain ⟨x3016, h3015, h3415⟩ := hh
                have hh := grd_some h3415; clear h3415; obtain ⟨⟨g3017, g3018⟩, h3415⟩ := hh
                have hh := grd_some h3415; clear h3415; obtain ⟨g3019, h3415⟩ := hh
                have hh := getI_some h3415; clear h3415; obtain ⟨x3021, h3020, h3415⟩ := hh
                have hh := grd_some h3415; clear h3415; obtain ⟨g3022, h3415⟩ := hh
                refine W_sound tab_ok mixed 30 _ _ _ ?_
                simp -implicitDefEqProofs only [go_sem, Nat.reduceBEq, Nat.reduceAdd, Nat.reduceSub, Nat.reduceMul, Nat.reduceLT, Nat.reduceLeDiff, Int.reduceLE, Int.reduceLT, Int.reduceToNat, Int.reduceBEq, Int.reduceBNe, ↓reduceIte, Int.reduceAdd, Int.reduceSub, Int.reduceGT, Int.reduceGE, h2914, h2917, h2920, h2923, h2928, h2930, g2932, g2933, g2934, h2937, h2990, g2991, g2992, g2993, h2994, g2996, h2997, h3002, g3014, h3015, g3017, g3018, g3019, h3020, g3022]
                repeat with_reducible refine And.intro (by first | kernel_rfl | decide) ?_
                (try rw [h2994] at h3415)
                (try rw [h2997] at h3415)
                (try rw [h3015] at h3415)
                (try rw [h3020] at h3415)
                refine cutQ _ ?_ ⟨n, Nat.lt_succ_self n, _, _, h3415, rfl⟩
                exact Wk_keep [3, 7, 9, 10] (by kernel_rfl)
            · skip
              cases h3411
          · refine W_sound tab_ok mixed 10 _ _ _ ?_
            simp -implicitDefEqProofs only [go_sem, Nat.reduceBEq, Nat.reduceAdd, Nat.reduceSub, Nat.reduceMul, Nat.reduceLT, Nat.reduceLeDiff, Int.reduceLE, Int.reduceLT, Int.reduceToNat, Int.reduceBEq, Int.reduceBNe, ↓reduceIte, Int.reduceAdd, Int.reduceSub, Int.reduceGT, Int.reduceGE, h2914, h2917, h2920, h2923, h2928, h2930, g2932, g2933, g2934, h2937, h2990]
            repeat with_reducible refine And.intro (by first | kernel_rfl | decide) ?_
            obtain rfl := Option.some.inj h3411
            refine cutQ _ ?_ ⟨_, rfl, rfl⟩
            exact Wk_keep [7] (by kernel_rfl)
      · rintro _ ⟨c3023, rfl, rfl⟩
        refine W_sound tab_ok mixed 8 _ _ _ ?_
        simp -implicitDefEqProofs only [go_sem, Nat.reduceBEq, Nat.reduceAdd, Nat.reduceSub, Nat.reduceMul, Nat.reduceLT, Nat.reduceLeDiff, Int.reduceLE, Int.reduceLT, Int.reduceToNat, Int.reduceBEq, Int.reduceBNe, ↓reduceIte, Int.reduceAdd, Int.reduceSub, Int.reduceGT, Int.reduceGE, h2914, h2917, h2920, h2923, h2928, h2930, g2932, g2933, g2934, h2937]
        repeat with_reducible refine And.intro (by first | kernel_rfl | decide) ?_
        have hh := grd_some h3412; clear h3412; obtain ⟨g3024, h3412⟩ := hh
        refine FinQ_wk (Wk_freeze 1 c3023 (by rfl) (by decide) (by decide)) ?_
        simp -implicitDefEqProofs only [go_sem, Nat.reduceBEq, Nat.reduceAdd, Nat.reduceSub, Nat.reduceMul, Nat.reduceLT, Nat.reduceLeDiff, Int.reduceLE, Int.reduceLT, Int.reduceToNat, Int.reduceBEq, Int.reduceBNe, ↓reduceIte, Int.reduceAdd, Int.reduceSub, Int.reduceGT, Int.reduceGE, h2914, h2917, h2920, h2923, h2928, h2930, g2932, g2933, g2934, h2937, g3024]
        refine FinQ_wk (Wk_freeze 0 [(.lst false n2924 c3023)] (by rfl) (by decide) (by decide)) ?_
        simp -implicitDefEqProofs only [go_sem, Nat.reduceBEq, Nat.reduceAdd, Nat.reduceSub, Nat.reduceMul, Nat.reduceLT, Nat.reduceLeDiff, Int.reduceLE, Int.reduceLT, Int.reduceToNat, Int.reduceBEq, Int.reduceBNe, ↓reduceIte, Int.reduceAdd, Int.reduceSub, Int.reduceGT, Int.reduceGE, h2914, h2917, h2920, h2923, h2928, h2930, g2932, g2933, g2934, h2937, g3024]
        obtain rfl := Option.some.inj h3412
        exact finC [(4, .v (.lst false 1 [(.lst false n2924 c3023)])), (5, .v (.int .i64 0))] [(4, .v (.lst false 1 [(.lst false n2924 c3023)])), (5, .v (.int .i64 0))] (by simp [leE, lk_cons]) (.cons _ _ _ _ _ (.v _ _ (.refl _)) (.cons _ _ _ _ _ (.v _ _ (.refl _)) .nil)) (by rfl) (by simp [leE, lk_cons]) (by decide) (by decide) rfl (by simp only [go_sem, Nat.reduceBEq, Nat.reduceAdd, Nat.reduceSub, Nat.reduceMul, Nat.reduceLT, Nat.reduceLeDiff, Int.reduceLE, Int.reduceLT, Int.reduceToNat, Int.reduceBEq, Int.reduceBNe, ↓reduceIte, resQ_tmp, resQ_cell, resQ_nil, retD_one, retD_two, retD_three, retD_none]; try simp [R.val, retD_one, retD_two, retD_three, retD_none])
    · skip
      have hh := casN_some h; clear h; rcases hh with ⟨rfl, h⟩ | ⟨_, h⟩
      · refine W_sound tab_ok mixed 19 _ _ _ ?_
        simp -implicitDefEqProofs only [go_sem, Nat.reduceBEq, Nat.reduceAdd, Nat.reduceSub, Nat.reduceMul, Nat.reduceLT, Nat.reduceLeDiff, Int.reduceLE, Int.reduceLT, Int.reduceToNat, Int.reduceBEq, Int.reduceBNe, ↓reduceIte, Int.reduceAdd, Int.reduceSub, Int.reduceGT, Int.reduceGE, h2914, h2917, h2920, h2923, h2928, h2930]
        repeat with_reducible refine And.intro (by first | kernel_rfl | decide) ?_
        refine Wp_block ?_
        refine Wp_loopL (WpL_step ?_)
        have hh := grd_some h; clear h; obtain ⟨⟨g3025, g3026, g3027⟩, h⟩ := hh
        refine W_sound tab_ok mixed 29 _ _ _ ?_
        simp -implicitDefEqProofs only [go_sem, Nat.reduceBEq, Nat.reduceAdd, Nat.reduceSub, Nat.reduceMul, Nat.reduceLT, Nat.reduceLeDiff, Int.reduceLE, Int.reduceLT, Int.reduceToNat, Int.reduceBEq, Int.reduceBNe, ↓reduceIte, Int.reduceAdd, Int.reduceSub, Int.reduceGT, Int.reduceGE, h2914, h2917, h2920, h2923, h2928, h2930, g3025, g3026, g3027]
        repeat with_reducible refine And.intro (by first | kernel_rfl | decide) ?_
        refine again (Wk_keep (st' := ⟨[], [(0, .dead), (1, .dead), (3, .ptr 0 0), (4, .dead), (5, .dead), (6, .dead), (7, .sl false 1 0 1 1), (8, .v (.int .i64 1)), (9, .dead), (10, .dead), (11, .dead), (12, .dead), (13, .dead), (14, .dead), (15, .dead), (20, .dead), (26, .dead), (41, .dead), (62, .dead)], [(0, .p [(.lst false 2 c2922), (.lst false n2924 c2925)]), (1, .r [.sl false 2 0 n2924 1]), (2, .p (List.replicate n2924 (.int .i64 0)))], 3, []⟩) [3, 7, 8] (by kernel_rfl)) ?_
        refine W_sound tab_ok mixed 29 _ _ _ ?_
        simp -implicitDefEqProofs only [go_sem, Nat.reduceBEq, Nat.reduceAdd, Nat.reduceSub, Nat.reduceMul, Nat.reduceLT, Nat.reduceLeDiff, Int.reduceLE, Int.reduceLT, Int.reduceToNat, Int.reduceBEq, Int.reduceBNe, ↓reduceIte, Int.reduceAdd, Int.reduceSub, Int.reduceGT, Int.reduceGE, h2914, h2917, h2920, h2923, h2928, h2930, g3025, g3026, g3027]
        repeat with_reducible refine And.intro (by first | kernel_rfl | decide) ?_
        refine again (Wk_keep (st' := ⟨[], [(0, .dead), (1, .dead), (3, .ptr 0 0), (4, .dead), (5, .dead), (6, .dead), (7, .sl false 1 0 2 1), (8, .v (.int .i64 2)), (9, .dead), (10, .dead), (11, .dead), (12, .dead), (13, .dead), (14, .dead), (15, .dead), (20, .dead), (26, .dead), (41, .dead), (62, .dead)], [(0, .p [(.lst false 2 c2922), (.lst false n2924 c2925)]), (1, .r [.sl false 2 0 n2924 1, .sl false 3 0 n2924 1]), (2, .p (List.replicate n2924 (.int .i64 0))), (3, .p (List.replicate n2924 (.int .i64 0)))], 4, []⟩) [3, 7, 8] (by kernel_rfl)) ?_
        have hh := bnd'_some h; clear h; obtain ⟨p3028, h3029, h⟩ := hh
        refine W_sound tab_ok mixed 14 _ _ _ ?_
        simp -implicitDefEqProofs only [go_sem, Nat.reduceBEq, Nat.reduceAdd, Nat.reduceSub, Nat.reduceMul, Nat.reduceLT, Nat.reduceLeDiff, Int.reduceLE, Int.reduceLT, Int.reduceToNat, Int.reduceBEq, Int.reduceBNe, ↓reduceIte, Int.reduceAdd, Int.reduceSub, Int.reduceGT, Int.reduceGE, h2914, h2917, h2920, h2923, h2928, h2930, g3025, g3026, g3027]
        repeat with_reducible refine And.intro (by first | kernel_rfl | decide) ?_
        refine Wp_callP (c63 N _ _ h3029) (by kernel_rfl) rfl rfl rfl rfl (by decide) ?_
        have hh := getL_some h; clear h; obtain ⟨n3031, c3032, h3030, h⟩ := hh
        refine W_sound tab_ok mixed 7 _ _ _ ?_
        simp -implicitDefEqProofs only [go_sem, Nat.reduceBEq, Nat.reduceAdd, Nat.reduceSub, Nat.reduceMul, Nat.reduceLT, Nat.reduceLeDiff, Int.reduceLE, Int.reduceLT, Int.reduceToNat, Int.reduceBEq, Int.reduceBNe, ↓reduceIte, Int.reduceAdd, Int.reduceSub, Int.reduceGT, Int.reduceGE, h2914, h2917, h2920, h2923, h2928, h2930, g3025, g3026, g3027, h3030]
        repeat with_reducible refine And.intro (by first | kernel_rfl | decide) ?_
        have hh := bnd'_some h; clear h; obtain ⟨o3416, h3417, h3418⟩ := hh
        refine Wp_cut (fun s => ∃ c3169, ∃ c3170, (c3169, c3170) = o3416 ∧ s = ⟨[], [(0, .dead), (1, .dead), (3, .dead), (4, .dead), (5, .dead), (6, .dead), (7, .sl false 0 0 2 1), (8, .dead), (9, .dead), (10, .dead), (11, .dead), (12, .dead), (13, .dead), (14, .dead), (15, .dead), (20, .dead), (26, .dead), (41, .dead), (62, .dead)], [(0, .r [.sl false 1 0 n2924 1, .sl false 2 0 n2924 1]), (1, .p c3169), (2, .p c3170)], 3, []⟩) ?_ ?_
        · refine Wp_block ?_
          refine Wp_loopG (fun n s => ∃ x3100, ∃ c3101, ∃ c3102, m19_L4 N c2922 n2924 c2925 n3031 c3032 n x3100 c3101 c3102 = some o3416 ∧ s = ⟨[], [(0, .dead), (1, .dead), (3, .ptr 0 0), (4, .dead), (5, .dead), (6, .dead), (7, .sl false 1 0 2 1), (8, .dead), (9, .v (.lst false n3031 c3032)), (10, .v (.int .i64 x3100)), (11, .dead), (12, .dead), (13, .dead), (14, .dead), (15, .dead), (20, .dead), (26, .dead), (41, .dead), (62, .dead)], [(0, .p [(.lst false 2 c2922), (.lst false n2924 c2925)]), (1, .r [.sl false 2 0 n2924 1, .sl false 3 0 n2924 1]), (2, .p c3101), (3, .p c3102)], 4, []⟩) N _ (Wk_keep (st' := ⟨[], [(0, .dead), (1, .dead), (3, .ptr 0 0), (4, .dead), (5, .dead), (6, .dead), (7, .sl false 1 0 2 1), (8, .dead), (9, .v (.lst false n3031 c3032)), (10, .v (.int .i64 0)), (11, .dead), (12, .dead), (13, .dead), (14, .dead), (15, .dead), (20, .dead), (26, .dead), (41, .dead), (62, .dead)], [(0, .p [(.lst false 2 c2922), (.lst false n2924 c2925)]), (1, .r [.sl false 2 0 n2924 1, .sl false 3 0 n2924 1]), (2, .p (List.replicate n2924 (.int .i64 0))), (3, .p (List.replicate n2924 (.int .i64 0)))], 4, []⟩) [3, 7, 9, 10] (by kernel_rfl)) ⟨_, _, _, h3417, rfl⟩ ?_
          clear h3417
          rintro n _ ⟨x3100, c3101, c3102, h3417, rfl⟩
          cases n with
          | zero => cases h3417
          | succ n =>
            rw [m19_L4] at h3417
            have hh := brn_some h3417; clear h3417; rcases hh with ⟨h3103, h3417⟩ | ⟨h3103, h3417⟩
            · have hh := grd_some h3417; clear h3417; obtain ⟨⟨g3104, g3105⟩, h3417⟩ := hh
              have hh := grd_some h3417; clear h3417; obtain ⟨g3106, h3417⟩ := hh
              have hh := getI_some h3417; clear h3417; obtain ⟨x3108, h3107, h3417⟩ := hh
              have hh := grd_some h3417; clear h3417; obtain ⟨g3109, h3417⟩ := hh
              have hh := getI_some h3417; clear h3417; obtain ⟨x3111, h3110, h3417⟩ := hh
              have hh := casI_some h3417; clear h3417; rcases hh with ⟨rfl, h3417⟩ | ⟨_, h3417⟩
              · have hh := bnd'_some h3417; clear h3417; obtain ⟨p3113, h3114, h3417⟩ := hh
                (try dsimp only at h3417)
                refine W_sound tab_ok mixed 33 _ _ _ ?_
                simp -implicitDefEqProofs only [go_sem, Nat.reduceBEq, Nat.reduceAdd, Nat.reduceSub, Nat.reduceMul, Nat.reduceLT, Nat.reduceLeDiff, Int.reduceLE, Int.reduceLT, Int.reduceToNat, Int.reduceBEq, Int.reduceBNe, ↓reduceIte, Int.reduceAdd, Int.reduceSub, Int.reduceGT, Int.reduceGE, h2914, h2917, h2920, h2923, h2928, h2930, g3025, g3026, g3027, h3030, h3103, g3104, g3105, g3106, h3107, g3109, h3110]
                repeat with_reducible refine And.intro (by first | kernel_rfl | decide) ?_
                refine Wp_callD [2] (c64_2 N _ _ _ h3114) rfl rfl rfl (by first | rfl | (simp only [go_sem, Nat.reduceBEq, Nat.reduceAdd, Nat.reduceSub, Nat.reduceMul, Nat.reduceLT, Nat.reduceLeDiff, Int.reduceLE, Int.reduceLT, Int.reduceToNat, Int.reduceBEq, Int.reduceBNe, ↓reduceIte, Int.reduceAdd, Int.reduceSub, Int.reduceGT, Int.reduceGE, h2914, h2917, h2920, h2923, h2928, h2930, g3025, g3026, g3027, h3030, h3103, g3104, g3105, g3106, h3107, g3109, h3110] <;> rfl)) rfl (by kernel_rfl) ?_
                have hh := getI_some h3417; clear h3417; obtain ⟨x3116, h3115, h3417⟩ := hh
                refine W_sound tab_ok mixed 8 _ _ _ ?_
                simp -implicitDefEqProofs only [go_sem, Nat.reduceBEq, Nat.reduceAdd, Nat.reduceSub, Nat.reduceMul, Nat.reduceLT, Nat.reduceLeDiff, Int.reduceLE, Int.reduceLT, Int.reduceToNat, Int.reduceBEq, Int.reduceBNe, ↓reduceIte, Int.reduceAdd, Int.reduceSub, Int.reduceGT, Int.reduceGE, h2914, h2917, h2920, h2923, h2928, h2930, g3025, g3026, g3027, h3030, h3103, g3104, g3105, g3106, h3107, g3109, h3110, h3115]
                repeat with_reducible refine And.intro (by first | kernel_rfl | decide) ?_
                have hh := bnd'_some h3417; clear h3417; obtain ⟨o3419, h3420, h3421⟩ := hh
                refine Wp_cut (fun s => ∃ x3131, x3131 = o3419 ∧ s = ⟨[], [(0, .dead), (1, .dead), (3, .ptr 0 0), (4, .dead), (5, .dead), (6, .dead), (7, .sl false 1 0 2 1), (8, .dead), (9, .v (.lst false n3031 c3032)), (10, .v (.int .i64 x3100)), (11, .v (.int .i64 0)), (12, .v (.int .i64 x3111)), (13, .v (.int .i64 x3116)), (14, .v (.int .i64 x3131)), (15, .dead), (20, .dead), (26, .dead), (41, .dead), (62, .dead)], [(0, .p [(.lst false 2 c2922), (.lst false n2924 c2925)]), (1, .r [.sl false 2 0 n2924 1, .sl false 3 0 n2924 1]), (2, .p c3101), (3, .p c3102)], 4, []⟩) ?_ ?_
                · refine Wp_block ?_
                  refine Wp_loopG (fun n s => ∃ x3117, ∃ x3118, m19_L6 N c2922 n2924 c2925 n3031 c3032 x3100 c3101 c3102 x3111 x3116 n x3117 x3118 = some o3419 ∧ s = ⟨[], [(0, .dead), (1, .dead), (3, .ptr 0 0), (4, .dead), (5, .dead), (6, .dead), (7, .sl false 1 0 2 1), (8, .dead), (9, .v (.lst false n3031 c3032)), (10, .v (.int .i64 x3100)), (11, .v (.int .i64 0)), (12, .v (.int .i64 x3111)), (13, .v (.int .i64 x3116)), (14, .v (.int .i64 x3117)), (15, .v (.int .i64 x3118)), (20, .dead), (26, .dead), (41, .dead), (62, .dead)], [(0, .p [(.lst false 2 c2922), (.lst false n2924 c2925)]), (1, .r [.sl false 2 0 n2924 1, .sl false 3 0 n2924 1]), (2, .p c3101), (3, .p c3102)], 4, []⟩) N _ (Wk_keep (st' := ⟨[], [(0, .dead), (1, .dead), (3, .ptr 0 0), (4, .dead), (5, .dead), (6, .dead), (7, .sl false 1 0 2 1), (8, .dead), (9, .v (.lst false n3031 c3032)), (10, .v (.int .i64 x3100)), (11, .v (.int .i64 0)), (12, .v (.int .i64 x3111)), (13, .v (.int .i64 x3116)), (14, .v (.int .i64 0)), (15, .v (.int .i64 0)), (20, .dead), (26, .dead), (41, .dead), (62, .dead)], [(0, .p [(.lst false 2 c2922), (.lst false n2924 c2925)]), (1, .r [.sl false 2 0 n2924 1, .sl false 3 0 n2924 1]), (2, .p c3101), (3, .p c3102)], 4, []⟩) [3, 7, 9, 10, 11, 12, 13, 14, 15] (by kernel_rfl)) ⟨_, _, h3420, rfl⟩ ?_
                  clear h3420
                  rintro n _ ⟨x3117, x3118, h3420, rfl⟩
                  cases n with
                  | zero => cases h3420
                  | succ n =>
                    rw [m19_L6] at h3420
                    have hh := brn_some h3420; clear h3420; rcases hh with ⟨h3119, h3420⟩ | ⟨h3119, h3420⟩
                    · have hh := casI_some h3420; clear h3420; rcases hh with ⟨rfl, h3420⟩ | ⟨_, h3420⟩
                      · have hh := grd_some h3420; clear h3420; obtain ⟨⟨g3121, g3122⟩, h3420⟩ := hh
                        have hh := grd_some h3420; clear h3420; obtain ⟨g3123, h3420⟩ := hh
                        have hh := getI_some h3420; clear h3420; obtain ⟨x3125, h3124, h3420⟩ := hh
                        refine W_sound tab_ok mixed 30 _ _ _ ?_
                        simp -implicitDefEqProofs only [go_sem, Nat.reduceBEq, Nat.reduceAdd, Nat.reduceSub, Nat.reduceMul, Nat.reduceLT, Nat.reduceLeDiff, Int.reduceLE, Int.reduceLT, Int.reduceToNat, Int.reduceBEq, Int.reduceBNe, ↓reduceIte, Int.reduceAdd, Int.reduceSub, Int.reduceGT, Int.reduceGE, h2914, h2917, h2920, h2923, h2928, h2930, g3025, g3026, g3027, h3030, h3103, g3104, g3105, g3106, h3107, g3109, h3110, h3115, h3119, g3121, g3122, g3123, h3124]
                        repeat with_reducible refine And.intro (by first | kernel_rfl | decide) ?_
                        (try rw [h3107] at h3420)
                        (try rw [h3110] at h3420)
                        (try rw [h3124] at h3420)
                        refine cutQ _ ?_ ⟨n, Nat.lt_succ_self n, _, _, h3420, rfl⟩
                        exact Wk_keep [3, 7, 9, 10, 11, 12, 13, 14, 15] (by kernel_rfl)
                      · skip
                        have hh := casI_some h3420; clear h3420; rcases hh with ⟨rfl, h3420⟩ | ⟨_, h3420⟩
                        · have hh := grd_some h3420; clear h3420; obtain ⟨⟨g3126, g3127⟩, h3420⟩ := hh
                          have hh := grd_some h3420; clear h3420; obtain ⟨g3128, h3420⟩ := hh
                          have hh := getI_some h3420; clear h3420; obtain ⟨x3130, h3129, h3420⟩ := hh
                          refine W_sound tab_ok mixed 30 _ _ _ ?_
                          simp -implicitDefEqProofs only [go_sem, Nat.reduceBEq, Nat.reduceAdd, Nat.reduceSub, Nat.reduceMul, Nat.reduceLT, Nat.reduceLeDiff, Int.reduceLE, Int.reduceLT, Int.reduceToNat, Int.reduceBEq, Int.reduceBNe, ↓reduceIte, Int.reduceAdd, Int.reduceSub, Int.reduceGT, Int.reduceGE, h2914, h2917, h2920, h2923, h2928, h2930, g3025, g3026, g3027, h3030, h3103, g3104, g3105, g3106, h3107, g3109, h3110, h3115, h3119, g3126, g3127, g3128, h3129]
                          repeat with_reducible refine And.intro (by first | kernel_rfl | decide) ?_
                          (try rw [h3107] at h3420)
                          (try rw [h3110] at h3420)
                          (try rw [h3129] at h3420)
                          refine cutQ _ ?_ ⟨n, Nat.lt_succ_self n, _, _, h3420, rfl⟩
                          exact Wk_keep [3, 7, 9, 10, 11, 12, 13, 14, 15] (by kernel_rfl)
                        · skip
                          cases h3420
                    · refine W_sound tab_ok mixed 10 _ _ _ ?_
                      simp -implicitDefEqProofs only [go_sem, Nat.reduceBEq, Nat.reduceAdd, Nat.reduceSub, Nat.reduceMul, Nat.reduceLT, Nat.reduceLeDiff, Int.reduceLE, Int.reduceLT, Int.reduceToNat, Int.reduceBEq, Int.reduceBNe, ↓reduceIte, Int.reduceAdd, Int.reduceSub, Int.reduceGT, Int.reduceGE, h2914, h2917, h2920, h2923, h2928, h2930, g3025, g3026, g3027, h3030, h3103, g3104, g3105, g3106, h3107, g3109, h3110, h3115, h3119]
                      repeat with_reducible refine And.intro (by first | kernel_rfl | decide) ?_
                      obtain rfl := Option.some.inj h3420
                      refine cutQ _ ?_ ⟨_, rfl, rfl⟩
                      exact Wk_keep [3, 7, 9, 10, 11, 12, 13, 14] (by kernel_rfl)
                · rintro _ ⟨x3131, rfl, rfl⟩
                  have hh := grd_some h3421; clear h3421; obtain ⟨g3132, h3421⟩ := hh
                  have hh := getI_some h3421; clear h3421; obtain ⟨x3134, h3133, h3421⟩ := hh
                  have hh := grd_some h3421; clear h3421; obtain ⟨⟨g3135, g3136⟩, h3421⟩ := hh
                  have hh := grd_some h3421; clear h3421; obtain ⟨g3137, h3421⟩ := hh
                  have hh := getI_some h3421; clear h3421; obtain ⟨x3139, h3138, h3421⟩ := hh
                  have hh := grd_some h3421; clear h3421; obtain ⟨g3140, h3421⟩ := hh
                  refine W_sound tab_ok mixed 30 _ _ _ ?_
                  simp -implicitDefEqProofs only [go_sem, Nat.reduceBEq, Nat.reduceAdd, Nat.reduceSub, Nat.reduceMul, Nat.reduceLT, Nat.reduceLeDiff, Int.reduceLE, Int.reduceLT, Int.reduceToNat, Int.reduceBEq, Int.reduceBNe, ↓reduceIte, Int.reduceAdd, Int.reduceSub, Int.reduceGT, Int.reduceGE, h2914, h2917, h2920, h2923, h2928, h2930, g3025, g3026, g3027, h3030, h3103, g3104, g3105, g3106, h3107, g3109, h3110, h3115, g3132, h3133, g3135, g3136, g3137, h3138, g3140]
                  repeat with_reducible refine And.intro (by first | kernel_rfl | decide) ?_
                  (try rw [h3107] at h3421)
                  (try rw [h3110] at h3421)
                  (try rw [h3133] at h3421)
                  (try rw [h3138] at h3421)
                  refine cutQ _ ?_ ⟨n, Nat.lt_succ_self n, _, _, _, h3421, rfl⟩
                  exact Wk_keep [3, 7, 9, 10] (by kernel_rfl)
              · skip
                have hh := casI_some h3417; clear h3417; rcases hh with ⟨rfl, h3417⟩ | ⟨_, h3417⟩
                · have hh := bnd'_some h3417; clear h3417; obtain ⟨p3141, h3142, h3417⟩ := hh
                  (try dsimp only at h3417)
                  refine W_sound tab_ok mixed 33 _ _ _ ?_
                  simp -implicitDefEqProofs only [go_sem, Nat.reduceBEq, Nat.reduceAdd, Nat.reduceSub, Nat.reduceMul, Nat.reduceLT, Nat.reduceLeDiff, Int.reduceLE, Int.reduceLT, Int.reduceToNat, Int.reduceBEq, Int.reduceBNe, ↓reduceIte, Int.reduceAdd, Int.reduceSub, Int.reduceGT, Int.reduceGE, h2914, h2917, h2920, h2923, h2928, h2930, g3025, g3026, g3027, h3030, h3103, g3104, g3105, g3106, h3107, g3109, h3110]
                  repeat with_reducible refine And.intro (by first | kernel_rfl | decide) ?_
                  refine Wp_callD [3] (c64_2 N _ _ _ h3142) rfl rfl rfl (by first | rfl | (simp only [go_sem, Nat.reduceBEq, Nat.reduceAdd, Nat.reduceSub, Nat.reduceMul, Nat.reduceLT, Nat.reduceLeDiff, Int.reduceLE, Int.reduceLT, Int.reduceToNat, Int.reduceBEq, Int.reduceBNe, ↓reduceIte, Int.reduceAdd, Int.reduceSub, Int.reduceGT, Int.reduceGE, h2914, h2917, h2920, h2923, h2928, h2930, g3025, g3026, g3027, h3030, h3103, g3104, g3105, g3106, h3107, g3109, h3110] <;> rfl)) rfl (by kernel_rfl) ?_
                  have hh := getI_some h3417; clear h3417; obtain ⟨x3144, h3143, h3417⟩ := hh
                  refine W_sound tab_ok mixed 8 _ _ _ ?_
                  simp -implicitDefEqProofs only [go_sem, Nat.reduceBEq, Nat.reduceAdd, Nat.reduceSub, Nat.reduceMul, Nat.reduceLT, Nat.reduceLeDiff, Int.reduceLE, Int.reduceLT, Int.reduceToNat, Int.reduceBEq, Int.reduceBNe, ↓reduceIte, Int.reduceAdd, Int.reduceSub, Int.reduceGT, Int.reduceGE, h2914, h2917, h2920, h2923, h2928, h2930, g3025, g3026, g3027, h3030, h3103, g3104, g3105, g3106, h3107, g3109, h3110, h3143]
                  repeat with_reducible refine And.intro (by first | kernel_rfl | decide) ?_
                  have hh := bnd'_some h3417; clear h3417; obtain ⟨o3422, h3423, h3424⟩ := hh
                  refine Wp_cut (fun s => ∃ x3159, x3159 = o3422 ∧ s = ⟨[], [(0, .dead), (1, .dead), (3, .ptr 0 0), (4, .dead), (5, .dead), (6, .dead), (7, .sl false 1 0 2 1), (8, .dead), (9, .v (.lst false n3031 c3032)), (10, .v (.int .i64 x3100)), (11, .v (.int .i64 1)), (12, .v (.int .i64 x3111)), (13, .v (.int .i64 x3144)), (14, .v (.int .i64 x3159)), (15, .dead), (20, .dead), (26, .dead), (41, .dead), (62, .dead)], [(0, .p [(.lst false 2 c2922), (.lst false n2924 c2925)]), (1, .r [.sl false 2 0 n2924 1, .sl false 3 0 n2924 1]), (2, .p c3101), (3, .p c3102)], 4, []⟩) ?_ ?_
                  · refine Wp_block ?_
                    refine Wp_loopG (fun n s => ∃ x3145, ∃ x3146, m19_L5 N c2922 n2924 c2925 n3031 c3032 x3100 c3101 c3102 x3111 x3144 n x3145 x3146 = some o3422 ∧ s = ⟨[], [(0, .dead), (1, .dead), (3, .ptr 0 0), (4, .dead), (5, .dead), (6, .dead), (7, .sl false 1 0 2 1), (8, .dead), (9, .v (.lst false n3031 c3032)), (10, .v (.int .i64 x3100)), (11, .v (.int .i64 1)), (12, .v (.int .i64 x3111)), (13, .v (.int .i64 x3144)), (14, .v (.int .i64 x3145)), (15, .v (.int .i64 x3146)), (20, .dead), (26, .dead), (41, .dead), (62, .dead)], [(0, .p [(.lst false 2 c2922), (.lst false n2924 c2925)]), (1, .r [.sl false 2 0 n2924 1, .sl false 3 0 n2924 1]), (2, .p c3101), (3, .p c3102)], 4, []⟩) N _ (Wk_keep (st' := ⟨[], [(0, .dead), (1, .dead), (3, .ptr 0 0), (4, .dead), (5, .dead), (6, .dead), (7, .sl false 1 0 2 1), (8, .dead), (9, .v (.lst false n3031 c3032)), (10, .v (.int .i64 x3100)), (11, .v (.int .i64 1)), (12, .v (.int .i64 x3111)), (13, .v (.int .i64 x3144)), (14, .v (.int .i64 0)), (15, .v (.int .i64 0)), (20, .dead), (26, .dead), (41, .dead), (62, .dead)], [(0, .p [(.lst false 2 c2922), (.lst false n2924 c2925)]), (1, .r [.sl false 2 0 n2924 1, .sl false 3 0 n2924 1]), (2, .p c3101), (3, .p c3102)], 4, []⟩) [3, 7, 9, 10, 11, 12, 13, 14, 15] (by kernel_rfl)) ⟨_, _, h3423, rfl⟩ ?_
                    clear h3423
                    rintro n _ ⟨x3145, x3146, h3423, rfl⟩
                    cases n with
                    | zero => cases h3423
                    | succ n =>
                      rw [m19_L5] at h3423
                      have hh := brn_some h3423; clear h3423; rcases hh with ⟨h3147, h3423⟩ | ⟨h3147, h3423⟩
                      · have hh := casI_some h3423; clear h3423; rcases hh with ⟨rfl, h3423⟩ | ⟨_, h3423⟩
                        · have hh := grd_some h3423; clear h3423; obtain ⟨⟨g3149, g3150⟩, h3423⟩ := hh
                          have hh := grd_some h3423; clear h3423; obtain ⟨g3151, h3423⟩ := hh
                          have hh := getI_some h3423; clear h3423; obtain ⟨x3153, h3152, h3423⟩ := hh
                          refine W_sound tab_ok mixed 30 _ _ _ ?_
                          simp -implicitDefEqProofs only [go_sem, Nat.reduceBEq, Nat.reduceAdd, Nat.reduceSub, Nat.reduceMul, Nat.reduceLT, Nat.reduceLeDiff, Int.reduceLE, Int.reduceLT, Int.reduceToNat, Int.reduceBEq, Int.reduceBNe, ↓reduceIte, Int.reduceAdd, Int.reduceSub, Int.reduceGT, Int.reduceGE, h2914, h2917, h2920, h2923, h2928, h2930, g3025, g3026, g3027, h3030, h3103, g3104, g3105, g3106, h3107, g3109, h3110, h3143, h3147, g3149, g3150, g3151, h3152]
                          repeat with_reducible refine And.intro (by first | kernel_rfl | decide) ?_
                          (try rw [h3107] at h3423)
                          (try rw [h3110] at h3423)
                          (try rw [h3152] at h3423)
                          refine cutQ _ ?_ ⟨n, Nat.lt_succ_self n, _, _, h3423, rfl⟩
                          exact Wk_keep [3, 7, 9, 10, 11, 12, 13, 14, 15] (by kernel_rfl)
                        · skip
                          have hh := casI_some h3423; clear h3423; rcases hh with ⟨rfl, h3423⟩ | ⟨_, h3423⟩
                          · have hh := grd_some h3423; clear h3423; obtain ⟨⟨g3154, g3155⟩, h3423⟩ := hh
                            have hh := grd_some h3423; clear h3423; obtain ⟨g3156, h3423⟩ := hh
                            have hh := getI_some h3423; clear h3423; obtain ⟨x3158, h3157, h3423⟩ := hh
                            refine W_sound tab_ok mixed 30 _ _ _ ?_
                            simp -implicitDefEqProofs only [go_sem, Nat.reduceBEq, Nat.reduceAdd, Nat.reduceSub, Nat.reduceMul, Nat.reduceLT, Nat.reduceLeDiff, Int.reduceLE, Int.reduceLT, Int.reduceToNat, Int.reduceBEq, Int.reduceBNe, ↓reduceIte, Int.reduceAdd, Int.reduceSub, Int.reduceGT, Int.reduceGE, h2914, h2917, h2920, h2923, h2928, h2930, g3025, g3026, g3027, h3030, h3103, g3104, g3105, g3106, h3107, g3109, h3110, h3143, h3147, g3154, g3155, g3156, h3157]
                            repeat with_reducible refine And.intro (by first | kernel_rfl | decide) ?_
                            (try rw [h3107] at h3423)
                            (try rw [h3110] at h3423)
                            (try rw [h3157] at h3423)
                            refine cutQ _ ?_ ⟨n, Nat.lt_succ_self n, _, _, h3423, rfl⟩
                            exact Wk_keep [3, 7, 9, 10, 11, 12, 13, 14, 15] (by kernel_rfl)
                          · skip
                            cases h3423
                      · refine W_sound tab_ok mixed 10 _ _ _ ?_
                        simp -implicitDefEqProofs only [go_sem, Nat.reduceBEq, Nat.reduceAdd, Nat.reduceSub, Nat.reduceMul, Nat.reduceLT, Nat.reduceLeDiff, Int.reduceLE, Int.reduceLT, Int.reduceToNat, Int.reduceBEq, Int.reduceBNe, ↓reduceIte, Int.reduceAdd, Int.reduceSub, Int.reduceGT, Int.reduceGE, h2914, h2917, h2920, h2923, h2928, h2930, g3025, g3026, g3027, h3030, h3103, g3104, g3105, g3106, h3107, g3109, h3110, h3143, h3147]
                        repeat with_reducible refine And.intro (by first | kernel_rfl | decide) ?_
                        obtain rfl := Option.some.inj h3423
                        refine cutQ _ ?_ ⟨_, rfl, rfl⟩
                        exact Wk_keep [3, 7, 9, 10, 11, 12, 13, 14] (by kernel_rfl)
                  · rintro _ ⟨x3159, rfl, rfl⟩
                    have hh := grd_some h3424; clear h3424; obtain ⟨g3160, h3424⟩ := hh
                    have hh := getI_some h3424; clear h3424; obtain ⟨x3162, h3161, h3424⟩ := hh
                    have hh := grd_some h3424; clear h3424; obtain ⟨⟨g3163, g3164⟩, h3424⟩ := hh
                    have hh := grd_some h3424; clear h3424; obtain ⟨g3165, h3424⟩ := hh
                    have hh := getI_some h3424; clear h3424; obtain ⟨x3167, h3166, h3424⟩ := hh
                    have hh := grd_some h3424; clear h3424; obtain ⟨g3168, h3424⟩ := hh
                    refine W_sound tab_ok mixed 30 _ _ _ ?_
                    simp -implicitDefEqProofs only [go_sem, Nat.reduceBEq, Nat.reduceAdd, Nat.reduceSub, Nat.reduceMul, Nat.reduceLT, Nat.reduceLeDiff, Int.reduceLE, Int.reduceLT, Int.reduceToNat, Int.reduceBEq, Int.reduceBNe, ↓reduceIte, Int.reduceAdd, Int.reduceSub, Int.reduceGT, Int.reduceGE, h2914, h2917, h2920, h2923, h2928, h2930, g3025, g3026, g3027, h3030, h3103, g3104, g3105, g3106, h3107, g3109, h3110, h3143, g3160, h3161, g3163, g3164, g3165, h3166, g3168]
                    repeat with_reducible refine And.intro (by first | kernel_rfl | decide) ?_
                    (try rw [h3107] at h3424)
                    (try rw [h3110] at h3424)
                    (try rw [h3161] at h3424)
                    (try rw [h3166] at h3424)
                    refine cutQ _ ?_ ⟨n, Nat.lt_succ_self n, _, _, _, h3424, rfl⟩
                    exact Wk_keep [3, 7, 9, 10] (by kernel_rfl)
                · skip
                  cases h3417
            · refine W_sound tab_ok mixed 10 _ _ _ ?_
              simp -implicitDefEqProofs only [go_sem, Nat.reduceBEq, Nat.reduceAdd, Nat.reduceSub, Nat.reduceMul, Nat.reduceLT, Nat.reduceLeDiff, Int.reduceLE, Int.reduceLT, Int.reduceToNat, Int.reduceBEq, Int.reduceBNe, ↓reduceIte, Int.reduceAdd, Int.reduceSub, Int.reduceGT, Int.reduceGE, h2914, h2917, h2920, h2923, h2928, h2930, g3025, g3026, g3027, h3030, h3103]
              repeat with_reducible refine And.intro (by first | kernel_rfl | decide) ?_
              obtain rfl := Option.some.inj h3417
              refine cutQ _ ?_ ⟨_, _, rfl, rfl⟩
              exact Wk_keep [7] (by kernel_rfl)
        · rintro _ ⟨c3169, c3170, rfl, rfl⟩
          (try dsimp only at h3418)
          refine W_sound tab_ok mixed 8 _ _ _ ?_
          simp -implicitDefEqProofs only [go_sem, Nat.reduceBEq, Nat.reduceAdd, Nat.reduceSub, Nat.reduceMul, Nat.reduceLT, Nat.reduceLeDiff, Int.reduceLE, Int.reduceLT, Int.reduceToNat, Int.reduceBEq, Int.reduceBNe, ↓reduceIte, Int.reduceAdd, Int.reduceSub, Int.reduceGT, Int.reduceGE, h2914, h2917, h2920, h2923, h2928, h2930, g3025, g3026, g3027, h3030]
          repeat with_reducible refine And.intro (by first | kernel_rfl | decide) ?_
          have hh := grd_some h3418; clear h3418; obtain ⟨g3171, h3418⟩ := hh
          refine FinQ_wk (Wk_freeze 1 c3169 (by rfl) (by decide) (by decide)) ?_
          simp -implicitDefEqProofs only [go_sem, Nat.reduceBEq, Nat.reduceAdd, Nat.reduceSub, Nat.reduceMul, Nat.reduceLT, Nat.reduceLeDiff, Int.reduceLE, Int.reduceLT, Int.reduceToNat, Int.reduceBEq, Int.reduceBNe, ↓reduceIte, Int.reduceAdd, Int.reduceSub, Int.reduceGT, Int.reduceGE, h2914, h2917, h2920, h2923, h2928, h2930, g3025, g3026, g3027, h3030, g3171]
          have hh := grd_some h3418; clear h3418; obtain ⟨g3172, h3418⟩ := hh
          refine FinQ_wk (Wk_freeze 2 c3170 (by rfl) (by decide) (by decide)) ?_
          simp -implicitDefEqProofs only [go_sem, Nat.reduceBEq, Nat.reduceAdd, Nat.reduceSub, Nat.reduceMul, Nat.reduceLT, Nat.reduceLeDiff, Int.reduceLE, Int.reduceLT, Int.reduceToNat, Int.reduceBEq, Int.reduceBNe, ↓reduceIte, Int.reduceAdd, Int.reduceSub, Int.reduceGT, Int.reduceGE, h2914, h2917, h2920, h2923, h2928, h2930, g3025, g3026, g3027, h3030, g3171, g3172]
          refine FinQ_wk (Wk_freeze 0 [(.lst false n2924 c3169), (.lst false n2924 c3170)] (by rfl) (by decide) (by decide)) ?_
          simp -implicitDefEqProofs only [go_sem, Nat.reduceBEq, Nat.reduceAdd, Nat.reduceSub, Nat.reduceMul, Nat.reduceLT, Nat.reduceLeDiff, Int.reduceLE, Int.reduceLT, Int.reduceToNat, Int.reduceBEq, Int.reduceBNe, ↓reduceIte, Int.reduceAdd, Int.reduceSub, Int.reduceGT, Int.reduceGE, h2914, h2917, h2920, h2923, h2928, h2930, g3025, g3026, g3027, h3030, g3171, g3172]
          obtain rfl := Option.some.inj h3418
          exact finC [(4, .v (.lst false 2 [(.lst false n2924 c3169), (.lst false n2924 c3170)])), (5, .v (.int .i64 0))] [(4, .v (.lst false 2 [(.lst false n2924 c3169), (.lst false n2924 c3170)])), (5, .v (.int .i64 0))] (by simp [leE, lk_cons]) (.cons _ _ _ _ _ (.v _ _ (.refl _)) (.cons _ _ _ _ _ (.v _ _ (.refl _)) .nil)) (by rfl) (by simp [leE, lk_cons]) (by decide) (by decide) rfl (by simp only [go_sem, Nat.reduceBEq, Nat.reduceAdd, Nat.reduceSub, Nat.reduceMul, Nat.reduceLT, Nat.reduceLeDiff, Int.reduceLE, Int.reduceLT, Int.reduceToNat, Int.reduceBEq, Int.reduceBNe, ↓reduceIte, resQ_tmp, resQ_cell, resQ_nil, retD_one, retD_two, retD_three, retD_none]; try simp [R.val, retD_one, retD_two, retD_three, retD_none])
      · skip
        have hh := casN_some h; clear h; rcases hh with ⟨rfl, h⟩ | ⟨_, h⟩
        · refine W_sound tab_ok mixed 19 _ _ _ ?_
          simp -implicitDefEqProofs only [go_sem, Nat.reduceBEq, Nat.reduceAdd, Nat.reduceSub, Nat.reduceMul, Nat.reduceLT, Nat.reduceLeDiff, Int.reduceLE, Int.reduceLT, Int.reduceToNat, Int.reduceBEq, Int.reduceBNe, ↓reduceIte, Int.reduceAdd, Int.reduceSub, Int.reduceGT, Int.reduceGE, h2914, h2917, h2920, h2923, h2928, h2930]
          repeat with_reducible refine And.intro (by first | kernel_rfl | decide) ?_
          refine Wp_block ?_
          refine Wp_loopL (WpL_step ?_)
          have hh := grd_some h; clear h; obtain ⟨⟨g3173, g3174, g3175⟩, h⟩ := hh
          refine W_sound tab_ok mixed 29 _ _ _ ?_
          simp -implicitDefEqProofs only [go_sem, Nat.reduceBEq, Nat.reduceAdd, Nat.reduceSub, Nat.reduceMul, Nat.reduceLT, Nat.reduceLeDiff, Int.reduceLE, Int.reduceLT, Int.reduceToNat, Int.reduceBEq, Int.reduceBNe, ↓reduceIte, Int.reduceAdd, Int.reduceSub, Int.reduceGT, Int.reduceGE, h2914, h2917, h2920, h2923, h2928, h2930, g3173, g3174, g3175]
          repeat with_reducible refine And.intro (by first | kernel_rfl | decide) ?_
          refine again (Wk_keep (st' := ⟨[], [(0, .dead), (1, .dead), (3, .ptr 0 0), (4, .dead), (5, .dead), (6, .dead), (7, .sl false 1 0 1 1), (8, .v (.int .i64 1)), (9, .dead), (10, .dead), (11, .dead), (12, .dead), (13, .dead), (14, .dead), (15, .dead), (20, .dead), (26, .dead), (41, .dead), (62, .dead)], [(0, .p [(.lst false 3 c2922), (.lst false n2924 c2925)]), (1, .r [.sl false 2 0 n2924 1]), (2, .p (List.replicate n2924 (.int .i64 0)))], 3, []⟩) [3, 7, 8] (by kernel_rfl)) ?_
          refine W_sound tab_ok mixed 29 _ _ _ ?_
          simp -implicitDefEqProofs only [go_sem, Nat.reduceBEq, Nat.reduceAdd, Nat.reduceSub, Nat.reduceMul, Nat.reduceLT, Nat.reduceLeDiff, Int.reduceLE, Int.reduceLT, Int.reduceToNat, Int.reduceBEq, Int.reduceBNe, ↓reduceIte, Int.reduceAdd, Int.reduceSub, Int.reduceGT, Int.reduceGE, h2914, h2917, h2920, h2923, h2928, h2930, g3173, g3174, g3175]
          repeat with_reducible refine And.intro (by first | kernel_rfl | decide) ?_
          refine again (Wk_keep (st' := ⟨[], [(0, .dead), (1, .dead), (3, .ptr 0 0), (4, .dead), (5, .dead), (6, .dead), (7, .sl false 1 0 2 1), (8, .v (.int .i64 2)), (9, .dead), (10, .dead), (11, .dead), (12, .dead), (13, .dead), (14, .dead), (15, .dead), (20, .dead), (26, .dead), (41, .dead), (62, .dead)], [(0, .p [(.lst false 3 c2922), (.lst false n2924 c2925)]), (1, .r [.sl false 2 0 n2924 1, .sl false 3 0 n2924 1]), (2, .p (List.replicate n2924 (.int .i64 0))), (3, .p (List.replicate n2924 (.int .i64 0)))], 4, []⟩) [3, 7, 8] (by kernel_rfl)) ?_
          refine W_sound tab_ok mixed 29 _ _ _ ?_
          simp -implicitDefEqProofs only [go_sem, Nat.reduceBEq, Nat.reduceAdd, Nat.reduceSub, Nat.reduceMul, Nat.reduceLT, Nat.reduceLeDiff, Int.reduceLE, Int.reduceLT, Int.reduceToNat, Int.reduceBEq, Int.reduceBNe, ↓reduceIte, Int.reduceAdd, Int.reduceSub, Int.reduceGT, Int.reduceGE, h2914, h2917, h2920, h2923, h2928, h2930, g3173, g3174, g3175]
          repeat with_reducible refine And.intro (by first | kernel_rfl | decide) ?_
          refine again (Wk_keep (st' := ⟨[], [(0, .dead), (1, .dead), (3, .ptr 0 0), (4, .dead), (5, .dead), (6, .dead), (7, .sl false 1 0 3 1), (8, .v (.int .i64 3)), (9, .dead), (10, .dead), (11, .dead), (12, .dead), (13, .dead), (14, .dead), (15, .dead), (20, .dead), (26, .dead), (41, .dead), (62, .dead)], [(0, .p [(.lst false 3 c2922), (.lst false n2924 c2925)]), (1, .r [.sl false 2 0 n2924 1, .sl false 3 0 n2924 1, .sl false 4 0 n2924 1]), (2, .p (List.replicate n2924 (.int .i64 0))), (3, .p (List.replicate n2924 (.int .i64 0))), (4, .p (List.replicate n2924 (.int .i64 0)))], 5, []⟩) [3, 7, 8] (by kernel_rfl)) ?_
          have hh := bnd'_some h; clear h; obtain ⟨p3176, h3177, h⟩ := hh
          refine W_sound tab_ok mixed 14 _ _ _ ?_
          simp -implicitDefEqProofs only [go_sem, Nat.reduceBEq, Nat.reduceAdd, Nat.reduceSub, Nat.reduceMul, Nat.reduceLT, Nat.reduceLeDiff, Int.reduceLE, Int.reduceLT, Int.reduceToNat, Int.reduceBEq, Int.reduceBNe, ↓reduceIte, Int.reduceAdd, Int.reduceSub, Int.reduceGT, Int.reduceGE, h2914, h2917, h2920, h2923, h2928, h2930, g3173, g3174, g3175]
          repeat with_reducible refine And.intro (by first | kernel_rfl | decide) ?_
          refine Wp_callP (c63 N _ _ h3177) (by kernel_rfl) rfl rfl rfl rfl (by decide) ?_
          have hh := getL_some h; clear h; obtain ⟨n3179, c3180, h3178, h⟩ := hh
          refine W_sound tab_ok mixed 7 _ _ _ ?_
          simp -implicitDefEqProofs only [go_sem, Nat.reduceBEq, Nat.reduceAdd, Nat.reduceSub, Nat.reduceMul, Nat.reduceLT, Nat.reduceLeDiff, Int.reduceLE, Int.reduceLT, Int.reduceToNat, Int.reduceBEq, Int.reduceBNe, ↓reduceIte, Int.reduceAdd, Int.reduceSub, Int.reduceGT, Int.reduceGE, h2914, h2917, h2920, h2923, h2928, h2930, g3173, g3174, g3175, h3178]
          repeat with_reducible refine And.intro (by first | kernel_rfl | decide) ?_
          have hh := bnd'_some h; clear h; obtain ⟨o3425, h3426, h3427⟩ := hh
          refine Wp_cut (fun s => ∃ c3404, ∃ c3405, ∃ c3406, (c3404, c3405, c3406) = o3425 ∧ s = ⟨[], [(0, .dead), (1, .dead), (3, .dead), (4, .dead), (5, .dead), (6, .dead), (7, .sl false 0 0 3 1), (8, .dead), (9, .dead), (10, .dead), (11, .dead), (12, .dead), (13, .dead), (14, .dead), (15, .dead), (20, .dead), (26, .dead), (41, .dead), (62, .dead)], [(0, .r [.sl false 1 0 n2924 1, .sl false 2 0 n2924 1, .sl false 3 0 n2924 1]), (1, .p c3404), (2, .p c3405), (3, .p c3406)], 4, []⟩) ?_ ?_
          · refine Wp_block ?_
            refine Wp_loopG (fun n s => ∃ x3291, ∃ c3292, ∃ c3293, ∃ c3294, m19_L0 N c2922 n2924 c2925 n3179 c3180 n x3291 c3292 c3293 c3294 = some o3425 ∧ s = ⟨[], [(0, .dead), (1, .dead), (3, .ptr 0 0), (4, .dead), (5, .dead), (6, .dead), (7, .sl false 1 0 3 1), (8, .dead), (9, .v (.lst false n3179 c3180)), (10, .v (.int .i64 x3291)), (11, .dead), (12, .dead), (13, .dead), (14, .dead), (15, .dead), (20, .dead), (26, .dead), (41, .dead), (62, .dead)], [(0, .p [(.lst false 3 c2922), (.lst false n2924 c2925)]), (1, .r [.sl false 2 0 n2924 1, .sl false 3 0 n2924 1, .sl false 4 0 n2924 1]), (2, .p c3292), (3, .p c3293), (4, .p c3294)], 5, []⟩) N _ (Wk_keep (st' := ⟨[], [(0, .dead), (1, .dead), (3, .ptr 0 0), (4, .dead), (5, .dead), (6, .dead), (7, .sl false 1 0 3 1), (8, .dead), (9, .v (.lst false n3179 c3180)), (10, .v (.int .i64 0)), (11, .dead), (12, .dead), (13, .dead), (14, .dead), (15, .dead), (20, .dead), (26, .dead), (41, .dead), (62, .dead)], [(0, .p [(.lst false 3 c2922), (.lst false n2924 c2925)]), (1, .r [.sl false 2 0 n2924 1, .sl false 3 0 n2924 1, .sl false 4 0 n2924 1]), (2, .p (List.replicate n2924 (.int .i64 0))), (3, .p (List.replicate n2924 (.int .i64 0))), (4, .p (List.replicate n2924 (.int .i64 0)))], 5, []⟩) [3, 7, 9, 10] (by kernel_rfl)) ⟨_, _, _, _, h3426, rfl⟩ ?_
            clear h3426
            rintro n _ ⟨x3291, c3292, c3293, c3294, h3426, rfl⟩
            cases n with
            | zero => cases h3426
            | succ n =>
              rw [m19_L0] at h3426
              have hh := brn_some h3426; clear h3426; rcases hh with ⟨h3295, h3426⟩ | ⟨h3295, h3426⟩
              · have hh := grd_some h3426; clear h3426; obtain ⟨⟨g3296, g3297⟩, h3426⟩ := hh
                have hh := grd_some h3426; clear h3426; obtain ⟨g3298, h3426⟩ := hh
                have hh := getI_some h3426; clear h3426; obtain ⟨x3300, h3299, h3426⟩ := hh
                have hh := grd_some h3426; clear h3426; obtain ⟨g3301, h3426⟩ := hh
                have hh := getI_some h3426; clear h3426; obtain ⟨x3303, h3302, h3426⟩ := hh
                have hh := casI_some h3426; clear h3426; rcases hh with ⟨rfl, h3426⟩ | ⟨_, h3426⟩
                · have hh := bnd'_some h3426; clear h3426; obtain ⟨p3305, h3306, h3426⟩ := hh
                  (try dsimp only at h3426)
                  refine W_sound tab_ok mixed 33 _ _ _ ?_
                  simp -implicitDefEqProofs only [go_sem, Nat.reduceBEq, Nat.reduceAdd, Nat.reduceSub, Nat.reduceMul, Nat.reduceLT, Nat.reduceLeDiff, Int.reduceLE, Int.reduceLT, Int.reduceToNat, Int.reduceBEq, Int.reduceBNe, ↓reduceIte, Int.reduceAdd, Int.reduceSub, Int.reduceGT, Int.reduceGE, h2914, h2917, h2920, h2923, h2928, h2930, g3173, g3174, g3175, h3178, h3295, g3296, g3297, g3298, h3299, g3301, h3302]
                  repeat with_reducible refine And.intro (by first | kernel_rfl | decide) ?_
                  refine Wp_callD [2] (c64_2 N _ _ _ h3306) rfl rfl rfl (by first | rfl | (simp only [go_sem, Nat.reduceBEq, Nat.reduceAdd, Nat.reduceSub, Nat.reduceMul, Nat.reduceLT, Nat.reduceLeDiff, Int.reduceLE, Int.reduceLT, Int.reduceToNat, Int.reduceBEq, Int.reduceBNe, ↓reduceIte, Int.reduceAdd, Int.reduceSub, Int.reduceGT, Int.reduceGE, h2914, h2917, h2920, h2923, h2928, h2930, g3173, g3174, g3175, h3178, h3295, g3296, g3297, g3298, h3299, g3301, h3302] <;> rfl)) rfl (by kernel_rfl) ?_
                  have hh := getI_some h3426; clear h3426; obtain ⟨x3308, h3307, h3426⟩ := hh
                  refine W_sound tab_ok mixed 8 _ _ _ ?_
                  simp -implicitDefEqProofs only [go_sem, Nat.reduceBEq, Nat.reduceAdd, Nat.reduceSub, Nat.reduceMul, Nat.reduceLT, Nat.reduceLeDiff, Int.reduceLE, Int.reduceLT, Int.reduceToNat, Int.reduceBEq, Int.reduceBNe, ↓reduceIte, Int.reduceAdd, Int.reduceSub, Int.reduceGT, Int.reduceGE, h2914, h2917, h2920, h2923, h2928, h2930, g3173, g3174, g3175, h3178, h3295, g3296, g3297, g3298, h3299, g3301, h3302, h3307]
                  repeat with_reducible refine And.intro (by first | kernel_rfl | decide) ?_
                  have hh := bnd'_some h3426; clear h3426; obtain ⟨o3428, h3429, h3430⟩ := hh
                  refine Wp_cut (fun s => ∃ x3328, x3328 = o3428 ∧ s = ⟨[], [(0, .dead), (1, .dead), (3, .ptr 0 0), (4, .dead), (5, .dead), (6, .dead), (7, .sl false 1 0 3 1), (8, .dead), (9, .v (.lst false n3179 c3180)), (10, .v (.int .i64 x3291)), (11, .v (.int .i64 0)), (12, .v (.int .i64 x3303)), (13, .v (.int .i64 x3308)), (14, .v (.int .i64 x3328)), (15, .dead), (20, .dead), (26, .dead), (41, .dead), (62, .dead)], [(0, .p [(.lst false 3 c2922), (.lst false n2924 c2925)]), (1, .r [.sl false 2 0 n2924 1, .sl false 3 0 n2924 1, .sl false 4 0 n2924 1]), (2, .p c3292), (3, .p c3293), (4, .p c3294)], 5, []⟩) ?_ ?_
                  · refine Wp_block ?_
                    refine Wp_loopG (fun n s => ∃ x3309, ∃ x3310, m19_L3 N c2922 n2924 c2925 n3179 c3180 x3291 c3292 c3293 c3294 x3303 x3308 n x3309 x3310 = some o3428 ∧ s = ⟨[], [(0, .dead), (1, .dead), (3, .ptr 0 0), (4, .dead), (5, .dead), (6, .dead), (7, .sl false 1 0 3 1), (8, .dead), (9, .v (.lst false n3179 c3180)), (10, .v (.int .i64 x3291)), (11, .v (.int .i64 0)), (12, .v (.int .i64 x3303)), (13, .v (.int .i64 x3308)), (14, .v (.int .i64 x3309)), (15, .v (.int .i64 x3310)), (20, .dead), (26, .dead), (41, .dead), (62, .dead)], [(0, .p [(.lst false 3 c2922), (.lst false n2924 c2925)]), (1, .r [.sl false 2 0 n2924 1, .sl false 3 0 n2924 1, .sl false 4 0 n2924 1]), (2, .p c3292), (3, .p c3293), (4, .p c3294)], 5, []⟩) N _ (Wk_keep (st' := ⟨[], [(0, .dead), (1, .dead), (3, .ptr 0 0), (4, .dead), (5, .dead), (6, .dead), (7, .sl false 1 0 3 1), (8, .dead), (9, .v (.lst false n3179 c3180)), (10, .v (.int .i64 x3291)), (11, .v (.int .i64 0)), (12, .v (.int .i64 x3303)), (13, .v (.int .i64 x3308)), (14, .v (.int .i64 0)), (15, .v (.int .i64 0)), (20, .dead), (26, .dead), (41, .dead), (62, .dead)], [(0, .p [(.lst false 3 c2922), (.lst false n2924 c2925)]), (1, .r [.sl false 2 0 n2924 1, .sl false 3 0 n2924 1, .sl false 4 0 n2924 1]), (2, .p c3292), (3, .p c3293), (4, .p c3294)], 5, []⟩) [3, 7, 9, 10, 11, 12, 13, 14, 15] (by kernel_rfl)) ⟨_, _, h3429, rfl⟩ ?_
                    clear h3429
                    rintro n _ ⟨x3309, x3310, h3429, rfl⟩
                    cases n with
                    | zero => cases h3429
                    | succ n =>
                      rw [m19_L3] at h3429
                      have hh := brn_some h3429; clear h3429; rcases hh with ⟨h3311, h3429⟩ | ⟨h3311, h3429⟩
                      · have hh := casI_some h3429; clear h3429; rcases hh with ⟨rfl, h3429⟩ | ⟨_, h3429⟩
                        · have hh := grd_some h3429; clear h3429; obtain ⟨⟨g3313, g3314⟩, h3429⟩ := hh
                          have hh := grd_some h3429; clear h3429; obtain ⟨g3315, h3429⟩ := hh
                          have hh := getI_some h3429; clear h3429; obtain ⟨x3317, h3316, h3429⟩ := hh
                          refine W_sound tab_ok mixed 30 _ _ _ ?_
                          simp -implicitDefEqProofs only [go_sem, Nat.reduceBEq, Nat.reduceAdd, Nat.reduceSub, Nat.reduceMul, Nat.reduceLT, Nat.reduceLeDiff, Int.reduceLE, Int.reduceLT, Int.reduceToNat, Int.reduceBEq, Int.reduceBNe, ↓reduceIte, Int.reduceAdd, Int.reduceSub, Int.reduceGT, Int.reduceGE, h2914, h2917, h2920, h2923, h2928, h2930, g3173, g3174, g3175, h3178, h3295, g3296, g3297, g3298, h3299, g3301, h3302, h3307, h3311, g3313, g3314, g3315, h3316]
                          repeat with_reducible refine And.intro (by first | kernel_rfl | decide) ?_
                          (try rw [h3299] at h3429)
                          (try rw [h3302] at h3429)
                          (try rw [h3316] at h3429)
                          refine cutQ _ ?_ ⟨n, Nat.lt_succ_self n, _, _, h3429, rfl⟩
                          exact Wk_keep [3, 7, 9, 10, 11, 12, 13, 14, 15] (by kernel_rfl)
                        · skip
                          have hh := casI_some h3429; clear h3429; rcases hh with ⟨rfl, h3429⟩ | ⟨_, h3429⟩
                          · have hh := grd_some h3429; clear h3429; obtain ⟨⟨g3318, g3319⟩, h3429⟩ := hh
                            have hh := grd_some h3429; clear h3429; obtain ⟨g3320, h3429⟩ := hh
                            have hh := getI_some h3429; clear h3429; obtain ⟨x3322, h3321, h3429⟩ := hh
                            refine W_sound tab_ok mixed 30 _ _ _ ?_
                            simp -implicitDefEqProofs only [go_sem, Nat.reduceBEq, Nat.reduceAdd, Nat.reduceSub, Nat.reduceMul, Nat.reduceLT, Nat.reduceLeDiff, Int.reduceLE, Int.reduceLT, Int.reduceToNat, Int.reduceBEq, Int.reduceBNe, ↓reduceIte, Int.reduceAdd, Int.reduceSub, Int.reduceGT, Int.reduceGE, h2914, h2917, h2920, h2923, h2928, h2930, g3173, g3174, g3175, h3178, h3295, g3296, g3297, g3298, h3299, g3301, h3302, h3307, h3311, g3318, g3319, g3320, h3321]
                            repeat with_reducible refine And.intro (by first | kernel_rfl | decide) ?_
                            (try rw [h3299] at h3429)
                            (try rw [h3302] at h3429)
                            (try rw [h3321] at h3429)
                            refine cutQ _ ?_ ⟨n, Nat.lt_succ_self n, _, _, h3429, rfl⟩
                            exact Wk_keep [3, 7, 9, 10, 11, 12, 13, 14, 15] (by kernel_rfl)
                          · skip
                            have hh := casI_some h3429; clear h3429; rcases hh with ⟨rfl, h3429⟩ | ⟨_, h3429⟩
                            · have hh := grd_some h3429; clear h3429; obtain ⟨⟨g3323, g3324⟩, h3429⟩ := hh
                              have hh := grd_some h3429; clear h3429; obtain ⟨g3325, h3429⟩ := hh
                              have hh := getI_some h3429; clear h3429; obtain ⟨x3327, h3326, h3429⟩ := hh
                              refine W_sound tab_ok mixed 30 _ _ _ ?_
                              simp -implicitDefEqProofs only [go_sem, Nat.reduceBEq, Nat.reduceAdd, Nat.reduceSub, Nat.reduceMul, Nat.reduceLT, Nat.reduceLeDiff, Int.reduceLE, Int.reduceLT, Int.reduceToNat, Int.reduceBEq, Int.reduceBNe, ↓reduceIte, Int.reduceAdd, Int.reduceSub, Int.reduceGT, Int.reduceGE, h2914, h2917, h2920, h2923, h2928, h2930, g3173, g3174, g3175, h3178, h3295, g3296, g3297, g3298, h3299, g3301, h3302, h3307, h3311, g3323, g3324, g3325, h3326]
                              repeat with_reducible refine And.intro (by first | kernel_rfl | decide) ?_
                              (try rw [h3299] at h3429)
                              (try rw [h3302] at h3429)
                              (try rw [h3326] at h3429)
                              refine cutQ _ ?_ ⟨n, Nat.lt_succ_self n, _, _, h3429, rfl⟩
                              exact Wk_keep [3, 7, 9, 10, 11, 12, 13, 14, 15] (by kernel_rfl)
                            · skip
                              cases h3429
                      · refine W_sound tab_ok mixed 10 _ _ _ ?_
                        simp -implicitDefEqProofs only [go_sem, Nat.reduceBEq, Nat.reduceAdd, Nat.reduceSub, Nat.reduceMul, Nat.reduceLT, Nat.reduceLeDiff, Int.reduceLE, Int.reduceLT, Int.reduceToNat, Int.reduceBEq, Int.reduceBNe, ↓reduceIte, Int.reduceAdd, Int.reduceSub, Int.reduceGT, Int.reduceGE, h2914, h2917, h2920, h2923, h2928, h2930, g3173, g3174, g3175, h3178, h3295, g3296, g3297, g3298, h3299, g3301, h3302, h3307, h3311]
                        repeat with_reducible refine And.intro (by first | kernel_rfl | decide) ?_
                        obtain rfl := Option.some.inj h3429
                        refine cutQ _ ?_ ⟨_, rfl, rfl⟩
                        exact Wk_keep [3, 7, 9, 10, 11, 12, 13, 14] (by kernel_rfl)
                  · rintro _ ⟨x3328, rfl, rfl⟩
                    have hh := grd_some h3430; clear h3430; obtain ⟨g3329, h3430⟩ := hh
                    have hh := getI_some h3430; clear h3430; obtain ⟨x3331, h3330, h3430⟩ := hh
                    have hh := grd_some h3430; clear h3430; obtain ⟨⟨g3332, g3333⟩, h3430⟩ := hh
                    have hh := grd_some h3430; clear h3430; obtain ⟨g3334, h3430⟩ := hh
                    have hh := getI_some h3430; clear h3430; obtain ⟨x3336, h3335, h3430⟩ := hh
                    have hh := grd_some h3430; clear h3430; obtain ⟨g3337, h3430⟩ := hh
                    refine W_sound tab_ok mixed 30 _ _ _ ?_
                    simp -implicitDefEqProofs only [go_sem, Nat.reduceBEq, Nat.reduceAdd, Nat.reduceSub, Nat.reduceMul, Nat.reduceLT, Nat.reduceLeDiff, Int.reduceLE, Int.reduceLT, Int.reduceToNat, Int.reduceBEq, Int.reduceBNe, ↓reduceIte, Int.reduceAdd, Int.reduceSub, Int.reduceGT, Int.reduceGE, h2914, h2917, h2920, h2923, h2928, h2930, g3173, g3174, g3175, h3178, h3295, g3296, g3297, g3298, h3299, g3301, h3302, h3307, g3329, h3330, g3332, g3333, g3334, h3335, g3337]
                    repeat with_reducible refine And.intro (by first | kernel_rfl | decide) ?_
                    (try rw [h3299] at h3430)
                    (try rw [h3302] at h3430)
                    (try rw [h3330] at h3430)
                    (try rw [h3335] at h3430)
                    refine cutQ _ ?_ ⟨n, Nat.lt_succ_self n, _, _, _, _, h3430, rfl⟩
                    exact Wk_keep [3, 7, 9, 10] (by kernel_rfl)
                · skip
                  have hh := casI_some h3426; clear h3426; rcases hh with ⟨rfl, h3426⟩ | ⟨_, h3426⟩
                  · have hh := bnd'_some h3426; clear h3426; obtain ⟨p3338, h3339, h3426⟩ := hh
                    (try dsimp only at h3426)
                    refine W_sound tab_ok mixed 33 _ _ _ ?_
                    simp -implicitDefEqProofs only [go_sem, Nat.reduceBEq, Nat.reduceAdd, Nat.reduceSub, Nat.reduceMul, Nat.reduceLT, Nat.reduceLeDiff, Int.reduceLE, Int.reduceLT, Int.reduceToNat, Int.reduceBEq, Int.reduceBNe, ↓reduceIte, Int.reduceAdd, Int.reduceSub, Int.reduceGT, Int.reduceGE, h2914, h2917, h2920, h2923, h2928, h2930, g3173, g3174, g3175, h3178, h3295, g3296, g3297, g3298, h3299, g3301, h3302]
                    repeat with_reducible refine And.intro (by first | kernel_rfl | decide) ?_
                    refine Wp_callD [3] (c64_2 N _ _ _ h3339) rfl rfl rfl (by first | rfl | (simp only [go_sem, Nat.reduceBEq, Nat.reduceAdd, Nat.reduceSub, Nat.reduceMul, Nat.reduceLT, Nat.reduceLeDiff, Int.reduceLE, Int.reduceLT, Int.reduceToNat, Int.reduceBEq, Int.reduceBNe, ↓reduceIte, Int.reduceAdd, Int.reduceSub, Int.reduceGT, Int.reduceGE, h2914, h2917, h2920, h2923, h2928, h2930, g3173, g3174, g3175, h3178, h3295, g3296, g3297, g3298, h3299, g3301, h3302] <;> rfl)) rfl (by kernel_rfl) ?_
                    have hh := getI_some h3426; clear h3426; obtain ⟨x3341, h3340, h3426⟩ := hh
                    refine W_sound tab_ok mixed 8 _ _ _ ?_
                    simp -implicitDefEqProofs only [go_sem, Nat.reduceBEq, Nat.reduceAdd, Nat.reduceSub, Nat.reduceMul, Nat.reduceLT, Nat.reduceLeDiff, Int.reduceLE, Int.reduceLT, Int.reduceToNat, Int.reduceBEq, Int.reduceBNe, ↓reduceIte, Int.reduceAdd, Int.reduceSub, Int.reduceGT, Int.reduceGE, h2914, h2917, h2920, h2923, h2928, h2930, g3173, g3174, g3175, h3178, h3295, g3296, g3297, g3298, h3299, g3301, h3302, h3340]
                    repeat with_reducible refine And.intro (by first | kernel_rfl | decide) ?_
                    have hh := bnd'_some h3426; clear h3426; obtain ⟨o3431, h3432, h3433⟩ := hh
                    refine Wp_cut (fun s => ∃ x3361, x3361 = o3431 ∧ s = ⟨[], [(0, .dead), (1, .dead), (3, .ptr 0 0), (4, .dead), (5, .dead), (6, .dead), (7, .sl false 1 0 3 1), (8, .dead), (9, .v (.lst false n3179 c3180)), (10, .v (.int .i64 x3291)), (11, .v (.int .i64 1)), (12, .v (.int .i64 x3303)), (13, .v (.int .i64 x3341)), (14, .v (.int .i64 x3361)), (15, .dead), (20, .dead), (26, .dead), (41, .dead), (62, .dead)], [(0, .p [(.lst false 3 c2922), (.lst false n2924 c2925)]), (1, .r [.sl false 2 0 n2924 1, .sl false 3 0 n2924 1, .sl false 4 0 n2924 1]), (2, .p c3292), (3, .p c3293), (4, .p c3294)], 5, []⟩) ?_ ?_
                    · refine Wp_block ?_
                      refine Wp_loopG (fun n s => ∃ x3342, ∃ x3343, m19_L2 N c2922 n2924 c2925 n3179 c3180 x3291 c3292 c3293 c3294 x3303 x3341 n x3342 x3343 = some o3431 ∧ s = ⟨[], [(0, .dead), (1, .dead), (3, .ptr 0 0), (4, .dead), (5, .dead), (6, .dead), (7, .sl false 1 0 3 1), (8, .dead), (9, .v (.lst false n3179 c3180)), (10, .v (.int .i64 x3291)), (11, .v (.int .i64 1)), (12, .v (.int .i64 x3303)), (13, .v (.int .i64 x3341)), (14, .v (.int .i64 x3342)), (15, .v (.int .i64 x3343)), (20, .dead), (26, .dead), (41, .dead), (62, .dead)], [(0, .p [(.lst false 3 c2922), (.lst false n2924 c2925)]), (1, .r [.sl false 2 0 n2924 1, .sl false 3 0 n2924 1, .sl false 4 0 n2924 1]), (2, .p c3292), (3, .p c3293), (4, .p c3294)], 5, []⟩) N _ (Wk_keep (st' := ⟨[], [(0, .dead), (1, .dead), (3, .ptr 0 0), (4, .dead), (5, .dead), (6, .dead), (7, .sl false 1 0 3 1), (8, .dead), (9, .v (.lst false n3179 c3180)), (10, .v (.int .i64 x3291)), (11, .v (.int .i64 1)), (12, .v (.int .i64 x3303)), (13, .v (.int .i64 x3341)), (14, .v (.int .i64 0)), (15, .v (.int .i64 0)), (20, .dead), (26, .dead), (41, .dead), (62, .dead)], [(0, .p [(.lst false 3 c2922), (.lst false n2924 c2925)]), (1, .r [.sl false 2 0 n2924 1, .sl false 3 0 n2924 1, .sl false 4 0 n2924 1]), (2, .p c3292), (3, .p c3293), (4, .p c3294)], 5, []⟩) [3, 7, 9, 10, 11, 12, 13, 14, 15] (by kernel_rfl)) ⟨_, _, h3432, rfl⟩ ?_
                      clear h3432
                      rintro n _ ⟨x3342, x3343, h3432, rfl⟩
                      cases n with
                      | zero => cases h3432
                      | succ n =>
                        rw [m19_L2] at h3432
                        have hh := brn_some h3432; clear h3432; rcases hh with ⟨h3344, h3432⟩ | ⟨h3344, h3432⟩
                        · have hh := casI_some h3432; clear h3432; rcases hh with ⟨rfl, h3432⟩ | ⟨_, h3432⟩
                          · have hh := grd_some h3432; clear h3432; obtain ⟨⟨g3346, g3347⟩, h3432⟩ := hh
                            have hh := grd_some h3432; clear h3432; obtain ⟨g3348, h3432⟩ := hh
                            have hh := getI_some h3432; clear h3432; obtain ⟨x3350, h3349, h3432⟩ := hh
                            refine W_sound tab_ok mixed 30 _ _ _ ?_
                            simp -implicitDefEqProofs only [go_sem, Nat.reduceBEq, Nat.reduceAdd, Nat.reduceSub, Nat.reduceMul, Nat.reduceLT, Nat.reduceLeDiff, Int.reduceLE, Int.reduceLT, Int.reduceToNat, Int.reduceBEq, Int.reduceBNe, ↓reduceIte, Int.reduceAdd, Int.reduceSub, Int.reduceGT, Int.reduceGE, h2914, h2917, h2920, h2923, h2928, h2930, g3173, g3174, g3175, h3178, h3295, g3296, g3297, g3298, h3299, g3301, h3302, h3340, h3344, g3346, g3347, g3348, h3349]
                            repeat with_reducible refine And.intro (by first | kernel_rfl | decide) ?_
                            (try rw [h3299] at h3432)
                            (try rw [h3302] at h3432)
                            (try rw [h3349] at h3432)
                            refine cutQ _ ?_ ⟨n, Nat.lt_succ_self n, _, _, h3432, rfl⟩
                            exact Wk_keep [3, 7, 9, 10, 11, 12, 13, 14, 15] (by kernel_rfl)
                          · skip
                            have hh := casI_some h3432; clear h3432; rcases hh with ⟨rfl, h3432⟩ | ⟨_, h3432⟩
                            · have hh := grd_some h3432; clear h3432; obtain ⟨⟨g3351, g3352⟩, h3432⟩ := hh
                              have hh := grd_some h3432; clear h3432; obtain ⟨g3353, h3432⟩ := hh
                              have hh := getI_some h3432; clear h3432; obtain ⟨x3355, h3354, h3432⟩ := hh
                              refine W_sound tab_ok mixed 30 _ _ _ ?_
                              simp -implicitDefEqProofs only [go_sem, Nat.reduceBEq, Nat.reduceAdd, Nat.reduceSub, Nat.reduceMul, Nat.reduceLT, Nat.reduceLeDiff, Int.reduceLE, Int.reduceLT, Int.reduceToNat, Int.reduceBEq, Int.reduceBNe, ↓reduceIte, Int.reduceAdd, Int.reduceSub, Int.reduceGT, Int.reduceGE, h2914, h2917, h2920, h2923, h2928, h2930, g3173, g3174, g3175, h3178, h3295, g3296, g3297, g3298, h3299, g3301, h3302, h3340, h3344, g3351, g3352, g3353, h3354]
                              repeat with_reducible refine And.intro (by first | kernel_rfl | decide) ?_
                              (try rw [h3299] at h3432)
                              (try rw [h3302] at h3432)
                              (try rw [h3354] at h3432)
                              refine cutQ _ ?_ ⟨n, Nat.lt_succ_self n, _, _, h3432, rfl⟩
                              exact Wk_keep [3, 7, 9, 10, 11, 12, 13, 14, 15] (by kernel_rfl)
                            · skip
                              have hh := casI_some h3432; clear h3432; rcases hh with ⟨rfl, h3432⟩ | ⟨_, h3432⟩
                              · have hh := grd_some h3432; clear h3432; obtain ⟨⟨g3356, g3357⟩, h3432⟩ := hh
                                have hh := grd_some h3432; clear h3432; obtain ⟨g3358, h3432⟩ := hh
                                have hh := getI_some h3432; clear h3432; obtain ⟨x3360, h3359, h3432⟩ := hh
                                refine W_sound tab_ok mixed 30 _ _ _ ?_
                                simp -implicitDefEqProofs only [go_sem, Nat.reduceBEq, Nat.reduceAdd, Nat.reduceSub, Nat.reduceMul, Nat.reduceLT, Nat.reduceLeDiff, Int.reduceLE, Int.reduceLT, Int.reduceToNat, Int.reduceBEq, Int.reduceBNe, ↓reduceIte, Int.reduceAdd, Int.reduceSub, Int.reduceGT, Int.reduceGE, h2914, h2917, h2920, h2923, h2928, h2930, g3173, g3174, g3175, h3178, h3295, g3296, g3297, g3298, h3299, g3301, h3302, h3340, h3344, g3356, g3357, g3358, h3359]
                                repeat with_reducible refine And.intro (by first | kernel_rfl | decide) ?_
                                (try rw [h3299] at h3432)
                                (try rw [h3302] at h3432)
                                (try rw [h3359] at h3432)
                                refine cutQ _ ?_ ⟨n, Nat.lt_succ_self n, _, _, h3432, rfl⟩
                                exact Wk_keep [3, 7, 9, 10, 11, 12, 13, 14, 15] (by kernel_rfl)
                              · skip
                                cases h3432
                        · refine W_sound tab_ok mixed 10 _ _ _ ?_
                          simp -implicitDefEqProofs only [go_sem, Nat.reduceBEq, Nat.reduceAdd, Nat.reduceSub, Nat.reduceMul, Nat.reduceLT, Nat.reduceLeDiff, Int.reduceLE, Int.reduceLT, Int.reduceToNat, Int.reduceBEq, Int.reduceBNe, ↓reduceIte, Int.reduceAdd, Int.reduceSub, Int.reduceGT, Int.reduceGE, h2914, h2917, h2920, h2923, h2928, h2930, g3173, g3174, g3175, h3178, h3295, g3296, g3297, g3298, h3299, g3301, h3302, h3340, h3344]
                          repeat with_reducible refine And.intro (by first | kernel_rfl | decide) ?_
                          obtain rfl := Option.some.inj h3432
                          refine cutQ _ ?_ ⟨_, rfl, rfl⟩
                          exact Wk_keep [3, 7, 9, 10, 11, 12, 13, 14] (by kernel_rfl)
                    · rintro _ ⟨x3361, rfl, rfl⟩
                      have hh := grd_some h3433; clear h3433; obtain ⟨g3362, h3433⟩ := hh
                      have hh := getI_some h3433; clear h3433; obtain ⟨x3364, h3363, h3433⟩ := hh
                      have hh := grd_some h3433; clear h3433; obtain ⟨⟨g3365, g3366⟩, h3433⟩ := hh
                      have hh := grd_some h3433; clear h3433; obtain ⟨g3367, h3433⟩ := hh
                      have hh := getI_some h3433; clear h3433; obtain ⟨x3369, h3368, h3433⟩ := hh
                      have hh := grd_some h3433; clear h3433; obtain ⟨g3370, h3433⟩ := hh
                      refine W_sound tab_ok mixed 30 _ _ _ ?_
                      simp -implicitDefEqProofs only [go_sem, Nat.reduceBEq, Nat.reduceAdd, Nat.reduceSub, Nat.reduceMul, Nat.reduceLT, Nat.reduceLeDiff, Int.reduceLE, Int.reduceLT, Int.reduceToNat, Int.reduceBEq, Int.reduceBNe, ↓reduceIte, Int.reduceAdd, Int.reduceSub, Int.reduceGT, Int.reduceGE, h2914, h2917, h2920, h2923, h2928, h2930, g3173, g3174, g3175, h3178, h3295, g3296, g3297, g3298, h3299, g3301, h3302, h3340, g3362, h3363, g3365, g3366, g3367, h3368, g3370]
                      repeat with_reducible refine And.intro (by first | kernel_rfl | decide) ?_
                      (try rw [h3299] at h3433)
                      (try rw [h3302] at h3433)
                      (try rw [h3363] at h3433)
                      (try rw [h3368] at h3433)
                      refine cutQ _ ?_ ⟨n, Nat.lt_succ_self n, _, _, _, _, h3433, rfl⟩
                      exact Wk_keep [3, 7, 9, 10] (by kernel_rfl)
                  · skip
                    have hh := casI_some h3426; clear h3426; rcases hh with ⟨rfl, h3426⟩ | ⟨_, h3426⟩
                    · have hh := bnd'_some h3426; clear h3426; obtain ⟨p3371, h3372, h3426⟩ := hh
                      (try dsimp only at h3426)
                      refine W_sound tab_ok mixed 33 _ _ _ ?_
                      simp -implicitDefEqProofs only [go_sem, Nat.reduceBEq, Nat.reduceAdd, Nat.reduceSub, Nat.reduceMul, Nat.reduceLT, Nat.reduceLeDiff, Int.reduceLE, Int.reduceLT, Int.reduceToNat, Int.reduceBEq, Int.reduceBNe, ↓reduceIte, Int.reduceAdd, Int.reduceSub, Int.reduceGT, Int.reduceGE, h2914, h2917, h2920, h2923, h2928, h2930, g3173, g3174, g3175, h3178, h3295, g3296, g3297, g3298, h3299, g3301, h3302]
                      repeat with_reducible refine And.intro (by first | kernel_rfl | decide) ?_
                      refine Wp_callD [4] (c64_2 N _ _ _ h3372) rfl rfl rfl (by first | rfl | (simp only [go_sem, Nat.reduceBEq, Nat.reduceAdd, Nat.reduceSub, Nat.reduceMul, Nat.reduceLT, Nat.reduceLeDiff, Int.reduceLE, Int.reduceLT, Int.reduceToNat, Int.reduceBEq, Int.reduceBNe, ↓reduceIte, Int.reduceAdd, Int.reduceSub, Int.reduceGT, Int.reduceGE, h2914, h2917, h2920, h2923, h2928, h2930, g3173, g3174, g3175, h3178, h3295, g3296, g3297, g3298, h3299, g3301, h3302] <;> rfl)) rfl (by kernel_rfl) ?_
                      have hh := getI_some h3426; clear h3426; obtain ⟨x3374, h3373, h3426⟩ := hh
                      refine W_sound tab_ok mixed 8 _ _ _ ?_
                      simp -implicitDefEqProofs only [go_sem, Nat.reduceBEq, Nat.reduceAdd, Nat.reduceSub, Nat.reduceMul, Nat.reduceLT, Nat.reduceLeDiff, Int.reduceLE, Int.reduceLT, Int.reduceToNat, Int.reduceBEq, Int.reduceBNe, ↓reduceIte, Int.reduceAdd, Int.reduceSub, Int.reduceGT, Int.reduceGE, h2914, h2917, h2920, h2923, h2928, h2930, g3173, g3174, g3175, h3178, h3295, g3296, g3297, g3298, h3299, g3301, h3302, h3373]
                      repeat with_reducible refine And.intro (by first | kernel_rfl | decide) ?_
                      have hh := bnd'_some h3426; clear h3426; obtain ⟨o3434, h3435, h3436⟩ := hh
                      refine Wp_cut (fun s => ∃ x3394, x3394 = o3434 ∧ s = ⟨[], [(0, .dead), (1, .dead), (3, .ptr 0 0), (4, .dead), (5, .dead), (6, .dead), (7, .sl false 1 0 3 1), (8, .dead), (9, .v (.lst false n3179 c3180)), (10, .v (.int .i64 x3291)), (11, .v (.int .i64 2)), (12, .v (.int .i64 x3303)), (13, .v (.int .i64 x3374)), (14, .v (.int .i64 x3394)), (15, .dead), (20, .dead), (26, .dead), (41, .dead), (62, .dead)], [(0, .p [(.lst false 3 c2922), (.lst false n2924 c2925)]), (1, .r [.sl false 2 0 n2924 1, .sl false 3 0 n2924 1, .sl false 4 0 n2924 1]), (2, .p c3292), (3, .p c3293), (4, .p c3294)], 5, []⟩) ?_ ?_
                      · refine Wp_block ?_
                        refine Wp_loopG (fun n s => ∃ x3375, ∃ x3376, m19_L1 N c2922 n2924 c2925 n3179 c3180 x3291 c3292 c3293 c3294 x3303 x3374 n x3375 x3376 = some o3434 ∧ s = ⟨[], [(0, .dead), (1, .dead), (3, .ptr 0 0), (4, .dead), (5, .dead), (6, .dead), (7, .sl false 1 0 3 1), (8, .dead), (9, .v (.lst false n3179 c3180)), (10, .v (.int .i64 x3291)), (11, .v (.int .i64 2)), (12, .v (.int .i64 x3303)), (13, .v (.int .i64 x3374)), (14, .v (.int .i64 x3375)), (15, .v (.int .i64 x3376)), (20, .dead), (26, .dead), (41, .dead), (62, .dead)], [(0, .p [(.lst false 3 c2922), (.lst false n2924 c2925)]), (1, .r [.sl false 2 0 n2924 1, .sl false 3 0 n2924 1, .sl false 4 0 n2924 1]), (2, .p c3292), (3, .p c3293), (4, .p c3294)], 5, []⟩) N _ (Wk_keep (st' := ⟨[], [(0, .dead), (1, .dead), (3, .ptr 0 0), (4, .dead), (5, .dead), (6, .dead), (7, .sl false 1 0 3 1), (8, .dead), (9, .v (.lst false n3179 c3180)), (10, .v (.int .i64 x3291)), (11, .v (.int .i64 2)), (12, .v (.int .i64 x3303)), (13, .v (.int .i64 x3374)), (14, .v (.int .i64 0)), (15, .v (.int .i64 0)), (20, .dead), (26, .dead), (41, .dead), (62, .dead)], [(0, .p [(.lst false 3 c2922), (.lst false n2924 c2925)]), (1, .r [.sl false 2 0 n2924 1, .sl false 3 0 n2924 1, .sl false 4 0 n2924 1]), (2, .p c3292), (3, .p c3293), (4, .p c3294)], 5, []⟩) [3, 7, 9, 10, 11, 12, 13, 14, 15] (by kernel_rfl)) ⟨_, _, h3435, rfl⟩ ?_
                        clear h3435
                        rintro n _ ⟨x3375, x3376, h3435, rfl⟩
                        cases n with
                        | zero => cases h3435
                        | succ n =>
                          rw [m19_L1] at h3435
                          have hh := brn_some h3435; clear h3435; rcases hh with ⟨h3377, h3435⟩ | ⟨h3377, h3435⟩
                          · have hh := casI_some h3435; clear h3435; rcases hh with ⟨rfl, h3435⟩ | ⟨_, h3435⟩
                            · have hh := grd_some h3435; clear h3435; obtain ⟨⟨g3379, g3380⟩, h3435⟩ := hh
                              have hh := grd_some h3435; clear h3435; obtain ⟨g3381, h3435⟩ := hh
                              have hh := getI_some h3435; clear h3435; obtain ⟨x3383, h3382, h3435⟩ := hh
                              refine W_sound tab_ok mixed 30 _ _ _ ?_
                              simp -implicitDefEqProofs only [go_sem, Nat.reduceBEq, Nat.reduceAdd, Nat.reduceSub, Nat.reduceMul, Nat.reduceLT, Nat.reduceLeDiff, Int.reduceLE, Int.reduceLT, Int.reduceToNat, Int.reduceBEq, Int.reduceBNe, ↓reduceIte, Int.reduceAdd, Int.reduceSub, Int.reduceGT, Int.reduceGE, h2914, h2917, h2920, h2923, h2928, h2930, g3173, g3174, g3175, h3178, h3295, g3296, g3297, g3298, h3299, g3301, h3302, h3373, h3377, g3379, g3380, g3381, h3382]
                              repeat with_reducible refine And.intro (by first | kernel_rfl | decide) ?_
                              (try rw [h3299] at h3435)
                              (try rw [h3302] at h3435)
                              (try rw [h3382] at h3435)
                              refine cutQ _ ?_ ⟨n, Nat.lt_succ_self n, _, _, h3435, rfl⟩
                              exact Wk_keep [3, 7, 9, 10, 11, 12, 13, 14, 15] (by kernel_rfl)
                            · skip
                              have hh := casI_some h3435; clear h3435; rcases hh with ⟨rfl, h3435⟩ | ⟨_, h3435⟩
                              · have hh := grd_some h3435; clear h3435; obtain ⟨⟨g3384, g3385⟩, h3435⟩ := hh
                                have hh := grd_some h3435; clear h3435; obtain ⟨g3386, h3435⟩ := hh
                                have hh := getI_some h3435; clear h3435; obtain ⟨x3388, h3387, h3435⟩ := hh
                                refine W_sound tab_ok mixed 30 _ _ _ ?_
                                simp -implicitDefEqProofs only [go_sem, Nat.reduceBEq, Nat.reduceAdd, Nat.reduceSub, Nat.reduceMul, Nat.reduceLT, Nat.reduceLeDiff, Int.reduceLE, Int.reduceLT, Int.reduceToNat, Int.reduceBEq, Int.reduceBNe, ↓reduceIte, Int.reduceAdd, Int.reduceSub, Int.reduceGT, Int.reduceGE, h2914, h2917, h2920, h2923, h2928, h2930, g3173, g3174, g3175, h3178, h3295, g3296, g3297, g3298, h3299, g3301, h3302, h3373, h3377, g3384, g3385, g3386, h3387]
                                repeat with_reducible refine And.intro (by first | kernel_rfl | decide) ?_
                                (try rw [h3299] at h3435)
                                (try rw [h3302] at h3435)
                                (try rw [h3387] at h3435)
                                refine cutQ _ ?_ ⟨n, Nat.lt_succ_self n, _, _, h3435, rfl⟩
                                exact Wk_keep [3, 7, 9, 10, 11, 12, 13, 14, 15] (by kernel_rfl)
                              · skip
                                have hh := casI_some h3435; clear h3435; rcases hh with ⟨rfl, h3435⟩ | ⟨_, h3435⟩
                                · have hh := grd_some h3435; clear h3435; obtain ⟨⟨g3389, g3390⟩, h3435⟩ := hh
                                  have hh := grd_some h3435; clear h3435; obtain ⟨g3391, h3435⟩ := hh
                                  have hh := getI_some h3435; clear h3435; obtain ⟨x3393, h3392, h3435⟩ := hh
                                  refine W_sound tab_ok mixed 30 _ _ _ ?_
                                  simp -implicitDefEqProofs only [go_sem, Nat.reduceBEq, Nat.reduceAdd, Nat.reduceSub, Nat.reduceMul, Nat.reduceLT, Nat.reduceLeDiff, Int.reduceLE, Int.reduceLT, Int.reduceToNat, Int.reduceBEq, Int.reduceBNe, ↓reduceIte, Int.reduceAdd, Int.reduceSub, Int.reduceGT, Int.reduceGE, h2914, h2917, h2920, h2923, h2928, h2930, g3173, g3174, g3175, h3178, h3295, g3296, g3297, g3298, h3299, g3301, h3302, h3373, h3377, g3389, g3390, g3391, h3392]
                                  repeat with_reducible refine And.intro (by first | kernel_rfl | decide) ?_
                                  (try rw [h3299] at h3435)
                                  (try rw [h3302] at h3435)
                                  (try rw [h3392] at h3435)
                                  refine cutQ _ ?_ ⟨n, Nat.lt_succ_self n, _, _, h3435, rfl⟩
                                  exact Wk_keep [3, 7, 9, 10, 11, 12, 13, 14, 15] (by kernel_rfl)
                                · skip
                                  cases h3435
                          · refine W_sound tab_ok mixed 10 _ _ _ ?_
                            simp -implicitDefEqProofs only [go_sem, Nat.reduceBEq, Nat.reduceAdd, Nat.reduceSub, Nat.reduceMul, Nat.reduceLT, Nat.reduceLeDiff, Int.reduceLE, Int.reduceLT, Int.reduceToNat, Int.reduceBEq, Int.reduceBNe, ↓reduceIte, Int.reduceAdd, Int.reduceSub, Int.reduceGT, Int.reduceGE, h2914, h2917, h2920, h2923, h2928, h2930, g3173, g3174, g3175, h3178, h3295, g3296, g3297, g3298, h3299, g3301, h3302, h3373, h3377]
                            repeat with_reducible refine And.intro (by first | kernel_rfl | decide) ?_
                            obtain rfl := Option.some.inj h3435
                            refine cutQ _ ?_ ⟨_, rfl, rfl⟩
                            exact Wk_keep [3, 7, 9, 10, 11, 12, 13, 14] (by kernel_rfl)
                      · rintro _ ⟨x3394, rfl, rfl⟩
                        have hh := grd_some h3436; clear h3436; obtain ⟨g3395, h3436⟩ := hh
                        have hh := getI_some h3436; clear h3436; obtain ⟨x3397, h3396, h3436⟩ := hh
                        have hh := grd_some h3436; clear h3436; obtain ⟨⟨g3398, g3399⟩, h3436⟩ := hh
                        have hh := grd_some h3436; clear h3436; obtain ⟨g3400, h3436⟩ := hh
                        have hh := getI_some h3436; clear h3436; obtain ⟨x3402, h3401, h3436⟩ := hh
                        have hh := grd_some h3436; clear h3436; obtain ⟨g3403, h3436⟩ := hh
                        refine W_sound tab_ok mixed 30 _ _ _ ?_
                        simp -implicitDefEqProofs only [go_sem, Nat.reduceBEq, Nat.reduceAdd, Nat.reduceSub, Nat.reduceMul, Nat.reduceLT, Nat.reduceLeDiff, Int.reduceLE, Int.reduceLT, Int.reduceToNat, Int.reduceBEq, Int.reduceBNe, ↓reduceIte, Int.reduceAdd, Int.reduceSub, Int.reduceGT, Int.reduceGE, h2914, h2917, h2920, h2923, h2928, h2930, g3173, g3174, g3175, h3178, h3295, g3296, g3297, g3298, h3299, g3301, h3302, h3373, g3395, h3396, g3398, g3399, g3400, h3401, g3403]
                        repeat with_reducible refine And.intro (by first | kernel_rfl | decide) ?_
                        (try rw [h3299] at h3436)
                        (try rw [h3302] at h3436)
                        (try rw [h3396] at h3436)
                        (try rw [h3401] at h3436)
                        refine cutQ _ ?_ ⟨n, Nat.lt_succ_self n, _, _, _, _, h3436, rfl⟩
                        exact Wk_keep [3, 7, 9, 10] (by kernel_rfl)
                    · skip
                      cases h3426
              · refine W_sound tab_ok mixed 10 _ _ _ ?_
                simp -implicitDefEqProofs only [go_sem, Nat.reduceBEq, Nat.reduceAdd, Nat.reduceSub, Nat.reduceMul, Nat.reduceLT, Nat.reduceLeDiff, Int.reduceLE, Int.reduceLT, Int.reduceToNat, Int.reduceBEq, Int.reduceBNe, ↓reduceIte, Int.reduceAdd, Int.reduceSub, Int.reduceGT, Int.reduceGE, h2914, h2917, h2920, h2923, h2928, h2930, g3173, g3174, g3175, h3178, h3295]
                repeat with_reducible refine And.intro (by first | kernel_rfl | decide) ?_
                obtain rfl := Option.some.inj h3426
                refine cutQ _ ?_ ⟨_, _, _, rfl, rfl⟩
                exact Wk_keep [7] (by kernel_rfl)
          · rintro _ ⟨c3404, c3405, c3406, rfl, rfl⟩
            (try dsimp only at h3427)
            refine W_sound tab_ok mixed 8 _ _ _ ?_
            simp -implicitDefEqProofs only [go_sem, Nat.reduceBEq, Nat.reduceAdd, Nat.reduceSub, Nat.reduceMul, Nat.reduceLT, Nat.reduceLeDiff, Int.reduceLE, Int.reduceLT, Int.reduceToNat, Int.reduceBEq, Int.reduceBNe, ↓reduceIte, Int.reduceAdd, Int.reduceSub, Int.reduceGT, Int.reduceGE, h2914, h2917, h2920, h2923, h2928, h2930, g3173, g3174, g3175, h3178]
            repeat with_reducible refine And.intro (by first | kernel_rfl | decide) ?_
            have hh := grd_some h3427; clear h3427; obtain ⟨g3407, h3427⟩ := hh
            refine FinQ_wk (Wk_freeze 1 c3404 (by rfl) (by decide) (by decide)) ?_
            simp -implicitDefEqProofs only [go_sem, Nat.reduceBEq, Nat.reduceAdd, Nat.reduceSub, Nat.reduceMul, Nat.reduceLT, Nat.reduceLeDiff, Int.reduceLE, Int.reduceLT, Int.reduceToNat, Int.reduceBEq, Int.reduceBNe, ↓reduceIte, Int.reduceAdd, Int.reduceSub, Int.reduceGT, Int.reduceGE, h2914, h2917, h2920, h2923, h2928, h2930, g3173, g3174, g3175, h3178, g3407]
            have hh := grd_some h3427; clear h3427; obtain ⟨g3408, h3427⟩ := hh
            refine FinQ_wk (Wk_freeze 2 c3405 (by rfl) (by decide) (by decide)) ?_
            simp -implicitDefEqProofs only [go_sem, Nat.reduceBEq, Nat.reduceAdd, Nat.reduceSub, Nat.reduceMul, Nat.reduceLT, Nat.reduceLeDiff, Int.reduceLE, Int.reduceLT, Int.reduceToNat, Int.reduceBEq, Int.reduceBNe, ↓reduceIte, Int.reduceAdd, Int.reduceSub, Int.reduceGT, Int.reduceGE, h2914, h2917, h2920, h2923, h2928, h2930, g3173, g3174, g3175, h3178, g3407, g3408]
            have hh := grd_some h3427; clear h3427; obtain ⟨g3409, h3427⟩ := hh
            refine FinQ_wk (Wk_freeze 3 c3406 (by rfl) (by decide) (by decide)) ?_
            simp -implicitDefEqProofs only [go_sem, Nat.reduceBEq, Nat.reduceAdd, Nat.reduceSub, Nat.reduceMul, Nat.reduceLT, Nat.reduceLeDiff, Int.reduceLE, Int.reduceLT, Int.reduceToNat, Int.reduceBEq, Int.reduceBNe, ↓reduceIte, Int.reduceAdd, Int.reduceSub, Int.reduceGT, Int.reduceGE, h2914, h2917, h2920, h2923, h2928, h2930, g3173, g3174, g3175, h3178, g3407, g3408, g3409]
            refine FinQ_wk (Wk_freeze 0 [(.lst false n2924 c3404), (.lst false n2924 c3405), (.lst false n2924 c3406)] (by rfl) (by decide) (by decide)) ?_
            simp -implicitDefEqProofs only [go_sem, Nat.reduceBEq, Nat.reduceAdd, Nat.reduceSub, Nat.reduceMul, Nat.reduceLT, Nat.reduceLeDiff, Int.reduceLE, Int.reduceLT, Int.reduceToNat, Int.reduceBEq, Int.reduceBNe, ↓reduceIte, Int.reduceAdd, Int.reduceSub, Int.reduceGT, Int.reduceGE, h2914, h2917, h2920, h2923, h2928, h2930, g3173, g3174, g3175, h3178, g3407, g3408, g3409]
            obtain rfl := Option.some.inj h3427
            exact finC [(4, .v (.lst false 3 [(.lst false n2924 c3404), (.lst false n2924 c3405), (.lst false n2924 c3406)])), (5, .v (.int .i64 0))] [(4, .v (.lst false 3 [(.lst false n2924 c3404), (.lst false n2924 c3405), (.lst false n2924 c3406)])), (5, .v (.int .i64 0))] (by simp [leE, lk_cons]) (.cons _ _ _ _ _ (.v _ _ (.refl _)) (.cons _ _ _ _ _ (.v _ _ (.refl _)) .nil)) (by rfl) (by simp [leE, lk_cons]) (by decide) (by decide) rfl (by simp only [go_sem, Nat.reduceBEq, Nat.reduceAdd, Nat.reduceSub, Nat.reduceMul, Nat.reduceLT, Nat.reduceLeDiff, Int.reduceLE, Int.reduceLT, Int.reduceToNat, Int.reduceBEq, Int.reduceBNe, ↓reduceIte, resQ_tmp, resQ_cell, resQ_nil, retD_one, retD_two, retD_three, retD_none]; try simp [R.val, retD_one, retD_two, retD_three, retD_none])
        · skip
          cases h
end Go.Proofs.Yteidcinajdehkaa
