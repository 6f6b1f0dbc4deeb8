/-
  Models and laws.
-/
import Derived.Test.YteidcinajdehkaaZOrdA
import Derived.Test.YteidcinajdehkaaB
import Derived.Test.YteidcinajdehkaaK
import Derived.Test.YteidcinajdehkaaV34
namespace Go.Proofs.Yteidcinajdehkaa
open Go.V
set_option maxRecDepth 100000
set_option maxHeartbeats 4000000
set_option linter.unusedSimpArgs false
set_option linter.unusedVariables false
attribute [local go_sem] tl1 tl2 tl3 tl4 tl5 tl9 tl17 tl21 tl22 tl23 tl24 tl25 tl26 tl27 tl28 tl29 tl30 tl32 tl33 tl35 tl36 tl37 tl38 tl39 tl40 tl41 tl42 tl43 tl44 tl46 tl48 tl50 tl51 tl52 tl53 tl54 tl56 tl58 tl59 tl60 tl61 tl62 tl63 tl64 tl65 tl66 tl67 tl68 tl69 tl70 tl72 tl74 tl75 tl76 tl77 tl78 tl79 tl80 tl81 tl82 tl83 tl84 tl85 tl86 tl87 tl88 tl89 tl90 tl91 tl92 tl93 tl94 tl95 tl96 tl97 tl98 tl99 tl100 tl101 tl102 tl103 tl104 tl105 tl106 tl107 tl108 tl109 tl110 tl111 tl112 tl113 tl114 tl115 tl116 tl117 tl118 tl119 tl120 tl121 tl122 tl128 tl129 tl133

def m81 (N : Nat) (p509 : PV) (p510 : PV) (p511 : PV) (p512 : PV) : Option ((PV × PV × PV × PV)) :=
  getL p510 fun n517 c518 =>
  getL p509 fun n520 c521 =>
  bnd' (m76 N (.lst false n520 c521) (.lst false n517 c518) (.lst false 0 [])) fun p522 =>
  getB p522 fun b525 =>
  some ((.bool b525), (.lst false n517 c518), (.lst false n517 c518), (.lst false 0 []))
theorem c81 (N : Nat) (p509 : PV) (p510 : PV) (p511 : PV) (p512 : PV) (r : PV) (p528 : PV) (p529 : PV) (p530 : PV) (h : m81 N p509 p510 p511 p512 = some (r, p528, p529, p530)) : V.Fn Try.prog 81 3 [.v .nl, .ptr 0 0, .ptr 1 0, .ptr 2 0, .v (.ipt [p509])] [(0, .p [p510]), (1, .p [p511]), (2, .p [p512])] (fun d ob' => d = .v r ∧ ob' = [(0, .p [p528]), (1, .p [p529]), (2, .p [p530])]) := by
  unfold m81 at h
  refine Fn_of (sz := 13) tab_ok [0, 1, 2, 3, 4, 6] [.tmp 6] Try.func81 rfl rfl rfl (by simp) ?_
  simp only [initSt, initEnv, List.map_cons, List.map_nil, List.getD_cons_zero, List.getD_cons_succ, List.getD_nil]
  have hh := getL_some h; clear h; obtain ⟨n517, c518, h516, h⟩ := hh
  have hh := getL_some h; clear h; obtain ⟨n520, c521, h519, h⟩ := hh
  have hh := bnd'_some h; clear h; obtain ⟨p522, h523, h⟩ := hh
  refine W_sound tab_ok mixed 16 _ _ _ ?_
  simp -implicitDefEqProofs only [go_sem, ne_eq, not_false_eq_true, Nat.reduceBEq, Nat.reduceAdd, Nat.reduceSub, Nat.reduceMul, Nat.reduceLT, Nat.reduceLeDiff, Int.reduceLE, Int.reduceLT, Int.reduceToNat, Int.reduceBEq, Int.reduceBNe, Int.le_refl, Nat.le_refl, decide_true, decide_false, Int.cast_ofNat_Int, ↓reduceIte, h516, h519]
  repeat with_reducible refine And.intro (by first | kernel_rfl | decide) ?_
  refine Wp_callP (FnP_le (c76 N _ _ _ _ h523) (.cons _ _ _ _ (.refl _) (.cons _ _ _ _ (.refl _) (.cons _ _ _ _ (.nl false) .nil))) (.refl _)) (by kernel_rfl) rfl rfl rfl rfl (by decide) ?_
  have hh := getB_some h; clear h; obtain ⟨b525, h524, h⟩ := hh
  refine W_sound tab_ok mixed 4 _ _ _ ?_
  simp -implicitDefEqProofs only [go_sem, ne_eq, not_false_eq_true, Nat.reduceBEq, Nat.reduceAdd, Nat.reduceSub, Nat.reduceMul, Nat.reduceLT, Nat.reduceLeDiff, Int.reduceLE, Int.reduceLT, Int.reduceToNat, Int.reduceBEq, Int.reduceBNe, Int.le_refl, Nat.le_refl, decide_true, decide_false, Int.cast_ofNat_Int, ↓reduceIte, h516, h519, h524]
  repeat with_reducible refine And.intro (by first | kernel_rfl | decide) ?_
  simp only [Option.some.injEq, Prod.mk.injEq] at h; obtain ⟨rfl, rfl, rfl, rfl⟩ := h
  exact finD (e2 := [(0, .dead), (1, .dead), (2, .dead), (3, .dead), (4, .dead), (6, .v (.bool b525))]) (ob2 := [(0, .p [(.lst false n517 c518)]), (1, .p [(.lst false n517 c518)]), (2, .p [(.lst false 0 [])])]) (st' := ⟨[], [(0, .dead), (1, .dead), (2, .dead), (3, .dead), (4, .dead), (6, .v (.bool b525))], [(0, .p [(.lst false n517 c518)]), (1, .p [(.lst false n517 c518)]), (2, .p [(.lst false 0 [])])], 3, []⟩) (.cons _ _ _ _ _ (.dead _) (.cons _ _ _ _ _ (.dead _) (.cons _ _ _ _ _ (.dead _) (.cons _ _ _ _ _ (.dead _) (.cons _ _ _ _ _ (.dead _) (.cons _ _ _ _ _ (.refl _) .nil)))))) (.cons _ _ _ _ _ (DLes.refl _) (.cons _ _ _ _ _ (DLes.refl _) (.cons _ _ _ _ _ (DLes.of_p (.cons _ _ _ _ (.nl false) .nil)) .nil))) (by kernel_rfl) (by simp only [go_sem, ne_eq, not_false_eq_true, Nat.reduceBEq, Nat.reduceAdd, Nat.reduceSub, Nat.reduceMul, Nat.reduceLT, Nat.reduceLeDiff, Int.reduceLE, Int.reduceLT, Int.reduceToNat, Int.reduceBEq, Int.reduceBNe, Int.le_refl, Nat.le_refl, decide_true, decide_false, Int.cast_ofNat_Int, ↓reduceIte, resQ_tmp, resQ_cell, resQ_nil, retD_one, retD_two, retD_three, retD_none]; try simp [R.val, retD_one, retD_two, retD_three, retD_none])

def m53 (N : Nat) (p545 : PV) : Option (Nat × List PV) :=
  getL p545 fun n547 c548 =>
  grd (0 < n547) <|
  grd (List.length c548 = n547) <|
  grd (n547 ≤ 1099511627776) <|
  some (n547, c548)
theorem c53 (N : Nat) (p545 : PV) (rn : Nat) (rc : List PV) (h : m53 N p545 = some (rn, rc)) : V.Fn Try.prog 53 0 [.v p545] [] (fun d ob' => d = .sl false 0 0 rn 1 ∧ ob' = [(0, .p rc)]) := by
  unfold m53 at h
  refine Fn_of (sz := 8) tab_ok [0, 2, 4] [.tmp 2] Try.func53 rfl rfl rfl (by simp) ?_
  simp only [initSt, initEnv, List.map_cons, List.map_nil, List.getD_cons_zero, List.getD_cons_succ, List.getD_nil]
  have hh := getL_some h; clear h; obtain ⟨n547, c548, h546, h⟩ := hh
  have hh := grd_some h; clear h; obtain ⟨g549, h⟩ := hh
  have hh := grd_some h; clear h; obtain ⟨g550, h⟩ := hh
  have hh := grd_some h; clear h; obtain ⟨g551, h⟩ := hh
  refine W_sound tab_ok mixed 21 _ _ _ ?_
  simp -implicitDefEqProofs only [go_sem, ne_eq, not_false_eq_true, Nat.reduceBEq, Nat.reduceAdd, Nat.reduceSub, Nat.reduceMul, Nat.reduceLT, Nat.reduceLeDiff, Int.reduceLE, Int.reduceLT, Int.reduceToNat, Int.reduceBEq, Int.reduceBNe, Int.le_refl, Nat.le_refl, decide_true, decide_false, Int.cast_ofNat_Int, ↓reduceIte, h546, g549, g550, g551]
  repeat with_reducible refine And.intro (by first | kernel_rfl | decide) ?_
  simp only [Option.some.injEq, Prod.mk.injEq] at h; obtain ⟨rfl, rfl⟩ := h
  exact finD (e2 := [(0, .dead), (2, .sl false 7 0 n547 1), (4, .dead)]) (ob2 := [(5, .p []), (7, .p c548)]) (st' := ⟨[], [(0, .dead), (2, .sl false 0 0 n547 1), (4, .dead)], [(0, .p c548)], 1, []⟩) (.cons _ _ _ _ _ (.dead _) (.cons _ _ _ _ _ (.refl _) (.cons _ _ _ _ _ (.dead _) .nil))) (.cons _ _ _ _ _ (DLes.refl _) (.cons _ _ _ _ _ (DLes.refl _) .nil)) (by kernel_rfl) (by simp only [go_sem, ne_eq, not_false_eq_true, Nat.reduceBEq, Nat.reduceAdd, Nat.reduceSub, Nat.reduceMul, Nat.reduceLT, Nat.reduceLeDiff, Int.reduceLE, Int.reduceLT, Int.reduceToNat, Int.reduceBEq, Int.reduceBNe, Int.le_refl, Nat.le_refl, decide_true, decide_false, Int.cast_ofNat_Int, ↓reduceIte, resQ_tmp, resQ_cell, resQ_nil, retD_one, retD_two, retD_three, retD_none]; first | done | exact ⟨rfl, rfl⟩ | (try simp [R.val, retD_one]))

def m99 (N : Nat) (n555 : Nat) (x556 : Int) (x557 : Int) (c558 : List PV) : Option (Nat × List PV) :=
  brn (decide (x557 = ((n555 : Nat) : Int))) (
    grd (0 ≤ x556 ∧ x556 ≤ x557 ∧ x557 ≤ ((n555 : Nat) : Int) ∧ eqI ((n555 : Nat) : Int) x557) <|
    brn (x556 == x557) (
      some (n555, c558)) (
      grd (x556 ≤ ((n555 : Nat) : Int)) <|
      grd (0 ≤ x557) <|
      grd (List.length (List.take (Int.toNat (((n555 : Nat) : Int) - x557)) (List.drop (Int.toNat x557) c558)) = (Int.toNat (((n555 : Nat) : Int) - x557))) <|
      brn (decide (((Int.toNat x556) + (Int.toNat (((n555 : Nat) : Int) - x557))) ≤ (n555 - 0))) (
        grd (cutG ((Int.toNat x556) + (Int.toNat (((n555 : Nat) : Int) - x557))) c558 ∧ (Int.toNat x556) ≤ List.length c558) <|
        grd (0 ≤ ((((Int.toNat x556) + (Int.toNat (((n555 : Nat) : Int) - x557))) : Nat) : Int) ∧ ((((Int.toNat x556) + (Int.toNat (((n555 : Nat) : Int) - x557))) : Nat) : Int) ≤ ((n555 : Nat) : Int) ∧ ((n555 : Nat) : Int) ≤ (((n555 - 0) : Nat) : Int)) <|
        grd ((((Int.toNat x556) + (Int.toNat (((n555 : Nat) : Int) - x557))) + (Int.toNat (((n555 : Nat) : Int) - ((((Int.toNat x556) + (Int.toNat (((n555 : Nat) : Int) - x557))) : Nat) : Int)))) ≤ List.length c558) <|
        some (((Int.toNat x556) + (Int.toNat (((n555 : Nat) : Int) - x557))), (putP (putP c558 (Int.toNat x556) (List.take (Int.toNat (((n555 : Nat) : Int) - x557)) (List.drop (Int.toNat x557) c558))) ((Int.toNat x556) + (Int.toNat (((n555 : Nat) : Int) - x557))) (List.replicate (Int.toNat (((n555 : Nat) : Int) - ((((Int.toNat x556) + (Int.toNat (((n555 : Nat) : Int) - x557))) : Nat) : Int))) (.int .i64 0))))) (
        none))) (
    grd (0 ≤ x556 ∧ x556 ≤ x557 ∧ x557 ≤ ((n555 : Nat) : Int) ∧ ((n555 : Nat) : Int) ≤ ((n555 : Nat) : Int)) <|
    brn (x556 == x557) (
      some (n555, c558)) (
      grd (x556 ≤ ((n555 : Nat) : Int)) <|
      grd (0 ≤ x557) <|
      grd (List.length (List.take (Int.toNat (((n555 : Nat) : Int) - x557)) (List.drop (Int.toNat x557) c558)) = (Int.toNat (((n555 : Nat) : Int) - x557))) <|
      brn (decide (((Int.toNat x556) + (Int.toNat (((n555 : Nat) : Int) - x557))) ≤ (n555 - 0))) (
        grd (cutG ((Int.toNat x556) + (Int.toNat (((n555 : Nat) : Int) - x557))) c558 ∧ (Int.toNat x556) ≤ List.length c558) <|
        grd (0 ≤ ((((Int.toNat x556) + (Int.toNat (((n555 : Nat) : Int) - x557))) : Nat) : Int) ∧ ((((Int.toNat x556) + (Int.toNat (((n555 : Nat) : Int) - x557))) : Nat) : Int) ≤ ((n555 : Nat) : Int) ∧ ((n555 : Nat) : Int) ≤ (((n555 - 0) : Nat) : Int)) <|
        grd ((((Int.toNat x556) + (Int.toNat (((n555 : Nat) : Int) - x557))) + (Int.toNat (((n555 : Nat) : Int) - ((((Int.toNat x556) + (Int.toNat (((n555 : Nat) : Int) - x557))) : Nat) : Int)))) ≤ List.length c558) <|
        some (((Int.toNat x556) + (Int.toNat (((n555 : Nat) : Int) - x557))), (putP (putP c558 (Int.toNat x556) (List.take (Int.toNat (((n555 : Nat) : Int) - x557)) (List.drop (Int.toNat x557) c558))) ((Int.toNat x556) + (Int.toNat (((n555 : Nat) : Int) - x557))) (List.replicate (Int.toNat (((n555 : Nat) : Int) - ((((Int.toNat x556) + (Int.toNat (((n555 : Nat) : Int) - x557))) : Nat) : Int))) (.int .i64 0))))) (
        none)))
theorem c99 (N : Nat) (n555 : Nat) (x556 : Int) (x557 : Int) (c558 : List PV) (rn : Nat) (rc : List PV) (h : m99 N n555 x556 x557 c558 = some (rn, rc)) : V.Fn Try.prog 99 1 [.sl false 0 0 n555 1, .v (.int .i64 x556), .v (.int .i64 x557)] [(0, .p c558)] (fun d ob' => d = .sl false 0 0 rn 1 ∧ ob' = [(0, .p rc)]) := by
  unfold m99 at h
  refine Fn_of (sz := 33) tab_ok [0, 1, 2, 6, 7, 16] [.tmp 6] Try.func99 rfl rfl rfl (by simp) ?_
  simp only [initSt, initEnv, List.map_cons, List.map_nil, List.getD_cons_zero, List.getD_cons_succ, List.getD_nil]
  have hh := brn_some h; clear h; rcases hh with ⟨h559, h⟩ | ⟨h559, h⟩
  · have hh := grd_some h; clear h; obtain ⟨⟨g560, g561, g562, g563⟩, h⟩ := hh
    have hh := brn_some h; clear h; rcases hh with ⟨h564, h⟩ | ⟨h564, h⟩
    · refine W_sound tab_ok mixed 28 _ _ _ ?_
      simp -implicitDefEqProofs only [go_sem, ne_eq, not_false_eq_true, Nat.reduceBEq, Nat.reduceAdd, Nat.reduceSub, Nat.reduceMul, Nat.reduceLT, Nat.reduceLeDiff, Int.reduceLE, Int.reduceLT, Int.reduceToNat, Int.reduceBEq, Int.reduceBNe, Int.le_refl, Nat.le_refl, decide_true, decide_false, Int.cast_ofNat_Int, ↓reduceIte, h559, eqI_t, g560, g561, g562, g563, h564]
      repeat with_reducible refine And.intro (by first | kernel_rfl | decide) ?_
      simp only [Option.some.injEq, Prod.mk.injEq] at h; obtain ⟨rfl, rfl⟩ := h
      exact finD (e2 := [(0, .dead), (1, .dead), (2, .dead), (6, .sl false 0 0 n555 1), (7, .dead), (16, .dead)]) (ob2 := [(0, .p c558)]) (st' := ⟨[], [(0, .dead), (1, .dead), (2, .dead), (6, .sl false 0 0 n555 1), (7, .dead), (16, .dead)], [(0, .p c558)], 1, []⟩) (.cons _ _ _ _ _ (.dead _) (.cons _ _ _ _ _ (.dead _) (.cons _ _ _ _ _ (.dead _) (.cons _ _ _ _ _ (.refl _) (.cons _ _ _ _ _ (.refl _) (.cons _ _ _ _ _ (.dead _) .nil)))))) (.cons _ _ _ _ _ (DLes.refl _) .nil) (by kernel_rfl) (by simp only [go_sem, ne_eq, not_false_eq_true, Nat.reduceBEq, Nat.reduceAdd, Nat.reduceSub, Nat.reduceMul, Nat.reduceLT, Nat.reduceLeDiff, Int.reduceLE, Int.reduceLT, Int.reduceToNat, Int.reduceBEq, Int.reduceBNe, Int.le_refl, Nat.le_refl, decide_true, decide_false, Int.cast_ofNat_Int, ↓reduceIte, resQ_tmp, resQ_cell, resQ_nil, retD_one, retD_two, retD_three, retD_none]; first | done | exact ⟨rfl, rfl⟩ | (try simp [R.val, retD_one]))
    · have hh := grd_some h; clear h; obtain ⟨g565, h⟩ := hh
      have hh := grd_some h; clear h; obtain ⟨g566, h⟩ := hh
      have hh := grd_some h; clear h; obtain ⟨g567, h⟩ := hh
      have hh := brn_some h; clear h; rcases hh with ⟨h568, h⟩ | ⟨h568, h⟩
      · have hh := grd_some h; clear h; obtain ⟨⟨g569, g570⟩, h⟩ := hh
        have hh := grd_some h; clear h; obtain ⟨⟨g571, g572, g573⟩, h⟩ := hh
        have hh := grd_some h; clear h; obtain ⟨g574, h⟩ := hh
        refine W_sound tab_ok mixed 53 _ _ _ ?_
        simp -implicitDefEqProofs only [go_sem, ne_eq, not_false_eq_true, Nat.reduceBEq, Nat.reduceAdd, Nat.reduceSub, Nat.reduceMul, Nat.reduceLT, Nat.reduceLeDiff, Int.reduceLE, Int.reduceLT, Int.reduceToNat, Int.reduceBEq, Int.reduceBNe, Int.le_refl, Nat.le_refl, decide_true, decide_false, Int.cast_ofNat_Int, ↓reduceIte, h559, eqI_t, g560, g561, g562, g563, h564, g565, g566, g567, h568, g569, g570, cutG_le, extO_cut, normE, g571, g572, g573, g574]
        repeat with_reducible refine And.intro (by first | kernel_rfl | decide) ?_
        refine Wp_wkK Wk_norm rfl ?_
        simp -implicitDefEqProofs only [go_sem, ne_eq, not_false_eq_true, Nat.reduceBEq, Nat.reduceAdd, Nat.reduceSub, Nat.reduceMul, Nat.reduceLT, Nat.reduceLeDiff, Int.reduceLE, Int.reduceLT, Int.reduceToNat, Int.reduceBEq, Int.reduceBNe, Int.le_refl, Nat.le_refl, decide_true, decide_false, Int.cast_ofNat_Int, ↓reduceIte, normE, h559, eqI_t, g560, g561, g562, g563, h564, g565, g566, g567, h568, g569, g570, cutG_le, extO_cut, normE, g571, g572, g573, g574]
        refine W_sound tab_ok mixed 2 _ _ _ ?_
        simp -implicitDefEqProofs only [go_sem, ne_eq, not_false_eq_true, Nat.reduceBEq, Nat.reduceAdd, Nat.reduceSub, Nat.reduceMul, Nat.reduceLT, Nat.reduceLeDiff, Int.reduceLE, Int.reduceLT, Int.reduceToNat, Int.reduceBEq, Int.reduceBNe, Int.le_refl, Nat.le_refl, decide_true, decide_false, Int.cast_ofNat_Int, ↓reduceIte, h559, eqI_t, g560, g561, g562, g563, h564, g565, g566, g567, h568, g569, g570, cutG_le, extO_cut, normE, g571, g572, g573, g574]
        repeat with_reducible refine And.intro (by first | kernel_rfl | decide) ?_
        simp only [Option.some.injEq, Prod.mk.injEq] at h; obtain ⟨rfl, rfl⟩ := h
        exact finD (e2 := [(0, .dead), (1, .dead), (2, .dead), (6, .sl false 0 0 ((Int.toNat x556) + (Int.toNat (((n555 : Nat) : Int) - x557))) 1), (7, .dead), (16, .dead)]) (ob2 := [(0, .p (putP (putP c558 (Int.toNat x556) (List.take (Int.toNat (((n555 : Nat) : Int) - x557)) (List.drop (Int.toNat x557) c558))) ((Int.toNat x556) + (Int.toNat (((n555 : Nat) : Int) - x557))) (List.replicate (Int.toNat (((n555 : Nat) : Int) - ((((Int.toNat x556) + (Int.toNat (((n555 : Nat) : Int) - x557))) : Nat) : Int))) (.int .i64 0))))]) (st' := ⟨[], [(0, .dead), (1, .dead), (2, .dead), (6, .sl false 0 0 ((Int.toNat x556) + (Int.toNat (((n555 : Nat) : Int) - x557))) 1), (7, .dead), (16, .dead)], [(0, .p (putP (putP c558 (Int.toNat x556) (List.take (Int.toNat (((n555 : Nat) : Int) - x557)) (List.drop (Int.toNat x557) c558))) ((Int.toNat x556) + (Int.toNat (((n555 : Nat) : Int) - x557))) (List.replicate (Int.toNat (((n555 : Nat) : Int) - ((((Int.toNat x556) + (Int.toNat (((n555 : Nat) : Int) - x557))) : Nat) : Int))) (.int .i64 0))))], 1, []⟩) (.cons _ _ _ _ _ (.dead _) (.cons _ _ _ _ _ (.dead _) (.cons _ _ _ _ _ (.dead _) (.cons _ _ _ _ _ (.refl _) (.cons _ _ _ _ _ (.dead _) (.cons _ _ _ _ _ (.dead _) .nil)))))) (.cons _ _ _ _ _ (DLes.refl _) .nil) (by kernel_rfl) (by simp only [go_sem, ne_eq, not_false_eq_true, Nat.reduceBEq, Nat.reduceAdd, Nat.reduceSub, Nat.reduceMul, Nat.reduceLT, Nat.reduceLeDiff, Int.reduceLE, Int.reduceLT, Int.reduceToNat, Int.reduceBEq, Int.reduceBNe, Int.le_refl, Nat.le_refl, decide_true, decide_false, Int.cast_ofNat_Int, ↓reduceIte, resQ_tmp, resQ_cell, resQ_nil, retD_one, retD_two, retD_three, retD_none]; first | done | exact ⟨rfl, rfl⟩ | (try simp [R.val, retD_one]))
      · cases h
  · have hh := grd_some h; clear h; obtain ⟨⟨g575, g576, g577, g578⟩, h⟩ := hh
    have hh := brn_some h; clear h; rcases hh with ⟨h579, h⟩ | ⟨h579, h⟩
    · refine W_sound tab_ok mixed 28 _ _ _ ?_
      simp -implicitDefEqProofs only [go_sem, ne_eq, not_false_eq_true, Nat.reduceBEq, Nat.reduceAdd, Nat.reduceSub, Nat.reduceMul, Nat.reduceLT, Nat.reduceLeDiff, Int.reduceLE, Int.reduceLT, Int.reduceToNat, Int.reduceBEq, Int.reduceBNe, Int.le_refl, Nat.le_refl, decide_true, decide_false, Int.cast_ofNat_Int, ↓reduceIte, h559, g575, g576, g577, g578, h579]
      repeat with_reducible refine And.intro (by first | kernel_rfl | decide) ?_
      simp only [Option.some.injEq, Prod.mk.injEq] at h; obtain ⟨rfl, rfl⟩ := h
      exact finD (e2 := [(0, .dead), (1, .dead), (2, .dead), (6, .sl false 0 0 n555 1), (7, .dead), (16, .dead)]) (ob2 := [(0, .p c558)]) (st' := ⟨[], [(0, .dead), (1, .dead), (2, .dead), (6, .sl false 0 0 n555 1), (7, .dead), (16, .dead)], [(0, .p c558)], 1, []⟩) (.cons _ _ _ _ _ (.dead _) (.cons _ _ _ _ _ (.dead _) (.cons _ _ _ _ _ (.dead _) (.cons _ _ _ _ _ (.refl _) (.cons _ _ _ _ _ (.refl _) (.cons _ _ _ _ _ (.dead _) .nil)))))) (.cons _ _ _ _ _ (DLes.refl _) .nil) (by kernel_rfl) (by simp only [go_sem, ne_eq, not_false_eq_true, Nat.reduceBEq, Nat.reduceAdd, Nat.reduceSub, Nat.reduceMul, Nat.reduceLT, Nat.reduceLeDiff, Int.reduceLE, Int.reduceLT, Int.reduceToNat, Int.reduceBEq, Int.reduceBNe, Int.le_refl, Nat.le_refl, decide_true, decide_false, Int.cast_ofNat_Int, ↓reduceIte, resQ_tmp, resQ_cell, resQ_nil, retD_one, retD_two, retD_three, retD_none]; first | done | exact ⟨rfl, rfl⟩ | (try simp [R.val, retD_one]))
    · have hh := grd_some h; clear h; obtain ⟨g580, h⟩ := hh
      have hh := grd_some h; clear h; obtain ⟨g581, h⟩ := hh
      have hh := grd_some h; clear h; obtain ⟨g582, h⟩ := hh
      have hh := brn_some h; clear h; rcases hh with ⟨h583, h⟩ | ⟨h583, h⟩
      · have hh := grd_some h; clear h; obtain ⟨⟨g584, g585⟩, h⟩ := hh
        have hh := grd_some h; clear h; obtain ⟨⟨g586, g587, g588⟩, h⟩ := hh
        have hh := grd_some h; clear h; obtain ⟨g589, h⟩ := hh
        refine W_sound tab_ok mixed 53 _ _ _ ?_
        simp -implicitDefEqProofs only [go_sem, ne_eq, not_false_eq_true, Nat.reduceBEq, Nat.reduceAdd, Nat.reduceSub, Nat.reduceMul, Nat.reduceLT, Nat.reduceLeDiff, Int.reduceLE, Int.reduceLT, Int.reduceToNat, Int.reduceBEq, Int.reduceBNe, Int.le_refl, Nat.le_refl, decide_true, decide_false, Int.cast_ofNat_Int, ↓reduceIte, h559, g575, g576, g577, g578, h579, g580, g581, g582, h583, g584, g585, cutG_le, extO_cut, normE, g586, g587, g588, g589]
        repeat with_reducible refine And.intro (by first | kernel_rfl | decide) ?_
        refine Wp_wkK Wk_norm rfl ?_
        simp -implicitDefEqProofs only [go_sem, ne_eq, not_false_eq_true, Nat.reduceBEq, Nat.reduceAdd, Nat.reduceSub, Nat.reduceMul, Nat.reduceLT, Nat.reduceLeDiff, Int.reduceLE, Int.reduceLT, Int.reduceToNat, Int.reduceBEq, Int.reduceBNe, Int.le_refl, Nat.le_refl, decide_true, decide_false, Int.cast_ofNat_Int, ↓reduceIte, normE, h559, g575, g576, g577, g578, h579, g580, g581, g582, h583, g584, g585, cutG_le, extO_cut, normE, g586, g587, g588, g589]
        refine W_sound tab_ok mixed 2 _ _ _ ?_
        simp -implicitDefEqProofs only [go_sem, ne_eq, not_false_eq_true, Nat.reduceBEq, Nat.reduceAdd, Nat.reduceSub, Nat.reduceMul, Nat.reduceLT, Nat.reduceLeDiff, Int.reduceLE, Int.reduceLT, Int.reduceToNat, Int.reduceBEq, Int.reduceBNe, Int.le_refl, Nat.le_refl, decide_true, decide_false, Int.cast_ofNat_Int, ↓reduceIte, h559, g575, g576, g577, g578, h579, g580, g581, g582, h583, g584, g585, cutG_le, extO_cut, normE, g586, g587, g588, g589]
        repeat with_reducible refine And.intro (by first | kernel_rfl | decide) ?_
        simp only [Option.some.injEq, Prod.mk.injEq] at h; obtain ⟨rfl, rfl⟩ := h
        exact finD (e2 := [(0, .dead), (1, .dead), (2, .dead), (6, .sl false 0 0 ((Int.toNat x556) + (Int.toNat (((n555 : Nat) : Int) - x557))) 1), (7, .dead), (16, .dead)]) (ob2 := [(0, .p (putP (putP c558 (Int.toNat x556) (List.take (Int.toNat (((n555 : Nat) : Int) - x557)) (List.drop (Int.toNat x557) c558))) ((Int.toNat x556) + (Int.toNat (((n555 : Nat) : Int) - x557))) (List.replicate (Int.toNat (((n555 : Nat) : Int) - ((((Int.toNat x556) + (Int.toNat (((n555 : Nat) : Int) - x557))) : Nat) : Int))) (.int .i64 0))))]) (st' := ⟨[], [(0, .dead), (1, .dead), (2, .dead), (6, .sl false 0 0 ((Int.toNat x556) + (Int.toNat (((n555 : Nat) : Int) - x557))) 1), (7, .dead), (16, .dead)], [(0, .p (putP (putP c558 (Int.toNat x556) (List.take (Int.toNat (((n555 : Nat) : Int) - x557)) (List.drop (Int.toNat x557) c558))) ((Int.toNat x556) + (Int.toNat (((n555 : Nat) : Int) - x557))) (List.replicate (Int.toNat (((n555 : Nat) : Int) - ((((Int.toNat x556) + (Int.toNat (((n555 : Nat) : Int) - x557))) : Nat) : Int))) (.int .i64 0))))], 1, []⟩) (.cons _ _ _ _ _ (.dead _) (.cons _ _ _ _ _ (.dead _) (.cons _ _ _ _ _ (.dead _) (.cons _ _ _ _ _ (.refl _) (.cons _ _ _ _ _ (.dead _) (.cons _ _ _ _ _ (.dead _) .nil)))))) (.cons _ _ _ _ _ (DLes.refl _) .nil) (by kernel_rfl) (by simp only [go_sem, ne_eq, not_false_eq_true, Nat.reduceBEq, Nat.reduceAdd, Nat.reduceSub, Nat.reduceMul, Nat.reduceLT, Nat.reduceLeDiff, Int.reduceLE, Int.reduceLT, Int.reduceToNat, Int.reduceBEq, Int.reduceBNe, Int.le_refl, Nat.le_refl, decide_true, decide_false, Int.cast_ofNat_Int, ↓reduceIte, resQ_tmp, resQ_cell, resQ_nil, retD_one, retD_two, retD_three, retD_none]; first | done | exact ⟨rfl, rfl⟩ | (try simp [R.val, retD_one]))
      · cases h

def m81_2 (N : Nat) (p627 : PV) (p628 : PV) (p629 : PV) (p630 : PV) (p631 : PV) : Option ((PV × PV × PV × PV)) :=
  getL p627 fun n636 c637 =>
  getL p629 fun n639 c640 =>
  getL p628 fun n642 c643 =>
  bnd' (m76 N (.lst false n642 c643) (.lst false n639 c640) (.lst false n636 c637)) fun p644 =>
  getB p644 fun b647 =>
  some ((.bool b647), (.lst false n639 c640), (.lst false n639 c640), (.lst false n636 c637))
theorem c81_2 (N : Nat) (p627 : PV) (p628 : PV) (p629 : PV) (p630 : PV) (p631 : PV) (r : PV) (p651 : PV) (p652 : PV) (p653 : PV) (h : m81_2 N p627 p628 p629 p630 p631 = some (r, p651, p652, p653)) : V.Fn Try.prog 81 3 [.v p627, .ptr 0 0, .ptr 1 0, .ptr 2 0, .v (.ipt [p628])] [(0, .p [p629]), (1, .p [p630]), (2, .p [p631])] (fun d ob' => d = .v r ∧ ob' = [(0, .p [p651]), (1, .p [p652]), (2, .p [p653])]) := by
  unfold m81_2 at h
  refine Fn_of (sz := 13) tab_ok [0, 1, 2, 3, 4, 6] [.tmp 6] Try.func81 rfl rfl rfl (by simp) ?_
  simp only [initSt, initEnv, List.map_cons, List.map_nil, List.getD_cons_zero, List.getD_cons_succ, List.getD_nil]
  have hh := getL_some h; clear h; obtain ⟨n636, c637, h635, h⟩ := hh
  have hh := getL_some h; clear h; obtain ⟨n639, c640, h638, h⟩ := hh
  have hh := getL_some h; clear h; obtain ⟨n642, c643, h641, h⟩ := hh
  have hh := bnd'_some h; clear h; obtain ⟨p644, h645, h⟩ := hh
  refine W_sound tab_ok mixed 16 _ _ _ ?_
  simp -implicitDefEqProofs only [go_sem, ne_eq, not_false_eq_true, Nat.reduceBEq, Nat.reduceAdd, Nat.reduceSub, Nat.reduceMul, Nat.reduceLT, Nat.reduceLeDiff, Int.reduceLE, Int.reduceLT, Int.reduceToNat, Int.reduceBEq, Int.reduceBNe, Int.le_refl, Nat.le_refl, decide_true, decide_false, Int.cast_ofNat_Int, ↓reduceIte, h635, h638, h641]
  repeat with_reducible refine And.intro (by first | kernel_rfl | decide) ?_
  refine Wp_callP (c76 N _ _ _ _ h645) (by kernel_rfl) rfl rfl rfl rfl (by decide) ?_
  have hh := getB_some h; clear h; obtain ⟨b647, h646, h⟩ := hh
  refine W_sound tab_ok mixed 4 _ _ _ ?_
  simp -implicitDefEqProofs only [go_sem, ne_eq, not_false_eq_true, Nat.reduceBEq, Nat.reduceAdd, Nat.reduceSub, Nat.reduceMul, Nat.reduceLT, Nat.reduceLeDiff, Int.reduceLE, Int.reduceLT, Int.reduceToNat, Int.reduceBEq, Int.reduceBNe, Int.le_refl, Nat.le_refl, decide_true, decide_false, Int.cast_ofNat_Int, ↓reduceIte, h635, h638, h641, h646]
  repeat with_reducible refine And.intro (by first | kernel_rfl | decide) ?_
  simp only [Option.some.injEq, Prod.mk.injEq] at h; obtain ⟨rfl, rfl, rfl, rfl⟩ := h
  exact finD (e2 := [(0, .dead), (1, .dead), (2, .dead), (3, .dead), (4, .dead), (6, .v (.bool b647))]) (ob2 := [(0, .p [(.lst false n639 c640)]), (1, .p [(.lst false n639 c640)]), (2, .p [(.lst false n636 c637)])]) (st' := ⟨[], [(0, .dead), (1, .dead), (2, .dead), (3, .dead), (4, .dead), (6, .v (.bool b647))], [(0, .p [(.lst false n639 c640)]), (1, .p [(.lst false n639 c640)]), (2, .p [(.lst false n636 c637)])], 3, []⟩) (.cons _ _ _ _ _ (.dead _) (.cons _ _ _ _ _ (.dead _) (.cons _ _ _ _ _ (.dead _) (.cons _ _ _ _ _ (.dead _) (.cons _ _ _ _ _ (.dead _) (.cons _ _ _ _ _ (.refl _) .nil)))))) (.cons _ _ _ _ _ (DLes.refl _) (.cons _ _ _ _ _ (DLes.refl _) (.cons _ _ _ _ _ (DLes.refl _) .nil))) (by kernel_rfl) (by simp only [go_sem, ne_eq, not_false_eq_true, Nat.reduceBEq, Nat.reduceAdd, Nat.reduceSub, Nat.reduceMul, Nat.reduceLT, Nat.reduceLeDiff, Int.reduceLE, Int.reduceLT, Int.reduceToNat, Int.reduceBEq, Int.reduceBNe, Int.le_refl, Nat.le_refl, decide_true, decide_false, Int.cast_ofNat_Int, ↓reduceIte, resQ_tmp, resQ_cell, resQ_nil, retD_one, retD_two, retD_three, retD_none]; try simp [R.val, retD_one, retD_two, retD_three, retD_none])

def m98_3_L0 (N : Nat) (rec : PV → PV → PV → PV → PV → PV → Option ((PV × PV × PV × PV))) (p689 : PV) (n697 : Nat) (c698 : List PV) (n700 : Nat) (c701 : List PV) : Nat → Int → PV → PV → PV → Option (((PV × PV × PV × PV) ⊕ (PV × PV × PV)))
  | 0, _, _, _, _ => none
  | n + 1, x735, p736, p737, p738 =>
    brn (decide (x735 < ((n700 : Nat) : Int))) (
      grd (0 ≤ x735 ∧ x735 < ((n700 : Nat) : Int)) <|
      grd (0 < List.length (List.drop (Int.toNat x735) c701)) <|
      getI .i64 (gp c701 (Int.toNat x735)) fun x744 =>
      grd (0 ≤ ((n697 : Nat) : Int) ∧ ((n697 : Nat) : Int) ≤ ((n697 : Nat) : Int)) <|
      grd (List.length c698 = n697) <|
      grd ((n697 + 1) ≤ 1099511627776) <|
      bnd' (m53 N (.lst false n700 c701)) fun (n749, c750) =>
      bnd' (m99 N n749 x735 (IntKind.i64.wrap (x735 + 1)) c750) fun (n752, c753) =>
      bnd' (rec (.lst false (n697 + 1) (c698 ++ [(.int .i64 x744)])) (.lst false n752 (List.take n752 c753)) p689 p736 p737 p738) fun (p755, p757, p758, p759) =>
      getB p755 fun b761 =>
      brn b761 (
        some (.inl ((.bool true), p757, p758, p759))) (
        m98_3_L0 N rec p689 n697 c698 n700 c701 n (IntKind.i64.wrap (x735 + 1)) p757 p758 p759)) (
      some (.inr (p736, p737, p738)))
def m98_3 (N : Nat) : Nat → PV → PV → PV → PV → PV → PV → Option ((PV × PV × PV × PV))
  | 0, _, _, _, _, _, _ => none
  | fu + 1, p687, p688, p689, p690, p691, p692 =>
    getL p687 fun n697 c698 =>
    getL p688 fun n700 c701 =>
    brn (((n700 : Nat) : Int) == 0) (
      bnd' (m81_2 N (.lst false n697 c698) p689 p690 p691 p692) fun (p703, p705, p706, p707) =>
      getB p703 fun b709 =>
      some ((.bool b709), p705, p706, p707)) (
      bnd' (m98_3_L0 N (m98_3 N fu) p689 n697 c698 n700 c701 N 0 p690 p691 p692) fun o =>
      match o with
      | .inl p763 =>
        some p763
      | .inr (p764, p765, p766) =>
        some ((.bool false), p764, p765, p766))
theorem c98_3 (N : Nat) : ∀ (fu : Nat) (p687 : PV) (p688 : PV) (p689 : PV) (p690 : PV) (p691 : PV) (p692 : PV) (r : PV) (p770 : PV) (p771 : PV) (p772 : PV) (h : m98_3 N fu p687 p688 p689 p690 p691 p692 = some (r, p770, p771, p772)), V.Fn Try.prog 98 5 [.v p687, .v p688, .ptr 0 0, .ptr 4 0] [(0, .r [.fn 81 [.ptr 1 0, .ptr 2 0, .ptr 3 0, .v (.ipt [p689])]]), (1, .p [p690]), (2, .p [p691]), (3, .p [p692]), (4, .r [.fn 98 [.ptr 0 0, .ptr 4 0]])] (fun d ob' => d = .v r ∧ ob' = [(0, .r [.fn 81 [.ptr 1 0, .ptr 2 0, .ptr 3 0, .v (.ipt [p689])]]), (1, .p [p770]), (2, .p [p771]), (3, .p [p772]), (4, .r [.fn 98 [.ptr 0 0, .ptr 4 0]])]) := by
  intro fu
  induction fu with
  | zero => intro p687 p688 p689 p690 p691 p692 r p770 p771 p772 h; cases h
  | succ fu ih =>
    intro p687 p688 p689 p690 p691 p692 r p770 p771 p772 h
    rw [m98_3] at h
    refine Fn_of (sz := 40) tab_ok [0, 1, 2, 3, 6, 7, 8, 11, 15, 16, 17, 18, 38] [.tmp 6] Try.func98 rfl rfl rfl (by simp) ?_
    simp only [initSt, initEnv, List.map_cons, List.map_nil, List.getD_cons_zero, List.getD_cons_succ, List.getD_nil]
    have hh := getL_some h; clear h; obtain ⟨n697, c698, h696, h⟩ := hh
    have hh := getL_some h; clear h; obtain ⟨n700, c701, h699, h⟩ := hh
    have hh := brn_some h; clear h; rcases hh with ⟨h702, h⟩ | ⟨h702, h⟩
    · have hh := bnd'_some h; clear h; obtain ⟨⟨p703, p705, p706, p707⟩, h704, h⟩ := hh
      (try dsimp only at h)
      refine W_sound tab_ok mixed 16 _ _ _ ?_
      simp -implicitDefEqProofs only [go_sem, ne_eq, not_false_eq_true, Nat.reduceBEq, Nat.reduceAdd, Nat.reduceSub, Nat.reduceMul, Nat.reduceLT, Nat.reduceLeDiff, Int.reduceLE, Int.reduceLT, Int.reduceToNat, Int.reduceBEq, Int.reduceBNe, Int.le_refl, Nat.le_refl, decide_true, decide_false, Int.cast_ofNat_Int, ↓reduceIte, h696, h699, h702]
      repeat with_reducible refine And.intro (by first | kernel_rfl | decide) ?_
      refine Wp_callD [1, 2, 3] (c81_2 N _ _ _ _ _ _ _ _ _ h704) rfl rfl rfl (by first | rfl | (simp only [go_sem, ne_eq, not_false_eq_true, Nat.reduceBEq, Nat.reduceAdd, Nat.reduceSub, Nat.reduceMul, Nat.reduceLT, Nat.reduceLeDiff, Int.reduceLE, Int.reduceLT, Int.reduceToNat, Int.reduceBEq, Int.reduceBNe, Int.le_refl, Nat.le_refl, decide_true, decide_false, Int.cast_ofNat_Int, ↓reduceIte, h696, h699, h702] <;> rfl)) rfl (by kernel_rfl) ?_
      have hh := getB_some h; clear h; obtain ⟨b709, h708, h⟩ := hh
      refine W_sound tab_ok mixed 4 _ _ _ ?_
      simp -implicitDefEqProofs only [go_sem, ne_eq, not_false_eq_true, Nat.reduceBEq, Nat.reduceAdd, Nat.reduceSub, Nat.reduceMul, Nat.reduceLT, Nat.reduceLeDiff, Int.reduceLE, Int.reduceLT, Int.reduceToNat, Int.reduceBEq, Int.reduceBNe, Int.le_refl, Nat.le_refl, decide_true, decide_false, Int.cast_ofNat_Int, ↓reduceIte, h696, h699, h702, h708]
      repeat with_reducible refine And.intro (by first | kernel_rfl | decide) ?_
      simp only [Option.some.injEq, Prod.mk.injEq] at h; obtain ⟨rfl, rfl, rfl, rfl⟩ := h
      exact finD (e2 := [(0, .dead), (1, .dead), (2, .dead), (3, .dead), (6, .v (.bool b709)), (7, .dead), (8, .dead), (11, .dead), (15, .dead), (16, .dead), (17, .dead), (18, .dead), (38, .dead)]) (ob2 := [(0, .r [.fn 81 [.ptr 1 0, .ptr 2 0, .ptr 3 0, .v (.ipt [p689])]]), (4, .r [.fn 98 [.ptr 0 0, .ptr 4 0]]), (3, .p [p707]), (2, .p [p706]), (1, .p [p705])]) (st' := ⟨[], [(0, .dead), (1, .dead), (2, .dead), (3, .dead), (6, .v (.bool b709)), (7, .dead), (8, .dead), (11, .dead), (15, .dead), (16, .dead), (17, .dead), (18, .dead), (38, .dead)], [(0, .r [.fn 81 [.ptr 1 0, .ptr 2 0, .ptr 3 0, .v (.ipt [p689])]]), (1, .p [p705]), (2, .p [p706]), (3, .p [p707]), (4, .r [.fn 98 [.ptr 0 0, .ptr 4 0]])], 5, []⟩) (.cons _ _ _ _ _ (.dead _) (.cons _ _ _ _ _ (.dead _) (.cons _ _ _ _ _ (.dead _) (.cons _ _ _ _ _ (.dead _) (.cons _ _ _ _ _ (.refl _) (.cons _ _ _ _ _ (.refl _) (.cons _ _ _ _ _ (.refl _) (.cons _ _ _ _ _ (.dead _) (.cons _ _ _ _ _ (.refl _) (.cons _ _ _ _ _ (.refl _) (.cons _ _ _ _ _ (.refl _) (.cons _ _ _ _ _ (.refl _) (.cons _ _ _ _ _ (.refl _) .nil))))))))))))) (.cons _ _ _ _ _ (DLes.refl _) (.cons _ _ _ _ _ (DLes.refl _) (.cons _ _ _ _ _ (DLes.refl _) (.cons _ _ _ _ _ (DLes.refl _) (.cons _ _ _ _ _ (DLes.refl _) .nil))))) (by kernel_rfl) (by simp only [go_sem, ne_eq, not_false_eq_true, Nat.reduceBEq, Nat.reduceAdd, Nat.reduceSub, Nat.reduceMul, Nat.reduceLT, Nat.reduceLeDiff, Int.reduceLE, Int.reduceLT, Int.reduceToNat, Int.reduceBEq, Int.reduceBNe, Int.le_refl, Nat.le_refl, decide_true, decide_false, Int.cast_ofNat_Int, ↓reduceIte, resQ_tmp, resQ_cell, resQ_nil, retD_one, retD_two, retD_three, retD_none]; try simp [R.val, retD_one, retD_two, retD_three, retD_none])
    · refine W_sound tab_ok mixed 20 _ _ _ ?_
      simp -implicitDefEqProofs only [go_sem, ne_eq, not_false_eq_true, Nat.reduceBEq, Nat.reduceAdd, Nat.reduceSub, Nat.reduceMul, Nat.reduceLT, Nat.reduceLeDiff, Int.reduceLE, Int.reduceLT, Int.reduceToNat, Int.reduceBEq, Int.reduceBNe, Int.le_refl, Nat.le_refl, decide_true, decide_false, Int.cast_ofNat_Int, ↓reduceIte, h696, h699, h702]
      repeat with_reducible refine And.intro (by first | kernel_rfl | decide) ?_
      have hh := bnd'_some h; clear h; obtain ⟨o773, h774, h775⟩ := hh
      refine Wp_cut (fun s => ∃ p764, ∃ p765, ∃ p766, (.inr (p764, p765, p766)) = o773 ∧ s = ⟨[], [(0, .dead), (1, .dead), (2, .dead), (3, .dead), (6, .dead), (7, .dead), (8, .dead), (11, .dead), (15, .dead), (16, .dead), (17, .dead), (18, .dead), (38, .dead)], [(0, .r [.fn 81 [.ptr 1 0, .ptr 2 0, .ptr 3 0, .v (.ipt [p689])]]), (1, .p [p764]), (2, .p [p765]), (3, .p [p766]), (4, .r [.fn 98 [.ptr 0 0, .ptr 4 0]])], 5, []⟩) ?_ ?_
      · refine Wp_block ?_
        refine Wp_loopG (fun n s => ∃ x735, ∃ p736, ∃ p737, ∃ p738, m98_3_L0 N (m98_3 N fu) p689 n697 c698 n700 c701 n x735 p736 p737 p738 = some o773 ∧ s = ⟨[], [(0, .v (.lst false n697 c698)), (1, .v (.lst false n700 c701)), (2, .dead), (3, .ptr 4 0), (6, .dead), (7, .dead), (8, .dead), (11, .dead), (15, .v (.lst false n700 c701)), (16, .v (.int .i64 ((n700 : Nat) : Int))), (17, .v (.int .i64 x735)), (18, .dead), (38, .dead)], [(0, .r [.fn 81 [.ptr 1 0, .ptr 2 0, .ptr 3 0, .v (.ipt [p689])]]), (1, .p [p736]), (2, .p [p737]), (3, .p [p738]), (4, .r [.fn 98 [.ptr 0 0, .ptr 4 0]])], 5, []⟩) N _ ((Wk_le (.cons _ _ _ _ _ (.refl _) (.cons _ _ _ _ _ (.refl _) (.cons _ _ _ _ _ (.dead _) (.cons _ _ _ _ _ (.refl _) (.cons _ _ _ _ _ (.dead _) (.cons _ _ _ _ _ (.refl _) (.cons _ _ _ _ _ (.refl _) (.cons _ _ _ _ _ (.dead _) (.cons _ _ _ _ _ (.refl _) (.cons _ _ _ _ _ (.refl _) (.cons _ _ _ _ _ (.refl _) (.cons _ _ _ _ _ (.refl _) (.cons _ _ _ _ _ (.refl _) .nil))))))))))))) (OLe.refl _)).trans (cmpS_ok (st' := ⟨[], [(0, .v (.lst false n697 c698)), (1, .v (.lst false n700 c701)), (2, .dead), (3, .ptr 4 0), (6, .dead), (7, .dead), (8, .dead), (11, .dead), (15, .v (.lst false n700 c701)), (16, .v (.int .i64 ((n700 : Nat) : Int))), (17, .v (.int .i64 0)), (18, .dead), (38, .dead)], [(0, .r [.fn 81 [.ptr 1 0, .ptr 2 0, .ptr 3 0, .v (.ipt [p689])]]), (1, .p [p690]), (2, .p [p691]), (3, .p [p692]), (4, .r [.fn 98 [.ptr 0 0, .ptr 4 0]])], 5, []⟩) (by kernel_rfl))) ⟨_, _, _, _, h774, rfl⟩ ?_
        clear h774
        rintro n _ ⟨x735, p736, p737, p738, h774, rfl⟩
        cases n with
        | zero => cases h774
        | succ n =>
          rw [m98_3_L0] at h774
          have hh := brn_some h774; clear h774; rcases hh with ⟨h739, h774⟩ | ⟨h739, h774⟩
          · have hh := grd_some h774; clear h774; obtain ⟨⟨g740, g741⟩, h774⟩ := hh
            have hh := grd_some h774; clear h774; obtain ⟨g742, h774⟩ := hh
            have hh := getI_some h774; clear h774; obtain ⟨x744, h743, h774⟩ := hh
            have hh := grd_some h774; clear h774; obtain ⟨⟨g745, g746⟩, h774⟩ := hh
            have hh := grd_some h774; clear h774; obtain ⟨g747, h774⟩ := hh
            have hh := grd_some h774; clear h774; obtain ⟨g748, h774⟩ := hh
            have hh := bnd'_some h774; clear h774; obtain ⟨⟨n749, c750⟩, h751, h774⟩ := hh
            (try dsimp only at h774)
            refine W_sound tab_ok mixed 30 _ _ _ ?_
            simp -implicitDefEqProofs only [go_sem, ne_eq, not_false_eq_true, Nat.reduceBEq, Nat.reduceAdd, Nat.reduceSub, Nat.reduceMul, Nat.reduceLT, Nat.reduceLeDiff, Int.reduceLE, Int.reduceLT, Int.reduceToNat, Int.reduceBEq, Int.reduceBNe, Int.le_refl, Nat.le_refl, decide_true, decide_false, Int.cast_ofNat_Int, ↓reduceIte, h696, h699, h702, h739, g740, g741, g742, h743, g745, g746, g747, g748]
            repeat with_reducible refine And.intro (by first | kernel_rfl | decide) ?_
            refine Wp_callD [] (c53 N _ _ _ h751) rfl rfl rfl (by first | rfl | (simp only [go_sem, ne_eq, not_false_eq_true, Nat.reduceBEq, Nat.reduceAdd, Nat.reduceSub, Nat.reduceMul, Nat.reduceLT, Nat.reduceLeDiff, Int.reduceLE, Int.reduceLT, Int.reduceToNat, Int.reduceBEq, Int.reduceBNe, Int.le_refl, Nat.le_refl, decide_true, decide_false, Int.cast_ofNat_Int, ↓reduceIte, h696, h699, h702, h739, g740, g741, g742, h743, g745, g746, g747, g748] <;> rfl)) rfl (by kernel_rfl) ?_
            have hh := bnd'_some h774; clear h774; obtain ⟨⟨n752, c753⟩, h754, h774⟩ := hh
            (try dsimp only at h774)
            refine W_sound tab_ok mixed 3 _ _ _ ?_
            simp -implicitDefEqProofs only [go_sem, ne_eq, not_false_eq_true, Nat.reduceBEq, Nat.reduceAdd, Nat.reduceSub, Nat.reduceMul, Nat.reduceLT, Nat.reduceLeDiff, Int.reduceLE, Int.reduceLT, Int.reduceToNat, Int.reduceBEq, Int.reduceBNe, Int.le_refl, Nat.le_refl, decide_true, decide_false, Int.cast_ofNat_Int, ↓reduceIte, h696, h699, h702, h739, g740, g741, g742, h743, g745, g746, g747, g748]
            repeat with_reducible refine And.intro (by first | kernel_rfl | decide) ?_
            refine Wp_callD [38] (c99 N _ _ _ _ _ _ h754) rfl rfl rfl (by first | rfl | (simp only [go_sem, ne_eq, not_false_eq_true, Nat.reduceBEq, Nat.reduceAdd, Nat.reduceSub, Nat.reduceMul, Nat.reduceLT, Nat.reduceLeDiff, Int.reduceLE, Int.reduceLT, Int.reduceToNat, Int.reduceBEq, Int.reduceBNe, Int.le_refl, Nat.le_refl, decide_true, decide_false, Int.cast_ofNat_Int, ↓reduceIte, h696, h699, h702, h739, g740, g741, g742, h743, g745, g746, g747, g748] <;> rfl)) rfl (by kernel_rfl) ?_
            have hh := bnd'_some h774; clear h774; obtain ⟨⟨p755, p757, p758, p759⟩, h756, h774⟩ := hh
            (try dsimp only at h774)
            (try simp -implicitDefEqProofs only [go_sem, ne_eq, not_false_eq_true, Nat.reduceBEq, Nat.reduceAdd, Nat.reduceSub, Nat.reduceMul, Nat.reduceLT, Nat.reduceLeDiff, Int.reduceLE, Int.reduceLT, Int.reduceToNat, Int.reduceBEq, Int.reduceBNe, Int.le_refl, Nat.le_refl, decide_true, decide_false, Int.cast_ofNat_Int, ↓reduceIte, h696, h699, h702, h739, g740, g741, g742, h743, g745, g746, g747, g748])
            refine Wp_callDF [(36, (c698 ++ [(.int .i64 x744)])), (38, c753)] [0, 1, 2, 3, 4] (ih _ _ _ _ _ _ _ _ _ _ h756) rfl rfl rfl (by first | rfl | (simp only [go_sem, ne_eq, not_false_eq_true, Nat.reduceBEq, Nat.reduceAdd, Nat.reduceSub, Nat.reduceMul, Nat.reduceLT, Nat.reduceLeDiff, Int.reduceLE, Int.reduceLT, Int.reduceToNat, Int.reduceBEq, Int.reduceBNe, Int.le_refl, Nat.le_refl, decide_true, decide_false, Int.cast_ofNat_Int, ↓reduceIte, h696, h699, h702, h739, g740, g741, g742, h743, g745, g746, g747, g748] <;> rfl)) rfl (by kernel_rfl) rfl rfl (by simp [roF, obL]) ?_
            have hh := getB_some h774; clear h774; obtain ⟨b761, h760, h774⟩ := hh
            have hh := brn_some h774; clear h774; rcases hh with ⟨h762, h774⟩ | ⟨h762, h774⟩
            · refine W_sound tab_ok mixed 8 _ _ _ ?_
              simp -implicitDefEqProofs only [go_sem, ne_eq, not_false_eq_true, Nat.reduceBEq, Nat.reduceAdd, Nat.reduceSub, Nat.reduceMul, Nat.reduceLT, Nat.reduceLeDiff, Int.reduceLE, Int.reduceLT, Int.reduceToNat, Int.reduceBEq, Int.reduceBNe, Int.le_refl, Nat.le_refl, decide_true, decide_false, Int.cast_ofNat_Int, ↓reduceIte, h696, h699, h702, h739, g740, g741, g742, h743, g745, g746, g747, g748, h760, h762]
              repeat with_reducible refine And.intro (by first | kernel_rfl | decide) ?_
              obtain rfl := Option.some.inj h774
              (try dsimp only at h775)
              simp only [Option.some.injEq, Prod.mk.injEq] at h775; obtain ⟨rfl, rfl, rfl, rfl⟩ := h775
              exact finD (e2 := [(0, .dead), (1, .dead), (2, .dead), (3, .dead), (6, .v (.bool true)), (7, .dead), (8, .dead), (11, .dead), (15, .dead), (16, .dead), (17, .dead), (18, .dead), (38, .dead)]) (ob2 := [(35, .p [(.int .i64 x744)]), (4, .r [.fn 98 [.ptr 0 0, .ptr 4 0]]), (3, .p [p759]), (2, .p [p758]), (1, .p [p757]), (0, .r [.fn 81 [.ptr 1 0, .ptr 2 0, .ptr 3 0, .v (.ipt [p689])]])]) (st' := ⟨[], [(0, .dead), (1, .dead), (2, .dead), (3, .dead), (6, .v (.bool true)), (7, .dead), (8, .dead), (11, .dead), (15, .dead), (16, .dead), (17, .dead), (18, .dead), (38, .dead)], [(0, .r [.fn 81 [.ptr 1 0, .ptr 2 0, .ptr 3 0, .v (.ipt [p689])]]), (1, .p [p757]), (2, .p [p758]), (3, .p [p759]), (4, .r [.fn 98 [.ptr 0 0, .ptr 4 0]])], 5, []⟩) (.cons _ _ _ _ _ (.dead _) (.cons _ _ _ _ _ (.dead _) (.cons _ _ _ _ _ (.refl _) (.cons _ _ _ _ _ (.dead _) (.cons _ _ _ _ _ (.refl _) (.cons _ _ _ _ _ (.dead _) (.cons _ _ _ _ _ (.dead _) (.cons _ _ _ _ _ (.refl _) (.cons _ _ _ _ _ (.dead _) (.cons _ _ _ _ _ (.dead _) (.cons _ _ _ _ _ (.dead _) (.cons _ _ _ _ _ (.dead _) (.cons _ _ _ _ _ (.dead _) .nil))))))))))))) (.cons _ _ _ _ _ (DLes.refl _) (.cons _ _ _ _ _ (DLes.refl _) (.cons _ _ _ _ _ (DLes.refl _) (.cons _ _ _ _ _ (DLes.refl _) (.cons _ _ _ _ _ (DLes.refl _) (.cons _ _ _ _ _ (DLes.refl _) .nil)))))) (by kernel_rfl) (by simp only [go_sem, ne_eq, not_false_eq_true, Nat.reduceBEq, Nat.reduceAdd, Nat.reduceSub, Nat.reduceMul, Nat.reduceLT, Nat.reduceLeDiff, Int.reduceLE, Int.reduceLT, Int.reduceToNat, Int.reduceBEq, Int.reduceBNe, Int.le_refl, Nat.le_refl, decide_true, decide_false, Int.cast_ofNat_Int, ↓reduceIte, resQ_tmp, resQ_cell, resQ_nil, retD_one, retD_two, retD_three, retD_none]; try simp [R.val, retD_one, retD_two, retD_three, retD_none])
            · refine W_sound tab_ok mixed 8 _ _ _ ?_
              simp -implicitDefEqProofs only [go_sem, ne_eq, not_false_eq_true, Nat.reduceBEq, Nat.reduceAdd, Nat.reduceSub, Nat.reduceMul, Nat.reduceLT, Nat.reduceLeDiff, Int.reduceLE, Int.reduceLT, Int.reduceToNat, Int.reduceBEq, Int.reduceBNe, Int.le_refl, Nat.le_refl, decide_true, decide_false, Int.cast_ofNat_Int, ↓reduceIte, h696, h699, h702, h739, g740, g741, g742, h743, g745, g746, g747, g748, h760, h762]
              repeat with_reducible refine And.intro (by first | kernel_rfl | decide) ?_
              exact cutQ _ ((Wk_le (.cons _ _ _ _ _ (.refl _) (.cons _ _ _ _ _ (.refl _) (.cons _ _ _ _ _ (.refl _) (.cons _ _ _ _ _ (.refl _) (.cons _ _ _ _ _ (.refl _) (.cons _ _ _ _ _ (.dead _) (.cons _ _ _ _ _ (.dead _) (.cons _ _ _ _ _ (.refl _) (.cons _ _ _ _ _ (.refl _) (.cons _ _ _ _ _ (.refl _) (.cons _ _ _ _ _ (.refl _) (.cons _ _ _ _ _ (.dead _) (.cons _ _ _ _ _ (.dead _) .nil))))))))))))) (OLe.refl _)).trans (cmpS_ok (st' := ⟨[], [(0, .v (.lst false n697 c698)), (1, .v (.lst false n700 c701)), (2, .dead), (3, .ptr 4 0), (6, .dead), (7, .dead), (8, .dead), (11, .dead), (15, .v (.lst false n700 c701)), (16, .v (.int .i64 ((n700 : Nat) : Int))), (17, .v (.int .i64 (IntKind.i64.wrap (x735 + 1)))), (18, .dead), (38, .dead)], [(0, .r [.fn 81 [.ptr 1 0, .ptr 2 0, .ptr 3 0, .v (.ipt [p689])]]), (1, .p [p757]), (2, .p [p758]), (3, .p [p759]), (4, .r [.fn 98 [.ptr 0 0, .ptr 4 0]])], 5, []⟩) (by kernel_rfl))) ⟨n, Nat.lt_succ_self n, _, _, _, _, h774, rfl⟩
          · refine W_sound tab_ok mixed 7 _ _ _ ?_
            simp -implicitDefEqProofs only [go_sem, ne_eq, not_false_eq_true, Nat.reduceBEq, Nat.reduceAdd, Nat.reduceSub, Nat.reduceMul, Nat.reduceLT, Nat.reduceLeDiff, Int.reduceLE, Int.reduceLT, Int.reduceToNat, Int.reduceBEq, Int.reduceBNe, Int.le_refl, Nat.le_refl, decide_true, decide_false, Int.cast_ofNat_Int, ↓reduceIte, h696, h699, h702, h739]
            repeat with_reducible refine And.intro (by first | kernel_rfl | decide) ?_
            obtain rfl := Option.some.inj h774
            exact cutQ _ ((Wk_le (.cons _ _ _ _ _ (.dead _) (.cons _ _ _ _ _ (.dead _) (.cons _ _ _ _ _ (.refl _) (.cons _ _ _ _ _ (.dead _) (.cons _ _ _ _ _ (.refl _) (.cons _ _ _ _ _ (.refl _) (.cons _ _ _ _ _ (.refl _) (.cons _ _ _ _ _ (.refl _) (.cons _ _ _ _ _ (.dead _) (.cons _ _ _ _ _ (.dead _) (.cons _ _ _ _ _ (.dead _) (.cons _ _ _ _ _ (.dead _) (.cons _ _ _ _ _ (.refl _) .nil))))))))))))) (OLe.refl _)).trans (cmpS_ok (st' := ⟨[], [(0, .dead), (1, .dead), (2, .dead), (3, .dead), (6, .dead), (7, .dead), (8, .dead), (11, .dead), (15, .dead), (16, .dead), (17, .dead), (18, .dead), (38, .dead)], [(0, .r [.fn 81 [.ptr 1 0, .ptr 2 0, .ptr 3 0, .v (.ipt [p689])]]), (1, .p [p736]), (2, .p [p737]), (3, .p [p738]), (4, .r [.fn 98 [.ptr 0 0, .ptr 4 0]])], 5, []⟩) (by kernel_rfl))) ⟨_, _, _, rfl, rfl⟩
      · rintro _ ⟨p764, p765, p766, rfl, rfl⟩
        (try dsimp only at h775)
        refine W_sound tab_ok mixed 6 _ _ _ ?_
        simp -implicitDefEqProofs only [go_sem, ne_eq, not_false_eq_true, Nat.reduceBEq, Nat.reduceAdd, Nat.reduceSub, Nat.reduceMul, Nat.reduceLT, Nat.reduceLeDiff, Int.reduceLE, Int.reduceLT, Int.reduceToNat, Int.reduceBEq, Int.reduceBNe, Int.le_refl, Nat.le_refl, decide_true, decide_false, Int.cast_ofNat_Int, ↓reduceIte, h696, h699, h702]
        repeat with_reducible refine And.intro (by first | kernel_rfl | decide) ?_
        simp only [Option.some.injEq, Prod.mk.injEq] at h775; obtain ⟨rfl, rfl, rfl, rfl⟩ := h775
        exact finD (e2 := [(0, .dead), (1, .dead), (2, .dead), (3, .dead), (6, .v (.bool false)), (7, .dead), (8, .dead), (11, .dead), (15, .dead), (16, .dead), (17, .dead), (18, .dead), (38, .dead)]) (ob2 := [(0, .r [.fn 81 [.ptr 1 0, .ptr 2 0, .ptr 3 0, .v (.ipt [p689])]]), (1, .p [p764]), (2, .p [p765]), (3, .p [p766]), (4, .r [.fn 98 [.ptr 0 0, .ptr 4 0]])]) (st' := ⟨[], [(0, .dead), (1, .dead), (2, .dead), (3, .dead), (6, .v (.bool false)), (7, .dead), (8, .dead), (11, .dead), (15, .dead), (16, .dead), (17, .dead), (18, .dead), (38, .dead)], [(0, .r [.fn 81 [.ptr 1 0, .ptr 2 0, .ptr 3 0, .v (.ipt [p689])]]), (1, .p [p764]), (2, .p [p765]), (3, .p [p766]), (4, .r [.fn 98 [.ptr 0 0, .ptr 4 0]])], 5, []⟩) (.cons _ _ _ _ _ (.refl _) (.cons _ _ _ _ _ (.refl _) (.cons _ _ _ _ _ (.refl _) (.cons _ _ _ _ _ (.refl _) (.cons _ _ _ _ _ (.refl _) (.cons _ _ _ _ _ (.refl _) (.cons _ _ _ _ _ (.refl _) (.cons _ _ _ _ _ (.refl _) (.cons _ _ _ _ _ (.refl _) (.cons _ _ _ _ _ (.refl _) (.cons _ _ _ _ _ (.refl _) (.cons _ _ _ _ _ (.refl _) (.cons _ _ _ _ _ (.refl _) .nil))))))))))))) (.cons _ _ _ _ _ (DLes.refl _) (.cons _ _ _ _ _ (DLes.refl _) (.cons _ _ _ _ _ (DLes.refl _) (.cons _ _ _ _ _ (DLes.refl _) (.cons _ _ _ _ _ (DLes.refl _) .nil))))) (by kernel_rfl) (by simp only [go_sem, ne_eq, not_false_eq_true, Nat.reduceBEq, Nat.reduceAdd, Nat.reduceSub, Nat.reduceMul, Nat.reduceLT, Nat.reduceLeDiff, Int.reduceLE, Int.reduceLT, Int.reduceToNat, Int.reduceBEq, Int.reduceBNe, Int.le_refl, Nat.le_refl, decide_true, decide_false, Int.cast_ofNat_Int, ↓reduceIte, resQ_tmp, resQ_cell, resQ_nil, retD_one, retD_two, retD_three, retD_none]; try simp [R.val, retD_one, retD_two, retD_three, retD_none])

def m98_2_L0 (N : Nat) (p816 : PV) (n824 : Nat) (c825 : List PV) : Nat → Int → PV → PV → PV → Option (((PV × PV × PV × PV) ⊕ (PV × PV × PV)))
  | 0, _, _, _, _ => none
  | n + 1, x855, p856, p857, p858 =>
    brn (decide (x855 < ((n824 : Nat) : Int))) (
      grd (0 ≤ x855 ∧ x855 < ((n824 : Nat) : Int)) <|
      grd (0 < List.length (List.drop (Int.toNat x855) c825)) <|
      getI .i64 (gp c825 (Int.toNat x855)) fun x864 =>
      bnd' (m53 N (.lst false n824 c825)) fun (n865, c866) =>
      bnd' (m99 N n865 x855 (IntKind.i64.wrap (x855 + 1)) c866) fun (n868, c869) =>
      bnd' (m98_3 N N (.lst false 1 [(.int .i64 x864)]) (.lst false n868 (List.take n868 c869)) p816 p856 p857 p858) fun (p871, p873, p874, p875) =>
      getB p871 fun b877 =>
      brn b877 (
        some (.inl ((.bool true), p873, p874, p875))) (
        m98_2_L0 N p816 n824 c825 n (IntKind.i64.wrap (x855 + 1)) p873 p874 p875)) (
      some (.inr (p856, p857, p858)))
def m98_2 (N : Nat) (p815 : PV) (p816 : PV) (p817 : PV) (p818 : PV) (p819 : PV) : Option ((PV × PV × PV × PV)) :=
  getL p815 fun n824 c825 =>
  brn (((n824 : Nat) : Int) == 0) (
    bnd' (m81 N p816 p817 p818 p819) fun (p827, p829, p830, p831) =>
    getB p827 fun b833 =>
    some ((.bool b833), p829, p830, p831)) (
    bnd' (m98_2_L0 N p816 n824 c825 N 0 p817 p818 p819) fun o =>
    match o with
    | .inl p879 =>
      some p879
    | .inr (p880, p881, p882) =>
      some ((.bool false), p880, p881, p882))
theorem c98_2 (N : Nat) (p815 : PV) (p816 : PV) (p817 : PV) (p818 : PV) (p819 : PV) (r : PV) (p886 : PV) (p887 : PV) (p888 : PV) (h : m98_2 N p815 p816 p817 p818 p819 = some (r, p886, p887, p888)) : V.Fn Try.prog 98 5 [.v .nl, .v p815, .ptr 0 0, .ptr 4 0] [(0, .r [.fn 81 [.ptr 1 0, .ptr 2 0, .ptr 3 0, .v (.ipt [p816])]]), (1, .p [p817]), (2, .p [p818]), (3, .p [p819]), (4, .r [.fn 98 [.ptr 0 0, .ptr 4 0]])] (fun d ob' => d = .v r ∧ ob' = [(0, .r [.fn 81 [.ptr 1 0, .ptr 2 0, .ptr 3 0, .v (.ipt [p816])]]), (1, .p [p886]), (2, .p [p887]), (3, .p [p888]), (4, .r [.fn 98 [.ptr 0 0, .ptr 4 0]])]) := by
  unfold m98_2 at h
  refine Fn_of (sz := 40) tab_ok [0, 1, 2, 3, 6, 7, 8, 11, 15, 16, 17, 18, 38] [.tmp 6] Try.func98 rfl rfl rfl (by simp) ?_
  simp only [initSt, initEnv, List.map_cons, List.map_nil, List.getD_cons_zero, List.getD_cons_succ, List.getD_nil]
  have hh := getL_some h; clear h; obtain ⟨n824, c825, h823, h⟩ := hh
  have hh := brn_some h; clear h; rcases hh with ⟨h826, h⟩ | ⟨h826, h⟩
  · have hh := bnd'_some h; clear h; obtain ⟨⟨p827, p829, p830, p831⟩, h828, h⟩ := hh
    (try dsimp only at h)
    refine W_sound tab_ok mixed 16 _ _ _ ?_
    simp -implicitDefEqProofs only [go_sem, ne_eq, not_false_eq_true, Nat.reduceBEq, Nat.reduceAdd, Nat.reduceSub, Nat.reduceMul, Nat.reduceLT, Nat.reduceLeDiff, Int.reduceLE, Int.reduceLT, Int.reduceToNat, Int.reduceBEq, Int.reduceBNe, Int.le_refl, Nat.le_refl, decide_true, decide_false, Int.cast_ofNat_Int, ↓reduceIte, h823, h826]
    repeat with_reducible refine And.intro (by first | kernel_rfl | decide) ?_
    refine Wp_callD [1, 2, 3] (c81 N _ _ _ _ _ _ _ _ h828) rfl rfl rfl (by first | rfl | (simp only [go_sem, ne_eq, not_false_eq_true, Nat.reduceBEq, Nat.reduceAdd, Nat.reduceSub, Nat.reduceMul, Nat.reduceLT, Nat.reduceLeDiff, Int.reduceLE, Int.reduceLT, Int.reduceToNat, Int.reduceBEq, Int.reduceBNe, Int.le_refl, Nat.le_refl, decide_true, decide_false, Int.cast_ofNat_Int, ↓reduceIte, h823, h826] <;> rfl)) rfl (by kernel_rfl) ?_
    have hh := getB_some h; clear h; obtain ⟨b833, h832, h⟩ := hh
    refine W_sound tab_ok mixed 4 _ _ _ ?_
    simp -implicitDefEqProofs only [go_sem, ne_eq, not_false_eq_true, Nat.reduceBEq, Nat.reduceAdd, Nat.reduceSub, Nat.reduceMul, Nat.reduceLT, Nat.reduceLeDiff, Int.reduceLE, Int.reduceLT, Int.reduceToNat, Int.reduceBEq, Int.reduceBNe, Int.le_refl, Nat.le_refl, decide_true, decide_false, Int.cast_ofNat_Int, ↓reduceIte, h823, h826, h832]
    repeat with_reducible refine And.intro (by first | kernel_rfl | decide) ?_
    simp only [Option.some.injEq, Prod.mk.injEq] at h; obtain ⟨rfl, rfl, rfl, rfl⟩ := h
    exact finD (e2 := [(0, .dead), (1, .dead), (2, .dead), (3, .dead), (6, .v (.bool b833)), (7, .dead), (8, .dead), (11, .dead), (15, .dead), (16, .dead), (17, .dead), (18, .dead), (38, .dead)]) (ob2 := [(0, .r [.fn 81 [.ptr 1 0, .ptr 2 0, .ptr 3 0, .v (.ipt [p816])]]), (4, .r [.fn 98 [.ptr 0 0, .ptr 4 0]]), (3, .p [p831]), (2, .p [p830]), (1, .p [p829])]) (st' := ⟨[], [(0, .dead), (1, .dead), (2, .dead), (3, .dead), (6, .v (.bool b833)), (7, .dead), (8, .dead), (11, .dead), (15, .dead), (16, .dead), (17, .dead), (18, .dead), (38, .dead)], [(0, .r [.fn 81 [.ptr 1 0, .ptr 2 0, .ptr 3 0, .v (.ipt [p816])]]), (1, .p [p829]), (2, .p [p830]), (3, .p [p831]), (4, .r [.fn 98 [.ptr 0 0, .ptr 4 0]])], 5, []⟩) (.cons _ _ _ _ _ (.dead _) (.cons _ _ _ _ _ (.dead _) (.cons _ _ _ _ _ (.dead _) (.cons _ _ _ _ _ (.dead _) (.cons _ _ _ _ _ (.refl _) (.cons _ _ _ _ _ (.refl _) (.cons _ _ _ _ _ (.refl _) (.cons _ _ _ _ _ (.dead _) (.cons _ _ _ _ _ (.refl _) (.cons _ _ _ _ _ (.refl _) (.cons _ _ _ _ _ (.refl _) (.cons _ _ _ _ _ (.refl _) (.cons _ _ _ _ _ (.refl _) .nil))))))))))))) (.cons _ _ _ _ _ (DLes.refl _) (.cons _ _ _ _ _ (DLes.refl _) (.cons _ _ _ _ _ (DLes.refl _) (.cons _ _ _ _ _ (DLes.refl _) (.cons _ _ _ _ _ (DLes.refl _) .nil))))) (by kernel_rfl) (by simp only [go_sem, ne_eq, not_false_eq_true, Nat.reduceBEq, Nat.reduceAdd, Nat.reduceSub, Nat.reduceMul, Nat.reduceLT, Nat.reduceLeDiff, Int.reduceLE, Int.reduceLT, Int.reduceToNat, Int.reduceBEq, Int.reduceBNe, Int.le_refl, Nat.le_refl, decide_true, decide_false, Int.cast_ofNat_Int, ↓reduceIte, resQ_tmp, resQ_cell, resQ_nil, retD_one, retD_two, retD_three, retD_none]; try simp [R.val, retD_one, retD_two, retD_three, retD_none])
  · refine W_sound tab_ok mixed 20 _ _ _ ?_
    simp -implicitDefEqProofs only [go_sem, ne_eq, not_false_eq_true, Nat.reduceBEq, Nat.reduceAdd, Nat.reduceSub, Nat.reduceMul, Nat.reduceLT, Nat.reduceLeDiff, Int.reduceLE, Int.reduceLT, Int.reduceToNat, Int.reduceBEq, Int.reduceBNe, Int.le_refl, Nat.le_refl, decide_true, decide_false, Int.cast_ofNat_Int, ↓reduceIte, h823, h826]
    repeat with_reducible refine And.intro (by first | kernel_rfl | decide) ?_
    have hh := bnd'_some h; clear h; obtain ⟨o889, h890, h891⟩ := hh
    refine Wp_cut (fun s => ∃ p880, ∃ p881, ∃ p882, (.inr (p880, p881, p882)) = o889 ∧ s = ⟨[], [(0, .dead), (1, .dead), (2, .dead), (3, .dead), (6, .dead), (7, .dead), (8, .dead), (11, .dead), (15, .dead), (16, .dead), (17, .dead), (18, .dead), (38, .dead)], [(0, .r [.fn 81 [.ptr 1 0, .ptr 2 0, .ptr 3 0, .v (.ipt [p816])]]), (1, .p [p880]), (2, .p [p881]), (3, .p [p882]), (4, .r [.fn 98 [.ptr 0 0, .ptr 4 0]])], 5, []⟩) ?_ ?_
    · refine Wp_block ?_
      refine Wp_loopG (fun n s => ∃ x855, ∃ p856, ∃ p857, ∃ p858, m98_2_L0 N p816 n824 c825 n x855 p856 p857 p858 = some o889 ∧ s = ⟨[], [(0, .v .nl), (1, .v (.lst false n824 c825)), (2, .dead), (3, .ptr 4 0), (6, .dead), (7, .dead), (8, .dead), (11, .dead), (15, .v (.lst false n824 c825)), (16, .v (.int .i64 ((n824 : Nat) : Int))), (17, .v (.int .i64 x855)), (18, .dead), (38, .dead)], [(0, .r [.fn 81 [.ptr 1 0, .ptr 2 0, .ptr 3 0, .v (.ipt [p816])]]), (1, .p [p856]), (2, .p [p857]), (3, .p [p858]), (4, .r [.fn 98 [.ptr 0 0, .ptr 4 0]])], 5, []⟩) N _ ((Wk_le (.cons _ _ _ _ _ (.refl _) (.cons _ _ _ _ _ (.refl _) (.cons _ _ _ _ _ (.dead _) (.cons _ _ _ _ _ (.refl _) (.cons _ _ _ _ _ (.dead _) (.cons _ _ _ _ _ (.refl _) (.cons _ _ _ _ _ (.refl _) (.cons _ _ _ _ _ (.dead _) (.cons _ _ _ _ _ (.refl _) (.cons _ _ _ _ _ (.refl _) (.cons _ _ _ _ _ (.refl _) (.cons _ _ _ _ _ (.refl _) (.cons _ _ _ _ _ (.refl _) .nil))))))))))))) (OLe.refl _)).trans (cmpS_ok (st' := ⟨[], [(0, .v .nl), (1, .v (.lst false n824 c825)), (2, .dead), (3, .ptr 4 0), (6, .dead), (7, .dead), (8, .dead), (11, .dead), (15, .v (.lst false n824 c825)), (16, .v (.int .i64 ((n824 : Nat) : Int))), (17, .v (.int .i64 0)), (18, .dead), (38, .dead)], [(0, .r [.fn 81 [.ptr 1 0, .ptr 2 0, .ptr 3 0, .v (.ipt [p816])]]), (1, .p [p817]), (2, .p [p818]), (3, .p [p819]), (4, .r [.fn 98 [.ptr 0 0, .ptr 4 0]])], 5, []⟩) (by kernel_rfl))) ⟨_, _, _, _, h890, rfl⟩ ?_
      clear h890
      rintro n _ ⟨x855, p856, p857, p858, h890, rfl⟩
      cases n with
      | zero => cases h890
      | succ n =>
        rw [m98_2_L0] at h890
        have hh := brn_some h890; clear h890; rcases hh with ⟨h859, h890⟩ | ⟨h859, h890⟩
        · have hh := grd_some h890; clear h890; obtain ⟨⟨g860, g861⟩, h890⟩ := hh
          have hh := grd_some h890; clear h890; obtain ⟨g862, h890⟩ := hh
          have hh := getI_some h890; clear h890; obtain ⟨x864, h863, h890⟩ := hh
          have hh := bnd'_some h890; clear h890; obtain ⟨⟨n865, c866⟩, h867, h890⟩ := hh
          (try dsimp only at h890)
          refine W_sound tab_ok mixed 30 _ _ _ ?_
          simp -implicitDefEqProofs only [go_sem, ne_eq, not_false_eq_true, Nat.reduceBEq, Nat.reduceAdd, Nat.reduceSub, Nat.reduceMul, Nat.reduceLT, Nat.reduceLeDiff, Int.reduceLE, Int.reduceLT, Int.reduceToNat, Int.reduceBEq, Int.reduceBNe, Int.le_refl, Nat.le_refl, decide_true, decide_false, Int.cast_ofNat_Int, ↓reduceIte, h823, h826, h859, g860, g861, g862, h863]
          repeat with_reducible refine And.intro (by first | kernel_rfl | decide) ?_
          refine Wp_callD [] (c53 N _ _ _ h867) rfl rfl rfl (by first | rfl | (simp only [go_sem, ne_eq, not_false_eq_true, Nat.reduceBEq, Nat.reduceAdd, Nat.reduceSub, Nat.reduceMul, Nat.reduceLT, Nat.reduceLeDiff, Int.reduceLE, Int.reduceLT, Int.reduceToNat, Int.reduceBEq, Int.reduceBNe, Int.le_refl, Nat.le_refl, decide_true, decide_false, Int.cast_ofNat_Int, ↓reduceIte, h823, h826, h859, g860, g861, g862, h863] <;> rfl)) rfl (by kernel_rfl) ?_
          have hh := bnd'_some h890; clear h890; obtain ⟨⟨n868, c869⟩, h870, h890⟩ := hh
          (try dsimp only at h890)
          refine W_sound tab_ok mixed 3 _ _ _ ?_
          simp -implicitDefEqProofs only [go_sem, ne_eq, not_false_eq_true, Nat.reduceBEq, Nat.reduceAdd, Nat.reduceSub, Nat.reduceMul, Nat.reduceLT, Nat.reduceLeDiff, Int.reduceLE, Int.reduceLT, Int.reduceToNat, Int.reduceBEq, Int.reduceBNe, Int.le_refl, Nat.le_refl, decide_true, decide_false, Int.cast_ofNat_Int, ↓reduceIte, h823, h826, h859, g860, g861, g862, h863]
          repeat with_reducible refine And.intro (by first | kernel_rfl | decide) ?_
          refine Wp_callD [38] (c99 N _ _ _ _ _ _ h870) rfl rfl rfl (by first | rfl | (simp only [go_sem, ne_eq, not_false_eq_true, Nat.reduceBEq, Nat.reduceAdd, Nat.reduceSub, Nat.reduceMul, Nat.reduceLT, Nat.reduceLeDiff, Int.reduceLE, Int.reduceLT, Int.reduceToNat, Int.reduceBEq, Int.reduceBNe, Int.le_refl, Nat.le_refl, decide_true, decide_false, Int.cast_ofNat_Int, ↓reduceIte, h823, h826, h859, g860, g861, g862, h863] <;> rfl)) rfl (by kernel_rfl) ?_
          have hh := bnd'_some h890; clear h890; obtain ⟨⟨p871, p873, p874, p875⟩, h872, h890⟩ := hh
          (try dsimp only at h890)
          (try simp -implicitDefEqProofs only [go_sem, ne_eq, not_false_eq_true, Nat.reduceBEq, Nat.reduceAdd, Nat.reduceSub, Nat.reduceMul, Nat.reduceLT, Nat.reduceLeDiff, Int.reduceLE, Int.reduceLT, Int.reduceToNat, Int.reduceBEq, Int.reduceBNe, Int.le_refl, Nat.le_refl, decide_true, decide_false, Int.cast_ofNat_Int, ↓reduceIte, h823, h826, h859, g860, g861, g862, h863])
          refine Wp_callDF [(36, [(.int .i64 x864)]), (38, c869)] [0, 1, 2, 3, 4] (c98_3 N N _ _ _ _ _ _ _ _ _ _ h872) rfl rfl rfl (by first | rfl | (simp only [go_sem, ne_eq, not_false_eq_true, Nat.reduceBEq, Nat.reduceAdd, Nat.reduceSub, Nat.reduceMul, Nat.reduceLT, Nat.reduceLeDiff, Int.reduceLE, Int.reduceLT, Int.reduceToNat, Int.reduceBEq, Int.reduceBNe, Int.le_refl, Nat.le_refl, decide_true, decide_false, Int.cast_ofNat_Int, ↓reduceIte, h823, h826, h859, g860, g861, g862, h863] <;> rfl)) rfl (by kernel_rfl) rfl rfl (by simp [roF, obL]) ?_
          have hh := getB_some h890; clear h890; obtain ⟨b877, h876, h890⟩ := hh
          have hh := brn_some h890; clear h890; rcases hh with ⟨h878, h890⟩ | ⟨h878, h890⟩
          · refine W_sound tab_ok mixed 8 _ _ _ ?_
            simp -implicitDefEqProofs only [go_sem, ne_eq, not_false_eq_true, Nat.reduceBEq, Nat.reduceAdd, Nat.reduceSub, Nat.reduceMul, Nat.reduceLT, Nat.reduceLeDiff, Int.reduceLE, Int.reduceLT, Int.reduceToNat, Int.reduceBEq, Int.reduceBNe, Int.le_refl, Nat.le_refl, decide_true, decide_false, Int.cast_ofNat_Int, ↓reduceIte, h823, h826, h859, g860, g861, g862, h863, h876, h878]
            repeat with_reducible refine And.intro (by first | kernel_rfl | decide) ?_
            obtain rfl := Option.some.inj h890
            (try dsimp only at h891)
            simp only [Option.some.injEq, Prod.mk.injEq] at h891; obtain ⟨rfl, rfl, rfl, rfl⟩ := h891
            exact finD (e2 := [(0, .dead), (1, .dead), (2, .dead), (3, .dead), (6, .v (.bool true)), (7, .dead), (8, .dead), (11, .dead), (15, .dead), (16, .dead), (17, .dead), (18, .dead), (38, .dead)]) (ob2 := [(35, .p [(.int .i64 x864)]), (4, .r [.fn 98 [.ptr 0 0, .ptr 4 0]]), (3, .p [p875]), (2, .p [p874]), (1, .p [p873]), (0, .r [.fn 81 [.ptr 1 0, .ptr 2 0, .ptr 3 0, .v (.ipt [p816])]])]) (st' := ⟨[], [(0, .dead), (1, .dead), (2, .dead), (3, .dead), (6, .v (.bool true)), (7, .dead), (8, .dead), (11, .dead), (15, .dead), (16, .dead), (17, .dead), (18, .dead), (38, .dead)], [(0, .r [.fn 81 [.ptr 1 0, .ptr 2 0, .ptr 3 0, .v (.ipt [p816])]]), (1, .p [p873]), (2, .p [p874]), (3, .p [p875]), (4, .r [.fn 98 [.ptr 0 0, .ptr 4 0]])], 5, []⟩) (.cons _ _ _ _ _ (.dead _) (.cons _ _ _ _ _ (.dead _) (.cons _ _ _ _ _ (.refl _) (.cons _ _ _ _ _ (.dead _) (.cons _ _ _ _ _ (.refl _) (.cons _ _ _ _ _ (.dead _) (.cons _ _ _ _ _ (.dead _) (.cons _ _ _ _ _ (.refl _) (.cons _ _ _ _ _ (.dead _) (.cons _ _ _ _ _ (.dead _) (.cons _ _ _ _ _ (.dead _) (.cons _ _ _ _ _ (.dead _) (.cons _ _ _ _ _ (.dead _) .nil))))))))))))) (.cons _ _ _ _ _ (DLes.refl _) (.cons _ _ _ _ _ (DLes.refl _) (.cons _ _ _ _ _ (DLes.refl _) (.cons _ _ _ _ _ (DLes.refl _) (.cons _ _ _ _ _ (DLes.refl _) (.cons _ _ _ _ _ (DLes.refl _) .nil)))))) (by kernel_rfl) (by simp only [go_sem, ne_eq, not_false_eq_true, Nat.reduceBEq, Nat.reduceAdd, Nat.reduceSub, Nat.reduceMul, Nat.reduceLT, Nat.reduceLeDiff, Int.reduceLE, Int.reduceLT, Int.reduceToNat, Int.reduceBEq, Int.reduceBNe, Int.le_refl, Nat.le_refl, decide_true, decide_false, Int.cast_ofNat_Int, ↓reduceIte, resQ_tmp, resQ_cell, resQ_nil, retD_one, retD_two, retD_three, retD_none]; try simp [R.val, retD_one, retD_two, retD_three, retD_none])
          · refine W_sound tab_ok mixed 8 _ _ _ ?_
            simp -implicitDefEqProofs only [go_sem, ne_eq, not_false_eq_true, Nat.reduceBEq, Nat.reduceAdd, Nat.reduceSub, Nat.reduceMul, Nat.reduceLT, Nat.reduceLeDiff, Int.reduceLE, Int.reduceLT, Int.reduceToNat, Int.reduceBEq, Int.reduceBNe, Int.le_refl, Nat.le_refl, decide_true, decide_false, Int.cast_ofNat_Int, ↓reduceIte, h823, h826, h859, g860, g861, g862, h863, h876, h878]
            repeat with_reducible refine And.intro (by first | kernel_rfl | decide) ?_
            exact cutQ _ ((Wk_le (.cons _ _ _ _ _ (.refl _) (.cons _ _ _ _ _ (.refl _) (.cons _ _ _ _ _ (.refl _) (.cons _ _ _ _ _ (.refl _) (.cons _ _ _ _ _ (.refl _) (.cons _ _ _ _ _ (.dead _) (.cons _ _ _ _ _ (.dead _) (.cons _ _ _ _ _ (.refl _) (.cons _ _ _ _ _ (.refl _) (.cons _ _ _ _ _ (.refl _) (.cons _ _ _ _ _ (.refl _) (.cons _ _ _ _ _ (.dead _) (.cons _ _ _ _ _ (.dead _) .nil))))))))))))) (OLe.refl _)).trans (cmpS_ok (st' := ⟨[], [(0, .v .nl), (1, .v (.lst false n824 c825)), (2, .dead), (3, .ptr 4 0), (6, .dead), (7, .dead), (8, .dead), (11, .dead), (15, .v (.lst false n824 c825)), (16, .v (.int .i64 ((n824 : Nat) : Int))), (17, .v (.int .i64 (IntKind.i64.wrap (x855 + 1)))), (18, .dead), (38, .dead)], [(0, .r [.fn 81 [.ptr 1 0, .ptr 2 0, .ptr 3 0, .v (.ipt [p816])]]), (1, .p [p873]), (2, .p [p874]), (3, .p [p875]), (4, .r [.fn 98 [.ptr 0 0, .ptr 4 0]])], 5, []⟩) (by kernel_rfl))) ⟨n, Nat.lt_succ_self n, _, _, _, _, h890, rfl⟩
        · refine W_sound tab_ok mixed 7 _ _ _ ?_
          simp -implicitDefEqProofs only [go_sem, ne_eq, not_false_eq_true, Nat.reduceBEq, Nat.reduceAdd, Nat.reduceSub, Nat.reduceMul, Nat.reduceLT, Nat.reduceLeDiff, Int.reduceLE, Int.reduceLT, Int.reduceToNat, Int.reduceBEq, Int.reduceBNe, Int.le_refl, Nat.le_refl, decide_true, decide_false, Int.cast_ofNat_Int, ↓reduceIte, h823, h826, h859]
          repeat with_reducible refine And.intro (by first | kernel_rfl | decide) ?_
          obtain rfl := Option.some.inj h890
          exact cutQ _ ((Wk_le (.cons _ _ _ _ _ (.dead _) (.cons _ _ _ _ _ (.dead _) (.cons _ _ _ _ _ (.refl _) (.cons _ _ _ _ _ (.dead _) (.cons _ _ _ _ _ (.refl _) (.cons _ _ _ _ _ (.refl _) (.cons _ _ _ _ _ (.refl _) (.cons _ _ _ _ _ (.refl _) (.cons _ _ _ _ _ (.dead _) (.cons _ _ _ _ _ (.dead _) (.cons _ _ _ _ _ (.dead _) (.cons _ _ _ _ _ (.dead _) (.cons _ _ _ _ _ (.refl _) .nil))))))))))))) (OLe.refl _)).trans (cmpS_ok (st' := ⟨[], [(0, .dead), (1, .dead), (2, .dead), (3, .dead), (6, .dead), (7, .dead), (8, .dead), (11, .dead), (15, .dead), (16, .dead), (17, .dead), (18, .dead), (38, .dead)], [(0, .r [.fn 81 [.ptr 1 0, .ptr 2 0, .ptr 3 0, .v (.ipt [p816])]]), (1, .p [p856]), (2, .p [p857]), (3, .p [p858]), (4, .r [.fn 98 [.ptr 0 0, .ptr 4 0]])], 5, []⟩) (by kernel_rfl))) ⟨_, _, _, rfl, rfl⟩
    · rintro _ ⟨p880, p881, p882, rfl, rfl⟩
      (try dsimp only at h891)
      refine W_sound tab_ok mixed 6 _ _ _ ?_
      simp -implicitDefEqProofs only [go_sem, ne_eq, not_false_eq_true, Nat.reduceBEq, Nat.reduceAdd, Nat.reduceSub, Nat.reduceMul, Nat.reduceLT, Nat.reduceLeDiff, Int.reduceLE, Int.reduceLT, Int.reduceToNat, Int.reduceBEq, Int.reduceBNe, Int.le_refl, Nat.le_refl, decide_true, decide_false, Int.cast_ofNat_Int, ↓reduceIte, h823, h826]
      repeat with_reducible refine And.intro (by first | kernel_rfl | decide) ?_
      simp only [Option.some.injEq, Prod.mk.injEq] at h891; obtain ⟨rfl, rfl, rfl, rfl⟩ := h891
      exact finD (e2 := [(0, .dead), (1, .dead), (2, .dead), (3, .dead), (6, .v (.bool false)), (7, .dead), (8, .dead), (11, .dead), (15, .dead), (16, .dead), (17, .dead), (18, .dead), (38, .dead)]) (ob2 := [(0, .r [.fn 81 [.ptr 1 0, .ptr 2 0, .ptr 3 0, .v (.ipt [p816])]]), (1, .p [p880]), (2, .p [p881]), (3, .p [p882]), (4, .r [.fn 98 [.ptr 0 0, .ptr 4 0]])]) (st' := ⟨[], [(0, .dead), (1, .dead), (2, .dead), (3, .dead), (6, .v (.bool false)), (7, .dead), (8, .dead), (11, .dead), (15, .dead), (16, .dead), (17, .dead), (18, .dead), (38, .dead)], [(0, .r [.fn 81 [.ptr 1 0, .ptr 2 0, .ptr 3 0, .v (.ipt [p816])]]), (1, .p [p880]), (2, .p [p881]), (3, .p [p882]), (4, .r [.fn 98 [.ptr 0 0, .ptr 4 0]])], 5, []⟩) (.cons _ _ _ _ _ (.refl _) (.cons _ _ _ _ _ (.refl _) (.cons _ _ _ _ _ (.refl _) (.cons _ _ _ _ _ (.refl _) (.cons _ _ _ _ _ (.refl _) (.cons _ _ _ _ _ (.refl _) (.cons _ _ _ _ _ (.refl _) (.cons _ _ _ _ _ (.refl _) (.cons _ _ _ _ _ (.refl _) (.cons _ _ _ _ _ (.refl _) (.cons _ _ _ _ _ (.refl _) (.cons _ _ _ _ _ (.refl _) (.cons _ _ _ _ _ (.refl _) .nil))))))))))))) (.cons _ _ _ _ _ (DLes.refl _) (.cons _ _ _ _ _ (DLes.refl _) (.cons _ _ _ _ _ (DLes.refl _) (.cons _ _ _ _ _ (DLes.refl _) (.cons _ _ _ _ _ (DLes.refl _) .nil))))) (by kernel_rfl) (by simp only [go_sem, ne_eq, not_false_eq_true, Nat.reduceBEq, Nat.reduceAdd, Nat.reduceSub, Nat.reduceMul, Nat.reduceLT, Nat.reduceLeDiff, Int.reduceLE, Int.reduceLT, Int.reduceToNat, Int.reduceBEq, Int.reduceBNe, Int.le_refl, Nat.le_refl, decide_true, decide_false, Int.cast_ofNat_Int, ↓reduceIte, resQ_tmp, resQ_cell, resQ_nil, retD_one, retD_two, retD_three, retD_none]; try simp [R.val, retD_one, retD_two, retD_three, retD_none])

def m79_2 (N : Nat) (x902 : Int) (p903 : PV) (p904 : PV) (p905 : PV) (p906 : PV) : Option ((PV × PV × PV × PV)) :=
  bnd' (m77 N x902) fun p910 =>
  getL p910 fun n913 c914 =>
  bnd' (m98_2 N (.lst false n913 c914) p903 p904 p905 p906) fun (p915, p917, p918, p919) =>
  getB p915 fun b921 =>
  some ((.bool b921), p917, p918, p919)
theorem c79_2 (N : Nat) (x902 : Int) (p903 : PV) (p904 : PV) (p905 : PV) (p906 : PV) (r : PV) (p925 : PV) (p926 : PV) (p927 : PV) (h : m79_2 N x902 p903 p904 p905 p906 = some (r, p925, p926, p927)) : V.Fn Try.prog 79 3 [.v (.int .i64 x902), .fn 81 [.ptr 0 0, .ptr 1 0, .ptr 2 0, .v (.ipt [p903])]] [(0, .p [p904]), (1, .p [p905]), (2, .p [p906])] (fun d ob' => d = .v r ∧ ob' = [(0, .p [p925]), (1, .p [p926]), (2, .p [p927])]) := by
  unfold m79_2 at h
  refine Fn_of (sz := 11) tab_ok [0, 1, 3, 4, 5] [.tmp 4] Try.func79 rfl rfl rfl (by simp) ?_
  simp only [initSt, initEnv, List.map_cons, List.map_nil, List.getD_cons_zero, List.getD_cons_succ, List.getD_nil]
  have hh := bnd'_some h; clear h; obtain ⟨p910, h911, h⟩ := hh
  refine W_sound tab_ok mixed 18 _ _ _ ?_
  simp -implicitDefEqProofs only [go_sem, ne_eq, not_false_eq_true, Nat.reduceBEq, Nat.reduceAdd, Nat.reduceSub, Nat.reduceMul, Nat.reduceLT, Nat.reduceLeDiff, Int.reduceLE, Int.reduceLT, Int.reduceToNat, Int.reduceBEq, Int.reduceBNe, Int.le_refl, Nat.le_refl, decide_true, decide_false, Int.cast_ofNat_Int, ↓reduceIte]
  repeat with_reducible refine And.intro (by first | kernel_rfl | decide) ?_
  refine Wp_callP (c77 N _ _ h911) (by kernel_rfl) rfl rfl rfl rfl (by decide) ?_
  have hh := getL_some h; clear h; obtain ⟨n913, c914, h912, h⟩ := hh
  have hh := bnd'_some h; clear h; obtain ⟨⟨p915, p917, p918, p919⟩, h916, h⟩ := hh
  (try dsimp only at h)
  (try simp -implicitDefEqProofs only [go_sem, ne_eq, not_false_eq_true, Nat.reduceBEq, Nat.reduceAdd, Nat.reduceSub, Nat.reduceMul, Nat.reduceLT, Nat.reduceLeDiff, Int.reduceLE, Int.reduceLT, Int.reduceToNat, Int.reduceBEq, Int.reduceBNe, Int.le_refl, Nat.le_refl, decide_true, decide_false, Int.cast_ofNat_Int, ↓reduceIte, h912])
  refine Wp_callD [6, 0, 1, 2, 12] (c98_2 N _ _ _ _ _ _ _ _ _ h916) rfl rfl rfl (by first | rfl | (simp only [go_sem, ne_eq, not_false_eq_true, Nat.reduceBEq, Nat.reduceAdd, Nat.reduceSub, Nat.reduceMul, Nat.reduceLT, Nat.reduceLeDiff, Int.reduceLE, Int.reduceLT, Int.reduceToNat, Int.reduceBEq, Int.reduceBNe, Int.le_refl, Nat.le_refl, decide_true, decide_false, Int.cast_ofNat_Int, ↓reduceIte, h912] <;> rfl)) rfl (by kernel_rfl) ?_
  have hh := getB_some h; clear h; obtain ⟨b921, h920, h⟩ := hh
  refine W_sound tab_ok mixed 4 _ _ _ ?_
  simp -implicitDefEqProofs only [go_sem, ne_eq, not_false_eq_true, Nat.reduceBEq, Nat.reduceAdd, Nat.reduceSub, Nat.reduceMul, Nat.reduceLT, Nat.reduceLeDiff, Int.reduceLE, Int.reduceLT, Int.reduceToNat, Int.reduceBEq, Int.reduceBNe, Int.le_refl, Nat.le_refl, decide_true, decide_false, Int.cast_ofNat_Int, ↓reduceIte, h912, h920]
  repeat with_reducible refine And.intro (by first | kernel_rfl | decide) ?_
  simp only [Option.some.injEq, Prod.mk.injEq] at h; obtain ⟨rfl, rfl, rfl, rfl⟩ := h
  exact finD (e2 := [(0, .dead), (1, .dead), (3, .dead), (4, .v (.bool b921)), (5, .dead)]) (ob2 := [(12, .r [.fn 98 [.ptr 6 0, .ptr 12 0]]), (2, .p [p919]), (1, .p [p918]), (0, .p [p917]), (6, .r [.fn 81 [.ptr 0 0, .ptr 1 0, .ptr 2 0, .v (.ipt [p903])]])]) (st' := ⟨[], [(0, .dead), (1, .dead), (3, .dead), (4, .v (.bool b921)), (5, .dead)], [(0, .p [p917]), (1, .p [p918]), (2, .p [p919])], 3, []⟩) (.cons _ _ _ _ _ (.dead _) (.cons _ _ _ _ _ (.dead _) (.cons _ _ _ _ _ (.dead _) (.cons _ _ _ _ _ (.refl _) (.cons _ _ _ _ _ (.dead _) .nil))))) (.cons _ _ _ _ _ (DLes.refl _) (.cons _ _ _ _ _ (DLes.refl _) (.cons _ _ _ _ _ (DLes.refl _) (.cons _ _ _ _ _ (DLes.refl _) (.cons _ _ _ _ _ (DLes.refl _) .nil))))) (by kernel_rfl) (by simp only [go_sem, ne_eq, not_false_eq_true, Nat.reduceBEq, Nat.reduceAdd, Nat.reduceSub, Nat.reduceMul, Nat.reduceLT, Nat.reduceLeDiff, Int.reduceLE, Int.reduceLT, Int.reduceToNat, Int.reduceBEq, Int.reduceBNe, Int.le_refl, Nat.le_refl, decide_true, decide_false, Int.cast_ofNat_Int, ↓reduceIte, resQ_tmp, resQ_cell, resQ_nil, retD_one, retD_two, retD_three, retD_none]; try simp [R.val, retD_one, retD_two, retD_three, retD_none])

def m80 (N : Nat) (p937 : PV) (p938 : PV) (p939 : PV) : Option ((PV × PV × PV)) :=
  getL p937 fun n943 c944 =>
  grd (0 < ((n943 : Nat) : Int)) <|
  grd (0 < List.length c944) <|
  getL (gp c944 0) fun n948 c949 =>
  bnd' (m79_2 N ((n948 : Nat) : Int) (.lst false n943 c944) .nl p938 p939) fun (p950, p952, p953, p954) =>
  getB p950 fun b956 =>
  some ((.bool b956), p953, p954)
theorem c80 (N : Nat) (p937 : PV) (p938 : PV) (p939 : PV) (r : PV) (p959 : PV) (p960 : PV) (h : m80 N p937 p938 p939 = some (r, p959, p960)) : V.Fn Try.prog 80 2 [.v .nl, .v (.ipt [p937]), .ptr 0 0, .ptr 1 0] [(0, .p [p938]), (1, .p [p939])] (fun d ob' => d = .v r ∧ ob' = [(0, .p [p959]), (1, .p [p960])]) := by
  unfold m80 at h
  refine Fn_of (sz := 12) tab_ok [0, 1, 2, 3, 4, 5] [.tmp 5] Try.func80 rfl rfl rfl (by simp) ?_
  simp only [initSt, initEnv, List.map_cons, List.map_nil, List.getD_cons_zero, List.getD_cons_succ, List.getD_nil]
  have hh := getL_some h; clear h; obtain ⟨n943, c944, h942, h⟩ := hh
  have hh := grd_some h; clear h; obtain ⟨g945, h⟩ := hh
  have hh := grd_some h; clear h; obtain ⟨g946, h⟩ := hh
  have hh := getL_some h; clear h; obtain ⟨n948, c949, h947, h⟩ := hh
  have hh := bnd'_some h; clear h; obtain ⟨⟨p950, p952, p953, p954⟩, h951, h⟩ := hh
  (try dsimp only at h)
  refine W_sound tab_ok mixed 12 _ _ _ ?_
  simp -implicitDefEqProofs only [go_sem, ne_eq, not_false_eq_true, Nat.reduceBEq, Nat.reduceAdd, Nat.reduceSub, Nat.reduceMul, Nat.reduceLT, Nat.reduceLeDiff, Int.reduceLE, Int.reduceLT, Int.reduceToNat, Int.reduceBEq, Int.reduceBNe, Int.le_refl, Nat.le_refl, decide_true, decide_false, Int.cast_ofNat_Int, ↓reduceIte, h942, g945, g946, h947]
  repeat with_reducible refine And.intro (by first | kernel_rfl | decide) ?_
  refine Wp_callD [6, 0, 1] (c79_2 N _ _ _ _ _ _ _ _ _ h951) rfl rfl rfl (by first | rfl | (simp only [go_sem, ne_eq, not_false_eq_true, Nat.reduceBEq, Nat.reduceAdd, Nat.reduceSub, Nat.reduceMul, Nat.reduceLT, Nat.reduceLeDiff, Int.reduceLE, Int.reduceLT, Int.reduceToNat, Int.reduceBEq, Int.reduceBNe, Int.le_refl, Nat.le_refl, decide_true, decide_false, Int.cast_ofNat_Int, ↓reduceIte, h942, g945, g946, h947] <;> rfl)) rfl (by kernel_rfl) ?_
  have hh := getB_some h; clear h; obtain ⟨b956, h955, h⟩ := hh
  refine W_sound tab_ok mixed 4 _ _ _ ?_
  simp -implicitDefEqProofs only [go_sem, ne_eq, not_false_eq_true, Nat.reduceBEq, Nat.reduceAdd, Nat.reduceSub, Nat.reduceMul, Nat.reduceLT, Nat.reduceLeDiff, Int.reduceLE, Int.reduceLT, Int.reduceToNat, Int.reduceBEq, Int.reduceBNe, Int.le_refl, Nat.le_refl, decide_true, decide_false, Int.cast_ofNat_Int, ↓reduceIte, h942, g945, g946, h947, h955]
  repeat with_reducible refine And.intro (by first | kernel_rfl | decide) ?_
  simp only [Option.some.injEq, Prod.mk.injEq] at h; obtain ⟨rfl, rfl, rfl⟩ := h
  exact finD (e2 := [(0, .dead), (1, .dead), (2, .dead), (3, .dead), (4, .dead), (5, .v (.bool b956))]) (ob2 := [(1, .p [p954]), (0, .p [p953]), (6, .p [p952])]) (st' := ⟨[], [(0, .dead), (1, .dead), (2, .dead), (3, .dead), (4, .dead), (5, .v (.bool b956))], [(0, .p [p953]), (1, .p [p954])], 2, []⟩) (.cons _ _ _ _ _ (.dead _) (.cons _ _ _ _ _ (.dead _) (.cons _ _ _ _ _ (.dead _) (.cons _ _ _ _ _ (.dead _) (.cons _ _ _ _ _ (.dead _) (.cons _ _ _ _ _ (.refl _) .nil)))))) (.cons _ _ _ _ _ (DLes.refl _) (.cons _ _ _ _ _ (DLes.refl _) (.cons _ _ _ _ _ (DLes.refl _) .nil))) (by kernel_rfl) (by simp only [go_sem, ne_eq, not_false_eq_true, Nat.reduceBEq, Nat.reduceAdd, Nat.reduceSub, Nat.reduceMul, Nat.reduceLT, Nat.reduceLeDiff, Int.reduceLE, Int.reduceLT, Int.reduceToNat, Int.reduceBEq, Int.reduceBNe, Int.le_refl, Nat.le_refl, decide_true, decide_false, Int.cast_ofNat_Int, ↓reduceIte, resQ_tmp, resQ_cell, resQ_nil, retD_one, retD_two, retD_three, retD_none]; try simp [R.val, retD_one, retD_two, retD_three, retD_none])

def m80_2 (N : Nat) (p1016 : PV) (p1017 : PV) (p1018 : PV) (p1019 : PV) : Option ((PV × PV × PV)) :=
  getL p1016 fun n1023 c1024 =>
  getL p1017 fun n1026 c1027 =>
  grd (0 < ((n1026 : Nat) : Int)) <|
  grd (0 < List.length c1027) <|
  getL (gp c1027 0) fun n1031 c1032 =>
  bnd' (m79_2 N ((n1031 : Nat) : Int) (.lst false n1026 c1027) (.lst false n1023 c1024) p1018 p1019) fun (p1033, p1035, p1036, p1037) =>
  getB p1033 fun b1039 =>
  some ((.bool b1039), p1036, p1037)
theorem c80_2 (N : Nat) (p1016 : PV) (p1017 : PV) (p1018 : PV) (p1019 : PV) (r : PV) (p1042 : PV) (p1043 : PV) (h : m80_2 N p1016 p1017 p1018 p1019 = some (r, p1042, p1043)) : V.Fn Try.prog 80 2 [.v p1016, .v (.ipt [p1017]), .ptr 0 0, .ptr 1 0] [(0, .p [p1018]), (1, .p [p1019])] (fun d ob' => d = .v r ∧ ob' = [(0, .p [p1042]), (1, .p [p1043])]) := by
  unfold m80_2 at h
  refine Fn_of (sz := 12) tab_ok [0, 1, 2, 3, 4, 5] [.tmp 5] Try.func80 rfl rfl rfl (by simp) ?_
  simp only [initSt, initEnv, List.map_cons, List.map_nil, List.getD_cons_zero, List.getD_cons_succ, List.getD_nil]
  have hh := getL_some h; clear h; obtain ⟨n1023, c1024, h1022, h⟩ := hh
  have hh := getL_some h; clear h; obtain ⟨n1026, c1027, h1025, h⟩ := hh
  have hh := grd_some h; clear h; obtain ⟨g1028, h⟩ := hh
  have hh := grd_some h; clear h; obtain ⟨g1029, h⟩ := hh
  have hh := getL_some h; clear h; obtain ⟨n1031, c1032, h1030, h⟩ := hh
  have hh := bnd'_some h; clear h; obtain ⟨⟨p1033, p1035, p1036, p1037⟩, h1034, h⟩ := hh
  (try dsimp only at h)
  refine W_sound tab_ok mixed 12 _ _ _ ?_
  simp -implicitDefEqProofs only [go_sem, ne_eq, not_false_eq_true, Nat.reduceBEq, Nat.reduceAdd, Nat.reduceSub, Nat.reduceMul, Nat.reduceLT, Nat.reduceLeDiff, Int.reduceLE, Int.reduceLT, Int.reduceToNat, Int.reduceBEq, Int.reduceBNe, Int.le_refl, Nat.le_refl, decide_true, decide_false, Int.cast_ofNat_Int, ↓reduceIte, h1022, h1025, g1028, g1029, h1030]
  repeat with_reducible refine And.intro (by first | kernel_rfl | decide) ?_
  refine Wp_callD [6, 0, 1] (c79_2 N _ _ _ _ _ _ _ _ _ h1034) rfl rfl rfl (by first | rfl | (simp only [go_sem, ne_eq, not_false_eq_true, Nat.reduceBEq, Nat.reduceAdd, Nat.reduceSub, Nat.reduceMul, Nat.reduceLT, Nat.reduceLeDiff, Int.reduceLE, Int.reduceLT, Int.reduceToNat, Int.reduceBEq, Int.reduceBNe, Int.le_refl, Nat.le_refl, decide_true, decide_false, Int.cast_ofNat_Int, ↓reduceIte, h1022, h1025, g1028, g1029, h1030] <;> rfl)) rfl (by kernel_rfl) ?_
  have hh := getB_some h; clear h; obtain ⟨b1039, h1038, h⟩ := hh
  refine W_sound tab_ok mixed 4 _ _ _ ?_
  simp -implicitDefEqProofs only [go_sem, ne_eq, not_false_eq_true, Nat.reduceBEq, Nat.reduceAdd, Nat.reduceSub, Nat.reduceMul, Nat.reduceLT, Nat.reduceLeDiff, Int.reduceLE, Int.reduceLT, Int.reduceToNat, Int.reduceBEq, Int.reduceBNe, Int.le_refl, Nat.le_refl, decide_true, decide_false, Int.cast_ofNat_Int, ↓reduceIte, h1022, h1025, g1028, g1029, h1030, h1038]
  repeat with_reducible refine And.intro (by first | kernel_rfl | decide) ?_
  simp only [Option.some.injEq, Prod.mk.injEq] at h; obtain ⟨rfl, rfl, rfl⟩ := h
  exact finD (e2 := [(0, .dead), (1, .dead), (2, .dead), (3, .dead), (4, .dead), (5, .v (.bool b1039))]) (ob2 := [(1, .p [p1037]), (0, .p [p1036]), (6, .p [p1035])]) (st' := ⟨[], [(0, .dead), (1, .dead), (2, .dead), (3, .dead), (4, .dead), (5, .v (.bool b1039))], [(0, .p [p1036]), (1, .p [p1037])], 2, []⟩) (.cons _ _ _ _ _ (.dead _) (.cons _ _ _ _ _ (.dead _) (.cons _ _ _ _ _ (.dead _) (.cons _ _ _ _ _ (.dead _) (.cons _ _ _ _ _ (.dead _) (.cons _ _ _ _ _ (.refl _) .nil)))))) (.cons _ _ _ _ _ (DLes.refl _) (.cons _ _ _ _ _ (DLes.refl _) (.cons _ _ _ _ _ (DLes.refl _) .nil))) (by kernel_rfl) (by simp only [go_sem, ne_eq, not_false_eq_true, Nat.reduceBEq, Nat.reduceAdd, Nat.reduceSub, Nat.reduceMul, Nat.reduceLT, Nat.reduceLeDiff, Int.reduceLE, Int.reduceLT, Int.reduceToNat, Int.reduceBEq, Int.reduceBNe, Int.le_refl, Nat.le_refl, decide_true, decide_false, Int.cast_ofNat_Int, ↓reduceIte, resQ_tmp, resQ_cell, resQ_nil, retD_one, retD_two, retD_three, retD_none]; try simp [R.val, retD_one, retD_two, retD_three, retD_none])

def m98_4_L0 (N : Nat) (rec : PV → PV → PV → PV → PV → Option ((PV × PV × PV))) (p1077 : PV) (n1083 : Nat) (c1084 : List PV) (n1086 : Nat) (c1087 : List PV) : Nat → Int → PV → PV → Option (((PV × PV × PV) ⊕ (PV × PV)))
  | 0, _, _, _ => none
  | n + 1, x1119, p1120, p1121 =>
    brn (decide (x1119 < ((n1086 : Nat) : Int))) (
      grd (0 ≤ x1119 ∧ x1119 < ((n1086 : Nat) : Int)) <|
      grd (0 < List.length (List.drop (Int.toNat x1119) c1087)) <|
      getI .i64 (gp c1087 (Int.toNat x1119)) fun x1127 =>
      grd (0 ≤ ((n1083 : Nat) : Int) ∧ ((n1083 : Nat) : Int) ≤ ((n1083 : Nat) : Int)) <|
      grd (List.length c1084 = n1083) <|
      grd ((n1083 + 1) ≤ 1099511627776) <|
      bnd' (m53 N (.lst false n1086 c1087)) fun (n1132, c1133) =>
      bnd' (m99 N n1132 x1119 (IntKind.i64.wrap (x1119 + 1)) c1133) fun (n1135, c1136) =>
      bnd' (rec (.lst false (n1083 + 1) (c1084 ++ [(.int .i64 x1127)])) (.lst false n1135 (List.take n1135 c1136)) p1077 p1120 p1121) fun (p1138, p1140, p1141) =>
      getB p1138 fun b1143 =>
      brn b1143 (
        some (.inl ((.bool true), p1140, p1141))) (
        m98_4_L0 N rec p1077 n1083 c1084 n1086 c1087 n (IntKind.i64.wrap (x1119 + 1)) p1140 p1141)) (
      some (.inr (p1120, p1121)))
def m98_4 (N : Nat) : Nat → PV → PV → PV → PV → PV → Option ((PV × PV × PV))
  | 0, _, _, _, _, _ => none
  | fu + 1, p1075, p1076, p1077, p1078, p1079 =>
    getL p1075 fun n1083 c1084 =>
    getL p1076 fun n1086 c1087 =>
    brn (((n1086 : Nat) : Int) == 0) (
      bnd' (m80_2 N (.lst false n1083 c1084) p1077 p1078 p1079) fun (p1089, p1091, p1092) =>
      getB p1089 fun b1094 =>
      some ((.bool b1094), p1091, p1092)) (
      bnd' (m98_4_L0 N (m98_4 N fu) p1077 n1083 c1084 n1086 c1087 N 0 p1078 p1079) fun o =>
      match o with
      | .inl p1145 =>
        some p1145
      | .inr (p1146, p1147) =>
        some ((.bool false), p1146, p1147))
theorem c98_4 (N : Nat) : ∀ (fu : Nat) (p1075 : PV) (p1076 : PV) (p1077 : PV) (p1078 : PV) (p1079 : PV) (r : PV) (p1150 : PV) (p1151 : PV) (h : m98_4 N fu p1075 p1076 p1077 p1078 p1079 = some (r, p1150, p1151)), V.Fn Try.prog 98 4 [.v p1075, .v p1076, .ptr 0 0, .ptr 3 0] [(0, .r [.fn 80 [.v (.ipt [p1077]), .ptr 1 0, .ptr 2 0]]), (1, .p [p1078]), (2, .p [p1079]), (3, .r [.fn 98 [.ptr 0 0, .ptr 3 0]])] (fun d ob' => d = .v r ∧ ob' = [(0, .r [.fn 80 [.v (.ipt [p1077]), .ptr 1 0, .ptr 2 0]]), (1, .p [p1150]), (2, .p [p1151]), (3, .r [.fn 98 [.ptr 0 0, .ptr 3 0]])]) := by
  intro fu
  induction fu with
  | zero => intro p1075 p1076 p1077 p1078 p1079 r p1150 p1151 h; cases h
  | succ fu ih =>
    intro p1075 p1076 p1077 p1078 p1079 r p1150 p1151 h
    rw [m98_4] at h
    refine Fn_of (sz := 40) tab_ok [0, 1, 2, 3, 6, 7, 8, 11, 15, 16, 17, 18, 38] [.tmp 6] Try.func98 rfl rfl rfl (by simp) ?_
    simp only [initSt, initEnv, List.map_cons, List.map_nil, List.getD_cons_zero, List.getD_cons_succ, List.getD_nil]
    have hh := getL_some h; clear h; obtain ⟨n1083, c1084, h1082, h⟩ := hh
    have hh := getL_some h; clear h; obtain ⟨n1086, c1087, h1085, h⟩ := hh
    have hh := brn_some h; clear h; rcases hh with ⟨h1088, h⟩ | ⟨h1088, h⟩
    · have hh := bnd'_some h; clear h; obtain ⟨⟨p1089, p1091, p1092⟩, h1090, h⟩ := hh
      (try dsimp only at h)
      refine W_sound tab_ok mixed 16 _ _ _ ?_
      simp -implicitDefEqProofs only [go_sem, ne_eq, not_false_eq_true, Nat.reduceBEq, Nat.reduceAdd, Nat.reduceSub, Nat.reduceMul, Nat.reduceLT, Nat.reduceLeDiff, Int.reduceLE, Int.reduceLT, Int.reduceToNat, Int.reduceBEq, Int.reduceBNe, Int.le_refl, Nat.le_refl, decide_true, decide_false, Int.cast_ofNat_Int, ↓reduceIte, h1082, h1085, h1088]
      repeat with_reducible refine And.intro (by first | kernel_rfl | decide) ?_
      refine Wp_callD [1, 2] (c80_2 N _ _ _ _ _ _ _ h1090) rfl rfl rfl (by first | rfl | (simp only [go_sem, ne_eq, not_false_eq_true, Nat.reduceBEq, Nat.reduceAdd, Nat.reduceSub, Nat.reduceMul, Nat.reduceLT, Nat.reduceLeDiff, Int.reduceLE, Int.reduceLT, Int.reduceToNat, Int.reduceBEq, Int.reduceBNe, Int.le_refl, Nat.le_refl, decide_true, decide_false, Int.cast_ofNat_Int, ↓reduceIte, h1082, h1085, h1088] <;> rfl)) rfl (by kernel_rfl) ?_
      have hh := getB_some h; clear h; obtain ⟨b1094, h1093, h⟩ := hh
      refine W_sound tab_ok mixed 4 _ _ _ ?_
      simp -implicitDefEqProofs only [go_sem, ne_eq, not_false_eq_true, Nat.reduceBEq, Nat.reduceAdd, Nat.reduceSub, Nat.reduceMul, Nat.reduceLT, Nat.reduceLeDiff, Int.reduceLE, Int.reduceLT, Int.reduceToNat, Int.reduceBEq, Int.reduceBNe, Int.le_refl, Nat.le_refl, decide_true, decide_false, Int.cast_ofNat_Int, ↓reduceIte, h1082, h1085, h1088, h1093]
      repeat with_reducible refine And.intro (by first | kernel_rfl | decide) ?_
      simp only [Option.some.injEq, Prod.mk.injEq] at h; obtain ⟨rfl, rfl, rfl⟩ := h
      exact finD (e2 := [(0, .dead), (1, .dead), (2, .dead), (3, .dead), (6, .v (.bool b1094)), (7, .dead), (8, .dead), (11, .dead), (15, .dead), (16, .dead), (17, .dead), (18, .dead), (38, .dead)]) (ob2 := [(0, .r [.fn 80 [.v (.ipt [p1077]), .ptr 1 0, .ptr 2 0]]), (3, .r [.fn 98 [.ptr 0 0, .ptr 3 0]]), (2, .p [p1092]), (1, .p [p1091])]) (st' := ⟨[], [(0, .dead), (1, .dead), (2, .dead), (3, .dead), (6, .v (.bool b1094)), (7, .dead), (8, .dead), (11, .dead), (15, .dead), (16, .dead), (17, .dead), (18, .dead), (38, .dead)], [(0, .r [.fn 80 [.v (.ipt [p1077]), .ptr 1 0, .ptr 2 0]]), (1, .p [p1091]), (2, .p [p1092]), (3, .r [.fn 98 [.ptr 0 0, .ptr 3 0]])], 4, []⟩) (.cons _ _ _ _ _ (.dead _) (.cons _ _ _ _ _ (.dead _) (.cons _ _ _ _ _ (.dead _) (.cons _ _ _ _ _ (.dead _) (.cons _ _ _ _ _ (.refl _) (.cons _ _ _ _ _ (.refl _) (.cons _ _ _ _ _ (.refl _) (.cons _ _ _ _ _ (.dead _) (.cons _ _ _ _ _ (.refl _) (.cons _ _ _ _ _ (.refl _) (.cons _ _ _ _ _ (.refl _) (.cons _ _ _ _ _ (.refl _) (.cons _ _ _ _ _ (.refl _) .nil))))))))))))) (.cons _ _ _ _ _ (DLes.refl _) (.cons _ _ _ _ _ (DLes.refl _) (.cons _ _ _ _ _ (DLes.refl _) (.cons _ _ _ _ _ (DLes.refl _) .nil)))) (by kernel_rfl) (by simp only [go_sem, ne_eq, not_false_eq_true, Nat.reduceBEq, Nat.reduceAdd, Nat.reduceSub, Nat.reduceMul, Nat.reduceLT, Nat.reduceLeDiff, Int.reduceLE, Int.reduceLT, Int.reduceToNat, Int.reduceBEq, Int.reduceBNe, Int.le_refl, Nat.le_refl, decide_true, decide_false, Int.cast_ofNat_Int, ↓reduceIte, resQ_tmp, resQ_cell, resQ_nil, retD_one, retD_two, retD_three, retD_none]; try simp [R.val, retD_one, retD_two, retD_three, retD_none])
    · refine W_sound tab_ok mixed 20 _ _ _ ?_
      simp -implicitDefEqProofs only [go_sem, ne_eq, not_false_eq_true, Nat.reduceBEq, Nat.reduceAdd, Nat.reduceSub, Nat.reduceMul, Nat.reduceLT, Nat.reduceLeDiff, Int.reduceLE, Int.reduceLT, Int.reduceToNat, Int.reduceBEq, Int.reduceBNe, Int.le_refl, Nat.le_refl, decide_true, decide_false, Int.cast_ofNat_Int, ↓reduceIte, h1082, h1085, h1088]
      repeat with_reducible refine And.intro (by first | kernel_rfl | decide) ?_
      have hh := bnd'_some h; clear h; obtain ⟨o1152, h1153, h1154⟩ := hh
      refine Wp_cut (fun s => ∃ p1146, ∃ p1147, (.inr (p1146, p1147)) = o1152 ∧ s = ⟨[], [(0, .dead), (1, .dead), (2, .dead), (3, .dead), (6, .dead), (7, .dead), (8, .dead), (11, .dead), (15, .dead), (16, .dead), (17, .dead), (18, .dead), (38, .dead)], [(0, .r [.fn 80 [.v (.ipt [p1077]), .ptr 1 0, .ptr 2 0]]), (1, .p [p1146]), (2, .p [p1147]), (3, .r [.fn 98 [.ptr 0 0, .ptr 3 0]])], 4, []⟩) ?_ ?_
      · refine Wp_block ?_
        refine Wp_loopG (fun n s => ∃ x1119, ∃ p1120, ∃ p1121, m98_4_L0 N (m98_4 N fu) p1077 n1083 c1084 n1086 c1087 n x1119 p1120 p1121 = some o1152 ∧ s = ⟨[], [(0, .v (.lst false n1083 c1084)), (1, .v (.lst false n1086 c1087)), (2, .dead), (3, .ptr 3 0), (6, .dead), (7, .dead), (8, .dead), (11, .dead), (15, .v (.lst false n1086 c1087)), (16, .v (.int .i64 ((n1086 : Nat) : Int))), (17, .v (.int .i64 x1119)), (18, .dead), (38, .dead)], [(0, .r [.fn 80 [.v (.ipt [p1077]), .ptr 1 0, .ptr 2 0]]), (1, .p [p1120]), (2, .p [p1121]), (3, .r [.fn 98 [.ptr 0 0, .ptr 3 0]])], 4, []⟩) N _ ((Wk_le (.cons _ _ _ _ _ (.refl _) (.cons _ _ _ _ _ (.refl _) (.cons _ _ _ _ _ (.dead _) (.cons _ _ _ _ _ (.refl _) (.cons _ _ _ _ _ (.dead _) (.cons _ _ _ _ _ (.refl _) (.cons _ _ _ _ _ (.refl _) (.cons _ _ _ _ _ (.dead _) (.cons _ _ _ _ _ (.refl _) (.cons _ _ _ _ _ (.refl _) (.cons _ _ _ _ _ (.refl _) (.cons _ _ _ _ _ (.refl _) (.cons _ _ _ _ _ (.refl _) .nil))))))))))))) (OLe.refl _)).trans (cmpS_ok (st' := ⟨[], [(0, .v (.lst false n1083 c1084)), (1, .v (.lst false n1086 c1087)), (2, .dead), (3, .ptr 3 0), (6, .dead), (7, .dead), (8, .dead), (11, .dead), (15, .v (.lst false n1086 c1087)), (16, .v (.int .i64 ((n1086 : Nat) : Int))), (17, .v (.int .i64 0)), (18, .dead), (38, .dead)], [(0, .r [.fn 80 [.v (.ipt [p1077]), .ptr 1 0, .ptr 2 0]]), (1, .p [p1078]), (2, .p [p1079]), (3, .r [.fn 98 [.ptr 0 0, .ptr 3 0]])], 4, []⟩) (by kernel_rfl))) ⟨_, _, _, h1153, rfl⟩ ?_
        clear h1153
        rintro n _ ⟨x1119, p1120, p1121, h1153, rfl⟩
        cases n with
        | zero => cases h1153
        | succ n =>
          rw [m98_4_L0] at h1153
          have hh := brn_some h1153; clear h1153; rcases hh with ⟨h1122, h1153⟩ | ⟨h1122, h1153⟩
          · have hh := grd_some h1153; clear h1153; obtain ⟨⟨g1123, g1124⟩, h1153⟩ := hh
            have hh := grd_some h1153; clear h1153; obtain ⟨g1125, h1153⟩ := hh
            have hh := getI_some h1153; clear h1153; obtain ⟨x1127, h1126, h1153⟩ := hh
            have hh := grd_some h1153; clear h1153; obtain ⟨⟨g1128, g1129⟩, h1153⟩ := hh
            have hh := grd_some h1153; clear h1153; obtain ⟨g1130, h1153⟩ := hh
            have hh := grd_some h1153; clear h1153; obtain ⟨g1131, h1153⟩ := hh
            have hh := bnd'_some h1153; clear h1153; obtain ⟨⟨n1132, c1133⟩, h1134, h1153⟩ := hh
            (try dsimp only at h1153)
            refine W_sound tab_ok mixed 30 _ _ _ ?_
            simp -implicitDefEqProofs only [go_sem, ne_eq, not_false_eq_true, Nat.reduceBEq, Nat.reduceAdd, Nat.reduceSub, Nat.reduceMul, Nat.reduceLT, Nat.reduceLeDiff, Int.reduceLE, Int.reduceLT, Int.reduceToNat, Int.reduceBEq, Int.reduceBNe, Int.le_refl, Nat.le_refl, decide_true, decide_false, Int.cast_ofNat_Int, ↓reduceIte, h1082, h1085, h1088, h1122, g1123, g1124, g1125, h1126, g1128, g1129, g1130, g1131]
            repeat with_reducible refine And.intro (by first | kernel_rfl | decide) ?_
            refine Wp_callD [] (c53 N _ _ _ h1134) rfl rfl rfl (by first | rfl | (simp only [go_sem, ne_eq, not_false_eq_true, Nat.reduceBEq, Nat.reduceAdd, Nat.reduceSub, Nat.reduceMul, Nat.reduceLT, Nat.reduceLeDiff, Int.reduceLE, Int.reduceLT, Int.reduceToNat, Int.reduceBEq, Int.reduceBNe, Int.le_refl, Nat.le_refl, decide_true, decide_false, Int.cast_ofNat_Int, ↓reduceIte, h1082, h1085, h1088, h1122, g1123, g1124, g1125, h1126, g1128, g1129, g1130, g1131] <;> rfl)) rfl (by kernel_rfl) ?_
            have hh := bnd'_some h1153; clear h1153; obtain ⟨⟨n1135, c1136⟩, h1137, h1153⟩ := hh
            (try dsimp only at h1153)
            refine W_sound tab_ok mixed 3 _ _ _ ?_
            simp -implicitDefEqProofs only [go_sem, ne_eq, not_false_eq_true, Nat.reduceBEq, Nat.reduceAdd, Nat.reduceSub, Nat.reduceMul, Nat.reduceLT, Nat.reduceLeDiff, Int.reduceLE, Int.reduceLT, Int.reduceToNat, Int.reduceBEq, Int.reduceBNe, Int.le_refl, Nat.le_refl, decide_true, decide_false, Int.cast_ofNat_Int, ↓reduceIte, h1082, h1085, h1088, h1122, g1123, g1124, g1125, h1126, g1128, g1129, g1130, g1131]
            repeat with_reducible refine And.intro (by first | kernel_rfl | decide) ?_
            refine Wp_callD [37] (c99 N _ _ _ _ _ _ h1137) rfl rfl rfl (by first | rfl | (simp only [go_sem, ne_eq, not_false_eq_true, Nat.reduceBEq, Nat.reduceAdd, Nat.reduceSub, Nat.reduceMul, Nat.reduceLT, Nat.reduceLeDiff, Int.reduceLE, Int.reduceLT, Int.reduceToNat, Int.reduceBEq, Int.reduceBNe, Int.le_refl, Nat.le_refl, decide_true, decide_false, Int.cast_ofNat_Int, ↓reduceIte, h1082, h1085, h1088, h1122, g1123, g1124, g1125, h1126, g1128, g1129, g1130, g1131] <;> rfl)) rfl (by kernel_rfl) ?_
            have hh := bnd'_some h1153; clear h1153; obtain ⟨⟨p1138, p1140, p1141⟩, h1139, h1153⟩ := hh
            (try dsimp only at h1153)
            (try simp -implicitDefEqProofs only [go_sem, ne_eq, not_false_eq_true, Nat.reduceBEq, Nat.reduceAdd, Nat.reduceSub, Nat.reduceMul, Nat.reduceLT, Nat.reduceLeDiff, Int.reduceLE, Int.reduceLT, Int.reduceToNat, Int.reduceBEq, Int.reduceBNe, Int.le_refl, Nat.le_refl, decide_true, decide_false, Int.cast_ofNat_Int, ↓reduceIte, h1082, h1085, h1088, h1122, g1123, g1124, g1125, h1126, g1128, g1129, g1130, g1131])
            refine Wp_callDF [(35, (c1084 ++ [(.int .i64 x1127)])), (37, c1136)] [0, 1, 2, 3] (ih _ _ _ _ _ _ _ _ h1139) rfl rfl rfl (by first | rfl | (simp only [go_sem, ne_eq, not_false_eq_true, Nat.reduceBEq, Nat.reduceAdd, Nat.reduceSub, Nat.reduceMul, Nat.reduceLT, Nat.reduceLeDiff, Int.reduceLE, Int.reduceLT, Int.reduceToNat, Int.reduceBEq, Int.reduceBNe, Int.le_refl, Nat.le_refl, decide_true, decide_false, Int.cast_ofNat_Int, ↓reduceIte, h1082, h1085, h1088, h1122, g1123, g1124, g1125, h1126, g1128, g1129, g1130, g1131] <;> rfl)) rfl (by kernel_rfl) rfl rfl (by simp [roF, obL]) ?_
            have hh := getB_some h1153; clear h1153; obtain ⟨b1143, h1142, h1153⟩ := hh
            have hh := brn_some h1153; clear h1153; rcases hh with ⟨h1144, h1153⟩ | ⟨h1144, h1153⟩
            · refine W_sound tab_ok mixed 8 _ _ _ ?_
              simp -implicitDefEqProofs only [go_sem, ne_eq, not_false_eq_true, Nat.reduceBEq, Nat.reduceAdd, Nat.reduceSub, Nat.reduceMul, Nat.reduceLT, Nat.reduceLeDiff, Int.reduceLE, Int.reduceLT, Int.reduceToNat, Int.reduceBEq, Int.reduceBNe, Int.le_refl, Nat.le_refl, decide_true, decide_false, Int.cast_ofNat_Int, ↓reduceIte, h1082, h1085, h1088, h1122, g1123, g1124, g1125, h1126, g1128, g1129, g1130, g1131, h1142, h1144]
              repeat with_reducible refine And.intro (by first | kernel_rfl | decide) ?_
              obtain rfl := Option.some.inj h1153
              (try dsimp only at h1154)
              simp only [Option.some.injEq, Prod.mk.injEq] at h1154; obtain ⟨rfl, rfl, rfl⟩ := h1154
              exact finD (e2 := [(0, .dead), (1, .dead), (2, .dead), (3, .dead), (6, .v (.bool true)), (7, .dead), (8, .dead), (11, .dead), (15, .dead), (16, .dead), (17, .dead), (18, .dead), (38, .dead)]) (ob2 := [(34, .p [(.int .i64 x1127)]), (3, .r [.fn 98 [.ptr 0 0, .ptr 3 0]]), (2, .p [p1141]), (1, .p [p1140]), (0, .r [.fn 80 [.v (.ipt [p1077]), .ptr 1 0, .ptr 2 0]])]) (st' := ⟨[], [(0, .dead), (1, .dead), (2, .dead), (3, .dead), (6, .v (.bool true)), (7, .dead), (8, .dead), (11, .dead), (15, .dead), (16, .dead), (17, .dead), (18, .dead), (38, .dead)], [(0, .r [.fn 80 [.v (.ipt [p1077]), .ptr 1 0, .ptr 2 0]]), (1, .p [p1140]), (2, .p [p1141]), (3, .r [.fn 98 [.ptr 0 0, .ptr 3 0]])], 4, []⟩) (.cons _ _ _ _ _ (.dead _) (.cons _ _ _ _ _ (.dead _) (.cons _ _ _ _ _ (.refl _) (.cons _ _ _ _ _ (.dead _) (.cons _ _ _ _ _ (.refl _) (.cons _ _ _ _ _ (.dead _) (.cons _ _ _ _ _ (.dead _) (.cons _ _ _ _ _ (.refl _) (.cons _ _ _ _ _ (.dead _) (.cons _ _ _ _ _ (.dead _) (.cons _ _ _ _ _ (.dead _) (.cons _ _ _ _ _ (.dead _) (.cons _ _ _ _ _ (.dead _) .nil))))))))))))) (.cons _ _ _ _ _ (DLes.refl _) (.cons _ _ _ _ _ (DLes.refl _) (.cons _ _ _ _ _ (DLes.refl _) (.cons _ _ _ _ _ (DLes.refl _) (.cons _ _ _ _ _ (DLes.refl _) .nil))))) (by kernel_rfl) (by simp only [go_sem, ne_eq, not_false_eq_true, Nat.reduceBEq, Nat.reduceAdd, Nat.reduceSub, Nat.reduceMul, Nat.reduceLT, Nat.reduceLeDiff, Int.reduceLE, Int.reduceLT, Int.reduceToNat, Int.reduceBEq, Int.reduceBNe, Int.le_refl, Nat.le_refl, decide_true, decide_false, Int.cast_ofNat_Int, ↓reduceIte, resQ_tmp, resQ_cell, resQ_nil, retD_one, retD_two, retD_three, retD_none]; try simp [R.val, retD_one, retD_two, retD_three, retD_none])
            · refine W_sound tab_ok mixed 8 _ _ _ ?_
              simp -implicitDefEqProofs only [go_sem, ne_eq, not_false_eq_true, Nat.reduceBEq, Nat.reduceAdd, Nat.reduceSub, Nat.reduceMul, Nat.reduceLT, Nat.reduceLeDiff, Int.reduceLE, Int.reduceLT, Int.reduceToNat, Int.reduceBEq, Int.reduceBNe, Int.le_refl, Nat.le_refl, decide_true, decide_false, Int.cast_ofNat_Int, ↓reduceIte, h1082, h1085, h1088, h1122, g1123, g1124, g1125, h1126, g1128, g1129, g1130, g1131, h1142, h1144]
              repeat with_reducible refine And.intro (by first | kernel_rfl | decide) ?_
              exact cutQ _ ((Wk_le (.cons _ _ _ _ _ (.refl _) (.cons _ _ _ _ _ (.refl _) (.cons _ _ _ _ _ (.refl _) (.cons _ _ _ _ _ (.refl _) (.cons _ _ _ _ _ (.refl _) (.cons _ _ _ _ _ (.dead _) (.cons _ _ _ _ _ (.dead _) (.cons _ _ _ _ _ (.refl _) (.cons _ _ _ _ _ (.refl _) (.cons _ _ _ _ _ (.refl _) (.cons _ _ _ _ _ (.refl _) (.cons _ _ _ _ _ (.dead _) (.cons _ _ _ _ _ (.dead _) .nil))))))))))))) (OLe.refl _)).trans (cmpS_ok (st' := ⟨[], [(0, .v (.lst false n1083 c1084)), (1, .v (.lst false n1086 c1087)), (2, .dead), (3, .ptr 3 0), (6, .dead), (7, .dead), (8, .dead), (11, .dead), (15, .v (.lst false n1086 c1087)), (16, .v (.int .i64 ((n1086 : Nat) : Int))), (17, .v (.int .i64 (IntKind.i64.wrap (x1119 + 1)))), (18, .dead), (38, .dead)], [(0, .r [.fn 80 [.v (.ipt [p1077]), .ptr 1 0, .ptr 2 0]]), (1, .p [p1140]), (2, .p [p1141]), (3, .r [.fn 98 [.ptr 0 0, .ptr 3 0]])], 4, []⟩) (by kernel_rfl))) ⟨n, Nat.lt_succ_self n, _, _, _, h1153, rfl⟩
          · refine W_sound tab_ok mixed 7 _ _ _ ?_
            simp -implicitDefEqProofs only [go_sem, ne_eq, not_false_eq_true, Nat.reduceBEq, Nat.reduceAdd, Nat.reduceSub, Nat.reduceMul, Nat.reduceLT, Nat.reduceLeDiff, Int.reduceLE, Int.reduceLT, Int.reduceToNat, Int.reduceBEq, Int.reduceBNe, Int.le_refl, Nat.le_refl, decide_true, decide_false, Int.cast_ofNat_Int, ↓reduceIte, h1082, h1085, h1088, h1122]
            repeat with_reducible refine And.intro (by first | kernel_rfl | decide) ?_
            obtain rfl := Option.some.inj h1153
            exact cutQ _ ((Wk_le (.cons _ _ _ _ _ (.dead _) (.cons _ _ _ _ _ (.dead _) (.cons _ _ _ _ _ (.refl _) (.cons _ _ _ _ _ (.dead _) (.cons _ _ _ _ _ (.refl _) (.cons _ _ _ _ _ (.refl _) (.cons _ _ _ _ _ (.refl _) (.cons _ _ _ _ _ (.refl _) (.cons _ _ _ _ _ (.dead _) (.cons _ _ _ _ _ (.dead _) (.cons _ _ _ _ _ (.dead _) (.cons _ _ _ _ _ (.dead _) (.cons _ _ _ _ _ (.refl _) .nil))))))))))))) (OLe.refl _)).trans (cmpS_ok (st' := ⟨[], [(0, .dead), (1, .dead), (2, .dead), (3, .dead), (6, .dead), (7, .dead), (8, .dead), (11, .dead), (15, .dead), (16, .dead), (17, .dead), (18, .dead), (38, .dead)], [(0, .r [.fn 80 [.v (.ipt [p1077]), .ptr 1 0, .ptr 2 0]]), (1, .p [p1120]), (2, .p [p1121]), (3, .r [.fn 98 [.ptr 0 0, .ptr 3 0]])], 4, []⟩) (by kernel_rfl))) ⟨_, _, rfl, rfl⟩
      · rintro _ ⟨p1146, p1147, rfl, rfl⟩
        (try dsimp only at h1154)
        refine W_sound tab_ok mixed 6 _ _ _ ?_
        simp -implicitDefEqProofs only [go_sem, ne_eq, not_false_eq_true, Nat.reduceBEq, Nat.reduceAdd, Nat.reduceSub, Nat.reduceMul, Nat.reduceLT, Nat.reduceLeDiff, Int.reduceLE, Int.reduceLT, Int.reduceToNat, Int.reduceBEq, Int.reduceBNe, Int.le_refl, Nat.le_refl, decide_true, decide_false, Int.cast_ofNat_Int, ↓reduceIte, h1082, h1085, h1088]
        repeat with_reducible refine And.intro (by first | kernel_rfl | decide) ?_
        simp only [Option.some.injEq, Prod.mk.injEq] at h1154; obtain ⟨rfl, rfl, rfl⟩ := h1154
        exact finD (e2 := [(0, .dead), (1, .dead), (2, .dead), (3, .dead), (6, .v (.bool false)), (7, .dead), (8, .dead), (11, .dead), (15, .dead), (16, .dead), (17, .dead), (18, .dead), (38, .dead)]) (ob2 := [(0, .r [.fn 80 [.v (.ipt [p1077]), .ptr 1 0, .ptr 2 0]]), (1, .p [p1146]), (2, .p [p1147]), (3, .r [.fn 98 [.ptr 0 0, .ptr 3 0]])]) (st' := ⟨[], [(0, .dead), (1, .dead), (2, .dead), (3, .dead), (6, .v (.bool false)), (7, .dead), (8, .dead), (11, .dead), (15, .dead), (16, .dead), (17, .dead), (18, .dead), (38, .dead)], [(0, .r [.fn 80 [.v (.ipt [p1077]), .ptr 1 0, .ptr 2 0]]), (1, .p [p1146]), (2, .p [p1147]), (3, .r [.fn 98 [.ptr 0 0, .ptr 3 0]])], 4, []⟩) (.cons _ _ _ _ _ (.refl _) (.cons _ _ _ _ _ (.refl _) (.cons _ _ _ _ _ (.refl _) (.cons _ _ _ _ _ (.refl _) (.cons _ _ _ _ _ (.refl _) (.cons _ _ _ _ _ (.refl _) (.cons _ _ _ _ _ (.refl _) (.cons _ _ _ _ _ (.refl _) (.cons _ _ _ _ _ (.refl _) (.cons _ _ _ _ _ (.refl _) (.cons _ _ _ _ _ (.refl _) (.cons _ _ _ _ _ (.refl _) (.cons _ _ _ _ _ (.refl _) .nil))))))))))))) (.cons _ _ _ _ _ (DLes.refl _) (.cons _ _ _ _ _ (DLes.refl _) (.cons _ _ _ _ _ (DLes.refl _) (.cons _ _ _ _ _ (DLes.refl _) .nil)))) (by kernel_rfl) (by simp only [go_sem, ne_eq, not_false_eq_true, Nat.reduceBEq, Nat.reduceAdd, Nat.reduceSub, Nat.reduceMul, Nat.reduceLT, Nat.reduceLeDiff, Int.reduceLE, Int.reduceLT, Int.reduceToNat, Int.reduceBEq, Int.reduceBNe, Int.le_refl, Nat.le_refl, decide_true, decide_false, Int.cast_ofNat_Int, ↓reduceIte, resQ_tmp, resQ_cell, resQ_nil, retD_one, retD_two, retD_three, retD_none]; try simp [R.val, retD_one, retD_two, retD_three, retD_none])

def m98_L0 (N : Nat) (p1190 : PV) (n1196 : Nat) (c1197 : List PV) : Nat → Int → PV → PV → Option (((PV × PV × PV) ⊕ (PV × PV)))
  | 0, _, _, _ => none
  | n + 1, x1225, p1226, p1227 =>
    brn (decide (x1225 < ((n1196 : Nat) : Int))) (
      grd (0 ≤ x1225 ∧ x1225 < ((n1196 : Nat) : Int)) <|
      grd (0 < List.length (List.drop (Int.toNat x1225) c1197)) <|
      getI .i64 (gp c1197 (Int.toNat x1225)) fun x1233 =>
      bnd' (m53 N (.lst false n1196 c1197)) fun (n1234, c1235) =>
      bnd' (m99 N n1234 x1225 (IntKind.i64.wrap (x1225 + 1)) c1235) fun (n1237, c1238) =>
      bnd' (m98_4 N N (.lst false 1 [(.int .i64 x1233)]) (.lst false n1237 (List.take n1237 c1238)) p1190 p1226 p1227) fun (p1240, p1242, p1243) =>
      getB p1240 fun b1245 =>
      brn b1245 (
        some (.inl ((.bool true), p1242, p1243))) (
        m98_L0 N p1190 n1196 c1197 n (IntKind.i64.wrap (x1225 + 1)) p1242 p1243)) (
      some (.inr (p1226, p1227)))
def m98 (N : Nat) (p1189 : PV) (p1190 : PV) (p1191 : PV) (p1192 : PV) : Option ((PV × PV × PV)) :=
  getL p1189 fun n1196 c1197 =>
  brn (((n1196 : Nat) : Int) == 0) (
    bnd' (m80 N p1190 p1191 p1192) fun (p1199, p1201, p1202) =>
    getB p1199 fun b1204 =>
    some ((.bool b1204), p1201, p1202)) (
    bnd' (m98_L0 N p1190 n1196 c1197 N 0 p1191 p1192) fun o =>
    match o with
    | .inl p1247 =>
      some p1247
    | .inr (p1248, p1249) =>
      some ((.bool false), p1248, p1249))
theorem c98 (N : Nat) (p1189 : PV) (p1190 : PV) (p1191 : PV) (p1192 : PV) (r : PV) (p1252 : PV) (p1253 : PV) (h : m98 N p1189 p1190 p1191 p1192 = some (r, p1252, p1253)) : V.Fn Try.prog 98 4 [.v .nl, .v p1189, .ptr 0 0, .ptr 3 0] [(0, .r [.fn 80 [.v (.ipt [p1190]), .ptr 1 0, .ptr 2 0]]), (1, .p [p1191]), (2, .p [p1192]), (3, .r [.fn 98 [.ptr 0 0, .ptr 3 0]])] (fun d ob' => d = .v r ∧ ob' = [(0, .r [.fn 80 [.v (.ipt [p1190]), .ptr 1 0, .ptr 2 0]]), (1, .p [p1252]), (2, .p [p1253]), (3, .r [.fn 98 [.ptr 0 0, .ptr 3 0]])]) := by
  unfold m98 at h
  refine Fn_of (sz := 40) tab_ok [0, 1, 2, 3, 6, 7, 8, 11, 15, 16, 17, 18, 38] [.tmp 6] Try.func98 rfl rfl rfl (by simp) ?_
  simp only [initSt, initEnv, List.map_cons, List.map_nil, List.getD_cons_zero, List.getD_cons_succ, List.getD_nil]
  have hh := getL_some h; clear h; obtain ⟨n1196, c1197, h1195, h⟩ := hh
  have hh := brn_some h; clear h; rcases hh with ⟨h1198, h⟩ | ⟨h1198, h⟩
  · have hh := bnd'_some h; clear h; obtain ⟨⟨p1199, p1201, p1202⟩, h1200, h⟩ := hh
    (try dsimp only at h)
    refine W_sound tab_ok mixed 16 _ _ _ ?_
    simp -implicitDefEqProofs only [go_sem, ne_eq, not_false_eq_true, Nat.reduceBEq, Nat.reduceAdd, Nat.reduceSub, Nat.reduceMul, Nat.reduceLT, Nat.reduceLeDiff, Int.reduceLE, Int.reduceLT, Int.reduceToNat, Int.reduceBEq, Int.reduceBNe, Int.le_refl, Nat.le_refl, decide_true, decide_false, Int.cast_ofNat_Int, ↓reduceIte, h1195, h1198]
    repeat with_reducible refine And.intro (by first | kernel_rfl | decide) ?_
    refine Wp_callD [1, 2] (c80 N _ _ _ _ _ _ h1200) rfl rfl rfl (by first | rfl | (simp only [go_sem, ne_eq, not_false_eq_true, Nat.reduceBEq, Nat.reduceAdd, Nat.reduceSub, Nat.reduceMul, Nat.reduceLT, Nat.reduceLeDiff, Int.reduceLE, Int.reduceLT, Int.reduceToNat, Int.reduceBEq, Int.reduceBNe, Int.le_refl, Nat.le_refl, decide_true, decide_false, Int.cast_ofNat_Int, ↓reduceIte, h1195, h1198] <;> rfl)) rfl (by kernel_rfl) ?_
    have hh := getB_some h; clear h; obtain ⟨b1204, h1203, h⟩ := hh
    refine W_sound tab_ok mixed 4 _ _ _ ?_
    simp -implicitDefEqProofs only [go_sem, ne_eq, not_false_eq_true, Nat.reduceBEq, Nat.reduceAdd, Nat.reduceSub, Nat.reduceMul, Nat.reduceLT, Nat.reduceLeDiff, Int.reduceLE, Int.reduceLT, Int.reduceToNat, Int.reduceBEq, Int.reduceBNe, Int.le_refl, Nat.le_refl, decide_true, decide_false, Int.cast_ofNat_Int, ↓reduceIte, h1195, h1198, h1203]
    repeat with_reducible refine And.intro (by first | kernel_rfl | decide) ?_
    simp only [Option.some.injEq, Prod.mk.injEq] at h; obtain ⟨rfl, rfl, rfl⟩ := h
    exact finD (e2 := [(0, .dead), (1, .dead), (2, .dead), (3, .dead), (6, .v (.bool b1204)), (7, .dead), (8, .dead), (11, .dead), (15, .dead), (16, .dead), (17, .dead), (18, .dead), (38, .dead)]) (ob2 := [(0, .r [.fn 80 [.v (.ipt [p1190]), .ptr 1 0, .ptr 2 0]]), (3, .r [.fn 98 [.ptr 0 0, .ptr 3 0]]), (2, .p [p1202]), (1, .p [p1201])]) (st' := ⟨[], [(0, .dead), (1, .dead), (2, .dead), (3, .dead), (6, .v (.bool b1204)), (7, .dead), (8, .dead), (11, .dead), (15, .dead), (16, .dead), (17, .dead), (18, .dead), (38, .dead)], [(0, .r [.fn 80 [.v (.ipt [p1190]), .ptr 1 0, .ptr 2 0]]), (1, .p [p1201]), (2, .p [p1202]), (3, .r [.fn 98 [.ptr 0 0, .ptr 3 0]])], 4, []⟩) (.cons _ _ _ _ _ (.dead _) (.cons _ _ _ _ _ (.dead _) (.cons _ _ _ _ _ (.dead _) (.cons _ _ _ _ _ (.dead _) (.cons _ _ _ _ _ (.refl _) (.cons _ _ _ _ _ (.refl _) (.cons _ _ _ _ _ (.refl _) (.cons _ _ _ _ _ (.dead _) (.cons _ _ _ _ _ (.refl _) (.cons _ _ _ _ _ (.refl _) (.cons _ _ _ _ _ (.refl _) (.cons _ _ _ _ _ (.refl _) (.cons _ _ _ _ _ (.refl _) .nil))))))))))))) (.cons _ _ _ _ _ (DLes.refl _) (.cons _ _ _ _ _ (DLes.refl _) (.cons _ _ _ _ _ (DLes.refl _) (.cons _ _ _ _ _ (DLes.refl _) .nil)))) (by kernel_rfl) (by simp only [go_sem, ne_eq, not_false_eq_true, Nat.reduceBEq, Nat.reduceAdd, Nat.reduceSub, Nat.reduceMul, Nat.reduceLT, Nat.reduceLeDiff, Int.reduceLE, Int.reduceLT, Int.reduceToNat, Int.reduceBEq, Int.reduceBNe, Int.le_refl, Nat.le_refl, decide_true, decide_false, Int.cast_ofNat_Int, ↓reduceIte, resQ_tmp, resQ_cell, resQ_nil, retD_one, retD_two, retD_three, retD_none]; try simp [R.val, retD_one, retD_two, retD_three, retD_none])
  · refine W_sound tab_ok mixed 20 _ _ _ ?_
    simp -implicitDefEqProofs only [go_sem, ne_eq, not_false_eq_true, Nat.reduceBEq, Nat.reduceAdd, Nat.reduceSub, Nat.reduceMul, Nat.reduceLT, Nat.reduceLeDiff, Int.reduceLE, Int.reduceLT, Int.reduceToNat, Int.reduceBEq, Int.reduceBNe, Int.le_refl, Nat.le_refl, decide_true, decide_false, Int.cast_ofNat_Int, ↓reduceIte, h1195, h1198]
    repeat with_reducible refine And.intro (by first | kernel_rfl | decide) ?_
    have hh := bnd'_some h; clear h; obtain ⟨o1254, h1255, h1256⟩ := hh
    refine Wp_cut (fun s => ∃ p1248, ∃ p1249, (.inr (p1248, p1249)) = o1254 ∧ s = ⟨[], [(0, .dead), (1, .dead), (2, .dead), (3, .dead), (6, .dead), (7, .dead), (8, .dead), (11, .dead), (15, .dead), (16, .dead), (17, .dead), (18, .dead), (38, .dead)], [(0, .r [.fn 80 [.v (.ipt [p1190]), .ptr 1 0, .ptr 2 0]]), (1, .p [p1248]), (2, .p [p1249]), (3, .r [.fn 98 [.ptr 0 0, .ptr 3 0]])], 4, []⟩) ?_ ?_
    · refine Wp_block ?_
      refine Wp_loopG (fun n s => ∃ x1225, ∃ p1226, ∃ p1227, m98_L0 N p1190 n1196 c1197 n x1225 p1226 p1227 = some o1254 ∧ s = ⟨[], [(0, .v .nl), (1, .v (.lst false n1196 c1197)), (2, .dead), (3, .ptr 3 0), (6, .dead), (7, .dead), (8, .dead), (11, .dead), (15, .v (.lst false n1196 c1197)), (16, .v (.int .i64 ((n1196 : Nat) : Int))), (17, .v (.int .i64 x1225)), (18, .dead), (38, .dead)], [(0, .r [.fn 80 [.v (.ipt [p1190]), .ptr 1 0, .ptr 2 0]]), (1, .p [p1226]), (2, .p [p1227]), (3, .r [.fn 98 [.ptr 0 0, .ptr 3 0]])], 4, []⟩) N _ ((Wk_le (.cons _ _ _ _ _ (.refl _) (.cons _ _ _ _ _ (.refl _) (.cons _ _ _ _ _ (.dead _) (.cons _ _ _ _ _ (.refl _) (.cons _ _ _ _ _ (.dead _) (.cons _ _ _ _ _ (.refl _) (.cons _ _ _ _ _ (.refl _) (.cons _ _ _ _ _ (.dead _) (.cons _ _ _ _ _ (.refl _) (.cons _ _ _ _ _ (.refl _) (.cons _ _ _ _ _ (.refl _) (.cons _ _ _ _ _ (.refl _) (.cons _ _ _ _ _ (.refl _) .nil))))))))))))) (OLe.refl _)).trans (cmpS_ok (st' := ⟨[], [(0, .v .nl), (1, .v (.lst false n1196 c1197)), (2, .dead), (3, .ptr 3 0), (6, .dead), (7, .dead), (8, .dead), (11, .dead), (15, .v (.lst false n1196 c1197)), (16, .v (.int .i64 ((n1196 : Nat) : Int))), (17, .v (.int .i64 0)), (18, .dead), (38, .dead)], [(0, .r [.fn 80 [.v (.ipt [p1190]), .ptr 1 0, .ptr 2 0]]), (1, .p [p1191]), (2, .p [p1192]), (3, .r [.fn 98 [.ptr 0 0, .ptr 3 0]])], 4, []⟩) (by kernel_rfl))) ⟨_, _, _, h1255, rfl⟩ ?_
      clear h1255
      rintro n _ ⟨x1225, p1226, p1227, h1255, rfl⟩
      cases n with
      | zero => cases h1255
      | succ n =>
        rw [m98_L0] at h1255
        have hh := brn_some h1255; clear h1255; rcases hh with ⟨h1228, h1255⟩ | ⟨h1228, h1255⟩
        · have hh := grd_some h1255; clear h1255; obtain ⟨⟨g1229, g1230⟩, h1255⟩ := hh
          have hh := grd_some h1255; clear h1255; obtain ⟨g1231, h1255⟩ := hh
          have hh := getI_some h1255; clear h1255; obtain ⟨x1233, h1232, h1255⟩ := hh
          have hh := bnd'_some h1255; clear h1255; obtain ⟨⟨n1234, c1235⟩, h1236, h1255⟩ := hh
          (try dsimp only at h1255)
          refine W_sound tab_ok mixed 30 _ _ _ ?_
          simp -implicitDefEqProofs only [go_sem, ne_eq, not_false_eq_true, Nat.reduceBEq, Nat.reduceAdd, Nat.reduceSub, Nat.reduceMul, Nat.reduceLT, Nat.reduceLeDiff, Int.reduceLE, Int.reduceLT, Int.reduceToNat, Int.reduceBEq, Int.reduceBNe, Int.le_refl, Nat.le_refl, decide_true, decide_false, Int.cast_ofNat_Int, ↓reduceIte, h1195, h1198, h1228, g1229, g1230, g1231, h1232]
          repeat with_reducible refine And.intro (by first | kernel_rfl | decide) ?_
          refine Wp_callD [] (c53 N _ _ _ h1236) rfl rfl rfl (by first | rfl | (simp only [go_sem, ne_eq, not_false_eq_true, Nat.reduceBEq, Nat.reduceAdd, Nat.reduceSub, Nat.reduceMul, Nat.reduceLT, Nat.reduceLeDiff, Int.reduceLE, Int.reduceLT, Int.reduceToNat, Int.reduceBEq, Int.reduceBNe, Int.le_refl, Nat.le_refl, decide_true, decide_false, Int.cast_ofNat_Int, ↓reduceIte, h1195, h1198, h1228, g1229, g1230, g1231, h1232] <;> rfl)) rfl (by kernel_rfl) ?_
          have hh := bnd'_some h1255; clear h1255; obtain ⟨⟨n1237, c1238⟩, h1239, h1255⟩ := hh
          (try dsimp only at h1255)
          refine W_sound tab_ok mixed 3 _ _ _ ?_
          simp -implicitDefEqProofs only [go_sem, ne_eq, not_false_eq_true, Nat.reduceBEq, Nat.reduceAdd, Nat.reduceSub, Nat.reduceMul, Nat.reduceLT, Nat.reduceLeDiff, Int.reduceLE, Int.reduceLT, Int.reduceToNat, Int.reduceBEq, Int.reduceBNe, Int.le_refl, Nat.le_refl, decide_true, decide_false, Int.cast_ofNat_Int, ↓reduceIte, h1195, h1198, h1228, g1229, g1230, g1231, h1232]
          repeat with_reducible refine And.intro (by first | kernel_rfl | decide) ?_
          refine Wp_callD [37] (c99 N _ _ _ _ _ _ h1239) rfl rfl rfl (by first | rfl | (simp only [go_sem, ne_eq, not_false_eq_true, Nat.reduceBEq, Nat.reduceAdd, Nat.reduceSub, Nat.reduceMul, Nat.reduceLT, Nat.reduceLeDiff, Int.reduceLE, Int.reduceLT, Int.reduceToNat, Int.reduceBEq, Int.reduceBNe, Int.le_refl, Nat.le_refl, decide_true, decide_false, Int.cast_ofNat_Int, ↓reduceIte, h1195, h1198, h1228, g1229, g1230, g1231, h1232] <;> rfl)) rfl (by kernel_rfl) ?_
          have hh := bnd'_some h1255; clear h1255; obtain ⟨⟨p1240, p1242, p1243⟩, h1241, h1255⟩ := hh
          (try dsimp only at h1255)
          (try simp -implicitDefEqProofs only [go_sem, ne_eq, not_false_eq_true, Nat.reduceBEq, Nat.reduceAdd, Nat.reduceSub, Nat.reduceMul, Nat.reduceLT, Nat.reduceLeDiff, Int.reduceLE, Int.reduceLT, Int.reduceToNat, Int.reduceBEq, Int.reduceBNe, Int.le_refl, Nat.le_refl, decide_true, decide_false, Int.cast_ofNat_Int, ↓reduceIte, h1195, h1198, h1228, g1229, g1230, g1231, h1232])
          refine Wp_callDF [(35, [(.int .i64 x1233)]), (37, c1238)] [0, 1, 2, 3] (c98_4 N N _ _ _ _ _ _ _ _ h1241) rfl rfl rfl (by first | rfl | (simp only [go_sem, ne_eq, not_false_eq_true, Nat.reduceBEq, Nat.reduceAdd, Nat.reduceSub, Nat.reduceMul, Nat.reduceLT, Nat.reduceLeDiff, Int.reduceLE, Int.reduceLT, Int.reduceToNat, Int.reduceBEq, Int.reduceBNe, Int.le_refl, Nat.le_refl, decide_true, decide_false, Int.cast_ofNat_Int, ↓reduceIte, h1195, h1198, h1228, g1229, g1230, g1231, h1232] <;> rfl)) rfl (by kernel_rfl) rfl rfl (by simp [roF, obL]) ?_
          have hh := getB_some h1255; clear h1255; obtain ⟨b1245, h1244, h1255⟩ := hh
          have hh := brn_some h1255; clear h1255; rcases hh with ⟨h1246, h1255⟩ | ⟨h1246, h1255⟩
          · refine W_sound tab_ok mixed 8 _ _ _ ?_
            simp -implicitDefEqProofs only [go_sem, ne_eq, not_false_eq_true, Nat.reduceBEq, Nat.reduceAdd, Nat.reduceSub, Nat.reduceMul, Nat.reduceLT, Nat.reduceLeDiff, Int.reduceLE, Int.reduceLT, Int.reduceToNat, Int.reduceBEq, Int.reduceBNe, Int.le_refl, Nat.le_refl, decide_true, decide_false, Int.cast_ofNat_Int, ↓reduceIte, h1195, h1198, h1228, g1229, g1230, g1231, h1232, h1244, h1246]
            repeat with_reducible refine And.intro (by first | kernel_rfl | decide) ?_
            obtain rfl := Option.some.inj h1255
            (try dsimp only at h1256)
            simp only [Option.some.injEq, Prod.mk.injEq] at h1256; obtain ⟨rfl, rfl, rfl⟩ := h1256
            exact finD (e2 := [(0, .dead), (1, .dead), (2, .dead), (3, .dead), (6, .v (.bool true)), (7, .dead), (8, .dead), (11, .dead), (15, .dead), (16, .dead), (17, .dead), (18, .dead), (38, .dead)]) (ob2 := [(34, .p [(.int .i64 x1233)]), (3, .r [.fn 98 [.ptr 0 0, .ptr 3 0]]), (2, .p [p1243]), (1, .p [p1242]), (0, .r [.fn 80 [.v (.ipt [p1190]), .ptr 1 0, .ptr 2 0]])]) (st' := ⟨[], [(0, .dead), (1, .dead), (2, .dead), (3, .dead), (6, .v (.bool true)), (7, .dead), (8, .dead), (11, .dead), (15, .dead), (16, .dead), (17, .dead), (18, .dead), (38, .dead)], [(0, .r [.fn 80 [.v (.ipt [p1190]), .ptr 1 0, .ptr 2 0]]), (1, .p [p1242]), (2, .p [p1243]), (3, .r [.fn 98 [.ptr 0 0, .ptr 3 0]])], 4, []⟩) (.cons _ _ _ _ _ (.dead _) (.cons _ _ _ _ _ (.dead _) (.cons _ _ _ _ _ (.refl _) (.cons _ _ _ _ _ (.dead _) (.cons _ _ _ _ _ (.refl _) (.cons _ _ _ _ _ (.dead _) (.cons _ _ _ _ _ (.dead _) (.cons _ _ _ _ _ (.refl _) (.cons _ _ _ _ _ (.dead _) (.cons _ _ _ _ _ (.dead _) (.cons _ _ _ _ _ (.dead _) (.cons _ _ _ _ _ (.dead _) (.cons _ _ _ _ _ (.dead _) .nil))))))))))))) (.cons _ _ _ _ _ (DLes.refl _) (.cons _ _ _ _ _ (DLes.refl _) (.cons _ _ _ _ _ (DLes.refl _) (.cons _ _ _ _ _ (DLes.refl _) (.cons _ _ _ _ _ (DLes.refl _) .nil))))) (by kernel_rfl) (by simp only [go_sem, ne_eq, not_false_eq_true, Nat.reduceBEq, Nat.reduceAdd, Nat.reduceSub, Nat.reduceMul, Nat.reduceLT, Nat.reduceLeDiff, Int.reduceLE, Int.reduceLT, Int.reduceToNat, Int.reduceBEq, Int.reduceBNe, Int.le_refl, Nat.le_refl, decide_true, decide_false, Int.cast_ofNat_Int, ↓reduceIte, resQ_tmp, resQ_cell, resQ_nil, retD_one, retD_two, retD_three, retD_none]; try simp [R.val, retD_one, retD_two, retD_three, retD_none])
          · refine W_sound tab_ok mixed 8 _ _ _ ?_
            simp -implicitDefEqProofs only [go_sem, ne_eq, not_false_eq_true, Nat.reduceBEq, Nat.reduceAdd, Nat.reduceSub, Nat.reduceMul, Nat.reduceLT, Nat.reduceLeDiff, Int.reduceLE, Int.reduceLT, Int.reduceToNat, Int.reduceBEq, Int.reduceBNe, Int.le_refl, Nat.le_refl, decide_true, decide_false, Int.cast_ofNat_Int, ↓reduceIte, h1195, h1198, h1228, g1229, g1230, g1231, h1232, h1244, h1246]
            repeat with_reducible refine And.intro (by first | kernel_rfl | decide) ?_
            exact cutQ _ ((Wk_le (.cons _ _ _ _ _ (.refl _) (.cons _ _ _ _ _ (.refl _) (.cons _ _ _ _ _ (.refl _) (.cons _ _ _ _ _ (.refl _) (.cons _ _ _ _ _ (.refl _) (.cons _ _ _ _ _ (.dead _) (.cons _ _ _ _ _ (.dead _) (.cons _ _ _ _ _ (.refl _) (.cons _ _ _ _ _ (.refl _) (.cons _ _ _ _ _ (.refl _) (.cons _ _ _ _ _ (.refl _) (.cons _ _ _ _ _ (.dead _) (.cons _ _ _ _ _ (.dead _) .nil))))))))))))) (OLe.refl _)).trans (cmpS_ok (st' := ⟨[], [(0, .v .nl), (1, .v (.lst false n1196 c1197)), (2, .dead), (3, .ptr 3 0), (6, .dead), (7, .dead), (8, .dead), (11, .dead), (15, .v (.lst false n1196 c1197)), (16, .v (.int .i64 ((n1196 : Nat) : Int))), (17, .v (.int .i64 (IntKind.i64.wrap (x1225 + 1)))), (18, .dead), (38, .dead)], [(0, .r [.fn 80 [.v (.ipt [p1190]), .ptr 1 0, .ptr 2 0]]), (1, .p [p1242]), (2, .p [p1243]), (3, .r [.fn 98 [.ptr 0 0, .ptr 3 0]])], 4, []⟩) (by kernel_rfl))) ⟨n, Nat.lt_succ_self n, _, _, _, h1255, rfl⟩
        · refine W_sound tab_ok mixed 7 _ _ _ ?_
          simp -implicitDefEqProofs only [go_sem, ne_eq, not_false_eq_true, Nat.reduceBEq, Nat.reduceAdd, Nat.reduceSub, Nat.reduceMul, Nat.reduceLT, Nat.reduceLeDiff, Int.reduceLE, Int.reduceLT, Int.reduceToNat, Int.reduceBEq, Int.reduceBNe, Int.le_refl, Nat.le_refl, decide_true, decide_false, Int.cast_ofNat_Int, ↓reduceIte, h1195, h1198, h1228]
          repeat with_reducible refine And.intro (by first | kernel_rfl | decide) ?_
          obtain rfl := Option.some.inj h1255
          exact cutQ _ ((Wk_le (.cons _ _ _ _ _ (.dead _) (.cons _ _ _ _ _ (.dead _) (.cons _ _ _ _ _ (.refl _) (.cons _ _ _ _ _ (.dead _) (.cons _ _ _ _ _ (.refl _) (.cons _ _ _ _ _ (.refl _) (.cons _ _ _ _ _ (.refl _) (.cons _ _ _ _ _ (.refl _) (.cons _ _ _ _ _ (.dead _) (.cons _ _ _ _ _ (.dead _) (.cons _ _ _ _ _ (.dead _) (.cons _ _ _ _ _ (.dead _) (.cons _ _ _ _ _ (.refl _) .nil))))))))))))) (OLe.refl _)).trans (cmpS_ok (st' := ⟨[], [(0, .dead), (1, .dead), (2, .dead), (3, .dead), (6, .dead), (7, .dead), (8, .dead), (11, .dead), (15, .dead), (16, .dead), (17, .dead), (18, .dead), (38, .dead)], [(0, .r [.fn 80 [.v (.ipt [p1190]), .ptr 1 0, .ptr 2 0]]), (1, .p [p1226]), (2, .p [p1227]), (3, .r [.fn 98 [.ptr 0 0, .ptr 3 0]])], 4, []⟩) (by kernel_rfl))) ⟨_, _, rfl, rfl⟩
    · rintro _ ⟨p1248, p1249, rfl, rfl⟩
      (try dsimp only at h1256)
      refine W_sound tab_ok mixed 6 _ _ _ ?_
      simp -implicitDefEqProofs only [go_sem, ne_eq, not_false_eq_true, Nat.reduceBEq, Nat.reduceAdd, Nat.reduceSub, Nat.reduceMul, Nat.reduceLT, Nat.reduceLeDiff, Int.reduceLE, Int.reduceLT, Int.reduceToNat, Int.reduceBEq, Int.reduceBNe, Int.le_refl, Nat.le_refl, decide_true, decide_false, Int.cast_ofNat_Int, ↓reduceIte, h1195, h1198]
      repeat with_reducible refine And.intro (by first | kernel_rfl | decide) ?_
      simp only [Option.some.injEq, Prod.mk.injEq] at h1256; obtain ⟨rfl, rfl, rfl⟩ := h1256
      exact finD (e2 := [(0, .dead), (1, .dead), (2, .dead), (3, .dead), (6, .v (.bool false)), (7, .dead), (8, .dead), (11, .dead), (15, .dead), (16, .dead), (17, .dead), (18, .dead), (38, .dead)]) (ob2 := [(0, .r [.fn 80 [.v (.ipt [p1190]), .ptr 1 0, .ptr 2 0]]), (1, .p [p1248]), (2, .p [p1249]), (3, .r [.fn 98 [.ptr 0 0, .ptr 3 0]])]) (st' := ⟨[], [(0, .dead), (1, .dead), (2, .dead), (3, .dead), (6, .v (.bool false)), (7, .dead), (8, .dead), (11, .dead), (15, .dead), (16, .dead), (17, .dead), (18, .dead), (38, .dead)], [(0, .r [.fn 80 [.v (.ipt [p1190]), .ptr 1 0, .ptr 2 0]]), (1, .p [p1248]), (2, .p [p1249]), (3, .r [.fn 98 [.ptr 0 0, .ptr 3 0]])], 4, []⟩) (.cons _ _ _ _ _ (.refl _) (.cons _ _ _ _ _ (.refl _) (.cons _ _ _ _ _ (.refl _) (.cons _ _ _ _ _ (.refl _) (.cons _ _ _ _ _ (.refl _) (.cons _ _ _ _ _ (.refl _) (.cons _ _ _ _ _ (.refl _) (.cons _ _ _ _ _ (.refl _) (.cons _ _ _ _ _ (.refl _) (.cons _ _ _ _ _ (.refl _) (.cons _ _ _ _ _ (.refl _) (.cons _ _ _ _ _ (.refl _) (.cons _ _ _ _ _ (.refl _) .nil))))))))))))) (.cons _ _ _ _ _ (DLes.refl _) (.cons _ _ _ _ _ (DLes.refl _) (.cons _ _ _ _ _ (DLes.refl _) (.cons _ _ _ _ _ (DLes.refl _) .nil)))) (by kernel_rfl) (by simp only [go_sem, ne_eq, not_false_eq_true, Nat.reduceBEq, Nat.reduceAdd, Nat.reduceSub, Nat.reduceMul, Nat.reduceLT, Nat.reduceLeDiff, Int.reduceLE, Int.reduceLT, Int.reduceToNat, Int.reduceBEq, Int.reduceBNe, Int.le_refl, Nat.le_refl, decide_true, decide_false, Int.cast_ofNat_Int, ↓reduceIte, resQ_tmp, resQ_cell, resQ_nil, retD_one, retD_two, retD_three, retD_none]; try simp [R.val, retD_one, retD_two, retD_three, retD_none])

def m79 (N : Nat) (x1265 : Int) (p1266 : PV) (p1267 : PV) (p1268 : PV) : Option ((PV × PV × PV)) :=
  bnd' (m77 N x1265) fun p1271 =>
  getL p1271 fun n1274 c1275 =>
  bnd' (m98 N (.lst false n1274 c1275) p1266 p1267 p1268) fun (p1276, p1278, p1279) =>
  getB p1276 fun b1281 =>
  some ((.bool b1281), p1278, p1279)
theorem c79 (N : Nat) (x1265 : Int) (p1266 : PV) (p1267 : PV) (p1268 : PV) (r : PV) (p1284 : PV) (p1285 : PV) (h : m79 N x1265 p1266 p1267 p1268 = some (r, p1284, p1285)) : V.Fn Try.prog 79 2 [.v (.int .i64 x1265), .fn 80 [.v (.ipt [p1266]), .ptr 0 0, .ptr 1 0]] [(0, .p [p1267]), (1, .p [p1268])] (fun d ob' => d = .v r ∧ ob' = [(0, .p [p1284]), (1, .p [p1285])]) := by
  unfold m79 at h
  refine Fn_of (sz := 11) tab_ok [0, 1, 3, 4, 5] [.tmp 4] Try.func79 rfl rfl rfl (by simp) ?_
  simp only [initSt, initEnv, List.map_cons, List.map_nil, List.getD_cons_zero, List.getD_cons_succ, List.getD_nil]
  have hh := bnd'_some h; clear h; obtain ⟨p1271, h1272, h⟩ := hh
  refine W_sound tab_ok mixed 18 _ _ _ ?_
  simp -implicitDefEqProofs only [go_sem, ne_eq, not_false_eq_true, Nat.reduceBEq, Nat.reduceAdd, Nat.reduceSub, Nat.reduceMul, Nat.reduceLT, Nat.reduceLeDiff, Int.reduceLE, Int.reduceLT, Int.reduceToNat, Int.reduceBEq, Int.reduceBNe, Int.le_refl, Nat.le_refl, decide_true, decide_false, Int.cast_ofNat_Int, ↓reduceIte]
  repeat with_reducible refine And.intro (by first | kernel_rfl | decide) ?_
  refine Wp_callP (c77 N _ _ h1272) (by kernel_rfl) rfl rfl rfl rfl (by decide) ?_
  have hh := getL_some h; clear h; obtain ⟨n1274, c1275, h1273, h⟩ := hh
  have hh := bnd'_some h; clear h; obtain ⟨⟨p1276, p1278, p1279⟩, h1277, h⟩ := hh
  (try dsimp only at h)
  (try simp -implicitDefEqProofs only [go_sem, ne_eq, not_false_eq_true, Nat.reduceBEq, Nat.reduceAdd, Nat.reduceSub, Nat.reduceMul, Nat.reduceLT, Nat.reduceLeDiff, Int.reduceLE, Int.reduceLT, Int.reduceToNat, Int.reduceBEq, Int.reduceBNe, Int.le_refl, Nat.le_refl, decide_true, decide_false, Int.cast_ofNat_Int, ↓reduceIte, h1273])
  refine Wp_callD [5, 0, 1, 11] (c98 N _ _ _ _ _ _ _ h1277) rfl rfl rfl (by first | rfl | (simp only [go_sem, ne_eq, not_false_eq_true, Nat.reduceBEq, Nat.reduceAdd, Nat.reduceSub, Nat.reduceMul, Nat.reduceLT, Nat.reduceLeDiff, Int.reduceLE, Int.reduceLT, Int.reduceToNat, Int.reduceBEq, Int.reduceBNe, Int.le_refl, Nat.le_refl, decide_true, decide_false, Int.cast_ofNat_Int, ↓reduceIte, h1273] <;> rfl)) rfl (by kernel_rfl) ?_
  have hh := getB_some h; clear h; obtain ⟨b1281, h1280, h⟩ := hh
  refine W_sound tab_ok mixed 4 _ _ _ ?_
  simp -implicitDefEqProofs only [go_sem, ne_eq, not_false_eq_true, Nat.reduceBEq, Nat.reduceAdd, Nat.reduceSub, Nat.reduceMul, Nat.reduceLT, Nat.reduceLeDiff, Int.reduceLE, Int.reduceLT, Int.reduceToNat, Int.reduceBEq, Int.reduceBNe, Int.le_refl, Nat.le_refl, decide_true, decide_false, Int.cast_ofNat_Int, ↓reduceIte, h1273, h1280]
  repeat with_reducible refine And.intro (by first | kernel_rfl | decide) ?_
  simp only [Option.some.injEq, Prod.mk.injEq] at h; obtain ⟨rfl, rfl, rfl⟩ := h
  exact finD (e2 := [(0, .dead), (1, .dead), (3, .dead), (4, .v (.bool b1281)), (5, .dead)]) (ob2 := [(11, .r [.fn 98 [.ptr 5 0, .ptr 11 0]]), (1, .p [p1279]), (0, .p [p1278]), (5, .r [.fn 80 [.v (.ipt [p1266]), .ptr 0 0, .ptr 1 0]])]) (st' := ⟨[], [(0, .dead), (1, .dead), (3, .dead), (4, .v (.bool b1281)), (5, .dead)], [(0, .p [p1278]), (1, .p [p1279])], 2, []⟩) (.cons _ _ _ _ _ (.dead _) (.cons _ _ _ _ _ (.dead _) (.cons _ _ _ _ _ (.dead _) (.cons _ _ _ _ _ (.refl _) (.cons _ _ _ _ _ (.dead _) .nil))))) (.cons _ _ _ _ _ (DLes.refl _) (.cons _ _ _ _ _ (DLes.refl _) (.cons _ _ _ _ _ (DLes.refl _) (.cons _ _ _ _ _ (DLes.refl _) .nil)))) (by kernel_rfl) (by simp only [go_sem, ne_eq, not_false_eq_true, Nat.reduceBEq, Nat.reduceAdd, Nat.reduceSub, Nat.reduceMul, Nat.reduceLT, Nat.reduceLeDiff, Int.reduceLE, Int.reduceLT, Int.reduceToNat, Int.reduceBEq, Int.reduceBNe, Int.le_refl, Nat.le_refl, decide_true, decide_false, Int.cast_ofNat_Int, ↓reduceIte, resQ_tmp, resQ_cell, resQ_nil, retD_one, retD_two, retD_three, retD_none]; try simp [R.val, retD_one, retD_two, retD_three, retD_none])

def m35 (N : Nat) (p437 : PV) : Option (PV) :=
  getL p437 fun n439 c440 =>
  bnd' (m23 N (.lst false n439 c440)) fun p441 =>
  getI .i64 p441 fun x444 =>
  brn (x444 != 0) (
    some (.tup [(.lst false 0 []), (.lst false 0 []), (.int .i64 x444)])) (
    bnd' (m79 N ((n439 : Nat) : Int) (.lst false n439 c440) .nl .nl) fun (p1286, p1288, p1289) =>
    getB p1286 fun b1291 =>
    brn b1291 (
      getL p1288 fun n1294 c1295 =>
      getL p1289 fun n1297 c1298 =>
      some (.tup [(.lst false n1294 c1295), (.lst false n1297 c1298), (.int .i64 0)])) (
      some (.tup [(.lst false 0 []), (.lst false 0 []), (.int .i64 12)])))
theorem c35 (N : Nat) (p437 : PV) (r : PV)  (h : m35 N p437 = some r) : FnP Try.prog 35 [p437] r := by
  unfold m35 at h
  refine Fn_of (sz := 20) tab_ok [0, 1, 2, 3, 4, 5, 6, 10, 17] [.cell 2 23, .cell 3 23, .tmp 4] Try.func35 rfl rfl rfl (by simp) ?_
  simp only [initSt, initEnv, List.map_cons, List.map_nil, List.getD_cons_zero, List.getD_cons_succ, List.getD_nil]
  have hh := getL_some h; clear h; obtain ⟨n439, c440, h438, h⟩ := hh
  have hh := bnd'_some h; clear h; obtain ⟨p441, h442, h⟩ := hh
  refine W_sound tab_ok mixed 11 _ _ _ ?_
  simp -implicitDefEqProofs only [go_sem, ne_eq, not_false_eq_true, Nat.reduceBEq, Nat.reduceAdd, Nat.reduceSub, Nat.reduceMul, Nat.reduceLT, Nat.reduceLeDiff, Int.reduceLE, Int.reduceLT, Int.reduceToNat, Int.reduceBEq, Int.reduceBNe, Int.le_refl, Nat.le_refl, decide_true, decide_false, Int.cast_ofNat_Int, ↓reduceIte, h438]
  repeat with_reducible refine And.intro (by first | kernel_rfl | decide) ?_
  refine Wp_callP (c23 N _ _ h442) (by kernel_rfl) rfl rfl rfl rfl (by decide) ?_
  have hh := getI_some h; clear h; obtain ⟨x444, h443, h⟩ := hh
  have hh := brn_some h; clear h; rcases hh with ⟨h445, h⟩ | ⟨h445, h⟩
  · refine W_sound tab_ok mixed 17 _ _ _ ?_
    simp -implicitDefEqProofs only [go_sem, ne_eq, not_false_eq_true, Nat.reduceBEq, Nat.reduceAdd, Nat.reduceSub, Nat.reduceMul, Nat.reduceLT, Nat.reduceLeDiff, Int.reduceLE, Int.reduceLT, Int.reduceToNat, Int.reduceBEq, Int.reduceBNe, Int.le_refl, Nat.le_refl, decide_true, decide_false, Int.cast_ofNat_Int, ↓reduceIte, h438, h443, h445]
    repeat with_reducible refine And.intro (by first | kernel_rfl | decide) ?_
    refine FinQ_wk (Wk_freeze 2 [.nl] (by rfl) (by decide) (by decide)) ?_
    simp -implicitDefEqProofs only [go_sem, ne_eq, not_false_eq_true, Nat.reduceBEq, Nat.reduceAdd, Nat.reduceSub, Nat.reduceMul, Nat.reduceLT, Nat.reduceLeDiff, Int.reduceLE, Int.reduceLT, Int.reduceToNat, Int.reduceBEq, Int.reduceBNe, Int.le_refl, Nat.le_refl, decide_true, decide_false, Int.cast_ofNat_Int, ↓reduceIte, h438, h443, h445]
    refine FinQ_wk (Wk_freeze 3 [.nl] (by rfl) (by decide) (by decide)) ?_
    simp -implicitDefEqProofs only [go_sem, ne_eq, not_false_eq_true, Nat.reduceBEq, Nat.reduceAdd, Nat.reduceSub, Nat.reduceMul, Nat.reduceLT, Nat.reduceLeDiff, Int.reduceLE, Int.reduceLT, Int.reduceToNat, Int.reduceBEq, Int.reduceBNe, Int.le_refl, Nat.le_refl, decide_true, decide_false, Int.cast_ofNat_Int, ↓reduceIte, h438, h443, h445]
    obtain rfl := Option.some.inj h
    exact finC [(2, .v (.ipt [.nl])), (3, .v (.ipt [.nl])), (4, .v (.int .i64 x444))] [(2, .v (.ipt [(.lst false 0 [])])), (3, .v (.ipt [(.lst false 0 [])])), (4, .v (.int .i64 x444))] (by simp [leE, lk_cons]) (.cons _ _ _ _ _ (.v _ _ (.ipt _ _ (.cons _ _ _ _ (.nl false) .nil))) (.cons _ _ _ _ _ (.v _ _ (.ipt _ _ (.cons _ _ _ _ (.nl false) .nil))) (.cons _ _ _ _ _ (.v _ _ (.refl _)) .nil))) (by rfl) (by simp [leE, lk_cons]) (by decide) (by decide) rfl (by simp only [go_sem, ne_eq, not_false_eq_true, Nat.reduceBEq, Nat.reduceAdd, Nat.reduceSub, Nat.reduceMul, Nat.reduceLT, Nat.reduceLeDiff, Int.reduceLE, Int.reduceLT, Int.reduceToNat, Int.reduceBEq, Int.reduceBNe, Int.le_refl, Nat.le_refl, decide_true, decide_false, Int.cast_ofNat_Int, ↓reduceIte, resQ_tmp, resQ_cell, resQ_nil, retD_one, retD_two, retD_three, retD_none]; try simp [R.val, retD_one, retD_two, retD_three, retD_none])
  · refine W_sound tab_ok mixed 10 _ _ _ ?_
    simp -implicitDefEqProofs only [go_sem, ne_eq, not_false_eq_true, Nat.reduceBEq, Nat.reduceAdd, Nat.reduceSub, Nat.reduceMul, Nat.reduceLT, Nat.reduceLeDiff, Int.reduceLE, Int.reduceLT, Int.reduceToNat, Int.reduceBEq, Int.reduceBNe, Int.le_refl, Nat.le_refl, decide_true, decide_false, Int.cast_ofNat_Int, ↓reduceIte, h438, h443, h445]
    repeat with_reducible refine And.intro (by first | kernel_rfl | decide) ?_
    refine Wp_wkK (Wk_freeze 1 [(.lst false n439 c440)] (by rfl) (by decide) (by decide)) rfl ?_
    simp -implicitDefEqProofs only [go_sem, ne_eq, not_false_eq_true, Nat.reduceBEq, Nat.reduceAdd, Nat.reduceSub, Nat.reduceMul, Nat.reduceLT, Nat.reduceLeDiff, Int.reduceLE, Int.reduceLT, Int.reduceToNat, Int.reduceBEq, Int.reduceBNe, Int.le_refl, Nat.le_refl, decide_true, decide_false, Int.cast_ofNat_Int, ↓reduceIte, h438, h443, h445]
    have hh := bnd'_some h; clear h; obtain ⟨⟨p1286, p1288, p1289⟩, h1287, h⟩ := hh
    (try dsimp only at h)
    refine W_sound tab_ok mixed 4 _ _ _ ?_
    simp -implicitDefEqProofs only [go_sem, ne_eq, not_false_eq_true, Nat.reduceBEq, Nat.reduceAdd, Nat.reduceSub, Nat.reduceMul, Nat.reduceLT, Nat.reduceLeDiff, Int.reduceLE, Int.reduceLT, Int.reduceToNat, Int.reduceBEq, Int.reduceBNe, Int.le_refl, Nat.le_refl, decide_true, decide_false, Int.cast_ofNat_Int, ↓reduceIte, h438, h443, h445]
    repeat with_reducible refine And.intro (by first | kernel_rfl | decide) ?_
    refine Wp_callD [2, 3] (c79 N _ _ _ _ _ _ _ h1287) rfl rfl rfl (by first | rfl | (simp only [go_sem, ne_eq, not_false_eq_true, Nat.reduceBEq, Nat.reduceAdd, Nat.reduceSub, Nat.reduceMul, Nat.reduceLT, Nat.reduceLeDiff, Int.reduceLE, Int.reduceLT, Int.reduceToNat, Int.reduceBEq, Int.reduceBNe, Int.le_refl, Nat.le_refl, decide_true, decide_false, Int.cast_ofNat_Int, ↓reduceIte, h438, h443, h445] <;> rfl)) rfl (by kernel_rfl) ?_
    have hh := getB_some h; clear h; obtain ⟨b1291, h1290, h⟩ := hh
    have hh := brn_some h; clear h; rcases hh with ⟨h1292, h⟩ | ⟨h1292, h⟩
    · have hh := getL_some h; clear h; obtain ⟨n1294, c1295, h1293, h⟩ := hh
      have hh := getL_some h; clear h; obtain ⟨n1297, c1298, h1296, h⟩ := hh
      refine W_sound tab_ok mixed 20 _ _ _ ?_
      simp -implicitDefEqProofs only [go_sem, ne_eq, not_false_eq_true, Nat.reduceBEq, Nat.reduceAdd, Nat.reduceSub, Nat.reduceMul, Nat.reduceLT, Nat.reduceLeDiff, Int.reduceLE, Int.reduceLT, Int.reduceToNat, Int.reduceBEq, Int.reduceBNe, Int.le_refl, Nat.le_refl, decide_true, decide_false, Int.cast_ofNat_Int, ↓reduceIte, h438, h443, h445, h1290, h1292, h1293, h1296]
      repeat with_reducible refine And.intro (by first | kernel_rfl | decide) ?_
      refine FinQ_wk (Wk_freeze 2 [(.lst false n1294 c1295)] (by rfl) (by decide) (by decide)) ?_
      simp -implicitDefEqProofs only [go_sem, ne_eq, not_false_eq_true, Nat.reduceBEq, Nat.reduceAdd, Nat.reduceSub, Nat.reduceMul, Nat.reduceLT, Nat.reduceLeDiff, Int.reduceLE, Int.reduceLT, Int.reduceToNat, Int.reduceBEq, Int.reduceBNe, Int.le_refl, Nat.le_refl, decide_true, decide_false, Int.cast_ofNat_Int, ↓reduceIte, h438, h443, h445, h1290, h1292, h1293, h1296]
      refine FinQ_wk (Wk_freeze 3 [(.lst false n1297 c1298)] (by rfl) (by decide) (by decide)) ?_
      simp -implicitDefEqProofs only [go_sem, ne_eq, not_false_eq_true, Nat.reduceBEq, Nat.reduceAdd, Nat.reduceSub, Nat.reduceMul, Nat.reduceLT, Nat.reduceLeDiff, Int.reduceLE, Int.reduceLT, Int.reduceToNat, Int.reduceBEq, Int.reduceBNe, Int.le_refl, Nat.le_refl, decide_true, decide_false, Int.cast_ofNat_Int, ↓reduceIte, h438, h443, h445, h1290, h1292, h1293, h1296]
      obtain rfl := Option.some.inj h
      exact finC [(2, .v (.ipt [(.lst false n1294 c1295)])), (3, .v (.ipt [(.lst false n1297 c1298)])), (4, .v (.int .i64 0))] [(2, .v (.ipt [(.lst false n1294 c1295)])), (3, .v (.ipt [(.lst false n1297 c1298)])), (4, .v (.int .i64 0))] (by simp [leE, lk_cons]) (.cons _ _ _ _ _ (.v _ _ (.refl _)) (.cons _ _ _ _ _ (.v _ _ (.refl _)) (.cons _ _ _ _ _ (.v _ _ (.refl _)) .nil))) (by rfl) (by simp [leE, lk_cons]) (by decide) (by decide) rfl (by simp only [go_sem, ne_eq, not_false_eq_true, Nat.reduceBEq, Nat.reduceAdd, Nat.reduceSub, Nat.reduceMul, Nat.reduceLT, Nat.reduceLeDiff, Int.reduceLE, Int.reduceLT, Int.reduceToNat, Int.reduceBEq, Int.reduceBNe, Int.le_refl, Nat.le_refl, decide_true, decide_false, Int.cast_ofNat_Int, ↓reduceIte, resQ_tmp, resQ_cell, resQ_nil, retD_one, retD_two, retD_three, retD_none]; try simp [R.val, retD_one, retD_two, retD_three, retD_none])
    · refine W_sound tab_ok mixed 17 _ _ _ ?_
      simp -implicitDefEqProofs only [go_sem, ne_eq, not_false_eq_true, Nat.reduceBEq, Nat.reduceAdd, Nat.reduceSub, Nat.reduceMul, Nat.reduceLT, Nat.reduceLeDiff, Int.reduceLE, Int.reduceLT, Int.reduceToNat, Int.reduceBEq, Int.reduceBNe, Int.le_refl, Nat.le_refl, decide_true, decide_false, Int.cast_ofNat_Int, ↓reduceIte, h438, h443, h445, h1290, h1292]
      repeat with_reducible refine And.intro (by first | kernel_rfl | decide) ?_
      refine FinQ_wk (Wk_freeze 2 [.nl] (by rfl) (by decide) (by decide)) ?_
      simp -implicitDefEqProofs only [go_sem, ne_eq, not_false_eq_true, Nat.reduceBEq, Nat.reduceAdd, Nat.reduceSub, Nat.reduceMul, Nat.reduceLT, Nat.reduceLeDiff, Int.reduceLE, Int.reduceLT, Int.reduceToNat, Int.reduceBEq, Int.reduceBNe, Int.le_refl, Nat.le_refl, decide_true, decide_false, Int.cast_ofNat_Int, ↓reduceIte, h438, h443, h445, h1290, h1292]
      refine FinQ_wk (Wk_freeze 3 [.nl] (by rfl) (by decide) (by decide)) ?_
      simp -implicitDefEqProofs only [go_sem, ne_eq, not_false_eq_true, Nat.reduceBEq, Nat.reduceAdd, Nat.reduceSub, Nat.reduceMul, Nat.reduceLT, Nat.reduceLeDiff, Int.reduceLE, Int.reduceLT, Int.reduceToNat, Int.reduceBEq, Int.reduceBNe, Int.le_refl, Nat.le_refl, decide_true, decide_false, Int.cast_ofNat_Int, ↓reduceIte, h438, h443, h445, h1290, h1292]
      obtain rfl := Option.some.inj h
      exact finC [(2, .v (.ipt [.nl])), (3, .v (.ipt [.nl])), (4, .v (.int .i64 12))] [(2, .v (.ipt [(.lst false 0 [])])), (3, .v (.ipt [(.lst false 0 [])])), (4, .v (.int .i64 12))] (by simp [leE, lk_cons]) (.cons _ _ _ _ _ (.v _ _ (.ipt _ _ (.cons _ _ _ _ (.nl false) .nil))) (.cons _ _ _ _ _ (.v _ _ (.ipt _ _ (.cons _ _ _ _ (.nl false) .nil))) (.cons _ _ _ _ _ (.v _ _ (.refl _)) .nil))) (by rfl) (by simp [leE, lk_cons]) (by decide) (by decide) rfl (by simp only [go_sem, ne_eq, not_false_eq_true, Nat.reduceBEq, Nat.reduceAdd, Nat.reduceSub, Nat.reduceMul, Nat.reduceLT, Nat.reduceLeDiff, Int.reduceLE, Int.reduceLT, Int.reduceToNat, Int.reduceBEq, Int.reduceBNe, Int.le_refl, Nat.le_refl, decide_true, decide_false, Int.cast_ofNat_Int, ↓reduceIte, resQ_tmp, resQ_cell, resQ_nil, retD_one, retD_two, retD_three, retD_none]; try simp [R.val, retD_one, retD_two, retD_three, retD_none])
end Go.Proofs.Yteidcinajdehkaa
