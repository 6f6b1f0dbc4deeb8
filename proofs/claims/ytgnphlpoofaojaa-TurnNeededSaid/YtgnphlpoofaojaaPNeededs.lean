/-
  TurnCovered: what the functions compute answers as the law says.
  TurnShifted: what the functions compute answers as the law says.
  TurnFair: what the functions compute answers as the law says.
-/
import Derived.Test.YtgnphlpoofaojaaPLawcov
import Derived.Test.YtgnphlpoofaojaaPCoverm
import Derived.Test.YtgnphlpoofaojaaB
import Derived.Test.YtgnphlpoofaojaaV33
namespace Go.Proofs.Ytgnphlpoofaojaa
open Go.V
set_option maxRecDepth 100000
set_option maxHeartbeats 4000000
set_option linter.unusedSimpArgs false
set_option linter.unusedVariables false
attribute [local go_sem] tl1 tl2 tl3 tl4 tl5 tl9 tl17 tl21 tl22 tl23 tl24 tl25 tl26 tl27 tl28 tl29 tl31 tl33 tl34 tl36 tl37 tl38 tl39 tl40 tl41 tl42 tl43 tl44 tl46 tl47 tl49 tl50 tl52 tl53 tl54 tl55 tl56 tl57 tl58 tl60 tl62 tl63 tl64 tl65 tl66 tl67 tl68 tl69 tl70 tl71 tl72 tl74 tl75 tl76 tl77 tl78 tl79 tl80 tl81 tl82 tl83 tl84 tl85 tl86 tl87 tl88 tl89 tl90 tl91 tl92 tl93 tl94 tl95 tl96 tl97 tl98 tl99 tl100 tl102 tl103 tl104 tl105 tl106 tl107 tl108 tl109 tl110 tl111 tl112 tl113 tl114 tl115 tl116 tl117 tl118 tl119 tl120 tl121 tl122 tl123 tl124 tl125 tl126 tl127 tl128 tl129 tl130 tl131 tl132 tl133 tl134 tl140 tl141 tl145

def m74_L0 (N : Nat) (x3787 : Int) (n3789 : Nat) (c3790 : List PV) : Nat → Int → Option ((PV ⊕ Unit))
  | 0, _ => none
  | n + 1, x3791 =>
    brn (decide (x3791 < ((n3789 : Nat) : Int))) (
      grd (0 ≤ x3791 ∧ x3791 < ((n3789 : Nat) : Int)) <|
      grd (0 < List.length (List.drop (Int.toNat x3791) c3790)) <|
      getI .i64 (gp c3790 (Int.toNat x3791)) fun x3797 =>
      brn (x3787 == x3797) (
        some (.inl (.int .i64 x3791))) (
        m74_L0 N x3787 n3789 c3790 n (IntKind.i64.wrap (x3791 + 1)))) (
      some (.inr ()))
def m74 (N : Nat) (p3786 : PV) (x3787 : Int) : Option (PV) :=
  getL p3786 fun n3789 c3790 =>
  bnd' (m74_L0 N x3787 n3789 c3790 N 0) fun o =>
  match o with
  | .inl p3799 =>
    some p3799
  | .inr () =>
    some (.int .i64 (-1))
theorem c74 (N : Nat) (p3786 : PV) (x3787 : Int) (r : PV)  (h : m74 N p3786 x3787 = some r) : FnP Try.prog 74 [p3786, (.int .i64 x3787)] r := by
  unfold m74 at h
  refine Fn_of (sz := 19) tab_ok [0, 1, 4, 5, 7, 8, 9, 16] [.tmp 4] Try.func74 rfl rfl rfl (by simp) ?_
  simp only [initSt, initEnv, List.map_cons, List.map_nil, List.getD_cons_zero, List.getD_cons_succ, List.getD_nil]
  have hh := getL_some h; clear h; obtain ⟨n3789, c3790, h3788, h⟩ := hh
  refine W_sound tab_ok mixed 11 _ _ _ ?_
  simp -implicitDefEqProofs only [go_sem, ne_eq, not_false_eq_true, Nat.reduceBEq, Nat.reduceAdd, Nat.reduceSub, Nat.reduceMul, Nat.reduceLT, Nat.reduceLeDiff, Int.reduceLE, Int.reduceLT, Int.reduceToNat, Int.reduceBEq, Int.reduceBNe, Int.le_refl, Nat.le_refl, decide_true, decide_false, Int.cast_ofNat_Int, ↓reduceIte, h3788]
  repeat with_reducible refine And.intro (by first | kernel_rfl | decide) ?_
  have hh := bnd'_some h; clear h; obtain ⟨o3800, h3801, h3802⟩ := hh
  refine Wp_cut (fun s => (.inr ()) = o3800 ∧ s = ⟨[], [(0, .dead), (1, .dead), (4, .dead), (5, .dead), (7, .dead), (8, .dead), (9, .dead), (16, .dead)], [], 0, []⟩) ?_ ?_
  · refine Wp_block ?_
    refine Wp_loopG (fun n s => ∃ x3791, m74_L0 N x3787 n3789 c3790 n x3791 = some o3800 ∧ s = ⟨[], [(0, .v (.lst false n3789 c3790)), (1, .v (.int .i64 x3787)), (4, .dead), (5, .dead), (7, .v (.int .i64 ((n3789 : Nat) : Int))), (8, .v (.int .i64 x3791)), (9, .dead), (16, .dead)], [], 0, []⟩) N _ ((Wk_le (.cons _ _ _ _ _ (.refl _) (.cons _ _ _ _ _ (.refl _) (.cons _ _ _ _ _ (.dead _) (.cons _ _ _ _ _ (.refl _) (.cons _ _ _ _ _ (.refl _) (.cons _ _ _ _ _ (.refl _) (.cons _ _ _ _ _ (.refl _) (.cons _ _ _ _ _ (.refl _) .nil)))))))) (OLe.refl _)).trans (cmpS_ok rfl)) ⟨_, h3801, rfl⟩ ?_
    clear h3801
    rintro n _ ⟨x3791, h3801, rfl⟩
    cases n with
    | zero => cases h3801
    | succ n =>
      rw [m74_L0] at h3801
      have hh := brn_some h3801; clear h3801; rcases hh with ⟨h3792, h3801⟩ | ⟨h3792, h3801⟩
      · have hh := grd_some h3801; clear h3801; obtain ⟨⟨g3793, g3794⟩, h3801⟩ := hh
        have hh := grd_some h3801; clear h3801; obtain ⟨g3795, h3801⟩ := hh
        have hh := getI_some h3801; clear h3801; obtain ⟨x3797, h3796, h3801⟩ := hh
        have hh := brn_some h3801; clear h3801; rcases hh with ⟨h3798, h3801⟩ | ⟨h3798, h3801⟩
        · refine W_sound tab_ok mixed 31 _ _ _ ?_
          simp -implicitDefEqProofs only [go_sem, ne_eq, not_false_eq_true, Nat.reduceBEq, Nat.reduceAdd, Nat.reduceSub, Nat.reduceMul, Nat.reduceLT, Nat.reduceLeDiff, Int.reduceLE, Int.reduceLT, Int.reduceToNat, Int.reduceBEq, Int.reduceBNe, Int.le_refl, Nat.le_refl, decide_true, decide_false, Int.cast_ofNat_Int, ↓reduceIte, h3788, h3792, g3793, g3794, g3795, h3796, h3798]
          repeat with_reducible refine And.intro (by first | kernel_rfl | decide) ?_
          obtain rfl := Option.some.inj h3801
          (try dsimp only at h3802)
          obtain rfl := Option.some.inj h3802
          exact finC [(4, .v (.int .i64 x3791))] [(4, .v (.int .i64 x3791))] (by simp [leE, lk_cons]) (.cons _ _ _ _ _ (.v _ _ (.refl _)) .nil) (by rfl) (by simp [leE, lk_cons]) (by decide) (by decide) rfl (by simp only [go_sem, ne_eq, not_false_eq_true, Nat.reduceBEq, Nat.reduceAdd, Nat.reduceSub, Nat.reduceMul, Nat.reduceLT, Nat.reduceLeDiff, Int.reduceLE, Int.reduceLT, Int.reduceToNat, Int.reduceBEq, Int.reduceBNe, Int.le_refl, Nat.le_refl, decide_true, decide_false, Int.cast_ofNat_Int, ↓reduceIte, resQ_tmp, resQ_cell, resQ_nil, retD_one, retD_two, retD_three, retD_none]; try simp [R.val, retD_one, retD_two, retD_three, retD_none])
        · refine W_sound tab_ok mixed 30 _ _ _ ?_
          simp -implicitDefEqProofs only [go_sem, ne_eq, not_false_eq_true, Nat.reduceBEq, Nat.reduceAdd, Nat.reduceSub, Nat.reduceMul, Nat.reduceLT, Nat.reduceLeDiff, Int.reduceLE, Int.reduceLT, Int.reduceToNat, Int.reduceBEq, Int.reduceBNe, Int.le_refl, Nat.le_refl, decide_true, decide_false, Int.cast_ofNat_Int, ↓reduceIte, h3788, h3792, g3793, g3794, g3795, h3796, h3798]
          repeat with_reducible refine And.intro (by first | kernel_rfl | decide) ?_
          exact cutQ _ ((Wk_le (.cons _ _ _ _ _ (.refl _) (.cons _ _ _ _ _ (.refl _) (.cons _ _ _ _ _ (.refl _) (.cons _ _ _ _ _ (.dead _) (.cons _ _ _ _ _ (.refl _) (.cons _ _ _ _ _ (.refl _) (.cons _ _ _ _ _ (.dead _) (.cons _ _ _ _ _ (.dead _) .nil)))))))) (OLe.refl _)).trans (cmpS_ok rfl)) ⟨n, Nat.lt_succ_self n, _, h3801, rfl⟩
      · refine W_sound tab_ok mixed 7 _ _ _ ?_
        simp -implicitDefEqProofs only [go_sem, ne_eq, not_false_eq_true, Nat.reduceBEq, Nat.reduceAdd, Nat.reduceSub, Nat.reduceMul, Nat.reduceLT, Nat.reduceLeDiff, Int.reduceLE, Int.reduceLT, Int.reduceToNat, Int.reduceBEq, Int.reduceBNe, Int.le_refl, Nat.le_refl, decide_true, decide_false, Int.cast_ofNat_Int, ↓reduceIte, h3788, h3792]
        repeat with_reducible refine And.intro (by first | kernel_rfl | decide) ?_
        obtain rfl := Option.some.inj h3801
        exact cutQ _ ((Wk_le (.cons _ _ _ _ _ (.dead _) (.cons _ _ _ _ _ (.dead _) (.cons _ _ _ _ _ (.refl _) (.cons _ _ _ _ _ (.refl _) (.cons _ _ _ _ _ (.dead _) (.cons _ _ _ _ _ (.dead _) (.cons _ _ _ _ _ (.dead _) (.cons _ _ _ _ _ (.refl _) .nil)))))))) (OLe.refl _)).trans (cmpS_ok rfl)) ⟨rfl, rfl⟩
  · rintro _ ⟨rfl, rfl⟩
    (try dsimp only at h3802)
    refine W_sound tab_ok mixed 6 _ _ _ ?_
    simp -implicitDefEqProofs only [go_sem, ne_eq, not_false_eq_true, Nat.reduceBEq, Nat.reduceAdd, Nat.reduceSub, Nat.reduceMul, Nat.reduceLT, Nat.reduceLeDiff, Int.reduceLE, Int.reduceLT, Int.reduceToNat, Int.reduceBEq, Int.reduceBNe, Int.le_refl, Nat.le_refl, decide_true, decide_false, Int.cast_ofNat_Int, ↓reduceIte, h3788]
    repeat with_reducible refine And.intro (by first | kernel_rfl | decide) ?_
    obtain rfl := Option.some.inj h3802
    exact finC [(4, .v (.int .i64 (-1)))] [(4, .v (.int .i64 (-1)))] (by simp [leE, lk_cons]) (.cons _ _ _ _ _ (.v _ _ (.refl _)) .nil) (by rfl) (by simp [leE, lk_cons]) (by decide) (by decide) rfl (by simp only [go_sem, ne_eq, not_false_eq_true, Nat.reduceBEq, Nat.reduceAdd, Nat.reduceSub, Nat.reduceMul, Nat.reduceLT, Nat.reduceLeDiff, Int.reduceLE, Int.reduceLT, Int.reduceToNat, Int.reduceBEq, Int.reduceBNe, Int.le_refl, Nat.le_refl, decide_true, decide_false, Int.cast_ofNat_Int, ↓reduceIte, resQ_tmp, resQ_cell, resQ_nil, retD_one, retD_two, retD_three, retD_none]; try simp [R.val, retD_one, retD_two, retD_three, retD_none])

def m50 (N : Nat) (p3781 : PV) (x3782 : Int) : Option (PV) :=
  getL p3781 fun n3784 c3785 =>
  bnd' (m74 N (.lst false n3784 c3785) x3782) fun p3803 =>
  getI .i64 p3803 fun x3806 =>
  some (.bool (decide (x3806 ≥ 0)))
theorem c50 (N : Nat) (p3781 : PV) (x3782 : Int) (r : PV)  (h : m50 N p3781 x3782 = some r) : FnP Try.prog 50 [p3781, (.int .i64 x3782)] r := by
  unfold m50 at h
  refine Fn_of (sz := 9) tab_ok [0, 1, 4] [.tmp 4] Try.func50 rfl rfl rfl (by simp) ?_
  simp only [initSt, initEnv, List.map_cons, List.map_nil, List.getD_cons_zero, List.getD_cons_succ, List.getD_nil]
  have hh := getL_some h; clear h; obtain ⟨n3784, c3785, h3783, h⟩ := hh
  have hh := bnd'_some h; clear h; obtain ⟨p3803, h3804, h⟩ := hh
  refine W_sound tab_ok mixed 8 _ _ _ ?_
  simp -implicitDefEqProofs only [go_sem, ne_eq, not_false_eq_true, Nat.reduceBEq, Nat.reduceAdd, Nat.reduceSub, Nat.reduceMul, Nat.reduceLT, Nat.reduceLeDiff, Int.reduceLE, Int.reduceLT, Int.reduceToNat, Int.reduceBEq, Int.reduceBNe, Int.le_refl, Nat.le_refl, decide_true, decide_false, Int.cast_ofNat_Int, ↓reduceIte, h3783]
  repeat with_reducible refine And.intro (by first | kernel_rfl | decide) ?_
  refine Wp_callP (c74 N _ _ _ h3804) (by kernel_rfl) rfl rfl rfl rfl (by decide) ?_
  have hh := getI_some h; clear h; obtain ⟨x3806, h3805, h⟩ := hh
  refine W_sound tab_ok mixed 5 _ _ _ ?_
  simp -implicitDefEqProofs only [go_sem, ne_eq, not_false_eq_true, Nat.reduceBEq, Nat.reduceAdd, Nat.reduceSub, Nat.reduceMul, Nat.reduceLT, Nat.reduceLeDiff, Int.reduceLE, Int.reduceLT, Int.reduceToNat, Int.reduceBEq, Int.reduceBNe, Int.le_refl, Nat.le_refl, decide_true, decide_false, Int.cast_ofNat_Int, ↓reduceIte, h3783, h3805]
  repeat with_reducible refine And.intro (by first | kernel_rfl | decide) ?_
  obtain rfl := Option.some.inj h
  exact finC [(4, .v (.bool (decide (x3806 ≥ 0))))] [(4, .v (.bool (decide (x3806 ≥ 0))))] (by simp [leE, lk_cons]) (.cons _ _ _ _ _ (.v _ _ (.refl _)) .nil) (by rfl) (by simp [leE, lk_cons]) (by decide) (by decide) rfl (by simp only [go_sem, ne_eq, not_false_eq_true, Nat.reduceBEq, Nat.reduceAdd, Nat.reduceSub, Nat.reduceMul, Nat.reduceLT, Nat.reduceLeDiff, Int.reduceLE, Int.reduceLT, Int.reduceToNat, Int.reduceBEq, Int.reduceBNe, Int.le_refl, Nat.le_refl, decide_true, decide_false, Int.cast_ofNat_Int, ↓reduceIte, resQ_tmp, resQ_cell, resQ_nil, retD_one, retD_two, retD_three, retD_none]; try simp [R.val, retD_one, retD_two, retD_three, retD_none])

end Go.Proofs.Ytgnphlpoofaojaa

namespace Go.Proofs.Ytgnphlpoofaojaa
open Go.V

theorem range'_step {i n : Nat} (h : i < n) : List.range' i (n - i) = i :: List.range' (i + 1) (n - (i + 1)) := by
  rw [show n - i = (n - (i + 1)) + 1 by omega, List.range'_succ]
theorem index_L (N : Nat) (H : List Nat) (hH : H.length ≤ 100) (k : Nat) : ∀ (rest done : List Nat) (fuel : Nat), H = done ++ rest → rest.length < fuel →
    ∃ o, m74_L0 N (k : Int) H.length (nL H) fuel (done.length : Int) = some o ∧ (k ∈ rest → ∃ x : Nat, o = .inl (.int .i64 (x : Int))) ∧ (k ∉ rest → o = .inr ())
  | [], done, 0, _, h => by simp at h
  | [], done, f + 1, e, _ => by
    have : H.length = done.length := by rw [e]; simp
    rw [m74_L0, brn_f (by simp; omega)]
    exact ⟨_, rfl, fun h => by simp at h, fun _ => rfl⟩
  | a :: rest, done, 0, _, h => by simp at h
  | a :: rest, done, f + 1, e, hf => by
    have hHe : H.length = done.length + (rest.length + 1) := by rw [e]; simp
    have hnl : (nL H).length = H.length := nL_len H
    have td : (Int.toNat ((done.length : Nat) : Int)) = done.length := by omega
    have hw : IntKind.i64.wrap ((done.length : Int) + 1) = ((done.length + 1 : Nat) : Int) := by rw [wrap64 (by omega) (by omega)]; omega
    have ga : gp (nL H) done.length = .int .i64 (a : Int) := by rw [e]; exact nL_gp done a _
    obtain ⟨o, o1, o2, o3⟩ := index_L N H hH k rest (done ++ [a]) f (by simp [e]) (by simp at hf; omega)
    simp only [List.length_append, List.length_cons, List.length_nil, Nat.zero_add] at o1
    rw [m74_L0, brn_t (by simp; omega), td, grd_t ⟨by omega, by omega⟩, grd_t (by simp only [List.length_drop]; omega), ga]
    simp only [getI, if_true]
    by_cases h : k = a
    · rw [brn_t (by simp; omega)]
      exact ⟨_, rfl, fun _ => ⟨done.length, rfl⟩, fun hn => absurd (by simp [h]) hn⟩
    · rw [brn_f (by simp; omega), hw]
      refine ⟨o, o1, fun hm => o2 ?_, fun hn => o3 fun hm => hn (by simp [hm])⟩
      rcases List.mem_cons.1 hm with hm | hm
      · exact absurd hm h
      · exact hm
theorem contains_ok (N : Nat) (hN : 1000 ≤ N) (H : List Nat) (hH : H.length ≤ 100) (k : Nat) : m50 N (.lst false H.length (nL H)) (k : Int) = some (.bool (decide (k ∈ H))) := by
  obtain ⟨o, o1, o2, o3⟩ := index_L N H hH k H [] N rfl (by omega)
  simp only [m50, m74, getL]
  rw [show m74_L0 N (k : Int) H.length (nL H) N 0 = some o from o1]
  by_cases h : k ∈ H
  · obtain ⟨x, hx⟩ := o2 h
    rw [hx]
    simp [bnd', getI, h]
  · rw [o3 h]
    simp [bnd', getI, h]
end Go.Proofs.Ytgnphlpoofaojaa

namespace Go.Proofs.Ytgnphlpoofaojaa
open Go.V
set_option maxRecDepth 100000
set_option maxHeartbeats 4000000
set_option linter.unusedSimpArgs false
set_option linter.unusedVariables false
attribute [local go_sem] tl1 tl2 tl3 tl4 tl5 tl9 tl17 tl21 tl22 tl23 tl24 tl25 tl26 tl27 tl28 tl29 tl31 tl33 tl34 tl36 tl37 tl38 tl39 tl40 tl41 tl42 tl43 tl44 tl46 tl47 tl49 tl50 tl52 tl53 tl54 tl55 tl56 tl57 tl58 tl60 tl62 tl63 tl64 tl65 tl66 tl67 tl68 tl69 tl70 tl71 tl72 tl74 tl75 tl76 tl77 tl78 tl79 tl80 tl81 tl82 tl83 tl84 tl85 tl86 tl87 tl88 tl89 tl90 tl91 tl92 tl93 tl94 tl95 tl96 tl97 tl98 tl99 tl100 tl102 tl103 tl104 tl105 tl106 tl107 tl108 tl109 tl110 tl111 tl112 tl113 tl114 tl115 tl116 tl117 tl118 tl119 tl120 tl121 tl122 tl123 tl124 tl125 tl126 tl127 tl128 tl129 tl130 tl131 tl132 tl133 tl134 tl140 tl141 tl145

end Go.Proofs.Ytgnphlpoofaojaa

namespace Go.Proofs.Ytgnphlpoofaojaa
open Go.V

theorem turnsC_len' : ∀ (C : List (Int × Int)), (turnsC C).length = C.length - 1
  | [] => rfl
  | [a] => rfl
  | a :: b :: C => by
    have := turnsC_len' (b :: C)
    simp only [turnsC, List.length_cons] at this ⊢; omega
end Go.Proofs.Ytgnphlpoofaojaa

namespace Go.Proofs.Ytgnphlpoofaojaa
open Go.V
set_option maxRecDepth 100000
set_option maxHeartbeats 4000000
set_option linter.unusedSimpArgs false
set_option linter.unusedVariables false
attribute [local go_sem] tl1 tl2 tl3 tl4 tl5 tl9 tl17 tl21 tl22 tl23 tl24 tl25 tl26 tl27 tl28 tl29 tl31 tl33 tl34 tl36 tl37 tl38 tl39 tl40 tl41 tl42 tl43 tl44 tl46 tl47 tl49 tl50 tl52 tl53 tl54 tl55 tl56 tl57 tl58 tl60 tl62 tl63 tl64 tl65 tl66 tl67 tl68 tl69 tl70 tl71 tl72 tl74 tl75 tl76 tl77 tl78 tl79 tl80 tl81 tl82 tl83 tl84 tl85 tl86 tl87 tl88 tl89 tl90 tl91 tl92 tl93 tl94 tl95 tl96 tl97 tl98 tl99 tl100 tl102 tl103 tl104 tl105 tl106 tl107 tl108 tl109 tl110 tl111 tl112 tl113 tl114 tl115 tl116 tl117 tl118 tl119 tl120 tl121 tl122 tl123 tl124 tl125 tl126 tl127 tl128 tl129 tl130 tl131 tl132 tl133 tl134 tl140 tl141 tl145

def m49 (N : Nat) (p4647 : PV) (p4648 : PV) : Option (PV) :=
  getA2 p4647 fun p4650 p4651 =>
  getA2 p4648 fun p4653 p4654 =>
  getI .i64 p4650 fun x4656 =>
  getI .i64 p4654 fun x4658 =>
  getI .i64 p4653 fun x4660 =>
  getI .i64 p4651 fun x4662 =>
  some (.int .i64 (IntKind.i64.wrap ((IntKind.i64.wrap (x4656 * x4658)) - (IntKind.i64.wrap (x4660 * x4662)))))
theorem c49 (N : Nat) (p4647 : PV) (p4648 : PV) (r : PV)  (h : m49 N p4647 p4648 = some r) : FnP Try.prog 49 [p4647, p4648] r := by
  unfold m49 at h
  refine Fn_of (sz := 16) tab_ok [0, 1, 2, 3, 4] [.tmp 4] Try.func49 rfl rfl rfl (by simp) ?_
  simp only [initSt, initEnv, List.map_cons, List.map_nil, List.getD_cons_zero, List.getD_cons_succ, List.getD_nil]
  have hh := getA2_some h; clear h; obtain ⟨p4650, p4651, h4649, h⟩ := hh
  have hh := getA2_some h; clear h; obtain ⟨p4653, p4654, h4652, h⟩ := hh
  have hh := getI_some h; clear h; obtain ⟨x4656, h4655, h⟩ := hh
  have hh := getI_some h; clear h; obtain ⟨x4658, h4657, h⟩ := hh
  have hh := getI_some h; clear h; obtain ⟨x4660, h4659, h⟩ := hh
  have hh := getI_some h; clear h; obtain ⟨x4662, h4661, h⟩ := hh
  refine W_sound tab_ok mixed 23 _ _ _ ?_
  simp -implicitDefEqProofs only [go_sem, ne_eq, not_false_eq_true, Nat.reduceBEq, Nat.reduceAdd, Nat.reduceSub, Nat.reduceMul, Nat.reduceLT, Nat.reduceLeDiff, Int.reduceLE, Int.reduceLT, Int.reduceToNat, Int.reduceBEq, Int.reduceBNe, Int.le_refl, Nat.le_refl, decide_true, decide_false, Int.cast_ofNat_Int, ↓reduceIte, h4649, h4652, h4655, h4657, h4659, h4661]
  repeat with_reducible refine And.intro (by first | kernel_rfl | decide) ?_
  obtain rfl := Option.some.inj h
  exact finC [(4, .v (.int .i64 (IntKind.i64.wrap ((IntKind.i64.wrap (x4656 * x4658)) - (IntKind.i64.wrap (x4660 * x4662))))))] [(4, .v (.int .i64 (IntKind.i64.wrap ((IntKind.i64.wrap (x4656 * x4658)) - (IntKind.i64.wrap (x4660 * x4662))))))] (by simp [leE, lk_cons]) (.cons _ _ _ _ _ (.v _ _ (.refl _)) .nil) (by rfl) (by simp [leE, lk_cons]) (by decide) (by decide) rfl (by simp only [go_sem, ne_eq, not_false_eq_true, Nat.reduceBEq, Nat.reduceAdd, Nat.reduceSub, Nat.reduceMul, Nat.reduceLT, Nat.reduceLeDiff, Int.reduceLE, Int.reduceLT, Int.reduceToNat, Int.reduceBEq, Int.reduceBNe, Int.le_refl, Nat.le_refl, decide_true, decide_false, Int.cast_ofNat_Int, ↓reduceIte, resQ_tmp, resQ_cell, resQ_nil, retD_one, retD_two, retD_three, retD_none]; try simp [R.val, retD_one, retD_two, retD_three, retD_none])

end Go.Proofs.Ytgnphlpoofaojaa

namespace Go.Proofs.Ytgnphlpoofaojaa
open Go.V

theorem least_ok (N : Nat) {a b : Int × Int} (ha : -200000 ≤ a.1 ∧ a.1 ≤ 200000 ∧ 1 ≤ a.2 ∧ a.2 ≤ 1000) (hb : -200000 ≤ b.1 ∧ b.1 ≤ 200000 ∧ 1 ≤ b.2 ∧ b.2 ≤ 1000) : m49 N (.agg [.int .i64 a.1, .int .i64 a.2]) (.agg [.int .i64 b.1, .int .i64 b.2]) = some (.int .i64 (a.1 * b.2 - b.1 * a.2)) := by
  have h1 := mulQ (x := a.1) (y := b.2) (A := 200000) (B := 1000) (by omega) (by omega)
  have h2 := mulQ (x := b.1) (y := a.2) (A := 200000) (B := 1000) (by omega) (by omega)
  simp only [m49, getA2, getI, if_true]
  rw [wrap64 (n := a.1 * b.2) (by omega) (by omega), wrap64 (n := b.1 * a.2) (by omega) (by omega), wrap64 (by omega) (by omega)]
end Go.Proofs.Ytgnphlpoofaojaa

namespace Go.Proofs.Ytgnphlpoofaojaa
open Go.V
set_option maxRecDepth 100000
set_option maxHeartbeats 4000000
set_option linter.unusedSimpArgs false
set_option linter.unusedVariables false
attribute [local go_sem] tl1 tl2 tl3 tl4 tl5 tl9 tl17 tl21 tl22 tl23 tl24 tl25 tl26 tl27 tl28 tl29 tl31 tl33 tl34 tl36 tl37 tl38 tl39 tl40 tl41 tl42 tl43 tl44 tl46 tl47 tl49 tl50 tl52 tl53 tl54 tl55 tl56 tl57 tl58 tl60 tl62 tl63 tl64 tl65 tl66 tl67 tl68 tl69 tl70 tl71 tl72 tl74 tl75 tl76 tl77 tl78 tl79 tl80 tl81 tl82 tl83 tl84 tl85 tl86 tl87 tl88 tl89 tl90 tl91 tl92 tl93 tl94 tl95 tl96 tl97 tl98 tl99 tl100 tl102 tl103 tl104 tl105 tl106 tl107 tl108 tl109 tl110 tl111 tl112 tl113 tl114 tl115 tl116 tl117 tl118 tl119 tl120 tl121 tl122 tl123 tl124 tl125 tl126 tl127 tl128 tl129 tl130 tl131 tl132 tl133 tl134 tl140 tl141 tl145

def m12_L0 (N : Nat) (n5519 : Nat) (c5520 : List PV) (n5527 : Nat) (c5528 : List PV) (n5537 : Nat) (c5538 : List PV) : Nat → Int → Option ((PV ⊕ Unit))
  | 0, _ => none
  | n + 1, x5545 =>
    brn (decide (x5545 < ((n5527 : Nat) : Int))) (
      grd (0 ≤ x5545 ∧ x5545 < ((n5527 : Nat) : Int)) <|
      grd (0 < List.length (List.drop (Int.toNat x5545) c5528)) <|
      getI .i64 (gp c5528 (Int.toNat x5545)) fun x5551 =>
      brn (decide (x5551 < 0)) (
        some (.inl (.bool false))) (
        brn (decide (x5551 ≥ ((n5519 : Nat) : Int))) (
          some (.inl (.bool false))) (
          brn (decide (x5545 > 0)) (
            grd (0 ≤ (IntKind.i64.wrap (x5545 - 1)) ∧ (IntKind.i64.wrap (x5545 - 1)) < ((n5527 : Nat) : Int)) <|
            grd (0 < List.length (List.drop (Int.toNat (IntKind.i64.wrap (x5545 - 1))) c5528)) <|
            getI .i64 (gp c5528 (Int.toNat (IntKind.i64.wrap (x5545 - 1)))) fun x5559 =>
            grd (0 ≤ x5559 ∧ x5559 < ((n5519 : Nat) : Int)) <|
            grd (0 < List.length (List.drop 1 (List.drop ((Int.toNat x5559) * 2) c5520))) <|
            getI .i64 (gp c5520 (((Int.toNat x5559) * 2) + 1)) fun x5564 =>
            grd (0 ≤ x5551 ∧ x5551 < ((n5519 : Nat) : Int)) <|
            grd (0 < List.length (List.drop 1 (List.drop ((Int.toNat x5551) * 2) c5520))) <|
            getI .i64 (gp c5520 (((Int.toNat x5551) * 2) + 1)) fun x5569 =>
            brn (decide (x5564 ≥ x5569)) (
              some (.inl (.bool false))) (
              m12_L0 N n5519 c5520 n5527 c5528 n5537 c5538 n (IntKind.i64.wrap (x5545 + 1)))) (
            m12_L0 N n5519 c5520 n5527 c5528 n5537 c5538 n (IntKind.i64.wrap (x5545 + 1)))))) (
      some (.inr ()))
def m12_L1 (N : Nat) (n5519 : Nat) (c5520 : List PV) (n5527 : Nat) (c5528 : List PV) (n5537 : Nat) (c5538 : List PV) : Nat → Int → Option ((PV ⊕ Unit))
  | 0, _ => none
  | n + 1, x5572 =>
    brn (decide (x5572 < ((n5537 : Nat) : Int))) (
      grd (0 ≤ x5572 ∧ x5572 < ((n5537 : Nat) : Int)) <|
      grd (2 ≤ List.length (List.drop ((Int.toNat x5572) * 2) c5538)) <|
      getA2 (.agg (List.take 2 (List.drop ((Int.toNat x5572) * 2) c5538))) fun p5578 p5579 =>
      getI .i64 p5578 fun x5581 =>
      getI .i64 p5579 fun x5583 =>
      grd (x5572 < ((n5527 : Nat) : Int)) <|
      grd (0 < List.length (List.drop (Int.toNat x5572) c5528)) <|
      getI .i64 (gp c5528 (Int.toNat x5572)) fun x5587 =>
      grd (0 ≤ x5587 ∧ x5587 < ((n5519 : Nat) : Int)) <|
      grd (2 ≤ List.length (List.drop ((Int.toNat x5587) * 2) c5520)) <|
      getA2 (.agg (List.take 2 (List.drop ((Int.toNat x5587) * 2) c5520))) fun p5592 p5593 =>
      grd (0 ≤ (IntKind.i64.wrap (x5572 + 1)) ∧ (IntKind.i64.wrap (x5572 + 1)) < ((n5527 : Nat) : Int)) <|
      grd (0 < List.length (List.drop (Int.toNat (IntKind.i64.wrap (x5572 + 1))) c5528)) <|
      getI .i64 (gp c5528 (Int.toNat (IntKind.i64.wrap (x5572 + 1)))) fun x5598 =>
      grd (0 ≤ x5598 ∧ x5598 < ((n5519 : Nat) : Int)) <|
      grd (2 ≤ List.length (List.drop ((Int.toNat x5598) * 2) c5520)) <|
      getA2 (.agg (List.take 2 (List.drop ((Int.toNat x5598) * 2) c5520))) fun p5603 p5604 =>
      getI .i64 p5592 fun x5606 =>
      getI .i64 p5593 fun x5608 =>
      getI .i64 p5603 fun x5610 =>
      getI .i64 p5604 fun x5612 =>
      bnd' (m37 N (.agg [(.int .i64 x5581), (.int .i64 x5583)])) fun p5613 =>
      getB p5613 fun b5616 =>
      brn b5616 (
        bnd' (m41 N (.agg [(.int .i64 x5606), (.int .i64 x5608)]) (.agg [(.int .i64 x5581), (.int .i64 x5583)])) fun p5618 =>
        getI .i64 p5618 fun x5621 =>
        bnd' (m41 N (.agg [(.int .i64 x5610), (.int .i64 x5612)]) (.agg [(.int .i64 x5581), (.int .i64 x5583)])) fun p5622 =>
        getI .i64 p5622 fun x5625 =>
        brn (x5621 != x5625) (
          some (.inl (.bool false))) (
          bnd' (m41 N (.agg [(.int .i64 x5606), (.int .i64 x5608)]) (.agg [(.int .i64 x5581), (.int .i64 x5583)])) fun p5627 =>
          getI .i64 p5627 fun x5630 =>
          bnd' (m39 N (.lst false n5519 c5520) (.agg [(.int .i64 x5581), (.int .i64 x5583)])) fun p5631 =>
          getI .i64 p5631 fun x5634 =>
          brn (x5630 != x5634) (
            some (.inl (.bool false))) (
            brn (decide (x5572 > 0)) (
              grd (0 ≤ (IntKind.i64.wrap (x5572 - 1)) ∧ (IntKind.i64.wrap (x5572 - 1)) < ((n5537 : Nat) : Int)) <|
              grd (2 ≤ List.length (List.drop ((Int.toNat (IntKind.i64.wrap (x5572 - 1))) * 2) c5538)) <|
              getA2 (.agg (List.take 2 (List.drop ((Int.toNat (IntKind.i64.wrap (x5572 - 1))) * 2) c5538))) fun p5641 p5642 =>
              bnd' (m49 N (.agg [p5641, p5642]) (.agg [(.int .i64 x5581), (.int .i64 x5583)])) fun p5643 =>
              getI .i64 p5643 fun x5646 =>
              brn (decide (x5646 ≥ 0)) (
                some (.inl (.bool false))) (
                m12_L1 N n5519 c5520 n5527 c5528 n5537 c5538 n (IntKind.i64.wrap (x5572 + 1)))) (
              m12_L1 N n5519 c5520 n5527 c5528 n5537 c5538 n (IntKind.i64.wrap (x5572 + 1)))))) (
        some (.inl (.bool false)))) (
      some (.inr ()))
def m12_L3 (N : Nat) (n5519 : Nat) (c5520 : List PV) (n5527 : Nat) (c5528 : List PV) (x5649 : Int) : Nat → PV → PV → Bool → Int → Option ((PV × PV × Bool))
  | 0, _, _, _, _ => none
  | n + 1, p5709, p5710, b5711, x5712 =>
    brn (decide (x5712 < ((n5519 : Nat) : Int))) (
      grd (0 ≤ x5712 ∧ x5712 < ((n5519 : Nat) : Int)) <|
      grd (2 ≤ List.length (List.drop ((Int.toNat x5712) * 2) c5520)) <|
      getA2 (.agg (List.take 2 (List.drop ((Int.toNat x5712) * 2) c5520))) fun p5718 p5719 =>
      getI .i64 p5718 fun x5721 =>
      getI .i64 p5719 fun x5723 =>
      grd (0 ≤ x5649 ∧ x5649 < ((n5519 : Nat) : Int)) <|
      grd (2 ≤ List.length (List.drop ((Int.toNat x5649) * 2) c5520)) <|
      getA2 (.agg (List.take 2 (List.drop ((Int.toNat x5649) * 2) c5520))) fun p5728 p5729 =>
      getI .i64 p5729 fun x5731 =>
      getI .i64 p5728 fun x5733 =>
      brn ((x5721 == x5733) && (x5723 == x5731)) (
        brn b5711 (
          m12_L3 N n5519 c5520 n5527 c5528 x5649 n p5709 p5710 (decide (x5712 ≥ x5649)) (IntKind.i64.wrap (x5712 + 1))) (
          m12_L3 N n5519 c5520 n5527 c5528 x5649 n p5709 p5710 false (IntKind.i64.wrap (x5712 + 1)))) (
        grd (0 < List.length (List.drop 1 (List.drop ((Int.toNat x5649) * 2) c5520))) <|
        getI .i64 (gp c5520 (((Int.toNat x5649) * 2) + 1)) fun x5738 =>
        brn (x5723 == x5738) (
          brn b5711 (
            grd (0 < List.length (List.drop ((Int.toNat x5649) * 2) c5520)) <|
            getI .i64 (gp c5520 ((Int.toNat x5649) * 2)) fun x5743 =>
            m12_L3 N n5519 c5520 n5527 c5528 x5649 n p5709 p5710 (decide (x5721 < x5743)) (IntKind.i64.wrap (x5712 + 1))) (
            m12_L3 N n5519 c5520 n5527 c5528 x5649 n p5709 p5710 false (IntKind.i64.wrap (x5712 + 1)))) (
          brn (decide (x5723 < x5738)) (
            grd (0 < List.length (List.drop ((Int.toNat x5649) * 2) c5520)) <|
            getI .i64 (gp c5520 ((Int.toNat x5649) * 2)) fun x5747 =>
            bnd' (m40 N (IntKind.i64.wrap (x5721 - x5747)) (IntKind.i64.wrap (x5738 - x5723))) fun p5748 =>
            getA2 p5748 fun p5751 p5752 =>
            getI .i64 p5751 fun x5754 =>
            getI .i64 p5752 fun x5756 =>
            getP p5709 (
              m12_L3 N n5519 c5520 n5527 c5528 x5649 n (.ipt [(.int .i64 x5754), (.int .i64 x5756)]) p5710 b5711 (IntKind.i64.wrap (x5712 + 1))) fun c5758 =>
            grd (2 ≤ List.length c5758) <|
            getA2 (.agg (List.take 2 c5758)) fun p5761 p5762 =>
            bnd' (m49 N (.agg [p5761, p5762]) (.agg [(.int .i64 x5754), (.int .i64 x5756)])) fun p5763 =>
            getI .i64 p5763 fun x5766 =>
            brn (decide (x5766 < 0)) (
              m12_L3 N n5519 c5520 n5527 c5528 x5649 n (.ipt [(.int .i64 x5754), (.int .i64 x5756)]) p5710 b5711 (IntKind.i64.wrap (x5712 + 1))) (
              m12_L3 N n5519 c5520 n5527 c5528 x5649 n (.ipt c5758) p5710 b5711 (IntKind.i64.wrap (x5712 + 1)))) (
            grd (0 < List.length (List.drop ((Int.toNat x5649) * 2) c5520)) <|
            getI .i64 (gp c5520 ((Int.toNat x5649) * 2)) fun x5770 =>
            bnd' (m40 N (IntKind.i64.wrap (x5770 - x5721)) (IntKind.i64.wrap (x5723 - x5738))) fun p5771 =>
            getA2 p5771 fun p5774 p5775 =>
            getI .i64 p5774 fun x5777 =>
            getI .i64 p5775 fun x5779 =>
            getP p5710 (
              m12_L3 N n5519 c5520 n5527 c5528 x5649 n p5709 (.ipt [(.int .i64 x5777), (.int .i64 x5779)]) b5711 (IntKind.i64.wrap (x5712 + 1))) fun c5781 =>
            grd (2 ≤ List.length c5781) <|
            getA2 (.agg (List.take 2 c5781)) fun p5784 p5785 =>
            bnd' (m49 N (.agg [(.int .i64 x5777), (.int .i64 x5779)]) (.agg [p5784, p5785])) fun p5786 =>
            getI .i64 p5786 fun x5789 =>
            brn (decide (x5789 < 0)) (
              m12_L3 N n5519 c5520 n5527 c5528 x5649 n p5709 (.ipt [(.int .i64 x5777), (.int .i64 x5779)]) b5711 (IntKind.i64.wrap (x5712 + 1))) (
              m12_L3 N n5519 c5520 n5527 c5528 x5649 n p5709 (.ipt c5781) b5711 (IntKind.i64.wrap (x5712 + 1))))))) (
      some (p5709, p5710, b5711))
def m12_L2 (N : Nat) (n5519 : Nat) (c5520 : List PV) (n5527 : Nat) (c5528 : List PV) : Nat → Int → Option ((PV ⊕ Unit))
  | 0, _ => none
  | n + 1, x5649 =>
    brn (decide (x5649 < ((n5519 : Nat) : Int))) (
      bnd' (m12_L3 N n5519 c5520 n5527 c5528 x5649 N (.fn 999999 [.bool true]) (.fn 999999 [.bool true]) true 0) fun o =>
      match o with
      | (p5791, p5792, b5793) =>
        brn b5793 (
          getP p5791 (
            bnd' (m50 N (.lst false n5527 c5528) x5649) fun p5797 =>
            getB p5797 fun b5800 =>
            brn (true != b5800) (
              some (.inl (.bool false))) (
              m12_L2 N n5519 c5520 n5527 c5528 n (IntKind.i64.wrap (x5649 + 1)))) fun c5796 =>
          getP p5792 (
            bnd' (m50 N (.lst false n5527 c5528) x5649) fun p5804 =>
            getB p5804 fun b5807 =>
            brn (true != b5807) (
              some (.inl (.bool false))) (
              m12_L2 N n5519 c5520 n5527 c5528 n (IntKind.i64.wrap (x5649 + 1)))) fun c5803 =>
          grd (2 ≤ List.length c5796) <|
          getA2 (.agg (List.take 2 c5796)) fun p5811 p5812 =>
          grd (2 ≤ List.length c5803) <|
          getA2 (.agg (List.take 2 c5803)) fun p5815 p5816 =>
          bnd' (m49 N (.agg [p5811, p5812]) (.agg [p5815, p5816])) fun p5817 =>
          getI .i64 p5817 fun x5820 =>
          bnd' (m50 N (.lst false n5527 c5528) x5649) fun p5821 =>
          getB p5821 fun b5824 =>
          brn ((decide (x5820 < 0)) != b5824) (
            some (.inl (.bool false))) (
            m12_L2 N n5519 c5520 n5527 c5528 n (IntKind.i64.wrap (x5649 + 1)))) (
          bnd' (m50 N (.lst false n5527 c5528) x5649) fun p5826 =>
          getB p5826 fun b5829 =>
          brn (false != b5829) (
            some (.inl (.bool false))) (
            m12_L2 N n5519 c5520 n5527 c5528 n (IntKind.i64.wrap (x5649 + 1))))) (
      some (.inr ()))
def m12 (N : Nat) (p5512 : PV) : Option (PV) :=
  getA p5512 fun c5514 =>
  grd (17 ≤ List.length c5514) <|
  bnd' (m36 N (.agg (List.take 17 c5514)) 30 5) fun p5516 =>
  getL p5516 fun n5519 c5520 =>
  bnd' (m24 N (.lst false n5519 c5520)) fun p5521 =>
  getT2 p5521 fun p5524 p5525 =>
  getL p5524 fun n5527 c5528 =>
  getI .i64 p5525 fun x5530 =>
  bnd' (m26 N (.lst false n5519 c5520)) fun p5531 =>
  getT2 p5531 fun p5534 p5535 =>
  getL p5534 fun n5537 c5538 =>
  getI .i64 p5535 fun x5540 =>
  brn (x5530 != 0) (
    some (.bool false)) (
    brn (x5540 != 0) (
      some (.bool false)) (
      brn (((n5527 : Nat) : Int) == 0) (
        some (.bool false)) (
        brn (((n5537 : Nat) : Int) != (IntKind.i64.wrap (((n5527 : Nat) : Int) - 1))) (
          some (.bool false)) (
          bnd' (m12_L0 N n5519 c5520 n5527 c5528 n5537 c5538 N 0) fun o =>
          match o with
          | .inl p5571 =>
            some p5571
          | .inr () =>
            bnd' (m12_L1 N n5519 c5520 n5527 c5528 n5537 c5538 N 0) fun o =>
            match o with
            | .inl p5648 =>
              some p5648
            | .inr () =>
              bnd' (m12_L2 N n5519 c5520 n5527 c5528 N 0) fun o =>
              match o with
              | .inl p5831 =>
                some p5831
              | .inr () =>
                bnd' (m15 N ) fun p5832 =>
                getB p5832 fun b5835 =>
                some (.bool b5835)))))
theorem c12 (N : Nat) (p5512 : PV) (r : PV)  (h : m12 N p5512 = some r) : FnP Try.prog 12 [p5512] r := by
  unfold m12 at h
  refine Fn_of (sz := 283) tab_ok [0, 1, 2, 3, 4, 5, 6, 7, 8, 9, 10, 11, 12, 13, 14, 15, 16, 17, 18, 19, 20, 21, 52, 53, 54, 55, 56, 88, 90, 91, 92, 93, 146, 149, 150, 151, 153, 154, 155, 156, 186, 187, 200, 220, 255, 280] [.tmp 2] Try.func12 rfl rfl rfl (by simp) ?_
  simp only [initSt, initEnv, List.map_cons, List.map_nil, List.getD_cons_zero, List.getD_cons_succ, List.getD_nil]
  have hh := getA_some h; clear h; obtain ⟨c5514, h5513, h⟩ := hh
  have hh := grd_some h; clear h; obtain ⟨g5515, h⟩ := hh
  have hh := bnd'_some h; clear h; obtain ⟨p5516, h5517, h⟩ := hh
  refine W_sound tab_ok mixed 8 _ _ _ ?_
  simp -implicitDefEqProofs only [go_sem, ne_eq, not_false_eq_true, Nat.reduceBEq, Nat.reduceAdd, Nat.reduceSub, Nat.reduceMul, Nat.reduceLT, Nat.reduceLeDiff, Int.reduceLE, Int.reduceLT, Int.reduceToNat, Int.reduceBEq, Int.reduceBNe, Int.le_refl, Nat.le_refl, decide_true, decide_false, Int.cast_ofNat_Int, ↓reduceIte, h5513, g5515]
  repeat with_reducible refine And.intro (by first | kernel_rfl | decide) ?_
  refine Wp_callP (c36 N _ _ _ _ h5517) (by kernel_rfl) rfl rfl rfl rfl (by decide) ?_
  have hh := getL_some h; clear h; obtain ⟨n5519, c5520, h5518, h⟩ := hh
  have hh := bnd'_some h; clear h; obtain ⟨p5521, h5522, h⟩ := hh
  refine W_sound tab_ok mixed 5 _ _ _ ?_
  simp -implicitDefEqProofs only [go_sem, ne_eq, not_false_eq_true, Nat.reduceBEq, Nat.reduceAdd, Nat.reduceSub, Nat.reduceMul, Nat.reduceLT, Nat.reduceLeDiff, Int.reduceLE, Int.reduceLT, Int.reduceToNat, Int.reduceBEq, Int.reduceBNe, Int.le_refl, Nat.le_refl, decide_true, decide_false, Int.cast_ofNat_Int, ↓reduceIte, h5513, g5515, h5518]
  repeat with_reducible refine And.intro (by first | kernel_rfl | decide) ?_
  refine Wp_callP (c24 N _ _ h5522) (by kernel_rfl) rfl rfl rfl rfl (by decide) ?_
  have hh := getT2_some h; clear h; obtain ⟨p5524, p5525, h5523, h⟩ := hh
  have hh := getL_some h; clear h; obtain ⟨n5527, c5528, h5526, h⟩ := hh
  have hh := getI_some h; clear h; obtain ⟨x5530, h5529, h⟩ := hh
  have hh := bnd'_some h; clear h; obtain ⟨p5531, h5532, h⟩ := hh
  refine W_sound tab_ok mixed 9 _ _ _ ?_
  simp -implicitDefEqProofs only [go_sem, ne_eq, not_false_eq_true, Nat.reduceBEq, Nat.reduceAdd, Nat.reduceSub, Nat.reduceMul, Nat.reduceLT, Nat.reduceLeDiff, Int.reduceLE, Int.reduceLT, Int.reduceToNat, Int.reduceBEq, Int.reduceBNe, Int.le_refl, Nat.le_refl, decide_true, decide_false, Int.cast_ofNat_Int, ↓reduceIte, h5513, g5515, h5518, h5523, h5526, h5529]
  repeat with_reducible refine And.intro (by first | kernel_rfl | decide) ?_
  refine Wp_callP (c26 N _ _ h5532) (by kernel_rfl) rfl rfl rfl rfl (by decide) ?_
  have hh := getT2_some h; clear h; obtain ⟨p5534, p5535, h5533, h⟩ := hh
  have hh := getL_some h; clear h; obtain ⟨n5537, c5538, h5536, h⟩ := hh
  have hh := getI_some h; clear h; obtain ⟨x5540, h5539, h⟩ := hh
  have hh := brn_some h; clear h; rcases hh with ⟨h5541, h⟩ | ⟨h5541, h⟩
  · refine W_sound tab_ok mixed 36 _ _ _ ?_
    simp -implicitDefEqProofs only [go_sem, ne_eq, not_false_eq_true, Nat.reduceBEq, Nat.reduceAdd, Nat.reduceSub, Nat.reduceMul, Nat.reduceLT, Nat.reduceLeDiff, Int.reduceLE, Int.reduceLT, Int.reduceToNat, Int.reduceBEq, Int.reduceBNe, Int.le_refl, Nat.le_refl, decide_true, decide_false, Int.cast_ofNat_Int, ↓reduceIte, h5513, g5515, h5518, h5523, h5526, h5529, h5533, h5536, h5539, h5541]
    repeat with_reducible refine And.intro (by first | kernel_rfl | decide) ?_
    obtain rfl := Option.some.inj h
    exact finC [(2, .v (.bool false))] [(2, .v (.bool false))] (by simp [leE, lk_cons]) (.cons _ _ _ _ _ (.v _ _ (.refl _)) .nil) (by rfl) (by simp [leE, lk_cons]) (by decide) (by decide) rfl (by simp only [go_sem, ne_eq, not_false_eq_true, Nat.reduceBEq, Nat.reduceAdd, Nat.reduceSub, Nat.reduceMul, Nat.reduceLT, Nat.reduceLeDiff, Int.reduceLE, Int.reduceLT, Int.reduceToNat, Int.reduceBEq, Int.reduceBNe, Int.le_refl, Nat.le_refl, decide_true, decide_false, Int.cast_ofNat_Int, ↓reduceIte, resQ_tmp, resQ_cell, resQ_nil, retD_one, retD_two, retD_three, retD_none]; try simp [R.val, retD_one, retD_two, retD_three, retD_none])
  · have hh := brn_some h; clear h; rcases hh with ⟨h5542, h⟩ | ⟨h5542, h⟩
    · refine W_sound tab_ok mixed 36 _ _ _ ?_
      simp -implicitDefEqProofs only [go_sem, ne_eq, not_false_eq_true, Nat.reduceBEq, Nat.reduceAdd, Nat.reduceSub, Nat.reduceMul, Nat.reduceLT, Nat.reduceLeDiff, Int.reduceLE, Int.reduceLT, Int.reduceToNat, Int.reduceBEq, Int.reduceBNe, Int.le_refl, Nat.le_refl, decide_true, decide_false, Int.cast_ofNat_Int, ↓reduceIte, h5513, g5515, h5518, h5523, h5526, h5529, h5533, h5536, h5539, h5541, h5542]
      repeat with_reducible refine And.intro (by first | kernel_rfl | decide) ?_
      obtain rfl := Option.some.inj h
      exact finC [(2, .v (.bool false))] [(2, .v (.bool false))] (by simp [leE, lk_cons]) (.cons _ _ _ _ _ (.v _ _ (.refl _)) .nil) (by rfl) (by simp [leE, lk_cons]) (by decide) (by decide) rfl (by simp only [go_sem, ne_eq, not_false_eq_true, Nat.reduceBEq, Nat.reduceAdd, Nat.reduceSub, Nat.reduceMul, Nat.reduceLT, Nat.reduceLeDiff, Int.reduceLE, Int.reduceLT, Int.reduceToNat, Int.reduceBEq, Int.reduceBNe, Int.le_refl, Nat.le_refl, decide_true, decide_false, Int.cast_ofNat_Int, ↓reduceIte, resQ_tmp, resQ_cell, resQ_nil, retD_one, retD_two, retD_three, retD_none]; try simp [R.val, retD_one, retD_two, retD_three, retD_none])
    · have hh := brn_some h; clear h; rcases hh with ⟨h5543, h⟩ | ⟨h5543, h⟩
      · refine W_sound tab_ok mixed 36 _ _ _ ?_
        simp -implicitDefEqProofs only [go_sem, ne_eq, not_false_eq_true, Nat.reduceBEq, Nat.reduceAdd, Nat.reduceSub, Nat.reduceMul, Nat.reduceLT, Nat.reduceLeDiff, Int.reduceLE, Int.reduceLT, Int.reduceToNat, Int.reduceBEq, Int.reduceBNe, Int.le_refl, Nat.le_refl, decide_true, decide_false, Int.cast_ofNat_Int, ↓reduceIte, h5513, g5515, h5518, h5523, h5526, h5529, h5533, h5536, h5539, h5541, h5542, h5543]
        repeat with_reducible refine And.intro (by first | kernel_rfl | decide) ?_
        obtain rfl := Option.some.inj h
        exact finC [(2, .v (.bool false))] [(2, .v (.bool false))] (by simp [leE, lk_cons]) (.cons _ _ _ _ _ (.v _ _ (.refl _)) .nil) (by rfl) (by simp [leE, lk_cons]) (by decide) (by decide) rfl (by simp only [go_sem, ne_eq, not_false_eq_true, Nat.reduceBEq, Nat.reduceAdd, Nat.reduceSub, Nat.reduceMul, Nat.reduceLT, Nat.reduceLeDiff, Int.reduceLE, Int.reduceLT, Int.reduceToNat, Int.reduceBEq, Int.reduceBNe, Int.le_refl, Nat.le_refl, decide_true, decide_false, Int.cast_ofNat_Int, ↓reduceIte, resQ_tmp, resQ_cell, resQ_nil, retD_one, retD_two, retD_three, retD_none]; try simp [R.val, retD_one, retD_two, retD_three, retD_none])
      · have hh := brn_some h; clear h; rcases hh with ⟨h5544, h⟩ | ⟨h5544, h⟩
        · refine W_sound tab_ok mixed 36 _ _ _ ?_
          simp -implicitDefEqProofs only [go_sem, ne_eq, not_false_eq_true, Nat.reduceBEq, Nat.reduceAdd, Nat.reduceSub, Nat.reduceMul, Nat.reduceLT, Nat.reduceLeDiff, Int.reduceLE, Int.reduceLT, Int.reduceToNat, Int.reduceBEq, Int.reduceBNe, Int.le_refl, Nat.le_refl, decide_true, decide_false, Int.cast_ofNat_Int, ↓reduceIte, h5513, g5515, h5518, h5523, h5526, h5529, h5533, h5536, h5539, h5541, h5542, h5543, h5544]
          repeat with_reducible refine And.intro (by first | kernel_rfl | decide) ?_
          obtain rfl := Option.some.inj h
          exact finC [(2, .v (.bool false))] [(2, .v (.bool false))] (by simp [leE, lk_cons]) (.cons _ _ _ _ _ (.v _ _ (.refl _)) .nil) (by rfl) (by simp [leE, lk_cons]) (by decide) (by decide) rfl (by simp only [go_sem, ne_eq, not_false_eq_true, Nat.reduceBEq, Nat.reduceAdd, Nat.reduceSub, Nat.reduceMul, Nat.reduceLT, Nat.reduceLeDiff, Int.reduceLE, Int.reduceLT, Int.reduceToNat, Int.reduceBEq, Int.reduceBNe, Int.le_refl, Nat.le_refl, decide_true, decide_false, Int.cast_ofNat_Int, ↓reduceIte, resQ_tmp, resQ_cell, resQ_nil, retD_one, retD_two, retD_three, retD_none]; try simp [R.val, retD_one, retD_two, retD_three, retD_none])
        · refine W_sound tab_ok mixed 38 _ _ _ ?_
          simp -implicitDefEqProofs only [go_sem, ne_eq, not_false_eq_true, Nat.reduceBEq, Nat.reduceAdd, Nat.reduceSub, Nat.reduceMul, Nat.reduceLT, Nat.reduceLeDiff, Int.reduceLE, Int.reduceLT, Int.reduceToNat, Int.reduceBEq, Int.reduceBNe, Int.le_refl, Nat.le_refl, decide_true, decide_false, Int.cast_ofNat_Int, ↓reduceIte, h5513, g5515, h5518, h5523, h5526, h5529, h5533, h5536, h5539, h5541, h5542, h5543, h5544]
          repeat with_reducible refine And.intro (by first | kernel_rfl | decide) ?_
          have hh := bnd'_some h; clear h; obtain ⟨o5836, h5837, h5838⟩ := hh
          refine Wp_cut (fun s => (.inr ()) = o5836 ∧ s = ⟨[], [(0, .dead), (1, .dead), (2, .dead), (3, .v (.lst false n5519 c5520)), (4, .v (.lst false n5527 c5528)), (5, .dead), (6, .v (.lst false n5537 c5538)), (7, .dead), (8, .dead), (9, .dead), (10, .dead), (11, .dead), (12, .dead), (13, .dead), (14, .dead), (15, .dead), (16, .dead), (17, .dead), (18, .dead), (19, .dead), (20, .dead), (21, .dead), (52, .dead), (53, .dead), (54, .dead), (55, .dead), (56, .dead), (88, .dead), (90, .dead), (91, .dead), (92, .dead), (93, .dead), (146, .dead), (149, .dead), (150, .dead), (151, .dead), (153, .dead), (154, .dead), (155, .dead), (156, .dead), (186, .dead), (187, .dead), (200, .dead), (220, .dead), (255, .dead), (280, .dead)], [], 0, []⟩) ?_ ?_
          · refine Wp_block ?_
            refine Wp_loopG (fun n s => ∃ x5545, m12_L0 N n5519 c5520 n5527 c5528 n5537 c5538 n x5545 = some o5836 ∧ s = ⟨[], [(0, .dead), (1, .dead), (2, .dead), (3, .v (.lst false n5519 c5520)), (4, .v (.lst false n5527 c5528)), (5, .dead), (6, .v (.lst false n5537 c5538)), (7, .dead), (8, .dead), (9, .dead), (10, .dead), (11, .dead), (12, .dead), (13, .dead), (14, .dead), (15, .dead), (16, .dead), (17, .dead), (18, .dead), (19, .dead), (20, .dead), (21, .dead), (52, .dead), (53, .v (.lst false n5527 c5528)), (54, .v (.int .i64 ((n5527 : Nat) : Int))), (55, .v (.int .i64 x5545)), (56, .dead), (88, .dead), (90, .dead), (91, .dead), (92, .dead), (93, .dead), (146, .dead), (149, .dead), (150, .dead), (151, .dead), (153, .dead), (154, .dead), (155, .dead), (156, .dead), (186, .dead), (187, .dead), (200, .dead), (220, .dead), (255, .dead), (280, .dead)], [], 0, []⟩) N _ ((Wk_le (.cons _ _ _ _ _ (.dead _) (.cons _ _ _ _ _ (.dead _) (.cons _ _ _ _ _ (.dead _) (.cons _ _ _ _ _ (.refl _) (.cons _ _ _ _ _ (.refl _) (.cons _ _ _ _ _ (.dead _) (.cons _ _ _ _ _ (.refl _) (.cons _ _ _ _ _ (.dead _) (.cons _ _ _ _ _ (.refl _) (.cons _ _ _ _ _ (.refl _) (.cons _ _ _ _ _ (.refl _) (.cons _ _ _ _ _ (.refl _) (.cons _ _ _ _ _ (.refl _) (.cons _ _ _ _ _ (.refl _) (.cons _ _ _ _ _ (.refl _) (.cons _ _ _ _ _ (.refl _) (.cons _ _ _ _ _ (.refl _) (.cons _ _ _ _ _ (.refl _) (.cons _ _ _ _ _ (.refl _) (.cons _ _ _ _ _ (.refl _) (.cons _ _ _ _ _ (.refl _) (.cons _ _ _ _ _ (.refl _) (.cons _ _ _ _ _ (.dead _) (.cons _ _ _ _ _ (.refl _) (.cons _ _ _ _ _ (.refl _) (.cons _ _ _ _ _ (.refl _) (.cons _ _ _ _ _ (.refl _) (.cons _ _ _ _ _ (.refl _) (.cons _ _ _ _ _ (.refl _) (.cons _ _ _ _ _ (.refl _) (.cons _ _ _ _ _ (.refl _) (.cons _ _ _ _ _ (.refl _) (.cons _ _ _ _ _ (.refl _) (.cons _ _ _ _ _ (.refl _) (.cons _ _ _ _ _ (.refl _) (.cons _ _ _ _ _ (.refl _) (.cons _ _ _ _ _ (.refl _) (.cons _ _ _ _ _ (.refl _) (.cons _ _ _ _ _ (.refl _) (.cons _ _ _ _ _ (.refl _) (.cons _ _ _ _ _ (.refl _) (.cons _ _ _ _ _ (.refl _) (.cons _ _ _ _ _ (.refl _) (.cons _ _ _ _ _ (.refl _) (.cons _ _ _ _ _ (.refl _) (.cons _ _ _ _ _ (.refl _) .nil)))))))))))))))))))))))))))))))))))))))))))))) (OLe.refl _)).trans (cmpS_ok (st' := ⟨[], [(0, .dead), (1, .dead), (2, .dead), (3, .v (.lst false n5519 c5520)), (4, .v (.lst false n5527 c5528)), (5, .dead), (6, .v (.lst false n5537 c5538)), (7, .dead), (8, .dead), (9, .dead), (10, .dead), (11, .dead), (12, .dead), (13, .dead), (14, .dead), (15, .dead), (16, .dead), (17, .dead), (18, .dead), (19, .dead), (20, .dead), (21, .dead), (52, .dead), (53, .v (.lst false n5527 c5528)), (54, .v (.int .i64 ((n5527 : Nat) : Int))), (55, .v (.int .i64 0)), (56, .dead), (88, .dead), (90, .dead), (91, .dead), (92, .dead), (93, .dead), (146, .dead), (149, .dead), (150, .dead), (151, .dead), (153, .dead), (154, .dead), (155, .dead), (156, .dead), (186, .dead), (187, .dead), (200, .dead), (220, .dead), (255, .dead), (280, .dead)], [], 0, []⟩) (by kernel_rfl))) ⟨_, h5837, rfl⟩ ?_
            clear h5837
            rintro n _ ⟨x5545, h5837, rfl⟩
            cases n with
            | zero => cases h5837
            | succ n =>
              rw [m12_L0] at h5837
              have hh := brn_some h5837; clear h5837; rcases hh with ⟨h5546, h5837⟩ | ⟨h5546, h5837⟩
              · have hh := grd_some h5837; clear h5837; obtain ⟨⟨g5547, g5548⟩, h5837⟩ := hh
                have hh := grd_some h5837; clear h5837; obtain ⟨g5549, h5837⟩ := hh
                have hh := getI_some h5837; clear h5837; obtain ⟨x5551, h5550, h5837⟩ := hh
                have hh := brn_some h5837; clear h5837; rcases hh with ⟨h5552, h5837⟩ | ⟨h5552, h5837⟩
                · refine W_sound tab_ok mixed 56 _ _ _ ?_
                  simp -implicitDefEqProofs only [go_sem, ne_eq, not_false_eq_true, Nat.reduceBEq, Nat.reduceAdd, Nat.reduceSub, Nat.reduceMul, Nat.reduceLT, Nat.reduceLeDiff, Int.reduceLE, Int.reduceLT, Int.reduceToNat, Int.reduceBEq, Int.reduceBNe, Int.le_refl, Nat.le_refl, decide_true, decide_false, Int.cast_ofNat_Int, ↓reduceIte, h5513, g5515, h5518, h5523, h5526, h5529, h5533, h5536, h5539, h5541, h5542, h5543, h5544, h5546, g5547, g5548, g5549, h5550, h5552]
                  repeat with_reducible refine And.intro (by first | kernel_rfl | decide) ?_
                  obtain rfl := Option.some.inj h5837
                  (try dsimp only at h5838)
                  obtain rfl := Option.some.inj h5838
                  exact finC [(2, .v (.bool false))] [(2, .v (.bool false))] (by simp [leE, lk_cons]) (.cons _ _ _ _ _ (.v _ _ (.refl _)) .nil) (by rfl) (by simp [leE, lk_cons]) (by decide) (by decide) rfl (by simp only [go_sem, ne_eq, not_false_eq_true, Nat.reduceBEq, Nat.reduceAdd, Nat.reduceSub, Nat.reduceMul, Nat.reduceLT, Nat.reduceLeDiff, Int.reduceLE, Int.reduceLT, Int.reduceToNat, Int.reduceBEq, Int.reduceBNe, Int.le_refl, Nat.le_refl, decide_true, decide_false, Int.cast_ofNat_Int, ↓reduceIte, resQ_tmp, resQ_cell, resQ_nil, retD_one, retD_two, retD_three, retD_none]; try simp [R.val, retD_one, retD_two, retD_three, retD_none])
                · have hh := brn_some h5837; clear h5837; rcases hh with ⟨h5553, h5837⟩ | ⟨h5553, h5837⟩
                  · refine W_sound tab_ok mixed 56 _ _ _ ?_
                    simp -implicitDefEqProofs only [go_sem, ne_eq, not_false_eq_true, Nat.reduceBEq, Nat.reduceAdd, Nat.reduceSub, Nat.reduceMul, Nat.reduceLT, Nat.reduceLeDiff, Int.reduceLE, Int.reduceLT, Int.reduceToNat, Int.reduceBEq, Int.reduceBNe, Int.le_refl, Nat.le_refl, decide_true, decide_false, Int.cast_ofNat_Int, ↓reduceIte, h5513, g5515, h5518, h5523, h5526, h5529, h5533, h5536, h5539, h5541, h5542, h5543, h5544, h5546, g5547, g5548, g5549, h5550, h5552, h5553]
                    repeat with_reducible refine And.intro (by first | kernel_rfl | decide) ?_
                    obtain rfl := Option.some.inj h5837
                    (try dsimp only at h5838)
                    obtain rfl := Option.some.inj h5838
                    exact finC [(2, .v (.bool false))] [(2, .v (.bool false))] (by simp [leE, lk_cons]) (.cons _ _ _ _ _ (.v _ _ (.refl _)) .nil) (by rfl) (by simp [leE, lk_cons]) (by decide) (by decide) rfl (by simp only [go_sem, ne_eq, not_false_eq_true, Nat.reduceBEq, Nat.reduceAdd, Nat.reduceSub, Nat.reduceMul, Nat.reduceLT, Nat.reduceLeDiff, Int.reduceLE, Int.reduceLT, Int.reduceToNat, Int.reduceBEq, Int.reduceBNe, Int.le_refl, Nat.le_refl, decide_true, decide_false, Int.cast_ofNat_Int, ↓reduceIte, resQ_tmp, resQ_cell, resQ_nil, retD_one, retD_two, retD_three, retD_none]; try simp [R.val, retD_one, retD_two, retD_three, retD_none])
                  · have hh := brn_some h5837; clear h5837; rcases hh with ⟨h5554, h5837⟩ | ⟨h5554, h5837⟩
                    · have hh := grd_some h5837; clear h5837; obtain ⟨⟨g5555, g5556⟩, h5837⟩ := hh
                      have hh := grd_some h5837; clear h5837; obtain ⟨g5557, h5837⟩ := hh
                      have hh := getI_some h5837; clear h5837; obtain ⟨x5559, h5558, h5837⟩ := hh
                      have hh := grd_some h5837; clear h5837; obtain ⟨⟨g5560, g5561⟩, h5837⟩ := hh
                      have hh := grd_some h5837; clear h5837; obtain ⟨g5562, h5837⟩ := hh
                      have hh := getI_some h5837; clear h5837; obtain ⟨x5564, h5563, h5837⟩ := hh
                      have hh := grd_some h5837; clear h5837; obtain ⟨⟨g5565, g5566⟩, h5837⟩ := hh
                      have hh := grd_some h5837; clear h5837; obtain ⟨g5567, h5837⟩ := hh
                      have hh := getI_some h5837; clear h5837; obtain ⟨x5569, h5568, h5837⟩ := hh
                      have hh := brn_some h5837; clear h5837; rcases hh with ⟨h5570, h5837⟩ | ⟨h5570, h5837⟩
                      · refine W_sound tab_ok mixed 56 _ _ _ ?_
                        simp -implicitDefEqProofs only [go_sem, ne_eq, not_false_eq_true, Nat.reduceBEq, Nat.reduceAdd, Nat.reduceSub, Nat.reduceMul, Nat.reduceLT, Nat.reduceLeDiff, Int.reduceLE, Int.reduceLT, Int.reduceToNat, Int.reduceBEq, Int.reduceBNe, Int.le_refl, Nat.le_refl, decide_true, decide_false, Int.cast_ofNat_Int, ↓reduceIte, h5513, g5515, h5518, h5523, h5526, h5529, h5533, h5536, h5539, h5541, h5542, h5543, h5544, h5546, g5547, g5548, g5549, h5550, h5552, h5553, h5554, g5555, g5556, g5557, h5558, g5560, g5561, g5562, h5563, g5565, g5566, g5567, h5568, h5570]
                        repeat with_reducible refine And.intro (by first | kernel_rfl | decide) ?_
                        obtain rfl := Option.some.inj h5837
                        (try dsimp only at h5838)
                        obtain rfl := Option.some.inj h5838
                        exact finC [(2, .v (.bool false))] [(2, .v (.bool false))] (by simp [leE, lk_cons]) (.cons _ _ _ _ _ (.v _ _ (.refl _)) .nil) (by rfl) (by simp [leE, lk_cons]) (by decide) (by decide) rfl (by simp only [go_sem, ne_eq, not_false_eq_true, Nat.reduceBEq, Nat.reduceAdd, Nat.reduceSub, Nat.reduceMul, Nat.reduceLT, Nat.reduceLeDiff, Int.reduceLE, Int.reduceLT, Int.reduceToNat, Int.reduceBEq, Int.reduceBNe, Int.le_refl, Nat.le_refl, decide_true, decide_false, Int.cast_ofNat_Int, ↓reduceIte, resQ_tmp, resQ_cell, resQ_nil, retD_one, retD_two, retD_three, retD_none]; try simp [R.val, retD_one, retD_two, retD_three, retD_none])
                      · refine W_sound tab_ok mixed 56 _ _ _ ?_
                        simp -implicitDefEqProofs only [go_sem, ne_eq, not_false_eq_true, Nat.reduceBEq, Nat.reduceAdd, Nat.reduceSub, Nat.reduceMul, Nat.reduceLT, Nat.reduceLeDiff, Int.reduceLE, Int.reduceLT, Int.reduceToNat, Int.reduceBEq, Int.reduceBNe, Int.le_refl, Nat.le_refl, decide_true, decide_false, Int.cast_ofNat_Int, ↓reduceIte, h5513, g5515, h5518, h5523, h5526, h5529, h5533, h5536, h5539, h5541, h5542, h5543, h5544, h5546, g5547, g5548, g5549, h5550, h5552, h5553, h5554, g5555, g5556, g5557, h5558, g5560, g5561, g5562, h5563, g5565, g5566, g5567, h5568, h5570]
                        repeat with_reducible refine And.intro (by first | kernel_rfl | decide) ?_
                        exact cutQ _ ((Wk_le (.cons _ _ _ _ _ (.refl _) (.cons _ _ _ _ _ (.refl _) (.cons _ _ _ _ _ (.refl _) (.cons _ _ _ _ _ (.refl _) (.cons _ _ _ _ _ (.refl _) (.cons _ _ _ _ _ (.refl _) (.cons _ _ _ _ _ (.refl _) (.cons _ _ _ _ _ (.refl _) (.cons _ _ _ _ _ (.dead _) (.cons _ _ _ _ _ (.dead _) (.cons _ _ _ _ _ (.refl _) (.cons _ _ _ _ _ (.refl _) (.cons _ _ _ _ _ (.refl _) (.cons _ _ _ _ _ (.refl _) (.cons _ _ _ _ _ (.refl _) (.cons _ _ _ _ _ (.refl _) (.cons _ _ _ _ _ (.refl _) (.cons _ _ _ _ _ (.refl _) (.cons _ _ _ _ _ (.refl _) (.cons _ _ _ _ _ (.refl _) (.cons _ _ _ _ _ (.refl _) (.cons _ _ _ _ _ (.refl _) (.cons _ _ _ _ _ (.refl _) (.cons _ _ _ _ _ (.refl _) (.cons _ _ _ _ _ (.refl _) (.cons _ _ _ _ _ (.refl _) (.cons _ _ _ _ _ (.dead _) (.cons _ _ _ _ _ (.dead _) (.cons _ _ _ _ _ (.refl _) (.cons _ _ _ _ _ (.refl _) (.cons _ _ _ _ _ (.refl _) (.cons _ _ _ _ _ (.refl _) (.cons _ _ _ _ _ (.refl _) (.cons _ _ _ _ _ (.refl _) (.cons _ _ _ _ _ (.refl _) (.cons _ _ _ _ _ (.refl _) (.cons _ _ _ _ _ (.refl _) (.cons _ _ _ _ _ (.refl _) (.cons _ _ _ _ _ (.refl _) (.cons _ _ _ _ _ (.refl _) (.cons _ _ _ _ _ (.refl _) (.cons _ _ _ _ _ (.refl _) (.cons _ _ _ _ _ (.refl _) (.cons _ _ _ _ _ (.refl _) (.cons _ _ _ _ _ (.refl _) (.cons _ _ _ _ _ (.refl _) .nil)))))))))))))))))))))))))))))))))))))))))))))) (OLe.refl _)).trans (cmpS_ok (st' := ⟨[], [(0, .dead), (1, .dead), (2, .dead), (3, .v (.lst false n5519 c5520)), (4, .v (.lst false n5527 c5528)), (5, .dead), (6, .v (.lst false n5537 c5538)), (7, .dead), (8, .dead), (9, .dead), (10, .dead), (11, .dead), (12, .dead), (13, .dead), (14, .dead), (15, .dead), (16, .dead), (17, .dead), (18, .dead), (19, .dead), (20, .dead), (21, .dead), (52, .dead), (53, .v (.lst false n5527 c5528)), (54, .v (.int .i64 ((n5527 : Nat) : Int))), (55, .v (.int .i64 (IntKind.i64.wrap (x5545 + 1)))), (56, .dead), (88, .dead), (90, .dead), (91, .dead), (92, .dead), (93, .dead), (146, .dead), (149, .dead), (150, .dead), (151, .dead), (153, .dead), (154, .dead), (155, .dead), (156, .dead), (186, .dead), (187, .dead), (200, .dead), (220, .dead), (255, .dead), (280, .dead)], [], 0, []⟩) (by kernel_rfl))) ⟨n, Nat.lt_succ_self n, _, h5837, rfl⟩
                    · refine W_sound tab_ok mixed 56 _ _ _ ?_
                      simp -implicitDefEqProofs only [go_sem, ne_eq, not_false_eq_true, Nat.reduceBEq, Nat.reduceAdd, Nat.reduceSub, Nat.reduceMul, Nat.reduceLT, Nat.reduceLeDiff, Int.reduceLE, Int.reduceLT, Int.reduceToNat, Int.reduceBEq, Int.reduceBNe, Int.le_refl, Nat.le_refl, decide_true, decide_false, Int.cast_ofNat_Int, ↓reduceIte, h5513, g5515, h5518, h5523, h5526, h5529, h5533, h5536, h5539, h5541, h5542, h5543, h5544, h5546, g5547, g5548, g5549, h5550, h5552, h5553, h5554]
                      repeat with_reducible refine And.intro (by first | kernel_rfl | decide) ?_
                      exact cutQ _ ((Wk_le (.cons _ _ _ _ _ (.refl _) (.cons _ _ _ _ _ (.refl _) (.cons _ _ _ _ _ (.refl _) (.cons _ _ _ _ _ (.refl _) (.cons _ _ _ _ _ (.refl _) (.cons _ _ _ _ _ (.refl _) (.cons _ _ _ _ _ (.refl _) (.cons _ _ _ _ _ (.refl _) (.cons _ _ _ _ _ (.dead _) (.cons _ _ _ _ _ (.dead _) (.cons _ _ _ _ _ (.refl _) (.cons _ _ _ _ _ (.refl _) (.cons _ _ _ _ _ (.refl _) (.cons _ _ _ _ _ (.refl _) (.cons _ _ _ _ _ (.refl _) (.cons _ _ _ _ _ (.refl _) (.cons _ _ _ _ _ (.refl _) (.cons _ _ _ _ _ (.refl _) (.cons _ _ _ _ _ (.refl _) (.cons _ _ _ _ _ (.refl _) (.cons _ _ _ _ _ (.refl _) (.cons _ _ _ _ _ (.refl _) (.cons _ _ _ _ _ (.refl _) (.cons _ _ _ _ _ (.refl _) (.cons _ _ _ _ _ (.refl _) (.cons _ _ _ _ _ (.refl _) (.cons _ _ _ _ _ (.dead _) (.cons _ _ _ _ _ (.dead _) (.cons _ _ _ _ _ (.refl _) (.cons _ _ _ _ _ (.refl _) (.cons _ _ _ _ _ (.refl _) (.cons _ _ _ _ _ (.refl _) (.cons _ _ _ _ _ (.refl _) (.cons _ _ _ _ _ (.refl _) (.cons _ _ _ _ _ (.refl _) (.cons _ _ _ _ _ (.refl _) (.cons _ _ _ _ _ (.refl _) (.cons _ _ _ _ _ (.refl _) (.cons _ _ _ _ _ (.refl _) (.cons _ _ _ _ _ (.refl _) (.cons _ _ _ _ _ (.refl _) (.cons _ _ _ _ _ (.refl _) (.cons _ _ _ _ _ (.refl _) (.cons _ _ _ _ _ (.refl _) (.cons _ _ _ _ _ (.refl _) (.cons _ _ _ _ _ (.refl _) .nil)))))))))))))))))))))))))))))))))))))))))))))) (OLe.refl _)).trans (cmpS_ok (st' := ⟨[], [(0, .dead), (1, .dead), (2, .dead), (3, .v (.lst false n5519 c5520)), (4, .v (.lst false n5527 c5528)), (5, .dead), (6, .v (.lst false n5537 c5538)), (7, .dead), (8, .dead), (9, .dead), (10, .dead), (11, .dead), (12, .dead), (13, .dead), (14, .dead), (15, .dead), (16, .dead), (17, .dead), (18, .dead), (19, .dead), (20, .dead), (21, .dead), (52, .dead), (53, .v (.lst false n5527 c5528)), (54, .v (.int .i64 ((n5527 : Nat) : Int))), (55, .v (.int .i64 (IntKind.i64.wrap (x5545 + 1)))), (56, .dead), (88, .dead), (90, .dead), (91, .dead), (92, .dead), (93, .dead), (146, .dead), (149, .dead), (150, .dead), (151, .dead), (153, .dead), (154, .dead), (155, .dead), (156, .dead), (186, .dead), (187, .dead), (200, .dead), (220, .dead), (255, .dead), (280, .dead)], [], 0, []⟩) (by kernel_rfl))) ⟨n, Nat.lt_succ_self n, _, h5837, rfl⟩
              · refine W_sound tab_ok mixed 7 _ _ _ ?_
                simp -implicitDefEqProofs only [go_sem, ne_eq, not_false_eq_true, Nat.reduceBEq, Nat.reduceAdd, Nat.reduceSub, Nat.reduceMul, Nat.reduceLT, Nat.reduceLeDiff, Int.reduceLE, Int.reduceLT, Int.reduceToNat, Int.reduceBEq, Int.reduceBNe, Int.le_refl, Nat.le_refl, decide_true, decide_false, Int.cast_ofNat_Int, ↓reduceIte, h5513, g5515, h5518, h5523, h5526, h5529, h5533, h5536, h5539, h5541, h5542, h5543, h5544, h5546]
                repeat with_reducible refine And.intro (by first | kernel_rfl | decide) ?_
                obtain rfl := Option.some.inj h5837
                exact cutQ _ ((Wk_le (.cons _ _ _ _ _ (.refl _) (.cons _ _ _ _ _ (.refl _) (.cons _ _ _ _ _ (.refl _) (.cons _ _ _ _ _ (.refl _) (.cons _ _ _ _ _ (.refl _) (.cons _ _ _ _ _ (.refl _) (.cons _ _ _ _ _ (.refl _) (.cons _ _ _ _ _ (.refl _) (.cons _ _ _ _ _ (.refl _) (.cons _ _ _ _ _ (.refl _) (.cons _ _ _ _ _ (.refl _) (.cons _ _ _ _ _ (.refl _) (.cons _ _ _ _ _ (.refl _) (.cons _ _ _ _ _ (.refl _) (.cons _ _ _ _ _ (.refl _) (.cons _ _ _ _ _ (.refl _) (.cons _ _ _ _ _ (.refl _) (.cons _ _ _ _ _ (.refl _) (.cons _ _ _ _ _ (.refl _) (.cons _ _ _ _ _ (.refl _) (.cons _ _ _ _ _ (.refl _) (.cons _ _ _ _ _ (.refl _) (.cons _ _ _ _ _ (.refl _) (.cons _ _ _ _ _ (.dead _) (.cons _ _ _ _ _ (.dead _) (.cons _ _ _ _ _ (.dead _) (.cons _ _ _ _ _ (.dead _) (.cons _ _ _ _ _ (.refl _) (.cons _ _ _ _ _ (.refl _) (.cons _ _ _ _ _ (.refl _) (.cons _ _ _ _ _ (.refl _) (.cons _ _ _ _ _ (.refl _) (.cons _ _ _ _ _ (.refl _) (.cons _ _ _ _ _ (.refl _) (.cons _ _ _ _ _ (.refl _) (.cons _ _ _ _ _ (.refl _) (.cons _ _ _ _ _ (.refl _) (.cons _ _ _ _ _ (.refl _) (.cons _ _ _ _ _ (.refl _) (.cons _ _ _ _ _ (.refl _) (.cons _ _ _ _ _ (.refl _) (.cons _ _ _ _ _ (.refl _) (.cons _ _ _ _ _ (.refl _) (.cons _ _ _ _ _ (.refl _) (.cons _ _ _ _ _ (.refl _) (.cons _ _ _ _ _ (.refl _) .nil)))))))))))))))))))))))))))))))))))))))))))))) (OLe.refl _)).trans (cmpS_ok (st' := ⟨[], [(0, .dead), (1, .dead), (2, .dead), (3, .v (.lst false n5519 c5520)), (4, .v (.lst false n5527 c5528)), (5, .dead), (6, .v (.lst false n5537 c5538)), (7, .dead), (8, .dead), (9, .dead), (10, .dead), (11, .dead), (12, .dead), (13, .dead), (14, .dead), (15, .dead), (16, .dead), (17, .dead), (18, .dead), (19, .dead), (20, .dead), (21, .dead), (52, .dead), (53, .dead), (54, .dead), (55, .dead), (56, .dead), (88, .dead), (90, .dead), (91, .dead), (92, .dead), (93, .dead), (146, .dead), (149, .dead), (150, .dead), (151, .dead), (153, .dead), (154, .dead), (155, .dead), (156, .dead), (186, .dead), (187, .dead), (200, .dead), (220, .dead), (255, .dead), (280, .dead)], [], 0, []⟩) (by kernel_rfl))) ⟨rfl, rfl⟩
          · rintro _ ⟨rfl, rfl⟩
            (try dsimp only at h5838)
            refine W_sound tab_ok mixed 7 _ _ _ ?_
            simp -implicitDefEqProofs only [go_sem, ne_eq, not_false_eq_true, Nat.reduceBEq, Nat.reduceAdd, Nat.reduceSub, Nat.reduceMul, Nat.reduceLT, Nat.reduceLeDiff, Int.reduceLE, Int.reduceLT, Int.reduceToNat, Int.reduceBEq, Int.reduceBNe, Int.le_refl, Nat.le_refl, decide_true, decide_false, Int.cast_ofNat_Int, ↓reduceIte, h5513, g5515, h5518, h5523, h5526, h5529, h5533, h5536, h5539, h5541, h5542, h5543, h5544]
            repeat with_reducible refine And.intro (by first | kernel_rfl | decide) ?_
            have hh := bnd'_some h5838; clear h5838; obtain ⟨o5839, h5840, h5841⟩ := hh
            refine Wp_cut (fun s => (.inr ()) = o5839 ∧ s = ⟨[], [(0, .dead), (1, .dead), (2, .dead), (3, .v (.lst false n5519 c5520)), (4, .v (.lst false n5527 c5528)), (5, .dead), (6, .dead), (7, .dead), (8, .dead), (9, .dead), (10, .dead), (11, .dead), (12, .dead), (13, .dead), (14, .dead), (15, .dead), (16, .dead), (17, .dead), (18, .dead), (19, .dead), (20, .dead), (21, .dead), (52, .dead), (53, .dead), (54, .dead), (55, .dead), (56, .dead), (88, .dead), (90, .dead), (91, .dead), (92, .dead), (93, .dead), (146, .dead), (149, .dead), (150, .dead), (151, .dead), (153, .dead), (154, .dead), (155, .dead), (156, .dead), (186, .dead), (187, .dead), (200, .dead), (220, .dead), (255, .dead), (280, .dead)], [], 0, []⟩) ?_ ?_
            · refine Wp_block ?_
              refine Wp_loopG (fun n s => ∃ x5572, m12_L1 N n5519 c5520 n5527 c5528 n5537 c5538 n x5572 = some o5839 ∧ s = ⟨[], [(0, .dead), (1, .dead), (2, .dead), (3, .v (.lst false n5519 c5520)), (4, .v (.lst false n5527 c5528)), (5, .dead), (6, .v (.lst false n5537 c5538)), (7, .dead), (8, .dead), (9, .dead), (10, .dead), (11, .dead), (12, .dead), (13, .dead), (14, .dead), (15, .dead), (16, .dead), (17, .dead), (18, .dead), (19, .dead), (20, .dead), (21, .dead), (52, .dead), (53, .dead), (54, .dead), (55, .dead), (56, .dead), (88, .dead), (90, .v (.lst false n5537 c5538)), (91, .v (.int .i64 ((n5537 : Nat) : Int))), (92, .v (.int .i64 x5572)), (93, .dead), (146, .dead), (149, .dead), (150, .dead), (151, .dead), (153, .dead), (154, .dead), (155, .dead), (156, .dead), (186, .dead), (187, .dead), (200, .dead), (220, .dead), (255, .dead), (280, .dead)], [], 0, []⟩) N _ ((Wk_le (.cons _ _ _ _ _ (.refl _) (.cons _ _ _ _ _ (.refl _) (.cons _ _ _ _ _ (.refl _) (.cons _ _ _ _ _ (.refl _) (.cons _ _ _ _ _ (.refl _) (.cons _ _ _ _ _ (.refl _) (.cons _ _ _ _ _ (.refl _) (.cons _ _ _ _ _ (.refl _) (.cons _ _ _ _ _ (.refl _) (.cons _ _ _ _ _ (.refl _) (.cons _ _ _ _ _ (.refl _) (.cons _ _ _ _ _ (.refl _) (.cons _ _ _ _ _ (.refl _) (.cons _ _ _ _ _ (.refl _) (.cons _ _ _ _ _ (.refl _) (.cons _ _ _ _ _ (.refl _) (.cons _ _ _ _ _ (.refl _) (.cons _ _ _ _ _ (.refl _) (.cons _ _ _ _ _ (.refl _) (.cons _ _ _ _ _ (.refl _) (.cons _ _ _ _ _ (.refl _) (.cons _ _ _ _ _ (.refl _) (.cons _ _ _ _ _ (.refl _) (.cons _ _ _ _ _ (.refl _) (.cons _ _ _ _ _ (.refl _) (.cons _ _ _ _ _ (.refl _) (.cons _ _ _ _ _ (.refl _) (.cons _ _ _ _ _ (.refl _) (.cons _ _ _ _ _ (.refl _) (.cons _ _ _ _ _ (.refl _) (.cons _ _ _ _ _ (.refl _) (.cons _ _ _ _ _ (.refl _) (.cons _ _ _ _ _ (.refl _) (.cons _ _ _ _ _ (.refl _) (.cons _ _ _ _ _ (.refl _) (.cons _ _ _ _ _ (.refl _) (.cons _ _ _ _ _ (.refl _) (.cons _ _ _ _ _ (.refl _) (.cons _ _ _ _ _ (.refl _) (.cons _ _ _ _ _ (.refl _) (.cons _ _ _ _ _ (.refl _) (.cons _ _ _ _ _ (.refl _) (.cons _ _ _ _ _ (.refl _) (.cons _ _ _ _ _ (.refl _) (.cons _ _ _ _ _ (.refl _) (.cons _ _ _ _ _ (.refl _) .nil)))))))))))))))))))))))))))))))))))))))))))))) (OLe.refl _)).trans (cmpS_ok (st' := ⟨[], [(0, .dead), (1, .dead), (2, .dead), (3, .v (.lst false n5519 c5520)), (4, .v (.lst false n5527 c5528)), (5, .dead), (6, .v (.lst false n5537 c5538)), (7, .dead), (8, .dead), (9, .dead), (10, .dead), (11, .dead), (12, .dead), (13, .dead), (14, .dead), (15, .dead), (16, .dead), (17, .dead), (18, .dead), (19, .dead), (20, .dead), (21, .dead), (52, .dead), (53, .dead), (54, .dead), (55, .dead), (56, .dead), (88, .dead), (90, .v (.lst false n5537 c5538)), (91, .v (.int .i64 ((n5537 : Nat) : Int))), (92, .v (.int .i64 0)), (93, .dead), (146, .dead), (149, .dead), (150, .dead), (151, .dead), (153, .dead), (154, .dead), (155, .dead), (156, .dead), (186, .dead), (187, .dead), (200, .dead), (220, .dead), (255, .dead), (280, .dead)], [], 0, []⟩) (by kernel_rfl))) ⟨_, h5840, rfl⟩ ?_
              clear h5840
              rintro n _ ⟨x5572, h5840, rfl⟩
              cases n with
              | zero => cases h5840
              | succ n =>
                rw [m12_L1] at h5840
                have hh := brn_some h5840; clear h5840; rcases hh with ⟨h5573, h5840⟩ | ⟨h5573, h5840⟩
                · have hh := grd_some h5840; clear h5840; obtain ⟨⟨g5574, g5575⟩, h5840⟩ := hh
                  have hh := grd_some h5840; clear h5840; obtain ⟨g5576, h5840⟩ := hh
                  have hh := getA2_some h5840; clear h5840; obtain ⟨p5578, p5579, h5577, h5840⟩ := hh
                  injection h5577 with h5577
                  have hh := getI_some h5840; clear h5840; obtain ⟨x5581, h5580, h5840⟩ := hh
                  have hh := getI_some h5840; clear h5840; obtain ⟨x5583, h5582, h5840⟩ := hh
                  have hh := grd_some h5840; clear h5840; obtain ⟨g5584, h5840⟩ := hh
                  have hh := grd_some h5840; clear h5840; obtain ⟨g5585, h5840⟩ := hh
                  have hh := getI_some h5840; clear h5840; obtain ⟨x5587, h5586, h5840⟩ := hh
                  have hh := grd_some h5840; clear h5840; obtain ⟨⟨g5588, g5589⟩, h5840⟩ := hh
                  have hh := grd_some h5840; clear h5840; obtain ⟨g5590, h5840⟩ := hh
                  have hh := getA2_some h5840; clear h5840; obtain ⟨p5592, p5593, h5591, h5840⟩ := hh
                  injection h5591 with h5591
                  have hh := grd_some h5840; clear h5840; obtain ⟨⟨g5594, g5595⟩, h5840⟩ := hh
                  have hh := grd_some h5840; clear h5840; obtain ⟨g5596, h5840⟩ := hh
                  have hh := getI_some h5840; clear h5840; obtain ⟨x5598, h5597, h5840⟩ := hh
                  have hh := grd_some h5840; clear h5840; obtain ⟨⟨g5599, g5600⟩, h5840⟩ := hh
                  have hh := grd_some h5840; clear h5840; obtain ⟨g5601, h5840⟩ := hh
                  have hh := getA2_some h5840; clear h5840; obtain ⟨p5603, p5604, h5602, h5840⟩ := hh
                  injection h5602 with h5602
                  have hh := getI_some h5840; clear h5840; obtain ⟨x5606, h5605, h5840⟩ := hh
                  have hh := getI_some h5840; clear h5840; obtain ⟨x5608, h5607, h5840⟩ := hh
                  have hh := getI_some h5840; clear h5840; obtain ⟨x5610, h5609, h5840⟩ := hh
                  have hh := getI_some h5840; clear h5840; obtain ⟨x5612, h5611, h5840⟩ := hh
                  have hh := bnd'_some h5840; clear h5840; obtain ⟨p5613, h5614, h5840⟩ := hh
                  refine W_sound tab_ok mixed 43 _ _ _ ?_
                  simp -implicitDefEqProofs only [go_sem, ne_eq, not_false_eq_true, Nat.reduceBEq, Nat.reduceAdd, Nat.reduceSub, Nat.reduceMul, Nat.reduceLT, Nat.reduceLeDiff, Int.reduceLE, Int.reduceLT, Int.reduceToNat, Int.reduceBEq, Int.reduceBNe, Int.le_refl, Nat.le_refl, decide_true, decide_false, Int.cast_ofNat_Int, ↓reduceIte, h5513, g5515, h5518, h5523, h5526, h5529, h5533, h5536, h5539, h5541, h5542, h5543, h5544, h5573, g5574, g5575, g5576, h5577, h5580, h5582, g5584, g5585, h5586, g5588, g5589, g5590, h5591, g5594, g5595, g5596, h5597, g5599, g5600, g5601, h5602, h5605, h5607, h5609, h5611]
                  repeat with_reducible refine And.intro (by first | kernel_rfl | decide) ?_
                  refine Wp_callP (c37 N _ _ h5614) (by kernel_rfl) rfl rfl rfl rfl (by decide) ?_
                  have hh := getB_some h5840; clear h5840; obtain ⟨b5616, h5615, h5840⟩ := hh
                  have hh := brn_some h5840; clear h5840; rcases hh with ⟨h5617, h5840⟩ | ⟨h5617, h5840⟩
                  · have hh := bnd'_some h5840; clear h5840; obtain ⟨p5618, h5619, h5840⟩ := hh
                    refine W_sound tab_ok mixed 4 _ _ _ ?_
                    simp -implicitDefEqProofs only [go_sem, ne_eq, not_false_eq_true, Nat.reduceBEq, Nat.reduceAdd, Nat.reduceSub, Nat.reduceMul, Nat.reduceLT, Nat.reduceLeDiff, Int.reduceLE, Int.reduceLT, Int.reduceToNat, Int.reduceBEq, Int.reduceBNe, Int.le_refl, Nat.le_refl, decide_true, decide_false, Int.cast_ofNat_Int, ↓reduceIte, h5513, g5515, h5518, h5523, h5526, h5529, h5533, h5536, h5539, h5541, h5542, h5543, h5544, h5573, g5574, g5575, g5576, h5577, h5580, h5582, g5584, g5585, h5586, g5588, g5589, g5590, h5591, g5594, g5595, g5596, h5597, g5599, g5600, g5601, h5602, h5605, h5607, h5609, h5611, h5615, h5617]
                    repeat with_reducible refine And.intro (by first | kernel_rfl | decide) ?_
                    refine Wp_callP (c41 N _ _ _ h5619) (by kernel_rfl) rfl rfl rfl rfl (by decide) ?_
                    have hh := getI_some h5840; clear h5840; obtain ⟨x5621, h5620, h5840⟩ := hh
                    have hh := bnd'_some h5840; clear h5840; obtain ⟨p5622, h5623, h5840⟩ := hh
                    refine W_sound tab_ok mixed 2 _ _ _ ?_
                    simp -implicitDefEqProofs only [go_sem, ne_eq, not_false_eq_true, Nat.reduceBEq, Nat.reduceAdd, Nat.reduceSub, Nat.reduceMul, Nat.reduceLT, Nat.reduceLeDiff, Int.reduceLE, Int.reduceLT, Int.reduceToNat, Int.reduceBEq, Int.reduceBNe, Int.le_refl, Nat.le_refl, decide_true, decide_false, Int.cast_ofNat_Int, ↓reduceIte, h5513, g5515, h5518, h5523, h5526, h5529, h5533, h5536, h5539, h5541, h5542, h5543, h5544, h5573, g5574, g5575, g5576, h5577, h5580, h5582, g5584, g5585, h5586, g5588, g5589, g5590, h5591, g5594, g5595, g5596, h5597, g5599, g5600, g5601, h5602, h5605, h5607, h5609, h5611, h5615, h5617, h5620]
                    repeat with_reducible refine And.intro (by first | kernel_rfl | decide) ?_
                    refine Wp_callP (c41 N _ _ _ h5623) (by kernel_rfl) rfl rfl rfl rfl (by decide) ?_
                    have hh := getI_some h5840; clear h5840; obtain ⟨x5625, h5624, h5840⟩ := hh
                    have hh := brn_some h5840; clear h5840; rcases hh with ⟨h5626, h5840⟩ | ⟨h5626, h5840⟩
                    · refine W_sound tab_ok mixed 33 _ _ _ ?_
                      simp -implicitDefEqProofs only [go_sem, ne_eq, not_false_eq_true, Nat.reduceBEq, Nat.reduceAdd, Nat.reduceSub, Nat.reduceMul, Nat.reduceLT, Nat.reduceLeDiff, Int.reduceLE, Int.reduceLT, Int.reduceToNat, Int.reduceBEq, Int.reduceBNe, Int.le_refl, Nat.le_refl, decide_true, decide_false, Int.cast_ofNat_Int, ↓reduceIte, h5513, g5515, h5518, h5523, h5526, h5529, h5533, h5536, h5539, h5541, h5542, h5543, h5544, h5573, g5574, g5575, g5576, h5577, h5580, h5582, g5584, g5585, h5586, g5588, g5589, g5590, h5591, g5594, g5595, g5596, h5597, g5599, g5600, g5601, h5602, h5605, h5607, h5609, h5611, h5615, h5617, h5620, h5624, h5626]
                      repeat with_reducible refine And.intro (by first | kernel_rfl | decide) ?_
                      obtain rfl := Option.some.inj h5840
                      (try dsimp only at h5841)
                      obtain rfl := Option.some.inj h5841
                      exact finC [(2, .v (.bool false))] [(2, .v (.bool false))] (by simp [leE, lk_cons]) (.cons _ _ _ _ _ (.v _ _ (.refl _)) .nil) (by rfl) (by simp [leE, lk_cons]) (by decide) (by decide) rfl (by simp only [go_sem, ne_eq, not_false_eq_true, Nat.reduceBEq, Nat.reduceAdd, Nat.reduceSub, Nat.reduceMul, Nat.reduceLT, Nat.reduceLeDiff, Int.reduceLE, Int.reduceLT, Int.reduceToNat, Int.reduceBEq, Int.reduceBNe, Int.le_refl, Nat.le_refl, decide_true, decide_false, Int.cast_ofNat_Int, ↓reduceIte, resQ_tmp, resQ_cell, resQ_nil, retD_one, retD_two, retD_three, retD_none]; try simp [R.val, retD_one, retD_two, retD_three, retD_none])
                    · have hh := bnd'_some h5840; clear h5840; obtain ⟨p5627, h5628, h5840⟩ := hh
                      refine W_sound tab_ok mixed 5 _ _ _ ?_
                      simp -implicitDefEqProofs only [go_sem, ne_eq, not_false_eq_true, Nat.reduceBEq, Nat.reduceAdd, Nat.reduceSub, Nat.reduceMul, Nat.reduceLT, Nat.reduceLeDiff, Int.reduceLE, Int.reduceLT, Int.reduceToNat, Int.reduceBEq, Int.reduceBNe, Int.le_refl, Nat.le_refl, decide_true, decide_false, Int.cast_ofNat_Int, ↓reduceIte, h5513, g5515, h5518, h5523, h5526, h5529, h5533, h5536, h5539, h5541, h5542, h5543, h5544, h5573, g5574, g5575, g5576, h5577, h5580, h5582, g5584, g5585, h5586, g5588, g5589, g5590, h5591, g5594, g5595, g5596, h5597, g5599, g5600, g5601, h5602, h5605, h5607, h5609, h5611, h5615, h5617, h5620, h5624, h5626]
                      repeat with_reducible refine And.intro (by first | kernel_rfl | decide) ?_
                      refine Wp_callP (c41 N _ _ _ h5628) (by kernel_rfl) rfl rfl rfl rfl (by decide) ?_
                      have hh := getI_some h5840; clear h5840; obtain ⟨x5630, h5629, h5840⟩ := hh
                      have hh := bnd'_some h5840; clear h5840; obtain ⟨p5631, h5632, h5840⟩ := hh
                      refine W_sound tab_ok mixed 2 _ _ _ ?_
                      simp -implicitDefEqProofs only [go_sem, ne_eq, not_false_eq_true, Nat.reduceBEq, Nat.reduceAdd, Nat.reduceSub, Nat.reduceMul, Nat.reduceLT, Nat.reduceLeDiff, Int.reduceLE, Int.reduceLT, Int.reduceToNat, Int.reduceBEq, Int.reduceBNe, Int.le_refl, Nat.le_refl, decide_true, decide_false, Int.cast_ofNat_Int, ↓reduceIte, h5513, g5515, h5518, h5523, h5526, h5529, h5533, h5536, h5539, h5541, h5542, h5543, h5544, h5573, g5574, g5575, g5576, h5577, h5580, h5582, g5584, g5585, h5586, g5588, g5589, g5590, h5591, g5594, g5595, g5596, h5597, g5599, g5600, g5601, h5602, h5605, h5607, h5609, h5611, h5615, h5617, h5620, h5624, h5626, h5629]
                      repeat with_reducible refine And.intro (by first | kernel_rfl | decide) ?_
                      refine Wp_callP (c39 N _ _ _ h5632) (by kernel_rfl) rfl rfl rfl rfl (by decide) ?_
                      have hh := getI_some h5840; clear h5840; obtain ⟨x5634, h5633, h5840⟩ := hh
                      have hh := brn_some h5840; clear h5840; rcases hh with ⟨h5635, h5840⟩ | ⟨h5635, h5840⟩
                      · refine W_sound tab_ok mixed 24 _ _ _ ?_
                        simp -implicitDefEqProofs only [go_sem, ne_eq, not_false_eq_true, Nat.reduceBEq, Nat.reduceAdd, Nat.reduceSub, Nat.reduceMul, Nat.reduceLT, Nat.reduceLeDiff, Int.reduceLE, Int.reduceLT, Int.reduceToNat, Int.reduceBEq, Int.reduceBNe, Int.le_refl, Nat.le_refl, decide_true, decide_false, Int.cast_ofNat_Int, ↓reduceIte, h5513, g5515, h5518, h5523, h5526, h5529, h5533, h5536, h5539, h5541, h5542, h5543, h5544, h5573, g5574, g5575, g5576, h5577, h5580, h5582, g5584, g5585, h5586, g5588, g5589, g5590, h5591, g5594, g5595, g5596, h5597, g5599, g5600, g5601, h5602, h5605, h5607, h5609, h5611, h5615, h5617, h5620, h5624, h5626, h5629, h5633, h5635]
                        repeat with_reducible refine And.intro (by first | kernel_rfl | decide) ?_
                        obtain rfl := Option.some.inj h5840
                        (try dsimp only at h5841)
                        obtain rfl := Option.some.inj h5841
                        exact finC [(2, .v (.bool false))] [(2, .v (.bool false))] (by simp [leE, lk_cons]) (.cons _ _ _ _ _ (.v _ _ (.refl _)) .nil) (by rfl) (by simp [leE, lk_cons]) (by decide) (by decide) rfl (by simp only [go_sem, ne_eq, not_false_eq_true, Nat.reduceBEq, Nat.reduceAdd, Nat.reduceSub, Nat.reduceMul, Nat.reduceLT, Nat.reduceLeDiff, Int.reduceLE, Int.reduceLT, Int.reduceToNat, Int.reduceBEq, Int.reduceBNe, Int.le_refl, Nat.le_refl, decide_true, decide_false, Int.cast_ofNat_Int, ↓reduceIte, resQ_tmp, resQ_cell, resQ_nil, retD_one, retD_two, retD_three, retD_none]; try simp [R.val, retD_one, retD_two, retD_three, retD_none])
                      · have hh := brn_some h5840; clear h5840; rcases hh with ⟨h5636, h5840⟩ | ⟨h5636, h5840⟩
                        · have hh := grd_some h5840; clear h5840; obtain ⟨⟨g5637, g5638⟩, h5840⟩ := hh
                          have hh := grd_some h5840; clear h5840; obtain ⟨g5639, h5840⟩ := hh
                          have hh := getA2_some h5840; clear h5840; obtain ⟨p5641, p5642, h5640, h5840⟩ := hh
                          injection h5640 with h5640
                          have hh := bnd'_some h5840; clear h5840; obtain ⟨p5643, h5644, h5840⟩ := hh
                          refine W_sound tab_ok mixed 12 _ _ _ ?_
                          simp -implicitDefEqProofs only [go_sem, ne_eq, not_false_eq_true, Nat.reduceBEq, Nat.reduceAdd, Nat.reduceSub, Nat.reduceMul, Nat.reduceLT, Nat.reduceLeDiff, Int.reduceLE, Int.reduceLT, Int.reduceToNat, Int.reduceBEq, Int.reduceBNe, Int.le_refl, Nat.le_refl, decide_true, decide_false, Int.cast_ofNat_Int, ↓reduceIte, h5513, g5515, h5518, h5523, h5526, h5529, h5533, h5536, h5539, h5541, h5542, h5543, h5544, h5573, g5574, g5575, g5576, h5577, h5580, h5582, g5584, g5585, h5586, g5588, g5589, g5590, h5591, g5594, g5595, g5596, h5597, g5599, g5600, g5601, h5602, h5605, h5607, h5609, h5611, h5615, h5617, h5620, h5624, h5626, h5629, h5633, h5635, h5636, g5637, g5638, g5639, h5640]
                          repeat with_reducible refine And.intro (by first | kernel_rfl | decide) ?_
                          refine Wp_callP (c49 N _ _ _ h5644) (by kernel_rfl) rfl rfl rfl rfl (by decide) ?_
                          have hh := getI_some h5840; clear h5840; obtain ⟨x5646, h5645, h5840⟩ := hh
                          have hh := brn_some h5840; clear h5840; rcases hh with ⟨h5647, h5840⟩ | ⟨h5647, h5840⟩
                          · refine W_sound tab_ok mixed 11 _ _ _ ?_
                            simp -implicitDefEqProofs only [go_sem, ne_eq, not_false_eq_true, Nat.reduceBEq, Nat.reduceAdd, Nat.reduceSub, Nat.reduceMul, Nat.reduceLT, Nat.reduceLeDiff, Int.reduceLE, Int.reduceLT, Int.reduceToNat, Int.reduceBEq, Int.reduceBNe, Int.le_refl, Nat.le_refl, decide_true, decide_false, Int.cast_ofNat_Int, ↓reduceIte, h5513, g5515, h5518, h5523, h5526, h5529, h5533, h5536, h5539, h5541, h5542, h5543, h5544, h5573, g5574, g5575, g5576, h5577, h5580, h5582, g5584, g5585, h5586, g5588, g5589, g5590, h5591, g5594, g5595, g5596, h5597, g5599, g5600, g5601, h5602, h5605, h5607, h5609, h5611, h5615, h5617, h5620, h5624, h5626, h5629, h5633, h5635, h5636, g5637, g5638, g5639, h5640, h5645, h5647]
                            repeat with_reducible refine And.intro (by first | kernel_rfl | decide) ?_
                            obtain rfl := Option.some.inj h5840
                            (try dsimp only at h5841)
                            obtain rfl := Option.some.inj h5841
                            exact finC [(2, .v (.bool false))] [(2, .v (.bool false))] (by simp [leE, lk_cons]) (.cons _ _ _ _ _ (.v _ _ (.refl _)) .nil) (by rfl) (by simp [leE, lk_cons]) (by decide) (by decide) rfl (by simp only [go_sem, ne_eq, not_false_eq_true, Nat.reduceBEq, Nat.reduceAdd, Nat.reduceSub, Nat.reduceMul, Nat.reduceLT, Nat.reduceLeDiff, Int.reduceLE, Int.reduceLT, Int.reduceToNat, Int.reduceBEq, Int.reduceBNe, Int.le_refl, Nat.le_refl, decide_true, decide_false, Int.cast_ofNat_Int, ↓reduceIte, resQ_tmp, resQ_cell, resQ_nil, retD_one, retD_two, retD_three, retD_none]; try simp [R.val, retD_one, retD_two, retD_three, retD_none])
                          · refine W_sound tab_ok mixed 11 _ _ _ ?_
                            simp -implicitDefEqProofs only [go_sem, ne_eq, not_false_eq_true, Nat.reduceBEq, Nat.reduceAdd, Nat.reduceSub, Nat.reduceMul, Nat.reduceLT, Nat.reduceLeDiff, Int.reduceLE, Int.reduceLT, Int.reduceToNat, Int.reduceBEq, Int.reduceBNe, Int.le_refl, Nat.le_refl, decide_true, decide_false, Int.cast_ofNat_Int, ↓reduceIte, h5513, g5515, h5518, h5523, h5526, h5529, h5533, h5536, h5539, h5541, h5542, h5543, h5544, h5573, g5574, g5575, g5576, h5577, h5580, h5582, g5584, g5585, h5586, g5588, g5589, g5590, h5591, g5594, g5595, g5596, h5597, g5599, g5600, g5601, h5602, h5605, h5607, h5609, h5611, h5615, h5617, h5620, h5624, h5626, h5629, h5633, h5635, h5636, g5637, g5638, g5639, h5640, h5645, h5647]
                            repeat with_reducible refine And.intro (by first | kernel_rfl | decide) ?_
                            exact cutQ _ ((Wk_le (.cons _ _ _ _ _ (.refl _) (.cons _ _ _ _ _ (.refl _) (.cons _ _ _ _ _ (.refl _) (.cons _ _ _ _ _ (.refl _) (.cons _ _ _ _ _ (.refl _) (.cons _ _ _ _ _ (.refl _) (.cons _ _ _ _ _ (.refl _) (.cons _ _ _ _ _ (.refl _) (.cons _ _ _ _ _ (.refl _) (.cons _ _ _ _ _ (.refl _) (.cons _ _ _ _ _ (.dead _) (.cons _ _ _ _ _ (.dead _) (.cons _ _ _ _ _ (.dead _) (.cons _ _ _ _ _ (.dead _) (.cons _ _ _ _ _ (.refl _) (.cons _ _ _ _ _ (.refl _) (.cons _ _ _ _ _ (.refl _) (.cons _ _ _ _ _ (.refl _) (.cons _ _ _ _ _ (.refl _) (.cons _ _ _ _ _ (.refl _) (.cons _ _ _ _ _ (.refl _) (.cons _ _ _ _ _ (.refl _) (.cons _ _ _ _ _ (.refl _) (.cons _ _ _ _ _ (.refl _) (.cons _ _ _ _ _ (.refl _) (.cons _ _ _ _ _ (.refl _) (.cons _ _ _ _ _ (.refl _) (.cons _ _ _ _ _ (.refl _) (.cons _ _ _ _ _ (.refl _) (.cons _ _ _ _ _ (.refl _) (.cons _ _ _ _ _ (.refl _) (.cons _ _ _ _ _ (.dead _) (.cons _ _ _ _ _ (.dead _) (.cons _ _ _ _ _ (.refl _) (.cons _ _ _ _ _ (.refl _) (.cons _ _ _ _ _ (.refl _) (.cons _ _ _ _ _ (.refl _) (.cons _ _ _ _ _ (.refl _) (.cons _ _ _ _ _ (.refl _) (.cons _ _ _ _ _ (.refl _) (.cons _ _ _ _ _ (.refl _) (.cons _ _ _ _ _ (.refl _) (.cons _ _ _ _ _ (.refl _) (.cons _ _ _ _ _ (.refl _) (.cons _ _ _ _ _ (.refl _) (.cons _ _ _ _ _ (.refl _) .nil)))))))))))))))))))))))))))))))))))))))))))))) (OLe.refl _)).trans (cmpS_ok (st' := ⟨[], [(0, .dead), (1, .dead), (2, .dead), (3, .v (.lst false n5519 c5520)), (4, .v (.lst false n5527 c5528)), (5, .dead), (6, .v (.lst false n5537 c5538)), (7, .dead), (8, .dead), (9, .dead), (10, .dead), (11, .dead), (12, .dead), (13, .dead), (14, .dead), (15, .dead), (16, .dead), (17, .dead), (18, .dead), (19, .dead), (20, .dead), (21, .dead), (52, .dead), (53, .dead), (54, .dead), (55, .dead), (56, .dead), (88, .dead), (90, .v (.lst false n5537 c5538)), (91, .v (.int .i64 ((n5537 : Nat) : Int))), (92, .v (.int .i64 (IntKind.i64.wrap (x5572 + 1)))), (93, .dead), (146, .dead), (149, .dead), (150, .dead), (151, .dead), (153, .dead), (154, .dead), (155, .dead), (156, .dead), (186, .dead), (187, .dead), (200, .dead), (220, .dead), (255, .dead), (280, .dead)], [], 0, []⟩) (by kernel_rfl))) ⟨n, Nat.lt_succ_self n, _, h5840, rfl⟩
                        · refine W_sound tab_ok mixed 24 _ _ _ ?_
                          simp -implicitDefEqProofs only [go_sem, ne_eq, not_false_eq_true, Nat.reduceBEq, Nat.reduceAdd, Nat.reduceSub, Nat.reduceMul, Nat.reduceLT, Nat.reduceLeDiff, Int.reduceLE, Int.reduceLT, Int.reduceToNat, Int.reduceBEq, Int.reduceBNe, Int.le_refl, Nat.le_refl, decide_true, decide_false, Int.cast_ofNat_Int, ↓reduceIte, h5513, g5515, h5518, h5523, h5526, h5529, h5533, h5536, h5539, h5541, h5542, h5543, h5544, h5573, g5574, g5575, g5576, h5577, h5580, h5582, g5584, g5585, h5586, g5588, g5589, g5590, h5591, g5594, g5595, g5596, h5597, g5599, g5600, g5601, h5602, h5605, h5607, h5609, h5611, h5615, h5617, h5620, h5624, h5626, h5629, h5633, h5635, h5636]
                          repeat with_reducible refine And.intro (by first | kernel_rfl | decide) ?_
                          exact cutQ _ ((Wk_le (.cons _ _ _ _ _ (.refl _) (.cons _ _ _ _ _ (.refl _) (.cons _ _ _ _ _ (.refl _) (.cons _ _ _ _ _ (.refl _) (.cons _ _ _ _ _ (.refl _) (.cons _ _ _ _ _ (.refl _) (.cons _ _ _ _ _ (.refl _) (.cons _ _ _ _ _ (.refl _) (.cons _ _ _ _ _ (.refl _) (.cons _ _ _ _ _ (.refl _) (.cons _ _ _ _ _ (.dead _) (.cons _ _ _ _ _ (.dead _) (.cons _ _ _ _ _ (.dead _) (.cons _ _ _ _ _ (.dead _) (.cons _ _ _ _ _ (.refl _) (.cons _ _ _ _ _ (.refl _) (.cons _ _ _ _ _ (.refl _) (.cons _ _ _ _ _ (.refl _) (.cons _ _ _ _ _ (.refl _) (.cons _ _ _ _ _ (.refl _) (.cons _ _ _ _ _ (.refl _) (.cons _ _ _ _ _ (.refl _) (.cons _ _ _ _ _ (.refl _) (.cons _ _ _ _ _ (.refl _) (.cons _ _ _ _ _ (.refl _) (.cons _ _ _ _ _ (.refl _) (.cons _ _ _ _ _ (.refl _) (.cons _ _ _ _ _ (.refl _) (.cons _ _ _ _ _ (.refl _) (.cons _ _ _ _ _ (.refl _) (.cons _ _ _ _ _ (.refl _) (.cons _ _ _ _ _ (.dead _) (.cons _ _ _ _ _ (.dead _) (.cons _ _ _ _ _ (.refl _) (.cons _ _ _ _ _ (.refl _) (.cons _ _ _ _ _ (.refl _) (.cons _ _ _ _ _ (.refl _) (.cons _ _ _ _ _ (.refl _) (.cons _ _ _ _ _ (.refl _) (.cons _ _ _ _ _ (.refl _) (.cons _ _ _ _ _ (.refl _) (.cons _ _ _ _ _ (.refl _) (.cons _ _ _ _ _ (.refl _) (.cons _ _ _ _ _ (.refl _) (.cons _ _ _ _ _ (.refl _) (.cons _ _ _ _ _ (.refl _) .nil)))))))))))))))))))))))))))))))))))))))))))))) (OLe.refl _)).trans (cmpS_ok (st' := ⟨[], [(0, .dead), (1, .dead), (2, .dead), (3, .v (.lst false n5519 c5520)), (4, .v (.lst false n5527 c5528)), (5, .dead), (6, .v (.lst false n5537 c5538)), (7, .dead), (8, .dead), (9, .dead), (10, .dead), (11, .dead), (12, .dead), (13, .dead), (14, .dead), (15, .dead), (16, .dead), (17, .dead), (18, .dead), (19, .dead), (20, .dead), (21, .dead), (52, .dead), (53, .dead), (54, .dead), (55, .dead), (56, .dead), (88, .dead), (90, .v (.lst false n5537 c5538)), (91, .v (.int .i64 ((n5537 : Nat) : Int))), (92, .v (.int .i64 (IntKind.i64.wrap (x5572 + 1)))), (93, .dead), (146, .dead), (149, .dead), (150, .dead), (151, .dead), (153, .dead), (154, .dead), (155, .dead), (156, .dead), (186, .dead), (187, .dead), (200, .dead), (220, .dead), (255, .dead), (280, .dead)], [], 0, []⟩) (by kernel_rfl))) ⟨n, Nat.lt_succ_self n, _, h5840, rfl⟩
                  · refine W_sound tab_ok mixed 41 _ _ _ ?_
                    simp -implicitDefEqProofs only [go_sem, ne_eq, not_false_eq_true, Nat.reduceBEq, Nat.reduceAdd, Nat.reduceSub, Nat.reduceMul, Nat.reduceLT, Nat.reduceLeDiff, Int.reduceLE, Int.reduceLT, Int.reduceToNat, Int.reduceBEq, Int.reduceBNe, Int.le_refl, Nat.le_refl, decide_true, decide_false, Int.cast_ofNat_Int, ↓reduceIte, h5513, g5515, h5518, h5523, h5526, h5529, h5533, h5536, h5539, h5541, h5542, h5543, h5544, h5573, g5574, g5575, g5576, h5577, h5580, h5582, g5584, g5585, h5586, g5588, g5589, g5590, h5591, g5594, g5595, g5596, h5597, g5599, g5600, g5601, h5602, h5605, h5607, h5609, h5611, h5615, h5617]
                    repeat with_reducible refine And.intro (by first | kernel_rfl | decide) ?_
                    obtain rfl := Option.some.inj h5840
                    (try dsimp only at h5841)
                    obtain rfl := Option.some.inj h5841
                    exact finC [(2, .v (.bool false))] [(2, .v (.bool false))] (by simp [leE, lk_cons]) (.cons _ _ _ _ _ (.v _ _ (.refl _)) .nil) (by rfl) (by simp [leE, lk_cons]) (by decide) (by decide) rfl (by simp only [go_sem, ne_eq, not_false_eq_true, Nat.reduceBEq, Nat.reduceAdd, Nat.reduceSub, Nat.reduceMul, Nat.reduceLT, Nat.reduceLeDiff, Int.reduceLE, Int.reduceLT, Int.reduceToNat, Int.reduceBEq, Int.reduceBNe, Int.le_refl, Nat.le_refl, decide_true, decide_false, Int.cast_ofNat_Int, ↓reduceIte, resQ_tmp, resQ_cell, resQ_nil, retD_one, retD_two, retD_three, retD_none]; try simp [R.val, retD_one, retD_two, retD_three, retD_none])
                · refine W_sound tab_ok mixed 7 _ _ _ ?_
                  simp -implicitDefEqProofs only [go_sem, ne_eq, not_false_eq_true, Nat.reduceBEq, Nat.reduceAdd, Nat.reduceSub, Nat.reduceMul, Nat.reduceLT, Nat.reduceLeDiff, Int.reduceLE, Int.reduceLT, Int.reduceToNat, Int.reduceBEq, Int.reduceBNe, Int.le_refl, Nat.le_refl, decide_true, decide_false, Int.cast_ofNat_Int, ↓reduceIte, h5513, g5515, h5518, h5523, h5526, h5529, h5533, h5536, h5539, h5541, h5542, h5543, h5544, h5573]
                  repeat with_reducible refine And.intro (by first | kernel_rfl | decide) ?_
                  obtain rfl := Option.some.inj h5840
                  exact cutQ _ ((Wk_le (.cons _ _ _ _ _ (.refl _) (.cons _ _ _ _ _ (.refl _) (.cons _ _ _ _ _ (.refl _) (.cons _ _ _ _ _ (.refl _) (.cons _ _ _ _ _ (.refl _) (.cons _ _ _ _ _ (.refl _) (.cons _ _ _ _ _ (.dead _) (.cons _ _ _ _ _ (.refl _) (.cons _ _ _ _ _ (.refl _) (.cons _ _ _ _ _ (.refl _) (.cons _ _ _ _ _ (.refl _) (.cons _ _ _ _ _ (.refl _) (.cons _ _ _ _ _ (.refl _) (.cons _ _ _ _ _ (.refl _) (.cons _ _ _ _ _ (.refl _) (.cons _ _ _ _ _ (.refl _) (.cons _ _ _ _ _ (.refl _) (.cons _ _ _ _ _ (.refl _) (.cons _ _ _ _ _ (.refl _) (.cons _ _ _ _ _ (.refl _) (.cons _ _ _ _ _ (.refl _) (.cons _ _ _ _ _ (.refl _) (.cons _ _ _ _ _ (.refl _) (.cons _ _ _ _ _ (.refl _) (.cons _ _ _ _ _ (.refl _) (.cons _ _ _ _ _ (.refl _) (.cons _ _ _ _ _ (.refl _) (.cons _ _ _ _ _ (.refl _) (.cons _ _ _ _ _ (.dead _) (.cons _ _ _ _ _ (.dead _) (.cons _ _ _ _ _ (.dead _) (.cons _ _ _ _ _ (.dead _) (.cons _ _ _ _ _ (.refl _) (.cons _ _ _ _ _ (.refl _) (.cons _ _ _ _ _ (.refl _) (.cons _ _ _ _ _ (.refl _) (.cons _ _ _ _ _ (.refl _) (.cons _ _ _ _ _ (.refl _) (.cons _ _ _ _ _ (.refl _) (.cons _ _ _ _ _ (.refl _) (.cons _ _ _ _ _ (.refl _) (.cons _ _ _ _ _ (.refl _) (.cons _ _ _ _ _ (.refl _) (.cons _ _ _ _ _ (.refl _) (.cons _ _ _ _ _ (.refl _) (.cons _ _ _ _ _ (.refl _) .nil)))))))))))))))))))))))))))))))))))))))))))))) (OLe.refl _)).trans (cmpS_ok (st' := ⟨[], [(0, .dead), (1, .dead), (2, .dead), (3, .v (.lst false n5519 c5520)), (4, .v (.lst false n5527 c5528)), (5, .dead), (6, .dead), (7, .dead), (8, .dead), (9, .dead), (10, .dead), (11, .dead), (12, .dead), (13, .dead), (14, .dead), (15, .dead), (16, .dead), (17, .dead), (18, .dead), (19, .dead), (20, .dead), (21, .dead), (52, .dead), (53, .dead), (54, .dead), (55, .dead), (56, .dead), (88, .dead), (90, .dead), (91, .dead), (92, .dead), (93, .dead), (146, .dead), (149, .dead), (150, .dead), (151, .dead), (153, .dead), (154, .dead), (155, .dead), (156, .dead), (186, .dead), (187, .dead), (200, .dead), (220, .dead), (255, .dead), (280, .dead)], [], 0, []⟩) (by kernel_rfl))) ⟨rfl, rfl⟩
            · rintro _ ⟨rfl, rfl⟩
              (try dsimp only at h5841)
              refine W_sound tab_ok mixed 7 _ _ _ ?_
              simp -implicitDefEqProofs only [go_sem, ne_eq, not_false_eq_true, Nat.reduceBEq, Nat.reduceAdd, Nat.reduceSub, Nat.reduceMul, Nat.reduceLT, Nat.reduceLeDiff, Int.reduceLE, Int.reduceLT, Int.reduceToNat, Int.reduceBEq, Int.reduceBNe, Int.le_refl, Nat.le_refl, decide_true, decide_false, Int.cast_ofNat_Int, ↓reduceIte, h5513, g5515, h5518, h5523, h5526, h5529, h5533, h5536, h5539, h5541, h5542, h5543, h5544]
              repeat with_reducible refine And.intro (by first | kernel_rfl | decide) ?_
              have hh := bnd'_some h5841; clear h5841; obtain ⟨o5842, h5843, h5844⟩ := hh
              refine Wp_cut (fun s => (.inr ()) = o5842 ∧ s = ⟨[], [(0, .dead), (1, .dead), (2, .dead), (3, .dead), (4, .dead), (5, .dead), (6, .dead), (7, .dead), (8, .dead), (9, .dead), (10, .dead), (11, .dead), (12, .dead), (13, .dead), (14, .dead), (15, .dead), (16, .dead), (17, .dead), (18, .dead), (19, .dead), (20, .dead), (21, .dead), (52, .dead), (53, .dead), (54, .dead), (55, .dead), (56, .dead), (88, .dead), (90, .dead), (91, .dead), (92, .dead), (93, .dead), (146, .dead), (149, .dead), (150, .dead), (151, .dead), (153, .dead), (154, .dead), (155, .dead), (156, .dead), (186, .dead), (187, .dead), (200, .dead), (220, .dead), (255, .dead), (280, .dead)], [], 0, []⟩) ?_ ?_
              · refine Wp_block ?_
                refine Wp_loopG (fun n s => ∃ x5649, m12_L2 N n5519 c5520 n5527 c5528 n x5649 = some o5842 ∧ s = ⟨[], [(0, .dead), (1, .dead), (2, .dead), (3, .v (.lst false n5519 c5520)), (4, .v (.lst false n5527 c5528)), (5, .dead), (6, .dead), (7, .dead), (8, .dead), (9, .dead), (10, .dead), (11, .dead), (12, .dead), (13, .dead), (14, .dead), (15, .dead), (16, .dead), (17, .dead), (18, .dead), (19, .dead), (20, .dead), (21, .dead), (52, .dead), (53, .dead), (54, .dead), (55, .dead), (56, .dead), (88, .dead), (90, .dead), (91, .dead), (92, .dead), (93, .dead), (146, .dead), (149, .v (.int .i64 ((n5519 : Nat) : Int))), (150, .v (.int .i64 x5649)), (151, .dead), (153, .dead), (154, .dead), (155, .dead), (156, .dead), (186, .dead), (187, .dead), (200, .dead), (220, .dead), (255, .dead), (280, .dead)], [], 0, []⟩) N _ ((Wk_le (.cons _ _ _ _ _ (.refl _) (.cons _ _ _ _ _ (.refl _) (.cons _ _ _ _ _ (.refl _) (.cons _ _ _ _ _ (.refl _) (.cons _ _ _ _ _ (.refl _) (.cons _ _ _ _ _ (.refl _) (.cons _ _ _ _ _ (.refl _) (.cons _ _ _ _ _ (.refl _) (.cons _ _ _ _ _ (.refl _) (.cons _ _ _ _ _ (.refl _) (.cons _ _ _ _ _ (.refl _) (.cons _ _ _ _ _ (.refl _) (.cons _ _ _ _ _ (.refl _) (.cons _ _ _ _ _ (.refl _) (.cons _ _ _ _ _ (.refl _) (.cons _ _ _ _ _ (.refl _) (.cons _ _ _ _ _ (.refl _) (.cons _ _ _ _ _ (.refl _) (.cons _ _ _ _ _ (.refl _) (.cons _ _ _ _ _ (.refl _) (.cons _ _ _ _ _ (.refl _) (.cons _ _ _ _ _ (.refl _) (.cons _ _ _ _ _ (.refl _) (.cons _ _ _ _ _ (.refl _) (.cons _ _ _ _ _ (.refl _) (.cons _ _ _ _ _ (.refl _) (.cons _ _ _ _ _ (.refl _) (.cons _ _ _ _ _ (.refl _) (.cons _ _ _ _ _ (.refl _) (.cons _ _ _ _ _ (.refl _) (.cons _ _ _ _ _ (.refl _) (.cons _ _ _ _ _ (.refl _) (.cons _ _ _ _ _ (.refl _) (.cons _ _ _ _ _ (.refl _) (.cons _ _ _ _ _ (.refl _) (.cons _ _ _ _ _ (.refl _) (.cons _ _ _ _ _ (.refl _) (.cons _ _ _ _ _ (.refl _) (.cons _ _ _ _ _ (.refl _) (.cons _ _ _ _ _ (.refl _) (.cons _ _ _ _ _ (.refl _) (.cons _ _ _ _ _ (.refl _) (.cons _ _ _ _ _ (.refl _) (.cons _ _ _ _ _ (.refl _) (.cons _ _ _ _ _ (.refl _) (.cons _ _ _ _ _ (.refl _) .nil)))))))))))))))))))))))))))))))))))))))))))))) (OLe.refl _)).trans (cmpS_ok (st' := ⟨[], [(0, .dead), (1, .dead), (2, .dead), (3, .v (.lst false n5519 c5520)), (4, .v (.lst false n5527 c5528)), (5, .dead), (6, .dead), (7, .dead), (8, .dead), (9, .dead), (10, .dead), (11, .dead), (12, .dead), (13, .dead), (14, .dead), (15, .dead), (16, .dead), (17, .dead), (18, .dead), (19, .dead), (20, .dead), (21, .dead), (52, .dead), (53, .dead), (54, .dead), (55, .dead), (56, .dead), (88, .dead), (90, .dead), (91, .dead), (92, .dead), (93, .dead), (146, .dead), (149, .v (.int .i64 ((n5519 : Nat) : Int))), (150, .v (.int .i64 0)), (151, .dead), (153, .dead), (154, .dead), (155, .dead), (156, .dead), (186, .dead), (187, .dead), (200, .dead), (220, .dead), (255, .dead), (280, .dead)], [], 0, []⟩) (by kernel_rfl))) ⟨_, h5843, rfl⟩ ?_
                clear h5843
                rintro n _ ⟨x5649, h5843, rfl⟩
                cases n with
                | zero => cases h5843
                | succ n =>
                  rw [m12_L2] at h5843
                  have hh := brn_some h5843; clear h5843; rcases hh with ⟨h5650, h5843⟩ | ⟨h5650, h5843⟩
                  · refine W_sound tab_ok mixed 30 _ _ _ ?_
                    simp -implicitDefEqProofs only [go_sem, ne_eq, not_false_eq_true, Nat.reduceBEq, Nat.reduceAdd, Nat.reduceSub, Nat.reduceMul, Nat.reduceLT, Nat.reduceLeDiff, Int.reduceLE, Int.reduceLT, Int.reduceToNat, Int.reduceBEq, Int.reduceBNe, Int.le_refl, Nat.le_refl, decide_true, decide_false, Int.cast_ofNat_Int, ↓reduceIte, h5513, g5515, h5518, h5523, h5526, h5529, h5533, h5536, h5539, h5541, h5542, h5543, h5544, h5650]
                    repeat with_reducible refine And.intro (by first | kernel_rfl | decide) ?_
                    have hh := bnd'_some h5843; clear h5843; obtain ⟨o5845, h5846, h5847⟩ := hh
                    refine Wp_cut (fun s => ∃ p5791, ∃ p5792, ∃ b5793, (p5791, p5792, b5793) = o5845 ∧ s = ⟨[], [(0, .dead), (1, .dead), (2, .dead), (3, .v (.lst false n5519 c5520)), (4, .v (.lst false n5527 c5528)), (5, .dead), (6, .dead), (7, .dead), (8, .dead), (9, .dead), (10, .dead), (11, .dead), (12, .dead), (13, .dead), (14, .v (.int .i64 x5649)), (15, .v p5791), (16, .v p5792), (17, .v (.bool b5793)), (18, .dead), (19, .dead), (20, .dead), (21, .dead), (52, .dead), (53, .dead), (54, .dead), (55, .dead), (56, .dead), (88, .dead), (90, .dead), (91, .dead), (92, .dead), (93, .dead), (146, .dead), (149, .v (.int .i64 ((n5519 : Nat) : Int))), (150, .v (.int .i64 x5649)), (151, .dead), (153, .dead), (154, .dead), (155, .dead), (156, .dead), (186, .dead), (187, .dead), (200, .dead), (220, .dead), (255, .dead), (280, .dead)], [], 0, []⟩) ?_ ?_
                    · refine Wp_block ?_
                      refine Wp_loopG (fun n s => ∃ p5709, ∃ p5710, ∃ b5711, ∃ x5712, m12_L3 N n5519 c5520 n5527 c5528 x5649 n p5709 p5710 b5711 x5712 = some o5845 ∧ s = ⟨[], [(0, .dead), (1, .dead), (2, .dead), (3, .v (.lst false n5519 c5520)), (4, .v (.lst false n5527 c5528)), (5, .dead), (6, .dead), (7, .dead), (8, .dead), (9, .dead), (10, .dead), (11, .dead), (12, .dead), (13, .dead), (14, .v (.int .i64 x5649)), (15, .v p5709), (16, .v p5710), (17, .v (.bool b5711)), (18, .dead), (19, .dead), (20, .dead), (21, .dead), (52, .dead), (53, .dead), (54, .dead), (55, .dead), (56, .dead), (88, .dead), (90, .dead), (91, .dead), (92, .dead), (93, .dead), (146, .dead), (149, .v (.int .i64 ((n5519 : Nat) : Int))), (150, .v (.int .i64 x5649)), (151, .dead), (153, .v (.lst false n5519 c5520)), (154, .v (.int .i64 ((n5519 : Nat) : Int))), (155, .v (.int .i64 x5712)), (156, .dead), (186, .dead), (187, .dead), (200, .dead), (220, .dead), (255, .dead), (280, .dead)], [], 0, []⟩) N _ ((Wk_le (.cons _ _ _ _ _ (.refl _) (.cons _ _ _ _ _ (.refl _) (.cons _ _ _ _ _ (.refl _) (.cons _ _ _ _ _ (.refl _) (.cons _ _ _ _ _ (.refl _) (.cons _ _ _ _ _ (.refl _) (.cons _ _ _ _ _ (.refl _) (.cons _ _ _ _ _ (.refl _) (.cons _ _ _ _ _ (.refl _) (.cons _ _ _ _ _ (.refl _) (.cons _ _ _ _ _ (.refl _) (.cons _ _ _ _ _ (.refl _) (.cons _ _ _ _ _ (.refl _) (.cons _ _ _ _ _ (.refl _) (.cons _ _ _ _ _ (.refl _) (.cons _ _ _ _ _ (.refl _) (.cons _ _ _ _ _ (.refl _) (.cons _ _ _ _ _ (.refl _) (.cons _ _ _ _ _ (.refl _) (.cons _ _ _ _ _ (.refl _) (.cons _ _ _ _ _ (.refl _) (.cons _ _ _ _ _ (.refl _) (.cons _ _ _ _ _ (.refl _) (.cons _ _ _ _ _ (.refl _) (.cons _ _ _ _ _ (.refl _) (.cons _ _ _ _ _ (.refl _) (.cons _ _ _ _ _ (.refl _) (.cons _ _ _ _ _ (.refl _) (.cons _ _ _ _ _ (.refl _) (.cons _ _ _ _ _ (.refl _) (.cons _ _ _ _ _ (.refl _) (.cons _ _ _ _ _ (.refl _) (.cons _ _ _ _ _ (.refl _) (.cons _ _ _ _ _ (.refl _) (.cons _ _ _ _ _ (.refl _) (.cons _ _ _ _ _ (.dead _) (.cons _ _ _ _ _ (.refl _) (.cons _ _ _ _ _ (.refl _) (.cons _ _ _ _ _ (.refl _) (.cons _ _ _ _ _ (.refl _) (.cons _ _ _ _ _ (.refl _) (.cons _ _ _ _ _ (.refl _) (.cons _ _ _ _ _ (.refl _) (.cons _ _ _ _ _ (.refl _) (.cons _ _ _ _ _ (.refl _) (.cons _ _ _ _ _ (.refl _) .nil)))))))))))))))))))))))))))))))))))))))))))))) (OLe.refl _)).trans (cmpS_ok (st' := ⟨[], [(0, .dead), (1, .dead), (2, .dead), (3, .v (.lst false n5519 c5520)), (4, .v (.lst false n5527 c5528)), (5, .dead), (6, .dead), (7, .dead), (8, .dead), (9, .dead), (10, .dead), (11, .dead), (12, .dead), (13, .dead), (14, .v (.int .i64 x5649)), (15, .v (.fn 999999 [.bool true])), (16, .v (.fn 999999 [.bool true])), (17, .v (.bool true)), (18, .dead), (19, .dead), (20, .dead), (21, .dead), (52, .dead), (53, .dead), (54, .dead), (55, .dead), (56, .dead), (88, .dead), (90, .dead), (91, .dead), (92, .dead), (93, .dead), (146, .dead), (149, .v (.int .i64 ((n5519 : Nat) : Int))), (150, .v (.int .i64 x5649)), (151, .dead), (153, .v (.lst false n5519 c5520)), (154, .v (.int .i64 ((n5519 : Nat) : Int))), (155, .v (.int .i64 0)), (156, .dead), (186, .dead), (187, .dead), (200, .dead), (220, .dead), (255, .dead), (280, .dead)], [], 0, []⟩) (by kernel_rfl))) ⟨_, _, _, _, h5846, rfl⟩ ?_
                      clear h5846
                      rintro n _ ⟨p5709, p5710, b5711, x5712, h5846, rfl⟩
                      cases n with
                      | zero => cases h5846
                      | succ n =>
                        rw [m12_L3] at h5846
                        have hh := brn_some h5846; clear h5846; rcases hh with ⟨h5713, h5846⟩ | ⟨h5713, h5846⟩
                        · have hh := grd_some h5846; clear h5846; obtain ⟨⟨g5714, g5715⟩, h5846⟩ := hh
                          have hh := grd_some h5846; clear h5846; obtain ⟨g5716, h5846⟩ := hh
                          have hh := getA2_some h5846; clear h5846; obtain ⟨p5718, p5719, h5717, h5846⟩ := hh
                          injection h5717 with h5717
                          have hh := getI_some h5846; clear h5846; obtain ⟨x5721, h5720, h5846⟩ := hh
                          have hh := getI_some h5846; clear h5846; obtain ⟨x5723, h5722, h5846⟩ := hh
                          have hh := grd_some h5846; clear h5846; obtain ⟨⟨g5724, g5725⟩, h5846⟩ := hh
                          have hh := grd_some h5846; clear h5846; obtain ⟨g5726, h5846⟩ := hh
                          have hh := getA2_some h5846; clear h5846; obtain ⟨p5728, p5729, h5727, h5846⟩ := hh
                          injection h5727 with h5727
                          have hh := getI_some h5846; clear h5846; obtain ⟨x5731, h5730, h5846⟩ := hh
                          have hh := getI_some h5846; clear h5846; obtain ⟨x5733, h5732, h5846⟩ := hh
                          have hh := brn_some h5846; clear h5846; rcases hh with ⟨h5734, h5846⟩ | ⟨h5734, h5846⟩
                          · have hh := brn_some h5846; clear h5846; rcases hh with ⟨h5735, h5846⟩ | ⟨h5735, h5846⟩
                            · refine W_sound tab_ok mixed 45 _ _ _ ?_
                              simp -implicitDefEqProofs only [go_sem, ne_eq, not_false_eq_true, Nat.reduceBEq, Nat.reduceAdd, Nat.reduceSub, Nat.reduceMul, Nat.reduceLT, Nat.reduceLeDiff, Int.reduceLE, Int.reduceLT, Int.reduceToNat, Int.reduceBEq, Int.reduceBNe, Int.le_refl, Nat.le_refl, decide_true, decide_false, Int.cast_ofNat_Int, ↓reduceIte, h5513, g5515, h5518, h5523, h5526, h5529, h5533, h5536, h5539, h5541, h5542, h5543, h5544, h5650, h5713, g5714, g5715, g5716, h5717, h5720, h5722, g5724, g5725, g5726, h5727, h5730, h5732, h5734, h5735]
                              repeat with_reducible refine And.intro (by first | kernel_rfl | decide) ?_
                              exact cutQ _ ((Wk_le (.cons _ _ _ _ _ (.refl _) (.cons _ _ _ _ _ (.refl _) (.cons _ _ _ _ _ (.refl _) (.cons _ _ _ _ _ (.refl _) (.cons _ _ _ _ _ (.refl _) (.cons _ _ _ _ _ (.refl _) (.cons _ _ _ _ _ (.refl _) (.cons _ _ _ _ _ (.refl _) (.cons _ _ _ _ _ (.refl _) (.cons _ _ _ _ _ (.refl _) (.cons _ _ _ _ _ (.refl _) (.cons _ _ _ _ _ (.refl _) (.cons _ _ _ _ _ (.refl _) (.cons _ _ _ _ _ (.refl _) (.cons _ _ _ _ _ (.refl _) (.cons _ _ _ _ _ (.refl _) (.cons _ _ _ _ _ (.refl _) (.cons _ _ _ _ _ (.refl _) (.cons _ _ _ _ _ (.dead _) (.cons _ _ _ _ _ (.dead _) (.cons _ _ _ _ _ (.refl _) (.cons _ _ _ _ _ (.refl _) (.cons _ _ _ _ _ (.refl _) (.cons _ _ _ _ _ (.refl _) (.cons _ _ _ _ _ (.refl _) (.cons _ _ _ _ _ (.refl _) (.cons _ _ _ _ _ (.refl _) (.cons _ _ _ _ _ (.refl _) (.cons _ _ _ _ _ (.refl _) (.cons _ _ _ _ _ (.refl _) (.cons _ _ _ _ _ (.refl _) (.cons _ _ _ _ _ (.refl _) (.cons _ _ _ _ _ (.refl _) (.cons _ _ _ _ _ (.refl _) (.cons _ _ _ _ _ (.refl _) (.cons _ _ _ _ _ (.refl _) (.cons _ _ _ _ _ (.refl _) (.cons _ _ _ _ _ (.refl _) (.cons _ _ _ _ _ (.refl _) (.cons _ _ _ _ _ (.dead _) (.cons _ _ _ _ _ (.refl _) (.cons _ _ _ _ _ (.dead _) (.cons _ _ _ _ _ (.refl _) (.cons _ _ _ _ _ (.refl _) (.cons _ _ _ _ _ (.refl _) (.cons _ _ _ _ _ (.refl _) .nil)))))))))))))))))))))))))))))))))))))))))))))) (OLe.refl _)).trans (cmpS_ok (st' := ⟨[], [(0, .dead), (1, .dead), (2, .dead), (3, .v (.lst false n5519 c5520)), (4, .v (.lst false n5527 c5528)), (5, .dead), (6, .dead), (7, .dead), (8, .dead), (9, .dead), (10, .dead), (11, .dead), (12, .dead), (13, .dead), (14, .v (.int .i64 x5649)), (15, .v p5709), (16, .v p5710), (17, .v (.bool (decide (x5712 ≥ x5649)))), (18, .dead), (19, .dead), (20, .dead), (21, .dead), (52, .dead), (53, .dead), (54, .dead), (55, .dead), (56, .dead), (88, .dead), (90, .dead), (91, .dead), (92, .dead), (93, .dead), (146, .dead), (149, .v (.int .i64 ((n5519 : Nat) : Int))), (150, .v (.int .i64 x5649)), (151, .dead), (153, .v (.lst false n5519 c5520)), (154, .v (.int .i64 ((n5519 : Nat) : Int))), (155, .v (.int .i64 (IntKind.i64.wrap (x5712 + 1)))), (156, .dead), (186, .dead), (187, .dead), (200, .dead), (220, .dead), (255, .dead), (280, .dead)], [], 0, []⟩) (by kernel_rfl))) ⟨n, Nat.lt_succ_self n, _, _, _, _, h5846, rfl⟩
                            · refine W_sound tab_ok mixed 45 _ _ _ ?_
                              simp -implicitDefEqProofs only [go_sem, ne_eq, not_false_eq_true, Nat.reduceBEq, Nat.reduceAdd, Nat.reduceSub, Nat.reduceMul, Nat.reduceLT, Nat.reduceLeDiff, Int.reduceLE, Int.reduceLT, Int.reduceToNat, Int.reduceBEq, Int.reduceBNe, Int.le_refl, Nat.le_refl, decide_true, decide_false, Int.cast_ofNat_Int, ↓reduceIte, h5513, g5515, h5518, h5523, h5526, h5529, h5533, h5536, h5539, h5541, h5542, h5543, h5544, h5650, h5713, g5714, g5715, g5716, h5717, h5720, h5722, g5724, g5725, g5726, h5727, h5730, h5732, h5734, h5735]
                              repeat with_reducible refine And.intro (by first | kernel_rfl | decide) ?_
                              exact cutQ _ ((Wk_le (.cons _ _ _ _ _ (.refl _) (.cons _ _ _ _ _ (.refl _) (.cons _ _ _ _ _ (.refl _) (.cons _ _ _ _ _ (.refl _) (.cons _ _ _ _ _ (.refl _) (.cons _ _ _ _ _ (.refl _) (.cons _ _ _ _ _ (.refl _) (.cons _ _ _ _ _ (.refl _) (.cons _ _ _ _ _ (.refl _) (.cons _ _ _ _ _ (.refl _) (.cons _ _ _ _ _ (.refl _) (.cons _ _ _ _ _ (.refl _) (.cons _ _ _ _ _ (.refl _) (.cons _ _ _ _ _ (.refl _) (.cons _ _ _ _ _ (.refl _) (.cons _ _ _ _ _ (.refl _) (.cons _ _ _ _ _ (.refl _) (.cons _ _ _ _ _ (.refl _) (.cons _ _ _ _ _ (.dead _) (.cons _ _ _ _ _ (.dead _) (.cons _ _ _ _ _ (.refl _) (.cons _ _ _ _ _ (.refl _) (.cons _ _ _ _ _ (.refl _) (.cons _ _ _ _ _ (.refl _) (.cons _ _ _ _ _ (.refl _) (.cons _ _ _ _ _ (.refl _) (.cons _ _ _ _ _ (.refl _) (.cons _ _ _ _ _ (.refl _) (.cons _ _ _ _ _ (.refl _) (.cons _ _ _ _ _ (.refl _) (.cons _ _ _ _ _ (.refl _) (.cons _ _ _ _ _ (.refl _) (.cons _ _ _ _ _ (.refl _) (.cons _ _ _ _ _ (.refl _) (.cons _ _ _ _ _ (.refl _) (.cons _ _ _ _ _ (.refl _) (.cons _ _ _ _ _ (.refl _) (.cons _ _ _ _ _ (.refl _) (.cons _ _ _ _ _ (.refl _) (.cons _ _ _ _ _ (.dead _) (.cons _ _ _ _ _ (.refl _) (.cons _ _ _ _ _ (.dead _) (.cons _ _ _ _ _ (.refl _) (.cons _ _ _ _ _ (.refl _) (.cons _ _ _ _ _ (.refl _) (.cons _ _ _ _ _ (.refl _) .nil)))))))))))))))))))))))))))))))))))))))))))))) (OLe.refl _)).trans (cmpS_ok (st' := ⟨[], [(0, .dead), (1, .dead), (2, .dead), (3, .v (.lst false n5519 c5520)), (4, .v (.lst false n5527 c5528)), (5, .dead), (6, .dead), (7, .dead), (8, .dead), (9, .dead), (10, .dead), (11, .dead), (12, .dead), (13, .dead), (14, .v (.int .i64 x5649)), (15, .v p5709), (16, .v p5710), (17, .v (.bool false)), (18, .dead), (19, .dead), (20, .dead), (21, .dead), (52, .dead), (53, .dead), (54, .dead), (55, .dead), (56, .dead), (88, .dead), (90, .dead), (91, .dead), (92, .dead), (93, .dead), (146, .dead), (149, .v (.int .i64 ((n5519 : Nat) : Int))), (150, .v (.int .i64 x5649)), (151, .dead), (153, .v (.lst false n5519 c5520)), (154, .v (.int .i64 ((n5519 : Nat) : Int))), (155, .v (.int .i64 (IntKind.i64.wrap (x5712 + 1)))), (156, .dead), (186, .dead), (187, .dead), (200, .dead), (220, .dead), (255, .dead), (280, .dead)], [], 0, []⟩) (by kernel_rfl))) ⟨n, Nat.lt_succ_self n, _, _, _, _, h5846, rfl⟩
                          · have hh := grd_some h5846; clear h5846; obtain ⟨g5736, h5846⟩ := hh
                            have hh := getI_some h5846; clear h5846; obtain ⟨x5738, h5737, h5846⟩ := hh
                            have hh := brn_some h5846; clear h5846; rcases hh with ⟨h5739, h5846⟩ | ⟨h5739, h5846⟩
                            · have hh := brn_some h5846; clear h5846; rcases hh with ⟨h5740, h5846⟩ | ⟨h5740, h5846⟩
                              · have hh := grd_some h5846; clear h5846; obtain ⟨g5741, h5846⟩ := hh
                                have hh := getI_some h5846; clear h5846; obtain ⟨x5743, h5742, h5846⟩ := hh
                                refine W_sound tab_ok mixed 63 _ _ _ ?_
                                simp -implicitDefEqProofs only [go_sem, ne_eq, not_false_eq_true, Nat.reduceBEq, Nat.reduceAdd, Nat.reduceSub, Nat.reduceMul, Nat.reduceLT, Nat.reduceLeDiff, Int.reduceLE, Int.reduceLT, Int.reduceToNat, Int.reduceBEq, Int.reduceBNe, Int.le_refl, Nat.le_refl, decide_true, decide_false, Int.cast_ofNat_Int, ↓reduceIte, h5513, g5515, h5518, h5523, h5526, h5529, h5533, h5536, h5539, h5541, h5542, h5543, h5544, h5650, h5713, g5714, g5715, g5716, h5717, h5720, h5722, g5724, g5725, g5726, h5727, h5730, h5732, h5734, g5736, h5737, h5739, h5740, g5741, h5742]
                                repeat with_reducible refine And.intro (by first | kernel_rfl | decide) ?_
                                exact cutQ _ ((Wk_le (.cons _ _ _ _ _ (.refl _) (.cons _ _ _ _ _ (.refl _) (.cons _ _ _ _ _ (.refl _) (.cons _ _ _ _ _ (.refl _) (.cons _ _ _ _ _ (.refl _) (.cons _ _ _ _ _ (.refl _) (.cons _ _ _ _ _ (.refl _) (.cons _ _ _ _ _ (.refl _) (.cons _ _ _ _ _ (.refl _) (.cons _ _ _ _ _ (.refl _) (.cons _ _ _ _ _ (.refl _) (.cons _ _ _ _ _ (.refl _) (.cons _ _ _ _ _ (.refl _) (.cons _ _ _ _ _ (.refl _) (.cons _ _ _ _ _ (.refl _) (.cons _ _ _ _ _ (.refl _) (.cons _ _ _ _ _ (.refl _) (.cons _ _ _ _ _ (.refl _) (.cons _ _ _ _ _ (.dead _) (.cons _ _ _ _ _ (.dead _) (.cons _ _ _ _ _ (.refl _) (.cons _ _ _ _ _ (.refl _) (.cons _ _ _ _ _ (.refl _) (.cons _ _ _ _ _ (.refl _) (.cons _ _ _ _ _ (.refl _) (.cons _ _ _ _ _ (.refl _) (.cons _ _ _ _ _ (.refl _) (.cons _ _ _ _ _ (.refl _) (.cons _ _ _ _ _ (.refl _) (.cons _ _ _ _ _ (.refl _) (.cons _ _ _ _ _ (.refl _) (.cons _ _ _ _ _ (.refl _) (.cons _ _ _ _ _ (.refl _) (.cons _ _ _ _ _ (.refl _) (.cons _ _ _ _ _ (.refl _) (.cons _ _ _ _ _ (.refl _) (.cons _ _ _ _ _ (.refl _) (.cons _ _ _ _ _ (.refl _) (.cons _ _ _ _ _ (.refl _) (.cons _ _ _ _ _ (.dead _) (.cons _ _ _ _ _ (.refl _) (.cons _ _ _ _ _ (.dead _) (.cons _ _ _ _ _ (.dead _) (.cons _ _ _ _ _ (.refl _) (.cons _ _ _ _ _ (.refl _) (.cons _ _ _ _ _ (.refl _) .nil)))))))))))))))))))))))))))))))))))))))))))))) (OLe.refl _)).trans (cmpS_ok (st' := ⟨[], [(0, .dead), (1, .dead), (2, .dead), (3, .v (.lst false n5519 c5520)), (4, .v (.lst false n5527 c5528)), (5, .dead), (6, .dead), (7, .dead), (8, .dead), (9, .dead), (10, .dead), (11, .dead), (12, .dead), (13, .dead), (14, .v (.int .i64 x5649)), (15, .v p5709), (16, .v p5710), (17, .v (.bool (decide (x5721 < x5743)))), (18, .dead), (19, .dead), (20, .dead), (21, .dead), (52, .dead), (53, .dead), (54, .dead), (55, .dead), (56, .dead), (88, .dead), (90, .dead), (91, .dead), (92, .dead), (93, .dead), (146, .dead), (149, .v (.int .i64 ((n5519 : Nat) : Int))), (150, .v (.int .i64 x5649)), (151, .dead), (153, .v (.lst false n5519 c5520)), (154, .v (.int .i64 ((n5519 : Nat) : Int))), (155, .v (.int .i64 (IntKind.i64.wrap (x5712 + 1)))), (156, .dead), (186, .dead), (187, .dead), (200, .dead), (220, .dead), (255, .dead), (280, .dead)], [], 0, []⟩) (by kernel_rfl))) ⟨n, Nat.lt_succ_self n, _, _, _, _, h5846, rfl⟩
                              · refine W_sound tab_ok mixed 63 _ _ _ ?_
                                simp -implicitDefEqProofs only [go_sem, ne_eq, not_false_eq_true, Nat.reduceBEq, Nat.reduceAdd, Nat.reduceSub, Nat.reduceMul, Nat.reduceLT, Nat.reduceLeDiff, Int.reduceLE, Int.reduceLT, Int.reduceToNat, Int.reduceBEq, Int.reduceBNe, Int.le_refl, Nat.le_refl, decide_true, decide_false, Int.cast_ofNat_Int, ↓reduceIte, h5513, g5515, h5518, h5523, h5526, h5529, h5533, h5536, h5539, h5541, h5542, h5543, h5544, h5650, h5713, g5714, g5715, g5716, h5717, h5720, h5722, g5724, g5725, g5726, h5727, h5730, h5732, h5734, g5736, h5737, h5739, h5740]
                                repeat with_reducible refine And.intro (by first | kernel_rfl | decide) ?_
                                exact cutQ _ ((Wk_le (.cons _ _ _ _ _ (.refl _) (.cons _ _ _ _ _ (.refl _) (.cons _ _ _ _ _ (.refl _) (.cons _ _ _ _ _ (.refl _) (.cons _ _ _ _ _ (.refl _) (.cons _ _ _ _ _ (.refl _) (.cons _ _ _ _ _ (.refl _) (.cons _ _ _ _ _ (.refl _) (.cons _ _ _ _ _ (.refl _) (.cons _ _ _ _ _ (.refl _) (.cons _ _ _ _ _ (.refl _) (.cons _ _ _ _ _ (.refl _) (.cons _ _ _ _ _ (.refl _) (.cons _ _ _ _ _ (.refl _) (.cons _ _ _ _ _ (.refl _) (.cons _ _ _ _ _ (.refl _) (.cons _ _ _ _ _ (.refl _) (.cons _ _ _ _ _ (.refl _) (.cons _ _ _ _ _ (.dead _) (.cons _ _ _ _ _ (.dead _) (.cons _ _ _ _ _ (.refl _) (.cons _ _ _ _ _ (.refl _) (.cons _ _ _ _ _ (.refl _) (.cons _ _ _ _ _ (.refl _) (.cons _ _ _ _ _ (.refl _) (.cons _ _ _ _ _ (.refl _) (.cons _ _ _ _ _ (.refl _) (.cons _ _ _ _ _ (.refl _) (.cons _ _ _ _ _ (.refl _) (.cons _ _ _ _ _ (.refl _) (.cons _ _ _ _ _ (.refl _) (.cons _ _ _ _ _ (.refl _) (.cons _ _ _ _ _ (.refl _) (.cons _ _ _ _ _ (.refl _) (.cons _ _ _ _ _ (.refl _) (.cons _ _ _ _ _ (.refl _) (.cons _ _ _ _ _ (.refl _) (.cons _ _ _ _ _ (.refl _) (.cons _ _ _ _ _ (.refl _) (.cons _ _ _ _ _ (.dead _) (.cons _ _ _ _ _ (.refl _) (.cons _ _ _ _ _ (.dead _) (.cons _ _ _ _ _ (.dead _) (.cons _ _ _ _ _ (.refl _) (.cons _ _ _ _ _ (.refl _) (.cons _ _ _ _ _ (.refl _) .nil)))))))))))))))))))))))))))))))))))))))))))))) (OLe.refl _)).trans (cmpS_ok (st' := ⟨[], [(0, .dead), (1, .dead), (2, .dead), (3, .v (.lst false n5519 c5520)), (4, .v (.lst false n5527 c5528)), (5, .dead), (6, .dead), (7, .dead), (8, .dead), (9, .dead), (10, .dead), (11, .dead), (12, .dead), (13, .dead), (14, .v (.int .i64 x5649)), (15, .v p5709), (16, .v p5710), (17, .v (.bool false)), (18, .dead), (19, .dead), (20, .dead), (21, .dead), (52, .dead), (53, .dead), (54, .dead), (55, .dead), (56, .dead), (88, .dead), (90, .dead), (91, .dead), (92, .dead), (93, .dead), (146, .dead), (149, .v (.int .i64 ((n5519 : Nat) : Int))), (150, .v (.int .i64 x5649)), (151, .dead), (153, .v (.lst false n5519 c5520)), (154, .v (.int .i64 ((n5519 : Nat) : Int))), (155, .v (.int .i64 (IntKind.i64.wrap (x5712 + 1)))), (156, .dead), (186, .dead), (187, .dead), (200, .dead), (220, .dead), (255, .dead), (280, .dead)], [], 0, []⟩) (by kernel_rfl))) ⟨n, Nat.lt_succ_self n, _, _, _, _, h5846, rfl⟩
                            · have hh := brn_some h5846; clear h5846; rcases hh with ⟨h5744, h5846⟩ | ⟨h5744, h5846⟩
                              · have hh := grd_some h5846; clear h5846; obtain ⟨g5745, h5846⟩ := hh
                                have hh := getI_some h5846; clear h5846; obtain ⟨x5747, h5746, h5846⟩ := hh
                                have hh := bnd'_some h5846; clear h5846; obtain ⟨p5748, h5749, h5846⟩ := hh
                                refine W_sound tab_ok mixed 74 _ _ _ ?_
                                simp -implicitDefEqProofs only [go_sem, ne_eq, not_false_eq_true, Nat.reduceBEq, Nat.reduceAdd, Nat.reduceSub, Nat.reduceMul, Nat.reduceLT, Nat.reduceLeDiff, Int.reduceLE, Int.reduceLT, Int.reduceToNat, Int.reduceBEq, Int.reduceBNe, Int.le_refl, Nat.le_refl, decide_true, decide_false, Int.cast_ofNat_Int, ↓reduceIte, h5513, g5515, h5518, h5523, h5526, h5529, h5533, h5536, h5539, h5541, h5542, h5543, h5544, h5650, h5713, g5714, g5715, g5716, h5717, h5720, h5722, g5724, g5725, g5726, h5727, h5730, h5732, h5734, g5736, h5737, h5739, h5744, g5745, h5746]
                                repeat with_reducible refine And.intro (by first | kernel_rfl | decide) ?_
                                refine Wp_callP (c40 N _ _ _ h5749) (by kernel_rfl) rfl rfl rfl rfl (by decide) ?_
                                have hh := getA2_some h5846; clear h5846; obtain ⟨p5751, p5752, h5750, h5846⟩ := hh
                                have hh := getI_some h5846; clear h5846; obtain ⟨x5754, h5753, h5846⟩ := hh
                                have hh := getI_some h5846; clear h5846; obtain ⟨x5756, h5755, h5846⟩ := hh
                                have hh := getP_some h5846; clear h5846; rcases hh with ⟨h5757, h5846⟩ | ⟨c5758, h5757, h5846⟩
                                · refine W_sound tab_ok mixed 26 _ _ _ ?_
                                  simp -implicitDefEqProofs only [go_sem, ne_eq, not_false_eq_true, Nat.reduceBEq, Nat.reduceAdd, Nat.reduceSub, Nat.reduceMul, Nat.reduceLT, Nat.reduceLeDiff, Int.reduceLE, Int.reduceLT, Int.reduceToNat, Int.reduceBEq, Int.reduceBNe, Int.le_refl, Nat.le_refl, decide_true, decide_false, Int.cast_ofNat_Int, ↓reduceIte, h5513, g5515, h5518, h5523, h5526, h5529, h5533, h5536, h5539, h5541, h5542, h5543, h5544, h5650, h5713, g5714, g5715, g5716, h5717, h5720, h5722, g5724, g5725, g5726, h5727, h5730, h5732, h5734, g5736, h5737, h5739, h5744, g5745, h5746, h5750, h5753, h5755, h5757]
                                  repeat with_reducible refine And.intro (by first | kernel_rfl | decide) ?_
                                  refine Wp_wkK (Wk_freeze 40 [(.int .i64 x5754), (.int .i64 x5756)] (by rfl) (by decide) (by decide)) rfl ?_
                                  simp -implicitDefEqProofs only [go_sem, ne_eq, not_false_eq_true, Nat.reduceBEq, Nat.reduceAdd, Nat.reduceSub, Nat.reduceMul, Nat.reduceLT, Nat.reduceLeDiff, Int.reduceLE, Int.reduceLT, Int.reduceToNat, Int.reduceBEq, Int.reduceBNe, Int.le_refl, Nat.le_refl, decide_true, decide_false, Int.cast_ofNat_Int, ↓reduceIte, h5513, g5515, h5518, h5523, h5526, h5529, h5533, h5536, h5539, h5541, h5542, h5543, h5544, h5650, h5713, g5714, g5715, g5716, h5717, h5720, h5722, g5724, g5725, g5726, h5727, h5730, h5732, h5734, g5736, h5737, h5739, h5744, g5745, h5746, h5750, h5753, h5755, h5757]
                                  (try simp -implicitDefEqProofs only [go_sem, ne_eq, not_false_eq_true, Nat.reduceBEq, Nat.reduceAdd, Nat.reduceSub, Nat.reduceMul, Nat.reduceLT, Nat.reduceLeDiff, Int.reduceLE, Int.reduceLT, Int.reduceToNat, Int.reduceBEq, Int.reduceBNe, Int.le_refl, Nat.le_refl, decide_true, decide_false, Int.cast_ofNat_Int, ↓reduceIte, h5513, g5515, h5518, h5523, h5526, h5529, h5533, h5536, h5539, h5541, h5542, h5543, h5544, h5650, h5713, g5714, g5715, g5716, h5717, h5720, h5722, g5724, g5725, g5726, h5727, h5730, h5732, h5734, g5736, h5737, h5739, h5744, g5745, h5746, h5750, h5753, h5755, h5757])
                                  exact cutQ _ ((Wk_le (.cons _ _ _ _ _ (.refl _) (.cons _ _ _ _ _ (.refl _) (.cons _ _ _ _ _ (.refl _) (.cons _ _ _ _ _ (.refl _) (.cons _ _ _ _ _ (.refl _) (.cons _ _ _ _ _ (.refl _) (.cons _ _ _ _ _ (.refl _) (.cons _ _ _ _ _ (.refl _) (.cons _ _ _ _ _ (.refl _) (.cons _ _ _ _ _ (.refl _) (.cons _ _ _ _ _ (.refl _) (.cons _ _ _ _ _ (.refl _) (.cons _ _ _ _ _ (.refl _) (.cons _ _ _ _ _ (.refl _) (.cons _ _ _ _ _ (.refl _) (.cons _ _ _ _ _ (.refl _) (.cons _ _ _ _ _ (.refl _) (.cons _ _ _ _ _ (.refl _) (.cons _ _ _ _ _ (.dead _) (.cons _ _ _ _ _ (.dead _) (.cons _ _ _ _ _ (.dead _) (.cons _ _ _ _ _ (.refl _) (.cons _ _ _ _ _ (.refl _) (.cons _ _ _ _ _ (.refl _) (.cons _ _ _ _ _ (.refl _) (.cons _ _ _ _ _ (.refl _) (.cons _ _ _ _ _ (.refl _) (.cons _ _ _ _ _ (.refl _) (.cons _ _ _ _ _ (.refl _) (.cons _ _ _ _ _ (.refl _) (.cons _ _ _ _ _ (.refl _) (.cons _ _ _ _ _ (.refl _) (.cons _ _ _ _ _ (.refl _) (.cons _ _ _ _ _ (.refl _) (.cons _ _ _ _ _ (.refl _) (.cons _ _ _ _ _ (.refl _) (.cons _ _ _ _ _ (.refl _) (.cons _ _ _ _ _ (.refl _) (.cons _ _ _ _ _ (.refl _) (.cons _ _ _ _ _ (.dead _) (.cons _ _ _ _ _ (.refl _) (.cons _ _ _ _ _ (.dead _) (.cons _ _ _ _ _ (.dead _) (.cons _ _ _ _ _ (.dead _) (.cons _ _ _ _ _ (.dead _) (.cons _ _ _ _ _ (.refl _) .nil)))))))))))))))))))))))))))))))))))))))))))))) (OLe.refl _)).trans (cmpS_ok (st' := ⟨[], [(0, .dead), (1, .dead), (2, .dead), (3, .v (.lst false n5519 c5520)), (4, .v (.lst false n5527 c5528)), (5, .dead), (6, .dead), (7, .dead), (8, .dead), (9, .dead), (10, .dead), (11, .dead), (12, .dead), (13, .dead), (14, .v (.int .i64 x5649)), (15, .v (.ipt [(.int .i64 x5754), (.int .i64 x5756)])), (16, .v p5710), (17, .v (.bool b5711)), (18, .dead), (19, .dead), (20, .dead), (21, .dead), (52, .dead), (53, .dead), (54, .dead), (55, .dead), (56, .dead), (88, .dead), (90, .dead), (91, .dead), (92, .dead), (93, .dead), (146, .dead), (149, .v (.int .i64 ((n5519 : Nat) : Int))), (150, .v (.int .i64 x5649)), (151, .dead), (153, .v (.lst false n5519 c5520)), (154, .v (.int .i64 ((n5519 : Nat) : Int))), (155, .v (.int .i64 (IntKind.i64.wrap (x5712 + 1)))), (156, .dead), (186, .dead), (187, .dead), (200, .dead), (220, .dead), (255, .dead), (280, .dead)], [], 0, []⟩) (by kernel_rfl))) ⟨n, Nat.lt_succ_self n, _, _, _, _, h5846, rfl⟩
                                · have hh := grd_some h5846; clear h5846; obtain ⟨g5759, h5846⟩ := hh
                                  have hh := getA2_some h5846; clear h5846; obtain ⟨p5761, p5762, h5760, h5846⟩ := hh
                                  injection h5760 with h5760
                                  have hh := bnd'_some h5846; clear h5846; obtain ⟨p5763, h5764, h5846⟩ := hh
                                  refine W_sound tab_ok mixed 12 _ _ _ ?_
                                  simp -implicitDefEqProofs only [go_sem, ne_eq, not_false_eq_true, Nat.reduceBEq, Nat.reduceAdd, Nat.reduceSub, Nat.reduceMul, Nat.reduceLT, Nat.reduceLeDiff, Int.reduceLE, Int.reduceLT, Int.reduceToNat, Int.reduceBEq, Int.reduceBNe, Int.le_refl, Nat.le_refl, decide_true, decide_false, Int.cast_ofNat_Int, ↓reduceIte, h5513, g5515, h5518, h5523, h5526, h5529, h5533, h5536, h5539, h5541, h5542, h5543, h5544, h5650, h5713, g5714, g5715, g5716, h5717, h5720, h5722, g5724, g5725, g5726, h5727, h5730, h5732, h5734, g5736, h5737, h5739, h5744, g5745, h5746, h5750, h5753, h5755, h5757, g5759, h5760]
                                  repeat with_reducible refine And.intro (by first | kernel_rfl | decide) ?_
                                  refine Wp_callP (c49 N _ _ _ h5764) (by kernel_rfl) rfl rfl rfl rfl (by decide) ?_
                                  have hh := getI_some h5846; clear h5846; obtain ⟨x5766, h5765, h5846⟩ := hh
                                  have hh := brn_some h5846; clear h5846; rcases hh with ⟨h5767, h5846⟩ | ⟨h5767, h5846⟩
                                  · refine W_sound tab_ok mixed 13 _ _ _ ?_
                                    simp -implicitDefEqProofs only [go_sem, ne_eq, not_false_eq_true, Nat.reduceBEq, Nat.reduceAdd, Nat.reduceSub, Nat.reduceMul, Nat.reduceLT, Nat.reduceLeDiff, Int.reduceLE, Int.reduceLT, Int.reduceToNat, Int.reduceBEq, Int.reduceBNe, Int.le_refl, Nat.le_refl, decide_true, decide_false, Int.cast_ofNat_Int, ↓reduceIte, h5513, g5515, h5518, h5523, h5526, h5529, h5533, h5536, h5539, h5541, h5542, h5543, h5544, h5650, h5713, g5714, g5715, g5716, h5717, h5720, h5722, g5724, g5725, g5726, h5727, h5730, h5732, h5734, g5736, h5737, h5739, h5744, g5745, h5746, h5750, h5753, h5755, h5757, g5759, h5760, h5765, h5767]
                                    repeat with_reducible refine And.intro (by first | kernel_rfl | decide) ?_
                                    refine Wp_wkK (Wk_freeze 40 [(.int .i64 x5754), (.int .i64 x5756)] (by rfl) (by decide) (by decide)) rfl ?_
                                    simp -implicitDefEqProofs only [go_sem, ne_eq, not_false_eq_true, Nat.reduceBEq, Nat.reduceAdd, Nat.reduceSub, Nat.reduceMul, Nat.reduceLT, Nat.reduceLeDiff, Int.reduceLE, Int.reduceLT, Int.reduceToNat, Int.reduceBEq, Int.reduceBNe, Int.le_refl, Nat.le_refl, decide_true, decide_false, Int.cast_ofNat_Int, ↓reduceIte, h5513, g5515, h5518, h5523, h5526, h5529, h5533, h5536, h5539, h5541, h5542, h5543, h5544, h5650, h5713, g5714, g5715, g5716, h5717, h5720, h5722, g5724, g5725, g5726, h5727, h5730, h5732, h5734, g5736, h5737, h5739, h5744, g5745, h5746, h5750, h5753, h5755, h5757, g5759, h5760, h5765, h5767]
                                    (try simp -implicitDefEqProofs only [go_sem, ne_eq, not_false_eq_true, Nat.reduceBEq, Nat.reduceAdd, Nat.reduceSub, Nat.reduceMul, Nat.reduceLT, Nat.reduceLeDiff, Int.reduceLE, Int.reduceLT, Int.reduceToNat, Int.reduceBEq, Int.reduceBNe, Int.le_refl, Nat.le_refl, decide_true, decide_false, Int.cast_ofNat_Int, ↓reduceIte, h5513, g5515, h5518, h5523, h5526, h5529, h5533, h5536, h5539, h5541, h5542, h5543, h5544, h5650, h5713, g5714, g5715, g5716, h5717, h5720, h5722, g5724, g5725, g5726, h5727, h5730, h5732, h5734, g5736, h5737, h5739, h5744, g5745, h5746, h5750, h5753, h5755, h5757, g5759, h5760, h5765, h5767])
                                    exact cutQ _ ((Wk_le (.cons _ _ _ _ _ (.refl _) (.cons _ _ _ _ _ (.refl _) (.cons _ _ _ _ _ (.refl _) (.cons _ _ _ _ _ (.refl _) (.cons _ _ _ _ _ (.refl _) (.cons _ _ _ _ _ (.refl _) (.cons _ _ _ _ _ (.refl _) (.cons _ _ _ _ _ (.refl _) (.cons _ _ _ _ _ (.refl _) (.cons _ _ _ _ _ (.refl _) (.cons _ _ _ _ _ (.refl _) (.cons _ _ _ _ _ (.refl _) (.cons _ _ _ _ _ (.refl _) (.cons _ _ _ _ _ (.refl _) (.cons _ _ _ _ _ (.refl _) (.cons _ _ _ _ _ (.refl _) (.cons _ _ _ _ _ (.refl _) (.cons _ _ _ _ _ (.refl _) (.cons _ _ _ _ _ (.dead _) (.cons _ _ _ _ _ (.dead _) (.cons _ _ _ _ _ (.dead _) (.cons _ _ _ _ _ (.refl _) (.cons _ _ _ _ _ (.refl _) (.cons _ _ _ _ _ (.refl _) (.cons _ _ _ _ _ (.refl _) (.cons _ _ _ _ _ (.refl _) (.cons _ _ _ _ _ (.refl _) (.cons _ _ _ _ _ (.refl _) (.cons _ _ _ _ _ (.refl _) (.cons _ _ _ _ _ (.refl _) (.cons _ _ _ _ _ (.refl _) (.cons _ _ _ _ _ (.refl _) (.cons _ _ _ _ _ (.refl _) (.cons _ _ _ _ _ (.refl _) (.cons _ _ _ _ _ (.refl _) (.cons _ _ _ _ _ (.refl _) (.cons _ _ _ _ _ (.refl _) (.cons _ _ _ _ _ (.refl _) (.cons _ _ _ _ _ (.refl _) (.cons _ _ _ _ _ (.dead _) (.cons _ _ _ _ _ (.refl _) (.cons _ _ _ _ _ (.dead _) (.cons _ _ _ _ _ (.dead _) (.cons _ _ _ _ _ (.dead _) (.cons _ _ _ _ _ (.dead _) (.cons _ _ _ _ _ (.refl _) .nil)))))))))))))))))))))))))))))))))))))))))))))) (OLe.refl _)).trans (cmpS_ok (st' := ⟨[], [(0, .dead), (1, .dead), (2, .dead), (3, .v (.lst false n5519 c5520)), (4, .v (.lst false n5527 c5528)), (5, .dead), (6, .dead), (7, .dead), (8, .dead), (9, .dead), (10, .dead), (11, .dead), (12, .dead), (13, .dead), (14, .v (.int .i64 x5649)), (15, .v (.ipt [(.int .i64 x5754), (.int .i64 x5756)])), (16, .v p5710), (17, .v (.bool b5711)), (18, .dead), (19, .dead), (20, .dead), (21, .dead), (52, .dead), (53, .dead), (54, .dead), (55, .dead), (56, .dead), (88, .dead), (90, .dead), (91, .dead), (92, .dead), (93, .dead), (146, .dead), (149, .v (.int .i64 ((n5519 : Nat) : Int))), (150, .v (.int .i64 x5649)), (151, .dead), (153, .v (.lst false n5519 c5520)), (154, .v (.int .i64 ((n5519 : Nat) : Int))), (155, .v (.int .i64 (IntKind.i64.wrap (x5712 + 1)))), (156, .dead), (186, .dead), (187, .dead), (200, .dead), (220, .dead), (255, .dead), (280, .dead)], [], 0, []⟩) (by kernel_rfl))) ⟨n, Nat.lt_succ_self n, _, _, _, _, h5846, rfl⟩
                                  · refine W_sound tab_ok mixed 11 _ _ _ ?_
                                    simp -implicitDefEqProofs only [go_sem, ne_eq, not_false_eq_true, Nat.reduceBEq, Nat.reduceAdd, Nat.reduceSub, Nat.reduceMul, Nat.reduceLT, Nat.reduceLeDiff, Int.reduceLE, Int.reduceLT, Int.reduceToNat, Int.reduceBEq, Int.reduceBNe, Int.le_refl, Nat.le_refl, decide_true, decide_false, Int.cast_ofNat_Int, ↓reduceIte, h5513, g5515, h5518, h5523, h5526, h5529, h5533, h5536, h5539, h5541, h5542, h5543, h5544, h5650, h5713, g5714, g5715, g5716, h5717, h5720, h5722, g5724, g5725, g5726, h5727, h5730, h5732, h5734, g5736, h5737, h5739, h5744, g5745, h5746, h5750, h5753, h5755, h5757, g5759, h5760, h5765, h5767]
                                    repeat with_reducible refine And.intro (by first | kernel_rfl | decide) ?_
                                    exact cutQ _ ((Wk_le (.cons _ _ _ _ _ (.refl _) (.cons _ _ _ _ _ (.refl _) (.cons _ _ _ _ _ (.refl _) (.cons _ _ _ _ _ (.refl _) (.cons _ _ _ _ _ (.refl _) (.cons _ _ _ _ _ (.refl _) (.cons _ _ _ _ _ (.refl _) (.cons _ _ _ _ _ (.refl _) (.cons _ _ _ _ _ (.refl _) (.cons _ _ _ _ _ (.refl _) (.cons _ _ _ _ _ (.refl _) (.cons _ _ _ _ _ (.refl _) (.cons _ _ _ _ _ (.refl _) (.cons _ _ _ _ _ (.refl _) (.cons _ _ _ _ _ (.refl _) (.cons _ _ _ _ _ (.refl _) (.cons _ _ _ _ _ (.refl _) (.cons _ _ _ _ _ (.refl _) (.cons _ _ _ _ _ (.dead _) (.cons _ _ _ _ _ (.dead _) (.cons _ _ _ _ _ (.dead _) (.cons _ _ _ _ _ (.refl _) (.cons _ _ _ _ _ (.refl _) (.cons _ _ _ _ _ (.refl _) (.cons _ _ _ _ _ (.refl _) (.cons _ _ _ _ _ (.refl _) (.cons _ _ _ _ _ (.refl _) (.cons _ _ _ _ _ (.refl _) (.cons _ _ _ _ _ (.refl _) (.cons _ _ _ _ _ (.refl _) (.cons _ _ _ _ _ (.refl _) (.cons _ _ _ _ _ (.refl _) (.cons _ _ _ _ _ (.refl _) (.cons _ _ _ _ _ (.refl _) (.cons _ _ _ _ _ (.refl _) (.cons _ _ _ _ _ (.refl _) (.cons _ _ _ _ _ (.refl _) (.cons _ _ _ _ _ (.refl _) (.cons _ _ _ _ _ (.refl _) (.cons _ _ _ _ _ (.dead _) (.cons _ _ _ _ _ (.refl _) (.cons _ _ _ _ _ (.dead _) (.cons _ _ _ _ _ (.dead _) (.cons _ _ _ _ _ (.dead _) (.cons _ _ _ _ _ (.dead _) (.cons _ _ _ _ _ (.refl _) .nil)))))))))))))))))))))))))))))))))))))))))))))) (OLe.refl _)).trans (cmpS_ok (st' := ⟨[], [(0, .dead), (1, .dead), (2, .dead), (3, .v (.lst false n5519 c5520)), (4, .v (.lst false n5527 c5528)), (5, .dead), (6, .dead), (7, .dead), (8, .dead), (9, .dead), (10, .dead), (11, .dead), (12, .dead), (13, .dead), (14, .v (.int .i64 x5649)), (15, .v (.ipt c5758)), (16, .v p5710), (17, .v (.bool b5711)), (18, .dead), (19, .dead), (20, .dead), (21, .dead), (52, .dead), (53, .dead), (54, .dead), (55, .dead), (56, .dead), (88, .dead), (90, .dead), (91, .dead), (92, .dead), (93, .dead), (146, .dead), (149, .v (.int .i64 ((n5519 : Nat) : Int))), (150, .v (.int .i64 x5649)), (151, .dead), (153, .v (.lst false n5519 c5520)), (154, .v (.int .i64 ((n5519 : Nat) : Int))), (155, .v (.int .i64 (IntKind.i64.wrap (x5712 + 1)))), (156, .dead), (186, .dead), (187, .dead), (200, .dead), (220, .dead), (255, .dead), (280, .dead)], [], 0, []⟩) (by kernel_rfl))) ⟨n, Nat.lt_succ_self n, _, _, _, _, h5846, rfl⟩
                              · have hh := grd_some h5846; clear h5846; obtain ⟨g5768, h5846⟩ := hh
                                have hh := getI_some h5846; clear h5846; obtain ⟨x5770, h5769, h5846⟩ := hh
                                have hh := bnd'_some h5846; clear h5846; obtain ⟨p5771, h5772, h5846⟩ := hh
                                refine W_sound tab_ok mixed 74 _ _ _ ?_
                                simp -implicitDefEqProofs only [go_sem, ne_eq, not_false_eq_true, Nat.reduceBEq, Nat.reduceAdd, Nat.reduceSub, Nat.reduceMul, Nat.reduceLT, Nat.reduceLeDiff, Int.reduceLE, Int.reduceLT, Int.reduceToNat, Int.reduceBEq, Int.reduceBNe, Int.le_refl, Nat.le_refl, decide_true, decide_false, Int.cast_ofNat_Int, ↓reduceIte, h5513, g5515, h5518, h5523, h5526, h5529, h5533, h5536, h5539, h5541, h5542, h5543, h5544, h5650, h5713, g5714, g5715, g5716, h5717, h5720, h5722, g5724, g5725, g5726, h5727, h5730, h5732, h5734, g5736, h5737, h5739, h5744, g5768, h5769]
                                repeat with_reducible refine And.intro (by first | kernel_rfl | decide) ?_
                                refine Wp_callP (c40 N _ _ _ h5772) (by kernel_rfl) rfl rfl rfl rfl (by decide) ?_
                                have hh := getA2_some h5846; clear h5846; obtain ⟨p5774, p5775, h5773, h5846⟩ := hh
                                have hh := getI_some h5846; clear h5846; obtain ⟨x5777, h5776, h5846⟩ := hh
                                have hh := getI_some h5846; clear h5846; obtain ⟨x5779, h5778, h5846⟩ := hh
                                have hh := getP_some h5846; clear h5846; rcases hh with ⟨h5780, h5846⟩ | ⟨c5781, h5780, h5846⟩
                                · refine W_sound tab_ok mixed 26 _ _ _ ?_
                                  simp -implicitDefEqProofs only [go_sem, ne_eq, not_false_eq_true, Nat.reduceBEq, Nat.reduceAdd, Nat.reduceSub, Nat.reduceMul, Nat.reduceLT, Nat.reduceLeDiff, Int.reduceLE, Int.reduceLT, Int.reduceToNat, Int.reduceBEq, Int.reduceBNe, Int.le_refl, Nat.le_refl, decide_true, decide_false, Int.cast_ofNat_Int, ↓reduceIte, h5513, g5515, h5518, h5523, h5526, h5529, h5533, h5536, h5539, h5541, h5542, h5543, h5544, h5650, h5713, g5714, g5715, g5716, h5717, h5720, h5722, g5724, g5725, g5726, h5727, h5730, h5732, h5734, g5736, h5737, h5739, h5744, g5768, h5769, h5773, h5776, h5778, h5780]
                                  repeat with_reducible refine And.intro (by first | kernel_rfl | decide) ?_
                                  refine Wp_wkK (Wk_freeze 41 [(.int .i64 x5777), (.int .i64 x5779)] (by rfl) (by decide) (by decide)) rfl ?_
                                  simp -implicitDefEqProofs only [go_sem, ne_eq, not_false_eq_true, Nat.reduceBEq, Nat.reduceAdd, Nat.reduceSub, Nat.reduceMul, Nat.reduceLT, Nat.reduceLeDiff, Int.reduceLE, Int.reduceLT, Int.reduceToNat, Int.reduceBEq, Int.reduceBNe, Int.le_refl, Nat.le_refl, decide_true, decide_false, Int.cast_ofNat_Int, ↓reduceIte, h5513, g5515, h5518, h5523, h5526, h5529, h5533, h5536, h5539, h5541, h5542, h5543, h5544, h5650, h5713, g5714, g5715, g5716, h5717, h5720, h5722, g5724, g5725, g5726, h5727, h5730, h5732, h5734, g5736, h5737, h5739, h5744, g5768, h5769, h5773, h5776, h5778, h5780]
                                  (try simp -implicitDefEqProofs only [go_sem, ne_eq, not_false_eq_true, Nat.reduceBEq, Nat.reduceAdd, Nat.reduceSub, Nat.reduceMul, Nat.reduceLT, Nat.reduceLeDiff, Int.reduceLE, Int.reduceLT, Int.reduceToNat, Int.reduceBEq, Int.reduceBNe, Int.le_refl, Nat.le_refl, decide_true, decide_false, Int.cast_ofNat_Int, ↓reduceIte, h5513, g5515, h5518, h5523, h5526, h5529, h5533, h5536, h5539, h5541, h5542, h5543, h5544, h5650, h5713, g5714, g5715, g5716, h5717, h5720, h5722, g5724, g5725, g5726, h5727, h5730, h5732, h5734, g5736, h5737, h5739, h5744, g5768, h5769, h5773, h5776, h5778, h5780])
                                  exact cutQ _ ((Wk_le (.cons _ _ _ _ _ (.refl _) (.cons _ _ _ _ _ (.refl _) (.cons _ _ _ _ _ (.refl _) (.cons _ _ _ _ _ (.refl _) (.cons _ _ _ _ _ (.refl _) (.cons _ _ _ _ _ (.refl _) (.cons _ _ _ _ _ (.refl _) (.cons _ _ _ _ _ (.refl _) (.cons _ _ _ _ _ (.refl _) (.cons _ _ _ _ _ (.refl _) (.cons _ _ _ _ _ (.refl _) (.cons _ _ _ _ _ (.refl _) (.cons _ _ _ _ _ (.refl _) (.cons _ _ _ _ _ (.refl _) (.cons _ _ _ _ _ (.refl _) (.cons _ _ _ _ _ (.refl _) (.cons _ _ _ _ _ (.refl _) (.cons _ _ _ _ _ (.refl _) (.cons _ _ _ _ _ (.dead _) (.cons _ _ _ _ _ (.dead _) (.cons _ _ _ _ _ (.refl _) (.cons _ _ _ _ _ (.dead _) (.cons _ _ _ _ _ (.refl _) (.cons _ _ _ _ _ (.refl _) (.cons _ _ _ _ _ (.refl _) (.cons _ _ _ _ _ (.refl _) (.cons _ _ _ _ _ (.refl _) (.cons _ _ _ _ _ (.refl _) (.cons _ _ _ _ _ (.refl _) (.cons _ _ _ _ _ (.refl _) (.cons _ _ _ _ _ (.refl _) (.cons _ _ _ _ _ (.refl _) (.cons _ _ _ _ _ (.refl _) (.cons _ _ _ _ _ (.refl _) (.cons _ _ _ _ _ (.refl _) (.cons _ _ _ _ _ (.refl _) (.cons _ _ _ _ _ (.refl _) (.cons _ _ _ _ _ (.refl _) (.cons _ _ _ _ _ (.refl _) (.cons _ _ _ _ _ (.dead _) (.cons _ _ _ _ _ (.dead _) (.cons _ _ _ _ _ (.dead _) (.cons _ _ _ _ _ (.dead _) (.cons _ _ _ _ _ (.dead _) (.cons _ _ _ _ _ (.refl _) (.cons _ _ _ _ _ (.refl _) .nil)))))))))))))))))))))))))))))))))))))))))))))) (OLe.refl _)).trans (cmpS_ok (st' := ⟨[], [(0, .dead), (1, .dead), (2, .dead), (3, .v (.lst false n5519 c5520)), (4, .v (.lst false n5527 c5528)), (5, .dead), (6, .dead), (7, .dead), (8, .dead), (9, .dead), (10, .dead), (11, .dead), (12, .dead), (13, .dead), (14, .v (.int .i64 x5649)), (15, .v p5709), (16, .v (.ipt [(.int .i64 x5777), (.int .i64 x5779)])), (17, .v (.bool b5711)), (18, .dead), (19, .dead), (20, .dead), (21, .dead), (52, .dead), (53, .dead), (54, .dead), (55, .dead), (56, .dead), (88, .dead), (90, .dead), (91, .dead), (92, .dead), (93, .dead), (146, .dead), (149, .v (.int .i64 ((n5519 : Nat) : Int))), (150, .v (.int .i64 x5649)), (151, .dead), (153, .v (.lst false n5519 c5520)), (154, .v (.int .i64 ((n5519 : Nat) : Int))), (155, .v (.int .i64 (IntKind.i64.wrap (x5712 + 1)))), (156, .dead), (186, .dead), (187, .dead), (200, .dead), (220, .dead), (255, .dead), (280, .dead)], [], 0, []⟩) (by kernel_rfl))) ⟨n, Nat.lt_succ_self n, _, _, _, _, h5846, rfl⟩
                                · have hh := grd_some h5846; clear h5846; obtain ⟨g5782, h5846⟩ := hh
                                  have hh := getA2_some h5846; clear h5846; obtain ⟨p5784, p5785, h5783, h5846⟩ := hh
                                  injection h5783 with h5783
                                  have hh := bnd'_some h5846; clear h5846; obtain ⟨p5786, h5787, h5846⟩ := hh
                                  refine W_sound tab_ok mixed 12 _ _ _ ?_
                                  simp -implicitDefEqProofs only [go_sem, ne_eq, not_false_eq_true, Nat.reduceBEq, Nat.reduceAdd, Nat.reduceSub, Nat.reduceMul, Nat.reduceLT, Nat.reduceLeDiff, Int.reduceLE, Int.reduceLT, Int.reduceToNat, Int.reduceBEq, Int.reduceBNe, Int.le_refl, Nat.le_refl, decide_true, decide_false, Int.cast_ofNat_Int, ↓reduceIte, h5513, g5515, h5518, h5523, h5526, h5529, h5533, h5536, h5539, h5541, h5542, h5543, h5544, h5650, h5713, g5714, g5715, g5716, h5717, h5720, h5722, g5724, g5725, g5726, h5727, h5730, h5732, h5734, g5736, h5737, h5739, h5744, g5768, h5769, h5773, h5776, h5778, h5780, g5782, h5783]
                                  repeat with_reducible refine And.intro (by first | kernel_rfl | decide) ?_
                                  refine Wp_callP (c49 N _ _ _ h5787) (by kernel_rfl) rfl rfl rfl rfl (by decide) ?_
                                  have hh := getI_some h5846; clear h5846; obtain ⟨x5789, h5788, h5846⟩ := hh
                                  have hh := brn_some h5846; clear h5846; rcases hh with ⟨h5790, h5846⟩ | ⟨h5790, h5846⟩
                                  · refine W_sound tab_ok mixed 13 _ _ _ ?_
                                    simp -implicitDefEqProofs only [go_sem, ne_eq, not_false_eq_true, Nat.reduceBEq, Nat.reduceAdd, Nat.reduceSub, Nat.reduceMul, Nat.reduceLT, Nat.reduceLeDiff, Int.reduceLE, Int.reduceLT, Int.reduceToNat, Int.reduceBEq, Int.reduceBNe, Int.le_refl, Nat.le_refl, decide_true, decide_false, Int.cast_ofNat_Int, ↓reduceIte, h5513, g5515, h5518, h5523, h5526, h5529, h5533, h5536, h5539, h5541, h5542, h5543, h5544, h5650, h5713, g5714, g5715, g5716, h5717, h5720, h5722, g5724, g5725, g5726, h5727, h5730, h5732, h5734, g5736, h5737, h5739, h5744, g5768, h5769, h5773, h5776, h5778, h5780, g5782, h5783, h5788, h5790]
                                    repeat with_reducible refine And.intro (by first | kernel_rfl | decide) ?_
                                    refine Wp_wkK (Wk_freeze 41 [(.int .i64 x5777), (.int .i64 x5779)] (by rfl) (by decide) (by decide)) rfl ?_
                                    simp -implicitDefEqProofs only [go_sem, ne_eq, not_false_eq_true, Nat.reduceBEq, Nat.reduceAdd, Nat.reduceSub, Nat.reduceMul, Nat.reduceLT, Nat.reduceLeDiff, Int.reduceLE, Int.reduceLT, Int.reduceToNat, Int.reduceBEq, Int.reduceBNe, Int.le_refl, Nat.le_refl, decide_true, decide_false, Int.cast_ofNat_Int, ↓reduceIte, h5513, g5515, h5518, h5523, h5526, h5529, h5533, h5536, h5539, h5541, h5542, h5543, h5544, h5650, h5713, g5714, g5715, g5716, h5717, h5720, h5722, g5724, g5725, g5726, h5727, h5730, h5732, h5734, g5736, h5737, h5739, h5744, g5768, h5769, h5773, h5776, h5778, h5780, g5782, h5783, h5788, h5790]
                                    (try simp -implicitDefEqProofs only [go_sem, ne_eq, not_false_eq_true, Nat.reduceBEq, Nat.reduceAdd, Nat.reduceSub, Nat.reduceMul, Nat.reduceLT, Nat.reduceLeDiff, Int.reduceLE, Int.reduceLT, Int.reduceToNat, Int.reduceBEq, Int.reduceBNe, Int.le_refl, Nat.le_refl, decide_true, decide_false, Int.cast_ofNat_Int, ↓reduceIte, h5513, g5515, h5518, h5523, h5526, h5529, h5533, h5536, h5539, h5541, h5542, h5543, h5544, h5650, h5713, g5714, g5715, g5716, h5717, h5720, h5722, g5724, g5725, g5726, h5727, h5730, h5732, h5734, g5736, h5737, h5739, h5744, g5768, h5769, h5773, h5776, h5778, h5780, g5782, h5783, h5788, h5790])
                                    exact cutQ _ ((Wk_le (.cons _ _ _ _ _ (.refl _) (.cons _ _ _ _ _ (.refl _) (.cons _ _ _ _ _ (.refl _) (.cons _ _ _ _ _ (.refl _) (.cons _ _ _ _ _ (.refl _) (.cons _ _ _ _ _ (.refl _) (.cons _ _ _ _ _ (.refl _) (.cons _ _ _ _ _ (.refl _) (.cons _ _ _ _ _ (.refl _) (.cons _ _ _ _ _ (.refl _) (.cons _ _ _ _ _ (.refl _) (.cons _ _ _ _ _ (.refl _) (.cons _ _ _ _ _ (.refl _) (.cons _ _ _ _ _ (.refl _) (.cons _ _ _ _ _ (.refl _) (.cons _ _ _ _ _ (.refl _) (.cons _ _ _ _ _ (.refl _) (.cons _ _ _ _ _ (.refl _) (.cons _ _ _ _ _ (.dead _) (.cons _ _ _ _ _ (.dead _) (.cons _ _ _ _ _ (.refl _) (.cons _ _ _ _ _ (.dead _) (.cons _ _ _ _ _ (.refl _) (.cons _ _ _ _ _ (.refl _) (.cons _ _ _ _ _ (.refl _) (.cons _ _ _ _ _ (.refl _) (.cons _ _ _ _ _ (.refl _) (.cons _ _ _ _ _ (.refl _) (.cons _ _ _ _ _ (.refl _) (.cons _ _ _ _ _ (.refl _) (.cons _ _ _ _ _ (.refl _) (.cons _ _ _ _ _ (.refl _) (.cons _ _ _ _ _ (.refl _) (.cons _ _ _ _ _ (.refl _) (.cons _ _ _ _ _ (.refl _) (.cons _ _ _ _ _ (.refl _) (.cons _ _ _ _ _ (.refl _) (.cons _ _ _ _ _ (.refl _) (.cons _ _ _ _ _ (.refl _) (.cons _ _ _ _ _ (.dead _) (.cons _ _ _ _ _ (.dead _) (.cons _ _ _ _ _ (.dead _) (.cons _ _ _ _ _ (.dead _) (.cons _ _ _ _ _ (.dead _) (.cons _ _ _ _ _ (.refl _) (.cons _ _ _ _ _ (.refl _) .nil)))))))))))))))))))))))))))))))))))))))))))))) (OLe.refl _)).trans (cmpS_ok (st' := ⟨[], [(0, .dead), (1, .dead), (2, .dead), (3, .v (.lst false n5519 c5520)), (4, .v (.lst false n5527 c5528)), (5, .dead), (6, .dead), (7, .dead), (8, .dead), (9, .dead), (10, .dead), (11, .dead), (12, .dead), (13, .dead), (14, .v (.int .i64 x5649)), (15, .v p5709), (16, .v (.ipt [(.int .i64 x5777), (.int .i64 x5779)])), (17, .v (.bool b5711)), (18, .dead), (19, .dead), (20, .dead), (21, .dead), (52, .dead), (53, .dead), (54, .dead), (55, .dead), (56, .dead), (88, .dead), (90, .dead), (91, .dead), (92, .dead), (93, .dead), (146, .dead), (149, .v (.int .i64 ((n5519 : Nat) : Int))), (150, .v (.int .i64 x5649)), (151, .dead), (153, .v (.lst false n5519 c5520)), (154, .v (.int .i64 ((n5519 : Nat) : Int))), (155, .v (.int .i64 (IntKind.i64.wrap (x5712 + 1)))), (156, .dead), (186, .dead), (187, .dead), (200, .dead), (220, .dead), (255, .dead), (280, .dead)], [], 0, []⟩) (by kernel_rfl))) ⟨n, Nat.lt_succ_self n, _, _, _, _, h5846, rfl⟩
                                  · refine W_sound tab_ok mixed 11 _ _ _ ?_
                                    simp -implicitDefEqProofs only [go_sem, ne_eq, not_false_eq_true, Nat.reduceBEq, Nat.reduceAdd, Nat.reduceSub, Nat.reduceMul, Nat.reduceLT, Nat.reduceLeDiff, Int.reduceLE, Int.reduceLT, Int.reduceToNat, Int.reduceBEq, Int.reduceBNe, Int.le_refl, Nat.le_refl, decide_true, decide_false, Int.cast_ofNat_Int, ↓reduceIte, h5513, g5515, h5518, h5523, h5526, h5529, h5533, h5536, h5539, h5541, h5542, h5543, h5544, h5650, h5713, g5714, g5715, g5716, h5717, h5720, h5722, g5724, g5725, g5726, h5727, h5730, h5732, h5734, g5736, h5737, h5739, h5744, g5768, h5769, h5773, h5776, h5778, h5780, g5782, h5783, h5788, h5790]
                                    repeat with_reducible refine And.intro (by first | kernel_rfl | decide) ?_
                                    exact cutQ _ ((Wk_le (.cons _ _ _ _ _ (.refl _) (.cons _ _ _ _ _ (.refl _) (.cons _ _ _ _ _ (.refl _) (.cons _ _ _ _ _ (.refl _) (.cons _ _ _ _ _ (.refl _) (.cons _ _ _ _ _ (.refl _) (.cons _ _ _ _ _ (.refl _) (.cons _ _ _ _ _ (.refl _) (.cons _ _ _ _ _ (.refl _) (.cons _ _ _ _ _ (.refl _) (.cons _ _ _ _ _ (.refl _) (.cons _ _ _ _ _ (.refl _) (.cons _ _ _ _ _ (.refl _) (.cons _ _ _ _ _ (.refl _) (.cons _ _ _ _ _ (.refl _) (.cons _ _ _ _ _ (.refl _) (.cons _ _ _ _ _ (.refl _) (.cons _ _ _ _ _ (.refl _) (.cons _ _ _ _ _ (.dead _) (.cons _ _ _ _ _ (.dead _) (.cons _ _ _ _ _ (.refl _) (.cons _ _ _ _ _ (.dead _) (.cons _ _ _ _ _ (.refl _) (.cons _ _ _ _ _ (.refl _) (.cons _ _ _ _ _ (.refl _) (.cons _ _ _ _ _ (.refl _) (.cons _ _ _ _ _ (.refl _) (.cons _ _ _ _ _ (.refl _) (.cons _ _ _ _ _ (.refl _) (.cons _ _ _ _ _ (.refl _) (.cons _ _ _ _ _ (.refl _) (.cons _ _ _ _ _ (.refl _) (.cons _ _ _ _ _ (.refl _) (.cons _ _ _ _ _ (.refl _) (.cons _ _ _ _ _ (.refl _) (.cons _ _ _ _ _ (.refl _) (.cons _ _ _ _ _ (.refl _) (.cons _ _ _ _ _ (.refl _) (.cons _ _ _ _ _ (.refl _) (.cons _ _ _ _ _ (.dead _) (.cons _ _ _ _ _ (.dead _) (.cons _ _ _ _ _ (.dead _) (.cons _ _ _ _ _ (.dead _) (.cons _ _ _ _ _ (.dead _) (.cons _ _ _ _ _ (.refl _) (.cons _ _ _ _ _ (.refl _) .nil)))))))))))))))))))))))))))))))))))))))))))))) (OLe.refl _)).trans (cmpS_ok (st' := ⟨[], [(0, .dead), (1, .dead), (2, .dead), (3, .v (.lst false n5519 c5520)), (4, .v (.lst false n5527 c5528)), (5, .dead), (6, .dead), (7, .dead), (8, .dead), (9, .dead), (10, .dead), (11, .dead), (12, .dead), (13, .dead), (14, .v (.int .i64 x5649)), (15, .v p5709), (16, .v (.ipt c5781)), (17, .v (.bool b5711)), (18, .dead), (19, .dead), (20, .dead), (21, .dead), (52, .dead), (53, .dead), (54, .dead), (55, .dead), (56, .dead), (88, .dead), (90, .dead), (91, .dead), (92, .dead), (93, .dead), (146, .dead), (149, .v (.int .i64 ((n5519 : Nat) : Int))), (150, .v (.int .i64 x5649)), (151, .dead), (153, .v (.lst false n5519 c5520)), (154, .v (.int .i64 ((n5519 : Nat) : Int))), (155, .v (.int .i64 (IntKind.i64.wrap (x5712 + 1)))), (156, .dead), (186, .dead), (187, .dead), (200, .dead), (220, .dead), (255, .dead), (280, .dead)], [], 0, []⟩) (by kernel_rfl))) ⟨n, Nat.lt_succ_self n, _, _, _, _, h5846, rfl⟩
                        · refine W_sound tab_ok mixed 7 _ _ _ ?_
                          simp -implicitDefEqProofs only [go_sem, ne_eq, not_false_eq_true, Nat.reduceBEq, Nat.reduceAdd, Nat.reduceSub, Nat.reduceMul, Nat.reduceLT, Nat.reduceLeDiff, Int.reduceLE, Int.reduceLT, Int.reduceToNat, Int.reduceBEq, Int.reduceBNe, Int.le_refl, Nat.le_refl, decide_true, decide_false, Int.cast_ofNat_Int, ↓reduceIte, h5513, g5515, h5518, h5523, h5526, h5529, h5533, h5536, h5539, h5541, h5542, h5543, h5544, h5650, h5713]
                          repeat with_reducible refine And.intro (by first | kernel_rfl | decide) ?_
                          obtain rfl := Option.some.inj h5846
                          exact cutQ _ ((Wk_le (.cons _ _ _ _ _ (.refl _) (.cons _ _ _ _ _ (.refl _) (.cons _ _ _ _ _ (.refl _) (.cons _ _ _ _ _ (.refl _) (.cons _ _ _ _ _ (.refl _) (.cons _ _ _ _ _ (.refl _) (.cons _ _ _ _ _ (.refl _) (.cons _ _ _ _ _ (.refl _) (.cons _ _ _ _ _ (.refl _) (.cons _ _ _ _ _ (.refl _) (.cons _ _ _ _ _ (.refl _) (.cons _ _ _ _ _ (.refl _) (.cons _ _ _ _ _ (.refl _) (.cons _ _ _ _ _ (.refl _) (.cons _ _ _ _ _ (.refl _) (.cons _ _ _ _ _ (.refl _) (.cons _ _ _ _ _ (.refl _) (.cons _ _ _ _ _ (.refl _) (.cons _ _ _ _ _ (.refl _) (.cons _ _ _ _ _ (.refl _) (.cons _ _ _ _ _ (.refl _) (.cons _ _ _ _ _ (.refl _) (.cons _ _ _ _ _ (.refl _) (.cons _ _ _ _ _ (.refl _) (.cons _ _ _ _ _ (.refl _) (.cons _ _ _ _ _ (.refl _) (.cons _ _ _ _ _ (.refl _) (.cons _ _ _ _ _ (.refl _) (.cons _ _ _ _ _ (.refl _) (.cons _ _ _ _ _ (.refl _) (.cons _ _ _ _ _ (.refl _) (.cons _ _ _ _ _ (.refl _) (.cons _ _ _ _ _ (.refl _) (.cons _ _ _ _ _ (.refl _) (.cons _ _ _ _ _ (.refl _) (.cons _ _ _ _ _ (.refl _) (.cons _ _ _ _ _ (.dead _) (.cons _ _ _ _ _ (.dead _) (.cons _ _ _ _ _ (.dead _) (.cons _ _ _ _ _ (.dead _) (.cons _ _ _ _ _ (.refl _) (.cons _ _ _ _ _ (.refl _) (.cons _ _ _ _ _ (.refl _) (.cons _ _ _ _ _ (.refl _) (.cons _ _ _ _ _ (.refl _) (.cons _ _ _ _ _ (.refl _) .nil)))))))))))))))))))))))))))))))))))))))))))))) (OLe.refl _)).trans (cmpS_ok (st' := ⟨[], [(0, .dead), (1, .dead), (2, .dead), (3, .v (.lst false n5519 c5520)), (4, .v (.lst false n5527 c5528)), (5, .dead), (6, .dead), (7, .dead), (8, .dead), (9, .dead), (10, .dead), (11, .dead), (12, .dead), (13, .dead), (14, .v (.int .i64 x5649)), (15, .v p5709), (16, .v p5710), (17, .v (.bool b5711)), (18, .dead), (19, .dead), (20, .dead), (21, .dead), (52, .dead), (53, .dead), (54, .dead), (55, .dead), (56, .dead), (88, .dead), (90, .dead), (91, .dead), (92, .dead), (93, .dead), (146, .dead), (149, .v (.int .i64 ((n5519 : Nat) : Int))), (150, .v (.int .i64 x5649)), (151, .dead), (153, .dead), (154, .dead), (155, .dead), (156, .dead), (186, .dead), (187, .dead), (200, .dead), (220, .dead), (255, .dead), (280, .dead)], [], 0, []⟩) (by kernel_rfl))) ⟨_, _, _, rfl, rfl⟩
                    · rintro _ ⟨p5791, p5792, b5793, rfl, rfl⟩
                      (try dsimp only at h5847)
                      have hh := brn_some h5847; clear h5847; rcases hh with ⟨h5794, h5847⟩ | ⟨h5794, h5847⟩
                      · have hh := getP_some h5847; clear h5847; rcases hh with ⟨h5795, h5847⟩ | ⟨c5796, h5795, h5847⟩
                        · have hh := bnd'_some h5847; clear h5847; obtain ⟨p5797, h5798, h5847⟩ := hh
                          refine W_sound tab_ok mixed 28 _ _ _ ?_
                          simp -implicitDefEqProofs only [go_sem, ne_eq, not_false_eq_true, Nat.reduceBEq, Nat.reduceAdd, Nat.reduceSub, Nat.reduceMul, Nat.reduceLT, Nat.reduceLeDiff, Int.reduceLE, Int.reduceLT, Int.reduceToNat, Int.reduceBEq, Int.reduceBNe, Int.le_refl, Nat.le_refl, decide_true, decide_false, Int.cast_ofNat_Int, ↓reduceIte, h5513, g5515, h5518, h5523, h5526, h5529, h5533, h5536, h5539, h5541, h5542, h5543, h5544, h5650, h5794, h5795]
                          repeat with_reducible refine And.intro (by first | kernel_rfl | decide) ?_
                          refine Wp_callP (c50 N _ _ _ h5798) (by kernel_rfl) rfl rfl rfl rfl (by decide) ?_
                          have hh := getB_some h5847; clear h5847; obtain ⟨b5800, h5799, h5847⟩ := hh
                          have hh := brn_some h5847; clear h5847; rcases hh with ⟨h5801, h5847⟩ | ⟨h5801, h5847⟩
                          · refine W_sound tab_ok mixed 9 _ _ _ ?_
                            simp -implicitDefEqProofs only [go_sem, ne_eq, not_false_eq_true, Nat.reduceBEq, Nat.reduceAdd, Nat.reduceSub, Nat.reduceMul, Nat.reduceLT, Nat.reduceLeDiff, Int.reduceLE, Int.reduceLT, Int.reduceToNat, Int.reduceBEq, Int.reduceBNe, Int.le_refl, Nat.le_refl, decide_true, decide_false, Int.cast_ofNat_Int, ↓reduceIte, h5513, g5515, h5518, h5523, h5526, h5529, h5533, h5536, h5539, h5541, h5542, h5543, h5544, h5650, h5794, h5795, h5799, h5801]
                            repeat with_reducible refine And.intro (by first | kernel_rfl | decide) ?_
                            obtain rfl := Option.some.inj h5847
                            (try dsimp only at h5844)
                            obtain rfl := Option.some.inj h5844
                            exact finC [(2, .v (.bool false))] [(2, .v (.bool false))] (by simp [leE, lk_cons]) (.cons _ _ _ _ _ (.v _ _ (.refl _)) .nil) (by rfl) (by simp [leE, lk_cons]) (by decide) (by decide) rfl (by simp only [go_sem, ne_eq, not_false_eq_true, Nat.reduceBEq, Nat.reduceAdd, Nat.reduceSub, Nat.reduceMul, Nat.reduceLT, Nat.reduceLeDiff, Int.reduceLE, Int.reduceLT, Int.reduceToNat, Int.reduceBEq, Int.reduceBNe, Int.le_refl, Nat.le_refl, decide_true, decide_false, Int.cast_ofNat_Int, ↓reduceIte, resQ_tmp, resQ_cell, resQ_nil, retD_one, retD_two, retD_three, retD_none]; try simp [R.val, retD_one, retD_two, retD_three, retD_none])
                          · refine W_sound tab_ok mixed 9 _ _ _ ?_
                            simp -implicitDefEqProofs only [go_sem, ne_eq, not_false_eq_true, Nat.reduceBEq, Nat.reduceAdd, Nat.reduceSub, Nat.reduceMul, Nat.reduceLT, Nat.reduceLeDiff, Int.reduceLE, Int.reduceLT, Int.reduceToNat, Int.reduceBEq, Int.reduceBNe, Int.le_refl, Nat.le_refl, decide_true, decide_false, Int.cast_ofNat_Int, ↓reduceIte, h5513, g5515, h5518, h5523, h5526, h5529, h5533, h5536, h5539, h5541, h5542, h5543, h5544, h5650, h5794, h5795, h5799, h5801]
                            repeat with_reducible refine And.intro (by first | kernel_rfl | decide) ?_
                            exact cutQ _ ((Wk_le (.cons _ _ _ _ _ (.refl _) (.cons _ _ _ _ _ (.refl _) (.cons _ _ _ _ _ (.refl _) (.cons _ _ _ _ _ (.refl _) (.cons _ _ _ _ _ (.refl _) (.cons _ _ _ _ _ (.refl _) (.cons _ _ _ _ _ (.refl _) (.cons _ _ _ _ _ (.refl _) (.cons _ _ _ _ _ (.refl _) (.cons _ _ _ _ _ (.refl _) (.cons _ _ _ _ _ (.refl _) (.cons _ _ _ _ _ (.refl _) (.cons _ _ _ _ _ (.refl _) (.cons _ _ _ _ _ (.refl _) (.cons _ _ _ _ _ (.dead _) (.cons _ _ _ _ _ (.dead _) (.cons _ _ _ _ _ (.dead _) (.cons _ _ _ _ _ (.dead _) (.cons _ _ _ _ _ (.refl _) (.cons _ _ _ _ _ (.refl _) (.cons _ _ _ _ _ (.refl _) (.cons _ _ _ _ _ (.refl _) (.cons _ _ _ _ _ (.refl _) (.cons _ _ _ _ _ (.refl _) (.cons _ _ _ _ _ (.refl _) (.cons _ _ _ _ _ (.refl _) (.cons _ _ _ _ _ (.refl _) (.cons _ _ _ _ _ (.refl _) (.cons _ _ _ _ _ (.refl _) (.cons _ _ _ _ _ (.refl _) (.cons _ _ _ _ _ (.refl _) (.cons _ _ _ _ _ (.refl _) (.cons _ _ _ _ _ (.refl _) (.cons _ _ _ _ _ (.refl _) (.cons _ _ _ _ _ (.refl _) (.cons _ _ _ _ _ (.refl _) (.cons _ _ _ _ _ (.refl _) (.cons _ _ _ _ _ (.refl _) (.cons _ _ _ _ _ (.refl _) (.cons _ _ _ _ _ (.refl _) (.cons _ _ _ _ _ (.refl _) (.cons _ _ _ _ _ (.refl _) (.cons _ _ _ _ _ (.refl _) (.cons _ _ _ _ _ (.refl _) (.cons _ _ _ _ _ (.refl _) (.cons _ _ _ _ _ (.dead _) .nil)))))))))))))))))))))))))))))))))))))))))))))) (OLe.refl _)).trans (cmpS_ok (st' := ⟨[], [(0, .dead), (1, .dead), (2, .dead), (3, .v (.lst false n5519 c5520)), (4, .v (.lst false n5527 c5528)), (5, .dead), (6, .dead), (7, .dead), (8, .dead), (9, .dead), (10, .dead), (11, .dead), (12, .dead), (13, .dead), (14, .dead), (15, .dead), (16, .dead), (17, .dead), (18, .dead), (19, .dead), (20, .dead), (21, .dead), (52, .dead), (53, .dead), (54, .dead), (55, .dead), (56, .dead), (88, .dead), (90, .dead), (91, .dead), (92, .dead), (93, .dead), (146, .dead), (149, .v (.int .i64 ((n5519 : Nat) : Int))), (150, .v (.int .i64 (IntKind.i64.wrap (x5649 + 1)))), (151, .dead), (153, .dead), (154, .dead), (155, .dead), (156, .dead), (186, .dead), (187, .dead), (200, .dead), (220, .dead), (255, .dead), (280, .dead)], [], 0, []⟩) (by kernel_rfl))) ⟨n, Nat.lt_succ_self n, _, h5847, rfl⟩
                        · have hh := getP_some h5847; clear h5847; rcases hh with ⟨h5802, h5847⟩ | ⟨c5803, h5802, h5847⟩
                          · have hh := bnd'_some h5847; clear h5847; obtain ⟨p5804, h5805, h5847⟩ := hh
                            refine W_sound tab_ok mixed 28 _ _ _ ?_
                            simp -implicitDefEqProofs only [go_sem, ne_eq, not_false_eq_true, Nat.reduceBEq, Nat.reduceAdd, Nat.reduceSub, Nat.reduceMul, Nat.reduceLT, Nat.reduceLeDiff, Int.reduceLE, Int.reduceLT, Int.reduceToNat, Int.reduceBEq, Int.reduceBNe, Int.le_refl, Nat.le_refl, decide_true, decide_false, Int.cast_ofNat_Int, ↓reduceIte, h5513, g5515, h5518, h5523, h5526, h5529, h5533, h5536, h5539, h5541, h5542, h5543, h5544, h5650, h5794, h5795, h5802]
                            repeat with_reducible refine And.intro (by first | kernel_rfl | decide) ?_
                            refine Wp_callP (c50 N _ _ _ h5805) (by kernel_rfl) rfl rfl rfl rfl (by decide) ?_
                            have hh := getB_some h5847; clear h5847; obtain ⟨b5807, h5806, h5847⟩ := hh
                            have hh := brn_some h5847; clear h5847; rcases hh with ⟨h5808, h5847⟩ | ⟨h5808, h5847⟩
                            · refine W_sound tab_ok mixed 9 _ _ _ ?_
                              simp -implicitDefEqProofs only [go_sem, ne_eq, not_false_eq_true, Nat.reduceBEq, Nat.reduceAdd, Nat.reduceSub, Nat.reduceMul, Nat.reduceLT, Nat.reduceLeDiff, Int.reduceLE, Int.reduceLT, Int.reduceToNat, Int.reduceBEq, Int.reduceBNe, Int.le_refl, Nat.le_refl, decide_true, decide_false, Int.cast_ofNat_Int, ↓reduceIte, h5513, g5515, h5518, h5523, h5526, h5529, h5533, h5536, h5539, h5541, h5542, h5543, h5544, h5650, h5794, h5795, h5802, h5806, h5808]
                              repeat with_reducible refine And.intro (by first | kernel_rfl | decide) ?_
                              obtain rfl := Option.some.inj h5847
                              (try dsimp only at h5844)
                              obtain rfl := Option.some.inj h5844
                              exact finC [(2, .v (.bool false))] [(2, .v (.bool false))] (by simp [leE, lk_cons]) (.cons _ _ _ _ _ (.v _ _ (.refl _)) .nil) (by rfl) (by simp [leE, lk_cons]) (by decide) (by decide) rfl (by simp only [go_sem, ne_eq, not_false_eq_true, Nat.reduceBEq, Nat.reduceAdd, Nat.reduceSub, Nat.reduceMul, Nat.reduceLT, Nat.reduceLeDiff, Int.reduceLE, Int.reduceLT, Int.reduceToNat, Int.reduceBEq, Int.reduceBNe, Int.le_refl, Nat.le_refl, decide_true, decide_false, Int.cast_ofNat_Int, ↓reduceIte, resQ_tmp, resQ_cell, resQ_nil, retD_one, retD_two, retD_three, retD_none]; try simp [R.val, retD_one, retD_two, retD_three, retD_none])
                            · refine W_sound tab_ok mixed 9 _ _ _ ?_
                              simp -implicitDefEqProofs only [go_sem, ne_eq, not_false_eq_true, Nat.reduceBEq, Nat.reduceAdd, Nat.reduceSub, Nat.reduceMul, Nat.reduceLT, Nat.reduceLeDiff, Int.reduceLE, Int.reduceLT, Int.reduceToNat, Int.reduceBEq, Int.reduceBNe, Int.le_refl, Nat.le_refl, decide_true, decide_false, Int.cast_ofNat_Int, ↓reduceIte, h5513, g5515, h5518, h5523, h5526, h5529, h5533, h5536, h5539, h5541, h5542, h5543, h5544, h5650, h5794, h5795, h5802, h5806, h5808]
                              repeat with_reducible refine And.intro (by first | kernel_rfl | decide) ?_
                              exact cutQ _ ((Wk_le (.cons _ _ _ _ _ (.refl _) (.cons _ _ _ _ _ (.refl _) (.cons _ _ _ _ _ (.refl _) (.cons _ _ _ _ _ (.refl _) (.cons _ _ _ _ _ (.refl _) (.cons _ _ _ _ _ (.refl _) (.cons _ _ _ _ _ (.refl _) (.cons _ _ _ _ _ (.refl _) (.cons _ _ _ _ _ (.refl _) (.cons _ _ _ _ _ (.refl _) (.cons _ _ _ _ _ (.refl _) (.cons _ _ _ _ _ (.refl _) (.cons _ _ _ _ _ (.refl _) (.cons _ _ _ _ _ (.refl _) (.cons _ _ _ _ _ (.dead _) (.cons _ _ _ _ _ (.dead _) (.cons _ _ _ _ _ (.dead _) (.cons _ _ _ _ _ (.dead _) (.cons _ _ _ _ _ (.refl _) (.cons _ _ _ _ _ (.refl _) (.cons _ _ _ _ _ (.refl _) (.cons _ _ _ _ _ (.refl _) (.cons _ _ _ _ _ (.refl _) (.cons _ _ _ _ _ (.refl _) (.cons _ _ _ _ _ (.refl _) (.cons _ _ _ _ _ (.refl _) (.cons _ _ _ _ _ (.refl _) (.cons _ _ _ _ _ (.refl _) (.cons _ _ _ _ _ (.refl _) (.cons _ _ _ _ _ (.refl _) (.cons _ _ _ _ _ (.refl _) (.cons _ _ _ _ _ (.refl _) (.cons _ _ _ _ _ (.refl _) (.cons _ _ _ _ _ (.refl _) (.cons _ _ _ _ _ (.refl _) (.cons _ _ _ _ _ (.refl _) (.cons _ _ _ _ _ (.refl _) (.cons _ _ _ _ _ (.refl _) (.cons _ _ _ _ _ (.refl _) (.cons _ _ _ _ _ (.refl _) (.cons _ _ _ _ _ (.refl _) (.cons _ _ _ _ _ (.refl _) (.cons _ _ _ _ _ (.refl _) (.cons _ _ _ _ _ (.refl _) (.cons _ _ _ _ _ (.refl _) (.cons _ _ _ _ _ (.dead _) .nil)))))))))))))))))))))))))))))))))))))))))))))) (OLe.refl _)).trans (cmpS_ok (st' := ⟨[], [(0, .dead), (1, .dead), (2, .dead), (3, .v (.lst false n5519 c5520)), (4, .v (.lst false n5527 c5528)), (5, .dead), (6, .dead), (7, .dead), (8, .dead), (9, .dead), (10, .dead), (11, .dead), (12, .dead), (13, .dead), (14, .dead), (15, .dead), (16, .dead), (17, .dead), (18, .dead), (19, .dead), (20, .dead), (21, .dead), (52, .dead), (53, .dead), (54, .dead), (55, .dead), (56, .dead), (88, .dead), (90, .dead), (91, .dead), (92, .dead), (93, .dead), (146, .dead), (149, .v (.int .i64 ((n5519 : Nat) : Int))), (150, .v (.int .i64 (IntKind.i64.wrap (x5649 + 1)))), (151, .dead), (153, .dead), (154, .dead), (155, .dead), (156, .dead), (186, .dead), (187, .dead), (200, .dead), (220, .dead), (255, .dead), (280, .dead)], [], 0, []⟩) (by kernel_rfl))) ⟨n, Nat.lt_succ_self n, _, h5847, rfl⟩
                          · have hh := grd_some h5847; clear h5847; obtain ⟨g5809, h5847⟩ := hh
                            have hh := getA2_some h5847; clear h5847; obtain ⟨p5811, p5812, h5810, h5847⟩ := hh
                            injection h5810 with h5810
                            have hh := grd_some h5847; clear h5847; obtain ⟨g5813, h5847⟩ := hh
                            have hh := getA2_some h5847; clear h5847; obtain ⟨p5815, p5816, h5814, h5847⟩ := hh
                            injection h5814 with h5814
                            have hh := bnd'_some h5847; clear h5847; obtain ⟨p5817, h5818, h5847⟩ := hh
                            refine W_sound tab_ok mixed 17 _ _ _ ?_
                            simp -implicitDefEqProofs only [go_sem, ne_eq, not_false_eq_true, Nat.reduceBEq, Nat.reduceAdd, Nat.reduceSub, Nat.reduceMul, Nat.reduceLT, Nat.reduceLeDiff, Int.reduceLE, Int.reduceLT, Int.reduceToNat, Int.reduceBEq, Int.reduceBNe, Int.le_refl, Nat.le_refl, decide_true, decide_false, Int.cast_ofNat_Int, ↓reduceIte, h5513, g5515, h5518, h5523, h5526, h5529, h5533, h5536, h5539, h5541, h5542, h5543, h5544, h5650, h5794, h5795, h5802, g5809, h5810, g5813, h5814]
                            repeat with_reducible refine And.intro (by first | kernel_rfl | decide) ?_
                            refine Wp_callP (c49 N _ _ _ h5818) (by kernel_rfl) rfl rfl rfl rfl (by decide) ?_
                            have hh := getI_some h5847; clear h5847; obtain ⟨x5820, h5819, h5847⟩ := hh
                            have hh := bnd'_some h5847; clear h5847; obtain ⟨p5821, h5822, h5847⟩ := hh
                            refine W_sound tab_ok mixed 10 _ _ _ ?_
                            simp -implicitDefEqProofs only [go_sem, ne_eq, not_false_eq_true, Nat.reduceBEq, Nat.reduceAdd, Nat.reduceSub, Nat.reduceMul, Nat.reduceLT, Nat.reduceLeDiff, Int.reduceLE, Int.reduceLT, Int.reduceToNat, Int.reduceBEq, Int.reduceBNe, Int.le_refl, Nat.le_refl, decide_true, decide_false, Int.cast_ofNat_Int, ↓reduceIte, h5513, g5515, h5518, h5523, h5526, h5529, h5533, h5536, h5539, h5541, h5542, h5543, h5544, h5650, h5794, h5795, h5802, g5809, h5810, g5813, h5814, h5819]
                            repeat with_reducible refine And.intro (by first | kernel_rfl | decide) ?_
                            refine Wp_callP (c50 N _ _ _ h5822) (by kernel_rfl) rfl rfl rfl rfl (by decide) ?_
                            have hh := getB_some h5847; clear h5847; obtain ⟨b5824, h5823, h5847⟩ := hh
                            have hh := brn_some h5847; clear h5847; rcases hh with ⟨h5825, h5847⟩ | ⟨h5825, h5847⟩
                            · refine W_sound tab_ok mixed 9 _ _ _ ?_
                              simp -implicitDefEqProofs only [go_sem, ne_eq, not_false_eq_true, Nat.reduceBEq, Nat.reduceAdd, Nat.reduceSub, Nat.reduceMul, Nat.reduceLT, Nat.reduceLeDiff, Int.reduceLE, Int.reduceLT, Int.reduceToNat, Int.reduceBEq, Int.reduceBNe, Int.le_refl, Nat.le_refl, decide_true, decide_false, Int.cast_ofNat_Int, ↓reduceIte, h5513, g5515, h5518, h5523, h5526, h5529, h5533, h5536, h5539, h5541, h5542, h5543, h5544, h5650, h5794, h5795, h5802, g5809, h5810, g5813, h5814, h5819, h5823, h5825]
                              repeat with_reducible refine And.intro (by first | kernel_rfl | decide) ?_
                              obtain rfl := Option.some.inj h5847
                              (try dsimp only at h5844)
                              obtain rfl := Option.some.inj h5844
                              exact finC [(2, .v (.bool false))] [(2, .v (.bool false))] (by simp [leE, lk_cons]) (.cons _ _ _ _ _ (.v _ _ (.refl _)) .nil) (by rfl) (by simp [leE, lk_cons]) (by decide) (by decide) rfl (by simp only [go_sem, ne_eq, not_false_eq_true, Nat.reduceBEq, Nat.reduceAdd, Nat.reduceSub, Nat.reduceMul, Nat.reduceLT, Nat.reduceLeDiff, Int.reduceLE, Int.reduceLT, Int.reduceToNat, Int.reduceBEq, Int.reduceBNe, Int.le_refl, Nat.le_refl, decide_true, decide_false, Int.cast_ofNat_Int, ↓reduceIte, resQ_tmp, resQ_cell, resQ_nil, retD_one, retD_two, retD_three, retD_none]; try simp [R.val, retD_one, retD_two, retD_three, retD_none])
                            · refine W_sound tab_ok mixed 9 _ _ _ ?_
                              simp -implicitDefEqProofs only [go_sem, ne_eq, not_false_eq_true, Nat.reduceBEq, Nat.reduceAdd, Nat.reduceSub, Nat.reduceMul, Nat.reduceLT, Nat.reduceLeDiff, Int.reduceLE, Int.reduceLT, Int.reduceToNat, Int.reduceBEq, Int.reduceBNe, Int.le_refl, Nat.le_refl, decide_true, decide_false, Int.cast_ofNat_Int, ↓reduceIte, h5513, g5515, h5518, h5523, h5526, h5529, h5533, h5536, h5539, h5541, h5542, h5543, h5544, h5650, h5794, h5795, h5802, g5809, h5810, g5813, h5814, h5819, h5823, h5825]
                              repeat with_reducible refine And.intro (by first | kernel_rfl | decide) ?_
                              exact cutQ _ ((Wk_le (.cons _ _ _ _ _ (.refl _) (.cons _ _ _ _ _ (.refl _) (.cons _ _ _ _ _ (.refl _) (.cons _ _ _ _ _ (.refl _) (.cons _ _ _ _ _ (.refl _) (.cons _ _ _ _ _ (.refl _) (.cons _ _ _ _ _ (.refl _) (.cons _ _ _ _ _ (.refl _) (.cons _ _ _ _ _ (.refl _) (.cons _ _ _ _ _ (.refl _) (.cons _ _ _ _ _ (.refl _) (.cons _ _ _ _ _ (.refl _) (.cons _ _ _ _ _ (.refl _) (.cons _ _ _ _ _ (.refl _) (.cons _ _ _ _ _ (.dead _) (.cons _ _ _ _ _ (.dead _) (.cons _ _ _ _ _ (.dead _) (.cons _ _ _ _ _ (.dead _) (.cons _ _ _ _ _ (.refl _) (.cons _ _ _ _ _ (.refl _) (.cons _ _ _ _ _ (.refl _) (.cons _ _ _ _ _ (.refl _) (.cons _ _ _ _ _ (.refl _) (.cons _ _ _ _ _ (.refl _) (.cons _ _ _ _ _ (.refl _) (.cons _ _ _ _ _ (.refl _) (.cons _ _ _ _ _ (.refl _) (.cons _ _ _ _ _ (.refl _) (.cons _ _ _ _ _ (.refl _) (.cons _ _ _ _ _ (.refl _) (.cons _ _ _ _ _ (.refl _) (.cons _ _ _ _ _ (.refl _) (.cons _ _ _ _ _ (.refl _) (.cons _ _ _ _ _ (.refl _) (.cons _ _ _ _ _ (.refl _) (.cons _ _ _ _ _ (.refl _) (.cons _ _ _ _ _ (.refl _) (.cons _ _ _ _ _ (.refl _) (.cons _ _ _ _ _ (.refl _) (.cons _ _ _ _ _ (.refl _) (.cons _ _ _ _ _ (.refl _) (.cons _ _ _ _ _ (.refl _) (.cons _ _ _ _ _ (.refl _) (.cons _ _ _ _ _ (.refl _) (.cons _ _ _ _ _ (.refl _) (.cons _ _ _ _ _ (.dead _) .nil)))))))))))))))))))))))))))))))))))))))))))))) (OLe.refl _)).trans (cmpS_ok (st' := ⟨[], [(0, .dead), (1, .dead), (2, .dead), (3, .v (.lst false n5519 c5520)), (4, .v (.lst false n5527 c5528)), (5, .dead), (6, .dead), (7, .dead), (8, .dead), (9, .dead), (10, .dead), (11, .dead), (12, .dead), (13, .dead), (14, .dead), (15, .dead), (16, .dead), (17, .dead), (18, .dead), (19, .dead), (20, .dead), (21, .dead), (52, .dead), (53, .dead), (54, .dead), (55, .dead), (56, .dead), (88, .dead), (90, .dead), (91, .dead), (92, .dead), (93, .dead), (146, .dead), (149, .v (.int .i64 ((n5519 : Nat) : Int))), (150, .v (.int .i64 (IntKind.i64.wrap (x5649 + 1)))), (151, .dead), (153, .dead), (154, .dead), (155, .dead), (156, .dead), (186, .dead), (187, .dead), (200, .dead), (220, .dead), (255, .dead), (280, .dead)], [], 0, []⟩) (by kernel_rfl))) ⟨n, Nat.lt_succ_self n, _, h5847, rfl⟩
                      · have hh := bnd'_some h5847; clear h5847; obtain ⟨p5826, h5827, h5847⟩ := hh
                        refine W_sound tab_ok mixed 28 _ _ _ ?_
                        simp -implicitDefEqProofs only [go_sem, ne_eq, not_false_eq_true, Nat.reduceBEq, Nat.reduceAdd, Nat.reduceSub, Nat.reduceMul, Nat.reduceLT, Nat.reduceLeDiff, Int.reduceLE, Int.reduceLT, Int.reduceToNat, Int.reduceBEq, Int.reduceBNe, Int.le_refl, Nat.le_refl, decide_true, decide_false, Int.cast_ofNat_Int, ↓reduceIte, h5513, g5515, h5518, h5523, h5526, h5529, h5533, h5536, h5539, h5541, h5542, h5543, h5544, h5650, h5794]
                        repeat with_reducible refine And.intro (by first | kernel_rfl | decide) ?_
                        refine Wp_callP (c50 N _ _ _ h5827) (by kernel_rfl) rfl rfl rfl rfl (by decide) ?_
                        have hh := getB_some h5847; clear h5847; obtain ⟨b5829, h5828, h5847⟩ := hh
                        have hh := brn_some h5847; clear h5847; rcases hh with ⟨h5830, h5847⟩ | ⟨h5830, h5847⟩
                        · refine W_sound tab_ok mixed 9 _ _ _ ?_
                          simp -implicitDefEqProofs only [go_sem, ne_eq, not_false_eq_true, Nat.reduceBEq, Nat.reduceAdd, Nat.reduceSub, Nat.reduceMul, Nat.reduceLT, Nat.reduceLeDiff, Int.reduceLE, Int.reduceLT, Int.reduceToNat, Int.reduceBEq, Int.reduceBNe, Int.le_refl, Nat.le_refl, decide_true, decide_false, Int.cast_ofNat_Int, ↓reduceIte, h5513, g5515, h5518, h5523, h5526, h5529, h5533, h5536, h5539, h5541, h5542, h5543, h5544, h5650, h5794, h5828, h5830]
                          repeat with_reducible refine And.intro (by first | kernel_rfl | decide) ?_
                          obtain rfl := Option.some.inj h5847
                          (try dsimp only at h5844)
                          obtain rfl := Option.some.inj h5844
                          exact finC [(2, .v (.bool false))] [(2, .v (.bool false))] (by simp [leE, lk_cons]) (.cons _ _ _ _ _ (.v _ _ (.refl _)) .nil) (by rfl) (by simp [leE, lk_cons]) (by decide) (by decide) rfl (by simp only [go_sem, ne_eq, not_false_eq_true, Nat.reduceBEq, Nat.reduceAdd, Nat.reduceSub, Nat.reduceMul, Nat.reduceLT, Nat.reduceLeDiff, Int.reduceLE, Int.reduceLT, Int.reduceToNat, Int.reduceBEq, Int.reduceBNe, Int.le_refl, Nat.le_refl, decide_true, decide_false, Int.cast_ofNat_Int, ↓reduceIte, resQ_tmp, resQ_cell, resQ_nil, retD_one, retD_two, retD_three, retD_none]; try simp [R.val, retD_one, retD_two, retD_three, retD_none])
                        · refine W_sound tab_ok mixed 9 _ _ _ ?_
                          simp -implicitDefEqProofs only [go_sem, ne_eq, not_false_eq_true, Nat.reduceBEq, Nat.reduceAdd, Nat.reduceSub, Nat.reduceMul, Nat.reduceLT, Nat.reduceLeDiff, Int.reduceLE, Int.reduceLT, Int.reduceToNat, Int.reduceBEq, Int.reduceBNe, Int.le_refl, Nat.le_refl, decide_true, decide_false, Int.cast_ofNat_Int, ↓reduceIte, h5513, g5515, h5518, h5523, h5526, h5529, h5533, h5536, h5539, h5541, h5542, h5543, h5544, h5650, h5794, h5828, h5830]
                          repeat with_reducible refine And.intro (by first | kernel_rfl | decide) ?_
                          exact cutQ _ ((Wk_le (.cons _ _ _ _ _ (.refl _) (.cons _ _ _ _ _ (.refl _) (.cons _ _ _ _ _ (.refl _) (.cons _ _ _ _ _ (.refl _) (.cons _ _ _ _ _ (.refl _) (.cons _ _ _ _ _ (.refl _) (.cons _ _ _ _ _ (.refl _) (.cons _ _ _ _ _ (.refl _) (.cons _ _ _ _ _ (.refl _) (.cons _ _ _ _ _ (.refl _) (.cons _ _ _ _ _ (.refl _) (.cons _ _ _ _ _ (.refl _) (.cons _ _ _ _ _ (.refl _) (.cons _ _ _ _ _ (.refl _) (.cons _ _ _ _ _ (.dead _) (.cons _ _ _ _ _ (.dead _) (.cons _ _ _ _ _ (.dead _) (.cons _ _ _ _ _ (.dead _) (.cons _ _ _ _ _ (.refl _) (.cons _ _ _ _ _ (.refl _) (.cons _ _ _ _ _ (.refl _) (.cons _ _ _ _ _ (.refl _) (.cons _ _ _ _ _ (.refl _) (.cons _ _ _ _ _ (.refl _) (.cons _ _ _ _ _ (.refl _) (.cons _ _ _ _ _ (.refl _) (.cons _ _ _ _ _ (.refl _) (.cons _ _ _ _ _ (.refl _) (.cons _ _ _ _ _ (.refl _) (.cons _ _ _ _ _ (.refl _) (.cons _ _ _ _ _ (.refl _) (.cons _ _ _ _ _ (.refl _) (.cons _ _ _ _ _ (.refl _) (.cons _ _ _ _ _ (.refl _) (.cons _ _ _ _ _ (.refl _) (.cons _ _ _ _ _ (.refl _) (.cons _ _ _ _ _ (.refl _) (.cons _ _ _ _ _ (.refl _) (.cons _ _ _ _ _ (.refl _) (.cons _ _ _ _ _ (.refl _) (.cons _ _ _ _ _ (.refl _) (.cons _ _ _ _ _ (.refl _) (.cons _ _ _ _ _ (.refl _) (.cons _ _ _ _ _ (.refl _) (.cons _ _ _ _ _ (.refl _) (.cons _ _ _ _ _ (.dead _) .nil)))))))))))))))))))))))))))))))))))))))))))))) (OLe.refl _)).trans (cmpS_ok (st' := ⟨[], [(0, .dead), (1, .dead), (2, .dead), (3, .v (.lst false n5519 c5520)), (4, .v (.lst false n5527 c5528)), (5, .dead), (6, .dead), (7, .dead), (8, .dead), (9, .dead), (10, .dead), (11, .dead), (12, .dead), (13, .dead), (14, .dead), (15, .dead), (16, .dead), (17, .dead), (18, .dead), (19, .dead), (20, .dead), (21, .dead), (52, .dead), (53, .dead), (54, .dead), (55, .dead), (56, .dead), (88, .dead), (90, .dead), (91, .dead), (92, .dead), (93, .dead), (146, .dead), (149, .v (.int .i64 ((n5519 : Nat) : Int))), (150, .v (.int .i64 (IntKind.i64.wrap (x5649 + 1)))), (151, .dead), (153, .dead), (154, .dead), (155, .dead), (156, .dead), (186, .dead), (187, .dead), (200, .dead), (220, .dead), (255, .dead), (280, .dead)], [], 0, []⟩) (by kernel_rfl))) ⟨n, Nat.lt_succ_self n, _, h5847, rfl⟩
                  · refine W_sound tab_ok mixed 7 _ _ _ ?_
                    simp -implicitDefEqProofs only [go_sem, ne_eq, not_false_eq_true, Nat.reduceBEq, Nat.reduceAdd, Nat.reduceSub, Nat.reduceMul, Nat.reduceLT, Nat.reduceLeDiff, Int.reduceLE, Int.reduceLT, Int.reduceToNat, Int.reduceBEq, Int.reduceBNe, Int.le_refl, Nat.le_refl, decide_true, decide_false, Int.cast_ofNat_Int, ↓reduceIte, h5513, g5515, h5518, h5523, h5526, h5529, h5533, h5536, h5539, h5541, h5542, h5543, h5544, h5650]
                    repeat with_reducible refine And.intro (by first | kernel_rfl | decide) ?_
                    obtain rfl := Option.some.inj h5843
                    exact cutQ _ ((Wk_le (.cons _ _ _ _ _ (.refl _) (.cons _ _ _ _ _ (.refl _) (.cons _ _ _ _ _ (.refl _) (.cons _ _ _ _ _ (.dead _) (.cons _ _ _ _ _ (.dead _) (.cons _ _ _ _ _ (.refl _) (.cons _ _ _ _ _ (.refl _) (.cons _ _ _ _ _ (.refl _) (.cons _ _ _ _ _ (.refl _) (.cons _ _ _ _ _ (.refl _) (.cons _ _ _ _ _ (.refl _) (.cons _ _ _ _ _ (.refl _) (.cons _ _ _ _ _ (.refl _) (.cons _ _ _ _ _ (.refl _) (.cons _ _ _ _ _ (.refl _) (.cons _ _ _ _ _ (.refl _) (.cons _ _ _ _ _ (.refl _) (.cons _ _ _ _ _ (.refl _) (.cons _ _ _ _ _ (.refl _) (.cons _ _ _ _ _ (.refl _) (.cons _ _ _ _ _ (.refl _) (.cons _ _ _ _ _ (.refl _) (.cons _ _ _ _ _ (.refl _) (.cons _ _ _ _ _ (.refl _) (.cons _ _ _ _ _ (.refl _) (.cons _ _ _ _ _ (.refl _) (.cons _ _ _ _ _ (.refl _) (.cons _ _ _ _ _ (.refl _) (.cons _ _ _ _ _ (.refl _) (.cons _ _ _ _ _ (.refl _) (.cons _ _ _ _ _ (.refl _) (.cons _ _ _ _ _ (.refl _) (.cons _ _ _ _ _ (.refl _) (.cons _ _ _ _ _ (.dead _) (.cons _ _ _ _ _ (.dead _) (.cons _ _ _ _ _ (.dead _) (.cons _ _ _ _ _ (.refl _) (.cons _ _ _ _ _ (.refl _) (.cons _ _ _ _ _ (.refl _) (.cons _ _ _ _ _ (.refl _) (.cons _ _ _ _ _ (.refl _) (.cons _ _ _ _ _ (.refl _) (.cons _ _ _ _ _ (.refl _) (.cons _ _ _ _ _ (.refl _) (.cons _ _ _ _ _ (.refl _) (.cons _ _ _ _ _ (.refl _) .nil)))))))))))))))))))))))))))))))))))))))))))))) (OLe.refl _)).trans (cmpS_ok (st' := ⟨[], [(0, .dead), (1, .dead), (2, .dead), (3, .dead), (4, .dead), (5, .dead), (6, .dead), (7, .dead), (8, .dead), (9, .dead), (10, .dead), (11, .dead), (12, .dead), (13, .dead), (14, .dead), (15, .dead), (16, .dead), (17, .dead), (18, .dead), (19, .dead), (20, .dead), (21, .dead), (52, .dead), (53, .dead), (54, .dead), (55, .dead), (56, .dead), (88, .dead), (90, .dead), (91, .dead), (92, .dead), (93, .dead), (146, .dead), (149, .dead), (150, .dead), (151, .dead), (153, .dead), (154, .dead), (155, .dead), (156, .dead), (186, .dead), (187, .dead), (200, .dead), (220, .dead), (255, .dead), (280, .dead)], [], 0, []⟩) (by kernel_rfl))) ⟨rfl, rfl⟩
              · rintro _ ⟨rfl, rfl⟩
                (try dsimp only at h5844)
                have hh := bnd'_some h5844; clear h5844; obtain ⟨p5832, h5833, h5844⟩ := hh
                refine W_sound tab_ok mixed 2 _ _ _ ?_
                simp -implicitDefEqProofs only [go_sem, ne_eq, not_false_eq_true, Nat.reduceBEq, Nat.reduceAdd, Nat.reduceSub, Nat.reduceMul, Nat.reduceLT, Nat.reduceLeDiff, Int.reduceLE, Int.reduceLT, Int.reduceToNat, Int.reduceBEq, Int.reduceBNe, Int.le_refl, Nat.le_refl, decide_true, decide_false, Int.cast_ofNat_Int, ↓reduceIte, h5513, g5515, h5518, h5523, h5526, h5529, h5533, h5536, h5539, h5541, h5542, h5543, h5544]
                repeat with_reducible refine And.intro (by first | kernel_rfl | decide) ?_
                refine Wp_callP (c15 N  _ h5833) (by kernel_rfl) rfl rfl rfl rfl (by decide) ?_
                have hh := getB_some h5844; clear h5844; obtain ⟨b5835, h5834, h5844⟩ := hh
                refine W_sound tab_ok mixed 4 _ _ _ ?_
                simp -implicitDefEqProofs only [go_sem, ne_eq, not_false_eq_true, Nat.reduceBEq, Nat.reduceAdd, Nat.reduceSub, Nat.reduceMul, Nat.reduceLT, Nat.reduceLeDiff, Int.reduceLE, Int.reduceLT, Int.reduceToNat, Int.reduceBEq, Int.reduceBNe, Int.le_refl, Nat.le_refl, decide_true, decide_false, Int.cast_ofNat_Int, ↓reduceIte, h5513, g5515, h5518, h5523, h5526, h5529, h5533, h5536, h5539, h5541, h5542, h5543, h5544, h5834]
                repeat with_reducible refine And.intro (by first | kernel_rfl | decide) ?_
                obtain rfl := Option.some.inj h5844
                exact finC [(2, .v (.bool b5835))] [(2, .v (.bool b5835))] (by simp [leE, lk_cons]) (.cons _ _ _ _ _ (.v _ _ (.refl _)) .nil) (by rfl) (by simp [leE, lk_cons]) (by decide) (by decide) rfl (by simp only [go_sem, ne_eq, not_false_eq_true, Nat.reduceBEq, Nat.reduceAdd, Nat.reduceSub, Nat.reduceMul, Nat.reduceLT, Nat.reduceLeDiff, Int.reduceLE, Int.reduceLT, Int.reduceToNat, Int.reduceBEq, Int.reduceBNe, Int.le_refl, Nat.le_refl, decide_true, decide_false, Int.cast_ofNat_Int, ↓reduceIte, resQ_tmp, resQ_cell, resQ_nil, retD_one, retD_two, retD_three, retD_none]; try simp [R.val, retD_one, retD_two, retD_three, retD_none])
end Go.Proofs.Ytgnphlpoofaojaa
