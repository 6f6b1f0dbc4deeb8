/-
  The least list that has a property: looked for among all of them in any order, or in order.
-/
import Derived.Test.YtnponojgpkbagaaDoorSFndA
import Derived.Test.YtnponojgpkbagaaDoorSV35
import Derived.Test.YtnponojgpkbagaaDoorSV36
set_option linter.unusedSimpArgs false
set_option linter.unusedVariables false
namespace Go.Proofs.YtnponojgpkbagaaDoor
open Go.V
open Nat renaming reduceBEq → qa, reduceAdd → qb, reduceSub → qc, reduceMul → qd, reduceLT → qe, reduceLeDiff → qf
open Int renaming reduceLE → qg, reduceLT → qh, reduceToNat → qi, reduceBEq → qj, reduceBNe → qk
set_option maxRecDepth 100000
set_option maxHeartbeats 4000000
set_option linter.unusedSimpArgs false
set_option linter.unusedVariables false
attribute [local go_sem] tl1 tl2 tl3 tl4 tl5 tl9 tl17 tl21 tl22 tl23 tl24 tl25 tl26 tl27 tl28 tl29 tl31 tl32 tl34 tl35 tl36 tl37 tl38 tl39 tl40 tl41 tl42 tl43 tl44 tl45 tl47 tl48 tl49 tl50 tl51 tl52 tl53 tl54 tl55 tl56 tl57 tl58 tl59 tl60 tl61 tl62 tl63 tl64 tl65 tl66 tl67 tl68 tl69 tl70 tl71 tl72 tl73 tl74 tl75 tl76 tl77 tl78 tl79 tl80 tl81 tl82 tl83 tl84 tl85 tl86 tl87 tl88 tl89 tl90 tl92 tl94 tl95 tl96 tl97 tl98 tl99 tl100 tl101 tl102 tl103 tl104 tl105 tl106 tl107 tl108 tl109 tl110 tl111 tl112 tl113 tl114 tl115 tl116 tl118 tl119 tl121 tl122 tl123 tl124 tl125 tl126 tl127 tl128 tl129 tl131 tl133 tl134 tl135 tl136 tl142 tl146
def m100 (N : Nat) (b4649 : Bool) : Option ((PV × Bool)) :=
  some ((.bool false), true)
theorem c100 (N : Nat) (b4649 : Bool) (r : PV) (b4651 : Bool) (h : m100 N b4649 = some (r, b4651)) : V.Fn Tryd.prog 100 1 [.v .nl, .ptr 0 0] [(0, .p [(.bool b4649)])] (fun d ob' => d = .v r ∧ ob' = [(0, .p [(.bool b4651)])]) := by
  unfold m100 at h
  refine Fn_of (sz := 4) tab_ok [0, 1, 3] [.tmp 3] Tryd.func100 rfl rfl rfl (by simp) ?_
  simp only [initSt, initEnv, List.map_cons, List.map_nil, List.getD_cons_zero, List.getD_cons_succ, List.getD_nil]
  refine W_sound tab_ok mixed 14 _ _ _ ?_
  simp -implicitDefEqProofs only [go_sem, qa, qb, qc, qd, qe, qf, qg, qh, qi, qj, qk, ↓reduceIte]
  repeat with_reducible refine ⟨by first | kernel_rfl | decide, ?_⟩
  simp only [Option.some.injEq, Prod.mk.injEq] at h; obtain ⟨rfl, rfl⟩ := h
  exact finD (e2 := [(0, .dead), (1, .dead), (3, .v (.bool false))]) (ob2 := [(0, .p [(.bool true)])]) (st' := ⟨[], [(0, .dead), (1, .dead), (3, .v (.bool false))], [(0, .p [(.bool true)])], 1, []⟩) (.k (.k (.r .nil))) (.cons _ _ _ _ _ (DLes.refl _) .nil) (by kernel_rfl) (by simp only [go_sem, qa, qb, qc, qd, qe, qf, qg, qh, qi, qj, qk, ↓reduceIte, resQ_tmp, resQ_cell, resQ_nil, retD_one, retD_two, retD_three, retD_none]; try simp [R.val, retD_one, retD_two, retD_three, retD_none])
def m100_2 (N : Nat) (p4715 : PV) (b4716 : Bool) : Option ((PV × Bool)) :=
  getL p4715 fun n4719 c4720 =>
  some ((.bool false), true)
theorem c100_2 (N : Nat) (p4715 : PV) (b4716 : Bool) (r : PV) (b4721 : Bool) (h : m100_2 N p4715 b4716 = some (r, b4721)) : V.Fn Tryd.prog 100 1 [.v p4715, .ptr 0 0] [(0, .p [(.bool b4716)])] (fun d ob' => d = .v r ∧ ob' = [(0, .p [(.bool b4721)])]) := by
  unfold m100_2 at h
  refine Fn_of (sz := 4) tab_ok [0, 1, 3] [.tmp 3] Tryd.func100 rfl rfl rfl (by simp) ?_
  simp only [initSt, initEnv, List.map_cons, List.map_nil, List.getD_cons_zero, List.getD_cons_succ, List.getD_nil]
  have hh := getL_some h; clear h; obtain ⟨n4719, c4720, h4718, h⟩ := hh
  refine W_sound tab_ok mixed 14 _ _ _ ?_
  simp -implicitDefEqProofs only [go_sem, qa, qb, qc, qd, qe, qf, qg, qh, qi, qj, qk, ↓reduceIte, h4718]
  repeat with_reducible refine ⟨by first | kernel_rfl | decide, ?_⟩
  simp only [Option.some.injEq, Prod.mk.injEq] at h; obtain ⟨rfl, rfl⟩ := h
  exact finD (e2 := [(0, .dead), (1, .dead), (3, .v (.bool false))]) (ob2 := [(0, .p [(.bool true)])]) (st' := ⟨[], [(0, .dead), (1, .dead), (3, .v (.bool false))], [(0, .p [(.bool true)])], 1, []⟩) (.k (.k (.r .nil))) (.cons _ _ _ _ _ (DLes.refl _) .nil) (by kernel_rfl) (by simp only [go_sem, qa, qb, qc, qd, qe, qf, qg, qh, qi, qj, qk, ↓reduceIte, resQ_tmp, resQ_cell, resQ_nil, retD_one, retD_two, retD_three, retD_none]; try simp [R.val, retD_one, retD_two, retD_three, retD_none])
def m99_6_L0 (N : Nat) (rec : PV → PV → PV → Bool → PV → PV → Option ((PV × PV × Bool × PV))) (p4778 : PV) (n4784 : Nat) (c4785 : List PV) (p4787 : PV) (p4788 : PV) (p4789 : PV) (p4790 : PV) (p4791 : PV) (n4813 : Nat) (c4814 : List PV) : Nat → Int → PV → Bool → PV → Option (((PV × PV × Bool × PV) ⊕ (PV × Bool × PV)))
  | 0, _, _, _, _ => none
  | n + 1, x4847, p4848, b4849, p4850 =>
    brn (decide (x4847 < ((n4813 : Nat) : Int))) (
      grd (0 ≤ x4847 ∧ x4847 < ((n4813 : Nat) : Int)) <|
      grd (2 ≤ List.length (List.drop ((Int.toNat x4847) * 2) c4814)) <|
      getA2 (.agg (List.take 2 (List.drop ((Int.toNat x4847) * 2) c4814))) fun p4856 p4857 =>
      bnd' (m71 N (.agg [p4787, p4788, p4789, p4790, p4791]) (.agg [p4856, p4857])) fun p4858 =>
      getB p4858 fun b4861 =>
      brn b4861 (
        m99_6_L0 N rec p4778 n4784 c4785 p4787 p4788 p4789 p4790 p4791 n4813 c4814 n (IntKind.i64.wrap (x4847 + 1)) p4848 b4849 p4850) (
        grd (((n4784 : Nat) : Int) ≤ ((n4784 : Nat) : Int)) <|
        grd (List.length c4785 = n4784) <|
        grd ((n4784 + 1) ≤ 1099511627776) <|
        bnd' (m98 N (.agg [p4787, p4788, p4789, p4790, p4791]) (.agg [p4856, p4857])) fun p4866 =>
        getA5 p4866 fun p4869 p4870 p4871 p4872 p4873 =>
        bnd' (rec (.lst false (n4784 + 1) (c4785 ++ [(.int .i64 x4847)])) (.agg [p4869, p4870, p4871, p4872, p4873]) p4848 b4849 p4778 p4850) fun (p4874, p4876, b4877, p4878) =>
        getB p4874 fun b4880 =>
        brn b4880 (
          m99_6_L0 N rec p4778 n4784 c4785 p4787 p4788 p4789 p4790 p4791 n4813 c4814 n (IntKind.i64.wrap (x4847 + 1)) p4876 b4877 p4878) (
          some (.inl ((.bool false), p4876, b4877, p4878))))) (
      some (.inr (p4848, b4849, p4850)))
def m99_6 (N : Nat) : Nat → PV → PV → PV → Bool → PV → PV → Option ((PV × PV × Bool × PV))
  | 0, _, _, _, _, _, _ => none
  | fu + 1, p4774, p4775, p4776, b4777, p4778, p4779 =>
    getL p4774 fun n4784 c4785 =>
    getA5 p4775 fun p4787 p4788 p4789 p4790 p4791 =>
    getL p4776 fun n4793 c4794 =>
    brn (((n4784 : Nat) : Int) == ((n4793 : Nat) : Int)) (
      bnd' (m100_2 N (.lst false n4784 c4785) b4777) fun (p4796, b4798) =>
      getB p4796 fun b4800 =>
      some ((.bool b4800), (.lst false n4793 c4794), b4798, p4779)) (
      getL p4779 fun n4802 c4803 =>
      grd (0 ≤ ((n4784 : Nat) : Int) ∧ ((n4784 : Nat) : Int) < ((n4793 : Nat) : Int)) <|
      grd (0 < List.length (List.drop n4784 c4794)) <|
      getI .i64 (gp c4794 n4784) fun x4808 =>
      grd (0 ≤ x4808 ∧ x4808 < ((n4802 : Nat) : Int)) <|
      grd (0 < List.length (List.drop (Int.toNat x4808) c4803)) <|
      getL (gp c4803 (Int.toNat x4808)) fun n4813 c4814 =>
      bnd' (m99_6_L0 N (m99_6 N fu) p4778 n4784 c4785 p4787 p4788 p4789 p4790 p4791 n4813 c4814 N 0 (.lst false n4793 c4794) b4777 (.lst false n4802 c4803)) fun o =>
      match o with
      | .inl p4882 =>
        some p4882
      | .inr (p4883, b4884, p4885) =>
        some ((.bool true), p4883, b4884, p4885))
theorem c99_6 (N : Nat) : ∀ (fu : Nat) (p4774 : PV) (p4775 : PV) (p4776 : PV) (b4777 : Bool) (p4778 : PV) (p4779 : PV) (r : PV) (p4889 : PV) (b4890 : Bool) (p4891 : PV) (h : m99_6 N fu p4774 p4775 p4776 b4777 p4778 p4779 = some (r, p4889, b4890, p4891)), V.Fn Tryd.prog 99 5 [.v p4774, .v p4775, .ptr 0 0, .ptr 1 0, .ptr 3 0, .ptr 4 0] [(0, .p [p4776]), (1, .r [.fn 100 [.ptr 2 0]]), (2, .p [(.bool b4777)]), (3, .p [p4778, p4779]), (4, .r [.fn 99 [.ptr 0 0, .ptr 1 0, .ptr 3 0, .ptr 4 0]])] (fun d ob' => d = .v r ∧ ob' = [(0, .p [p4889]), (1, .r [.fn 100 [.ptr 2 0]]), (2, .p [(.bool b4890)]), (3, .p [p4778, p4891]), (4, .r [.fn 99 [.ptr 0 0, .ptr 1 0, .ptr 3 0, .ptr 4 0]])]) := by
  intro fu
  induction fu with
  | zero => intro p4774 p4775 p4776 b4777 p4778 p4779 r p4889 b4890 p4891 h; cases h
  | succ fu ih =>
    intro p4774 p4775 p4776 b4777 p4778 p4779 r p4889 b4890 p4891 h
    rw [m99_6] at h
    refine Fn_of (sz := 55) tab_ok [0, 1, 2, 3, 4, 5, 7, 8, 9, 10, 11, 17, 28, 29, 30, 31, 53] [.tmp 8] Tryd.func99 rfl rfl rfl (by simp) ?_
    simp only [initSt, initEnv, List.map_cons, List.map_nil, List.getD_cons_zero, List.getD_cons_succ, List.getD_nil]
    have hh := getL_some h; clear h; obtain ⟨n4784, c4785, h4783, h⟩ := hh
    have hh := getA5_some h; clear h; obtain ⟨p4787, p4788, p4789, p4790, p4791, h4786, h⟩ := hh
    have hh := getL_some h; clear h; obtain ⟨n4793, c4794, h4792, h⟩ := hh
    have hh := brn_some h; clear h; rcases hh with ⟨h4795, h⟩ | ⟨h4795, h⟩
    · have hh := bnd'_some h; clear h; obtain ⟨⟨p4796, b4798⟩, h4797, h⟩ := hh
      (try dsimp only at h)
      refine W_sound tab_ok mixed 24 _ _ _ ?_
      simp -implicitDefEqProofs only [go_sem, qa, qb, qc, qd, qe, qf, qg, qh, qi, qj, qk, ↓reduceIte, h4783, h4786, h4792, h4795]
      repeat with_reducible refine ⟨by first | kernel_rfl | decide, ?_⟩
      refine Wp_callD [2] (c100_2 N _ _ _ _ h4797) rfl rfl rfl (by first | rfl | (simp only [go_sem, qa, qb, qc, qd, qe, qf, qg, qh, qi, qj, qk, ↓reduceIte, h4783, h4786, h4792, h4795] <;> rfl)) rfl (by kernel_rfl) ?_
      have hh := getB_some h; clear h; obtain ⟨b4800, h4799, h⟩ := hh
      refine W_sound tab_ok mixed 4 _ _ _ ?_
      simp -implicitDefEqProofs only [go_sem, qa, qb, qc, qd, qe, qf, qg, qh, qi, qj, qk, ↓reduceIte, h4783, h4786, h4792, h4795, h4799]
      repeat with_reducible refine ⟨by first | kernel_rfl | decide, ?_⟩
      simp only [Option.some.injEq, Prod.mk.injEq] at h; obtain ⟨rfl, rfl, rfl, rfl⟩ := h
      exact finD (e2 := [(0, .dead), (1, .dead), (2, .dead), (3, .dead), (4, .dead), (5, .dead), (7, .dead), (8, .v (.bool b4800)), (9, .dead), (10, .dead), (11, .dead), (17, .dead), (28, .dead), (29, .dead), (30, .dead), (31, .dead), (53, .dead)]) (ob2 := [(0, .p [(.lst false n4793 c4794)]), (1, .r [.fn 100 [.ptr 2 0]]), (3, .p [p4778, p4779]), (4, .r [.fn 99 [.ptr 0 0, .ptr 1 0, .ptr 3 0, .ptr 4 0]]), (12, .p [p4787, p4788, p4789, p4790, p4791]), (2, .p [(.bool b4798)])]) (st' := ⟨[], [(0, .dead), (1, .dead), (2, .dead), (3, .dead), (4, .dead), (5, .dead), (7, .dead), (8, .v (.bool b4800)), (9, .dead), (10, .dead), (11, .dead), (17, .dead), (28, .dead), (29, .dead), (30, .dead), (31, .dead), (53, .dead)], [(0, .p [(.lst false n4793 c4794)]), (1, .r [.fn 100 [.ptr 2 0]]), (2, .p [(.bool b4798)]), (3, .p [p4778, p4779]), (4, .r [.fn 99 [.ptr 0 0, .ptr 1 0, .ptr 3 0, .ptr 4 0]])], 5, []⟩) (.k (.k (.k (.k (.k (.k (.k (.r (.k (.r (.r (.k (.r (.r (.r (.r (.r .nil))))))))))))))))) (.cons _ _ _ _ _ (DLes.refl _) (.cons _ _ _ _ _ (DLes.refl _) (.cons _ _ _ _ _ (DLes.refl _) (.cons _ _ _ _ _ (DLes.refl _) (.cons _ _ _ _ _ (DLes.refl _) (.cons _ _ _ _ _ (DLes.refl _) .nil)))))) (by kernel_rfl) (by simp only [go_sem, qa, qb, qc, qd, qe, qf, qg, qh, qi, qj, qk, ↓reduceIte, resQ_tmp, resQ_cell, resQ_nil, retD_one, retD_two, retD_three, retD_none]; try simp [R.val, retD_one, retD_two, retD_three, retD_none])
    · have hh := getL_some h; clear h; obtain ⟨n4802, c4803, h4801, h⟩ := hh
      have hh := grd_some h; clear h; obtain ⟨⟨g4804, g4805⟩, h⟩ := hh
      have hh := grd_some h; clear h; obtain ⟨g4806, h⟩ := hh
      have hh := getI_some h; clear h; obtain ⟨x4808, h4807, h⟩ := hh
      have hh := grd_some h; clear h; obtain ⟨⟨g4809, g4810⟩, h⟩ := hh
      have hh := grd_some h; clear h; obtain ⟨g4811, h⟩ := hh
      have hh := getL_some h; clear h; obtain ⟨n4813, c4814, h4812, h⟩ := hh
      refine W_sound tab_ok mixed 35 _ _ _ ?_
      simp -implicitDefEqProofs only [go_sem, qa, qb, qc, qd, qe, qf, qg, qh, qi, qj, qk, ↓reduceIte, h4783, h4786, h4792, h4795, h4801, g4804, g4805, g4806, h4807, g4809, g4810, g4811, h4812]
      repeat with_reducible refine ⟨by first | kernel_rfl | decide, ?_⟩
      have hh := bnd'_some h; clear h; obtain ⟨o4892, h4893, h4894⟩ := hh
      refine Wp_cut (fun s => ∃ p4883, ∃ b4884, ∃ p4885, (.inr (p4883, b4884, p4885)) = o4892 ∧ s = ⟨[], [(0, .dead), (1, .dead), (2, .dead), (3, .dead), (4, .dead), (5, .dead), (7, .dead), (8, .dead), (9, .dead), (10, .dead), (11, .dead), (17, .dead), (28, .dead), (29, .dead), (30, .dead), (31, .dead), (53, .dead)], [(0, .p [p4883]), (1, .r [.fn 100 [.ptr 2 0]]), (2, .p [(.bool b4884)]), (3, .p [p4778, p4885]), (4, .r [.fn 99 [.ptr 0 0, .ptr 1 0, .ptr 3 0, .ptr 4 0]])], 5, []⟩) ?_ ?_
      · refine Wp_block ?_
        refine Wp_loopG (fun n s => ∃ x4847, ∃ p4848, ∃ b4849, ∃ p4850, m99_6_L0 N (m99_6 N fu) p4778 n4784 c4785 p4787 p4788 p4789 p4790 p4791 n4813 c4814 n x4847 p4848 b4849 p4850 = some o4892 ∧ s = ⟨[], [(0, .v (.lst false n4784 c4785)), (1, .dead), (2, .dead), (3, .dead), (4, .dead), (5, .ptr 4 0), (7, .ptr 5 0), (8, .dead), (9, .v (.int .i64 ((n4784 : Nat) : Int))), (10, .dead), (11, .dead), (17, .dead), (28, .v (.lst false n4813 c4814)), (29, .v (.int .i64 ((n4813 : Nat) : Int))), (30, .v (.int .i64 x4847)), (31, .dead), (53, .dead)], [(0, .p [p4848]), (1, .r [.fn 100 [.ptr 2 0]]), (2, .p [(.bool b4849)]), (3, .p [p4778, p4850]), (4, .r [.fn 99 [.ptr 0 0, .ptr 1 0, .ptr 3 0, .ptr 4 0]]), (5, .p [p4787, p4788, p4789, p4790, p4791])], 6, []⟩) N _ ((Wk_le (.r (.k (.k (.k (.k (.r (.r (.k (.r (.r (.r (.k (.r (.r (.r (.r (.r .nil))))))))))))))))) (OLe.refl _)).trans (cmpS_ok (st' := ⟨[], [(0, .v (.lst false n4784 c4785)), (1, .dead), (2, .dead), (3, .dead), (4, .dead), (5, .ptr 4 0), (7, .ptr 5 0), (8, .dead), (9, .v (.int .i64 ((n4784 : Nat) : Int))), (10, .dead), (11, .dead), (17, .dead), (28, .v (.lst false n4813 c4814)), (29, .v (.int .i64 ((n4813 : Nat) : Int))), (30, .v (.int .i64 0)), (31, .dead), (53, .dead)], [(0, .p [(.lst false n4793 c4794)]), (1, .r [.fn 100 [.ptr 2 0]]), (2, .p [(.bool b4777)]), (3, .p [p4778, (.lst false n4802 c4803)]), (4, .r [.fn 99 [.ptr 0 0, .ptr 1 0, .ptr 3 0, .ptr 4 0]]), (5, .p [p4787, p4788, p4789, p4790, p4791])], 6, []⟩) (by kernel_rfl))) ⟨_, _, _, _, h4893, rfl⟩ ?_
        clear h4893
        rintro n _ ⟨x4847, p4848, b4849, p4850, h4893, rfl⟩
        cases n with
        | zero => cases h4893
        | succ n =>
          rw [m99_6_L0] at h4893
          have hh := brn_some h4893; clear h4893; rcases hh with ⟨h4851, h4893⟩ | ⟨h4851, h4893⟩
          · have hh := grd_some h4893; clear h4893; obtain ⟨⟨g4852, g4853⟩, h4893⟩ := hh
            have hh := grd_some h4893; clear h4893; obtain ⟨g4854, h4893⟩ := hh
            have hh := getA2_some h4893; clear h4893; obtain ⟨p4856, p4857, h4855, h4893⟩ := hh
            injection h4855 with h4855
            have hh := bnd'_some h4893; clear h4893; obtain ⟨p4858, h4859, h4893⟩ := hh
            refine W_sound tab_ok mixed 22 _ _ _ ?_
            simp -implicitDefEqProofs only [go_sem, qa, qb, qc, qd, qe, qf, qg, qh, qi, qj, qk, ↓reduceIte, h4783, h4786, h4792, h4795, h4801, g4804, g4805, g4806, h4807, g4809, g4810, g4811, h4812, h4851, g4852, g4853, g4854, h4855]
            repeat with_reducible refine ⟨by first | kernel_rfl | decide, ?_⟩
            refine Wp_callP (c71 N _ _ _ h4859) (by kernel_rfl) rfl rfl rfl rfl (by decide) ?_
            have hh := getB_some h4893; clear h4893; obtain ⟨b4861, h4860, h4893⟩ := hh
            have hh := brn_some h4893; clear h4893; rcases hh with ⟨h4862, h4893⟩ | ⟨h4862, h4893⟩
            · refine W_sound tab_ok mixed 24 _ _ _ ?_
              simp -implicitDefEqProofs only [go_sem, qa, qb, qc, qd, qe, qf, qg, qh, qi, qj, qk, ↓reduceIte, h4783, h4786, h4792, h4795, h4801, g4804, g4805, g4806, h4807, g4809, g4810, g4811, h4812, h4851, g4852, g4853, g4854, h4855, h4860, h4862]
              repeat with_reducible refine ⟨by first | kernel_rfl | decide, ?_⟩
              exact cutQ _ ((Wk_le (.r (.r (.r (.r (.r (.r (.r (.r (.r (.k (.k (.r (.r (.r (.r (.k (.k .nil))))))))))))))))) (OLe.refl _)).trans (cmpS_ok (st' := ⟨[], [(0, .v (.lst false n4784 c4785)), (1, .dead), (2, .dead), (3, .dead), (4, .dead), (5, .ptr 4 0), (7, .ptr 5 0), (8, .dead), (9, .v (.int .i64 ((n4784 : Nat) : Int))), (10, .dead), (11, .dead), (17, .dead), (28, .v (.lst false n4813 c4814)), (29, .v (.int .i64 ((n4813 : Nat) : Int))), (30, .v (.int .i64 (IntKind.i64.wrap (x4847 + 1)))), (31, .dead), (53, .dead)], [(0, .p [p4848]), (1, .r [.fn 100 [.ptr 2 0]]), (2, .p [(.bool b4849)]), (3, .p [p4778, p4850]), (4, .r [.fn 99 [.ptr 0 0, .ptr 1 0, .ptr 3 0, .ptr 4 0]]), (5, .p [p4787, p4788, p4789, p4790, p4791])], 6, []⟩) (by kernel_rfl))) ⟨n, Nat.lt_succ_self n, _, _, _, _, h4893, rfl⟩
            · have hh := grd_some h4893; clear h4893; obtain ⟨g4863, h4893⟩ := hh
              have hh := grd_some h4893; clear h4893; obtain ⟨g4864, h4893⟩ := hh
              have hh := grd_some h4893; clear h4893; obtain ⟨g4865, h4893⟩ := hh
              have hh := bnd'_some h4893; clear h4893; obtain ⟨p4866, h4867, h4893⟩ := hh
              refine W_sound tab_ok mixed 12 _ _ _ ?_
              simp -implicitDefEqProofs only [go_sem, qa, qb, qc, qd, qe, qf, qg, qh, qi, qj, qk, ↓reduceIte, h4783, h4786, h4792, h4795, h4801, g4804, g4805, g4806, h4807, g4809, g4810, g4811, h4812, h4851, g4852, g4853, g4854, h4855, h4860, h4862, g4863, g4864, g4865]
              repeat with_reducible refine ⟨by first | kernel_rfl | decide, ?_⟩
              refine Wp_callP (c98 N _ _ _ h4867) (by kernel_rfl) rfl rfl rfl rfl (by decide) ?_
              have hh := getA5_some h4893; clear h4893; obtain ⟨p4869, p4870, p4871, p4872, p4873, h4868, h4893⟩ := hh
              have hh := bnd'_some h4893; clear h4893; obtain ⟨⟨p4874, p4876, b4877, p4878⟩, h4875, h4893⟩ := hh
              (try dsimp only at h4893)
              (try simp -implicitDefEqProofs only [go_sem, qa, qb, qc, qd, qe, qf, qg, qh, qi, qj, qk, ↓reduceIte, h4783, h4786, h4792, h4795, h4801, g4804, g4805, g4806, h4807, g4809, g4810, g4811, h4812, h4851, g4852, g4853, g4854, h4855, h4860, h4862, g4863, g4864, g4865, h4868])
              refine Wp_callDF [(65, (c4785 ++ [(.int .i64 x4847)]))] [0, 1, 2, 3, 4] (ih _ _ _ _ _ _ _ _ _ _ h4875) rfl rfl rfl (by first | rfl | (simp only [go_sem, qa, qb, qc, qd, qe, qf, qg, qh, qi, qj, qk, ↓reduceIte, h4783, h4786, h4792, h4795, h4801, g4804, g4805, g4806, h4807, g4809, g4810, g4811, h4812, h4851, g4852, g4853, g4854, h4855, h4860, h4862, g4863, g4864, g4865, h4868] <;> rfl)) rfl (by kernel_rfl) rfl rfl (by simp [roF, obL]) ?_
              have hh := getB_some h4893; clear h4893; obtain ⟨b4880, h4879, h4893⟩ := hh
              have hh := brn_some h4893; clear h4893; rcases hh with ⟨h4881, h4893⟩ | ⟨h4881, h4893⟩
              · refine W_sound tab_ok mixed 10 _ _ _ ?_
                simp -implicitDefEqProofs only [go_sem, qa, qb, qc, qd, qe, qf, qg, qh, qi, qj, qk, ↓reduceIte, h4783, h4786, h4792, h4795, h4801, g4804, g4805, g4806, h4807, g4809, g4810, g4811, h4812, h4851, g4852, g4853, g4854, h4855, h4860, h4862, g4863, g4864, g4865, h4868, h4879, h4881]
                repeat with_reducible refine ⟨by first | kernel_rfl | decide, ?_⟩
                exact cutQ _ ((Wk_le (.r (.r (.r (.r (.r (.r (.r (.r (.r (.k (.k (.r (.r (.r (.r (.k (.k .nil))))))))))))))))) (OLe.refl _)).trans (cmpS_ok (st' := ⟨[], [(0, .v (.lst false n4784 c4785)), (1, .dead), (2, .dead), (3, .dead), (4, .dead), (5, .ptr 4 0), (7, .ptr 5 0), (8, .dead), (9, .v (.int .i64 ((n4784 : Nat) : Int))), (10, .dead), (11, .dead), (17, .dead), (28, .v (.lst false n4813 c4814)), (29, .v (.int .i64 ((n4813 : Nat) : Int))), (30, .v (.int .i64 (IntKind.i64.wrap (x4847 + 1)))), (31, .dead), (53, .dead)], [(0, .p [p4876]), (1, .r [.fn 100 [.ptr 2 0]]), (2, .p [(.bool b4877)]), (3, .p [p4778, p4878]), (4, .r [.fn 99 [.ptr 0 0, .ptr 1 0, .ptr 3 0, .ptr 4 0]]), (5, .p [p4787, p4788, p4789, p4790, p4791])], 6, []⟩) (by kernel_rfl))) ⟨n, Nat.lt_succ_self n, _, _, _, _, h4893, rfl⟩
              · refine W_sound tab_ok mixed 10 _ _ _ ?_
                simp -implicitDefEqProofs only [go_sem, qa, qb, qc, qd, qe, qf, qg, qh, qi, qj, qk, ↓reduceIte, h4783, h4786, h4792, h4795, h4801, g4804, g4805, g4806, h4807, g4809, g4810, g4811, h4812, h4851, g4852, g4853, g4854, h4855, h4860, h4862, g4863, g4864, g4865, h4868, h4879, h4881]
                repeat with_reducible refine ⟨by first | kernel_rfl | decide, ?_⟩
                obtain rfl := Option.some.inj h4893
                (try dsimp only at h4894)
                simp only [Option.some.injEq, Prod.mk.injEq] at h4894; obtain ⟨rfl, rfl, rfl, rfl⟩ := h4894
                exact finD (e2 := [(0, .dead), (1, .dead), (2, .dead), (3, .dead), (4, .dead), (5, .dead), (7, .dead), (8, .v (.bool false)), (9, .dead), (10, .dead), (11, .dead), (17, .dead), (28, .dead), (29, .dead), (30, .dead), (31, .dead), (53, .dead)]) (ob2 := [(5, .p [p4787, p4788, p4789, p4790, p4791]), (17, .p [p4856, p4857]), (64, .p [(.int .i64 x4847)]), (4, .r [.fn 99 [.ptr 0 0, .ptr 1 0, .ptr 3 0, .ptr 4 0]]), (3, .p [p4778, p4878]), (2, .p [(.bool b4877)]), (1, .r [.fn 100 [.ptr 2 0]]), (0, .p [p4876])]) (st' := ⟨[], [(0, .dead), (1, .dead), (2, .dead), (3, .dead), (4, .dead), (5, .dead), (7, .dead), (8, .v (.bool false)), (9, .dead), (10, .dead), (11, .dead), (17, .dead), (28, .dead), (29, .dead), (30, .dead), (31, .dead), (53, .dead)], [(0, .p [p4876]), (1, .r [.fn 100 [.ptr 2 0]]), (2, .p [(.bool b4877)]), (3, .p [p4778, p4878]), (4, .r [.fn 99 [.ptr 0 0, .ptr 1 0, .ptr 3 0, .ptr 4 0]])], 5, []⟩) (.k (.r (.r (.r (.r (.k (.k (.r (.k (.k (.k (.r (.k (.k (.k (.k (.k .nil))))))))))))))))) (.cons _ _ _ _ _ (DLes.refl _) (.cons _ _ _ _ _ (DLes.refl _) (.cons _ _ _ _ _ (DLes.refl _) (.cons _ _ _ _ _ (DLes.refl _) (.cons _ _ _ _ _ (DLes.refl _) (.cons _ _ _ _ _ (DLes.refl _) (.cons _ _ _ _ _ (DLes.refl _) (.cons _ _ _ _ _ (DLes.refl _) .nil)))))))) (by kernel_rfl) (by simp only [go_sem, qa, qb, qc, qd, qe, qf, qg, qh, qi, qj, qk, ↓reduceIte, resQ_tmp, resQ_cell, resQ_nil, retD_one, retD_two, retD_three, retD_none]; try simp [R.val, retD_one, retD_two, retD_three, retD_none])
          · refine W_sound tab_ok mixed 7 _ _ _ ?_
            simp -implicitDefEqProofs only [go_sem, qa, qb, qc, qd, qe, qf, qg, qh, qi, qj, qk, ↓reduceIte, h4783, h4786, h4792, h4795, h4801, g4804, g4805, g4806, h4807, g4809, g4810, g4811, h4812, h4851]
            repeat with_reducible refine ⟨by first | kernel_rfl | decide, ?_⟩
            obtain rfl := Option.some.inj h4893
            exact cutQ _ ((Wk_le (.k (.r (.r (.r (.r (.k (.k (.r (.k (.r (.r (.r (.k (.k (.k (.k (.r .nil))))))))))))))))) (OLe.refl _)).trans (cmpS_ok (st' := ⟨[], [(0, .dead), (1, .dead), (2, .dead), (3, .dead), (4, .dead), (5, .dead), (7, .dead), (8, .dead), (9, .dead), (10, .dead), (11, .dead), (17, .dead), (28, .dead), (29, .dead), (30, .dead), (31, .dead), (53, .dead)], [(0, .p [p4848]), (1, .r [.fn 100 [.ptr 2 0]]), (2, .p [(.bool b4849)]), (3, .p [p4778, p4850]), (4, .r [.fn 99 [.ptr 0 0, .ptr 1 0, .ptr 3 0, .ptr 4 0]])], 5, []⟩) (by kernel_rfl))) ⟨_, _, _, rfl, rfl⟩
      · rintro _ ⟨p4883, b4884, p4885, rfl, rfl⟩
        (try dsimp only at h4894)
        refine W_sound tab_ok mixed 6 _ _ _ ?_
        simp -implicitDefEqProofs only [go_sem, qa, qb, qc, qd, qe, qf, qg, qh, qi, qj, qk, ↓reduceIte, h4783, h4786, h4792, h4795, h4801, g4804, g4805, g4806, h4807, g4809, g4810, g4811, h4812]
        repeat with_reducible refine ⟨by first | kernel_rfl | decide, ?_⟩
        simp only [Option.some.injEq, Prod.mk.injEq] at h4894; obtain ⟨rfl, rfl, rfl, rfl⟩ := h4894
        exact finD (e2 := [(0, .dead), (1, .dead), (2, .dead), (3, .dead), (4, .dead), (5, .dead), (7, .dead), (8, .v (.bool true)), (9, .dead), (10, .dead), (11, .dead), (17, .dead), (28, .dead), (29, .dead), (30, .dead), (31, .dead), (53, .dead)]) (ob2 := [(0, .p [p4883]), (1, .r [.fn 100 [.ptr 2 0]]), (2, .p [(.bool b4884)]), (3, .p [p4778, p4885]), (4, .r [.fn 99 [.ptr 0 0, .ptr 1 0, .ptr 3 0, .ptr 4 0]])]) (st' := ⟨[], [(0, .dead), (1, .dead), (2, .dead), (3, .dead), (4, .dead), (5, .dead), (7, .dead), (8, .v (.bool true)), (9, .dead), (10, .dead), (11, .dead), (17, .dead), (28, .dead), (29, .dead), (30, .dead), (31, .dead), (53, .dead)], [(0, .p [p4883]), (1, .r [.fn 100 [.ptr 2 0]]), (2, .p [(.bool b4884)]), (3, .p [p4778, p4885]), (4, .r [.fn 99 [.ptr 0 0, .ptr 1 0, .ptr 3 0, .ptr 4 0]])], 5, []⟩) (.r (.r (.r (.r (.r (.r (.r (.r (.r (.r (.r (.r (.r (.r (.r (.r (.r .nil))))))))))))))))) (.cons _ _ _ _ _ (DLes.refl _) (.cons _ _ _ _ _ (DLes.refl _) (.cons _ _ _ _ _ (DLes.refl _) (.cons _ _ _ _ _ (DLes.refl _) (.cons _ _ _ _ _ (DLes.refl _) .nil))))) (by kernel_rfl) (by simp only [go_sem, qa, qb, qc, qd, qe, qf, qg, qh, qi, qj, qk, ↓reduceIte, resQ_tmp, resQ_cell, resQ_nil, retD_one, retD_two, retD_three, retD_none]; try simp [R.val, retD_one, retD_two, retD_three, retD_none])
def m99_5_L0 (N : Nat) (p4945 : PV) (p4951 : PV) (p4952 : PV) (p4953 : PV) (p4954 : PV) (p4955 : PV) (n4976 : Nat) (c4977 : List PV) : Nat → Int → PV → Bool → PV → Option (((PV × PV × Bool × PV) ⊕ (PV × Bool × PV)))
  | 0, _, _, _, _ => none
  | n + 1, x5007, p5008, b5009, p5010 =>
    brn (decide (x5007 < ((n4976 : Nat) : Int))) (
      grd (0 ≤ x5007 ∧ x5007 < ((n4976 : Nat) : Int)) <|
      grd (2 ≤ List.length (List.drop ((Int.toNat x5007) * 2) c4977)) <|
      getA2 (.agg (List.take 2 (List.drop ((Int.toNat x5007) * 2) c4977))) fun p5016 p5017 =>
      bnd' (m71 N (.agg [p4951, p4952, p4953, p4954, p4955]) (.agg [p5016, p5017])) fun p5018 =>
      getB p5018 fun b5021 =>
      brn b5021 (
        m99_5_L0 N p4945 p4951 p4952 p4953 p4954 p4955 n4976 c4977 n (IntKind.i64.wrap (x5007 + 1)) p5008 b5009 p5010) (
        bnd' (m98 N (.agg [p4951, p4952, p4953, p4954, p4955]) (.agg [p5016, p5017])) fun p5023 =>
        getA5 p5023 fun p5026 p5027 p5028 p5029 p5030 =>
        bnd' (m99_6 N N (.lst false 1 [(.int .i64 x5007)]) (.agg [p5026, p5027, p5028, p5029, p5030]) p5008 b5009 p4945 p5010) fun (p5031, p5033, b5034, p5035) =>
        getB p5031 fun b5037 =>
        brn b5037 (
          m99_5_L0 N p4945 p4951 p4952 p4953 p4954 p4955 n4976 c4977 n (IntKind.i64.wrap (x5007 + 1)) p5033 b5034 p5035) (
          some (.inl ((.bool false), p5033, b5034, p5035))))) (
      some (.inr (p5008, b5009, p5010)))
def m99_5 (N : Nat) (p4942 : PV) (p4943 : PV) (b4944 : Bool) (p4945 : PV) (p4946 : PV) : Option ((PV × PV × Bool × PV)) :=
  getA5 p4942 fun p4951 p4952 p4953 p4954 p4955 =>
  getL p4943 fun n4957 c4958 =>
  brn (0 == ((n4957 : Nat) : Int)) (
    bnd' (m100 N b4944) fun (p4960, b4962) =>
    getB p4960 fun b4964 =>
    some ((.bool b4964), (.lst false n4957 c4958), b4962, p4946)) (
    getL p4946 fun n4966 c4967 =>
    grd (0 < ((n4957 : Nat) : Int)) <|
    grd (0 < List.length c4958) <|
    getI .i64 (gp c4958 0) fun x4971 =>
    grd (0 ≤ x4971 ∧ x4971 < ((n4966 : Nat) : Int)) <|
    grd (0 < List.length (List.drop (Int.toNat x4971) c4967)) <|
    getL (gp c4967 (Int.toNat x4971)) fun n4976 c4977 =>
    bnd' (m99_5_L0 N p4945 p4951 p4952 p4953 p4954 p4955 n4976 c4977 N 0 (.lst false n4957 c4958) b4944 (.lst false n4966 c4967)) fun o =>
    match o with
    | .inl p5039 =>
      some p5039
    | .inr (p5040, b5041, p5042) =>
      some ((.bool true), p5040, b5041, p5042))
theorem c99_5 (N : Nat) (p4942 : PV) (p4943 : PV) (b4944 : Bool) (p4945 : PV) (p4946 : PV) (r : PV) (p5046 : PV) (b5047 : Bool) (p5048 : PV) (h : m99_5 N p4942 p4943 b4944 p4945 p4946 = some (r, p5046, b5047, p5048)) : V.Fn Tryd.prog 99 5 [.v .nl, .v p4942, .ptr 0 0, .ptr 1 0, .ptr 3 0, .ptr 4 0] [(0, .p [p4943]), (1, .r [.fn 100 [.ptr 2 0]]), (2, .p [(.bool b4944)]), (3, .p [p4945, p4946]), (4, .r [.fn 99 [.ptr 0 0, .ptr 1 0, .ptr 3 0, .ptr 4 0]])] (fun d ob' => d = .v r ∧ ob' = [(0, .p [p5046]), (1, .r [.fn 100 [.ptr 2 0]]), (2, .p [(.bool b5047)]), (3, .p [p4945, p5048]), (4, .r [.fn 99 [.ptr 0 0, .ptr 1 0, .ptr 3 0, .ptr 4 0]])]) := by
  unfold m99_5 at h
  refine Fn_of (sz := 55) tab_ok [0, 1, 2, 3, 4, 5, 7, 8, 9, 10, 11, 17, 28, 29, 30, 31, 53] [.tmp 8] Tryd.func99 rfl rfl rfl (by simp) ?_
  simp only [initSt, initEnv, List.map_cons, List.map_nil, List.getD_cons_zero, List.getD_cons_succ, List.getD_nil]
  have hh := getA5_some h; clear h; obtain ⟨p4951, p4952, p4953, p4954, p4955, h4950, h⟩ := hh
  have hh := getL_some h; clear h; obtain ⟨n4957, c4958, h4956, h⟩ := hh
  have hh := brn_some h; clear h; rcases hh with ⟨h4959, h⟩ | ⟨h4959, h⟩
  · have hh := bnd'_some h; clear h; obtain ⟨⟨p4960, b4962⟩, h4961, h⟩ := hh
    (try dsimp only at h)
    refine W_sound tab_ok mixed 24 _ _ _ ?_
    simp -implicitDefEqProofs only [go_sem, qa, qb, qc, qd, qe, qf, qg, qh, qi, qj, qk, ↓reduceIte, h4950, h4956, h4959]
    repeat with_reducible refine ⟨by first | kernel_rfl | decide, ?_⟩
    refine Wp_callD [2] (c100 N _ _ _ h4961) rfl rfl rfl (by first | rfl | (simp only [go_sem, qa, qb, qc, qd, qe, qf, qg, qh, qi, qj, qk, ↓reduceIte, h4950, h4956, h4959] <;> rfl)) rfl (by kernel_rfl) ?_
    have hh := getB_some h; clear h; obtain ⟨b4964, h4963, h⟩ := hh
    refine W_sound tab_ok mixed 4 _ _ _ ?_
    simp -implicitDefEqProofs only [go_sem, qa, qb, qc, qd, qe, qf, qg, qh, qi, qj, qk, ↓reduceIte, h4950, h4956, h4959, h4963]
    repeat with_reducible refine ⟨by first | kernel_rfl | decide, ?_⟩
    simp only [Option.some.injEq, Prod.mk.injEq] at h; obtain ⟨rfl, rfl, rfl, rfl⟩ := h
    exact finD (e2 := [(0, .dead), (1, .dead), (2, .dead), (3, .dead), (4, .dead), (5, .dead), (7, .dead), (8, .v (.bool b4964)), (9, .dead), (10, .dead), (11, .dead), (17, .dead), (28, .dead), (29, .dead), (30, .dead), (31, .dead), (53, .dead)]) (ob2 := [(0, .p [(.lst false n4957 c4958)]), (1, .r [.fn 100 [.ptr 2 0]]), (3, .p [p4945, p4946]), (4, .r [.fn 99 [.ptr 0 0, .ptr 1 0, .ptr 3 0, .ptr 4 0]]), (12, .p [p4951, p4952, p4953, p4954, p4955]), (2, .p [(.bool b4962)])]) (st' := ⟨[], [(0, .dead), (1, .dead), (2, .dead), (3, .dead), (4, .dead), (5, .dead), (7, .dead), (8, .v (.bool b4964)), (9, .dead), (10, .dead), (11, .dead), (17, .dead), (28, .dead), (29, .dead), (30, .dead), (31, .dead), (53, .dead)], [(0, .p [(.lst false n4957 c4958)]), (1, .r [.fn 100 [.ptr 2 0]]), (2, .p [(.bool b4962)]), (3, .p [p4945, p4946]), (4, .r [.fn 99 [.ptr 0 0, .ptr 1 0, .ptr 3 0, .ptr 4 0]])], 5, []⟩) (.k (.k (.k (.k (.k (.k (.k (.r (.k (.r (.r (.k (.r (.r (.r (.r (.r .nil))))))))))))))))) (.cons _ _ _ _ _ (DLes.refl _) (.cons _ _ _ _ _ (DLes.refl _) (.cons _ _ _ _ _ (DLes.refl _) (.cons _ _ _ _ _ (DLes.refl _) (.cons _ _ _ _ _ (DLes.refl _) (.cons _ _ _ _ _ (DLes.refl _) .nil)))))) (by kernel_rfl) (by simp only [go_sem, qa, qb, qc, qd, qe, qf, qg, qh, qi, qj, qk, ↓reduceIte, resQ_tmp, resQ_cell, resQ_nil, retD_one, retD_two, retD_three, retD_none]; try simp [R.val, retD_one, retD_two, retD_three, retD_none])
  · have hh := getL_some h; clear h; obtain ⟨n4966, c4967, h4965, h⟩ := hh
    have hh := grd_some h; clear h; obtain ⟨g4968, h⟩ := hh
    have hh := grd_some h; clear h; obtain ⟨g4969, h⟩ := hh
    have hh := getI_some h; clear h; obtain ⟨x4971, h4970, h⟩ := hh
    have hh := grd_some h; clear h; obtain ⟨⟨g4972, g4973⟩, h⟩ := hh
    have hh := grd_some h; clear h; obtain ⟨g4974, h⟩ := hh
    have hh := getL_some h; clear h; obtain ⟨n4976, c4977, h4975, h⟩ := hh
    refine W_sound tab_ok mixed 35 _ _ _ ?_
    simp -implicitDefEqProofs only [go_sem, qa, qb, qc, qd, qe, qf, qg, qh, qi, qj, qk, ↓reduceIte, h4950, h4956, h4959, h4965, g4968, g4969, h4970, g4972, g4973, g4974, h4975]
    repeat with_reducible refine ⟨by first | kernel_rfl | decide, ?_⟩
    have hh := bnd'_some h; clear h; obtain ⟨o5049, h5050, h5051⟩ := hh
    refine Wp_cut (fun s => ∃ p5040, ∃ b5041, ∃ p5042, (.inr (p5040, b5041, p5042)) = o5049 ∧ s = ⟨[], [(0, .dead), (1, .dead), (2, .dead), (3, .dead), (4, .dead), (5, .dead), (7, .dead), (8, .dead), (9, .dead), (10, .dead), (11, .dead), (17, .dead), (28, .dead), (29, .dead), (30, .dead), (31, .dead), (53, .dead)], [(0, .p [p5040]), (1, .r [.fn 100 [.ptr 2 0]]), (2, .p [(.bool b5041)]), (3, .p [p4945, p5042]), (4, .r [.fn 99 [.ptr 0 0, .ptr 1 0, .ptr 3 0, .ptr 4 0]])], 5, []⟩) ?_ ?_
    · refine Wp_block ?_
      refine Wp_loopG (fun n s => ∃ x5007, ∃ p5008, ∃ b5009, ∃ p5010, m99_5_L0 N p4945 p4951 p4952 p4953 p4954 p4955 n4976 c4977 n x5007 p5008 b5009 p5010 = some o5049 ∧ s = ⟨[], [(0, .v .nl), (1, .dead), (2, .dead), (3, .dead), (4, .dead), (5, .ptr 4 0), (7, .ptr 5 0), (8, .dead), (9, .v (.int .i64 0)), (10, .dead), (11, .dead), (17, .dead), (28, .v (.lst false n4976 c4977)), (29, .v (.int .i64 ((n4976 : Nat) : Int))), (30, .v (.int .i64 x5007)), (31, .dead), (53, .dead)], [(0, .p [p5008]), (1, .r [.fn 100 [.ptr 2 0]]), (2, .p [(.bool b5009)]), (3, .p [p4945, p5010]), (4, .r [.fn 99 [.ptr 0 0, .ptr 1 0, .ptr 3 0, .ptr 4 0]]), (5, .p [p4951, p4952, p4953, p4954, p4955])], 6, []⟩) N _ ((Wk_le (.r (.k (.k (.k (.k (.r (.r (.k (.r (.r (.r (.k (.r (.r (.r (.r (.r .nil))))))))))))))))) (OLe.refl _)).trans (cmpS_ok (st' := ⟨[], [(0, .v .nl), (1, .dead), (2, .dead), (3, .dead), (4, .dead), (5, .ptr 4 0), (7, .ptr 5 0), (8, .dead), (9, .v (.int .i64 0)), (10, .dead), (11, .dead), (17, .dead), (28, .v (.lst false n4976 c4977)), (29, .v (.int .i64 ((n4976 : Nat) : Int))), (30, .v (.int .i64 0)), (31, .dead), (53, .dead)], [(0, .p [(.lst false n4957 c4958)]), (1, .r [.fn 100 [.ptr 2 0]]), (2, .p [(.bool b4944)]), (3, .p [p4945, (.lst false n4966 c4967)]), (4, .r [.fn 99 [.ptr 0 0, .ptr 1 0, .ptr 3 0, .ptr 4 0]]), (5, .p [p4951, p4952, p4953, p4954, p4955])], 6, []⟩) (by kernel_rfl))) ⟨_, _, _, _, h5050, rfl⟩ ?_
      clear h5050
      rintro n _ ⟨x5007, p5008, b5009, p5010, h5050, rfl⟩
      cases n with
      | zero => cases h5050
      | succ n =>
        rw [m99_5_L0] at h5050
        have hh := brn_some h5050; clear h5050; rcases hh with ⟨h5011, h5050⟩ | ⟨h5011, h5050⟩
        · have hh := grd_some h5050; clear h5050; obtain ⟨⟨g5012, g5013⟩, h5050⟩ := hh
          have hh := grd_some h5050; clear h5050; obtain ⟨g5014, h5050⟩ := hh
          have hh := getA2_some h5050; clear h5050; obtain ⟨p5016, p5017, h5015, h5050⟩ := hh
          injection h5015 with h5015
          have hh := bnd'_some h5050; clear h5050; obtain ⟨p5018, h5019, h5050⟩ := hh
          refine W_sound tab_ok mixed 22 _ _ _ ?_
          simp -implicitDefEqProofs only [go_sem, qa, qb, qc, qd, qe, qf, qg, qh, qi, qj, qk, ↓reduceIte, h4950, h4956, h4959, h4965, g4968, g4969, h4970, g4972, g4973, g4974, h4975, h5011, g5012, g5013, g5014, h5015]
          repeat with_reducible refine ⟨by first | kernel_rfl | decide, ?_⟩
          refine Wp_callP (c71 N _ _ _ h5019) (by kernel_rfl) rfl rfl rfl rfl (by decide) ?_
          have hh := getB_some h5050; clear h5050; obtain ⟨b5021, h5020, h5050⟩ := hh
          have hh := brn_some h5050; clear h5050; rcases hh with ⟨h5022, h5050⟩ | ⟨h5022, h5050⟩
          · refine W_sound tab_ok mixed 24 _ _ _ ?_
            simp -implicitDefEqProofs only [go_sem, qa, qb, qc, qd, qe, qf, qg, qh, qi, qj, qk, ↓reduceIte, h4950, h4956, h4959, h4965, g4968, g4969, h4970, g4972, g4973, g4974, h4975, h5011, g5012, g5013, g5014, h5015, h5020, h5022]
            repeat with_reducible refine ⟨by first | kernel_rfl | decide, ?_⟩
            exact cutQ _ ((Wk_le (.r (.r (.r (.r (.r (.r (.r (.r (.r (.k (.k (.r (.r (.r (.r (.k (.k .nil))))))))))))))))) (OLe.refl _)).trans (cmpS_ok (st' := ⟨[], [(0, .v .nl), (1, .dead), (2, .dead), (3, .dead), (4, .dead), (5, .ptr 4 0), (7, .ptr 5 0), (8, .dead), (9, .v (.int .i64 0)), (10, .dead), (11, .dead), (17, .dead), (28, .v (.lst false n4976 c4977)), (29, .v (.int .i64 ((n4976 : Nat) : Int))), (30, .v (.int .i64 (IntKind.i64.wrap (x5007 + 1)))), (31, .dead), (53, .dead)], [(0, .p [p5008]), (1, .r [.fn 100 [.ptr 2 0]]), (2, .p [(.bool b5009)]), (3, .p [p4945, p5010]), (4, .r [.fn 99 [.ptr 0 0, .ptr 1 0, .ptr 3 0, .ptr 4 0]]), (5, .p [p4951, p4952, p4953, p4954, p4955])], 6, []⟩) (by kernel_rfl))) ⟨n, Nat.lt_succ_self n, _, _, _, _, h5050, rfl⟩
          · have hh := bnd'_some h5050; clear h5050; obtain ⟨p5023, h5024, h5050⟩ := hh
            refine W_sound tab_ok mixed 12 _ _ _ ?_
            simp -implicitDefEqProofs only [go_sem, qa, qb, qc, qd, qe, qf, qg, qh, qi, qj, qk, ↓reduceIte, h4950, h4956, h4959, h4965, g4968, g4969, h4970, g4972, g4973, g4974, h4975, h5011, g5012, g5013, g5014, h5015, h5020, h5022]
            repeat with_reducible refine ⟨by first | kernel_rfl | decide, ?_⟩
            refine Wp_callP (c98 N _ _ _ h5024) (by kernel_rfl) rfl rfl rfl rfl (by decide) ?_
            have hh := getA5_some h5050; clear h5050; obtain ⟨p5026, p5027, p5028, p5029, p5030, h5025, h5050⟩ := hh
            have hh := bnd'_some h5050; clear h5050; obtain ⟨⟨p5031, p5033, b5034, p5035⟩, h5032, h5050⟩ := hh
            (try dsimp only at h5050)
            (try simp -implicitDefEqProofs only [go_sem, qa, qb, qc, qd, qe, qf, qg, qh, qi, qj, qk, ↓reduceIte, h4950, h4956, h4959, h4965, g4968, g4969, h4970, g4972, g4973, g4974, h4975, h5011, g5012, g5013, g5014, h5015, h5020, h5022, h5025])
            refine Wp_callDF [(65, [(.int .i64 x5007)])] [0, 1, 2, 3, 4] (c99_6 N N _ _ _ _ _ _ _ _ _ _ h5032) rfl rfl rfl (by first | rfl | (simp only [go_sem, qa, qb, qc, qd, qe, qf, qg, qh, qi, qj, qk, ↓reduceIte, h4950, h4956, h4959, h4965, g4968, g4969, h4970, g4972, g4973, g4974, h4975, h5011, g5012, g5013, g5014, h5015, h5020, h5022, h5025] <;> rfl)) rfl (by kernel_rfl) rfl rfl (by simp [roF, obL]) ?_
            have hh := getB_some h5050; clear h5050; obtain ⟨b5037, h5036, h5050⟩ := hh
            have hh := brn_some h5050; clear h5050; rcases hh with ⟨h5038, h5050⟩ | ⟨h5038, h5050⟩
            · refine W_sound tab_ok mixed 10 _ _ _ ?_
              simp -implicitDefEqProofs only [go_sem, qa, qb, qc, qd, qe, qf, qg, qh, qi, qj, qk, ↓reduceIte, h4950, h4956, h4959, h4965, g4968, g4969, h4970, g4972, g4973, g4974, h4975, h5011, g5012, g5013, g5014, h5015, h5020, h5022, h5025, h5036, h5038]
              repeat with_reducible refine ⟨by first | kernel_rfl | decide, ?_⟩
              exact cutQ _ ((Wk_le (.r (.r (.r (.r (.r (.r (.r (.r (.r (.k (.k (.r (.r (.r (.r (.k (.k .nil))))))))))))))))) (OLe.refl _)).trans (cmpS_ok (st' := ⟨[], [(0, .v .nl), (1, .dead), (2, .dead), (3, .dead), (4, .dead), (5, .ptr 4 0), (7, .ptr 5 0), (8, .dead), (9, .v (.int .i64 0)), (10, .dead), (11, .dead), (17, .dead), (28, .v (.lst false n4976 c4977)), (29, .v (.int .i64 ((n4976 : Nat) : Int))), (30, .v (.int .i64 (IntKind.i64.wrap (x5007 + 1)))), (31, .dead), (53, .dead)], [(0, .p [p5033]), (1, .r [.fn 100 [.ptr 2 0]]), (2, .p [(.bool b5034)]), (3, .p [p4945, p5035]), (4, .r [.fn 99 [.ptr 0 0, .ptr 1 0, .ptr 3 0, .ptr 4 0]]), (5, .p [p4951, p4952, p4953, p4954, p4955])], 6, []⟩) (by kernel_rfl))) ⟨n, Nat.lt_succ_self n, _, _, _, _, h5050, rfl⟩
            · refine W_sound tab_ok mixed 10 _ _ _ ?_
              simp -implicitDefEqProofs only [go_sem, qa, qb, qc, qd, qe, qf, qg, qh, qi, qj, qk, ↓reduceIte, h4950, h4956, h4959, h4965, g4968, g4969, h4970, g4972, g4973, g4974, h4975, h5011, g5012, g5013, g5014, h5015, h5020, h5022, h5025, h5036, h5038]
              repeat with_reducible refine ⟨by first | kernel_rfl | decide, ?_⟩
              obtain rfl := Option.some.inj h5050
              (try dsimp only at h5051)
              simp only [Option.some.injEq, Prod.mk.injEq] at h5051; obtain ⟨rfl, rfl, rfl, rfl⟩ := h5051
              exact finD (e2 := [(0, .dead), (1, .dead), (2, .dead), (3, .dead), (4, .dead), (5, .dead), (7, .dead), (8, .v (.bool false)), (9, .dead), (10, .dead), (11, .dead), (17, .dead), (28, .dead), (29, .dead), (30, .dead), (31, .dead), (53, .dead)]) (ob2 := [(5, .p [p4951, p4952, p4953, p4954, p4955]), (17, .p [p5016, p5017]), (64, .p [(.int .i64 x5007)]), (4, .r [.fn 99 [.ptr 0 0, .ptr 1 0, .ptr 3 0, .ptr 4 0]]), (3, .p [p4945, p5035]), (2, .p [(.bool b5034)]), (1, .r [.fn 100 [.ptr 2 0]]), (0, .p [p5033])]) (st' := ⟨[], [(0, .dead), (1, .dead), (2, .dead), (3, .dead), (4, .dead), (5, .dead), (7, .dead), (8, .v (.bool false)), (9, .dead), (10, .dead), (11, .dead), (17, .dead), (28, .dead), (29, .dead), (30, .dead), (31, .dead), (53, .dead)], [(0, .p [p5033]), (1, .r [.fn 100 [.ptr 2 0]]), (2, .p [(.bool b5034)]), (3, .p [p4945, p5035]), (4, .r [.fn 99 [.ptr 0 0, .ptr 1 0, .ptr 3 0, .ptr 4 0]])], 5, []⟩) (.k (.r (.r (.r (.r (.k (.k (.r (.k (.k (.k (.r (.k (.k (.k (.k (.k .nil))))))))))))))))) (.cons _ _ _ _ _ (DLes.refl _) (.cons _ _ _ _ _ (DLes.refl _) (.cons _ _ _ _ _ (DLes.refl _) (.cons _ _ _ _ _ (DLes.refl _) (.cons _ _ _ _ _ (DLes.refl _) (.cons _ _ _ _ _ (DLes.refl _) (.cons _ _ _ _ _ (DLes.refl _) (.cons _ _ _ _ _ (DLes.refl _) .nil)))))))) (by kernel_rfl) (by simp only [go_sem, qa, qb, qc, qd, qe, qf, qg, qh, qi, qj, qk, ↓reduceIte, resQ_tmp, resQ_cell, resQ_nil, retD_one, retD_two, retD_three, retD_none]; try simp [R.val, retD_one, retD_two, retD_three, retD_none])
        · refine W_sound tab_ok mixed 7 _ _ _ ?_
          simp -implicitDefEqProofs only [go_sem, qa, qb, qc, qd, qe, qf, qg, qh, qi, qj, qk, ↓reduceIte, h4950, h4956, h4959, h4965, g4968, g4969, h4970, g4972, g4973, g4974, h4975, h5011]
          repeat with_reducible refine ⟨by first | kernel_rfl | decide, ?_⟩
          obtain rfl := Option.some.inj h5050
          exact cutQ _ ((Wk_le (.k (.r (.r (.r (.r (.k (.k (.r (.k (.r (.r (.r (.k (.k (.k (.k (.r .nil))))))))))))))))) (OLe.refl _)).trans (cmpS_ok (st' := ⟨[], [(0, .dead), (1, .dead), (2, .dead), (3, .dead), (4, .dead), (5, .dead), (7, .dead), (8, .dead), (9, .dead), (10, .dead), (11, .dead), (17, .dead), (28, .dead), (29, .dead), (30, .dead), (31, .dead), (53, .dead)], [(0, .p [p5008]), (1, .r [.fn 100 [.ptr 2 0]]), (2, .p [(.bool b5009)]), (3, .p [p4945, p5010]), (4, .r [.fn 99 [.ptr 0 0, .ptr 1 0, .ptr 3 0, .ptr 4 0]])], 5, []⟩) (by kernel_rfl))) ⟨_, _, _, rfl, rfl⟩
    · rintro _ ⟨p5040, b5041, p5042, rfl, rfl⟩
      (try dsimp only at h5051)
      refine W_sound tab_ok mixed 6 _ _ _ ?_
      simp -implicitDefEqProofs only [go_sem, qa, qb, qc, qd, qe, qf, qg, qh, qi, qj, qk, ↓reduceIte, h4950, h4956, h4959, h4965, g4968, g4969, h4970, g4972, g4973, g4974, h4975]
      repeat with_reducible refine ⟨by first | kernel_rfl | decide, ?_⟩
      simp only [Option.some.injEq, Prod.mk.injEq] at h5051; obtain ⟨rfl, rfl, rfl, rfl⟩ := h5051
      exact finD (e2 := [(0, .dead), (1, .dead), (2, .dead), (3, .dead), (4, .dead), (5, .dead), (7, .dead), (8, .v (.bool true)), (9, .dead), (10, .dead), (11, .dead), (17, .dead), (28, .dead), (29, .dead), (30, .dead), (31, .dead), (53, .dead)]) (ob2 := [(0, .p [p5040]), (1, .r [.fn 100 [.ptr 2 0]]), (2, .p [(.bool b5041)]), (3, .p [p4945, p5042]), (4, .r [.fn 99 [.ptr 0 0, .ptr 1 0, .ptr 3 0, .ptr 4 0]])]) (st' := ⟨[], [(0, .dead), (1, .dead), (2, .dead), (3, .dead), (4, .dead), (5, .dead), (7, .dead), (8, .v (.bool true)), (9, .dead), (10, .dead), (11, .dead), (17, .dead), (28, .dead), (29, .dead), (30, .dead), (31, .dead), (53, .dead)], [(0, .p [p5040]), (1, .r [.fn 100 [.ptr 2 0]]), (2, .p [(.bool b5041)]), (3, .p [p4945, p5042]), (4, .r [.fn 99 [.ptr 0 0, .ptr 1 0, .ptr 3 0, .ptr 4 0]])], 5, []⟩) (.r (.r (.r (.r (.r (.r (.r (.r (.r (.r (.r (.r (.r (.r (.r (.r (.r .nil))))))))))))))))) (.cons _ _ _ _ _ (DLes.refl _) (.cons _ _ _ _ _ (DLes.refl _) (.cons _ _ _ _ _ (DLes.refl _) (.cons _ _ _ _ _ (DLes.refl _) (.cons _ _ _ _ _ (DLes.refl _) .nil))))) (by kernel_rfl) (by simp only [go_sem, qa, qb, qc, qd, qe, qf, qg, qh, qi, qj, qk, ↓reduceIte, resQ_tmp, resQ_cell, resQ_nil, retD_one, retD_two, retD_three, retD_none]; try simp [R.val, retD_one, retD_two, retD_three, retD_none])
def m76_3 (N : Nat) (p5060 : PV) (p5061 : PV) (b5062 : Bool) : Option ((PV × Bool)) :=
  getA2 p5060 fun p5065 p5066 =>
  getL p5061 fun n5068 c5069 =>
  bnd' (m97 N ) fun p5070 =>
  getA5 p5070 fun p5073 p5074 p5075 p5076 p5077 =>
  bnd' (m99_5 N (.agg [p5073, p5074, p5075, p5076, p5077]) (.lst false n5068 c5069) b5062 p5065 p5066) fun (p5078, p5080, b5081, p5082) =>
  getB p5078 fun b5084 =>
  some ((.tup []), b5081)
theorem c76_3 (N : Nat) (p5060 : PV) (p5061 : PV) (b5062 : Bool) (r : PV) (b5086 : Bool) (h : m76_3 N p5060 p5061 b5062 = some (r, b5086)) : V.Fn Tryd.prog 76 1 [.v p5060, .v p5061, .fn 100 [.ptr 0 0]] [(0, .p [(.bool b5062)])] (fun d ob' => d = .v r ∧ ob' = [(0, .p [(.bool b5086)])]) := by
  unfold m76_3 at h
  refine Fn_of (sz := 11) tab_ok [0, 1, 2, 3, 4, 5, 6] [] Tryd.func76 rfl rfl rfl (by simp) ?_
  simp only [initSt, initEnv, List.map_cons, List.map_nil, List.getD_cons_zero, List.getD_cons_succ, List.getD_nil]
  have hh := getA2_some h; clear h; obtain ⟨p5065, p5066, h5064, h⟩ := hh
  have hh := getL_some h; clear h; obtain ⟨n5068, c5069, h5067, h⟩ := hh
  have hh := bnd'_some h; clear h; obtain ⟨p5070, h5071, h⟩ := hh
  refine W_sound tab_ok mixed 17 _ _ _ ?_
  simp -implicitDefEqProofs only [go_sem, qa, qb, qc, qd, qe, qf, qg, qh, qi, qj, qk, ↓reduceIte, h5064, h5067]
  repeat with_reducible refine ⟨by first | kernel_rfl | decide, ?_⟩
  refine Wp_callP (c97 N  _ h5071) (by kernel_rfl) rfl rfl rfl rfl (by decide) ?_
  have hh := getA5_some h; clear h; obtain ⟨p5073, p5074, p5075, p5076, p5077, h5072, h⟩ := hh
  have hh := bnd'_some h; clear h; obtain ⟨⟨p5078, p5080, b5081, p5082⟩, h5079, h⟩ := hh
  (try dsimp only at h)
  (try simp -implicitDefEqProofs only [go_sem, qa, qb, qc, qd, qe, qf, qg, qh, qi, qj, qk, ↓reduceIte, h5064, h5067, h5072])
  refine Wp_callD [5, 6, 0, 4, 13] (c99_5 N _ _ _ _ _ _ _ _ _ h5079) rfl rfl rfl (by first | rfl | (simp only [go_sem, qa, qb, qc, qd, qe, qf, qg, qh, qi, qj, qk, ↓reduceIte, h5064, h5067, h5072] <;> rfl)) rfl (by kernel_rfl) ?_
  have hh := getB_some h; clear h; obtain ⟨b5084, h5083, h⟩ := hh
  refine W_sound tab_ok mixed 2 _ _ _ ?_
  simp -implicitDefEqProofs only [go_sem, qa, qb, qc, qd, qe, qf, qg, qh, qi, qj, qk, ↓reduceIte, h5064, h5067, h5072, h5083]
  repeat with_reducible refine ⟨by first | kernel_rfl | decide, ?_⟩
  simp only [Option.some.injEq, Prod.mk.injEq] at h; obtain ⟨rfl, rfl⟩ := h
  exact finD (e2 := [(0, .dead), (1, .dead), (2, .dead), (3, .dead), (4, .dead), (5, .dead), (6, .dead)]) (ob2 := [(13, .r [.fn 99 [.ptr 5 0, .ptr 6 0, .ptr 4 0, .ptr 13 0]]), (4, .p [p5065, p5082]), (0, .p [(.bool b5081)]), (6, .r [.fn 100 [.ptr 0 0]]), (5, .p [p5080])]) (st' := ⟨[], [(0, .dead), (1, .dead), (2, .dead), (3, .dead), (4, .dead), (5, .dead), (6, .dead)], [(0, .p [(.bool b5081)])], 1, []⟩) (.k (.k (.k (.k (.k (.k (.k .nil))))))) (.cons _ _ _ _ _ (DLes.refl _) (.cons _ _ _ _ _ (DLes.refl _) (.cons _ _ _ _ _ (DLes.refl _) (.cons _ _ _ _ _ (DLes.refl _) (.cons _ _ _ _ _ (DLes.refl _) .nil))))) (by kernel_rfl) (by simp only [go_sem, qa, qb, qc, qd, qe, qf, qg, qh, qi, qj, qk, ↓reduceIte, resQ_tmp, resQ_cell, resQ_nil, retD_one, retD_two, retD_three, retD_none]; try simp [R.val, retD_one, retD_two, retD_three, retD_none])
def m82 (N : Nat) (p4608 : PV) (p4609 : PV) : Option (PV) :=
  getA2 p4608 fun p4611 p4612 =>
  getL p4609 fun n4614 c4615 =>
  bnd' (m76_3 N (.agg [p4611, p4612]) (.lst false n4614 c4615) false) fun (p5087, b5089) =>
  getT0 p5087 <|
  some (.bool b5089)
theorem c82 (N : Nat) (p4608 : PV) (p4609 : PV) (r : PV)  (h : m82 N p4608 p4609 = some r) : FnP Tryd.prog 82 [p4608, p4609] r := by
  unfold m82 at h
  refine Fn_of (sz := 11) tab_ok [0, 1, 2, 4, 5] [.tmp 4] Tryd.func82 rfl rfl rfl (by simp) ?_
  simp only [initSt, initEnv, List.map_cons, List.map_nil, List.getD_cons_zero, List.getD_cons_succ, List.getD_nil]
  have hh := getA2_some h; clear h; obtain ⟨p4611, p4612, h4610, h⟩ := hh
  have hh := getL_some h; clear h; obtain ⟨n4614, c4615, h4613, h⟩ := hh
  have hh := bnd'_some h; clear h; obtain ⟨⟨p5087, b5089⟩, h5088, h⟩ := hh
  (try dsimp only at h)
  refine W_sound tab_ok mixed 15 _ _ _ ?_
  simp -implicitDefEqProofs only [go_sem, qa, qb, qc, qd, qe, qf, qg, qh, qi, qj, qk, ↓reduceIte, h4610, h4613]
  repeat with_reducible refine ⟨by first | kernel_rfl | decide, ?_⟩
  refine Wp_callD [8] (c76_3 N _ _ _ _ _ h5088) rfl rfl rfl (by first | rfl | (simp only [go_sem, qa, qb, qc, qd, qe, qf, qg, qh, qi, qj, qk, ↓reduceIte, h4610, h4613] <;> rfl)) rfl (by kernel_rfl) ?_
  have hh := getT0_some h; clear h; obtain ⟨h5090, h⟩ := hh
  refine W_sound tab_ok mixed 8 _ _ _ ?_
  simp -implicitDefEqProofs only [go_sem, qa, qb, qc, qd, qe, qf, qg, qh, qi, qj, qk, ↓reduceIte, h4610, h4613, h5090]
  repeat with_reducible refine ⟨by first | kernel_rfl | decide, ?_⟩
  obtain rfl := Option.some.inj h
  exact finC [(4, .v (.bool b5089))] [(4, .v (.bool b5089))] (by simp [leE, lk_cons]) (.cons _ _ _ _ _ (.v _ _ (.refl _)) .nil) (by rfl) (by simp [leE, lk_cons]) (by decide) (by decide) rfl (by simp only [go_sem, qa, qb, qc, qd, qe, qf, qg, qh, qi, qj, qk, ↓reduceIte, resQ_tmp, resQ_cell, resQ_nil, retD_one, retD_two, retD_three, retD_none]; try simp [R.val, retD_one, retD_two, retD_three, retD_none])
def m68_3_L0 (N : Nat) (x4597 : Int) (b4598 : Bool) (p4599 : PV) : Nat → PV → Int → Option (PV)
  | 0, _, _ => none
  | n + 1, p5096, x5097 =>
    brn (decide (x5097 < (IntKind.u64.wrap (1 * 2 ^ (min (Int.toNat x4597) 64))))) (
      bnd' (m77 N x5097) fun p5099 =>
      getL p5099 fun n5102 c5103 =>
      bnd' (m82 N p4599 (.lst false n5102 c5103)) fun p5104 =>
      getB p5104 fun b5107 =>
      brn b5107 (
        getIf 1000025 p5096 (
          m68_3_L0 N x4597 b4598 p4599 n (.fn 1000025 [(.lst false n5102 c5103)]) (IntKind.u64.wrap (x5097 + 1))) fun p5110 =>
        getL p5110 fun n5112 c5113 =>
        brn (((n5102 : Nat) : Int) == ((n5112 : Nat) : Int)) (
          bnd' (m47 N (.lst false n5102 c5103) (.lst false n5112 c5113)) fun p5115 =>
          getI .i64 p5115 fun x5118 =>
          brn (decide (x5118 < 0)) (
            m68_3_L0 N x4597 b4598 p4599 n (.fn 1000025 [(.lst false n5102 c5103)]) (IntKind.u64.wrap (x5097 + 1))) (
            brn (((n5102 : Nat) : Int) != ((n5112 : Nat) : Int)) (
              brn ((decide (((n5102 : Nat) : Int) > ((n5112 : Nat) : Int))) == b4598) (
                m68_3_L0 N x4597 b4598 p4599 n (.fn 1000025 [(.lst false n5102 c5103)]) (IntKind.u64.wrap (x5097 + 1))) (
                m68_3_L0 N x4597 b4598 p4599 n (.fn 1000025 [(.lst false n5112 c5113)]) (IntKind.u64.wrap (x5097 + 1)))) (
              m68_3_L0 N x4597 b4598 p4599 n (.fn 1000025 [(.lst false n5112 c5113)]) (IntKind.u64.wrap (x5097 + 1))))) (
          brn (((n5102 : Nat) : Int) != ((n5112 : Nat) : Int)) (
            brn ((decide (((n5102 : Nat) : Int) > ((n5112 : Nat) : Int))) == b4598) (
              m68_3_L0 N x4597 b4598 p4599 n (.fn 1000025 [(.lst false n5102 c5103)]) (IntKind.u64.wrap (x5097 + 1))) (
              m68_3_L0 N x4597 b4598 p4599 n (.fn 1000025 [(.lst false n5112 c5113)]) (IntKind.u64.wrap (x5097 + 1)))) (
            m68_3_L0 N x4597 b4598 p4599 n (.fn 1000025 [(.lst false n5112 c5113)]) (IntKind.u64.wrap (x5097 + 1))))) (
        m68_3_L0 N x4597 b4598 p4599 n p5096 (IntKind.u64.wrap (x5097 + 1)))) (
      some p5096)
def m68_3 (N : Nat) (x4597 : Int) (b4598 : Bool) (p4599 : PV) : Option (PV) :=
  grd (0 ≤ x4597) <|
  bnd' (m68_3_L0 N x4597 b4598 p4599 N (.fn 999999 []) 0) fun p5124 =>
  getIf 1000025 p5124 (
    some (.tup [(.lst false 0 []), (.bool false)])) fun p5126 =>
  getL p5126 fun n5128 c5129 =>
  some (.tup [(.lst false n5128 c5129), (.bool true)])
theorem c68_3 (N : Nat) (x4597 : Int) (b4598 : Bool) (p4599 : PV) (r : PV)  (h : m68_3 N x4597 b4598 p4599 = some r) : FnP Tryd.prog 68 [(.int .i64 x4597), (.bool b4598), (.fn 999999 [(.fn 82 []), p4599])] r := by
  unfold m68_3 at h
  refine Fn_of (sz := 74) tab_ok [0, 1, 2, 6, 7, 8, 9, 10, 11, 12, 13, 14, 15, 17, 18, 19, 26, 63] [.tmp 6, .tmp 7] Tryd.func68 rfl rfl rfl (by simp) ?_
  simp only [initSt, initEnv, List.map_cons, List.map_nil, List.getD_cons_zero, List.getD_cons_succ, List.getD_nil]
  have hh := grd_some h; clear h; obtain ⟨g4600, h⟩ := hh
  refine W_sound tab_ok mixed 16 _ _ _ ?_
  simp -implicitDefEqProofs only [go_sem, qa, qb, qc, qd, qe, qf, qg, qh, qi, qj, qk, ↓reduceIte, g4600]
  repeat with_reducible refine ⟨by first | kernel_rfl | decide, ?_⟩
  have hh := bnd'_some h; clear h; obtain ⟨o5130, h5131, h5132⟩ := hh
  refine Wp_cut (fun s => ∃ p5124, p5124 = o5130 ∧ s = ⟨[], [(0, .dead), (1, .dead), (2, .dead), (6, .dead), (7, .dead), (8, .v p5124), (9, .dead), (10, .dead), (11, .dead), (12, .dead), (13, .dead), (14, .dead), (15, .dead), (17, .dead), (18, .dead), (19, .dead), (26, .dead), (63, .dead)], [], 0, []⟩) ?_ ?_
  · refine Wp_block ?_
    refine Wp_loopG (fun n s => ∃ p5096, ∃ x5097, m68_3_L0 N x4597 b4598 p4599 n p5096 x5097 = some o5130 ∧ s = ⟨[], [(0, .dead), (1, .v (.bool b4598)), (2, .v (.fn 999999 [(.fn 82 []), p4599])), (6, .dead), (7, .dead), (8, .v p5096), (9, .dead), (10, .dead), (11, .dead), (12, .dead), (13, .dead), (14, .dead), (15, .dead), (17, .v (.int .u64 (IntKind.u64.wrap (1 * 2 ^ (min (Int.toNat x4597) 64))))), (18, .v (.int .u64 x5097)), (19, .dead), (26, .dead), (63, .dead)], [], 0, []⟩) N _ ((Wk_le (.k (.r (.r (.k (.k (.r (.r (.r (.r (.r (.r (.r (.r (.r (.r (.r (.r (.r .nil)))))))))))))))))) (OLe.refl _)).trans (cmpS_ok (st' := ⟨[], [(0, .dead), (1, .v (.bool b4598)), (2, .v (.fn 999999 [(.fn 82 []), p4599])), (6, .dead), (7, .dead), (8, .v (.fn 999999 [])), (9, .dead), (10, .dead), (11, .dead), (12, .dead), (13, .dead), (14, .dead), (15, .dead), (17, .v (.int .u64 (IntKind.u64.wrap (1 * 2 ^ (min (Int.toNat x4597) 64))))), (18, .v (.int .u64 0)), (19, .dead), (26, .dead), (63, .dead)], [], 0, []⟩) (by kernel_rfl))) ⟨_, _, h5131, rfl⟩ ?_
    clear h5131
    rintro n _ ⟨p5096, x5097, h5131, rfl⟩
    cases n with
    | zero => cases h5131
    | succ n =>
      rw [m68_3_L0] at h5131
      have hh := brn_some h5131; clear h5131; rcases hh with ⟨h5098, h5131⟩ | ⟨h5098, h5131⟩
      · have hh := bnd'_some h5131; clear h5131; obtain ⟨p5099, h5100, h5131⟩ := hh
        refine W_sound tab_ok mixed 17 _ _ _ ?_
        simp -implicitDefEqProofs only [go_sem, qa, qb, qc, qd, qe, qf, qg, qh, qi, qj, qk, ↓reduceIte, g4600, h5098]
        repeat with_reducible refine ⟨by first | kernel_rfl | decide, ?_⟩
        refine Wp_callP (c77 N _ _ h5100) (by kernel_rfl) rfl rfl rfl rfl (by decide) ?_
        have hh := getL_some h5131; clear h5131; obtain ⟨n5102, c5103, h5101, h5131⟩ := hh
        have hh := bnd'_some h5131; clear h5131; obtain ⟨p5104, h5105, h5131⟩ := hh
        refine W_sound tab_ok mixed 7 _ _ _ ?_
        simp -implicitDefEqProofs only [go_sem, qa, qb, qc, qd, qe, qf, qg, qh, qi, qj, qk, ↓reduceIte, g4600, h5098, h5101]
        repeat with_reducible refine ⟨by first | kernel_rfl | decide, ?_⟩
        refine Wp_callP (c82 N _ _ _ h5105) (by kernel_rfl) rfl rfl rfl rfl (by decide) ?_
        have hh := getB_some h5131; clear h5131; obtain ⟨b5107, h5106, h5131⟩ := hh
        have hh := brn_some h5131; clear h5131; rcases hh with ⟨h5108, h5131⟩ | ⟨h5108, h5131⟩
        · have hh := getIf_some h5131; clear h5131; rcases hh with ⟨h5109, h5131⟩ | ⟨p5110, h5109, h5131⟩
          · refine W_sound tab_ok mixed 64 _ _ _ ?_
            simp -implicitDefEqProofs only [go_sem, qa, qb, qc, qd, qe, qf, qg, qh, qi, qj, qk, ↓reduceIte, g4600, h5098, h5101, h5106, h5108, h5109]
            repeat with_reducible refine ⟨by first | kernel_rfl | decide, ?_⟩
            exact cutQ _ ((Wk_le (.r (.r (.r (.r (.r (.r (.k (.k (.k (.k (.k (.r (.r (.r (.r (.k (.k (.k .nil)))))))))))))))))) (OLe.refl _)).trans (cmpS_ok (st' := ⟨[], [(0, .dead), (1, .v (.bool b4598)), (2, .v (.fn 999999 [(.fn 82 []), p4599])), (6, .dead), (7, .dead), (8, .v (.fn 1000025 [(.lst false n5102 c5103)])), (9, .dead), (10, .dead), (11, .dead), (12, .dead), (13, .dead), (14, .dead), (15, .dead), (17, .v (.int .u64 (IntKind.u64.wrap (1 * 2 ^ (min (Int.toNat x4597) 64))))), (18, .v (.int .u64 (IntKind.u64.wrap (x5097 + 1)))), (19, .dead), (26, .dead), (63, .dead)], [], 0, []⟩) (by kernel_rfl))) ⟨n, Nat.lt_succ_self n, _, _, h5131, rfl⟩
          · have hh := getL_some h5131; clear h5131; obtain ⟨n5112, c5113, h5111, h5131⟩ := hh
            have hh := brn_some h5131; clear h5131; rcases hh with ⟨h5114, h5131⟩ | ⟨h5114, h5131⟩
            · have hh := bnd'_some h5131; clear h5131; obtain ⟨p5115, h5116, h5131⟩ := hh
              refine W_sound tab_ok mixed 27 _ _ _ ?_
              simp -implicitDefEqProofs only [go_sem, qa, qb, qc, qd, qe, qf, qg, qh, qi, qj, qk, ↓reduceIte, g4600, h5098, h5101, h5106, h5108, h5109, h5111, h5114]
              repeat with_reducible refine ⟨by first | kernel_rfl | decide, ?_⟩
              refine Wp_callP (c47 N _ _ _ h5116) (by kernel_rfl) rfl rfl rfl rfl (by decide) ?_
              have hh := getI_some h5131; clear h5131; obtain ⟨x5118, h5117, h5131⟩ := hh
              have hh := brn_some h5131; clear h5131; rcases hh with ⟨h5119, h5131⟩ | ⟨h5119, h5131⟩
              · refine W_sound tab_ok mixed 36 _ _ _ ?_
                simp -implicitDefEqProofs only [go_sem, qa, qb, qc, qd, qe, qf, qg, qh, qi, qj, qk, ↓reduceIte, g4600, h5098, h5101, h5106, h5108, h5109, h5111, h5114, h5117, h5119]
                repeat with_reducible refine ⟨by first | kernel_rfl | decide, ?_⟩
                exact cutQ _ ((Wk_le (.r (.r (.r (.r (.r (.r (.k (.k (.k (.k (.k (.r (.r (.r (.r (.k (.k (.k .nil)))))))))))))))))) (OLe.refl _)).trans (cmpS_ok (st' := ⟨[], [(0, .dead), (1, .v (.bool b4598)), (2, .v (.fn 999999 [(.fn 82 []), p4599])), (6, .dead), (7, .dead), (8, .v (.fn 1000025 [(.lst false n5102 c5103)])), (9, .dead), (10, .dead), (11, .dead), (12, .dead), (13, .dead), (14, .dead), (15, .dead), (17, .v (.int .u64 (IntKind.u64.wrap (1 * 2 ^ (min (Int.toNat x4597) 64))))), (18, .v (.int .u64 (IntKind.u64.wrap (x5097 + 1)))), (19, .dead), (26, .dead), (63, .dead)], [], 0, []⟩) (by kernel_rfl))) ⟨n, Nat.lt_succ_self n, _, _, h5131, rfl⟩
              · have hh := brn_some h5131; clear h5131; rcases hh with ⟨h5120, h5131⟩ | ⟨h5120, h5131⟩
                · have hh := brn_some h5131; clear h5131; rcases hh with ⟨h5121, h5131⟩ | ⟨h5121, h5131⟩
                  · refine W_sound tab_ok mixed 36 _ _ _ ?_
                    simp -implicitDefEqProofs only [go_sem, qa, qb, qc, qd, qe, qf, qg, qh, qi, qj, qk, ↓reduceIte, g4600, h5098, h5101, h5106, h5108, h5109, h5111, h5114, h5117, h5119, h5120, h5121]
                    repeat with_reducible refine ⟨by first | kernel_rfl | decide, ?_⟩
                    exact cutQ _ ((Wk_le (.r (.r (.r (.r (.r (.r (.k (.k (.k (.k (.k (.r (.r (.r (.r (.k (.k (.k .nil)))))))))))))))))) (OLe.refl _)).trans (cmpS_ok (st' := ⟨[], [(0, .dead), (1, .v (.bool b4598)), (2, .v (.fn 999999 [(.fn 82 []), p4599])), (6, .dead), (7, .dead), (8, .v (.fn 1000025 [(.lst false n5102 c5103)])), (9, .dead), (10, .dead), (11, .dead), (12, .dead), (13, .dead), (14, .dead), (15, .dead), (17, .v (.int .u64 (IntKind.u64.wrap (1 * 2 ^ (min (Int.toNat x4597) 64))))), (18, .v (.int .u64 (IntKind.u64.wrap (x5097 + 1)))), (19, .dead), (26, .dead), (63, .dead)], [], 0, []⟩) (by kernel_rfl))) ⟨n, Nat.lt_succ_self n, _, _, h5131, rfl⟩
                  · refine W_sound tab_ok mixed 32 _ _ _ ?_
                    simp -implicitDefEqProofs only [go_sem, qa, qb, qc, qd, qe, qf, qg, qh, qi, qj, qk, ↓reduceIte, g4600, h5098, h5101, h5106, h5108, h5109, h5111, h5114, h5117, h5119, h5120, h5121]
                    repeat with_reducible refine ⟨by first | kernel_rfl | decide, ?_⟩
                    exact cutQ _ ((Wk_le (.r (.r (.r (.r (.r (.r (.k (.k (.k (.k (.k (.r (.r (.r (.r (.k (.k (.k .nil)))))))))))))))))) (OLe.refl _)).trans (cmpS_ok (st' := ⟨[], [(0, .dead), (1, .v (.bool b4598)), (2, .v (.fn 999999 [(.fn 82 []), p4599])), (6, .dead), (7, .dead), (8, .v (.fn 1000025 [(.lst false n5112 c5113)])), (9, .dead), (10, .dead), (11, .dead), (12, .dead), (13, .dead), (14, .dead), (15, .dead), (17, .v (.int .u64 (IntKind.u64.wrap (1 * 2 ^ (min (Int.toNat x4597) 64))))), (18, .v (.int .u64 (IntKind.u64.wrap (x5097 + 1)))), (19, .dead), (26, .dead), (63, .dead)], [], 0, []⟩) (by kernel_rfl))) ⟨n, Nat.lt_succ_self n, _, _, h5131, rfl⟩
                · refine W_sound tab_ok mixed 32 _ _ _ ?_
                  simp -implicitDefEqProofs only [go_sem, qa, qb, qc, qd, qe, qf, qg, qh, qi, qj, qk, ↓reduceIte, g4600, h5098, h5101, h5106, h5108, h5109, h5111, h5114, h5117, h5119, h5120]
                  repeat with_reducible refine ⟨by first | kernel_rfl | decide, ?_⟩
                  exact cutQ _ ((Wk_le (.r (.r (.r (.r (.r (.r (.k (.k (.k (.k (.k (.r (.r (.r (.r (.k (.k (.k .nil)))))))))))))))))) (OLe.refl _)).trans (cmpS_ok (st' := ⟨[], [(0, .dead), (1, .v (.bool b4598)), (2, .v (.fn 999999 [(.fn 82 []), p4599])), (6, .dead), (7, .dead), (8, .v (.fn 1000025 [(.lst false n5112 c5113)])), (9, .dead), (10, .dead), (11, .dead), (12, .dead), (13, .dead), (14, .dead), (15, .dead), (17, .v (.int .u64 (IntKind.u64.wrap (1 * 2 ^ (min (Int.toNat x4597) 64))))), (18, .v (.int .u64 (IntKind.u64.wrap (x5097 + 1)))), (19, .dead), (26, .dead), (63, .dead)], [], 0, []⟩) (by kernel_rfl))) ⟨n, Nat.lt_succ_self n, _, _, h5131, rfl⟩
            · have hh := brn_some h5131; clear h5131; rcases hh with ⟨h5122, h5131⟩ | ⟨h5122, h5131⟩
              · have hh := brn_some h5131; clear h5131; rcases hh with ⟨h5123, h5131⟩ | ⟨h5123, h5131⟩
                · refine W_sound tab_ok mixed 64 _ _ _ ?_
                  simp -implicitDefEqProofs only [go_sem, qa, qb, qc, qd, qe, qf, qg, qh, qi, qj, qk, ↓reduceIte, g4600, h5098, h5101, h5106, h5108, h5109, h5111, h5114, h5122, h5123]
                  repeat with_reducible refine ⟨by first | kernel_rfl | decide, ?_⟩
                  exact cutQ _ ((Wk_le (.r (.r (.r (.r (.r (.r (.k (.k (.k (.k (.k (.r (.r (.r (.r (.k (.k (.k .nil)))))))))))))))))) (OLe.refl _)).trans (cmpS_ok (st' := ⟨[], [(0, .dead), (1, .v (.bool b4598)), (2, .v (.fn 999999 [(.fn 82 []), p4599])), (6, .dead), (7, .dead), (8, .v (.fn 1000025 [(.lst false n5102 c5103)])), (9, .dead), (10, .dead), (11, .dead), (12, .dead), (13, .dead), (14, .dead), (15, .dead), (17, .v (.int .u64 (IntKind.u64.wrap (1 * 2 ^ (min (Int.toNat x4597) 64))))), (18, .v (.int .u64 (IntKind.u64.wrap (x5097 + 1)))), (19, .dead), (26, .dead), (63, .dead)], [], 0, []⟩) (by kernel_rfl))) ⟨n, Nat.lt_succ_self n, _, _, h5131, rfl⟩
                · refine W_sound tab_ok mixed 60 _ _ _ ?_
                  simp -implicitDefEqProofs only [go_sem, qa, qb, qc, qd, qe, qf, qg, qh, qi, qj, qk, ↓reduceIte, g4600, h5098, h5101, h5106, h5108, h5109, h5111, h5114, h5122, h5123]
                  repeat with_reducible refine ⟨by first | kernel_rfl | decide, ?_⟩
                  exact cutQ _ ((Wk_le (.r (.r (.r (.r (.r (.r (.k (.k (.k (.k (.k (.r (.r (.r (.r (.k (.k (.k .nil)))))))))))))))))) (OLe.refl _)).trans (cmpS_ok (st' := ⟨[], [(0, .dead), (1, .v (.bool b4598)), (2, .v (.fn 999999 [(.fn 82 []), p4599])), (6, .dead), (7, .dead), (8, .v (.fn 1000025 [(.lst false n5112 c5113)])), (9, .dead), (10, .dead), (11, .dead), (12, .dead), (13, .dead), (14, .dead), (15, .dead), (17, .v (.int .u64 (IntKind.u64.wrap (1 * 2 ^ (min (Int.toNat x4597) 64))))), (18, .v (.int .u64 (IntKind.u64.wrap (x5097 + 1)))), (19, .dead), (26, .dead), (63, .dead)], [], 0, []⟩) (by kernel_rfl))) ⟨n, Nat.lt_succ_self n, _, _, h5131, rfl⟩
              · refine W_sound tab_ok mixed 60 _ _ _ ?_
                simp -implicitDefEqProofs only [go_sem, qa, qb, qc, qd, qe, qf, qg, qh, qi, qj, qk, ↓reduceIte, g4600, h5098, h5101, h5106, h5108, h5109, h5111, h5114, h5122]
                repeat with_reducible refine ⟨by first | kernel_rfl | decide, ?_⟩
                exact cutQ _ ((Wk_le (.r (.r (.r (.r (.r (.r (.k (.k (.k (.k (.k (.r (.r (.r (.r (.k (.k (.k .nil)))))))))))))))))) (OLe.refl _)).trans (cmpS_ok (st' := ⟨[], [(0, .dead), (1, .v (.bool b4598)), (2, .v (.fn 999999 [(.fn 82 []), p4599])), (6, .dead), (7, .dead), (8, .v (.fn 1000025 [(.lst false n5112 c5113)])), (9, .dead), (10, .dead), (11, .dead), (12, .dead), (13, .dead), (14, .dead), (15, .dead), (17, .v (.int .u64 (IntKind.u64.wrap (1 * 2 ^ (min (Int.toNat x4597) 64))))), (18, .v (.int .u64 (IntKind.u64.wrap (x5097 + 1)))), (19, .dead), (26, .dead), (63, .dead)], [], 0, []⟩) (by kernel_rfl))) ⟨n, Nat.lt_succ_self n, _, _, h5131, rfl⟩
        · refine W_sound tab_ok mixed 8 _ _ _ ?_
          simp -implicitDefEqProofs only [go_sem, qa, qb, qc, qd, qe, qf, qg, qh, qi, qj, qk, ↓reduceIte, g4600, h5098, h5101, h5106, h5108]
          repeat with_reducible refine ⟨by first | kernel_rfl | decide, ?_⟩
          exact cutQ _ ((Wk_le (.r (.r (.r (.r (.r (.r (.k (.k (.r (.r (.r (.r (.r (.r (.r (.k (.k (.r .nil)))))))))))))))))) (OLe.refl _)).trans (cmpS_ok (st' := ⟨[], [(0, .dead), (1, .v (.bool b4598)), (2, .v (.fn 999999 [(.fn 82 []), p4599])), (6, .dead), (7, .dead), (8, .v p5096), (9, .dead), (10, .dead), (11, .dead), (12, .dead), (13, .dead), (14, .dead), (15, .dead), (17, .v (.int .u64 (IntKind.u64.wrap (1 * 2 ^ (min (Int.toNat x4597) 64))))), (18, .v (.int .u64 (IntKind.u64.wrap (x5097 + 1)))), (19, .dead), (26, .dead), (63, .dead)], [], 0, []⟩) (by kernel_rfl))) ⟨n, Nat.lt_succ_self n, _, _, h5131, rfl⟩
      · refine W_sound tab_ok mixed 7 _ _ _ ?_
        simp -implicitDefEqProofs only [go_sem, qa, qb, qc, qd, qe, qf, qg, qh, qi, qj, qk, ↓reduceIte, g4600, h5098]
        repeat with_reducible refine ⟨by first | kernel_rfl | decide, ?_⟩
        obtain rfl := Option.some.inj h5131
        exact cutQ _ ((Wk_le (.r (.k (.k (.r (.r (.r (.r (.r (.r (.r (.r (.r (.r (.k (.k (.k (.r (.r .nil)))))))))))))))))) (OLe.refl _)).trans (cmpS_ok (st' := ⟨[], [(0, .dead), (1, .dead), (2, .dead), (6, .dead), (7, .dead), (8, .v p5096), (9, .dead), (10, .dead), (11, .dead), (12, .dead), (13, .dead), (14, .dead), (15, .dead), (17, .dead), (18, .dead), (19, .dead), (26, .dead), (63, .dead)], [], 0, []⟩) (by kernel_rfl))) ⟨_, rfl, rfl⟩
  · rintro _ ⟨p5124, rfl, rfl⟩
    have hh := getIf_some h5132; clear h5132; rcases hh with ⟨h5125, h5132⟩ | ⟨p5126, h5125, h5132⟩
    · refine W_sound tab_ok mixed 19 _ _ _ ?_
      simp -implicitDefEqProofs only [go_sem, qa, qb, qc, qd, qe, qf, qg, qh, qi, qj, qk, ↓reduceIte, g4600, h5125]
      repeat with_reducible refine ⟨by first | kernel_rfl | decide, ?_⟩
      obtain rfl := Option.some.inj h5132
      exact finC [(6, .v .nl), (7, .v (.bool false))] [(6, .v (.lst false 0 [])), (7, .v (.bool false))] (by simp [leE, lk_cons]) (.cons _ _ _ _ _ (.v _ _ (.nl false)) (.cons _ _ _ _ _ (.v _ _ (.refl _)) .nil)) (by rfl) (by simp [leE, lk_cons]) (by decide) (by decide) rfl (by simp only [go_sem, qa, qb, qc, qd, qe, qf, qg, qh, qi, qj, qk, ↓reduceIte, resQ_tmp, resQ_cell, resQ_nil, retD_one, retD_two, retD_three, retD_none]; try simp [R.val, retD_one, retD_two, retD_three, retD_none])
    · have hh := getL_some h5132; clear h5132; obtain ⟨n5128, c5129, h5127, h5132⟩ := hh
      refine W_sound tab_ok mixed 19 _ _ _ ?_
      simp -implicitDefEqProofs only [go_sem, qa, qb, qc, qd, qe, qf, qg, qh, qi, qj, qk, ↓reduceIte, g4600, h5125, h5127]
      repeat with_reducible refine ⟨by first | kernel_rfl | decide, ?_⟩
      obtain rfl := Option.some.inj h5132
      exact finC [(6, .v (.lst false n5128 c5129)), (7, .v (.bool true))] [(6, .v (.lst false n5128 c5129)), (7, .v (.bool true))] (by simp [leE, lk_cons]) (.cons _ _ _ _ _ (.v _ _ (.refl _)) (.cons _ _ _ _ _ (.v _ _ (.refl _)) .nil)) (by rfl) (by simp [leE, lk_cons]) (by decide) (by decide) rfl (by simp only [go_sem, qa, qb, qc, qd, qe, qf, qg, qh, qi, qj, qk, ↓reduceIte, resQ_tmp, resQ_cell, resQ_nil, retD_one, retD_two, retD_three, retD_none]; try simp [R.val, retD_one, retD_two, retD_three, retD_none])
def m32 (N : Nat) (p4585 : PV) : Option (PV) :=
  getA2 p4585 fun p4587 p4588 =>
  bnd' (m22 N (.agg [p4587, p4588])) fun p4589 =>
  getI .i64 p4589 fun x4592 =>
  brn (x4592 != 0) (
    some (.tup [(.lst false 0 []), (.int .i64 x4592)])) (
    getL p4588 fun n4595 c4596 =>
    bnd' (m68_3 N ((n4595 : Nat) : Int) true (.agg [p4587, (.lst false n4595 c4596)])) fun p5133 =>
    getT2 p5133 fun p5136 p5137 =>
    getL p5136 fun n5139 c5140 =>
    getB p5137 fun b5142 =>
    some (.tup [(.lst false n5139 c5140), (.int .i64 0)]))
theorem c32 (N : Nat) (p4585 : PV) (r : PV)  (h : m32 N p4585 = some r) : FnP Tryd.prog 32 [p4585] r := by
  unfold m32 at h
  refine Fn_of (sz := 22) tab_ok [0, 1, 2, 3, 4, 5, 10] [.tmp 2, .tmp 3] Tryd.func32 rfl rfl rfl (by simp) ?_
  simp only [initSt, initEnv, List.map_cons, List.map_nil, List.getD_cons_zero, List.getD_cons_succ, List.getD_nil]
  have hh := getA2_some h; clear h; obtain ⟨p4587, p4588, h4586, h⟩ := hh
  have hh := bnd'_some h; clear h; obtain ⟨p4589, h4590, h⟩ := hh
  refine W_sound tab_ok mixed 10 _ _ _ ?_
  simp -implicitDefEqProofs only [go_sem, qa, qb, qc, qd, qe, qf, qg, qh, qi, qj, qk, ↓reduceIte, h4586]
  repeat with_reducible refine ⟨by first | kernel_rfl | decide, ?_⟩
  refine Wp_callP (c22 N _ _ h4590) (by kernel_rfl) rfl rfl rfl rfl (by decide) ?_
  have hh := getI_some h; clear h; obtain ⟨x4592, h4591, h⟩ := hh
  have hh := brn_some h; clear h; rcases hh with ⟨h4593, h⟩ | ⟨h4593, h⟩
  · refine W_sound tab_ok mixed 16 _ _ _ ?_
    simp -implicitDefEqProofs only [go_sem, qa, qb, qc, qd, qe, qf, qg, qh, qi, qj, qk, ↓reduceIte, h4586, h4591, h4593]
    repeat with_reducible refine ⟨by first | kernel_rfl | decide, ?_⟩
    obtain rfl := Option.some.inj h
    exact finC [(2, .v .nl), (3, .v (.int .i64 x4592))] [(2, .v (.lst false 0 [])), (3, .v (.int .i64 x4592))] (by simp [leE, lk_cons]) (.cons _ _ _ _ _ (.v _ _ (.nl false)) (.cons _ _ _ _ _ (.v _ _ (.refl _)) .nil)) (by rfl) (by simp [leE, lk_cons]) (by decide) (by decide) rfl (by simp only [go_sem, qa, qb, qc, qd, qe, qf, qg, qh, qi, qj, qk, ↓reduceIte, resQ_tmp, resQ_cell, resQ_nil, retD_one, retD_two, retD_three, retD_none]; try simp [R.val, retD_one, retD_two, retD_three, retD_none])
  · have hh := getL_some h; clear h; obtain ⟨n4595, c4596, h4594, h⟩ := hh
    have hh := bnd'_some h; clear h; obtain ⟨p5133, h5134, h⟩ := hh
    refine W_sound tab_ok mixed 16 _ _ _ ?_
    simp -implicitDefEqProofs only [go_sem, qa, qb, qc, qd, qe, qf, qg, qh, qi, qj, qk, ↓reduceIte, h4586, h4591, h4593, h4594]
    repeat with_reducible refine ⟨by first | kernel_rfl | decide, ?_⟩
    refine Wp_callP (c68_3 N _ _ _ _ h5134) (by kernel_rfl) rfl rfl rfl rfl (by decide) ?_
    have hh := getT2_some h; clear h; obtain ⟨p5136, p5137, h5135, h⟩ := hh
    have hh := getL_some h; clear h; obtain ⟨n5139, c5140, h5138, h⟩ := hh
    have hh := getB_some h; clear h; obtain ⟨b5142, h5141, h⟩ := hh
    refine W_sound tab_ok mixed 14 _ _ _ ?_
    simp -implicitDefEqProofs only [go_sem, qa, qb, qc, qd, qe, qf, qg, qh, qi, qj, qk, ↓reduceIte, h4586, h4591, h4593, h4594, h5135, h5138, h5141]
    repeat with_reducible refine ⟨by first | kernel_rfl | decide, ?_⟩
    obtain rfl := Option.some.inj h
    exact finC [(2, .v (.lst false n5139 c5140)), (3, .v (.int .i64 0))] [(2, .v (.lst false n5139 c5140)), (3, .v (.int .i64 0))] (by simp [leE, lk_cons]) (.cons _ _ _ _ _ (.v _ _ (.refl _)) (.cons _ _ _ _ _ (.v _ _ (.refl _)) .nil)) (by rfl) (by simp [leE, lk_cons]) (by decide) (by decide) rfl (by simp only [go_sem, qa, qb, qc, qd, qe, qf, qg, qh, qi, qj, qk, ↓reduceIte, resQ_tmp, resQ_cell, resQ_nil, retD_one, retD_two, retD_three, retD_none]; try simp [R.val, retD_one, retD_two, retD_three, retD_none])
def getA7 {α : Type} (p : PV) (k : PV → PV → PV → PV → PV → PV → PV → Option α) : Option α := match p with | .agg [a0, a1, a2, a3, a4, a5, a6] => k a0 a1 a2 a3 a4 a5 a6 | _ => none
theorem getA7_some {α : Type} {p : PV} {k : PV → PV → PV → PV → PV → PV → PV → Option α} {r : α} (h : getA7 p k = some r) : ∃ a0 a1 a2 a3 a4 a5 a6, p = .agg [a0, a1, a2, a3, a4, a5, a6] ∧ k a0 a1 a2 a3 a4 a5 a6 = some r := by
  unfold getA7 at h; split at h
  · exact ⟨_, _, _, _, _, _, _, rfl, h⟩
  · cases h
def m40_L2 (N : Nat) (x5144 : Int) (x5145 : Int) (x5146 : Int) (p5150 : PV) (p5151 : PV) (p5152 : PV) (p5153 : PV) (p5154 : PV) (x5156 : Int) (x5159 : Int) (x5335 : Int) (n5336 : Nat) (c5337 : List PV) (x5343 : Int) (x5396 : Int) : Nat → Nat → Int → Int → List PV → Option ((Nat × Int × List PV))
  | 0, _, _, _, _ => none
  | n + 1, n5407, x5408, x5409, c5410 =>
    brn (decide (x5409 < (IntKind.i64.wrap (1 + (Int.tmod (IntKind.i64.wrap x5156) x5144))))) (
      grd (0 ≤ x5408) <|
      brn ((bitsI .and .u16 (Int.fdiv x5343 (2 ^ (min (Int.toNat x5408) 16))) 1) == 1) (
        brn (decide (((n5407 : Nat) : Int) < x5146)) (
          grd ((n5407 + 1) ≤ 1099511627776) <|
          grd (List.length c5410 = (n5407 * 2)) <|
          m40_L2 N x5144 x5145 x5146 p5150 p5151 p5152 p5153 p5154 x5156 x5159 x5335 n5336 c5337 x5343 x5396 n (n5407 + 1) (IntKind.i64.wrap (x5408 + 1)) (IntKind.i64.wrap (x5409 + 1)) (c5410 ++ [(.int .i64 x5396), (.int .i64 x5409)])) (
          m40_L2 N x5144 x5145 x5146 p5150 p5151 p5152 p5153 p5154 x5156 x5159 x5335 n5336 c5337 x5343 x5396 n n5407 (IntKind.i64.wrap (x5408 + 1)) (IntKind.i64.wrap (x5409 + 1)) c5410)) (
        m40_L2 N x5144 x5145 x5146 p5150 p5151 p5152 p5153 p5154 x5156 x5159 x5335 n5336 c5337 x5343 x5396 n n5407 (IntKind.i64.wrap (x5408 + 1)) (IntKind.i64.wrap (x5409 + 1)) c5410)) (
      some (n5407, x5408, c5410))
def m40_L1 (N : Nat) (x5144 : Int) (x5145 : Int) (x5146 : Int) (p5150 : PV) (p5151 : PV) (p5152 : PV) (p5153 : PV) (p5154 : PV) (x5156 : Int) (x5159 : Int) (x5335 : Int) (n5336 : Nat) (c5337 : List PV) (x5343 : Int) : Nat → Nat → Int → Int → List PV → Option ((Nat × List PV))
  | 0, _, _, _, _ => none
  | n + 1, n5394, x5395, x5396, c5397 =>
    brn (decide (x5396 < (IntKind.i64.wrap (1 + (Int.tmod (IntKind.i64.wrap x5156) x5144))))) (
      bnd' (m40_L2 N x5144 x5145 x5146 p5150 p5151 p5152 p5153 p5154 x5156 x5159 x5335 n5336 c5337 x5343 x5396 N n5394 x5395 (IntKind.i64.wrap (x5396 + 1)) c5397) fun o =>
      match o with
      | (n5417, x5418, c5419) =>
        m40_L1 N x5144 x5145 x5146 p5150 p5151 p5152 p5153 p5154 x5156 x5159 x5335 n5336 c5337 x5343 n n5417 x5418 (IntKind.i64.wrap (x5396 + 1)) c5419) (
      some (n5394, c5397))
def m40_L0 (N : Nat) (x5144 : Int) (x5145 : Int) (x5146 : Int) (p5150 : PV) (p5151 : PV) (p5152 : PV) (p5153 : PV) (p5154 : PV) (x5156 : Int) (x5159 : Int) : Nat → Int → Nat → List PV → Option ((Nat × List PV))
  | 0, _, _, _ => none
  | n + 1, x5335, n5336, c5337 =>
    brn (decide (x5335 < (((Int.toNat (Int.tmod (IntKind.i64.wrap x5159) (IntKind.i64.wrap (x5145 + 1)))) : Nat) : Int))) (
      grd (0 ≤ x5335 ∧ x5335 < (((Int.toNat (Int.tmod (IntKind.i64.wrap x5159) (IntKind.i64.wrap (x5145 + 1)))) : Nat) : Int)) <|
      grd ((2 + (Int.toNat x5335)) < 7) <|
      getI .u16 (gp [(.int .u8 x5156), (.int .u8 x5159), p5150, p5151, p5152, p5153, p5154] (2 + (Int.toNat x5335))) fun x5343 =>
      bnd' (m40_L1 N x5144 x5145 x5146 p5150 p5151 p5152 p5153 p5154 x5156 x5159 x5335 n5336 c5337 x5343 N 0 0 0 []) fun o =>
      match o with
      | (n5420, c5421) =>
        grd ((n5336 + 1) ≤ 1099511627776) <|
        grd (List.length c5337 = n5336) <|
        grd (List.length c5421 = (n5420 * 2)) <|
        m40_L0 N x5144 x5145 x5146 p5150 p5151 p5152 p5153 p5154 x5156 x5159 n (IntKind.i64.wrap (x5335 + 1)) (n5336 + 1) (c5337 ++ [(.lst false n5420 c5421)])) (
      some (n5336, c5337))
def m40 (N : Nat) (p5143 : PV) (x5144 : Int) (x5145 : Int) (x5146 : Int) : Option (PV) :=
  getA7 p5143 fun p5148 p5149 p5150 p5151 p5152 p5153 p5154 =>
  getI .u8 p5148 fun x5156 =>
  grd (x5144 ≠ 0) <|
  getI .u8 p5149 fun x5159 =>
  grd ((IntKind.i64.wrap (x5145 + 1)) ≠ 0) <|
  grd (0 ≤ (Int.tmod (IntKind.i64.wrap x5159) (IntKind.i64.wrap (x5145 + 1))) ∧ (Int.tmod (IntKind.i64.wrap x5159) (IntKind.i64.wrap (x5145 + 1))) ≤ 5) <|
  bnd' (m40_L0 N x5144 x5145 x5146 p5150 p5151 p5152 p5153 p5154 x5156 x5159 N 0 0 []) fun o =>
  match o with
  | (n5425, c5426) =>
    grd (List.length c5426 = n5425) <|
    some (.agg [(.int .i64 (IntKind.i64.wrap (1 + (Int.tmod (IntKind.i64.wrap x5156) x5144)))), (.lst false n5425 c5426)])
theorem c40 (N : Nat) (p5143 : PV) (x5144 : Int) (x5145 : Int) (x5146 : Int) (r : PV)  (h : m40 N p5143 x5144 x5145 x5146 = some r) : FnP Tryd.prog 40 [p5143, (.int .i64 x5144), (.int .i64 x5145), (.int .i64 x5146)] r := by
  unfold m40 at h
  refine Fn_of (sz := 77) tab_ok [0, 1, 2, 3, 4, 8, 9, 11, 12, 13, 14, 15, 30, 31, 32, 33, 37, 38, 39, 46, 59] [.cell 8 24] Tryd.func40 rfl rfl rfl (by simp) ?_
  simp only [initSt, initEnv, List.map_cons, List.map_nil, List.getD_cons_zero, List.getD_cons_succ, List.getD_nil]
  have hh := getA7_some h; clear h; obtain ⟨p5148, p5149, p5150, p5151, p5152, p5153, p5154, h5147, h⟩ := hh
  have hh := getI_some h; clear h; obtain ⟨x5156, h5155, h⟩ := hh
  have hh := grd_some h; clear h; obtain ⟨g5157, h⟩ := hh
  have hh := getI_some h; clear h; obtain ⟨x5159, h5158, h⟩ := hh
  have hh := grd_some h; clear h; obtain ⟨g5160, h⟩ := hh
  have hh := grd_some h; clear h; obtain ⟨⟨g5161, g5162⟩, h⟩ := hh
  refine W_sound tab_ok mixed 31 _ _ _ ?_
  simp -implicitDefEqProofs only [go_sem, qa, qb, qc, qd, qe, qf, qg, qh, qi, qj, qk, ↓reduceIte, h5147, h5155, g5157, h5158, g5160, g5161, g5162]
  repeat with_reducible refine ⟨by first | kernel_rfl | decide, ?_⟩
  refine Wp_wkK Wk_norm rfl ?_
  simp -implicitDefEqProofs only [go_sem, qa, qb, qc, qd, qe, qf, qg, qh, qi, qj, qk, ↓reduceIte, normE, h5147, h5155, g5157, h5158, g5160, g5161, g5162]
  (try simp -implicitDefEqProofs only [go_sem, qa, qb, qc, qd, qe, qf, qg, qh, qi, qj, qk, ↓reduceIte, h5147, h5155, g5157, h5158, g5160, g5161, g5162])
  refine Wp_weaken (Wk_ownC 18 1 1 rfl rfl (by decide) (by decide)) ?_
  simp -implicitDefEqProofs only [go_sem, qa, qb, qc, qd, qe, qf, qg, qh, qi, qj, qk, ↓reduceIte, setO, h5147, h5155, g5157, h5158, g5160, g5161, g5162]
  have hh := bnd'_some h; clear h; obtain ⟨o5428, h5429, h5430⟩ := hh
  refine Wp_cut (fun s => ∃ n5425, ∃ c5426, (n5425, c5426) = o5428 ∧ s = ⟨[], [(0, .dead), (1, .dead), (2, .dead), (3, .dead), (4, .dead), (8, .ptr 0 0), (9, .ptr 1 0), (11, .dead), (12, .dead), (13, .dead), (14, .dead), (15, .dead), (30, .dead), (31, .dead), (32, .dead), (33, .dead), (37, .dead), (38, .dead), (39, .dead), (46, .dead), (59, .dead)], [(0, .p [(.int .i64 0), .nl]), (1, .r [.v (.int .i64 (IntKind.i64.wrap (1 + (Int.tmod (IntKind.i64.wrap x5156) x5144)))), .sl false 2 0 n5425 1]), (2, .p c5426)], 3, []⟩) ?_ ?_
  · refine Wp_block ?_
    refine Wp_loopG (fun n s => ∃ x5335, ∃ n5336, ∃ c5337, m40_L0 N x5144 x5145 x5146 p5150 p5151 p5152 p5153 p5154 x5156 x5159 n x5335 n5336 c5337 = some o5428 ∧ s = ⟨[], [(0, .dead), (1, .dead), (2, .dead), (3, .v (.int .i64 x5146)), (4, .dead), (8, .ptr 0 0), (9, .ptr 1 0), (11, .dead), (12, .dead), (13, .dead), (14, .dead), (15, .dead), (30, .sl false 2 2 (Int.toNat (Int.tmod (IntKind.i64.wrap x5159) (IntKind.i64.wrap (x5145 + 1)))) 1), (31, .v (.int .i64 (((Int.toNat (Int.tmod (IntKind.i64.wrap x5159) (IntKind.i64.wrap (x5145 + 1)))) : Nat) : Int))), (32, .v (.int .i64 x5335)), (33, .dead), (37, .dead), (38, .dead), (39, .dead), (46, .dead), (59, .dead)], [(0, .p [(.int .i64 0), .nl]), (1, .r [.v (.int .i64 (IntKind.i64.wrap (1 + (Int.tmod (IntKind.i64.wrap x5156) x5144)))), .sl false 3 0 n5336 1]), (2, .p [(.int .u8 x5156), (.int .u8 x5159), p5150, p5151, p5152, p5153, p5154]), (3, .p c5337)], 4, []⟩) N _ ((Wk_le (.k (.k (.k (.r (.k (.r (.r (.r (.r (.r (.r (.r (.r (.r (.r (.r (.r (.r (.r (.r (.r .nil))))))))))))))))))))) (OLe.refl _)).trans (cmpS_ok (st' := ⟨[], [(0, .dead), (1, .dead), (2, .dead), (3, .v (.int .i64 x5146)), (4, .dead), (8, .ptr 0 0), (9, .ptr 1 0), (11, .dead), (12, .dead), (13, .dead), (14, .dead), (15, .dead), (30, .sl false 2 2 (Int.toNat (Int.tmod (IntKind.i64.wrap x5159) (IntKind.i64.wrap (x5145 + 1)))) 1), (31, .v (.int .i64 (((Int.toNat (Int.tmod (IntKind.i64.wrap x5159) (IntKind.i64.wrap (x5145 + 1)))) : Nat) : Int))), (32, .v (.int .i64 0)), (33, .dead), (37, .dead), (38, .dead), (39, .dead), (46, .dead), (59, .dead)], [(0, .p [(.int .i64 0), .nl]), (1, .r [.v (.int .i64 (IntKind.i64.wrap (1 + (Int.tmod (IntKind.i64.wrap x5156) x5144)))), .sl false 3 0 0 1]), (2, .p [(.int .u8 x5156), (.int .u8 x5159), p5150, p5151, p5152, p5153, p5154]), (3, .p [])], 4, []⟩) (by kernel_rfl))) ⟨_, _, _, h5429, rfl⟩ ?_
    clear h5429
    rintro n _ ⟨x5335, n5336, c5337, h5429, rfl⟩
    cases n with
    | zero => cases h5429
    | succ n =>
      rw [m40_L0] at h5429
      have hh := brn_some h5429; clear h5429; rcases hh with ⟨h5338, h5429⟩ | ⟨h5338, h5429⟩
      · have hh := grd_some h5429; clear h5429; obtain ⟨⟨g5339, g5340⟩, h5429⟩ := hh
        have hh := grd_some h5429; clear h5429; obtain ⟨g5341, h5429⟩ := hh
        have hh := getI_some h5429; clear h5429; obtain ⟨x5343, h5342, h5429⟩ := hh
        refine W_sound tab_ok mixed 30 _ _ _ ?_
        simp -implicitDefEqProofs only [go_sem, qa, qb, qc, qd, qe, qf, qg, qh, qi, qj, qk, ↓reduceIte, h5147, h5155, g5157, h5158, g5160, g5161, g5162, h5338, g5339, g5340, g5341, h5342]
        repeat with_reducible refine ⟨by first | kernel_rfl | decide, ?_⟩
        refine Wp_weaken (Wk_ownS 12 2 rfl (by decide) (by decide)) ?_
        simp -implicitDefEqProofs only [go_sem, qa, qb, qc, qd, qe, qf, qg, qh, qi, qj, qk, ↓reduceIte, h5147, h5155, g5157, h5158, g5160, g5161, g5162, h5338, g5339, g5340, g5341, h5342]
        have hh := bnd'_some h5429; clear h5429; obtain ⟨o5431, h5432, h5433⟩ := hh
        refine Wp_cut (fun s => ∃ n5420, ∃ c5421, (n5420, c5421) = o5431 ∧ s = ⟨[], [(0, .dead), (1, .dead), (2, .dead), (3, .v (.int .i64 x5146)), (4, .dead), (8, .ptr 0 0), (9, .ptr 1 0), (11, .dead), (12, .sl false 2 0 n5420 2), (13, .dead), (14, .dead), (15, .dead), (30, .sl false 3 2 (Int.toNat (Int.tmod (IntKind.i64.wrap x5159) (IntKind.i64.wrap (x5145 + 1)))) 1), (31, .v (.int .i64 (((Int.toNat (Int.tmod (IntKind.i64.wrap x5159) (IntKind.i64.wrap (x5145 + 1)))) : Nat) : Int))), (32, .v (.int .i64 x5335)), (33, .dead), (37, .dead), (38, .dead), (39, .dead), (46, .dead), (59, .dead)], [(0, .p [(.int .i64 0), .nl]), (1, .r [.v (.int .i64 (IntKind.i64.wrap (1 + (Int.tmod (IntKind.i64.wrap x5156) x5144)))), .sl false 4 0 n5336 1]), (2, .p c5421), (3, .p [(.int .u8 x5156), (.int .u8 x5159), p5150, p5151, p5152, p5153, p5154]), (4, .p c5337)], 5, []⟩) ?_ ?_
        · refine Wp_block ?_
          refine Wp_loopG (fun n s => ∃ n5394, ∃ x5395, ∃ x5396, ∃ c5397, m40_L1 N x5144 x5145 x5146 p5150 p5151 p5152 p5153 p5154 x5156 x5159 x5335 n5336 c5337 x5343 n n5394 x5395 x5396 c5397 = some o5431 ∧ s = ⟨[], [(0, .dead), (1, .dead), (2, .dead), (3, .v (.int .i64 x5146)), (4, .dead), (8, .ptr 0 0), (9, .ptr 1 0), (11, .v (.int .u16 x5343)), (12, .sl false 2 0 n5394 2), (13, .v (.int .i64 x5395)), (14, .dead), (15, .dead), (30, .sl false 3 2 (Int.toNat (Int.tmod (IntKind.i64.wrap x5159) (IntKind.i64.wrap (x5145 + 1)))) 1), (31, .v (.int .i64 (((Int.toNat (Int.tmod (IntKind.i64.wrap x5159) (IntKind.i64.wrap (x5145 + 1)))) : Nat) : Int))), (32, .v (.int .i64 x5335)), (33, .dead), (37, .v (.int .i64 (IntKind.i64.wrap (1 + (Int.tmod (IntKind.i64.wrap x5156) x5144))))), (38, .v (.int .i64 x5396)), (39, .dead), (46, .dead), (59, .dead)], [(0, .p [(.int .i64 0), .nl]), (1, .r [.v (.int .i64 (IntKind.i64.wrap (1 + (Int.tmod (IntKind.i64.wrap x5156) x5144)))), .sl false 4 0 n5336 1]), (2, .p c5397), (3, .p [(.int .u8 x5156), (.int .u8 x5159), p5150, p5151, p5152, p5153, p5154]), (4, .p c5337)], 5, []⟩) N _ ((Wk_le (.r (.r (.r (.r (.r (.r (.r (.r (.r (.r (.r (.r (.r (.r (.r (.k (.r (.r (.r (.r (.r .nil))))))))))))))))))))) (OLe.refl _)).trans (cmpS_ok (st' := ⟨[], [(0, .dead), (1, .dead), (2, .dead), (3, .v (.int .i64 x5146)), (4, .dead), (8, .ptr 0 0), (9, .ptr 1 0), (11, .v (.int .u16 x5343)), (12, .sl false 2 0 0 2), (13, .v (.int .i64 0)), (14, .dead), (15, .dead), (30, .sl false 3 2 (Int.toNat (Int.tmod (IntKind.i64.wrap x5159) (IntKind.i64.wrap (x5145 + 1)))) 1), (31, .v (.int .i64 (((Int.toNat (Int.tmod (IntKind.i64.wrap x5159) (IntKind.i64.wrap (x5145 + 1)))) : Nat) : Int))), (32, .v (.int .i64 x5335)), (33, .dead), (37, .v (.int .i64 (IntKind.i64.wrap (1 + (Int.tmod (IntKind.i64.wrap x5156) x5144))))), (38, .v (.int .i64 0)), (39, .dead), (46, .dead), (59, .dead)], [(0, .p [(.int .i64 0), .nl]), (1, .r [.v (.int .i64 (IntKind.i64.wrap (1 + (Int.tmod (IntKind.i64.wrap x5156) x5144)))), .sl false 4 0 n5336 1]), (2, .p []), (3, .p [(.int .u8 x5156), (.int .u8 x5159), p5150, p5151, p5152, p5153, p5154]), (4, .p c5337)], 5, []⟩) (by kernel_rfl))) ⟨_, _, _, _, h5432, rfl⟩ ?_
          clear h5432
          rintro n _ ⟨n5394, x5395, x5396, c5397, h5432, rfl⟩
          cases n with
          | zero => cases h5432
          | succ n =>
            rw [m40_L1] at h5432
            have hh := brn_some h5432; clear h5432; rcases hh with ⟨h5398, h5432⟩ | ⟨h5398, h5432⟩
            · refine W_sound tab_ok mixed 20 _ _ _ ?_
              simp -implicitDefEqProofs only [go_sem, qa, qb, qc, qd, qe, qf, qg, qh, qi, qj, qk, ↓reduceIte, h5147, h5155, g5157, h5158, g5160, g5161, g5162, h5338, g5339, g5340, g5341, h5342, h5398]
              repeat with_reducible refine ⟨by first | kernel_rfl | decide, ?_⟩
              have hh := bnd'_some h5432; clear h5432; obtain ⟨o5434, h5435, h5436⟩ := hh
              refine Wp_cut (fun s => ∃ n5417, ∃ x5418, ∃ c5419, (n5417, x5418, c5419) = o5434 ∧ s = ⟨[], [(0, .dead), (1, .dead), (2, .dead), (3, .v (.int .i64 x5146)), (4, .dead), (8, .ptr 0 0), (9, .ptr 1 0), (11, .v (.int .u16 x5343)), (12, .sl false 2 0 n5417 2), (13, .v (.int .i64 x5418)), (14, .dead), (15, .dead), (30, .sl false 3 2 (Int.toNat (Int.tmod (IntKind.i64.wrap x5159) (IntKind.i64.wrap (x5145 + 1)))) 1), (31, .v (.int .i64 (((Int.toNat (Int.tmod (IntKind.i64.wrap x5159) (IntKind.i64.wrap (x5145 + 1)))) : Nat) : Int))), (32, .v (.int .i64 x5335)), (33, .dead), (37, .v (.int .i64 (IntKind.i64.wrap (1 + (Int.tmod (IntKind.i64.wrap x5156) x5144))))), (38, .v (.int .i64 x5396)), (39, .dead), (46, .dead), (59, .dead)], [(0, .p [(.int .i64 0), .nl]), (1, .r [.v (.int .i64 (IntKind.i64.wrap (1 + (Int.tmod (IntKind.i64.wrap x5156) x5144)))), .sl false 4 0 n5336 1]), (2, .p c5419), (3, .p [(.int .u8 x5156), (.int .u8 x5159), p5150, p5151, p5152, p5153, p5154]), (4, .p c5337)], 5, []⟩) ?_ ?_
              · refine Wp_block ?_
                refine Wp_loopG (fun n s => ∃ n5407, ∃ x5408, ∃ x5409, ∃ c5410, m40_L2 N x5144 x5145 x5146 p5150 p5151 p5152 p5153 p5154 x5156 x5159 x5335 n5336 c5337 x5343 x5396 n n5407 x5408 x5409 c5410 = some o5434 ∧ s = ⟨[], [(0, .dead), (1, .dead), (2, .dead), (3, .v (.int .i64 x5146)), (4, .dead), (8, .ptr 0 0), (9, .ptr 1 0), (11, .v (.int .u16 x5343)), (12, .sl false 2 0 n5407 2), (13, .v (.int .i64 x5408)), (14, .v (.int .i64 x5396)), (15, .v (.int .i64 x5409)), (30, .sl false 3 2 (Int.toNat (Int.tmod (IntKind.i64.wrap x5159) (IntKind.i64.wrap (x5145 + 1)))) 1), (31, .v (.int .i64 (((Int.toNat (Int.tmod (IntKind.i64.wrap x5159) (IntKind.i64.wrap (x5145 + 1)))) : Nat) : Int))), (32, .v (.int .i64 x5335)), (33, .dead), (37, .v (.int .i64 (IntKind.i64.wrap (1 + (Int.tmod (IntKind.i64.wrap x5156) x5144))))), (38, .v (.int .i64 x5396)), (39, .dead), (46, .dead), (59, .dead)], [(0, .p [(.int .i64 0), .nl]), (1, .r [.v (.int .i64 (IntKind.i64.wrap (1 + (Int.tmod (IntKind.i64.wrap x5156) x5144)))), .sl false 4 0 n5336 1]), (2, .p c5410), (3, .p [(.int .u8 x5156), (.int .u8 x5159), p5150, p5151, p5152, p5153, p5154]), (4, .p c5337)], 5, []⟩) N _ ((Wk_le (.r (.r (.r (.r (.r (.r (.r (.r (.r (.r (.r (.r (.r (.r (.r (.r (.r (.r (.k (.r (.r .nil))))))))))))))))))))) (OLe.refl _)).trans (cmpS_ok (st' := ⟨[], [(0, .dead), (1, .dead), (2, .dead), (3, .v (.int .i64 x5146)), (4, .dead), (8, .ptr 0 0), (9, .ptr 1 0), (11, .v (.int .u16 x5343)), (12, .sl false 2 0 n5394 2), (13, .v (.int .i64 x5395)), (14, .v (.int .i64 x5396)), (15, .v (.int .i64 (IntKind.i64.wrap (x5396 + 1)))), (30, .sl false 3 2 (Int.toNat (Int.tmod (IntKind.i64.wrap x5159) (IntKind.i64.wrap (x5145 + 1)))) 1), (31, .v (.int .i64 (((Int.toNat (Int.tmod (IntKind.i64.wrap x5159) (IntKind.i64.wrap (x5145 + 1)))) : Nat) : Int))), (32, .v (.int .i64 x5335)), (33, .dead), (37, .v (.int .i64 (IntKind.i64.wrap (1 + (Int.tmod (IntKind.i64.wrap x5156) x5144))))), (38, .v (.int .i64 x5396)), (39, .dead), (46, .dead), (59, .dead)], [(0, .p [(.int .i64 0), .nl]), (1, .r [.v (.int .i64 (IntKind.i64.wrap (1 + (Int.tmod (IntKind.i64.wrap x5156) x5144)))), .sl false 4 0 n5336 1]), (2, .p c5397), (3, .p [(.int .u8 x5156), (.int .u8 x5159), p5150, p5151, p5152, p5153, p5154]), (4, .p c5337)], 5, []⟩) (by kernel_rfl))) ⟨_, _, _, _, h5435, rfl⟩ ?_
                clear h5435
                rintro n _ ⟨n5407, x5408, x5409, c5410, h5435, rfl⟩
                cases n with
                | zero => cases h5435
                | succ n =>
                  rw [m40_L2] at h5435
                  have hh := brn_some h5435; clear h5435; rcases hh with ⟨h5411, h5435⟩ | ⟨h5411, h5435⟩
                  · have hh := grd_some h5435; clear h5435; obtain ⟨g5412, h5435⟩ := hh
                    have hh := brn_some h5435; clear h5435; rcases hh with ⟨h5413, h5435⟩ | ⟨h5413, h5435⟩
                    · have hh := brn_some h5435; clear h5435; rcases hh with ⟨h5414, h5435⟩ | ⟨h5414, h5435⟩
                      · have hh := grd_some h5435; clear h5435; obtain ⟨g5415, h5435⟩ := hh
                        have hh := grd_some h5435; clear h5435; obtain ⟨g5416, h5435⟩ := hh
                        refine W_sound tab_ok mixed 48 _ _ _ ?_
                        simp -implicitDefEqProofs only [go_sem, qa, qb, qc, qd, qe, qf, qg, qh, qi, qj, qk, ↓reduceIte, h5147, h5155, g5157, h5158, g5160, g5161, g5162, h5338, g5339, g5340, g5341, h5342, h5398, h5411, g5412, h5413, h5414, g5415, g5416]
                        repeat with_reducible refine ⟨by first | kernel_rfl | decide, ?_⟩
                        exact cutQ _ ((Wk_le (.r (.r (.r (.r (.r (.r (.r (.r (.r (.r (.r (.r (.r (.r (.r (.r (.r (.r (.r (.k (.k .nil))))))))))))))))))))) (OLe.refl _)).trans (cmpS_ok (st' := ⟨[], [(0, .dead), (1, .dead), (2, .dead), (3, .v (.int .i64 x5146)), (4, .dead), (8, .ptr 0 0), (9, .ptr 1 0), (11, .v (.int .u16 x5343)), (12, .sl false 2 0 (n5407 + 1) 2), (13, .v (.int .i64 (IntKind.i64.wrap (x5408 + 1)))), (14, .v (.int .i64 x5396)), (15, .v (.int .i64 (IntKind.i64.wrap (x5409 + 1)))), (30, .sl false 3 2 (Int.toNat (Int.tmod (IntKind.i64.wrap x5159) (IntKind.i64.wrap (x5145 + 1)))) 1), (31, .v (.int .i64 (((Int.toNat (Int.tmod (IntKind.i64.wrap x5159) (IntKind.i64.wrap (x5145 + 1)))) : Nat) : Int))), (32, .v (.int .i64 x5335)), (33, .dead), (37, .v (.int .i64 (IntKind.i64.wrap (1 + (Int.tmod (IntKind.i64.wrap x5156) x5144))))), (38, .v (.int .i64 x5396)), (39, .dead), (46, .dead), (59, .dead)], [(0, .p [(.int .i64 0), .nl]), (1, .r [.v (.int .i64 (IntKind.i64.wrap (1 + (Int.tmod (IntKind.i64.wrap x5156) x5144)))), .sl false 4 0 n5336 1]), (2, .p (c5410 ++ [(.int .i64 x5396), (.int .i64 x5409)])), (3, .p [(.int .u8 x5156), (.int .u8 x5159), p5150, p5151, p5152, p5153, p5154]), (4, .p c5337)], 5, []⟩) (by kernel_rfl))) ⟨n, Nat.lt_succ_self n, _, _, _, _, h5435, rfl⟩
                      · refine W_sound tab_ok mixed 40 _ _ _ ?_
                        simp -implicitDefEqProofs only [go_sem, qa, qb, qc, qd, qe, qf, qg, qh, qi, qj, qk, ↓reduceIte, h5147, h5155, g5157, h5158, g5160, g5161, g5162, h5338, g5339, g5340, g5341, h5342, h5398, h5411, g5412, h5413, h5414]
                        repeat with_reducible refine ⟨by first | kernel_rfl | decide, ?_⟩
                        exact cutQ _ ((Wk_le (.r (.r (.r (.r (.r (.r (.r (.r (.r (.r (.r (.r (.r (.r (.r (.r (.r (.r (.r (.k (.k .nil))))))))))))))))))))) (OLe.refl _)).trans (cmpS_ok (st' := ⟨[], [(0, .dead), (1, .dead), (2, .dead), (3, .v (.int .i64 x5146)), (4, .dead), (8, .ptr 0 0), (9, .ptr 1 0), (11, .v (.int .u16 x5343)), (12, .sl false 2 0 n5407 2), (13, .v (.int .i64 (IntKind.i64.wrap (x5408 + 1)))), (14, .v (.int .i64 x5396)), (15, .v (.int .i64 (IntKind.i64.wrap (x5409 + 1)))), (30, .sl false 3 2 (Int.toNat (Int.tmod (IntKind.i64.wrap x5159) (IntKind.i64.wrap (x5145 + 1)))) 1), (31, .v (.int .i64 (((Int.toNat (Int.tmod (IntKind.i64.wrap x5159) (IntKind.i64.wrap (x5145 + 1)))) : Nat) : Int))), (32, .v (.int .i64 x5335)), (33, .dead), (37, .v (.int .i64 (IntKind.i64.wrap (1 + (Int.tmod (IntKind.i64.wrap x5156) x5144))))), (38, .v (.int .i64 x5396)), (39, .dead), (46, .dead), (59, .dead)], [(0, .p [(.int .i64 0), .nl]), (1, .r [.v (.int .i64 (IntKind.i64.wrap (1 + (Int.tmod (IntKind.i64.wrap x5156) x5144)))), .sl false 4 0 n5336 1]), (2, .p c5410), (3, .p [(.int .u8 x5156), (.int .u8 x5159), p5150, p5151, p5152, p5153, p5154]), (4, .p c5337)], 5, []⟩) (by kernel_rfl))) ⟨n, Nat.lt_succ_self n, _, _, _, _, h5435, rfl⟩
                    · refine W_sound tab_ok mixed 40 _ _ _ ?_
                      simp -implicitDefEqProofs only [go_sem, qa, qb, qc, qd, qe, qf, qg, qh, qi, qj, qk, ↓reduceIte, h5147, h5155, g5157, h5158, g5160, g5161, g5162, h5338, g5339, g5340, g5341, h5342, h5398, h5411, g5412, h5413]
                      repeat with_reducible refine ⟨by first | kernel_rfl | decide, ?_⟩
                      exact cutQ _ ((Wk_le (.r (.r (.r (.r (.r (.r (.r (.r (.r (.r (.r (.r (.r (.r (.r (.r (.r (.r (.r (.k (.k .nil))))))))))))))))))))) (OLe.refl _)).trans (cmpS_ok (st' := ⟨[], [(0, .dead), (1, .dead), (2, .dead), (3, .v (.int .i64 x5146)), (4, .dead), (8, .ptr 0 0), (9, .ptr 1 0), (11, .v (.int .u16 x5343)), (12, .sl false 2 0 n5407 2), (13, .v (.int .i64 (IntKind.i64.wrap (x5408 + 1)))), (14, .v (.int .i64 x5396)), (15, .v (.int .i64 (IntKind.i64.wrap (x5409 + 1)))), (30, .sl false 3 2 (Int.toNat (Int.tmod (IntKind.i64.wrap x5159) (IntKind.i64.wrap (x5145 + 1)))) 1), (31, .v (.int .i64 (((Int.toNat (Int.tmod (IntKind.i64.wrap x5159) (IntKind.i64.wrap (x5145 + 1)))) : Nat) : Int))), (32, .v (.int .i64 x5335)), (33, .dead), (37, .v (.int .i64 (IntKind.i64.wrap (1 + (Int.tmod (IntKind.i64.wrap x5156) x5144))))), (38, .v (.int .i64 x5396)), (39, .dead), (46, .dead), (59, .dead)], [(0, .p [(.int .i64 0), .nl]), (1, .r [.v (.int .i64 (IntKind.i64.wrap (1 + (Int.tmod (IntKind.i64.wrap x5156) x5144)))), .sl false 4 0 n5336 1]), (2, .p c5410), (3, .p [(.int .u8 x5156), (.int .u8 x5159), p5150, p5151, p5152, p5153, p5154]), (4, .p c5337)], 5, []⟩) (by kernel_rfl))) ⟨n, Nat.lt_succ_self n, _, _, _, _, h5435, rfl⟩
                  · refine W_sound tab_ok mixed 10 _ _ _ ?_
                    simp -implicitDefEqProofs only [go_sem, qa, qb, qc, qd, qe, qf, qg, qh, qi, qj, qk, ↓reduceIte, h5147, h5155, g5157, h5158, g5160, g5161, g5162, h5338, g5339, g5340, g5341, h5342, h5398, h5411]
                    repeat with_reducible refine ⟨by first | kernel_rfl | decide, ?_⟩
                    obtain rfl := Option.some.inj h5435
                    exact cutQ _ ((Wk_le (.r (.r (.r (.r (.r (.r (.r (.r (.r (.r (.k (.k (.r (.r (.r (.r (.r (.r (.r (.k (.r .nil))))))))))))))))))))) (OLe.refl _)).trans (cmpS_ok (st' := ⟨[], [(0, .dead), (1, .dead), (2, .dead), (3, .v (.int .i64 x5146)), (4, .dead), (8, .ptr 0 0), (9, .ptr 1 0), (11, .v (.int .u16 x5343)), (12, .sl false 2 0 n5407 2), (13, .v (.int .i64 x5408)), (14, .dead), (15, .dead), (30, .sl false 3 2 (Int.toNat (Int.tmod (IntKind.i64.wrap x5159) (IntKind.i64.wrap (x5145 + 1)))) 1), (31, .v (.int .i64 (((Int.toNat (Int.tmod (IntKind.i64.wrap x5159) (IntKind.i64.wrap (x5145 + 1)))) : Nat) : Int))), (32, .v (.int .i64 x5335)), (33, .dead), (37, .v (.int .i64 (IntKind.i64.wrap (1 + (Int.tmod (IntKind.i64.wrap x5156) x5144))))), (38, .v (.int .i64 x5396)), (39, .dead), (46, .dead), (59, .dead)], [(0, .p [(.int .i64 0), .nl]), (1, .r [.v (.int .i64 (IntKind.i64.wrap (1 + (Int.tmod (IntKind.i64.wrap x5156) x5144)))), .sl false 4 0 n5336 1]), (2, .p c5410), (3, .p [(.int .u8 x5156), (.int .u8 x5159), p5150, p5151, p5152, p5153, p5154]), (4, .p c5337)], 5, []⟩) (by kernel_rfl))) ⟨_, _, _, rfl, rfl⟩
              · rintro _ ⟨n5417, x5418, c5419, rfl, rfl⟩
                (try dsimp only at h5436)
                refine W_sound tab_ok mixed 5 _ _ _ ?_
                simp -implicitDefEqProofs only [go_sem, qa, qb, qc, qd, qe, qf, qg, qh, qi, qj, qk, ↓reduceIte, h5147, h5155, g5157, h5158, g5160, g5161, g5162, h5338, g5339, g5340, g5341, h5342, h5398]
                repeat with_reducible refine ⟨by first | kernel_rfl | decide, ?_⟩
                exact cutQ _ ((Wk_le (.r (.r (.r (.r (.r (.r (.r (.r (.r (.r (.r (.r (.r (.r (.r (.r (.r (.r (.r (.r (.r .nil))))))))))))))))))))) (OLe.refl _)).trans (cmpS_ok (st' := ⟨[], [(0, .dead), (1, .dead), (2, .dead), (3, .v (.int .i64 x5146)), (4, .dead), (8, .ptr 0 0), (9, .ptr 1 0), (11, .v (.int .u16 x5343)), (12, .sl false 2 0 n5417 2), (13, .v (.int .i64 x5418)), (14, .dead), (15, .dead), (30, .sl false 3 2 (Int.toNat (Int.tmod (IntKind.i64.wrap x5159) (IntKind.i64.wrap (x5145 + 1)))) 1), (31, .v (.int .i64 (((Int.toNat (Int.tmod (IntKind.i64.wrap x5159) (IntKind.i64.wrap (x5145 + 1)))) : Nat) : Int))), (32, .v (.int .i64 x5335)), (33, .dead), (37, .v (.int .i64 (IntKind.i64.wrap (1 + (Int.tmod (IntKind.i64.wrap x5156) x5144))))), (38, .v (.int .i64 (IntKind.i64.wrap (x5396 + 1)))), (39, .dead), (46, .dead), (59, .dead)], [(0, .p [(.int .i64 0), .nl]), (1, .r [.v (.int .i64 (IntKind.i64.wrap (1 + (Int.tmod (IntKind.i64.wrap x5156) x5144)))), .sl false 4 0 n5336 1]), (2, .p c5419), (3, .p [(.int .u8 x5156), (.int .u8 x5159), p5150, p5151, p5152, p5153, p5154]), (4, .p c5337)], 5, []⟩) (by kernel_rfl))) ⟨n, Nat.lt_succ_self n, _, _, _, _, h5436, rfl⟩
            · refine W_sound tab_ok mixed 7 _ _ _ ?_
              simp -implicitDefEqProofs only [go_sem, qa, qb, qc, qd, qe, qf, qg, qh, qi, qj, qk, ↓reduceIte, h5147, h5155, g5157, h5158, g5160, g5161, g5162, h5338, g5339, g5340, g5341, h5342, h5398]
              repeat with_reducible refine ⟨by first | kernel_rfl | decide, ?_⟩
              obtain rfl := Option.some.inj h5432
              exact cutQ _ ((Wk_le (.r (.r (.r (.r (.r (.r (.r (.k (.r (.k (.r (.r (.r (.r (.r (.r (.k (.k (.k (.r (.r .nil))))))))))))))))))))) (OLe.refl _)).trans (cmpS_ok (st' := ⟨[], [(0, .dead), (1, .dead), (2, .dead), (3, .v (.int .i64 x5146)), (4, .dead), (8, .ptr 0 0), (9, .ptr 1 0), (11, .dead), (12, .sl false 2 0 n5394 2), (13, .dead), (14, .dead), (15, .dead), (30, .sl false 3 2 (Int.toNat (Int.tmod (IntKind.i64.wrap x5159) (IntKind.i64.wrap (x5145 + 1)))) 1), (31, .v (.int .i64 (((Int.toNat (Int.tmod (IntKind.i64.wrap x5159) (IntKind.i64.wrap (x5145 + 1)))) : Nat) : Int))), (32, .v (.int .i64 x5335)), (33, .dead), (37, .dead), (38, .dead), (39, .dead), (46, .dead), (59, .dead)], [(0, .p [(.int .i64 0), .nl]), (1, .r [.v (.int .i64 (IntKind.i64.wrap (1 + (Int.tmod (IntKind.i64.wrap x5156) x5144)))), .sl false 4 0 n5336 1]), (2, .p c5397), (3, .p [(.int .u8 x5156), (.int .u8 x5159), p5150, p5151, p5152, p5153, p5154]), (4, .p c5337)], 5, []⟩) (by kernel_rfl))) ⟨_, _, rfl, rfl⟩
        · rintro _ ⟨n5420, c5421, rfl, rfl⟩
          (try dsimp only at h5433)
          have hh := grd_some h5433; clear h5433; obtain ⟨g5422, h5433⟩ := hh
          have hh := grd_some h5433; clear h5433; obtain ⟨g5423, h5433⟩ := hh
          refine W_sound tab_ok mixed 9 _ _ _ ?_
          simp -implicitDefEqProofs only [go_sem, qa, qb, qc, qd, qe, qf, qg, qh, qi, qj, qk, ↓reduceIte, h5147, h5155, g5157, h5158, g5160, g5161, g5162, h5338, g5339, g5340, g5341, h5342, g5422, g5423]
          repeat with_reducible refine ⟨by first | kernel_rfl | decide, ?_⟩
          have hh := grd_some h5433; clear h5433; obtain ⟨g5424, h5433⟩ := hh
          refine Wp_wkK (Wk_freeze 2 c5421 (by rfl) (by decide) (by decide)) rfl ?_
          simp -implicitDefEqProofs only [go_sem, qa, qb, qc, qd, qe, qf, qg, qh, qi, qj, qk, ↓reduceIte, h5147, h5155, g5157, h5158, g5160, g5161, g5162, h5338, g5339, g5340, g5341, h5342, g5422, g5423, g5424]
          refine W_sound tab_ok mixed 5 _ _ _ ?_
          simp -implicitDefEqProofs only [go_sem, qa, qb, qc, qd, qe, qf, qg, qh, qi, qj, qk, ↓reduceIte, h5147, h5155, g5157, h5158, g5160, g5161, g5162, h5338, g5339, g5340, g5341, h5342, g5422, g5423, g5424]
          repeat with_reducible refine ⟨by first | kernel_rfl | decide, ?_⟩
          exact cutQ _ ((Wk_le (.r (.r (.r (.r (.r (.r (.r (.r (.k (.r (.r (.r (.r (.r (.r (.r (.r (.r (.r (.r (.r .nil))))))))))))))))))))) (OLe.refl _)).trans (cmpS_ok (st' := ⟨[], [(0, .dead), (1, .dead), (2, .dead), (3, .v (.int .i64 x5146)), (4, .dead), (8, .ptr 0 0), (9, .ptr 1 0), (11, .dead), (12, .dead), (13, .dead), (14, .dead), (15, .dead), (30, .sl false 2 2 (Int.toNat (Int.tmod (IntKind.i64.wrap x5159) (IntKind.i64.wrap (x5145 + 1)))) 1), (31, .v (.int .i64 (((Int.toNat (Int.tmod (IntKind.i64.wrap x5159) (IntKind.i64.wrap (x5145 + 1)))) : Nat) : Int))), (32, .v (.int .i64 (IntKind.i64.wrap (x5335 + 1)))), (33, .dead), (37, .dead), (38, .dead), (39, .dead), (46, .dead), (59, .dead)], [(0, .p [(.int .i64 0), .nl]), (1, .r [.v (.int .i64 (IntKind.i64.wrap (1 + (Int.tmod (IntKind.i64.wrap x5156) x5144)))), .sl false 3 0 (n5336 + 1) 1]), (2, .p [(.int .u8 x5156), (.int .u8 x5159), p5150, p5151, p5152, p5153, p5154]), (3, .p (c5337 ++ [(.lst false n5420 c5421)]))], 4, []⟩) (by kernel_rfl))) ⟨n, Nat.lt_succ_self n, _, _, _, h5433, rfl⟩
      · refine W_sound tab_ok mixed 7 _ _ _ ?_
        simp -implicitDefEqProofs only [go_sem, qa, qb, qc, qd, qe, qf, qg, qh, qi, qj, qk, ↓reduceIte, h5147, h5155, g5157, h5158, g5160, g5161, g5162, h5338]
        repeat with_reducible refine ⟨by first | kernel_rfl | decide, ?_⟩
        obtain rfl := Option.some.inj h5429
        exact cutQ _ ((Wk_le (.r (.r (.r (.k (.r (.r (.r (.r (.r (.r (.r (.r (.k (.k (.k (.k (.r (.r (.r (.r (.r .nil))))))))))))))))))))) (OLe.refl _)).trans (cmpS_ok (st' := ⟨[], [(0, .dead), (1, .dead), (2, .dead), (3, .dead), (4, .dead), (8, .ptr 0 0), (9, .ptr 1 0), (11, .dead), (12, .dead), (13, .dead), (14, .dead), (15, .dead), (30, .dead), (31, .dead), (32, .dead), (33, .dead), (37, .dead), (38, .dead), (39, .dead), (46, .dead), (59, .dead)], [(0, .p [(.int .i64 0), .nl]), (1, .r [.v (.int .i64 (IntKind.i64.wrap (1 + (Int.tmod (IntKind.i64.wrap x5156) x5144)))), .sl false 2 0 n5336 1]), (2, .p c5337)], 3, []⟩) (by kernel_rfl))) ⟨_, _, rfl, rfl⟩
  · rintro _ ⟨n5425, c5426, rfl, rfl⟩
    (try dsimp only at h5430)
    refine W_sound tab_ok mixed 7 _ _ _ ?_
    simp -implicitDefEqProofs only [go_sem, qa, qb, qc, qd, qe, qf, qg, qh, qi, qj, qk, ↓reduceIte, h5147, h5155, g5157, h5158, g5160, g5161, g5162]
    repeat with_reducible refine ⟨by first | kernel_rfl | decide, ?_⟩
    have hh := grd_some h5430; clear h5430; obtain ⟨g5427, h5430⟩ := hh
    refine FinQ_wk (Wk_freeze 2 c5426 (by rfl) (by decide) (by decide)) ?_
    simp -implicitDefEqProofs only [go_sem, qa, qb, qc, qd, qe, qf, qg, qh, qi, qj, qk, ↓reduceIte, h5147, h5155, g5157, h5158, g5160, g5161, g5162, g5427]
    refine FinQ_wk (Wk_freeze 0 [(.int .i64 (IntKind.i64.wrap (1 + (Int.tmod (IntKind.i64.wrap x5156) x5144)))), (.lst false n5425 c5426)] (by rfl) (by decide) (by decide)) ?_
    simp -implicitDefEqProofs only [go_sem, qa, qb, qc, qd, qe, qf, qg, qh, qi, qj, qk, ↓reduceIte, h5147, h5155, g5157, h5158, g5160, g5161, g5162, g5427]
    obtain rfl := Option.some.inj h5430
    exact finC [(8, .v (.ipt [(.int .i64 (IntKind.i64.wrap (1 + (Int.tmod (IntKind.i64.wrap x5156) x5144)))), (.lst false n5425 c5426)]))] [(8, .v (.ipt [(.int .i64 (IntKind.i64.wrap (1 + (Int.tmod (IntKind.i64.wrap x5156) x5144)))), (.lst false n5425 c5426)]))] (by simp [leE, lk_cons]) (.cons _ _ _ _ _ (.v _ _ (.refl _)) .nil) (by rfl) (by simp [leE, lk_cons]) (by decide) (by decide) rfl (by simp only [go_sem, qa, qb, qc, qd, qe, qf, qg, qh, qi, qj, qk, ↓reduceIte, resQ_tmp, resQ_cell, resQ_nil, retD_one, retD_two, retD_three, retD_none]; try simp [R.val, retD_one, retD_two, retD_three, retD_none])
end Go.Proofs.YtnponojgpkbagaaDoor
namespace Go.Proofs.YtnponojgpkbagaaDoor
open Go.V
end Go.Proofs.YtnponojgpkbagaaDoor
namespace Go.Proofs.YtnponojgpkbagaaDoor
open Go.V
set_option maxRecDepth 100000
set_option maxHeartbeats 4000000
set_option linter.unusedSimpArgs false
set_option linter.unusedVariables false
attribute [local go_sem] tl1 tl2 tl3 tl4 tl5 tl9 tl17 tl21 tl22 tl23 tl24 tl25 tl26 tl27 tl28 tl29 tl31 tl32 tl34 tl35 tl36 tl37 tl38 tl39 tl40 tl41 tl42 tl43 tl44 tl45 tl47 tl48 tl49 tl50 tl51 tl52 tl53 tl54 tl55 tl56 tl57 tl58 tl59 tl60 tl61 tl62 tl63 tl64 tl65 tl66 tl67 tl68 tl69 tl70 tl71 tl72 tl73 tl74 tl75 tl76 tl77 tl78 tl79 tl80 tl81 tl82 tl83 tl84 tl85 tl86 tl87 tl88 tl89 tl90 tl92 tl94 tl95 tl96 tl97 tl98 tl99 tl100 tl101 tl102 tl103 tl104 tl105 tl106 tl107 tl108 tl109 tl110 tl111 tl112 tl113 tl114 tl115 tl116 tl118 tl119 tl121 tl122 tl123 tl124 tl125 tl126 tl127 tl128 tl129 tl131 tl133 tl134 tl135 tl136 tl142 tl146
end Go.Proofs.YtnponojgpkbagaaDoor
namespace Go.Proofs.YtnponojgpkbagaaDoor
open Go.V
open Nat renaming reduceBEq → qa, reduceAdd → qb, reduceSub → qc, reduceMul → qd, reduceLT → qe, reduceLeDiff → qf
open Int renaming reduceLE → qg, reduceLT → qh, reduceToNat → qi, reduceBEq → qj, reduceBNe → qk
set_option maxRecDepth 100000
set_option maxHeartbeats 4000000
set_option linter.unusedSimpArgs false
set_option linter.unusedVariables false
attribute [local go_sem] tl1 tl2 tl3 tl4 tl5 tl9 tl17 tl21 tl22 tl23 tl24 tl25 tl26 tl27 tl28 tl29 tl31 tl32 tl34 tl35 tl36 tl37 tl38 tl39 tl40 tl41 tl42 tl43 tl44 tl45 tl47 tl48 tl49 tl50 tl51 tl52 tl53 tl54 tl55 tl56 tl57 tl58 tl59 tl60 tl61 tl62 tl63 tl64 tl65 tl66 tl67 tl68 tl69 tl70 tl71 tl72 tl73 tl74 tl75 tl76 tl77 tl78 tl79 tl80 tl81 tl82 tl83 tl84 tl85 tl86 tl87 tl88 tl89 tl90 tl92 tl94 tl95 tl96 tl97 tl98 tl99 tl100 tl101 tl102 tl103 tl104 tl105 tl106 tl107 tl108 tl109 tl110 tl111 tl112 tl113 tl114 tl115 tl116 tl118 tl119 tl121 tl122 tl123 tl124 tl125 tl126 tl127 tl128 tl129 tl131 tl133 tl134 tl135 tl136 tl142 tl146
def m59 (N : Nat) (n5621 : Nat) (x5622 : Int) (x5623 : Int) (c5624 : List PV) : Option (Nat × List PV) :=
  brn (decide (x5623 = ((n5621 : Nat) : Int))) (
    grd (0 ≤ x5622 ∧ x5622 ≤ x5623 ∧ x5623 ≤ ((n5621 : Nat) : Int) ∧ eqI ((n5621 : Nat) : Int) x5623) <|
    brn (x5622 == x5623) (
      some (n5621, c5624)) (
      grd (x5622 ≤ ((n5621 : Nat) : Int)) <|
      grd (0 ≤ x5623) <|
      grd (List.length (List.take (Int.toNat (((n5621 : Nat) : Int) - x5623)) (List.drop (Int.toNat x5623) c5624)) = (Int.toNat (((n5621 : Nat) : Int) - x5623))) <|
      brn (decide (((Int.toNat x5622) + (Int.toNat (((n5621 : Nat) : Int) - x5623))) ≤ (n5621 - 0))) (
        grd (cutG ((Int.toNat x5622) + (Int.toNat (((n5621 : Nat) : Int) - x5623))) c5624 ∧ (Int.toNat x5622) ≤ List.length c5624) <|
        grd (0 ≤ ((((Int.toNat x5622) + (Int.toNat (((n5621 : Nat) : Int) - x5623))) : Nat) : Int) ∧ ((((Int.toNat x5622) + (Int.toNat (((n5621 : Nat) : Int) - x5623))) : Nat) : Int) ≤ ((n5621 : Nat) : Int) ∧ ((n5621 : Nat) : Int) ≤ (((n5621 - 0) : Nat) : Int)) <|
        grd ((((Int.toNat x5622) + (Int.toNat (((n5621 : Nat) : Int) - x5623))) + (Int.toNat (((n5621 : Nat) : Int) - ((((Int.toNat x5622) + (Int.toNat (((n5621 : Nat) : Int) - x5623))) : Nat) : Int)))) ≤ List.length c5624) <|
        some (((Int.toNat x5622) + (Int.toNat (((n5621 : Nat) : Int) - x5623))), (putP (putP c5624 (Int.toNat x5622) (List.take (Int.toNat (((n5621 : Nat) : Int) - x5623)) (List.drop (Int.toNat x5623) c5624))) ((Int.toNat x5622) + (Int.toNat (((n5621 : Nat) : Int) - x5623))) (List.replicate (Int.toNat (((n5621 : Nat) : Int) - ((((Int.toNat x5622) + (Int.toNat (((n5621 : Nat) : Int) - x5623))) : Nat) : Int))) (.int .i64 0))))) (
        none))) (
    grd (0 ≤ x5622 ∧ x5622 ≤ x5623 ∧ x5623 ≤ ((n5621 : Nat) : Int) ∧ ((n5621 : Nat) : Int) ≤ ((n5621 : Nat) : Int)) <|
    brn (x5622 == x5623) (
      some (n5621, c5624)) (
      grd (x5622 ≤ ((n5621 : Nat) : Int)) <|
      grd (0 ≤ x5623) <|
      grd (List.length (List.take (Int.toNat (((n5621 : Nat) : Int) - x5623)) (List.drop (Int.toNat x5623) c5624)) = (Int.toNat (((n5621 : Nat) : Int) - x5623))) <|
      brn (decide (((Int.toNat x5622) + (Int.toNat (((n5621 : Nat) : Int) - x5623))) ≤ (n5621 - 0))) (
        grd (cutG ((Int.toNat x5622) + (Int.toNat (((n5621 : Nat) : Int) - x5623))) c5624 ∧ (Int.toNat x5622) ≤ List.length c5624) <|
        grd (0 ≤ ((((Int.toNat x5622) + (Int.toNat (((n5621 : Nat) : Int) - x5623))) : Nat) : Int) ∧ ((((Int.toNat x5622) + (Int.toNat (((n5621 : Nat) : Int) - x5623))) : Nat) : Int) ≤ ((n5621 : Nat) : Int) ∧ ((n5621 : Nat) : Int) ≤ (((n5621 - 0) : Nat) : Int)) <|
        grd ((((Int.toNat x5622) + (Int.toNat (((n5621 : Nat) : Int) - x5623))) + (Int.toNat (((n5621 : Nat) : Int) - ((((Int.toNat x5622) + (Int.toNat (((n5621 : Nat) : Int) - x5623))) : Nat) : Int)))) ≤ List.length c5624) <|
        some (((Int.toNat x5622) + (Int.toNat (((n5621 : Nat) : Int) - x5623))), (putP (putP c5624 (Int.toNat x5622) (List.take (Int.toNat (((n5621 : Nat) : Int) - x5623)) (List.drop (Int.toNat x5623) c5624))) ((Int.toNat x5622) + (Int.toNat (((n5621 : Nat) : Int) - x5623))) (List.replicate (Int.toNat (((n5621 : Nat) : Int) - ((((Int.toNat x5622) + (Int.toNat (((n5621 : Nat) : Int) - x5623))) : Nat) : Int))) (.int .i64 0))))) (
        none)))
theorem c59 (N : Nat) (n5621 : Nat) (x5622 : Int) (x5623 : Int) (c5624 : List PV) (rn : Nat) (rc : List PV) (h : m59 N n5621 x5622 x5623 c5624 = some (rn, rc)) : V.Fn Tryd.prog 59 1 [.sl false 0 0 n5621 1, .v (.int .i64 x5622), .v (.int .i64 x5623)] [(0, .p c5624)] (fun d ob' => d = .sl false 0 0 rn 1 ∧ ob' = [(0, .p rc)]) := by
  unfold m59 at h
  refine Fn_of (sz := 33) tab_ok [0, 1, 2, 6, 7, 16] [.tmp 6] Tryd.func59 rfl rfl rfl (by simp) ?_
  simp only [initSt, initEnv, List.map_cons, List.map_nil, List.getD_cons_zero, List.getD_cons_succ, List.getD_nil]
  have hh := brn_some h; clear h; rcases hh with ⟨h5625, h⟩ | ⟨h5625, h⟩
  · have hh := grd_some h; clear h; obtain ⟨⟨g5626, g5627, g5628, g5629⟩, h⟩ := hh
    have hh := brn_some h; clear h; rcases hh with ⟨h5630, h⟩ | ⟨h5630, h⟩
    · refine W_sound tab_ok mixed 28 _ _ _ ?_
      simp -implicitDefEqProofs only [go_sem, qa, qb, qc, qd, qe, qf, qg, qh, qi, qj, qk, ↓reduceIte, h5625, eqI_t, g5626, g5627, g5628, g5629, h5630]
      repeat with_reducible refine ⟨by first | kernel_rfl | decide, ?_⟩
      simp only [Option.some.injEq, Prod.mk.injEq] at h; obtain ⟨rfl, rfl⟩ := h
      exact finD (e2 := [(0, .dead), (1, .dead), (2, .dead), (6, .sl false 0 0 n5621 1), (7, .dead), (16, .dead)]) (ob2 := [(0, .p c5624)]) (st' := ⟨[], [(0, .dead), (1, .dead), (2, .dead), (6, .sl false 0 0 n5621 1), (7, .dead), (16, .dead)], [(0, .p c5624)], 1, []⟩) (.k (.k (.k (.r (.r (.k .nil)))))) (.cons _ _ _ _ _ (DLes.refl _) .nil) (by kernel_rfl) (by simp only [go_sem, qa, qb, qc, qd, qe, qf, qg, qh, qi, qj, qk, ↓reduceIte, resQ_tmp, resQ_cell, resQ_nil, retD_one, retD_two, retD_three, retD_none]; first | done | exact ⟨rfl, rfl⟩ | (try simp [R.val, retD_one]))
    · have hh := grd_some h; clear h; obtain ⟨g5631, h⟩ := hh
      have hh := grd_some h; clear h; obtain ⟨g5632, h⟩ := hh
      have hh := grd_some h; clear h; obtain ⟨g5633, h⟩ := hh
      have hh := brn_some h; clear h; rcases hh with ⟨h5634, h⟩ | ⟨h5634, h⟩
      · have hh := grd_some h; clear h; obtain ⟨⟨g5635, g5636⟩, h⟩ := hh
        have hh := grd_some h; clear h; obtain ⟨⟨g5637, g5638, g5639⟩, h⟩ := hh
        have hh := grd_some h; clear h; obtain ⟨g5640, h⟩ := hh
        refine W_sound tab_ok mixed 53 _ _ _ ?_
        simp -implicitDefEqProofs only [go_sem, qa, qb, qc, qd, qe, qf, qg, qh, qi, qj, qk, ↓reduceIte, h5625, eqI_t, g5626, g5627, g5628, g5629, h5630, g5631, g5632, g5633, h5634, g5635, g5636, cutG_le, extO_cut, normE, g5637, g5638, g5639, g5640]
        repeat with_reducible refine ⟨by first | kernel_rfl | decide, ?_⟩
        refine Wp_wkK Wk_norm rfl ?_
        simp -implicitDefEqProofs only [go_sem, qa, qb, qc, qd, qe, qf, qg, qh, qi, qj, qk, ↓reduceIte, normE, h5625, eqI_t, g5626, g5627, g5628, g5629, h5630, g5631, g5632, g5633, h5634, g5635, g5636, cutG_le, extO_cut, normE, g5637, g5638, g5639, g5640]
        refine W_sound tab_ok mixed 2 _ _ _ ?_
        simp -implicitDefEqProofs only [go_sem, qa, qb, qc, qd, qe, qf, qg, qh, qi, qj, qk, ↓reduceIte, h5625, eqI_t, g5626, g5627, g5628, g5629, h5630, g5631, g5632, g5633, h5634, g5635, g5636, cutG_le, extO_cut, normE, g5637, g5638, g5639, g5640]
        repeat with_reducible refine ⟨by first | kernel_rfl | decide, ?_⟩
        simp only [Option.some.injEq, Prod.mk.injEq] at h; obtain ⟨rfl, rfl⟩ := h
        exact finD (e2 := [(0, .dead), (1, .dead), (2, .dead), (6, .sl false 0 0 ((Int.toNat x5622) + (Int.toNat (((n5621 : Nat) : Int) - x5623))) 1), (7, .dead), (16, .dead)]) (ob2 := [(0, .p (putP (putP c5624 (Int.toNat x5622) (List.take (Int.toNat (((n5621 : Nat) : Int) - x5623)) (List.drop (Int.toNat x5623) c5624))) ((Int.toNat x5622) + (Int.toNat (((n5621 : Nat) : Int) - x5623))) (List.replicate (Int.toNat (((n5621 : Nat) : Int) - ((((Int.toNat x5622) + (Int.toNat (((n5621 : Nat) : Int) - x5623))) : Nat) : Int))) (.int .i64 0))))]) (st' := ⟨[], [(0, .dead), (1, .dead), (2, .dead), (6, .sl false 0 0 ((Int.toNat x5622) + (Int.toNat (((n5621 : Nat) : Int) - x5623))) 1), (7, .dead), (16, .dead)], [(0, .p (putP (putP c5624 (Int.toNat x5622) (List.take (Int.toNat (((n5621 : Nat) : Int) - x5623)) (List.drop (Int.toNat x5623) c5624))) ((Int.toNat x5622) + (Int.toNat (((n5621 : Nat) : Int) - x5623))) (List.replicate (Int.toNat (((n5621 : Nat) : Int) - ((((Int.toNat x5622) + (Int.toNat (((n5621 : Nat) : Int) - x5623))) : Nat) : Int))) (.int .i64 0))))], 1, []⟩) (.k (.k (.k (.r (.k (.k .nil)))))) (.cons _ _ _ _ _ (DLes.refl _) .nil) (by kernel_rfl) (by simp only [go_sem, qa, qb, qc, qd, qe, qf, qg, qh, qi, qj, qk, ↓reduceIte, resQ_tmp, resQ_cell, resQ_nil, retD_one, retD_two, retD_three, retD_none]; first | done | exact ⟨rfl, rfl⟩ | (try simp [R.val, retD_one]))
      · cases h
  · have hh := grd_some h; clear h; obtain ⟨⟨g5641, g5642, g5643, g5644⟩, h⟩ := hh
    have hh := brn_some h; clear h; rcases hh with ⟨h5645, h⟩ | ⟨h5645, h⟩
    · refine W_sound tab_ok mixed 28 _ _ _ ?_
      simp -implicitDefEqProofs only [go_sem, qa, qb, qc, qd, qe, qf, qg, qh, qi, qj, qk, ↓reduceIte, h5625, g5641, g5642, g5643, g5644, h5645]
      repeat with_reducible refine ⟨by first | kernel_rfl | decide, ?_⟩
      simp only [Option.some.injEq, Prod.mk.injEq] at h; obtain ⟨rfl, rfl⟩ := h
      exact finD (e2 := [(0, .dead), (1, .dead), (2, .dead), (6, .sl false 0 0 n5621 1), (7, .dead), (16, .dead)]) (ob2 := [(0, .p c5624)]) (st' := ⟨[], [(0, .dead), (1, .dead), (2, .dead), (6, .sl false 0 0 n5621 1), (7, .dead), (16, .dead)], [(0, .p c5624)], 1, []⟩) (.k (.k (.k (.r (.r (.k .nil)))))) (.cons _ _ _ _ _ (DLes.refl _) .nil) (by kernel_rfl) (by simp only [go_sem, qa, qb, qc, qd, qe, qf, qg, qh, qi, qj, qk, ↓reduceIte, resQ_tmp, resQ_cell, resQ_nil, retD_one, retD_two, retD_three, retD_none]; first | done | exact ⟨rfl, rfl⟩ | (try simp [R.val, retD_one]))
    · have hh := grd_some h; clear h; obtain ⟨g5646, h⟩ := hh
      have hh := grd_some h; clear h; obtain ⟨g5647, h⟩ := hh
      have hh := grd_some h; clear h; obtain ⟨g5648, h⟩ := hh
      have hh := brn_some h; clear h; rcases hh with ⟨h5649, h⟩ | ⟨h5649, h⟩
      · have hh := grd_some h; clear h; obtain ⟨⟨g5650, g5651⟩, h⟩ := hh
        have hh := grd_some h; clear h; obtain ⟨⟨g5652, g5653, g5654⟩, h⟩ := hh
        have hh := grd_some h; clear h; obtain ⟨g5655, h⟩ := hh
        refine W_sound tab_ok mixed 53 _ _ _ ?_
        simp -implicitDefEqProofs only [go_sem, qa, qb, qc, qd, qe, qf, qg, qh, qi, qj, qk, ↓reduceIte, h5625, g5641, g5642, g5643, g5644, h5645, g5646, g5647, g5648, h5649, g5650, g5651, cutG_le, extO_cut, normE, g5652, g5653, g5654, g5655]
        repeat with_reducible refine ⟨by first | kernel_rfl | decide, ?_⟩
        refine Wp_wkK Wk_norm rfl ?_
        simp -implicitDefEqProofs only [go_sem, qa, qb, qc, qd, qe, qf, qg, qh, qi, qj, qk, ↓reduceIte, normE, h5625, g5641, g5642, g5643, g5644, h5645, g5646, g5647, g5648, h5649, g5650, g5651, cutG_le, extO_cut, normE, g5652, g5653, g5654, g5655]
        refine W_sound tab_ok mixed 2 _ _ _ ?_
        simp -implicitDefEqProofs only [go_sem, qa, qb, qc, qd, qe, qf, qg, qh, qi, qj, qk, ↓reduceIte, h5625, g5641, g5642, g5643, g5644, h5645, g5646, g5647, g5648, h5649, g5650, g5651, cutG_le, extO_cut, normE, g5652, g5653, g5654, g5655]
        repeat with_reducible refine ⟨by first | kernel_rfl | decide, ?_⟩
        simp only [Option.some.injEq, Prod.mk.injEq] at h; obtain ⟨rfl, rfl⟩ := h
        exact finD (e2 := [(0, .dead), (1, .dead), (2, .dead), (6, .sl false 0 0 ((Int.toNat x5622) + (Int.toNat (((n5621 : Nat) : Int) - x5623))) 1), (7, .dead), (16, .dead)]) (ob2 := [(0, .p (putP (putP c5624 (Int.toNat x5622) (List.take (Int.toNat (((n5621 : Nat) : Int) - x5623)) (List.drop (Int.toNat x5623) c5624))) ((Int.toNat x5622) + (Int.toNat (((n5621 : Nat) : Int) - x5623))) (List.replicate (Int.toNat (((n5621 : Nat) : Int) - ((((Int.toNat x5622) + (Int.toNat (((n5621 : Nat) : Int) - x5623))) : Nat) : Int))) (.int .i64 0))))]) (st' := ⟨[], [(0, .dead), (1, .dead), (2, .dead), (6, .sl false 0 0 ((Int.toNat x5622) + (Int.toNat (((n5621 : Nat) : Int) - x5623))) 1), (7, .dead), (16, .dead)], [(0, .p (putP (putP c5624 (Int.toNat x5622) (List.take (Int.toNat (((n5621 : Nat) : Int) - x5623)) (List.drop (Int.toNat x5623) c5624))) ((Int.toNat x5622) + (Int.toNat (((n5621 : Nat) : Int) - x5623))) (List.replicate (Int.toNat (((n5621 : Nat) : Int) - ((((Int.toNat x5622) + (Int.toNat (((n5621 : Nat) : Int) - x5623))) : Nat) : Int))) (.int .i64 0))))], 1, []⟩) (.k (.k (.k (.r (.k (.k .nil)))))) (.cons _ _ _ _ _ (DLes.refl _) .nil) (by kernel_rfl) (by simp only [go_sem, qa, qb, qc, qd, qe, qf, qg, qh, qi, qj, qk, ↓reduceIte, resQ_tmp, resQ_cell, resQ_nil, retD_one, retD_two, retD_three, retD_none]; first | done | exact ⟨rfl, rfl⟩ | (try simp [R.val, retD_one]))
      · cases h
def m60_L0 (N : Nat) (n5818 : Nat) : Nat → Int → Int → List PV → Option (List PV)
  | 0, _, _, _ => none
  | n + 1, x5836, x5837, c5838 =>
    brn (decide (x5836 < x5837)) (
      grd (0 ≤ x5837 ∧ x5837 < ((n5818 : Nat) : Int)) <|
      grd ((((Int.toNat x5837) * 2) + 2) ≤ List.length c5838) <|
      getA2 (.agg (List.take 2 (List.drop ((Int.toNat x5837) * 2) c5838))) fun p5844 p5845 =>
      grd (0 ≤ x5836 ∧ x5836 < ((n5818 : Nat) : Int)) <|
      grd ((((Int.toNat x5836) * 2) + 2) ≤ List.length c5838) <|
      getA2 (.agg (List.take 2 (List.drop ((Int.toNat x5836) * 2) c5838))) fun p5850 p5851 =>
      m60_L0 N n5818 n (IntKind.i64.wrap (x5836 + 1)) (IntKind.i64.wrap (x5837 - 1)) (List.set (List.set (List.set (List.set c5838 ((Int.toNat x5836) * 2) p5844) (((Int.toNat x5836) * 2) + 1) p5845) ((Int.toNat x5837) * 2) p5850) (((Int.toNat x5837) * 2) + 1) p5851)) (
      some c5838)
def m60 (N : Nat) (n5818 : Nat) (c5819 : List PV) : Option ((PV × List PV)) :=
  bnd' (m60_L0 N n5818 N 0 (IntKind.i64.wrap (((n5818 : Nat) : Int) - 1)) c5819) fun c5852 =>
  some ((.tup []), c5852)
theorem c60 (N : Nat) (n5818 : Nat) (c5819 : List PV) (r : PV) (c5854 : List PV) (h : m60 N n5818 c5819 = some (r, c5854)) : V.Fn Tryd.prog 60 1 [.sl false 0 0 n5818 2] [(0, .p c5819)] (fun d ob' => d = .v r ∧ ob' = [(0, .p c5854)]) := by
  unfold m60 at h
  refine Fn_of (sz := 28) tab_ok [0, 2, 3, 9] [] Tryd.func60 rfl rfl rfl (by simp) ?_
  simp only [initSt, initEnv, List.map_cons, List.map_nil, List.getD_cons_zero, List.getD_cons_succ, List.getD_nil]
  refine W_sound tab_ok mixed 8 _ _ _ ?_
  simp -implicitDefEqProofs only [go_sem, qa, qb, qc, qd, qe, qf, qg, qh, qi, qj, qk, ↓reduceIte]
  repeat with_reducible refine ⟨by first | kernel_rfl | decide, ?_⟩
  have hh := bnd'_some h; clear h; obtain ⟨o5855, h5856, h5857⟩ := hh
  refine Wp_cut (fun s => ∃ c5852, c5852 = o5855 ∧ s = ⟨[], [(0, .dead), (2, .dead), (3, .dead), (9, .dead)], [(0, .p c5852)], 1, []⟩) ?_ ?_
  · refine Wp_block ?_
    refine Wp_loopG (fun n s => ∃ x5836, ∃ x5837, ∃ c5838, m60_L0 N n5818 n x5836 x5837 c5838 = some o5855 ∧ s = ⟨[], [(0, .sl false 0 0 n5818 2), (2, .v (.int .i64 x5836)), (3, .v (.int .i64 x5837)), (9, .dead)], [(0, .p c5838)], 1, []⟩) N _ ((Wk_le (.r (.r (.r (.r .nil)))) (OLe.refl _)).trans (cmpS_ok rfl)) ⟨_, _, _, h5856, rfl⟩ ?_
    clear h5856
    rintro n _ ⟨x5836, x5837, c5838, h5856, rfl⟩
    cases n with
    | zero => cases h5856
    | succ n =>
      rw [m60_L0] at h5856
      have hh := brn_some h5856; clear h5856; rcases hh with ⟨h5839, h5856⟩ | ⟨h5839, h5856⟩
      · have hh := grd_some h5856; clear h5856; obtain ⟨⟨g5840, g5841⟩, h5856⟩ := hh
        have hh := grd_some h5856; clear h5856; obtain ⟨g5842, h5856⟩ := hh
        have hh := getA2_some h5856; clear h5856; obtain ⟨p5844, p5845, h5843, h5856⟩ := hh
        injection h5843 with h5843
        have hh := grd_some h5856; clear h5856; obtain ⟨⟨g5846, g5847⟩, h5856⟩ := hh
        have hh := grd_some h5856; clear h5856; obtain ⟨g5848, h5856⟩ := hh
        have hh := getA2_some h5856; clear h5856; obtain ⟨p5850, p5851, h5849, h5856⟩ := hh
        injection h5849 with h5849
        refine W_sound tab_ok mixed 38 _ _ _ ?_
        simp -implicitDefEqProofs only [go_sem, qa, qb, qc, qd, qe, qf, qg, qh, qi, qj, qk, ↓reduceIte, h5839, g5840, g5841, g5842, h5843, g5846, g5847, g5848, h5849]
        repeat with_reducible refine ⟨by first | kernel_rfl | decide, ?_⟩
        exact cutQ _ ((Wk_le (.r (.r (.r (.k .nil)))) (OLe.refl _)).trans (cmpS_ok rfl)) ⟨n, Nat.lt_succ_self n, _, _, _, h5856, rfl⟩
      · refine W_sound tab_ok mixed 9 _ _ _ ?_
        simp -implicitDefEqProofs only [go_sem, qa, qb, qc, qd, qe, qf, qg, qh, qi, qj, qk, ↓reduceIte, h5839]
        repeat with_reducible refine ⟨by first | kernel_rfl | decide, ?_⟩
        obtain rfl := Option.some.inj h5856
        exact cutQ _ ((Wk_le (.k (.k (.k (.k .nil)))) (OLe.refl _)).trans (cmpS_ok rfl)) ⟨_, rfl, rfl⟩
  · rintro _ ⟨c5852, rfl, rfl⟩
    refine W_sound tab_ok mixed 1 _ _ _ ?_
    simp -implicitDefEqProofs only [go_sem, qa, qb, qc, qd, qe, qf, qg, qh, qi, qj, qk, ↓reduceIte]
    repeat with_reducible refine ⟨by first | kernel_rfl | decide, ?_⟩
    simp only [Option.some.injEq, Prod.mk.injEq] at h5857; obtain ⟨rfl, rfl⟩ := h5857
    exact finD (e2 := [(0, .dead), (2, .dead), (3, .dead), (9, .dead)]) (ob2 := [(0, .p c5852)]) (st' := ⟨[], [(0, .dead), (2, .dead), (3, .dead), (9, .dead)], [(0, .p c5852)], 1, []⟩) (.r (.r (.r (.r .nil)))) (.cons _ _ _ _ _ (DLes.refl _) .nil) (by kernel_rfl) (by simp only [go_sem, qa, qb, qc, qd, qe, qf, qg, qh, qi, qj, qk, ↓reduceIte, resQ_tmp, resQ_cell, resQ_nil, retD_one, retD_two, retD_three, retD_none]; try simp [R.val, retD_one, retD_two, retD_three, retD_none])
def m13_L0 (N : Nat) (x5574 : Int) (p5584 : PV) (p5585 : PV) (p5586 : PV) (p5587 : PV) (p5588 : PV) (p5593 : PV) (x5595 : Int) : Nat → Nat → Int → List PV → Option ((Nat × List PV))
  | 0, _, _, _ => none
  | n + 1, n5600, x5601, c5602 =>
    brn (decide (x5601 < x5595)) (
      grd ((n5600 + 1) ≤ 1099511627776) <|
      grd (List.length c5602 = n5600) <|
      m13_L0 N x5574 p5584 p5585 p5586 p5587 p5588 p5593 x5595 n (n5600 + 1) (IntKind.i64.wrap (x5601 + 1)) (c5602 ++ [(.int .i64 x5601)])) (
      some (n5600, c5602))
def m13_L1 (N : Nat) (x5574 : Int) (p5584 : PV) (p5585 : PV) (p5586 : PV) (p5587 : PV) (p5588 : PV) (p5593 : PV) (x5595 : Int) : Nat → Nat → Nat → Int → List PV → List PV → Option ((Nat × List PV))
  | 0, _, _, _, _, _ => none
  | n + 1, n5675, n5676, x5677, c5678, c5679 =>
    brn (decide (x5677 < x5595)) (
      grd (0 ≤ x5677 ∧ x5677 < 5) <|
      grd ((Int.toNat x5677) < 5) <|
      getI .u8 (gp [p5584, p5585, p5586, p5587, p5588] (Int.toNat x5677)) fun x5685 =>
      grd (((n5675 : Nat) : Int) ≠ 0) <|
      grd (0 ≤ (Int.tmod (IntKind.i64.wrap x5685) ((n5675 : Nat) : Int)) ∧ (Int.tmod (IntKind.i64.wrap x5685) ((n5675 : Nat) : Int)) < ((n5675 : Nat) : Int)) <|
      grd ((Int.toNat (Int.tmod (IntKind.i64.wrap x5685) ((n5675 : Nat) : Int))) < List.length c5678) <|
      getI .i64 (gp c5678 (Int.toNat (Int.tmod (IntKind.i64.wrap x5685) ((n5675 : Nat) : Int)))) fun x5691 =>
      grd ((n5676 + 1) ≤ 1099511627776) <|
      grd (List.length c5679 = n5676) <|
      bnd' (m59 N n5675 (Int.tmod (IntKind.i64.wrap x5685) ((n5675 : Nat) : Int)) (IntKind.i64.wrap ((Int.tmod (IntKind.i64.wrap x5685) ((n5675 : Nat) : Int)) + 1)) c5678) fun (n5694, c5695) =>
      m13_L1 N x5574 p5584 p5585 p5586 p5587 p5588 p5593 x5595 n n5694 (n5676 + 1) (IntKind.i64.wrap (x5677 + 1)) c5695 (c5679 ++ [(.int .i64 x5691)])) (
      some (n5676, c5679))
def m13_L3 (N : Nat) (x5574 : Int) (x5595 : Int) (n5697 : Nat) (c5698 : List PV) (n5700 : Nat) (c5701 : List PV) (x5949 : Int) (n5950 : Nat) (c5951 : List PV) (n5958 : Nat) (c5959 : List PV) : Nat → Nat → Int → List PV → Option ((Nat × List PV))
  | 0, _, _, _ => none
  | n + 1, n6004, x6005, c6006 =>
    brn (decide (x6005 < ((n5958 : Nat) : Int))) (
      grd (0 ≤ x6005 ∧ x6005 < ((n5958 : Nat) : Int)) <|
      grd (2 ≤ List.length (List.drop ((Int.toNat x6005) * 2) c5959)) <|
      getA2 (.agg (List.take 2 (List.drop ((Int.toNat x6005) * 2) c5959))) fun p6012 p6013 =>
      getI .i64 p6012 fun x6015 =>
      grd (0 ≤ x6015 ∧ x6015 < ((n5697 : Nat) : Int)) <|
      grd ((Int.toNat x6015) < List.length c5698) <|
      getI .i64 (gp c5698 (Int.toNat x6015)) fun x6020 =>
      getI .i64 p6013 fun x6022 =>
      grd (0 ≤ x6022 ∧ x6022 < ((n5697 : Nat) : Int)) <|
      grd ((Int.toNat x6022) < List.length c5698) <|
      getI .i64 (gp c5698 (Int.toNat x6022)) fun x6027 =>
      grd ((n6004 + 1) ≤ 1099511627776) <|
      grd (List.length c6006 = (n6004 * 2)) <|
      m13_L3 N x5574 x5595 n5697 c5698 n5700 c5701 x5949 n5950 c5951 n5958 c5959 n (n6004 + 1) (IntKind.i64.wrap (x6005 + 1)) (c6006 ++ [(.int .i64 (minI x6020 x6027)), (.int .i64 (maxI x6020 x6027))])) (
      some (n6004, c6006))
def m13_L2 (N : Nat) (x5574 : Int) (x5595 : Int) (n5697 : Nat) (c5698 : List PV) (n5700 : Nat) (c5701 : List PV) : Nat → Int → Nat → List PV → Option ((Nat × List PV))
  | 0, _, _, _ => none
  | n + 1, x5949, n5950, c5951 =>
    brn (decide (x5949 < ((n5700 : Nat) : Int))) (
      grd (((n5700 : Nat) : Int) ≠ 0) <|
      grd (0 ≤ (Int.tmod (IntKind.i64.wrap (x5949 + (IntKind.i64.wrap x5574))) ((n5700 : Nat) : Int)) ∧ (Int.tmod (IntKind.i64.wrap (x5949 + (IntKind.i64.wrap x5574))) ((n5700 : Nat) : Int)) < ((n5700 : Nat) : Int)) <|
      grd (0 < List.length (List.drop (Int.toNat (Int.tmod (IntKind.i64.wrap (x5949 + (IntKind.i64.wrap x5574))) ((n5700 : Nat) : Int))) c5701)) <|
      getL (gp c5701 (Int.toNat (Int.tmod (IntKind.i64.wrap (x5949 + (IntKind.i64.wrap x5574))) ((n5700 : Nat) : Int)))) fun n5958 c5959 =>
      bnd' (m13_L3 N x5574 x5595 n5697 c5698 n5700 c5701 x5949 n5950 c5951 n5958 c5959 N 0 0 []) fun o =>
      match o with
      | (n6030, c6031) =>
        bnd' (m60 N n6030 c6031) fun (p6032, c6034) =>
        getT0 p6032 <|
        grd ((n5950 + 1) ≤ 1099511627776) <|
        grd (List.length c5951 = n5950) <|
        grd (List.length c6034 = (n6030 * 2)) <|
        m13_L2 N x5574 x5595 n5697 c5698 n5700 c5701 n (IntKind.i64.wrap (x5949 + 1)) (n5950 + 1) (c5951 ++ [(.lst false n6030 c6034)])) (
      some (n5950, c5951))
def m13 (N : Nat) (p5572 : PV) (p5573 : PV) (x5574 : Int) : Option (PV) :=
  getA7 p5572 fun p5576 p5577 p5578 p5579 p5580 p5581 p5582 =>
  getA5 p5573 fun p5584 p5585 p5586 p5587 p5588 =>
  bnd' (m40 N (.agg [p5576, p5577, p5578, p5579, p5580, p5581, p5582]) 4 4 4) fun p5589 =>
  getA2 p5589 fun p5592 p5593 =>
  getI .i64 p5592 fun x5595 =>
  bnd' (m13_L0 N x5574 p5584 p5585 p5586 p5587 p5588 p5593 x5595 N 0 0 []) fun o =>
  match o with
  | (n5606, c5607) =>
    bnd' (m13_L1 N x5574 p5584 p5585 p5586 p5587 p5588 p5593 x5595 N n5606 0 0 c5607 []) fun o =>
    match o with
    | (n5697, c5698) =>
      getL p5593 fun n5700 c5701 =>
      bnd' (m13_L2 N x5574 x5595 n5697 c5698 n5700 c5701 N 0 0 []) fun o =>
      match o with
      | (n6039, c6040) =>
        bnd' (m28 N (.agg [(.int .i64 x5595), (.lst false n5700 c5701)])) fun p6041 =>
        getT2 p6041 fun p6044 p6045 =>
        getI .i64 p6044 fun x6047 =>
        getI .i64 p6045 fun x6049 =>
        grd (List.length c6040 = n6039) <|
        bnd' (m28 N (.agg [(.int .i64 x5595), (.lst false n6039 c6040)])) fun p6051 =>
        getT2 p6051 fun p6054 p6055 =>
        getI .i64 p6054 fun x6057 =>
        getI .i64 p6055 fun x6059 =>
        bnd' (m32 N (.agg [(.int .i64 x5595), (.lst false n5700 c5701)])) fun p6060 =>
        getT2 p6060 fun p6063 p6064 =>
        getL p6063 fun n6066 c6067 =>
        getI .i64 p6064 fun x6069 =>
        bnd' (m32 N (.agg [(.int .i64 x5595), (.lst false n6039 c6040)])) fun p6070 =>
        getT2 p6070 fun p6073 p6074 =>
        getL p6073 fun n6076 c6077 =>
        getI .i64 p6074 fun x6079 =>
        brn (x6049 != 0) (
          some (.bool false)) (
          brn (x6059 != 0) (
            some (.bool false)) (
            brn (x6069 != 0) (
              some (.bool false)) (
              brn (x6079 != 0) (
                some (.bool false)) (
                brn (x6047 != x6057) (
                  some (.bool false)) (
                  brn (((n6066 : Nat) : Int) != ((n6076 : Nat) : Int)) (
                    some (.bool false)) (
                    bnd' (m36 N (.agg [(.int .i64 x5595), (.lst false n5700 c5701)])) fun p6086 =>
                    getT2 p6086 fun p6089 p6090 =>
                    getL p6089 fun n6092 c6093 =>
                    getI .i64 p6090 fun x6095 =>
                    bnd' (m36 N (.agg [(.int .i64 x5595), (.lst false n6039 c6040)])) fun p6096 =>
                    getT2 p6096 fun p6099 p6100 =>
                    getL p6099 fun n6102 c6103 =>
                    getI .i64 p6100 fun x6105 =>
                    brn (x6095 == x6105) (
                      brn (((n6092 : Nat) : Int) == ((n6102 : Nat) : Int)) (
                        brn ((x6095 == 0) == (x6047 == 0)) (
                          bnd' (m16 N ) fun p6109 =>
                          getB p6109 fun b6112 =>
                          some (.bool b6112)) (
                          some (.bool false))) (
                        some (.bool false))) (
                      some (.bool false))))))))
theorem c13 (N : Nat) (p5572 : PV) (p5573 : PV) (x5574 : Int) (r : PV)  (h : m13 N p5572 p5573 x5574 = some r) : FnP Tryd.prog 13 [p5572, p5573, (.int .u8 x5574)] r := by
  unfold m13 at h
  refine Fn_of (sz := 199) tab_ok [0, 1, 2, 3, 4, 6, 7, 8, 9, 10, 11, 12, 13, 14, 15, 17, 18, 19, 20, 21, 22, 23, 24, 25, 26, 27, 28, 29, 33, 34, 35, 43, 44, 45, 72, 73, 74, 87, 88, 89, 90, 168] [.tmp 6] Tryd.func13 rfl rfl rfl (by simp) ?_
  simp only [initSt, initEnv, List.map_cons, List.map_nil, List.getD_cons_zero, List.getD_cons_succ, List.getD_nil]
  have hh := getA7_some h; clear h; obtain ⟨p5576, p5577, p5578, p5579, p5580, p5581, p5582, h5575, h⟩ := hh
  have hh := getA5_some h; clear h; obtain ⟨p5584, p5585, p5586, p5587, p5588, h5583, h⟩ := hh
  have hh := bnd'_some h; clear h; obtain ⟨p5589, h5590, h⟩ := hh
  refine W_sound tab_ok mixed 9 _ _ _ ?_
  simp -implicitDefEqProofs only [go_sem, qa, qb, qc, qd, qe, qf, qg, qh, qi, qj, qk, ↓reduceIte, h5575, h5583]
  repeat with_reducible refine ⟨by first | kernel_rfl | decide, ?_⟩
  refine Wp_callP (c40 N _ _ _ _ _ h5590) (by kernel_rfl) rfl rfl rfl rfl (by decide) ?_
  have hh := getA2_some h; clear h; obtain ⟨p5592, p5593, h5591, h⟩ := hh
  have hh := getI_some h; clear h; obtain ⟨x5595, h5594, h⟩ := hh
  refine W_sound tab_ok mixed 15 _ _ _ ?_
  simp -implicitDefEqProofs only [go_sem, qa, qb, qc, qd, qe, qf, qg, qh, qi, qj, qk, ↓reduceIte, h5575, h5583, h5591, h5594]
  repeat with_reducible refine ⟨by first | kernel_rfl | decide, ?_⟩
  refine Wp_weaken (Wk_ownS 8 1 rfl (by decide) (by decide)) ?_
  simp -implicitDefEqProofs only [go_sem, qa, qb, qc, qd, qe, qf, qg, qh, qi, qj, qk, ↓reduceIte, h5575, h5583, h5591, h5594]
  have hh := bnd'_some h; clear h; obtain ⟨o6113, h6114, h6115⟩ := hh
  refine Wp_cut (fun s => ∃ n5606, ∃ c5607, (n5606, c5607) = o6113 ∧ s = ⟨[], [(0, .dead), (1, .dead), (2, .v (.int .u8 x5574)), (3, .dead), (4, .ptr 0 0), (6, .dead), (7, .ptr 1 0), (8, .sl false 2 0 n5606 1), (9, .v .nl), (10, .dead), (11, .dead), (12, .dead), (13, .dead), (14, .dead), (15, .dead), (17, .dead), (18, .dead), (19, .dead), (20, .dead), (21, .dead), (22, .dead), (23, .dead), (24, .dead), (25, .dead), (26, .dead), (27, .dead), (28, .dead), (29, .dead), (33, .dead), (34, .dead), (35, .dead), (43, .dead), (44, .dead), (45, .dead), (72, .dead), (73, .dead), (74, .dead), (87, .dead), (88, .dead), (89, .dead), (90, .dead), (168, .dead)], [(0, .p [p5584, p5585, p5586, p5587, p5588]), (1, .p [(.int .i64 x5595), p5593]), (2, .p c5607)], 3, []⟩) ?_ ?_
  · refine Wp_block ?_
    refine Wp_loopG (fun n s => ∃ n5600, ∃ x5601, ∃ c5602, m13_L0 N x5574 p5584 p5585 p5586 p5587 p5588 p5593 x5595 n n5600 x5601 c5602 = some o6113 ∧ s = ⟨[], [(0, .dead), (1, .dead), (2, .v (.int .u8 x5574)), (3, .dead), (4, .ptr 0 0), (6, .dead), (7, .ptr 1 0), (8, .sl false 2 0 n5600 1), (9, .v .nl), (10, .dead), (11, .dead), (12, .dead), (13, .dead), (14, .dead), (15, .dead), (17, .dead), (18, .dead), (19, .dead), (20, .dead), (21, .dead), (22, .dead), (23, .dead), (24, .dead), (25, .dead), (26, .dead), (27, .dead), (28, .dead), (29, .dead), (33, .v (.int .i64 x5595)), (34, .v (.int .i64 x5601)), (35, .dead), (43, .dead), (44, .dead), (45, .dead), (72, .dead), (73, .dead), (74, .dead), (87, .dead), (88, .dead), (89, .dead), (90, .dead), (168, .dead)], [(0, .p [p5584, p5585, p5586, p5587, p5588]), (1, .p [(.int .i64 x5595), p5593]), (2, .p c5602)], 3, []⟩) N _ ((Wk_le (.k (.k (.r (.k (.r (.k (.r (.r (.r (.r (.r (.r (.r (.r (.r (.r (.r (.r (.r (.r (.r (.r (.r (.r (.r (.r (.r (.r (.r (.r (.r (.r (.r (.r (.r (.r (.r (.r (.r (.r (.r (.r .nil)))))))))))))))))))))))))))))))))))))))))) (OLe.refl _)).trans (cmpS_ok (st' := ⟨[], [(0, .dead), (1, .dead), (2, .v (.int .u8 x5574)), (3, .dead), (4, .ptr 0 0), (6, .dead), (7, .ptr 1 0), (8, .sl false 2 0 0 1), (9, .v .nl), (10, .dead), (11, .dead), (12, .dead), (13, .dead), (14, .dead), (15, .dead), (17, .dead), (18, .dead), (19, .dead), (20, .dead), (21, .dead), (22, .dead), (23, .dead), (24, .dead), (25, .dead), (26, .dead), (27, .dead), (28, .dead), (29, .dead), (33, .v (.int .i64 x5595)), (34, .v (.int .i64 0)), (35, .dead), (43, .dead), (44, .dead), (45, .dead), (72, .dead), (73, .dead), (74, .dead), (87, .dead), (88, .dead), (89, .dead), (90, .dead), (168, .dead)], [(0, .p [p5584, p5585, p5586, p5587, p5588]), (1, .p [(.int .i64 x5595), p5593]), (2, .p [])], 3, []⟩) (by kernel_rfl))) ⟨_, _, _, h6114, rfl⟩ ?_
    clear h6114
    rintro n _ ⟨n5600, x5601, c5602, h6114, rfl⟩
    cases n with
    | zero => cases h6114
    | succ n =>
      rw [m13_L0] at h6114
      have hh := brn_some h6114; clear h6114; rcases hh with ⟨h5603, h6114⟩ | ⟨h5603, h6114⟩
      · have hh := grd_some h6114; clear h6114; obtain ⟨g5604, h6114⟩ := hh
        have hh := grd_some h6114; clear h6114; obtain ⟨g5605, h6114⟩ := hh
        refine W_sound tab_ok mixed 26 _ _ _ ?_
        simp -implicitDefEqProofs only [go_sem, qa, qb, qc, qd, qe, qf, qg, qh, qi, qj, qk, ↓reduceIte, h5575, h5583, h5591, h5594, h5603, g5604, g5605]
        repeat with_reducible refine ⟨by first | kernel_rfl | decide, ?_⟩
        exact cutQ _ ((Wk_le (.r (.r (.r (.r (.r (.r (.r (.r (.r (.k (.r (.r (.r (.r (.r (.r (.r (.r (.r (.r (.r (.r (.r (.r (.r (.r (.r (.r (.r (.r (.k (.r (.r (.r (.r (.r (.r (.r (.r (.r (.r (.r .nil)))))))))))))))))))))))))))))))))))))))))) (OLe.refl _)).trans (cmpS_ok (st' := ⟨[], [(0, .dead), (1, .dead), (2, .v (.int .u8 x5574)), (3, .dead), (4, .ptr 0 0), (6, .dead), (7, .ptr 1 0), (8, .sl false 2 0 (n5600 + 1) 1), (9, .v .nl), (10, .dead), (11, .dead), (12, .dead), (13, .dead), (14, .dead), (15, .dead), (17, .dead), (18, .dead), (19, .dead), (20, .dead), (21, .dead), (22, .dead), (23, .dead), (24, .dead), (25, .dead), (26, .dead), (27, .dead), (28, .dead), (29, .dead), (33, .v (.int .i64 x5595)), (34, .v (.int .i64 (IntKind.i64.wrap (x5601 + 1)))), (35, .dead), (43, .dead), (44, .dead), (45, .dead), (72, .dead), (73, .dead), (74, .dead), (87, .dead), (88, .dead), (89, .dead), (90, .dead), (168, .dead)], [(0, .p [p5584, p5585, p5586, p5587, p5588]), (1, .p [(.int .i64 x5595), p5593]), (2, .p (c5602 ++ [(.int .i64 x5601)]))], 3, []⟩) (by kernel_rfl))) ⟨n, Nat.lt_succ_self n, _, _, _, h6114, rfl⟩
      · refine W_sound tab_ok mixed 7 _ _ _ ?_
        simp -implicitDefEqProofs only [go_sem, qa, qb, qc, qd, qe, qf, qg, qh, qi, qj, qk, ↓reduceIte, h5575, h5583, h5591, h5594, h5603]
        repeat with_reducible refine ⟨by first | kernel_rfl | decide, ?_⟩
        obtain rfl := Option.some.inj h6114
        exact cutQ _ ((Wk_le (.r (.r (.r (.r (.r (.r (.r (.r (.r (.r (.r (.r (.r (.r (.r (.r (.r (.r (.r (.r (.r (.r (.r (.r (.r (.r (.r (.r (.k (.k (.k (.r (.r (.r (.r (.r (.r (.r (.r (.r (.r (.r .nil)))))))))))))))))))))))))))))))))))))))))) (OLe.refl _)).trans (cmpS_ok (st' := ⟨[], [(0, .dead), (1, .dead), (2, .v (.int .u8 x5574)), (3, .dead), (4, .ptr 0 0), (6, .dead), (7, .ptr 1 0), (8, .sl false 2 0 n5600 1), (9, .v .nl), (10, .dead), (11, .dead), (12, .dead), (13, .dead), (14, .dead), (15, .dead), (17, .dead), (18, .dead), (19, .dead), (20, .dead), (21, .dead), (22, .dead), (23, .dead), (24, .dead), (25, .dead), (26, .dead), (27, .dead), (28, .dead), (29, .dead), (33, .dead), (34, .dead), (35, .dead), (43, .dead), (44, .dead), (45, .dead), (72, .dead), (73, .dead), (74, .dead), (87, .dead), (88, .dead), (89, .dead), (90, .dead), (168, .dead)], [(0, .p [p5584, p5585, p5586, p5587, p5588]), (1, .p [(.int .i64 x5595), p5593]), (2, .p c5602)], 3, []⟩) (by kernel_rfl))) ⟨_, _, rfl, rfl⟩
  · rintro _ ⟨n5606, c5607, rfl, rfl⟩
    (try dsimp only at h6115)
    refine W_sound tab_ok mixed 7 _ _ _ ?_
    simp -implicitDefEqProofs only [go_sem, qa, qb, qc, qd, qe, qf, qg, qh, qi, qj, qk, ↓reduceIte, h5575, h5583, h5591, h5594]
    repeat with_reducible refine ⟨by first | kernel_rfl | decide, ?_⟩
    refine Wp_weaken (Wk_ownS 9 1 rfl (by decide) (by decide)) ?_
    simp -implicitDefEqProofs only [go_sem, qa, qb, qc, qd, qe, qf, qg, qh, qi, qj, qk, ↓reduceIte, h5575, h5583, h5591, h5594]
    have hh := bnd'_some h6115; clear h6115; obtain ⟨o6116, h6117, h6118⟩ := hh
    refine Wp_cut (fun s => ∃ n5697, ∃ c5698, (n5697, c5698) = o6116 ∧ s = ⟨[], [(0, .dead), (1, .dead), (2, .v (.int .u8 x5574)), (3, .dead), (4, .dead), (6, .dead), (7, .ptr 0 0), (8, .dead), (9, .sl false 1 0 n5697 1), (10, .dead), (11, .dead), (12, .dead), (13, .dead), (14, .dead), (15, .dead), (17, .dead), (18, .dead), (19, .dead), (20, .dead), (21, .dead), (22, .dead), (23, .dead), (24, .dead), (25, .dead), (26, .dead), (27, .dead), (28, .dead), (29, .dead), (33, .dead), (34, .dead), (35, .dead), (43, .dead), (44, .dead), (45, .dead), (72, .dead), (73, .dead), (74, .dead), (87, .dead), (88, .dead), (89, .dead), (90, .dead), (168, .dead)], [(0, .p [(.int .i64 x5595), p5593]), (1, .p c5698)], 2, []⟩) ?_ ?_
    · refine Wp_block ?_
      refine Wp_loopG (fun n s => ∃ n5675, ∃ n5676, ∃ x5677, ∃ c5678, ∃ c5679, m13_L1 N x5574 p5584 p5585 p5586 p5587 p5588 p5593 x5595 n n5675 n5676 x5677 c5678 c5679 = some o6116 ∧ s = ⟨[], [(0, .dead), (1, .dead), (2, .v (.int .u8 x5574)), (3, .dead), (4, .ptr 0 0), (6, .dead), (7, .ptr 1 0), (8, .sl false 2 0 n5675 1), (9, .sl false 3 0 n5676 1), (10, .dead), (11, .dead), (12, .dead), (13, .dead), (14, .dead), (15, .dead), (17, .dead), (18, .dead), (19, .dead), (20, .dead), (21, .dead), (22, .dead), (23, .dead), (24, .dead), (25, .dead), (26, .dead), (27, .dead), (28, .dead), (29, .dead), (33, .dead), (34, .dead), (35, .dead), (43, .v (.int .i64 x5595)), (44, .v (.int .i64 x5677)), (45, .dead), (72, .dead), (73, .dead), (74, .dead), (87, .dead), (88, .dead), (89, .dead), (90, .dead), (168, .dead)], [(0, .p [p5584, p5585, p5586, p5587, p5588]), (1, .p [(.int .i64 x5595), p5593]), (2, .p c5678), (3, .p c5679)], 4, []⟩) N _ ((Wk_le (.r (.r (.r (.r (.r (.r (.r (.r (.r (.r (.r (.r (.r (.r (.r (.r (.r (.r (.r (.r (.r (.r (.r (.r (.r (.r (.r (.r (.r (.r (.r (.r (.r (.r (.r (.r (.r (.r (.r (.r (.r (.r .nil)))))))))))))))))))))))))))))))))))))))))) (OLe.refl _)).trans (cmpS_ok (st' := ⟨[], [(0, .dead), (1, .dead), (2, .v (.int .u8 x5574)), (3, .dead), (4, .ptr 0 0), (6, .dead), (7, .ptr 1 0), (8, .sl false 2 0 n5606 1), (9, .sl false 3 0 0 1), (10, .dead), (11, .dead), (12, .dead), (13, .dead), (14, .dead), (15, .dead), (17, .dead), (18, .dead), (19, .dead), (20, .dead), (21, .dead), (22, .dead), (23, .dead), (24, .dead), (25, .dead), (26, .dead), (27, .dead), (28, .dead), (29, .dead), (33, .dead), (34, .dead), (35, .dead), (43, .v (.int .i64 x5595)), (44, .v (.int .i64 0)), (45, .dead), (72, .dead), (73, .dead), (74, .dead), (87, .dead), (88, .dead), (89, .dead), (90, .dead), (168, .dead)], [(0, .p [p5584, p5585, p5586, p5587, p5588]), (1, .p [(.int .i64 x5595), p5593]), (2, .p c5607), (3, .p [])], 4, []⟩) (by kernel_rfl))) ⟨_, _, _, _, _, h6117, rfl⟩ ?_
      clear h6117
      rintro n _ ⟨n5675, n5676, x5677, c5678, c5679, h6117, rfl⟩
      cases n with
      | zero => cases h6117
      | succ n =>
        rw [m13_L1] at h6117
        have hh := brn_some h6117; clear h6117; rcases hh with ⟨h5680, h6117⟩ | ⟨h5680, h6117⟩
        · have hh := grd_some h6117; clear h6117; obtain ⟨⟨g5681, g5682⟩, h6117⟩ := hh
          have hh := grd_some h6117; clear h6117; obtain ⟨g5683, h6117⟩ := hh
          have hh := getI_some h6117; clear h6117; obtain ⟨x5685, h5684, h6117⟩ := hh
          have hh := grd_some h6117; clear h6117; obtain ⟨g5686, h6117⟩ := hh
          have hh := grd_some h6117; clear h6117; obtain ⟨⟨g5687, g5688⟩, h6117⟩ := hh
          have hh := grd_some h6117; clear h6117; obtain ⟨g5689, h6117⟩ := hh
          have hh := getI_some h6117; clear h6117; obtain ⟨x5691, h5690, h6117⟩ := hh
          have hh := grd_some h6117; clear h6117; obtain ⟨g5692, h6117⟩ := hh
          have hh := grd_some h6117; clear h6117; obtain ⟨g5693, h6117⟩ := hh
          have hh := bnd'_some h6117; clear h6117; obtain ⟨⟨n5694, c5695⟩, h5696, h6117⟩ := hh
          (try dsimp only at h6117)
          refine W_sound tab_ok mixed 41 _ _ _ ?_
          simp -implicitDefEqProofs only [go_sem, qa, qb, qc, qd, qe, qf, qg, qh, qi, qj, qk, ↓reduceIte, h5575, h5583, h5591, h5594, h5680, g5681, g5682, g5683, h5684, g5686, g5687, g5688, g5689, h5690, g5692, g5693]
          repeat with_reducible refine ⟨by first | kernel_rfl | decide, ?_⟩
          refine Wp_callD [2] (c59 N _ _ _ _ _ _ h5696) rfl rfl rfl (by first | rfl | (simp only [go_sem, qa, qb, qc, qd, qe, qf, qg, qh, qi, qj, qk, ↓reduceIte, h5575, h5583, h5591, h5594, h5680, g5681, g5682, g5683, h5684, g5686, g5687, g5688, g5689, h5690, g5692, g5693] <;> rfl)) rfl (by kernel_rfl) ?_
          refine W_sound tab_ok mixed 7 _ _ _ ?_
          simp -implicitDefEqProofs only [go_sem, qa, qb, qc, qd, qe, qf, qg, qh, qi, qj, qk, ↓reduceIte, h5575, h5583, h5591, h5594, h5680, g5681, g5682, g5683, h5684, g5686, g5687, g5688, g5689, h5690, g5692, g5693]
          repeat with_reducible refine ⟨by first | kernel_rfl | decide, ?_⟩
          exact cutQ _ ((Wk_le (.r (.r (.r (.r (.r (.r (.r (.r (.r (.r (.k (.k (.r (.r (.r (.r (.r (.r (.r (.r (.r (.r (.r (.r (.r (.r (.r (.r (.r (.r (.r (.r (.r (.k (.r (.r (.r (.r (.r (.r (.r (.r .nil)))))))))))))))))))))))))))))))))))))))))) (OLe.refl _)).trans (cmpS_ok (st' := ⟨[], [(0, .dead), (1, .dead), (2, .v (.int .u8 x5574)), (3, .dead), (4, .ptr 0 0), (6, .dead), (7, .ptr 1 0), (8, .sl false 2 0 n5694 1), (9, .sl false 3 0 (n5676 + 1) 1), (10, .dead), (11, .dead), (12, .dead), (13, .dead), (14, .dead), (15, .dead), (17, .dead), (18, .dead), (19, .dead), (20, .dead), (21, .dead), (22, .dead), (23, .dead), (24, .dead), (25, .dead), (26, .dead), (27, .dead), (28, .dead), (29, .dead), (33, .dead), (34, .dead), (35, .dead), (43, .v (.int .i64 x5595)), (44, .v (.int .i64 (IntKind.i64.wrap (x5677 + 1)))), (45, .dead), (72, .dead), (73, .dead), (74, .dead), (87, .dead), (88, .dead), (89, .dead), (90, .dead), (168, .dead)], [(0, .p [p5584, p5585, p5586, p5587, p5588]), (1, .p [(.int .i64 x5595), p5593]), (2, .p c5695), (3, .p (c5679 ++ [(.int .i64 x5691)]))], 4, []⟩) (by kernel_rfl))) ⟨n, Nat.lt_succ_self n, _, _, _, _, _, h6117, rfl⟩
        · refine W_sound tab_ok mixed 7 _ _ _ ?_
          simp -implicitDefEqProofs only [go_sem, qa, qb, qc, qd, qe, qf, qg, qh, qi, qj, qk, ↓reduceIte, h5575, h5583, h5591, h5594, h5680]
          repeat with_reducible refine ⟨by first | kernel_rfl | decide, ?_⟩
          obtain rfl := Option.some.inj h6117
          exact cutQ _ ((Wk_le (.r (.r (.r (.r (.k (.r (.r (.k (.r (.r (.r (.r (.r (.r (.r (.r (.r (.r (.r (.r (.r (.r (.r (.r (.r (.r (.r (.r (.r (.r (.r (.k (.k (.k (.r (.r (.r (.r (.r (.r (.r (.r .nil)))))))))))))))))))))))))))))))))))))))))) (OLe.refl _)).trans (cmpS_ok (st' := ⟨[], [(0, .dead), (1, .dead), (2, .v (.int .u8 x5574)), (3, .dead), (4, .dead), (6, .dead), (7, .ptr 0 0), (8, .dead), (9, .sl false 1 0 n5676 1), (10, .dead), (11, .dead), (12, .dead), (13, .dead), (14, .dead), (15, .dead), (17, .dead), (18, .dead), (19, .dead), (20, .dead), (21, .dead), (22, .dead), (23, .dead), (24, .dead), (25, .dead), (26, .dead), (27, .dead), (28, .dead), (29, .dead), (33, .dead), (34, .dead), (35, .dead), (43, .dead), (44, .dead), (45, .dead), (72, .dead), (73, .dead), (74, .dead), (87, .dead), (88, .dead), (89, .dead), (90, .dead), (168, .dead)], [(0, .p [(.int .i64 x5595), p5593]), (1, .p c5679)], 2, []⟩) (by kernel_rfl))) ⟨_, _, rfl, rfl⟩
    · rintro _ ⟨n5697, c5698, rfl, rfl⟩
      (try dsimp only at h6118)
      have hh := getL_some h6118; clear h6118; obtain ⟨n5700, c5701, h5699, h6118⟩ := hh
      refine W_sound tab_ok mixed 16 _ _ _ ?_
      simp -implicitDefEqProofs only [go_sem, qa, qb, qc, qd, qe, qf, qg, qh, qi, qj, qk, ↓reduceIte, h5575, h5583, h5591, h5594, h5699]
      repeat with_reducible refine ⟨by first | kernel_rfl | decide, ?_⟩
      refine Wp_weaken (Wk_ownC 15 1 1 rfl rfl (by decide) (by decide)) ?_
      simp -implicitDefEqProofs only [go_sem, qa, qb, qc, qd, qe, qf, qg, qh, qi, qj, qk, ↓reduceIte, setO, h5575, h5583, h5591, h5594, h5699]
      have hh := bnd'_some h6118; clear h6118; obtain ⟨o6119, h6120, h6121⟩ := hh
      refine Wp_cut (fun s => ∃ n6039, ∃ c6040, (n6039, c6040) = o6119 ∧ s = ⟨[], [(0, .dead), (1, .dead), (2, .dead), (3, .dead), (4, .dead), (6, .dead), (7, .ptr 0 0), (8, .dead), (9, .dead), (10, .dead), (11, .dead), (12, .dead), (13, .ptr 1 0), (14, .dead), (15, .dead), (17, .dead), (18, .dead), (19, .dead), (20, .dead), (21, .dead), (22, .dead), (23, .dead), (24, .dead), (25, .dead), (26, .dead), (27, .dead), (28, .dead), (29, .dead), (33, .dead), (34, .dead), (35, .dead), (43, .dead), (44, .dead), (45, .dead), (72, .dead), (73, .dead), (74, .dead), (87, .dead), (88, .dead), (89, .dead), (90, .dead), (168, .dead)], [(0, .p [(.int .i64 x5595), (.lst false n5700 c5701)]), (1, .r [.v (.int .i64 x5595), .sl false 2 0 n6039 1]), (2, .p c6040)], 3, []⟩) ?_ ?_
      · refine Wp_block ?_
        refine Wp_loopG (fun n s => ∃ x5949, ∃ n5950, ∃ c5951, m13_L2 N x5574 x5595 n5697 c5698 n5700 c5701 n x5949 n5950 c5951 = some o6119 ∧ s = ⟨[], [(0, .dead), (1, .dead), (2, .v (.int .u8 x5574)), (3, .dead), (4, .dead), (6, .dead), (7, .ptr 0 0), (8, .dead), (9, .sl false 1 0 n5697 1), (10, .dead), (11, .dead), (12, .dead), (13, .ptr 2 0), (14, .dead), (15, .dead), (17, .dead), (18, .dead), (19, .dead), (20, .dead), (21, .dead), (22, .dead), (23, .dead), (24, .dead), (25, .dead), (26, .dead), (27, .dead), (28, .dead), (29, .dead), (33, .dead), (34, .dead), (35, .dead), (43, .dead), (44, .dead), (45, .dead), (72, .v (.int .i64 ((n5700 : Nat) : Int))), (73, .v (.int .i64 x5949)), (74, .dead), (87, .dead), (88, .dead), (89, .dead), (90, .dead), (168, .dead)], [(0, .p [(.int .i64 x5595), (.lst false n5700 c5701)]), (1, .p c5698), (2, .r [.v (.int .i64 x5595), .sl false 3 0 n5950 1]), (3, .p c5951)], 4, []⟩) N _ ((Wk_le (.r (.r (.r (.r (.r (.r (.r (.r (.r (.r (.r (.r (.r (.r (.r (.r (.r (.r (.r (.r (.r (.r (.r (.r (.r (.r (.r (.r (.r (.r (.r (.r (.r (.r (.r (.r (.r (.r (.r (.r (.r (.r .nil)))))))))))))))))))))))))))))))))))))))))) (OLe.refl _)).trans (cmpS_ok (st' := ⟨[], [(0, .dead), (1, .dead), (2, .v (.int .u8 x5574)), (3, .dead), (4, .dead), (6, .dead), (7, .ptr 0 0), (8, .dead), (9, .sl false 1 0 n5697 1), (10, .dead), (11, .dead), (12, .dead), (13, .ptr 2 0), (14, .dead), (15, .dead), (17, .dead), (18, .dead), (19, .dead), (20, .dead), (21, .dead), (22, .dead), (23, .dead), (24, .dead), (25, .dead), (26, .dead), (27, .dead), (28, .dead), (29, .dead), (33, .dead), (34, .dead), (35, .dead), (43, .dead), (44, .dead), (45, .dead), (72, .v (.int .i64 ((n5700 : Nat) : Int))), (73, .v (.int .i64 0)), (74, .dead), (87, .dead), (88, .dead), (89, .dead), (90, .dead), (168, .dead)], [(0, .p [(.int .i64 x5595), (.lst false n5700 c5701)]), (1, .p c5698), (2, .r [.v (.int .i64 x5595), .sl false 3 0 0 1]), (3, .p [])], 4, []⟩) (by kernel_rfl))) ⟨_, _, _, h6120, rfl⟩ ?_
        clear h6120
        rintro n _ ⟨x5949, n5950, c5951, h6120, rfl⟩
        cases n with
        | zero => cases h6120
        | succ n =>
          rw [m13_L2] at h6120
          have hh := brn_some h6120; clear h6120; rcases hh with ⟨h5952, h6120⟩ | ⟨h5952, h6120⟩
          · have hh := grd_some h6120; clear h6120; obtain ⟨g5953, h6120⟩ := hh
            have hh := grd_some h6120; clear h6120; obtain ⟨⟨g5954, g5955⟩, h6120⟩ := hh
            have hh := grd_some h6120; clear h6120; obtain ⟨g5956, h6120⟩ := hh
            have hh := getL_some h6120; clear h6120; obtain ⟨n5958, c5959, h5957, h6120⟩ := hh
            refine W_sound tab_ok mixed 36 _ _ _ ?_
            simp -implicitDefEqProofs only [go_sem, qa, qb, qc, qd, qe, qf, qg, qh, qi, qj, qk, ↓reduceIte, h5575, h5583, h5591, h5594, h5699, h5952, g5953, g5954, g5955, g5956, h5957]
            repeat with_reducible refine ⟨by first | kernel_rfl | decide, ?_⟩
            refine Wp_weaken (Wk_ownS 15 2 rfl (by decide) (by decide)) ?_
            simp -implicitDefEqProofs only [go_sem, qa, qb, qc, qd, qe, qf, qg, qh, qi, qj, qk, ↓reduceIte, h5575, h5583, h5591, h5594, h5699, h5952, g5953, g5954, g5955, g5956, h5957]
            have hh := bnd'_some h6120; clear h6120; obtain ⟨o6122, h6123, h6124⟩ := hh
            refine Wp_cut (fun s => ∃ n6030, ∃ c6031, (n6030, c6031) = o6122 ∧ s = ⟨[], [(0, .dead), (1, .dead), (2, .v (.int .u8 x5574)), (3, .dead), (4, .dead), (6, .dead), (7, .ptr 0 0), (8, .dead), (9, .sl false 1 0 n5697 1), (10, .dead), (11, .dead), (12, .dead), (13, .ptr 2 0), (14, .dead), (15, .sl false 3 0 n6030 2), (17, .dead), (18, .dead), (19, .dead), (20, .dead), (21, .dead), (22, .dead), (23, .dead), (24, .dead), (25, .dead), (26, .dead), (27, .dead), (28, .dead), (29, .dead), (33, .dead), (34, .dead), (35, .dead), (43, .dead), (44, .dead), (45, .dead), (72, .v (.int .i64 ((n5700 : Nat) : Int))), (73, .v (.int .i64 x5949)), (74, .dead), (87, .dead), (88, .dead), (89, .dead), (90, .dead), (168, .dead)], [(0, .p [(.int .i64 x5595), (.lst false n5700 c5701)]), (1, .p c5698), (2, .r [.v (.int .i64 x5595), .sl false 4 0 n5950 1]), (3, .p c6031), (4, .p c5951)], 5, []⟩) ?_ ?_
            · refine Wp_block ?_
              refine Wp_loopG (fun n s => ∃ n6004, ∃ x6005, ∃ c6006, m13_L3 N x5574 x5595 n5697 c5698 n5700 c5701 x5949 n5950 c5951 n5958 c5959 n n6004 x6005 c6006 = some o6122 ∧ s = ⟨[], [(0, .dead), (1, .dead), (2, .v (.int .u8 x5574)), (3, .dead), (4, .dead), (6, .dead), (7, .ptr 0 0), (8, .dead), (9, .sl false 1 0 n5697 1), (10, .dead), (11, .dead), (12, .dead), (13, .ptr 2 0), (14, .dead), (15, .sl false 3 0 n6004 2), (17, .dead), (18, .dead), (19, .dead), (20, .dead), (21, .dead), (22, .dead), (23, .dead), (24, .dead), (25, .dead), (26, .dead), (27, .dead), (28, .dead), (29, .dead), (33, .dead), (34, .dead), (35, .dead), (43, .dead), (44, .dead), (45, .dead), (72, .v (.int .i64 ((n5700 : Nat) : Int))), (73, .v (.int .i64 x5949)), (74, .dead), (87, .v (.lst false n5958 c5959)), (88, .v (.int .i64 ((n5958 : Nat) : Int))), (89, .v (.int .i64 x6005)), (90, .dead), (168, .dead)], [(0, .p [(.int .i64 x5595), (.lst false n5700 c5701)]), (1, .p c5698), (2, .r [.v (.int .i64 x5595), .sl false 4 0 n5950 1]), (3, .p c6006), (4, .p c5951)], 5, []⟩) N _ ((Wk_le (.r (.r (.r (.r (.r (.r (.r (.r (.r (.r (.r (.r (.r (.k (.r (.r (.r (.r (.r (.r (.r (.r (.r (.r (.r (.r (.r (.r (.r (.r (.r (.r (.r (.r (.r (.r (.k (.r (.r (.r (.r (.r .nil)))))))))))))))))))))))))))))))))))))))))) (OLe.refl _)).trans (cmpS_ok (st' := ⟨[], [(0, .dead), (1, .dead), (2, .v (.int .u8 x5574)), (3, .dead), (4, .dead), (6, .dead), (7, .ptr 0 0), (8, .dead), (9, .sl false 1 0 n5697 1), (10, .dead), (11, .dead), (12, .dead), (13, .ptr 2 0), (14, .dead), (15, .sl false 3 0 0 2), (17, .dead), (18, .dead), (19, .dead), (20, .dead), (21, .dead), (22, .dead), (23, .dead), (24, .dead), (25, .dead), (26, .dead), (27, .dead), (28, .dead), (29, .dead), (33, .dead), (34, .dead), (35, .dead), (43, .dead), (44, .dead), (45, .dead), (72, .v (.int .i64 ((n5700 : Nat) : Int))), (73, .v (.int .i64 x5949)), (74, .dead), (87, .v (.lst false n5958 c5959)), (88, .v (.int .i64 ((n5958 : Nat) : Int))), (89, .v (.int .i64 0)), (90, .dead), (168, .dead)], [(0, .p [(.int .i64 x5595), (.lst false n5700 c5701)]), (1, .p c5698), (2, .r [.v (.int .i64 x5595), .sl false 4 0 n5950 1]), (3, .p []), (4, .p c5951)], 5, []⟩) (by kernel_rfl))) ⟨_, _, _, h6123, rfl⟩ ?_
              clear h6123
              rintro n _ ⟨n6004, x6005, c6006, h6123, rfl⟩
              cases n with
              | zero => cases h6123
              | succ n =>
                rw [m13_L3] at h6123
                have hh := brn_some h6123; clear h6123; rcases hh with ⟨h6007, h6123⟩ | ⟨h6007, h6123⟩
                · have hh := grd_some h6123; clear h6123; obtain ⟨⟨g6008, g6009⟩, h6123⟩ := hh
                  have hh := grd_some h6123; clear h6123; obtain ⟨g6010, h6123⟩ := hh
                  have hh := getA2_some h6123; clear h6123; obtain ⟨p6012, p6013, h6011, h6123⟩ := hh
                  injection h6011 with h6011
                  have hh := getI_some h6123; clear h6123; obtain ⟨x6015, h6014, h6123⟩ := hh
                  have hh := grd_some h6123; clear h6123; obtain ⟨⟨g6016, g6017⟩, h6123⟩ := hh
                  have hh := grd_some h6123; clear h6123; obtain ⟨g6018, h6123⟩ := hh
                  have hh := getI_some h6123; clear h6123; obtain ⟨x6020, h6019, h6123⟩ := hh
                  have hh := getI_some h6123; clear h6123; obtain ⟨x6022, h6021, h6123⟩ := hh
                  have hh := grd_some h6123; clear h6123; obtain ⟨⟨g6023, g6024⟩, h6123⟩ := hh
                  have hh := grd_some h6123; clear h6123; obtain ⟨g6025, h6123⟩ := hh
                  have hh := getI_some h6123; clear h6123; obtain ⟨x6027, h6026, h6123⟩ := hh
                  have hh := grd_some h6123; clear h6123; obtain ⟨g6028, h6123⟩ := hh
                  have hh := grd_some h6123; clear h6123; obtain ⟨g6029, h6123⟩ := hh
                  refine W_sound tab_ok mixed 49 _ _ _ ?_
                  simp -implicitDefEqProofs only [go_sem, qa, qb, qc, qd, qe, qf, qg, qh, qi, qj, qk, ↓reduceIte, h5575, h5583, h5591, h5594, h5699, h5952, g5953, g5954, g5955, g5956, h5957, h6007, g6008, g6009, g6010, h6011, h6014, g6016, g6017, g6018, h6019, h6021, g6023, g6024, g6025, h6026, g6028, g6029]
                  repeat with_reducible refine ⟨by first | kernel_rfl | decide, ?_⟩
                  exact cutQ _ ((Wk_le (.r (.r (.r (.r (.r (.r (.r (.r (.r (.r (.r (.r (.r (.r (.r (.k (.k (.k (.r (.r (.r (.r (.r (.r (.r (.r (.r (.r (.r (.r (.r (.r (.r (.r (.r (.r (.r (.r (.r (.r (.k (.r .nil)))))))))))))))))))))))))))))))))))))))))) (OLe.refl _)).trans (cmpS_ok (st' := ⟨[], [(0, .dead), (1, .dead), (2, .v (.int .u8 x5574)), (3, .dead), (4, .dead), (6, .dead), (7, .ptr 0 0), (8, .dead), (9, .sl false 1 0 n5697 1), (10, .dead), (11, .dead), (12, .dead), (13, .ptr 2 0), (14, .dead), (15, .sl false 3 0 (n6004 + 1) 2), (17, .dead), (18, .dead), (19, .dead), (20, .dead), (21, .dead), (22, .dead), (23, .dead), (24, .dead), (25, .dead), (26, .dead), (27, .dead), (28, .dead), (29, .dead), (33, .dead), (34, .dead), (35, .dead), (43, .dead), (44, .dead), (45, .dead), (72, .v (.int .i64 ((n5700 : Nat) : Int))), (73, .v (.int .i64 x5949)), (74, .dead), (87, .v (.lst false n5958 c5959)), (88, .v (.int .i64 ((n5958 : Nat) : Int))), (89, .v (.int .i64 (IntKind.i64.wrap (x6005 + 1)))), (90, .dead), (168, .dead)], [(0, .p [(.int .i64 x5595), (.lst false n5700 c5701)]), (1, .p c5698), (2, .r [.v (.int .i64 x5595), .sl false 4 0 n5950 1]), (3, .p (c6006 ++ [(.int .i64 (minI x6020 x6027)), (.int .i64 (maxI x6020 x6027))])), (4, .p c5951)], 5, []⟩) (by kernel_rfl))) ⟨n, Nat.lt_succ_self n, _, _, _, h6123, rfl⟩
                · refine W_sound tab_ok mixed 7 _ _ _ ?_
                  simp -implicitDefEqProofs only [go_sem, qa, qb, qc, qd, qe, qf, qg, qh, qi, qj, qk, ↓reduceIte, h5575, h5583, h5591, h5594, h5699, h5952, g5953, g5954, g5955, g5956, h5957, h6007]
                  repeat with_reducible refine ⟨by first | kernel_rfl | decide, ?_⟩
                  obtain rfl := Option.some.inj h6123
                  exact cutQ _ ((Wk_le (.r (.r (.r (.r (.r (.r (.r (.r (.r (.r (.r (.r (.r (.r (.r (.r (.r (.r (.r (.r (.r (.r (.r (.r (.r (.r (.r (.r (.r (.r (.r (.r (.r (.r (.r (.r (.r (.k (.k (.k (.k (.r .nil)))))))))))))))))))))))))))))))))))))))))) (OLe.refl _)).trans (cmpS_ok (st' := ⟨[], [(0, .dead), (1, .dead), (2, .v (.int .u8 x5574)), (3, .dead), (4, .dead), (6, .dead), (7, .ptr 0 0), (8, .dead), (9, .sl false 1 0 n5697 1), (10, .dead), (11, .dead), (12, .dead), (13, .ptr 2 0), (14, .dead), (15, .sl false 3 0 n6004 2), (17, .dead), (18, .dead), (19, .dead), (20, .dead), (21, .dead), (22, .dead), (23, .dead), (24, .dead), (25, .dead), (26, .dead), (27, .dead), (28, .dead), (29, .dead), (33, .dead), (34, .dead), (35, .dead), (43, .dead), (44, .dead), (45, .dead), (72, .v (.int .i64 ((n5700 : Nat) : Int))), (73, .v (.int .i64 x5949)), (74, .dead), (87, .dead), (88, .dead), (89, .dead), (90, .dead), (168, .dead)], [(0, .p [(.int .i64 x5595), (.lst false n5700 c5701)]), (1, .p c5698), (2, .r [.v (.int .i64 x5595), .sl false 4 0 n5950 1]), (3, .p c6006), (4, .p c5951)], 5, []⟩) (by kernel_rfl))) ⟨_, _, rfl, rfl⟩
            · rintro _ ⟨n6030, c6031, rfl, rfl⟩
              (try dsimp only at h6124)
              have hh := bnd'_some h6124; clear h6124; obtain ⟨⟨p6032, c6034⟩, h6033, h6124⟩ := hh
              (try dsimp only at h6124)
              refine W_sound tab_ok mixed 3 _ _ _ ?_
              simp -implicitDefEqProofs only [go_sem, qa, qb, qc, qd, qe, qf, qg, qh, qi, qj, qk, ↓reduceIte, h5575, h5583, h5591, h5594, h5699, h5952, g5953, g5954, g5955, g5956, h5957]
              repeat with_reducible refine ⟨by first | kernel_rfl | decide, ?_⟩
              refine Wp_callD [3] (c60 N _ _ _ _ h6033) rfl rfl rfl (by first | rfl | (simp only [go_sem, qa, qb, qc, qd, qe, qf, qg, qh, qi, qj, qk, ↓reduceIte, h5575, h5583, h5591, h5594, h5699, h5952, g5953, g5954, g5955, g5956, h5957] <;> rfl)) rfl (by kernel_rfl) ?_
              have hh := getT0_some h6124; clear h6124; obtain ⟨h6035, h6124⟩ := hh
              have hh := grd_some h6124; clear h6124; obtain ⟨g6036, h6124⟩ := hh
              have hh := grd_some h6124; clear h6124; obtain ⟨g6037, h6124⟩ := hh
              refine W_sound tab_ok mixed 10 _ _ _ ?_
              simp -implicitDefEqProofs only [go_sem, qa, qb, qc, qd, qe, qf, qg, qh, qi, qj, qk, ↓reduceIte, h5575, h5583, h5591, h5594, h5699, h5952, g5953, g5954, g5955, g5956, h5957, h6035, g6036, g6037]
              repeat with_reducible refine ⟨by first | kernel_rfl | decide, ?_⟩
              have hh := grd_some h6124; clear h6124; obtain ⟨g6038, h6124⟩ := hh
              refine Wp_wkK (Wk_freeze 3 c6034 (by rfl) (by decide) (by decide)) rfl ?_
              simp -implicitDefEqProofs only [go_sem, qa, qb, qc, qd, qe, qf, qg, qh, qi, qj, qk, ↓reduceIte, h5575, h5583, h5591, h5594, h5699, h5952, g5953, g5954, g5955, g5956, h5957, h6035, g6036, g6037, g6038]
              refine W_sound tab_ok mixed 5 _ _ _ ?_
              simp -implicitDefEqProofs only [go_sem, qa, qb, qc, qd, qe, qf, qg, qh, qi, qj, qk, ↓reduceIte, h5575, h5583, h5591, h5594, h5699, h5952, g5953, g5954, g5955, g5956, h5957, h6035, g6036, g6037, g6038]
              repeat with_reducible refine ⟨by first | kernel_rfl | decide, ?_⟩
              exact cutQ _ ((Wk_le (.r (.r (.r (.r (.r (.r (.r (.r (.r (.r (.r (.r (.r (.r (.k (.r (.r (.r (.r (.r (.r (.r (.r (.r (.r (.r (.r (.r (.r (.r (.r (.r (.r (.r (.r (.r (.r (.r (.r (.r (.r (.r .nil)))))))))))))))))))))))))))))))))))))))))) (OLe.refl _)).trans (cmpS_ok (st' := ⟨[], [(0, .dead), (1, .dead), (2, .v (.int .u8 x5574)), (3, .dead), (4, .dead), (6, .dead), (7, .ptr 0 0), (8, .dead), (9, .sl false 1 0 n5697 1), (10, .dead), (11, .dead), (12, .dead), (13, .ptr 2 0), (14, .dead), (15, .dead), (17, .dead), (18, .dead), (19, .dead), (20, .dead), (21, .dead), (22, .dead), (23, .dead), (24, .dead), (25, .dead), (26, .dead), (27, .dead), (28, .dead), (29, .dead), (33, .dead), (34, .dead), (35, .dead), (43, .dead), (44, .dead), (45, .dead), (72, .v (.int .i64 ((n5700 : Nat) : Int))), (73, .v (.int .i64 (IntKind.i64.wrap (x5949 + 1)))), (74, .dead), (87, .dead), (88, .dead), (89, .dead), (90, .dead), (168, .dead)], [(0, .p [(.int .i64 x5595), (.lst false n5700 c5701)]), (1, .p c5698), (2, .r [.v (.int .i64 x5595), .sl false 3 0 (n5950 + 1) 1]), (3, .p (c5951 ++ [(.lst false n6030 c6034)]))], 4, []⟩) (by kernel_rfl))) ⟨n, Nat.lt_succ_self n, _, _, _, h6124, rfl⟩
          · refine W_sound tab_ok mixed 7 _ _ _ ?_
            simp -implicitDefEqProofs only [go_sem, qa, qb, qc, qd, qe, qf, qg, qh, qi, qj, qk, ↓reduceIte, h5575, h5583, h5591, h5594, h5699, h5952]
            repeat with_reducible refine ⟨by first | kernel_rfl | decide, ?_⟩
            obtain rfl := Option.some.inj h6120
            exact cutQ _ ((Wk_le (.r (.r (.k (.r (.r (.r (.r (.r (.k (.r (.r (.r (.r (.r (.r (.r (.r (.r (.r (.r (.r (.r (.r (.r (.r (.r (.r (.r (.r (.r (.r (.r (.r (.r (.k (.k (.k (.r (.r (.r (.r (.r .nil)))))))))))))))))))))))))))))))))))))))))) (OLe.refl _)).trans (cmpS_ok (st' := ⟨[], [(0, .dead), (1, .dead), (2, .dead), (3, .dead), (4, .dead), (6, .dead), (7, .ptr 0 0), (8, .dead), (9, .dead), (10, .dead), (11, .dead), (12, .dead), (13, .ptr 1 0), (14, .dead), (15, .dead), (17, .dead), (18, .dead), (19, .dead), (20, .dead), (21, .dead), (22, .dead), (23, .dead), (24, .dead), (25, .dead), (26, .dead), (27, .dead), (28, .dead), (29, .dead), (33, .dead), (34, .dead), (35, .dead), (43, .dead), (44, .dead), (45, .dead), (72, .dead), (73, .dead), (74, .dead), (87, .dead), (88, .dead), (89, .dead), (90, .dead), (168, .dead)], [(0, .p [(.int .i64 x5595), (.lst false n5700 c5701)]), (1, .r [.v (.int .i64 x5595), .sl false 2 0 n5950 1]), (2, .p c5951)], 3, []⟩) (by kernel_rfl))) ⟨_, _, rfl, rfl⟩
      · rintro _ ⟨n6039, c6040, rfl, rfl⟩
        (try dsimp only at h6121)
        have hh := bnd'_some h6121; clear h6121; obtain ⟨p6041, h6042, h6121⟩ := hh
        refine W_sound tab_ok mixed 3 _ _ _ ?_
        simp -implicitDefEqProofs only [go_sem, qa, qb, qc, qd, qe, qf, qg, qh, qi, qj, qk, ↓reduceIte, h5575, h5583, h5591, h5594, h5699]
        repeat with_reducible refine ⟨by first | kernel_rfl | decide, ?_⟩
        refine Wp_callP (c28 N _ _ h6042) (by kernel_rfl) rfl rfl rfl rfl (by decide) ?_
        have hh := getT2_some h6121; clear h6121; obtain ⟨p6044, p6045, h6043, h6121⟩ := hh
        have hh := getI_some h6121; clear h6121; obtain ⟨x6047, h6046, h6121⟩ := hh
        have hh := getI_some h6121; clear h6121; obtain ⟨x6049, h6048, h6121⟩ := hh
        refine W_sound tab_ok mixed 7 _ _ _ ?_
        simp -implicitDefEqProofs only [go_sem, qa, qb, qc, qd, qe, qf, qg, qh, qi, qj, qk, ↓reduceIte, h5575, h5583, h5591, h5594, h5699, h6043, h6046, h6048]
        repeat with_reducible refine ⟨by first | kernel_rfl | decide, ?_⟩
        have hh := grd_some h6121; clear h6121; obtain ⟨g6050, h6121⟩ := hh
        refine Wp_wkK (Wk_freeze 2 c6040 (by rfl) (by decide) (by decide)) rfl ?_
        simp -implicitDefEqProofs only [go_sem, qa, qb, qc, qd, qe, qf, qg, qh, qi, qj, qk, ↓reduceIte, h5575, h5583, h5591, h5594, h5699, h6043, h6046, h6048, g6050]
        have hh := bnd'_some h6121; clear h6121; obtain ⟨p6051, h6052, h6121⟩ := hh
        refine W_sound tab_ok mixed 2 _ _ _ ?_
        simp -implicitDefEqProofs only [go_sem, qa, qb, qc, qd, qe, qf, qg, qh, qi, qj, qk, ↓reduceIte, h5575, h5583, h5591, h5594, h5699, h6043, h6046, h6048, g6050]
        repeat with_reducible refine ⟨by first | kernel_rfl | decide, ?_⟩
        refine Wp_callP (c28 N _ _ h6052) (by kernel_rfl) rfl rfl rfl rfl (by decide) ?_
        have hh := getT2_some h6121; clear h6121; obtain ⟨p6054, p6055, h6053, h6121⟩ := hh
        have hh := getI_some h6121; clear h6121; obtain ⟨x6057, h6056, h6121⟩ := hh
        have hh := getI_some h6121; clear h6121; obtain ⟨x6059, h6058, h6121⟩ := hh
        have hh := bnd'_some h6121; clear h6121; obtain ⟨p6060, h6061, h6121⟩ := hh
        refine W_sound tab_ok mixed 9 _ _ _ ?_
        simp -implicitDefEqProofs only [go_sem, qa, qb, qc, qd, qe, qf, qg, qh, qi, qj, qk, ↓reduceIte, h5575, h5583, h5591, h5594, h5699, h6043, h6046, h6048, g6050, h6053, h6056, h6058]
        repeat with_reducible refine ⟨by first | kernel_rfl | decide, ?_⟩
        refine Wp_callP (c32 N _ _ h6061) (by kernel_rfl) rfl rfl rfl rfl (by decide) ?_
        have hh := getT2_some h6121; clear h6121; obtain ⟨p6063, p6064, h6062, h6121⟩ := hh
        have hh := getL_some h6121; clear h6121; obtain ⟨n6066, c6067, h6065, h6121⟩ := hh
        have hh := getI_some h6121; clear h6121; obtain ⟨x6069, h6068, h6121⟩ := hh
        have hh := bnd'_some h6121; clear h6121; obtain ⟨p6070, h6071, h6121⟩ := hh
        refine W_sound tab_ok mixed 9 _ _ _ ?_
        simp -implicitDefEqProofs only [go_sem, qa, qb, qc, qd, qe, qf, qg, qh, qi, qj, qk, ↓reduceIte, h5575, h5583, h5591, h5594, h5699, h6043, h6046, h6048, g6050, h6053, h6056, h6058, h6062, h6065, h6068]
        repeat with_reducible refine ⟨by first | kernel_rfl | decide, ?_⟩
        refine Wp_callP (c32 N _ _ h6071) (by kernel_rfl) rfl rfl rfl rfl (by decide) ?_
        have hh := getT2_some h6121; clear h6121; obtain ⟨p6073, p6074, h6072, h6121⟩ := hh
        have hh := getL_some h6121; clear h6121; obtain ⟨n6076, c6077, h6075, h6121⟩ := hh
        have hh := getI_some h6121; clear h6121; obtain ⟨x6079, h6078, h6121⟩ := hh
        have hh := brn_some h6121; clear h6121; rcases hh with ⟨h6080, h6121⟩ | ⟨h6080, h6121⟩
        · refine W_sound tab_ok mixed 43 _ _ _ ?_
          simp -implicitDefEqProofs only [go_sem, qa, qb, qc, qd, qe, qf, qg, qh, qi, qj, qk, ↓reduceIte, h5575, h5583, h5591, h5594, h5699, h6043, h6046, h6048, g6050, h6053, h6056, h6058, h6062, h6065, h6068, h6072, h6075, h6078, h6080]
          repeat with_reducible refine ⟨by first | kernel_rfl | decide, ?_⟩
          obtain rfl := Option.some.inj h6121
          exact finC [(6, .v (.bool false))] [(6, .v (.bool false))] (by simp [leE, lk_cons]) (.cons _ _ _ _ _ (.v _ _ (.refl _)) .nil) (by rfl) (by simp [leE, lk_cons]) (by decide) (by decide) rfl (by simp only [go_sem, qa, qb, qc, qd, qe, qf, qg, qh, qi, qj, qk, ↓reduceIte, resQ_tmp, resQ_cell, resQ_nil, retD_one, retD_two, retD_three, retD_none]; try simp [R.val, retD_one, retD_two, retD_three, retD_none])
        · have hh := brn_some h6121; clear h6121; rcases hh with ⟨h6081, h6121⟩ | ⟨h6081, h6121⟩
          · refine W_sound tab_ok mixed 43 _ _ _ ?_
            simp -implicitDefEqProofs only [go_sem, qa, qb, qc, qd, qe, qf, qg, qh, qi, qj, qk, ↓reduceIte, h5575, h5583, h5591, h5594, h5699, h6043, h6046, h6048, g6050, h6053, h6056, h6058, h6062, h6065, h6068, h6072, h6075, h6078, h6080, h6081]
            repeat with_reducible refine ⟨by first | kernel_rfl | decide, ?_⟩
            obtain rfl := Option.some.inj h6121
            exact finC [(6, .v (.bool false))] [(6, .v (.bool false))] (by simp [leE, lk_cons]) (.cons _ _ _ _ _ (.v _ _ (.refl _)) .nil) (by rfl) (by simp [leE, lk_cons]) (by decide) (by decide) rfl (by simp only [go_sem, qa, qb, qc, qd, qe, qf, qg, qh, qi, qj, qk, ↓reduceIte, resQ_tmp, resQ_cell, resQ_nil, retD_one, retD_two, retD_three, retD_none]; try simp [R.val, retD_one, retD_two, retD_three, retD_none])
          · have hh := brn_some h6121; clear h6121; rcases hh with ⟨h6082, h6121⟩ | ⟨h6082, h6121⟩
            · refine W_sound tab_ok mixed 43 _ _ _ ?_
              simp -implicitDefEqProofs only [go_sem, qa, qb, qc, qd, qe, qf, qg, qh, qi, qj, qk, ↓reduceIte, h5575, h5583, h5591, h5594, h5699, h6043, h6046, h6048, g6050, h6053, h6056, h6058, h6062, h6065, h6068, h6072, h6075, h6078, h6080, h6081, h6082]
              repeat with_reducible refine ⟨by first | kernel_rfl | decide, ?_⟩
              obtain rfl := Option.some.inj h6121
              exact finC [(6, .v (.bool false))] [(6, .v (.bool false))] (by simp [leE, lk_cons]) (.cons _ _ _ _ _ (.v _ _ (.refl _)) .nil) (by rfl) (by simp [leE, lk_cons]) (by decide) (by decide) rfl (by simp only [go_sem, qa, qb, qc, qd, qe, qf, qg, qh, qi, qj, qk, ↓reduceIte, resQ_tmp, resQ_cell, resQ_nil, retD_one, retD_two, retD_three, retD_none]; try simp [R.val, retD_one, retD_two, retD_three, retD_none])
            · have hh := brn_some h6121; clear h6121; rcases hh with ⟨h6083, h6121⟩ | ⟨h6083, h6121⟩
              · refine W_sound tab_ok mixed 43 _ _ _ ?_
                simp -implicitDefEqProofs only [go_sem, qa, qb, qc, qd, qe, qf, qg, qh, qi, qj, qk, ↓reduceIte, h5575, h5583, h5591, h5594, h5699, h6043, h6046, h6048, g6050, h6053, h6056, h6058, h6062, h6065, h6068, h6072, h6075, h6078, h6080, h6081, h6082, h6083]
                repeat with_reducible refine ⟨by first | kernel_rfl | decide, ?_⟩
                obtain rfl := Option.some.inj h6121
                exact finC [(6, .v (.bool false))] [(6, .v (.bool false))] (by simp [leE, lk_cons]) (.cons _ _ _ _ _ (.v _ _ (.refl _)) .nil) (by rfl) (by simp [leE, lk_cons]) (by decide) (by decide) rfl (by simp only [go_sem, qa, qb, qc, qd, qe, qf, qg, qh, qi, qj, qk, ↓reduceIte, resQ_tmp, resQ_cell, resQ_nil, retD_one, retD_two, retD_three, retD_none]; try simp [R.val, retD_one, retD_two, retD_three, retD_none])
              · have hh := brn_some h6121; clear h6121; rcases hh with ⟨h6084, h6121⟩ | ⟨h6084, h6121⟩
                · refine W_sound tab_ok mixed 43 _ _ _ ?_
                  simp -implicitDefEqProofs only [go_sem, qa, qb, qc, qd, qe, qf, qg, qh, qi, qj, qk, ↓reduceIte, h5575, h5583, h5591, h5594, h5699, h6043, h6046, h6048, g6050, h6053, h6056, h6058, h6062, h6065, h6068, h6072, h6075, h6078, h6080, h6081, h6082, h6083, h6084]
                  repeat with_reducible refine ⟨by first | kernel_rfl | decide, ?_⟩
                  obtain rfl := Option.some.inj h6121
                  exact finC [(6, .v (.bool false))] [(6, .v (.bool false))] (by simp [leE, lk_cons]) (.cons _ _ _ _ _ (.v _ _ (.refl _)) .nil) (by rfl) (by simp [leE, lk_cons]) (by decide) (by decide) rfl (by simp only [go_sem, qa, qb, qc, qd, qe, qf, qg, qh, qi, qj, qk, ↓reduceIte, resQ_tmp, resQ_cell, resQ_nil, retD_one, retD_two, retD_three, retD_none]; try simp [R.val, retD_one, retD_two, retD_three, retD_none])
                · have hh := brn_some h6121; clear h6121; rcases hh with ⟨h6085, h6121⟩ | ⟨h6085, h6121⟩
                  · refine W_sound tab_ok mixed 43 _ _ _ ?_
                    simp -implicitDefEqProofs only [go_sem, qa, qb, qc, qd, qe, qf, qg, qh, qi, qj, qk, ↓reduceIte, h5575, h5583, h5591, h5594, h5699, h6043, h6046, h6048, g6050, h6053, h6056, h6058, h6062, h6065, h6068, h6072, h6075, h6078, h6080, h6081, h6082, h6083, h6084, h6085]
                    repeat with_reducible refine ⟨by first | kernel_rfl | decide, ?_⟩
                    obtain rfl := Option.some.inj h6121
                    exact finC [(6, .v (.bool false))] [(6, .v (.bool false))] (by simp [leE, lk_cons]) (.cons _ _ _ _ _ (.v _ _ (.refl _)) .nil) (by rfl) (by simp [leE, lk_cons]) (by decide) (by decide) rfl (by simp only [go_sem, qa, qb, qc, qd, qe, qf, qg, qh, qi, qj, qk, ↓reduceIte, resQ_tmp, resQ_cell, resQ_nil, retD_one, retD_two, retD_three, retD_none]; try simp [R.val, retD_one, retD_two, retD_three, retD_none])
                  · have hh := bnd'_some h6121; clear h6121; obtain ⟨p6086, h6087, h6121⟩ := hh
                    refine W_sound tab_ok mixed 41 _ _ _ ?_
                    simp -implicitDefEqProofs only [go_sem, qa, qb, qc, qd, qe, qf, qg, qh, qi, qj, qk, ↓reduceIte, h5575, h5583, h5591, h5594, h5699, h6043, h6046, h6048, g6050, h6053, h6056, h6058, h6062, h6065, h6068, h6072, h6075, h6078, h6080, h6081, h6082, h6083, h6084, h6085]
                    repeat with_reducible refine ⟨by first | kernel_rfl | decide, ?_⟩
                    refine Wp_callP (c36 N _ _ h6087) (by kernel_rfl) rfl rfl rfl rfl (by decide) ?_
                    have hh := getT2_some h6121; clear h6121; obtain ⟨p6089, p6090, h6088, h6121⟩ := hh
                    have hh := getL_some h6121; clear h6121; obtain ⟨n6092, c6093, h6091, h6121⟩ := hh
                    have hh := getI_some h6121; clear h6121; obtain ⟨x6095, h6094, h6121⟩ := hh
                    have hh := bnd'_some h6121; clear h6121; obtain ⟨p6096, h6097, h6121⟩ := hh
                    refine W_sound tab_ok mixed 9 _ _ _ ?_
                    simp -implicitDefEqProofs only [go_sem, qa, qb, qc, qd, qe, qf, qg, qh, qi, qj, qk, ↓reduceIte, h5575, h5583, h5591, h5594, h5699, h6043, h6046, h6048, g6050, h6053, h6056, h6058, h6062, h6065, h6068, h6072, h6075, h6078, h6080, h6081, h6082, h6083, h6084, h6085, h6088, h6091, h6094]
                    repeat with_reducible refine ⟨by first | kernel_rfl | decide, ?_⟩
                    refine Wp_callP (c36 N _ _ h6097) (by kernel_rfl) rfl rfl rfl rfl (by decide) ?_
                    have hh := getT2_some h6121; clear h6121; obtain ⟨p6099, p6100, h6098, h6121⟩ := hh
                    have hh := getL_some h6121; clear h6121; obtain ⟨n6102, c6103, h6101, h6121⟩ := hh
                    have hh := getI_some h6121; clear h6121; obtain ⟨x6105, h6104, h6121⟩ := hh
                    have hh := brn_some h6121; clear h6121; rcases hh with ⟨h6106, h6121⟩ | ⟨h6106, h6121⟩
                    · have hh := brn_some h6121; clear h6121; rcases hh with ⟨h6107, h6121⟩ | ⟨h6107, h6121⟩
                      · have hh := brn_some h6121; clear h6121; rcases hh with ⟨h6108, h6121⟩ | ⟨h6108, h6121⟩
                        · have hh := bnd'_some h6121; clear h6121; obtain ⟨p6109, h6110, h6121⟩ := hh
                          refine W_sound tab_ok mixed 26 _ _ _ ?_
                          simp -implicitDefEqProofs only [go_sem, qa, qb, qc, qd, qe, qf, qg, qh, qi, qj, qk, ↓reduceIte, h5575, h5583, h5591, h5594, h5699, h6043, h6046, h6048, g6050, h6053, h6056, h6058, h6062, h6065, h6068, h6072, h6075, h6078, h6080, h6081, h6082, h6083, h6084, h6085, h6088, h6091, h6094, h6098, h6101, h6104, h6106, h6107, h6108]
                          repeat with_reducible refine ⟨by first | kernel_rfl | decide, ?_⟩
                          refine Wp_callP (c16 N  _ h6110) (by kernel_rfl) rfl rfl rfl rfl (by decide) ?_
                          have hh := getB_some h6121; clear h6121; obtain ⟨b6112, h6111, h6121⟩ := hh
                          refine W_sound tab_ok mixed 5 _ _ _ ?_
                          simp -implicitDefEqProofs only [go_sem, qa, qb, qc, qd, qe, qf, qg, qh, qi, qj, qk, ↓reduceIte, h5575, h5583, h5591, h5594, h5699, h6043, h6046, h6048, g6050, h6053, h6056, h6058, h6062, h6065, h6068, h6072, h6075, h6078, h6080, h6081, h6082, h6083, h6084, h6085, h6088, h6091, h6094, h6098, h6101, h6104, h6106, h6107, h6108, h6111]
                          repeat with_reducible refine ⟨by first | kernel_rfl | decide, ?_⟩
                          obtain rfl := Option.some.inj h6121
                          exact finC [(6, .v (.bool b6112))] [(6, .v (.bool b6112))] (by simp [leE, lk_cons]) (.cons _ _ _ _ _ (.v _ _ (.refl _)) .nil) (by rfl) (by simp [leE, lk_cons]) (by decide) (by decide) rfl (by simp only [go_sem, qa, qb, qc, qd, qe, qf, qg, qh, qi, qj, qk, ↓reduceIte, resQ_tmp, resQ_cell, resQ_nil, retD_one, retD_two, retD_three, retD_none]; try simp [R.val, retD_one, retD_two, retD_three, retD_none])
                        · refine W_sound tab_ok mixed 32 _ _ _ ?_
                          simp -implicitDefEqProofs only [go_sem, qa, qb, qc, qd, qe, qf, qg, qh, qi, qj, qk, ↓reduceIte, h5575, h5583, h5591, h5594, h5699, h6043, h6046, h6048, g6050, h6053, h6056, h6058, h6062, h6065, h6068, h6072, h6075, h6078, h6080, h6081, h6082, h6083, h6084, h6085, h6088, h6091, h6094, h6098, h6101, h6104, h6106, h6107, h6108]
                          repeat with_reducible refine ⟨by first | kernel_rfl | decide, ?_⟩
                          obtain rfl := Option.some.inj h6121
                          exact finC [(6, .v (.bool false))] [(6, .v (.bool false))] (by simp [leE, lk_cons]) (.cons _ _ _ _ _ (.v _ _ (.refl _)) .nil) (by rfl) (by simp [leE, lk_cons]) (by decide) (by decide) rfl (by simp only [go_sem, qa, qb, qc, qd, qe, qf, qg, qh, qi, qj, qk, ↓reduceIte, resQ_tmp, resQ_cell, resQ_nil, retD_one, retD_two, retD_three, retD_none]; try simp [R.val, retD_one, retD_two, retD_three, retD_none])
                      · refine W_sound tab_ok mixed 32 _ _ _ ?_
                        simp -implicitDefEqProofs only [go_sem, qa, qb, qc, qd, qe, qf, qg, qh, qi, qj, qk, ↓reduceIte, h5575, h5583, h5591, h5594, h5699, h6043, h6046, h6048, g6050, h6053, h6056, h6058, h6062, h6065, h6068, h6072, h6075, h6078, h6080, h6081, h6082, h6083, h6084, h6085, h6088, h6091, h6094, h6098, h6101, h6104, h6106, h6107]
                        repeat with_reducible refine ⟨by first | kernel_rfl | decide, ?_⟩
                        obtain rfl := Option.some.inj h6121
                        exact finC [(6, .v (.bool false))] [(6, .v (.bool false))] (by simp [leE, lk_cons]) (.cons _ _ _ _ _ (.v _ _ (.refl _)) .nil) (by rfl) (by simp [leE, lk_cons]) (by decide) (by decide) rfl (by simp only [go_sem, qa, qb, qc, qd, qe, qf, qg, qh, qi, qj, qk, ↓reduceIte, resQ_tmp, resQ_cell, resQ_nil, retD_one, retD_two, retD_three, retD_none]; try simp [R.val, retD_one, retD_two, retD_three, retD_none])
                    · refine W_sound tab_ok mixed 32 _ _ _ ?_
                      simp -implicitDefEqProofs only [go_sem, qa, qb, qc, qd, qe, qf, qg, qh, qi, qj, qk, ↓reduceIte, h5575, h5583, h5591, h5594, h5699, h6043, h6046, h6048, g6050, h6053, h6056, h6058, h6062, h6065, h6068, h6072, h6075, h6078, h6080, h6081, h6082, h6083, h6084, h6085, h6088, h6091, h6094, h6098, h6101, h6104, h6106]
                      repeat with_reducible refine ⟨by first | kernel_rfl | decide, ?_⟩
                      obtain rfl := Option.some.inj h6121
                      exact finC [(6, .v (.bool false))] [(6, .v (.bool false))] (by simp [leE, lk_cons]) (.cons _ _ _ _ _ (.v _ _ (.refl _)) .nil) (by rfl) (by simp [leE, lk_cons]) (by decide) (by decide) rfl (by simp only [go_sem, qa, qb, qc, qd, qe, qf, qg, qh, qi, qj, qk, ↓reduceIte, resQ_tmp, resQ_cell, resQ_nil, retD_one, retD_two, retD_three, retD_none]; try simp [R.val, retD_one, retD_two, retD_three, retD_none])
end Go.Proofs.YtnponojgpkbagaaDoor
namespace Go.Crew
def ja (j : List Nat) (s : Nat) : Nat := j.getD s 0
def jnd (j : List Nat) (p : Nat × Nat) : Bool := ja j p.1 == ja j p.2
def lo (j : List Nat) (p : Nat × Nat) : Nat := min (ja j p.1) (ja j p.2)
def hi (j : List Nat) (p : Nat × Nat) : Nat := max (ja j p.1) (ja j p.2)
def wth (j : List Nat) (p : Nat × Nat) : List Nat := j.map fun x => if x = hi j p then lo j p else x
def runJ : List Nat → List (Nat × Nat) → List Nat
  | j, [] => j
  | j, p :: l => if jnd j p then runJ j l else runJ (wth j p) l
def cntJ : List Nat → List (Nat × Nat) → Nat
  | _, [] => 0
  | j, p :: l => if jnd j p then cntJ j l else cntJ (wth j p) l + 1
def apt : List Nat := List.range 5
def rk (L : List (Nat × Nat)) : Nat := cntJ apt L
theorem cntJ_app : ∀ (L M : List (Nat × Nat)) (j : List Nat), cntJ j (L ++ M) = cntJ j L + cntJ (runJ j L) M
  | [], M, j => by simp [cntJ, runJ]
  | p :: L, M, j => by
    simp only [List.cons_append, cntJ, runJ]
    split
    · exact cntJ_app L M j
    · rw [cntJ_app L M]; omega
theorem cntJ_le : ∀ (L : List (Nat × Nat)) (j : List Nat), cntJ j L ≤ L.length
  | [], _ => by simp [cntJ]
  | p :: L, j => by
    simp only [cntJ, List.length_cons]
    split
    · have := cntJ_le L j; omega
    · have := cntJ_le L (wth j p); omega
structure Can (j : List Nat) : Prop where
  len : j.length = 5
  le : ∀ s, s < 5 → ja j s ≤ s
  id : ∀ s, s < 5 → ja j (ja j s) = ja j s
theorem wth_at {j : List Nat} (h : j.length = 5) (p : Nat × Nat) {s : Nat} (hs : s < 5) : ja (wth j p) s = if ja j s = hi j p then lo j p else ja j s := by
  simp [ja, wth, List.getD, h, hs]
theorem can_apt : Can apt := ⟨by decide, by decide, by decide⟩
def Ok (L : List (Nat × Nat)) : Prop := ∀ p ∈ L, p.1 < 5 ∧ p.2 < 5
theorem lo_le {j : List Nat} {p : Nat × Nat} : lo j p ≤ hi j p := by unfold lo hi; omega
theorem lo_or {j : List Nat} {p : Nat × Nat} : lo j p = ja j p.1 ∨ lo j p = ja j p.2 := by unfold lo; omega
theorem hi_or {j : List Nat} {p : Nat × Nat} : hi j p = ja j p.1 ∨ hi j p = ja j p.2 := by unfold hi; omega
theorem can_wth {j : List Nat} (h : Can j) {p : Nat × Nat} (hp : p.1 < 5 ∧ p.2 < 5) : Can (wth j p) := by
  have hlo : lo j p < 5 ∧ ja j (lo j p) = lo j p := by
    rcases lo_or (j := j) (p := p) with e | e <;> rw [e]
    · exact ⟨by have := h.le _ hp.1; omega, h.id _ hp.1⟩
    · exact ⟨by have := h.le _ hp.2; omega, h.id _ hp.2⟩
  refine ⟨by simp [wth, h.len], fun s hs => ?_, fun s hs => ?_⟩
  · rw [wth_at h.len p hs]
    have := h.le s hs
    have := lo_le (j := j) (p := p)
    split <;> omega
  · rw [wth_at h.len p hs]
    have h1 := h.le s hs
    have h2 := h.id s hs
    split
    · rw [wth_at h.len p hlo.1, hlo.2]
      split <;> rfl
    · rename_i hn
      rw [wth_at h.len p (by omega), h2, if_neg hn]
theorem can_run : ∀ {L : List (Nat × Nat)} {j : List Nat}, Can j → Ok L → Can (runJ j L)
  | [], _, h, _ => h
  | p :: L, j, h, hL => by
    simp only [runJ]
    split
    · exact can_run h fun q hq => hL q (.tail _ hq)
    · exact can_run (can_wth h (hL p (.head _))) fun q hq => hL q (.tail _ hq)
def Fin' (j j' : List Nat) : Prop := ∀ s t, s < 5 → t < 5 → ja j s = ja j t → ja j' s = ja j' t
theorem fin_refl (j : List Nat) : Fin' j j := fun _ _ _ _ h => h
theorem fin_wth {j : List Nat} (h : Can j) {p : Nat × Nat} : Fin' j (wth j p) := fun s t hs ht e => by
  rw [wth_at h.len p hs, wth_at h.len p ht, e]
theorem wth_jnd {j : List Nat} (h : Can j) {p : Nat × Nat} (hp : p.1 < 5 ∧ p.2 < 5) : ja (wth j p) p.1 = ja (wth j p) p.2 := by
  rw [wth_at h.len p hp.1, wth_at h.len p hp.2]
  unfold lo hi
  split <;> split <;> omega
theorem wth_least {j j' : List Nat} (h : Can j) {p : Nat × Nat} (hp : p.1 < 5 ∧ p.2 < 5) (hf : Fin' j j') (hj : ja j' p.1 = ja j' p.2) : Fin' (wth j p) j' := by
  intro s t hs ht e
  rw [wth_at h.len p hs, wth_at h.len p ht] at e
  have key : ∀ s, s < 5 → (ja j s = ja j p.1 ∨ ja j s = ja j p.2) → ja j' s = ja j' p.1 := fun s hs h => by
    rcases h with h | h
    · exact hf _ _ hs hp.1 h
    · rw [hj]; exact hf _ _ hs hp.2 h
  have k1 : ja j s = hi j p → ja j' s = ja j' p.1 := fun h => key s hs (by rcases hi_or (j := j) (p := p) with e | e <;> simp [h, e])
  have k2 : ja j t = hi j p → ja j' t = ja j' p.1 := fun h => key t ht (by rcases hi_or (j := j) (p := p) with e | e <;> simp [h, e])
  have k3 : ja j s = lo j p → ja j' s = ja j' p.1 := fun h => key s hs (by rcases lo_or (j := j) (p := p) with e | e <;> simp [h, e])
  have k4 : ja j t = lo j p → ja j' t = ja j' p.1 := fun h => key t ht (by rcases lo_or (j := j) (p := p) with e | e <;> simp [h, e])
  split at e
  · rename_i a
    split at e
    · rename_i b; rw [k1 a, k2 b]
    · rw [k1 a, k4 e.symm]
  · split at e
    · rename_i b; rw [k3 e, k2 b]
    · exact hf _ _ hs ht e
theorem jnd_iff {j : List Nat} {p : Nat × Nat} : jnd j p = true ↔ ja j p.1 = ja j p.2 := by unfold jnd; simp
theorem run_fin : ∀ {L : List (Nat × Nat)} {j : List Nat}, Can j → Ok L → Fin' j (runJ j L)
  | [], j, _, _ => fin_refl j
  | p :: L, j, h, hL => by
    have hp := hL p (.head _)
    have hL' : Ok L := fun q hq => hL q (.tail _ hq)
    simp only [runJ]
    split
    · exact run_fin h hL'
    · exact fun s t hs ht e => run_fin (can_wth h hp) hL' s t hs ht (fin_wth h s t hs ht e)
theorem run_jnd : ∀ {L : List (Nat × Nat)} {j : List Nat}, Can j → Ok L → ∀ p ∈ L, ja (runJ j L) p.1 = ja (runJ j L) p.2
  | p :: L, j, h, hL, q, hq => by
    have hp := hL p (.head _)
    have hL' : Ok L := fun q hq => hL q (.tail _ hq)
    simp only [runJ]
    rcases List.mem_cons.1 hq with rfl | hq
    · split
      · rename_i e; exact run_fin h hL' _ _ hp.1 hp.2 (jnd_iff.1 e)
      · exact run_fin (can_wth h hp) hL' _ _ hp.1 hp.2 (wth_jnd h hp)
    · split
      · exact run_jnd h hL' q hq
      · exact run_jnd (can_wth h hp) hL' q hq
theorem run_least : ∀ {L : List (Nat × Nat)} {j j' : List Nat}, Can j → Ok L → Fin' j j' → (∀ p ∈ L, ja j' p.1 = ja j' p.2) → Fin' (runJ j L) j'
  | [], _, _, _, _, hf, _ => hf
  | p :: L, j, j', h, hL, hf, hj => by
    have hp := hL p (.head _)
    have hL' : Ok L := fun q hq => hL q (.tail _ hq)
    simp only [runJ]
    split
    · exact run_least h hL' hf fun q hq => hj q (.tail _ hq)
    · exact run_least (can_wth h hp) hL' (wth_least h hp hf (hj p (.head _))) fun q hq => hj q (.tail _ hq)
theorem can_eq {j j' : List Nat} (h : Can j) (h' : Can j') (a : Fin' j j') (b : Fin' j' j) : j = j' := by
  have e : ∀ s, s < 5 → ja j s = ja j' s := fun s hs => by
    have h1 := h.le s hs
    have h2 := h'.le s hs
    have h3 := a s (ja j s) hs (by omega) (h.id s hs).symm
    have h4 := b s (ja j' s) hs (by omega) (h'.id s hs).symm
    have h5 := h'.le (ja j s) (by omega)
    have h6 := h.le (ja j' s) (by omega)
    omega
  apply List.ext_getElem (by rw [h.len, h'.len])
  intro i h1 h2
  have := e i (by rw [← h.len]; exact h1)
  simpa [ja, List.getD, h1, h2] using this
theorem apt_fin (j : List Nat) : Fin' apt j := fun s t hs ht e => by
  have : ∀ s, s < 5 → ja apt s = s := by decide
  rw [this s hs, this t ht] at e
  rw [e]
theorem run_set {L M : List (Nat × Nat)} (hL : Ok L) (hM : Ok M) (h : ∀ p, p ∈ L ↔ p ∈ M) : runJ apt L = runJ apt M :=
  can_eq (can_run can_apt hL) (can_run can_apt hM) (run_least can_apt hL (apt_fin _) fun p hp => run_jnd can_apt hM p ((h p).1 hp))
    (run_least can_apt hM (apt_fin _) fun p hp => run_jnd can_apt hL p ((h p).2 hp))
def rts (j : List Nat) : Nat := ((List.range 5).filter fun s => ja j s == s).length
theorem filter_one {p q : Nat → Bool} {h : Nat} : ∀ (l : List Nat), l.Nodup → h ∈ l → p h = true → q h = false → (∀ s ∈ l, s ≠ h → p s = q s) → (l.filter p).length = (l.filter q).length + 1
  | [], _, hm, _, _, _ => by cases hm
  | x :: l, hn, hm, hp, hq, he => by
    obtain ⟨n1, n2⟩ := List.nodup_cons.1 hn
    by_cases hx : x = h
    · subst hx
      have : l.filter p = l.filter q := List.filter_congr fun s hs => he s (.tail _ hs) (fun e => n1 (e ▸ hs))
      simp [List.filter_cons, hp, hq, this]
    · have hm' : h ∈ l := by
        rcases List.mem_cons.1 hm with e | e
        · exact absurd e.symm hx
        · exact e
      have ih := filter_one l n2 hm' hp hq fun s hs hne => he s (.tail _ hs) hne
      have := he x (.head _) hx
      simp only [List.filter_cons, this]
      split
      · simp only [List.length_cons]; omega
      · exact ih
theorem rts_wth {j : List Nat} (h : Can j) {p : Nat × Nat} (hp : p.1 < 5 ∧ p.2 < 5) (hn : ja j p.1 ≠ ja j p.2) : rts j = rts (wth j p) + 1 := by
  have hh : hi j p < 5 ∧ ja j (hi j p) = hi j p := by
    rcases hi_or (j := j) (p := p) with e | e <;> rw [e]
    · exact ⟨by have := h.le _ hp.1; omega, h.id _ hp.1⟩
    · exact ⟨by have := h.le _ hp.2; omega, h.id _ hp.2⟩
  have hlt : lo j p < hi j p := by unfold lo hi; omega
  refine filter_one (h := hi j p) _ List.nodup_range (by simpa using hh.1) (by simpa using hh.2) ?_ fun s hs hne => ?_
  · rw [wth_at h.len p hh.1, if_pos hh.2]
    simp; omega
  · have hs' : s < 5 := by simpa using hs
    rw [wth_at h.len p hs']
    have := h.le s hs'
    split
    · rename_i e
      rw [e, Bool.eq_iff_iff]
      simp only [beq_iff_eq]
      omega
    · rfl
theorem cnt_rts : ∀ {L : List (Nat × Nat)} {j : List Nat}, Can j → Ok L → cntJ j L + rts (runJ j L) = rts j
  | [], j, _, _ => by simp [cntJ, runJ]
  | p :: L, j, h, hL => by
    have hp := hL p (.head _)
    have hL' : Ok L := fun q hq => hL q (.tail _ hq)
    simp only [cntJ, runJ]
    split
    · exact cnt_rts h hL'
    · rename_i e
      have := cnt_rts (can_wth h hp) hL'
      rw [rts_wth h hp (fun x => e (jnd_iff.2 x))]
      omega
theorem rk_set {L M : List (Nat × Nat)} (hL : Ok L) (hM : Ok M) (h : ∀ p, p ∈ L ↔ p ∈ M) : rk L = rk M := by
  have a := cnt_rts can_apt hL
  have b := cnt_rts can_apt hM
  rw [run_set hL hM h] at a
  unfold rk; omega
theorem cnt_mono : ∀ {M : List (Nat × Nat)} {j j' : List Nat}, Can j → Can j' → Ok M → Fin' j j' → cntJ j' M ≤ cntJ j M
  | [], _, _, _, _, _, _ => by simp [cntJ]
  | p :: M, j, j', h, h', hM, hf => by
    have hp := hM p (.head _)
    have hM' : Ok M := fun q hq => hM q (.tail _ hq)
    simp only [cntJ]
    split
    · rename_i e'
      split
      · exact cnt_mono h h' hM' hf
      · have := cnt_mono (can_wth h hp) h' hM' (wth_least h hp hf (jnd_iff.1 e'))
        omega
    · rename_i e'
      split
      · rename_i e
        exact absurd (jnd_iff.2 (hf _ _ hp.1 hp.2 (jnd_iff.1 e))) e'
      · have : Fin' (wth j p) (wth j' p) := wth_least h hp (fun s t hs ht e => fin_wth h' s t hs ht (hf s t hs ht e)) (wth_jnd h' hp)
        have := cnt_mono (can_wth h hp) (can_wth h' hp) hM' this
        omega
theorem run_mono {L M : List (Nat × Nat)} (hL : Ok L) (hM : Ok M) (h : ∀ p ∈ L, p ∈ M) : Fin' (runJ apt L) (runJ apt M) :=
  run_least can_apt hL (apt_fin _) fun p hp => run_jnd can_apt hM p (h p hp)
theorem ok_app {L M : List (Nat × Nat)} (hL : Ok L) (hM : Ok M) : Ok (L ++ M) := fun p hp => by
  rcases List.mem_append.1 hp with h | h
  · exact hL p h
  · exact hM p h
theorem rk_app (L M : List (Nat × Nat)) : rk (L ++ M) = rk L + cntJ (runJ apt L) M := cntJ_app L M apt
theorem rk_mono {L M : List (Nat × Nat)} (hL : Ok L) (hM : Ok M) (h : ∀ p ∈ L, p ∈ M) : rk L ≤ rk M := by
  have : rk (L ++ M) = rk M := rk_set (ok_app hL hM) hM fun p => ⟨fun hp => by rcases List.mem_append.1 hp with hp | hp; exact h p hp; exact hp, fun hp => List.mem_append.2 (.inr hp)⟩
  rw [← this, rk_app]; omega
theorem rk_le (L : List (Nat × Nat)) : rk L ≤ L.length := cntJ_le L apt
theorem rk_sub {A B I U D : List (Nat × Nat)} (hA : Ok A) (hB : Ok B) (hI : Ok I) (hU : Ok U) (hD : Ok D)
    (hu : ∀ p, p ∈ U ↔ p ∈ A ∨ p ∈ D) (hb : ∀ p, p ∈ B ↔ p ∈ I ∨ p ∈ D) (hi : ∀ p ∈ I, p ∈ A) : rk U + rk I ≤ rk A + rk B := by
  have e1 : rk U = rk (A ++ D) := rk_set hU (ok_app hA hD) fun p => by rw [hu, List.mem_append]
  have e2 : rk B = rk (I ++ D) := rk_set hB (ok_app hI hD) fun p => by rw [hb, List.mem_append]
  rw [e1, e2, rk_app, rk_app]
  have := cnt_mono (can_run can_apt hI) (can_run can_apt hA) hD (run_mono hI hA hi)
  omega
def sz (n : Nat) (f : Nat → Bool) : Nat := ((List.range n).filter f).length
def sel (S : List (List (Nat × Nat))) (f : Nat → Bool) : List (Nat × Nat) := ((List.range S.length).filter f).flatMap fun i => S.getD i []
def Rad (S : List (List (Nat × Nat))) : Prop := ∀ f, sz S.length f ≤ rk (sel S f)
def OkS (S : List (List (Nat × Nat))) : Prop := ∀ i, Ok (S.getD i [])
theorem mem_sel {S : List (List (Nat × Nat))} {f : Nat → Bool} {p : Nat × Nat} : p ∈ sel S f ↔ ∃ i, i < S.length ∧ f i = true ∧ p ∈ S.getD i [] := by
  simp only [sel, List.mem_flatMap, List.mem_filter, List.mem_range]
  exact ⟨fun ⟨i, ⟨a, b⟩, c⟩ => ⟨i, a, b, c⟩, fun ⟨i, a, b, c⟩ => ⟨i, ⟨a, b⟩, c⟩⟩
theorem ok_sel {S : List (List (Nat × Nat))} (h : OkS S) (f : Nat → Bool) : Ok (sel S f) := fun p hp => by
  obtain ⟨i, _, _, c⟩ := mem_sel.1 hp
  exact h i p c
theorem sz_or_and : ∀ (n : Nat) (f g : Nat → Bool), sz n (fun k => f k || g k) + sz n (fun k => f k && g k) = sz n f + sz n g
  | 0, _, _ => rfl
  | n + 1, f, g => by
    have ih := sz_or_and n f g
    simp only [sz, List.range_succ, List.filter_append, List.length_append, List.filter_cons, List.filter_nil] at *
    cases f n <;> cases g n <;> simp <;> omega
theorem rk_union {U I A B : List (Nat × Nat)} (hA : Ok A) (hB : Ok B) (hU : ∀ p ∈ U, p ∈ A ∨ p ∈ B) (hI : ∀ p ∈ I, p ∈ A ∧ p ∈ B) : rk U + rk I ≤ rk A + rk B := by
  have hI' : Ok I := fun p hp => hA p (hI p hp).1
  have := rk_sub (A := A) (B := B) (I := I) (U := A ++ B) (D := B) hA hB hI' (ok_app hA hB) hB (fun p => List.mem_append) (fun p => ⟨.inr, fun h => h.elim (fun h => (hI p h).2) id⟩) (fun p hp => (hI p hp).1)
  have h2 : rk U ≤ rk (A ++ B) := rk_mono (fun p hp => (hU p hp).elim (hA p) (hB p)) (ok_app hA hB) fun p hp => List.mem_append.2 (hU p hp)
  omega
theorem getD_set {S : List (List (Nat × Nat))} {i j : Nat} {l : List (Nat × Nat)} : (S.set i l).getD j [] = if i = j ∧ i < S.length then l else S.getD j [] := by
  simp only [List.getD_eq_getElem?_getD, List.getElem?_set]
  by_cases h : i = j
  · subst h
    by_cases h2 : i < S.length
    · simp [h2]
    · simp [h2]
  · simp [h]
def tot (S : List (List (Nat × Nat))) : Nat := (S.map List.length).sum
theorem tot_set : ∀ {S : List (List (Nat × Nat))} {i : Nat} {l : List (Nat × Nat)}, i < S.length → l.length < (S.getD i []).length → tot (S.set i l) < tot S
  | [], _, _, h, _ => by simp at h
  | a :: S, 0, l, _, h => by simp [tot] at *; omega
  | a :: S, i + 1, l, h, h2 => by
    have := tot_set (S := S) (i := i) (l := l) (by simpa using h) (by simpa using h2)
    simp [tot] at *; omega
theorem sz_drop {n i : Nat} {f : Nat → Bool} (hi : i < n) (h : f i = true) : sz n f = sz n (fun k => f k && decide (k ≠ i)) + 1 :=
  filter_one (h := i) _ List.nodup_range (by simpa using hi) h (by simp) fun s _ hne => by simp [hne]
theorem sz_one {n i : Nat} (hi : i < n) : sz n (fun k => k == i) = 1 := by
  have := sz_drop (n := n) (i := i) (f := fun k => k == i) hi (by simp)
  have z : sz n (fun k => (k == i) && decide (k ≠ i)) = 0 := by
    unfold sz; rw [List.length_eq_zero_iff, List.filter_eq_nil_iff]; intro a _; simp
  omega
theorem sz_all (n : Nat) : sz n (fun _ => true) = n := by unfold sz; rw [List.filter_eq_self.2 (fun _ _ => rfl), List.length_range]
theorem sel_one : ∀ (S : List (List (Nat × Nat))), (∀ l ∈ S, l.length = 1) → sel S (fun _ => true) = S.map fun l => l.headD (0, 0)
  | [], _ => rfl
  | a :: S, h => by
    have ih := sel_one S fun l hl => h l (.tail _ hl)
    have ha := h a (.head _)
    unfold sel at *
    rw [List.filter_eq_self.2 (fun _ _ => rfl)] at *
    rw [List.length_cons, List.range_succ_eq_map, List.flatMap_cons, List.flatMap_map]
    match a, ha with
    | [x], _ => simpa using ih
theorem rado_ : ∀ (m : Nat) (S : List (List (Nat × Nat))), tot S ≤ m → OkS S → Rad S → ∃ T : List (Nat × Nat), T.length = S.length ∧ (∀ i, i < S.length → T.getD i (0, 0) ∈ S.getD i []) ∧ rk T = T.length := by
  intro m
  induction m with
  | zero =>
    intro S hm hO hR
    cases S with
    | nil => exact ⟨[], rfl, fun i h => by simp at h, rfl⟩
    | cons a S =>
      exfalso
      have h1 := hR (fun k => k == 0)
      rw [sz_one (by simp)] at h1
      have h2 := rk_le (sel (a :: S) fun k => k == 0)
      have : a = [] := by simp [tot] at hm; exact hm.1
      subst this
      have e : sel ([] :: S) (fun k => k == 0) = [] := by
        rw [List.eq_nil_iff_forall_not_mem]; intro p hp
        obtain ⟨i, _, c, d⟩ := mem_sel.1 hp
        have : i = 0 := by simpa using c
        subst this; simp at d
      rw [e] at h1 h2; simp at h2; omega
  | succ m ih =>
    intro S hm hO hR
    by_cases hA : ∀ l ∈ S, l.length ≤ 1
    · have h1 : ∀ l ∈ S, l.length = 1 := fun l hl => by
        obtain ⟨i, hi, rfl⟩ := List.getElem_of_mem hl
        have a := hR (fun k => k == i)
        rw [sz_one hi] at a
        have b := hA _ (List.getElem_mem hi)
        have : 1 ≤ S[i].length := by
          have hp : ∃ p, p ∈ sel S (fun k => k == i) := by
            cases hs : sel S (fun k => k == i) with
            | nil => rw [hs] at a; simp [rk, cntJ] at a
            | cons p _ => exact ⟨p, .head _⟩
          obtain ⟨p, hp⟩ := hp
          obtain ⟨k, _, c, d⟩ := mem_sel.1 hp
          have : k = i := by simpa using c
          subst this
          rw [List.getD_eq_getElem?_getD, List.getElem?_eq_getElem hi] at d
          have : S[k] ≠ [] := fun e => by rw [e] at d; simp at d
          exact List.length_pos_iff.2 this
        omega
      have e := sel_one S h1
      refine ⟨S.map fun l => l.headD (0, 0), by simp, fun i hi => ?_, ?_⟩
      · have := h1 _ (List.getElem_mem hi)
        simp only [List.getD_eq_getElem?_getD, List.getElem?_map, List.getElem?_eq_getElem hi, Option.map_some, Option.getD_some]
        match S[i], this with
        | [x], _ => simp
      · have a := hR (fun _ => true)
        rw [sz_all, e] at a
        have b := rk_le (S.map fun l => l.headD (0, 0))
        simp only [List.length_map] at *; omega
    · have : ∃ i, i < S.length ∧ 2 ≤ (S.getD i []).length := by
        apply Classical.byContradiction
        intro h
        apply hA
        intro l hl
        obtain ⟨i, hi, rfl⟩ := List.getElem_of_mem hl
        apply Classical.byContradiction
        intro h2
        exact h ⟨i, hi, by rw [List.getD_eq_getElem?_getD, List.getElem?_eq_getElem hi]; simp; omega⟩
      obtain ⟨i, hi, h2⟩ := this
      match hS : S.getD i [], h2 with
      | x :: y :: r, _ =>
        have sub1 : ∀ j p, p ∈ (S.set i (y :: r)).getD j [] → p ∈ S.getD j [] := fun j p hp => by
          rw [getD_set] at hp
          split at hp
          · rename_i e; rw [← e.1, hS]; exact .tail _ hp
          · exact hp
        have sub2 : ∀ j p, p ∈ (S.set i (x :: r)).getD j [] → p ∈ S.getD j [] := fun j p hp => by
          rw [getD_set] at hp
          split at hp
          · rename_i e; rw [← e.1, hS]
            rcases List.mem_cons.1 hp with rfl | hp
            · exact .head _
            · exact .tail _ (.tail _ hp)
          · exact hp
        have hO1 : OkS (S.set i (y :: r)) := fun j p hp => hO j p (sub1 j p hp)
        have hO2 : OkS (S.set i (x :: r)) := fun j p hp => hO j p (sub2 j p hp)
        by_cases r1 : Rad (S.set i (y :: r))
        · obtain ⟨T, t1, t2, t3⟩ := ih _ (by have := tot_set (S := S) (l := y :: r) hi (by rw [hS]; simp); omega) hO1 r1
          rw [List.length_set] at t1 t2
          exact ⟨T, t1, fun j hj => sub1 j _ (t2 j hj), t3⟩
        · by_cases r2 : Rad (S.set i (x :: r))
          · obtain ⟨T, t1, t2, t3⟩ := ih _ (by have := tot_set (S := S) (l := x :: r) hi (by rw [hS]; simp); omega) hO2 r2
            rw [List.length_set] at t1 t2
            exact ⟨T, t1, fun j hj => sub2 j _ (t2 j hj), t3⟩
          · exfalso
            obtain ⟨f1, b1⟩ := Classical.not_forall.1 r1
            obtain ⟨f2, b2⟩ := Classical.not_forall.1 r2
            rw [List.length_set] at b1 b2
            have i1 : f1 i = true := by
              cases h : f1 i with
              | true => rfl
              | false =>
                exfalso; apply b1
                refine Nat.le_trans (hR f1) (rk_mono (ok_sel hO f1) (ok_sel hO1 f1) fun p hp => ?_)
                obtain ⟨k, a, b, c⟩ := mem_sel.1 hp
                have : i ≠ k := fun e => by subst e; rw [h] at b; cases b
                exact mem_sel.2 ⟨k, by simpa using a, b, by rw [getD_set, if_neg (fun e => this e.1)]; exact c⟩
            have i2 : f2 i = true := by
              cases h : f2 i with
              | true => rfl
              | false =>
                exfalso; apply b2
                refine Nat.le_trans (hR f2) (rk_mono (ok_sel hO f2) (ok_sel hO2 f2) fun p hp => ?_)
                obtain ⟨k, a, b, c⟩ := mem_sel.1 hp
                have : i ≠ k := fun e => by subst e; rw [h] at b; cases b
                exact mem_sel.2 ⟨k, by simpa using a, b, by rw [getD_set, if_neg (fun e => this e.1)]; exact c⟩
            have key := rk_union (U := sel S fun k => f1 k || f2 k) (I := sel S fun k => (f1 k && f2 k) && decide (k ≠ i)) (ok_sel hO1 f1) (ok_sel hO2 f2)
              (fun p hp => by
                obtain ⟨k, a, b, c⟩ := mem_sel.1 hp
                by_cases e : i = k
                · subst e
                  rw [hS] at c
                  rcases List.mem_cons.1 c with rfl | c
                  · exact .inr (mem_sel.2 ⟨i, by simpa using a, i2, by rw [getD_set, if_pos ⟨rfl, a⟩]; exact .head _⟩)
                  · exact .inl (mem_sel.2 ⟨i, by simpa using a, i1, by rw [getD_set, if_pos ⟨rfl, a⟩]; exact c⟩)
                · rcases Bool.or_eq_true_iff.1 b with b | b
                  · exact .inl (mem_sel.2 ⟨k, by simpa using a, b, by rw [getD_set, if_neg (fun x => e x.1)]; exact c⟩)
                  · exact .inr (mem_sel.2 ⟨k, by simpa using a, b, by rw [getD_set, if_neg (fun x => e x.1)]; exact c⟩))
              (fun p hp => by
                obtain ⟨k, a, b, c⟩ := mem_sel.1 hp
                simp only [Bool.and_eq_true, decide_eq_true_eq] at b
                exact ⟨mem_sel.2 ⟨k, by simpa using a, b.1.1, by rw [getD_set, if_neg (fun x => b.2 x.1.symm)]; exact c⟩, mem_sel.2 ⟨k, by simpa using a, b.1.2, by rw [getD_set, if_neg (fun x => b.2 x.1.symm)]; exact c⟩⟩)
            have a1 := hR (fun k => f1 k || f2 k)
            have a2 := hR (fun k => (f1 k && f2 k) && decide (k ≠ i))
            have a3 := sz_or_and S.length f1 f2
            have a4 := sz_drop (n := S.length) (i := i) (f := fun k => f1 k && f2 k) hi (by simp [i1, i2])
            omega
theorem rado {S : List (List (Nat × Nat))} (hO : OkS S) (hR : Rad S) : ∃ T : List (Nat × Nat), T.length = S.length ∧ (∀ i, i < S.length → T.getD i (0, 0) ∈ S.getD i []) ∧ rk T = T.length :=
  rado_ _ S (Nat.le_refl _) hO hR
theorem rk_free_sub : ∀ {L M : List (Nat × Nat)}, Ok L → L.Sublist M → Ok M → rk M = M.length → rk L = L.length := by
  intro L M hL hs hM h
  have key : ∀ {L M : List (Nat × Nat)} {j j' : List Nat}, L.Sublist M → Can j → Can j' → Fin' j' j → Ok M → cntJ j M = M.length → cntJ j' L = L.length := by
    intro L M j j' hs
    induction hs generalizing j j' with
    | slnil => intro _ _ _ _ _; rfl
    | @cons a b p hs ih =>
      intro h1 h2 h3 hM h
      have hp := hM p (.head _)
      have hM' : Ok b := fun q hq => hM q (.tail _ hq)
      simp only [cntJ, List.length_cons] at h
      split at h
      · have := cntJ_le b j; omega
      · exact ih (j := wth j p) (can_wth h1 hp) h2 (fun s t hs ht e => fin_wth h1 s t hs ht (h3 s t hs ht e)) hM' (by omega)
    | @cons_cons a b p hs ih =>
      intro h1 h2 h3 hM h
      have hp := hM p (.head _)
      have hM' : Ok b := fun q hq => hM q (.tail _ hq)
      simp only [cntJ, List.length_cons] at h ⊢
      split at h
      · have := cntJ_le b j; omega
      · rename_i e
        split
        · rename_i e'
          exact absurd (jnd_iff.2 (h3 _ _ hp.1 hp.2 (jnd_iff.1 e'))) e
        · have := ih (j := wth j p) (j' := wth j' p) (can_wth h1 hp) (can_wth h2 hp) (wth_least h2 hp (fun s t hs ht e => fin_wth h1 s t hs ht (h3 s t hs ht e)) (wth_jnd h1 hp)) hM' (by omega)
          omega
  exact key hs can_apt can_apt (fin_refl _) hM h
theorem rado_conv {S : List (List (Nat × Nat))} (hO : OkS S) {T : List (Nat × Nat)} (h1 : T.length = S.length) (h2 : ∀ i, i < S.length → T.getD i (0, 0) ∈ S.getD i []) (h3 : rk T = T.length) : Rad S := by
  intro f
  have hT : Ok T := fun p hp => by
    obtain ⟨i, hi, rfl⟩ := List.getElem_of_mem hp
    have := h2 i (by omega)
    have e : T.getD i (0, 0) = T[i] := by simp [List.getD, hi]
    rw [e] at this
    exact hO i _ this
  have hs : (((List.range T.length).filter f).map fun i => T.getD i (0, 0)).Sublist T := by
    have : T = (List.range T.length).map fun i => T.getD i (0, 0) := by
      apply List.ext_getElem (by simp)
      intro i a b
      simp [a]
    have e : ((List.range T.length).map fun i => T.getD i (0, 0)) = T := this.symm
    have s : (((List.range T.length).filter f).map fun i => T.getD i (0, 0)).Sublist ((List.range T.length).map fun i => T.getD i (0, 0)) := List.Sublist.map _ List.filter_sublist
    rw [e] at s
    exact s
  have hsub : ∀ p ∈ ((List.range T.length).filter f).map fun i => T.getD i (0, 0), p ∈ sel S f := fun p hp => by
    obtain ⟨i, hi, rfl⟩ := List.mem_map.1 hp
    obtain ⟨a, b⟩ := List.mem_filter.1 hi
    have a' : i < S.length := by have := List.mem_range.1 a; omega
    exact mem_sel.2 ⟨i, a', b, h2 i a'⟩
  have hOk : Ok (((List.range T.length).filter f).map fun i => T.getD i (0, 0)) := fun p hp => ok_sel hO f p (hsub p hp)
  have r := rk_free_sub hOk hs hT h3
  have m := rk_mono hOk (ok_sel hO f) hsub
  rw [r, List.length_map, h1] at m
  exact m
def pk (l : List (Nat × Nat)) (i : Nat) : Nat × Nat := l.getD i (0, 0)
def chs : List (List (Nat × Nat)) → List Nat → List (List Nat)
  | [], _ => [[]]
  | l :: S, j => (List.range' 0 l.length).flatMap fun i => if jnd j (pk l i) then [] else (chs S (wth j (pk l i))).map (i :: ·)
def chsF (l : List (Nat × Nat)) (S : List (List (Nat × Nat))) (j : List Nat) (i : Nat) : List (List Nat) :=
  (List.range' i (l.length - i)).flatMap fun i => if jnd j (pk l i) then [] else (chs S (wth j (pk l i))).map (i :: ·)
theorem chs_cons (l : List (Nat × Nat)) (S : List (List (Nat × Nat))) (j : List Nat) : chs (l :: S) j = chsF l S j 0 := rfl
theorem chsF_end {l : List (Nat × Nat)} {S : List (List (Nat × Nat))} {j : List Nat} {i : Nat} (h : l.length ≤ i) : chsF l S j i = [] := by
  unfold chsF; rw [Nat.sub_eq_zero_of_le h]; rfl
theorem chsF_step {l : List (Nat × Nat)} {S : List (List (Nat × Nat))} {j : List Nat} {i : Nat} (h : i < l.length) :
    chsF l S j i = (if jnd j (pk l i) then [] else (chs S (wth j (pk l i))).map (i :: ·)) ++ chsF l S j (i + 1) := by
  unfold chsF; rw [show l.length - i = (l.length - (i + 1)) + 1 by omega, List.range'_succ, List.flatMap_cons]
theorem flat_len {α β : Type} {f : α → List β} {c : Nat} : ∀ {l : List α}, (∀ a ∈ l, (f a).length ≤ c) → (l.flatMap f).length ≤ l.length * c
  | [], _ => by simp
  | a :: l, h => by
    have := flat_len (l := l) fun b hb => h b (.tail _ hb)
    have := h a (.head _)
    rw [List.flatMap_cons, List.length_append, List.length_cons, Nat.succ_mul]; omega
theorem chs_len : ∀ (S : List (List (Nat × Nat))) (j : List Nat), (∀ l ∈ S, l.length ≤ 6) → (chs S j).length ≤ 6 ^ S.length
  | [], _, _ => by simp [chs]
  | l :: S, j, h => by
    have hl := h l (.head _)
    have := flat_len (c := 6 ^ S.length) (f := fun i => if jnd j (pk l i) then [] else (chs S (wth j (pk l i))).map (i :: ·)) (l := List.range' 0 l.length) fun i _ => by
      split
      · simp
      · rw [List.length_map]; exact chs_len S _ fun l hl => h l (.tail _ hl)
    rw [List.length_range'] at this
    rw [chs, List.length_cons, Nat.pow_succ, Nat.mul_comm]
    exact Nat.le_trans this (Nat.mul_le_mul_right _ hl)
def picks : List (List (Nat × Nat)) → List Nat → List (Nat × Nat)
  | l :: S, i :: c => pk l i :: picks S c
  | _, _ => []
def Fits : List (List (Nat × Nat)) → List Nat → Prop
  | [], [] => True
  | l :: S, i :: c => i < l.length ∧ Fits S c
  | _, _ => False
theorem fits_len : ∀ {S : List (List (Nat × Nat))} {c : List Nat}, Fits S c → c.length = S.length ∧ (picks S c).length = S.length
  | [], [], _ => ⟨rfl, rfl⟩
  | l :: S, i :: c, h => by have := fits_len h.2; simp [picks, this.1, this.2]
theorem mem_chs : ∀ {S : List (List (Nat × Nat))} {j : List Nat} {c : List Nat}, c ∈ chs S j ↔ Fits S c ∧ cntJ j (picks S c) = S.length
  | [], j, c => by
    cases c with
    | nil => simp [chs, Fits, picks, cntJ]
    | cons a c => simp [chs, Fits]
  | l :: S, j, [] => by
    simp only [chs, List.mem_flatMap, Fits, false_and, iff_false, not_exists, not_and]
    intro i _
    split <;> simp
  | l :: S, j, i :: c => by
    simp only [chs, List.mem_flatMap, Fits, picks, cntJ, List.length_cons]
    constructor
    · rintro ⟨k, hk, h⟩
      have hk' : k < l.length := by simpa using hk
      split at h
      · simp at h
      · rename_i hj
        simp only [List.mem_map, List.cons.injEq] at h
        obtain ⟨c', h1, rfl, rfl⟩ := h
        have := mem_chs.1 h1
        rw [if_neg hj]
        exact ⟨⟨hk', this.1⟩, by rw [this.2]⟩
    · rintro ⟨⟨h1, h2⟩, h3⟩
      refine ⟨i, by simpa using h1, ?_⟩
      have hp := (fits_len h2).2
      split at h3
      · have := cntJ_le (picks S c) j; omega
      · rename_i hj
        rw [if_neg hj]
        exact List.mem_map.2 ⟨c, mem_chs.2 ⟨h2, by omega⟩, rfl⟩
theorem picks_at : ∀ {S : List (List (Nat × Nat))} {c : List Nat}, Fits S c → ∀ i, i < S.length → (picks S c).getD i (0, 0) ∈ S.getD i []
  | [], _, _, i, h => by simp at h
  | l :: S, k :: c, hf, 0, _ => by
    have := hf.1
    simp [picks, pk, List.getD, this]
  | l :: S, k :: c, hf, i + 1, h => by
    have := picks_at hf.2 i (by simpa using h)
    simpa [picks] using this
theorem unpick : ∀ {S : List (List (Nat × Nat))} {T : List (Nat × Nat)}, T.length = S.length → (∀ i, i < S.length → T.getD i (0, 0) ∈ S.getD i []) → ∃ c, Fits S c ∧ picks S c = T
  | [], [], _, _ => ⟨[], trivial, rfl⟩
  | l :: S, t :: T, h, h2 => by
    obtain ⟨c, c1, c2⟩ := unpick (S := S) (T := T) (by simpa using h) fun i hi => by simpa using h2 (i + 1) (by simpa using hi)
    have := h2 0 (by simp)
    simp at this
    obtain ⟨i, hi, e⟩ := List.getElem_of_mem this
    exact ⟨i :: c, ⟨hi, c1⟩, by simp [picks, pk, List.getD, hi, e, c2]⟩
theorem chs_rad {S : List (List (Nat × Nat))} (hO : OkS S) : chs S apt ≠ [] ↔ Rad S := by
  constructor
  · intro h
    obtain ⟨c, hc⟩ := List.exists_mem_of_ne_nil _ h
    obtain ⟨h1, h2⟩ := mem_chs.1 hc
    have hl := (fits_len h1).2
    exact rado_conv hO hl (picks_at h1) (by unfold rk; rw [h2, hl])
  · intro h
    obtain ⟨T, t1, t2, t3⟩ := rado hO h
    obtain ⟨c, c1, c2⟩ := unpick t1 t2
    exact List.ne_nil_of_mem (mem_chs.2 ⟨c1, by rw [c2, ← t1]; exact t3⟩)
section
variable {α : Type} [DecidableEq α]
def bstep (is : α → Bool) (lt : α → α → Bool) (acc : Option α) (l : α) : Option α := if is l then (match acc with | none => some l | some o => if lt l o then some l else some o) else acc
theorem find_or {lt : α → α → Bool} (has : ∀ x y, lt x y = true → lt y x = false) (hir : ∀ x, lt x x = false) {l : α} {q : α → Bool} : ∀ (T : List α), T.Pairwise (fun x y => lt x y = true) → l ∈ T →
    T.find? (fun x => q x || x == l) = (match T.find? q with | none => some l | some o => if lt l o then some l else some o)
  | a :: T, hT, hl => by
    obtain ⟨h1, h2⟩ := List.pairwise_cons.1 hT
    rw [List.find?_cons, List.find?_cons]
    cases hq : q a with
    | true =>
      simp only [Bool.true_or]
      have : lt l a = false := by
        rcases List.mem_cons.1 hl with rfl | hl
        · exact hir _
        · exact has _ _ (h1 _ hl)
      simp [this]
    | false =>
      simp only [Bool.false_or]
      by_cases e : a = l
      · subst e
        simp only [beq_self_eq_true]
        cases hf : T.find? q with
        | none => rfl
        | some o => simp [h1 _ (List.mem_of_find?_eq_some hf)]
      · have : (a == l) = false := by simpa using e
        simp only [this]
        exact find_or has hir T h2 (by
          rcases List.mem_cons.1 hl with rfl | hl
          · exact absurd rfl e
          · exact hl)
theorem best_find {lt : α → α → Bool} (has : ∀ x y, lt x y = true → lt y x = false) (hir : ∀ x, lt x x = false) (is : α → Bool) {T : List α} (hT : T.Pairwise (fun x y => lt x y = true)) : ∀ (R S : List α), (∀ x ∈ R, x ∈ T) → 
    R.foldl (bstep is lt) (T.find? (fun x => is x && S.contains x)) = T.find? (fun x => is x && (S ++ R).contains x)
  | [], S, _ => by simp
  | l :: R, S, h => by
    have ih := best_find has hir is hT R (S ++ [l]) fun x hx => h x (.tail _ hx)
    rw [List.foldl_cons]
    have e : bstep is lt (T.find? fun x => is x && S.contains x) l = T.find? (fun x => is x && (S ++ [l]).contains x) := by
      unfold bstep
      cases hi : is l with
      | true =>
        rw [if_pos rfl, ← find_or has hir T hT (h l (.head _))]
        congr 1
        funext x
        by_cases hx : x = l
        · subst hx; simp [hi]
        · simp [hx]
      | false =>
        rw [if_neg (by simp)]
        congr 1
        funext x
        by_cases hx : x = l
        · subst hx; simp [hi]
        · simp [hx]
    rw [e, ih]
    simp
theorem best_all {lt : α → α → Bool} (has : ∀ x y, lt x y = true → lt y x = false) (hir : ∀ x, lt x x = false) (is : α → Bool) {T R : List α} (hT : T.Pairwise (fun x y => lt x y = true)) (h : ∀ x ∈ R, x ∈ T) (h2 : ∀ x ∈ T, x ∈ R) :
    R.foldl (bstep is lt) none = T.find? is := by
  have := best_find has hir is hT R [] h
  have z : T.find? (fun x => is x && ([] : List α).contains x) = none := by
    rw [List.find?_eq_none]; intro x _; simp
  rw [z, List.nil_append] at this
  rw [this]
  clear this z h hT
  have : ∀ T' : List α, (∀ x ∈ T', x ∈ R) → T'.find? (fun x => is x && R.contains x) = T'.find? is := by
    intro T' hT'
    induction T' with
    | nil => rfl
    | cons a T' ih =>
      have ha := hT' a (.head _)
      rw [List.find?_cons, List.find?_cons, ih fun x hx => hT' x (.tail _ hx)]
      simp [ha]
  exact this T h2
end
def lexL : List Nat → List Nat → Bool
  | [], [] => false
  | [], _ :: _ => true
  | _ :: _, [] => false
  | a :: x, b :: y => if a < b then true else if b < a then false else lexL x y
theorem lexL_irr : ∀ x, lexL x x = false
  | [] => rfl
  | a :: x => by simp [lexL, lexL_irr x]
theorem lexL_as : ∀ x y, lexL x y = true → lexL y x = false
  | [], [], h => by simp [lexL] at h
  | [], _ :: _, _ => rfl
  | _ :: _, [], h => by simp [lexL] at h
  | a :: x, b :: y, h => by
    simp only [lexL] at h ⊢
    by_cases h1 : a < b
    · rw [if_neg (by omega), if_pos h1]
    · rw [if_neg h1] at h
      by_cases h2 : b < a
      · rw [if_pos h2] at h; cases h
      · rw [if_neg h2] at h
        rw [if_neg h2, if_neg h1]
        exact lexL_as x y h
def ltS (x y : List Nat) : Bool := if x.length = y.length then lexL x y else decide (x.length < y.length)
def ltG (x y : List Nat) : Bool := if x.length = y.length then lexL x y else decide (x.length > y.length)
theorem ltS_irr (x : List Nat) : ltS x x = false := by simp [ltS, lexL_irr]
theorem ltG_irr (x : List Nat) : ltG x x = false := by simp [ltG, lexL_irr]
theorem ltS_as (x y : List Nat) (h : ltS x y = true) : ltS y x = false := by
  unfold ltS at *
  by_cases e : x.length = y.length
  · rw [if_pos e] at h; rw [if_pos e.symm]; exact lexL_as x y h
  · rw [if_neg e] at h; rw [if_neg (fun q => e q.symm)]
    simp at h ⊢; omega
theorem ltG_as (x y : List Nat) (h : ltG x y = true) : ltG y x = false := by
  unfold ltG at *
  by_cases e : x.length = y.length
  · rw [if_pos e] at h; rw [if_pos e.symm]; exact lexL_as x y h
  · rw [if_neg e] at h; rw [if_neg (fun q => e q.symm)]
    simp at h ⊢; omega
def ls (n : Nat) : Nat → Nat → List (List Nat)
  | 0, _ => [[]]
  | m + 1, k => (List.range' k (n - k)).flatMap fun x => (ls n m (x + 1)).map (x :: ·)
def upT (n : Nat) : List (List Nat) := (List.range (n + 1)).flatMap fun m => ls n m 0
def downT (n : Nat) : List (List Nat) := (List.range (n + 1)).reverse.flatMap fun m => ls n m 0
def memb (s : Nat) : List Nat := (List.range 5).filter fun k => s.testBit k
def allS (n : Nat) : List (List Nat) := (List.range (2 ^ n)).map memb
def pwB (lt : List Nat → List Nat → Bool) : List (List Nat) → Bool
  | [] => true
  | a :: l => l.all (lt a) && pwB lt l
theorem pwB_ok {lt : List Nat → List Nat → Bool} : ∀ {l : List (List Nat)}, pwB lt l = true → l.Pairwise (fun x y => lt x y = true)
  | [], _ => .nil
  | a :: l, h => by
    simp only [pwB, Bool.and_eq_true, List.all_eq_true] at h
    exact List.pairwise_cons.2 ⟨h.1, pwB_ok h.2⟩
theorem sorted_all : ((List.range 6).all fun n => pwB ltS (upT n) && pwB ltG (downT n) && (allS n).all (fun x => (upT n).contains x && (downT n).contains x) && (upT n).all (fun x => (allS n).contains x) && (downT n).all (fun x => (allS n).contains x)) = true := by decide +kernel
theorem sorted_n {n : Nat} (h : n ≤ 5) : (upT n).Pairwise (fun x y => ltS x y = true) ∧ (downT n).Pairwise (fun x y => ltG x y = true) ∧ (∀ x, x ∈ allS n ↔ x ∈ upT n) ∧ (∀ x, x ∈ allS n ↔ x ∈ downT n) := by
  have := List.all_eq_true.1 sorted_all n (List.mem_range.2 (by omega))
  simp only [Bool.and_eq_true, List.all_eq_true, List.contains_iff_mem] at this
  obtain ⟨⟨⟨⟨h1, h2⟩, h3⟩, h4⟩, h5⟩ := this
  exact ⟨pwB_ok h1, pwB_ok h2, fun x => ⟨fun hx => (h3 x hx).1, fun hx => h4 x hx⟩, fun x => ⟨fun hx => (h3 x hx).2, fun hx => h5 x hx⟩⟩
theorem best_up (is : List Nat → Bool) {n : Nat} (h : n ≤ 5) : (allS n).foldl (bstep is ltS) none = (upT n).find? is := by
  obtain ⟨h1, _, h3, _⟩ := sorted_n h
  exact best_all ltS_as ltS_irr is h1 (fun x hx => (h3 x).1 hx) fun x hx => (h3 x).2 hx
theorem best_down (is : List Nat → Bool) {n : Nat} (h : n ≤ 5) : (allS n).foldl (bstep is ltG) none = (downT n).find? is := by
  obtain ⟨_, h2, _, h4⟩ := sorted_n h
  exact best_all ltG_as ltG_irr is h2 (fun x hx => (h4 x).1 hx) fun x hx => (h4 x).2 hx
end Go.Crew
