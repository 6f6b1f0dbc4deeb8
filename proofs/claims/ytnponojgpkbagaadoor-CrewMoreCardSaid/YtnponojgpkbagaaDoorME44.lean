/-
  Copies of lists of nothing.
-/
import Derived.Test.YtnponojgpkbagaaDoorMFndA
import Derived.Test.YtnponojgpkbagaaDoorB
import Derived.Test.YtnponojgpkbagaaDoorV35
import Derived.Test.YtnponojgpkbagaaDoorV36
namespace Go.Proofs.YtnponojgpkbagaaDoor
open Go.V
open Nat renaming reduceBEq → qa, reduceAdd → qb, reduceSub → qc, reduceMul → qd, reduceLT → qe, reduceLeDiff → qf
open Int renaming reduceLE → qg, reduceLT → qh, reduceToNat → qi, reduceBEq → qj, reduceBNe → qk
set_option maxRecDepth 100000
set_option maxHeartbeats 4000000
set_option linter.unusedSimpArgs false
set_option linter.unusedVariables false
attribute [local go_sem] tl1 tl2 tl3 tl4 tl5 tl9 tl17 tl21 tl22 tl23 tl24 tl25 tl26 tl27 tl28 tl29 tl31 tl32 tl34 tl35 tl36 tl37 tl38 tl39 tl40 tl41 tl42 tl43 tl44 tl45 tl47 tl48 tl49 tl50 tl51 tl52 tl53 tl54 tl55 tl56 tl57 tl58 tl59 tl60 tl61 tl62 tl63 tl64 tl65 tl66 tl67 tl68 tl69 tl70 tl71 tl72 tl73 tl74 tl75 tl76 tl77 tl78 tl79 tl80 tl81 tl82 tl83 tl84 tl85 tl86 tl87 tl88 tl89 tl90 tl92 tl94 tl95 tl96 tl97 tl98 tl99 tl100 tl101 tl102 tl103 tl104 tl105 tl106 tl107 tl108 tl109 tl110 tl111 tl112 tl113 tl114 tl115 tl116 tl118 tl119 tl121 tl122 tl123 tl124 tl125 tl126 tl127 tl128 tl129 tl131 tl133 tl134 tl135 tl136 tl142 tl146

def m100 (N : Nat) (b4649 : Bool) : Option ((PV × Bool)) :=
  some ((.bool false), true)
theorem c100 (N : Nat) (b4649 : Bool) (r : PV) (b4651 : Bool) (h : m100 N b4649 = some (r, b4651)) : V.Fn Tryd.prog 100 1 [.v .nl, .ptr 0 0] [(0, .p [(.bool b4649)])] (fun d ob' => d = .v r ∧ ob' = [(0, .p [(.bool b4651)])]) := by
  unfold m100 at h
  refine Fn_of (sz := 4) tab_ok [0, 1, 3] [.tmp 3] Tryd.func100 rfl rfl rfl (by simp) ?_
  simp only [initSt, initEnv, List.map_cons, List.map_nil, List.getD_cons_zero, List.getD_cons_succ, List.getD_nil]
  refine W_sound tab_ok mixed 14 _ _ _ ?_
  simp -implicitDefEqProofs only [go_sem, qa, qb, qc, qd, qe, qf, qg, qh, qi, qj, qk, ↓reduceIte]
  repeat with_reducible refine And.intro (by first | kernel_rfl | decide) ?_
  simp only [Option.some.injEq, Prod.mk.injEq] at h; obtain ⟨rfl, rfl⟩ := h
  exact finD (e2 := [(0, .dead), (1, .dead), (3, .v (.bool false))]) (ob2 := [(0, .p [(.bool true)])]) (st' := ⟨[], [(0, .dead), (1, .dead), (3, .v (.bool false))], [(0, .p [(.bool true)])], 1, []⟩) (.k (.k (.r .nil))) (.cons _ _ _ _ _ (DLes.refl _) .nil) (by kernel_rfl) (by simp only [go_sem, qa, qb, qc, qd, qe, qf, qg, qh, qi, qj, qk, ↓reduceIte, resQ_tmp, resQ_cell, resQ_nil, retD_one, retD_two, retD_three, retD_none]; try simp [R.val, retD_one, retD_two, retD_three, retD_none])

def m100_2 (N : Nat) (p4715 : PV) (b4716 : Bool) : Option ((PV × Bool)) :=
  getL p4715 fun n4719 c4720 =>
  some ((.bool false), true)
theorem c100_2 (N : Nat) (p4715 : PV) (b4716 : Bool) (r : PV) (b4721 : Bool) (h : m100_2 N p4715 b4716 = some (r, b4721)) : V.Fn Tryd.prog 100 1 [.v p4715, .ptr 0 0] [(0, .p [(.bool b4716)])] (fun d ob' => d = .v r ∧ ob' = [(0, .p [(.bool b4721)])]) := by
  unfold m100_2 at h
  refine Fn_of (sz := 4) tab_ok [0, 1, 3] [.tmp 3] Tryd.func100 rfl rfl rfl (by simp) ?_
  simp only [initSt, initEnv, List.map_cons, List.map_nil, List.getD_cons_zero, List.getD_cons_succ, List.getD_nil]
  have hh := getL_some h; clear h; obtain ⟨n4719, c4720, h4718, h⟩ := hh
  refine W_sound tab_ok mixed 14 _ _ _ ?_
  simp -implicitDefEqProofs only [go_sem, qa, qb, qc, qd, qe, qf, qg, qh, qi, qj, qk, ↓reduceIte, h4718]
  repeat with_reducible refine And.intro (by first | kernel_rfl | decide) ?_
  simp only [Option.some.injEq, Prod.mk.injEq] at h; obtain ⟨rfl, rfl⟩ := h
  exact finD (e2 := [(0, .dead), (1, .dead), (3, .v (.bool false))]) (ob2 := [(0, .p [(.bool true)])]) (st' := ⟨[], [(0, .dead), (1, .dead), (3, .v (.bool false))], [(0, .p [(.bool true)])], 1, []⟩) (.k (.k (.r .nil))) (.cons _ _ _ _ _ (DLes.refl _) .nil) (by kernel_rfl) (by simp only [go_sem, qa, qb, qc, qd, qe, qf, qg, qh, qi, qj, qk, ↓reduceIte, resQ_tmp, resQ_cell, resQ_nil, retD_one, retD_two, retD_three, retD_none]; try simp [R.val, retD_one, retD_two, retD_three, retD_none])

def m99_6_L0 (N : Nat) (rec : PV → PV → PV → Bool → PV → PV → Option ((PV × PV × Bool × PV))) (p4778 : PV) (n4784 : Nat) (c4785 : List PV) (p4787 : PV) (p4788 : PV) (p4789 : PV) (p4790 : PV) (p4791 : PV) (n4813 : Nat) (c4814 : List PV) : Nat → Int → PV → Bool → PV → Option (((PV × PV × Bool × PV) ⊕ (PV × Bool × PV)))
  | 0, _, _, _, _ => none
  | n + 1, x4847, p4848, b4849, p4850 =>
    brn (decide (x4847 < ((n4813 : Nat) : Int))) (
      grd (0 ≤ x4847 ∧ x4847 < ((n4813 : Nat) : Int)) <|
      grd (2 ≤ List.length (List.drop ((Int.toNat x4847) * 2) c4814)) <|
      getA2 (.agg (List.take 2 (List.drop ((Int.toNat x4847) * 2) c4814))) fun p4856 p4857 =>
      bnd' (m71 N (.agg [p4787, p4788, p4789, p4790, p4791]) (.agg [p4856, p4857])) fun p4858 =>
      getB p4858 fun b4861 =>
      brn b4861 (
        m99_6_L0 N rec p4778 n4784 c4785 p4787 p4788 p4789 p4790 p4791 n4813 c4814 n (IntKind.i64.wrap (x4847 + 1)) p4848 b4849 p4850) (
        grd (((n4784 : Nat) : Int) ≤ ((n4784 : Nat) : Int)) <|
        grd (List.length c4785 = n4784) <|
        grd ((n4784 + 1) ≤ 1099511627776) <|
        bnd' (m98 N (.agg [p4787, p4788, p4789, p4790, p4791]) (.agg [p4856, p4857])) fun p4866 =>
        getA5 p4866 fun p4869 p4870 p4871 p4872 p4873 =>
        bnd' (rec (.lst false (n4784 + 1) (c4785 ++ [(.int .i64 x4847)])) (.agg [p4869, p4870, p4871, p4872, p4873]) p4848 b4849 p4778 p4850) fun (p4874, p4876, b4877, p4878) =>
        getB p4874 fun b4880 =>
        brn b4880 (
          m99_6_L0 N rec p4778 n4784 c4785 p4787 p4788 p4789 p4790 p4791 n4813 c4814 n (IntKind.i64.wrap (x4847 + 1)) p4876 b4877 p4878) (
          some (.inl ((.bool false), p4876, b4877, p4878))))) (
      some (.inr (p4848, b4849, p4850)))
def m99_6 (N : Nat) : Nat → PV → PV → PV → Bool → PV → PV → Option ((PV × PV × Bool × PV))
  | 0, _, _, _, _, _, _ => none
  | fu + 1, p4774, p4775, p4776, b4777, p4778, p4779 =>
    getL p4774 fun n4784 c4785 =>
    getA5 p4775 fun p4787 p4788 p4789 p4790 p4791 =>
    getL p4776 fun n4793 c4794 =>
    brn (((n4784 : Nat) : Int) == ((n4793 : Nat) : Int)) (
      bnd' (m100_2 N (.lst false n4784 c4785) b4777) fun (p4796, b4798) =>
      getB p4796 fun b4800 =>
      some ((.bool b4800), (.lst false n4793 c4794), b4798, p4779)) (
      getL p4779 fun n4802 c4803 =>
      grd (0 ≤ ((n4784 : Nat) : Int) ∧ ((n4784 : Nat) : Int) < ((n4793 : Nat) : Int)) <|
      grd (0 < List.length (List.drop n4784 c4794)) <|
      getI .i64 (gp c4794 n4784) fun x4808 =>
      grd (0 ≤ x4808 ∧ x4808 < ((n4802 : Nat) : Int)) <|
      grd (0 < List.length (List.drop (Int.toNat x4808) c4803)) <|
      getL (gp c4803 (Int.toNat x4808)) fun n4813 c4814 =>
      bnd' (m99_6_L0 N (m99_6 N fu) p4778 n4784 c4785 p4787 p4788 p4789 p4790 p4791 n4813 c4814 N 0 (.lst false n4793 c4794) b4777 (.lst false n4802 c4803)) fun o =>
      match o with
      | .inl p4882 =>
        some p4882
      | .inr (p4883, b4884, p4885) =>
        some ((.bool true), p4883, b4884, p4885))
theorem c99_6 (N : Nat) : ∀ (fu : Nat) (p4774 : PV) (p4775 : PV) (p4776 : PV) (b4777 : Bool) (p4778 : PV) (p4779 : PV) (r : PV) (p4889 : PV) (b4890 : Bool) (p4891 : PV) (h : m99_6 N fu p4774 p4775 p4776 b4777 p4778 p4779 = some (r, p4889, b4890, p4891)), V.Fn Tryd.prog 99 5 [.v p4774, .v p4775, .ptr 0 0, .ptr 1 0, .ptr 3 0, .ptr 4 0] [(0, .p [p4776]), (1, .r [.fn 100 [.ptr 2 0]]), (2, .p [(.bool b4777)]), (3, .p [p4778, p4779]), (4, .r [.fn 99 [.ptr 0 0, .ptr 1 0, .ptr 3 0, .ptr 4 0]])] (fun d ob' => d = .v r ∧ ob' = [(0, .p [p4889]), (1, .r [.fn 100 [.ptr 2 0]]), (2, .p [(.bool b4890)]), (3, .p [p4778, p4891]), (4, .r [.fn 99 [.ptr 0 0, .ptr 1 0, .ptr 3 0, .ptr 4 0]])]) := by
  intro fu
  induction fu with
  | zero => intro p4774 p4775 p4776 b4777 p4778 p4779 r p4889 b4890 p4891 h; cases h
  | succ fu ih =>
    intro p4774 p4775 p4776 b4777 p4778 p4779 r p4889 b4890 p4891 h
    rw [m99_6] at h
    refine Fn_of (sz := 55) tab_ok [0, 1, 2, 3, 4, 5, 7, 8, 9, 10, 11, 17, 28, 29, 30, 31, 53] [.tmp 8] Tryd.func99 rfl rfl rfl (by simp) ?_
    simp only [initSt, initEnv, List.map_cons, List.map_nil, List.getD_cons_zero, List.getD_cons_succ, List.getD_nil]
    have hh := getL_some h; clear h; obtain ⟨n4784, c4785, h4783, h⟩ := hh
    have hh := getA5_some h; clear h; obtain ⟨p4787, p4788, p4789, p4790, p4791, h4786, h⟩ := hh
    have hh := getL_some h; clear h; obtain ⟨n4793, c4794, h4792, h⟩ := hh
    have hh := brn_some h; clear h; rcases hh with ⟨h4795, h⟩ | ⟨h4795, h⟩
    · have hh := bnd'_some h; clear h; obtain ⟨⟨p4796, b4798⟩, h4797, h⟩ := hh
      (try dsimp only at h)
      refine W_sound tab_ok mixed 24 _ _ _ ?_
      simp -implicitDefEqProofs only [go_sem, qa, qb, qc, qd, qe, qf, qg, qh, qi, qj, qk, ↓reduceIte, h4783, h4786, h4792, h4795]
      repeat with_reducible refine And.intro (by first | kernel_rfl | decide) ?_
      refine Wp_callD [2] (c100_2 N _ _ _ _ h4797) rfl rfl rfl (by first | rfl | (simp only [go_sem, qa, qb, qc, qd, qe, qf, qg, qh, qi, qj, qk, ↓reduceIte, h4783, h4786, h4792, h4795] <;> rfl)) rfl (by kernel_rfl) ?_
      have hh := getB_some h; clear h; obtain ⟨b4800, h4799, h⟩ := hh
      refine W_sound tab_ok mixed 4 _ _ _ ?_
      simp -implicitDefEqProofs only [go_sem, qa, qb, qc, qd, qe, qf, qg, qh, qi, qj, qk, ↓reduceIte, h4783, h4786, h4792, h4795, h4799]
      repeat with_reducible refine And.intro (by first | kernel_rfl | decide) ?_
      simp only [Option.some.injEq, Prod.mk.injEq] at h; obtain ⟨rfl, rfl, rfl, rfl⟩ := h
      exact finD (e2 := [(0, .dead), (1, .dead), (2, .dead), (3, .dead), (4, .dead), (5, .dead), (7, .dead), (8, .v (.bool b4800)), (9, .dead), (10, .dead), (11, .dead), (17, .dead), (28, .dead), (29, .dead), (30, .dead), (31, .dead), (53, .dead)]) (ob2 := [(0, .p [(.lst false n4793 c4794)]), (1, .r [.fn 100 [.ptr 2 0]]), (3, .p [p4778, p4779]), (4, .r [.fn 99 [.ptr 0 0, .ptr 1 0, .ptr 3 0, .ptr 4 0]]), (12, .p [p4787, p4788, p4789, p4790, p4791]), (2, .p [(.bool b4798)])]) (st' := ⟨[], [(0, .dead), (1, .dead), (2, .dead), (3, .dead), (4, .dead), (5, .dead), (7, .dead), (8, .v (.bool b4800)), (9, .dead), (10, .dead), (11, .dead), (17, .dead), (28, .dead), (29, .dead), (30, .dead), (31, .dead), (53, .dead)], [(0, .p [(.lst false n4793 c4794)]), (1, .r [.fn 100 [.ptr 2 0]]), (2, .p [(.bool b4798)]), (3, .p [p4778, p4779]), (4, .r [.fn 99 [.ptr 0 0, .ptr 1 0, .ptr 3 0, .ptr 4 0]])], 5, []⟩) (.k (.k (.k (.k (.k (.k (.k (.r (.k (.r (.r (.k (.r (.r (.r (.r (.r .nil))))))))))))))))) (.cons _ _ _ _ _ (DLes.refl _) (.cons _ _ _ _ _ (DLes.refl _) (.cons _ _ _ _ _ (DLes.refl _) (.cons _ _ _ _ _ (DLes.refl _) (.cons _ _ _ _ _ (DLes.refl _) (.cons _ _ _ _ _ (DLes.refl _) .nil)))))) (by kernel_rfl) (by simp only [go_sem, qa, qb, qc, qd, qe, qf, qg, qh, qi, qj, qk, ↓reduceIte, resQ_tmp, resQ_cell, resQ_nil, retD_one, retD_two, retD_three, retD_none]; try simp [R.val, retD_one, retD_two, retD_three, retD_none])
    · have hh := getL_some h; clear h; obtain ⟨n4802, c4803, h4801, h⟩ := hh
      have hh := grd_some h; clear h; obtain ⟨⟨g4804, g4805⟩, h⟩ := hh
      have hh := grd_some h; clear h; obtain ⟨g4806, h⟩ := hh
      have hh := getI_some h; clear h; obtain ⟨x4808, h4807, h⟩ := hh
      have hh := grd_some h; clear h; obtain ⟨⟨g4809, g4810⟩, h⟩ := hh
      have hh := grd_some h; clear h; obtain ⟨g4811, h⟩ := hh
      have hh := getL_some h; clear h; obtain ⟨n4813, c4814, h4812, h⟩ := hh
      refine W_sound tab_ok mixed 35 _ _ _ ?_
      simp -implicitDefEqProofs only [go_sem, qa, qb, qc, qd, qe, qf, qg, qh, qi, qj, qk, ↓reduceIte, h4783, h4786, h4792, h4795, h4801, g4804, g4805, g4806, h4807, g4809, g4810, g4811, h4812]
      repeat with_reducible refine And.intro (by first | kernel_rfl | decide) ?_
      have hh := bnd'_some h; clear h; obtain ⟨o4892, h4893, h4894⟩ := hh
      refine Wp_cut (fun s => ∃ p4883, ∃ b4884, ∃ p4885, (.inr (p4883, b4884, p4885)) = o4892 ∧ s = ⟨[], [(0, .dead), (1, .dead), (2, .dead), (3, .dead), (4, .dead), (5, .dead), (7, .dead), (8, .dead), (9, .dead), (10, .dead), (11, .dead), (17, .dead), (28, .dead), (29, .dead), (30, .dead), (31, .dead), (53, .dead)], [(0, .p [p4883]), (1, .r [.fn 100 [.ptr 2 0]]), (2, .p [(.bool b4884)]), (3, .p [p4778, p4885]), (4, .r [.fn 99 [.ptr 0 0, .ptr 1 0, .ptr 3 0, .ptr 4 0]])], 5, []⟩) ?_ ?_
      · refine Wp_block ?_
        refine Wp_loopG (fun n s => ∃ x4847, ∃ p4848, ∃ b4849, ∃ p4850, m99_6_L0 N (m99_6 N fu) p4778 n4784 c4785 p4787 p4788 p4789 p4790 p4791 n4813 c4814 n x4847 p4848 b4849 p4850 = some o4892 ∧ s = ⟨[], [(0, .v (.lst false n4784 c4785)), (1, .dead), (2, .dead), (3, .dead), (4, .dead), (5, .ptr 4 0), (7, .ptr 5 0), (8, .dead), (9, .v (.int .i64 ((n4784 : Nat) : Int))), (10, .dead), (11, .dead), (17, .dead), (28, .v (.lst false n4813 c4814)), (29, .v (.int .i64 ((n4813 : Nat) : Int))), (30, .v (.int .i64 x4847)), (31, .dead), (53, .dead)], [(0, .p [p4848]), (1, .r [.fn 100 [.ptr 2 0]]), (2, .p [(.bool b4849)]), (3, .p [p4778, p4850]), (4, .r [.fn 99 [.ptr 0 0, .ptr 1 0, .ptr 3 0, .ptr 4 0]]), (5, .p [p4787, p4788, p4789, p4790, p4791])], 6, []⟩) N _ ((Wk_le (.r (.k (.k (.k (.k (.r (.r (.k (.r (.r (.r (.k (.r (.r (.r (.r (.r .nil))))))))))))))))) (OLe.refl _)).trans (cmpS_ok (st' := ⟨[], [(0, .v (.lst false n4784 c4785)), (1, .dead), (2, .dead), (3, .dead), (4, .dead), (5, .ptr 4 0), (7, .ptr 5 0), (8, .dead), (9, .v (.int .i64 ((n4784 : Nat) : Int))), (10, .dead), (11, .dead), (17, .dead), (28, .v (.lst false n4813 c4814)), (29, .v (.int .i64 ((n4813 : Nat) : Int))), (30, .v (.int .i64 0)), (31, .dead), (53, .dead)], [(0, .p [(.lst false n4793 c4794)]), (1, .r [.fn 100 [.ptr 2 0]]), (2, .p [(.bool b4777)]), (3, .p [p4778, (.lst false n4802 c4803)]), (4, .r [.fn 99 [.ptr 0 0, .ptr 1 0, .ptr 3 0, .ptr 4 0]]), (5, .p [p4787, p4788, p4789, p4790, p4791])], 6, []⟩) (by kernel_rfl))) ⟨_, _, _, _, h4893, rfl⟩ ?_
        clear h4893
        rintro n _ ⟨x4847, p4848, b4849, p4850, h4893, rfl⟩
        cases n with
        | zero => cases h4893
        | succ n =>
          rw [m99_6_L0] at h4893
          have hh := brn_some h4893; clear h4893; rcases hh with ⟨h4851, h4893⟩ | ⟨h4851, h4893⟩
          · have hh := grd_some h4893; clear h4893; obtain ⟨⟨g4852, g4853⟩, h4893⟩ := hh
            have hh := grd_some h4893; clear h4893; obtain ⟨g4854, h4893⟩ := hh
            have hh := getA2_some h4893; clear h4893; obtain ⟨p4856, p4857, h4855, h4893⟩ := hh
            injection h4855 with h4855
            have hh := bnd'_some h4893; clear h4893; obtain ⟨p4858, h4859, h4893⟩ := hh
            refine W_sound tab_ok mixed 22 _ _ _ ?_
            simp -implicitDefEqProofs only [go_sem, qa, qb, qc, qd, qe, qf, qg, qh, qi, qj, qk, ↓reduceIte, h4783, h4786, h4792, h4795, h4801, g4804, g4805, g4806, h4807, g4809, g4810, g4811, h4812, h4851, g4852, g4853, g4854, h4855]
            repeat with_reducible refine And.intro (by first | kernel_rfl | decide) ?_
            refine Wp_callP (c71 N _ _ _ h4859) (by kernel_rfl) rfl rfl rfl rfl (by decide) ?_
            have hh := getB_some h4893; clear h4893; obtain ⟨b4861, h4860, h4893⟩ := hh
            have hh := brn_some h4893; clear h4893; rcases hh with ⟨h4862, h4893⟩ | ⟨h4862, h4893⟩
            · refine W_sound tab_ok mixed 24 _ _ _ ?_
              simp -implicitDefEqProofs only [go_sem, qa, qb, qc, qd, qe, qf, qg, qh, qi, qj, qk, ↓reduceIte, h4783, h4786, h4792, h4795, h4801, g4804, g4805, g4806, h4807, g4809, g4810, g4811, h4812, h4851, g4852, g4853, g4854, h4855, h4860, h4862]
              repeat with_reducible refine And.intro (by first | kernel_rfl | decide) ?_
              exact cutQ _ ((Wk_le (.r (.r (.r (.r (.r (.r (.r (.r (.r (.k (.k (.r (.r (.r (.r (.k (.k .nil))))))))))))))))) (OLe.refl _)).trans (cmpS_ok (st' := ⟨[], [(0, .v (.lst false n4784 c4785)), (1, .dead), (2, .dead), (3, .dead), (4, .dead), (5, .ptr 4 0), (7, .ptr 5 0), (8, .dead), (9, .v (.int .i64 ((n4784 : Nat) : Int))), (10, .dead), (11, .dead), (17, .dead), (28, .v (.lst false n4813 c4814)), (29, .v (.int .i64 ((n4813 : Nat) : Int))), (30, .v (.int .i64 (IntKind.i64.wrap (x4847 + 1)))), (31, .dead), (53, .dead)], [(0, .p [p4848]), (1, .r [.fn 100 [.ptr 2 0]]), (2, .p [(.bool b4849)]), (3, .p [p4778, p4850]), (4, .r [.fn 99 [.ptr 0 0, .ptr 1 0, .ptr 3 0, .ptr 4 0]]), (5, .p [p4787, p4788, p4789, p4790, p4791])], 6, []⟩) (by kernel_rfl))) ⟨n, Nat.lt_succ_self n, _, _, _, _, h4893, rfl⟩
            · have hh := grd_some h4893; clear h4893; obtain ⟨g4863, h4893⟩ := hh
              have hh := grd_some h4893; clear h4893; obtain ⟨g4864, h4893⟩ := hh
              have hh := grd_some h4893; clear h4893; obtain ⟨g4865, h4893⟩ := hh
              have hh := bnd'_some h4893; clear h4893; obtain ⟨p4866, h4867, h4893⟩ := hh
              refine W_sound tab_ok mixed 12 _ _ _ ?_
              simp -implicitDefEqProofs only [go_sem, qa, qb, qc, qd, qe, qf, qg, qh, qi, qj, qk, ↓reduceIte, h4783, h4786, h4792, h4795, h4801, g4804, g4805, g4806, h4807, g4809, g4810, g4811, h4812, h4851, g4852, g4853, g4854, h4855, h4860, h4862, g4863, g4864, g4865]
              repeat with_reducible refine And.intro (by first | kernel_rfl | decide) ?_
              refine Wp_callP (c98 N _ _ _ h4867) (by kernel_rfl) rfl rfl rfl rfl (by decide) ?_
              have hh := getA5_some h4893; clear h4893; obtain ⟨p4869, p4870, p4871, p4872, p4873, h4868, h4893⟩ := hh
              have hh := bnd'_some h4893; clear h4893; obtain ⟨⟨p4874, p4876, b4877, p4878⟩, h4875, h4893⟩ := hh
              (try dsimp only at h4893)
              (try simp -implicitDefEqProofs only [go_sem, qa, qb, qc, qd, qe, qf, qg, qh, qi, qj, qk, ↓reduceIte, h4783, h4786, h4792, h4795, h4801, g4804, g4805, g4806, h4807, g4809, g4810, g4811, h4812, h4851, g4852, g4853, g4854, h4855, h4860, h4862, g4863, g4864, g4865, h4868])
              refine Wp_callDF [(65, (c4785 ++ [(.int .i64 x4847)]))] [0, 1, 2, 3, 4] (ih _ _ _ _ _ _ _ _ _ _ h4875) rfl rfl rfl (by first | rfl | (simp only [go_sem, qa, qb, qc, qd, qe, qf, qg, qh, qi, qj, qk, ↓reduceIte, h4783, h4786, h4792, h4795, h4801, g4804, g4805, g4806, h4807, g4809, g4810, g4811, h4812, h4851, g4852, g4853, g4854, h4855, h4860, h4862, g4863, g4864, g4865, h4868] <;> rfl)) rfl (by kernel_rfl) rfl rfl (by simp [roF, obL]) ?_
              have hh := getB_some h4893; clear h4893; obtain ⟨b4880, h4879, h4893⟩ := hh
              have hh := brn_some h4893; clear h4893; rcases hh with ⟨h4881, h4893⟩ | ⟨h4881, h4893⟩
              · refine W_sound tab_ok mixed 10 _ _ _ ?_
                simp -implicitDefEqProofs only [go_sem, qa, qb, qc, qd, qe, qf, qg, qh, qi, qj, qk, ↓reduceIte, h4783, h4786, h4792, h4795, h4801, g4804, g4805, g4806, h4807, g4809, g4810, g4811, h4812, h4851, g4852, g4853, g4854, h4855, h4860, h4862, g4863, g4864, g4865, h4868, h4879, h4881]
                repeat with_reducible refine And.intro (by first | kernel_rfl | decide) ?_
                exact cutQ _ ((Wk_le (.r (.r (.r (.r (.r (.r (.r (.r (.r (.k (.k (.r (.r (.r (.r (.k (.k .nil))))))))))))))))) (OLe.refl _)).trans (cmpS_ok (st' := ⟨[], [(0, .v (.lst false n4784 c4785)), (1, .dead), (2, .dead), (3, .dead), (4, .dead), (5, .ptr 4 0), (7, .ptr 5 0), (8, .dead), (9, .v (.int .i64 ((n4784 : Nat) : Int))), (10, .dead), (11, .dead), (17, .dead), (28, .v (.lst false n4813 c4814)), (29, .v (.int .i64 ((n4813 : Nat) : Int))), (30, .v (.int .i64 (IntKind.i64.wrap (x4847 + 1)))), (31, .dead), (53, .dead)], [(0, .p [p4876]), (1, .r [.fn 100 [.ptr 2 0]]), (2, .p [(.bool b4877)]), (3, .p [p4778, p4878]), (4, .r [.fn 99 [.ptr 0 0, .ptr 1 0, .ptr 3 0, .ptr 4 0]]), (5, .p [p4787, p4788, p4789, p4790, p4791])], 6, []⟩) (by kernel_rfl))) ⟨n, Nat.lt_succ_self n, _, _, _, _, h4893, rfl⟩
              · refine W_sound tab_ok mixed 10 _ _ _ ?_
                simp -implicitDefEqProofs only [go_sem, qa, qb, qc, qd, qe, qf, qg, qh, qi, qj, qk, ↓reduceIte, h4783, h4786, h4792, h4795, h4801, g4804, g4805, g4806, h4807, g4809, g4810, g4811, h4812, h4851, g4852, g4853, g4854, h4855, h4860, h4862, g4863, g4864, g4865, h4868, h4879, h4881]
                repeat with_reducible refine And.intro (by first | kernel_rfl | decide) ?_
                obtain rfl := Option.some.inj h4893
                (try dsimp only at h4894)
                simp only [Option.some.injEq, Prod.mk.injEq] at h4894; obtain ⟨rfl, rfl, rfl, rfl⟩ := h4894
                exact finD (e2 := [(0, .dead), (1, .dead), (2, .dead), (3, .dead), (4, .dead), (5, .dead), (7, .dead), (8, .v (.bool false)), (9, .dead), (10, .dead), (11, .dead), (17, .dead), (28, .dead), (29, .dead), (30, .dead), (31, .dead), (53, .dead)]) (ob2 := [(5, .p [p4787, p4788, p4789, p4790, p4791]), (17, .p [p4856, p4857]), (64, .p [(.int .i64 x4847)]), (4, .r [.fn 99 [.ptr 0 0, .ptr 1 0, .ptr 3 0, .ptr 4 0]]), (3, .p [p4778, p4878]), (2, .p [(.bool b4877)]), (1, .r [.fn 100 [.ptr 2 0]]), (0, .p [p4876])]) (st' := ⟨[], [(0, .dead), (1, .dead), (2, .dead), (3, .dead), (4, .dead), (5, .dead), (7, .dead), (8, .v (.bool false)), (9, .dead), (10, .dead), (11, .dead), (17, .dead), (28, .dead), (29, .dead), (30, .dead), (31, .dead), (53, .dead)], [(0, .p [p4876]), (1, .r [.fn 100 [.ptr 2 0]]), (2, .p [(.bool b4877)]), (3, .p [p4778, p4878]), (4, .r [.fn 99 [.ptr 0 0, .ptr 1 0, .ptr 3 0, .ptr 4 0]])], 5, []⟩) (.k (.r (.r (.r (.r (.k (.k (.r (.k (.k (.k (.r (.k (.k (.k (.k (.k .nil))))))))))))))))) (.cons _ _ _ _ _ (DLes.refl _) (.cons _ _ _ _ _ (DLes.refl _) (.cons _ _ _ _ _ (DLes.refl _) (.cons _ _ _ _ _ (DLes.refl _) (.cons _ _ _ _ _ (DLes.refl _) (.cons _ _ _ _ _ (DLes.refl _) (.cons _ _ _ _ _ (DLes.refl _) (.cons _ _ _ _ _ (DLes.refl _) .nil)))))))) (by kernel_rfl) (by simp only [go_sem, qa, qb, qc, qd, qe, qf, qg, qh, qi, qj, qk, ↓reduceIte, resQ_tmp, resQ_cell, resQ_nil, retD_one, retD_two, retD_three, retD_none]; try simp [R.val, retD_one, retD_two, retD_three, retD_none])
          · refine W_sound tab_ok mixed 7 _ _ _ ?_
            simp -implicitDefEqProofs only [go_sem, qa, qb, qc, qd, qe, qf, qg, qh, qi, qj, qk, ↓reduceIte, h4783, h4786, h4792, h4795, h4801, g4804, g4805, g4806, h4807, g4809, g4810, g4811, h4812, h4851]
            repeat with_reducible refine And.intro (by first | kernel_rfl | decide) ?_
            obtain rfl := Option.some.inj h4893
            exact cutQ _ ((Wk_le (.k (.r (.r (.r (.r (.k (.k (.r (.k (.r (.r (.r (.k (.k (.k (.k (.r .nil))))))))))))))))) (OLe.refl _)).trans (cmpS_ok (st' := ⟨[], [(0, .dead), (1, .dead), (2, .dead), (3, .dead), (4, .dead), (5, .dead), (7, .dead), (8, .dead), (9, .dead), (10, .dead), (11, .dead), (17, .dead), (28, .dead), (29, .dead), (30, .dead), (31, .dead), (53, .dead)], [(0, .p [p4848]), (1, .r [.fn 100 [.ptr 2 0]]), (2, .p [(.bool b4849)]), (3, .p [p4778, p4850]), (4, .r [.fn 99 [.ptr 0 0, .ptr 1 0, .ptr 3 0, .ptr 4 0]])], 5, []⟩) (by kernel_rfl))) ⟨_, _, _, rfl, rfl⟩
      · rintro _ ⟨p4883, b4884, p4885, rfl, rfl⟩
        (try dsimp only at h4894)
        refine W_sound tab_ok mixed 6 _ _ _ ?_
        simp -implicitDefEqProofs only [go_sem, qa, qb, qc, qd, qe, qf, qg, qh, qi, qj, qk, ↓reduceIte, h4783, h4786, h4792, h4795, h4801, g4804, g4805, g4806, h4807, g4809, g4810, g4811, h4812]
        repeat with_reducible refine And.intro (by first | kernel_rfl | decide) ?_
        simp only [Option.some.injEq, Prod.mk.injEq] at h4894; obtain ⟨rfl, rfl, rfl, rfl⟩ := h4894
        exact finD (e2 := [(0, .dead), (1, .dead), (2, .dead), (3, .dead), (4, .dead), (5, .dead), (7, .dead), (8, .v (.bool true)), (9, .dead), (10, .dead), (11, .dead), (17, .dead), (28, .dead), (29, .dead), (30, .dead), (31, .dead), (53, .dead)]) (ob2 := [(0, .p [p4883]), (1, .r [.fn 100 [.ptr 2 0]]), (2, .p [(.bool b4884)]), (3, .p [p4778, p4885]), (4, .r [.fn 99 [.ptr 0 0, .ptr 1 0, .ptr 3 0, .ptr 4 0]])]) (st' := ⟨[], [(0, .dead), (1, .dead), (2, .dead), (3, .dead), (4, .dead), (5, .dead), (7, .dead), (8, .v (.bool true)), (9, .dead), (10, .dead), (11, .dead), (17, .dead), (28, .dead), (29, .dead), (30, .dead), (31, .dead), (53, .dead)], [(0, .p [p4883]), (1, .r [.fn 100 [.ptr 2 0]]), (2, .p [(.bool b4884)]), (3, .p [p4778, p4885]), (4, .r [.fn 99 [.ptr 0 0, .ptr 1 0, .ptr 3 0, .ptr 4 0]])], 5, []⟩) (.r (.r (.r (.r (.r (.r (.r (.r (.r (.r (.r (.r (.r (.r (.r (.r (.r .nil))))))))))))))))) (.cons _ _ _ _ _ (DLes.refl _) (.cons _ _ _ _ _ (DLes.refl _) (.cons _ _ _ _ _ (DLes.refl _) (.cons _ _ _ _ _ (DLes.refl _) (.cons _ _ _ _ _ (DLes.refl _) .nil))))) (by kernel_rfl) (by simp only [go_sem, qa, qb, qc, qd, qe, qf, qg, qh, qi, qj, qk, ↓reduceIte, resQ_tmp, resQ_cell, resQ_nil, retD_one, retD_two, retD_three, retD_none]; try simp [R.val, retD_one, retD_two, retD_three, retD_none])

def m99_5_L0 (N : Nat) (p4945 : PV) (p4951 : PV) (p4952 : PV) (p4953 : PV) (p4954 : PV) (p4955 : PV) (n4976 : Nat) (c4977 : List PV) : Nat → Int → PV → Bool → PV → Option (((PV × PV × Bool × PV) ⊕ (PV × Bool × PV)))
  | 0, _, _, _, _ => none
  | n + 1, x5007, p5008, b5009, p5010 =>
    brn (decide (x5007 < ((n4976 : Nat) : Int))) (
      grd (0 ≤ x5007 ∧ x5007 < ((n4976 : Nat) : Int)) <|
      grd (2 ≤ List.length (List.drop ((Int.toNat x5007) * 2) c4977)) <|
      getA2 (.agg (List.take 2 (List.drop ((Int.toNat x5007) * 2) c4977))) fun p5016 p5017 =>
      bnd' (m71 N (.agg [p4951, p4952, p4953, p4954, p4955]) (.agg [p5016, p5017])) fun p5018 =>
      getB p5018 fun b5021 =>
      brn b5021 (
        m99_5_L0 N p4945 p4951 p4952 p4953 p4954 p4955 n4976 c4977 n (IntKind.i64.wrap (x5007 + 1)) p5008 b5009 p5010) (
        bnd' (m98 N (.agg [p4951, p4952, p4953, p4954, p4955]) (.agg [p5016, p5017])) fun p5023 =>
        getA5 p5023 fun p5026 p5027 p5028 p5029 p5030 =>
        bnd' (m99_6 N N (.lst false 1 [(.int .i64 x5007)]) (.agg [p5026, p5027, p5028, p5029, p5030]) p5008 b5009 p4945 p5010) fun (p5031, p5033, b5034, p5035) =>
        getB p5031 fun b5037 =>
        brn b5037 (
          m99_5_L0 N p4945 p4951 p4952 p4953 p4954 p4955 n4976 c4977 n (IntKind.i64.wrap (x5007 + 1)) p5033 b5034 p5035) (
          some (.inl ((.bool false), p5033, b5034, p5035))))) (
      some (.inr (p5008, b5009, p5010)))
def m99_5 (N : Nat) (p4942 : PV) (p4943 : PV) (b4944 : Bool) (p4945 : PV) (p4946 : PV) : Option ((PV × PV × Bool × PV)) :=
  getA5 p4942 fun p4951 p4952 p4953 p4954 p4955 =>
  getL p4943 fun n4957 c4958 =>
  brn (0 == ((n4957 : Nat) : Int)) (
    bnd' (m100 N b4944) fun (p4960, b4962) =>
    getB p4960 fun b4964 =>
    some ((.bool b4964), (.lst false n4957 c4958), b4962, p4946)) (
    getL p4946 fun n4966 c4967 =>
    grd (0 < ((n4957 : Nat) : Int)) <|
    grd (0 < List.length c4958) <|
    getI .i64 (gp c4958 0) fun x4971 =>
    grd (0 ≤ x4971 ∧ x4971 < ((n4966 : Nat) : Int)) <|
    grd (0 < List.length (List.drop (Int.toNat x4971) c4967)) <|
    getL (gp c4967 (Int.toNat x4971)) fun n4976 c4977 =>
    bnd' (m99_5_L0 N p4945 p4951 p4952 p4953 p4954 p4955 n4976 c4977 N 0 (.lst false n4957 c4958) b4944 (.lst false n4966 c4967)) fun o =>
    match o with
    | .inl p5039 =>
      some p5039
    | .inr (p5040, b5041, p5042) =>
      some ((.bool true), p5040, b5041, p5042))
theorem c99_5 (N : Nat) (p4942 : PV) (p4943 : PV) (b4944 : Bool) (p4945 : PV) (p4946 : PV) (r : PV) (p5046 : PV) (b5047 : Bool) (p5048 : PV) (h : m99_5 N p4942 p4943 b4944 p4945 p4946 = some (r, p5046, b5047, p5048)) : V.Fn Tryd.prog 99 5 [.v .nl, .v p4942, .ptr 0 0, .ptr 1 0, .ptr 3 0, .ptr 4 0] [(0, .p [p4943]), (1, .r [.fn 100 [.ptr 2 0]]), (2, .p [(.bool b4944)]), (3, .p [p4945, p4946]), (4, .r [.fn 99 [.ptr 0 0, .ptr 1 0, .ptr 3 0, .ptr 4 0]])] (fun d ob' => d = .v r ∧ ob' = [(0, .p [p5046]), (1, .r [.fn 100 [.ptr 2 0]]), (2, .p [(.bool b5047)]), (3, .p [p4945, p5048]), (4, .r [.fn 99 [.ptr 0 0, .ptr 1 0, .ptr 3 0, .ptr 4 0]])]) := by
  unfold m99_5 at h
  refine Fn_of (sz := 55) tab_ok [0, 1, 2, 3, 4, 5, 7, 8, 9, 10, 11, 17, 28, 29, 30, 31, 53] [.tmp 8] Tryd.func99 rfl rfl rfl (by simp) ?_
  simp only [initSt, initEnv, List.map_cons, List.map_nil, List.getD_cons_zero, List.getD_cons_succ, List.getD_nil]
  have hh := getA5_some h; clear h; obtain ⟨p4951, p4952, p4953, p4954, p4955, h4950, h⟩ := hh
  have hh := getL_some h; clear h; obtain ⟨n4957, c4958, h4956, h⟩ := hh
  have hh := brn_some h; clear h; rcases hh with ⟨h4959, h⟩ | ⟨h4959, h⟩
  · have hh := bnd'_some h; clear h; obtain ⟨⟨p4960, b4962⟩, h4961, h⟩ := hh
    (try dsimp only at h)
    refine W_sound tab_ok mixed 24 _ _ _ ?_
    simp -implicitDefEqProofs only [go_sem, qa, qb, qc, qd, qe, qf, qg, qh, qi, qj, qk, ↓reduceIte, h4950, h4956, h4959]
    repeat with_reducible refine And.intro (by first | kernel_rfl | decide) ?_
    refine Wp_callD [2] (c100 N _ _ _ h4961) rfl rfl rfl (by first | rfl | (simp only [go_sem, qa, qb, qc, qd, qe, qf, qg, qh, qi, qj, qk, ↓reduceIte, h4950, h4956, h4959] <;> rfl)) rfl (by kernel_rfl) ?_
    have hh := getB_some h; clear h; obtain ⟨b4964, h4963, h⟩ := hh
    refine W_sound tab_ok mixed 4 _ _ _ ?_
    simp -implicitDefEqProofs only [go_sem, qa, qb, qc, qd, qe, qf, qg, qh, qi, qj, qk, ↓reduceIte, h4950, h4956, h4959, h4963]
    repeat with_reducible refine And.intro (by first | kernel_rfl | decide) ?_
    simp only [Option.some.injEq, Prod.mk.injEq] at h; obtain ⟨rfl, rfl, rfl, rfl⟩ := h
    exact finD (e2 := [(0, .dead), (1, .dead), (2, .dead), (3, .dead), (4, .dead), (5, .dead), (7, .dead), (8, .v (.bool b4964)), (9, .dead), (10, .dead), (11, .dead), (17, .dead), (28, .dead), (29, .dead), (30, .dead), (31, .dead), (53, .dead)]) (ob2 := [(0, .p [(.lst false n4957 c4958)]), (1, .r [.fn 100 [.ptr 2 0]]), (3, .p [p4945, p4946]), (4, .r [.fn 99 [.ptr 0 0, .ptr 1 0, .ptr 3 0, .ptr 4 0]]), (12, .p [p4951, p4952, p4953, p4954, p4955]), (2, .p [(.bool b4962)])]) (st' := ⟨[], [(0, .dead), (1, .dead), (2, .dead), (3, .dead), (4, .dead), (5, .dead), (7, .dead), (8, .v (.bool b4964)), (9, .dead), (10, .dead), (11, .dead), (17, .dead), (28, .dead), (29, .dead), (30, .dead), (31, .dead), (53, .dead)], [(0, .p [(.lst false n4957 c4958)]), (1, .r [.fn 100 [.ptr 2 0]]), (2, .p [(.bool b4962)]), (3, .p [p4945, p4946]), (4, .r [.fn 99 [.ptr 0 0, .ptr 1 0, .ptr 3 0, .ptr 4 0]])], 5, []⟩) (.k (.k (.k (.k (.k (.k (.k (.r (.k (.r (.r (.k (.r (.r (.r (.r (.r .nil))))))))))))))))) (.cons _ _ _ _ _ (DLes.refl _) (.cons _ _ _ _ _ (DLes.refl _) (.cons _ _ _ _ _ (DLes.refl _) (.cons _ _ _ _ _ (DLes.refl _) (.cons _ _ _ _ _ (DLes.refl _) (.cons _ _ _ _ _ (DLes.refl _) .nil)))))) (by kernel_rfl) (by simp only [go_sem, qa, qb, qc, qd, qe, qf, qg, qh, qi, qj, qk, ↓reduceIte, resQ_tmp, resQ_cell, resQ_nil, retD_one, retD_two, retD_three, retD_none]; try simp [R.val, retD_one, retD_two, retD_three, retD_none])
  · have hh := getL_some h; clear h; obtain ⟨n4966, c4967, h4965, h⟩ := hh
    have hh := grd_some h; clear h; obtain ⟨g4968, h⟩ := hh
    have hh := grd_some h; clear h; obtain ⟨g4969, h⟩ := hh
    have hh := getI_some h; clear h; obtain ⟨x4971, h4970, h⟩ := hh
    have hh := grd_some h; clear h; obtain ⟨⟨g4972, g4973⟩, h⟩ := hh
    have hh := grd_some h; clear h; obtain ⟨g4974, h⟩ := hh
    have hh := getL_some h; clear h; obtain ⟨n4976, c4977, h4975, h⟩ := hh
    refine W_sound tab_ok mixed 35 _ _ _ ?_
    simp -implicitDefEqProofs only [go_sem, qa, qb, qc, qd, qe, qf, qg, qh, qi, qj, qk, ↓reduceIte, h4950, h4956, h4959, h4965, g4968, g4969, h4970, g4972, g4973, g4974, h4975]
    repeat with_reducible refine And.intro (by first | kernel_rfl | decide) ?_
    have hh := bnd'_some h; clear h; obtain ⟨o5049, h5050, h5051⟩ := hh
    refine Wp_cut (fun s => ∃ p5040, ∃ b5041, ∃ p5042, (.inr (p5040, b5041, p5042)) = o5049 ∧ s = ⟨[], [(0, .dead), (1, .dead), (2, .dead), (3, .dead), (4, .dead), (5, .dead), (7, .dead), (8, .dead), (9, .dead), (10, .dead), (11, .dead), (17, .dead), (28, .dead), (29, .dead), (30, .dead), (31, .dead), (53, .dead)], [(0, .p [p5040]), (1, .r [.fn 100 [.ptr 2 0]]), (2, .p [(.bool b5041)]), (3, .p [p4945, p5042]), (4, .r [.fn 99 [.ptr 0 0, .ptr 1 0, .ptr 3 0, .ptr 4 0]])], 5, []⟩) ?_ ?_
    · refine Wp_block ?_
      refine Wp_loopG (fun n s => ∃ x5007, ∃ p5008, ∃ b5009, ∃ p5010, m99_5_L0 N p4945 p4951 p4952 p4953 p4954 p4955 n4976 c4977 n x5007 p5008 b5009 p5010 = some o5049 ∧ s = ⟨[], [(0, .v .nl), (1, .dead), (2, .dead), (3, .dead), (4, .dead), (5, .ptr 4 0), (7, .ptr 5 0), (8, .dead), (9, .v (.int .i64 0)), (10, .dead), (11, .dead), (17, .dead), (28, .v (.lst false n4976 c4977)), (29, .v (.int .i64 ((n4976 : Nat) : Int))), (30, .v (.int .i64 x5007)), (31, .dead), (53, .dead)], [(0, .p [p5008]), (1, .r [.fn 100 [.ptr 2 0]]), (2, .p [(.bool b5009)]), (3, .p [p4945, p5010]), (4, .r [.fn 99 [.ptr 0 0, .ptr 1 0, .ptr 3 0, .ptr 4 0]]), (5, .p [p4951, p4952, p4953, p4954, p4955])], 6, []⟩) N _ ((Wk_le (.r (.k (.k (.k (.k (.r (.r (.k (.r (.r (.r (.k (.r (.r (.r (.r (.r .nil))))))))))))))))) (OLe.refl _)).trans (cmpS_ok (st' := ⟨[], [(0, .v .nl), (1, .dead), (2, .dead), (3, .dead), (4, .dead), (5, .ptr 4 0), (7, .ptr 5 0), (8, .dead), (9, .v (.int .i64 0)), (10, .dead), (11, .dead), (17, .dead), (28, .v (.lst false n4976 c4977)), (29, .v (.int .i64 ((n4976 : Nat) : Int))), (30, .v (.int .i64 0)), (31, .dead), (53, .dead)], [(0, .p [(.lst false n4957 c4958)]), (1, .r [.fn 100 [.ptr 2 0]]), (2, .p [(.bool b4944)]), (3, .p [p4945, (.lst false n4966 c4967)]), (4, .r [.fn 99 [.ptr 0 0, .ptr 1 0, .ptr 3 0, .ptr 4 0]]), (5, .p [p4951, p4952, p4953, p4954, p4955])], 6, []⟩) (by kernel_rfl))) ⟨_, _, _, _, h5050, rfl⟩ ?_
      clear h5050
      rintro n _ ⟨x5007, p5008, b5009, p5010, h5050, rfl⟩
      cases n with
      | zero => cases h5050
      | succ n =>
        rw [m99_5_L0] at h5050
        have hh := brn_some h5050; clear h5050; rcases hh with ⟨h5011, h5050⟩ | ⟨h5011, h5050⟩
        · have hh := grd_some h5050; clear h5050; obtain ⟨⟨g5012, g5013⟩, h5050⟩ := hh
          have hh := grd_some h5050; clear h5050; obtain ⟨g5014, h5050⟩ := hh
          have hh := getA2_some h5050; clear h5050; obtain ⟨p5016, p5017, h5015, h5050⟩ := hh
          injection h5015 with h5015
          have hh := bnd'_some h5050; clear h5050; obtain ⟨p5018, h5019, h5050⟩ := hh
          refine W_sound tab_ok mixed 22 _ _ _ ?_
          simp -implicitDefEqProofs only [go_sem, qa, qb, qc, qd, qe, qf, qg, qh, qi, qj, qk, ↓reduceIte, h4950, h4956, h4959, h4965, g4968, g4969, h4970, g4972, g4973, g4974, h4975, h5011, g5012, g5013, g5014, h5015]
          repeat with_reducible refine And.intro (by first | kernel_rfl | decide) ?_
          refine Wp_callP (c71 N _ _ _ h5019) (by kernel_rfl) rfl rfl rfl rfl (by decide) ?_
          have hh := getB_some h5050; clear h5050; obtain ⟨b5021, h5020, h5050⟩ := hh
          have hh := brn_some h5050; clear h5050; rcases hh with ⟨h5022, h5050⟩ | ⟨h5022, h5050⟩
          · refine W_sound tab_ok mixed 24 _ _ _ ?_
            simp -implicitDefEqProofs only [go_sem, qa, qb, qc, qd, qe, qf, qg, qh, qi, qj, qk, ↓reduceIte, h4950, h4956, h4959, h4965, g4968, g4969, h4970, g4972, g4973, g4974, h4975, h5011, g5012, g5013, g5014, h5015, h5020, h5022]
            repeat with_reducible refine And.intro (by first | kernel_rfl | decide) ?_
            exact cutQ _ ((Wk_le (.r (.r (.r (.r (.r (.r (.r (.r (.r (.k (.k (.r (.r (.r (.r (.k (.k .nil))))))))))))))))) (OLe.refl _)).trans (cmpS_ok (st' := ⟨[], [(0, .v .nl), (1, .dead), (2, .dead), (3, .dead), (4, .dead), (5, .ptr 4 0), (7, .ptr 5 0), (8, .dead), (9, .v (.int .i64 0)), (10, .dead), (11, .dead), (17, .dead), (28, .v (.lst false n4976 c4977)), (29, .v (.int .i64 ((n4976 : Nat) : Int))), (30, .v (.int .i64 (IntKind.i64.wrap (x5007 + 1)))), (31, .dead), (53, .dead)], [(0, .p [p5008]), (1, .r [.fn 100 [.ptr 2 0]]), (2, .p [(.bool b5009)]), (3, .p [p4945, p5010]), (4, .r [.fn 99 [.ptr 0 0, .ptr 1 0, .ptr 3 0, .ptr 4 0]]), (5, .p [p4951, p4952, p4953, p4954, p4955])], 6, []⟩) (by kernel_rfl))) ⟨n, Nat.lt_succ_self n, _, _, _, _, h5050, rfl⟩
          · have hh := bnd'_some h5050; clear h5050; obtain ⟨p5023, h5024, h5050⟩ := hh
            refine W_sound tab_ok mixed 12 _ _ _ ?_
            simp -implicitDefEqProofs only [go_sem, qa, qb, qc, qd, qe, qf, qg, qh, qi, qj, qk, ↓reduceIte, h4950, h4956, h4959, h4965, g4968, g4969, h4970, g4972, g4973, g4974, h4975, h5011, g5012, g5013, g5014, h5015, h5020, h5022]
            repeat with_reducible refine And.intro (by first | kernel_rfl | decide) ?_
            refine Wp_callP (c98 N _ _ _ h5024) (by kernel_rfl) rfl rfl rfl rfl (by decide) ?_
            have hh := getA5_some h5050; clear h5050; obtain ⟨p5026, p5027, p5028, p5029, p5030, h5025, h5050⟩ := hh
            have hh := bnd'_some h5050; clear h5050; obtain ⟨⟨p5031, p5033, b5034, p5035⟩, h5032, h5050⟩ := hh
            (try dsimp only at h5050)
            (try simp -implicitDefEqProofs only [go_sem, qa, qb, qc, qd, qe, qf, qg, qh, qi, qj, qk, ↓reduceIte, h4950, h4956, h4959, h4965, g4968, g4969, h4970, g4972, g4973, g4974, h4975, h5011, g5012, g5013, g5014, h5015, h5020, h5022, h5025])
            refine Wp_callDF [(65, [(.int .i64 x5007)])] [0, 1, 2, 3, 4] (c99_6 N N _ _ _ _ _ _ _ _ _ _ h5032) rfl rfl rfl (by first | rfl | (simp only [go_sem, qa, qb, qc, qd, qe, qf, qg, qh, qi, qj, qk, ↓reduceIte, h4950, h4956, h4959, h4965, g4968, g4969, h4970, g4972, g4973, g4974, h4975, h5011, g5012, g5013, g5014, h5015, h5020, h5022, h5025] <;> rfl)) rfl (by kernel_rfl) rfl rfl (by simp [roF, obL]) ?_
            have hh := getB_some h5050; clear h5050; obtain ⟨b5037, h5036, h5050⟩ := hh
            have hh := brn_some h5050; clear h5050; rcases hh with ⟨h5038, h5050⟩ | ⟨h5038, h5050⟩
            · refine W_sound tab_ok mixed 10 _ _ _ ?_
              simp -implicitDefEqProofs only [go_sem, qa, qb, qc, qd, qe, qf, qg, qh, qi, qj, qk, ↓reduceIte, h4950, h4956, h4959, h4965, g4968, g4969, h4970, g4972, g4973, g4974, h4975, h5011, g5012, g5013, g5014, h5015, h5020, h5022, h5025, h5036, h5038]
              repeat with_reducible refine And.intro (by first | kernel_rfl | decide) ?_
              exact cutQ _ ((Wk_le (.r (.r (.r (.r (.r (.r (.r (.r (.r (.k (.k (.r (.r (.r (.r (.k (.k .nil))))))))))))))))) (OLe.refl _)).trans (cmpS_ok (st' := ⟨[], [(0, .v .nl), (1, .dead), (2, .dead), (3, .dead), (4, .dead), (5, .ptr 4 0), (7, .ptr 5 0), (8, .dead), (9, .v (.int .i64 0)), (10, .dead), (11, .dead), (17, .dead), (28, .v (.lst false n4976 c4977)), (29, .v (.int .i64 ((n4976 : Nat) : Int))), (30, .v (.int .i64 (IntKind.i64.wrap (x5007 + 1)))), (31, .dead), (53, .dead)], [(0, .p [p5033]), (1, .r [.fn 100 [.ptr 2 0]]), (2, .p [(.bool b5034)]), (3, .p [p4945, p5035]), (4, .r [.fn 99 [.ptr 0 0, .ptr 1 0, .ptr 3 0, .ptr 4 0]]), (5, .p [p4951, p4952, p4953, p4954, p4955])], 6, []⟩) (by kernel_rfl))) ⟨n, Nat.lt_succ_self n, _, _, _, _, h5050, rfl⟩
            · refine W_sound tab_ok mixed 10 _ _ _ ?_
              simp -implicitDefEqProofs only [go_sem, qa, qb, qc, qd, qe, qf, qg, qh, qi, qj, qk, ↓reduceIte, h4950, h4956, h4959, h4965, g4968, g4969, h4970, g4972, g4973, g4974, h4975, h5011, g5012, g5013, g5014, h5015, h5020, h5022, h5025, h5036, h5038]
              repeat with_reducible refine And.intro (by first | kernel_rfl | decide) ?_
              obtain rfl := Option.some.inj h5050
              (try dsimp only at h5051)
              simp only [Option.some.injEq, Prod.mk.injEq] at h5051; obtain ⟨rfl, rfl, rfl, rfl⟩ := h5051
              exact finD (e2 := [(0, .dead), (1, .dead), (2, .dead), (3, .dead), (4, .dead), (5, .dead), (7, .dead), (8, .v (.bool false)), (9, .dead), (10, .dead), (11, .dead), (17, .dead), (28, .dead), (29, .dead), (30, .dead), (31, .dead), (53, .dead)]) (ob2 := [(5, .p [p4951, p4952, p4953, p4954, p4955]), (17, .p [p5016, p5017]), (64, .p [(.int .i64 x5007)]), (4, .r [.fn 99 [.ptr 0 0, .ptr 1 0, .ptr 3 0, .ptr 4 0]]), (3, .p [p4945, p5035]), (2, .p [(.bool b5034)]), (1, .r [.fn 100 [.ptr 2 0]]), (0, .p [p5033])]) (st' := ⟨[], [(0, .dead), (1, .dead), (2, .dead), (3, .dead), (4, .dead), (5, .dead), (7, .dead), (8, .v (.bool false)), (9, .dead), (10, .dead), (11, .dead), (17, .dead), (28, .dead), (29, .dead), (30, .dead), (31, .dead), (53, .dead)], [(0, .p [p5033]), (1, .r [.fn 100 [.ptr 2 0]]), (2, .p [(.bool b5034)]), (3, .p [p4945, p5035]), (4, .r [.fn 99 [.ptr 0 0, .ptr 1 0, .ptr 3 0, .ptr 4 0]])], 5, []⟩) (.k (.r (.r (.r (.r (.k (.k (.r (.k (.k (.k (.r (.k (.k (.k (.k (.k .nil))))))))))))))))) (.cons _ _ _ _ _ (DLes.refl _) (.cons _ _ _ _ _ (DLes.refl _) (.cons _ _ _ _ _ (DLes.refl _) (.cons _ _ _ _ _ (DLes.refl _) (.cons _ _ _ _ _ (DLes.refl _) (.cons _ _ _ _ _ (DLes.refl _) (.cons _ _ _ _ _ (DLes.refl _) (.cons _ _ _ _ _ (DLes.refl _) .nil)))))))) (by kernel_rfl) (by simp only [go_sem, qa, qb, qc, qd, qe, qf, qg, qh, qi, qj, qk, ↓reduceIte, resQ_tmp, resQ_cell, resQ_nil, retD_one, retD_two, retD_three, retD_none]; try simp [R.val, retD_one, retD_two, retD_three, retD_none])
        · refine W_sound tab_ok mixed 7 _ _ _ ?_
          simp -implicitDefEqProofs only [go_sem, qa, qb, qc, qd, qe, qf, qg, qh, qi, qj, qk, ↓reduceIte, h4950, h4956, h4959, h4965, g4968, g4969, h4970, g4972, g4973, g4974, h4975, h5011]
          repeat with_reducible refine And.intro (by first | kernel_rfl | decide) ?_
          obtain rfl := Option.some.inj h5050
          exact cutQ _ ((Wk_le (.k (.r (.r (.r (.r (.k (.k (.r (.k (.r (.r (.r (.k (.k (.k (.k (.r .nil))))))))))))))))) (OLe.refl _)).trans (cmpS_ok (st' := ⟨[], [(0, .dead), (1, .dead), (2, .dead), (3, .dead), (4, .dead), (5, .dead), (7, .dead), (8, .dead), (9, .dead), (10, .dead), (11, .dead), (17, .dead), (28, .dead), (29, .dead), (30, .dead), (31, .dead), (53, .dead)], [(0, .p [p5008]), (1, .r [.fn 100 [.ptr 2 0]]), (2, .p [(.bool b5009)]), (3, .p [p4945, p5010]), (4, .r [.fn 99 [.ptr 0 0, .ptr 1 0, .ptr 3 0, .ptr 4 0]])], 5, []⟩) (by kernel_rfl))) ⟨_, _, _, rfl, rfl⟩
    · rintro _ ⟨p5040, b5041, p5042, rfl, rfl⟩
      (try dsimp only at h5051)
      refine W_sound tab_ok mixed 6 _ _ _ ?_
      simp -implicitDefEqProofs only [go_sem, qa, qb, qc, qd, qe, qf, qg, qh, qi, qj, qk, ↓reduceIte, h4950, h4956, h4959, h4965, g4968, g4969, h4970, g4972, g4973, g4974, h4975]
      repeat with_reducible refine And.intro (by first | kernel_rfl | decide) ?_
      simp only [Option.some.injEq, Prod.mk.injEq] at h5051; obtain ⟨rfl, rfl, rfl, rfl⟩ := h5051
      exact finD (e2 := [(0, .dead), (1, .dead), (2, .dead), (3, .dead), (4, .dead), (5, .dead), (7, .dead), (8, .v (.bool true)), (9, .dead), (10, .dead), (11, .dead), (17, .dead), (28, .dead), (29, .dead), (30, .dead), (31, .dead), (53, .dead)]) (ob2 := [(0, .p [p5040]), (1, .r [.fn 100 [.ptr 2 0]]), (2, .p [(.bool b5041)]), (3, .p [p4945, p5042]), (4, .r [.fn 99 [.ptr 0 0, .ptr 1 0, .ptr 3 0, .ptr 4 0]])]) (st' := ⟨[], [(0, .dead), (1, .dead), (2, .dead), (3, .dead), (4, .dead), (5, .dead), (7, .dead), (8, .v (.bool true)), (9, .dead), (10, .dead), (11, .dead), (17, .dead), (28, .dead), (29, .dead), (30, .dead), (31, .dead), (53, .dead)], [(0, .p [p5040]), (1, .r [.fn 100 [.ptr 2 0]]), (2, .p [(.bool b5041)]), (3, .p [p4945, p5042]), (4, .r [.fn 99 [.ptr 0 0, .ptr 1 0, .ptr 3 0, .ptr 4 0]])], 5, []⟩) (.r (.r (.r (.r (.r (.r (.r (.r (.r (.r (.r (.r (.r (.r (.r (.r (.r .nil))))))))))))))))) (.cons _ _ _ _ _ (DLes.refl _) (.cons _ _ _ _ _ (DLes.refl _) (.cons _ _ _ _ _ (DLes.refl _) (.cons _ _ _ _ _ (DLes.refl _) (.cons _ _ _ _ _ (DLes.refl _) .nil))))) (by kernel_rfl) (by simp only [go_sem, qa, qb, qc, qd, qe, qf, qg, qh, qi, qj, qk, ↓reduceIte, resQ_tmp, resQ_cell, resQ_nil, retD_one, retD_two, retD_three, retD_none]; try simp [R.val, retD_one, retD_two, retD_three, retD_none])

def m76_3 (N : Nat) (p5060 : PV) (p5061 : PV) (b5062 : Bool) : Option ((PV × Bool)) :=
  getA2 p5060 fun p5065 p5066 =>
  getL p5061 fun n5068 c5069 =>
  bnd' (m97 N ) fun p5070 =>
  getA5 p5070 fun p5073 p5074 p5075 p5076 p5077 =>
  bnd' (m99_5 N (.agg [p5073, p5074, p5075, p5076, p5077]) (.lst false n5068 c5069) b5062 p5065 p5066) fun (p5078, p5080, b5081, p5082) =>
  getB p5078 fun b5084 =>
  some ((.tup []), b5081)
theorem c76_3 (N : Nat) (p5060 : PV) (p5061 : PV) (b5062 : Bool) (r : PV) (b5086 : Bool) (h : m76_3 N p5060 p5061 b5062 = some (r, b5086)) : V.Fn Tryd.prog 76 1 [.v p5060, .v p5061, .fn 100 [.ptr 0 0]] [(0, .p [(.bool b5062)])] (fun d ob' => d = .v r ∧ ob' = [(0, .p [(.bool b5086)])]) := by
  unfold m76_3 at h
  refine Fn_of (sz := 11) tab_ok [0, 1, 2, 3, 4, 5, 6] [] Tryd.func76 rfl rfl rfl (by simp) ?_
  simp only [initSt, initEnv, List.map_cons, List.map_nil, List.getD_cons_zero, List.getD_cons_succ, List.getD_nil]
  have hh := getA2_some h; clear h; obtain ⟨p5065, p5066, h5064, h⟩ := hh
  have hh := getL_some h; clear h; obtain ⟨n5068, c5069, h5067, h⟩ := hh
  have hh := bnd'_some h; clear h; obtain ⟨p5070, h5071, h⟩ := hh
  refine W_sound tab_ok mixed 17 _ _ _ ?_
  simp -implicitDefEqProofs only [go_sem, qa, qb, qc, qd, qe, qf, qg, qh, qi, qj, qk, ↓reduceIte, h5064, h5067]
  repeat with_reducible refine And.intro (by first | kernel_rfl | decide) ?_
  refine Wp_callP (c97 N  _ h5071) (by kernel_rfl) rfl rfl rfl rfl (by decide) ?_
  have hh := getA5_some h; clear h; obtain ⟨p5073, p5074, p5075, p5076, p5077, h5072, h⟩ := hh
  have hh := bnd'_some h; clear h; obtain ⟨⟨p5078, p5080, b5081, p5082⟩, h5079, h⟩ := hh
  (try dsimp only at h)
  (try simp -implicitDefEqProofs only [go_sem, qa, qb, qc, qd, qe, qf, qg, qh, qi, qj, qk, ↓reduceIte, h5064, h5067, h5072])
  refine Wp_callD [5, 6, 0, 4, 13] (c99_5 N _ _ _ _ _ _ _ _ _ h5079) rfl rfl rfl (by first | rfl | (simp only [go_sem, qa, qb, qc, qd, qe, qf, qg, qh, qi, qj, qk, ↓reduceIte, h5064, h5067, h5072] <;> rfl)) rfl (by kernel_rfl) ?_
  have hh := getB_some h; clear h; obtain ⟨b5084, h5083, h⟩ := hh
  refine W_sound tab_ok mixed 2 _ _ _ ?_
  simp -implicitDefEqProofs only [go_sem, qa, qb, qc, qd, qe, qf, qg, qh, qi, qj, qk, ↓reduceIte, h5064, h5067, h5072, h5083]
  repeat with_reducible refine And.intro (by first | kernel_rfl | decide) ?_
  simp only [Option.some.injEq, Prod.mk.injEq] at h; obtain ⟨rfl, rfl⟩ := h
  exact finD (e2 := [(0, .dead), (1, .dead), (2, .dead), (3, .dead), (4, .dead), (5, .dead), (6, .dead)]) (ob2 := [(13, .r [.fn 99 [.ptr 5 0, .ptr 6 0, .ptr 4 0, .ptr 13 0]]), (4, .p [p5065, p5082]), (0, .p [(.bool b5081)]), (6, .r [.fn 100 [.ptr 0 0]]), (5, .p [p5080])]) (st' := ⟨[], [(0, .dead), (1, .dead), (2, .dead), (3, .dead), (4, .dead), (5, .dead), (6, .dead)], [(0, .p [(.bool b5081)])], 1, []⟩) (.k (.k (.k (.k (.k (.k (.k .nil))))))) (.cons _ _ _ _ _ (DLes.refl _) (.cons _ _ _ _ _ (DLes.refl _) (.cons _ _ _ _ _ (DLes.refl _) (.cons _ _ _ _ _ (DLes.refl _) (.cons _ _ _ _ _ (DLes.refl _) .nil))))) (by kernel_rfl) (by simp only [go_sem, qa, qb, qc, qd, qe, qf, qg, qh, qi, qj, qk, ↓reduceIte, resQ_tmp, resQ_cell, resQ_nil, retD_one, retD_two, retD_three, retD_none]; try simp [R.val, retD_one, retD_two, retD_three, retD_none])

def m82 (N : Nat) (p4608 : PV) (p4609 : PV) : Option (PV) :=
  getA2 p4608 fun p4611 p4612 =>
  getL p4609 fun n4614 c4615 =>
  bnd' (m76_3 N (.agg [p4611, p4612]) (.lst false n4614 c4615) false) fun (p5087, b5089) =>
  getT0 p5087 <|
  some (.bool b5089)
theorem c82 (N : Nat) (p4608 : PV) (p4609 : PV) (r : PV)  (h : m82 N p4608 p4609 = some r) : FnP Tryd.prog 82 [p4608, p4609] r := by
  unfold m82 at h
  refine Fn_of (sz := 11) tab_ok [0, 1, 2, 4, 5] [.tmp 4] Tryd.func82 rfl rfl rfl (by simp) ?_
  simp only [initSt, initEnv, List.map_cons, List.map_nil, List.getD_cons_zero, List.getD_cons_succ, List.getD_nil]
  have hh := getA2_some h; clear h; obtain ⟨p4611, p4612, h4610, h⟩ := hh
  have hh := getL_some h; clear h; obtain ⟨n4614, c4615, h4613, h⟩ := hh
  have hh := bnd'_some h; clear h; obtain ⟨⟨p5087, b5089⟩, h5088, h⟩ := hh
  (try dsimp only at h)
  refine W_sound tab_ok mixed 15 _ _ _ ?_
  simp -implicitDefEqProofs only [go_sem, qa, qb, qc, qd, qe, qf, qg, qh, qi, qj, qk, ↓reduceIte, h4610, h4613]
  repeat with_reducible refine And.intro (by first | kernel_rfl | decide) ?_
  refine Wp_callD [8] (c76_3 N _ _ _ _ _ h5088) rfl rfl rfl (by first | rfl | (simp only [go_sem, qa, qb, qc, qd, qe, qf, qg, qh, qi, qj, qk, ↓reduceIte, h4610, h4613] <;> rfl)) rfl (by kernel_rfl) ?_
  have hh := getT0_some h; clear h; obtain ⟨h5090, h⟩ := hh
  refine W_sound tab_ok mixed 8 _ _ _ ?_
  simp -implicitDefEqProofs only [go_sem, qa, qb, qc, qd, qe, qf, qg, qh, qi, qj, qk, ↓reduceIte, h4610, h4613, h5090]
  repeat with_reducible refine And.intro (by first | kernel_rfl | decide) ?_
  obtain rfl := Option.some.inj h
  exact finC [(4, .v (.bool b5089))] [(4, .v (.bool b5089))] (by simp [leE, lk_cons]) (.cons _ _ _ _ _ (.v _ _ (.refl _)) .nil) (by rfl) (by simp [leE, lk_cons]) (by decide) (by decide) rfl (by simp only [go_sem, qa, qb, qc, qd, qe, qf, qg, qh, qi, qj, qk, ↓reduceIte, resQ_tmp, resQ_cell, resQ_nil, retD_one, retD_two, retD_three, retD_none]; try simp [R.val, retD_one, retD_two, retD_three, retD_none])

def m68_3_L0 (N : Nat) (x4597 : Int) (b4598 : Bool) (p4599 : PV) : Nat → PV → Int → Option (PV)
  | 0, _, _ => none
  | n + 1, p5096, x5097 =>
    brn (decide (x5097 < (IntKind.u64.wrap (1 * 2 ^ (min (Int.toNat x4597) 64))))) (
      bnd' (m77 N x5097) fun p5099 =>
      getL p5099 fun n5102 c5103 =>
      bnd' (m82 N p4599 (.lst false n5102 c5103)) fun p5104 =>
      getB p5104 fun b5107 =>
      brn b5107 (
        getIf 1000025 p5096 (
          m68_3_L0 N x4597 b4598 p4599 n (.fn 1000025 [(.lst false n5102 c5103)]) (IntKind.u64.wrap (x5097 + 1))) fun p5110 =>
        getL p5110 fun n5112 c5113 =>
        brn (((n5102 : Nat) : Int) == ((n5112 : Nat) : Int)) (
          bnd' (m47 N (.lst false n5102 c5103) (.lst false n5112 c5113)) fun p5115 =>
          getI .i64 p5115 fun x5118 =>
          brn (decide (x5118 < 0)) (
            m68_3_L0 N x4597 b4598 p4599 n (.fn 1000025 [(.lst false n5102 c5103)]) (IntKind.u64.wrap (x5097 + 1))) (
            brn (((n5102 : Nat) : Int) != ((n5112 : Nat) : Int)) (
              brn ((decide (((n5102 : Nat) : Int) > ((n5112 : Nat) : Int))) == b4598) (
                m68_3_L0 N x4597 b4598 p4599 n (.fn 1000025 [(.lst false n5102 c5103)]) (IntKind.u64.wrap (x5097 + 1))) (
                m68_3_L0 N x4597 b4598 p4599 n (.fn 1000025 [(.lst false n5112 c5113)]) (IntKind.u64.wrap (x5097 + 1)))) (
              m68_3_L0 N x4597 b4598 p4599 n (.fn 1000025 [(.lst false n5112 c5113)]) (IntKind.u64.wrap (x5097 + 1))))) (
          brn (((n5102 : Nat) : Int) != ((n5112 : Nat) : Int)) (
            brn ((decide (((n5102 : Nat) : Int) > ((n5112 : Nat) : Int))) == b4598) (
              m68_3_L0 N x4597 b4598 p4599 n (.fn 1000025 [(.lst false n5102 c5103)]) (IntKind.u64.wrap (x5097 + 1))) (
              m68_3_L0 N x4597 b4598 p4599 n (.fn 1000025 [(.lst false n5112 c5113)]) (IntKind.u64.wrap (x5097 + 1)))) (
            m68_3_L0 N x4597 b4598 p4599 n (.fn 1000025 [(.lst false n5112 c5113)]) (IntKind.u64.wrap (x5097 + 1))))) (
        m68_3_L0 N x4597 b4598 p4599 n p5096 (IntKind.u64.wrap (x5097 + 1)))) (
      some p5096)
def m68_3 (N : Nat) (x4597 : Int) (b4598 : Bool) (p4599 : PV) : Option (PV) :=
  grd (0 ≤ x4597) <|
  bnd' (m68_3_L0 N x4597 b4598 p4599 N (.fn 999999 []) 0) fun p5124 =>
  getIf 1000025 p5124 (
    some (.tup [(.lst false 0 []), (.bool false)])) fun p5126 =>
  getL p5126 fun n5128 c5129 =>
  some (.tup [(.lst false n5128 c5129), (.bool true)])
theorem c68_3 (N : Nat) (x4597 : Int) (b4598 : Bool) (p4599 : PV) (r : PV)  (h : m68_3 N x4597 b4598 p4599 = some r) : FnP Tryd.prog 68 [(.int .i64 x4597), (.bool b4598), (.fn 999999 [(.fn 82 []), p4599])] r := by
  unfold m68_3 at h
  refine Fn_of (sz := 74) tab_ok [0, 1, 2, 6, 7, 8, 9, 10, 11, 12, 13, 14, 15, 17, 18, 19, 26, 63] [.tmp 6, .tmp 7] Tryd.func68 rfl rfl rfl (by simp) ?_
  simp only [initSt, initEnv, List.map_cons, List.map_nil, List.getD_cons_zero, List.getD_cons_succ, List.getD_nil]
  have hh := grd_some h; clear h; obtain ⟨g4600, h⟩ := hh
  refine W_sound tab_ok mixed 16 _ _ _ ?_
  simp -implicitDefEqProofs only [go_sem, qa, qb, qc, qd, qe, qf, qg, qh, qi, qj, qk, ↓reduceIte, g4600]
  repeat with_reducible refine And.intro (by first | kernel_rfl | decide) ?_
  have hh := bnd'_some h; clear h; obtain ⟨o5130, h5131, h5132⟩ := hh
  refine Wp_cut (fun s => ∃ p5124, p5124 = o5130 ∧ s = ⟨[], [(0, .dead), (1, .dead), (2, .dead), (6, .dead), (7, .dead), (8, .v p5124), (9, .dead), (10, .dead), (11, .dead), (12, .dead), (13, .dead), (14, .dead), (15, .dead), (17, .dead), (18, .dead), (19, .dead), (26, .dead), (63, .dead)], [], 0, []⟩) ?_ ?_
  · refine Wp_block ?_
    refine Wp_loopG (fun n s => ∃ p5096, ∃ x5097, m68_3_L0 N x4597 b4598 p4599 n p5096 x5097 = some o5130 ∧ s = ⟨[], [(0, .dead), (1, .v (.bool b4598)), (2, .v (.fn 999999 [(.fn 82 []), p4599])), (6, .dead), (7, .dead), (8, .v p5096), (9, .dead), (10, .dead), (11, .dead), (12, .dead), (13, .dead), (14, .dead), (15, .dead), (17, .v (.int .u64 (IntKind.u64.wrap (1 * 2 ^ (min (Int.toNat x4597) 64))))), (18, .v (.int .u64 x5097)), (19, .dead), (26, .dead), (63, .dead)], [], 0, []⟩) N _ ((Wk_le (.k (.r (.r (.k (.k (.r (.r (.r (.r (.r (.r (.r (.r (.r (.r (.r (.r (.r .nil)))))))))))))))))) (OLe.refl _)).trans (cmpS_ok (st' := ⟨[], [(0, .dead), (1, .v (.bool b4598)), (2, .v (.fn 999999 [(.fn 82 []), p4599])), (6, .dead), (7, .dead), (8, .v (.fn 999999 [])), (9, .dead), (10, .dead), (11, .dead), (12, .dead), (13, .dead), (14, .dead), (15, .dead), (17, .v (.int .u64 (IntKind.u64.wrap (1 * 2 ^ (min (Int.toNat x4597) 64))))), (18, .v (.int .u64 0)), (19, .dead), (26, .dead), (63, .dead)], [], 0, []⟩) (by kernel_rfl))) ⟨_, _, h5131, rfl⟩ ?_
    clear h5131
    rintro n _ ⟨p5096, x5097, h5131, rfl⟩
    cases n with
    | zero => cases h5131
    | succ n =>
      rw [m68_3_L0] at h5131
      have hh := brn_some h5131; clear h5131; rcases hh with ⟨h5098, h5131⟩ | ⟨h5098, h5131⟩
      · have hh := bnd'_some h5131; clear h5131; obtain ⟨p5099, h5100, h5131⟩ := hh
        refine W_sound tab_ok mixed 17 _ _ _ ?_
        simp -implicitDefEqProofs only [go_sem, qa, qb, qc, qd, qe, qf, qg, qh, qi, qj, qk, ↓reduceIte, g4600, h5098]
        repeat with_reducible refine And.intro (by first | kernel_rfl | decide) ?_
        refine Wp_callP (c77 N _ _ h5100) (by kernel_rfl) rfl rfl rfl rfl (by decide) ?_
        have hh := getL_some h5131; clear h5131; obtain ⟨n5102, c5103, h5101, h5131⟩ := hh
        have hh := bnd'_some h5131; clear h5131; obtain ⟨p5104, h5105, h5131⟩ := hh
        refine W_sound tab_ok mixed 7 _ _ _ ?_
        simp -implicitDefEqProofs only [go_sem, qa, qb, qc, qd, qe, qf, qg, qh, qi, qj, qk, ↓reduceIte, g4600, h5098, h5101]
        repeat with_reducible refine And.intro (by first | kernel_rfl | decide) ?_
        refine Wp_callP (c82 N _ _ _ h5105) (by kernel_rfl) rfl rfl rfl rfl (by decide) ?_
        have hh := getB_some h5131; clear h5131; obtain ⟨b5107, h5106, h5131⟩ := hh
        have hh := brn_some h5131; clear h5131; rcases hh with ⟨h5108, h5131⟩ | ⟨h5108, h5131⟩
        · have hh := getIf_some h5131; clear h5131; rcases hh with ⟨h5109, h5131⟩ | ⟨p5110, h5109, h5131⟩
          · refine W_sound tab_ok mixed 64 _ _ _ ?_
            simp -implicitDefEqProofs only [go_sem, qa, qb, qc, qd, qe, qf, qg, qh, qi, qj, qk, ↓reduceIte, g4600, h5098, h5101, h5106, h5108, h5109]
            repeat with_reducible refine And.intro (by first | kernel_rfl | decide) ?_
            exact cutQ _ ((Wk_le (.r (.r (.r (.r (.r (.r (.k (.k (.k (.k (.k (.r (.r (.r (.r (.k (.k (.k .nil)))))))))))))))))) (OLe.refl _)).trans (cmpS_ok (st' := ⟨[], [(0, .dead), (1, .v (.bool b4598)), (2, .v (.fn 999999 [(.fn 82 []), p4599])), (6, .dead), (7, .dead), (8, .v (.fn 1000025 [(.lst false n5102 c5103)])), (9, .dead), (10, .dead), (11, .dead), (12, .dead), (13, .dead), (14, .dead), (15, .dead), (17, .v (.int .u64 (IntKind.u64.wrap (1 * 2 ^ (min (Int.toNat x4597) 64))))), (18, .v (.int .u64 (IntKind.u64.wrap (x5097 + 1)))), (19, .dead), (26, .dead), (63, .dead)], [], 0, []⟩) (by kernel_rfl))) ⟨n, Nat.lt_succ_self n, _, _, h5131, rfl⟩
          · have hh := getL_some h5131; clear h5131; obtain ⟨n5112, c5113, h5111, h5131⟩ := hh
            have hh := brn_some h5131; clear h5131; rcases hh with ⟨h5114, h5131⟩ | ⟨h5114, h5131⟩
            · have hh := bnd'_some h5131; clear h5131; obtain ⟨p5115, h5116, h5131⟩ := hh
              refine W_sound tab_ok mixed 27 _ _ _ ?_
              simp -implicitDefEqProofs only [go_sem, qa, qb, qc, qd, qe, qf, qg, qh, qi, qj, qk, ↓reduceIte, g4600, h5098, h5101, h5106, h5108, h5109, h5111, h5114]
              repeat with_reducible refine And.intro (by first | kernel_rfl | decide) ?_
              refine Wp_callP (c47 N _ _ _ h5116) (by kernel_rfl) rfl rfl rfl rfl (by decide) ?_
              have hh := getI_some h5131; clear h5131; obtain ⟨x5118, h5117, h5131⟩ := hh
              have hh := brn_some h5131; clear h5131; rcases hh with ⟨h5119, h5131⟩ | ⟨h5119, h5131⟩
              · refine W_sound tab_ok mixed 36 _ _ _ ?_
                simp -implicitDefEqProofs only [go_sem, qa, qb, qc, qd, qe, qf, qg, qh, qi, qj, qk, ↓reduceIte, g4600, h5098, h5101, h5106, h5108, h5109, h5111, h5114, h5117, h5119]
                repeat with_reducible refine And.intro (by first | kernel_rfl | decide) ?_
                exact cutQ _ ((Wk_le (.r (.r (.r (.r (.r (.r (.k (.k (.k (.k (.k (.r (.r (.r (.r (.k (.k (.k .nil)))))))))))))))))) (OLe.refl _)).trans (cmpS_ok (st' := ⟨[], [(0, .dead), (1, .v (.bool b4598)), (2, .v (.fn 999999 [(.fn 82 []), p4599])), (6, .dead), (7, .dead), (8, .v (.fn 1000025 [(.lst false n5102 c5103)])), (9, .dead), (10, .dead), (11, .dead), (12, .dead), (13, .dead), (14, .dead), (15, .dead), (17, .v (.int .u64 (IntKind.u64.wrap (1 * 2 ^ (min (Int.toNat x4597) 64))))), (18, .v (.int .u64 (IntKind.u64.wrap (x5097 + 1)))), (19, .dead), (26, .dead), (63, .dead)], [], 0, []⟩) (by kernel_rfl))) ⟨n, Nat.lt_succ_self n, _, _, h5131, rfl⟩
              · have hh := brn_some h5131; clear h5131; rcases hh with ⟨h5120, h5131⟩ | ⟨h5120, h5131⟩
                · have hh := brn_some h5131; clear h5131; rcases hh with ⟨h5121, h5131⟩ | ⟨h5121, h5131⟩
                  · refine W_sound tab_ok mixed 36 _ _ _ ?_
                    simp -implicitDefEqProofs only [go_sem, qa, qb, qc, qd, qe, qf, qg, qh, qi, qj, qk, ↓reduceIte, g4600, h5098, h5101, h5106, h5108, h5109, h5111, h5114, h5117, h5119, h5120, h5121]
                    repeat with_reducible refine And.intro (by first | kernel_rfl | decide) ?_
                    exact cutQ _ ((Wk_le (.r (.r (.r (.r (.r (.r (.k (.k (.k (.k (.k (.r (.r (.r (.r (.k (.k (.k .nil)))))))))))))))))) (OLe.refl _)).trans (cmpS_ok (st' := ⟨[], [(0, .dead), (1, .v (.bool b4598)), (2, .v (.fn 999999 [(.fn 82 []), p4599])), (6, .dead), (7, .dead), (8, .v (.fn 1000025 [(.lst false n5102 c5103)])), (9, .dead), (10, .dead), (11, .dead), (12, .dead), (13, .dead), (14, .dead), (15, .dead), (17, .v (.int .u64 (IntKind.u64.wrap (1 * 2 ^ (min (Int.toNat x4597) 64))))), (18, .v (.int .u64 (IntKind.u64.wrap (x5097 + 1)))), (19, .dead), (26, .dead), (63, .dead)], [], 0, []⟩) (by kernel_rfl))) ⟨n, Nat.lt_succ_self n, _, _, h5131, rfl⟩
                  · refine W_sound tab_ok mixed 32 _ _ _ ?_
                    simp -implicitDefEqProofs only [go_sem, qa, qb, qc, qd, qe, qf, qg, qh, qi, qj, qk, ↓reduceIte, g4600, h5098, h5101, h5106, h5108, h5109, h5111, h5114, h5117, h5119, h5120, h5121]
                    repeat with_reducible refine And.intro (by first | kernel_rfl | decide) ?_
                    exact cutQ _ ((Wk_le (.r (.r (.r (.r (.r (.r (.k (.k (.k (.k (.k (.r (.r (.r (.r (.k (.k (.k .nil)))))))))))))))))) (OLe.refl _)).trans (cmpS_ok (st' := ⟨[], [(0, .dead), (1, .v (.bool b4598)), (2, .v (.fn 999999 [(.fn 82 []), p4599])), (6, .dead), (7, .dead), (8, .v (.fn 1000025 [(.lst false n5112 c5113)])), (9, .dead), (10, .dead), (11, .dead), (12, .dead), (13, .dead), (14, .dead), (15, .dead), (17, .v (.int .u64 (IntKind.u64.wrap (1 * 2 ^ (min (Int.toNat x4597) 64))))), (18, .v (.int .u64 (IntKind.u64.wrap (x5097 + 1)))), (19, .dead), (26, .dead), (63, .dead)], [], 0, []⟩) (by kernel_rfl))) ⟨n, Nat.lt_succ_self n, _, _, h5131, rfl⟩
                · refine W_sound tab_ok mixed 32 _ _ _ ?_
                  simp -implicitDefEqProofs only [go_sem, qa, qb, qc, qd, qe, qf, qg, qh, qi, qj, qk, ↓reduceIte, g4600, h5098, h5101, h5106, h5108, h5109, h5111, h5114, h5117, h5119, h5120]
                  repeat with_reducible refine And.intro (by first | kernel_rfl | decide) ?_
                  exact cutQ _ ((Wk_le (.r (.r (.r (.r (.r (.r (.k (.k (.k (.k (.k (.r (.r (.r (.r (.k (.k (.k .nil)))))))))))))))))) (OLe.refl _)).trans (cmpS_ok (st' := ⟨[], [(0, .dead), (1, .v (.bool b4598)), (2, .v (.fn 999999 [(.fn 82 []), p4599])), (6, .dead), (7, .dead), (8, .v (.fn 1000025 [(.lst false n5112 c5113)])), (9, .dead), (10, .dead), (11, .dead), (12, .dead), (13, .dead), (14, .dead), (15, .dead), (17, .v (.int .u64 (IntKind.u64.wrap (1 * 2 ^ (min (Int.toNat x4597) 64))))), (18, .v (.int .u64 (IntKind.u64.wrap (x5097 + 1)))), (19, .dead), (26, .dead), (63, .dead)], [], 0, []⟩) (by kernel_rfl))) ⟨n, Nat.lt_succ_self n, _, _, h5131, rfl⟩
            · have hh := brn_some h5131; clear h5131; rcases hh with ⟨h5122, h5131⟩ | ⟨h5122, h5131⟩
              · have hh := brn_some h5131; clear h5131; rcases hh with ⟨h5123, h5131⟩ | ⟨h5123, h5131⟩
                · refine W_sound tab_ok mixed 64 _ _ _ ?_
                  simp -implicitDefEqProofs only [go_sem, qa, qb, qc, qd, qe, qf, qg, qh, qi, qj, qk, ↓reduceIte, g4600, h5098, h5101, h5106, h5108, h5109, h5111, h5114, h5122, h5123]
                  repeat with_reducible refine And.intro (by first | kernel_rfl | decide) ?_
                  exact cutQ _ ((Wk_le (.r (.r (.r (.r (.r (.r (.k (.k (.k (.k (.k (.r (.r (.r (.r (.k (.k (.k .nil)))))))))))))))))) (OLe.refl _)).trans (cmpS_ok (st' := ⟨[], [(0, .dead), (1, .v (.bool b4598)), (2, .v (.fn 999999 [(.fn 82 []), p4599])), (6, .dead), (7, .dead), (8, .v (.fn 1000025 [(.lst false n5102 c5103)])), (9, .dead), (10, .dead), (11, .dead), (12, .dead), (13, .dead), (14, .dead), (15, .dead), (17, .v (.int .u64 (IntKind.u64.wrap (1 * 2 ^ (min (Int.toNat x4597) 64))))), (18, .v (.int .u64 (IntKind.u64.wrap (x5097 + 1)))), (19, .dead), (26, .dead), (63, .dead)], [], 0, []⟩) (by kernel_rfl))) ⟨n, Nat.lt_succ_self n, _, _, h5131, rfl⟩
                · refine W_sound tab_ok mixed 60 _ _ _ ?_
                  simp -implicitDefEqProofs only [go_sem, qa, qb, qc, qd, qe, qf, qg, qh, qi, qj, qk, ↓reduceIte, g4600, h5098, h5101, h5106, h5108, h5109, h5111, h5114, h5122, h5123]
                  repeat with_reducible refine And.intro (by first | kernel_rfl | decide) ?_
                  exact cutQ _ ((Wk_le (.r (.r (.r (.r (.r (.r (.k (.k (.k (.k (.k (.r (.r (.r (.r (.k (.k (.k .nil)))))))))))))))))) (OLe.refl _)).trans (cmpS_ok (st' := ⟨[], [(0, .dead), (1, .v (.bool b4598)), (2, .v (.fn 999999 [(.fn 82 []), p4599])), (6, .dead), (7, .dead), (8, .v (.fn 1000025 [(.lst false n5112 c5113)])), (9, .dead), (10, .dead), (11, .dead), (12, .dead), (13, .dead), (14, .dead), (15, .dead), (17, .v (.int .u64 (IntKind.u64.wrap (1 * 2 ^ (min (Int.toNat x4597) 64))))), (18, .v (.int .u64 (IntKind.u64.wrap (x5097 + 1)))), (19, .dead), (26, .dead), (63, .dead)], [], 0, []⟩) (by kernel_rfl))) ⟨n, Nat.lt_succ_self n, _, _, h5131, rfl⟩
              · refine W_sound tab_ok mixed 60 _ _ _ ?_
                simp -implicitDefEqProofs only [go_sem, qa, qb, qc, qd, qe, qf, qg, qh, qi, qj, qk, ↓reduceIte, g4600, h5098, h5101, h5106, h5108, h5109, h5111, h5114, h5122]
                repeat with_reducible refine And.intro (by first | kernel_rfl | decide) ?_
                exact cutQ _ ((Wk_le (.r (.r (.r (.r (.r (.r (.k (.k (.k (.k (.k (.r (.r (.r (.r (.k (.k (.k .nil)))))))))))))))))) (OLe.refl _)).trans (cmpS_ok (st' := ⟨[], [(0, .dead), (1, .v (.bool b4598)), (2, .v (.fn 999999 [(.fn 82 []), p4599])), (6, .dead), (7, .dead), (8, .v (.fn 1000025 [(.lst false n5112 c5113)])), (9, .dead), (10, .dead), (11, .dead), (12, .dead), (13, .dead), (14, .dead), (15, .dead), (17, .v (.int .u64 (IntKind.u64.wrap (1 * 2 ^ (min (Int.toNat x4597) 64))))), (18, .v (.int .u64 (IntKind.u64.wrap (x5097 + 1)))), (19, .dead), (26, .dead), (63, .dead)], [], 0, []⟩) (by kernel_rfl))) ⟨n, Nat.lt_succ_self n, _, _, h5131, rfl⟩
        · refine W_sound tab_ok mixed 8 _ _ _ ?_
          simp -implicitDefEqProofs only [go_sem, qa, qb, qc, qd, qe, qf, qg, qh, qi, qj, qk, ↓reduceIte, g4600, h5098, h5101, h5106, h5108]
          repeat with_reducible refine And.intro (by first | kernel_rfl | decide) ?_
          exact cutQ _ ((Wk_le (.r (.r (.r (.r (.r (.r (.k (.k (.r (.r (.r (.r (.r (.r (.r (.k (.k (.r .nil)))))))))))))))))) (OLe.refl _)).trans (cmpS_ok (st' := ⟨[], [(0, .dead), (1, .v (.bool b4598)), (2, .v (.fn 999999 [(.fn 82 []), p4599])), (6, .dead), (7, .dead), (8, .v p5096), (9, .dead), (10, .dead), (11, .dead), (12, .dead), (13, .dead), (14, .dead), (15, .dead), (17, .v (.int .u64 (IntKind.u64.wrap (1 * 2 ^ (min (Int.toNat x4597) 64))))), (18, .v (.int .u64 (IntKind.u64.wrap (x5097 + 1)))), (19, .dead), (26, .dead), (63, .dead)], [], 0, []⟩) (by kernel_rfl))) ⟨n, Nat.lt_succ_self n, _, _, h5131, rfl⟩
      · refine W_sound tab_ok mixed 7 _ _ _ ?_
        simp -implicitDefEqProofs only [go_sem, qa, qb, qc, qd, qe, qf, qg, qh, qi, qj, qk, ↓reduceIte, g4600, h5098]
        repeat with_reducible refine And.intro (by first | kernel_rfl | decide) ?_
        obtain rfl := Option.some.inj h5131
        exact cutQ _ ((Wk_le (.r (.k (.k (.r (.r (.r (.r (.r (.r (.r (.r (.r (.r (.k (.k (.k (.r (.r .nil)))))))))))))))))) (OLe.refl _)).trans (cmpS_ok (st' := ⟨[], [(0, .dead), (1, .dead), (2, .dead), (6, .dead), (7, .dead), (8, .v p5096), (9, .dead), (10, .dead), (11, .dead), (12, .dead), (13, .dead), (14, .dead), (15, .dead), (17, .dead), (18, .dead), (19, .dead), (26, .dead), (63, .dead)], [], 0, []⟩) (by kernel_rfl))) ⟨_, rfl, rfl⟩
  · rintro _ ⟨p5124, rfl, rfl⟩
    have hh := getIf_some h5132; clear h5132; rcases hh with ⟨h5125, h5132⟩ | ⟨p5126, h5125, h5132⟩
    · refine W_sound tab_ok mixed 19 _ _ _ ?_
      simp -implicitDefEqProofs only [go_sem, qa, qb, qc, qd, qe, qf, qg, qh, qi, qj, qk, ↓reduceIte, g4600, h5125]
      repeat with_reducible refine And.intro (by first | kernel_rfl | decide) ?_
      obtain rfl := Option.some.inj h5132
      exact finC [(6, .v .nl), (7, .v (.bool false))] [(6, .v (.lst false 0 [])), (7, .v (.bool false))] (by simp [leE, lk_cons]) (.cons _ _ _ _ _ (.v _ _ (.nl false)) (.cons _ _ _ _ _ (.v _ _ (.refl _)) .nil)) (by rfl) (by simp [leE, lk_cons]) (by decide) (by decide) rfl (by simp only [go_sem, qa, qb, qc, qd, qe, qf, qg, qh, qi, qj, qk, ↓reduceIte, resQ_tmp, resQ_cell, resQ_nil, retD_one, retD_two, retD_three, retD_none]; try simp [R.val, retD_one, retD_two, retD_three, retD_none])
    · have hh := getL_some h5132; clear h5132; obtain ⟨n5128, c5129, h5127, h5132⟩ := hh
      refine W_sound tab_ok mixed 19 _ _ _ ?_
      simp -implicitDefEqProofs only [go_sem, qa, qb, qc, qd, qe, qf, qg, qh, qi, qj, qk, ↓reduceIte, g4600, h5125, h5127]
      repeat with_reducible refine And.intro (by first | kernel_rfl | decide) ?_
      obtain rfl := Option.some.inj h5132
      exact finC [(6, .v (.lst false n5128 c5129)), (7, .v (.bool true))] [(6, .v (.lst false n5128 c5129)), (7, .v (.bool true))] (by simp [leE, lk_cons]) (.cons _ _ _ _ _ (.v _ _ (.refl _)) (.cons _ _ _ _ _ (.v _ _ (.refl _)) .nil)) (by rfl) (by simp [leE, lk_cons]) (by decide) (by decide) rfl (by simp only [go_sem, qa, qb, qc, qd, qe, qf, qg, qh, qi, qj, qk, ↓reduceIte, resQ_tmp, resQ_cell, resQ_nil, retD_one, retD_two, retD_three, retD_none]; try simp [R.val, retD_one, retD_two, retD_three, retD_none])

def m32 (N : Nat) (p4585 : PV) : Option (PV) :=
  getA2 p4585 fun p4587 p4588 =>
  bnd' (m22 N (.agg [p4587, p4588])) fun p4589 =>
  getI .i64 p4589 fun x4592 =>
  brn (x4592 != 0) (
    some (.tup [(.lst false 0 []), (.int .i64 x4592)])) (
    getL p4588 fun n4595 c4596 =>
    bnd' (m68_3 N ((n4595 : Nat) : Int) true (.agg [p4587, (.lst false n4595 c4596)])) fun p5133 =>
    getT2 p5133 fun p5136 p5137 =>
    getL p5136 fun n5139 c5140 =>
    getB p5137 fun b5142 =>
    some (.tup [(.lst false n5139 c5140), (.int .i64 0)]))
theorem c32 (N : Nat) (p4585 : PV) (r : PV)  (h : m32 N p4585 = some r) : FnP Tryd.prog 32 [p4585] r := by
  unfold m32 at h
  refine Fn_of (sz := 22) tab_ok [0, 1, 2, 3, 4, 5, 10] [.tmp 2, .tmp 3] Tryd.func32 rfl rfl rfl (by simp) ?_
  simp only [initSt, initEnv, List.map_cons, List.map_nil, List.getD_cons_zero, List.getD_cons_succ, List.getD_nil]
  have hh := getA2_some h; clear h; obtain ⟨p4587, p4588, h4586, h⟩ := hh
  have hh := bnd'_some h; clear h; obtain ⟨p4589, h4590, h⟩ := hh
  refine W_sound tab_ok mixed 10 _ _ _ ?_
  simp -implicitDefEqProofs only [go_sem, qa, qb, qc, qd, qe, qf, qg, qh, qi, qj, qk, ↓reduceIte, h4586]
  repeat with_reducible refine And.intro (by first | kernel_rfl | decide) ?_
  refine Wp_callP (c22 N _ _ h4590) (by kernel_rfl) rfl rfl rfl rfl (by decide) ?_
  have hh := getI_some h; clear h; obtain ⟨x4592, h4591, h⟩ := hh
  have hh := brn_some h; clear h; rcases hh with ⟨h4593, h⟩ | ⟨h4593, h⟩
  · refine W_sound tab_ok mixed 16 _ _ _ ?_
    simp -implicitDefEqProofs only [go_sem, qa, qb, qc, qd, qe, qf, qg, qh, qi, qj, qk, ↓reduceIte, h4586, h4591, h4593]
    repeat with_reducible refine And.intro (by first | kernel_rfl | decide) ?_
    obtain rfl := Option.some.inj h
    exact finC [(2, .v .nl), (3, .v (.int .i64 x4592))] [(2, .v (.lst false 0 [])), (3, .v (.int .i64 x4592))] (by simp [leE, lk_cons]) (.cons _ _ _ _ _ (.v _ _ (.nl false)) (.cons _ _ _ _ _ (.v _ _ (.refl _)) .nil)) (by rfl) (by simp [leE, lk_cons]) (by decide) (by decide) rfl (by simp only [go_sem, qa, qb, qc, qd, qe, qf, qg, qh, qi, qj, qk, ↓reduceIte, resQ_tmp, resQ_cell, resQ_nil, retD_one, retD_two, retD_three, retD_none]; try simp [R.val, retD_one, retD_two, retD_three, retD_none])
  · have hh := getL_some h; clear h; obtain ⟨n4595, c4596, h4594, h⟩ := hh
    have hh := bnd'_some h; clear h; obtain ⟨p5133, h5134, h⟩ := hh
    refine W_sound tab_ok mixed 16 _ _ _ ?_
    simp -implicitDefEqProofs only [go_sem, qa, qb, qc, qd, qe, qf, qg, qh, qi, qj, qk, ↓reduceIte, h4586, h4591, h4593, h4594]
    repeat with_reducible refine And.intro (by first | kernel_rfl | decide) ?_
    refine Wp_callP (c68_3 N _ _ _ _ h5134) (by kernel_rfl) rfl rfl rfl rfl (by decide) ?_
    have hh := getT2_some h; clear h; obtain ⟨p5136, p5137, h5135, h⟩ := hh
    have hh := getL_some h; clear h; obtain ⟨n5139, c5140, h5138, h⟩ := hh
    have hh := getB_some h; clear h; obtain ⟨b5142, h5141, h⟩ := hh
    refine W_sound tab_ok mixed 14 _ _ _ ?_
    simp -implicitDefEqProofs only [go_sem, qa, qb, qc, qd, qe, qf, qg, qh, qi, qj, qk, ↓reduceIte, h4586, h4591, h4593, h4594, h5135, h5138, h5141]
    repeat with_reducible refine And.intro (by first | kernel_rfl | decide) ?_
    obtain rfl := Option.some.inj h
    exact finC [(2, .v (.lst false n5139 c5140)), (3, .v (.int .i64 0))] [(2, .v (.lst false n5139 c5140)), (3, .v (.int .i64 0))] (by simp [leE, lk_cons]) (.cons _ _ _ _ _ (.v _ _ (.refl _)) (.cons _ _ _ _ _ (.v _ _ (.refl _)) .nil)) (by rfl) (by simp [leE, lk_cons]) (by decide) (by decide) rfl (by simp only [go_sem, qa, qb, qc, qd, qe, qf, qg, qh, qi, qj, qk, ↓reduceIte, resQ_tmp, resQ_cell, resQ_nil, retD_one, retD_two, retD_three, retD_none]; try simp [R.val, retD_one, retD_two, retD_three, retD_none])
end Go.Proofs.YtnponojgpkbagaaDoor

namespace Go.Proofs.YtnponojgpkbagaaDoor
open Go.V
open Nat renaming reduceBEq → qa, reduceAdd → qb, reduceSub → qc, reduceMul → qd, reduceLT → qe, reduceLeDiff → qf
open Int renaming reduceLE → qg, reduceLT → qh, reduceToNat → qi, reduceBEq → qj, reduceBNe → qk
set_option maxRecDepth 100000
set_option maxHeartbeats 4000000
set_option linter.unusedSimpArgs false
set_option linter.unusedVariables false
attribute [local go_sem] tl1 tl2 tl3 tl4 tl5 tl9 tl17 tl21 tl22 tl23 tl24 tl25 tl26 tl27 tl28 tl29 tl31 tl32 tl34 tl35 tl36 tl37 tl38 tl39 tl40 tl41 tl42 tl43 tl44 tl45 tl47 tl48 tl49 tl50 tl51 tl52 tl53 tl54 tl55 tl56 tl57 tl58 tl59 tl60 tl61 tl62 tl63 tl64 tl65 tl66 tl67 tl68 tl69 tl70 tl71 tl72 tl73 tl74 tl75 tl76 tl77 tl78 tl79 tl80 tl81 tl82 tl83 tl84 tl85 tl86 tl87 tl88 tl89 tl90 tl92 tl94 tl95 tl96 tl97 tl98 tl99 tl100 tl101 tl102 tl103 tl104 tl105 tl106 tl107 tl108 tl109 tl110 tl111 tl112 tl113 tl114 tl115 tl116 tl118 tl119 tl121 tl122 tl123 tl124 tl125 tl126 tl127 tl128 tl129 tl131 tl133 tl134 tl135 tl136 tl142 tl146
def getA7 {α : Type} (p : PV) (k : PV → PV → PV → PV → PV → PV → PV → Option α) : Option α := match p with | .agg [a0, a1, a2, a3, a4, a5, a6] => k a0 a1 a2 a3 a4 a5 a6 | _ => none
theorem getA7_some {α : Type} {p : PV} {k : PV → PV → PV → PV → PV → PV → PV → Option α} {r : α} (h : getA7 p k = some r) : ∃ a0 a1 a2 a3 a4 a5 a6, p = .agg [a0, a1, a2, a3, a4, a5, a6] ∧ k a0 a1 a2 a3 a4 a5 a6 = some r := by
  unfold getA7 at h; split at h
  · exact ⟨_, _, _, _, _, _, _, rfl, h⟩
  · cases h

def m40_L2 (N : Nat) (x5144 : Int) (x5145 : Int) (x5146 : Int) (p5150 : PV) (p5151 : PV) (p5152 : PV) (p5153 : PV) (p5154 : PV) (x5156 : Int) (x5159 : Int) (x5335 : Int) (n5336 : Nat) (c5337 : List PV) (x5343 : Int) (x5396 : Int) : Nat → Nat → Int → Int → List PV → Option ((Nat × Int × List PV))
  | 0, _, _, _, _ => none
  | n + 1, n5407, x5408, x5409, c5410 =>
    brn (decide (x5409 < (IntKind.i64.wrap (1 + (Int.tmod (IntKind.i64.wrap x5156) x5144))))) (
      grd (0 ≤ x5408) <|
      brn ((bitsI .and .u16 (Int.fdiv x5343 (2 ^ (min (Int.toNat x5408) 16))) 1) == 1) (
        brn (decide (((n5407 : Nat) : Int) < x5146)) (
          grd ((n5407 + 1) ≤ 1099511627776) <|
          grd (List.length c5410 = (n5407 * 2)) <|
          m40_L2 N x5144 x5145 x5146 p5150 p5151 p5152 p5153 p5154 x5156 x5159 x5335 n5336 c5337 x5343 x5396 n (n5407 + 1) (IntKind.i64.wrap (x5408 + 1)) (IntKind.i64.wrap (x5409 + 1)) (c5410 ++ [(.int .i64 x5396), (.int .i64 x5409)])) (
          m40_L2 N x5144 x5145 x5146 p5150 p5151 p5152 p5153 p5154 x5156 x5159 x5335 n5336 c5337 x5343 x5396 n n5407 (IntKind.i64.wrap (x5408 + 1)) (IntKind.i64.wrap (x5409 + 1)) c5410)) (
        m40_L2 N x5144 x5145 x5146 p5150 p5151 p5152 p5153 p5154 x5156 x5159 x5335 n5336 c5337 x5343 x5396 n n5407 (IntKind.i64.wrap (x5408 + 1)) (IntKind.i64.wrap (x5409 + 1)) c5410)) (
      some (n5407, x5408, c5410))
def m40_L1 (N : Nat) (x5144 : Int) (x5145 : Int) (x5146 : Int) (p5150 : PV) (p5151 : PV) (p5152 : PV) (p5153 : PV) (p5154 : PV) (x5156 : Int) (x5159 : Int) (x5335 : Int) (n5336 : Nat) (c5337 : List PV) (x5343 : Int) : Nat → Nat → Int → Int → List PV → Option ((Nat × List PV))
  | 0, _, _, _, _ => none
  | n + 1, n5394, x5395, x5396, c5397 =>
    brn (decide (x5396 < (IntKind.i64.wrap (1 + (Int.tmod (IntKind.i64.wrap x5156) x5144))))) (
      bnd' (m40_L2 N x5144 x5145 x5146 p5150 p5151 p5152 p5153 p5154 x5156 x5159 x5335 n5336 c5337 x5343 x5396 N n5394 x5395 (IntKind.i64.wrap (x5396 + 1)) c5397) fun o =>
      match o with
      | (n5417, x5418, c5419) =>
        m40_L1 N x5144 x5145 x5146 p5150 p5151 p5152 p5153 p5154 x5156 x5159 x5335 n5336 c5337 x5343 n n5417 x5418 (IntKind.i64.wrap (x5396 + 1)) c5419) (
      some (n5394, c5397))
def m40_L0 (N : Nat) (x5144 : Int) (x5145 : Int) (x5146 : Int) (p5150 : PV) (p5151 : PV) (p5152 : PV) (p5153 : PV) (p5154 : PV) (x5156 : Int) (x5159 : Int) : Nat → Int → Nat → List PV → Option ((Nat × List PV))
  | 0, _, _, _ => none
  | n + 1, x5335, n5336, c5337 =>
    brn (decide (x5335 < (((Int.toNat (Int.tmod (IntKind.i64.wrap x5159) (IntKind.i64.wrap (x5145 + 1)))) : Nat) : Int))) (
      grd (0 ≤ x5335 ∧ x5335 < (((Int.toNat (Int.tmod (IntKind.i64.wrap x5159) (IntKind.i64.wrap (x5145 + 1)))) : Nat) : Int)) <|
      grd ((2 + (Int.toNat x5335)) < 7) <|
      getI .u16 (gp [(.int .u8 x5156), (.int .u8 x5159), p5150, p5151, p5152, p5153, p5154] (2 + (Int.toNat x5335))) fun x5343 =>
      bnd' (m40_L1 N x5144 x5145 x5146 p5150 p5151 p5152 p5153 p5154 x5156 x5159 x5335 n5336 c5337 x5343 N 0 0 0 []) fun o =>
      match o with
      | (n5420, c5421) =>
        grd ((n5336 + 1) ≤ 1099511627776) <|
        grd (List.length c5337 = n5336) <|
        grd (List.length c5421 = (n5420 * 2)) <|
        m40_L0 N x5144 x5145 x5146 p5150 p5151 p5152 p5153 p5154 x5156 x5159 n (IntKind.i64.wrap (x5335 + 1)) (n5336 + 1) (c5337 ++ [(.lst false n5420 c5421)])) (
      some (n5336, c5337))
def m40 (N : Nat) (p5143 : PV) (x5144 : Int) (x5145 : Int) (x5146 : Int) : Option (PV) :=
  getA7 p5143 fun p5148 p5149 p5150 p5151 p5152 p5153 p5154 =>
  getI .u8 p5148 fun x5156 =>
  grd (x5144 ≠ 0) <|
  getI .u8 p5149 fun x5159 =>
  grd ((IntKind.i64.wrap (x5145 + 1)) ≠ 0) <|
  grd (0 ≤ (Int.tmod (IntKind.i64.wrap x5159) (IntKind.i64.wrap (x5145 + 1))) ∧ (Int.tmod (IntKind.i64.wrap x5159) (IntKind.i64.wrap (x5145 + 1))) ≤ 5) <|
  bnd' (m40_L0 N x5144 x5145 x5146 p5150 p5151 p5152 p5153 p5154 x5156 x5159 N 0 0 []) fun o =>
  match o with
  | (n5425, c5426) =>
    grd (List.length c5426 = n5425) <|
    some (.agg [(.int .i64 (IntKind.i64.wrap (1 + (Int.tmod (IntKind.i64.wrap x5156) x5144)))), (.lst false n5425 c5426)])
theorem c40 (N : Nat) (p5143 : PV) (x5144 : Int) (x5145 : Int) (x5146 : Int) (r : PV)  (h : m40 N p5143 x5144 x5145 x5146 = some r) : FnP Tryd.prog 40 [p5143, (.int .i64 x5144), (.int .i64 x5145), (.int .i64 x5146)] r := by
  unfold m40 at h
  refine Fn_of (sz := 77) tab_ok [0, 1, 2, 3, 4, 8, 9, 11, 12, 13, 14, 15, 30, 31, 32, 33, 37, 38, 39, 46, 59] [.cell 8 24] Tryd.func40 rfl rfl rfl (by simp) ?_
  simp only [initSt, initEnv, List.map_cons, List.map_nil, List.getD_cons_zero, List.getD_cons_succ, List.getD_nil]
  have hh := getA7_some h; clear h; obtain ⟨p5148, p5149, p5150, p5151, p5152, p5153, p5154, h5147, h⟩ := hh
  have hh := getI_some h; clear h; obtain ⟨x5156, h5155, h⟩ := hh
  have hh := grd_some h; clear h; obtain ⟨g5157, h⟩ := hh
  have hh := getI_some h; clear h; obtain ⟨x5159, h5158, h⟩ := hh
  have hh := grd_some h; clear h; obtain ⟨g5160, h⟩ := hh
  have hh := grd_some h; clear h; obtain ⟨⟨g5161, g5162⟩, h⟩ := hh
  refine W_sound tab_ok mixed 31 _ _ _ ?_
  simp -implicitDefEqProofs only [go_sem, qa, qb, qc, qd, qe, qf, qg, qh, qi, qj, qk, ↓reduceIte, h5147, h5155, g5157, h5158, g5160, g5161, g5162]
  repeat with_reducible refine And.intro (by first | kernel_rfl | decide) ?_
  refine Wp_wkK Wk_norm rfl ?_
  simp -implicitDefEqProofs only [go_sem, qa, qb, qc, qd, qe, qf, qg, qh, qi, qj, qk, ↓reduceIte, normE, h5147, h5155, g5157, h5158, g5160, g5161, g5162]
  (try simp -implicitDefEqProofs only [go_sem, qa, qb, qc, qd, qe, qf, qg, qh, qi, qj, qk, ↓reduceIte, h5147, h5155, g5157, h5158, g5160, g5161, g5162])
  refine Wp_weaken (Wk_ownC 18 1 1 rfl rfl (by decide) (by decide)) ?_
  simp -implicitDefEqProofs only [go_sem, qa, qb, qc, qd, qe, qf, qg, qh, qi, qj, qk, ↓reduceIte, setO, h5147, h5155, g5157, h5158, g5160, g5161, g5162]
  have hh := bnd'_some h; clear h; obtain ⟨o5428, h5429, h5430⟩ := hh
  refine Wp_cut (fun s => ∃ n5425, ∃ c5426, (n5425, c5426) = o5428 ∧ s = ⟨[], [(0, .dead), (1, .dead), (2, .dead), (3, .dead), (4, .dead), (8, .ptr 0 0), (9, .ptr 1 0), (11, .dead), (12, .dead), (13, .dead), (14, .dead), (15, .dead), (30, .dead), (31, .dead), (32, .dead), (33, .dead), (37, .dead), (38, .dead), (39, .dead), (46, .dead), (59, .dead)], [(0, .p [(.int .i64 0), .nl]), (1, .r [.v (.int .i64 (IntKind.i64.wrap (1 + (Int.tmod (IntKind.i64.wrap x5156) x5144)))), .sl false 2 0 n5425 1]), (2, .p c5426)], 3, []⟩) ?_ ?_
  · refine Wp_block ?_
    refine Wp_loopG (fun n s => ∃ x5335, ∃ n5336, ∃ c5337, m40_L0 N x5144 x5145 x5146 p5150 p5151 p5152 p5153 p5154 x5156 x5159 n x5335 n5336 c5337 = some o5428 ∧ s = ⟨[], [(0, .dead), (1, .dead), (2, .dead), (3, .v (.int .i64 x5146)), (4, .dead), (8, .ptr 0 0), (9, .ptr 1 0), (11, .dead), (12, .dead), (13, .dead), (14, .dead), (15, .dead), (30, .sl false 2 2 (Int.toNat (Int.tmod (IntKind.i64.wrap x5159) (IntKind.i64.wrap (x5145 + 1)))) 1), (31, .v (.int .i64 (((Int.toNat (Int.tmod (IntKind.i64.wrap x5159) (IntKind.i64.wrap (x5145 + 1)))) : Nat) : Int))), (32, .v (.int .i64 x5335)), (33, .dead), (37, .dead), (38, .dead), (39, .dead), (46, .dead), (59, .dead)], [(0, .p [(.int .i64 0), .nl]), (1, .r [.v (.int .i64 (IntKind.i64.wrap (1 + (Int.tmod (IntKind.i64.wrap x5156) x5144)))), .sl false 3 0 n5336 1]), (2, .p [(.int .u8 x5156), (.int .u8 x5159), p5150, p5151, p5152, p5153, p5154]), (3, .p c5337)], 4, []⟩) N _ ((Wk_le (.k (.k (.k (.r (.k (.r (.r (.r (.r (.r (.r (.r (.r (.r (.r (.r (.r (.r (.r (.r (.r .nil))))))))))))))))))))) (OLe.refl _)).trans (cmpS_ok (st' := ⟨[], [(0, .dead), (1, .dead), (2, .dead), (3, .v (.int .i64 x5146)), (4, .dead), (8, .ptr 0 0), (9, .ptr 1 0), (11, .dead), (12, .dead), (13, .dead), (14, .dead), (15, .dead), (30, .sl false 2 2 (Int.toNat (Int.tmod (IntKind.i64.wrap x5159) (IntKind.i64.wrap (x5145 + 1)))) 1), (31, .v (.int .i64 (((Int.toNat (Int.tmod (IntKind.i64.wrap x5159) (IntKind.i64.wrap (x5145 + 1)))) : Nat) : Int))), (32, .v (.int .i64 0)), (33, .dead), (37, .dead), (38, .dead), (39, .dead), (46, .dead), (59, .dead)], [(0, .p [(.int .i64 0), .nl]), (1, .r [.v (.int .i64 (IntKind.i64.wrap (1 + (Int.tmod (IntKind.i64.wrap x5156) x5144)))), .sl false 3 0 0 1]), (2, .p [(.int .u8 x5156), (.int .u8 x5159), p5150, p5151, p5152, p5153, p5154]), (3, .p [])], 4, []⟩) (by kernel_rfl))) ⟨_, _, _, h5429, rfl⟩ ?_
    clear h5429
    rintro n _ ⟨x5335, n5336, c5337, h5429, rfl⟩
    cases n with
    | zero => cases h5429
    | succ n =>
      rw [m40_L0] at h5429
      have hh := brn_some h5429; clear h5429; rcases hh with ⟨h5338, h5429⟩ | ⟨h5338, h5429⟩
      · have hh := grd_some h5429; clear h5429; obtain ⟨⟨g5339, g5340⟩, h5429⟩ := hh
        have hh := grd_some h5429; clear h5429; obtain ⟨g5341, h5429⟩ := hh
        have hh := getI_some h5429; clear h5429; obtain ⟨x5343, h5342, h5429⟩ := hh
        refine W_sound tab_ok mixed 30 _ _ _ ?_
        simp -implicitDefEqProofs only [go_sem, qa, qb, qc, qd, qe, qf, qg, qh, qi, qj, qk, ↓reduceIte, h5147, h5155, g5157, h5158, g5160, g5161, g5162, h5338, g5339, g5340, g5341, h5342]
        repeat with_reducible refine And.intro (by first | kernel_rfl | decide) ?_
        refine Wp_weaken (Wk_ownS 12 2 rfl (by decide) (by decide)) ?_
        simp -implicitDefEqProofs only [go_sem, qa, qb, qc, qd, qe, qf, qg, qh, qi, qj, qk, ↓reduceIte, h5147, h5155, g5157, h5158, g5160, g5161, g5162, h5338, g5339, g5340, g5341, h5342]
        have hh := bnd'_some h5429; clear h5429; obtain ⟨o5431, h5432, h5433⟩ := hh
        refine Wp_cut (fun s => ∃ n5420, ∃ c5421, (n5420, c5421) = o5431 ∧ s = ⟨[], [(0, .dead), (1, .dead), (2, .dead), (3, .v (.int .i64 x5146)), (4, .dead), (8, .ptr 0 0), (9, .ptr 1 0), (11, .dead), (12, .sl false 2 0 n5420 2), (13, .dead), (14, .dead), (15, .dead), (30, .sl false 3 2 (Int.toNat (Int.tmod (IntKind.i64.wrap x5159) (IntKind.i64.wrap (x5145 + 1)))) 1), (31, .v (.int .i64 (((Int.toNat (Int.tmod (IntKind.i64.wrap x5159) (IntKind.i64.wrap (x5145 + 1)))) : Nat) : Int))), (32, .v (.int .i64 x5335)), (33, .dead), (37, .dead), (38, .dead), (39, .dead), (46, .dead), (59, .dead)], [(0, .p [(.int .i64 0), .nl]), (1, .r [.v (.int .i64 (IntKind.i64.wrap (1 + (Int.tmod (IntKind.i64.wrap x5156) x5144)))), .sl false 4 0 n5336 1]), (2, .p c5421), (3, .p [(.int .u8 x5156), (.int .u8 x5159), p5150, p5151, p5152, p5153, p5154]), (4, .p c5337)], 5, []⟩) ?_ ?_
        · refine Wp_block ?_
          refine Wp_loopG (fun n s => ∃ n5394, ∃ x5395, ∃ x5396, ∃ c5397, m40_L1 N x5144 x5145 x5146 p5150 p5151 p5152 p5153 p5154 x5156 x5159 x5335 n5336 c5337 x5343 n n5394 x5395 x5396 c5397 = some o5431 ∧ s = ⟨[], [(0, .dead), (1, .dead), (2, .dead), (3, .v (.int .i64 x5146)), (4, .dead), (8, .ptr 0 0), (9, .ptr 1 0), (11, .v (.int .u16 x5343)), (12, .sl false 2 0 n5394 2), (13, .v (.int .i64 x5395)), (14, .dead), (15, .dead), (30, .sl false 3 2 (Int.toNat (Int.tmod (IntKind.i64.wrap x5159) (IntKind.i64.wrap (x5145 + 1)))) 1), (31, .v (.int .i64 (((Int.toNat (Int.tmod (IntKind.i64.wrap x5159) (IntKind.i64.wrap (x5145 + 1)))) : Nat) : Int))), (32, .v (.int .i64 x5335)), (33, .dead), (37, .v (.int .i64 (IntKind.i64.wrap (1 + (Int.tmod (IntKind.i64.wrap x5156) x5144))))), (38, .v (.int .i64 x5396)), (39, .dead), (46, .dead), (59, .dead)], [(0, .p [(.int .i64 0), .nl]), (1, .r [.v (.int .i64 (IntKind.i64.wrap (1 + (Int.tmod (IntKind.i64.wrap x5156) x5144)))), .sl false 4 0 n5336 1]), (2, .p c5397), (3, .p [(.int .u8 x5156), (.int .u8 x5159), p5150, p5151, p5152, p5153, p5154]), (4, .p c5337)], 5, []⟩) N _ ((Wk_le (.r (.r (.r (.r (.r (.r (.r (.r (.r (.r (.r (.r (.r (.r (.r (.k (.r (.r (.r (.r (.r .nil))))))))))))))))))))) (OLe.refl _)).trans (cmpS_ok (st' := ⟨[], [(0, .dead), (1, .dead), (2, .dead), (3, .v (.int .i64 x5146)), (4, .dead), (8, .ptr 0 0), (9, .ptr 1 0), (11, .v (.int .u16 x5343)), (12, .sl false 2 0 0 2), (13, .v (.int .i64 0)), (14, .dead), (15, .dead), (30, .sl false 3 2 (Int.toNat (Int.tmod (IntKind.i64.wrap x5159) (IntKind.i64.wrap (x5145 + 1)))) 1), (31, .v (.int .i64 (((Int.toNat (Int.tmod (IntKind.i64.wrap x5159) (IntKind.i64.wrap (x5145 + 1)))) : Nat) : Int))), (32, .v (.int .i64 x5335)), (33, .dead), (37, .v (.int .i64 (IntKind.i64.wrap (1 + (Int.tmod (IntKind.i64.wrap x5156) x5144))))), (38, .v (.int .i64 0)), (39, .dead), (46, .dead), (59, .dead)], [(0, .p [(.int .i64 0), .nl]), (1, .r [.v (.int .i64 (IntKind.i64.wrap (1 + (Int.tmod (IntKind.i64.wrap x5156) x5144)))), .sl false 4 0 n5336 1]), (2, .p []), (3, .p [(.int .u8 x5156), (.int .u8 x5159), p5150, p5151, p5152, p5153, p5154]), (4, .p c5337)], 5, []⟩) (by kernel_rfl))) ⟨_, _, _, _, h5432, rfl⟩ ?_
          clear h5432
          rintro n _ ⟨n5394, x5395, x5396, c5397, h5432, rfl⟩
          cases n with
          | zero => cases h5432
          | succ n =>
            rw [m40_L1] at h5432
            have hh := brn_some h5432; clear h5432; rcases hh with ⟨h5398, h5432⟩ | ⟨h5398, h5432⟩
            · refine W_sound tab_ok mixed 20 _ _ _ ?_
              simp -implicitDefEqProofs only [go_sem, qa, qb, qc, qd, qe, qf, qg, qh, qi, qj, qk, ↓reduceIte, h5147, h5155, g5157, h5158, g5160, g5161, g5162, h5338, g5339, g5340, g5341, h5342, h5398]
              repeat with_reducible refine And.intro (by first | kernel_rfl | decide) ?_
              have hh := bnd'_some h5432; clear h5432; obtain ⟨o5434, h5435, h5436⟩ := hh
              refine Wp_cut (fun s => ∃ n5417, ∃ x5418, ∃ c5419, (n5417, x5418, c5419) = o5434 ∧ s = ⟨[], [(0, .dead), (1, .dead), (2, .dead), (3, .v (.int .i64 x5146)), (4, .dead), (8, .ptr 0 0), (9, .ptr 1 0), (11, .v (.int .u16 x5343)), (12, .sl false 2 0 n5417 2), (13, .v (.int .i64 x5418)), (14, .dead), (15, .dead), (30, .sl false 3 2 (Int.toNat (Int.tmod (IntKind.i64.wrap x5159) (IntKind.i64.wrap (x5145 + 1)))) 1), (31, .v (.int .i64 (((Int.toNat (Int.tmod (IntKind.i64.wrap x5159) (IntKind.i64.wrap (x5145 + 1)))) : Nat) : Int))), (32, .v (.int .i64 x5335)), (33, .dead), (37, .v (.int .i64 (IntKind.i64.wrap (1 + (Int.tmod (IntKind.i64.wrap x5156) x5144))))), (38, .v (.int .i64 x5396)), (39, .dead), (46, .dead), (59, .dead)], [(0, .p [(.int .i64 0), .nl]), (1, .r [.v (.int .i64 (IntKind.i64.wrap (1 + (Int.tmod (IntKind.i64.wrap x5156) x5144)))), .sl false 4 0 n5336 1]), (2, .p c5419), (3, .p [(.int .u8 x5156), (.int .u8 x5159), p5150, p5151, p5152, p5153, p5154]), (4, .p c5337)], 5, []⟩) ?_ ?_
              · refine Wp_block ?_
                refine Wp_loopG (fun n s => ∃ n5407, ∃ x5408, ∃ x5409, ∃ c5410, m40_L2 N x5144 x5145 x5146 p5150 p5151 p5152 p5153 p5154 x5156 x5159 x5335 n5336 c5337 x5343 x5396 n n5407 x5408 x5409 c5410 = some o5434 ∧ s = ⟨[], [(0, .dead), (1, .dead), (2, .dead), (3, .v (.int .i64 x5146)), (4, .dead), (8, .ptr 0 0), (9, .ptr 1 0), (11, .v (.int .u16 x5343)), (12, .sl false 2 0 n5407 2), (13, .v (.int .i64 x5408)), (14, .v (.int .i64 x5396)), (15, .v (.int .i64 x5409)), (30, .sl false 3 2 (Int.toNat (Int.tmod (IntKind.i64.wrap x5159) (IntKind.i64.wrap (x5145 + 1)))) 1), (31, .v (.int .i64 (((Int.toNat (Int.tmod (IntKind.i64.wrap x5159) (IntKind.i64.wrap (x5145 + 1)))) : Nat) : Int))), (32, .v (.int .i64 x5335)), (33, .dead), (37, .v (.int .i64 (IntKind.i64.wrap (1 + (Int.tmod (IntKind.i64.wrap x5156) x5144))))), (38, .v (.int .i64 x5396)), (39, .dead), (46, .dead), (59, .dead)], [(0, .p [(.int .i64 0), .nl]), (1, .r [.v (.int .i64 (IntKind.i64.wrap (1 + (Int.tmod (IntKind.i64.wrap x5156) x5144)))), .sl false 4 0 n5336 1]), (2, .p c5410), (3, .p [(.int .u8 x5156), (.int .u8 x5159), p5150, p5151, p5152, p5153, p5154]), (4, .p c5337)], 5, []⟩) N _ ((Wk_le (.r (.r (.r (.r (.r (.r (.r (.r (.r (.r (.r (.r (.r (.r (.r (.r (.r (.r (.k (.r (.r .nil))))))))))))))))))))) (OLe.refl _)).trans (cmpS_ok (st' := ⟨[], [(0, .dead), (1, .dead), (2, .dead), (3, .v (.int .i64 x5146)), (4, .dead), (8, .ptr 0 0), (9, .ptr 1 0), (11, .v (.int .u16 x5343)), (12, .sl false 2 0 n5394 2), (13, .v (.int .i64 x5395)), (14, .v (.int .i64 x5396)), (15, .v (.int .i64 (IntKind.i64.wrap (x5396 + 1)))), (30, .sl false 3 2 (Int.toNat (Int.tmod (IntKind.i64.wrap x5159) (IntKind.i64.wrap (x5145 + 1)))) 1), (31, .v (.int .i64 (((Int.toNat (Int.tmod (IntKind.i64.wrap x5159) (IntKind.i64.wrap (x5145 + 1)))) : Nat) : Int))), (32, .v (.int .i64 x5335)), (33, .dead), (37, .v (.int .i64 (IntKind.i64.wrap (1 + (Int.tmod (IntKind.i64.wrap x5156) x5144))))), (38, .v (.int .i64 x5396)), (39, .dead), (46, .dead), (59, .dead)], [(0, .p [(.int .i64 0), .nl]), (1, .r [.v (.int .i64 (IntKind.i64.wrap (1 + (Int.tmod (IntKind.i64.wrap x5156) x5144)))), .sl false 4 0 n5336 1]), (2, .p c5397), (3, .p [(.int .u8 x5156), (.int .u8 x5159), p5150, p5151, p5152, p5153, p5154]), (4, .p c5337)], 5, []⟩) (by kernel_rfl))) ⟨_, _, _, _, h5435, rfl⟩ ?_
                clear h5435
                rintro n _ ⟨n5407, x5408, x5409, c5410, h5435, rfl⟩
                cases n with
                | zero => cases h5435
                | succ n =>
                  rw [m40_L2] at h5435
                  have hh := brn_some h5435; clear h5435; rcases hh with ⟨h5411, h5435⟩ | ⟨h5411, h5435⟩
                  · have hh := grd_some h5435; clear h5435; obtain ⟨g5412, h5435⟩ := hh
                    have hh := brn_some h5435; clear h5435; rcases hh with ⟨h5413, h5435⟩ | ⟨h5413, h5435⟩
                    · have hh := brn_some h5435; clear h5435; rcases hh with ⟨h5414, h5435⟩ | ⟨h5414, h5435⟩
                      · have hh := grd_some h5435; clear h5435; obtain ⟨g5415, h5435⟩ := hh
                        have hh := grd_some h5435; clear h5435; obtain ⟨g5416, h5435⟩ := hh
                        refine W_sound tab_ok mixed 48 _ _ _ ?_
                        simp -implicitDefEqProofs only [go_sem, qa, qb, qc, qd, qe, qf, qg, qh, qi, qj, qk, ↓reduceIte, h5147, h5155, g5157, h5158, g5160, g5161, g5162, h5338, g5339, g5340, g5341, h5342, h5398, h5411, g5412, h5413, h5414, g5415, g5416]
                        repeat with_reducible refine And.intro (by first | kernel_rfl | decide) ?_
                        exact cutQ _ ((Wk_le (.r (.r (.r (.r (.r (.r (.r (.r (.r (.r (.r (.r (.r (.r (.r (.r (.r (.r (.r (.k (.k .nil))))))))))))))))))))) (OLe.refl _)).trans (cmpS_ok (st' := ⟨[], [(0, .dead), (1, .dead), (2, .dead), (3, .v (.int .i64 x5146)), (4, .dead), (8, .ptr 0 0), (9, .ptr 1 0), (11, .v (.int .u16 x5343)), (12, .sl false 2 0 (n5407 + 1) 2), (13, .v (.int .i64 (IntKind.i64.wrap (x5408 + 1)))), (14, .v (.int .i64 x5396)), (15, .v (.int .i64 (IntKind.i64.wrap (x5409 + 1)))), (30, .sl false 3 2 (Int.toNat (Int.tmod (IntKind.i64.wrap x5159) (IntKind.i64.wrap (x5145 + 1)))) 1), (31, .v (.int .i64 (((Int.toNat (Int.tmod (IntKind.i64.wrap x5159) (IntKind.i64.wrap (x5145 + 1)))) : Nat) : Int))), (32, .v (.int .i64 x5335)), (33, .dead), (37, .v (.int .i64 (IntKind.i64.wrap (1 + (Int.tmod (IntKind.i64.wrap x5156) x5144))))), (38, .v (.int .i64 x5396)), (39, .dead), (46, .dead), (59, .dead)], [(0, .p [(.int .i64 0), .nl]), (1, .r [.v (.int .i64 (IntKind.i64.wrap (1 + (Int.tmod (IntKind.i64.wrap x5156) x5144)))), .sl false 4 0 n5336 1]), (2, .p (c5410 ++ [(.int .i64 x5396), (.int .i64 x5409)])), (3, .p [(.int .u8 x5156), (.int .u8 x5159), p5150, p5151, p5152, p5153, p5154]), (4, .p c5337)], 5, []⟩) (by kernel_rfl))) ⟨n, Nat.lt_succ_self n, _, _, _, _, h5435, rfl⟩
                      · refine W_sound tab_ok mixed 40 _ _ _ ?_
                        simp -implicitDefEqProofs only [go_sem, qa, qb, qc, qd, qe, qf, qg, qh, qi, qj, qk, ↓reduceIte, h5147, h5155, g5157, h5158, g5160, g5161, g5162, h5338, g5339, g5340, g5341, h5342, h5398, h5411, g5412, h5413, h5414]
                        repeat with_reducible refine And.intro (by first | kernel_rfl | decide) ?_
                        exact cutQ _ ((Wk_le (.r (.r (.r (.r (.r (.r (.r (.r (.r (.r (.r (.r (.r (.r (.r (.r (.r (.r (.r (.k (.k .nil))))))))))))))))))))) (OLe.refl _)).trans (cmpS_ok (st' := ⟨[], [(0, .dead), (1, .dead), (2, .dead), (3, .v (.int .i64 x5146)), (4, .dead), (8, .ptr 0 0), (9, .ptr 1 0), (11, .v (.int .u16 x5343)), (12, .sl false 2 0 n5407 2), (13, .v (.int .i64 (IntKind.i64.wrap (x5408 + 1)))), (14, .v (.int .i64 x5396)), (15, .v (.int .i64 (IntKind.i64.wrap (x5409 + 1)))), (30, .sl false 3 2 (Int.toNat (Int.tmod (IntKind.i64.wrap x5159) (IntKind.i64.wrap (x5145 + 1)))) 1), (31, .v (.int .i64 (((Int.toNat (Int.tmod (IntKind.i64.wrap x5159) (IntKind.i64.wrap (x5145 + 1)))) : Nat) : Int))), (32, .v (.int .i64 x5335)), (33, .dead), (37, .v (.int .i64 (IntKind.i64.wrap (1 + (Int.tmod (IntKind.i64.wrap x5156) x5144))))), (38, .v (.int .i64 x5396)), (39, .dead), (46, .dead), (59, .dead)], [(0, .p [(.int .i64 0), .nl]), (1, .r [.v (.int .i64 (IntKind.i64.wrap (1 + (Int.tmod (IntKind.i64.wrap x5156) x5144)))), .sl false 4 0 n5336 1]), (2, .p c5410), (3, .p [(.int .u8 x5156), (.int .u8 x5159), p5150, p5151, p5152, p5153, p5154]), (4, .p c5337)], 5, []⟩) (by kernel_rfl))) ⟨n, Nat.lt_succ_self n, _, _, _, _, h5435, rfl⟩
                    · refine W_sound tab_ok mixed 40 _ _ _ ?_
                      simp -implicitDefEqProofs only [go_sem, qa, qb, qc, qd, qe, qf, qg, qh, qi, qj, qk, ↓reduceIte, h5147, h5155, g5157, h5158, g5160, g5161, g5162, h5338, g5339, g5340, g5341, h5342, h5398, h5411, g5412, h5413]
                      repeat with_reducible refine And.intro (by first | kernel_rfl | decide) ?_
                      exact cutQ _ ((Wk_le (.r (.r (.r (.r (.r (.r (.r (.r (.r (.r (.r (.r (.r (.r (.r (.r (.r (.r (.r (.k (.k .nil))))))))))))))))))))) (OLe.refl _)).trans (cmpS_ok (st' := ⟨[], [(0, .dead), (1, .dead), (2, .dead), (3, .v (.int .i64 x5146)), (4, .dead), (8, .ptr 0 0), (9, .ptr 1 0), (11, .v (.int .u16 x5343)), (12, .sl false 2 0 n5407 2), (13, .v (.int .i64 (IntKind.i64.wrap (x5408 + 1)))), (14, .v (.int .i64 x5396)), (15, .v (.int .i64 (IntKind.i64.wrap (x5409 + 1)))), (30, .sl false 3 2 (Int.toNat (Int.tmod (IntKind.i64.wrap x5159) (IntKind.i64.wrap (x5145 + 1)))) 1), (31, .v (.int .i64 (((Int.toNat (Int.tmod (IntKind.i64.wrap x5159) (IntKind.i64.wrap (x5145 + 1)))) : Nat) : Int))), (32, .v (.int .i64 x5335)), (33, .dead), (37, .v (.int .i64 (IntKind.i64.wrap (1 + (Int.tmod (IntKind.i64.wrap x5156) x5144))))), (38, .v (.int .i64 x5396)), (39, .dead), (46, .dead), (59, .dead)], [(0, .p [(.int .i64 0), .nl]), (1, .r [.v (.int .i64 (IntKind.i64.wrap (1 + (Int.tmod (IntKind.i64.wrap x5156) x5144)))), .sl false 4 0 n5336 1]), (2, .p c5410), (3, .p [(.int .u8 x5156), (.int .u8 x5159), p5150, p5151, p5152, p5153, p5154]), (4, .p c5337)], 5, []⟩) (by kernel_rfl))) ⟨n, Nat.lt_succ_self n, _, _, _, _, h5435, rfl⟩
                  · refine W_sound tab_ok mixed 10 _ _ _ ?_
                    simp -implicitDefEqProofs only [go_sem, qa, qb, qc, qd, qe, qf, qg, qh, qi, qj, qk, ↓reduceIte, h5147, h5155, g5157, h5158, g5160, g5161, g5162, h5338, g5339, g5340, g5341, h5342, h5398, h5411]
                    repeat with_reducible refine And.intro (by first | kernel_rfl | decide) ?_
                    obtain rfl := Option.some.inj h5435
                    exact cutQ _ ((Wk_le (.r (.r (.r (.r (.r (.r (.r (.r (.r (.r (.k (.k (.r (.r (.r (.r (.r (.r (.r (.k (.r .nil))))))))))))))))))))) (OLe.refl _)).trans (cmpS_ok (st' := ⟨[], [(0, .dead), (1, .dead), (2, .dead), (3, .v (.int .i64 x5146)), (4, .dead), (8, .ptr 0 0), (9, .ptr 1 0), (11, .v (.int .u16 x5343)), (12, .sl false 2 0 n5407 2), (13, .v (.int .i64 x5408)), (14, .dead), (15, .dead), (30, .sl false 3 2 (Int.toNat (Int.tmod (IntKind.i64.wrap x5159) (IntKind.i64.wrap (x5145 + 1)))) 1), (31, .v (.int .i64 (((Int.toNat (Int.tmod (IntKind.i64.wrap x5159) (IntKind.i64.wrap (x5145 + 1)))) : Nat) : Int))), (32, .v (.int .i64 x5335)), (33, .dead), (37, .v (.int .i64 (IntKind.i64.wrap (1 + (Int.tmod (IntKind.i64.wrap x5156) x5144))))), (38, .v (.int .i64 x5396)), (39, .dead), (46, .dead), (59, .dead)], [(0, .p [(.int .i64 0), .nl]), (1, .r [.v (.int .i64 (IntKind.i64.wrap (1 + (Int.tmod (IntKind.i64.wrap x5156) x5144)))), .sl false 4 0 n5336 1]), (2, .p c5410), (3, .p [(.int .u8 x5156), (.int .u8 x5159), p5150, p5151, p5152, p5153, p5154]), (4, .p c5337)], 5, []⟩) (by kernel_rfl))) ⟨_, _, _, rfl, rfl⟩
              · rintro _ ⟨n5417, x5418, c5419, rfl, rfl⟩
                (try dsimp only at h5436)
                refine W_sound tab_ok mixed 5 _ _ _ ?_
                simp -implicitDefEqProofs only [go_sem, qa, qb, qc, qd, qe, qf, qg, qh, qi, qj, qk, ↓reduceIte, h5147, h5155, g5157, h5158, g5160, g5161, g5162, h5338, g5339, g5340, g5341, h5342, h5398]
                repeat with_reducible refine And.intro (by first | kernel_rfl | decide) ?_
                exact cutQ _ ((Wk_le (.r (.r (.r (.r (.r (.r (.r (.r (.r (.r (.r (.r (.r (.r (.r (.r (.r (.r (.r (.r (.r .nil))))))))))))))))))))) (OLe.refl _)).trans (cmpS_ok (st' := ⟨[], [(0, .dead), (1, .dead), (2, .dead), (3, .v (.int .i64 x5146)), (4, .dead), (8, .ptr 0 0), (9, .ptr 1 0), (11, .v (.int .u16 x5343)), (12, .sl false 2 0 n5417 2), (13, .v (.int .i64 x5418)), (14, .dead), (15, .dead), (30, .sl false 3 2 (Int.toNat (Int.tmod (IntKind.i64.wrap x5159) (IntKind.i64.wrap (x5145 + 1)))) 1), (31, .v (.int .i64 (((Int.toNat (Int.tmod (IntKind.i64.wrap x5159) (IntKind.i64.wrap (x5145 + 1)))) : Nat) : Int))), (32, .v (.int .i64 x5335)), (33, .dead), (37, .v (.int .i64 (IntKind.i64.wrap (1 + (Int.tmod (IntKind.i64.wrap x5156) x5144))))), (38, .v (.int .i64 (IntKind.i64.wrap (x5396 + 1)))), (39, .dead), (46, .dead), (59, .dead)], [(0, .p [(.int .i64 0), .nl]), (1, .r [.v (.int .i64 (IntKind.i64.wrap (1 + (Int.tmod (IntKind.i64.wrap x5156) x5144)))), .sl false 4 0 n5336 1]), (2, .p c5419), (3, .p [(.int .u8 x5156), (.int .u8 x5159), p5150, p5151, p5152, p5153, p5154]), (4, .p c5337)], 5, []⟩) (by kernel_rfl))) ⟨n, Nat.lt_succ_self n, _, _, _, _, h5436, rfl⟩
            · refine W_sound tab_ok mixed 7 _ _ _ ?_
              simp -implicitDefEqProofs only [go_sem, qa, qb, qc, qd, qe, qf, qg, qh, qi, qj, qk, ↓reduceIte, h5147, h5155, g5157, h5158, g5160, g5161, g5162, h5338, g5339, g5340, g5341, h5342, h5398]
              repeat with_reducible refine And.intro (by first | kernel_rfl | decide) ?_
              obtain rfl := Option.some.inj h5432
              exact cutQ _ ((Wk_le (.r (.r (.r (.r (.r (.r (.r (.k (.r (.k (.r (.r (.r (.r (.r (.r (.k (.k (.k (.r (.r .nil))))))))))))))))))))) (OLe.refl _)).trans (cmpS_ok (st' := ⟨[], [(0, .dead), (1, .dead), (2, .dead), (3, .v (.int .i64 x5146)), (4, .dead), (8, .ptr 0 0), (9, .ptr 1 0), (11, .dead), (12, .sl false 2 0 n5394 2), (13, .dead), (14, .dead), (15, .dead), (30, .sl false 3 2 (Int.toNat (Int.tmod (IntKind.i64.wrap x5159) (IntKind.i64.wrap (x5145 + 1)))) 1), (31, .v (.int .i64 (((Int.toNat (Int.tmod (IntKind.i64.wrap x5159) (IntKind.i64.wrap (x5145 + 1)))) : Nat) : Int))), (32, .v (.int .i64 x5335)), (33, .dead), (37, .dead), (38, .dead), (39, .dead), (46, .dead), (59, .dead)], [(0, .p [(.int .i64 0), .nl]), (1, .r [.v (.int .i64 (IntKind.i64.wrap (1 + (Int.tmod (IntKind.i64.wrap x5156) x5144)))), .sl false 4 0 n5336 1]), (2, .p c5397), (3, .p [(.int .u8 x5156), (.int .u8 x5159), p5150, p5151, p5152, p5153, p5154]), (4, .p c5337)], 5, []⟩) (by kernel_rfl))) ⟨_, _, rfl, rfl⟩
        · rintro _ ⟨n5420, c5421, rfl, rfl⟩
          (try dsimp only at h5433)
          have hh := grd_some h5433; clear h5433; obtain ⟨g5422, h5433⟩ := hh
          have hh := grd_some h5433; clear h5433; obtain ⟨g5423, h5433⟩ := hh
          refine W_sound tab_ok mixed 9 _ _ _ ?_
          simp -implicitDefEqProofs only [go_sem, qa, qb, qc, qd, qe, qf, qg, qh, qi, qj, qk, ↓reduceIte, h5147, h5155, g5157, h5158, g5160, g5161, g5162, h5338, g5339, g5340, g5341, h5342, g5422, g5423]
          repeat with_reducible refine And.intro (by first | kernel_rfl | decide) ?_
          have hh := grd_some h5433; clear h5433; obtain ⟨g5424, h5433⟩ := hh
          refine Wp_wkK (Wk_freeze 2 c5421 (by rfl) (by decide) (by decide)) rfl ?_
          simp -implicitDefEqProofs only [go_sem, qa, qb, qc, qd, qe, qf, qg, qh, qi, qj, qk, ↓reduceIte, h5147, h5155, g5157, h5158, g5160, g5161, g5162, h5338, g5339, g5340, g5341, h5342, g5422, g5423, g5424]
          refine W_sound tab_ok mixed 5 _ _ _ ?_
          simp -implicitDefEqProofs only [go_sem, qa, qb, qc, qd, qe, qf, qg, qh, qi, qj, qk, ↓reduceIte, h5147, h5155, g5157, h5158, g5160, g5161, g5162, h5338, g5339, g5340, g5341, h5342, g5422, g5423, g5424]
          repeat with_reducible refine And.intro (by first | kernel_rfl | decide) ?_
          exact cutQ _ ((Wk_le (.r (.r (.r (.r (.r (.r (.r (.r (.k (.r (.r (.r (.r (.r (.r (.r (.r (.r (.r (.r (.r .nil))))))))))))))))))))) (OLe.refl _)).trans (cmpS_ok (st' := ⟨[], [(0, .dead), (1, .dead), (2, .dead), (3, .v (.int .i64 x5146)), (4, .dead), (8, .ptr 0 0), (9, .ptr 1 0), (11, .dead), (12, .dead), (13, .dead), (14, .dead), (15, .dead), (30, .sl false 2 2 (Int.toNat (Int.tmod (IntKind.i64.wrap x5159) (IntKind.i64.wrap (x5145 + 1)))) 1), (31, .v (.int .i64 (((Int.toNat (Int.tmod (IntKind.i64.wrap x5159) (IntKind.i64.wrap (x5145 + 1)))) : Nat) : Int))), (32, .v (.int .i64 (IntKind.i64.wrap (x5335 + 1)))), (33, .dead), (37, .dead), (38, .dead), (39, .dead), (46, .dead), (59, .dead)], [(0, .p [(.int .i64 0), .nl]), (1, .r [.v (.int .i64 (IntKind.i64.wrap (1 + (Int.tmod (IntKind.i64.wrap x5156) x5144)))), .sl false 3 0 (n5336 + 1) 1]), (2, .p [(.int .u8 x5156), (.int .u8 x5159), p5150, p5151, p5152, p5153, p5154]), (3, .p (c5337 ++ [(.lst false n5420 c5421)]))], 4, []⟩) (by kernel_rfl))) ⟨n, Nat.lt_succ_self n, _, _, _, h5433, rfl⟩
      · refine W_sound tab_ok mixed 7 _ _ _ ?_
        simp -implicitDefEqProofs only [go_sem, qa, qb, qc, qd, qe, qf, qg, qh, qi, qj, qk, ↓reduceIte, h5147, h5155, g5157, h5158, g5160, g5161, g5162, h5338]
        repeat with_reducible refine And.intro (by first | kernel_rfl | decide) ?_
        obtain rfl := Option.some.inj h5429
        exact cutQ _ ((Wk_le (.r (.r (.r (.k (.r (.r (.r (.r (.r (.r (.r (.r (.k (.k (.k (.k (.r (.r (.r (.r (.r .nil))))))))))))))))))))) (OLe.refl _)).trans (cmpS_ok (st' := ⟨[], [(0, .dead), (1, .dead), (2, .dead), (3, .dead), (4, .dead), (8, .ptr 0 0), (9, .ptr 1 0), (11, .dead), (12, .dead), (13, .dead), (14, .dead), (15, .dead), (30, .dead), (31, .dead), (32, .dead), (33, .dead), (37, .dead), (38, .dead), (39, .dead), (46, .dead), (59, .dead)], [(0, .p [(.int .i64 0), .nl]), (1, .r [.v (.int .i64 (IntKind.i64.wrap (1 + (Int.tmod (IntKind.i64.wrap x5156) x5144)))), .sl false 2 0 n5336 1]), (2, .p c5337)], 3, []⟩) (by kernel_rfl))) ⟨_, _, rfl, rfl⟩
  · rintro _ ⟨n5425, c5426, rfl, rfl⟩
    (try dsimp only at h5430)
    refine W_sound tab_ok mixed 7 _ _ _ ?_
    simp -implicitDefEqProofs only [go_sem, qa, qb, qc, qd, qe, qf, qg, qh, qi, qj, qk, ↓reduceIte, h5147, h5155, g5157, h5158, g5160, g5161, g5162]
    repeat with_reducible refine And.intro (by first | kernel_rfl | decide) ?_
    have hh := grd_some h5430; clear h5430; obtain ⟨g5427, h5430⟩ := hh
    refine FinQ_wk (Wk_freeze 2 c5426 (by rfl) (by decide) (by decide)) ?_
    simp -implicitDefEqProofs only [go_sem, qa, qb, qc, qd, qe, qf, qg, qh, qi, qj, qk, ↓reduceIte, h5147, h5155, g5157, h5158, g5160, g5161, g5162, g5427]
    refine FinQ_wk (Wk_freeze 0 [(.int .i64 (IntKind.i64.wrap (1 + (Int.tmod (IntKind.i64.wrap x5156) x5144)))), (.lst false n5425 c5426)] (by rfl) (by decide) (by decide)) ?_
    simp -implicitDefEqProofs only [go_sem, qa, qb, qc, qd, qe, qf, qg, qh, qi, qj, qk, ↓reduceIte, h5147, h5155, g5157, h5158, g5160, g5161, g5162, g5427]
    obtain rfl := Option.some.inj h5430
    exact finC [(8, .v (.ipt [(.int .i64 (IntKind.i64.wrap (1 + (Int.tmod (IntKind.i64.wrap x5156) x5144)))), (.lst false n5425 c5426)]))] [(8, .v (.ipt [(.int .i64 (IntKind.i64.wrap (1 + (Int.tmod (IntKind.i64.wrap x5156) x5144)))), (.lst false n5425 c5426)]))] (by simp [leE, lk_cons]) (.cons _ _ _ _ _ (.v _ _ (.refl _)) .nil) (by rfl) (by simp [leE, lk_cons]) (by decide) (by decide) rfl (by simp only [go_sem, qa, qb, qc, qd, qe, qf, qg, qh, qi, qj, qk, ↓reduceIte, resQ_tmp, resQ_cell, resQ_nil, retD_one, retD_two, retD_three, retD_none]; try simp [R.val, retD_one, retD_two, retD_three, retD_none])

def m45_L0 (N : Nat)  : Nat → Int → Nat → List PV → Option ((Nat × List PV))
  | 0, _, _, _ => none
  | n + 1, x5458, n5459, c5460 =>
    brn (x5458 != 0) (
      bnd' (m90 N x5458) fun p5462 =>
      getI .i64 p5462 fun x5465 =>
      grd ((n5459 + 1) ≤ 1099511627776) <|
      grd (List.length c5460 = n5459) <|
      m45_L0 N  n (bitsI .and .u64 x5458 (IntKind.u64.wrap (x5458 - 1))) (n5459 + 1) (c5460 ++ [(.int .i64 x5465)])) (
      some (n5459, c5460))
def m45 (N : Nat) (x5445 : Int) : Option (PV) :=
  bnd' (m45_L0 N  N x5445 0 []) fun o =>
  match o with
  | (n5468, c5469) =>
    grd (List.length c5469 = n5468) <|
    some (.lst false n5468 c5469)
theorem c45 (N : Nat) (x5445 : Int) (r : PV)  (h : m45 N x5445 = some r) : FnP Tryd.prog 45 [(.int .u64 x5445)] r := by
  unfold m45 at h
  refine Fn_of (sz := 16) tab_ok [0, 2, 3, 5] [.tmp 2] Tryd.func45 rfl rfl rfl (by simp) ?_
  simp only [initSt, initEnv, List.map_cons, List.map_nil, List.getD_cons_zero, List.getD_cons_succ, List.getD_nil]
  refine W_sound tab_ok mixed 9 _ _ _ ?_
  simp -implicitDefEqProofs only [go_sem, qa, qb, qc, qd, qe, qf, qg, qh, qi, qj, qk, ↓reduceIte]
  repeat with_reducible refine And.intro (by first | kernel_rfl | decide) ?_
  refine Wp_weaken (Wk_ownS 3 1 rfl (by decide) (by decide)) ?_
  simp -implicitDefEqProofs only [go_sem, qa, qb, qc, qd, qe, qf, qg, qh, qi, qj, qk, ↓reduceIte]
  have hh := bnd'_some h; clear h; obtain ⟨o5471, h5472, h5473⟩ := hh
  refine Wp_cut (fun s => ∃ n5468, ∃ c5469, (n5468, c5469) = o5471 ∧ s = ⟨[], [(0, .dead), (2, .dead), (3, .sl false 0 0 n5468 1), (5, .dead)], [(0, .p c5469)], 1, []⟩) ?_ ?_
  · refine Wp_block ?_
    refine Wp_loopG (fun n s => ∃ x5458, ∃ n5459, ∃ c5460, m45_L0 N  n x5458 n5459 c5460 = some o5471 ∧ s = ⟨[], [(0, .v (.int .u64 x5458)), (2, .dead), (3, .sl false 0 0 n5459 1), (5, .dead)], [(0, .p c5460)], 1, []⟩) N _ ((Wk_le (.r (.k (.r (.r .nil)))) (OLe.refl _)).trans (cmpS_ok rfl)) ⟨_, _, _, h5472, rfl⟩ ?_
    clear h5472
    rintro n _ ⟨x5458, n5459, c5460, h5472, rfl⟩
    cases n with
    | zero => cases h5472
    | succ n =>
      rw [m45_L0] at h5472
      have hh := brn_some h5472; clear h5472; rcases hh with ⟨h5461, h5472⟩ | ⟨h5461, h5472⟩
      · have hh := bnd'_some h5472; clear h5472; obtain ⟨p5462, h5463, h5472⟩ := hh
        refine W_sound tab_ok mixed 13 _ _ _ ?_
        simp -implicitDefEqProofs only [go_sem, qa, qb, qc, qd, qe, qf, qg, qh, qi, qj, qk, ↓reduceIte, h5461]
        repeat with_reducible refine And.intro (by first | kernel_rfl | decide) ?_
        refine Wp_callP (c90 N _ _ h5463) (by kernel_rfl) rfl rfl rfl rfl (by decide) ?_
        have hh := getI_some h5472; clear h5472; obtain ⟨x5465, h5464, h5472⟩ := hh
        have hh := grd_some h5472; clear h5472; obtain ⟨g5466, h5472⟩ := hh
        have hh := grd_some h5472; clear h5472; obtain ⟨g5467, h5472⟩ := hh
        refine W_sound tab_ok mixed 12 _ _ _ ?_
        simp -implicitDefEqProofs only [go_sem, qa, qb, qc, qd, qe, qf, qg, qh, qi, qj, qk, ↓reduceIte, h5461, h5464, g5466, g5467]
        repeat with_reducible refine And.intro (by first | kernel_rfl | decide) ?_
        exact cutQ _ ((Wk_le (.r (.r (.r (.k .nil)))) (OLe.refl _)).trans (cmpS_ok rfl)) ⟨n, Nat.lt_succ_self n, _, _, _, h5472, rfl⟩
      · refine W_sound tab_ok mixed 8 _ _ _ ?_
        simp -implicitDefEqProofs only [go_sem, qa, qb, qc, qd, qe, qf, qg, qh, qi, qj, qk, ↓reduceIte, h5461]
        repeat with_reducible refine And.intro (by first | kernel_rfl | decide) ?_
        obtain rfl := Option.some.inj h5472
        exact cutQ _ ((Wk_le (.k (.r (.r (.k .nil)))) (OLe.refl _)).trans (cmpS_ok rfl)) ⟨_, _, rfl, rfl⟩
  · rintro _ ⟨n5468, c5469, rfl, rfl⟩
    (try dsimp only at h5473)
    refine W_sound tab_ok mixed 7 _ _ _ ?_
    simp -implicitDefEqProofs only [go_sem, qa, qb, qc, qd, qe, qf, qg, qh, qi, qj, qk, ↓reduceIte]
    repeat with_reducible refine And.intro (by first | kernel_rfl | decide) ?_
    have hh := grd_some h5473; clear h5473; obtain ⟨g5470, h5473⟩ := hh
    refine FinQ_wk (Wk_freeze 0 c5469 (by rfl) (by decide) (by decide)) ?_
    simp -implicitDefEqProofs only [go_sem, qa, qb, qc, qd, qe, qf, qg, qh, qi, qj, qk, ↓reduceIte, g5470]
    obtain rfl := Option.some.inj h5473
    exact finC [(2, .v (.lst false n5468 c5469))] [(2, .v (.lst false n5468 c5469))] (by simp [leE, lk_cons]) (.cons _ _ _ _ _ (.v _ _ (.refl _)) .nil) (by rfl) (by simp [leE, lk_cons]) (by decide) (by decide) rfl (by simp only [go_sem, qa, qb, qc, qd, qe, qf, qg, qh, qi, qj, qk, ↓reduceIte, resQ_tmp, resQ_cell, resQ_nil, retD_one, retD_two, retD_three, retD_none]; try simp [R.val, retD_one, retD_two, retD_three, retD_none])

def m49_L1 (N : Nat) (n5476 : Nat) (c5477 : List PV) (x5521 : Int) (x5536 : Int) (x5543 : Int) : Nat → Int → List PV → Option (List PV)
  | 0, _, _ => none
  | n + 1, x5554, c5555 =>
    brn (decide (x5554 < 5)) (
      grd (0 ≤ x5554 ∧ x5554 < 5) <|
      grd ((Int.toNat x5554) < List.length c5555) <|
      getI .i64 (gp c5555 (Int.toNat x5554)) fun x5561 =>
      brn (x5561 == x5536) (
        grd (((Int.toNat x5554) + 1) ≤ List.length c5555) <|
        m49_L1 N n5476 c5477 x5521 x5536 x5543 n (IntKind.i64.wrap (x5554 + 1)) (List.set c5555 (Int.toNat x5554) (.int .i64 x5543))) (
        m49_L1 N n5476 c5477 x5521 x5536 x5543 n (IntKind.i64.wrap (x5554 + 1)) c5555)) (
      some c5555)
def m49_L0 (N : Nat) (n5476 : Nat) (c5477 : List PV) : Nat → Int → List PV → Option ((PV ⊕ Unit))
  | 0, _, _ => none
  | n + 1, x5521, c5522 =>
    brn (decide (x5521 < ((n5476 : Nat) : Int))) (
      grd (0 ≤ x5521 ∧ x5521 < ((n5476 : Nat) : Int)) <|
      grd (2 ≤ List.length (List.drop ((Int.toNat x5521) * 2) c5477)) <|
      getA2 (.agg (List.take 2 (List.drop ((Int.toNat x5521) * 2) c5477))) fun p5528 p5529 =>
      getI .i64 p5528 fun x5531 =>
      grd (0 ≤ x5531 ∧ x5531 < 5) <|
      grd ((Int.toNat x5531) < List.length c5522) <|
      getI .i64 (gp c5522 (Int.toNat x5531)) fun x5536 =>
      getI .i64 p5529 fun x5538 =>
      grd (0 ≤ x5538 ∧ x5538 < 5) <|
      grd ((Int.toNat x5538) < List.length c5522) <|
      getI .i64 (gp c5522 (Int.toNat x5538)) fun x5543 =>
      brn (x5536 == x5543) (
        some (.inl (.bool false))) (
        bnd' (m49_L1 N n5476 c5477 x5521 x5536 x5543 N 0 c5522) fun c5564 =>
        m49_L0 N n5476 c5477 n (IntKind.i64.wrap (x5521 + 1)) c5564)) (
      some (.inr ()))
def m49 (N : Nat) (p5474 : PV) : Option (PV) :=
  getL p5474 fun n5476 c5477 =>
  bnd' (m49_L0 N n5476 c5477 N 0 [(.int .i64 0), (.int .i64 1), (.int .i64 2), (.int .i64 3), (.int .i64 4)]) fun o =>
  match o with
  | .inl p5565 =>
    some p5565
  | .inr () =>
    some (.bool true)
theorem c49 (N : Nat) (p5474 : PV) (r : PV)  (h : m49 N p5474 = some r) : FnP Tryd.prog 49 [p5474] r := by
  unfold m49 at h
  refine Fn_of (sz := 46) tab_ok [0, 2, 3, 5, 6, 7, 8, 9, 11, 12, 13, 14, 29, 30, 31, 32, 33, 39] [.tmp 2] Tryd.func49 rfl rfl rfl (by simp) ?_
  simp only [initSt, initEnv, List.map_cons, List.map_nil, List.getD_cons_zero, List.getD_cons_succ, List.getD_nil]
  have hh := getL_some h; clear h; obtain ⟨n5476, c5477, h5475, h⟩ := hh
  refine W_sound tab_ok mixed 16 _ _ _ ?_
  simp -implicitDefEqProofs only [go_sem, qa, qb, qc, qd, qe, qf, qg, qh, qi, qj, qk, ↓reduceIte, h5475]
  repeat with_reducible refine And.intro (by first | kernel_rfl | decide) ?_
  have hh := bnd'_some h; clear h; obtain ⟨o5566, h5567, h5568⟩ := hh
  refine Wp_cut (fun s => (.inr ()) = o5566 ∧ s = ⟨[], [(0, .dead), (2, .dead), (3, .dead), (5, .dead), (6, .dead), (7, .dead), (8, .dead), (9, .dead), (11, .dead), (12, .dead), (13, .dead), (14, .dead), (29, .dead), (30, .dead), (31, .dead), (32, .dead), (33, .dead), (39, .dead)], [], 0, []⟩) ?_ ?_
  · refine Wp_block ?_
    refine Wp_loopG (fun n s => ∃ x5521, ∃ c5522, m49_L0 N n5476 c5477 n x5521 c5522 = some o5566 ∧ s = ⟨[], [(0, .dead), (2, .dead), (3, .sl true 0 0 5 1), (5, .dead), (6, .dead), (7, .dead), (8, .dead), (9, .dead), (11, .v (.lst false n5476 c5477)), (12, .v (.int .i64 ((n5476 : Nat) : Int))), (13, .v (.int .i64 x5521)), (14, .dead), (29, .dead), (30, .dead), (31, .dead), (32, .dead), (33, .dead), (39, .dead)], [(0, .p c5522)], 1, []⟩) N _ ((Wk_le (.k (.k (.r (.r (.r (.r (.r (.r (.r (.r (.r (.r (.r (.r (.r (.r (.r (.r .nil)))))))))))))))))) (OLe.refl _)).trans (cmpS_ok (st' := ⟨[], [(0, .dead), (2, .dead), (3, .sl true 0 0 5 1), (5, .dead), (6, .dead), (7, .dead), (8, .dead), (9, .dead), (11, .v (.lst false n5476 c5477)), (12, .v (.int .i64 ((n5476 : Nat) : Int))), (13, .v (.int .i64 0)), (14, .dead), (29, .dead), (30, .dead), (31, .dead), (32, .dead), (33, .dead), (39, .dead)], [(0, .p [(.int .i64 0), (.int .i64 1), (.int .i64 2), (.int .i64 3), (.int .i64 4)])], 1, []⟩) (by kernel_rfl))) ⟨_, _, h5567, rfl⟩ ?_
    clear h5567
    rintro n _ ⟨x5521, c5522, h5567, rfl⟩
    cases n with
    | zero => cases h5567
    | succ n =>
      rw [m49_L0] at h5567
      have hh := brn_some h5567; clear h5567; rcases hh with ⟨h5523, h5567⟩ | ⟨h5523, h5567⟩
      · have hh := grd_some h5567; clear h5567; obtain ⟨⟨g5524, g5525⟩, h5567⟩ := hh
        have hh := grd_some h5567; clear h5567; obtain ⟨g5526, h5567⟩ := hh
        have hh := getA2_some h5567; clear h5567; obtain ⟨p5528, p5529, h5527, h5567⟩ := hh
        injection h5527 with h5527
        have hh := getI_some h5567; clear h5567; obtain ⟨x5531, h5530, h5567⟩ := hh
        have hh := grd_some h5567; clear h5567; obtain ⟨⟨g5532, g5533⟩, h5567⟩ := hh
        have hh := grd_some h5567; clear h5567; obtain ⟨g5534, h5567⟩ := hh
        have hh := getI_some h5567; clear h5567; obtain ⟨x5536, h5535, h5567⟩ := hh
        have hh := getI_some h5567; clear h5567; obtain ⟨x5538, h5537, h5567⟩ := hh
        have hh := grd_some h5567; clear h5567; obtain ⟨⟨g5539, g5540⟩, h5567⟩ := hh
        have hh := grd_some h5567; clear h5567; obtain ⟨g5541, h5567⟩ := hh
        have hh := getI_some h5567; clear h5567; obtain ⟨x5543, h5542, h5567⟩ := hh
        have hh := brn_some h5567; clear h5567; rcases hh with ⟨h5544, h5567⟩ | ⟨h5544, h5567⟩
        · refine W_sound tab_ok mixed 45 _ _ _ ?_
          simp -implicitDefEqProofs only [go_sem, qa, qb, qc, qd, qe, qf, qg, qh, qi, qj, qk, ↓reduceIte, h5475, h5523, g5524, g5525, g5526, h5527, h5530, g5532, g5533, g5534, h5535, h5537, g5539, g5540, g5541, h5542, h5544]
          repeat with_reducible refine And.intro (by first | kernel_rfl | decide) ?_
          obtain rfl := Option.some.inj h5567
          (try dsimp only at h5568)
          obtain rfl := Option.some.inj h5568
          exact finC [(2, .v (.bool false))] [(2, .v (.bool false))] (by simp [leE, lk_cons]) (.cons _ _ _ _ _ (.v _ _ (.refl _)) .nil) (by rfl) (by simp [leE, lk_cons]) (by decide) (by decide) rfl (by simp only [go_sem, qa, qb, qc, qd, qe, qf, qg, qh, qi, qj, qk, ↓reduceIte, resQ_tmp, resQ_cell, resQ_nil, retD_one, retD_two, retD_three, retD_none]; try simp [R.val, retD_one, retD_two, retD_three, retD_none])
        · refine W_sound tab_ok mixed 46 _ _ _ ?_
          simp -implicitDefEqProofs only [go_sem, qa, qb, qc, qd, qe, qf, qg, qh, qi, qj, qk, ↓reduceIte, h5475, h5523, g5524, g5525, g5526, h5527, h5530, g5532, g5533, g5534, h5535, h5537, g5539, g5540, g5541, h5542, h5544]
          repeat with_reducible refine And.intro (by first | kernel_rfl | decide) ?_
          have hh := bnd'_some h5567; clear h5567; obtain ⟨o5569, h5570, h5571⟩ := hh
          refine Wp_cut (fun s => ∃ c5564, c5564 = o5569 ∧ s = ⟨[], [(0, .dead), (2, .dead), (3, .sl true 0 0 5 1), (5, .dead), (6, .dead), (7, .dead), (8, .dead), (9, .dead), (11, .v (.lst false n5476 c5477)), (12, .v (.int .i64 ((n5476 : Nat) : Int))), (13, .v (.int .i64 x5521)), (14, .dead), (29, .dead), (30, .dead), (31, .dead), (32, .dead), (33, .dead), (39, .dead)], [(0, .p c5564)], 1, []⟩) ?_ ?_
          · refine Wp_block ?_
            refine Wp_loopG (fun n s => ∃ x5554, ∃ c5555, m49_L1 N n5476 c5477 x5521 x5536 x5543 n x5554 c5555 = some o5569 ∧ s = ⟨[], [(0, .dead), (2, .dead), (3, .sl true 0 0 5 1), (5, .dead), (6, .v (.int .i64 x5536)), (7, .v (.int .i64 x5543)), (8, .dead), (9, .dead), (11, .v (.lst false n5476 c5477)), (12, .v (.int .i64 ((n5476 : Nat) : Int))), (13, .v (.int .i64 x5521)), (14, .dead), (29, .dead), (30, .sl true 0 0 5 1), (31, .v (.int .i64 5)), (32, .v (.int .i64 x5554)), (33, .dead), (39, .dead)], [(0, .p c5555)], 1, []⟩) N _ ((Wk_le (.r (.r (.r (.k (.r (.r (.r (.r (.r (.r (.r (.k (.k (.r (.r (.r (.r (.r .nil)))))))))))))))))) (OLe.refl _)).trans (cmpS_ok (st' := ⟨[], [(0, .dead), (2, .dead), (3, .sl true 0 0 5 1), (5, .dead), (6, .v (.int .i64 x5536)), (7, .v (.int .i64 x5543)), (8, .dead), (9, .dead), (11, .v (.lst false n5476 c5477)), (12, .v (.int .i64 ((n5476 : Nat) : Int))), (13, .v (.int .i64 x5521)), (14, .dead), (29, .dead), (30, .sl true 0 0 5 1), (31, .v (.int .i64 5)), (32, .v (.int .i64 0)), (33, .dead), (39, .dead)], [(0, .p c5522)], 1, []⟩) (by kernel_rfl))) ⟨_, _, h5570, rfl⟩ ?_
            clear h5570
            rintro n _ ⟨x5554, c5555, h5570, rfl⟩
            cases n with
            | zero => cases h5570
            | succ n =>
              rw [m49_L1] at h5570
              have hh := brn_some h5570; clear h5570; rcases hh with ⟨h5556, h5570⟩ | ⟨h5556, h5570⟩
              · have hh := grd_some h5570; clear h5570; obtain ⟨⟨g5557, g5558⟩, h5570⟩ := hh
                have hh := grd_some h5570; clear h5570; obtain ⟨g5559, h5570⟩ := hh
                have hh := getI_some h5570; clear h5570; obtain ⟨x5561, h5560, h5570⟩ := hh
                have hh := brn_some h5570; clear h5570; rcases hh with ⟨h5562, h5570⟩ | ⟨h5562, h5570⟩
                · have hh := grd_some h5570; clear h5570; obtain ⟨g5563, h5570⟩ := hh
                  refine W_sound tab_ok mixed 36 _ _ _ ?_
                  simp -implicitDefEqProofs only [go_sem, qa, qb, qc, qd, qe, qf, qg, qh, qi, qj, qk, ↓reduceIte, h5475, h5523, g5524, g5525, g5526, h5527, h5530, g5532, g5533, g5534, h5535, h5537, g5539, g5540, g5541, h5542, h5544, h5556, g5557, g5558, g5559, h5560, h5562, g5563]
                  repeat with_reducible refine And.intro (by first | kernel_rfl | decide) ?_
                  exact cutQ _ ((Wk_le (.r (.r (.r (.r (.r (.r (.k (.k (.r (.r (.r (.r (.r (.r (.r (.r (.k (.k .nil)))))))))))))))))) (OLe.refl _)).trans (cmpS_ok (st' := ⟨[], [(0, .dead), (2, .dead), (3, .sl true 0 0 5 1), (5, .dead), (6, .v (.int .i64 x5536)), (7, .v (.int .i64 x5543)), (8, .dead), (9, .dead), (11, .v (.lst false n5476 c5477)), (12, .v (.int .i64 ((n5476 : Nat) : Int))), (13, .v (.int .i64 x5521)), (14, .dead), (29, .dead), (30, .sl true 0 0 5 1), (31, .v (.int .i64 5)), (32, .v (.int .i64 (IntKind.i64.wrap (x5554 + 1)))), (33, .dead), (39, .dead)], [(0, .p (List.set c5555 (Int.toNat x5554) (.int .i64 x5543)))], 1, []⟩) (by kernel_rfl))) ⟨n, Nat.lt_succ_self n, _, _, h5570, rfl⟩
                · refine W_sound tab_ok mixed 30 _ _ _ ?_
                  simp -implicitDefEqProofs only [go_sem, qa, qb, qc, qd, qe, qf, qg, qh, qi, qj, qk, ↓reduceIte, h5475, h5523, g5524, g5525, g5526, h5527, h5530, g5532, g5533, g5534, h5535, h5537, g5539, g5540, g5541, h5542, h5544, h5556, g5557, g5558, g5559, h5560, h5562]
                  repeat with_reducible refine And.intro (by first | kernel_rfl | decide) ?_
                  exact cutQ _ ((Wk_le (.r (.r (.r (.r (.r (.r (.k (.k (.r (.r (.r (.r (.r (.r (.r (.r (.k (.k .nil)))))))))))))))))) (OLe.refl _)).trans (cmpS_ok (st' := ⟨[], [(0, .dead), (2, .dead), (3, .sl true 0 0 5 1), (5, .dead), (6, .v (.int .i64 x5536)), (7, .v (.int .i64 x5543)), (8, .dead), (9, .dead), (11, .v (.lst false n5476 c5477)), (12, .v (.int .i64 ((n5476 : Nat) : Int))), (13, .v (.int .i64 x5521)), (14, .dead), (29, .dead), (30, .sl true 0 0 5 1), (31, .v (.int .i64 5)), (32, .v (.int .i64 (IntKind.i64.wrap (x5554 + 1)))), (33, .dead), (39, .dead)], [(0, .p c5555)], 1, []⟩) (by kernel_rfl))) ⟨n, Nat.lt_succ_self n, _, _, h5570, rfl⟩
              · refine W_sound tab_ok mixed 7 _ _ _ ?_
                simp -implicitDefEqProofs only [go_sem, qa, qb, qc, qd, qe, qf, qg, qh, qi, qj, qk, ↓reduceIte, h5475, h5523, g5524, g5525, g5526, h5527, h5530, g5532, g5533, g5534, h5535, h5537, g5539, g5540, g5541, h5542, h5544, h5556]
                repeat with_reducible refine And.intro (by first | kernel_rfl | decide) ?_
                obtain rfl := Option.some.inj h5570
                exact cutQ _ ((Wk_le (.r (.r (.r (.r (.k (.k (.r (.r (.r (.r (.r (.r (.r (.k (.k (.k (.k (.r .nil)))))))))))))))))) (OLe.refl _)).trans (cmpS_ok (st' := ⟨[], [(0, .dead), (2, .dead), (3, .sl true 0 0 5 1), (5, .dead), (6, .dead), (7, .dead), (8, .dead), (9, .dead), (11, .v (.lst false n5476 c5477)), (12, .v (.int .i64 ((n5476 : Nat) : Int))), (13, .v (.int .i64 x5521)), (14, .dead), (29, .dead), (30, .dead), (31, .dead), (32, .dead), (33, .dead), (39, .dead)], [(0, .p c5555)], 1, []⟩) (by kernel_rfl))) ⟨_, rfl, rfl⟩
          · rintro _ ⟨c5564, rfl, rfl⟩
            refine W_sound tab_ok mixed 5 _ _ _ ?_
            simp -implicitDefEqProofs only [go_sem, qa, qb, qc, qd, qe, qf, qg, qh, qi, qj, qk, ↓reduceIte, h5475, h5523, g5524, g5525, g5526, h5527, h5530, g5532, g5533, g5534, h5535, h5537, g5539, g5540, g5541, h5542, h5544]
            repeat with_reducible refine And.intro (by first | kernel_rfl | decide) ?_
            exact cutQ _ ((Wk_le (.r (.r (.r (.r (.r (.r (.r (.r (.r (.r (.r (.r (.r (.r (.r (.r (.r (.r .nil)))))))))))))))))) (OLe.refl _)).trans (cmpS_ok (st' := ⟨[], [(0, .dead), (2, .dead), (3, .sl true 0 0 5 1), (5, .dead), (6, .dead), (7, .dead), (8, .dead), (9, .dead), (11, .v (.lst false n5476 c5477)), (12, .v (.int .i64 ((n5476 : Nat) : Int))), (13, .v (.int .i64 (IntKind.i64.wrap (x5521 + 1)))), (14, .dead), (29, .dead), (30, .dead), (31, .dead), (32, .dead), (33, .dead), (39, .dead)], [(0, .p c5564)], 1, []⟩) (by kernel_rfl))) ⟨n, Nat.lt_succ_self n, _, _, h5571, rfl⟩
      · refine W_sound tab_ok mixed 7 _ _ _ ?_
        simp -implicitDefEqProofs only [go_sem, qa, qb, qc, qd, qe, qf, qg, qh, qi, qj, qk, ↓reduceIte, h5475, h5523]
        repeat with_reducible refine And.intro (by first | kernel_rfl | decide) ?_
        obtain rfl := Option.some.inj h5567
        exact cutQ _ ((Wk_le (.r (.r (.k (.r (.r (.r (.r (.r (.k (.k (.k (.k (.r (.r (.r (.r (.r (.r .nil)))))))))))))))))) (OLe.refl _)).trans (cmpS_ok (st' := ⟨[], [(0, .dead), (2, .dead), (3, .dead), (5, .dead), (6, .dead), (7, .dead), (8, .dead), (9, .dead), (11, .dead), (12, .dead), (13, .dead), (14, .dead), (29, .dead), (30, .dead), (31, .dead), (32, .dead), (33, .dead), (39, .dead)], [], 0, []⟩) (by kernel_rfl))) ⟨rfl, rfl⟩
  · rintro _ ⟨rfl, rfl⟩
    (try dsimp only at h5568)
    refine W_sound tab_ok mixed 6 _ _ _ ?_
    simp -implicitDefEqProofs only [go_sem, qa, qb, qc, qd, qe, qf, qg, qh, qi, qj, qk, ↓reduceIte, h5475]
    repeat with_reducible refine And.intro (by first | kernel_rfl | decide) ?_
    obtain rfl := Option.some.inj h5568
    exact finC [(2, .v (.bool true))] [(2, .v (.bool true))] (by simp [leE, lk_cons]) (.cons _ _ _ _ _ (.v _ _ (.refl _)) .nil) (by rfl) (by simp [leE, lk_cons]) (by decide) (by decide) rfl (by simp only [go_sem, qa, qb, qc, qd, qe, qf, qg, qh, qi, qj, qk, ↓reduceIte, resQ_tmp, resQ_cell, resQ_nil, retD_one, retD_two, retD_three, retD_none]; try simp [R.val, retD_one, retD_two, retD_three, retD_none])
end Go.Proofs.YtnponojgpkbagaaDoor

namespace Go.Proofs.YtnponojgpkbagaaDoor
open Go.V
def domC : Nat → List Nat := fun n => if n = 44 ∨ n = 50 ∨ n = 52 then [0, 2, 4] else []
theorem cloneN {f : FuncId} (h1 : runE Tryd.prog tab domC (fun _ => false) ⟨[], []⟩ 100 f ([.nl].map .v) = some .nl) (h2 : runE Tryd.prog tab domC (fun _ => false) ⟨[], []⟩ 100 f ([nnP].map .v) = some (.lst true 0 [])) : FnP Tryd.prog f [.lst false 0 []] (.lst true 0 []) :=
  FnP_nil (FnP_le (runE_ok tab_ok mixed KnOk.nil h1) (.cons _ _ _ _ (.refl _) .nil) (.nl true)) (runE_ok tab_ok mixed KnOk.nil h2)
theorem ofZ {f : FuncId} (h : FnP Tryd.prog f [.lst false 0 []] (.lst true 0 [])) {n k : Nat} {c : List PV} (hn : decide (0 < n) = false) (hc : c.length = n * k) : FnP Tryd.prog f [.lst false n c] (.lst true 0 []) := by
  have e : n = 0 := by simpa using hn
  subst e
  have : c = [] := List.eq_nil_of_length_eq_zero (by simpa using hc)
  subst this
  exact h
theorem e44 : FnP Tryd.prog 44 [.lst false 0 []] (.lst true 0 []) := cloneN (by kernel_rfl) (by kernel_rfl)
theorem e44' {n : Nat} {c : List PV} (hn : decide (0 < n) = false) (hc : c.length = n) : FnP Tryd.prog 44 [.lst false n c] (.lst true 0 []) := ofZ (k := 1) e44 hn (by omega)
end Go.Proofs.YtnponojgpkbagaaDoor
