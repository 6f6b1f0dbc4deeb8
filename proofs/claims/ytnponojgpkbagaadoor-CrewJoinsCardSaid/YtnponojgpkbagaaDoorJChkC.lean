/-
  Models and laws.
-/
import Derived.Test.YtnponojgpkbagaaDoorJChkA
import Derived.Test.YtnponojgpkbagaaDoorB
import Derived.Test.YtnponojgpkbagaaDoorV35
import Derived.Test.YtnponojgpkbagaaDoorK
import Derived.Test.YtnponojgpkbagaaDoorV36
namespace Go.Proofs.YtnponojgpkbagaaDoor
open Go.V
open Nat renaming reduceBEq → qa, reduceAdd → qb, reduceSub → qc, reduceMul → qd, reduceLT → qe, reduceLeDiff → qf
open Int renaming reduceLE → qg, reduceLT → qh, reduceToNat → qi, reduceBEq → qj, reduceBNe → qk
set_option maxRecDepth 100000
set_option maxHeartbeats 4000000
set_option linter.unusedSimpArgs false
set_option linter.unusedVariables false
attribute [local go_sem] tl1 tl2 tl3 tl4 tl5 tl9 tl17 tl21 tl22 tl23 tl24 tl25 tl26 tl27 tl28 tl29 tl31 tl32 tl34 tl35 tl36 tl37 tl38 tl39 tl40 tl41 tl42 tl43 tl44 tl45 tl47 tl48 tl49 tl50 tl51 tl52 tl53 tl54 tl55 tl56 tl57 tl58 tl59 tl60 tl61 tl62 tl63 tl64 tl65 tl66 tl67 tl68 tl69 tl70 tl71 tl72 tl73 tl74 tl75 tl76 tl77 tl78 tl79 tl80 tl81 tl82 tl83 tl84 tl85 tl86 tl87 tl88 tl89 tl90 tl92 tl94 tl95 tl96 tl97 tl98 tl99 tl100 tl101 tl102 tl103 tl104 tl105 tl106 tl107 tl108 tl109 tl110 tl111 tl112 tl113 tl114 tl115 tl116 tl118 tl119 tl121 tl122 tl123 tl124 tl125 tl126 tl127 tl128 tl129 tl131 tl133 tl134 tl135 tl136 tl142 tl146

def m75 (N : Nat) (x781 : Int) (x782 : Int) (x783 : Int) : Option (PV) :=
  brn (decide (x781 ≥ x782)) (
    some (.bool (decide (x781 ≤ x783)))) (
    some (.bool false))
theorem c75 (N : Nat) (x781 : Int) (x782 : Int) (x783 : Int) (r : PV)  (h : m75 N x781 x782 x783 = some r) : FnP Tryd.prog 75 [(.int .i64 x781), (.int .i64 x782), (.int .i64 x783)] r := by
  unfold m75 at h
  refine Fn_of (sz := 15) tab_ok [0, 1, 2, 6] [.tmp 6] Tryd.func75 rfl rfl rfl (by simp) ?_
  simp only [initSt, initEnv, List.map_cons, List.map_nil, List.getD_cons_zero, List.getD_cons_succ, List.getD_nil]
  have hh := brn_some h; clear h; rcases hh with ⟨h784, h⟩ | ⟨h784, h⟩
  · refine W_sound tab_ok mixed 18 _ _ _ ?_
    simp -implicitDefEqProofs only [go_sem, qa, qb, qc, qd, qe, qf, qg, qh, qi, qj, qk, ↓reduceIte, h784]
    repeat with_reducible refine And.intro (by first | kernel_rfl | decide) ?_
    obtain rfl := Option.some.inj h
    exact finC [(6, .v (.bool (decide (x781 ≤ x783))))] [(6, .v (.bool (decide (x781 ≤ x783))))] (by simp [leE, lk_cons]) (.cons _ _ _ _ _ (.v _ _ (.refl _)) .nil) (by rfl) (by simp [leE, lk_cons]) (by decide) (by decide) rfl (by simp only [go_sem, qa, qb, qc, qd, qe, qf, qg, qh, qi, qj, qk, ↓reduceIte, resQ_tmp, resQ_cell, resQ_nil, retD_one, retD_two, retD_three, retD_none]; try simp [R.val, retD_one, retD_two, retD_three, retD_none])
  · refine W_sound tab_ok mixed 18 _ _ _ ?_
    simp -implicitDefEqProofs only [go_sem, qa, qb, qc, qd, qe, qf, qg, qh, qi, qj, qk, ↓reduceIte, h784]
    repeat with_reducible refine And.intro (by first | kernel_rfl | decide) ?_
    obtain rfl := Option.some.inj h
    exact finC [(6, .v (.bool false))] [(6, .v (.bool false))] (by simp [leE, lk_cons]) (.cons _ _ _ _ _ (.v _ _ (.refl _)) .nil) (by rfl) (by simp [leE, lk_cons]) (by decide) (by decide) rfl (by simp only [go_sem, qa, qb, qc, qd, qe, qf, qg, qh, qi, qj, qk, ↓reduceIte, resQ_tmp, resQ_cell, resQ_nil, retD_one, retD_two, retD_three, retD_none]; try simp [R.val, retD_one, retD_two, retD_three, retD_none])

def m23_L2 (N : Nat) (x780 : Int) (n791 : Nat) (c792 : List PV) (x794 : Int) (n800 : Nat) (c801 : List PV) (x803 : Int) : Nat → Int → Option ((PV ⊕ Unit))
  | 0, _ => none
  | n + 1, x824 =>
    brn (decide (x824 < x803)) (
      grd (0 ≤ x824 ∧ x824 < ((n800 : Nat) : Int)) <|
      grd (2 ≤ List.length (List.drop ((Int.toNat x824) * 2) c801)) <|
      getA2 (.agg (List.take 2 (List.drop ((Int.toNat x824) * 2) c801))) fun p830 p831 =>
      grd (2 ≤ List.length (List.drop ((Int.toNat x803) * 2) c801)) <|
      getA2 (.agg (List.take 2 (List.drop ((Int.toNat x803) * 2) c801))) fun p834 p835 =>
      getI .i64 p831 fun x837 =>
      getI .i64 p835 fun x839 =>
      getI .i64 p830 fun x841 =>
      getI .i64 p834 fun x843 =>
      brn ((x841 == x843) && (x837 == x839)) (
        some (.inl (.int .i64 6))) (
        m23_L2 N x780 n791 c792 x794 n800 c801 x803 n (IntKind.i64.wrap (x824 + 1)))) (
      some (.inr ()))
def m23_L1 (N : Nat) (x780 : Int) (n791 : Nat) (c792 : List PV) (x794 : Int) (n800 : Nat) (c801 : List PV) : Nat → Int → Option ((PV ⊕ Unit))
  | 0, _ => none
  | n + 1, x803 =>
    brn (decide (x803 < ((n800 : Nat) : Int))) (
      grd (0 ≤ x803 ∧ x803 < ((n800 : Nat) : Int)) <|
      grd (0 < List.length (List.drop ((Int.toNat x803) * 2) c801)) <|
      getI .i64 (gp c801 ((Int.toNat x803) * 2)) fun x809 =>
      bnd' (m75 N x809 0 (IntKind.i64.wrap (x780 - 1))) fun p810 =>
      getB p810 fun b813 =>
      brn b813 (
        grd (0 < List.length (List.drop 1 (List.drop ((Int.toNat x803) * 2) c801))) <|
        getI .i64 (gp c801 (((Int.toNat x803) * 2) + 1)) fun x817 =>
        bnd' (m75 N x817 0 (IntKind.i64.wrap (x780 - 1))) fun p818 =>
        getB p818 fun b821 =>
        brn b821 (
          brn (decide (x809 ≥ x817)) (
            some (.inl (.int .i64 7))) (
            bnd' (m23_L2 N x780 n791 c792 x794 n800 c801 x803 N 0) fun o =>
            match o with
            | .inl p845 =>
              some (.inl p845)
            | .inr () =>
              m23_L1 N x780 n791 c792 x794 n800 c801 n (IntKind.i64.wrap (x803 + 1)))) (
          some (.inl (.int .i64 2)))) (
        some (.inl (.int .i64 2)))) (
      some (.inr ()))
def m23_L0 (N : Nat) (x780 : Int) (n791 : Nat) (c792 : List PV) : Nat → Int → Option ((PV ⊕ Unit))
  | 0, _ => none
  | n + 1, x794 =>
    brn (decide (x794 < ((n791 : Nat) : Int))) (
      grd (0 ≤ x794 ∧ x794 < ((n791 : Nat) : Int)) <|
      grd (0 < List.length (List.drop (Int.toNat x794) c792)) <|
      getL (gp c792 (Int.toNat x794)) fun n800 c801 =>
      brn (decide (((n800 : Nat) : Int) > 6)) (
        some (.inl (.int .i64 3))) (
        bnd' (m23_L1 N x780 n791 c792 x794 n800 c801 N 0) fun o =>
        match o with
        | .inl p846 =>
          some (.inl p846)
        | .inr () =>
          m23_L0 N x780 n791 c792 n (IntKind.i64.wrap (x794 + 1)))) (
      some (.inr ()))
def m23 (N : Nat) (p775 : PV) : Option (PV) :=
  getA2 p775 fun p777 p778 =>
  getI .i64 p777 fun x780 =>
  bnd' (m75 N x780 1 5) fun p785 =>
  getB p785 fun b788 =>
  brn b788 (
    getL p778 fun n791 c792 =>
    brn (decide (((n791 : Nat) : Int) > 5)) (
      some (.int .i64 3)) (
      bnd' (m23_L0 N x780 n791 c792 N 0) fun o =>
      match o with
      | .inl p847 =>
        some p847
      | .inr () =>
        some (.int .i64 0))) (
    some (.int .i64 1))
theorem c23 (N : Nat) (p775 : PV) (r : PV)  (h : m23 N p775 = some r) : FnP Tryd.prog 23 [p775] r := by
  unfold m23 at h
  refine Fn_of (sz := 83) tab_ok [0, 1, 2, 3, 4, 5, 6, 10, 14, 19, 29, 33, 57, 68, 71, 82] [.tmp 2] Tryd.func23 rfl rfl rfl (by simp) ?_
  simp only [initSt, initEnv, List.map_cons, List.map_nil, List.getD_cons_zero, List.getD_cons_succ, List.getD_nil]
  have hh := getA2_some h; clear h; obtain ⟨p777, p778, h776, h⟩ := hh
  have hh := getI_some h; clear h; obtain ⟨x780, h779, h⟩ := hh
  have hh := bnd'_some h; clear h; obtain ⟨p785, h786, h⟩ := hh
  refine W_sound tab_ok mixed 10 _ _ _ ?_
  simp -implicitDefEqProofs only [go_sem, qa, qb, qc, qd, qe, qf, qg, qh, qi, qj, qk, ↓reduceIte, h776, h779]
  repeat with_reducible refine And.intro (by first | kernel_rfl | decide) ?_
  refine Wp_callP (c75 N _ _ _ _ h786) (by kernel_rfl) rfl rfl rfl rfl (by decide) ?_
  have hh := getB_some h; clear h; obtain ⟨b788, h787, h⟩ := hh
  have hh := brn_some h; clear h; rcases hh with ⟨h789, h⟩ | ⟨h789, h⟩
  · have hh := getL_some h; clear h; obtain ⟨n791, c792, h790, h⟩ := hh
    have hh := brn_some h; clear h; rcases hh with ⟨h793, h⟩ | ⟨h793, h⟩
    · refine W_sound tab_ok mixed 19 _ _ _ ?_
      simp -implicitDefEqProofs only [go_sem, qa, qb, qc, qd, qe, qf, qg, qh, qi, qj, qk, ↓reduceIte, h776, h779, h787, h789, h790, h793]
      repeat with_reducible refine And.intro (by first | kernel_rfl | decide) ?_
      obtain rfl := Option.some.inj h
      exact finC [(2, .v (.int .i64 3))] [(2, .v (.int .i64 3))] (by simp [leE, lk_cons]) (.cons _ _ _ _ _ (.v _ _ (.refl _)) .nil) (by rfl) (by simp [leE, lk_cons]) (by decide) (by decide) rfl (by simp only [go_sem, qa, qb, qc, qd, qe, qf, qg, qh, qi, qj, qk, ↓reduceIte, resQ_tmp, resQ_cell, resQ_nil, retD_one, retD_two, retD_three, retD_none]; try simp [R.val, retD_one, retD_two, retD_three, retD_none])
    · refine W_sound tab_ok mixed 19 _ _ _ ?_
      simp -implicitDefEqProofs only [go_sem, qa, qb, qc, qd, qe, qf, qg, qh, qi, qj, qk, ↓reduceIte, h776, h779, h787, h789, h790, h793]
      repeat with_reducible refine And.intro (by first | kernel_rfl | decide) ?_
      have hh := bnd'_some h; clear h; obtain ⟨o848, h849, h850⟩ := hh
      refine Wp_cut (fun s => (.inr ()) = o848 ∧ s = ⟨[], [(0, .dead), (1, .dead), (2, .dead), (3, .dead), (4, .dead), (5, .dead), (6, .dead), (10, .dead), (14, .dead), (19, .dead), (29, .dead), (33, .dead), (57, .dead), (68, .dead), (71, .dead), (82, .dead)], [], 0, []⟩) ?_ ?_
      · refine Wp_block ?_
        refine Wp_loopG (fun n s => ∃ x794, m23_L0 N x780 n791 c792 n x794 = some o848 ∧ s = ⟨[], [(0, .dead), (1, .ptr 0 0), (2, .dead), (3, .v (.int .i64 x794)), (4, .dead), (5, .dead), (6, .dead), (10, .dead), (14, .dead), (19, .dead), (29, .dead), (33, .dead), (57, .dead), (68, .dead), (71, .dead), (82, .dead)], [(0, .p [(.int .i64 x780), (.lst false n791 c792)])], 1, []⟩) N _ ((Wk_le (.k (.r (.k (.r (.r (.r (.r (.k (.k (.r (.r (.r (.r (.r (.r (.r .nil)))))))))))))))) (OLe.refl _)).trans (cmpS_ok (st' := ⟨[], [(0, .dead), (1, .ptr 0 0), (2, .dead), (3, .v (.int .i64 0)), (4, .dead), (5, .dead), (6, .dead), (10, .dead), (14, .dead), (19, .dead), (29, .dead), (33, .dead), (57, .dead), (68, .dead), (71, .dead), (82, .dead)], [(0, .p [(.int .i64 x780), (.lst false n791 c792)])], 1, []⟩) (by kernel_rfl))) ⟨_, h849, rfl⟩ ?_
        clear h849
        rintro n _ ⟨x794, h849, rfl⟩
        cases n with
        | zero => cases h849
        | succ n =>
          rw [m23_L0] at h849
          have hh := brn_some h849; clear h849; rcases hh with ⟨h795, h849⟩ | ⟨h795, h849⟩
          · have hh := grd_some h849; clear h849; obtain ⟨⟨g796, g797⟩, h849⟩ := hh
            have hh := grd_some h849; clear h849; obtain ⟨g798, h849⟩ := hh
            have hh := getL_some h849; clear h849; obtain ⟨n800, c801, h799, h849⟩ := hh
            have hh := brn_some h849; clear h849; rcases hh with ⟨h802, h849⟩ | ⟨h802, h849⟩
            · refine W_sound tab_ok mixed 36 _ _ _ ?_
              simp -implicitDefEqProofs only [go_sem, qa, qb, qc, qd, qe, qf, qg, qh, qi, qj, qk, ↓reduceIte, h776, h779, h787, h789, h790, h793, h795, g796, g797, g798, h799, h802]
              repeat with_reducible refine And.intro (by first | kernel_rfl | decide) ?_
              obtain rfl := Option.some.inj h849
              (try dsimp only at h850)
              obtain rfl := Option.some.inj h850
              exact finC [(2, .v (.int .i64 3))] [(2, .v (.int .i64 3))] (by simp [leE, lk_cons]) (.cons _ _ _ _ _ (.v _ _ (.refl _)) .nil) (by rfl) (by simp [leE, lk_cons]) (by decide) (by decide) rfl (by simp only [go_sem, qa, qb, qc, qd, qe, qf, qg, qh, qi, qj, qk, ↓reduceIte, resQ_tmp, resQ_cell, resQ_nil, retD_one, retD_two, retD_three, retD_none]; try simp [R.val, retD_one, retD_two, retD_three, retD_none])
            · refine W_sound tab_ok mixed 35 _ _ _ ?_
              simp -implicitDefEqProofs only [go_sem, qa, qb, qc, qd, qe, qf, qg, qh, qi, qj, qk, ↓reduceIte, h776, h779, h787, h789, h790, h793, h795, g796, g797, g798, h799, h802]
              repeat with_reducible refine And.intro (by first | kernel_rfl | decide) ?_
              have hh := bnd'_some h849; clear h849; obtain ⟨o851, h852, h853⟩ := hh
              refine Wp_cut (fun s => (.inr ()) = o851 ∧ s = ⟨[], [(0, .dead), (1, .ptr 0 0), (2, .dead), (3, .v (.int .i64 x794)), (4, .dead), (5, .dead), (6, .dead), (10, .dead), (14, .dead), (19, .dead), (29, .dead), (33, .dead), (57, .dead), (68, .dead), (71, .dead), (82, .dead)], [(0, .p [(.int .i64 x780), (.lst false n791 c792)])], 1, []⟩) ?_ ?_
              · refine Wp_block ?_
                refine Wp_loopG (fun n s => ∃ x803, m23_L1 N x780 n791 c792 x794 n800 c801 n x803 = some o851 ∧ s = ⟨[], [(0, .dead), (1, .ptr 0 0), (2, .dead), (3, .v (.int .i64 x794)), (4, .v (.lst false n800 c801)), (5, .v (.int .i64 x803)), (6, .dead), (10, .dead), (14, .dead), (19, .dead), (29, .dead), (33, .dead), (57, .dead), (68, .dead), (71, .dead), (82, .dead)], [(0, .p [(.int .i64 x780), (.lst false n791 c792)])], 1, []⟩) N _ ((Wk_le (.r (.r (.r (.r (.r (.r (.r (.r (.r (.k (.k (.r (.r (.r (.r (.r .nil)))))))))))))))) (OLe.refl _)).trans (cmpS_ok (st' := ⟨[], [(0, .dead), (1, .ptr 0 0), (2, .dead), (3, .v (.int .i64 x794)), (4, .v (.lst false n800 c801)), (5, .v (.int .i64 0)), (6, .dead), (10, .dead), (14, .dead), (19, .dead), (29, .dead), (33, .dead), (57, .dead), (68, .dead), (71, .dead), (82, .dead)], [(0, .p [(.int .i64 x780), (.lst false n791 c792)])], 1, []⟩) (by kernel_rfl))) ⟨_, h852, rfl⟩ ?_
                clear h852
                rintro n _ ⟨x803, h852, rfl⟩
                cases n with
                | zero => cases h852
                | succ n =>
                  rw [m23_L1] at h852
                  have hh := brn_some h852; clear h852; rcases hh with ⟨h804, h852⟩ | ⟨h804, h852⟩
                  · have hh := grd_some h852; clear h852; obtain ⟨⟨g805, g806⟩, h852⟩ := hh
                    have hh := grd_some h852; clear h852; obtain ⟨g807, h852⟩ := hh
                    have hh := getI_some h852; clear h852; obtain ⟨x809, h808, h852⟩ := hh
                    have hh := bnd'_some h852; clear h852; obtain ⟨p810, h811, h852⟩ := hh
                    refine W_sound tab_ok mixed 23 _ _ _ ?_
                    simp -implicitDefEqProofs only [go_sem, qa, qb, qc, qd, qe, qf, qg, qh, qi, qj, qk, ↓reduceIte, h776, h779, h787, h789, h790, h793, h795, g796, g797, g798, h799, h802, h804, g805, g806, g807, h808]
                    repeat with_reducible refine And.intro (by first | kernel_rfl | decide) ?_
                    refine Wp_callP (c75 N _ _ _ _ h811) (by kernel_rfl) rfl rfl rfl rfl (by decide) ?_
                    have hh := getB_some h852; clear h852; obtain ⟨b813, h812, h852⟩ := hh
                    have hh := brn_some h852; clear h852; rcases hh with ⟨h814, h852⟩ | ⟨h814, h852⟩
                    · have hh := grd_some h852; clear h852; obtain ⟨g815, h852⟩ := hh
                      have hh := getI_some h852; clear h852; obtain ⟨x817, h816, h852⟩ := hh
                      have hh := bnd'_some h852; clear h852; obtain ⟨p818, h819, h852⟩ := hh
                      refine W_sound tab_ok mixed 10 _ _ _ ?_
                      simp -implicitDefEqProofs only [go_sem, qa, qb, qc, qd, qe, qf, qg, qh, qi, qj, qk, ↓reduceIte, h776, h779, h787, h789, h790, h793, h795, g796, g797, g798, h799, h802, h804, g805, g806, g807, h808, h812, h814, g815, h816]
                      repeat with_reducible refine And.intro (by first | kernel_rfl | decide) ?_
                      refine Wp_callP (c75 N _ _ _ _ h819) (by kernel_rfl) rfl rfl rfl rfl (by decide) ?_
                      have hh := getB_some h852; clear h852; obtain ⟨b821, h820, h852⟩ := hh
                      have hh := brn_some h852; clear h852; rcases hh with ⟨h822, h852⟩ | ⟨h822, h852⟩
                      · have hh := brn_some h852; clear h852; rcases hh with ⟨h823, h852⟩ | ⟨h823, h852⟩
                        · refine W_sound tab_ok mixed 27 _ _ _ ?_
                          simp -implicitDefEqProofs only [go_sem, qa, qb, qc, qd, qe, qf, qg, qh, qi, qj, qk, ↓reduceIte, h776, h779, h787, h789, h790, h793, h795, g796, g797, g798, h799, h802, h804, g805, g806, g807, h808, h812, h814, g815, h816, h820, h822, h823]
                          repeat with_reducible refine And.intro (by first | kernel_rfl | decide) ?_
                          obtain rfl := Option.some.inj h852
                          (try dsimp only at h853)
                          obtain rfl := Option.some.inj h853
                          (try dsimp only at h850)
                          obtain rfl := Option.some.inj h850
                          exact finC [(2, .v (.int .i64 7))] [(2, .v (.int .i64 7))] (by simp [leE, lk_cons]) (.cons _ _ _ _ _ (.v _ _ (.refl _)) .nil) (by rfl) (by simp [leE, lk_cons]) (by decide) (by decide) rfl (by simp only [go_sem, qa, qb, qc, qd, qe, qf, qg, qh, qi, qj, qk, ↓reduceIte, resQ_tmp, resQ_cell, resQ_nil, retD_one, retD_two, retD_three, retD_none]; try simp [R.val, retD_one, retD_two, retD_three, retD_none])
                        · refine W_sound tab_ok mixed 26 _ _ _ ?_
                          simp -implicitDefEqProofs only [go_sem, qa, qb, qc, qd, qe, qf, qg, qh, qi, qj, qk, ↓reduceIte, h776, h779, h787, h789, h790, h793, h795, g796, g797, g798, h799, h802, h804, g805, g806, g807, h808, h812, h814, g815, h816, h820, h822, h823]
                          repeat with_reducible refine And.intro (by first | kernel_rfl | decide) ?_
                          have hh := bnd'_some h852; clear h852; obtain ⟨o854, h855, h856⟩ := hh
                          refine Wp_cut (fun s => (.inr ()) = o854 ∧ s = ⟨[], [(0, .dead), (1, .ptr 0 0), (2, .dead), (3, .v (.int .i64 x794)), (4, .v (.lst false n800 c801)), (5, .v (.int .i64 x803)), (6, .dead), (10, .dead), (14, .dead), (19, .dead), (29, .dead), (33, .dead), (57, .dead), (68, .dead), (71, .dead), (82, .dead)], [(0, .p [(.int .i64 x780), (.lst false n791 c792)])], 1, []⟩) ?_ ?_
                          · refine Wp_block ?_
                            refine Wp_loopG (fun n s => ∃ x824, m23_L2 N x780 n791 c792 x794 n800 c801 x803 n x824 = some o854 ∧ s = ⟨[], [(0, .dead), (1, .ptr 0 0), (2, .dead), (3, .v (.int .i64 x794)), (4, .v (.lst false n800 c801)), (5, .v (.int .i64 x803)), (6, .v (.int .i64 x824)), (10, .dead), (14, .dead), (19, .dead), (29, .dead), (33, .dead), (57, .dead), (68, .dead), (71, .dead), (82, .dead)], [(0, .p [(.int .i64 x780), (.lst false n791 c792)])], 1, []⟩) N _ ((Wk_le (.r (.r (.r (.r (.r (.r (.r (.r (.r (.r (.r (.k (.k (.k (.r (.r .nil)))))))))))))))) (OLe.refl _)).trans (cmpS_ok (st' := ⟨[], [(0, .dead), (1, .ptr 0 0), (2, .dead), (3, .v (.int .i64 x794)), (4, .v (.lst false n800 c801)), (5, .v (.int .i64 x803)), (6, .v (.int .i64 0)), (10, .dead), (14, .dead), (19, .dead), (29, .dead), (33, .dead), (57, .dead), (68, .dead), (71, .dead), (82, .dead)], [(0, .p [(.int .i64 x780), (.lst false n791 c792)])], 1, []⟩) (by kernel_rfl))) ⟨_, h855, rfl⟩ ?_
                            clear h855
                            rintro n _ ⟨x824, h855, rfl⟩
                            cases n with
                            | zero => cases h855
                            | succ n =>
                              rw [m23_L2] at h855
                              have hh := brn_some h855; clear h855; rcases hh with ⟨h825, h855⟩ | ⟨h825, h855⟩
                              · have hh := grd_some h855; clear h855; obtain ⟨⟨g826, g827⟩, h855⟩ := hh
                                have hh := grd_some h855; clear h855; obtain ⟨g828, h855⟩ := hh
                                have hh := getA2_some h855; clear h855; obtain ⟨p830, p831, h829, h855⟩ := hh
                                injection h829 with h829
                                have hh := grd_some h855; clear h855; obtain ⟨g832, h855⟩ := hh
                                have hh := getA2_some h855; clear h855; obtain ⟨p834, p835, h833, h855⟩ := hh
                                injection h833 with h833
                                have hh := getI_some h855; clear h855; obtain ⟨x837, h836, h855⟩ := hh
                                have hh := getI_some h855; clear h855; obtain ⟨x839, h838, h855⟩ := hh
                                have hh := getI_some h855; clear h855; obtain ⟨x841, h840, h855⟩ := hh
                                have hh := getI_some h855; clear h855; obtain ⟨x843, h842, h855⟩ := hh
                                have hh := brn_some h855; clear h855; rcases hh with ⟨h844, h855⟩ | ⟨h844, h855⟩
                                · refine W_sound tab_ok mixed 30 _ _ _ ?_
                                  simp -implicitDefEqProofs only [go_sem, qa, qb, qc, qd, qe, qf, qg, qh, qi, qj, qk, ↓reduceIte, h776, h779, h787, h789, h790, h793, h795, g796, g797, g798, h799, h802, h804, g805, g806, g807, h808, h812, h814, g815, h816, h820, h822, h823, h825, g826, g827, g828, h829, g832, h833, h836, h838, h840, h842, h844]
                                  repeat with_reducible refine And.intro (by first | kernel_rfl | decide) ?_
                                  obtain rfl := Option.some.inj h855
                                  (try dsimp only at h856)
                                  obtain rfl := Option.some.inj h856
                                  (try dsimp only at h853)
                                  obtain rfl := Option.some.inj h853
                                  (try dsimp only at h850)
                                  obtain rfl := Option.some.inj h850
                                  exact finC [(2, .v (.int .i64 6))] [(2, .v (.int .i64 6))] (by simp [leE, lk_cons]) (.cons _ _ _ _ _ (.v _ _ (.refl _)) .nil) (by rfl) (by simp [leE, lk_cons]) (by decide) (by decide) rfl (by simp only [go_sem, qa, qb, qc, qd, qe, qf, qg, qh, qi, qj, qk, ↓reduceIte, resQ_tmp, resQ_cell, resQ_nil, retD_one, retD_two, retD_three, retD_none]; try simp [R.val, retD_one, retD_two, retD_three, retD_none])
                                · refine W_sound tab_ok mixed 31 _ _ _ ?_
                                  simp -implicitDefEqProofs only [go_sem, qa, qb, qc, qd, qe, qf, qg, qh, qi, qj, qk, ↓reduceIte, h776, h779, h787, h789, h790, h793, h795, g796, g797, g798, h799, h802, h804, g805, g806, g807, h808, h812, h814, g815, h816, h820, h822, h823, h825, g826, g827, g828, h829, g832, h833, h836, h838, h840, h842, h844]
                                  repeat with_reducible refine And.intro (by first | kernel_rfl | decide) ?_
                                  exact cutQ _ ((Wk_le (.r (.r (.r (.r (.r (.r (.r (.r (.r (.r (.r (.r (.r (.r (.k (.k .nil)))))))))))))))) (OLe.refl _)).trans (cmpS_ok (st' := ⟨[], [(0, .dead), (1, .ptr 0 0), (2, .dead), (3, .v (.int .i64 x794)), (4, .v (.lst false n800 c801)), (5, .v (.int .i64 x803)), (6, .v (.int .i64 (IntKind.i64.wrap (x824 + 1)))), (10, .dead), (14, .dead), (19, .dead), (29, .dead), (33, .dead), (57, .dead), (68, .dead), (71, .dead), (82, .dead)], [(0, .p [(.int .i64 x780), (.lst false n791 c792)])], 1, []⟩) (by kernel_rfl))) ⟨n, Nat.lt_succ_self n, _, h855, rfl⟩
                              · refine W_sound tab_ok mixed 9 _ _ _ ?_
                                simp -implicitDefEqProofs only [go_sem, qa, qb, qc, qd, qe, qf, qg, qh, qi, qj, qk, ↓reduceIte, h776, h779, h787, h789, h790, h793, h795, g796, g797, g798, h799, h802, h804, g805, g806, g807, h808, h812, h814, g815, h816, h820, h822, h823, h825]
                                repeat with_reducible refine And.intro (by first | kernel_rfl | decide) ?_
                                obtain rfl := Option.some.inj h855
                                exact cutQ _ ((Wk_le (.r (.r (.r (.r (.r (.r (.k (.r (.r (.r (.r (.r (.r (.r (.k (.r .nil)))))))))))))))) (OLe.refl _)).trans (cmpS_ok (st' := ⟨[], [(0, .dead), (1, .ptr 0 0), (2, .dead), (3, .v (.int .i64 x794)), (4, .v (.lst false n800 c801)), (5, .v (.int .i64 x803)), (6, .dead), (10, .dead), (14, .dead), (19, .dead), (29, .dead), (33, .dead), (57, .dead), (68, .dead), (71, .dead), (82, .dead)], [(0, .p [(.int .i64 x780), (.lst false n791 c792)])], 1, []⟩) (by kernel_rfl))) ⟨rfl, rfl⟩
                          · rintro _ ⟨rfl, rfl⟩
                            (try dsimp only at h856)
                            refine W_sound tab_ok mixed 6 _ _ _ ?_
                            simp -implicitDefEqProofs only [go_sem, qa, qb, qc, qd, qe, qf, qg, qh, qi, qj, qk, ↓reduceIte, h776, h779, h787, h789, h790, h793, h795, g796, g797, g798, h799, h802, h804, g805, g806, g807, h808, h812, h814, g815, h816, h820, h822, h823]
                            repeat with_reducible refine And.intro (by first | kernel_rfl | decide) ?_
                            exact cutQ _ ((Wk_le (.r (.r (.r (.r (.r (.r (.r (.r (.r (.r (.r (.r (.r (.r (.r (.r .nil)))))))))))))))) (OLe.refl _)).trans (cmpS_ok (st' := ⟨[], [(0, .dead), (1, .ptr 0 0), (2, .dead), (3, .v (.int .i64 x794)), (4, .v (.lst false n800 c801)), (5, .v (.int .i64 (IntKind.i64.wrap (x803 + 1)))), (6, .dead), (10, .dead), (14, .dead), (19, .dead), (29, .dead), (33, .dead), (57, .dead), (68, .dead), (71, .dead), (82, .dead)], [(0, .p [(.int .i64 x780), (.lst false n791 c792)])], 1, []⟩) (by kernel_rfl))) ⟨n, Nat.lt_succ_self n, _, h856, rfl⟩
                      · refine W_sound tab_ok mixed 10 _ _ _ ?_
                        simp -implicitDefEqProofs only [go_sem, qa, qb, qc, qd, qe, qf, qg, qh, qi, qj, qk, ↓reduceIte, h776, h779, h787, h789, h790, h793, h795, g796, g797, g798, h799, h802, h804, g805, g806, g807, h808, h812, h814, g815, h816, h820, h822]
                        repeat with_reducible refine And.intro (by first | kernel_rfl | decide) ?_
                        obtain rfl := Option.some.inj h852
                        (try dsimp only at h853)
                        obtain rfl := Option.some.inj h853
                        (try dsimp only at h850)
                        obtain rfl := Option.some.inj h850
                        exact finC [(2, .v (.int .i64 2))] [(2, .v (.int .i64 2))] (by simp [leE, lk_cons]) (.cons _ _ _ _ _ (.v _ _ (.refl _)) .nil) (by rfl) (by simp [leE, lk_cons]) (by decide) (by decide) rfl (by simp only [go_sem, qa, qb, qc, qd, qe, qf, qg, qh, qi, qj, qk, ↓reduceIte, resQ_tmp, resQ_cell, resQ_nil, retD_one, retD_two, retD_three, retD_none]; try simp [R.val, retD_one, retD_two, retD_three, retD_none])
                    · refine W_sound tab_ok mixed 21 _ _ _ ?_
                      simp -implicitDefEqProofs only [go_sem, qa, qb, qc, qd, qe, qf, qg, qh, qi, qj, qk, ↓reduceIte, h776, h779, h787, h789, h790, h793, h795, g796, g797, g798, h799, h802, h804, g805, g806, g807, h808, h812, h814]
                      repeat with_reducible refine And.intro (by first | kernel_rfl | decide) ?_
                      obtain rfl := Option.some.inj h852
                      (try dsimp only at h853)
                      obtain rfl := Option.some.inj h853
                      (try dsimp only at h850)
                      obtain rfl := Option.some.inj h850
                      exact finC [(2, .v (.int .i64 2))] [(2, .v (.int .i64 2))] (by simp [leE, lk_cons]) (.cons _ _ _ _ _ (.v _ _ (.refl _)) .nil) (by rfl) (by simp [leE, lk_cons]) (by decide) (by decide) rfl (by simp only [go_sem, qa, qb, qc, qd, qe, qf, qg, qh, qi, qj, qk, ↓reduceIte, resQ_tmp, resQ_cell, resQ_nil, retD_one, retD_two, retD_three, retD_none]; try simp [R.val, retD_one, retD_two, retD_three, retD_none])
                  · refine W_sound tab_ok mixed 10 _ _ _ ?_
                    simp -implicitDefEqProofs only [go_sem, qa, qb, qc, qd, qe, qf, qg, qh, qi, qj, qk, ↓reduceIte, h776, h779, h787, h789, h790, h793, h795, g796, g797, g798, h799, h802, h804]
                    repeat with_reducible refine And.intro (by first | kernel_rfl | decide) ?_
                    obtain rfl := Option.some.inj h852
                    exact cutQ _ ((Wk_le (.r (.r (.r (.r (.k (.k (.r (.r (.r (.r (.r (.k (.r (.r (.r (.r .nil)))))))))))))))) (OLe.refl _)).trans (cmpS_ok (st' := ⟨[], [(0, .dead), (1, .ptr 0 0), (2, .dead), (3, .v (.int .i64 x794)), (4, .dead), (5, .dead), (6, .dead), (10, .dead), (14, .dead), (19, .dead), (29, .dead), (33, .dead), (57, .dead), (68, .dead), (71, .dead), (82, .dead)], [(0, .p [(.int .i64 x780), (.lst false n791 c792)])], 1, []⟩) (by kernel_rfl))) ⟨rfl, rfl⟩
              · rintro _ ⟨rfl, rfl⟩
                (try dsimp only at h853)
                refine W_sound tab_ok mixed 6 _ _ _ ?_
                simp -implicitDefEqProofs only [go_sem, qa, qb, qc, qd, qe, qf, qg, qh, qi, qj, qk, ↓reduceIte, h776, h779, h787, h789, h790, h793, h795, g796, g797, g798, h799, h802]
                repeat with_reducible refine And.intro (by first | kernel_rfl | decide) ?_
                exact cutQ _ ((Wk_le (.r (.r (.r (.r (.r (.r (.r (.r (.r (.r (.r (.r (.r (.r (.r (.r .nil)))))))))))))))) (OLe.refl _)).trans (cmpS_ok (st' := ⟨[], [(0, .dead), (1, .ptr 0 0), (2, .dead), (3, .v (.int .i64 (IntKind.i64.wrap (x794 + 1)))), (4, .dead), (5, .dead), (6, .dead), (10, .dead), (14, .dead), (19, .dead), (29, .dead), (33, .dead), (57, .dead), (68, .dead), (71, .dead), (82, .dead)], [(0, .p [(.int .i64 x780), (.lst false n791 c792)])], 1, []⟩) (by kernel_rfl))) ⟨n, Nat.lt_succ_self n, _, h853, rfl⟩
          · refine W_sound tab_ok mixed 11 _ _ _ ?_
            simp -implicitDefEqProofs only [go_sem, qa, qb, qc, qd, qe, qf, qg, qh, qi, qj, qk, ↓reduceIte, h776, h779, h787, h789, h790, h793, h795]
            repeat with_reducible refine And.intro (by first | kernel_rfl | decide) ?_
            obtain rfl := Option.some.inj h849
            exact cutQ _ ((Wk_le (.r (.k (.r (.k (.r (.r (.r (.r (.r (.k (.r (.r (.r (.r (.r (.r .nil)))))))))))))))) (OLe.refl _)).trans (cmpS_ok (st' := ⟨[], [(0, .dead), (1, .dead), (2, .dead), (3, .dead), (4, .dead), (5, .dead), (6, .dead), (10, .dead), (14, .dead), (19, .dead), (29, .dead), (33, .dead), (57, .dead), (68, .dead), (71, .dead), (82, .dead)], [], 0, []⟩) (by kernel_rfl))) ⟨rfl, rfl⟩
      · rintro _ ⟨rfl, rfl⟩
        (try dsimp only at h850)
        refine W_sound tab_ok mixed 6 _ _ _ ?_
        simp -implicitDefEqProofs only [go_sem, qa, qb, qc, qd, qe, qf, qg, qh, qi, qj, qk, ↓reduceIte, h776, h779, h787, h789, h790, h793]
        repeat with_reducible refine And.intro (by first | kernel_rfl | decide) ?_
        obtain rfl := Option.some.inj h850
        exact finC [(2, .v (.int .i64 0))] [(2, .v (.int .i64 0))] (by simp [leE, lk_cons]) (.cons _ _ _ _ _ (.v _ _ (.refl _)) .nil) (by rfl) (by simp [leE, lk_cons]) (by decide) (by decide) rfl (by simp only [go_sem, qa, qb, qc, qd, qe, qf, qg, qh, qi, qj, qk, ↓reduceIte, resQ_tmp, resQ_cell, resQ_nil, retD_one, retD_two, retD_three, retD_none]; try simp [R.val, retD_one, retD_two, retD_three, retD_none])
  · refine W_sound tab_ok mixed 9 _ _ _ ?_
    simp -implicitDefEqProofs only [go_sem, qa, qb, qc, qd, qe, qf, qg, qh, qi, qj, qk, ↓reduceIte, h776, h779, h787, h789]
    repeat with_reducible refine And.intro (by first | kernel_rfl | decide) ?_
    obtain rfl := Option.some.inj h
    exact finC [(2, .v (.int .i64 1))] [(2, .v (.int .i64 1))] (by simp [leE, lk_cons]) (.cons _ _ _ _ _ (.v _ _ (.refl _)) .nil) (by rfl) (by simp [leE, lk_cons]) (by decide) (by decide) rfl (by simp only [go_sem, qa, qb, qc, qd, qe, qf, qg, qh, qi, qj, qk, ↓reduceIte, resQ_tmp, resQ_cell, resQ_nil, retD_one, retD_two, retD_three, retD_none]; try simp [R.val, retD_one, retD_two, retD_three, retD_none])

def m65_L0 (N : Nat) (p770 : PV) (n773 : Nat) (c774 : List PV) : Nat → Int → Int → PV → Option (Int)
  | 0, _, _, _ => none
  | n + 1, x885, x886, p887 =>
    brn (decide (x886 < ((n773 : Nat) : Int))) (
      brn (x885 == 0) (
        grd (0 ≤ x886 ∧ x886 < ((n773 : Nat) : Int)) <|
        grd (0 < List.length (List.drop (Int.toNat x886) c774)) <|
        getI .i64 (gp c774 (Int.toNat x886)) fun x894 =>
        getL p887 fun n896 c897 =>
        bnd' (m75 N x894 0 (IntKind.i64.wrap (((n896 : Nat) : Int) - 1))) fun p898 =>
        getB p898 fun b901 =>
        brn b901 (
          brn (decide (x886 > 0)) (
            grd (0 ≤ (IntKind.i64.wrap (x886 - 1)) ∧ (IntKind.i64.wrap (x886 - 1)) < ((n773 : Nat) : Int)) <|
            grd (0 < List.length (List.drop (Int.toNat (IntKind.i64.wrap (x886 - 1))) c774)) <|
            getI .i64 (gp c774 (Int.toNat (IntKind.i64.wrap (x886 - 1)))) fun x908 =>
            brn (decide (x894 ≤ x908)) (
              m65_L0 N p770 n773 c774 n 7 (IntKind.i64.wrap (x886 + 1)) (.lst false n896 c897)) (
              m65_L0 N p770 n773 c774 n x885 (IntKind.i64.wrap (x886 + 1)) (.lst false n896 c897))) (
            m65_L0 N p770 n773 c774 n x885 (IntKind.i64.wrap (x886 + 1)) (.lst false n896 c897))) (
          m65_L0 N p770 n773 c774 n 2 (IntKind.i64.wrap (x886 + 1)) (.lst false n896 c897))) (
        some x885)) (
      some x885)
def m65 (N : Nat) (p767 : PV) (p768 : PV) : Option (PV) :=
  getA2 p767 fun p770 p771 =>
  getL p768 fun n773 c774 =>
  bnd' (m23 N (.agg [p770, p771])) fun p857 =>
  getI .i64 p857 fun x860 =>
  bnd' (m65_L0 N p770 n773 c774 N x860 0 p771) fun x910 =>
  some (.int .i64 x910)
theorem c65 (N : Nat) (p767 : PV) (p768 : PV) (r : PV)  (h : m65 N p767 p768 = some r) : FnP Tryd.prog 65 [p767, p768] r := by
  unfold m65 at h
  refine Fn_of (sz := 44) tab_ok [0, 1, 2, 4, 5, 6, 16, 28, 42] [.tmp 4] Tryd.func65 rfl rfl rfl (by simp) ?_
  simp only [initSt, initEnv, List.map_cons, List.map_nil, List.getD_cons_zero, List.getD_cons_succ, List.getD_nil]
  have hh := getA2_some h; clear h; obtain ⟨p770, p771, h769, h⟩ := hh
  have hh := getL_some h; clear h; obtain ⟨n773, c774, h772, h⟩ := hh
  have hh := bnd'_some h; clear h; obtain ⟨p857, h858, h⟩ := hh
  refine W_sound tab_ok mixed 8 _ _ _ ?_
  simp -implicitDefEqProofs only [go_sem, qa, qb, qc, qd, qe, qf, qg, qh, qi, qj, qk, ↓reduceIte, h769, h772]
  repeat with_reducible refine And.intro (by first | kernel_rfl | decide) ?_
  refine Wp_callP (c23 N _ _ h858) (by kernel_rfl) rfl rfl rfl rfl (by decide) ?_
  have hh := getI_some h; clear h; obtain ⟨x860, h859, h⟩ := hh
  refine W_sound tab_ok mixed 7 _ _ _ ?_
  simp -implicitDefEqProofs only [go_sem, qa, qb, qc, qd, qe, qf, qg, qh, qi, qj, qk, ↓reduceIte, h769, h772, h859]
  repeat with_reducible refine And.intro (by first | kernel_rfl | decide) ?_
  have hh := bnd'_some h; clear h; obtain ⟨o911, h912, h913⟩ := hh
  refine Wp_cut (fun s => ∃ x910, x910 = o911 ∧ s = ⟨[], [(0, .dead), (1, .dead), (2, .dead), (4, .dead), (5, .v (.int .i64 x910)), (6, .dead), (16, .dead), (28, .dead), (42, .dead)], [], 0, []⟩) ?_ ?_
  · refine Wp_block ?_
    refine Wp_loopG (fun n s => ∃ x885, ∃ x886, ∃ p887, m65_L0 N p770 n773 c774 n x885 x886 p887 = some o911 ∧ s = ⟨[], [(0, .dead), (1, .v (.lst false n773 c774)), (2, .ptr 0 0), (4, .dead), (5, .v (.int .i64 x885)), (6, .v (.int .i64 x886)), (16, .dead), (28, .dead), (42, .dead)], [(0, .p [p770, p887])], 1, []⟩) N _ ((Wk_le (.k (.r (.r (.k (.r (.r (.r (.r (.r .nil))))))))) (OLe.refl _)).trans (cmpS_ok rfl)) ⟨_, _, _, h912, rfl⟩ ?_
    clear h912
    rintro n _ ⟨x885, x886, p887, h912, rfl⟩
    cases n with
    | zero => cases h912
    | succ n =>
      rw [m65_L0] at h912
      have hh := brn_some h912; clear h912; rcases hh with ⟨h888, h912⟩ | ⟨h888, h912⟩
      · have hh := brn_some h912; clear h912; rcases hh with ⟨h889, h912⟩ | ⟨h889, h912⟩
        · have hh := grd_some h912; clear h912; obtain ⟨⟨g890, g891⟩, h912⟩ := hh
          have hh := grd_some h912; clear h912; obtain ⟨g892, h912⟩ := hh
          have hh := getI_some h912; clear h912; obtain ⟨x894, h893, h912⟩ := hh
          have hh := getL_some h912; clear h912; obtain ⟨n896, c897, h895, h912⟩ := hh
          have hh := bnd'_some h912; clear h912; obtain ⟨p898, h899, h912⟩ := hh
          refine W_sound tab_ok mixed 26 _ _ _ ?_
          simp -implicitDefEqProofs only [go_sem, qa, qb, qc, qd, qe, qf, qg, qh, qi, qj, qk, ↓reduceIte, h769, h772, h859, h888, h889, g890, g891, g892, h893, h895]
          repeat with_reducible refine And.intro (by first | kernel_rfl | decide) ?_
          refine Wp_callP (c75 N _ _ _ _ h899) (by kernel_rfl) rfl rfl rfl rfl (by decide) ?_
          have hh := getB_some h912; clear h912; obtain ⟨b901, h900, h912⟩ := hh
          have hh := brn_some h912; clear h912; rcases hh with ⟨h902, h912⟩ | ⟨h902, h912⟩
          · have hh := brn_some h912; clear h912; rcases hh with ⟨h903, h912⟩ | ⟨h903, h912⟩
            · have hh := grd_some h912; clear h912; obtain ⟨⟨g904, g905⟩, h912⟩ := hh
              have hh := grd_some h912; clear h912; obtain ⟨g906, h912⟩ := hh
              have hh := getI_some h912; clear h912; obtain ⟨x908, h907, h912⟩ := hh
              have hh := brn_some h912; clear h912; rcases hh with ⟨h909, h912⟩ | ⟨h909, h912⟩
              · refine W_sound tab_ok mixed 30 _ _ _ ?_
                simp -implicitDefEqProofs only [go_sem, qa, qb, qc, qd, qe, qf, qg, qh, qi, qj, qk, ↓reduceIte, h769, h772, h859, h888, h889, g890, g891, g892, h893, h895, h900, h902, h903, g904, g905, g906, h907, h909]
                repeat with_reducible refine And.intro (by first | kernel_rfl | decide) ?_
                exact cutQ _ ((Wk_le (.r (.r (.r (.r (.r (.r (.k (.k (.k .nil))))))))) (OLe.refl _)).trans (cmpS_ok rfl)) ⟨n, Nat.lt_succ_self n, _, _, _, h912, rfl⟩
              · refine W_sound tab_ok mixed 28 _ _ _ ?_
                simp -implicitDefEqProofs only [go_sem, qa, qb, qc, qd, qe, qf, qg, qh, qi, qj, qk, ↓reduceIte, h769, h772, h859, h888, h889, g890, g891, g892, h893, h895, h900, h902, h903, g904, g905, g906, h907, h909]
                repeat with_reducible refine And.intro (by first | kernel_rfl | decide) ?_
                exact cutQ _ ((Wk_le (.r (.r (.r (.r (.r (.r (.k (.k (.k .nil))))))))) (OLe.refl _)).trans (cmpS_ok rfl)) ⟨n, Nat.lt_succ_self n, _, _, _, h912, rfl⟩
            · refine W_sound tab_ok mixed 28 _ _ _ ?_
              simp -implicitDefEqProofs only [go_sem, qa, qb, qc, qd, qe, qf, qg, qh, qi, qj, qk, ↓reduceIte, h769, h772, h859, h888, h889, g890, g891, g892, h893, h895, h900, h902, h903]
              repeat with_reducible refine And.intro (by first | kernel_rfl | decide) ?_
              exact cutQ _ ((Wk_le (.r (.r (.r (.r (.r (.r (.k (.k (.k .nil))))))))) (OLe.refl _)).trans (cmpS_ok rfl)) ⟨n, Nat.lt_succ_self n, _, _, _, h912, rfl⟩
          · refine W_sound tab_ok mixed 12 _ _ _ ?_
            simp -implicitDefEqProofs only [go_sem, qa, qb, qc, qd, qe, qf, qg, qh, qi, qj, qk, ↓reduceIte, h769, h772, h859, h888, h889, g890, g891, g892, h893, h895, h900, h902]
            repeat with_reducible refine And.intro (by first | kernel_rfl | decide) ?_
            exact cutQ _ ((Wk_le (.r (.r (.r (.r (.r (.r (.k (.k (.r .nil))))))))) (OLe.refl _)).trans (cmpS_ok rfl)) ⟨n, Nat.lt_succ_self n, _, _, _, h912, rfl⟩
        · refine W_sound tab_ok mixed 14 _ _ _ ?_
          simp -implicitDefEqProofs only [go_sem, qa, qb, qc, qd, qe, qf, qg, qh, qi, qj, qk, ↓reduceIte, h769, h772, h859, h888, h889]
          repeat with_reducible refine And.intro (by first | kernel_rfl | decide) ?_
          obtain rfl := Option.some.inj h912
          exact cutQ _ ((Wk_le (.r (.k (.k (.r (.r (.k (.k (.r (.r .nil))))))))) (OLe.refl _)).trans (cmpS_ok rfl)) ⟨_, rfl, rfl⟩
      · refine W_sound tab_ok mixed 14 _ _ _ ?_
        simp -implicitDefEqProofs only [go_sem, qa, qb, qc, qd, qe, qf, qg, qh, qi, qj, qk, ↓reduceIte, h769, h772, h859, h888]
        repeat with_reducible refine And.intro (by first | kernel_rfl | decide) ?_
        obtain rfl := Option.some.inj h912
        exact cutQ _ ((Wk_le (.r (.k (.k (.r (.r (.k (.k (.r (.r .nil))))))))) (OLe.refl _)).trans (cmpS_ok rfl)) ⟨_, rfl, rfl⟩
  · rintro _ ⟨x910, rfl, rfl⟩
    refine W_sound tab_ok mixed 7 _ _ _ ?_
    simp -implicitDefEqProofs only [go_sem, qa, qb, qc, qd, qe, qf, qg, qh, qi, qj, qk, ↓reduceIte, h769, h772, h859]
    repeat with_reducible refine And.intro (by first | kernel_rfl | decide) ?_
    obtain rfl := Option.some.inj h913
    exact finC [(4, .v (.int .i64 x910))] [(4, .v (.int .i64 x910))] (by simp [leE, lk_cons]) (.cons _ _ _ _ _ (.v _ _ (.refl _)) .nil) (by rfl) (by simp [leE, lk_cons]) (by decide) (by decide) rfl (by simp only [go_sem, qa, qb, qc, qd, qe, qf, qg, qh, qi, qj, qk, ↓reduceIte, resQ_tmp, resQ_cell, resQ_nil, retD_one, retD_two, retD_three, retD_none]; try simp [R.val, retD_one, retD_two, retD_three, retD_none])

def m85_2_L0 (N : Nat) (n1070 : Nat) (x1071 : Int) (c1072 : List PV) : Nat → Int → Option ((PV ⊕ Unit))
  | 0, _ => none
  | n + 1, x1073 =>
    brn (decide (x1073 < ((n1070 : Nat) : Int))) (
      grd (0 ≤ x1073 ∧ x1073 < ((n1070 : Nat) : Int)) <|
      grd ((Int.toNat x1073) < List.length c1072) <|
      getI .i64 (gp c1072 (Int.toNat x1073)) fun x1079 =>
      brn (x1079 == x1071) (
        some (.inl (.bool true))) (
        m85_2_L0 N n1070 x1071 c1072 n (IntKind.i64.wrap (x1073 + 1)))) (
      some (.inr ()))
def m85_2 (N : Nat) (n1070 : Nat) (x1071 : Int) (c1072 : List PV) : Option (PV) :=
  bnd' (m85_2_L0 N n1070 x1071 c1072 N 0) fun o =>
  match o with
  | .inl p1081 =>
    some p1081
  | .inr () =>
    some (.bool false)
theorem c85_2 (N : Nat) (n1070 : Nat) (x1071 : Int) (c1072 : List PV) (r : PV)  (h : m85_2 N n1070 x1071 c1072 = some r) : V.Fn Tryd.prog 85 1 [.sl false 0 0 n1070 1, .v (.int .i64 x1071)] [(0, .p c1072)] (fun d ob' => d = .v r ∧ ob' = [(0, .p c1072)]) := by
  unfold m85_2 at h
  refine Fn_of (sz := 18) tab_ok [0, 1, 4, 5, 9, 17] [.tmp 4] Tryd.func85 rfl rfl rfl (by simp) ?_
  simp only [initSt, initEnv, List.map_cons, List.map_nil, List.getD_cons_zero, List.getD_cons_succ, List.getD_nil]
  refine W_sound tab_ok mixed 9 _ _ _ ?_
  simp -implicitDefEqProofs only [go_sem, qa, qb, qc, qd, qe, qf, qg, qh, qi, qj, qk, ↓reduceIte]
  repeat with_reducible refine And.intro (by first | kernel_rfl | decide) ?_
  have hh := bnd'_some h; clear h; obtain ⟨o1082, h1083, h1084⟩ := hh
  refine Wp_cut (fun s => (.inr ()) = o1082 ∧ s = ⟨[], [(0, .dead), (1, .dead), (4, .dead), (5, .dead), (9, .dead), (17, .dead)], [(0, .p c1072)], 1, []⟩) ?_ ?_
  · refine Wp_block ?_
    refine Wp_loopG (fun n s => ∃ x1073, m85_2_L0 N n1070 x1071 c1072 n x1073 = some o1082 ∧ s = ⟨[], [(0, .sl false 0 0 n1070 1), (1, .v (.int .i64 x1071)), (4, .dead), (5, .v (.int .i64 x1073)), (9, .dead), (17, .dead)], [(0, .p c1072)], 1, []⟩) N _ ((Wk_le (.r (.r (.k (.r (.r (.r .nil)))))) (OLe.refl _)).trans (cmpS_ok rfl)) ⟨_, h1083, rfl⟩ ?_
    clear h1083
    rintro n _ ⟨x1073, h1083, rfl⟩
    cases n with
    | zero => cases h1083
    | succ n =>
      rw [m85_2_L0] at h1083
      have hh := brn_some h1083; clear h1083; rcases hh with ⟨h1074, h1083⟩ | ⟨h1074, h1083⟩
      · have hh := grd_some h1083; clear h1083; obtain ⟨⟨g1075, g1076⟩, h1083⟩ := hh
        have hh := grd_some h1083; clear h1083; obtain ⟨g1077, h1083⟩ := hh
        have hh := getI_some h1083; clear h1083; obtain ⟨x1079, h1078, h1083⟩ := hh
        have hh := brn_some h1083; clear h1083; rcases hh with ⟨h1080, h1083⟩ | ⟨h1080, h1083⟩
        · refine W_sound tab_ok mixed 28 _ _ _ ?_
          simp -implicitDefEqProofs only [go_sem, qa, qb, qc, qd, qe, qf, qg, qh, qi, qj, qk, ↓reduceIte, h1074, g1075, g1076, g1077, h1078, h1080]
          repeat with_reducible refine And.intro (by first | kernel_rfl | decide) ?_
          obtain rfl := Option.some.inj h1083
          (try dsimp only at h1084)
          obtain rfl := Option.some.inj h1084
          exact finD (e2 := [(0, .dead), (1, .dead), (4, .v (.bool true)), (5, .dead), (9, .dead), (17, .dead)]) (ob2 := [(0, .p c1072)]) (st' := ⟨[], [(0, .dead), (1, .dead), (4, .v (.bool true)), (5, .dead), (9, .dead), (17, .dead)], [(0, .p c1072)], 1, []⟩) (.k (.k (.r (.k (.k (.k .nil)))))) (.cons _ _ _ _ _ (DLes.refl _) .nil) (by kernel_rfl) (by simp only [go_sem, qa, qb, qc, qd, qe, qf, qg, qh, qi, qj, qk, ↓reduceIte, resQ_tmp, resQ_cell, resQ_nil, retD_one, retD_two, retD_three, retD_none]; try simp [R.val, retD_one, retD_two, retD_three, retD_none])
        · refine W_sound tab_ok mixed 29 _ _ _ ?_
          simp -implicitDefEqProofs only [go_sem, qa, qb, qc, qd, qe, qf, qg, qh, qi, qj, qk, ↓reduceIte, h1074, g1075, g1076, g1077, h1078, h1080]
          repeat with_reducible refine And.intro (by first | kernel_rfl | decide) ?_
          exact cutQ _ ((Wk_le (.r (.r (.r (.r (.k (.k .nil)))))) (OLe.refl _)).trans (cmpS_ok rfl)) ⟨n, Nat.lt_succ_self n, _, h1083, rfl⟩
      · refine W_sound tab_ok mixed 10 _ _ _ ?_
        simp -implicitDefEqProofs only [go_sem, qa, qb, qc, qd, qe, qf, qg, qh, qi, qj, qk, ↓reduceIte, h1074]
        repeat with_reducible refine And.intro (by first | kernel_rfl | decide) ?_
        obtain rfl := Option.some.inj h1083
        exact cutQ _ ((Wk_le (.k (.k (.r (.k (.k (.r .nil)))))) (OLe.refl _)).trans (cmpS_ok rfl)) ⟨rfl, rfl⟩
  · rintro _ ⟨rfl, rfl⟩
    (try dsimp only at h1084)
    refine W_sound tab_ok mixed 6 _ _ _ ?_
    simp -implicitDefEqProofs only [go_sem, qa, qb, qc, qd, qe, qf, qg, qh, qi, qj, qk, ↓reduceIte]
    repeat with_reducible refine And.intro (by first | kernel_rfl | decide) ?_
    obtain rfl := Option.some.inj h1084
    exact finD (e2 := [(0, .dead), (1, .dead), (4, .v (.bool false)), (5, .dead), (9, .dead), (17, .dead)]) (ob2 := [(0, .p c1072)]) (st' := ⟨[], [(0, .dead), (1, .dead), (4, .v (.bool false)), (5, .dead), (9, .dead), (17, .dead)], [(0, .p c1072)], 1, []⟩) (.r (.r (.r (.r (.r (.r .nil)))))) (.cons _ _ _ _ _ (DLes.refl _) .nil) (by kernel_rfl) (by simp only [go_sem, qa, qb, qc, qd, qe, qf, qg, qh, qi, qj, qk, ↓reduceIte, resQ_tmp, resQ_cell, resQ_nil, retD_one, retD_two, retD_three, retD_none]; try simp [R.val, retD_one, retD_two, retD_three, retD_none])

def m96_L2 (N : Nat) (x991 : Int) (n994 : Nat) (c995 : List PV) (x996 : Int) (x997 : Int) (x1197 : Int) (x1205 : Int) : Nat → Nat → Int → List PV → Option ((Nat × List PV))
  | 0, _, _, _ => none
  | n + 1, n1243, x1244, c1245 =>
    brn (decide (x1244 < ((n994 : Nat) : Int))) (
      grd (0 ≤ x1244 ∧ x1244 < ((n994 : Nat) : Int)) <|
      grd (0 < List.length (List.drop ((Int.toNat x1244) * 2) c995)) <|
      getI .i64 (gp c995 ((Int.toNat x1244) * 2)) fun x1251 =>
      grd (x1197 < ((n1243 : Nat) : Int)) <|
      grd ((Int.toNat x1197) < List.length c1245) <|
      getI .i64 (gp c1245 (Int.toNat x1197)) fun x1255 =>
      brn (x1251 == x1255) (
        grd (0 < List.length (List.drop 1 (List.drop ((Int.toNat x1244) * 2) c995))) <|
        getI .i64 (gp c995 (((Int.toNat x1244) * 2) + 1)) fun x1259 =>
        bnd' (m85_2 N n1243 x1259 c1245) fun p1260 =>
        getB p1260 fun b1263 =>
        brn b1263 (
          brn (x1259 == x1255) (
            bnd' (m85_2 N n1243 x1251 c1245) fun p1266 =>
            getB p1266 fun b1269 =>
            brn b1269 (
              m96_L2 N x991 n994 c995 x996 x997 x1197 x1205 n n1243 (IntKind.i64.wrap (x1244 + 1)) c1245) (
              grd ((n1243 + 1) ≤ 1099511627776) <|
              grd (List.length c1245 = n1243) <|
              m96_L2 N x991 n994 c995 x996 x997 x1197 x1205 n (n1243 + 1) (IntKind.i64.wrap (x1244 + 1)) (c1245 ++ [(.int .i64 x1251)]))) (
            m96_L2 N x991 n994 c995 x996 x997 x1197 x1205 n n1243 (IntKind.i64.wrap (x1244 + 1)) c1245)) (
          grd ((n1243 + 1) ≤ 1099511627776) <|
          grd (List.length c1245 = n1243) <|
          m96_L2 N x991 n994 c995 x996 x997 x1197 x1205 n (n1243 + 1) (IntKind.i64.wrap (x1244 + 1)) (c1245 ++ [(.int .i64 x1259)]))) (
        grd (0 < List.length (List.drop 1 (List.drop ((Int.toNat x1244) * 2) c995))) <|
        getI .i64 (gp c995 (((Int.toNat x1244) * 2) + 1)) fun x1277 =>
        brn (x1277 == x1255) (
          bnd' (m85_2 N n1243 x1251 c1245) fun p1279 =>
          getB p1279 fun b1282 =>
          brn b1282 (
            m96_L2 N x991 n994 c995 x996 x997 x1197 x1205 n n1243 (IntKind.i64.wrap (x1244 + 1)) c1245) (
            grd ((n1243 + 1) ≤ 1099511627776) <|
            grd (List.length c1245 = n1243) <|
            m96_L2 N x991 n994 c995 x996 x997 x1197 x1205 n (n1243 + 1) (IntKind.i64.wrap (x1244 + 1)) (c1245 ++ [(.int .i64 x1251)]))) (
          m96_L2 N x991 n994 c995 x996 x997 x1197 x1205 n n1243 (IntKind.i64.wrap (x1244 + 1)) c1245))) (
      some (n1243, c1245))
def m96_L3 (N : Nat) (x991 : Int) (n994 : Nat) (c995 : List PV) (x996 : Int) (x997 : Int) (x1197 : Int) : Nat → Nat → Int → List PV → Option ((Nat × List PV))
  | 0, _, _, _ => none
  | n + 1, n1330, x1331, c1332 =>
    brn (decide (x1331 < ((n994 : Nat) : Int))) (
      grd (0 ≤ x1331 ∧ x1331 < ((n994 : Nat) : Int)) <|
      grd (0 < List.length (List.drop ((Int.toNat x1331) * 2) c995)) <|
      getI .i64 (gp c995 ((Int.toNat x1331) * 2)) fun x1338 =>
      grd (0 ≤ x1197 ∧ x1197 < ((n1330 : Nat) : Int)) <|
      grd ((Int.toNat x1197) < List.length c1332) <|
      getI .i64 (gp c1332 (Int.toNat x1197)) fun x1343 =>
      brn (x1338 == x1343) (
        grd (0 < List.length (List.drop 1 (List.drop ((Int.toNat x1331) * 2) c995))) <|
        getI .i64 (gp c995 (((Int.toNat x1331) * 2) + 1)) fun x1347 =>
        bnd' (m85_2 N n1330 x1347 c1332) fun p1348 =>
        getB p1348 fun b1351 =>
        brn b1351 (
          brn (x1347 == x1343) (
            bnd' (m85_2 N n1330 x1338 c1332) fun p1354 =>
            getB p1354 fun b1357 =>
            brn b1357 (
              m96_L3 N x991 n994 c995 x996 x997 x1197 n n1330 (IntKind.i64.wrap (x1331 + 1)) c1332) (
              grd ((n1330 + 1) ≤ 1099511627776) <|
              grd (List.length c1332 = n1330) <|
              m96_L3 N x991 n994 c995 x996 x997 x1197 n (n1330 + 1) (IntKind.i64.wrap (x1331 + 1)) (c1332 ++ [(.int .i64 x1338)]))) (
            m96_L3 N x991 n994 c995 x996 x997 x1197 n n1330 (IntKind.i64.wrap (x1331 + 1)) c1332)) (
          grd ((n1330 + 1) ≤ 1099511627776) <|
          grd (List.length c1332 = n1330) <|
          m96_L3 N x991 n994 c995 x996 x997 x1197 n (n1330 + 1) (IntKind.i64.wrap (x1331 + 1)) (c1332 ++ [(.int .i64 x1347)]))) (
        grd (0 < List.length (List.drop 1 (List.drop ((Int.toNat x1331) * 2) c995))) <|
        getI .i64 (gp c995 (((Int.toNat x1331) * 2) + 1)) fun x1365 =>
        brn (x1365 == x1343) (
          bnd' (m85_2 N n1330 x1338 c1332) fun p1367 =>
          getB p1367 fun b1370 =>
          brn b1370 (
            m96_L3 N x991 n994 c995 x996 x997 x1197 n n1330 (IntKind.i64.wrap (x1331 + 1)) c1332) (
            grd ((n1330 + 1) ≤ 1099511627776) <|
            grd (List.length c1332 = n1330) <|
            m96_L3 N x991 n994 c995 x996 x997 x1197 n (n1330 + 1) (IntKind.i64.wrap (x1331 + 1)) (c1332 ++ [(.int .i64 x1338)]))) (
          m96_L3 N x991 n994 c995 x996 x997 x1197 n n1330 (IntKind.i64.wrap (x1331 + 1)) c1332))) (
      some (n1330, c1332))
def m96_L1 (N : Nat) (x991 : Int) (n994 : Nat) (c995 : List PV) (x996 : Int) (x997 : Int) : Nat → Nat → Bool → Int → List PV → Option (Bool)
  | 0, _, _, _, _ => none
  | n + 1, n1195, b1196, x1197, c1198 =>
    brn (decide (x1197 < ((n1195 : Nat) : Int))) (
      brn b1196 (
        grd (0 ≤ x1197 ∧ x1197 < ((n1195 : Nat) : Int)) <|
        grd ((Int.toNat x1197) < List.length c1198) <|
        getI .i64 (gp c1198 (Int.toNat x1197)) fun x1205 =>
        bnd' (m96_L2 N x991 n994 c995 x996 x997 x1197 x1205 N n1195 0 c1198) fun o =>
        match o with
        | (n1286, c1287) =>
          m96_L1 N x991 n994 c995 x996 x997 n n1286 (decide (x1205 ≥ x997)) (IntKind.i64.wrap (x1197 + 1)) c1287) (
        bnd' (m96_L3 N x991 n994 c995 x996 x997 x1197 N n1195 0 c1198) fun o =>
        match o with
        | (n1374, c1375) =>
          m96_L1 N x991 n994 c995 x996 x997 n n1374 false (IntKind.i64.wrap (x1197 + 1)) c1375)) (
      some b1196)
def m96_L0 (N : Nat) (x991 : Int) (n994 : Nat) (c995 : List PV) : Nat → Int → Int → Option (Int)
  | 0, _, _ => none
  | n + 1, x996, x997 =>
    brn (decide (x997 < x991)) (
      bnd' (m96_L1 N x991 n994 c995 x996 x997 N 1 true 0 [(.int .i64 x997)]) fun b1376 =>
      brn b1376 (
        m96_L0 N x991 n994 c995 n (IntKind.i64.wrap (x996 + 1)) (IntKind.i64.wrap (x997 + 1))) (
        m96_L0 N x991 n994 c995 n x996 (IntKind.i64.wrap (x997 + 1)))) (
      some x996)
def m96 (N : Nat) (x991 : Int) (p992 : PV) : Option (PV) :=
  getL p992 fun n994 c995 =>
  bnd' (m96_L0 N x991 n994 c995 N 0 0) fun x1378 =>
  some (.int .i64 x1378)
theorem c96 (N : Nat) (x991 : Int) (p992 : PV) (r : PV)  (h : m96 N x991 p992 = some r) : FnP Tryd.prog 96 [(.int .i64 x991), p992] r := by
  unfold m96 at h
  refine Fn_of (sz := 99) tab_ok [0, 1, 4, 5, 6, 7, 8, 9, 10, 13, 21, 36, 58, 86, 95] [.tmp 4] Tryd.func96 rfl rfl rfl (by simp) ?_
  simp only [initSt, initEnv, List.map_cons, List.map_nil, List.getD_cons_zero, List.getD_cons_succ, List.getD_nil]
  have hh := getL_some h; clear h; obtain ⟨n994, c995, h993, h⟩ := hh
  refine W_sound tab_ok mixed 13 _ _ _ ?_
  simp -implicitDefEqProofs only [go_sem, qa, qb, qc, qd, qe, qf, qg, qh, qi, qj, qk, ↓reduceIte, h993]
  repeat with_reducible refine And.intro (by first | kernel_rfl | decide) ?_
  have hh := bnd'_some h; clear h; obtain ⟨o1379, h1380, h1381⟩ := hh
  refine Wp_cut (fun s => ∃ x1378, x1378 = o1379 ∧ s = ⟨[], [(0, .dead), (1, .dead), (4, .dead), (5, .v (.int .i64 x1378)), (6, .dead), (7, .dead), (8, .dead), (9, .dead), (10, .dead), (13, .dead), (21, .dead), (36, .dead), (58, .dead), (86, .dead), (95, .dead)], [], 0, []⟩) ?_ ?_
  · refine Wp_block ?_
    refine Wp_loopG (fun n s => ∃ x996, ∃ x997, m96_L0 N x991 n994 c995 n x996 x997 = some o1379 ∧ s = ⟨[], [(0, .v (.int .i64 x991)), (1, .v (.lst false n994 c995)), (4, .dead), (5, .v (.int .i64 x996)), (6, .v (.int .i64 x997)), (7, .dead), (8, .dead), (9, .dead), (10, .dead), (13, .dead), (21, .dead), (36, .dead), (58, .dead), (86, .dead), (95, .dead)], [], 0, []⟩) N _ ((Wk_le (.r (.r (.k (.r (.r (.r (.r (.r (.r (.r (.r (.r (.r (.r (.r .nil))))))))))))))) (OLe.refl _)).trans (cmpS_ok (st' := ⟨[], [(0, .v (.int .i64 x991)), (1, .v (.lst false n994 c995)), (4, .dead), (5, .v (.int .i64 0)), (6, .v (.int .i64 0)), (7, .dead), (8, .dead), (9, .dead), (10, .dead), (13, .dead), (21, .dead), (36, .dead), (58, .dead), (86, .dead), (95, .dead)], [], 0, []⟩) (by kernel_rfl))) ⟨_, _, h1380, rfl⟩ ?_
    clear h1380
    rintro n _ ⟨x996, x997, h1380, rfl⟩
    cases n with
    | zero => cases h1380
    | succ n =>
      rw [m96_L0] at h1380
      have hh := brn_some h1380; clear h1380; rcases hh with ⟨h998, h1380⟩ | ⟨h998, h1380⟩
      · refine W_sound tab_ok mixed 26 _ _ _ ?_
        simp -implicitDefEqProofs only [go_sem, qa, qb, qc, qd, qe, qf, qg, qh, qi, qj, qk, ↓reduceIte, h993, h998]
        repeat with_reducible refine And.intro (by first | kernel_rfl | decide) ?_
        have hh := bnd'_some h1380; clear h1380; obtain ⟨o1382, h1383, h1384⟩ := hh
        refine Wp_cut (fun s => ∃ b1376, b1376 = o1382 ∧ s = ⟨[], [(0, .v (.int .i64 x991)), (1, .v (.lst false n994 c995)), (4, .dead), (5, .v (.int .i64 x996)), (6, .v (.int .i64 x997)), (7, .dead), (8, .v (.bool b1376)), (9, .dead), (10, .dead), (13, .dead), (21, .dead), (36, .dead), (58, .dead), (86, .dead), (95, .dead)], [], 0, []⟩) ?_ ?_
        · refine Wp_block ?_
          refine Wp_loopG (fun n s => ∃ n1195, ∃ b1196, ∃ x1197, ∃ c1198, m96_L1 N x991 n994 c995 x996 x997 n n1195 b1196 x1197 c1198 = some o1382 ∧ s = ⟨[], [(0, .v (.int .i64 x991)), (1, .v (.lst false n994 c995)), (4, .dead), (5, .v (.int .i64 x996)), (6, .v (.int .i64 x997)), (7, .sl false 0 0 n1195 1), (8, .v (.bool b1196)), (9, .v (.int .i64 x1197)), (10, .dead), (13, .dead), (21, .dead), (36, .dead), (58, .dead), (86, .dead), (95, .dead)], [(0, .p c1198)], 1, []⟩) N _ ((Wk_le (.r (.r (.r (.r (.r (.cons _ _ _ _ _ (.sl _ _ _ _ _) (.r (.r (.r (.k (.r (.r (.r (.r (.r .nil))))))))))))))) (OLe.refl _)).trans (cmpS_ok (st' := ⟨[], [(0, .v (.int .i64 x991)), (1, .v (.lst false n994 c995)), (4, .dead), (5, .v (.int .i64 x996)), (6, .v (.int .i64 x997)), (7, .sl false 0 0 1 1), (8, .v (.bool true)), (9, .v (.int .i64 0)), (10, .dead), (13, .dead), (21, .dead), (36, .dead), (58, .dead), (86, .dead), (95, .dead)], [(0, .p [(.int .i64 x997)])], 1, []⟩) (by kernel_rfl))) ⟨_, _, _, _, h1383, rfl⟩ ?_
          clear h1383
          rintro n _ ⟨n1195, b1196, x1197, c1198, h1383, rfl⟩
          cases n with
          | zero => cases h1383
          | succ n =>
            rw [m96_L1] at h1383
            have hh := brn_some h1383; clear h1383; rcases hh with ⟨h1199, h1383⟩ | ⟨h1199, h1383⟩
            · have hh := brn_some h1383; clear h1383; rcases hh with ⟨h1200, h1383⟩ | ⟨h1200, h1383⟩
              · have hh := grd_some h1383; clear h1383; obtain ⟨⟨g1201, g1202⟩, h1383⟩ := hh
                have hh := grd_some h1383; clear h1383; obtain ⟨g1203, h1383⟩ := hh
                have hh := getI_some h1383; clear h1383; obtain ⟨x1205, h1204, h1383⟩ := hh
                refine W_sound tab_ok mixed 29 _ _ _ ?_
                simp -implicitDefEqProofs only [go_sem, qa, qb, qc, qd, qe, qf, qg, qh, qi, qj, qk, ↓reduceIte, h993, h998, h1199, h1200, g1201, g1202, g1203, h1204]
                repeat with_reducible refine And.intro (by first | kernel_rfl | decide) ?_
                have hh := bnd'_some h1383; clear h1383; obtain ⟨o1385, h1386, h1387⟩ := hh
                refine Wp_cut (fun s => ∃ n1286, ∃ c1287, (n1286, c1287) = o1385 ∧ s = ⟨[], [(0, .v (.int .i64 x991)), (1, .v (.lst false n994 c995)), (4, .dead), (5, .v (.int .i64 x996)), (6, .v (.int .i64 x997)), (7, .sl false 0 0 n1286 1), (8, .v (.bool (decide (x1205 ≥ x997)))), (9, .v (.int .i64 x1197)), (10, .dead), (13, .dead), (21, .dead), (36, .dead), (58, .dead), (86, .dead), (95, .dead)], [(0, .p c1287)], 1, []⟩) ?_ ?_
                · refine Wp_block ?_
                  refine Wp_loopG (fun n s => ∃ n1243, ∃ x1244, ∃ c1245, m96_L2 N x991 n994 c995 x996 x997 x1197 x1205 n n1243 x1244 c1245 = some o1385 ∧ s = ⟨[], [(0, .v (.int .i64 x991)), (1, .v (.lst false n994 c995)), (4, .dead), (5, .v (.int .i64 x996)), (6, .v (.int .i64 x997)), (7, .sl false 0 0 n1243 1), (8, .v (.bool (decide (x1205 ≥ x997)))), (9, .v (.int .i64 x1197)), (10, .v (.int .i64 x1244)), (13, .dead), (21, .dead), (36, .dead), (58, .dead), (86, .dead), (95, .dead)], [(0, .p c1245)], 1, []⟩) N _ ((Wk_le (.r (.r (.r (.r (.r (.r (.r (.r (.r (.r (.k (.r (.r (.r (.r .nil))))))))))))))) (OLe.refl _)).trans (cmpS_ok (st' := ⟨[], [(0, .v (.int .i64 x991)), (1, .v (.lst false n994 c995)), (4, .dead), (5, .v (.int .i64 x996)), (6, .v (.int .i64 x997)), (7, .sl false 0 0 n1195 1), (8, .v (.bool (decide (x1205 ≥ x997)))), (9, .v (.int .i64 x1197)), (10, .v (.int .i64 0)), (13, .dead), (21, .dead), (36, .dead), (58, .dead), (86, .dead), (95, .dead)], [(0, .p c1198)], 1, []⟩) (by kernel_rfl))) ⟨_, _, _, h1386, rfl⟩ ?_
                  clear h1386
                  rintro n _ ⟨n1243, x1244, c1245, h1386, rfl⟩
                  cases n with
                  | zero => cases h1386
                  | succ n =>
                    rw [m96_L2] at h1386
                    have hh := brn_some h1386; clear h1386; rcases hh with ⟨h1246, h1386⟩ | ⟨h1246, h1386⟩
                    · have hh := grd_some h1386; clear h1386; obtain ⟨⟨g1247, g1248⟩, h1386⟩ := hh
                      have hh := grd_some h1386; clear h1386; obtain ⟨g1249, h1386⟩ := hh
                      have hh := getI_some h1386; clear h1386; obtain ⟨x1251, h1250, h1386⟩ := hh
                      have hh := grd_some h1386; clear h1386; obtain ⟨g1252, h1386⟩ := hh
                      have hh := grd_some h1386; clear h1386; obtain ⟨g1253, h1386⟩ := hh
                      have hh := getI_some h1386; clear h1386; obtain ⟨x1255, h1254, h1386⟩ := hh
                      have hh := brn_some h1386; clear h1386; rcases hh with ⟨h1256, h1386⟩ | ⟨h1256, h1386⟩
                      · have hh := grd_some h1386; clear h1386; obtain ⟨g1257, h1386⟩ := hh
                        have hh := getI_some h1386; clear h1386; obtain ⟨x1259, h1258, h1386⟩ := hh
                        have hh := bnd'_some h1386; clear h1386; obtain ⟨p1260, h1261, h1386⟩ := hh
                        (try dsimp only at h1386)
                        refine W_sound tab_ok mixed 31 _ _ _ ?_
                        simp -implicitDefEqProofs only [go_sem, qa, qb, qc, qd, qe, qf, qg, qh, qi, qj, qk, ↓reduceIte, h993, h998, h1199, h1200, g1201, g1202, g1203, h1204, h1246, g1247, g1248, g1249, h1250, g1252, g1253, h1254, h1256, g1257, h1258]
                        repeat with_reducible refine And.intro (by first | kernel_rfl | decide) ?_
                        refine Wp_callD [0] (c85_2 N _ _ _ _ h1261) rfl rfl rfl (by first | rfl | (simp only [go_sem, qa, qb, qc, qd, qe, qf, qg, qh, qi, qj, qk, ↓reduceIte, h993, h998, h1199, h1200, g1201, g1202, g1203, h1204, h1246, g1247, g1248, g1249, h1250, g1252, g1253, h1254, h1256, g1257, h1258] <;> rfl)) rfl (by kernel_rfl) ?_
                        have hh := getB_some h1386; clear h1386; obtain ⟨b1263, h1262, h1386⟩ := hh
                        have hh := brn_some h1386; clear h1386; rcases hh with ⟨h1264, h1386⟩ | ⟨h1264, h1386⟩
                        · have hh := brn_some h1386; clear h1386; rcases hh with ⟨h1265, h1386⟩ | ⟨h1265, h1386⟩
                          · have hh := bnd'_some h1386; clear h1386; obtain ⟨p1266, h1267, h1386⟩ := hh
                            (try dsimp only at h1386)
                            refine W_sound tab_ok mixed 23 _ _ _ ?_
                            simp -implicitDefEqProofs only [go_sem, qa, qb, qc, qd, qe, qf, qg, qh, qi, qj, qk, ↓reduceIte, h993, h998, h1199, h1200, g1201, g1202, g1203, h1204, h1246, g1247, g1248, g1249, h1250, g1252, g1253, h1254, h1256, g1257, h1258, h1262, h1264, h1265]
                            repeat with_reducible refine And.intro (by first | kernel_rfl | decide) ?_
                            refine Wp_callD [0] (c85_2 N _ _ _ _ h1267) rfl rfl rfl (by first | rfl | (simp only [go_sem, qa, qb, qc, qd, qe, qf, qg, qh, qi, qj, qk, ↓reduceIte, h993, h998, h1199, h1200, g1201, g1202, g1203, h1204, h1246, g1247, g1248, g1249, h1250, g1252, g1253, h1254, h1256, g1257, h1258, h1262, h1264, h1265] <;> rfl)) rfl (by kernel_rfl) ?_
                            have hh := getB_some h1386; clear h1386; obtain ⟨b1269, h1268, h1386⟩ := hh
                            have hh := brn_some h1386; clear h1386; rcases hh with ⟨h1270, h1386⟩ | ⟨h1270, h1386⟩
                            · refine W_sound tab_ok mixed 11 _ _ _ ?_
                              simp -implicitDefEqProofs only [go_sem, qa, qb, qc, qd, qe, qf, qg, qh, qi, qj, qk, ↓reduceIte, h993, h998, h1199, h1200, g1201, g1202, g1203, h1204, h1246, g1247, g1248, g1249, h1250, g1252, g1253, h1254, h1256, g1257, h1258, h1262, h1264, h1265, h1268, h1270]
                              repeat with_reducible refine And.intro (by first | kernel_rfl | decide) ?_
                              exact cutQ _ ((Wk_le (.r (.r (.r (.r (.r (.r (.r (.r (.r (.r (.r (.k (.k (.k (.r .nil))))))))))))))) (OLe.refl _)).trans (cmpS_ok (st' := ⟨[], [(0, .v (.int .i64 x991)), (1, .v (.lst false n994 c995)), (4, .dead), (5, .v (.int .i64 x996)), (6, .v (.int .i64 x997)), (7, .sl false 0 0 n1243 1), (8, .v (.bool (decide (x1205 ≥ x997)))), (9, .v (.int .i64 x1197)), (10, .v (.int .i64 (IntKind.i64.wrap (x1244 + 1)))), (13, .dead), (21, .dead), (36, .dead), (58, .dead), (86, .dead), (95, .dead)], [(0, .p c1245)], 1, []⟩) (by kernel_rfl))) ⟨n, Nat.lt_succ_self n, _, _, _, h1386, rfl⟩
                            · have hh := grd_some h1386; clear h1386; obtain ⟨g1271, h1386⟩ := hh
                              have hh := grd_some h1386; clear h1386; obtain ⟨g1272, h1386⟩ := hh
                              refine W_sound tab_ok mixed 21 _ _ _ ?_
                              simp -implicitDefEqProofs only [go_sem, qa, qb, qc, qd, qe, qf, qg, qh, qi, qj, qk, ↓reduceIte, h993, h998, h1199, h1200, g1201, g1202, g1203, h1204, h1246, g1247, g1248, g1249, h1250, g1252, g1253, h1254, h1256, g1257, h1258, h1262, h1264, h1265, h1268, h1270, g1271, g1272]
                              repeat with_reducible refine And.intro (by first | kernel_rfl | decide) ?_
                              exact cutQ _ ((Wk_le (.r (.r (.r (.r (.r (.r (.r (.r (.r (.r (.r (.k (.k (.k (.r .nil))))))))))))))) (OLe.refl _)).trans (cmpS_ok (st' := ⟨[], [(0, .v (.int .i64 x991)), (1, .v (.lst false n994 c995)), (4, .dead), (5, .v (.int .i64 x996)), (6, .v (.int .i64 x997)), (7, .sl false 0 0 (n1243 + 1) 1), (8, .v (.bool (decide (x1205 ≥ x997)))), (9, .v (.int .i64 x1197)), (10, .v (.int .i64 (IntKind.i64.wrap (x1244 + 1)))), (13, .dead), (21, .dead), (36, .dead), (58, .dead), (86, .dead), (95, .dead)], [(0, .p (c1245 ++ [(.int .i64 x1251)]))], 1, []⟩) (by kernel_rfl))) ⟨n, Nat.lt_succ_self n, _, _, _, h1386, rfl⟩
                          · refine W_sound tab_ok mixed 35 _ _ _ ?_
                            simp -implicitDefEqProofs only [go_sem, qa, qb, qc, qd, qe, qf, qg, qh, qi, qj, qk, ↓reduceIte, h993, h998, h1199, h1200, g1201, g1202, g1203, h1204, h1246, g1247, g1248, g1249, h1250, g1252, g1253, h1254, h1256, g1257, h1258, h1262, h1264, h1265]
                            repeat with_reducible refine And.intro (by first | kernel_rfl | decide) ?_
                            exact cutQ _ ((Wk_le (.r (.r (.r (.r (.r (.r (.r (.r (.r (.r (.r (.k (.k (.k (.r .nil))))))))))))))) (OLe.refl _)).trans (cmpS_ok (st' := ⟨[], [(0, .v (.int .i64 x991)), (1, .v (.lst false n994 c995)), (4, .dead), (5, .v (.int .i64 x996)), (6, .v (.int .i64 x997)), (7, .sl false 0 0 n1243 1), (8, .v (.bool (decide (x1205 ≥ x997)))), (9, .v (.int .i64 x1197)), (10, .v (.int .i64 (IntKind.i64.wrap (x1244 + 1)))), (13, .dead), (21, .dead), (36, .dead), (58, .dead), (86, .dead), (95, .dead)], [(0, .p c1245)], 1, []⟩) (by kernel_rfl))) ⟨n, Nat.lt_succ_self n, _, _, _, h1386, rfl⟩
                        · have hh := grd_some h1386; clear h1386; obtain ⟨g1273, h1386⟩ := hh
                          have hh := grd_some h1386; clear h1386; obtain ⟨g1274, h1386⟩ := hh
                          refine W_sound tab_ok mixed 21 _ _ _ ?_
                          simp -implicitDefEqProofs only [go_sem, qa, qb, qc, qd, qe, qf, qg, qh, qi, qj, qk, ↓reduceIte, h993, h998, h1199, h1200, g1201, g1202, g1203, h1204, h1246, g1247, g1248, g1249, h1250, g1252, g1253, h1254, h1256, g1257, h1258, h1262, h1264, g1273, g1274]
                          repeat with_reducible refine And.intro (by first | kernel_rfl | decide) ?_
                          exact cutQ _ ((Wk_le (.r (.r (.r (.r (.r (.r (.r (.r (.r (.r (.r (.k (.k (.r (.r .nil))))))))))))))) (OLe.refl _)).trans (cmpS_ok (st' := ⟨[], [(0, .v (.int .i64 x991)), (1, .v (.lst false n994 c995)), (4, .dead), (5, .v (.int .i64 x996)), (6, .v (.int .i64 x997)), (7, .sl false 0 0 (n1243 + 1) 1), (8, .v (.bool (decide (x1205 ≥ x997)))), (9, .v (.int .i64 x1197)), (10, .v (.int .i64 (IntKind.i64.wrap (x1244 + 1)))), (13, .dead), (21, .dead), (36, .dead), (58, .dead), (86, .dead), (95, .dead)], [(0, .p (c1245 ++ [(.int .i64 x1259)]))], 1, []⟩) (by kernel_rfl))) ⟨n, Nat.lt_succ_self n, _, _, _, h1386, rfl⟩
                      · have hh := grd_some h1386; clear h1386; obtain ⟨g1275, h1386⟩ := hh
                        have hh := getI_some h1386; clear h1386; obtain ⟨x1277, h1276, h1386⟩ := hh
                        have hh := brn_some h1386; clear h1386; rcases hh with ⟨h1278, h1386⟩ | ⟨h1278, h1386⟩
                        · have hh := bnd'_some h1386; clear h1386; obtain ⟨p1279, h1280, h1386⟩ := hh
                          (try dsimp only at h1386)
                          refine W_sound tab_ok mixed 55 _ _ _ ?_
                          simp -implicitDefEqProofs only [go_sem, qa, qb, qc, qd, qe, qf, qg, qh, qi, qj, qk, ↓reduceIte, h993, h998, h1199, h1200, g1201, g1202, g1203, h1204, h1246, g1247, g1248, g1249, h1250, g1252, g1253, h1254, h1256, g1275, h1276, h1278]
                          repeat with_reducible refine And.intro (by first | kernel_rfl | decide) ?_
                          refine Wp_callD [0] (c85_2 N _ _ _ _ h1280) rfl rfl rfl (by first | rfl | (simp only [go_sem, qa, qb, qc, qd, qe, qf, qg, qh, qi, qj, qk, ↓reduceIte, h993, h998, h1199, h1200, g1201, g1202, g1203, h1204, h1246, g1247, g1248, g1249, h1250, g1252, g1253, h1254, h1256, g1275, h1276, h1278] <;> rfl)) rfl (by kernel_rfl) ?_
                          have hh := getB_some h1386; clear h1386; obtain ⟨b1282, h1281, h1386⟩ := hh
                          have hh := brn_some h1386; clear h1386; rcases hh with ⟨h1283, h1386⟩ | ⟨h1283, h1386⟩
                          · refine W_sound tab_ok mixed 11 _ _ _ ?_
                            simp -implicitDefEqProofs only [go_sem, qa, qb, qc, qd, qe, qf, qg, qh, qi, qj, qk, ↓reduceIte, h993, h998, h1199, h1200, g1201, g1202, g1203, h1204, h1246, g1247, g1248, g1249, h1250, g1252, g1253, h1254, h1256, g1275, h1276, h1278, h1281, h1283]
                            repeat with_reducible refine And.intro (by first | kernel_rfl | decide) ?_
                            exact cutQ _ ((Wk_le (.r (.r (.r (.r (.r (.r (.r (.r (.r (.r (.r (.k (.k (.k (.r .nil))))))))))))))) (OLe.refl _)).trans (cmpS_ok (st' := ⟨[], [(0, .v (.int .i64 x991)), (1, .v (.lst false n994 c995)), (4, .dead), (5, .v (.int .i64 x996)), (6, .v (.int .i64 x997)), (7, .sl false 0 0 n1243 1), (8, .v (.bool (decide (x1205 ≥ x997)))), (9, .v (.int .i64 x1197)), (10, .v (.int .i64 (IntKind.i64.wrap (x1244 + 1)))), (13, .dead), (21, .dead), (36, .dead), (58, .dead), (86, .dead), (95, .dead)], [(0, .p c1245)], 1, []⟩) (by kernel_rfl))) ⟨n, Nat.lt_succ_self n, _, _, _, h1386, rfl⟩
                          · have hh := grd_some h1386; clear h1386; obtain ⟨g1284, h1386⟩ := hh
                            have hh := grd_some h1386; clear h1386; obtain ⟨g1285, h1386⟩ := hh
                            refine W_sound tab_ok mixed 21 _ _ _ ?_
                            simp -implicitDefEqProofs only [go_sem, qa, qb, qc, qd, qe, qf, qg, qh, qi, qj, qk, ↓reduceIte, h993, h998, h1199, h1200, g1201, g1202, g1203, h1204, h1246, g1247, g1248, g1249, h1250, g1252, g1253, h1254, h1256, g1275, h1276, h1278, h1281, h1283, g1284, g1285]
                            repeat with_reducible refine And.intro (by first | kernel_rfl | decide) ?_
                            exact cutQ _ ((Wk_le (.r (.r (.r (.r (.r (.r (.r (.r (.r (.r (.r (.k (.k (.k (.r .nil))))))))))))))) (OLe.refl _)).trans (cmpS_ok (st' := ⟨[], [(0, .v (.int .i64 x991)), (1, .v (.lst false n994 c995)), (4, .dead), (5, .v (.int .i64 x996)), (6, .v (.int .i64 x997)), (7, .sl false 0 0 (n1243 + 1) 1), (8, .v (.bool (decide (x1205 ≥ x997)))), (9, .v (.int .i64 x1197)), (10, .v (.int .i64 (IntKind.i64.wrap (x1244 + 1)))), (13, .dead), (21, .dead), (36, .dead), (58, .dead), (86, .dead), (95, .dead)], [(0, .p (c1245 ++ [(.int .i64 x1251)]))], 1, []⟩) (by kernel_rfl))) ⟨n, Nat.lt_succ_self n, _, _, _, h1386, rfl⟩
                        · refine W_sound tab_ok mixed 67 _ _ _ ?_
                          simp -implicitDefEqProofs only [go_sem, qa, qb, qc, qd, qe, qf, qg, qh, qi, qj, qk, ↓reduceIte, h993, h998, h1199, h1200, g1201, g1202, g1203, h1204, h1246, g1247, g1248, g1249, h1250, g1252, g1253, h1254, h1256, g1275, h1276, h1278]
                          repeat with_reducible refine And.intro (by first | kernel_rfl | decide) ?_
                          exact cutQ _ ((Wk_le (.r (.r (.r (.r (.r (.r (.r (.r (.r (.r (.r (.k (.k (.k (.r .nil))))))))))))))) (OLe.refl _)).trans (cmpS_ok (st' := ⟨[], [(0, .v (.int .i64 x991)), (1, .v (.lst false n994 c995)), (4, .dead), (5, .v (.int .i64 x996)), (6, .v (.int .i64 x997)), (7, .sl false 0 0 n1243 1), (8, .v (.bool (decide (x1205 ≥ x997)))), (9, .v (.int .i64 x1197)), (10, .v (.int .i64 (IntKind.i64.wrap (x1244 + 1)))), (13, .dead), (21, .dead), (36, .dead), (58, .dead), (86, .dead), (95, .dead)], [(0, .p c1245)], 1, []⟩) (by kernel_rfl))) ⟨n, Nat.lt_succ_self n, _, _, _, h1386, rfl⟩
                    · refine W_sound tab_ok mixed 10 _ _ _ ?_
                      simp -implicitDefEqProofs only [go_sem, qa, qb, qc, qd, qe, qf, qg, qh, qi, qj, qk, ↓reduceIte, h993, h998, h1199, h1200, g1201, g1202, g1203, h1204, h1246]
                      repeat with_reducible refine And.intro (by first | kernel_rfl | decide) ?_
                      obtain rfl := Option.some.inj h1386
                      exact cutQ _ ((Wk_le (.r (.r (.r (.r (.r (.r (.r (.r (.k (.r (.r (.k (.r (.r (.r .nil))))))))))))))) (OLe.refl _)).trans (cmpS_ok (st' := ⟨[], [(0, .v (.int .i64 x991)), (1, .v (.lst false n994 c995)), (4, .dead), (5, .v (.int .i64 x996)), (6, .v (.int .i64 x997)), (7, .sl false 0 0 n1243 1), (8, .v (.bool (decide (x1205 ≥ x997)))), (9, .v (.int .i64 x1197)), (10, .dead), (13, .dead), (21, .dead), (36, .dead), (58, .dead), (86, .dead), (95, .dead)], [(0, .p c1245)], 1, []⟩) (by kernel_rfl))) ⟨_, _, rfl, rfl⟩
                · rintro _ ⟨n1286, c1287, rfl, rfl⟩
                  (try dsimp only at h1387)
                  refine W_sound tab_ok mixed 6 _ _ _ ?_
                  simp -implicitDefEqProofs only [go_sem, qa, qb, qc, qd, qe, qf, qg, qh, qi, qj, qk, ↓reduceIte, h993, h998, h1199, h1200, g1201, g1202, g1203, h1204]
                  repeat with_reducible refine And.intro (by first | kernel_rfl | decide) ?_
                  exact cutQ _ ((Wk_le (.r (.r (.r (.r (.r (.r (.r (.r (.r (.r (.r (.r (.r (.r (.r .nil))))))))))))))) (OLe.refl _)).trans (cmpS_ok (st' := ⟨[], [(0, .v (.int .i64 x991)), (1, .v (.lst false n994 c995)), (4, .dead), (5, .v (.int .i64 x996)), (6, .v (.int .i64 x997)), (7, .sl false 0 0 n1286 1), (8, .v (.bool (decide (x1205 ≥ x997)))), (9, .v (.int .i64 (IntKind.i64.wrap (x1197 + 1)))), (10, .dead), (13, .dead), (21, .dead), (36, .dead), (58, .dead), (86, .dead), (95, .dead)], [(0, .p c1287)], 1, []⟩) (by kernel_rfl))) ⟨n, Nat.lt_succ_self n, _, _, _, _, h1387, rfl⟩
              · refine W_sound tab_ok mixed 29 _ _ _ ?_
                simp -implicitDefEqProofs only [go_sem, qa, qb, qc, qd, qe, qf, qg, qh, qi, qj, qk, ↓reduceIte, h993, h998, h1199, h1200]
                repeat with_reducible refine And.intro (by first | kernel_rfl | decide) ?_
                have hh := bnd'_some h1383; clear h1383; obtain ⟨o1388, h1389, h1390⟩ := hh
                refine Wp_cut (fun s => ∃ n1374, ∃ c1375, (n1374, c1375) = o1388 ∧ s = ⟨[], [(0, .v (.int .i64 x991)), (1, .v (.lst false n994 c995)), (4, .dead), (5, .v (.int .i64 x996)), (6, .v (.int .i64 x997)), (7, .sl false 0 0 n1374 1), (8, .v (.bool false)), (9, .v (.int .i64 x1197)), (10, .dead), (13, .dead), (21, .dead), (36, .dead), (58, .dead), (86, .dead), (95, .dead)], [(0, .p c1375)], 1, []⟩) ?_ ?_
                · refine Wp_block ?_
                  refine Wp_loopG (fun n s => ∃ n1330, ∃ x1331, ∃ c1332, m96_L3 N x991 n994 c995 x996 x997 x1197 n n1330 x1331 c1332 = some o1388 ∧ s = ⟨[], [(0, .v (.int .i64 x991)), (1, .v (.lst false n994 c995)), (4, .dead), (5, .v (.int .i64 x996)), (6, .v (.int .i64 x997)), (7, .sl false 0 0 n1330 1), (8, .v (.bool false)), (9, .v (.int .i64 x1197)), (10, .v (.int .i64 x1331)), (13, .dead), (21, .dead), (36, .dead), (58, .dead), (86, .dead), (95, .dead)], [(0, .p c1332)], 1, []⟩) N _ ((Wk_le (.r (.r (.r (.r (.r (.r (.r (.r (.r (.r (.k (.r (.r (.r (.r .nil))))))))))))))) (OLe.refl _)).trans (cmpS_ok (st' := ⟨[], [(0, .v (.int .i64 x991)), (1, .v (.lst false n994 c995)), (4, .dead), (5, .v (.int .i64 x996)), (6, .v (.int .i64 x997)), (7, .sl false 0 0 n1195 1), (8, .v (.bool false)), (9, .v (.int .i64 x1197)), (10, .v (.int .i64 0)), (13, .dead), (21, .dead), (36, .dead), (58, .dead), (86, .dead), (95, .dead)], [(0, .p c1198)], 1, []⟩) (by kernel_rfl))) ⟨_, _, _, h1389, rfl⟩ ?_
                  clear h1389
                  rintro n _ ⟨n1330, x1331, c1332, h1389, rfl⟩
                  cases n with
                  | zero => cases h1389
                  | succ n =>
                    rw [m96_L3] at h1389
                    have hh := brn_some h1389; clear h1389; rcases hh with ⟨h1333, h1389⟩ | ⟨h1333, h1389⟩
                    · have hh := grd_some h1389; clear h1389; obtain ⟨⟨g1334, g1335⟩, h1389⟩ := hh
                      have hh := grd_some h1389; clear h1389; obtain ⟨g1336, h1389⟩ := hh
                      have hh := getI_some h1389; clear h1389; obtain ⟨x1338, h1337, h1389⟩ := hh
                      have hh := grd_some h1389; clear h1389; obtain ⟨⟨g1339, g1340⟩, h1389⟩ := hh
                      have hh := grd_some h1389; clear h1389; obtain ⟨g1341, h1389⟩ := hh
                      have hh := getI_some h1389; clear h1389; obtain ⟨x1343, h1342, h1389⟩ := hh
                      have hh := brn_some h1389; clear h1389; rcases hh with ⟨h1344, h1389⟩ | ⟨h1344, h1389⟩
                      · have hh := grd_some h1389; clear h1389; obtain ⟨g1345, h1389⟩ := hh
                        have hh := getI_some h1389; clear h1389; obtain ⟨x1347, h1346, h1389⟩ := hh
                        have hh := bnd'_some h1389; clear h1389; obtain ⟨p1348, h1349, h1389⟩ := hh
                        (try dsimp only at h1389)
                        refine W_sound tab_ok mixed 31 _ _ _ ?_
                        simp -implicitDefEqProofs only [go_sem, qa, qb, qc, qd, qe, qf, qg, qh, qi, qj, qk, ↓reduceIte, h993, h998, h1199, h1200, h1333, g1334, g1335, g1336, h1337, g1339, g1340, g1341, h1342, h1344, g1345, h1346]
                        repeat with_reducible refine And.intro (by first | kernel_rfl | decide) ?_
                        refine Wp_callD [0] (c85_2 N _ _ _ _ h1349) rfl rfl rfl (by first | rfl | (simp only [go_sem, qa, qb, qc, qd, qe, qf, qg, qh, qi, qj, qk, ↓reduceIte, h993, h998, h1199, h1200, h1333, g1334, g1335, g1336, h1337, g1339, g1340, g1341, h1342, h1344, g1345, h1346] <;> rfl)) rfl (by kernel_rfl) ?_
                        have hh := getB_some h1389; clear h1389; obtain ⟨b1351, h1350, h1389⟩ := hh
                        have hh := brn_some h1389; clear h1389; rcases hh with ⟨h1352, h1389⟩ | ⟨h1352, h1389⟩
                        · have hh := brn_some h1389; clear h1389; rcases hh with ⟨h1353, h1389⟩ | ⟨h1353, h1389⟩
                          · have hh := bnd'_some h1389; clear h1389; obtain ⟨p1354, h1355, h1389⟩ := hh
                            (try dsimp only at h1389)
                            refine W_sound tab_ok mixed 23 _ _ _ ?_
                            simp -implicitDefEqProofs only [go_sem, qa, qb, qc, qd, qe, qf, qg, qh, qi, qj, qk, ↓reduceIte, h993, h998, h1199, h1200, h1333, g1334, g1335, g1336, h1337, g1339, g1340, g1341, h1342, h1344, g1345, h1346, h1350, h1352, h1353]
                            repeat with_reducible refine And.intro (by first | kernel_rfl | decide) ?_
                            refine Wp_callD [0] (c85_2 N _ _ _ _ h1355) rfl rfl rfl (by first | rfl | (simp only [go_sem, qa, qb, qc, qd, qe, qf, qg, qh, qi, qj, qk, ↓reduceIte, h993, h998, h1199, h1200, h1333, g1334, g1335, g1336, h1337, g1339, g1340, g1341, h1342, h1344, g1345, h1346, h1350, h1352, h1353] <;> rfl)) rfl (by kernel_rfl) ?_
                            have hh := getB_some h1389; clear h1389; obtain ⟨b1357, h1356, h1389⟩ := hh
                            have hh := brn_some h1389; clear h1389; rcases hh with ⟨h1358, h1389⟩ | ⟨h1358, h1389⟩
                            · refine W_sound tab_ok mixed 11 _ _ _ ?_
                              simp -implicitDefEqProofs only [go_sem, qa, qb, qc, qd, qe, qf, qg, qh, qi, qj, qk, ↓reduceIte, h993, h998, h1199, h1200, h1333, g1334, g1335, g1336, h1337, g1339, g1340, g1341, h1342, h1344, g1345, h1346, h1350, h1352, h1353, h1356, h1358]
                              repeat with_reducible refine And.intro (by first | kernel_rfl | decide) ?_
                              exact cutQ _ ((Wk_le (.r (.r (.r (.r (.r (.r (.r (.r (.r (.r (.r (.k (.k (.k (.r .nil))))))))))))))) (OLe.refl _)).trans (cmpS_ok (st' := ⟨[], [(0, .v (.int .i64 x991)), (1, .v (.lst false n994 c995)), (4, .dead), (5, .v (.int .i64 x996)), (6, .v (.int .i64 x997)), (7, .sl false 0 0 n1330 1), (8, .v (.bool false)), (9, .v (.int .i64 x1197)), (10, .v (.int .i64 (IntKind.i64.wrap (x1331 + 1)))), (13, .dead), (21, .dead), (36, .dead), (58, .dead), (86, .dead), (95, .dead)], [(0, .p c1332)], 1, []⟩) (by kernel_rfl))) ⟨n, Nat.lt_succ_self n, _, _, _, h1389, rfl⟩
                            · have hh := grd_some h1389; clear h1389; obtain ⟨g1359, h1389⟩ := hh
                              have hh := grd_some h1389; clear h1389; obtain ⟨g1360, h1389⟩ := hh
                              refine W_sound tab_ok mixed 21 _ _ _ ?_
                              simp -implicitDefEqProofs only [go_sem, qa, qb, qc, qd, qe, qf, qg, qh, qi, qj, qk, ↓reduceIte, h993, h998, h1199, h1200, h1333, g1334, g1335, g1336, h1337, g1339, g1340, g1341, h1342, h1344, g1345, h1346, h1350, h1352, h1353, h1356, h1358, g1359, g1360]
                              repeat with_reducible refine And.intro (by first | kernel_rfl | decide) ?_
                              exact cutQ _ ((Wk_le (.r (.r (.r (.r (.r (.r (.r (.r (.r (.r (.r (.k (.k (.k (.r .nil))))))))))))))) (OLe.refl _)).trans (cmpS_ok (st' := ⟨[], [(0, .v (.int .i64 x991)), (1, .v (.lst false n994 c995)), (4, .dead), (5, .v (.int .i64 x996)), (6, .v (.int .i64 x997)), (7, .sl false 0 0 (n1330 + 1) 1), (8, .v (.bool false)), (9, .v (.int .i64 x1197)), (10, .v (.int .i64 (IntKind.i64.wrap (x1331 + 1)))), (13, .dead), (21, .dead), (36, .dead), (58, .dead), (86, .dead), (95, .dead)], [(0, .p (c1332 ++ [(.int .i64 x1338)]))], 1, []⟩) (by kernel_rfl))) ⟨n, Nat.lt_succ_self n, _, _, _, h1389, rfl⟩
                          · refine W_sound tab_ok mixed 35 _ _ _ ?_
                            simp -implicitDefEqProofs only [go_sem, qa, qb, qc, qd, qe, qf, qg, qh, qi, qj, qk, ↓reduceIte, h993, h998, h1199, h1200, h1333, g1334, g1335, g1336, h1337, g1339, g1340, g1341, h1342, h1344, g1345, h1346, h1350, h1352, h1353]
                            repeat with_reducible refine And.intro (by first | kernel_rfl | decide) ?_
                            exact cutQ _ ((Wk_le (.r (.r (.r (.r (.r (.r (.r (.r (.r (.r (.r (.k (.k (.k (.r .nil))))))))))))))) (OLe.refl _)).trans (cmpS_ok (st' := ⟨[], [(0, .v (.int .i64 x991)), (1, .v (.lst false n994 c995)), (4, .dead), (5, .v (.int .i64 x996)), (6, .v (.int .i64 x997)), (7, .sl false 0 0 n1330 1), (8, .v (.bool false)), (9, .v (.int .i64 x1197)), (10, .v (.int .i64 (IntKind.i64.wrap (x1331 + 1)))), (13, .dead), (21, .dead), (36, .dead), (58, .dead), (86, .dead), (95, .dead)], [(0, .p c1332)], 1, []⟩) (by kernel_rfl))) ⟨n, Nat.lt_succ_self n, _, _, _, h1389, rfl⟩
                        · have hh := grd_some h1389; clear h1389; obtain ⟨g1361, h1389⟩ := hh
                          have hh := grd_some h1389; clear h1389; obtain ⟨g1362, h1389⟩ := hh
                          refine W_sound tab_ok mixed 21 _ _ _ ?_
                          simp -implicitDefEqProofs only [go_sem, qa, qb, qc, qd, qe, qf, qg, qh, qi, qj, qk, ↓reduceIte, h993, h998, h1199, h1200, h1333, g1334, g1335, g1336, h1337, g1339, g1340, g1341, h1342, h1344, g1345, h1346, h1350, h1352, g1361, g1362]
                          repeat with_reducible refine And.intro (by first | kernel_rfl | decide) ?_
                          exact cutQ _ ((Wk_le (.r (.r (.r (.r (.r (.r (.r (.r (.r (.r (.r (.k (.k (.r (.r .nil))))))))))))))) (OLe.refl _)).trans (cmpS_ok (st' := ⟨[], [(0, .v (.int .i64 x991)), (1, .v (.lst false n994 c995)), (4, .dead), (5, .v (.int .i64 x996)), (6, .v (.int .i64 x997)), (7, .sl false 0 0 (n1330 + 1) 1), (8, .v (.bool false)), (9, .v (.int .i64 x1197)), (10, .v (.int .i64 (IntKind.i64.wrap (x1331 + 1)))), (13, .dead), (21, .dead), (36, .dead), (58, .dead), (86, .dead), (95, .dead)], [(0, .p (c1332 ++ [(.int .i64 x1347)]))], 1, []⟩) (by kernel_rfl))) ⟨n, Nat.lt_succ_self n, _, _, _, h1389, rfl⟩
                      · have hh := grd_some h1389; clear h1389; obtain ⟨g1363, h1389⟩ := hh
                        have hh := getI_some h1389; clear h1389; obtain ⟨x1365, h1364, h1389⟩ := hh
                        have hh := brn_some h1389; clear h1389; rcases hh with ⟨h1366, h1389⟩ | ⟨h1366, h1389⟩
                        · have hh := bnd'_some h1389; clear h1389; obtain ⟨p1367, h1368, h1389⟩ := hh
                          (try dsimp only at h1389)
                          refine W_sound tab_ok mixed 55 _ _ _ ?_
                          simp -implicitDefEqProofs only [go_sem, qa, qb, qc, qd, qe, qf, qg, qh, qi, qj, qk, ↓reduceIte, h993, h998, h1199, h1200, h1333, g1334, g1335, g1336, h1337, g1339, g1340, g1341, h1342, h1344, g1363, h1364, h1366]
                          repeat with_reducible refine And.intro (by first | kernel_rfl | decide) ?_
                          refine Wp_callD [0] (c85_2 N _ _ _ _ h1368) rfl rfl rfl (by first | rfl | (simp only [go_sem, qa, qb, qc, qd, qe, qf, qg, qh, qi, qj, qk, ↓reduceIte, h993, h998, h1199, h1200, h1333, g1334, g1335, g1336, h1337, g1339, g1340, g1341, h1342, h1344, g1363, h1364, h1366] <;> rfl)) rfl (by kernel_rfl) ?_
                          have hh := getB_some h1389; clear h1389; obtain ⟨b1370, h1369, h1389⟩ := hh
                          have hh := brn_some h1389; clear h1389; rcases hh with ⟨h1371, h1389⟩ | ⟨h1371, h1389⟩
                          · refine W_sound tab_ok mixed 11 _ _ _ ?_
                            simp -implicitDefEqProofs only [go_sem, qa, qb, qc, qd, qe, qf, qg, qh, qi, qj, qk, ↓reduceIte, h993, h998, h1199, h1200, h1333, g1334, g1335, g1336, h1337, g1339, g1340, g1341, h1342, h1344, g1363, h1364, h1366, h1369, h1371]
                            repeat with_reducible refine And.intro (by first | kernel_rfl | decide) ?_
                            exact cutQ _ ((Wk_le (.r (.r (.r (.r (.r (.r (.r (.r (.r (.r (.r (.k (.k (.k (.r .nil))))))))))))))) (OLe.refl _)).trans (cmpS_ok (st' := ⟨[], [(0, .v (.int .i64 x991)), (1, .v (.lst false n994 c995)), (4, .dead), (5, .v (.int .i64 x996)), (6, .v (.int .i64 x997)), (7, .sl false 0 0 n1330 1), (8, .v (.bool false)), (9, .v (.int .i64 x1197)), (10, .v (.int .i64 (IntKind.i64.wrap (x1331 + 1)))), (13, .dead), (21, .dead), (36, .dead), (58, .dead), (86, .dead), (95, .dead)], [(0, .p c1332)], 1, []⟩) (by kernel_rfl))) ⟨n, Nat.lt_succ_self n, _, _, _, h1389, rfl⟩
                          · have hh := grd_some h1389; clear h1389; obtain ⟨g1372, h1389⟩ := hh
                            have hh := grd_some h1389; clear h1389; obtain ⟨g1373, h1389⟩ := hh
                            refine W_sound tab_ok mixed 21 _ _ _ ?_
                            simp -implicitDefEqProofs only [go_sem, qa, qb, qc, qd, qe, qf, qg, qh, qi, qj, qk, ↓reduceIte, h993, h998, h1199, h1200, h1333, g1334, g1335, g1336, h1337, g1339, g1340, g1341, h1342, h1344, g1363, h1364, h1366, h1369, h1371, g1372, g1373]
                            repeat with_reducible refine And.intro (by first | kernel_rfl | decide) ?_
                            exact cutQ _ ((Wk_le (.r (.r (.r (.r (.r (.r (.r (.r (.r (.r (.r (.k (.k (.k (.r .nil))))))))))))))) (OLe.refl _)).trans (cmpS_ok (st' := ⟨[], [(0, .v (.int .i64 x991)), (1, .v (.lst false n994 c995)), (4, .dead), (5, .v (.int .i64 x996)), (6, .v (.int .i64 x997)), (7, .sl false 0 0 (n1330 + 1) 1), (8, .v (.bool false)), (9, .v (.int .i64 x1197)), (10, .v (.int .i64 (IntKind.i64.wrap (x1331 + 1)))), (13, .dead), (21, .dead), (36, .dead), (58, .dead), (86, .dead), (95, .dead)], [(0, .p (c1332 ++ [(.int .i64 x1338)]))], 1, []⟩) (by kernel_rfl))) ⟨n, Nat.lt_succ_self n, _, _, _, h1389, rfl⟩
                        · refine W_sound tab_ok mixed 67 _ _ _ ?_
                          simp -implicitDefEqProofs only [go_sem, qa, qb, qc, qd, qe, qf, qg, qh, qi, qj, qk, ↓reduceIte, h993, h998, h1199, h1200, h1333, g1334, g1335, g1336, h1337, g1339, g1340, g1341, h1342, h1344, g1363, h1364, h1366]
                          repeat with_reducible refine And.intro (by first | kernel_rfl | decide) ?_
                          exact cutQ _ ((Wk_le (.r (.r (.r (.r (.r (.r (.r (.r (.r (.r (.r (.k (.k (.k (.r .nil))))))))))))))) (OLe.refl _)).trans (cmpS_ok (st' := ⟨[], [(0, .v (.int .i64 x991)), (1, .v (.lst false n994 c995)), (4, .dead), (5, .v (.int .i64 x996)), (6, .v (.int .i64 x997)), (7, .sl false 0 0 n1330 1), (8, .v (.bool false)), (9, .v (.int .i64 x1197)), (10, .v (.int .i64 (IntKind.i64.wrap (x1331 + 1)))), (13, .dead), (21, .dead), (36, .dead), (58, .dead), (86, .dead), (95, .dead)], [(0, .p c1332)], 1, []⟩) (by kernel_rfl))) ⟨n, Nat.lt_succ_self n, _, _, _, h1389, rfl⟩
                    · refine W_sound tab_ok mixed 10 _ _ _ ?_
                      simp -implicitDefEqProofs only [go_sem, qa, qb, qc, qd, qe, qf, qg, qh, qi, qj, qk, ↓reduceIte, h993, h998, h1199, h1200, h1333]
                      repeat with_reducible refine And.intro (by first | kernel_rfl | decide) ?_
                      obtain rfl := Option.some.inj h1389
                      exact cutQ _ ((Wk_le (.r (.r (.r (.r (.r (.r (.r (.r (.k (.r (.r (.k (.r (.r (.r .nil))))))))))))))) (OLe.refl _)).trans (cmpS_ok (st' := ⟨[], [(0, .v (.int .i64 x991)), (1, .v (.lst false n994 c995)), (4, .dead), (5, .v (.int .i64 x996)), (6, .v (.int .i64 x997)), (7, .sl false 0 0 n1330 1), (8, .v (.bool false)), (9, .v (.int .i64 x1197)), (10, .dead), (13, .dead), (21, .dead), (36, .dead), (58, .dead), (86, .dead), (95, .dead)], [(0, .p c1332)], 1, []⟩) (by kernel_rfl))) ⟨_, _, rfl, rfl⟩
                · rintro _ ⟨n1374, c1375, rfl, rfl⟩
                  (try dsimp only at h1390)
                  refine W_sound tab_ok mixed 6 _ _ _ ?_
                  simp -implicitDefEqProofs only [go_sem, qa, qb, qc, qd, qe, qf, qg, qh, qi, qj, qk, ↓reduceIte, h993, h998, h1199, h1200]
                  repeat with_reducible refine And.intro (by first | kernel_rfl | decide) ?_
                  exact cutQ _ ((Wk_le (.r (.r (.r (.r (.r (.r (.r (.r (.r (.r (.r (.r (.r (.r (.r .nil))))))))))))))) (OLe.refl _)).trans (cmpS_ok (st' := ⟨[], [(0, .v (.int .i64 x991)), (1, .v (.lst false n994 c995)), (4, .dead), (5, .v (.int .i64 x996)), (6, .v (.int .i64 x997)), (7, .sl false 0 0 n1374 1), (8, .v (.bool false)), (9, .v (.int .i64 (IntKind.i64.wrap (x1197 + 1)))), (10, .dead), (13, .dead), (21, .dead), (36, .dead), (58, .dead), (86, .dead), (95, .dead)], [(0, .p c1375)], 1, []⟩) (by kernel_rfl))) ⟨n, Nat.lt_succ_self n, _, _, _, _, h1390, rfl⟩
            · refine W_sound tab_ok mixed 10 _ _ _ ?_
              simp -implicitDefEqProofs only [go_sem, qa, qb, qc, qd, qe, qf, qg, qh, qi, qj, qk, ↓reduceIte, h993, h998, h1199]
              repeat with_reducible refine And.intro (by first | kernel_rfl | decide) ?_
              obtain rfl := Option.some.inj h1383
              exact cutQ _ ((Wk_le (.r (.r (.r (.r (.r (.k (.r (.k (.r (.r (.k (.r (.r (.r (.r .nil))))))))))))))) (OLe.refl _)).trans (cmpS_ok (st' := ⟨[], [(0, .v (.int .i64 x991)), (1, .v (.lst false n994 c995)), (4, .dead), (5, .v (.int .i64 x996)), (6, .v (.int .i64 x997)), (7, .dead), (8, .v (.bool b1196)), (9, .dead), (10, .dead), (13, .dead), (21, .dead), (36, .dead), (58, .dead), (86, .dead), (95, .dead)], [], 0, []⟩) (by kernel_rfl))) ⟨_, rfl, rfl⟩
        · rintro _ ⟨b1376, rfl, rfl⟩
          have hh := brn_some h1384; clear h1384; rcases hh with ⟨h1377, h1384⟩ | ⟨h1377, h1384⟩
          · refine W_sound tab_ok mixed 16 _ _ _ ?_
            simp -implicitDefEqProofs only [go_sem, qa, qb, qc, qd, qe, qf, qg, qh, qi, qj, qk, ↓reduceIte, h993, h998, h1377]
            repeat with_reducible refine And.intro (by first | kernel_rfl | decide) ?_
            exact cutQ _ ((Wk_le (.r (.r (.r (.r (.r (.r (.k (.r (.r (.r (.r (.r (.r (.r (.k .nil))))))))))))))) (OLe.refl _)).trans (cmpS_ok (st' := ⟨[], [(0, .v (.int .i64 x991)), (1, .v (.lst false n994 c995)), (4, .dead), (5, .v (.int .i64 (IntKind.i64.wrap (x996 + 1)))), (6, .v (.int .i64 (IntKind.i64.wrap (x997 + 1)))), (7, .dead), (8, .dead), (9, .dead), (10, .dead), (13, .dead), (21, .dead), (36, .dead), (58, .dead), (86, .dead), (95, .dead)], [], 0, []⟩) (by kernel_rfl))) ⟨n, Nat.lt_succ_self n, _, _, h1384, rfl⟩
          · refine W_sound tab_ok mixed 12 _ _ _ ?_
            simp -implicitDefEqProofs only [go_sem, qa, qb, qc, qd, qe, qf, qg, qh, qi, qj, qk, ↓reduceIte, h993, h998, h1377]
            repeat with_reducible refine And.intro (by first | kernel_rfl | decide) ?_
            exact cutQ _ ((Wk_le (.r (.r (.r (.r (.r (.r (.k (.r (.r (.r (.r (.r (.r (.r (.k .nil))))))))))))))) (OLe.refl _)).trans (cmpS_ok (st' := ⟨[], [(0, .v (.int .i64 x991)), (1, .v (.lst false n994 c995)), (4, .dead), (5, .v (.int .i64 x996)), (6, .v (.int .i64 (IntKind.i64.wrap (x997 + 1)))), (7, .dead), (8, .dead), (9, .dead), (10, .dead), (13, .dead), (21, .dead), (36, .dead), (58, .dead), (86, .dead), (95, .dead)], [], 0, []⟩) (by kernel_rfl))) ⟨n, Nat.lt_succ_self n, _, _, h1384, rfl⟩
      · refine W_sound tab_ok mixed 9 _ _ _ ?_
        simp -implicitDefEqProofs only [go_sem, qa, qb, qc, qd, qe, qf, qg, qh, qi, qj, qk, ↓reduceIte, h993, h998]
        repeat with_reducible refine And.intro (by first | kernel_rfl | decide) ?_
        obtain rfl := Option.some.inj h1380
        exact cutQ _ ((Wk_le (.k (.k (.r (.r (.k (.r (.r (.r (.r (.k (.r (.r (.r (.r (.r .nil))))))))))))))) (OLe.refl _)).trans (cmpS_ok (st' := ⟨[], [(0, .dead), (1, .dead), (4, .dead), (5, .v (.int .i64 x996)), (6, .dead), (7, .dead), (8, .dead), (9, .dead), (10, .dead), (13, .dead), (21, .dead), (36, .dead), (58, .dead), (86, .dead), (95, .dead)], [], 0, []⟩) (by kernel_rfl))) ⟨_, rfl, rfl⟩
  · rintro _ ⟨x1378, rfl, rfl⟩
    refine W_sound tab_ok mixed 7 _ _ _ ?_
    simp -implicitDefEqProofs only [go_sem, qa, qb, qc, qd, qe, qf, qg, qh, qi, qj, qk, ↓reduceIte, h993]
    repeat with_reducible refine And.intro (by first | kernel_rfl | decide) ?_
    obtain rfl := Option.some.inj h1381
    exact finC [(4, .v (.int .i64 x1378))] [(4, .v (.int .i64 x1378))] (by simp [leE, lk_cons]) (.cons _ _ _ _ _ (.v _ _ (.refl _)) .nil) (by rfl) (by simp [leE, lk_cons]) (by decide) (by decide) rfl (by simp only [go_sem, qa, qb, qc, qd, qe, qf, qg, qh, qi, qj, qk, ↓reduceIte, resQ_tmp, resQ_cell, resQ_nil, retD_one, retD_two, retD_three, retD_none]; try simp [R.val, retD_one, retD_two, retD_three, retD_none])

def m66_L0 (N : Nat) (p922 : PV) (n925 : Nat) (c926 : List PV) : Nat → Nat → Int → PV → List PV → Option ((Nat × PV × List PV))
  | 0, _, _, _, _ => none
  | n + 1, n963, x964, p965, c966 =>
    brn (decide (x964 < ((n925 : Nat) : Int))) (
      getL p965 fun n969 c970 =>
      grd (0 ≤ x964 ∧ x964 < ((n925 : Nat) : Int)) <|
      grd (0 < List.length (List.drop (Int.toNat x964) c926)) <|
      getI .i64 (gp c926 (Int.toNat x964)) fun x975 =>
      grd (0 ≤ x975 ∧ x975 < ((n969 : Nat) : Int)) <|
      grd (0 < List.length (List.drop (Int.toNat x975) c970)) <|
      getL (gp c970 (Int.toNat x975)) fun n980 c981 =>
      grd (List.length c981 = (n980 * 2)) <|
      grd ((n963 + n980) ≤ 1099511627776) <|
      grd (List.length c966 = (n963 * 2)) <|
      m66_L0 N p922 n925 c926 n (n963 + n980) (IntKind.i64.wrap (x964 + 1)) (.lst false n969 c970) (c966 ++ c981)) (
      some (n963, p965, c966))
def m66 (N : Nat) (p919 : PV) (p920 : PV) : Option (PV) :=
  getA2 p919 fun p922 p923 =>
  getL p920 fun n925 c926 =>
  bnd' (m66_L0 N p922 n925 c926 N 0 0 p923 []) fun o =>
  match o with
  | (n985, p986, c987) =>
    grd (List.length c987 = (n985 * 2)) <|
    getI .i64 p922 fun x990 =>
    bnd' (m96 N x990 (.lst false n985 c987)) fun p1391 =>
    getI .i64 p1391 fun x1394 =>
    some (.int .i64 (IntKind.i64.wrap (x990 - x1394)))
theorem c66 (N : Nat) (p919 : PV) (p920 : PV) (r : PV)  (h : m66 N p919 p920 = some r) : FnP Tryd.prog 66 [p919, p920] r := by
  unfold m66 at h
  refine Fn_of (sz := 30) tab_ok [0, 1, 2, 4, 5, 6, 10] [.tmp 4] Tryd.func66 rfl rfl rfl (by simp) ?_
  simp only [initSt, initEnv, List.map_cons, List.map_nil, List.getD_cons_zero, List.getD_cons_succ, List.getD_nil]
  have hh := getA2_some h; clear h; obtain ⟨p922, p923, h921, h⟩ := hh
  have hh := getL_some h; clear h; obtain ⟨n925, c926, h924, h⟩ := hh
  refine W_sound tab_ok mixed 14 _ _ _ ?_
  simp -implicitDefEqProofs only [go_sem, qa, qb, qc, qd, qe, qf, qg, qh, qi, qj, qk, ↓reduceIte, h921, h924]
  repeat with_reducible refine And.intro (by first | kernel_rfl | decide) ?_
  refine Wp_weaken (Wk_ownS 5 2 rfl (by decide) (by decide)) ?_
  simp -implicitDefEqProofs only [go_sem, qa, qb, qc, qd, qe, qf, qg, qh, qi, qj, qk, ↓reduceIte, h921, h924]
  have hh := bnd'_some h; clear h; obtain ⟨o1395, h1396, h1397⟩ := hh
  refine Wp_cut (fun s => ∃ n985, ∃ p986, ∃ c987, (n985, p986, c987) = o1395 ∧ s = ⟨[], [(0, .dead), (1, .dead), (2, .ptr 0 0), (4, .dead), (5, .sl false 1 0 n985 2), (6, .dead), (10, .dead)], [(0, .p [p922, p986]), (1, .p c987)], 2, []⟩) ?_ ?_
  · refine Wp_block ?_
    refine Wp_loopG (fun n s => ∃ n963, ∃ x964, ∃ p965, ∃ c966, m66_L0 N p922 n925 c926 n n963 x964 p965 c966 = some o1395 ∧ s = ⟨[], [(0, .dead), (1, .v (.lst false n925 c926)), (2, .ptr 0 0), (4, .dead), (5, .sl false 1 0 n963 2), (6, .v (.int .i64 x964)), (10, .dead)], [(0, .p [p922, p965]), (1, .p c966)], 2, []⟩) N _ ((Wk_le (.k (.r (.r (.k (.r (.r (.r .nil))))))) (OLe.refl _)).trans (cmpS_ok rfl)) ⟨_, _, _, _, h1396, rfl⟩ ?_
    clear h1396
    rintro n _ ⟨n963, x964, p965, c966, h1396, rfl⟩
    cases n with
    | zero => cases h1396
    | succ n =>
      rw [m66_L0] at h1396
      have hh := brn_some h1396; clear h1396; rcases hh with ⟨h967, h1396⟩ | ⟨h967, h1396⟩
      · have hh := getL_some h1396; clear h1396; obtain ⟨n969, c970, h968, h1396⟩ := hh
        have hh := grd_some h1396; clear h1396; obtain ⟨⟨g971, g972⟩, h1396⟩ := hh
        have hh := grd_some h1396; clear h1396; obtain ⟨g973, h1396⟩ := hh
        have hh := getI_some h1396; clear h1396; obtain ⟨x975, h974, h1396⟩ := hh
        have hh := grd_some h1396; clear h1396; obtain ⟨⟨g976, g977⟩, h1396⟩ := hh
        have hh := grd_some h1396; clear h1396; obtain ⟨g978, h1396⟩ := hh
        have hh := getL_some h1396; clear h1396; obtain ⟨n980, c981, h979, h1396⟩ := hh
        have hh := grd_some h1396; clear h1396; obtain ⟨g982, h1396⟩ := hh
        have hh := grd_some h1396; clear h1396; obtain ⟨g983, h1396⟩ := hh
        have hh := grd_some h1396; clear h1396; obtain ⟨g984, h1396⟩ := hh
        refine W_sound tab_ok mixed 31 _ _ _ ?_
        simp -implicitDefEqProofs only [go_sem, qa, qb, qc, qd, qe, qf, qg, qh, qi, qj, qk, ↓reduceIte, h921, h924, h967, h968, g971, g972, g973, h974, g976, g977, g978, h979, g982, g983, g984]
        repeat with_reducible refine And.intro (by first | kernel_rfl | decide) ?_
        exact cutQ _ ((Wk_le (.r (.r (.r (.r (.r (.r (.k .nil))))))) (OLe.refl _)).trans (cmpS_ok rfl)) ⟨n, Nat.lt_succ_self n, _, _, _, _, h1396, rfl⟩
      · refine W_sound tab_ok mixed 10 _ _ _ ?_
        simp -implicitDefEqProofs only [go_sem, qa, qb, qc, qd, qe, qf, qg, qh, qi, qj, qk, ↓reduceIte, h921, h924, h967]
        repeat with_reducible refine And.intro (by first | kernel_rfl | decide) ?_
        obtain rfl := Option.some.inj h1396
        exact cutQ _ ((Wk_le (.r (.k (.r (.r (.r (.k (.k .nil))))))) (OLe.refl _)).trans (cmpS_ok rfl)) ⟨_, _, _, rfl, rfl⟩
  · rintro _ ⟨n985, p986, c987, rfl, rfl⟩
    (try dsimp only at h1397)
    refine W_sound tab_ok mixed 1 _ _ _ ?_
    simp -implicitDefEqProofs only [go_sem, qa, qb, qc, qd, qe, qf, qg, qh, qi, qj, qk, ↓reduceIte, h921, h924]
    repeat with_reducible refine And.intro (by first | kernel_rfl | decide) ?_
    have hh := grd_some h1397; clear h1397; obtain ⟨g988, h1397⟩ := hh
    refine Wp_wkK (Wk_freeze 1 c987 (by rfl) (by decide) (by decide)) rfl ?_
    simp -implicitDefEqProofs only [go_sem, qa, qb, qc, qd, qe, qf, qg, qh, qi, qj, qk, ↓reduceIte, h921, h924, g988]
    have hh := getI_some h1397; clear h1397; obtain ⟨x990, h989, h1397⟩ := hh
    have hh := bnd'_some h1397; clear h1397; obtain ⟨p1391, h1392, h1397⟩ := hh
    refine W_sound tab_ok mixed 6 _ _ _ ?_
    simp -implicitDefEqProofs only [go_sem, qa, qb, qc, qd, qe, qf, qg, qh, qi, qj, qk, ↓reduceIte, h921, h924, g988, h989]
    repeat with_reducible refine And.intro (by first | kernel_rfl | decide) ?_
    refine Wp_callP (c96 N _ _ _ h1392) (by kernel_rfl) rfl rfl rfl rfl (by decide) ?_
    have hh := getI_some h1397; clear h1397; obtain ⟨x1394, h1393, h1397⟩ := hh
    refine W_sound tab_ok mixed 5 _ _ _ ?_
    simp -implicitDefEqProofs only [go_sem, qa, qb, qc, qd, qe, qf, qg, qh, qi, qj, qk, ↓reduceIte, h921, h924, g988, h989, h1393]
    repeat with_reducible refine And.intro (by first | kernel_rfl | decide) ?_
    obtain rfl := Option.some.inj h1397
    exact finC [(4, .v (.int .i64 (IntKind.i64.wrap (x990 - x1394))))] [(4, .v (.int .i64 (IntKind.i64.wrap (x990 - x1394))))] (by simp [leE, lk_cons]) (.cons _ _ _ _ _ (.v _ _ (.refl _)) .nil) (by rfl) (by simp [leE, lk_cons]) (by decide) (by decide) rfl (by simp only [go_sem, qa, qb, qc, qd, qe, qf, qg, qh, qi, qj, qk, ↓reduceIte, resQ_tmp, resQ_cell, resQ_nil, retD_one, retD_two, retD_three, retD_none]; try simp [R.val, retD_one, retD_two, retD_three, retD_none])

def m73_L0 (N : Nat) (rec : Int → Int → PV → Option (PV)) (x1709 : Int) (x1710 : Int) (n1713 : Nat) (c1714 : List PV) : Nat → Nat → Int → List PV → Option ((Nat × List PV))
  | 0, _, _, _ => none
  | n + 1, n1766, x1767, c1768 =>
    brn (decide (x1767 < x1709)) (
      grd (List.length c1714 = n1713) <|
      brn (decide (0 < n1713)) (
        grd (n1713 ≤ 1099511627776) <|
        grd ((n1713 + 1) ≤ 1099511627776) <|
        bnd' (rec x1709 x1710 (.lst false (n1713 + 1) (c1714 ++ [(.int .i64 x1767)]))) fun p1774 =>
        getL p1774 fun n1777 c1778 =>
        grd (List.length c1778 = n1777) <|
        grd ((n1766 + n1777) ≤ 1099511627776) <|
        grd (List.length c1768 = n1766) <|
        m73_L0 N rec x1709 x1710 n1713 c1714 n (n1766 + n1777) (IntKind.i64.wrap (x1767 + 1)) (c1768 ++ c1778)) (
        grd (n1713 ≤ 1099511627776) <|
        grd ((n1713 + 1) ≤ 1099511627776) <|
        bnd' (rec x1709 x1710 (.lst false (n1713 + 1) (c1714 ++ [(.int .i64 x1767)]))) fun p1784 =>
        getL p1784 fun n1787 c1788 =>
        grd (List.length c1788 = n1787) <|
        grd ((n1766 + n1787) ≤ 1099511627776) <|
        grd (List.length c1768 = n1766) <|
        m73_L0 N rec x1709 x1710 n1713 c1714 n (n1766 + n1787) (IntKind.i64.wrap (x1767 + 1)) (c1768 ++ c1788))) (
      some (n1766, c1768))
def m73_L1 (N : Nat) (rec : Int → Int → PV → Option (PV)) (x1709 : Int) (x1710 : Int) (n1713 : Nat) (c1714 : List PV) : Nat → Nat → Int → List PV → Option ((Nat × List PV))
  | 0, _, _, _ => none
  | n + 1, n1839, x1840, c1841 =>
    brn (decide (x1840 < x1709)) (
      grd (List.length c1714 = n1713) <|
      brn (decide (0 < n1713)) (
        grd (n1713 ≤ 1099511627776) <|
        grd ((n1713 + 1) ≤ 1099511627776) <|
        bnd' (rec x1709 x1710 (.lst false (n1713 + 1) (c1714 ++ [(.int .i64 x1840)]))) fun p1847 =>
        getL p1847 fun n1850 c1851 =>
        grd (List.length c1851 = n1850) <|
        grd ((n1839 + n1850) ≤ 1099511627776) <|
        grd (List.length c1841 = n1839) <|
        m73_L1 N rec x1709 x1710 n1713 c1714 n (n1839 + n1850) (IntKind.i64.wrap (x1840 + 1)) (c1841 ++ c1851)) (
        grd (n1713 ≤ 1099511627776) <|
        grd ((n1713 + 1) ≤ 1099511627776) <|
        bnd' (rec x1709 x1710 (.lst false (n1713 + 1) (c1714 ++ [(.int .i64 x1840)]))) fun p1857 =>
        getL p1857 fun n1860 c1861 =>
        grd (List.length c1861 = n1860) <|
        grd ((n1839 + n1860) ≤ 1099511627776) <|
        grd (List.length c1841 = n1839) <|
        m73_L1 N rec x1709 x1710 n1713 c1714 n (n1839 + n1860) (IntKind.i64.wrap (x1840 + 1)) (c1841 ++ c1861))) (
      some (n1839, c1841))
def m73 (N : Nat) : Nat → Int → Int → PV → Option (PV)
  | 0, _, _, _ => none
  | fu + 1, x1709, x1710, p1711 =>
    getL p1711 fun n1713 c1714 =>
    brn (((n1713 : Nat) : Int) == x1710) (
      some (.lst false 1 [(.lst false n1713 c1714)])) (
      brn (decide (((n1713 : Nat) : Int) > 0)) (
        grd (0 ≤ (IntKind.i64.wrap (((n1713 : Nat) : Int) - 1)) ∧ (IntKind.i64.wrap (((n1713 : Nat) : Int) - 1)) < ((n1713 : Nat) : Int)) <|
        grd (0 < List.length (List.drop (Int.toNat (IntKind.i64.wrap (((n1713 : Nat) : Int) - 1))) c1714)) <|
        getI .i64 (gp c1714 (Int.toNat (IntKind.i64.wrap (((n1713 : Nat) : Int) - 1)))) fun x1721 =>
        bnd' (m73_L0 N (m73 N fu) x1709 x1710 n1713 c1714 N 0 (IntKind.i64.wrap (x1721 + 1)) []) fun o =>
        match o with
        | (n1792, c1793) =>
          grd (List.length c1793 = n1792) <|
          some (.lst false n1792 c1793)) (
        bnd' (m73_L1 N (m73 N fu) x1709 x1710 n1713 c1714 N 0 0 []) fun o =>
        match o with
        | (n1865, c1866) =>
          grd (List.length c1866 = n1865) <|
          some (.lst false n1865 c1866)))
theorem c73 (N : Nat) : ∀ (fu : Nat) (x1709 : Int) (x1710 : Int) (p1711 : PV) (r : PV)  (h : m73 N fu x1709 x1710 p1711 = some r), FnP Tryd.prog 73 [(.int .i64 x1709), (.int .i64 x1710), p1711] r := by
  intro fu
  induction fu with
  | zero => intro x1709 x1710 p1711 r h; cases h
  | succ fu ih =>
    intro x1709 x1710 p1711 r h
    rw [m73] at h
    refine Fn_of (sz := 44) tab_ok [0, 1, 2, 6, 7, 8, 9, 13, 18, 29] [.tmp 6] Tryd.func73 rfl rfl rfl (by simp) ?_
    simp only [initSt, initEnv, List.map_cons, List.map_nil, List.getD_cons_zero, List.getD_cons_succ, List.getD_nil]
    have hh := getL_some h; clear h; obtain ⟨n1713, c1714, h1712, h⟩ := hh
    have hh := brn_some h; clear h; rcases hh with ⟨h1715, h⟩ | ⟨h1715, h⟩
    · refine W_sound tab_ok mixed 21 _ _ _ ?_
      simp -implicitDefEqProofs only [go_sem, qa, qb, qc, qd, qe, qf, qg, qh, qi, qj, qk, ↓reduceIte, h1712, h1715]
      repeat with_reducible refine And.intro (by first | kernel_rfl | decide) ?_
      refine FinQ_wk (Wk_freeze 15 [(.lst false n1713 c1714)] (by rfl) (by decide) (by decide)) ?_
      simp -implicitDefEqProofs only [go_sem, qa, qb, qc, qd, qe, qf, qg, qh, qi, qj, qk, ↓reduceIte, h1712, h1715]
      obtain rfl := Option.some.inj h
      exact finC [(6, .v (.lst true 1 [(.lst false n1713 c1714)]))] [(6, .v (.lst false 1 [(.lst false n1713 c1714)]))] (by simp [leE, lk_cons]) (.cons _ _ _ _ _ (.v _ _ (.lst true false _ _ _ (fun h => by first | exact h | cases h) (PLes.refl _))) .nil) (by rfl) (by simp [leE, lk_cons]) (by decide) (by decide) rfl (by simp only [go_sem, qa, qb, qc, qd, qe, qf, qg, qh, qi, qj, qk, ↓reduceIte, resQ_tmp, resQ_cell, resQ_nil, retD_one, retD_two, retD_three, retD_none]; try simp [R.val, retD_one, retD_two, retD_three, retD_none])
    · have hh := brn_some h; clear h; rcases hh with ⟨h1716, h⟩ | ⟨h1716, h⟩
      · have hh := grd_some h; clear h; obtain ⟨⟨g1717, g1718⟩, h⟩ := hh
        have hh := grd_some h; clear h; obtain ⟨g1719, h⟩ := hh
        have hh := getI_some h; clear h; obtain ⟨x1721, h1720, h⟩ := hh
        refine W_sound tab_ok mixed 46 _ _ _ ?_
        simp -implicitDefEqProofs only [go_sem, qa, qb, qc, qd, qe, qf, qg, qh, qi, qj, qk, ↓reduceIte, h1712, h1715, h1716, g1717, g1718, g1719, h1720]
        repeat with_reducible refine And.intro (by first | kernel_rfl | decide) ?_
        refine Wp_weaken (Wk_ownS 8 1 rfl (by decide) (by decide)) ?_
        simp -implicitDefEqProofs only [go_sem, qa, qb, qc, qd, qe, qf, qg, qh, qi, qj, qk, ↓reduceIte, h1712, h1715, h1716, g1717, g1718, g1719, h1720]
        have hh := bnd'_some h; clear h; obtain ⟨o1868, h1869, h1870⟩ := hh
        refine Wp_cut (fun s => ∃ n1792, ∃ c1793, (n1792, c1793) = o1868 ∧ s = ⟨[], [(0, .dead), (1, .dead), (2, .dead), (6, .dead), (7, .dead), (8, .sl false 0 0 n1792 1), (9, .dead), (13, .dead), (18, .dead), (29, .dead)], [(0, .p c1793)], 1, []⟩) ?_ ?_
        · refine Wp_block ?_
          refine Wp_loopG (fun n s => ∃ n1766, ∃ x1767, ∃ c1768, m73_L0 N (m73 N fu) x1709 x1710 n1713 c1714 n n1766 x1767 c1768 = some o1868 ∧ s = ⟨[], [(0, .v (.int .i64 x1709)), (1, .v (.int .i64 x1710)), (2, .v (.lst false n1713 c1714)), (6, .dead), (7, .dead), (8, .sl false 0 0 n1766 1), (9, .v (.int .i64 x1767)), (13, .dead), (18, .dead), (29, .dead)], [(0, .p c1768)], 1, []⟩) N _ ((Wk_le (.r (.r (.r (.k (.k (.r (.r (.k (.k (.r .nil)))))))))) (OLe.refl _)).trans (cmpS_ok rfl)) ⟨_, _, _, h1869, rfl⟩ ?_
          clear h1869
          rintro n _ ⟨n1766, x1767, c1768, h1869, rfl⟩
          cases n with
          | zero => cases h1869
          | succ n =>
            rw [m73_L0] at h1869
            have hh := brn_some h1869; clear h1869; rcases hh with ⟨h1769, h1869⟩ | ⟨h1769, h1869⟩
            · have hh := grd_some h1869; clear h1869; obtain ⟨g1770, h1869⟩ := hh
              have hh := brn_some h1869; clear h1869; rcases hh with ⟨h1771, h1869⟩ | ⟨h1771, h1869⟩
              · have hh := grd_some h1869; clear h1869; obtain ⟨g1772, h1869⟩ := hh
                have hh := grd_some h1869; clear h1869; obtain ⟨g1773, h1869⟩ := hh
                have hh := bnd'_some h1869; clear h1869; obtain ⟨p1774, h1775, h1869⟩ := hh
                refine W_sound tab_ok mixed 21 _ _ _ ?_
                simp -implicitDefEqProofs only [go_sem, qa, qb, qc, qd, qe, qf, qg, qh, qi, qj, qk, ↓reduceIte, h1712, h1715, h1716, g1717, g1718, g1719, h1720, h1769, g1770, h1771, g1772, g1773]
                repeat with_reducible refine And.intro (by first | kernel_rfl | decide) ?_
                refine Wp_callF [(41, (c1714 ++ [(.int .i64 x1767)]))] (ih _ _ _ _ h1775) (by kernel_rfl) rfl rfl rfl (by simp only [go_sem, qa, qb, qc, qd, qe, qf, qg, qh, qi, qj, qk, ↓reduceIte, h1712, h1715, h1716, g1717, g1718, g1719, h1720, h1769, g1770, h1771, g1772, g1773] <;> rfl) (by decide) rfl (by simp [roF, obL]) rfl ?_
                have hh := getL_some h1869; clear h1869; obtain ⟨n1777, c1778, h1776, h1869⟩ := hh
                have hh := grd_some h1869; clear h1869; obtain ⟨g1779, h1869⟩ := hh
                have hh := grd_some h1869; clear h1869; obtain ⟨g1780, h1869⟩ := hh
                have hh := grd_some h1869; clear h1869; obtain ⟨g1781, h1869⟩ := hh
                refine W_sound tab_ok mixed 9 _ _ _ ?_
                simp -implicitDefEqProofs only [go_sem, qa, qb, qc, qd, qe, qf, qg, qh, qi, qj, qk, ↓reduceIte, h1712, h1715, h1716, g1717, g1718, g1719, h1720, h1769, g1770, h1771, g1772, g1773, h1776, g1779, g1780, g1781]
                repeat with_reducible refine And.intro (by first | kernel_rfl | decide) ?_
                exact cutQ _ ((Wk_le (.r (.r (.r (.r (.r (.r (.r (.r (.r (.k .nil)))))))))) (OLe.refl _)).trans (cmpS_ok rfl)) ⟨n, Nat.lt_succ_self n, _, _, _, h1869, rfl⟩
              · have hh := grd_some h1869; clear h1869; obtain ⟨g1782, h1869⟩ := hh
                have hh := grd_some h1869; clear h1869; obtain ⟨g1783, h1869⟩ := hh
                have hh := bnd'_some h1869; clear h1869; obtain ⟨p1784, h1785, h1869⟩ := hh
                refine W_sound tab_ok mixed 21 _ _ _ ?_
                simp -implicitDefEqProofs only [go_sem, qa, qb, qc, qd, qe, qf, qg, qh, qi, qj, qk, ↓reduceIte, h1712, h1715, h1716, g1717, g1718, g1719, h1720, h1769, g1770, h1771, g1782, g1783]
                repeat with_reducible refine And.intro (by first | kernel_rfl | decide) ?_
                refine Wp_callF [(41, (c1714 ++ [(.int .i64 x1767)]))] (ih _ _ _ _ h1785) (by kernel_rfl) rfl rfl rfl (by simp only [go_sem, qa, qb, qc, qd, qe, qf, qg, qh, qi, qj, qk, ↓reduceIte, h1712, h1715, h1716, g1717, g1718, g1719, h1720, h1769, g1770, h1771, g1782, g1783] <;> rfl) (by decide) rfl (by simp [roF, obL]) rfl ?_
                have hh := getL_some h1869; clear h1869; obtain ⟨n1787, c1788, h1786, h1869⟩ := hh
                have hh := grd_some h1869; clear h1869; obtain ⟨g1789, h1869⟩ := hh
                have hh := grd_some h1869; clear h1869; obtain ⟨g1790, h1869⟩ := hh
                have hh := grd_some h1869; clear h1869; obtain ⟨g1791, h1869⟩ := hh
                refine W_sound tab_ok mixed 9 _ _ _ ?_
                simp -implicitDefEqProofs only [go_sem, qa, qb, qc, qd, qe, qf, qg, qh, qi, qj, qk, ↓reduceIte, h1712, h1715, h1716, g1717, g1718, g1719, h1720, h1769, g1770, h1771, g1782, g1783, h1786, g1789, g1790, g1791]
                repeat with_reducible refine And.intro (by first | kernel_rfl | decide) ?_
                exact cutQ _ ((Wk_le (.r (.r (.r (.r (.r (.r (.r (.r (.r (.k .nil)))))))))) (OLe.refl _)).trans (cmpS_ok rfl)) ⟨n, Nat.lt_succ_self n, _, _, _, h1869, rfl⟩
            · refine W_sound tab_ok mixed 9 _ _ _ ?_
              simp -implicitDefEqProofs only [go_sem, qa, qb, qc, qd, qe, qf, qg, qh, qi, qj, qk, ↓reduceIte, h1712, h1715, h1716, g1717, g1718, g1719, h1720, h1769]
              repeat with_reducible refine And.intro (by first | kernel_rfl | decide) ?_
              obtain rfl := Option.some.inj h1869
              exact cutQ _ ((Wk_le (.k (.k (.k (.r (.r (.r (.k (.r (.r (.k .nil)))))))))) (OLe.refl _)).trans (cmpS_ok rfl)) ⟨_, _, rfl, rfl⟩
        · rintro _ ⟨n1792, c1793, rfl, rfl⟩
          (try dsimp only at h1870)
          refine W_sound tab_ok mixed 7 _ _ _ ?_
          simp -implicitDefEqProofs only [go_sem, qa, qb, qc, qd, qe, qf, qg, qh, qi, qj, qk, ↓reduceIte, h1712, h1715, h1716, g1717, g1718, g1719, h1720]
          repeat with_reducible refine And.intro (by first | kernel_rfl | decide) ?_
          have hh := grd_some h1870; clear h1870; obtain ⟨g1794, h1870⟩ := hh
          refine FinQ_wk (Wk_freeze 0 c1793 (by rfl) (by decide) (by decide)) ?_
          simp -implicitDefEqProofs only [go_sem, qa, qb, qc, qd, qe, qf, qg, qh, qi, qj, qk, ↓reduceIte, h1712, h1715, h1716, g1717, g1718, g1719, h1720, g1794]
          obtain rfl := Option.some.inj h1870
          exact finC [(6, .v (.lst false n1792 c1793))] [(6, .v (.lst false n1792 c1793))] (by simp [leE, lk_cons]) (.cons _ _ _ _ _ (.v _ _ (.refl _)) .nil) (by rfl) (by simp [leE, lk_cons]) (by decide) (by decide) rfl (by simp only [go_sem, qa, qb, qc, qd, qe, qf, qg, qh, qi, qj, qk, ↓reduceIte, resQ_tmp, resQ_cell, resQ_nil, retD_one, retD_two, retD_three, retD_none]; try simp [R.val, retD_one, retD_two, retD_three, retD_none])
      · refine W_sound tab_ok mixed 37 _ _ _ ?_
        simp -implicitDefEqProofs only [go_sem, qa, qb, qc, qd, qe, qf, qg, qh, qi, qj, qk, ↓reduceIte, h1712, h1715, h1716]
        repeat with_reducible refine And.intro (by first | kernel_rfl | decide) ?_
        refine Wp_weaken (Wk_ownS 8 1 rfl (by decide) (by decide)) ?_
        simp -implicitDefEqProofs only [go_sem, qa, qb, qc, qd, qe, qf, qg, qh, qi, qj, qk, ↓reduceIte, h1712, h1715, h1716]
        have hh := bnd'_some h; clear h; obtain ⟨o1871, h1872, h1873⟩ := hh
        refine Wp_cut (fun s => ∃ n1865, ∃ c1866, (n1865, c1866) = o1871 ∧ s = ⟨[], [(0, .dead), (1, .dead), (2, .dead), (6, .dead), (7, .dead), (8, .sl false 0 0 n1865 1), (9, .dead), (13, .dead), (18, .dead), (29, .dead)], [(0, .p c1866)], 1, []⟩) ?_ ?_
        · refine Wp_block ?_
          refine Wp_loopG (fun n s => ∃ n1839, ∃ x1840, ∃ c1841, m73_L1 N (m73 N fu) x1709 x1710 n1713 c1714 n n1839 x1840 c1841 = some o1871 ∧ s = ⟨[], [(0, .v (.int .i64 x1709)), (1, .v (.int .i64 x1710)), (2, .v (.lst false n1713 c1714)), (6, .dead), (7, .dead), (8, .sl false 0 0 n1839 1), (9, .v (.int .i64 x1840)), (13, .dead), (18, .dead), (29, .dead)], [(0, .p c1841)], 1, []⟩) N _ ((Wk_le (.r (.r (.r (.k (.k (.r (.r (.k (.k (.r .nil)))))))))) (OLe.refl _)).trans (cmpS_ok rfl)) ⟨_, _, _, h1872, rfl⟩ ?_
          clear h1872
          rintro n _ ⟨n1839, x1840, c1841, h1872, rfl⟩
          cases n with
          | zero => cases h1872
          | succ n =>
            rw [m73_L1] at h1872
            have hh := brn_some h1872; clear h1872; rcases hh with ⟨h1842, h1872⟩ | ⟨h1842, h1872⟩
            · have hh := grd_some h1872; clear h1872; obtain ⟨g1843, h1872⟩ := hh
              have hh := brn_some h1872; clear h1872; rcases hh with ⟨h1844, h1872⟩ | ⟨h1844, h1872⟩
              · have hh := grd_some h1872; clear h1872; obtain ⟨g1845, h1872⟩ := hh
                have hh := grd_some h1872; clear h1872; obtain ⟨g1846, h1872⟩ := hh
                have hh := bnd'_some h1872; clear h1872; obtain ⟨p1847, h1848, h1872⟩ := hh
                refine W_sound tab_ok mixed 21 _ _ _ ?_
                simp -implicitDefEqProofs only [go_sem, qa, qb, qc, qd, qe, qf, qg, qh, qi, qj, qk, ↓reduceIte, h1712, h1715, h1716, h1842, g1843, h1844, g1845, g1846]
                repeat with_reducible refine And.intro (by first | kernel_rfl | decide) ?_
                refine Wp_callF [(41, (c1714 ++ [(.int .i64 x1840)]))] (ih _ _ _ _ h1848) (by kernel_rfl) rfl rfl rfl (by simp only [go_sem, qa, qb, qc, qd, qe, qf, qg, qh, qi, qj, qk, ↓reduceIte, h1712, h1715, h1716, h1842, g1843, h1844, g1845, g1846] <;> rfl) (by decide) rfl (by simp [roF, obL]) rfl ?_
                have hh := getL_some h1872; clear h1872; obtain ⟨n1850, c1851, h1849, h1872⟩ := hh
                have hh := grd_some h1872; clear h1872; obtain ⟨g1852, h1872⟩ := hh
                have hh := grd_some h1872; clear h1872; obtain ⟨g1853, h1872⟩ := hh
                have hh := grd_some h1872; clear h1872; obtain ⟨g1854, h1872⟩ := hh
                refine W_sound tab_ok mixed 9 _ _ _ ?_
                simp -implicitDefEqProofs only [go_sem, qa, qb, qc, qd, qe, qf, qg, qh, qi, qj, qk, ↓reduceIte, h1712, h1715, h1716, h1842, g1843, h1844, g1845, g1846, h1849, g1852, g1853, g1854]
                repeat with_reducible refine And.intro (by first | kernel_rfl | decide) ?_
                exact cutQ _ ((Wk_le (.r (.r (.r (.r (.r (.r (.r (.r (.r (.k .nil)))))))))) (OLe.refl _)).trans (cmpS_ok rfl)) ⟨n, Nat.lt_succ_self n, _, _, _, h1872, rfl⟩
              · have hh := grd_some h1872; clear h1872; obtain ⟨g1855, h1872⟩ := hh
                have hh := grd_some h1872; clear h1872; obtain ⟨g1856, h1872⟩ := hh
                have hh := bnd'_some h1872; clear h1872; obtain ⟨p1857, h1858, h1872⟩ := hh
                refine W_sound tab_ok mixed 21 _ _ _ ?_
                simp -implicitDefEqProofs only [go_sem, qa, qb, qc, qd, qe, qf, qg, qh, qi, qj, qk, ↓reduceIte, h1712, h1715, h1716, h1842, g1843, h1844, g1855, g1856]
                repeat with_reducible refine And.intro (by first | kernel_rfl | decide) ?_
                refine Wp_callF [(41, (c1714 ++ [(.int .i64 x1840)]))] (ih _ _ _ _ h1858) (by kernel_rfl) rfl rfl rfl (by simp only [go_sem, qa, qb, qc, qd, qe, qf, qg, qh, qi, qj, qk, ↓reduceIte, h1712, h1715, h1716, h1842, g1843, h1844, g1855, g1856] <;> rfl) (by decide) rfl (by simp [roF, obL]) rfl ?_
                have hh := getL_some h1872; clear h1872; obtain ⟨n1860, c1861, h1859, h1872⟩ := hh
                have hh := grd_some h1872; clear h1872; obtain ⟨g1862, h1872⟩ := hh
                have hh := grd_some h1872; clear h1872; obtain ⟨g1863, h1872⟩ := hh
                have hh := grd_some h1872; clear h1872; obtain ⟨g1864, h1872⟩ := hh
                refine W_sound tab_ok mixed 9 _ _ _ ?_
                simp -implicitDefEqProofs only [go_sem, qa, qb, qc, qd, qe, qf, qg, qh, qi, qj, qk, ↓reduceIte, h1712, h1715, h1716, h1842, g1843, h1844, g1855, g1856, h1859, g1862, g1863, g1864]
                repeat with_reducible refine And.intro (by first | kernel_rfl | decide) ?_
                exact cutQ _ ((Wk_le (.r (.r (.r (.r (.r (.r (.r (.r (.r (.k .nil)))))))))) (OLe.refl _)).trans (cmpS_ok rfl)) ⟨n, Nat.lt_succ_self n, _, _, _, h1872, rfl⟩
            · refine W_sound tab_ok mixed 9 _ _ _ ?_
              simp -implicitDefEqProofs only [go_sem, qa, qb, qc, qd, qe, qf, qg, qh, qi, qj, qk, ↓reduceIte, h1712, h1715, h1716, h1842]
              repeat with_reducible refine And.intro (by first | kernel_rfl | decide) ?_
              obtain rfl := Option.some.inj h1872
              exact cutQ _ ((Wk_le (.k (.k (.k (.r (.r (.r (.k (.r (.r (.k .nil)))))))))) (OLe.refl _)).trans (cmpS_ok rfl)) ⟨_, _, rfl, rfl⟩
        · rintro _ ⟨n1865, c1866, rfl, rfl⟩
          (try dsimp only at h1873)
          refine W_sound tab_ok mixed 7 _ _ _ ?_
          simp -implicitDefEqProofs only [go_sem, qa, qb, qc, qd, qe, qf, qg, qh, qi, qj, qk, ↓reduceIte, h1712, h1715, h1716]
          repeat with_reducible refine And.intro (by first | kernel_rfl | decide) ?_
          have hh := grd_some h1873; clear h1873; obtain ⟨g1867, h1873⟩ := hh
          refine FinQ_wk (Wk_freeze 0 c1866 (by rfl) (by decide) (by decide)) ?_
          simp -implicitDefEqProofs only [go_sem, qa, qb, qc, qd, qe, qf, qg, qh, qi, qj, qk, ↓reduceIte, h1712, h1715, h1716, g1867]
          obtain rfl := Option.some.inj h1873
          exact finC [(6, .v (.lst false n1865 c1866))] [(6, .v (.lst false n1865 c1866))] (by simp [leE, lk_cons]) (.cons _ _ _ _ _ (.v _ _ (.refl _)) .nil) (by rfl) (by simp [leE, lk_cons]) (by decide) (by decide) rfl (by simp only [go_sem, qa, qb, qc, qd, qe, qf, qg, qh, qi, qj, qk, ↓reduceIte, resQ_tmp, resQ_cell, resQ_nil, retD_one, retD_two, retD_three, retD_none]; try simp [R.val, retD_one, retD_two, retD_three, retD_none])

end Go.Proofs.YtnponojgpkbagaaDoor

namespace Go.Proofs.YtnponojgpkbagaaDoor
open Go.V
open Nat renaming reduceBEq → qa, reduceAdd → qb, reduceSub → qc, reduceMul → qd, reduceLT → qe, reduceLeDiff → qf
open Int renaming reduceLE → qg, reduceLT → qh, reduceToNat → qi, reduceBEq → qj, reduceBNe → qk
set_option maxRecDepth 100000
set_option maxHeartbeats 4000000
set_option linter.unusedSimpArgs false
set_option linter.unusedVariables false
attribute [local go_sem] tl1 tl2 tl3 tl4 tl5 tl9 tl17 tl21 tl22 tl23 tl24 tl25 tl26 tl27 tl28 tl29 tl31 tl32 tl34 tl35 tl36 tl37 tl38 tl39 tl40 tl41 tl42 tl43 tl44 tl45 tl47 tl48 tl49 tl50 tl51 tl52 tl53 tl54 tl55 tl56 tl57 tl58 tl59 tl60 tl61 tl62 tl63 tl64 tl65 tl66 tl67 tl68 tl69 tl70 tl71 tl72 tl73 tl74 tl75 tl76 tl77 tl78 tl79 tl80 tl81 tl82 tl83 tl84 tl85 tl86 tl87 tl88 tl89 tl90 tl92 tl94 tl95 tl96 tl97 tl98 tl99 tl100 tl101 tl102 tl103 tl104 tl105 tl106 tl107 tl108 tl109 tl110 tl111 tl112 tl113 tl114 tl115 tl116 tl118 tl119 tl121 tl122 tl123 tl124 tl125 tl126 tl127 tl128 tl129 tl131 tl133 tl134 tl135 tl136 tl142 tl146

def m16 (N : Nat) : Option PV := some (.bool true)
theorem c16 (N : Nat) (r : PV) (h : m16 N = some r) : FnP Tryd.prog 16 [] r := by
  obtain rfl := Option.some.inj h
  exact k29

def m15_L0 (N : Nat) (p2256 : PV) (n2259 : Nat) (c2260 : List PV) : Nat → Int → Option ((PV ⊕ Unit))
  | 0, _ => none
  | n + 1, x2262 =>
    brn (decide (x2262 < ((n2259 : Nat) : Int))) (
      grd (0 ≤ x2262 ∧ x2262 < ((n2259 : Nat) : Int)) <|
      grd (0 < List.length (List.drop (Int.toNat x2262) c2260)) <|
      getL (gp c2260 (Int.toNat x2262)) fun n2268 c2269 =>
      brn (decide (((n2268 : Nat) : Int) > 20)) (
        some (.inl (.bool true))) (
        m15_L0 N p2256 n2259 c2260 n (IntKind.i64.wrap (x2262 + 1)))) (
      some (.inr ()))
def m15 (N : Nat) (p2254 : PV) : Option (PV) :=
  getA2 p2254 fun p2256 p2257 =>
  getL p2257 fun n2259 c2260 =>
  brn (decide (((n2259 : Nat) : Int) > 20)) (
    some (.bool true)) (
    bnd' (m15_L0 N p2256 n2259 c2260 N 0) fun o =>
    match o with
    | .inl p2271 =>
      some p2271
    | .inr () =>
      some (.bool false))
theorem c15 (N : Nat) (p2254 : PV) (r : PV)  (h : m15 N p2254 = some r) : FnP Tryd.prog 15 [p2254] r := by
  unfold m15 at h
  refine Fn_of (sz := 22) tab_ok [0, 1, 2, 3, 7, 12, 21] [.tmp 2] Tryd.func15 rfl rfl rfl (by simp) ?_
  simp only [initSt, initEnv, List.map_cons, List.map_nil, List.getD_cons_zero, List.getD_cons_succ, List.getD_nil]
  have hh := getA2_some h; clear h; obtain ⟨p2256, p2257, h2255, h⟩ := hh
  have hh := getL_some h; clear h; obtain ⟨n2259, c2260, h2258, h⟩ := hh
  have hh := brn_some h; clear h; rcases hh with ⟨h2261, h⟩ | ⟨h2261, h⟩
  · refine W_sound tab_ok mixed 20 _ _ _ ?_
    simp -implicitDefEqProofs only [go_sem, qa, qb, qc, qd, qe, qf, qg, qh, qi, qj, qk, ↓reduceIte, h2255, h2258, h2261]
    repeat with_reducible refine And.intro (by first | kernel_rfl | decide) ?_
    obtain rfl := Option.some.inj h
    exact finC [(2, .v (.bool true))] [(2, .v (.bool true))] (by simp [leE, lk_cons]) (.cons _ _ _ _ _ (.v _ _ (.refl _)) .nil) (by rfl) (by simp [leE, lk_cons]) (by decide) (by decide) rfl (by simp only [go_sem, qa, qb, qc, qd, qe, qf, qg, qh, qi, qj, qk, ↓reduceIte, resQ_tmp, resQ_cell, resQ_nil, retD_one, retD_two, retD_three, retD_none]; try simp [R.val, retD_one, retD_two, retD_three, retD_none])
  · refine W_sound tab_ok mixed 20 _ _ _ ?_
    simp -implicitDefEqProofs only [go_sem, qa, qb, qc, qd, qe, qf, qg, qh, qi, qj, qk, ↓reduceIte, h2255, h2258, h2261]
    repeat with_reducible refine And.intro (by first | kernel_rfl | decide) ?_
    have hh := bnd'_some h; clear h; obtain ⟨o2272, h2273, h2274⟩ := hh
    refine Wp_cut (fun s => (.inr ()) = o2272 ∧ s = ⟨[], [(0, .dead), (1, .dead), (2, .dead), (3, .dead), (7, .dead), (12, .dead), (21, .dead)], [], 0, []⟩) ?_ ?_
    · refine Wp_block ?_
      refine Wp_loopG (fun n s => ∃ x2262, m15_L0 N p2256 n2259 c2260 n x2262 = some o2272 ∧ s = ⟨[], [(0, .dead), (1, .ptr 0 0), (2, .dead), (3, .v (.int .i64 x2262)), (7, .dead), (12, .dead), (21, .dead)], [(0, .p [p2256, (.lst false n2259 c2260)])], 1, []⟩) N _ ((Wk_le (.k (.r (.k (.r (.k (.r (.r .nil))))))) (OLe.refl _)).trans (cmpS_ok rfl)) ⟨_, h2273, rfl⟩ ?_
      clear h2273
      rintro n _ ⟨x2262, h2273, rfl⟩
      cases n with
      | zero => cases h2273
      | succ n =>
        rw [m15_L0] at h2273
        have hh := brn_some h2273; clear h2273; rcases hh with ⟨h2263, h2273⟩ | ⟨h2263, h2273⟩
        · have hh := grd_some h2273; clear h2273; obtain ⟨⟨g2264, g2265⟩, h2273⟩ := hh
          have hh := grd_some h2273; clear h2273; obtain ⟨g2266, h2273⟩ := hh
          have hh := getL_some h2273; clear h2273; obtain ⟨n2268, c2269, h2267, h2273⟩ := hh
          have hh := brn_some h2273; clear h2273; rcases hh with ⟨h2270, h2273⟩ | ⟨h2270, h2273⟩
          · refine W_sound tab_ok mixed 30 _ _ _ ?_
            simp -implicitDefEqProofs only [go_sem, qa, qb, qc, qd, qe, qf, qg, qh, qi, qj, qk, ↓reduceIte, h2255, h2258, h2261, h2263, g2264, g2265, g2266, h2267, h2270]
            repeat with_reducible refine And.intro (by first | kernel_rfl | decide) ?_
            obtain rfl := Option.some.inj h2273
            (try dsimp only at h2274)
            obtain rfl := Option.some.inj h2274
            exact finC [(2, .v (.bool true))] [(2, .v (.bool true))] (by simp [leE, lk_cons]) (.cons _ _ _ _ _ (.v _ _ (.refl _)) .nil) (by rfl) (by simp [leE, lk_cons]) (by decide) (by decide) rfl (by simp only [go_sem, qa, qb, qc, qd, qe, qf, qg, qh, qi, qj, qk, ↓reduceIte, resQ_tmp, resQ_cell, resQ_nil, retD_one, retD_two, retD_three, retD_none]; try simp [R.val, retD_one, retD_two, retD_three, retD_none])
          · refine W_sound tab_ok mixed 31 _ _ _ ?_
            simp -implicitDefEqProofs only [go_sem, qa, qb, qc, qd, qe, qf, qg, qh, qi, qj, qk, ↓reduceIte, h2255, h2258, h2261, h2263, g2264, g2265, g2266, h2267, h2270]
            repeat with_reducible refine And.intro (by first | kernel_rfl | decide) ?_
            exact cutQ _ ((Wk_le (.r (.r (.r (.r (.r (.k (.k .nil))))))) (OLe.refl _)).trans (cmpS_ok rfl)) ⟨n, Nat.lt_succ_self n, _, h2273, rfl⟩
        · refine W_sound tab_ok mixed 11 _ _ _ ?_
          simp -implicitDefEqProofs only [go_sem, qa, qb, qc, qd, qe, qf, qg, qh, qi, qj, qk, ↓reduceIte, h2255, h2258, h2261, h2263]
          repeat with_reducible refine And.intro (by first | kernel_rfl | decide) ?_
          obtain rfl := Option.some.inj h2273
          exact cutQ _ ((Wk_le (.r (.k (.r (.k (.r (.k (.r .nil))))))) (OLe.refl _)).trans (cmpS_ok rfl)) ⟨rfl, rfl⟩
    · rintro _ ⟨rfl, rfl⟩
      (try dsimp only at h2274)
      refine W_sound tab_ok mixed 6 _ _ _ ?_
      simp -implicitDefEqProofs only [go_sem, qa, qb, qc, qd, qe, qf, qg, qh, qi, qj, qk, ↓reduceIte, h2255, h2258, h2261]
      repeat with_reducible refine And.intro (by first | kernel_rfl | decide) ?_
      obtain rfl := Option.some.inj h2274
      exact finC [(2, .v (.bool false))] [(2, .v (.bool false))] (by simp [leE, lk_cons]) (.cons _ _ _ _ _ (.v _ _ (.refl _)) .nil) (by rfl) (by simp [leE, lk_cons]) (by decide) (by decide) rfl (by simp only [go_sem, qa, qb, qc, qd, qe, qf, qg, qh, qi, qj, qk, ↓reduceIte, resQ_tmp, resQ_cell, resQ_nil, retD_one, retD_two, retD_three, retD_none]; try simp [R.val, retD_one, retD_two, retD_three, retD_none])

def m21_L0 (N : Nat) (n2278 : Nat) (c2279 : List PV) (n2281 : Nat) (c2282 : List PV) : Nat → Int → Option ((PV ⊕ Unit))
  | 0, _ => none
  | n + 1, x2284 =>
    brn (decide (x2284 < ((n2278 : Nat) : Int))) (
      grd (0 ≤ x2284 ∧ x2284 < ((n2278 : Nat) : Int)) <|
      grd (0 < List.length (List.drop (Int.toNat x2284) c2279)) <|
      getI .i64 (gp c2279 (Int.toNat x2284)) fun x2290 =>
      grd (x2284 < ((n2281 : Nat) : Int)) <|
      grd (0 < List.length (List.drop (Int.toNat x2284) c2282)) <|
      getI .i64 (gp c2282 (Int.toNat x2284)) fun x2294 =>
      brn (x2290 != x2294) (
        some (.inl (.bool false))) (
        m21_L0 N n2278 c2279 n2281 c2282 n (IntKind.i64.wrap (x2284 + 1)))) (
      some (.inr ()))
def m21 (N : Nat) (p2275 : PV) (p2276 : PV) : Option (PV) :=
  getL p2275 fun n2278 c2279 =>
  getL p2276 fun n2281 c2282 =>
  brn (((n2278 : Nat) : Int) != ((n2281 : Nat) : Int)) (
    some (.bool false)) (
    bnd' (m21_L0 N n2278 c2279 n2281 c2282 N 0) fun o =>
    match o with
    | .inl p2296 =>
      some p2296
    | .inr () =>
      some (.bool true))
theorem c21 (N : Nat) (p2275 : PV) (p2276 : PV) (r : PV)  (h : m21 N p2275 p2276 = some r) : FnP Tryd.prog 21 [p2275, p2276] r := by
  unfold m21 at h
  refine Fn_of (sz := 26) tab_ok [0, 1, 4, 5, 10, 14, 25] [.tmp 4] Tryd.func21 rfl rfl rfl (by simp) ?_
  simp only [initSt, initEnv, List.map_cons, List.map_nil, List.getD_cons_zero, List.getD_cons_succ, List.getD_nil]
  have hh := getL_some h; clear h; obtain ⟨n2278, c2279, h2277, h⟩ := hh
  have hh := getL_some h; clear h; obtain ⟨n2281, c2282, h2280, h⟩ := hh
  have hh := brn_some h; clear h; rcases hh with ⟨h2283, h⟩ | ⟨h2283, h⟩
  · refine W_sound tab_ok mixed 20 _ _ _ ?_
    simp -implicitDefEqProofs only [go_sem, qa, qb, qc, qd, qe, qf, qg, qh, qi, qj, qk, ↓reduceIte, h2277, h2280, h2283]
    repeat with_reducible refine And.intro (by first | kernel_rfl | decide) ?_
    obtain rfl := Option.some.inj h
    exact finC [(4, .v (.bool false))] [(4, .v (.bool false))] (by simp [leE, lk_cons]) (.cons _ _ _ _ _ (.v _ _ (.refl _)) .nil) (by rfl) (by simp [leE, lk_cons]) (by decide) (by decide) rfl (by simp only [go_sem, qa, qb, qc, qd, qe, qf, qg, qh, qi, qj, qk, ↓reduceIte, resQ_tmp, resQ_cell, resQ_nil, retD_one, retD_two, retD_three, retD_none]; try simp [R.val, retD_one, retD_two, retD_three, retD_none])
  · refine W_sound tab_ok mixed 20 _ _ _ ?_
    simp -implicitDefEqProofs only [go_sem, qa, qb, qc, qd, qe, qf, qg, qh, qi, qj, qk, ↓reduceIte, h2277, h2280, h2283]
    repeat with_reducible refine And.intro (by first | kernel_rfl | decide) ?_
    have hh := bnd'_some h; clear h; obtain ⟨o2297, h2298, h2299⟩ := hh
    refine Wp_cut (fun s => (.inr ()) = o2297 ∧ s = ⟨[], [(0, .dead), (1, .dead), (4, .dead), (5, .dead), (10, .dead), (14, .dead), (25, .dead)], [], 0, []⟩) ?_ ?_
    · refine Wp_block ?_
      refine Wp_loopG (fun n s => ∃ x2284, m21_L0 N n2278 c2279 n2281 c2282 n x2284 = some o2297 ∧ s = ⟨[], [(0, .v (.lst false n2278 c2279)), (1, .v (.lst false n2281 c2282)), (4, .dead), (5, .v (.int .i64 x2284)), (10, .dead), (14, .dead), (25, .dead)], [], 0, []⟩) N _ ((Wk_le (.r (.r (.k (.r (.k (.r (.r .nil))))))) (OLe.refl _)).trans (cmpS_ok rfl)) ⟨_, h2298, rfl⟩ ?_
      clear h2298
      rintro n _ ⟨x2284, h2298, rfl⟩
      cases n with
      | zero => cases h2298
      | succ n =>
        rw [m21_L0] at h2298
        have hh := brn_some h2298; clear h2298; rcases hh with ⟨h2285, h2298⟩ | ⟨h2285, h2298⟩
        · have hh := grd_some h2298; clear h2298; obtain ⟨⟨g2286, g2287⟩, h2298⟩ := hh
          have hh := grd_some h2298; clear h2298; obtain ⟨g2288, h2298⟩ := hh
          have hh := getI_some h2298; clear h2298; obtain ⟨x2290, h2289, h2298⟩ := hh
          have hh := grd_some h2298; clear h2298; obtain ⟨g2291, h2298⟩ := hh
          have hh := grd_some h2298; clear h2298; obtain ⟨g2292, h2298⟩ := hh
          have hh := getI_some h2298; clear h2298; obtain ⟨x2294, h2293, h2298⟩ := hh
          have hh := brn_some h2298; clear h2298; rcases hh with ⟨h2295, h2298⟩ | ⟨h2295, h2298⟩
          · refine W_sound tab_ok mixed 31 _ _ _ ?_
            simp -implicitDefEqProofs only [go_sem, qa, qb, qc, qd, qe, qf, qg, qh, qi, qj, qk, ↓reduceIte, h2277, h2280, h2283, h2285, g2286, g2287, g2288, h2289, g2291, g2292, h2293, h2295]
            repeat with_reducible refine And.intro (by first | kernel_rfl | decide) ?_
            obtain rfl := Option.some.inj h2298
            (try dsimp only at h2299)
            obtain rfl := Option.some.inj h2299
            exact finC [(4, .v (.bool false))] [(4, .v (.bool false))] (by simp [leE, lk_cons]) (.cons _ _ _ _ _ (.v _ _ (.refl _)) .nil) (by rfl) (by simp [leE, lk_cons]) (by decide) (by decide) rfl (by simp only [go_sem, qa, qb, qc, qd, qe, qf, qg, qh, qi, qj, qk, ↓reduceIte, resQ_tmp, resQ_cell, resQ_nil, retD_one, retD_two, retD_three, retD_none]; try simp [R.val, retD_one, retD_two, retD_three, retD_none])
          · refine W_sound tab_ok mixed 32 _ _ _ ?_
            simp -implicitDefEqProofs only [go_sem, qa, qb, qc, qd, qe, qf, qg, qh, qi, qj, qk, ↓reduceIte, h2277, h2280, h2283, h2285, g2286, g2287, g2288, h2289, g2291, g2292, h2293, h2295]
            repeat with_reducible refine And.intro (by first | kernel_rfl | decide) ?_
            exact cutQ _ ((Wk_le (.r (.r (.r (.r (.r (.k (.k .nil))))))) (OLe.refl _)).trans (cmpS_ok rfl)) ⟨n, Nat.lt_succ_self n, _, h2298, rfl⟩
        · refine W_sound tab_ok mixed 10 _ _ _ ?_
          simp -implicitDefEqProofs only [go_sem, qa, qb, qc, qd, qe, qf, qg, qh, qi, qj, qk, ↓reduceIte, h2277, h2280, h2283, h2285]
          repeat with_reducible refine And.intro (by first | kernel_rfl | decide) ?_
          obtain rfl := Option.some.inj h2298
          exact cutQ _ ((Wk_le (.k (.k (.r (.k (.r (.k (.r .nil))))))) (OLe.refl _)).trans (cmpS_ok rfl)) ⟨rfl, rfl⟩
    · rintro _ ⟨rfl, rfl⟩
      (try dsimp only at h2299)
      refine W_sound tab_ok mixed 6 _ _ _ ?_
      simp -implicitDefEqProofs only [go_sem, qa, qb, qc, qd, qe, qf, qg, qh, qi, qj, qk, ↓reduceIte, h2277, h2280, h2283]
      repeat with_reducible refine And.intro (by first | kernel_rfl | decide) ?_
      obtain rfl := Option.some.inj h2299
      exact finC [(4, .v (.bool true))] [(4, .v (.bool true))] (by simp [leE, lk_cons]) (.cons _ _ _ _ _ (.v _ _ (.refl _)) .nil) (by rfl) (by simp [leE, lk_cons]) (by decide) (by decide) rfl (by simp only [go_sem, qa, qb, qc, qd, qe, qf, qg, qh, qi, qj, qk, ↓reduceIte, resQ_tmp, resQ_cell, resQ_nil, retD_one, retD_two, retD_three, retD_none]; try simp [R.val, retD_one, retD_two, retD_three, retD_none])

end Go.Proofs.YtnponojgpkbagaaDoor
