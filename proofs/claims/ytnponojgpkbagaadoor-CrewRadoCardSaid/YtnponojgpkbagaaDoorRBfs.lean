/-
  Groups by breadth search are the groups by joining.
-/
import Derived.Test.YtnponojgpkbagaaDoorRWhyA
import Derived.Test.YtnponojgpkbagaaDoorRMostA
import Derived.Test.YtnponojgpkbagaaDoorRE44
import Derived.Test.YtnponojgpkbagaaDoorRV36
namespace Go.Proofs.YtnponojgpkbagaaDoor
open Go.V
open Nat renaming reduceBEq → qa, reduceAdd → qb, reduceSub → qc, reduceMul → qd, reduceLT → qe, reduceLeDiff → qf
open Int renaming reduceLE → qg, reduceLT → qh, reduceToNat → qi, reduceBEq → qj, reduceBNe → qk
set_option maxRecDepth 100000
set_option maxHeartbeats 4000000
set_option linter.unusedSimpArgs false
set_option linter.unusedVariables false
attribute [local go_sem] tl1 tl2 tl3 tl4 tl5 tl9 tl17 tl21 tl22 tl23 tl24 tl25 tl26 tl27 tl28 tl29 tl31 tl32 tl34 tl35 tl36 tl37 tl38 tl39 tl40 tl41 tl42 tl43 tl44 tl45 tl47 tl48 tl49 tl50 tl51 tl52 tl53 tl54 tl55 tl56 tl57 tl58 tl59 tl60 tl61 tl62 tl63 tl64 tl65 tl66 tl67 tl68 tl69 tl70 tl71 tl72 tl73 tl74 tl75 tl76 tl77 tl78 tl79 tl80 tl81 tl82 tl83 tl84 tl85 tl86 tl87 tl88 tl89 tl90 tl92 tl94 tl95 tl96 tl97 tl98 tl99 tl100 tl101 tl102 tl103 tl104 tl105 tl106 tl107 tl108 tl109 tl110 tl111 tl112 tl113 tl114 tl115 tl116 tl118 tl119 tl121 tl122 tl123 tl124 tl125 tl126 tl127 tl128 tl129 tl131 tl133 tl134 tl135 tl136 tl142 tl146
def m43 (N : Nat) (x5622 : Int) (p5623 : PV) : Option ((PV × Int × PV)) :=
  brn (x5622 == 0) (
    some ((.tup []), (IntKind.i64.wrap (x5622 + 1)), (.lst false 0 []))) (
    some ((.tup []), (IntKind.i64.wrap (x5622 + 1)), p5623))
theorem c43 (N : Nat) (x5622 : Int) (p5623 : PV) (r : PV) (x5628 : Int) (p5629 : PV) (h : m43 N x5622 p5623 = some (r, x5628, p5629)) : V.Fn Tryd.prog 43 2 [.v .nl, .ptr 0 0, .ptr 1 0] [(0, .p [(.int .i64 x5622)]), (1, .p [p5623])] (fun d ob' => d = .v r ∧ ob' = [(0, .p [(.int .i64 x5628)]), (1, .p [p5629])]) := by
  unfold m43 at h
  refine Fn_of (sz := 10) tab_ok [0, 1, 2, 5] [] Tryd.func43 rfl rfl rfl (by simp) ?_
  simp only [initSt, initEnv, List.map_cons, List.map_nil, List.getD_cons_zero, List.getD_cons_succ, List.getD_nil]
  have hh := brn_some h; clear h; rcases hh with ⟨h5626, h⟩ | ⟨h5626, h⟩
  · refine W_sound tab_ok mixed 9 _ _ _ ?_
    simp -implicitDefEqProofs only [go_sem, qa, qb, qc, qd, qe, qf, qg, qh, qi, qj, qk, ↓reduceIte, h5626]
    repeat with_reducible refine ⟨by first | kernel_rfl | decide, ?_⟩
    refine Wp_callP (FnP_le e44 (.cons _ _ _ _ (.nl false) .nil) (.refl _)) (by kernel_rfl) rfl rfl rfl rfl (by decide) ?_
    refine W_sound tab_ok mixed 8 _ _ _ ?_
    simp -implicitDefEqProofs only [go_sem, qa, qb, qc, qd, qe, qf, qg, qh, qi, qj, qk, ↓reduceIte, h5626]
    repeat with_reducible refine ⟨by first | kernel_rfl | decide, ?_⟩
    simp only [Option.some.injEq, Prod.mk.injEq] at h; obtain ⟨rfl, rfl, rfl⟩ := h
    exact finD (e2 := [(0, .dead), (1, .dead), (2, .dead), (5, .dead)]) (ob2 := [(0, .p [(.int .i64 (IntKind.i64.wrap (x5622 + 1)))]), (1, .p [(.lst false 0 [])])]) (st' := ⟨[], [(0, .dead), (1, .dead), (2, .dead), (5, .dead)], [(0, .p [(.int .i64 (IntKind.i64.wrap (x5622 + 1)))]), (1, .p [(.lst false 0 [])])], 2, []⟩) (.k (.k (.k (.k .nil)))) (.cons _ _ _ _ _ (DLes.refl _) (.cons _ _ _ _ _ (DLes.of_p (.cons _ _ _ _ (.lst true false _ _ _ (fun h => by first | exact h | cases h) (PLes.refl _)) .nil)) .nil)) (by kernel_rfl) (by simp only [go_sem, qa, qb, qc, qd, qe, qf, qg, qh, qi, qj, qk, ↓reduceIte, resQ_tmp, resQ_cell, resQ_nil, retD_one, retD_two, retD_three, retD_none]; try simp [R.val, retD_one, retD_two, retD_three, retD_none])
  · refine W_sound tab_ok mixed 14 _ _ _ ?_
    simp -implicitDefEqProofs only [go_sem, qa, qb, qc, qd, qe, qf, qg, qh, qi, qj, qk, ↓reduceIte, h5626]
    repeat with_reducible refine ⟨by first | kernel_rfl | decide, ?_⟩
    simp only [Option.some.injEq, Prod.mk.injEq] at h; obtain ⟨rfl, rfl, rfl⟩ := h
    exact finD (e2 := [(0, .dead), (1, .dead), (2, .dead), (5, .dead)]) (ob2 := [(0, .p [(.int .i64 (IntKind.i64.wrap (x5622 + 1)))]), (1, .p [p5623])]) (st' := ⟨[], [(0, .dead), (1, .dead), (2, .dead), (5, .dead)], [(0, .p [(.int .i64 (IntKind.i64.wrap (x5622 + 1)))]), (1, .p [p5623])], 2, []⟩) (.k (.k (.k (.k .nil)))) (.cons _ _ _ _ _ (DLes.refl _) (.cons _ _ _ _ _ (DLes.refl _) .nil)) (by kernel_rfl) (by simp only [go_sem, qa, qb, qc, qd, qe, qf, qg, qh, qi, qj, qk, ↓reduceIte, resQ_tmp, resQ_cell, resQ_nil, retD_one, retD_two, retD_three, retD_none]; try simp [R.val, retD_one, retD_two, retD_three, retD_none])
def m44 (N : Nat) (p5686 : PV) : Option (PV) :=
  getL p5686 fun n5688 c5689 =>
  grd (0 < n5688) <|
  grd (List.length c5689 = n5688) <|
  grd (n5688 ≤ 1099511627776) <|
  some (.lst false n5688 c5689)
theorem c44 (N : Nat) (p5686 : PV) (r : PV)  (h : m44 N p5686 = some r) : FnP Tryd.prog 44 [p5686] r := by
  unfold m44 at h
  refine Fn_of (sz := 8) tab_ok [0, 2, 4] [.tmp 2] Tryd.func44 rfl rfl rfl (by simp) ?_
  simp only [initSt, initEnv, List.map_cons, List.map_nil, List.getD_cons_zero, List.getD_cons_succ, List.getD_nil]
  have hh := getL_some h; clear h; obtain ⟨n5688, c5689, h5687, h⟩ := hh
  have hh := grd_some h; clear h; obtain ⟨g5690, h⟩ := hh
  have hh := grd_some h; clear h; obtain ⟨g5691, h⟩ := hh
  have hh := grd_some h; clear h; obtain ⟨g5692, h⟩ := hh
  refine W_sound tab_ok mixed 21 _ _ _ ?_
  simp -implicitDefEqProofs only [go_sem, qa, qb, qc, qd, qe, qf, qg, qh, qi, qj, qk, ↓reduceIte, h5687, g5690, g5691, g5692]
  repeat with_reducible refine ⟨by first | kernel_rfl | decide, ?_⟩
  refine FinQ_wk (Wk_freeze 7 c5689 (by rfl) (by decide) (by decide)) ?_
  simp -implicitDefEqProofs only [go_sem, qa, qb, qc, qd, qe, qf, qg, qh, qi, qj, qk, ↓reduceIte, h5687, g5690, g5691, g5692]
  obtain rfl := Option.some.inj h
  exact finC [(2, .v (.lst false n5688 c5689))] [(2, .v (.lst false n5688 c5689))] (by simp [leE, lk_cons]) (.cons _ _ _ _ _ (.v _ _ (.refl _)) .nil) (by rfl) (by simp [leE, lk_cons]) (by decide) (by decide) rfl (by simp only [go_sem, qa, qb, qc, qd, qe, qf, qg, qh, qi, qj, qk, ↓reduceIte, resQ_tmp, resQ_cell, resQ_nil, retD_one, retD_two, retD_three, retD_none]; try simp [R.val, retD_one, retD_two, retD_three, retD_none])
def m43_2 (N : Nat) (p5700 : PV) (x5701 : Int) (p5702 : PV) : Option ((PV × Int × PV)) :=
  getL p5700 fun n5706 c5707 =>
  brn (x5701 == 0) (
    brn (decide (0 < n5706)) (
      bnd' (m44 N (.lst false n5706 c5707)) fun p5710 =>
      getL p5710 fun n5713 c5714 =>
      some ((.tup []), (IntKind.i64.wrap (x5701 + 1)), (.lst false n5713 c5714))) (
      grd (List.length c5707 = n5706) <|
      some ((.tup []), (IntKind.i64.wrap (x5701 + 1)), (.lst false 0 [])))) (
    some ((.tup []), (IntKind.i64.wrap (x5701 + 1)), p5702))
theorem c43_2 (N : Nat) (p5700 : PV) (x5701 : Int) (p5702 : PV) (r : PV) (x5717 : Int) (p5718 : PV) (h : m43_2 N p5700 x5701 p5702 = some (r, x5717, p5718)) : V.Fn Tryd.prog 43 2 [.v p5700, .ptr 0 0, .ptr 1 0] [(0, .p [(.int .i64 x5701)]), (1, .p [p5702])] (fun d ob' => d = .v r ∧ ob' = [(0, .p [(.int .i64 x5717)]), (1, .p [p5718])]) := by
  unfold m43_2 at h
  refine Fn_of (sz := 10) tab_ok [0, 1, 2, 5] [] Tryd.func43 rfl rfl rfl (by simp) ?_
  simp only [initSt, initEnv, List.map_cons, List.map_nil, List.getD_cons_zero, List.getD_cons_succ, List.getD_nil]
  have hh := getL_some h; clear h; obtain ⟨n5706, c5707, h5705, h⟩ := hh
  have hh := brn_some h; clear h; rcases hh with ⟨h5708, h⟩ | ⟨h5708, h⟩
  · have hh := brn_some h; clear h; rcases hh with ⟨h5709, h⟩ | ⟨h5709, h⟩
    · have hh := bnd'_some h; clear h; obtain ⟨p5710, h5711, h⟩ := hh
      refine W_sound tab_ok mixed 9 _ _ _ ?_
      simp -implicitDefEqProofs only [go_sem, qa, qb, qc, qd, qe, qf, qg, qh, qi, qj, qk, ↓reduceIte, h5705, h5708, h5709]
      repeat with_reducible refine ⟨by first | kernel_rfl | decide, ?_⟩
      refine Wp_callP (c44 N _ _ h5711) (by kernel_rfl) rfl rfl rfl rfl (by decide) ?_
      have hh := getL_some h; clear h; obtain ⟨n5713, c5714, h5712, h⟩ := hh
      refine W_sound tab_ok mixed 8 _ _ _ ?_
      simp -implicitDefEqProofs only [go_sem, qa, qb, qc, qd, qe, qf, qg, qh, qi, qj, qk, ↓reduceIte, h5705, h5708, h5709, h5712]
      repeat with_reducible refine ⟨by first | kernel_rfl | decide, ?_⟩
      simp only [Option.some.injEq, Prod.mk.injEq] at h; obtain ⟨rfl, rfl, rfl⟩ := h
      exact finD (e2 := [(0, .dead), (1, .dead), (2, .dead), (5, .dead)]) (ob2 := [(0, .p [(.int .i64 (IntKind.i64.wrap (x5701 + 1)))]), (1, .p [(.lst false n5713 c5714)])]) (st' := ⟨[], [(0, .dead), (1, .dead), (2, .dead), (5, .dead)], [(0, .p [(.int .i64 (IntKind.i64.wrap (x5701 + 1)))]), (1, .p [(.lst false n5713 c5714)])], 2, []⟩) (.k (.k (.k (.k .nil)))) (.cons _ _ _ _ _ (DLes.refl _) (.cons _ _ _ _ _ (DLes.refl _) .nil)) (by kernel_rfl) (by simp only [go_sem, qa, qb, qc, qd, qe, qf, qg, qh, qi, qj, qk, ↓reduceIte, resQ_tmp, resQ_cell, resQ_nil, retD_one, retD_two, retD_three, retD_none]; try simp [R.val, retD_one, retD_two, retD_three, retD_none])
    · have hh := grd_some h; clear h; obtain ⟨g5715, h⟩ := hh
      refine W_sound tab_ok mixed 9 _ _ _ ?_
      simp -implicitDefEqProofs only [go_sem, qa, qb, qc, qd, qe, qf, qg, qh, qi, qj, qk, ↓reduceIte, h5705, h5708, h5709, g5715]
      repeat with_reducible refine ⟨by first | kernel_rfl | decide, ?_⟩
      refine Wp_callP (e44' h5709 (by first | assumption | simp)) (by kernel_rfl) rfl rfl rfl rfl (by decide) ?_
      refine W_sound tab_ok mixed 8 _ _ _ ?_
      simp -implicitDefEqProofs only [go_sem, qa, qb, qc, qd, qe, qf, qg, qh, qi, qj, qk, ↓reduceIte, h5705, h5708, h5709, g5715]
      repeat with_reducible refine ⟨by first | kernel_rfl | decide, ?_⟩
      simp only [Option.some.injEq, Prod.mk.injEq] at h; obtain ⟨rfl, rfl, rfl⟩ := h
      exact finD (e2 := [(0, .dead), (1, .dead), (2, .dead), (5, .dead)]) (ob2 := [(0, .p [(.int .i64 (IntKind.i64.wrap (x5701 + 1)))]), (1, .p [(.lst false 0 [])])]) (st' := ⟨[], [(0, .dead), (1, .dead), (2, .dead), (5, .dead)], [(0, .p [(.int .i64 (IntKind.i64.wrap (x5701 + 1)))]), (1, .p [(.lst false 0 [])])], 2, []⟩) (.k (.k (.k (.k .nil)))) (.cons _ _ _ _ _ (DLes.refl _) (.cons _ _ _ _ _ (DLes.of_p (.cons _ _ _ _ (.lst true false _ _ _ (fun h => by first | exact h | cases h) (PLes.refl _)) .nil)) .nil)) (by kernel_rfl) (by simp only [go_sem, qa, qb, qc, qd, qe, qf, qg, qh, qi, qj, qk, ↓reduceIte, resQ_tmp, resQ_cell, resQ_nil, retD_one, retD_two, retD_three, retD_none]; try simp [R.val, retD_one, retD_two, retD_three, retD_none])
  · refine W_sound tab_ok mixed 14 _ _ _ ?_
    simp -implicitDefEqProofs only [go_sem, qa, qb, qc, qd, qe, qf, qg, qh, qi, qj, qk, ↓reduceIte, h5705, h5708]
    repeat with_reducible refine ⟨by first | kernel_rfl | decide, ?_⟩
    simp only [Option.some.injEq, Prod.mk.injEq] at h; obtain ⟨rfl, rfl, rfl⟩ := h
    exact finD (e2 := [(0, .dead), (1, .dead), (2, .dead), (5, .dead)]) (ob2 := [(0, .p [(.int .i64 (IntKind.i64.wrap (x5701 + 1)))]), (1, .p [p5702])]) (st' := ⟨[], [(0, .dead), (1, .dead), (2, .dead), (5, .dead)], [(0, .p [(.int .i64 (IntKind.i64.wrap (x5701 + 1)))]), (1, .p [p5702])], 2, []⟩) (.k (.k (.k (.k .nil)))) (.cons _ _ _ _ _ (DLes.refl _) (.cons _ _ _ _ _ (DLes.refl _) .nil)) (by kernel_rfl) (by simp only [go_sem, qa, qb, qc, qd, qe, qf, qg, qh, qi, qj, qk, ↓reduceIte, resQ_tmp, resQ_cell, resQ_nil, retD_one, retD_two, retD_three, retD_none]; try simp [R.val, retD_one, retD_two, retD_three, retD_none])
def m89_2_L0 (N : Nat) (rec : PV → PV → PV → Int → PV → PV → PV → Option ((PV × PV × Int × PV × PV))) (p5764 : PV) (n5771 : Nat) (c5772 : List PV) (n5774 : Nat) (c5775 : List PV) (n5802 : Nat) (c5803 : List PV) : Nat → Int → PV → Int → PV → PV → Option ((PV × Int × PV × PV))
  | 0, _, _, _, _, _ => none
  | n + 1, x5825, p5826, x5827, p5828, p5829 =>
    brn (decide (x5825 < ((n5802 : Nat) : Int))) (
      grd (0 ≤ x5825 ∧ x5825 < ((n5802 : Nat) : Int)) <|
      grd (2 ≤ List.length (List.drop ((Int.toNat x5825) * 2) c5803)) <|
      getA2 (.agg (List.take 2 (List.drop ((Int.toNat x5825) * 2) c5803))) fun p5835 p5836 =>
      grd (((n5771 : Nat) : Int) ≤ ((n5771 : Nat) : Int)) <|
      grd (List.length c5772 = n5771) <|
      grd ((n5771 + 1) ≤ 1099511627776) <|
      grd (((n5771 : Nat) : Int) ≤ ((n5774 : Nat) : Int)) <|
      grd (List.length c5775 = (n5774 * 2)) <|
      grd (List.length (List.take (n5771 * 2) c5775) = (n5771 * 2)) <|
      bnd' (rec (.lst false (n5771 + 1) (c5772 ++ [(.int .i64 x5825)])) (.lst false (n5771 + 1) (List.take ((n5771 + 1) * 2) ((List.take (n5771 * 2) c5775) ++ [p5835, p5836]))) p5826 x5827 p5828 p5764 p5829) fun (p5843, p5845, x5846, p5847, p5848) =>
      getT0 p5843 <|
      m89_2_L0 N rec p5764 n5771 c5772 n5774 c5775 n5802 c5803 n (IntKind.i64.wrap (x5825 + 1)) p5845 x5846 p5847 p5848) (
      some (p5826, x5827, p5828, p5829))
def m89_2 (N : Nat) : Nat → PV → PV → PV → Int → PV → PV → PV → Option ((PV × PV × Int × PV × PV))
  | 0, _, _, _, _, _, _, _ => none
  | fu + 1, p5759, p5760, p5761, x5762, p5763, p5764, p5765 =>
    getL p5759 fun n5771 c5772 =>
    getL p5760 fun n5774 c5775 =>
    getL p5761 fun n5777 c5778 =>
    brn (((n5771 : Nat) : Int) == ((n5777 : Nat) : Int)) (
      bnd' (m49 N (.lst false n5774 c5775)) fun p5780 =>
      getB p5780 fun b5783 =>
      brn b5783 (
        bnd' (m43_2 N (.lst false n5771 c5772) x5762 p5763) fun (p5785, x5787, p5788) =>
        getT0 p5785 <|
        some ((.tup []), (.lst false n5777 c5778), x5787, p5788, p5765)) (
        some ((.tup []), (.lst false n5777 c5778), x5762, p5763, p5765))) (
      getL p5765 fun n5791 c5792 =>
      grd (0 ≤ ((n5771 : Nat) : Int) ∧ ((n5771 : Nat) : Int) < ((n5777 : Nat) : Int)) <|
      grd (0 < List.length (List.drop n5771 c5778)) <|
      getI .i64 (gp c5778 n5771) fun x5797 =>
      grd (0 ≤ x5797 ∧ x5797 < ((n5791 : Nat) : Int)) <|
      grd (0 < List.length (List.drop (Int.toNat x5797) c5792)) <|
      getL (gp c5792 (Int.toNat x5797)) fun n5802 c5803 =>
      bnd' (m89_2_L0 N (m89_2 N fu) p5764 n5771 c5772 n5774 c5775 n5802 c5803 N 0 (.lst false n5777 c5778) x5762 p5763 (.lst false n5791 c5792)) fun o =>
      match o with
      | (p5850, x5851, p5852, p5853) =>
        some ((.tup []), p5850, x5851, p5852, p5853))
theorem c89_2 (N : Nat) : ∀ (fu : Nat) (p5759 : PV) (p5760 : PV) (p5761 : PV) (x5762 : Int) (p5763 : PV) (p5764 : PV) (p5765 : PV) (r : PV) (p5858 : PV) (x5859 : Int) (p5860 : PV) (p5861 : PV) (h : m89_2 N fu p5759 p5760 p5761 x5762 p5763 p5764 p5765 = some (r, p5858, x5859, p5860, p5861)), V.Fn Tryd.prog 89 6 [.v p5759, .v p5760, .ptr 0 0, .ptr 1 0, .ptr 4 0, .ptr 5 0] [(0, .p [p5761]), (1, .r [.fn 43 [.ptr 2 0, .ptr 3 0]]), (2, .p [(.int .i64 x5762)]), (3, .p [p5763]), (4, .p [p5764, p5765]), (5, .r [.fn 89 [.ptr 0 0, .ptr 1 0, .ptr 4 0, .ptr 5 0]])] (fun d ob' => d = .v r ∧ ob' = [(0, .p [p5858]), (1, .r [.fn 43 [.ptr 2 0, .ptr 3 0]]), (2, .p [(.int .i64 x5859)]), (3, .p [p5860]), (4, .p [p5764, p5861]), (5, .r [.fn 89 [.ptr 0 0, .ptr 1 0, .ptr 4 0, .ptr 5 0]])]) := by
  intro fu
  induction fu with
  | zero => intro p5759 p5760 p5761 x5762 p5763 p5764 p5765 r p5858 x5859 p5860 p5861 h; cases h
  | succ fu ih =>
    intro p5759 p5760 p5761 x5762 p5763 p5764 p5765 r p5858 x5859 p5860 p5861 h
    rw [m89_2] at h
    refine Fn_of (sz := 53) tab_ok [0, 1, 2, 3, 4, 5, 8, 9, 10, 16, 18, 29, 30, 31, 32] [] Tryd.func89 rfl rfl rfl (by simp) ?_
    simp only [initSt, initEnv, List.map_cons, List.map_nil, List.getD_cons_zero, List.getD_cons_succ, List.getD_nil]
    have hh := getL_some h; clear h; obtain ⟨n5771, c5772, h5770, h⟩ := hh
    have hh := getL_some h; clear h; obtain ⟨n5774, c5775, h5773, h⟩ := hh
    have hh := getL_some h; clear h; obtain ⟨n5777, c5778, h5776, h⟩ := hh
    have hh := brn_some h; clear h; rcases hh with ⟨h5779, h⟩ | ⟨h5779, h⟩
    · have hh := bnd'_some h; clear h; obtain ⟨p5780, h5781, h⟩ := hh
      refine W_sound tab_ok mixed 19 _ _ _ ?_
      simp -implicitDefEqProofs only [go_sem, qa, qb, qc, qd, qe, qf, qg, qh, qi, qj, qk, ↓reduceIte, h5770, h5773, h5776, h5779]
      repeat with_reducible refine ⟨by first | kernel_rfl | decide, ?_⟩
      refine Wp_callP (c49 N _ _ h5781) (by kernel_rfl) rfl rfl rfl rfl (by decide) ?_
      have hh := getB_some h; clear h; obtain ⟨b5783, h5782, h⟩ := hh
      have hh := brn_some h; clear h; rcases hh with ⟨h5784, h⟩ | ⟨h5784, h⟩
      · have hh := bnd'_some h; clear h; obtain ⟨⟨p5785, x5787, p5788⟩, h5786, h⟩ := hh
        (try dsimp only at h)
        refine W_sound tab_ok mixed 5 _ _ _ ?_
        simp -implicitDefEqProofs only [go_sem, qa, qb, qc, qd, qe, qf, qg, qh, qi, qj, qk, ↓reduceIte, h5770, h5773, h5776, h5779, h5782, h5784]
        repeat with_reducible refine ⟨by first | kernel_rfl | decide, ?_⟩
        refine Wp_callD [2, 3] (c43_2 N _ _ _ _ _ _ h5786) rfl rfl rfl (by first | rfl | (simp only [go_sem, qa, qb, qc, qd, qe, qf, qg, qh, qi, qj, qk, ↓reduceIte, h5770, h5773, h5776, h5779, h5782, h5784] <;> rfl)) rfl (by kernel_rfl) ?_
        have hh := getT0_some h; clear h; obtain ⟨h5789, h⟩ := hh
        refine W_sound tab_ok mixed 3 _ _ _ ?_
        simp -implicitDefEqProofs only [go_sem, qa, qb, qc, qd, qe, qf, qg, qh, qi, qj, qk, ↓reduceIte, h5770, h5773, h5776, h5779, h5782, h5784, h5789]
        repeat with_reducible refine ⟨by first | kernel_rfl | decide, ?_⟩
        simp only [Option.some.injEq, Prod.mk.injEq] at h; obtain ⟨rfl, rfl, rfl, rfl, rfl⟩ := h
        exact finD (e2 := [(0, .dead), (1, .dead), (2, .dead), (3, .dead), (4, .dead), (5, .dead), (8, .dead), (9, .dead), (10, .dead), (16, .dead), (18, .dead), (29, .dead), (30, .dead), (31, .dead), (32, .dead)]) (ob2 := [(0, .p [(.lst false n5777 c5778)]), (1, .r [.fn 43 [.ptr 2 0, .ptr 3 0]]), (4, .p [p5764, p5765]), (5, .r [.fn 89 [.ptr 0 0, .ptr 1 0, .ptr 4 0, .ptr 5 0]]), (3, .p [p5788]), (2, .p [(.int .i64 x5787)])]) (st' := ⟨[], [(0, .dead), (1, .dead), (2, .dead), (3, .dead), (4, .dead), (5, .dead), (8, .dead), (9, .dead), (10, .dead), (16, .dead), (18, .dead), (29, .dead), (30, .dead), (31, .dead), (32, .dead)], [(0, .p [(.lst false n5777 c5778)]), (1, .r [.fn 43 [.ptr 2 0, .ptr 3 0]]), (2, .p [(.int .i64 x5787)]), (3, .p [p5788]), (4, .p [p5764, p5765]), (5, .r [.fn 89 [.ptr 0 0, .ptr 1 0, .ptr 4 0, .ptr 5 0]])], 6, []⟩) (.k (.k (.k (.k (.k (.k (.k (.r (.r (.k (.k (.r (.r (.r (.r .nil))))))))))))))) (.cons _ _ _ _ _ (DLes.refl _) (.cons _ _ _ _ _ (DLes.refl _) (.cons _ _ _ _ _ (DLes.refl _) (.cons _ _ _ _ _ (DLes.refl _) (.cons _ _ _ _ _ (DLes.refl _) (.cons _ _ _ _ _ (DLes.refl _) .nil)))))) (by kernel_rfl) (by simp only [go_sem, qa, qb, qc, qd, qe, qf, qg, qh, qi, qj, qk, ↓reduceIte, resQ_tmp, resQ_cell, resQ_nil, retD_one, retD_two, retD_three, retD_none]; try simp [R.val, retD_one, retD_two, retD_three, retD_none])
      · refine W_sound tab_ok mixed 5 _ _ _ ?_
        simp -implicitDefEqProofs only [go_sem, qa, qb, qc, qd, qe, qf, qg, qh, qi, qj, qk, ↓reduceIte, h5770, h5773, h5776, h5779, h5782, h5784]
        repeat with_reducible refine ⟨by first | kernel_rfl | decide, ?_⟩
        simp only [Option.some.injEq, Prod.mk.injEq] at h; obtain ⟨rfl, rfl, rfl, rfl, rfl⟩ := h
        exact finD (e2 := [(0, .dead), (1, .dead), (2, .dead), (3, .dead), (4, .dead), (5, .dead), (8, .dead), (9, .dead), (10, .dead), (16, .dead), (18, .dead), (29, .dead), (30, .dead), (31, .dead), (32, .dead)]) (ob2 := [(0, .p [(.lst false n5777 c5778)]), (1, .r [.fn 43 [.ptr 2 0, .ptr 3 0]]), (2, .p [(.int .i64 x5762)]), (3, .p [p5763]), (4, .p [p5764, p5765]), (5, .r [.fn 89 [.ptr 0 0, .ptr 1 0, .ptr 4 0, .ptr 5 0]])]) (st' := ⟨[], [(0, .dead), (1, .dead), (2, .dead), (3, .dead), (4, .dead), (5, .dead), (8, .dead), (9, .dead), (10, .dead), (16, .dead), (18, .dead), (29, .dead), (30, .dead), (31, .dead), (32, .dead)], [(0, .p [(.lst false n5777 c5778)]), (1, .r [.fn 43 [.ptr 2 0, .ptr 3 0]]), (2, .p [(.int .i64 x5762)]), (3, .p [p5763]), (4, .p [p5764, p5765]), (5, .r [.fn 89 [.ptr 0 0, .ptr 1 0, .ptr 4 0, .ptr 5 0]])], 6, []⟩) (.k (.k (.k (.k (.k (.k (.k (.r (.r (.k (.k (.r (.r (.r (.r .nil))))))))))))))) (.cons _ _ _ _ _ (DLes.refl _) (.cons _ _ _ _ _ (DLes.refl _) (.cons _ _ _ _ _ (DLes.refl _) (.cons _ _ _ _ _ (DLes.refl _) (.cons _ _ _ _ _ (DLes.refl _) (.cons _ _ _ _ _ (DLes.refl _) .nil)))))) (by kernel_rfl) (by simp only [go_sem, qa, qb, qc, qd, qe, qf, qg, qh, qi, qj, qk, ↓reduceIte, resQ_tmp, resQ_cell, resQ_nil, retD_one, retD_two, retD_three, retD_none]; try simp [R.val, retD_one, retD_two, retD_three, retD_none])
    · have hh := getL_some h; clear h; obtain ⟨n5791, c5792, h5790, h⟩ := hh
      have hh := grd_some h; clear h; obtain ⟨⟨g5793, g5794⟩, h⟩ := hh
      have hh := grd_some h; clear h; obtain ⟨g5795, h⟩ := hh
      have hh := getI_some h; clear h; obtain ⟨x5797, h5796, h⟩ := hh
      have hh := grd_some h; clear h; obtain ⟨⟨g5798, g5799⟩, h⟩ := hh
      have hh := grd_some h; clear h; obtain ⟨g5800, h⟩ := hh
      have hh := getL_some h; clear h; obtain ⟨n5802, c5803, h5801, h⟩ := hh
      refine W_sound tab_ok mixed 29 _ _ _ ?_
      simp -implicitDefEqProofs only [go_sem, qa, qb, qc, qd, qe, qf, qg, qh, qi, qj, qk, ↓reduceIte, h5770, h5773, h5776, h5779, h5790, g5793, g5794, g5795, h5796, g5798, g5799, g5800, h5801]
      repeat with_reducible refine ⟨by first | kernel_rfl | decide, ?_⟩
      have hh := bnd'_some h; clear h; obtain ⟨o5862, h5863, h5864⟩ := hh
      refine Wp_cut (fun s => ∃ p5850, ∃ x5851, ∃ p5852, ∃ p5853, (p5850, x5851, p5852, p5853) = o5862 ∧ s = ⟨[], [(0, .dead), (1, .dead), (2, .dead), (3, .dead), (4, .dead), (5, .dead), (8, .dead), (9, .dead), (10, .dead), (16, .dead), (18, .dead), (29, .dead), (30, .dead), (31, .dead), (32, .dead)], [(0, .p [p5850]), (1, .r [.fn 43 [.ptr 2 0, .ptr 3 0]]), (2, .p [(.int .i64 x5851)]), (3, .p [p5852]), (4, .p [p5764, p5853]), (5, .r [.fn 89 [.ptr 0 0, .ptr 1 0, .ptr 4 0, .ptr 5 0]])], 6, []⟩) ?_ ?_
      · refine Wp_block ?_
        refine Wp_loopG (fun n s => ∃ x5825, ∃ p5826, ∃ x5827, ∃ p5828, ∃ p5829, m89_2_L0 N (m89_2 N fu) p5764 n5771 c5772 n5774 c5775 n5802 c5803 n x5825 p5826 x5827 p5828 p5829 = some o5862 ∧ s = ⟨[], [(0, .v (.lst false n5771 c5772)), (1, .v (.lst false n5774 c5775)), (2, .dead), (3, .dead), (4, .dead), (5, .ptr 5 0), (8, .v (.int .i64 ((n5771 : Nat) : Int))), (9, .dead), (10, .dead), (16, .dead), (18, .dead), (29, .v (.lst false n5802 c5803)), (30, .v (.int .i64 ((n5802 : Nat) : Int))), (31, .v (.int .i64 x5825)), (32, .dead)], [(0, .p [p5826]), (1, .r [.fn 43 [.ptr 2 0, .ptr 3 0]]), (2, .p [(.int .i64 x5827)]), (3, .p [p5828]), (4, .p [p5764, p5829]), (5, .r [.fn 89 [.ptr 0 0, .ptr 1 0, .ptr 4 0, .ptr 5 0]])], 6, []⟩) N _ ((Wk_le (.r (.r (.k (.k (.k (.r (.r (.r (.r (.k (.r (.r (.r (.r (.r .nil))))))))))))))) (OLe.refl _)).trans (cmpS_ok (st' := ⟨[], [(0, .v (.lst false n5771 c5772)), (1, .v (.lst false n5774 c5775)), (2, .dead), (3, .dead), (4, .dead), (5, .ptr 5 0), (8, .v (.int .i64 ((n5771 : Nat) : Int))), (9, .dead), (10, .dead), (16, .dead), (18, .dead), (29, .v (.lst false n5802 c5803)), (30, .v (.int .i64 ((n5802 : Nat) : Int))), (31, .v (.int .i64 0)), (32, .dead)], [(0, .p [(.lst false n5777 c5778)]), (1, .r [.fn 43 [.ptr 2 0, .ptr 3 0]]), (2, .p [(.int .i64 x5762)]), (3, .p [p5763]), (4, .p [p5764, (.lst false n5791 c5792)]), (5, .r [.fn 89 [.ptr 0 0, .ptr 1 0, .ptr 4 0, .ptr 5 0]])], 6, []⟩) (by kernel_rfl))) ⟨_, _, _, _, _, h5863, rfl⟩ ?_
        clear h5863
        rintro n _ ⟨x5825, p5826, x5827, p5828, p5829, h5863, rfl⟩
        cases n with
        | zero => cases h5863
        | succ n =>
          rw [m89_2_L0] at h5863
          have hh := brn_some h5863; clear h5863; rcases hh with ⟨h5830, h5863⟩ | ⟨h5830, h5863⟩
          · have hh := grd_some h5863; clear h5863; obtain ⟨⟨g5831, g5832⟩, h5863⟩ := hh
            have hh := grd_some h5863; clear h5863; obtain ⟨g5833, h5863⟩ := hh
            have hh := getA2_some h5863; clear h5863; obtain ⟨p5835, p5836, h5834, h5863⟩ := hh
            injection h5834 with h5834
            have hh := grd_some h5863; clear h5863; obtain ⟨g5837, h5863⟩ := hh
            have hh := grd_some h5863; clear h5863; obtain ⟨g5838, h5863⟩ := hh
            have hh := grd_some h5863; clear h5863; obtain ⟨g5839, h5863⟩ := hh
            have hh := grd_some h5863; clear h5863; obtain ⟨g5840, h5863⟩ := hh
            have hh := grd_some h5863; clear h5863; obtain ⟨g5841, h5863⟩ := hh
            have hh := grd_some h5863; clear h5863; obtain ⟨g5842, h5863⟩ := hh
            have hh := bnd'_some h5863; clear h5863; obtain ⟨⟨p5843, p5845, x5846, p5847, p5848⟩, h5844, h5863⟩ := hh
            (try dsimp only at h5863)
            refine W_sound tab_ok mixed 34 _ _ _ ?_
            simp -implicitDefEqProofs only [go_sem, qa, qb, qc, qd, qe, qf, qg, qh, qi, qj, qk, ↓reduceIte, h5770, h5773, h5776, h5779, h5790, g5793, g5794, g5795, h5796, g5798, g5799, g5800, h5801, h5830, g5831, g5832, g5833, h5834, g5837, g5838, g5839, g5840, g5841, g5842]
            repeat with_reducible refine ⟨by first | kernel_rfl | decide, ?_⟩
            refine Wp_callDF [(60, (c5772 ++ [(.int .i64 x5825)])), (67, ((List.take (n5771 * 2) c5775) ++ [p5835, p5836]))] [0, 1, 2, 3, 4, 5] (ih _ _ _ _ _ _ _ _ _ _ _ _ h5844) rfl rfl rfl (by first | rfl | (simp only [go_sem, qa, qb, qc, qd, qe, qf, qg, qh, qi, qj, qk, ↓reduceIte, h5770, h5773, h5776, h5779, h5790, g5793, g5794, g5795, h5796, g5798, g5799, g5800, h5801, h5830, g5831, g5832, g5833, h5834, g5837, g5838, g5839, g5840, g5841, g5842] <;> rfl)) rfl (by kernel_rfl) rfl rfl (by simp [roF, obL]) ?_
            have hh := getT0_some h5863; clear h5863; obtain ⟨h5849, h5863⟩ := hh
            refine W_sound tab_ok mixed 6 _ _ _ ?_
            simp -implicitDefEqProofs only [go_sem, qa, qb, qc, qd, qe, qf, qg, qh, qi, qj, qk, ↓reduceIte, h5770, h5773, h5776, h5779, h5790, g5793, g5794, g5795, h5796, g5798, g5799, g5800, h5801, h5830, g5831, g5832, g5833, h5834, g5837, g5838, g5839, g5840, g5841, g5842, h5849]
            repeat with_reducible refine ⟨by first | kernel_rfl | decide, ?_⟩
            exact cutQ _ ((Wk_le (.r (.r (.r (.r (.r (.r (.r (.k (.k (.r (.r (.r (.r (.r (.k .nil))))))))))))))) (OLe.refl _)).trans (cmpS_ok (st' := ⟨[], [(0, .v (.lst false n5771 c5772)), (1, .v (.lst false n5774 c5775)), (2, .dead), (3, .dead), (4, .dead), (5, .ptr 5 0), (8, .v (.int .i64 ((n5771 : Nat) : Int))), (9, .dead), (10, .dead), (16, .dead), (18, .dead), (29, .v (.lst false n5802 c5803)), (30, .v (.int .i64 ((n5802 : Nat) : Int))), (31, .v (.int .i64 (IntKind.i64.wrap (x5825 + 1)))), (32, .dead)], [(0, .p [p5845]), (1, .r [.fn 43 [.ptr 2 0, .ptr 3 0]]), (2, .p [(.int .i64 x5846)]), (3, .p [p5847]), (4, .p [p5764, p5848]), (5, .r [.fn 89 [.ptr 0 0, .ptr 1 0, .ptr 4 0, .ptr 5 0]])], 6, []⟩) (by kernel_rfl))) ⟨n, Nat.lt_succ_self n, _, _, _, _, _, h5863, rfl⟩
          · refine W_sound tab_ok mixed 7 _ _ _ ?_
            simp -implicitDefEqProofs only [go_sem, qa, qb, qc, qd, qe, qf, qg, qh, qi, qj, qk, ↓reduceIte, h5770, h5773, h5776, h5779, h5790, g5793, g5794, g5795, h5796, g5798, g5799, g5800, h5801, h5830]
            repeat with_reducible refine ⟨by first | kernel_rfl | decide, ?_⟩
            obtain rfl := Option.some.inj h5863
            exact cutQ _ ((Wk_le (.k (.k (.r (.r (.r (.k (.k (.r (.r (.r (.r (.k (.k (.k (.k .nil))))))))))))))) (OLe.refl _)).trans (cmpS_ok (st' := ⟨[], [(0, .dead), (1, .dead), (2, .dead), (3, .dead), (4, .dead), (5, .dead), (8, .dead), (9, .dead), (10, .dead), (16, .dead), (18, .dead), (29, .dead), (30, .dead), (31, .dead), (32, .dead)], [(0, .p [p5826]), (1, .r [.fn 43 [.ptr 2 0, .ptr 3 0]]), (2, .p [(.int .i64 x5827)]), (3, .p [p5828]), (4, .p [p5764, p5829]), (5, .r [.fn 89 [.ptr 0 0, .ptr 1 0, .ptr 4 0, .ptr 5 0]])], 6, []⟩) (by kernel_rfl))) ⟨_, _, _, _, rfl, rfl⟩
      · rintro _ ⟨p5850, x5851, p5852, p5853, rfl, rfl⟩
        (try dsimp only at h5864)
        refine W_sound tab_ok mixed 1 _ _ _ ?_
        simp -implicitDefEqProofs only [go_sem, qa, qb, qc, qd, qe, qf, qg, qh, qi, qj, qk, ↓reduceIte, h5770, h5773, h5776, h5779, h5790, g5793, g5794, g5795, h5796, g5798, g5799, g5800, h5801]
        repeat with_reducible refine ⟨by first | kernel_rfl | decide, ?_⟩
        simp only [Option.some.injEq, Prod.mk.injEq] at h5864; obtain ⟨rfl, rfl, rfl, rfl, rfl⟩ := h5864
        exact finD (e2 := [(0, .dead), (1, .dead), (2, .dead), (3, .dead), (4, .dead), (5, .dead), (8, .dead), (9, .dead), (10, .dead), (16, .dead), (18, .dead), (29, .dead), (30, .dead), (31, .dead), (32, .dead)]) (ob2 := [(0, .p [p5850]), (1, .r [.fn 43 [.ptr 2 0, .ptr 3 0]]), (2, .p [(.int .i64 x5851)]), (3, .p [p5852]), (4, .p [p5764, p5853]), (5, .r [.fn 89 [.ptr 0 0, .ptr 1 0, .ptr 4 0, .ptr 5 0]])]) (st' := ⟨[], [(0, .dead), (1, .dead), (2, .dead), (3, .dead), (4, .dead), (5, .dead), (8, .dead), (9, .dead), (10, .dead), (16, .dead), (18, .dead), (29, .dead), (30, .dead), (31, .dead), (32, .dead)], [(0, .p [p5850]), (1, .r [.fn 43 [.ptr 2 0, .ptr 3 0]]), (2, .p [(.int .i64 x5851)]), (3, .p [p5852]), (4, .p [p5764, p5853]), (5, .r [.fn 89 [.ptr 0 0, .ptr 1 0, .ptr 4 0, .ptr 5 0]])], 6, []⟩) (.r (.r (.r (.r (.r (.r (.r (.r (.r (.r (.r (.r (.r (.r (.r .nil))))))))))))))) (.cons _ _ _ _ _ (DLes.refl _) (.cons _ _ _ _ _ (DLes.refl _) (.cons _ _ _ _ _ (DLes.refl _) (.cons _ _ _ _ _ (DLes.refl _) (.cons _ _ _ _ _ (DLes.refl _) (.cons _ _ _ _ _ (DLes.refl _) .nil)))))) (by kernel_rfl) (by simp only [go_sem, qa, qb, qc, qd, qe, qf, qg, qh, qi, qj, qk, ↓reduceIte, resQ_tmp, resQ_cell, resQ_nil, retD_one, retD_two, retD_three, retD_none]; try simp [R.val, retD_one, retD_two, retD_three, retD_none])
def m89_L0 (N : Nat) (p5902 : PV) (n5933 : Nat) (c5934 : List PV) : Nat → Int → PV → Int → PV → PV → Option ((PV × Int × PV × PV))
  | 0, _, _, _, _, _ => none
  | n + 1, x5950, p5951, x5952, p5953, p5954 =>
    brn (decide (x5950 < ((n5933 : Nat) : Int))) (
      grd (0 ≤ x5950 ∧ x5950 < ((n5933 : Nat) : Int)) <|
      grd (2 ≤ List.length (List.drop ((Int.toNat x5950) * 2) c5934)) <|
      getA2 (.agg (List.take 2 (List.drop ((Int.toNat x5950) * 2) c5934))) fun p5960 p5961 =>
      bnd' (m89_2 N N (.lst false 1 [(.int .i64 x5950)]) (.lst false 1 [p5960, p5961]) p5951 x5952 p5953 p5902 p5954) fun (p5962, p5964, x5965, p5966, p5967) =>
      getT0 p5962 <|
      m89_L0 N p5902 n5933 c5934 n (IntKind.i64.wrap (x5950 + 1)) p5964 x5965 p5966 p5967) (
      some (p5951, x5952, p5953, p5954))
def m89 (N : Nat) (p5899 : PV) (x5900 : Int) (p5901 : PV) (p5902 : PV) (p5903 : PV) : Option ((PV × PV × Int × PV × PV)) :=
  getL p5899 fun n5909 c5910 =>
  brn (0 == ((n5909 : Nat) : Int)) (
    bnd' (m49 N (.lst false 0 [])) fun p5912 =>
    getB p5912 fun b5915 =>
    brn b5915 (
      bnd' (m43 N x5900 p5901) fun (p5917, x5919, p5920) =>
      getT0 p5917 <|
      some ((.tup []), (.lst false n5909 c5910), x5919, p5920, p5903)) (
      some ((.tup []), (.lst false n5909 c5910), x5900, p5901, p5903))) (
    getL p5903 fun n5923 c5924 =>
    grd (0 < ((n5909 : Nat) : Int)) <|
    grd (0 < List.length c5910) <|
    getI .i64 (gp c5910 0) fun x5928 =>
    grd (0 ≤ x5928 ∧ x5928 < ((n5923 : Nat) : Int)) <|
    grd (0 < List.length (List.drop (Int.toNat x5928) c5924)) <|
    getL (gp c5924 (Int.toNat x5928)) fun n5933 c5934 =>
    bnd' (m89_L0 N p5902 n5933 c5934 N 0 (.lst false n5909 c5910) x5900 p5901 (.lst false n5923 c5924)) fun o =>
    match o with
    | (p5969, x5970, p5971, p5972) =>
      some ((.tup []), p5969, x5970, p5971, p5972))
theorem c89 (N : Nat) (p5899 : PV) (x5900 : Int) (p5901 : PV) (p5902 : PV) (p5903 : PV) (r : PV) (p5977 : PV) (x5978 : Int) (p5979 : PV) (p5980 : PV) (h : m89 N p5899 x5900 p5901 p5902 p5903 = some (r, p5977, x5978, p5979, p5980)) : V.Fn Tryd.prog 89 6 [.v .nl, .v .nl, .ptr 0 0, .ptr 1 0, .ptr 4 0, .ptr 5 0] [(0, .p [p5899]), (1, .r [.fn 43 [.ptr 2 0, .ptr 3 0]]), (2, .p [(.int .i64 x5900)]), (3, .p [p5901]), (4, .p [p5902, p5903]), (5, .r [.fn 89 [.ptr 0 0, .ptr 1 0, .ptr 4 0, .ptr 5 0]])] (fun d ob' => d = .v r ∧ ob' = [(0, .p [p5977]), (1, .r [.fn 43 [.ptr 2 0, .ptr 3 0]]), (2, .p [(.int .i64 x5978)]), (3, .p [p5979]), (4, .p [p5902, p5980]), (5, .r [.fn 89 [.ptr 0 0, .ptr 1 0, .ptr 4 0, .ptr 5 0]])]) := by
  unfold m89 at h
  refine Fn_of (sz := 53) tab_ok [0, 1, 2, 3, 4, 5, 8, 9, 10, 16, 18, 29, 30, 31, 32] [] Tryd.func89 rfl rfl rfl (by simp) ?_
  simp only [initSt, initEnv, List.map_cons, List.map_nil, List.getD_cons_zero, List.getD_cons_succ, List.getD_nil]
  have hh := getL_some h; clear h; obtain ⟨n5909, c5910, h5908, h⟩ := hh
  have hh := brn_some h; clear h; rcases hh with ⟨h5911, h⟩ | ⟨h5911, h⟩
  · have hh := bnd'_some h; clear h; obtain ⟨p5912, h5913, h⟩ := hh
    refine W_sound tab_ok mixed 19 _ _ _ ?_
    simp -implicitDefEqProofs only [go_sem, qa, qb, qc, qd, qe, qf, qg, qh, qi, qj, qk, ↓reduceIte, h5908, h5911]
    repeat with_reducible refine ⟨by first | kernel_rfl | decide, ?_⟩
    refine Wp_callP (FnP_le (c49 N _ _ h5913) (.cons _ _ _ _ (.nl false) .nil) (.refl _)) (by kernel_rfl) rfl rfl rfl rfl (by decide) ?_
    have hh := getB_some h; clear h; obtain ⟨b5915, h5914, h⟩ := hh
    have hh := brn_some h; clear h; rcases hh with ⟨h5916, h⟩ | ⟨h5916, h⟩
    · have hh := bnd'_some h; clear h; obtain ⟨⟨p5917, x5919, p5920⟩, h5918, h⟩ := hh
      (try dsimp only at h)
      refine W_sound tab_ok mixed 5 _ _ _ ?_
      simp -implicitDefEqProofs only [go_sem, qa, qb, qc, qd, qe, qf, qg, qh, qi, qj, qk, ↓reduceIte, h5908, h5911, h5914, h5916]
      repeat with_reducible refine ⟨by first | kernel_rfl | decide, ?_⟩
      refine Wp_callD [2, 3] (c43 N _ _ _ _ _ h5918) rfl rfl rfl (by first | rfl | (simp only [go_sem, qa, qb, qc, qd, qe, qf, qg, qh, qi, qj, qk, ↓reduceIte, h5908, h5911, h5914, h5916] <;> rfl)) rfl (by kernel_rfl) ?_
      have hh := getT0_some h; clear h; obtain ⟨h5921, h⟩ := hh
      refine W_sound tab_ok mixed 3 _ _ _ ?_
      simp -implicitDefEqProofs only [go_sem, qa, qb, qc, qd, qe, qf, qg, qh, qi, qj, qk, ↓reduceIte, h5908, h5911, h5914, h5916, h5921]
      repeat with_reducible refine ⟨by first | kernel_rfl | decide, ?_⟩
      simp only [Option.some.injEq, Prod.mk.injEq] at h; obtain ⟨rfl, rfl, rfl, rfl, rfl⟩ := h
      exact finD (e2 := [(0, .dead), (1, .dead), (2, .dead), (3, .dead), (4, .dead), (5, .dead), (8, .dead), (9, .dead), (10, .dead), (16, .dead), (18, .dead), (29, .dead), (30, .dead), (31, .dead), (32, .dead)]) (ob2 := [(0, .p [(.lst false n5909 c5910)]), (1, .r [.fn 43 [.ptr 2 0, .ptr 3 0]]), (4, .p [p5902, p5903]), (5, .r [.fn 89 [.ptr 0 0, .ptr 1 0, .ptr 4 0, .ptr 5 0]]), (3, .p [p5920]), (2, .p [(.int .i64 x5919)])]) (st' := ⟨[], [(0, .dead), (1, .dead), (2, .dead), (3, .dead), (4, .dead), (5, .dead), (8, .dead), (9, .dead), (10, .dead), (16, .dead), (18, .dead), (29, .dead), (30, .dead), (31, .dead), (32, .dead)], [(0, .p [(.lst false n5909 c5910)]), (1, .r [.fn 43 [.ptr 2 0, .ptr 3 0]]), (2, .p [(.int .i64 x5919)]), (3, .p [p5920]), (4, .p [p5902, p5903]), (5, .r [.fn 89 [.ptr 0 0, .ptr 1 0, .ptr 4 0, .ptr 5 0]])], 6, []⟩) (.k (.k (.k (.k (.k (.k (.k (.r (.r (.k (.k (.r (.r (.r (.r .nil))))))))))))))) (.cons _ _ _ _ _ (DLes.refl _) (.cons _ _ _ _ _ (DLes.refl _) (.cons _ _ _ _ _ (DLes.refl _) (.cons _ _ _ _ _ (DLes.refl _) (.cons _ _ _ _ _ (DLes.refl _) (.cons _ _ _ _ _ (DLes.refl _) .nil)))))) (by kernel_rfl) (by simp only [go_sem, qa, qb, qc, qd, qe, qf, qg, qh, qi, qj, qk, ↓reduceIte, resQ_tmp, resQ_cell, resQ_nil, retD_one, retD_two, retD_three, retD_none]; try simp [R.val, retD_one, retD_two, retD_three, retD_none])
    · refine W_sound tab_ok mixed 5 _ _ _ ?_
      simp -implicitDefEqProofs only [go_sem, qa, qb, qc, qd, qe, qf, qg, qh, qi, qj, qk, ↓reduceIte, h5908, h5911, h5914, h5916]
      repeat with_reducible refine ⟨by first | kernel_rfl | decide, ?_⟩
      simp only [Option.some.injEq, Prod.mk.injEq] at h; obtain ⟨rfl, rfl, rfl, rfl, rfl⟩ := h
      exact finD (e2 := [(0, .dead), (1, .dead), (2, .dead), (3, .dead), (4, .dead), (5, .dead), (8, .dead), (9, .dead), (10, .dead), (16, .dead), (18, .dead), (29, .dead), (30, .dead), (31, .dead), (32, .dead)]) (ob2 := [(0, .p [(.lst false n5909 c5910)]), (1, .r [.fn 43 [.ptr 2 0, .ptr 3 0]]), (2, .p [(.int .i64 x5900)]), (3, .p [p5901]), (4, .p [p5902, p5903]), (5, .r [.fn 89 [.ptr 0 0, .ptr 1 0, .ptr 4 0, .ptr 5 0]])]) (st' := ⟨[], [(0, .dead), (1, .dead), (2, .dead), (3, .dead), (4, .dead), (5, .dead), (8, .dead), (9, .dead), (10, .dead), (16, .dead), (18, .dead), (29, .dead), (30, .dead), (31, .dead), (32, .dead)], [(0, .p [(.lst false n5909 c5910)]), (1, .r [.fn 43 [.ptr 2 0, .ptr 3 0]]), (2, .p [(.int .i64 x5900)]), (3, .p [p5901]), (4, .p [p5902, p5903]), (5, .r [.fn 89 [.ptr 0 0, .ptr 1 0, .ptr 4 0, .ptr 5 0]])], 6, []⟩) (.k (.k (.k (.k (.k (.k (.k (.r (.r (.k (.k (.r (.r (.r (.r .nil))))))))))))))) (.cons _ _ _ _ _ (DLes.refl _) (.cons _ _ _ _ _ (DLes.refl _) (.cons _ _ _ _ _ (DLes.refl _) (.cons _ _ _ _ _ (DLes.refl _) (.cons _ _ _ _ _ (DLes.refl _) (.cons _ _ _ _ _ (DLes.refl _) .nil)))))) (by kernel_rfl) (by simp only [go_sem, qa, qb, qc, qd, qe, qf, qg, qh, qi, qj, qk, ↓reduceIte, resQ_tmp, resQ_cell, resQ_nil, retD_one, retD_two, retD_three, retD_none]; try simp [R.val, retD_one, retD_two, retD_three, retD_none])
  · have hh := getL_some h; clear h; obtain ⟨n5923, c5924, h5922, h⟩ := hh
    have hh := grd_some h; clear h; obtain ⟨g5925, h⟩ := hh
    have hh := grd_some h; clear h; obtain ⟨g5926, h⟩ := hh
    have hh := getI_some h; clear h; obtain ⟨x5928, h5927, h⟩ := hh
    have hh := grd_some h; clear h; obtain ⟨⟨g5929, g5930⟩, h⟩ := hh
    have hh := grd_some h; clear h; obtain ⟨g5931, h⟩ := hh
    have hh := getL_some h; clear h; obtain ⟨n5933, c5934, h5932, h⟩ := hh
    refine W_sound tab_ok mixed 29 _ _ _ ?_
    simp -implicitDefEqProofs only [go_sem, qa, qb, qc, qd, qe, qf, qg, qh, qi, qj, qk, ↓reduceIte, h5908, h5911, h5922, g5925, g5926, h5927, g5929, g5930, g5931, h5932]
    repeat with_reducible refine ⟨by first | kernel_rfl | decide, ?_⟩
    have hh := bnd'_some h; clear h; obtain ⟨o5981, h5982, h5983⟩ := hh
    refine Wp_cut (fun s => ∃ p5969, ∃ x5970, ∃ p5971, ∃ p5972, (p5969, x5970, p5971, p5972) = o5981 ∧ s = ⟨[], [(0, .dead), (1, .dead), (2, .dead), (3, .dead), (4, .dead), (5, .dead), (8, .dead), (9, .dead), (10, .dead), (16, .dead), (18, .dead), (29, .dead), (30, .dead), (31, .dead), (32, .dead)], [(0, .p [p5969]), (1, .r [.fn 43 [.ptr 2 0, .ptr 3 0]]), (2, .p [(.int .i64 x5970)]), (3, .p [p5971]), (4, .p [p5902, p5972]), (5, .r [.fn 89 [.ptr 0 0, .ptr 1 0, .ptr 4 0, .ptr 5 0]])], 6, []⟩) ?_ ?_
    · refine Wp_block ?_
      refine Wp_loopG (fun n s => ∃ x5950, ∃ p5951, ∃ x5952, ∃ p5953, ∃ p5954, m89_L0 N p5902 n5933 c5934 n x5950 p5951 x5952 p5953 p5954 = some o5981 ∧ s = ⟨[], [(0, .v .nl), (1, .v .nl), (2, .dead), (3, .dead), (4, .dead), (5, .ptr 5 0), (8, .v (.int .i64 0)), (9, .dead), (10, .dead), (16, .dead), (18, .dead), (29, .v (.lst false n5933 c5934)), (30, .v (.int .i64 ((n5933 : Nat) : Int))), (31, .v (.int .i64 x5950)), (32, .dead)], [(0, .p [p5951]), (1, .r [.fn 43 [.ptr 2 0, .ptr 3 0]]), (2, .p [(.int .i64 x5952)]), (3, .p [p5953]), (4, .p [p5902, p5954]), (5, .r [.fn 89 [.ptr 0 0, .ptr 1 0, .ptr 4 0, .ptr 5 0]])], 6, []⟩) N _ ((Wk_le (.r (.r (.k (.k (.k (.r (.r (.r (.r (.k (.r (.r (.r (.r (.r .nil))))))))))))))) (OLe.refl _)).trans (cmpS_ok (st' := ⟨[], [(0, .v .nl), (1, .v .nl), (2, .dead), (3, .dead), (4, .dead), (5, .ptr 5 0), (8, .v (.int .i64 0)), (9, .dead), (10, .dead), (16, .dead), (18, .dead), (29, .v (.lst false n5933 c5934)), (30, .v (.int .i64 ((n5933 : Nat) : Int))), (31, .v (.int .i64 0)), (32, .dead)], [(0, .p [(.lst false n5909 c5910)]), (1, .r [.fn 43 [.ptr 2 0, .ptr 3 0]]), (2, .p [(.int .i64 x5900)]), (3, .p [p5901]), (4, .p [p5902, (.lst false n5923 c5924)]), (5, .r [.fn 89 [.ptr 0 0, .ptr 1 0, .ptr 4 0, .ptr 5 0]])], 6, []⟩) (by kernel_rfl))) ⟨_, _, _, _, _, h5982, rfl⟩ ?_
      clear h5982
      rintro n _ ⟨x5950, p5951, x5952, p5953, p5954, h5982, rfl⟩
      cases n with
      | zero => cases h5982
      | succ n =>
        rw [m89_L0] at h5982
        have hh := brn_some h5982; clear h5982; rcases hh with ⟨h5955, h5982⟩ | ⟨h5955, h5982⟩
        · have hh := grd_some h5982; clear h5982; obtain ⟨⟨g5956, g5957⟩, h5982⟩ := hh
          have hh := grd_some h5982; clear h5982; obtain ⟨g5958, h5982⟩ := hh
          have hh := getA2_some h5982; clear h5982; obtain ⟨p5960, p5961, h5959, h5982⟩ := hh
          injection h5959 with h5959
          have hh := bnd'_some h5982; clear h5982; obtain ⟨⟨p5962, p5964, x5965, p5966, p5967⟩, h5963, h5982⟩ := hh
          (try dsimp only at h5982)
          refine W_sound tab_ok mixed 34 _ _ _ ?_
          simp -implicitDefEqProofs only [go_sem, qa, qb, qc, qd, qe, qf, qg, qh, qi, qj, qk, ↓reduceIte, h5908, h5911, h5922, g5925, g5926, h5927, g5929, g5930, g5931, h5932, h5955, g5956, g5957, g5958, h5959]
          repeat with_reducible refine ⟨by first | kernel_rfl | decide, ?_⟩
          refine Wp_callDF [(60, [(.int .i64 x5950)]), (67, [p5960, p5961])] [0, 1, 2, 3, 4, 5] (c89_2 N N _ _ _ _ _ _ _ _ _ _ _ _ h5963) rfl rfl rfl (by first | rfl | (simp only [go_sem, qa, qb, qc, qd, qe, qf, qg, qh, qi, qj, qk, ↓reduceIte, h5908, h5911, h5922, g5925, g5926, h5927, g5929, g5930, g5931, h5932, h5955, g5956, g5957, g5958, h5959] <;> rfl)) rfl (by kernel_rfl) rfl rfl (by simp [roF, obL]) ?_
          have hh := getT0_some h5982; clear h5982; obtain ⟨h5968, h5982⟩ := hh
          refine W_sound tab_ok mixed 6 _ _ _ ?_
          simp -implicitDefEqProofs only [go_sem, qa, qb, qc, qd, qe, qf, qg, qh, qi, qj, qk, ↓reduceIte, h5908, h5911, h5922, g5925, g5926, h5927, g5929, g5930, g5931, h5932, h5955, g5956, g5957, g5958, h5959, h5968]
          repeat with_reducible refine ⟨by first | kernel_rfl | decide, ?_⟩
          exact cutQ _ ((Wk_le (.r (.r (.r (.r (.r (.r (.r (.k (.k (.r (.r (.r (.r (.r (.k .nil))))))))))))))) (OLe.refl _)).trans (cmpS_ok (st' := ⟨[], [(0, .v .nl), (1, .v .nl), (2, .dead), (3, .dead), (4, .dead), (5, .ptr 5 0), (8, .v (.int .i64 0)), (9, .dead), (10, .dead), (16, .dead), (18, .dead), (29, .v (.lst false n5933 c5934)), (30, .v (.int .i64 ((n5933 : Nat) : Int))), (31, .v (.int .i64 (IntKind.i64.wrap (x5950 + 1)))), (32, .dead)], [(0, .p [p5964]), (1, .r [.fn 43 [.ptr 2 0, .ptr 3 0]]), (2, .p [(.int .i64 x5965)]), (3, .p [p5966]), (4, .p [p5902, p5967]), (5, .r [.fn 89 [.ptr 0 0, .ptr 1 0, .ptr 4 0, .ptr 5 0]])], 6, []⟩) (by kernel_rfl))) ⟨n, Nat.lt_succ_self n, _, _, _, _, _, h5982, rfl⟩
        · refine W_sound tab_ok mixed 7 _ _ _ ?_
          simp -implicitDefEqProofs only [go_sem, qa, qb, qc, qd, qe, qf, qg, qh, qi, qj, qk, ↓reduceIte, h5908, h5911, h5922, g5925, g5926, h5927, g5929, g5930, g5931, h5932, h5955]
          repeat with_reducible refine ⟨by first | kernel_rfl | decide, ?_⟩
          obtain rfl := Option.some.inj h5982
          exact cutQ _ ((Wk_le (.k (.k (.r (.r (.r (.k (.k (.r (.r (.r (.r (.k (.k (.k (.k .nil))))))))))))))) (OLe.refl _)).trans (cmpS_ok (st' := ⟨[], [(0, .dead), (1, .dead), (2, .dead), (3, .dead), (4, .dead), (5, .dead), (8, .dead), (9, .dead), (10, .dead), (16, .dead), (18, .dead), (29, .dead), (30, .dead), (31, .dead), (32, .dead)], [(0, .p [p5951]), (1, .r [.fn 43 [.ptr 2 0, .ptr 3 0]]), (2, .p [(.int .i64 x5952)]), (3, .p [p5953]), (4, .p [p5902, p5954]), (5, .r [.fn 89 [.ptr 0 0, .ptr 1 0, .ptr 4 0, .ptr 5 0]])], 6, []⟩) (by kernel_rfl))) ⟨_, _, _, _, rfl, rfl⟩
    · rintro _ ⟨p5969, x5970, p5971, p5972, rfl, rfl⟩
      (try dsimp only at h5983)
      refine W_sound tab_ok mixed 1 _ _ _ ?_
      simp -implicitDefEqProofs only [go_sem, qa, qb, qc, qd, qe, qf, qg, qh, qi, qj, qk, ↓reduceIte, h5908, h5911, h5922, g5925, g5926, h5927, g5929, g5930, g5931, h5932]
      repeat with_reducible refine ⟨by first | kernel_rfl | decide, ?_⟩
      simp only [Option.some.injEq, Prod.mk.injEq] at h5983; obtain ⟨rfl, rfl, rfl, rfl, rfl⟩ := h5983
      exact finD (e2 := [(0, .dead), (1, .dead), (2, .dead), (3, .dead), (4, .dead), (5, .dead), (8, .dead), (9, .dead), (10, .dead), (16, .dead), (18, .dead), (29, .dead), (30, .dead), (31, .dead), (32, .dead)]) (ob2 := [(0, .p [p5969]), (1, .r [.fn 43 [.ptr 2 0, .ptr 3 0]]), (2, .p [(.int .i64 x5970)]), (3, .p [p5971]), (4, .p [p5902, p5972]), (5, .r [.fn 89 [.ptr 0 0, .ptr 1 0, .ptr 4 0, .ptr 5 0]])]) (st' := ⟨[], [(0, .dead), (1, .dead), (2, .dead), (3, .dead), (4, .dead), (5, .dead), (8, .dead), (9, .dead), (10, .dead), (16, .dead), (18, .dead), (29, .dead), (30, .dead), (31, .dead), (32, .dead)], [(0, .p [p5969]), (1, .r [.fn 43 [.ptr 2 0, .ptr 3 0]]), (2, .p [(.int .i64 x5970)]), (3, .p [p5971]), (4, .p [p5902, p5972]), (5, .r [.fn 89 [.ptr 0 0, .ptr 1 0, .ptr 4 0, .ptr 5 0]])], 6, []⟩) (.r (.r (.r (.r (.r (.r (.r (.r (.r (.r (.r (.r (.r (.r (.r .nil))))))))))))))) (.cons _ _ _ _ _ (DLes.refl _) (.cons _ _ _ _ _ (DLes.refl _) (.cons _ _ _ _ _ (DLes.refl _) (.cons _ _ _ _ _ (DLes.refl _) (.cons _ _ _ _ _ (DLes.refl _) (.cons _ _ _ _ _ (DLes.refl _) .nil)))))) (by kernel_rfl) (by simp only [go_sem, qa, qb, qc, qd, qe, qf, qg, qh, qi, qj, qk, ↓reduceIte, resQ_tmp, resQ_cell, resQ_nil, retD_one, retD_two, retD_three, retD_none]; try simp [R.val, retD_one, retD_two, retD_three, retD_none])
def m41 (N : Nat) (p5993 : PV) (x5994 : Int) (x5995 : Int) (p5996 : PV) : Option ((PV × Int × PV)) :=
  getA2 p5993 fun p6000 p6001 =>
  bnd' (m45 N x5994) fun p6002 =>
  getL p6002 fun n6005 c6006 =>
  bnd' (m89 N (.lst false n6005 c6006) x5995 p5996 p6000 p6001) fun (p6007, p6009, x6010, p6011, p6012) =>
  getT0 p6007 <|
  some ((.tup []), x6010, p6011)
theorem c41 (N : Nat) (p5993 : PV) (x5994 : Int) (x5995 : Int) (p5996 : PV) (r : PV) (x6016 : Int) (p6017 : PV) (h : m41 N p5993 x5994 x5995 p5996 = some (r, x6016, p6017)) : V.Fn Tryd.prog 41 2 [.v p5993, .v (.int .u64 x5994), .fn 43 [.ptr 0 0, .ptr 1 0]] [(0, .p [(.int .i64 x5995)]), (1, .p [p5996])] (fun d ob' => d = .v r ∧ ob' = [(0, .p [(.int .i64 x6016)]), (1, .p [p6017])]) := by
  unfold m41 at h
  refine Fn_of (sz := 13) tab_ok [0, 1, 2, 3, 5, 6, 7] [] Tryd.func41 rfl rfl rfl (by simp) ?_
  simp only [initSt, initEnv, List.map_cons, List.map_nil, List.getD_cons_zero, List.getD_cons_succ, List.getD_nil]
  have hh := getA2_some h; clear h; obtain ⟨p6000, p6001, h5999, h⟩ := hh
  have hh := bnd'_some h; clear h; obtain ⟨p6002, h6003, h⟩ := hh
  refine W_sound tab_ok mixed 8 _ _ _ ?_
  simp -implicitDefEqProofs only [go_sem, qa, qb, qc, qd, qe, qf, qg, qh, qi, qj, qk, ↓reduceIte, h5999]
  repeat with_reducible refine ⟨by first | kernel_rfl | decide, ?_⟩
  refine Wp_callP (c45 N _ _ h6003) (by kernel_rfl) rfl rfl rfl rfl (by decide) ?_
  have hh := getL_some h; clear h; obtain ⟨n6005, c6006, h6004, h⟩ := hh
  have hh := bnd'_some h; clear h; obtain ⟨⟨p6007, p6009, x6010, p6011, p6012⟩, h6008, h⟩ := hh
  (try dsimp only at h)
  refine W_sound tab_ok mixed 14 _ _ _ ?_
  simp -implicitDefEqProofs only [go_sem, qa, qb, qc, qd, qe, qf, qg, qh, qi, qj, qk, ↓reduceIte, h5999, h6004]
  repeat with_reducible refine ⟨by first | kernel_rfl | decide, ?_⟩
  refine Wp_callD [14, 7, 0, 1, 5, 22] (c89 N _ _ _ _ _ _ _ _ _ _ h6008) rfl rfl rfl (by first | rfl | (simp only [go_sem, qa, qb, qc, qd, qe, qf, qg, qh, qi, qj, qk, ↓reduceIte, h5999, h6004] <;> rfl)) rfl (by kernel_rfl) ?_
  have hh := getT0_some h; clear h; obtain ⟨h6013, h⟩ := hh
  refine W_sound tab_ok mixed 2 _ _ _ ?_
  simp -implicitDefEqProofs only [go_sem, qa, qb, qc, qd, qe, qf, qg, qh, qi, qj, qk, ↓reduceIte, h5999, h6004, h6013]
  repeat with_reducible refine ⟨by first | kernel_rfl | decide, ?_⟩
  simp only [Option.some.injEq, Prod.mk.injEq] at h; obtain ⟨rfl, rfl, rfl⟩ := h
  exact finD (e2 := [(0, .dead), (1, .dead), (2, .dead), (3, .dead), (5, .dead), (6, .dead), (7, .dead)]) (ob2 := [(22, .r [.fn 89 [.ptr 14 0, .ptr 7 0, .ptr 5 0, .ptr 22 0]]), (5, .p [p6000, p6012]), (1, .p [p6011]), (0, .p [(.int .i64 x6010)]), (7, .r [.fn 43 [.ptr 0 0, .ptr 1 0]]), (14, .p [p6009])]) (st' := ⟨[], [(0, .dead), (1, .dead), (2, .dead), (3, .dead), (5, .dead), (6, .dead), (7, .dead)], [(0, .p [(.int .i64 x6010)]), (1, .p [p6011])], 2, []⟩) (.k (.k (.k (.k (.k (.k (.k .nil))))))) (.cons _ _ _ _ _ (DLes.refl _) (.cons _ _ _ _ _ (DLes.refl _) (.cons _ _ _ _ _ (DLes.refl _) (.cons _ _ _ _ _ (DLes.refl _) (.cons _ _ _ _ _ (DLes.refl _) (.cons _ _ _ _ _ (DLes.refl _) .nil)))))) (by kernel_rfl) (by simp only [go_sem, qa, qb, qc, qd, qe, qf, qg, qh, qi, qj, qk, ↓reduceIte, resQ_tmp, resQ_cell, resQ_nil, retD_one, retD_two, retD_three, retD_none]; try simp [R.val, retD_one, retD_two, retD_three, retD_none])
def m93_3_L0 (N : Nat) (n6159 : Nat) (c6161 : List PV) : Nat → Int → PV → PV → Option ((PV ⊕ Unit))
  | 0, _, _, _ => none
  | n + 1, x6182, p6183, p6184 =>
    brn (decide (x6182 < ((n6159 : Nat) : Int))) (
      grd (0 ≤ x6182 ∧ x6182 < ((n6159 : Nat) : Int)) <|
      grd ((((Int.toNat x6182) * 2) + 2) ≤ List.length c6161) <|
      getA2 (.agg (List.take 2 (List.drop ((Int.toNat x6182) * 2) c6161))) fun p6190 p6191 =>
      getI .i64 p6184 fun x6193 =>
      getI .i64 p6191 fun x6195 =>
      getI .i64 p6183 fun x6197 =>
      getI .i64 p6190 fun x6199 =>
      brn ((x6197 == x6199) && (x6193 == x6195)) (
        some (.inl (.int .i64 x6182))) (
        m93_3_L0 N n6159 c6161 n (IntKind.i64.wrap (x6182 + 1)) (.int .i64 x6197) (.int .i64 x6193))) (
      some (.inr ()))
def m93_3 (N : Nat) (n6159 : Nat) (p6160 : PV) (c6161 : List PV) : Option (PV) :=
  getA2 p6160 fun p6163 p6164 =>
  bnd' (m93_3_L0 N n6159 c6161 N 0 p6163 p6164) fun o =>
  match o with
  | .inl p6201 =>
    some p6201
  | .inr () =>
    some (.int .i64 (-1))
theorem c93_3 (N : Nat) (n6159 : Nat) (p6160 : PV) (c6161 : List PV) (r : PV)  (h : m93_3 N n6159 p6160 c6161 = some r) : V.Fn Tryd.prog 93 1 [.sl false 0 0 n6159 2, .v p6160] [(0, .p c6161)] (fun d ob' => d = .v r ∧ ob' = [(0, .p c6161)]) := by
  unfold m93_3 at h
  refine Fn_of (sz := 19) tab_ok [0, 1, 3, 4, 5, 7, 8, 9, 16] [.tmp 4] Tryd.func93 rfl rfl rfl (by simp) ?_
  simp only [initSt, initEnv, List.map_cons, List.map_nil, List.getD_cons_zero, List.getD_cons_succ, List.getD_nil]
  have hh := getA2_some h; clear h; obtain ⟨p6163, p6164, h6162, h⟩ := hh
  refine W_sound tab_ok mixed 12 _ _ _ ?_
  simp -implicitDefEqProofs only [go_sem, qa, qb, qc, qd, qe, qf, qg, qh, qi, qj, qk, ↓reduceIte, h6162]
  repeat with_reducible refine ⟨by first | kernel_rfl | decide, ?_⟩
  have hh := bnd'_some h; clear h; obtain ⟨o6202, h6203, h6204⟩ := hh
  refine Wp_cut (fun s => (.inr ()) = o6202 ∧ s = ⟨[], [(0, .dead), (1, .dead), (3, .dead), (4, .dead), (5, .dead), (7, .dead), (8, .dead), (9, .dead), (16, .dead)], [(0, .p c6161)], 1, []⟩) ?_ ?_
  · refine Wp_block ?_
    refine Wp_loopG (fun n s => ∃ x6182, ∃ p6183, ∃ p6184, m93_3_L0 N n6159 c6161 n x6182 p6183 p6184 = some o6202 ∧ s = ⟨[], [(0, .sl false 0 0 n6159 2), (1, .dead), (3, .ptr 1 0), (4, .dead), (5, .dead), (7, .v (.int .i64 ((n6159 : Nat) : Int))), (8, .v (.int .i64 x6182)), (9, .dead), (16, .dead)], [(0, .p c6161), (1, .p [p6183, p6184])], 2, []⟩) N _ ((Wk_le (.r (.k (.r (.k (.r (.r (.r (.r (.r .nil))))))))) (OLe.refl _)).trans (cmpS_ok rfl)) ⟨_, _, _, h6203, rfl⟩ ?_
    clear h6203
    rintro n _ ⟨x6182, p6183, p6184, h6203, rfl⟩
    cases n with
    | zero => cases h6203
    | succ n =>
      rw [m93_3_L0] at h6203
      have hh := brn_some h6203; clear h6203; rcases hh with ⟨h6185, h6203⟩ | ⟨h6185, h6203⟩
      · have hh := grd_some h6203; clear h6203; obtain ⟨⟨g6186, g6187⟩, h6203⟩ := hh
        have hh := grd_some h6203; clear h6203; obtain ⟨g6188, h6203⟩ := hh
        have hh := getA2_some h6203; clear h6203; obtain ⟨p6190, p6191, h6189, h6203⟩ := hh
        injection h6189 with h6189
        have hh := getI_some h6203; clear h6203; obtain ⟨x6193, h6192, h6203⟩ := hh
        have hh := getI_some h6203; clear h6203; obtain ⟨x6195, h6194, h6203⟩ := hh
        have hh := getI_some h6203; clear h6203; obtain ⟨x6197, h6196, h6203⟩ := hh
        have hh := getI_some h6203; clear h6203; obtain ⟨x6199, h6198, h6203⟩ := hh
        have hh := brn_some h6203; clear h6203; rcases hh with ⟨h6200, h6203⟩ | ⟨h6200, h6203⟩
        · refine W_sound tab_ok mixed 31 _ _ _ ?_
          simp -implicitDefEqProofs only [go_sem, qa, qb, qc, qd, qe, qf, qg, qh, qi, qj, qk, ↓reduceIte, h6162, h6185, g6186, g6187, g6188, h6189, h6192, h6194, h6196, h6198, h6200]
          repeat with_reducible refine ⟨by first | kernel_rfl | decide, ?_⟩
          obtain rfl := Option.some.inj h6203
          (try dsimp only at h6204)
          obtain rfl := Option.some.inj h6204
          exact finD (e2 := [(0, .dead), (1, .dead), (3, .dead), (4, .v (.int .i64 x6182)), (5, .dead), (7, .dead), (8, .dead), (9, .dead), (16, .dead)]) (ob2 := [(0, .p c6161), (1, .p [(.int .i64 x6197), (.int .i64 x6193)])]) (st' := ⟨[], [(0, .dead), (1, .dead), (3, .dead), (4, .v (.int .i64 x6182)), (5, .dead), (7, .dead), (8, .dead), (9, .dead), (16, .dead)], [(0, .p c6161)], 1, []⟩) (.k (.r (.k (.r (.k (.k (.k (.k (.k .nil))))))))) (.cons _ _ _ _ _ (DLes.refl _) (.cons _ _ _ _ _ (DLes.refl _) .nil)) (by kernel_rfl) (by simp only [go_sem, qa, qb, qc, qd, qe, qf, qg, qh, qi, qj, qk, ↓reduceIte, resQ_tmp, resQ_cell, resQ_nil, retD_one, retD_two, retD_three, retD_none]; try simp [R.val, retD_one, retD_two, retD_three, retD_none])
        · refine W_sound tab_ok mixed 30 _ _ _ ?_
          simp -implicitDefEqProofs only [go_sem, qa, qb, qc, qd, qe, qf, qg, qh, qi, qj, qk, ↓reduceIte, h6162, h6185, g6186, g6187, g6188, h6189, h6192, h6194, h6196, h6198, h6200]
          repeat with_reducible refine ⟨by first | kernel_rfl | decide, ?_⟩
          exact cutQ _ ((Wk_le (.r (.r (.r (.r (.k (.r (.r (.k (.k .nil))))))))) (OLe.refl _)).trans (cmpS_ok rfl)) ⟨n, Nat.lt_succ_self n, _, _, _, h6203, rfl⟩
      · refine W_sound tab_ok mixed 7 _ _ _ ?_
        simp -implicitDefEqProofs only [go_sem, qa, qb, qc, qd, qe, qf, qg, qh, qi, qj, qk, ↓reduceIte, h6162, h6185]
        repeat with_reducible refine ⟨by first | kernel_rfl | decide, ?_⟩
        obtain rfl := Option.some.inj h6203
        exact cutQ _ ((Wk_le (.k (.r (.k (.r (.r (.k (.k (.k (.r .nil))))))))) (OLe.refl _)).trans (cmpS_ok rfl)) ⟨rfl, rfl⟩
  · rintro _ ⟨rfl, rfl⟩
    (try dsimp only at h6204)
    refine W_sound tab_ok mixed 6 _ _ _ ?_
    simp -implicitDefEqProofs only [go_sem, qa, qb, qc, qd, qe, qf, qg, qh, qi, qj, qk, ↓reduceIte, h6162]
    repeat with_reducible refine ⟨by first | kernel_rfl | decide, ?_⟩
    obtain rfl := Option.some.inj h6204
    exact finD (e2 := [(0, .dead), (1, .dead), (3, .dead), (4, .v (.int .i64 (-1))), (5, .dead), (7, .dead), (8, .dead), (9, .dead), (16, .dead)]) (ob2 := [(0, .p c6161)]) (st' := ⟨[], [(0, .dead), (1, .dead), (3, .dead), (4, .v (.int .i64 (-1))), (5, .dead), (7, .dead), (8, .dead), (9, .dead), (16, .dead)], [(0, .p c6161)], 1, []⟩) (.r (.r (.r (.r (.r (.r (.r (.r (.r .nil))))))))) (.cons _ _ _ _ _ (DLes.refl _) .nil) (by kernel_rfl) (by simp only [go_sem, qa, qb, qc, qd, qe, qf, qg, qh, qi, qj, qk, ↓reduceIte, resQ_tmp, resQ_cell, resQ_nil, retD_one, retD_two, retD_three, retD_none]; try simp [R.val, retD_one, retD_two, retD_three, retD_none])
def m51_3 (N : Nat) (n6153 : Nat) (p6154 : PV) (c6155 : List PV) : Option (PV) :=
  getA2 p6154 fun p6157 p6158 =>
  bnd' (m93_3 N n6153 (.agg [p6157, p6158]) c6155) fun p6205 =>
  getI .i64 p6205 fun x6208 =>
  some (.bool (decide (x6208 ≥ 0)))
theorem c51_3 (N : Nat) (n6153 : Nat) (p6154 : PV) (c6155 : List PV) (r : PV)  (h : m51_3 N n6153 p6154 c6155 = some r) : V.Fn Tryd.prog 51 1 [.sl false 0 0 n6153 2, .v p6154] [(0, .p c6155)] (fun d ob' => d = .v r ∧ ob' = [(0, .p c6155)]) := by
  unfold m51_3 at h
  refine Fn_of (sz := 9) tab_ok [0, 1, 3, 4] [.tmp 4] Tryd.func51 rfl rfl rfl (by simp) ?_
  simp only [initSt, initEnv, List.map_cons, List.map_nil, List.getD_cons_zero, List.getD_cons_succ, List.getD_nil]
  have hh := getA2_some h; clear h; obtain ⟨p6157, p6158, h6156, h⟩ := hh
  have hh := bnd'_some h; clear h; obtain ⟨p6205, h6206, h⟩ := hh
  (try dsimp only at h)
  refine W_sound tab_ok mixed 9 _ _ _ ?_
  simp -implicitDefEqProofs only [go_sem, qa, qb, qc, qd, qe, qf, qg, qh, qi, qj, qk, ↓reduceIte, h6156]
  repeat with_reducible refine ⟨by first | kernel_rfl | decide, ?_⟩
  refine Wp_callD [0] (c93_3 N _ _ _ _ h6206) rfl rfl rfl (by first | rfl | (simp only [go_sem, qa, qb, qc, qd, qe, qf, qg, qh, qi, qj, qk, ↓reduceIte, h6156] <;> rfl)) rfl (by kernel_rfl) ?_
  have hh := getI_some h; clear h; obtain ⟨x6208, h6207, h⟩ := hh
  refine W_sound tab_ok mixed 5 _ _ _ ?_
  simp -implicitDefEqProofs only [go_sem, qa, qb, qc, qd, qe, qf, qg, qh, qi, qj, qk, ↓reduceIte, h6156, h6207]
  repeat with_reducible refine ⟨by first | kernel_rfl | decide, ?_⟩
  obtain rfl := Option.some.inj h
  exact finD (e2 := [(0, .dead), (1, .dead), (3, .dead), (4, .v (.bool (decide (x6208 ≥ 0))))]) (ob2 := [(4, .p [p6157, p6158]), (0, .p c6155)]) (st' := ⟨[], [(0, .dead), (1, .dead), (3, .dead), (4, .v (.bool (decide (x6208 ≥ 0))))], [(0, .p c6155)], 1, []⟩) (.k (.k (.k (.r .nil)))) (.cons _ _ _ _ _ (DLes.refl _) (.cons _ _ _ _ _ (DLes.refl _) .nil)) (by kernel_rfl) (by simp only [go_sem, qa, qb, qc, qd, qe, qf, qg, qh, qi, qj, qk, ↓reduceIte, resQ_tmp, resQ_cell, resQ_nil, retD_one, retD_two, retD_three, retD_none]; try simp [R.val, retD_one, retD_two, retD_three, retD_none])
def m49_2_L1 (N : Nat) (n6376 : Nat) (c6377 : List PV) (x6421 : Int) (x6436 : Int) (x6443 : Int) : Nat → Int → List PV → Option (List PV)
  | 0, _, _ => none
  | n + 1, x6454, c6455 =>
    brn (decide (x6454 < 5)) (
      grd (0 ≤ x6454 ∧ x6454 < 5) <|
      grd ((Int.toNat x6454) < List.length c6455) <|
      getI .i64 (gp c6455 (Int.toNat x6454)) fun x6461 =>
      brn (x6461 == x6436) (
        grd (((Int.toNat x6454) + 1) ≤ List.length c6455) <|
        m49_2_L1 N n6376 c6377 x6421 x6436 x6443 n (IntKind.i64.wrap (x6454 + 1)) (List.set c6455 (Int.toNat x6454) (.int .i64 x6443))) (
        m49_2_L1 N n6376 c6377 x6421 x6436 x6443 n (IntKind.i64.wrap (x6454 + 1)) c6455)) (
      some c6455)
def m49_2_L0 (N : Nat) (n6376 : Nat) (c6377 : List PV) : Nat → Int → List PV → Option ((PV ⊕ Unit))
  | 0, _, _ => none
  | n + 1, x6421, c6422 =>
    brn (decide (x6421 < ((n6376 : Nat) : Int))) (
      grd (0 ≤ x6421 ∧ x6421 < ((n6376 : Nat) : Int)) <|
      grd ((((Int.toNat x6421) * 2) + 2) ≤ List.length c6377) <|
      getA2 (.agg (List.take 2 (List.drop ((Int.toNat x6421) * 2) c6377))) fun p6428 p6429 =>
      getI .i64 p6428 fun x6431 =>
      grd (0 ≤ x6431 ∧ x6431 < 5) <|
      grd ((Int.toNat x6431) < List.length c6422) <|
      getI .i64 (gp c6422 (Int.toNat x6431)) fun x6436 =>
      getI .i64 p6429 fun x6438 =>
      grd (0 ≤ x6438 ∧ x6438 < 5) <|
      grd ((Int.toNat x6438) < List.length c6422) <|
      getI .i64 (gp c6422 (Int.toNat x6438)) fun x6443 =>
      brn (x6436 == x6443) (
        some (.inl (.bool false))) (
        bnd' (m49_2_L1 N n6376 c6377 x6421 x6436 x6443 N 0 c6422) fun c6464 =>
        m49_2_L0 N n6376 c6377 n (IntKind.i64.wrap (x6421 + 1)) c6464)) (
      some (.inr ()))
def m49_2 (N : Nat) (n6376 : Nat) (c6377 : List PV) : Option (PV) :=
  bnd' (m49_2_L0 N n6376 c6377 N 0 [(.int .i64 0), (.int .i64 1), (.int .i64 2), (.int .i64 3), (.int .i64 4)]) fun o =>
  match o with
  | .inl p6465 =>
    some p6465
  | .inr () =>
    some (.bool true)
theorem c49_2 (N : Nat) (n6376 : Nat) (c6377 : List PV) (r : PV)  (h : m49_2 N n6376 c6377 = some r) : V.Fn Tryd.prog 49 1 [.sl false 0 0 n6376 2] [(0, .p c6377)] (fun d ob' => d = .v r ∧ ob' = [(0, .p c6377)]) := by
  unfold m49_2 at h
  refine Fn_of (sz := 46) tab_ok [0, 2, 3, 5, 6, 7, 8, 9, 11, 12, 13, 14, 29, 30, 31, 32, 33, 39] [.tmp 2] Tryd.func49 rfl rfl rfl (by simp) ?_
  simp only [initSt, initEnv, List.map_cons, List.map_nil, List.getD_cons_zero, List.getD_cons_succ, List.getD_nil]
  refine W_sound tab_ok mixed 16 _ _ _ ?_
  simp -implicitDefEqProofs only [go_sem, qa, qb, qc, qd, qe, qf, qg, qh, qi, qj, qk, ↓reduceIte]
  repeat with_reducible refine ⟨by first | kernel_rfl | decide, ?_⟩
  have hh := bnd'_some h; clear h; obtain ⟨o6466, h6467, h6468⟩ := hh
  refine Wp_cut (fun s => (.inr ()) = o6466 ∧ s = ⟨[], [(0, .dead), (2, .dead), (3, .dead), (5, .dead), (6, .dead), (7, .dead), (8, .dead), (9, .dead), (11, .dead), (12, .dead), (13, .dead), (14, .dead), (29, .dead), (30, .dead), (31, .dead), (32, .dead), (33, .dead), (39, .dead)], [(0, .p c6377)], 1, []⟩) ?_ ?_
  · refine Wp_block ?_
    refine Wp_loopG (fun n s => ∃ x6421, ∃ c6422, m49_2_L0 N n6376 c6377 n x6421 c6422 = some o6466 ∧ s = ⟨[], [(0, .dead), (2, .dead), (3, .sl true 1 0 5 1), (5, .dead), (6, .dead), (7, .dead), (8, .dead), (9, .dead), (11, .sl false 0 0 n6376 2), (12, .v (.int .i64 ((n6376 : Nat) : Int))), (13, .v (.int .i64 x6421)), (14, .dead), (29, .dead), (30, .dead), (31, .dead), (32, .dead), (33, .dead), (39, .dead)], [(0, .p c6377), (1, .p c6422)], 2, []⟩) N _ ((Wk_le (.k (.k (.r (.r (.r (.r (.r (.r (.r (.r (.r (.r (.r (.r (.r (.r (.r (.r .nil)))))))))))))))))) (OLe.refl _)).trans (cmpS_ok (st' := ⟨[], [(0, .dead), (2, .dead), (3, .sl true 1 0 5 1), (5, .dead), (6, .dead), (7, .dead), (8, .dead), (9, .dead), (11, .sl false 0 0 n6376 2), (12, .v (.int .i64 ((n6376 : Nat) : Int))), (13, .v (.int .i64 0)), (14, .dead), (29, .dead), (30, .dead), (31, .dead), (32, .dead), (33, .dead), (39, .dead)], [(0, .p c6377), (1, .p [(.int .i64 0), (.int .i64 1), (.int .i64 2), (.int .i64 3), (.int .i64 4)])], 2, []⟩) (by kernel_rfl))) ⟨_, _, h6467, rfl⟩ ?_
    clear h6467
    rintro n _ ⟨x6421, c6422, h6467, rfl⟩
    cases n with
    | zero => cases h6467
    | succ n =>
      rw [m49_2_L0] at h6467
      have hh := brn_some h6467; clear h6467; rcases hh with ⟨h6423, h6467⟩ | ⟨h6423, h6467⟩
      · have hh := grd_some h6467; clear h6467; obtain ⟨⟨g6424, g6425⟩, h6467⟩ := hh
        have hh := grd_some h6467; clear h6467; obtain ⟨g6426, h6467⟩ := hh
        have hh := getA2_some h6467; clear h6467; obtain ⟨p6428, p6429, h6427, h6467⟩ := hh
        injection h6427 with h6427
        have hh := getI_some h6467; clear h6467; obtain ⟨x6431, h6430, h6467⟩ := hh
        have hh := grd_some h6467; clear h6467; obtain ⟨⟨g6432, g6433⟩, h6467⟩ := hh
        have hh := grd_some h6467; clear h6467; obtain ⟨g6434, h6467⟩ := hh
        have hh := getI_some h6467; clear h6467; obtain ⟨x6436, h6435, h6467⟩ := hh
        have hh := getI_some h6467; clear h6467; obtain ⟨x6438, h6437, h6467⟩ := hh
        have hh := grd_some h6467; clear h6467; obtain ⟨⟨g6439, g6440⟩, h6467⟩ := hh
        have hh := grd_some h6467; clear h6467; obtain ⟨g6441, h6467⟩ := hh
        have hh := getI_some h6467; clear h6467; obtain ⟨x6443, h6442, h6467⟩ := hh
        have hh := brn_some h6467; clear h6467; rcases hh with ⟨h6444, h6467⟩ | ⟨h6444, h6467⟩
        · refine W_sound tab_ok mixed 45 _ _ _ ?_
          simp -implicitDefEqProofs only [go_sem, qa, qb, qc, qd, qe, qf, qg, qh, qi, qj, qk, ↓reduceIte, h6423, g6424, g6425, g6426, h6427, h6430, g6432, g6433, g6434, h6435, h6437, g6439, g6440, g6441, h6442, h6444]
          repeat with_reducible refine ⟨by first | kernel_rfl | decide, ?_⟩
          obtain rfl := Option.some.inj h6467
          (try dsimp only at h6468)
          obtain rfl := Option.some.inj h6468
          exact finD (e2 := [(0, .dead), (2, .v (.bool false)), (3, .dead), (5, .dead), (6, .dead), (7, .dead), (8, .dead), (9, .dead), (11, .dead), (12, .dead), (13, .dead), (14, .dead), (29, .dead), (30, .dead), (31, .dead), (32, .dead), (33, .dead), (39, .dead)]) (ob2 := [(0, .p c6377), (1, .p c6422), (7, .p [(.int .i64 x6431), (.int .i64 x6438)])]) (st' := ⟨[], [(0, .dead), (2, .v (.bool false)), (3, .dead), (5, .dead), (6, .dead), (7, .dead), (8, .dead), (9, .dead), (11, .dead), (12, .dead), (13, .dead), (14, .dead), (29, .dead), (30, .dead), (31, .dead), (32, .dead), (33, .dead), (39, .dead)], [(0, .p c6377)], 1, []⟩) (.r (.r (.k (.k (.k (.k (.r (.r (.k (.k (.k (.k (.k (.r (.r (.r (.r (.r .nil)))))))))))))))))) (.cons _ _ _ _ _ (DLes.refl _) (.cons _ _ _ _ _ (DLes.refl _) (.cons _ _ _ _ _ (DLes.refl _) .nil))) (by kernel_rfl) (by simp only [go_sem, qa, qb, qc, qd, qe, qf, qg, qh, qi, qj, qk, ↓reduceIte, resQ_tmp, resQ_cell, resQ_nil, retD_one, retD_two, retD_three, retD_none]; try simp [R.val, retD_one, retD_two, retD_three, retD_none])
        · refine W_sound tab_ok mixed 46 _ _ _ ?_
          simp -implicitDefEqProofs only [go_sem, qa, qb, qc, qd, qe, qf, qg, qh, qi, qj, qk, ↓reduceIte, h6423, g6424, g6425, g6426, h6427, h6430, g6432, g6433, g6434, h6435, h6437, g6439, g6440, g6441, h6442, h6444]
          repeat with_reducible refine ⟨by first | kernel_rfl | decide, ?_⟩
          have hh := bnd'_some h6467; clear h6467; obtain ⟨o6469, h6470, h6471⟩ := hh
          refine Wp_cut (fun s => ∃ c6464, c6464 = o6469 ∧ s = ⟨[], [(0, .dead), (2, .dead), (3, .sl true 1 0 5 1), (5, .dead), (6, .dead), (7, .dead), (8, .dead), (9, .dead), (11, .sl false 0 0 n6376 2), (12, .v (.int .i64 ((n6376 : Nat) : Int))), (13, .v (.int .i64 x6421)), (14, .dead), (29, .dead), (30, .dead), (31, .dead), (32, .dead), (33, .dead), (39, .dead)], [(0, .p c6377), (1, .p c6464)], 2, []⟩) ?_ ?_
          · refine Wp_block ?_
            refine Wp_loopG (fun n s => ∃ x6454, ∃ c6455, m49_2_L1 N n6376 c6377 x6421 x6436 x6443 n x6454 c6455 = some o6469 ∧ s = ⟨[], [(0, .dead), (2, .dead), (3, .sl true 1 0 5 1), (5, .dead), (6, .v (.int .i64 x6436)), (7, .v (.int .i64 x6443)), (8, .dead), (9, .dead), (11, .sl false 0 0 n6376 2), (12, .v (.int .i64 ((n6376 : Nat) : Int))), (13, .v (.int .i64 x6421)), (14, .dead), (29, .dead), (30, .sl true 1 0 5 1), (31, .v (.int .i64 5)), (32, .v (.int .i64 x6454)), (33, .dead), (39, .dead)], [(0, .p c6377), (1, .p c6455)], 2, []⟩) N _ ((Wk_le (.r (.r (.r (.k (.r (.r (.r (.r (.r (.r (.r (.k (.k (.r (.r (.r (.r (.r .nil)))))))))))))))))) (OLe.refl _)).trans (cmpS_ok (st' := ⟨[], [(0, .dead), (2, .dead), (3, .sl true 1 0 5 1), (5, .dead), (6, .v (.int .i64 x6436)), (7, .v (.int .i64 x6443)), (8, .dead), (9, .dead), (11, .sl false 0 0 n6376 2), (12, .v (.int .i64 ((n6376 : Nat) : Int))), (13, .v (.int .i64 x6421)), (14, .dead), (29, .dead), (30, .sl true 1 0 5 1), (31, .v (.int .i64 5)), (32, .v (.int .i64 0)), (33, .dead), (39, .dead)], [(0, .p c6377), (1, .p c6422)], 2, []⟩) (by kernel_rfl))) ⟨_, _, h6470, rfl⟩ ?_
            clear h6470
            rintro n _ ⟨x6454, c6455, h6470, rfl⟩
            cases n with
            | zero => cases h6470
            | succ n =>
              rw [m49_2_L1] at h6470
              have hh := brn_some h6470; clear h6470; rcases hh with ⟨h6456, h6470⟩ | ⟨h6456, h6470⟩
              · have hh := grd_some h6470; clear h6470; obtain ⟨⟨g6457, g6458⟩, h6470⟩ := hh
                have hh := grd_some h6470; clear h6470; obtain ⟨g6459, h6470⟩ := hh
                have hh := getI_some h6470; clear h6470; obtain ⟨x6461, h6460, h6470⟩ := hh
                have hh := brn_some h6470; clear h6470; rcases hh with ⟨h6462, h6470⟩ | ⟨h6462, h6470⟩
                · have hh := grd_some h6470; clear h6470; obtain ⟨g6463, h6470⟩ := hh
                  refine W_sound tab_ok mixed 36 _ _ _ ?_
                  simp -implicitDefEqProofs only [go_sem, qa, qb, qc, qd, qe, qf, qg, qh, qi, qj, qk, ↓reduceIte, h6423, g6424, g6425, g6426, h6427, h6430, g6432, g6433, g6434, h6435, h6437, g6439, g6440, g6441, h6442, h6444, h6456, g6457, g6458, g6459, h6460, h6462, g6463]
                  repeat with_reducible refine ⟨by first | kernel_rfl | decide, ?_⟩
                  exact cutQ _ ((Wk_le (.r (.r (.r (.r (.r (.r (.k (.k (.r (.r (.r (.r (.r (.r (.r (.r (.k (.k .nil)))))))))))))))))) (OLe.refl _)).trans (cmpS_ok (st' := ⟨[], [(0, .dead), (2, .dead), (3, .sl true 1 0 5 1), (5, .dead), (6, .v (.int .i64 x6436)), (7, .v (.int .i64 x6443)), (8, .dead), (9, .dead), (11, .sl false 0 0 n6376 2), (12, .v (.int .i64 ((n6376 : Nat) : Int))), (13, .v (.int .i64 x6421)), (14, .dead), (29, .dead), (30, .sl true 1 0 5 1), (31, .v (.int .i64 5)), (32, .v (.int .i64 (IntKind.i64.wrap (x6454 + 1)))), (33, .dead), (39, .dead)], [(0, .p c6377), (1, .p (List.set c6455 (Int.toNat x6454) (.int .i64 x6443)))], 2, []⟩) (by kernel_rfl))) ⟨n, Nat.lt_succ_self n, _, _, h6470, rfl⟩
                · refine W_sound tab_ok mixed 30 _ _ _ ?_
                  simp -implicitDefEqProofs only [go_sem, qa, qb, qc, qd, qe, qf, qg, qh, qi, qj, qk, ↓reduceIte, h6423, g6424, g6425, g6426, h6427, h6430, g6432, g6433, g6434, h6435, h6437, g6439, g6440, g6441, h6442, h6444, h6456, g6457, g6458, g6459, h6460, h6462]
                  repeat with_reducible refine ⟨by first | kernel_rfl | decide, ?_⟩
                  exact cutQ _ ((Wk_le (.r (.r (.r (.r (.r (.r (.k (.k (.r (.r (.r (.r (.r (.r (.r (.r (.k (.k .nil)))))))))))))))))) (OLe.refl _)).trans (cmpS_ok (st' := ⟨[], [(0, .dead), (2, .dead), (3, .sl true 1 0 5 1), (5, .dead), (6, .v (.int .i64 x6436)), (7, .v (.int .i64 x6443)), (8, .dead), (9, .dead), (11, .sl false 0 0 n6376 2), (12, .v (.int .i64 ((n6376 : Nat) : Int))), (13, .v (.int .i64 x6421)), (14, .dead), (29, .dead), (30, .sl true 1 0 5 1), (31, .v (.int .i64 5)), (32, .v (.int .i64 (IntKind.i64.wrap (x6454 + 1)))), (33, .dead), (39, .dead)], [(0, .p c6377), (1, .p c6455)], 2, []⟩) (by kernel_rfl))) ⟨n, Nat.lt_succ_self n, _, _, h6470, rfl⟩
              · refine W_sound tab_ok mixed 7 _ _ _ ?_
                simp -implicitDefEqProofs only [go_sem, qa, qb, qc, qd, qe, qf, qg, qh, qi, qj, qk, ↓reduceIte, h6423, g6424, g6425, g6426, h6427, h6430, g6432, g6433, g6434, h6435, h6437, g6439, g6440, g6441, h6442, h6444, h6456]
                repeat with_reducible refine ⟨by first | kernel_rfl | decide, ?_⟩
                obtain rfl := Option.some.inj h6470
                exact cutQ _ ((Wk_le (.r (.r (.r (.r (.k (.k (.r (.r (.r (.r (.r (.r (.r (.k (.k (.k (.k (.r .nil)))))))))))))))))) (OLe.refl _)).trans (cmpS_ok (st' := ⟨[], [(0, .dead), (2, .dead), (3, .sl true 1 0 5 1), (5, .dead), (6, .dead), (7, .dead), (8, .dead), (9, .dead), (11, .sl false 0 0 n6376 2), (12, .v (.int .i64 ((n6376 : Nat) : Int))), (13, .v (.int .i64 x6421)), (14, .dead), (29, .dead), (30, .dead), (31, .dead), (32, .dead), (33, .dead), (39, .dead)], [(0, .p c6377), (1, .p c6455)], 2, []⟩) (by kernel_rfl))) ⟨_, rfl, rfl⟩
          · rintro _ ⟨c6464, rfl, rfl⟩
            refine W_sound tab_ok mixed 5 _ _ _ ?_
            simp -implicitDefEqProofs only [go_sem, qa, qb, qc, qd, qe, qf, qg, qh, qi, qj, qk, ↓reduceIte, h6423, g6424, g6425, g6426, h6427, h6430, g6432, g6433, g6434, h6435, h6437, g6439, g6440, g6441, h6442, h6444]
            repeat with_reducible refine ⟨by first | kernel_rfl | decide, ?_⟩
            exact cutQ _ ((Wk_le (.r (.r (.r (.r (.r (.r (.r (.r (.r (.r (.r (.r (.r (.r (.r (.r (.r (.r .nil)))))))))))))))))) (OLe.refl _)).trans (cmpS_ok (st' := ⟨[], [(0, .dead), (2, .dead), (3, .sl true 1 0 5 1), (5, .dead), (6, .dead), (7, .dead), (8, .dead), (9, .dead), (11, .sl false 0 0 n6376 2), (12, .v (.int .i64 ((n6376 : Nat) : Int))), (13, .v (.int .i64 (IntKind.i64.wrap (x6421 + 1)))), (14, .dead), (29, .dead), (30, .dead), (31, .dead), (32, .dead), (33, .dead), (39, .dead)], [(0, .p c6377), (1, .p c6464)], 2, []⟩) (by kernel_rfl))) ⟨n, Nat.lt_succ_self n, _, _, h6471, rfl⟩
      · refine W_sound tab_ok mixed 7 _ _ _ ?_
        simp -implicitDefEqProofs only [go_sem, qa, qb, qc, qd, qe, qf, qg, qh, qi, qj, qk, ↓reduceIte, h6423]
        repeat with_reducible refine ⟨by first | kernel_rfl | decide, ?_⟩
        obtain rfl := Option.some.inj h6467
        exact cutQ _ ((Wk_le (.r (.r (.k (.r (.r (.r (.r (.r (.k (.k (.k (.k (.r (.r (.r (.r (.r (.r .nil)))))))))))))))))) (OLe.refl _)).trans (cmpS_ok (st' := ⟨[], [(0, .dead), (2, .dead), (3, .dead), (5, .dead), (6, .dead), (7, .dead), (8, .dead), (9, .dead), (11, .dead), (12, .dead), (13, .dead), (14, .dead), (29, .dead), (30, .dead), (31, .dead), (32, .dead), (33, .dead), (39, .dead)], [(0, .p c6377)], 1, []⟩) (by kernel_rfl))) ⟨rfl, rfl⟩
  · rintro _ ⟨rfl, rfl⟩
    (try dsimp only at h6468)
    refine W_sound tab_ok mixed 6 _ _ _ ?_
    simp -implicitDefEqProofs only [go_sem, qa, qb, qc, qd, qe, qf, qg, qh, qi, qj, qk, ↓reduceIte]
    repeat with_reducible refine ⟨by first | kernel_rfl | decide, ?_⟩
    obtain rfl := Option.some.inj h6468
    exact finD (e2 := [(0, .dead), (2, .v (.bool true)), (3, .dead), (5, .dead), (6, .dead), (7, .dead), (8, .dead), (9, .dead), (11, .dead), (12, .dead), (13, .dead), (14, .dead), (29, .dead), (30, .dead), (31, .dead), (32, .dead), (33, .dead), (39, .dead)]) (ob2 := [(0, .p c6377)]) (st' := ⟨[], [(0, .dead), (2, .v (.bool true)), (3, .dead), (5, .dead), (6, .dead), (7, .dead), (8, .dead), (9, .dead), (11, .dead), (12, .dead), (13, .dead), (14, .dead), (29, .dead), (30, .dead), (31, .dead), (32, .dead), (33, .dead), (39, .dead)], [(0, .p c6377)], 1, []⟩) (.r (.r (.r (.r (.r (.r (.r (.r (.r (.r (.r (.r (.r (.r (.r (.r (.r (.r .nil)))))))))))))))))) (.cons _ _ _ _ _ (DLes.refl _) .nil) (by kernel_rfl) (by simp only [go_sem, qa, qb, qc, qd, qe, qf, qg, qh, qi, qj, qk, ↓reduceIte, resQ_tmp, resQ_cell, resQ_nil, retD_one, retD_two, retD_three, retD_none]; try simp [R.val, retD_one, retD_two, retD_three, retD_none])
def m46_L1 (N : Nat) (p6042 : PV) (n6047 : Nat) (c6048 : List PV) (x6267 : Int) (n6277 : Nat) (c6278 : List PV) (n6283 : Nat) (c6284 : List PV) : Nat → Nat → Int → List PV → Option ((Nat × List PV))
  | 0, _, _, _ => none
  | n + 1, n6300, x6301, c6302 =>
    brn (decide (x6301 < ((n6283 : Nat) : Int))) (
      grd (0 ≤ x6301 ∧ x6301 < ((n6283 : Nat) : Int)) <|
      grd (2 ≤ List.length (List.drop ((Int.toNat x6301) * 2) c6284)) <|
      getA2 (.agg (List.take 2 (List.drop ((Int.toNat x6301) * 2) c6284))) fun p6308 p6309 =>
      bnd' (m51_3 N n6300 (.agg [p6308, p6309]) c6302) fun p6310 =>
      getB p6310 fun b6313 =>
      brn b6313 (
        m46_L1 N p6042 n6047 c6048 x6267 n6277 c6278 n6283 c6284 n n6300 (IntKind.i64.wrap (x6301 + 1)) c6302) (
        grd ((n6300 + 1) ≤ 1099511627776) <|
        grd (List.length c6302 = (n6300 * 2)) <|
        m46_L1 N p6042 n6047 c6048 x6267 n6277 c6278 n6283 c6284 n (n6300 + 1) (IntKind.i64.wrap (x6301 + 1)) (c6302 ++ [p6308, p6309]))) (
      some (n6300, c6302))
def m46_L0 (N : Nat) (p6042 : PV) (n6047 : Nat) (c6048 : List PV) : Nat → Nat → Int → PV → List PV → Option ((Nat × List PV))
  | 0, _, _, _, _ => none
  | n + 1, n6266, x6267, p6268, c6269 =>
    brn (decide (x6267 < ((n6047 : Nat) : Int))) (
      grd (0 ≤ x6267 ∧ x6267 < ((n6047 : Nat) : Int)) <|
      grd (0 < List.length (List.drop (Int.toNat x6267) c6048)) <|
      getI .i64 (gp c6048 (Int.toNat x6267)) fun x6275 =>
      getL p6268 fun n6277 c6278 =>
      grd (0 ≤ x6275 ∧ x6275 < ((n6277 : Nat) : Int)) <|
      grd (0 < List.length (List.drop (Int.toNat x6275) c6278)) <|
      getL (gp c6278 (Int.toNat x6275)) fun n6283 c6284 =>
      bnd' (m46_L1 N p6042 n6047 c6048 x6267 n6277 c6278 n6283 c6284 N n6266 0 c6269) fun o =>
      match o with
      | (n6317, c6318) =>
        m46_L0 N p6042 n6047 c6048 n n6317 (IntKind.i64.wrap (x6267 + 1)) (.lst false n6277 c6278) c6318) (
      some (n6266, c6269))
def m46_L3 (N : Nat) (n6319 : Nat) (c6320 : List PV) (x6322 : Int) (x6323 : Int) (n6328 : Nat) (c6329 : List PV) : Nat → Nat → Int → List PV → Option ((Nat × List PV))
  | 0, _, _, _ => none
  | n + 1, n6356, x6357, c6358 =>
    brn (decide (x6357 < ((n6328 : Nat) : Int))) (
      grd (0 ≤ x6357 ∧ x6357 < ((n6328 : Nat) : Int)) <|
      grd (0 < List.length (List.drop (Int.toNat x6357) c6329)) <|
      getI .i64 (gp c6329 (Int.toNat x6357)) fun x6364 =>
      grd (0 ≤ x6364 ∧ x6364 < ((n6319 : Nat) : Int)) <|
      grd ((((Int.toNat x6364) * 2) + 2) ≤ List.length c6320) <|
      getA2 (.agg (List.take 2 (List.drop ((Int.toNat x6364) * 2) c6320))) fun p6369 p6370 =>
      grd ((n6356 + 1) ≤ 1099511627776) <|
      grd (List.length c6358 = (n6356 * 2)) <|
      m46_L3 N n6319 c6320 x6322 x6323 n6328 c6329 n (n6356 + 1) (IntKind.i64.wrap (x6357 + 1)) (c6358 ++ [p6369, p6370])) (
      some (n6356, c6358))
def m46_L2 (N : Nat) (n6319 : Nat) (c6320 : List PV) : Nat → Int → Int → Option (Int)
  | 0, _, _ => none
  | n + 1, x6322, x6323 =>
    brn (decide (x6323 < (IntKind.u64.wrap (1 * 2 ^ (min n6319 64))))) (
      bnd' (m45 N x6323) fun p6325 =>
      getL p6325 fun n6328 c6329 =>
      bnd' (m46_L3 N n6319 c6320 x6322 x6323 n6328 c6329 N 0 0 []) fun o =>
      match o with
      | (n6373, c6374) =>
        brn (decide (((n6373 : Nat) : Int) > x6322)) (
          bnd' (m49_2 N n6373 c6374) fun p6472 =>
          getB p6472 fun b6475 =>
          brn b6475 (
            m46_L2 N n6319 c6320 n ((n6373 : Nat) : Int) (IntKind.u64.wrap (x6323 + 1))) (
            m46_L2 N n6319 c6320 n x6322 (IntKind.u64.wrap (x6323 + 1)))) (
          m46_L2 N n6319 c6320 n x6322 (IntKind.u64.wrap (x6323 + 1)))) (
      some x6322)
def m46 (N : Nat) (p6039 : PV) (x6040 : Int) : Option (PV) :=
  getA2 p6039 fun p6042 p6043 =>
  bnd' (m45 N x6040) fun p6044 =>
  getL p6044 fun n6047 c6048 =>
  bnd' (m46_L0 N p6042 n6047 c6048 N 0 0 p6043 []) fun o =>
  match o with
  | (n6319, c6320) =>
    grd (0 ≤ ((n6319 : Nat) : Int)) <|
    bnd' (m46_L2 N n6319 c6320 N 0 0) fun x6477 =>
    some (.int .i64 x6477)
theorem c46 (N : Nat) (p6039 : PV) (x6040 : Int) (r : PV)  (h : m46 N p6039 x6040 = some r) : FnP Tryd.prog 46 [p6039, (.int .u64 x6040)] r := by
  unfold m46 at h
  refine Fn_of (sz := 75) tab_ok [0, 1, 2, 4, 5, 7, 9, 10, 11, 12, 14, 16, 17, 18, 19, 26, 27, 28, 29, 35, 44, 45, 46, 49, 50, 51, 52, 70] [.tmp 4] Tryd.func46 rfl rfl rfl (by simp) ?_
  simp only [initSt, initEnv, List.map_cons, List.map_nil, List.getD_cons_zero, List.getD_cons_succ, List.getD_nil]
  have hh := getA2_some h; clear h; obtain ⟨p6042, p6043, h6041, h⟩ := hh
  have hh := bnd'_some h; clear h; obtain ⟨p6044, h6045, h⟩ := hh
  refine W_sound tab_ok mixed 13 _ _ _ ?_
  simp -implicitDefEqProofs only [go_sem, qa, qb, qc, qd, qe, qf, qg, qh, qi, qj, qk, ↓reduceIte, h6041]
  repeat with_reducible refine ⟨by first | kernel_rfl | decide, ?_⟩
  refine Wp_callP (c45 N _ _ h6045) (by kernel_rfl) rfl rfl rfl rfl (by decide) ?_
  have hh := getL_some h; clear h; obtain ⟨n6047, c6048, h6046, h⟩ := hh
  refine W_sound tab_ok mixed 3 _ _ _ ?_
  simp -implicitDefEqProofs only [go_sem, qa, qb, qc, qd, qe, qf, qg, qh, qi, qj, qk, ↓reduceIte, h6041, h6046]
  repeat with_reducible refine ⟨by first | kernel_rfl | decide, ?_⟩
  refine Wp_weaken (Wk_ownS 5 2 rfl (by decide) (by decide)) ?_
  simp -implicitDefEqProofs only [go_sem, qa, qb, qc, qd, qe, qf, qg, qh, qi, qj, qk, ↓reduceIte, h6041, h6046]
  have hh := bnd'_some h; clear h; obtain ⟨o6478, h6479, h6480⟩ := hh
  refine Wp_cut (fun s => ∃ n6319, ∃ c6320, (n6319, c6320) = o6478 ∧ s = ⟨[], [(0, .dead), (1, .dead), (2, .dead), (4, .dead), (5, .sl false 0 0 n6319 2), (7, .dead), (9, .dead), (10, .dead), (11, .dead), (12, .dead), (14, .dead), (16, .dead), (17, .dead), (18, .dead), (19, .dead), (26, .dead), (27, .dead), (28, .dead), (29, .dead), (35, .dead), (44, .dead), (45, .dead), (46, .dead), (49, .dead), (50, .dead), (51, .dead), (52, .dead), (70, .dead)], [(0, .p c6320)], 1, []⟩) ?_ ?_
  · refine Wp_block ?_
    refine Wp_loopG (fun n s => ∃ n6266, ∃ x6267, ∃ p6268, ∃ c6269, m46_L0 N p6042 n6047 c6048 n n6266 x6267 p6268 c6269 = some o6478 ∧ s = ⟨[], [(0, .dead), (1, .dead), (2, .ptr 0 0), (4, .dead), (5, .sl false 1 0 n6266 2), (7, .dead), (9, .dead), (10, .dead), (11, .dead), (12, .dead), (14, .dead), (16, .v (.lst false n6047 c6048)), (17, .v (.int .i64 ((n6047 : Nat) : Int))), (18, .v (.int .i64 x6267)), (19, .dead), (26, .dead), (27, .dead), (28, .dead), (29, .dead), (35, .dead), (44, .dead), (45, .dead), (46, .dead), (49, .dead), (50, .dead), (51, .dead), (52, .dead), (70, .dead)], [(0, .p [p6042, p6268]), (1, .p c6269)], 2, []⟩) N _ ((Wk_le (.k (.k (.r (.k (.r (.r (.r (.r (.r (.r (.r (.r (.r (.r (.r (.r (.r (.r (.r (.r (.r (.r (.r (.r (.r (.r (.r (.r .nil)))))))))))))))))))))))))))) (OLe.refl _)).trans (cmpS_ok (st' := ⟨[], [(0, .dead), (1, .dead), (2, .ptr 0 0), (4, .dead), (5, .sl false 1 0 0 2), (7, .dead), (9, .dead), (10, .dead), (11, .dead), (12, .dead), (14, .dead), (16, .v (.lst false n6047 c6048)), (17, .v (.int .i64 ((n6047 : Nat) : Int))), (18, .v (.int .i64 0)), (19, .dead), (26, .dead), (27, .dead), (28, .dead), (29, .dead), (35, .dead), (44, .dead), (45, .dead), (46, .dead), (49, .dead), (50, .dead), (51, .dead), (52, .dead), (70, .dead)], [(0, .p [p6042, p6043]), (1, .p [])], 2, []⟩) (by kernel_rfl))) ⟨_, _, _, _, h6479, rfl⟩ ?_
    clear h6479
    rintro n _ ⟨n6266, x6267, p6268, c6269, h6479, rfl⟩
    cases n with
    | zero => cases h6479
    | succ n =>
      rw [m46_L0] at h6479
      have hh := brn_some h6479; clear h6479; rcases hh with ⟨h6270, h6479⟩ | ⟨h6270, h6479⟩
      · have hh := grd_some h6479; clear h6479; obtain ⟨⟨g6271, g6272⟩, h6479⟩ := hh
        have hh := grd_some h6479; clear h6479; obtain ⟨g6273, h6479⟩ := hh
        have hh := getI_some h6479; clear h6479; obtain ⟨x6275, h6274, h6479⟩ := hh
        have hh := getL_some h6479; clear h6479; obtain ⟨n6277, c6278, h6276, h6479⟩ := hh
        have hh := grd_some h6479; clear h6479; obtain ⟨⟨g6279, g6280⟩, h6479⟩ := hh
        have hh := grd_some h6479; clear h6479; obtain ⟨g6281, h6479⟩ := hh
        have hh := getL_some h6479; clear h6479; obtain ⟨n6283, c6284, h6282, h6479⟩ := hh
        refine W_sound tab_ok mixed 25 _ _ _ ?_
        simp -implicitDefEqProofs only [go_sem, qa, qb, qc, qd, qe, qf, qg, qh, qi, qj, qk, ↓reduceIte, h6041, h6046, h6270, g6271, g6272, g6273, h6274, h6276, g6279, g6280, g6281, h6282]
        repeat with_reducible refine ⟨by first | kernel_rfl | decide, ?_⟩
        have hh := bnd'_some h6479; clear h6479; obtain ⟨o6481, h6482, h6483⟩ := hh
        refine Wp_cut (fun s => ∃ n6317, ∃ c6318, (n6317, c6318) = o6481 ∧ s = ⟨[], [(0, .dead), (1, .dead), (2, .ptr 0 0), (4, .dead), (5, .sl false 1 0 n6317 2), (7, .dead), (9, .dead), (10, .dead), (11, .dead), (12, .dead), (14, .dead), (16, .v (.lst false n6047 c6048)), (17, .v (.int .i64 ((n6047 : Nat) : Int))), (18, .v (.int .i64 x6267)), (19, .dead), (26, .dead), (27, .dead), (28, .dead), (29, .dead), (35, .dead), (44, .dead), (45, .dead), (46, .dead), (49, .dead), (50, .dead), (51, .dead), (52, .dead), (70, .dead)], [(0, .p [p6042, (.lst false n6277 c6278)]), (1, .p c6318)], 2, []⟩) ?_ ?_
        · refine Wp_block ?_
          refine Wp_loopG (fun n s => ∃ n6300, ∃ x6301, ∃ c6302, m46_L1 N p6042 n6047 c6048 x6267 n6277 c6278 n6283 c6284 n n6300 x6301 c6302 = some o6481 ∧ s = ⟨[], [(0, .dead), (1, .dead), (2, .ptr 0 0), (4, .dead), (5, .sl false 1 0 n6300 2), (7, .dead), (9, .dead), (10, .dead), (11, .dead), (12, .dead), (14, .dead), (16, .v (.lst false n6047 c6048)), (17, .v (.int .i64 ((n6047 : Nat) : Int))), (18, .v (.int .i64 x6267)), (19, .dead), (26, .v (.lst false n6283 c6284)), (27, .v (.int .i64 ((n6283 : Nat) : Int))), (28, .v (.int .i64 x6301)), (29, .dead), (35, .dead), (44, .dead), (45, .dead), (46, .dead), (49, .dead), (50, .dead), (51, .dead), (52, .dead), (70, .dead)], [(0, .p [p6042, (.lst false n6277 c6278)]), (1, .p c6302)], 2, []⟩) N _ ((Wk_le (.r (.r (.r (.r (.r (.k (.r (.r (.r (.r (.r (.r (.r (.r (.k (.r (.r (.r (.r (.r (.r (.r (.r (.r (.r (.r (.r (.r .nil)))))))))))))))))))))))))))) (OLe.refl _)).trans (cmpS_ok (st' := ⟨[], [(0, .dead), (1, .dead), (2, .ptr 0 0), (4, .dead), (5, .sl false 1 0 n6266 2), (7, .dead), (9, .dead), (10, .dead), (11, .dead), (12, .dead), (14, .dead), (16, .v (.lst false n6047 c6048)), (17, .v (.int .i64 ((n6047 : Nat) : Int))), (18, .v (.int .i64 x6267)), (19, .dead), (26, .v (.lst false n6283 c6284)), (27, .v (.int .i64 ((n6283 : Nat) : Int))), (28, .v (.int .i64 0)), (29, .dead), (35, .dead), (44, .dead), (45, .dead), (46, .dead), (49, .dead), (50, .dead), (51, .dead), (52, .dead), (70, .dead)], [(0, .p [p6042, (.lst false n6277 c6278)]), (1, .p c6269)], 2, []⟩) (by kernel_rfl))) ⟨_, _, _, h6482, rfl⟩ ?_
          clear h6482
          rintro n _ ⟨n6300, x6301, c6302, h6482, rfl⟩
          cases n with
          | zero => cases h6482
          | succ n =>
            rw [m46_L1] at h6482
            have hh := brn_some h6482; clear h6482; rcases hh with ⟨h6303, h6482⟩ | ⟨h6303, h6482⟩
            · have hh := grd_some h6482; clear h6482; obtain ⟨⟨g6304, g6305⟩, h6482⟩ := hh
              have hh := grd_some h6482; clear h6482; obtain ⟨g6306, h6482⟩ := hh
              have hh := getA2_some h6482; clear h6482; obtain ⟨p6308, p6309, h6307, h6482⟩ := hh
              injection h6307 with h6307
              have hh := bnd'_some h6482; clear h6482; obtain ⟨p6310, h6311, h6482⟩ := hh
              (try dsimp only at h6482)
              refine W_sound tab_ok mixed 20 _ _ _ ?_
              simp -implicitDefEqProofs only [go_sem, qa, qb, qc, qd, qe, qf, qg, qh, qi, qj, qk, ↓reduceIte, h6041, h6046, h6270, g6271, g6272, g6273, h6274, h6276, g6279, g6280, g6281, h6282, h6303, g6304, g6305, g6306, h6307]
              repeat with_reducible refine ⟨by first | kernel_rfl | decide, ?_⟩
              refine Wp_callD [1] (c51_3 N _ _ _ _ h6311) rfl rfl rfl (by first | rfl | (simp only [go_sem, qa, qb, qc, qd, qe, qf, qg, qh, qi, qj, qk, ↓reduceIte, h6041, h6046, h6270, g6271, g6272, g6273, h6274, h6276, g6279, g6280, g6281, h6282, h6303, g6304, g6305, g6306, h6307] <;> rfl)) rfl (by kernel_rfl) ?_
              have hh := getB_some h6482; clear h6482; obtain ⟨b6313, h6312, h6482⟩ := hh
              have hh := brn_some h6482; clear h6482; rcases hh with ⟨h6314, h6482⟩ | ⟨h6314, h6482⟩
              · refine W_sound tab_ok mixed 9 _ _ _ ?_
                simp -implicitDefEqProofs only [go_sem, qa, qb, qc, qd, qe, qf, qg, qh, qi, qj, qk, ↓reduceIte, h6041, h6046, h6270, g6271, g6272, g6273, h6274, h6276, g6279, g6280, g6281, h6282, h6303, g6304, g6305, g6306, h6307, h6312, h6314]
                repeat with_reducible refine ⟨by first | kernel_rfl | decide, ?_⟩
                exact cutQ _ ((Wk_le (.r (.r (.r (.r (.r (.r (.k (.r (.r (.r (.r (.r (.r (.r (.r (.r (.r (.r (.k (.k (.r (.r (.r (.r (.r (.r (.r (.r .nil)))))))))))))))))))))))))))) (OLe.refl _)).trans (cmpS_ok (st' := ⟨[], [(0, .dead), (1, .dead), (2, .ptr 0 0), (4, .dead), (5, .sl false 1 0 n6300 2), (7, .dead), (9, .dead), (10, .dead), (11, .dead), (12, .dead), (14, .dead), (16, .v (.lst false n6047 c6048)), (17, .v (.int .i64 ((n6047 : Nat) : Int))), (18, .v (.int .i64 x6267)), (19, .dead), (26, .v (.lst false n6283 c6284)), (27, .v (.int .i64 ((n6283 : Nat) : Int))), (28, .v (.int .i64 (IntKind.i64.wrap (x6301 + 1)))), (29, .dead), (35, .dead), (44, .dead), (45, .dead), (46, .dead), (49, .dead), (50, .dead), (51, .dead), (52, .dead), (70, .dead)], [(0, .p [p6042, (.lst false n6277 c6278)]), (1, .p c6302)], 2, []⟩) (by kernel_rfl))) ⟨n, Nat.lt_succ_self n, _, _, _, h6482, rfl⟩
              · have hh := grd_some h6482; clear h6482; obtain ⟨g6315, h6482⟩ := hh
                have hh := grd_some h6482; clear h6482; obtain ⟨g6316, h6482⟩ := hh
                refine W_sound tab_ok mixed 15 _ _ _ ?_
                simp -implicitDefEqProofs only [go_sem, qa, qb, qc, qd, qe, qf, qg, qh, qi, qj, qk, ↓reduceIte, h6041, h6046, h6270, g6271, g6272, g6273, h6274, h6276, g6279, g6280, g6281, h6282, h6303, g6304, g6305, g6306, h6307, h6312, h6314, g6315, g6316]
                repeat with_reducible refine ⟨by first | kernel_rfl | decide, ?_⟩
                exact cutQ _ ((Wk_le (.r (.r (.r (.r (.r (.r (.k (.r (.r (.r (.r (.r (.r (.r (.r (.r (.r (.r (.k (.k (.r (.r (.r (.r (.r (.r (.r (.r .nil)))))))))))))))))))))))))))) (OLe.refl _)).trans (cmpS_ok (st' := ⟨[], [(0, .dead), (1, .dead), (2, .ptr 0 0), (4, .dead), (5, .sl false 1 0 (n6300 + 1) 2), (7, .dead), (9, .dead), (10, .dead), (11, .dead), (12, .dead), (14, .dead), (16, .v (.lst false n6047 c6048)), (17, .v (.int .i64 ((n6047 : Nat) : Int))), (18, .v (.int .i64 x6267)), (19, .dead), (26, .v (.lst false n6283 c6284)), (27, .v (.int .i64 ((n6283 : Nat) : Int))), (28, .v (.int .i64 (IntKind.i64.wrap (x6301 + 1)))), (29, .dead), (35, .dead), (44, .dead), (45, .dead), (46, .dead), (49, .dead), (50, .dead), (51, .dead), (52, .dead), (70, .dead)], [(0, .p [p6042, (.lst false n6277 c6278)]), (1, .p (c6302 ++ [p6308, p6309]))], 2, []⟩) (by kernel_rfl))) ⟨n, Nat.lt_succ_self n, _, _, _, h6482, rfl⟩
            · refine W_sound tab_ok mixed 7 _ _ _ ?_
              simp -implicitDefEqProofs only [go_sem, qa, qb, qc, qd, qe, qf, qg, qh, qi, qj, qk, ↓reduceIte, h6041, h6046, h6270, g6271, g6272, g6273, h6274, h6276, g6279, g6280, g6281, h6282, h6303]
              repeat with_reducible refine ⟨by first | kernel_rfl | decide, ?_⟩
              obtain rfl := Option.some.inj h6482
              exact cutQ _ ((Wk_le (.r (.r (.r (.r (.r (.r (.r (.r (.r (.r (.r (.r (.r (.r (.r (.k (.k (.k (.k (.r (.r (.r (.r (.r (.r (.r (.r (.r .nil)))))))))))))))))))))))))))) (OLe.refl _)).trans (cmpS_ok (st' := ⟨[], [(0, .dead), (1, .dead), (2, .ptr 0 0), (4, .dead), (5, .sl false 1 0 n6300 2), (7, .dead), (9, .dead), (10, .dead), (11, .dead), (12, .dead), (14, .dead), (16, .v (.lst false n6047 c6048)), (17, .v (.int .i64 ((n6047 : Nat) : Int))), (18, .v (.int .i64 x6267)), (19, .dead), (26, .dead), (27, .dead), (28, .dead), (29, .dead), (35, .dead), (44, .dead), (45, .dead), (46, .dead), (49, .dead), (50, .dead), (51, .dead), (52, .dead), (70, .dead)], [(0, .p [p6042, (.lst false n6277 c6278)]), (1, .p c6302)], 2, []⟩) (by kernel_rfl))) ⟨_, _, rfl, rfl⟩
        · rintro _ ⟨n6317, c6318, rfl, rfl⟩
          (try dsimp only at h6483)
          refine W_sound tab_ok mixed 5 _ _ _ ?_
          simp -implicitDefEqProofs only [go_sem, qa, qb, qc, qd, qe, qf, qg, qh, qi, qj, qk, ↓reduceIte, h6041, h6046, h6270, g6271, g6272, g6273, h6274, h6276, g6279, g6280, g6281, h6282]
          repeat with_reducible refine ⟨by first | kernel_rfl | decide, ?_⟩
          exact cutQ _ ((Wk_le (.r (.r (.r (.r (.r (.r (.r (.r (.r (.r (.r (.r (.r (.r (.r (.r (.r (.r (.r (.r (.r (.r (.r (.r (.r (.r (.r (.r .nil)))))))))))))))))))))))))))) (OLe.refl _)).trans (cmpS_ok (st' := ⟨[], [(0, .dead), (1, .dead), (2, .ptr 0 0), (4, .dead), (5, .sl false 1 0 n6317 2), (7, .dead), (9, .dead), (10, .dead), (11, .dead), (12, .dead), (14, .dead), (16, .v (.lst false n6047 c6048)), (17, .v (.int .i64 ((n6047 : Nat) : Int))), (18, .v (.int .i64 (IntKind.i64.wrap (x6267 + 1)))), (19, .dead), (26, .dead), (27, .dead), (28, .dead), (29, .dead), (35, .dead), (44, .dead), (45, .dead), (46, .dead), (49, .dead), (50, .dead), (51, .dead), (52, .dead), (70, .dead)], [(0, .p [p6042, (.lst false n6277 c6278)]), (1, .p c6318)], 2, []⟩) (by kernel_rfl))) ⟨n, Nat.lt_succ_self n, _, _, _, _, h6483, rfl⟩
      · refine W_sound tab_ok mixed 7 _ _ _ ?_
        simp -implicitDefEqProofs only [go_sem, qa, qb, qc, qd, qe, qf, qg, qh, qi, qj, qk, ↓reduceIte, h6041, h6046, h6270]
        repeat with_reducible refine ⟨by first | kernel_rfl | decide, ?_⟩
        obtain rfl := Option.some.inj h6479
        exact cutQ _ ((Wk_le (.r (.r (.k (.r (.r (.r (.r (.r (.r (.r (.r (.k (.k (.k (.k (.r (.r (.r (.r (.r (.r (.r (.r (.r (.r (.r (.r (.r .nil)))))))))))))))))))))))))))) (OLe.refl _)).trans (cmpS_ok (st' := ⟨[], [(0, .dead), (1, .dead), (2, .dead), (4, .dead), (5, .sl false 0 0 n6266 2), (7, .dead), (9, .dead), (10, .dead), (11, .dead), (12, .dead), (14, .dead), (16, .dead), (17, .dead), (18, .dead), (19, .dead), (26, .dead), (27, .dead), (28, .dead), (29, .dead), (35, .dead), (44, .dead), (45, .dead), (46, .dead), (49, .dead), (50, .dead), (51, .dead), (52, .dead), (70, .dead)], [(0, .p c6269)], 1, []⟩) (by kernel_rfl))) ⟨_, _, rfl, rfl⟩
  · rintro _ ⟨n6319, c6320, rfl, rfl⟩
    (try dsimp only at h6480)
    have hh := grd_some h6480; clear h6480; obtain ⟨g6321, h6480⟩ := hh
    refine W_sound tab_ok mixed 12 _ _ _ ?_
    simp -implicitDefEqProofs only [go_sem, qa, qb, qc, qd, qe, qf, qg, qh, qi, qj, qk, ↓reduceIte, h6041, h6046, g6321]
    repeat with_reducible refine ⟨by first | kernel_rfl | decide, ?_⟩
    have hh := bnd'_some h6480; clear h6480; obtain ⟨o6484, h6485, h6486⟩ := hh
    refine Wp_cut (fun s => ∃ x6477, x6477 = o6484 ∧ s = ⟨[], [(0, .dead), (1, .dead), (2, .dead), (4, .dead), (5, .dead), (7, .dead), (9, .dead), (10, .v (.int .i64 x6477)), (11, .dead), (12, .dead), (14, .dead), (16, .dead), (17, .dead), (18, .dead), (19, .dead), (26, .dead), (27, .dead), (28, .dead), (29, .dead), (35, .dead), (44, .dead), (45, .dead), (46, .dead), (49, .dead), (50, .dead), (51, .dead), (52, .dead), (70, .dead)], [], 0, []⟩) ?_ ?_
    · refine Wp_block ?_
      refine Wp_loopG (fun n s => ∃ x6322, ∃ x6323, m46_L2 N n6319 c6320 n x6322 x6323 = some o6484 ∧ s = ⟨[], [(0, .dead), (1, .dead), (2, .dead), (4, .dead), (5, .sl false 0 0 n6319 2), (7, .dead), (9, .dead), (10, .v (.int .i64 x6322)), (11, .dead), (12, .dead), (14, .dead), (16, .dead), (17, .dead), (18, .dead), (19, .dead), (26, .dead), (27, .dead), (28, .dead), (29, .dead), (35, .dead), (44, .v (.int .u64 (IntKind.u64.wrap (1 * 2 ^ (min n6319 64))))), (45, .v (.int .u64 x6323)), (46, .dead), (49, .dead), (50, .dead), (51, .dead), (52, .dead), (70, .dead)], [(0, .p c6320)], 1, []⟩) N _ ((Wk_le (.r (.r (.r (.r (.r (.r (.r (.r (.r (.r (.r (.r (.r (.r (.r (.r (.r (.r (.r (.r (.r (.r (.r (.r (.r (.r (.r (.r .nil)))))))))))))))))))))))))))) (OLe.refl _)).trans (cmpS_ok (st' := ⟨[], [(0, .dead), (1, .dead), (2, .dead), (4, .dead), (5, .sl false 0 0 n6319 2), (7, .dead), (9, .dead), (10, .v (.int .i64 0)), (11, .dead), (12, .dead), (14, .dead), (16, .dead), (17, .dead), (18, .dead), (19, .dead), (26, .dead), (27, .dead), (28, .dead), (29, .dead), (35, .dead), (44, .v (.int .u64 (IntKind.u64.wrap (1 * 2 ^ (min n6319 64))))), (45, .v (.int .u64 0)), (46, .dead), (49, .dead), (50, .dead), (51, .dead), (52, .dead), (70, .dead)], [(0, .p c6320)], 1, []⟩) (by kernel_rfl))) ⟨_, _, h6485, rfl⟩ ?_
      clear h6485
      rintro n _ ⟨x6322, x6323, h6485, rfl⟩
      cases n with
      | zero => cases h6485
      | succ n =>
        rw [m46_L2] at h6485
        have hh := brn_some h6485; clear h6485; rcases hh with ⟨h6324, h6485⟩ | ⟨h6324, h6485⟩
        · have hh := bnd'_some h6485; clear h6485; obtain ⟨p6325, h6326, h6485⟩ := hh
          refine W_sound tab_ok mixed 22 _ _ _ ?_
          simp -implicitDefEqProofs only [go_sem, qa, qb, qc, qd, qe, qf, qg, qh, qi, qj, qk, ↓reduceIte, h6041, h6046, g6321, h6324]
          repeat with_reducible refine ⟨by first | kernel_rfl | decide, ?_⟩
          refine Wp_callP (c45 N _ _ h6326) (by kernel_rfl) rfl rfl rfl rfl (by decide) ?_
          have hh := getL_some h6485; clear h6485; obtain ⟨n6328, c6329, h6327, h6485⟩ := hh
          refine W_sound tab_ok mixed 3 _ _ _ ?_
          simp -implicitDefEqProofs only [go_sem, qa, qb, qc, qd, qe, qf, qg, qh, qi, qj, qk, ↓reduceIte, h6041, h6046, g6321, h6324, h6327]
          repeat with_reducible refine ⟨by first | kernel_rfl | decide, ?_⟩
          refine Wp_weaken (Wk_ownS 12 2 rfl (by decide) (by decide)) ?_
          simp -implicitDefEqProofs only [go_sem, qa, qb, qc, qd, qe, qf, qg, qh, qi, qj, qk, ↓reduceIte, h6041, h6046, g6321, h6324, h6327]
          have hh := bnd'_some h6485; clear h6485; obtain ⟨o6487, h6488, h6489⟩ := hh
          refine Wp_cut (fun s => ∃ n6373, ∃ c6374, (n6373, c6374) = o6487 ∧ s = ⟨[], [(0, .dead), (1, .dead), (2, .dead), (4, .dead), (5, .sl false 0 0 n6319 2), (7, .dead), (9, .dead), (10, .v (.int .i64 x6322)), (11, .dead), (12, .sl false 1 0 n6373 2), (14, .dead), (16, .dead), (17, .dead), (18, .dead), (19, .dead), (26, .dead), (27, .dead), (28, .dead), (29, .dead), (35, .dead), (44, .v (.int .u64 (IntKind.u64.wrap (1 * 2 ^ (min n6319 64))))), (45, .v (.int .u64 x6323)), (46, .dead), (49, .dead), (50, .dead), (51, .dead), (52, .dead), (70, .dead)], [(0, .p c6320), (1, .p c6374)], 2, []⟩) ?_ ?_
          · refine Wp_block ?_
            refine Wp_loopG (fun n s => ∃ n6356, ∃ x6357, ∃ c6358, m46_L3 N n6319 c6320 x6322 x6323 n6328 c6329 n n6356 x6357 c6358 = some o6487 ∧ s = ⟨[], [(0, .dead), (1, .dead), (2, .dead), (4, .dead), (5, .sl false 0 0 n6319 2), (7, .dead), (9, .dead), (10, .v (.int .i64 x6322)), (11, .dead), (12, .sl false 1 0 n6356 2), (14, .dead), (16, .dead), (17, .dead), (18, .dead), (19, .dead), (26, .dead), (27, .dead), (28, .dead), (29, .dead), (35, .dead), (44, .v (.int .u64 (IntKind.u64.wrap (1 * 2 ^ (min n6319 64))))), (45, .v (.int .u64 x6323)), (46, .dead), (49, .v (.lst false n6328 c6329)), (50, .v (.int .i64 ((n6328 : Nat) : Int))), (51, .v (.int .i64 x6357)), (52, .dead), (70, .dead)], [(0, .p c6320), (1, .p c6358)], 2, []⟩) N _ ((Wk_le (.r (.r (.r (.r (.r (.r (.r (.r (.k (.r (.r (.r (.r (.r (.r (.r (.r (.r (.r (.r (.r (.r (.k (.r (.r (.r (.r (.r .nil)))))))))))))))))))))))))))) (OLe.refl _)).trans (cmpS_ok (st' := ⟨[], [(0, .dead), (1, .dead), (2, .dead), (4, .dead), (5, .sl false 0 0 n6319 2), (7, .dead), (9, .dead), (10, .v (.int .i64 x6322)), (11, .dead), (12, .sl false 1 0 0 2), (14, .dead), (16, .dead), (17, .dead), (18, .dead), (19, .dead), (26, .dead), (27, .dead), (28, .dead), (29, .dead), (35, .dead), (44, .v (.int .u64 (IntKind.u64.wrap (1 * 2 ^ (min n6319 64))))), (45, .v (.int .u64 x6323)), (46, .dead), (49, .v (.lst false n6328 c6329)), (50, .v (.int .i64 ((n6328 : Nat) : Int))), (51, .v (.int .i64 0)), (52, .dead), (70, .dead)], [(0, .p c6320), (1, .p [])], 2, []⟩) (by kernel_rfl))) ⟨_, _, _, h6488, rfl⟩ ?_
            clear h6488
            rintro n _ ⟨n6356, x6357, c6358, h6488, rfl⟩
            cases n with
            | zero => cases h6488
            | succ n =>
              rw [m46_L3] at h6488
              have hh := brn_some h6488; clear h6488; rcases hh with ⟨h6359, h6488⟩ | ⟨h6359, h6488⟩
              · have hh := grd_some h6488; clear h6488; obtain ⟨⟨g6360, g6361⟩, h6488⟩ := hh
                have hh := grd_some h6488; clear h6488; obtain ⟨g6362, h6488⟩ := hh
                have hh := getI_some h6488; clear h6488; obtain ⟨x6364, h6363, h6488⟩ := hh
                have hh := grd_some h6488; clear h6488; obtain ⟨⟨g6365, g6366⟩, h6488⟩ := hh
                have hh := grd_some h6488; clear h6488; obtain ⟨g6367, h6488⟩ := hh
                have hh := getA2_some h6488; clear h6488; obtain ⟨p6369, p6370, h6368, h6488⟩ := hh
                injection h6368 with h6368
                have hh := grd_some h6488; clear h6488; obtain ⟨g6371, h6488⟩ := hh
                have hh := grd_some h6488; clear h6488; obtain ⟨g6372, h6488⟩ := hh
                refine W_sound tab_ok mixed 30 _ _ _ ?_
                simp -implicitDefEqProofs only [go_sem, qa, qb, qc, qd, qe, qf, qg, qh, qi, qj, qk, ↓reduceIte, h6041, h6046, g6321, h6324, h6327, h6359, g6360, g6361, g6362, h6363, g6365, g6366, g6367, h6368, g6371, g6372]
                repeat with_reducible refine ⟨by first | kernel_rfl | decide, ?_⟩
                exact cutQ _ ((Wk_le (.r (.r (.r (.r (.r (.r (.r (.r (.r (.r (.k (.r (.r (.r (.r (.r (.r (.r (.r (.r (.r (.r (.r (.r (.r (.r (.k (.r .nil)))))))))))))))))))))))))))) (OLe.refl _)).trans (cmpS_ok (st' := ⟨[], [(0, .dead), (1, .dead), (2, .dead), (4, .dead), (5, .sl false 0 0 n6319 2), (7, .dead), (9, .dead), (10, .v (.int .i64 x6322)), (11, .dead), (12, .sl false 1 0 (n6356 + 1) 2), (14, .dead), (16, .dead), (17, .dead), (18, .dead), (19, .dead), (26, .dead), (27, .dead), (28, .dead), (29, .dead), (35, .dead), (44, .v (.int .u64 (IntKind.u64.wrap (1 * 2 ^ (min n6319 64))))), (45, .v (.int .u64 x6323)), (46, .dead), (49, .v (.lst false n6328 c6329)), (50, .v (.int .i64 ((n6328 : Nat) : Int))), (51, .v (.int .i64 (IntKind.i64.wrap (x6357 + 1)))), (52, .dead), (70, .dead)], [(0, .p c6320), (1, .p (c6358 ++ [p6369, p6370]))], 2, []⟩) (by kernel_rfl))) ⟨n, Nat.lt_succ_self n, _, _, _, h6488, rfl⟩
              · refine W_sound tab_ok mixed 7 _ _ _ ?_
                simp -implicitDefEqProofs only [go_sem, qa, qb, qc, qd, qe, qf, qg, qh, qi, qj, qk, ↓reduceIte, h6041, h6046, g6321, h6324, h6327, h6359]
                repeat with_reducible refine ⟨by first | kernel_rfl | decide, ?_⟩
                obtain rfl := Option.some.inj h6488
                exact cutQ _ ((Wk_le (.r (.r (.r (.r (.r (.r (.r (.r (.r (.r (.r (.r (.r (.r (.r (.r (.r (.r (.r (.r (.r (.r (.r (.k (.k (.k (.k (.r .nil)))))))))))))))))))))))))))) (OLe.refl _)).trans (cmpS_ok (st' := ⟨[], [(0, .dead), (1, .dead), (2, .dead), (4, .dead), (5, .sl false 0 0 n6319 2), (7, .dead), (9, .dead), (10, .v (.int .i64 x6322)), (11, .dead), (12, .sl false 1 0 n6356 2), (14, .dead), (16, .dead), (17, .dead), (18, .dead), (19, .dead), (26, .dead), (27, .dead), (28, .dead), (29, .dead), (35, .dead), (44, .v (.int .u64 (IntKind.u64.wrap (1 * 2 ^ (min n6319 64))))), (45, .v (.int .u64 x6323)), (46, .dead), (49, .dead), (50, .dead), (51, .dead), (52, .dead), (70, .dead)], [(0, .p c6320), (1, .p c6358)], 2, []⟩) (by kernel_rfl))) ⟨_, _, rfl, rfl⟩
          · rintro _ ⟨n6373, c6374, rfl, rfl⟩
            (try dsimp only at h6489)
            have hh := brn_some h6489; clear h6489; rcases hh with ⟨h6375, h6489⟩ | ⟨h6375, h6489⟩
            · have hh := bnd'_some h6489; clear h6489; obtain ⟨p6472, h6473, h6489⟩ := hh
              (try dsimp only at h6489)
              refine W_sound tab_ok mixed 8 _ _ _ ?_
              simp -implicitDefEqProofs only [go_sem, qa, qb, qc, qd, qe, qf, qg, qh, qi, qj, qk, ↓reduceIte, h6041, h6046, g6321, h6324, h6327, h6375]
              repeat with_reducible refine ⟨by first | kernel_rfl | decide, ?_⟩
              refine Wp_callD [1] (c49_2 N _ _ _ h6473) rfl rfl rfl (by first | rfl | (simp only [go_sem, qa, qb, qc, qd, qe, qf, qg, qh, qi, qj, qk, ↓reduceIte, h6041, h6046, g6321, h6324, h6327, h6375] <;> rfl)) rfl (by kernel_rfl) ?_
              have hh := getB_some h6489; clear h6489; obtain ⟨b6475, h6474, h6489⟩ := hh
              have hh := brn_some h6489; clear h6489; rcases hh with ⟨h6476, h6489⟩ | ⟨h6476, h6489⟩
              · refine W_sound tab_ok mixed 13 _ _ _ ?_
                simp -implicitDefEqProofs only [go_sem, qa, qb, qc, qd, qe, qf, qg, qh, qi, qj, qk, ↓reduceIte, h6041, h6046, g6321, h6324, h6327, h6375, h6474, h6476]
                repeat with_reducible refine ⟨by first | kernel_rfl | decide, ?_⟩
                exact cutQ _ ((Wk_le (.r (.r (.r (.r (.r (.r (.r (.r (.r (.k (.r (.r (.r (.r (.r (.r (.r (.r (.r (.r (.r (.r (.r (.r (.r (.r (.r (.k .nil)))))))))))))))))))))))))))) (OLe.refl _)).trans (cmpS_ok (st' := ⟨[], [(0, .dead), (1, .dead), (2, .dead), (4, .dead), (5, .sl false 0 0 n6319 2), (7, .dead), (9, .dead), (10, .v (.int .i64 ((n6373 : Nat) : Int))), (11, .dead), (12, .dead), (14, .dead), (16, .dead), (17, .dead), (18, .dead), (19, .dead), (26, .dead), (27, .dead), (28, .dead), (29, .dead), (35, .dead), (44, .v (.int .u64 (IntKind.u64.wrap (1 * 2 ^ (min n6319 64))))), (45, .v (.int .u64 (IntKind.u64.wrap (x6323 + 1)))), (46, .dead), (49, .dead), (50, .dead), (51, .dead), (52, .dead), (70, .dead)], [(0, .p c6320)], 1, []⟩) (by kernel_rfl))) ⟨n, Nat.lt_succ_self n, _, _, h6489, rfl⟩
              · refine W_sound tab_ok mixed 9 _ _ _ ?_
                simp -implicitDefEqProofs only [go_sem, qa, qb, qc, qd, qe, qf, qg, qh, qi, qj, qk, ↓reduceIte, h6041, h6046, g6321, h6324, h6327, h6375, h6474, h6476]
                repeat with_reducible refine ⟨by first | kernel_rfl | decide, ?_⟩
                exact cutQ _ ((Wk_le (.r (.r (.r (.r (.r (.r (.r (.r (.r (.k (.r (.r (.r (.r (.r (.r (.r (.r (.r (.r (.r (.r (.r (.r (.r (.r (.r (.k .nil)))))))))))))))))))))))))))) (OLe.refl _)).trans (cmpS_ok (st' := ⟨[], [(0, .dead), (1, .dead), (2, .dead), (4, .dead), (5, .sl false 0 0 n6319 2), (7, .dead), (9, .dead), (10, .v (.int .i64 x6322)), (11, .dead), (12, .dead), (14, .dead), (16, .dead), (17, .dead), (18, .dead), (19, .dead), (26, .dead), (27, .dead), (28, .dead), (29, .dead), (35, .dead), (44, .v (.int .u64 (IntKind.u64.wrap (1 * 2 ^ (min n6319 64))))), (45, .v (.int .u64 (IntKind.u64.wrap (x6323 + 1)))), (46, .dead), (49, .dead), (50, .dead), (51, .dead), (52, .dead), (70, .dead)], [(0, .p c6320)], 1, []⟩) (by kernel_rfl))) ⟨n, Nat.lt_succ_self n, _, _, h6489, rfl⟩
            · refine W_sound tab_ok mixed 18 _ _ _ ?_
              simp -implicitDefEqProofs only [go_sem, qa, qb, qc, qd, qe, qf, qg, qh, qi, qj, qk, ↓reduceIte, h6041, h6046, g6321, h6324, h6327, h6375]
              repeat with_reducible refine ⟨by first | kernel_rfl | decide, ?_⟩
              exact cutQ _ ((Wk_le (.r (.r (.r (.r (.r (.r (.r (.r (.r (.k (.r (.r (.r (.r (.r (.r (.r (.r (.r (.r (.r (.r (.r (.r (.r (.r (.r (.k .nil)))))))))))))))))))))))))))) (OLe.refl _)).trans (cmpS_ok (st' := ⟨[], [(0, .dead), (1, .dead), (2, .dead), (4, .dead), (5, .sl false 0 0 n6319 2), (7, .dead), (9, .dead), (10, .v (.int .i64 x6322)), (11, .dead), (12, .dead), (14, .dead), (16, .dead), (17, .dead), (18, .dead), (19, .dead), (26, .dead), (27, .dead), (28, .dead), (29, .dead), (35, .dead), (44, .v (.int .u64 (IntKind.u64.wrap (1 * 2 ^ (min n6319 64))))), (45, .v (.int .u64 (IntKind.u64.wrap (x6323 + 1)))), (46, .dead), (49, .dead), (50, .dead), (51, .dead), (52, .dead), (70, .dead)], [(0, .p c6320)], 1, []⟩) (by kernel_rfl))) ⟨n, Nat.lt_succ_self n, _, _, h6489, rfl⟩
        · refine W_sound tab_ok mixed 7 _ _ _ ?_
          simp -implicitDefEqProofs only [go_sem, qa, qb, qc, qd, qe, qf, qg, qh, qi, qj, qk, ↓reduceIte, h6041, h6046, g6321, h6324]
          repeat with_reducible refine ⟨by first | kernel_rfl | decide, ?_⟩
          obtain rfl := Option.some.inj h6485
          exact cutQ _ ((Wk_le (.r (.r (.r (.r (.k (.r (.r (.r (.r (.r (.r (.r (.r (.r (.r (.r (.r (.r (.r (.r (.k (.k (.k (.r (.r (.r (.r (.r .nil)))))))))))))))))))))))))))) (OLe.refl _)).trans (cmpS_ok (st' := ⟨[], [(0, .dead), (1, .dead), (2, .dead), (4, .dead), (5, .dead), (7, .dead), (9, .dead), (10, .v (.int .i64 x6322)), (11, .dead), (12, .dead), (14, .dead), (16, .dead), (17, .dead), (18, .dead), (19, .dead), (26, .dead), (27, .dead), (28, .dead), (29, .dead), (35, .dead), (44, .dead), (45, .dead), (46, .dead), (49, .dead), (50, .dead), (51, .dead), (52, .dead), (70, .dead)], [], 0, []⟩) (by kernel_rfl))) ⟨_, rfl, rfl⟩
    · rintro _ ⟨x6477, rfl, rfl⟩
      refine W_sound tab_ok mixed 7 _ _ _ ?_
      simp -implicitDefEqProofs only [go_sem, qa, qb, qc, qd, qe, qf, qg, qh, qi, qj, qk, ↓reduceIte, h6041, h6046, g6321]
      repeat with_reducible refine ⟨by first | kernel_rfl | decide, ?_⟩
      obtain rfl := Option.some.inj h6486
      exact finC [(4, .v (.int .i64 x6477))] [(4, .v (.int .i64 x6477))] (by simp [leE, lk_cons]) (.cons _ _ _ _ _ (.v _ _ (.refl _)) .nil) (by rfl) (by simp [leE, lk_cons]) (by decide) (by decide) rfl (by simp only [go_sem, qa, qb, qc, qd, qe, qf, qg, qh, qi, qj, qk, ↓reduceIte, resQ_tmp, resQ_cell, resQ_nil, retD_one, retD_two, retD_three, retD_none]; try simp [R.val, retD_one, retD_two, retD_three, retD_none])
def m7_L0 (N : Nat) (x5587 : Int) (x6020 : Int) (p6021 : PV) (n6024 : Nat) (c6025 : List PV) (x6029 : Int) : Nat → PV → Bool → Int → Int → Option ((PV ⊕ (PV × Bool × Int)))
  | 0, _, _, _, _ => none
  | n + 1, p6554, b6555, x6556, x6557 =>
    getL p6554 fun n6559 c6560 =>
    brn (decide (x6557 < (IntKind.u64.wrap (x6029 + 1)))) (
      bnd' (m45 N x6557) fun p6562 =>
      getL p6562 fun n6565 c6566 =>
      bnd' (m46 N (.agg [(.int .i64 x5587), (.lst false n6024 c6025)]) x6557) fun p6567 =>
      getI .i64 p6567 fun x6570 =>
      bnd' (m17 N (.agg [(.int .i64 x5587), (.lst false n6024 c6025)]) (.lst false n6565 c6566)) fun p6571 =>
      getT2 p6571 fun p6574 p6575 =>
      getI .i64 p6574 fun x6577 =>
      getI .i64 p6575 fun x6579 =>
      brn (decide (x6570 < ((n6565 : Nat) : Int))) (
        brn b6555 (
          brn (decide (((n6565 : Nat) : Int) < ((n6559 : Nat) : Int))) (
            brn (x6579 != 0) (
              some (.inl (.bool false))) (
              brn (x6577 != x6570) (
                some (.inl (.bool false))) (
                bnd' (m38 N (.agg [(.int .i64 x5587), (.lst false n6024 c6025)]) (.lst false n6565 c6566)) fun p6585 =>
                getI .i64 p6585 fun x6588 =>
                brn (x6588 != 0) (
                  some (.inl (.bool false))) (
                  m7_L0 N x5587 x6020 p6021 n6024 c6025 x6029 n (.lst false n6565 c6566) true (minI x6556 (IntKind.i64.wrap ((IntKind.i64.wrap (x6570 + ((n6024 : Nat) : Int))) - ((n6565 : Nat) : Int)))) (IntKind.u64.wrap (x6557 + 1)))))) (
            brn (((n6565 : Nat) : Int) == ((n6559 : Nat) : Int)) (
              bnd' (m47 N (.lst false n6565 c6566) (.lst false n6559 c6560)) fun p6591 =>
              getI .i64 p6591 fun x6594 =>
              brn (decide (x6594 < 0)) (
                brn (x6579 != 0) (
                  some (.inl (.bool false))) (
                  brn (x6577 != x6570) (
                    some (.inl (.bool false))) (
                    bnd' (m38 N (.agg [(.int .i64 x5587), (.lst false n6024 c6025)]) (.lst false n6565 c6566)) fun p6598 =>
                    getI .i64 p6598 fun x6601 =>
                    brn (x6601 != 0) (
                      some (.inl (.bool false))) (
                      m7_L0 N x5587 x6020 p6021 n6024 c6025 x6029 n (.lst false n6565 c6566) true (minI x6556 (IntKind.i64.wrap ((IntKind.i64.wrap (x6570 + ((n6024 : Nat) : Int))) - ((n6565 : Nat) : Int)))) (IntKind.u64.wrap (x6557 + 1)))))) (
                brn (x6579 != 0) (
                  some (.inl (.bool false))) (
                  brn (x6577 != x6570) (
                    some (.inl (.bool false))) (
                    bnd' (m38 N (.agg [(.int .i64 x5587), (.lst false n6024 c6025)]) (.lst false n6565 c6566)) fun p6605 =>
                    getI .i64 p6605 fun x6608 =>
                    brn (x6608 != 0) (
                      some (.inl (.bool false))) (
                      m7_L0 N x5587 x6020 p6021 n6024 c6025 x6029 n (.lst false n6559 c6560) true (minI x6556 (IntKind.i64.wrap ((IntKind.i64.wrap (x6570 + ((n6024 : Nat) : Int))) - ((n6565 : Nat) : Int)))) (IntKind.u64.wrap (x6557 + 1))))))) (
              brn (x6579 != 0) (
                some (.inl (.bool false))) (
                brn (x6577 != x6570) (
                  some (.inl (.bool false))) (
                  bnd' (m38 N (.agg [(.int .i64 x5587), (.lst false n6024 c6025)]) (.lst false n6565 c6566)) fun p6612 =>
                  getI .i64 p6612 fun x6615 =>
                  brn (x6615 != 0) (
                    some (.inl (.bool false))) (
                    m7_L0 N x5587 x6020 p6021 n6024 c6025 x6029 n (.lst false n6559 c6560) true (minI x6556 (IntKind.i64.wrap ((IntKind.i64.wrap (x6570 + ((n6024 : Nat) : Int))) - ((n6565 : Nat) : Int)))) (IntKind.u64.wrap (x6557 + 1)))))))) (
          brn (x6579 != 0) (
            some (.inl (.bool false))) (
            brn (x6577 != x6570) (
              some (.inl (.bool false))) (
              bnd' (m38 N (.agg [(.int .i64 x5587), (.lst false n6024 c6025)]) (.lst false n6565 c6566)) fun p6619 =>
              getI .i64 p6619 fun x6622 =>
              brn (x6622 != 0) (
                some (.inl (.bool false))) (
                m7_L0 N x5587 x6020 p6021 n6024 c6025 x6029 n (.lst false n6565 c6566) true (minI x6556 (IntKind.i64.wrap ((IntKind.i64.wrap (x6570 + ((n6024 : Nat) : Int))) - ((n6565 : Nat) : Int)))) (IntKind.u64.wrap (x6557 + 1))))))) (
        brn (x6579 != 0) (
          some (.inl (.bool false))) (
          brn (x6577 != x6570) (
            some (.inl (.bool false))) (
            bnd' (m38 N (.agg [(.int .i64 x5587), (.lst false n6024 c6025)]) (.lst false n6565 c6566)) fun p6626 =>
            getI .i64 p6626 fun x6629 =>
            brn (x6629 != 14) (
              some (.inl (.bool false))) (
              m7_L0 N x5587 x6020 p6021 n6024 c6025 x6029 n (.lst false n6559 c6560) b6555 (minI x6556 (IntKind.i64.wrap ((IntKind.i64.wrap (x6570 + ((n6024 : Nat) : Int))) - ((n6565 : Nat) : Int)))) (IntKind.u64.wrap (x6557 + 1))))))) (
      some (.inr ((.lst false n6559 c6560), b6555, x6556)))
def m7 (N : Nat) (p5572 : PV) : Option (PV) :=
  getA7 p5572 fun p5574 p5575 p5576 p5577 p5578 p5579 p5580 =>
  bnd' (m40 N (.agg [p5574, p5575, p5576, p5577, p5578, p5579, p5580]) 4 4 4) fun p5581 =>
  getA2 p5581 fun p5584 p5585 =>
  getI .i64 p5584 fun x5587 =>
  bnd' (m42 N (.agg [(.int .i64 x5587), p5585])) fun p5588 =>
  getI .u64 p5588 fun x5591 =>
  bnd' (m41 N (.agg [(.int .i64 x5587), p5585]) x5591 0 .nl) fun (p6018, x6020, p6021) =>
  getT0 p6018 <|
  getL p5585 fun n6024 c6025 =>
  bnd' (m42 N (.agg [(.int .i64 x5587), (.lst false n6024 c6025)])) fun p6026 =>
  getI .u64 p6026 fun x6029 =>
  bnd' (m7_L0 N x5587 x6020 p6021 n6024 c6025 x6029 N (.lst false 0 []) false ((n6024 : Nat) : Int) 0) fun o =>
  match o with
  | .inl p6631 =>
    some p6631
  | .inr (p6632, b6633, x6634) =>
    getL p6632 fun n6636 c6637 =>
    bnd' (m26 N (.agg [(.int .i64 x5587), (.lst false n6024 c6025)])) fun p6638 =>
    getT2 p6638 fun p6641 p6642 =>
    getL p6641 fun n6644 c6645 =>
    getI .i64 p6642 fun x6647 =>
    bnd' (m28 N (.agg [(.int .i64 x5587), (.lst false n6024 c6025)])) fun p6648 =>
    getT2 p6648 fun p6651 p6652 =>
    getI .i64 p6651 fun x6654 =>
    getI .i64 p6652 fun x6656 =>
    bnd' (m36 N (.agg [(.int .i64 x5587), (.lst false n6024 c6025)])) fun p6657 =>
    getT2 p6657 fun p6660 p6661 =>
    getL p6660 fun n6663 c6664 =>
    getI .i64 p6661 fun x6666 =>
    bnd' (m32 N (.agg [(.int .i64 x5587), (.lst false n6024 c6025)])) fun p6667 =>
    getT2 p6667 fun p6670 p6671 =>
    getL p6670 fun n6673 c6674 =>
    getI .i64 p6671 fun x6676 =>
    brn (x6656 != 0) (
      some (.bool false)) (
      brn (x6676 != 0) (
        some (.bool false)) (
        brn (x6654 != x6020) (
          some (.bool false)) (
          brn (b6633 != (x6020 == 0)) (
            some (.bool false)) (
            brn (((n6673 : Nat) : Int) != x6634) (
              some (.bool false)) (
              bnd' (m21 N (.lst false n6663 c6664) (.lst false n6636 c6637)) fun p6682 =>
              getB p6682 fun b6685 =>
              brn b6685 (
                brn b6633 (
                  brn (x6647 == 12) (
                    brn (((n6644 : Nat) : Int) == 0) (
                      brn (x6666 == 0) (
                        bnd' (m16 N ) fun p6691 =>
                        getB p6691 fun b6694 =>
                        some (.bool b6694)) (
                        some (.bool false))) (
                      some (.bool false))) (
                    some (.bool false))) (
                  brn (x6647 == 0) (
                    getL p6021 fun n6697 c6698 =>
                    bnd' (m21 N (.lst false n6644 c6645) (.lst false n6697 c6698)) fun p6699 =>
                    getB p6699 fun b6702 =>
                    brn b6702 (
                      brn (x6666 == 13) (
                        bnd' (m16 N ) fun p6705 =>
                        getB p6705 fun b6708 =>
                        some (.bool b6708)) (
                        some (.bool false))) (
                      some (.bool false))) (
                    some (.bool false)))) (
                some (.bool false)))))))
theorem c7 (N : Nat) (p5572 : PV) (r : PV)  (h : m7 N p5572 = some r) : FnP Tryd.prog 7 [p5572] r := by
  unfold m7 at h
  refine Fn_of (sz := 180) tab_ok [0, 1, 2, 3, 4, 5, 6, 7, 8, 9, 10, 11, 12, 13, 14, 15, 16, 17, 18, 19, 20, 21, 22, 35, 36, 37, 63, 85, 100, 150, 151] [.tmp 2] Tryd.func7 rfl rfl rfl (by simp) ?_
  simp only [initSt, initEnv, List.map_cons, List.map_nil, List.getD_cons_zero, List.getD_cons_succ, List.getD_nil]
  have hh := getA7_some h; clear h; obtain ⟨p5574, p5575, p5576, p5577, p5578, p5579, p5580, h5573, h⟩ := hh
  have hh := bnd'_some h; clear h; obtain ⟨p5581, h5582, h⟩ := hh
  refine W_sound tab_ok mixed 8 _ _ _ ?_
  simp -implicitDefEqProofs only [go_sem, qa, qb, qc, qd, qe, qf, qg, qh, qi, qj, qk, ↓reduceIte, h5573]
  repeat with_reducible refine ⟨by first | kernel_rfl | decide, ?_⟩
  refine Wp_callP (c40 N _ _ _ _ _ h5582) (by kernel_rfl) rfl rfl rfl rfl (by decide) ?_
  have hh := getA2_some h; clear h; obtain ⟨p5584, p5585, h5583, h⟩ := hh
  have hh := getI_some h; clear h; obtain ⟨x5587, h5586, h⟩ := hh
  have hh := bnd'_some h; clear h; obtain ⟨p5588, h5589, h⟩ := hh
  refine W_sound tab_ok mixed 16 _ _ _ ?_
  simp -implicitDefEqProofs only [go_sem, qa, qb, qc, qd, qe, qf, qg, qh, qi, qj, qk, ↓reduceIte, h5573, h5583, h5586]
  repeat with_reducible refine ⟨by first | kernel_rfl | decide, ?_⟩
  refine Wp_callP (c42 N _ _ h5589) (by kernel_rfl) rfl rfl rfl rfl (by decide) ?_
  have hh := getI_some h; clear h; obtain ⟨x5591, h5590, h⟩ := hh
  have hh := bnd'_some h; clear h; obtain ⟨⟨p6018, x6020, p6021⟩, h6019, h⟩ := hh
  (try dsimp only at h)
  refine W_sound tab_ok mixed 1 _ _ _ ?_
  simp -implicitDefEqProofs only [go_sem, qa, qb, qc, qd, qe, qf, qg, qh, qi, qj, qk, ↓reduceIte, h5573, h5583, h5586, h5590]
  repeat with_reducible refine ⟨by first | kernel_rfl | decide, ?_⟩
  refine Wp_callD [10, 16] (c41 N _ _ _ _ _ _ _ h6019) rfl rfl rfl (by first | rfl | (simp only [go_sem, qa, qb, qc, qd, qe, qf, qg, qh, qi, qj, qk, ↓reduceIte, h5573, h5583, h5586, h5590] <;> rfl)) rfl (by kernel_rfl) ?_
  have hh := getT0_some h; clear h; obtain ⟨h6022, h⟩ := hh
  have hh := getL_some h; clear h; obtain ⟨n6024, c6025, h6023, h⟩ := hh
  have hh := bnd'_some h; clear h; obtain ⟨p6026, h6027, h⟩ := hh
  refine W_sound tab_ok mixed 20 _ _ _ ?_
  simp -implicitDefEqProofs only [go_sem, qa, qb, qc, qd, qe, qf, qg, qh, qi, qj, qk, ↓reduceIte, h5573, h5583, h5586, h5590, h6022, h6023]
  repeat with_reducible refine ⟨by first | kernel_rfl | decide, ?_⟩
  refine Wp_callP (c42 N _ _ h6027) (by kernel_rfl) rfl rfl rfl rfl (by decide) ?_
  have hh := getI_some h; clear h; obtain ⟨x6029, h6028, h⟩ := hh
  refine W_sound tab_ok mixed 3 _ _ _ ?_
  simp -implicitDefEqProofs only [go_sem, qa, qb, qc, qd, qe, qf, qg, qh, qi, qj, qk, ↓reduceIte, h5573, h5583, h5586, h5590, h6022, h6023, h6028]
  repeat with_reducible refine ⟨by first | kernel_rfl | decide, ?_⟩
  have hh := bnd'_some h; clear h; obtain ⟨o6709, h6710, h6711⟩ := hh
  refine Wp_cut (fun s => ∃ p6632, ∃ b6633, ∃ x6634, (.inr (p6632, b6633, x6634)) = o6709 ∧ s = ⟨[], [(0, .dead), (1, .dead), (2, .dead), (3, .ptr 0 0), (4, .ptr 1 0), (5, .ptr 2 0), (6, .v p6632), (7, .v (.bool b6633)), (8, .v (.int .i64 x6634)), (9, .dead), (10, .dead), (11, .dead), (12, .dead), (13, .dead), (14, .dead), (15, .dead), (16, .dead), (17, .dead), (18, .dead), (19, .dead), (20, .dead), (21, .dead), (22, .dead), (35, .dead), (36, .dead), (37, .dead), (63, .dead), (85, .dead), (100, .dead), (150, .dead), (151, .dead)], [(0, .p [(.int .i64 x5587), (.lst false n6024 c6025)]), (1, .p [(.int .i64 x6020)]), (2, .p [p6021])], 3, []⟩) ?_ ?_
  · refine Wp_block ?_
    refine Wp_loopG (fun n s => ∃ p6554, ∃ b6555, ∃ x6556, ∃ x6557, m7_L0 N x5587 x6020 p6021 n6024 c6025 x6029 n p6554 b6555 x6556 x6557 = some o6709 ∧ s = ⟨[], [(0, .dead), (1, .dead), (2, .dead), (3, .ptr 0 0), (4, .ptr 1 0), (5, .ptr 2 0), (6, .v p6554), (7, .v (.bool b6555)), (8, .v (.int .i64 x6556)), (9, .dead), (10, .dead), (11, .dead), (12, .dead), (13, .dead), (14, .dead), (15, .dead), (16, .dead), (17, .dead), (18, .dead), (19, .dead), (20, .dead), (21, .dead), (22, .dead), (35, .v (.int .u64 (IntKind.u64.wrap (x6029 + 1)))), (36, .v (.int .u64 x6557)), (37, .dead), (63, .dead), (85, .dead), (100, .dead), (150, .dead), (151, .dead)], [(0, .p [(.int .i64 x5587), (.lst false n6024 c6025)]), (1, .p [(.int .i64 x6020)]), (2, .p [p6021])], 3, []⟩) N _ ((Wk_le (.k (.k (.k (.r (.r (.r (.cons _ _ _ _ _ (.v _ _ (.nl false)) (.r (.r (.r (.r (.r (.r (.r (.r (.r (.r (.r (.r (.r (.r (.r (.r (.r (.r (.r (.r (.r (.r (.r (.r .nil))))))))))))))))))))))))))))))) (OLe.refl _)).trans (cmpS_ok (st' := ⟨[], [(0, .dead), (1, .dead), (2, .dead), (3, .ptr 0 0), (4, .ptr 1 0), (5, .ptr 2 0), (6, .v (.lst false 0 [])), (7, .v (.bool false)), (8, .v (.int .i64 ((n6024 : Nat) : Int))), (9, .dead), (10, .dead), (11, .dead), (12, .dead), (13, .dead), (14, .dead), (15, .dead), (16, .dead), (17, .dead), (18, .dead), (19, .dead), (20, .dead), (21, .dead), (22, .dead), (35, .v (.int .u64 (IntKind.u64.wrap (x6029 + 1)))), (36, .v (.int .u64 0)), (37, .dead), (63, .dead), (85, .dead), (100, .dead), (150, .dead), (151, .dead)], [(0, .p [(.int .i64 x5587), (.lst false n6024 c6025)]), (1, .p [(.int .i64 x6020)]), (2, .p [p6021])], 3, []⟩) (by kernel_rfl))) ⟨_, _, _, _, h6710, rfl⟩ ?_
    clear h6710
    rintro n _ ⟨p6554, b6555, x6556, x6557, h6710, rfl⟩
    cases n with
    | zero => cases h6710
    | succ n =>
      rw [m7_L0] at h6710
      have hh := getL_some h6710; clear h6710; obtain ⟨n6559, c6560, h6558, h6710⟩ := hh
      have hh := brn_some h6710; clear h6710; rcases hh with ⟨h6561, h6710⟩ | ⟨h6561, h6710⟩
      · have hh := bnd'_some h6710; clear h6710; obtain ⟨p6562, h6563, h6710⟩ := hh
        refine W_sound tab_ok mixed 17 _ _ _ ?_
        simp -implicitDefEqProofs only [go_sem, qa, qb, qc, qd, qe, qf, qg, qh, qi, qj, qk, ↓reduceIte, h5573, h5583, h5586, h5590, h6022, h6023, h6028, h6558, h6561]
        repeat with_reducible refine ⟨by first | kernel_rfl | decide, ?_⟩
        refine Wp_callP (c45 N _ _ h6563) (by kernel_rfl) rfl rfl rfl rfl (by decide) ?_
        have hh := getL_some h6710; clear h6710; obtain ⟨n6565, c6566, h6564, h6710⟩ := hh
        have hh := bnd'_some h6710; clear h6710; obtain ⟨p6567, h6568, h6710⟩ := hh
        refine W_sound tab_ok mixed 6 _ _ _ ?_
        simp -implicitDefEqProofs only [go_sem, qa, qb, qc, qd, qe, qf, qg, qh, qi, qj, qk, ↓reduceIte, h5573, h5583, h5586, h5590, h6022, h6023, h6028, h6558, h6561, h6564]
        repeat with_reducible refine ⟨by first | kernel_rfl | decide, ?_⟩
        refine Wp_callP (c46 N _ _ _ h6568) (by kernel_rfl) rfl rfl rfl rfl (by decide) ?_
        have hh := getI_some h6710; clear h6710; obtain ⟨x6570, h6569, h6710⟩ := hh
        have hh := bnd'_some h6710; clear h6710; obtain ⟨p6571, h6572, h6710⟩ := hh
        refine W_sound tab_ok mixed 20 _ _ _ ?_
        simp -implicitDefEqProofs only [go_sem, qa, qb, qc, qd, qe, qf, qg, qh, qi, qj, qk, ↓reduceIte, h5573, h5583, h5586, h5590, h6022, h6023, h6028, h6558, h6561, h6564, h6569]
        repeat with_reducible refine ⟨by first | kernel_rfl | decide, ?_⟩
        refine Wp_callP (c17 N _ _ _ h6572) (by kernel_rfl) rfl rfl rfl rfl (by decide) ?_
        have hh := getT2_some h6710; clear h6710; obtain ⟨p6574, p6575, h6573, h6710⟩ := hh
        have hh := getI_some h6710; clear h6710; obtain ⟨x6577, h6576, h6710⟩ := hh
        have hh := getI_some h6710; clear h6710; obtain ⟨x6579, h6578, h6710⟩ := hh
        have hh := brn_some h6710; clear h6710; rcases hh with ⟨h6580, h6710⟩ | ⟨h6580, h6710⟩
        · have hh := brn_some h6710; clear h6710; rcases hh with ⟨h6581, h6710⟩ | ⟨h6581, h6710⟩
          · have hh := brn_some h6710; clear h6710; rcases hh with ⟨h6582, h6710⟩ | ⟨h6582, h6710⟩
            · have hh := brn_some h6710; clear h6710; rcases hh with ⟨h6583, h6710⟩ | ⟨h6583, h6710⟩
              · refine W_sound tab_ok mixed 78 _ _ _ ?_
                simp -implicitDefEqProofs only [go_sem, qa, qb, qc, qd, qe, qf, qg, qh, qi, qj, qk, ↓reduceIte, h5573, h5583, h5586, h5590, h6022, h6023, h6028, h6558, h6561, h6564, h6569, h6573, h6576, h6578, h6580, h6581, h6582, h6583]
                repeat with_reducible refine ⟨by first | kernel_rfl | decide, ?_⟩
                obtain rfl := Option.some.inj h6710
                (try dsimp only at h6711)
                obtain rfl := Option.some.inj h6711
                exact finC [(2, .v (.bool false))] [(2, .v (.bool false))] (by simp [leE, lk_cons]) (.cons _ _ _ _ _ (.v _ _ (.refl _)) .nil) (by rfl) (by simp [leE, lk_cons]) (by decide) (by decide) rfl (by simp only [go_sem, qa, qb, qc, qd, qe, qf, qg, qh, qi, qj, qk, ↓reduceIte, resQ_tmp, resQ_cell, resQ_nil, retD_one, retD_two, retD_three, retD_none]; try simp [R.val, retD_one, retD_two, retD_three, retD_none])
              · have hh := brn_some h6710; clear h6710; rcases hh with ⟨h6584, h6710⟩ | ⟨h6584, h6710⟩
                · refine W_sound tab_ok mixed 78 _ _ _ ?_
                  simp -implicitDefEqProofs only [go_sem, qa, qb, qc, qd, qe, qf, qg, qh, qi, qj, qk, ↓reduceIte, h5573, h5583, h5586, h5590, h6022, h6023, h6028, h6558, h6561, h6564, h6569, h6573, h6576, h6578, h6580, h6581, h6582, h6583, h6584]
                  repeat with_reducible refine ⟨by first | kernel_rfl | decide, ?_⟩
                  obtain rfl := Option.some.inj h6710
                  (try dsimp only at h6711)
                  obtain rfl := Option.some.inj h6711
                  exact finC [(2, .v (.bool false))] [(2, .v (.bool false))] (by simp [leE, lk_cons]) (.cons _ _ _ _ _ (.v _ _ (.refl _)) .nil) (by rfl) (by simp [leE, lk_cons]) (by decide) (by decide) rfl (by simp only [go_sem, qa, qb, qc, qd, qe, qf, qg, qh, qi, qj, qk, ↓reduceIte, resQ_tmp, resQ_cell, resQ_nil, retD_one, retD_two, retD_three, retD_none]; try simp [R.val, retD_one, retD_two, retD_three, retD_none])
                · have hh := bnd'_some h6710; clear h6710; obtain ⟨p6585, h6586, h6710⟩ := hh
                  refine W_sound tab_ok mixed 66 _ _ _ ?_
                  simp -implicitDefEqProofs only [go_sem, qa, qb, qc, qd, qe, qf, qg, qh, qi, qj, qk, ↓reduceIte, h5573, h5583, h5586, h5590, h6022, h6023, h6028, h6558, h6561, h6564, h6569, h6573, h6576, h6578, h6580, h6581, h6582, h6583, h6584]
                  repeat with_reducible refine ⟨by first | kernel_rfl | decide, ?_⟩
                  refine Wp_callP (c38 N _ _ _ h6586) (by kernel_rfl) rfl rfl rfl rfl (by decide) ?_
                  have hh := getI_some h6710; clear h6710; obtain ⟨x6588, h6587, h6710⟩ := hh
                  have hh := brn_some h6710; clear h6710; rcases hh with ⟨h6589, h6710⟩ | ⟨h6589, h6710⟩
                  · refine W_sound tab_ok mixed 11 _ _ _ ?_
                    simp -implicitDefEqProofs only [go_sem, qa, qb, qc, qd, qe, qf, qg, qh, qi, qj, qk, ↓reduceIte, h5573, h5583, h5586, h5590, h6022, h6023, h6028, h6558, h6561, h6564, h6569, h6573, h6576, h6578, h6580, h6581, h6582, h6583, h6584, h6587, h6589]
                    repeat with_reducible refine ⟨by first | kernel_rfl | decide, ?_⟩
                    obtain rfl := Option.some.inj h6710
                    (try dsimp only at h6711)
                    obtain rfl := Option.some.inj h6711
                    exact finC [(2, .v (.bool false))] [(2, .v (.bool false))] (by simp [leE, lk_cons]) (.cons _ _ _ _ _ (.v _ _ (.refl _)) .nil) (by rfl) (by simp [leE, lk_cons]) (by decide) (by decide) rfl (by simp only [go_sem, qa, qb, qc, qd, qe, qf, qg, qh, qi, qj, qk, ↓reduceIte, resQ_tmp, resQ_cell, resQ_nil, retD_one, retD_two, retD_three, retD_none]; try simp [R.val, retD_one, retD_two, retD_three, retD_none])
                  · refine W_sound tab_ok mixed 11 _ _ _ ?_
                    simp -implicitDefEqProofs only [go_sem, qa, qb, qc, qd, qe, qf, qg, qh, qi, qj, qk, ↓reduceIte, h5573, h5583, h5586, h5590, h6022, h6023, h6028, h6558, h6561, h6564, h6569, h6573, h6576, h6578, h6580, h6581, h6582, h6583, h6584, h6587, h6589]
                    repeat with_reducible refine ⟨by first | kernel_rfl | decide, ?_⟩
                    exact cutQ _ ((Wk_le (.r (.r (.r (.r (.r (.r (.r (.r (.r (.k (.k (.k (.k (.k (.k (.r (.r (.r (.r (.r (.r (.r (.r (.r (.r (.k (.k (.k (.k (.r (.r .nil))))))))))))))))))))))))))))))) (OLe.refl _)).trans (cmpS_ok (st' := ⟨[], [(0, .dead), (1, .dead), (2, .dead), (3, .ptr 0 0), (4, .ptr 1 0), (5, .ptr 2 0), (6, .v (.lst false n6565 c6566)), (7, .v (.bool true)), (8, .v (.int .i64 (minI x6556 (IntKind.i64.wrap ((IntKind.i64.wrap (x6570 + ((n6024 : Nat) : Int))) - ((n6565 : Nat) : Int)))))), (9, .dead), (10, .dead), (11, .dead), (12, .dead), (13, .dead), (14, .dead), (15, .dead), (16, .dead), (17, .dead), (18, .dead), (19, .dead), (20, .dead), (21, .dead), (22, .dead), (35, .v (.int .u64 (IntKind.u64.wrap (x6029 + 1)))), (36, .v (.int .u64 (IntKind.u64.wrap (x6557 + 1)))), (37, .dead), (63, .dead), (85, .dead), (100, .dead), (150, .dead), (151, .dead)], [(0, .p [(.int .i64 x5587), (.lst false n6024 c6025)]), (1, .p [(.int .i64 x6020)]), (2, .p [p6021])], 3, []⟩) (by kernel_rfl))) ⟨n, Nat.lt_succ_self n, _, _, _, _, h6710, rfl⟩
            · have hh := brn_some h6710; clear h6710; rcases hh with ⟨h6590, h6710⟩ | ⟨h6590, h6710⟩
              · have hh := bnd'_some h6710; clear h6710; obtain ⟨p6591, h6592, h6710⟩ := hh
                refine W_sound tab_ok mixed 43 _ _ _ ?_
                simp -implicitDefEqProofs only [go_sem, qa, qb, qc, qd, qe, qf, qg, qh, qi, qj, qk, ↓reduceIte, h5573, h5583, h5586, h5590, h6022, h6023, h6028, h6558, h6561, h6564, h6569, h6573, h6576, h6578, h6580, h6581, h6582, h6590]
                repeat with_reducible refine ⟨by first | kernel_rfl | decide, ?_⟩
                refine Wp_callP (c47 N _ _ _ h6592) (by kernel_rfl) rfl rfl rfl rfl (by decide) ?_
                have hh := getI_some h6710; clear h6710; obtain ⟨x6594, h6593, h6710⟩ := hh
                have hh := brn_some h6710; clear h6710; rcases hh with ⟨h6595, h6710⟩ | ⟨h6595, h6710⟩
                · have hh := brn_some h6710; clear h6710; rcases hh with ⟨h6596, h6710⟩ | ⟨h6596, h6710⟩
                  · refine W_sound tab_ok mixed 34 _ _ _ ?_
                    simp -implicitDefEqProofs only [go_sem, qa, qb, qc, qd, qe, qf, qg, qh, qi, qj, qk, ↓reduceIte, h5573, h5583, h5586, h5590, h6022, h6023, h6028, h6558, h6561, h6564, h6569, h6573, h6576, h6578, h6580, h6581, h6582, h6590, h6593, h6595, h6596]
                    repeat with_reducible refine ⟨by first | kernel_rfl | decide, ?_⟩
                    obtain rfl := Option.some.inj h6710
                    (try dsimp only at h6711)
                    obtain rfl := Option.some.inj h6711
                    exact finC [(2, .v (.bool false))] [(2, .v (.bool false))] (by simp [leE, lk_cons]) (.cons _ _ _ _ _ (.v _ _ (.refl _)) .nil) (by rfl) (by simp [leE, lk_cons]) (by decide) (by decide) rfl (by simp only [go_sem, qa, qb, qc, qd, qe, qf, qg, qh, qi, qj, qk, ↓reduceIte, resQ_tmp, resQ_cell, resQ_nil, retD_one, retD_two, retD_three, retD_none]; try simp [R.val, retD_one, retD_two, retD_three, retD_none])
                  · have hh := brn_some h6710; clear h6710; rcases hh with ⟨h6597, h6710⟩ | ⟨h6597, h6710⟩
                    · refine W_sound tab_ok mixed 34 _ _ _ ?_
                      simp -implicitDefEqProofs only [go_sem, qa, qb, qc, qd, qe, qf, qg, qh, qi, qj, qk, ↓reduceIte, h5573, h5583, h5586, h5590, h6022, h6023, h6028, h6558, h6561, h6564, h6569, h6573, h6576, h6578, h6580, h6581, h6582, h6590, h6593, h6595, h6596, h6597]
                      repeat with_reducible refine ⟨by first | kernel_rfl | decide, ?_⟩
                      obtain rfl := Option.some.inj h6710
                      (try dsimp only at h6711)
                      obtain rfl := Option.some.inj h6711
                      exact finC [(2, .v (.bool false))] [(2, .v (.bool false))] (by simp [leE, lk_cons]) (.cons _ _ _ _ _ (.v _ _ (.refl _)) .nil) (by rfl) (by simp [leE, lk_cons]) (by decide) (by decide) rfl (by simp only [go_sem, qa, qb, qc, qd, qe, qf, qg, qh, qi, qj, qk, ↓reduceIte, resQ_tmp, resQ_cell, resQ_nil, retD_one, retD_two, retD_three, retD_none]; try simp [R.val, retD_one, retD_two, retD_three, retD_none])
                    · have hh := bnd'_some h6710; clear h6710; obtain ⟨p6598, h6599, h6710⟩ := hh
                      refine W_sound tab_ok mixed 22 _ _ _ ?_
                      simp -implicitDefEqProofs only [go_sem, qa, qb, qc, qd, qe, qf, qg, qh, qi, qj, qk, ↓reduceIte, h5573, h5583, h5586, h5590, h6022, h6023, h6028, h6558, h6561, h6564, h6569, h6573, h6576, h6578, h6580, h6581, h6582, h6590, h6593, h6595, h6596, h6597]
                      repeat with_reducible refine ⟨by first | kernel_rfl | decide, ?_⟩
                      refine Wp_callP (c38 N _ _ _ h6599) (by kernel_rfl) rfl rfl rfl rfl (by decide) ?_
                      have hh := getI_some h6710; clear h6710; obtain ⟨x6601, h6600, h6710⟩ := hh
                      have hh := brn_some h6710; clear h6710; rcases hh with ⟨h6602, h6710⟩ | ⟨h6602, h6710⟩
                      · refine W_sound tab_ok mixed 11 _ _ _ ?_
                        simp -implicitDefEqProofs only [go_sem, qa, qb, qc, qd, qe, qf, qg, qh, qi, qj, qk, ↓reduceIte, h5573, h5583, h5586, h5590, h6022, h6023, h6028, h6558, h6561, h6564, h6569, h6573, h6576, h6578, h6580, h6581, h6582, h6590, h6593, h6595, h6596, h6597, h6600, h6602]
                        repeat with_reducible refine ⟨by first | kernel_rfl | decide, ?_⟩
                        obtain rfl := Option.some.inj h6710
                        (try dsimp only at h6711)
                        obtain rfl := Option.some.inj h6711
                        exact finC [(2, .v (.bool false))] [(2, .v (.bool false))] (by simp [leE, lk_cons]) (.cons _ _ _ _ _ (.v _ _ (.refl _)) .nil) (by rfl) (by simp [leE, lk_cons]) (by decide) (by decide) rfl (by simp only [go_sem, qa, qb, qc, qd, qe, qf, qg, qh, qi, qj, qk, ↓reduceIte, resQ_tmp, resQ_cell, resQ_nil, retD_one, retD_two, retD_three, retD_none]; try simp [R.val, retD_one, retD_two, retD_three, retD_none])
                      · refine W_sound tab_ok mixed 11 _ _ _ ?_
                        simp -implicitDefEqProofs only [go_sem, qa, qb, qc, qd, qe, qf, qg, qh, qi, qj, qk, ↓reduceIte, h5573, h5583, h5586, h5590, h6022, h6023, h6028, h6558, h6561, h6564, h6569, h6573, h6576, h6578, h6580, h6581, h6582, h6590, h6593, h6595, h6596, h6597, h6600, h6602]
                        repeat with_reducible refine ⟨by first | kernel_rfl | decide, ?_⟩
                        exact cutQ _ ((Wk_le (.r (.r (.r (.r (.r (.r (.r (.r (.r (.k (.k (.k (.k (.k (.k (.r (.r (.r (.r (.r (.r (.r (.r (.r (.r (.k (.k (.k (.k (.r (.r .nil))))))))))))))))))))))))))))))) (OLe.refl _)).trans (cmpS_ok (st' := ⟨[], [(0, .dead), (1, .dead), (2, .dead), (3, .ptr 0 0), (4, .ptr 1 0), (5, .ptr 2 0), (6, .v (.lst false n6565 c6566)), (7, .v (.bool true)), (8, .v (.int .i64 (minI x6556 (IntKind.i64.wrap ((IntKind.i64.wrap (x6570 + ((n6024 : Nat) : Int))) - ((n6565 : Nat) : Int)))))), (9, .dead), (10, .dead), (11, .dead), (12, .dead), (13, .dead), (14, .dead), (15, .dead), (16, .dead), (17, .dead), (18, .dead), (19, .dead), (20, .dead), (21, .dead), (22, .dead), (35, .v (.int .u64 (IntKind.u64.wrap (x6029 + 1)))), (36, .v (.int .u64 (IntKind.u64.wrap (x6557 + 1)))), (37, .dead), (63, .dead), (85, .dead), (100, .dead), (150, .dead), (151, .dead)], [(0, .p [(.int .i64 x5587), (.lst false n6024 c6025)]), (1, .p [(.int .i64 x6020)]), (2, .p [p6021])], 3, []⟩) (by kernel_rfl))) ⟨n, Nat.lt_succ_self n, _, _, _, _, h6710, rfl⟩
                · have hh := brn_some h6710; clear h6710; rcases hh with ⟨h6603, h6710⟩ | ⟨h6603, h6710⟩
                  · refine W_sound tab_ok mixed 30 _ _ _ ?_
                    simp -implicitDefEqProofs only [go_sem, qa, qb, qc, qd, qe, qf, qg, qh, qi, qj, qk, ↓reduceIte, h5573, h5583, h5586, h5590, h6022, h6023, h6028, h6558, h6561, h6564, h6569, h6573, h6576, h6578, h6580, h6581, h6582, h6590, h6593, h6595, h6603]
                    repeat with_reducible refine ⟨by first | kernel_rfl | decide, ?_⟩
                    obtain rfl := Option.some.inj h6710
                    (try dsimp only at h6711)
                    obtain rfl := Option.some.inj h6711
                    exact finC [(2, .v (.bool false))] [(2, .v (.bool false))] (by simp [leE, lk_cons]) (.cons _ _ _ _ _ (.v _ _ (.refl _)) .nil) (by rfl) (by simp [leE, lk_cons]) (by decide) (by decide) rfl (by simp only [go_sem, qa, qb, qc, qd, qe, qf, qg, qh, qi, qj, qk, ↓reduceIte, resQ_tmp, resQ_cell, resQ_nil, retD_one, retD_two, retD_three, retD_none]; try simp [R.val, retD_one, retD_two, retD_three, retD_none])
                  · have hh := brn_some h6710; clear h6710; rcases hh with ⟨h6604, h6710⟩ | ⟨h6604, h6710⟩
                    · refine W_sound tab_ok mixed 30 _ _ _ ?_
                      simp -implicitDefEqProofs only [go_sem, qa, qb, qc, qd, qe, qf, qg, qh, qi, qj, qk, ↓reduceIte, h5573, h5583, h5586, h5590, h6022, h6023, h6028, h6558, h6561, h6564, h6569, h6573, h6576, h6578, h6580, h6581, h6582, h6590, h6593, h6595, h6603, h6604]
                      repeat with_reducible refine ⟨by first | kernel_rfl | decide, ?_⟩
                      obtain rfl := Option.some.inj h6710
                      (try dsimp only at h6711)
                      obtain rfl := Option.some.inj h6711
                      exact finC [(2, .v (.bool false))] [(2, .v (.bool false))] (by simp [leE, lk_cons]) (.cons _ _ _ _ _ (.v _ _ (.refl _)) .nil) (by rfl) (by simp [leE, lk_cons]) (by decide) (by decide) rfl (by simp only [go_sem, qa, qb, qc, qd, qe, qf, qg, qh, qi, qj, qk, ↓reduceIte, resQ_tmp, resQ_cell, resQ_nil, retD_one, retD_two, retD_three, retD_none]; try simp [R.val, retD_one, retD_two, retD_three, retD_none])
                    · have hh := bnd'_some h6710; clear h6710; obtain ⟨p6605, h6606, h6710⟩ := hh
                      refine W_sound tab_ok mixed 18 _ _ _ ?_
                      simp -implicitDefEqProofs only [go_sem, qa, qb, qc, qd, qe, qf, qg, qh, qi, qj, qk, ↓reduceIte, h5573, h5583, h5586, h5590, h6022, h6023, h6028, h6558, h6561, h6564, h6569, h6573, h6576, h6578, h6580, h6581, h6582, h6590, h6593, h6595, h6603, h6604]
                      repeat with_reducible refine ⟨by first | kernel_rfl | decide, ?_⟩
                      refine Wp_callP (c38 N _ _ _ h6606) (by kernel_rfl) rfl rfl rfl rfl (by decide) ?_
                      have hh := getI_some h6710; clear h6710; obtain ⟨x6608, h6607, h6710⟩ := hh
                      have hh := brn_some h6710; clear h6710; rcases hh with ⟨h6609, h6710⟩ | ⟨h6609, h6710⟩
                      · refine W_sound tab_ok mixed 11 _ _ _ ?_
                        simp -implicitDefEqProofs only [go_sem, qa, qb, qc, qd, qe, qf, qg, qh, qi, qj, qk, ↓reduceIte, h5573, h5583, h5586, h5590, h6022, h6023, h6028, h6558, h6561, h6564, h6569, h6573, h6576, h6578, h6580, h6581, h6582, h6590, h6593, h6595, h6603, h6604, h6607, h6609]
                        repeat with_reducible refine ⟨by first | kernel_rfl | decide, ?_⟩
                        obtain rfl := Option.some.inj h6710
                        (try dsimp only at h6711)
                        obtain rfl := Option.some.inj h6711
                        exact finC [(2, .v (.bool false))] [(2, .v (.bool false))] (by simp [leE, lk_cons]) (.cons _ _ _ _ _ (.v _ _ (.refl _)) .nil) (by rfl) (by simp [leE, lk_cons]) (by decide) (by decide) rfl (by simp only [go_sem, qa, qb, qc, qd, qe, qf, qg, qh, qi, qj, qk, ↓reduceIte, resQ_tmp, resQ_cell, resQ_nil, retD_one, retD_two, retD_three, retD_none]; try simp [R.val, retD_one, retD_two, retD_three, retD_none])
                      · refine W_sound tab_ok mixed 11 _ _ _ ?_
                        simp -implicitDefEqProofs only [go_sem, qa, qb, qc, qd, qe, qf, qg, qh, qi, qj, qk, ↓reduceIte, h5573, h5583, h5586, h5590, h6022, h6023, h6028, h6558, h6561, h6564, h6569, h6573, h6576, h6578, h6580, h6581, h6582, h6590, h6593, h6595, h6603, h6604, h6607, h6609]
                        repeat with_reducible refine ⟨by first | kernel_rfl | decide, ?_⟩
                        exact cutQ _ ((Wk_le (.r (.r (.r (.r (.r (.r (.r (.r (.r (.k (.k (.k (.k (.k (.k (.r (.r (.r (.r (.r (.r (.r (.r (.r (.r (.k (.k (.k (.k (.r (.r .nil))))))))))))))))))))))))))))))) (OLe.refl _)).trans (cmpS_ok (st' := ⟨[], [(0, .dead), (1, .dead), (2, .dead), (3, .ptr 0 0), (4, .ptr 1 0), (5, .ptr 2 0), (6, .v (.lst false n6559 c6560)), (7, .v (.bool true)), (8, .v (.int .i64 (minI x6556 (IntKind.i64.wrap ((IntKind.i64.wrap (x6570 + ((n6024 : Nat) : Int))) - ((n6565 : Nat) : Int)))))), (9, .dead), (10, .dead), (11, .dead), (12, .dead), (13, .dead), (14, .dead), (15, .dead), (16, .dead), (17, .dead), (18, .dead), (19, .dead), (20, .dead), (21, .dead), (22, .dead), (35, .v (.int .u64 (IntKind.u64.wrap (x6029 + 1)))), (36, .v (.int .u64 (IntKind.u64.wrap (x6557 + 1)))), (37, .dead), (63, .dead), (85, .dead), (100, .dead), (150, .dead), (151, .dead)], [(0, .p [(.int .i64 x5587), (.lst false n6024 c6025)]), (1, .p [(.int .i64 x6020)]), (2, .p [p6021])], 3, []⟩) (by kernel_rfl))) ⟨n, Nat.lt_succ_self n, _, _, _, _, h6710, rfl⟩
              · have hh := brn_some h6710; clear h6710; rcases hh with ⟨h6610, h6710⟩ | ⟨h6610, h6710⟩
                · refine W_sound tab_ok mixed 74 _ _ _ ?_
                  simp -implicitDefEqProofs only [go_sem, qa, qb, qc, qd, qe, qf, qg, qh, qi, qj, qk, ↓reduceIte, h5573, h5583, h5586, h5590, h6022, h6023, h6028, h6558, h6561, h6564, h6569, h6573, h6576, h6578, h6580, h6581, h6582, h6590, h6610]
                  repeat with_reducible refine ⟨by first | kernel_rfl | decide, ?_⟩
                  obtain rfl := Option.some.inj h6710
                  (try dsimp only at h6711)
                  obtain rfl := Option.some.inj h6711
                  exact finC [(2, .v (.bool false))] [(2, .v (.bool false))] (by simp [leE, lk_cons]) (.cons _ _ _ _ _ (.v _ _ (.refl _)) .nil) (by rfl) (by simp [leE, lk_cons]) (by decide) (by decide) rfl (by simp only [go_sem, qa, qb, qc, qd, qe, qf, qg, qh, qi, qj, qk, ↓reduceIte, resQ_tmp, resQ_cell, resQ_nil, retD_one, retD_two, retD_three, retD_none]; try simp [R.val, retD_one, retD_two, retD_three, retD_none])
                · have hh := brn_some h6710; clear h6710; rcases hh with ⟨h6611, h6710⟩ | ⟨h6611, h6710⟩
                  · refine W_sound tab_ok mixed 74 _ _ _ ?_
                    simp -implicitDefEqProofs only [go_sem, qa, qb, qc, qd, qe, qf, qg, qh, qi, qj, qk, ↓reduceIte, h5573, h5583, h5586, h5590, h6022, h6023, h6028, h6558, h6561, h6564, h6569, h6573, h6576, h6578, h6580, h6581, h6582, h6590, h6610, h6611]
                    repeat with_reducible refine ⟨by first | kernel_rfl | decide, ?_⟩
                    obtain rfl := Option.some.inj h6710
                    (try dsimp only at h6711)
                    obtain rfl := Option.some.inj h6711
                    exact finC [(2, .v (.bool false))] [(2, .v (.bool false))] (by simp [leE, lk_cons]) (.cons _ _ _ _ _ (.v _ _ (.refl _)) .nil) (by rfl) (by simp [leE, lk_cons]) (by decide) (by decide) rfl (by simp only [go_sem, qa, qb, qc, qd, qe, qf, qg, qh, qi, qj, qk, ↓reduceIte, resQ_tmp, resQ_cell, resQ_nil, retD_one, retD_two, retD_three, retD_none]; try simp [R.val, retD_one, retD_two, retD_three, retD_none])
                  · have hh := bnd'_some h6710; clear h6710; obtain ⟨p6612, h6613, h6710⟩ := hh
                    refine W_sound tab_ok mixed 62 _ _ _ ?_
                    simp -implicitDefEqProofs only [go_sem, qa, qb, qc, qd, qe, qf, qg, qh, qi, qj, qk, ↓reduceIte, h5573, h5583, h5586, h5590, h6022, h6023, h6028, h6558, h6561, h6564, h6569, h6573, h6576, h6578, h6580, h6581, h6582, h6590, h6610, h6611]
                    repeat with_reducible refine ⟨by first | kernel_rfl | decide, ?_⟩
                    refine Wp_callP (c38 N _ _ _ h6613) (by kernel_rfl) rfl rfl rfl rfl (by decide) ?_
                    have hh := getI_some h6710; clear h6710; obtain ⟨x6615, h6614, h6710⟩ := hh
                    have hh := brn_some h6710; clear h6710; rcases hh with ⟨h6616, h6710⟩ | ⟨h6616, h6710⟩
                    · refine W_sound tab_ok mixed 11 _ _ _ ?_
                      simp -implicitDefEqProofs only [go_sem, qa, qb, qc, qd, qe, qf, qg, qh, qi, qj, qk, ↓reduceIte, h5573, h5583, h5586, h5590, h6022, h6023, h6028, h6558, h6561, h6564, h6569, h6573, h6576, h6578, h6580, h6581, h6582, h6590, h6610, h6611, h6614, h6616]
                      repeat with_reducible refine ⟨by first | kernel_rfl | decide, ?_⟩
                      obtain rfl := Option.some.inj h6710
                      (try dsimp only at h6711)
                      obtain rfl := Option.some.inj h6711
                      exact finC [(2, .v (.bool false))] [(2, .v (.bool false))] (by simp [leE, lk_cons]) (.cons _ _ _ _ _ (.v _ _ (.refl _)) .nil) (by rfl) (by simp [leE, lk_cons]) (by decide) (by decide) rfl (by simp only [go_sem, qa, qb, qc, qd, qe, qf, qg, qh, qi, qj, qk, ↓reduceIte, resQ_tmp, resQ_cell, resQ_nil, retD_one, retD_two, retD_three, retD_none]; try simp [R.val, retD_one, retD_two, retD_three, retD_none])
                    · refine W_sound tab_ok mixed 11 _ _ _ ?_
                      simp -implicitDefEqProofs only [go_sem, qa, qb, qc, qd, qe, qf, qg, qh, qi, qj, qk, ↓reduceIte, h5573, h5583, h5586, h5590, h6022, h6023, h6028, h6558, h6561, h6564, h6569, h6573, h6576, h6578, h6580, h6581, h6582, h6590, h6610, h6611, h6614, h6616]
                      repeat with_reducible refine ⟨by first | kernel_rfl | decide, ?_⟩
                      exact cutQ _ ((Wk_le (.r (.r (.r (.r (.r (.r (.r (.r (.r (.k (.k (.k (.k (.k (.k (.r (.r (.r (.r (.r (.r (.r (.r (.r (.r (.k (.k (.k (.k (.r (.r .nil))))))))))))))))))))))))))))))) (OLe.refl _)).trans (cmpS_ok (st' := ⟨[], [(0, .dead), (1, .dead), (2, .dead), (3, .ptr 0 0), (4, .ptr 1 0), (5, .ptr 2 0), (6, .v (.lst false n6559 c6560)), (7, .v (.bool true)), (8, .v (.int .i64 (minI x6556 (IntKind.i64.wrap ((IntKind.i64.wrap (x6570 + ((n6024 : Nat) : Int))) - ((n6565 : Nat) : Int)))))), (9, .dead), (10, .dead), (11, .dead), (12, .dead), (13, .dead), (14, .dead), (15, .dead), (16, .dead), (17, .dead), (18, .dead), (19, .dead), (20, .dead), (21, .dead), (22, .dead), (35, .v (.int .u64 (IntKind.u64.wrap (x6029 + 1)))), (36, .v (.int .u64 (IntKind.u64.wrap (x6557 + 1)))), (37, .dead), (63, .dead), (85, .dead), (100, .dead), (150, .dead), (151, .dead)], [(0, .p [(.int .i64 x5587), (.lst false n6024 c6025)]), (1, .p [(.int .i64 x6020)]), (2, .p [p6021])], 3, []⟩) (by kernel_rfl))) ⟨n, Nat.lt_succ_self n, _, _, _, _, h6710, rfl⟩
          · have hh := brn_some h6710; clear h6710; rcases hh with ⟨h6617, h6710⟩ | ⟨h6617, h6710⟩
            · refine W_sound tab_ok mixed 78 _ _ _ ?_
              simp -implicitDefEqProofs only [go_sem, qa, qb, qc, qd, qe, qf, qg, qh, qi, qj, qk, ↓reduceIte, h5573, h5583, h5586, h5590, h6022, h6023, h6028, h6558, h6561, h6564, h6569, h6573, h6576, h6578, h6580, h6581, h6617]
              repeat with_reducible refine ⟨by first | kernel_rfl | decide, ?_⟩
              obtain rfl := Option.some.inj h6710
              (try dsimp only at h6711)
              obtain rfl := Option.some.inj h6711
              exact finC [(2, .v (.bool false))] [(2, .v (.bool false))] (by simp [leE, lk_cons]) (.cons _ _ _ _ _ (.v _ _ (.refl _)) .nil) (by rfl) (by simp [leE, lk_cons]) (by decide) (by decide) rfl (by simp only [go_sem, qa, qb, qc, qd, qe, qf, qg, qh, qi, qj, qk, ↓reduceIte, resQ_tmp, resQ_cell, resQ_nil, retD_one, retD_two, retD_three, retD_none]; try simp [R.val, retD_one, retD_two, retD_three, retD_none])
            · have hh := brn_some h6710; clear h6710; rcases hh with ⟨h6618, h6710⟩ | ⟨h6618, h6710⟩
              · refine W_sound tab_ok mixed 78 _ _ _ ?_
                simp -implicitDefEqProofs only [go_sem, qa, qb, qc, qd, qe, qf, qg, qh, qi, qj, qk, ↓reduceIte, h5573, h5583, h5586, h5590, h6022, h6023, h6028, h6558, h6561, h6564, h6569, h6573, h6576, h6578, h6580, h6581, h6617, h6618]
                repeat with_reducible refine ⟨by first | kernel_rfl | decide, ?_⟩
                obtain rfl := Option.some.inj h6710
                (try dsimp only at h6711)
                obtain rfl := Option.some.inj h6711
                exact finC [(2, .v (.bool false))] [(2, .v (.bool false))] (by simp [leE, lk_cons]) (.cons _ _ _ _ _ (.v _ _ (.refl _)) .nil) (by rfl) (by simp [leE, lk_cons]) (by decide) (by decide) rfl (by simp only [go_sem, qa, qb, qc, qd, qe, qf, qg, qh, qi, qj, qk, ↓reduceIte, resQ_tmp, resQ_cell, resQ_nil, retD_one, retD_two, retD_three, retD_none]; try simp [R.val, retD_one, retD_two, retD_three, retD_none])
              · have hh := bnd'_some h6710; clear h6710; obtain ⟨p6619, h6620, h6710⟩ := hh
                refine W_sound tab_ok mixed 66 _ _ _ ?_
                simp -implicitDefEqProofs only [go_sem, qa, qb, qc, qd, qe, qf, qg, qh, qi, qj, qk, ↓reduceIte, h5573, h5583, h5586, h5590, h6022, h6023, h6028, h6558, h6561, h6564, h6569, h6573, h6576, h6578, h6580, h6581, h6617, h6618]
                repeat with_reducible refine ⟨by first | kernel_rfl | decide, ?_⟩
                refine Wp_callP (c38 N _ _ _ h6620) (by kernel_rfl) rfl rfl rfl rfl (by decide) ?_
                have hh := getI_some h6710; clear h6710; obtain ⟨x6622, h6621, h6710⟩ := hh
                have hh := brn_some h6710; clear h6710; rcases hh with ⟨h6623, h6710⟩ | ⟨h6623, h6710⟩
                · refine W_sound tab_ok mixed 11 _ _ _ ?_
                  simp -implicitDefEqProofs only [go_sem, qa, qb, qc, qd, qe, qf, qg, qh, qi, qj, qk, ↓reduceIte, h5573, h5583, h5586, h5590, h6022, h6023, h6028, h6558, h6561, h6564, h6569, h6573, h6576, h6578, h6580, h6581, h6617, h6618, h6621, h6623]
                  repeat with_reducible refine ⟨by first | kernel_rfl | decide, ?_⟩
                  obtain rfl := Option.some.inj h6710
                  (try dsimp only at h6711)
                  obtain rfl := Option.some.inj h6711
                  exact finC [(2, .v (.bool false))] [(2, .v (.bool false))] (by simp [leE, lk_cons]) (.cons _ _ _ _ _ (.v _ _ (.refl _)) .nil) (by rfl) (by simp [leE, lk_cons]) (by decide) (by decide) rfl (by simp only [go_sem, qa, qb, qc, qd, qe, qf, qg, qh, qi, qj, qk, ↓reduceIte, resQ_tmp, resQ_cell, resQ_nil, retD_one, retD_two, retD_three, retD_none]; try simp [R.val, retD_one, retD_two, retD_three, retD_none])
                · refine W_sound tab_ok mixed 11 _ _ _ ?_
                  simp -implicitDefEqProofs only [go_sem, qa, qb, qc, qd, qe, qf, qg, qh, qi, qj, qk, ↓reduceIte, h5573, h5583, h5586, h5590, h6022, h6023, h6028, h6558, h6561, h6564, h6569, h6573, h6576, h6578, h6580, h6581, h6617, h6618, h6621, h6623]
                  repeat with_reducible refine ⟨by first | kernel_rfl | decide, ?_⟩
                  exact cutQ _ ((Wk_le (.r (.r (.r (.r (.r (.r (.r (.r (.r (.k (.k (.k (.k (.k (.k (.r (.r (.r (.r (.r (.r (.r (.r (.r (.r (.k (.k (.k (.k (.r (.r .nil))))))))))))))))))))))))))))))) (OLe.refl _)).trans (cmpS_ok (st' := ⟨[], [(0, .dead), (1, .dead), (2, .dead), (3, .ptr 0 0), (4, .ptr 1 0), (5, .ptr 2 0), (6, .v (.lst false n6565 c6566)), (7, .v (.bool true)), (8, .v (.int .i64 (minI x6556 (IntKind.i64.wrap ((IntKind.i64.wrap (x6570 + ((n6024 : Nat) : Int))) - ((n6565 : Nat) : Int)))))), (9, .dead), (10, .dead), (11, .dead), (12, .dead), (13, .dead), (14, .dead), (15, .dead), (16, .dead), (17, .dead), (18, .dead), (19, .dead), (20, .dead), (21, .dead), (22, .dead), (35, .v (.int .u64 (IntKind.u64.wrap (x6029 + 1)))), (36, .v (.int .u64 (IntKind.u64.wrap (x6557 + 1)))), (37, .dead), (63, .dead), (85, .dead), (100, .dead), (150, .dead), (151, .dead)], [(0, .p [(.int .i64 x5587), (.lst false n6024 c6025)]), (1, .p [(.int .i64 x6020)]), (2, .p [p6021])], 3, []⟩) (by kernel_rfl))) ⟨n, Nat.lt_succ_self n, _, _, _, _, h6710, rfl⟩
        · have hh := brn_some h6710; clear h6710; rcases hh with ⟨h6624, h6710⟩ | ⟨h6624, h6710⟩
          · refine W_sound tab_ok mixed 44 _ _ _ ?_
            simp -implicitDefEqProofs only [go_sem, qa, qb, qc, qd, qe, qf, qg, qh, qi, qj, qk, ↓reduceIte, h5573, h5583, h5586, h5590, h6022, h6023, h6028, h6558, h6561, h6564, h6569, h6573, h6576, h6578, h6580, h6624]
            repeat with_reducible refine ⟨by first | kernel_rfl | decide, ?_⟩
            obtain rfl := Option.some.inj h6710
            (try dsimp only at h6711)
            obtain rfl := Option.some.inj h6711
            exact finC [(2, .v (.bool false))] [(2, .v (.bool false))] (by simp [leE, lk_cons]) (.cons _ _ _ _ _ (.v _ _ (.refl _)) .nil) (by rfl) (by simp [leE, lk_cons]) (by decide) (by decide) rfl (by simp only [go_sem, qa, qb, qc, qd, qe, qf, qg, qh, qi, qj, qk, ↓reduceIte, resQ_tmp, resQ_cell, resQ_nil, retD_one, retD_two, retD_three, retD_none]; try simp [R.val, retD_one, retD_two, retD_three, retD_none])
          · have hh := brn_some h6710; clear h6710; rcases hh with ⟨h6625, h6710⟩ | ⟨h6625, h6710⟩
            · refine W_sound tab_ok mixed 44 _ _ _ ?_
              simp -implicitDefEqProofs only [go_sem, qa, qb, qc, qd, qe, qf, qg, qh, qi, qj, qk, ↓reduceIte, h5573, h5583, h5586, h5590, h6022, h6023, h6028, h6558, h6561, h6564, h6569, h6573, h6576, h6578, h6580, h6624, h6625]
              repeat with_reducible refine ⟨by first | kernel_rfl | decide, ?_⟩
              obtain rfl := Option.some.inj h6710
              (try dsimp only at h6711)
              obtain rfl := Option.some.inj h6711
              exact finC [(2, .v (.bool false))] [(2, .v (.bool false))] (by simp [leE, lk_cons]) (.cons _ _ _ _ _ (.v _ _ (.refl _)) .nil) (by rfl) (by simp [leE, lk_cons]) (by decide) (by decide) rfl (by simp only [go_sem, qa, qb, qc, qd, qe, qf, qg, qh, qi, qj, qk, ↓reduceIte, resQ_tmp, resQ_cell, resQ_nil, retD_one, retD_two, retD_three, retD_none]; try simp [R.val, retD_one, retD_two, retD_three, retD_none])
            · have hh := bnd'_some h6710; clear h6710; obtain ⟨p6626, h6627, h6710⟩ := hh
              refine W_sound tab_ok mixed 32 _ _ _ ?_
              simp -implicitDefEqProofs only [go_sem, qa, qb, qc, qd, qe, qf, qg, qh, qi, qj, qk, ↓reduceIte, h5573, h5583, h5586, h5590, h6022, h6023, h6028, h6558, h6561, h6564, h6569, h6573, h6576, h6578, h6580, h6624, h6625]
              repeat with_reducible refine ⟨by first | kernel_rfl | decide, ?_⟩
              refine Wp_callP (c38 N _ _ _ h6627) (by kernel_rfl) rfl rfl rfl rfl (by decide) ?_
              have hh := getI_some h6710; clear h6710; obtain ⟨x6629, h6628, h6710⟩ := hh
              have hh := brn_some h6710; clear h6710; rcases hh with ⟨h6630, h6710⟩ | ⟨h6630, h6710⟩
              · refine W_sound tab_ok mixed 11 _ _ _ ?_
                simp -implicitDefEqProofs only [go_sem, qa, qb, qc, qd, qe, qf, qg, qh, qi, qj, qk, ↓reduceIte, h5573, h5583, h5586, h5590, h6022, h6023, h6028, h6558, h6561, h6564, h6569, h6573, h6576, h6578, h6580, h6624, h6625, h6628, h6630]
                repeat with_reducible refine ⟨by first | kernel_rfl | decide, ?_⟩
                obtain rfl := Option.some.inj h6710
                (try dsimp only at h6711)
                obtain rfl := Option.some.inj h6711
                exact finC [(2, .v (.bool false))] [(2, .v (.bool false))] (by simp [leE, lk_cons]) (.cons _ _ _ _ _ (.v _ _ (.refl _)) .nil) (by rfl) (by simp [leE, lk_cons]) (by decide) (by decide) rfl (by simp only [go_sem, qa, qb, qc, qd, qe, qf, qg, qh, qi, qj, qk, ↓reduceIte, resQ_tmp, resQ_cell, resQ_nil, retD_one, retD_two, retD_three, retD_none]; try simp [R.val, retD_one, retD_two, retD_three, retD_none])
              · refine W_sound tab_ok mixed 11 _ _ _ ?_
                simp -implicitDefEqProofs only [go_sem, qa, qb, qc, qd, qe, qf, qg, qh, qi, qj, qk, ↓reduceIte, h5573, h5583, h5586, h5590, h6022, h6023, h6028, h6558, h6561, h6564, h6569, h6573, h6576, h6578, h6580, h6624, h6625, h6628, h6630]
                repeat with_reducible refine ⟨by first | kernel_rfl | decide, ?_⟩
                exact cutQ _ ((Wk_le (.r (.r (.r (.r (.r (.r (.r (.r (.r (.k (.k (.k (.k (.k (.k (.r (.r (.r (.r (.r (.r (.r (.r (.r (.r (.k (.k (.r (.k (.r (.r .nil))))))))))))))))))))))))))))))) (OLe.refl _)).trans (cmpS_ok (st' := ⟨[], [(0, .dead), (1, .dead), (2, .dead), (3, .ptr 0 0), (4, .ptr 1 0), (5, .ptr 2 0), (6, .v (.lst false n6559 c6560)), (7, .v (.bool b6555)), (8, .v (.int .i64 (minI x6556 (IntKind.i64.wrap ((IntKind.i64.wrap (x6570 + ((n6024 : Nat) : Int))) - ((n6565 : Nat) : Int)))))), (9, .dead), (10, .dead), (11, .dead), (12, .dead), (13, .dead), (14, .dead), (15, .dead), (16, .dead), (17, .dead), (18, .dead), (19, .dead), (20, .dead), (21, .dead), (22, .dead), (35, .v (.int .u64 (IntKind.u64.wrap (x6029 + 1)))), (36, .v (.int .u64 (IntKind.u64.wrap (x6557 + 1)))), (37, .dead), (63, .dead), (85, .dead), (100, .dead), (150, .dead), (151, .dead)], [(0, .p [(.int .i64 x5587), (.lst false n6024 c6025)]), (1, .p [(.int .i64 x6020)]), (2, .p [p6021])], 3, []⟩) (by kernel_rfl))) ⟨n, Nat.lt_succ_self n, _, _, _, _, h6710, rfl⟩
      · refine W_sound tab_ok mixed 7 _ _ _ ?_
        simp -implicitDefEqProofs only [go_sem, qa, qb, qc, qd, qe, qf, qg, qh, qi, qj, qk, ↓reduceIte, h5573, h5583, h5586, h5590, h6022, h6023, h6028, h6558, h6561]
        repeat with_reducible refine ⟨by first | kernel_rfl | decide, ?_⟩
        obtain rfl := Option.some.inj h6710
        exact cutQ _ ((Wk_le (.r (.r (.r (.r (.r (.r (.r (.r (.r (.r (.r (.r (.r (.r (.r (.r (.r (.r (.r (.r (.r (.r (.r (.k (.k (.k (.r (.r (.r (.r (.r .nil))))))))))))))))))))))))))))))) (OLe.refl _)).trans (cmpS_ok (st' := ⟨[], [(0, .dead), (1, .dead), (2, .dead), (3, .ptr 0 0), (4, .ptr 1 0), (5, .ptr 2 0), (6, .v (.lst false n6559 c6560)), (7, .v (.bool b6555)), (8, .v (.int .i64 x6556)), (9, .dead), (10, .dead), (11, .dead), (12, .dead), (13, .dead), (14, .dead), (15, .dead), (16, .dead), (17, .dead), (18, .dead), (19, .dead), (20, .dead), (21, .dead), (22, .dead), (35, .dead), (36, .dead), (37, .dead), (63, .dead), (85, .dead), (100, .dead), (150, .dead), (151, .dead)], [(0, .p [(.int .i64 x5587), (.lst false n6024 c6025)]), (1, .p [(.int .i64 x6020)]), (2, .p [p6021])], 3, []⟩) (by kernel_rfl))) ⟨_, _, _, rfl, rfl⟩
  · rintro _ ⟨p6632, b6633, x6634, rfl, rfl⟩
    (try dsimp only at h6711)
    have hh := getL_some h6711; clear h6711; obtain ⟨n6636, c6637, h6635, h6711⟩ := hh
    have hh := bnd'_some h6711; clear h6711; obtain ⟨p6638, h6639, h6711⟩ := hh
    refine W_sound tab_ok mixed 3 _ _ _ ?_
    simp -implicitDefEqProofs only [go_sem, qa, qb, qc, qd, qe, qf, qg, qh, qi, qj, qk, ↓reduceIte, h5573, h5583, h5586, h5590, h6022, h6023, h6028, h6635]
    repeat with_reducible refine ⟨by first | kernel_rfl | decide, ?_⟩
    refine Wp_callP (c26 N _ _ h6639) (by kernel_rfl) rfl rfl rfl rfl (by decide) ?_
    have hh := getT2_some h6711; clear h6711; obtain ⟨p6641, p6642, h6640, h6711⟩ := hh
    have hh := getL_some h6711; clear h6711; obtain ⟨n6644, c6645, h6643, h6711⟩ := hh
    have hh := getI_some h6711; clear h6711; obtain ⟨x6647, h6646, h6711⟩ := hh
    have hh := bnd'_some h6711; clear h6711; obtain ⟨p6648, h6649, h6711⟩ := hh
    refine W_sound tab_ok mixed 9 _ _ _ ?_
    simp -implicitDefEqProofs only [go_sem, qa, qb, qc, qd, qe, qf, qg, qh, qi, qj, qk, ↓reduceIte, h5573, h5583, h5586, h5590, h6022, h6023, h6028, h6635, h6640, h6643, h6646]
    repeat with_reducible refine ⟨by first | kernel_rfl | decide, ?_⟩
    refine Wp_callP (c28 N _ _ h6649) (by kernel_rfl) rfl rfl rfl rfl (by decide) ?_
    have hh := getT2_some h6711; clear h6711; obtain ⟨p6651, p6652, h6650, h6711⟩ := hh
    have hh := getI_some h6711; clear h6711; obtain ⟨x6654, h6653, h6711⟩ := hh
    have hh := getI_some h6711; clear h6711; obtain ⟨x6656, h6655, h6711⟩ := hh
    have hh := bnd'_some h6711; clear h6711; obtain ⟨p6657, h6658, h6711⟩ := hh
    refine W_sound tab_ok mixed 9 _ _ _ ?_
    simp -implicitDefEqProofs only [go_sem, qa, qb, qc, qd, qe, qf, qg, qh, qi, qj, qk, ↓reduceIte, h5573, h5583, h5586, h5590, h6022, h6023, h6028, h6635, h6640, h6643, h6646, h6650, h6653, h6655]
    repeat with_reducible refine ⟨by first | kernel_rfl | decide, ?_⟩
    refine Wp_callP (c36 N _ _ h6658) (by kernel_rfl) rfl rfl rfl rfl (by decide) ?_
    have hh := getT2_some h6711; clear h6711; obtain ⟨p6660, p6661, h6659, h6711⟩ := hh
    have hh := getL_some h6711; clear h6711; obtain ⟨n6663, c6664, h6662, h6711⟩ := hh
    have hh := getI_some h6711; clear h6711; obtain ⟨x6666, h6665, h6711⟩ := hh
    have hh := bnd'_some h6711; clear h6711; obtain ⟨p6667, h6668, h6711⟩ := hh
    refine W_sound tab_ok mixed 9 _ _ _ ?_
    simp -implicitDefEqProofs only [go_sem, qa, qb, qc, qd, qe, qf, qg, qh, qi, qj, qk, ↓reduceIte, h5573, h5583, h5586, h5590, h6022, h6023, h6028, h6635, h6640, h6643, h6646, h6650, h6653, h6655, h6659, h6662, h6665]
    repeat with_reducible refine ⟨by first | kernel_rfl | decide, ?_⟩
    refine Wp_callP (c32 N _ _ h6668) (by kernel_rfl) rfl rfl rfl rfl (by decide) ?_
    have hh := getT2_some h6711; clear h6711; obtain ⟨p6670, p6671, h6669, h6711⟩ := hh
    have hh := getL_some h6711; clear h6711; obtain ⟨n6673, c6674, h6672, h6711⟩ := hh
    have hh := getI_some h6711; clear h6711; obtain ⟨x6676, h6675, h6711⟩ := hh
    have hh := brn_some h6711; clear h6711; rcases hh with ⟨h6677, h6711⟩ | ⟨h6677, h6711⟩
    · refine W_sound tab_ok mixed 46 _ _ _ ?_
      simp -implicitDefEqProofs only [go_sem, qa, qb, qc, qd, qe, qf, qg, qh, qi, qj, qk, ↓reduceIte, h5573, h5583, h5586, h5590, h6022, h6023, h6028, h6635, h6640, h6643, h6646, h6650, h6653, h6655, h6659, h6662, h6665, h6669, h6672, h6675, h6677]
      repeat with_reducible refine ⟨by first | kernel_rfl | decide, ?_⟩
      obtain rfl := Option.some.inj h6711
      exact finC [(2, .v (.bool false))] [(2, .v (.bool false))] (by simp [leE, lk_cons]) (.cons _ _ _ _ _ (.v _ _ (.refl _)) .nil) (by rfl) (by simp [leE, lk_cons]) (by decide) (by decide) rfl (by simp only [go_sem, qa, qb, qc, qd, qe, qf, qg, qh, qi, qj, qk, ↓reduceIte, resQ_tmp, resQ_cell, resQ_nil, retD_one, retD_two, retD_three, retD_none]; try simp [R.val, retD_one, retD_two, retD_three, retD_none])
    · have hh := brn_some h6711; clear h6711; rcases hh with ⟨h6678, h6711⟩ | ⟨h6678, h6711⟩
      · refine W_sound tab_ok mixed 46 _ _ _ ?_
        simp -implicitDefEqProofs only [go_sem, qa, qb, qc, qd, qe, qf, qg, qh, qi, qj, qk, ↓reduceIte, h5573, h5583, h5586, h5590, h6022, h6023, h6028, h6635, h6640, h6643, h6646, h6650, h6653, h6655, h6659, h6662, h6665, h6669, h6672, h6675, h6677, h6678]
        repeat with_reducible refine ⟨by first | kernel_rfl | decide, ?_⟩
        obtain rfl := Option.some.inj h6711
        exact finC [(2, .v (.bool false))] [(2, .v (.bool false))] (by simp [leE, lk_cons]) (.cons _ _ _ _ _ (.v _ _ (.refl _)) .nil) (by rfl) (by simp [leE, lk_cons]) (by decide) (by decide) rfl (by simp only [go_sem, qa, qb, qc, qd, qe, qf, qg, qh, qi, qj, qk, ↓reduceIte, resQ_tmp, resQ_cell, resQ_nil, retD_one, retD_two, retD_three, retD_none]; try simp [R.val, retD_one, retD_two, retD_three, retD_none])
      · have hh := brn_some h6711; clear h6711; rcases hh with ⟨h6679, h6711⟩ | ⟨h6679, h6711⟩
        · refine W_sound tab_ok mixed 46 _ _ _ ?_
          simp -implicitDefEqProofs only [go_sem, qa, qb, qc, qd, qe, qf, qg, qh, qi, qj, qk, ↓reduceIte, h5573, h5583, h5586, h5590, h6022, h6023, h6028, h6635, h6640, h6643, h6646, h6650, h6653, h6655, h6659, h6662, h6665, h6669, h6672, h6675, h6677, h6678, h6679]
          repeat with_reducible refine ⟨by first | kernel_rfl | decide, ?_⟩
          obtain rfl := Option.some.inj h6711
          exact finC [(2, .v (.bool false))] [(2, .v (.bool false))] (by simp [leE, lk_cons]) (.cons _ _ _ _ _ (.v _ _ (.refl _)) .nil) (by rfl) (by simp [leE, lk_cons]) (by decide) (by decide) rfl (by simp only [go_sem, qa, qb, qc, qd, qe, qf, qg, qh, qi, qj, qk, ↓reduceIte, resQ_tmp, resQ_cell, resQ_nil, retD_one, retD_two, retD_three, retD_none]; try simp [R.val, retD_one, retD_two, retD_three, retD_none])
        · have hh := brn_some h6711; clear h6711; rcases hh with ⟨h6680, h6711⟩ | ⟨h6680, h6711⟩
          · refine W_sound tab_ok mixed 46 _ _ _ ?_
            simp -implicitDefEqProofs only [go_sem, qa, qb, qc, qd, qe, qf, qg, qh, qi, qj, qk, ↓reduceIte, h5573, h5583, h5586, h5590, h6022, h6023, h6028, h6635, h6640, h6643, h6646, h6650, h6653, h6655, h6659, h6662, h6665, h6669, h6672, h6675, h6677, h6678, h6679, h6680]
            repeat with_reducible refine ⟨by first | kernel_rfl | decide, ?_⟩
            obtain rfl := Option.some.inj h6711
            exact finC [(2, .v (.bool false))] [(2, .v (.bool false))] (by simp [leE, lk_cons]) (.cons _ _ _ _ _ (.v _ _ (.refl _)) .nil) (by rfl) (by simp [leE, lk_cons]) (by decide) (by decide) rfl (by simp only [go_sem, qa, qb, qc, qd, qe, qf, qg, qh, qi, qj, qk, ↓reduceIte, resQ_tmp, resQ_cell, resQ_nil, retD_one, retD_two, retD_three, retD_none]; try simp [R.val, retD_one, retD_two, retD_three, retD_none])
          · have hh := brn_some h6711; clear h6711; rcases hh with ⟨h6681, h6711⟩ | ⟨h6681, h6711⟩
            · refine W_sound tab_ok mixed 46 _ _ _ ?_
              simp -implicitDefEqProofs only [go_sem, qa, qb, qc, qd, qe, qf, qg, qh, qi, qj, qk, ↓reduceIte, h5573, h5583, h5586, h5590, h6022, h6023, h6028, h6635, h6640, h6643, h6646, h6650, h6653, h6655, h6659, h6662, h6665, h6669, h6672, h6675, h6677, h6678, h6679, h6680, h6681]
              repeat with_reducible refine ⟨by first | kernel_rfl | decide, ?_⟩
              obtain rfl := Option.some.inj h6711
              exact finC [(2, .v (.bool false))] [(2, .v (.bool false))] (by simp [leE, lk_cons]) (.cons _ _ _ _ _ (.v _ _ (.refl _)) .nil) (by rfl) (by simp [leE, lk_cons]) (by decide) (by decide) rfl (by simp only [go_sem, qa, qb, qc, qd, qe, qf, qg, qh, qi, qj, qk, ↓reduceIte, resQ_tmp, resQ_cell, resQ_nil, retD_one, retD_two, retD_three, retD_none]; try simp [R.val, retD_one, retD_two, retD_three, retD_none])
            · have hh := bnd'_some h6711; clear h6711; obtain ⟨p6682, h6683, h6711⟩ := hh
              refine W_sound tab_ok mixed 35 _ _ _ ?_
              simp -implicitDefEqProofs only [go_sem, qa, qb, qc, qd, qe, qf, qg, qh, qi, qj, qk, ↓reduceIte, h5573, h5583, h5586, h5590, h6022, h6023, h6028, h6635, h6640, h6643, h6646, h6650, h6653, h6655, h6659, h6662, h6665, h6669, h6672, h6675, h6677, h6678, h6679, h6680, h6681]
              repeat with_reducible refine ⟨by first | kernel_rfl | decide, ?_⟩
              refine Wp_callP (c21 N _ _ _ h6683) (by kernel_rfl) rfl rfl rfl rfl (by decide) ?_
              have hh := getB_some h6711; clear h6711; obtain ⟨b6685, h6684, h6711⟩ := hh
              have hh := brn_some h6711; clear h6711; rcases hh with ⟨h6686, h6711⟩ | ⟨h6686, h6711⟩
              · have hh := brn_some h6711; clear h6711; rcases hh with ⟨h6687, h6711⟩ | ⟨h6687, h6711⟩
                · have hh := brn_some h6711; clear h6711; rcases hh with ⟨h6688, h6711⟩ | ⟨h6688, h6711⟩
                  · have hh := brn_some h6711; clear h6711; rcases hh with ⟨h6689, h6711⟩ | ⟨h6689, h6711⟩
                    · have hh := brn_some h6711; clear h6711; rcases hh with ⟨h6690, h6711⟩ | ⟨h6690, h6711⟩
                      · have hh := bnd'_some h6711; clear h6711; obtain ⟨p6691, h6692, h6711⟩ := hh
                        refine W_sound tab_ok mixed 25 _ _ _ ?_
                        simp -implicitDefEqProofs only [go_sem, qa, qb, qc, qd, qe, qf, qg, qh, qi, qj, qk, ↓reduceIte, h5573, h5583, h5586, h5590, h6022, h6023, h6028, h6635, h6640, h6643, h6646, h6650, h6653, h6655, h6659, h6662, h6665, h6669, h6672, h6675, h6677, h6678, h6679, h6680, h6681, h6684, h6686, h6687, h6688, h6689, h6690]
                        repeat with_reducible refine ⟨by first | kernel_rfl | decide, ?_⟩
                        refine Wp_callP (c16 N  _ h6692) (by kernel_rfl) rfl rfl rfl rfl (by decide) ?_
                        have hh := getB_some h6711; clear h6711; obtain ⟨b6694, h6693, h6711⟩ := hh
                        refine W_sound tab_ok mixed 5 _ _ _ ?_
                        simp -implicitDefEqProofs only [go_sem, qa, qb, qc, qd, qe, qf, qg, qh, qi, qj, qk, ↓reduceIte, h5573, h5583, h5586, h5590, h6022, h6023, h6028, h6635, h6640, h6643, h6646, h6650, h6653, h6655, h6659, h6662, h6665, h6669, h6672, h6675, h6677, h6678, h6679, h6680, h6681, h6684, h6686, h6687, h6688, h6689, h6690, h6693]
                        repeat with_reducible refine ⟨by first | kernel_rfl | decide, ?_⟩
                        obtain rfl := Option.some.inj h6711
                        exact finC [(2, .v (.bool b6694))] [(2, .v (.bool b6694))] (by simp [leE, lk_cons]) (.cons _ _ _ _ _ (.v _ _ (.refl _)) .nil) (by rfl) (by simp [leE, lk_cons]) (by decide) (by decide) rfl (by simp only [go_sem, qa, qb, qc, qd, qe, qf, qg, qh, qi, qj, qk, ↓reduceIte, resQ_tmp, resQ_cell, resQ_nil, retD_one, retD_two, retD_three, retD_none]; try simp [R.val, retD_one, retD_two, retD_three, retD_none])
                      · refine W_sound tab_ok mixed 31 _ _ _ ?_
                        simp -implicitDefEqProofs only [go_sem, qa, qb, qc, qd, qe, qf, qg, qh, qi, qj, qk, ↓reduceIte, h5573, h5583, h5586, h5590, h6022, h6023, h6028, h6635, h6640, h6643, h6646, h6650, h6653, h6655, h6659, h6662, h6665, h6669, h6672, h6675, h6677, h6678, h6679, h6680, h6681, h6684, h6686, h6687, h6688, h6689, h6690]
                        repeat with_reducible refine ⟨by first | kernel_rfl | decide, ?_⟩
                        obtain rfl := Option.some.inj h6711
                        exact finC [(2, .v (.bool false))] [(2, .v (.bool false))] (by simp [leE, lk_cons]) (.cons _ _ _ _ _ (.v _ _ (.refl _)) .nil) (by rfl) (by simp [leE, lk_cons]) (by decide) (by decide) rfl (by simp only [go_sem, qa, qb, qc, qd, qe, qf, qg, qh, qi, qj, qk, ↓reduceIte, resQ_tmp, resQ_cell, resQ_nil, retD_one, retD_two, retD_three, retD_none]; try simp [R.val, retD_one, retD_two, retD_three, retD_none])
                    · refine W_sound tab_ok mixed 31 _ _ _ ?_
                      simp -implicitDefEqProofs only [go_sem, qa, qb, qc, qd, qe, qf, qg, qh, qi, qj, qk, ↓reduceIte, h5573, h5583, h5586, h5590, h6022, h6023, h6028, h6635, h6640, h6643, h6646, h6650, h6653, h6655, h6659, h6662, h6665, h6669, h6672, h6675, h6677, h6678, h6679, h6680, h6681, h6684, h6686, h6687, h6688, h6689]
                      repeat with_reducible refine ⟨by first | kernel_rfl | decide, ?_⟩
                      obtain rfl := Option.some.inj h6711
                      exact finC [(2, .v (.bool false))] [(2, .v (.bool false))] (by simp [leE, lk_cons]) (.cons _ _ _ _ _ (.v _ _ (.refl _)) .nil) (by rfl) (by simp [leE, lk_cons]) (by decide) (by decide) rfl (by simp only [go_sem, qa, qb, qc, qd, qe, qf, qg, qh, qi, qj, qk, ↓reduceIte, resQ_tmp, resQ_cell, resQ_nil, retD_one, retD_two, retD_three, retD_none]; try simp [R.val, retD_one, retD_two, retD_three, retD_none])
                  · refine W_sound tab_ok mixed 31 _ _ _ ?_
                    simp -implicitDefEqProofs only [go_sem, qa, qb, qc, qd, qe, qf, qg, qh, qi, qj, qk, ↓reduceIte, h5573, h5583, h5586, h5590, h6022, h6023, h6028, h6635, h6640, h6643, h6646, h6650, h6653, h6655, h6659, h6662, h6665, h6669, h6672, h6675, h6677, h6678, h6679, h6680, h6681, h6684, h6686, h6687, h6688]
                    repeat with_reducible refine ⟨by first | kernel_rfl | decide, ?_⟩
                    obtain rfl := Option.some.inj h6711
                    exact finC [(2, .v (.bool false))] [(2, .v (.bool false))] (by simp [leE, lk_cons]) (.cons _ _ _ _ _ (.v _ _ (.refl _)) .nil) (by rfl) (by simp [leE, lk_cons]) (by decide) (by decide) rfl (by simp only [go_sem, qa, qb, qc, qd, qe, qf, qg, qh, qi, qj, qk, ↓reduceIte, resQ_tmp, resQ_cell, resQ_nil, retD_one, retD_two, retD_three, retD_none]; try simp [R.val, retD_one, retD_two, retD_three, retD_none])
                · have hh := brn_some h6711; clear h6711; rcases hh with ⟨h6695, h6711⟩ | ⟨h6695, h6711⟩
                  · have hh := getL_some h6711; clear h6711; obtain ⟨n6697, c6698, h6696, h6711⟩ := hh
                    have hh := bnd'_some h6711; clear h6711; obtain ⟨p6699, h6700, h6711⟩ := hh
                    refine W_sound tab_ok mixed 19 _ _ _ ?_
                    simp -implicitDefEqProofs only [go_sem, qa, qb, qc, qd, qe, qf, qg, qh, qi, qj, qk, ↓reduceIte, h5573, h5583, h5586, h5590, h6022, h6023, h6028, h6635, h6640, h6643, h6646, h6650, h6653, h6655, h6659, h6662, h6665, h6669, h6672, h6675, h6677, h6678, h6679, h6680, h6681, h6684, h6686, h6687, h6695, h6696]
                    repeat with_reducible refine ⟨by first | kernel_rfl | decide, ?_⟩
                    refine Wp_callP (c21 N _ _ _ h6700) (by kernel_rfl) rfl rfl rfl rfl (by decide) ?_
                    have hh := getB_some h6711; clear h6711; obtain ⟨b6702, h6701, h6711⟩ := hh
                    have hh := brn_some h6711; clear h6711; rcases hh with ⟨h6703, h6711⟩ | ⟨h6703, h6711⟩
                    · have hh := brn_some h6711; clear h6711; rcases hh with ⟨h6704, h6711⟩ | ⟨h6704, h6711⟩
                      · have hh := bnd'_some h6711; clear h6711; obtain ⟨p6705, h6706, h6711⟩ := hh
                        refine W_sound tab_ok mixed 6 _ _ _ ?_
                        simp -implicitDefEqProofs only [go_sem, qa, qb, qc, qd, qe, qf, qg, qh, qi, qj, qk, ↓reduceIte, h5573, h5583, h5586, h5590, h6022, h6023, h6028, h6635, h6640, h6643, h6646, h6650, h6653, h6655, h6659, h6662, h6665, h6669, h6672, h6675, h6677, h6678, h6679, h6680, h6681, h6684, h6686, h6687, h6695, h6696, h6701, h6703, h6704]
                        repeat with_reducible refine ⟨by first | kernel_rfl | decide, ?_⟩
                        refine Wp_callP (c16 N  _ h6706) (by kernel_rfl) rfl rfl rfl rfl (by decide) ?_
                        have hh := getB_some h6711; clear h6711; obtain ⟨b6708, h6707, h6711⟩ := hh
                        refine W_sound tab_ok mixed 5 _ _ _ ?_
                        simp -implicitDefEqProofs only [go_sem, qa, qb, qc, qd, qe, qf, qg, qh, qi, qj, qk, ↓reduceIte, h5573, h5583, h5586, h5590, h6022, h6023, h6028, h6635, h6640, h6643, h6646, h6650, h6653, h6655, h6659, h6662, h6665, h6669, h6672, h6675, h6677, h6678, h6679, h6680, h6681, h6684, h6686, h6687, h6695, h6696, h6701, h6703, h6704, h6707]
                        repeat with_reducible refine ⟨by first | kernel_rfl | decide, ?_⟩
                        obtain rfl := Option.some.inj h6711
                        exact finC [(2, .v (.bool b6708))] [(2, .v (.bool b6708))] (by simp [leE, lk_cons]) (.cons _ _ _ _ _ (.v _ _ (.refl _)) .nil) (by rfl) (by simp [leE, lk_cons]) (by decide) (by decide) rfl (by simp only [go_sem, qa, qb, qc, qd, qe, qf, qg, qh, qi, qj, qk, ↓reduceIte, resQ_tmp, resQ_cell, resQ_nil, retD_one, retD_two, retD_three, retD_none]; try simp [R.val, retD_one, retD_two, retD_three, retD_none])
                      · refine W_sound tab_ok mixed 12 _ _ _ ?_
                        simp -implicitDefEqProofs only [go_sem, qa, qb, qc, qd, qe, qf, qg, qh, qi, qj, qk, ↓reduceIte, h5573, h5583, h5586, h5590, h6022, h6023, h6028, h6635, h6640, h6643, h6646, h6650, h6653, h6655, h6659, h6662, h6665, h6669, h6672, h6675, h6677, h6678, h6679, h6680, h6681, h6684, h6686, h6687, h6695, h6696, h6701, h6703, h6704]
                        repeat with_reducible refine ⟨by first | kernel_rfl | decide, ?_⟩
                        obtain rfl := Option.some.inj h6711
                        exact finC [(2, .v (.bool false))] [(2, .v (.bool false))] (by simp [leE, lk_cons]) (.cons _ _ _ _ _ (.v _ _ (.refl _)) .nil) (by rfl) (by simp [leE, lk_cons]) (by decide) (by decide) rfl (by simp only [go_sem, qa, qb, qc, qd, qe, qf, qg, qh, qi, qj, qk, ↓reduceIte, resQ_tmp, resQ_cell, resQ_nil, retD_one, retD_two, retD_three, retD_none]; try simp [R.val, retD_one, retD_two, retD_three, retD_none])
                    · refine W_sound tab_ok mixed 12 _ _ _ ?_
                      simp -implicitDefEqProofs only [go_sem, qa, qb, qc, qd, qe, qf, qg, qh, qi, qj, qk, ↓reduceIte, h5573, h5583, h5586, h5590, h6022, h6023, h6028, h6635, h6640, h6643, h6646, h6650, h6653, h6655, h6659, h6662, h6665, h6669, h6672, h6675, h6677, h6678, h6679, h6680, h6681, h6684, h6686, h6687, h6695, h6696, h6701, h6703]
                      repeat with_reducible refine ⟨by first | kernel_rfl | decide, ?_⟩
                      obtain rfl := Option.some.inj h6711
                      exact finC [(2, .v (.bool false))] [(2, .v (.bool false))] (by simp [leE, lk_cons]) (.cons _ _ _ _ _ (.v _ _ (.refl _)) .nil) (by rfl) (by simp [leE, lk_cons]) (by decide) (by decide) rfl (by simp only [go_sem, qa, qb, qc, qd, qe, qf, qg, qh, qi, qj, qk, ↓reduceIte, resQ_tmp, resQ_cell, resQ_nil, retD_one, retD_two, retD_three, retD_none]; try simp [R.val, retD_one, retD_two, retD_three, retD_none])
                  · refine W_sound tab_ok mixed 32 _ _ _ ?_
                    simp -implicitDefEqProofs only [go_sem, qa, qb, qc, qd, qe, qf, qg, qh, qi, qj, qk, ↓reduceIte, h5573, h5583, h5586, h5590, h6022, h6023, h6028, h6635, h6640, h6643, h6646, h6650, h6653, h6655, h6659, h6662, h6665, h6669, h6672, h6675, h6677, h6678, h6679, h6680, h6681, h6684, h6686, h6687, h6695]
                    repeat with_reducible refine ⟨by first | kernel_rfl | decide, ?_⟩
                    obtain rfl := Option.some.inj h6711
                    exact finC [(2, .v (.bool false))] [(2, .v (.bool false))] (by simp [leE, lk_cons]) (.cons _ _ _ _ _ (.v _ _ (.refl _)) .nil) (by rfl) (by simp [leE, lk_cons]) (by decide) (by decide) rfl (by simp only [go_sem, qa, qb, qc, qd, qe, qf, qg, qh, qi, qj, qk, ↓reduceIte, resQ_tmp, resQ_cell, resQ_nil, retD_one, retD_two, retD_three, retD_none]; try simp [R.val, retD_one, retD_two, retD_three, retD_none])
              · refine W_sound tab_ok mixed 10 _ _ _ ?_
                simp -implicitDefEqProofs only [go_sem, qa, qb, qc, qd, qe, qf, qg, qh, qi, qj, qk, ↓reduceIte, h5573, h5583, h5586, h5590, h6022, h6023, h6028, h6635, h6640, h6643, h6646, h6650, h6653, h6655, h6659, h6662, h6665, h6669, h6672, h6675, h6677, h6678, h6679, h6680, h6681, h6684, h6686]
                repeat with_reducible refine ⟨by first | kernel_rfl | decide, ?_⟩
                obtain rfl := Option.some.inj h6711
                exact finC [(2, .v (.bool false))] [(2, .v (.bool false))] (by simp [leE, lk_cons]) (.cons _ _ _ _ _ (.v _ _ (.refl _)) .nil) (by rfl) (by simp [leE, lk_cons]) (by decide) (by decide) rfl (by simp only [go_sem, qa, qb, qc, qd, qe, qf, qg, qh, qi, qj, qk, ↓reduceIte, resQ_tmp, resQ_cell, resQ_nil, retD_one, retD_two, retD_three, retD_none]; try simp [R.val, retD_one, retD_two, retD_three, retD_none])
end Go.Proofs.YtnponojgpkbagaaDoor
namespace Go.Crew
def ja (j : List Nat) (s : Nat) : Nat := j.getD s 0
def jnd (j : List Nat) (p : Nat × Nat) : Bool := ja j p.1 == ja j p.2
def lo (j : List Nat) (p : Nat × Nat) : Nat := min (ja j p.1) (ja j p.2)
def hi (j : List Nat) (p : Nat × Nat) : Nat := max (ja j p.1) (ja j p.2)
def wth (j : List Nat) (p : Nat × Nat) : List Nat := j.map fun x => if x = hi j p then lo j p else x
def runJ : List Nat → List (Nat × Nat) → List Nat
  | j, [] => j
  | j, p :: l => if jnd j p then runJ j l else runJ (wth j p) l
def cntJ : List Nat → List (Nat × Nat) → Nat
  | _, [] => 0
  | j, p :: l => if jnd j p then cntJ j l else cntJ (wth j p) l + 1
def apt : List Nat := List.range 5
def rk (L : List (Nat × Nat)) : Nat := cntJ apt L
theorem runJ_app : ∀ (L M : List (Nat × Nat)) (j : List Nat), runJ j (L ++ M) = runJ (runJ j L) M
  | [], _, _ => rfl
  | p :: L, M, j => by
    simp only [List.cons_append, runJ]
    split
    · exact runJ_app L M j
    · exact runJ_app L M _
theorem cntJ_app : ∀ (L M : List (Nat × Nat)) (j : List Nat), cntJ j (L ++ M) = cntJ j L + cntJ (runJ j L) M
  | [], M, j => by simp [cntJ, runJ]
  | p :: L, M, j => by
    simp only [List.cons_append, cntJ, runJ]
    split
    · exact cntJ_app L M j
    · rw [cntJ_app L M]; omega
theorem cntJ_le : ∀ (L : List (Nat × Nat)) (j : List Nat), cntJ j L ≤ L.length
  | [], _ => by simp [cntJ]
  | p :: L, j => by
    simp only [cntJ, List.length_cons]
    split
    · have := cntJ_le L j; omega
    · have := cntJ_le L (wth j p); omega
structure Can (j : List Nat) : Prop where
  len : j.length = 5
  le : ∀ s, s < 5 → ja j s ≤ s
  id : ∀ s, s < 5 → ja j (ja j s) = ja j s
theorem wth_at {j : List Nat} (h : j.length = 5) (p : Nat × Nat) {s : Nat} (hs : s < 5) : ja (wth j p) s = if ja j s = hi j p then lo j p else ja j s := by
  simp [ja, wth, List.getD, h, hs]
theorem can_apt : Can apt := ⟨by decide, by decide, by decide⟩
def Ok (L : List (Nat × Nat)) : Prop := ∀ p ∈ L, p.1 < 5 ∧ p.2 < 5
theorem lo_le {j : List Nat} {p : Nat × Nat} : lo j p ≤ hi j p := by unfold lo hi; omega
theorem lo_or {j : List Nat} {p : Nat × Nat} : lo j p = ja j p.1 ∨ lo j p = ja j p.2 := by unfold lo; omega
theorem hi_or {j : List Nat} {p : Nat × Nat} : hi j p = ja j p.1 ∨ hi j p = ja j p.2 := by unfold hi; omega
theorem can_wth {j : List Nat} (h : Can j) {p : Nat × Nat} (hp : p.1 < 5 ∧ p.2 < 5) : Can (wth j p) := by
  have hlo : lo j p < 5 ∧ ja j (lo j p) = lo j p := by
    rcases lo_or (j := j) (p := p) with e | e <;> rw [e]
    · exact ⟨by have := h.le _ hp.1; omega, h.id _ hp.1⟩
    · exact ⟨by have := h.le _ hp.2; omega, h.id _ hp.2⟩
  refine ⟨by simp [wth, h.len], fun s hs => ?_, fun s hs => ?_⟩
  · rw [wth_at h.len p hs]
    have := h.le s hs
    have := lo_le (j := j) (p := p)
    split <;> omega
  · rw [wth_at h.len p hs]
    have h1 := h.le s hs
    have h2 := h.id s hs
    split
    · rw [wth_at h.len p hlo.1, hlo.2]
      split <;> rfl
    · rename_i hn
      rw [wth_at h.len p (by omega), h2, if_neg hn]
theorem can_run : ∀ {L : List (Nat × Nat)} {j : List Nat}, Can j → Ok L → Can (runJ j L)
  | [], _, h, _ => h
  | p :: L, j, h, hL => by
    simp only [runJ]
    split
    · exact can_run h fun q hq => hL q (.tail _ hq)
    · exact can_run (can_wth h (hL p (.head _))) fun q hq => hL q (.tail _ hq)
def Fin' (j j' : List Nat) : Prop := ∀ s t, s < 5 → t < 5 → ja j s = ja j t → ja j' s = ja j' t
theorem fin_refl (j : List Nat) : Fin' j j := fun _ _ _ _ h => h
theorem fin_wth {j : List Nat} (h : Can j) {p : Nat × Nat} : Fin' j (wth j p) := fun s t hs ht e => by
  rw [wth_at h.len p hs, wth_at h.len p ht, e]
theorem wth_jnd {j : List Nat} (h : Can j) {p : Nat × Nat} (hp : p.1 < 5 ∧ p.2 < 5) : ja (wth j p) p.1 = ja (wth j p) p.2 := by
  rw [wth_at h.len p hp.1, wth_at h.len p hp.2]
  unfold lo hi
  split <;> split <;> omega
theorem wth_least {j j' : List Nat} (h : Can j) {p : Nat × Nat} (hp : p.1 < 5 ∧ p.2 < 5) (hf : Fin' j j') (hj : ja j' p.1 = ja j' p.2) : Fin' (wth j p) j' := by
  intro s t hs ht e
  rw [wth_at h.len p hs, wth_at h.len p ht] at e
  have key : ∀ s, s < 5 → (ja j s = ja j p.1 ∨ ja j s = ja j p.2) → ja j' s = ja j' p.1 := fun s hs h => by
    rcases h with h | h
    · exact hf _ _ hs hp.1 h
    · rw [hj]; exact hf _ _ hs hp.2 h
  have k1 : ja j s = hi j p → ja j' s = ja j' p.1 := fun h => key s hs (by rcases hi_or (j := j) (p := p) with e | e <;> simp [h, e])
  have k2 : ja j t = hi j p → ja j' t = ja j' p.1 := fun h => key t ht (by rcases hi_or (j := j) (p := p) with e | e <;> simp [h, e])
  have k3 : ja j s = lo j p → ja j' s = ja j' p.1 := fun h => key s hs (by rcases lo_or (j := j) (p := p) with e | e <;> simp [h, e])
  have k4 : ja j t = lo j p → ja j' t = ja j' p.1 := fun h => key t ht (by rcases lo_or (j := j) (p := p) with e | e <;> simp [h, e])
  split at e
  · rename_i a
    split at e
    · rename_i b; rw [k1 a, k2 b]
    · rw [k1 a, k4 e.symm]
  · split at e
    · rename_i b; rw [k3 e, k2 b]
    · exact hf _ _ hs ht e
theorem jnd_iff {j : List Nat} {p : Nat × Nat} : jnd j p = true ↔ ja j p.1 = ja j p.2 := by unfold jnd; simp
theorem run_fin : ∀ {L : List (Nat × Nat)} {j : List Nat}, Can j → Ok L → Fin' j (runJ j L)
  | [], j, _, _ => fin_refl j
  | p :: L, j, h, hL => by
    have hp := hL p (.head _)
    have hL' : Ok L := fun q hq => hL q (.tail _ hq)
    simp only [runJ]
    split
    · exact run_fin h hL'
    · exact fun s t hs ht e => run_fin (can_wth h hp) hL' s t hs ht (fin_wth h s t hs ht e)
theorem run_jnd : ∀ {L : List (Nat × Nat)} {j : List Nat}, Can j → Ok L → ∀ p ∈ L, ja (runJ j L) p.1 = ja (runJ j L) p.2
  | p :: L, j, h, hL, q, hq => by
    have hp := hL p (.head _)
    have hL' : Ok L := fun q hq => hL q (.tail _ hq)
    simp only [runJ]
    rcases List.mem_cons.1 hq with rfl | hq
    · split
      · rename_i e; exact run_fin h hL' _ _ hp.1 hp.2 (jnd_iff.1 e)
      · exact run_fin (can_wth h hp) hL' _ _ hp.1 hp.2 (wth_jnd h hp)
    · split
      · exact run_jnd h hL' q hq
      · exact run_jnd (can_wth h hp) hL' q hq
theorem run_least : ∀ {L : List (Nat × Nat)} {j j' : List Nat}, Can j → Ok L → Fin' j j' → (∀ p ∈ L, ja j' p.1 = ja j' p.2) → Fin' (runJ j L) j'
  | [], _, _, _, _, hf, _ => hf
  | p :: L, j, j', h, hL, hf, hj => by
    have hp := hL p (.head _)
    have hL' : Ok L := fun q hq => hL q (.tail _ hq)
    simp only [runJ]
    split
    · exact run_least h hL' hf fun q hq => hj q (.tail _ hq)
    · exact run_least (can_wth h hp) hL' (wth_least h hp hf (hj p (.head _))) fun q hq => hj q (.tail _ hq)
theorem can_eq {j j' : List Nat} (h : Can j) (h' : Can j') (a : Fin' j j') (b : Fin' j' j) : j = j' := by
  have e : ∀ s, s < 5 → ja j s = ja j' s := fun s hs => by
    have h1 := h.le s hs
    have h2 := h'.le s hs
    have h3 := a s (ja j s) hs (by omega) (h.id s hs).symm
    have h4 := b s (ja j' s) hs (by omega) (h'.id s hs).symm
    have h5 := h'.le (ja j s) (by omega)
    have h6 := h.le (ja j' s) (by omega)
    omega
  apply List.ext_getElem (by rw [h.len, h'.len])
  intro i h1 h2
  have := e i (by rw [← h.len]; exact h1)
  simpa [ja, List.getD, h1, h2] using this
theorem apt_fin (j : List Nat) : Fin' apt j := fun s t hs ht e => by
  have : ∀ s, s < 5 → ja apt s = s := by decide
  rw [this s hs, this t ht] at e
  rw [e]
theorem run_set {L M : List (Nat × Nat)} (hL : Ok L) (hM : Ok M) (h : ∀ p, p ∈ L ↔ p ∈ M) : runJ apt L = runJ apt M :=
  can_eq (can_run can_apt hL) (can_run can_apt hM) (run_least can_apt hL (apt_fin _) fun p hp => run_jnd can_apt hM p ((h p).1 hp))
    (run_least can_apt hM (apt_fin _) fun p hp => run_jnd can_apt hL p ((h p).2 hp))
def rts (j : List Nat) : Nat := ((List.range 5).filter fun s => ja j s == s).length
theorem filter_one {p q : Nat → Bool} {h : Nat} : ∀ (l : List Nat), l.Nodup → h ∈ l → p h = true → q h = false → (∀ s ∈ l, s ≠ h → p s = q s) → (l.filter p).length = (l.filter q).length + 1
  | [], _, hm, _, _, _ => by cases hm
  | x :: l, hn, hm, hp, hq, he => by
    obtain ⟨n1, n2⟩ := List.nodup_cons.1 hn
    by_cases hx : x = h
    · subst hx
      have : l.filter p = l.filter q := List.filter_congr fun s hs => he s (.tail _ hs) (fun e => n1 (e ▸ hs))
      simp [List.filter_cons, hp, hq, this]
    · have hm' : h ∈ l := by
        rcases List.mem_cons.1 hm with e | e
        · exact absurd e.symm hx
        · exact e
      have ih := filter_one l n2 hm' hp hq fun s hs hne => he s (.tail _ hs) hne
      have := he x (.head _) hx
      simp only [List.filter_cons, this]
      split
      · simp only [List.length_cons]; omega
      · exact ih
theorem rts_wth {j : List Nat} (h : Can j) {p : Nat × Nat} (hp : p.1 < 5 ∧ p.2 < 5) (hn : ja j p.1 ≠ ja j p.2) : rts j = rts (wth j p) + 1 := by
  have hh : hi j p < 5 ∧ ja j (hi j p) = hi j p := by
    rcases hi_or (j := j) (p := p) with e | e <;> rw [e]
    · exact ⟨by have := h.le _ hp.1; omega, h.id _ hp.1⟩
    · exact ⟨by have := h.le _ hp.2; omega, h.id _ hp.2⟩
  have hlt : lo j p < hi j p := by unfold lo hi; omega
  refine filter_one (h := hi j p) _ List.nodup_range (by simpa using hh.1) (by simpa using hh.2) ?_ fun s hs hne => ?_
  · rw [wth_at h.len p hh.1, if_pos hh.2]
    simp; omega
  · have hs' : s < 5 := by simpa using hs
    rw [wth_at h.len p hs']
    have := h.le s hs'
    split
    · rename_i e
      rw [e, Bool.eq_iff_iff]
      simp only [beq_iff_eq]
      omega
    · rfl
theorem cnt_rts : ∀ {L : List (Nat × Nat)} {j : List Nat}, Can j → Ok L → cntJ j L + rts (runJ j L) = rts j
  | [], j, _, _ => by simp [cntJ, runJ]
  | p :: L, j, h, hL => by
    have hp := hL p (.head _)
    have hL' : Ok L := fun q hq => hL q (.tail _ hq)
    simp only [cntJ, runJ]
    split
    · exact cnt_rts h hL'
    · rename_i e
      have := cnt_rts (can_wth h hp) hL'
      rw [rts_wth h hp (fun x => e (jnd_iff.2 x))]
      omega
theorem rk_set {L M : List (Nat × Nat)} (hL : Ok L) (hM : Ok M) (h : ∀ p, p ∈ L ↔ p ∈ M) : rk L = rk M := by
  have a := cnt_rts can_apt hL
  have b := cnt_rts can_apt hM
  rw [run_set hL hM h] at a
  unfold rk; omega
theorem cnt_mono : ∀ {M : List (Nat × Nat)} {j j' : List Nat}, Can j → Can j' → Ok M → Fin' j j' → cntJ j' M ≤ cntJ j M
  | [], _, _, _, _, _, _ => by simp [cntJ]
  | p :: M, j, j', h, h', hM, hf => by
    have hp := hM p (.head _)
    have hM' : Ok M := fun q hq => hM q (.tail _ hq)
    simp only [cntJ]
    split
    · rename_i e'
      split
      · exact cnt_mono h h' hM' hf
      · have := cnt_mono (can_wth h hp) h' hM' (wth_least h hp hf (jnd_iff.1 e'))
        omega
    · rename_i e'
      split
      · rename_i e
        exact absurd (jnd_iff.2 (hf _ _ hp.1 hp.2 (jnd_iff.1 e))) e'
      · have : Fin' (wth j p) (wth j' p) := wth_least h hp (fun s t hs ht e => fin_wth h' s t hs ht (hf s t hs ht e)) (wth_jnd h' hp)
        have := cnt_mono (can_wth h hp) (can_wth h' hp) hM' this
        omega
theorem run_mono {L M : List (Nat × Nat)} (hL : Ok L) (hM : Ok M) (h : ∀ p ∈ L, p ∈ M) : Fin' (runJ apt L) (runJ apt M) :=
  run_least can_apt hL (apt_fin _) fun p hp => run_jnd can_apt hM p (h p hp)
theorem ok_app {L M : List (Nat × Nat)} (hL : Ok L) (hM : Ok M) : Ok (L ++ M) := fun p hp => by
  rcases List.mem_append.1 hp with h | h
  · exact hL p h
  · exact hM p h
theorem rk_app (L M : List (Nat × Nat)) : rk (L ++ M) = rk L + cntJ (runJ apt L) M := cntJ_app L M apt
theorem rk_mono {L M : List (Nat × Nat)} (hL : Ok L) (hM : Ok M) (h : ∀ p ∈ L, p ∈ M) : rk L ≤ rk M := by
  have : rk (L ++ M) = rk M := rk_set (ok_app hL hM) hM fun p => ⟨fun hp => by rcases List.mem_append.1 hp with hp | hp; exact h p hp; exact hp, fun hp => List.mem_append.2 (.inr hp)⟩
  rw [← this, rk_app]; omega
theorem rk_le (L : List (Nat × Nat)) : rk L ≤ L.length := cntJ_le L apt
theorem rk_sub {A B I U D : List (Nat × Nat)} (hA : Ok A) (hB : Ok B) (hI : Ok I) (hU : Ok U) (hD : Ok D)
    (hu : ∀ p, p ∈ U ↔ p ∈ A ∨ p ∈ D) (hb : ∀ p, p ∈ B ↔ p ∈ I ∨ p ∈ D) (hi : ∀ p ∈ I, p ∈ A) : rk U + rk I ≤ rk A + rk B := by
  have e1 : rk U = rk (A ++ D) := rk_set hU (ok_app hA hD) fun p => by rw [hu, List.mem_append]
  have e2 : rk B = rk (I ++ D) := rk_set hB (ok_app hI hD) fun p => by rw [hb, List.mem_append]
  rw [e1, e2, rk_app, rk_app]
  have := cnt_mono (can_run can_apt hI) (can_run can_apt hA) hD (run_mono hI hA hi)
  omega
theorem run_out : ∀ {L : List (Nat × Nat)} {j : List Nat} {n : Nat}, Can j → n ≤ 5 → (∀ p ∈ L, p.1 < n ∧ p.2 < n) → (∀ s, n ≤ s → s < 5 → ja j s = s) → (∀ s, s < n → ja j s < n) → ∀ s, n ≤ s → s < 5 → ja (runJ j L) s = s
  | [], _, _, _, _, _, h, _ => h
  | p :: L, j, n, hc, hn, hL, h, h2 => by
    have hp := hL p (.head _)
    have hp5 : p.1 < 5 ∧ p.2 < 5 := ⟨by omega, by omega⟩
    have hL' : ∀ q ∈ L, q.1 < n ∧ q.2 < n := fun q hq => hL q (.tail _ hq)
    have a1 := h2 _ hp.1
    have a2 := h2 _ hp.2
    have hl : lo j p < n := by unfold lo; omega
    have hh : hi j p < n := by unfold hi; omega
    simp only [runJ]
    split
    · exact run_out hc hn hL' h h2
    · refine run_out (can_wth hc hp5) hn hL' (fun s h1 hs => ?_) fun s hs => ?_
      · rw [wth_at hc.len p hs, h s h1 hs, if_neg (by omega)]
      · rw [wth_at hc.len p (by omega)]
        have := h2 s hs
        split <;> omega
theorem filter_ge {p : Nat → Bool} {n : Nat} (hn : n ≤ 5) (h0 : p 0 = true) (h : ∀ s, n ≤ s → s < 5 → p s = true) (h1 : 1 ≤ n) : 5 - n + 1 ≤ ((List.range 5).filter p).length := by
  have e : List.range 5 = [0, 1, 2, 3, 4] := by decide
  have : n = 1 ∨ n = 2 ∨ n = 3 ∨ n = 4 ∨ n = 5 := by omega
  rcases this with rfl | rfl | rfl | rfl | rfl
  · simp [e, List.filter_cons, h0, h 1 (by omega) (by omega), h 2 (by omega) (by omega), h 3 (by omega) (by omega), h 4 (by omega) (by omega)]
  · cases e1 : p 1 <;> simp [e, List.filter_cons, h0, e1, h 2 (by omega) (by omega), h 3 (by omega) (by omega), h 4 (by omega) (by omega)]
  · cases e1 : p 1 <;> cases e2 : p 2 <;> simp [e, List.filter_cons, h0, e1, e2, h 3 (by omega) (by omega), h 4 (by omega) (by omega)]
  · cases e1 : p 1 <;> cases e2 : p 2 <;> cases e3 : p 3 <;> simp [e, List.filter_cons, h0, e1, e2, e3, h 4 (by omega) (by omega)]
  · simp [e, List.filter_cons, h0]
theorem rk_lt {L : List (Nat × Nat)} {n : Nat} (h1 : 1 ≤ n) (hn : n ≤ 5) (hL : ∀ p ∈ L, p.1 < n ∧ p.2 < n) : rk L < n := by
  have hL5 : Ok L := fun p hp => ⟨by have := hL p hp; omega, by have := hL p hp; omega⟩
  have hc := can_run can_apt hL5
  have a := cnt_rts can_apt hL5
  have ap : ∀ s, s < 5 → ja apt s = s := by decide
  have b := run_out can_apt hn hL (fun s _ hs => ap s hs) (fun s hs => by rw [ap s (by omega)]; exact hs)
  have c : 5 - n + 1 ≤ rts (runJ apt L) := filter_ge hn (by have := hc.le 0 (by omega); simp; omega) (fun s h hs => by simpa using b s h hs) h1
  have d : rts apt = 5 := by decide
  unfold rk; omega
def sz (n : Nat) (f : Nat → Bool) : Nat := ((List.range n).filter f).length
def sel (S : List (List (Nat × Nat))) (f : Nat → Bool) : List (Nat × Nat) := ((List.range S.length).filter f).flatMap fun i => S.getD i []
def Rad (S : List (List (Nat × Nat))) : Prop := ∀ f, sz S.length f ≤ rk (sel S f)
def OkS (S : List (List (Nat × Nat))) : Prop := ∀ i, Ok (S.getD i [])
theorem mem_sel {S : List (List (Nat × Nat))} {f : Nat → Bool} {p : Nat × Nat} : p ∈ sel S f ↔ ∃ i, i < S.length ∧ f i = true ∧ p ∈ S.getD i [] := by
  simp only [sel, List.mem_flatMap, List.mem_filter, List.mem_range]
  exact ⟨fun ⟨i, ⟨a, b⟩, c⟩ => ⟨i, a, b, c⟩, fun ⟨i, a, b, c⟩ => ⟨i, ⟨a, b⟩, c⟩⟩
theorem ok_sel {S : List (List (Nat × Nat))} (h : OkS S) (f : Nat → Bool) : Ok (sel S f) := fun p hp => by
  obtain ⟨i, _, _, c⟩ := mem_sel.1 hp
  exact h i p c
theorem sz_or_and : ∀ (n : Nat) (f g : Nat → Bool), sz n (fun k => f k || g k) + sz n (fun k => f k && g k) = sz n f + sz n g
  | 0, _, _ => rfl
  | n + 1, f, g => by
    have ih := sz_or_and n f g
    simp only [sz, List.range_succ, List.filter_append, List.length_append, List.filter_cons, List.filter_nil] at *
    cases f n <;> cases g n <;> simp <;> omega
theorem rk_union {U I A B : List (Nat × Nat)} (hA : Ok A) (hB : Ok B) (hU : ∀ p ∈ U, p ∈ A ∨ p ∈ B) (hI : ∀ p ∈ I, p ∈ A ∧ p ∈ B) : rk U + rk I ≤ rk A + rk B := by
  have hI' : Ok I := fun p hp => hA p (hI p hp).1
  have := rk_sub (A := A) (B := B) (I := I) (U := A ++ B) (D := B) hA hB hI' (ok_app hA hB) hB (fun p => List.mem_append) (fun p => ⟨.inr, fun h => h.elim (fun h => (hI p h).2) id⟩) (fun p hp => (hI p hp).1)
  have h2 : rk U ≤ rk (A ++ B) := rk_mono (fun p hp => (hU p hp).elim (hA p) (hB p)) (ok_app hA hB) fun p hp => List.mem_append.2 (hU p hp)
  omega
theorem getD_set {S : List (List (Nat × Nat))} {i j : Nat} {l : List (Nat × Nat)} : (S.set i l).getD j [] = if i = j ∧ i < S.length then l else S.getD j [] := by
  simp only [List.getD_eq_getElem?_getD, List.getElem?_set]
  by_cases h : i = j
  · subst h
    by_cases h2 : i < S.length
    · simp [h2]
    · simp [h2]
  · simp [h]
def tot (S : List (List (Nat × Nat))) : Nat := (S.map List.length).sum
theorem tot_set : ∀ {S : List (List (Nat × Nat))} {i : Nat} {l : List (Nat × Nat)}, i < S.length → l.length < (S.getD i []).length → tot (S.set i l) < tot S
  | [], _, _, h, _ => by simp at h
  | a :: S, 0, l, _, h => by simp [tot] at *; omega
  | a :: S, i + 1, l, h, h2 => by
    have := tot_set (S := S) (i := i) (l := l) (by simpa using h) (by simpa using h2)
    simp [tot] at *; omega
theorem sz_drop {n i : Nat} {f : Nat → Bool} (hi : i < n) (h : f i = true) : sz n f = sz n (fun k => f k && decide (k ≠ i)) + 1 :=
  filter_one (h := i) _ List.nodup_range (by simpa using hi) h (by simp) fun s _ hne => by simp [hne]
theorem sz_one {n i : Nat} (hi : i < n) : sz n (fun k => k == i) = 1 := by
  have := sz_drop (n := n) (i := i) (f := fun k => k == i) hi (by simp)
  have z : sz n (fun k => (k == i) && decide (k ≠ i)) = 0 := by
    unfold sz; rw [List.length_eq_zero_iff, List.filter_eq_nil_iff]; intro a _; simp
  omega
theorem sz_all (n : Nat) : sz n (fun _ => true) = n := by unfold sz; rw [List.filter_eq_self.2 (fun _ _ => rfl), List.length_range]
theorem sel_one : ∀ (S : List (List (Nat × Nat))), (∀ l ∈ S, l.length = 1) → sel S (fun _ => true) = S.map fun l => l.headD (0, 0)
  | [], _ => rfl
  | a :: S, h => by
    have ih := sel_one S fun l hl => h l (.tail _ hl)
    have ha := h a (.head _)
    unfold sel at *
    rw [List.filter_eq_self.2 (fun _ _ => rfl)] at *
    rw [List.length_cons, List.range_succ_eq_map, List.flatMap_cons, List.flatMap_map]
    match a, ha with
    | [x], _ => simpa using ih
theorem rado_ : ∀ (m : Nat) (S : List (List (Nat × Nat))), tot S ≤ m → OkS S → Rad S → ∃ T : List (Nat × Nat), T.length = S.length ∧ (∀ i, i < S.length → T.getD i (0, 0) ∈ S.getD i []) ∧ rk T = T.length := by
  intro m
  induction m with
  | zero =>
    intro S hm hO hR
    cases S with
    | nil => exact ⟨[], rfl, fun i h => by simp at h, rfl⟩
    | cons a S =>
      exfalso
      have h1 := hR (fun k => k == 0)
      rw [sz_one (by simp)] at h1
      have h2 := rk_le (sel (a :: S) fun k => k == 0)
      have : a = [] := by simp [tot] at hm; exact hm.1
      subst this
      have e : sel ([] :: S) (fun k => k == 0) = [] := by
        rw [List.eq_nil_iff_forall_not_mem]; intro p hp
        obtain ⟨i, _, c, d⟩ := mem_sel.1 hp
        have : i = 0 := by simpa using c
        subst this; simp at d
      rw [e] at h1 h2; simp at h2; omega
  | succ m ih =>
    intro S hm hO hR
    by_cases hA : ∀ l ∈ S, l.length ≤ 1
    · have h1 : ∀ l ∈ S, l.length = 1 := fun l hl => by
        obtain ⟨i, hi, rfl⟩ := List.getElem_of_mem hl
        have a := hR (fun k => k == i)
        rw [sz_one hi] at a
        have b := hA _ (List.getElem_mem hi)
        have : 1 ≤ S[i].length := by
          have hp : ∃ p, p ∈ sel S (fun k => k == i) := by
            cases hs : sel S (fun k => k == i) with
            | nil => rw [hs] at a; simp [rk, cntJ] at a
            | cons p _ => exact ⟨p, .head _⟩
          obtain ⟨p, hp⟩ := hp
          obtain ⟨k, _, c, d⟩ := mem_sel.1 hp
          have : k = i := by simpa using c
          subst this
          rw [List.getD_eq_getElem?_getD, List.getElem?_eq_getElem hi] at d
          have : S[k] ≠ [] := fun e => by rw [e] at d; simp at d
          exact List.length_pos_iff.2 this
        omega
      have e := sel_one S h1
      refine ⟨S.map fun l => l.headD (0, 0), by simp, fun i hi => ?_, ?_⟩
      · have := h1 _ (List.getElem_mem hi)
        simp only [List.getD_eq_getElem?_getD, List.getElem?_map, List.getElem?_eq_getElem hi, Option.map_some, Option.getD_some]
        match S[i], this with
        | [x], _ => simp
      · have a := hR (fun _ => true)
        rw [sz_all, e] at a
        have b := rk_le (S.map fun l => l.headD (0, 0))
        simp only [List.length_map] at *; omega
    · have : ∃ i, i < S.length ∧ 2 ≤ (S.getD i []).length := by
        apply Classical.byContradiction
        intro h
        apply hA
        intro l hl
        obtain ⟨i, hi, rfl⟩ := List.getElem_of_mem hl
        apply Classical.byContradiction
        intro h2
        exact h ⟨i, hi, by rw [List.getD_eq_getElem?_getD, List.getElem?_eq_getElem hi]; simp; omega⟩
      obtain ⟨i, hi, h2⟩ := this
      match hS : S.getD i [], h2 with
      | x :: y :: r, _ =>
        have sub1 : ∀ j p, p ∈ (S.set i (y :: r)).getD j [] → p ∈ S.getD j [] := fun j p hp => by
          rw [getD_set] at hp
          split at hp
          · rename_i e; rw [← e.1, hS]; exact .tail _ hp
          · exact hp
        have sub2 : ∀ j p, p ∈ (S.set i (x :: r)).getD j [] → p ∈ S.getD j [] := fun j p hp => by
          rw [getD_set] at hp
          split at hp
          · rename_i e; rw [← e.1, hS]
            rcases List.mem_cons.1 hp with rfl | hp
            · exact .head _
            · exact .tail _ (.tail _ hp)
          · exact hp
        have hO1 : OkS (S.set i (y :: r)) := fun j p hp => hO j p (sub1 j p hp)
        have hO2 : OkS (S.set i (x :: r)) := fun j p hp => hO j p (sub2 j p hp)
        by_cases r1 : Rad (S.set i (y :: r))
        · obtain ⟨T, t1, t2, t3⟩ := ih _ (by have := tot_set (S := S) (l := y :: r) hi (by rw [hS]; simp); omega) hO1 r1
          rw [List.length_set] at t1 t2
          exact ⟨T, t1, fun j hj => sub1 j _ (t2 j hj), t3⟩
        · by_cases r2 : Rad (S.set i (x :: r))
          · obtain ⟨T, t1, t2, t3⟩ := ih _ (by have := tot_set (S := S) (l := x :: r) hi (by rw [hS]; simp); omega) hO2 r2
            rw [List.length_set] at t1 t2
            exact ⟨T, t1, fun j hj => sub2 j _ (t2 j hj), t3⟩
          · exfalso
            obtain ⟨f1, b1⟩ := Classical.not_forall.1 r1
            obtain ⟨f2, b2⟩ := Classical.not_forall.1 r2
            rw [List.length_set] at b1 b2
            have i1 : f1 i = true := by
              cases h : f1 i with
              | true => rfl
              | false =>
                exfalso; apply b1
                refine Nat.le_trans (hR f1) (rk_mono (ok_sel hO f1) (ok_sel hO1 f1) fun p hp => ?_)
                obtain ⟨k, a, b, c⟩ := mem_sel.1 hp
                have : i ≠ k := fun e => by subst e; rw [h] at b; cases b
                exact mem_sel.2 ⟨k, by simpa using a, b, by rw [getD_set, if_neg (fun e => this e.1)]; exact c⟩
            have i2 : f2 i = true := by
              cases h : f2 i with
              | true => rfl
              | false =>
                exfalso; apply b2
                refine Nat.le_trans (hR f2) (rk_mono (ok_sel hO f2) (ok_sel hO2 f2) fun p hp => ?_)
                obtain ⟨k, a, b, c⟩ := mem_sel.1 hp
                have : i ≠ k := fun e => by subst e; rw [h] at b; cases b
                exact mem_sel.2 ⟨k, by simpa using a, b, by rw [getD_set, if_neg (fun e => this e.1)]; exact c⟩
            have key := rk_union (U := sel S fun k => f1 k || f2 k) (I := sel S fun k => (f1 k && f2 k) && decide (k ≠ i)) (ok_sel hO1 f1) (ok_sel hO2 f2)
              (fun p hp => by
                obtain ⟨k, a, b, c⟩ := mem_sel.1 hp
                by_cases e : i = k
                · subst e
                  rw [hS] at c
                  rcases List.mem_cons.1 c with rfl | c
                  · exact .inr (mem_sel.2 ⟨i, by simpa using a, i2, by rw [getD_set, if_pos ⟨rfl, a⟩]; exact .head _⟩)
                  · exact .inl (mem_sel.2 ⟨i, by simpa using a, i1, by rw [getD_set, if_pos ⟨rfl, a⟩]; exact c⟩)
                · rcases Bool.or_eq_true_iff.1 b with b | b
                  · exact .inl (mem_sel.2 ⟨k, by simpa using a, b, by rw [getD_set, if_neg (fun x => e x.1)]; exact c⟩)
                  · exact .inr (mem_sel.2 ⟨k, by simpa using a, b, by rw [getD_set, if_neg (fun x => e x.1)]; exact c⟩))
              (fun p hp => by
                obtain ⟨k, a, b, c⟩ := mem_sel.1 hp
                simp only [Bool.and_eq_true, decide_eq_true_eq] at b
                exact ⟨mem_sel.2 ⟨k, by simpa using a, b.1.1, by rw [getD_set, if_neg (fun x => b.2 x.1.symm)]; exact c⟩, mem_sel.2 ⟨k, by simpa using a, b.1.2, by rw [getD_set, if_neg (fun x => b.2 x.1.symm)]; exact c⟩⟩)
            have a1 := hR (fun k => f1 k || f2 k)
            have a2 := hR (fun k => (f1 k && f2 k) && decide (k ≠ i))
            have a3 := sz_or_and S.length f1 f2
            have a4 := sz_drop (n := S.length) (i := i) (f := fun k => f1 k && f2 k) hi (by simp [i1, i2])
            omega
theorem rado {S : List (List (Nat × Nat))} (hO : OkS S) (hR : Rad S) : ∃ T : List (Nat × Nat), T.length = S.length ∧ (∀ i, i < S.length → T.getD i (0, 0) ∈ S.getD i []) ∧ rk T = T.length :=
  rado_ _ S (Nat.le_refl _) hO hR
theorem rk_free_sub : ∀ {L M : List (Nat × Nat)}, Ok L → L.Sublist M → Ok M → rk M = M.length → rk L = L.length := by
  intro L M hL hs hM h
  have key : ∀ {L M : List (Nat × Nat)} {j j' : List Nat}, L.Sublist M → Can j → Can j' → Fin' j' j → Ok M → cntJ j M = M.length → cntJ j' L = L.length := by
    intro L M j j' hs
    induction hs generalizing j j' with
    | slnil => intro _ _ _ _ _; rfl
    | @cons a b p hs ih =>
      intro h1 h2 h3 hM h
      have hp := hM p (.head _)
      have hM' : Ok b := fun q hq => hM q (.tail _ hq)
      simp only [cntJ, List.length_cons] at h
      split at h
      · have := cntJ_le b j; omega
      · exact ih (j := wth j p) (can_wth h1 hp) h2 (fun s t hs ht e => fin_wth h1 s t hs ht (h3 s t hs ht e)) hM' (by omega)
    | @cons_cons a b p hs ih =>
      intro h1 h2 h3 hM h
      have hp := hM p (.head _)
      have hM' : Ok b := fun q hq => hM q (.tail _ hq)
      simp only [cntJ, List.length_cons] at h ⊢
      split at h
      · have := cntJ_le b j; omega
      · rename_i e
        split
        · rename_i e'
          exact absurd (jnd_iff.2 (h3 _ _ hp.1 hp.2 (jnd_iff.1 e'))) e
        · have := ih (j := wth j p) (j' := wth j' p) (can_wth h1 hp) (can_wth h2 hp) (wth_least h2 hp (fun s t hs ht e => fin_wth h1 s t hs ht (h3 s t hs ht e)) (wth_jnd h1 hp)) hM' (by omega)
          omega
  exact key hs can_apt can_apt (fin_refl _) hM h
theorem rado_conv {S : List (List (Nat × Nat))} (hO : OkS S) {T : List (Nat × Nat)} (h1 : T.length = S.length) (h2 : ∀ i, i < S.length → T.getD i (0, 0) ∈ S.getD i []) (h3 : rk T = T.length) : Rad S := by
  intro f
  have hT : Ok T := fun p hp => by
    obtain ⟨i, hi, rfl⟩ := List.getElem_of_mem hp
    have := h2 i (by omega)
    have e : T.getD i (0, 0) = T[i] := by simp [List.getD, hi]
    rw [e] at this
    exact hO i _ this
  have hs : (((List.range T.length).filter f).map fun i => T.getD i (0, 0)).Sublist T := by
    have : T = (List.range T.length).map fun i => T.getD i (0, 0) := by
      apply List.ext_getElem (by simp)
      intro i a b
      simp [a]
    have e : ((List.range T.length).map fun i => T.getD i (0, 0)) = T := this.symm
    have s : (((List.range T.length).filter f).map fun i => T.getD i (0, 0)).Sublist ((List.range T.length).map fun i => T.getD i (0, 0)) := List.Sublist.map _ List.filter_sublist
    rw [e] at s
    exact s
  have hsub : ∀ p ∈ ((List.range T.length).filter f).map fun i => T.getD i (0, 0), p ∈ sel S f := fun p hp => by
    obtain ⟨i, hi, rfl⟩ := List.mem_map.1 hp
    obtain ⟨a, b⟩ := List.mem_filter.1 hi
    have a' : i < S.length := by have := List.mem_range.1 a; omega
    exact mem_sel.2 ⟨i, a', b, h2 i a'⟩
  have hOk : Ok (((List.range T.length).filter f).map fun i => T.getD i (0, 0)) := fun p hp => ok_sel hO f p (hsub p hp)
  have r := rk_free_sub hOk hs hT h3
  have m := rk_mono hOk (ok_sel hO f) hsub
  rw [r, List.length_map, h1] at m
  exact m
def pk (l : List (Nat × Nat)) (i : Nat) : Nat × Nat := l.getD i (0, 0)
def chs : List (List (Nat × Nat)) → List Nat → List (List Nat)
  | [], _ => [[]]
  | l :: S, j => (List.range' 0 l.length).flatMap fun i => if jnd j (pk l i) then [] else (chs S (wth j (pk l i))).map (i :: ·)
def chsF (l : List (Nat × Nat)) (S : List (List (Nat × Nat))) (j : List Nat) (i : Nat) : List (List Nat) :=
  (List.range' i (l.length - i)).flatMap fun i => if jnd j (pk l i) then [] else (chs S (wth j (pk l i))).map (i :: ·)
theorem chs_cons (l : List (Nat × Nat)) (S : List (List (Nat × Nat))) (j : List Nat) : chs (l :: S) j = chsF l S j 0 := rfl
theorem chsF_end {l : List (Nat × Nat)} {S : List (List (Nat × Nat))} {j : List Nat} {i : Nat} (h : l.length ≤ i) : chsF l S j i = [] := by
  unfold chsF; rw [Nat.sub_eq_zero_of_le h]; rfl
theorem chsF_step {l : List (Nat × Nat)} {S : List (List (Nat × Nat))} {j : List Nat} {i : Nat} (h : i < l.length) :
    chsF l S j i = (if jnd j (pk l i) then [] else (chs S (wth j (pk l i))).map (i :: ·)) ++ chsF l S j (i + 1) := by
  unfold chsF; rw [show l.length - i = (l.length - (i + 1)) + 1 by omega, List.range'_succ, List.flatMap_cons]
theorem flat_len {α β : Type} {f : α → List β} {c : Nat} : ∀ {l : List α}, (∀ a ∈ l, (f a).length ≤ c) → (l.flatMap f).length ≤ l.length * c
  | [], _ => by simp
  | a :: l, h => by
    have := flat_len (l := l) fun b hb => h b (.tail _ hb)
    have := h a (.head _)
    rw [List.flatMap_cons, List.length_append, List.length_cons, Nat.succ_mul]; omega
theorem chs_len : ∀ (S : List (List (Nat × Nat))) (j : List Nat), (∀ l ∈ S, l.length ≤ 6) → (chs S j).length ≤ 6 ^ S.length
  | [], _, _ => by simp [chs]
  | l :: S, j, h => by
    have hl := h l (.head _)
    have := flat_len (c := 6 ^ S.length) (f := fun i => if jnd j (pk l i) then [] else (chs S (wth j (pk l i))).map (i :: ·)) (l := List.range' 0 l.length) fun i _ => by
      split
      · simp
      · rw [List.length_map]; exact chs_len S _ fun l hl => h l (.tail _ hl)
    rw [List.length_range'] at this
    rw [chs, List.length_cons, Nat.pow_succ, Nat.mul_comm]
    exact Nat.le_trans this (Nat.mul_le_mul_right _ hl)
def picks : List (List (Nat × Nat)) → List Nat → List (Nat × Nat)
  | l :: S, i :: c => pk l i :: picks S c
  | _, _ => []
def Fits : List (List (Nat × Nat)) → List Nat → Prop
  | [], [] => True
  | l :: S, i :: c => i < l.length ∧ Fits S c
  | _, _ => False
theorem fits_len : ∀ {S : List (List (Nat × Nat))} {c : List Nat}, Fits S c → c.length = S.length ∧ (picks S c).length = S.length
  | [], [], _ => ⟨rfl, rfl⟩
  | l :: S, i :: c, h => by have := fits_len h.2; simp [picks, this.1, this.2]
theorem mem_chs : ∀ {S : List (List (Nat × Nat))} {j : List Nat} {c : List Nat}, c ∈ chs S j ↔ Fits S c ∧ cntJ j (picks S c) = S.length
  | [], j, c => by
    cases c with
    | nil => simp [chs, Fits, picks, cntJ]
    | cons a c => simp [chs, Fits]
  | l :: S, j, [] => by
    simp only [chs, List.mem_flatMap, Fits, false_and, iff_false, not_exists, not_and]
    intro i _
    split <;> simp
  | l :: S, j, i :: c => by
    simp only [chs, List.mem_flatMap, Fits, picks, cntJ, List.length_cons]
    constructor
    · rintro ⟨k, hk, h⟩
      have hk' : k < l.length := by simpa using hk
      split at h
      · simp at h
      · rename_i hj
        simp only [List.mem_map, List.cons.injEq] at h
        obtain ⟨c', h1, rfl, rfl⟩ := h
        have := mem_chs.1 h1
        rw [if_neg hj]
        exact ⟨⟨hk', this.1⟩, by rw [this.2]⟩
    · rintro ⟨⟨h1, h2⟩, h3⟩
      refine ⟨i, by simpa using h1, ?_⟩
      have hp := (fits_len h2).2
      split at h3
      · have := cntJ_le (picks S c) j; omega
      · rename_i hj
        rw [if_neg hj]
        exact List.mem_map.2 ⟨c, mem_chs.2 ⟨h2, by omega⟩, rfl⟩
theorem picks_at : ∀ {S : List (List (Nat × Nat))} {c : List Nat}, Fits S c → ∀ i, i < S.length → (picks S c).getD i (0, 0) ∈ S.getD i []
  | [], _, _, i, h => by simp at h
  | l :: S, k :: c, hf, 0, _ => by
    have := hf.1
    simp [picks, pk, List.getD, this]
  | l :: S, k :: c, hf, i + 1, h => by
    have := picks_at hf.2 i (by simpa using h)
    simpa [picks] using this
theorem unpick : ∀ {S : List (List (Nat × Nat))} {T : List (Nat × Nat)}, T.length = S.length → (∀ i, i < S.length → T.getD i (0, 0) ∈ S.getD i []) → ∃ c, Fits S c ∧ picks S c = T
  | [], [], _, _ => ⟨[], trivial, rfl⟩
  | l :: S, t :: T, h, h2 => by
    obtain ⟨c, c1, c2⟩ := unpick (S := S) (T := T) (by simpa using h) fun i hi => by simpa using h2 (i + 1) (by simpa using hi)
    have := h2 0 (by simp)
    simp at this
    obtain ⟨i, hi, e⟩ := List.getElem_of_mem this
    exact ⟨i :: c, ⟨hi, c1⟩, by simp [picks, pk, List.getD, hi, e, c2]⟩
theorem chs_rad {S : List (List (Nat × Nat))} (hO : OkS S) : chs S apt ≠ [] ↔ Rad S := by
  constructor
  · intro h
    obtain ⟨c, hc⟩ := List.exists_mem_of_ne_nil _ h
    obtain ⟨h1, h2⟩ := mem_chs.1 hc
    have hl := (fits_len h1).2
    exact rado_conv hO hl (picks_at h1) (by unfold rk; rw [h2, hl])
  · intro h
    obtain ⟨T, t1, t2, t3⟩ := rado hO h
    obtain ⟨c, c1, c2⟩ := unpick t1 t2
    exact List.ne_nil_of_mem (mem_chs.2 ⟨c1, by rw [c2, ← t1]; exact t3⟩)
theorem sz_mono {n : Nat} {f g : Nat → Bool} (h : ∀ k, k < n → f k = true → g k = true) : sz n f ≤ sz n g := by
  unfold sz
  induction n with
  | zero => simp
  | succ n ih =>
    have := ih fun k hk => h k (by omega)
    rw [List.range_succ, List.filter_append, List.filter_append, List.length_append, List.length_append]
    have hn := h n (by omega)
    cases hf : f n with
    | false => simp [hf]; omega
    | true => simp [hf, hn hf]; exact this
theorem sz_congr {n : Nat} {f g : Nat → Bool} (h : ∀ k, k < n → f k = g k) : sz n f = sz n g := by
  unfold sz; rw [List.filter_congr fun k hk => h k (List.mem_range.1 hk)]
theorem sel_mono {S : List (List (Nat × Nat))} {f g : Nat → Bool} (h : ∀ k, k < S.length → f k = true → g k = true) : ∀ p ∈ sel S f, p ∈ sel S g := fun p hp => by
  obtain ⟨i, a, b, c⟩ := mem_sel.1 hp
  exact mem_sel.2 ⟨i, a, h i a b, c⟩
def radP (S : List (List (Nat × Nat))) (m : Nat → Bool) : Prop := ∀ f, (∀ k, k < S.length → f k = true → m k = true) → sz S.length f ≤ rk (sel S f)
theorem sel_rk {S : List (List (Nat × Nat))} (hO : OkS S) {f g : Nat → Bool} (h : ∀ k, k < S.length → f k = true → g k = true) : rk (sel S f) ≤ rk (sel S g) :=
  rk_mono (ok_sel hO f) (ok_sel hO g) (sel_mono h)
theorem defect_ {S : List (List (Nat × Nat))} (hO : OkS S) (e m : Nat → Bool) (hm : radP S m) (hmax : ∀ k, k < S.length → e k = true → m k = false → ¬ radP S (fun x => m x || x == k)) :
    ∀ j, j ≤ S.length → ∃ I : Nat → Bool, (∀ k, k < S.length → I k = true → m k = true) ∧ rk (sel S fun k => I k || (decide (k < j) && (e k && !m k))) ≤ sz S.length I
  | 0, _ => ⟨fun _ => false, fun k _ h => (by cases h), by
      have : sel S (fun k => false || (decide (k < 0) && (e k && !m k))) = [] := by
        rw [List.eq_nil_iff_forall_not_mem]; intro p hp
        obtain ⟨i, _, b, _⟩ := mem_sel.1 hp
        simp at b
      rw [this]; simp [rk, cntJ]⟩
  | j + 1, hj => by
    obtain ⟨I, h1, h2⟩ := defect_ hO e m hm hmax j (by omega)
    by_cases hk : e j = true ∧ m j = false
    · obtain ⟨f, hf⟩ := Classical.not_forall.1 (hmax j (by omega) hk.1 hk.2)
      obtain ⟨f1, f2⟩ := Classical.not_imp.1 hf
      have fj : f j = true := by
        cases h : f j with
        | true => rfl
        | false =>
          exfalso; apply f2
          exact hm f fun k hk' hfk => by
            have := f1 k hk' hfk
            have hne : k ≠ j := fun e => by subst e; rw [h] at hfk; cases hfk
            simpa [hne] using this
      have sf := sz_drop (n := S.length) (i := j) (f := f) (by omega) fj
      -- the kinds of f that are not j
      have gm : ∀ k, k < S.length → (f k && decide (k ≠ j)) = true → m k = true := fun k hk' hg => by
        simp only [Bool.and_eq_true, decide_eq_true_eq] at hg
        have := f1 k hk' hg.1
        simpa [hg.2] using this
      refine ⟨fun k => I k || (f k && decide (k ≠ j)), fun k hk' h => ?_, ?_⟩
      · rcases Bool.or_eq_true_iff.1 h with h | h
        · exact h1 k hk' h
        · exact gm k hk' h
      · have key := rk_union (A := sel S fun k => I k || (decide (k < j) && (e k && !m k))) (B := sel S f) (U := sel S fun k => (I k || (f k && decide (k ≠ j))) || (decide (k < j + 1) && (e k && !m k))) (I := sel S fun k => I k && (f k && decide (k ≠ j))) (ok_sel hO _) (ok_sel hO _)
          (fun p hp => by
            obtain ⟨i, a, b, c⟩ := mem_sel.1 hp
            by_cases hi : f i = true
            · exact .inr (mem_sel.2 ⟨i, a, hi, c⟩)
            · refine .inl (mem_sel.2 ⟨i, a, ?_, c⟩)
              simp only [Bool.not_eq_true] at hi
              simp only [hi, Bool.false_and, Bool.or_false, Bool.or_eq_true, Bool.and_eq_true, decide_eq_true_eq] at b ⊢
              rcases b with b | ⟨b, q⟩
              · exact .inl b
              · refine .inr ⟨?_, q⟩
                have : i ≠ j := fun e => by subst e; rw [fj] at hi; cases hi
                omega)
          (fun p hp => by
            obtain ⟨i, a, b, c⟩ := mem_sel.1 hp
            simp only [Bool.and_eq_true] at b
            exact ⟨mem_sel.2 ⟨i, a, by simp [b.1], c⟩, mem_sel.2 ⟨i, a, b.2.1, c⟩⟩)
        have a1 := hm (fun k => I k && (f k && decide (k ≠ j))) fun k hk' h => by
          simp only [Bool.and_eq_true] at h
          exact h1 k hk' h.1
        have a2 := sz_or_and S.length I fun k => f k && decide (k ≠ j)
        have a3 : rk (sel S f) < sz S.length f := Nat.lt_of_not_le f2
        simp only [] at a1 a2 key sf ⊢
        omega
    · refine ⟨I, h1, ?_⟩
      have : sel S (fun k => I k || (decide (k < j + 1) && (e k && !m k))) = sel S (fun k => I k || (decide (k < j) && (e k && !m k))) := by
        unfold sel
        congr 1
        apply List.filter_congr
        intro k hk'
        by_cases hkj : k = j
        · subst hkj
          have : (e k && !m k) = false := by
            cases he : e k <;> cases hm' : m k <;> simp_all
          simp [this]
        · have : decide (k < j + 1) = decide (k < j) := by
            by_cases h : k < j
            · have : k < j + 1 := by omega
              simp [h, this]
            · have : ¬ k < j + 1 := by omega
              simp [h, this]
          rw [this]
      rw [this]; exact h2
theorem defect {S : List (List (Nat × Nat))} (hO : OkS S) (e m : Nat → Bool) (hme : ∀ k, k < S.length → m k = true → e k = true) (hm : radP S m) (hmax : ∀ k, k < S.length → e k = true → m k = false → ¬ radP S (fun x => m x || x == k)) :
    ∃ F : Nat → Bool, (∀ k, k < S.length → F k = true → e k = true) ∧ rk (sel S F) + sz S.length e ≤ sz S.length m + sz S.length F := by
  obtain ⟨I, h1, h2⟩ := defect_ hO e m hm hmax S.length (Nat.le_refl _)
  refine ⟨fun k => I k || (decide (k < S.length) && (e k && !m k)), fun k hk h => ?_, ?_⟩
  · rcases Bool.or_eq_true_iff.1 h with h | h
    · exact hme k hk (h1 k hk h)
    · simp only [Bool.and_eq_true] at h; exact h.2.1
  · have a1 := sz_or_and S.length I fun k => decide (k < S.length) && (e k && !m k)
    have a2 : sz S.length (fun k => I k && (decide (k < S.length) && (e k && !m k))) = 0 := by
      unfold sz
      rw [List.length_eq_zero_iff, List.filter_eq_nil_iff]
      intro k hk h
      simp only [Bool.and_eq_true, Bool.not_eq_true'] at h
      have := h1 k (List.mem_range.1 hk) h.1
      rw [h.2.2.2] at this; cases this
    have a3 := sz_or_and S.length m fun k => e k && !m k
    have a4 : sz S.length (fun k => m k && (e k && !m k)) = 0 := by
      unfold sz
      rw [List.length_eq_zero_iff, List.filter_eq_nil_iff]
      intro k hk h
      cases hmk : m k <;> simp [hmk] at h
    have a5 : sz S.length (fun k => m k || (e k && !m k)) = sz S.length e := sz_congr fun k hk => by
      have := hme k hk
      cases hmk : m k <;> cases hek : e k <;> simp_all
    have a6 : sz S.length (fun k => decide (k < S.length) && (e k && !m k)) = sz S.length (fun k => e k && !m k) := sz_congr fun k hk => by simp [hk]
    omega
theorem radP_le {S : List (List (Nat × Nat))} (hO : OkS S) (e m F : Nat → Bool) (hme : ∀ k, k < S.length → m k = true → e k = true) (hFe : ∀ k, k < S.length → F k = true → e k = true) (hm : radP S m) : sz S.length m + sz S.length F ≤ rk (sel S F) + sz S.length e := by
  have a1 := sz_or_and S.length m F
  have a2 : sz S.length (fun k => m k || F k) ≤ sz S.length e := sz_mono fun k hk h => by
    rcases Bool.or_eq_true_iff.1 h with h | h
    · exact hme k hk h
    · exact hFe k hk h
  have a3 := hm (fun k => m k && F k) fun k _ h => by
    simp only [Bool.and_eq_true] at h; exact h.1
  have a4 := sel_rk hO (f := fun k => m k && F k) (g := F) fun k _ h => by
    simp only [Bool.and_eq_true] at h; exact h.2
  omega
def grL : List Nat → List (Nat × Nat) → List (Nat × Nat)
  | _, [] => []
  | j, p :: L => if jnd j p then grL j L else p :: grL (wth j p) L
theorem grL_cnt : ∀ (L : List (Nat × Nat)) (j : List Nat), cntJ j (grL j L) = (grL j L).length ∧ (grL j L).length = cntJ j L
  | [], _ => ⟨rfl, rfl⟩
  | p :: L, j => by
    simp only [grL, cntJ]
    by_cases h : jnd j p = true
    · rw [if_pos h, if_pos h]; exact grL_cnt L j
    · rw [if_neg h, if_neg h]
      have := grL_cnt L (wth j p)
      simp only [cntJ, if_neg h, List.length_cons]
      omega
def grP : List Nat → Nat → List (Nat × Nat) → List Nat
  | _, _, [] => []
  | j, k, p :: L => if jnd j p then grP j (k + 1) L else k :: grP (wth j p) (k + 1) L
theorem grP_ok : ∀ (L : List (Nat × Nat)) (j : List Nat) (k : Nat), (∀ x ∈ grP j k L, k ≤ x ∧ x < k + L.length) ∧ (grP j k L).Pairwise (· < ·) ∧ (grP j k L).map (fun x => L.getD (x - k) (0, 0)) = grL j L
  | [], _, _ => ⟨by simp [grP], by simp [grP], rfl⟩
  | p :: L, j, k => by
    have sh : ∀ (X : List Nat), (∀ x ∈ X, k + 1 ≤ x) → X.map (fun x => (p :: L).getD (x - k) (0, 0)) = X.map (fun x => L.getD (x - (k + 1)) (0, 0)) := fun X hX => List.map_congr_left fun x hx => by
      have := hX x hx
      rw [show x - k = (x - (k + 1)) + 1 by omega, List.getD_cons_succ]
    simp only [grP, grL]
    by_cases h : jnd j p = true
    · rw [if_pos h, if_pos h]
      obtain ⟨a, b, c⟩ := grP_ok L j (k + 1)
      refine ⟨fun x hx => by have := a x hx; simp; omega, b, ?_⟩
      rw [sh _ fun x hx => (a x hx).1]; exact c
    · rw [if_neg h, if_neg h]
      obtain ⟨a, b, c⟩ := grP_ok L (wth j p) (k + 1)
      refine ⟨fun x hx => ?_, List.pairwise_cons.2 ⟨fun x hx => by have := (a x hx).1; omega, b⟩, ?_⟩
      · rcases List.mem_cons.1 hx with rfl | hx
        · simp
        · have := a x hx; simp; omega
      · rw [List.map_cons, sh _ fun x hx => (a x hx).1, c]; simp
def allF : List (List (Nat × Nat)) → List (Nat × Nat) → List (List Nat)
  | [], P => if rk P = P.length then [[]] else []
  | l :: S, P => (List.range' 0 l.length).flatMap fun i => (allF S (P ++ [pk l i])).map (i :: ·)
theorem allF_chs : ∀ (S : List (List (Nat × Nat))) (P : List (Nat × Nat)), allF S P = if rk P = P.length then chs S (runJ apt P) else []
  | [], P => rfl
  | l :: S, P => by
    have hle := rk_le P
    have hs : ∀ p, rk (P ++ [p]) = rk P + (if jnd (runJ apt P) p then 0 else 1) := fun p => by rw [rk_app]; simp only [cntJ]
    have hr : ∀ p, runJ apt (P ++ [p]) = if jnd (runJ apt P) p then runJ apt P else wth (runJ apt P) p := fun p => by rw [runJ_app]; simp only [runJ]
    rw [allF]
    by_cases h : rk P = P.length
    · rw [if_pos h, chs]
      congr 1
      funext i
      rw [allF_chs S, hs, hr, List.length_append, List.length_singleton]
      by_cases hj : jnd (runJ apt P) (pk l i) = true
      · rw [if_pos hj, if_neg (by omega), if_pos hj]; rfl
      · rw [if_neg hj, if_pos (by omega), if_neg hj, if_neg hj]
    · rw [if_neg h]
      have : ∀ i, (allF S (P ++ [pk l i])).map (i :: ·) = [] := fun i => by
        rw [allF_chs S, hs, List.length_append, List.length_singleton, if_neg (by split <;> omega)]; rfl
      simp [this]
end Go.Crew
