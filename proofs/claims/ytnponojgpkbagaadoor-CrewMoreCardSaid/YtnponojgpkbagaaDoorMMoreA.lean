/-
  Models and laws.
-/
import Derived.Test.YtnponojgpkbagaaDoorMFndA
import Derived.Test.YtnponojgpkbagaaDoorME44
import Derived.Test.YtnponojgpkbagaaDoorMJoinA
import Derived.Test.YtnponojgpkbagaaDoorB
import Derived.Test.YtnponojgpkbagaaDoorV36
namespace Go.Proofs.YtnponojgpkbagaaDoor
open Go.V
open Nat renaming reduceBEq → qa, reduceAdd → qb, reduceSub → qc, reduceMul → qd, reduceLT → qe, reduceLeDiff → qf
open Int renaming reduceLE → qg, reduceLT → qh, reduceToNat → qi, reduceBEq → qj, reduceBNe → qk
set_option maxRecDepth 100000
set_option maxHeartbeats 4000000
set_option linter.unusedSimpArgs false
set_option linter.unusedVariables false
attribute [local go_sem] tl1 tl2 tl3 tl4 tl5 tl9 tl17 tl21 tl22 tl23 tl24 tl25 tl26 tl27 tl28 tl29 tl31 tl32 tl34 tl35 tl36 tl37 tl38 tl39 tl40 tl41 tl42 tl43 tl44 tl45 tl47 tl48 tl49 tl50 tl51 tl52 tl53 tl54 tl55 tl56 tl57 tl58 tl59 tl60 tl61 tl62 tl63 tl64 tl65 tl66 tl67 tl68 tl69 tl70 tl71 tl72 tl73 tl74 tl75 tl76 tl77 tl78 tl79 tl80 tl81 tl82 tl83 tl84 tl85 tl86 tl87 tl88 tl89 tl90 tl92 tl94 tl95 tl96 tl97 tl98 tl99 tl100 tl101 tl102 tl103 tl104 tl105 tl106 tl107 tl108 tl109 tl110 tl111 tl112 tl113 tl114 tl115 tl116 tl118 tl119 tl121 tl122 tl123 tl124 tl125 tl126 tl127 tl128 tl129 tl131 tl133 tl134 tl135 tl136 tl142 tl146

def m92 (N : Nat) (x6488 : Int) (n6489 : Nat) (c6490 : List PV) : Option ((PV × List PV)) :=
  grd (0 ≤ x6488 ∧ x6488 < ((n6489 : Nat) : Int)) <|
  grd (((Int.toNat x6488) + 1) ≤ List.length c6490) <|
  some ((.tup []), (List.set c6490 (Int.toNat x6488) (.bool true)))
theorem c92 (N : Nat) (x6488 : Int) (n6489 : Nat) (c6490 : List PV) (r : PV) (c6495 : List PV) (h : m92 N x6488 n6489 c6490 = some (r, c6495)) : V.Fn Tryd.prog 92 2 [.v .nl, .ptr 0 0, .v (.ipt [(.int .i64 x6488)])] [(0, .r [.sl false 1 0 n6489 1]), (1, .p c6490)] (fun d ob' => d = .v r ∧ ob' = [(0, .r [.sl false 1 0 n6489 1]), (1, .p c6495)]) := by
  unfold m92 at h
  refine Fn_of (sz := 7) tab_ok [0, 1, 2] [] Tryd.func92 rfl rfl rfl (by simp) ?_
  simp only [initSt, initEnv, List.map_cons, List.map_nil, List.getD_cons_zero, List.getD_cons_succ, List.getD_nil]
  have hh := grd_some h; clear h; obtain ⟨⟨g6492, g6493⟩, h⟩ := hh
  have hh := grd_some h; clear h; obtain ⟨g6494, h⟩ := hh
  refine W_sound tab_ok mixed 7 _ _ _ ?_
  simp -implicitDefEqProofs only [go_sem, qa, qb, qc, qd, qe, qf, qg, qh, qi, qj, qk, ↓reduceIte, g6492, g6493, g6494]
  repeat with_reducible refine And.intro (by first | kernel_rfl | decide) ?_
  simp only [Option.some.injEq, Prod.mk.injEq] at h; obtain ⟨rfl, rfl⟩ := h
  exact finD (e2 := [(0, .dead), (1, .dead), (2, .dead)]) (ob2 := [(0, .r [.sl false 1 0 n6489 1]), (1, .p (List.set c6490 (Int.toNat x6488) (.bool true)))]) (st' := ⟨[], [(0, .dead), (1, .dead), (2, .dead)], [(0, .r [.sl false 1 0 n6489 1]), (1, .p (List.set c6490 (Int.toNat x6488) (.bool true)))], 2, []⟩) (.k (.k (.k .nil))) (.cons _ _ _ _ _ (DLes.refl _) (.cons _ _ _ _ _ (DLes.refl _) .nil)) (by kernel_rfl) (by simp only [go_sem, qa, qb, qc, qd, qe, qf, qg, qh, qi, qj, qk, ↓reduceIte, resQ_tmp, resQ_cell, resQ_nil, retD_one, retD_two, retD_three, retD_none]; try simp [R.val, retD_one, retD_two, retD_three, retD_none])

def m92_2 (N : Nat) (p6554 : PV) (x6555 : Int) (n6556 : Nat) (c6557 : List PV) : Option ((PV × List PV)) :=
  getL p6554 fun n6560 c6561 =>
  grd (0 ≤ x6555 ∧ x6555 < ((n6556 : Nat) : Int)) <|
  grd (((Int.toNat x6555) + 1) ≤ List.length c6557) <|
  some ((.tup []), (List.set c6557 (Int.toNat x6555) (.bool true)))
theorem c92_2 (N : Nat) (p6554 : PV) (x6555 : Int) (n6556 : Nat) (c6557 : List PV) (r : PV) (c6565 : List PV) (h : m92_2 N p6554 x6555 n6556 c6557 = some (r, c6565)) : V.Fn Tryd.prog 92 2 [.v p6554, .ptr 0 0, .v (.ipt [(.int .i64 x6555)])] [(0, .r [.sl false 1 0 n6556 1]), (1, .p c6557)] (fun d ob' => d = .v r ∧ ob' = [(0, .r [.sl false 1 0 n6556 1]), (1, .p c6565)]) := by
  unfold m92_2 at h
  refine Fn_of (sz := 7) tab_ok [0, 1, 2] [] Tryd.func92 rfl rfl rfl (by simp) ?_
  simp only [initSt, initEnv, List.map_cons, List.map_nil, List.getD_cons_zero, List.getD_cons_succ, List.getD_nil]
  have hh := getL_some h; clear h; obtain ⟨n6560, c6561, h6559, h⟩ := hh
  have hh := grd_some h; clear h; obtain ⟨⟨g6562, g6563⟩, h⟩ := hh
  have hh := grd_some h; clear h; obtain ⟨g6564, h⟩ := hh
  refine W_sound tab_ok mixed 7 _ _ _ ?_
  simp -implicitDefEqProofs only [go_sem, qa, qb, qc, qd, qe, qf, qg, qh, qi, qj, qk, ↓reduceIte, h6559, g6562, g6563, g6564]
  repeat with_reducible refine And.intro (by first | kernel_rfl | decide) ?_
  simp only [Option.some.injEq, Prod.mk.injEq] at h; obtain ⟨rfl, rfl⟩ := h
  exact finD (e2 := [(0, .dead), (1, .dead), (2, .dead)]) (ob2 := [(0, .r [.sl false 1 0 n6556 1]), (1, .p (List.set c6557 (Int.toNat x6555) (.bool true)))]) (st' := ⟨[], [(0, .dead), (1, .dead), (2, .dead)], [(0, .r [.sl false 1 0 n6556 1]), (1, .p (List.set c6557 (Int.toNat x6555) (.bool true)))], 2, []⟩) (.k (.k (.k .nil))) (.cons _ _ _ _ _ (DLes.refl _) (.cons _ _ _ _ _ (DLes.refl _) .nil)) (by kernel_rfl) (by simp only [go_sem, qa, qb, qc, qd, qe, qf, qg, qh, qi, qj, qk, ↓reduceIte, resQ_tmp, resQ_cell, resQ_nil, retD_one, retD_two, retD_three, retD_none]; try simp [R.val, retD_one, retD_two, retD_three, retD_none])

def m89_2_L0 (N : Nat) (rec : PV → PV → PV → Int → Nat → List PV → PV → PV → Option ((PV × PV × List PV × PV))) (x6607 : Int) (n6608 : Nat) (p6610 : PV) (n6616 : Nat) (c6617 : List PV) (n6619 : Nat) (c6620 : List PV) (n6646 : Nat) (c6647 : List PV) : Nat → Int → PV → List PV → PV → Option ((PV × List PV × PV))
  | 0, _, _, _, _ => none
  | n + 1, x6668, p6669, c6670, p6671 =>
    brn (decide (x6668 < ((n6646 : Nat) : Int))) (
      grd (0 ≤ x6668 ∧ x6668 < ((n6646 : Nat) : Int)) <|
      grd (2 ≤ List.length (List.drop ((Int.toNat x6668) * 2) c6647)) <|
      getA2 (.agg (List.take 2 (List.drop ((Int.toNat x6668) * 2) c6647))) fun p6677 p6678 =>
      grd (((n6616 : Nat) : Int) ≤ ((n6616 : Nat) : Int)) <|
      grd (List.length c6617 = n6616) <|
      grd ((n6616 + 1) ≤ 1099511627776) <|
      grd (((n6616 : Nat) : Int) ≤ ((n6619 : Nat) : Int)) <|
      grd (List.length c6620 = (n6619 * 2)) <|
      grd (List.length (List.take (n6616 * 2) c6620) = (n6616 * 2)) <|
      bnd' (rec (.lst false (n6616 + 1) (c6617 ++ [(.int .i64 x6668)])) (.lst false (n6616 + 1) (List.take ((n6616 + 1) * 2) ((List.take (n6616 * 2) c6620) ++ [p6677, p6678]))) p6669 x6607 n6608 c6670 p6610 p6671) fun (p6685, p6687, c6688, p6689) =>
      getT0 p6685 <|
      m89_2_L0 N rec x6607 n6608 p6610 n6616 c6617 n6619 c6620 n6646 c6647 n (IntKind.i64.wrap (x6668 + 1)) p6687 c6688 p6689) (
      some (p6669, c6670, p6671))
def m89_2 (N : Nat) : Nat → PV → PV → PV → Int → Nat → List PV → PV → PV → Option ((PV × PV × List PV × PV))
  | 0, _, _, _, _, _, _, _, _ => none
  | fu + 1, p6604, p6605, p6606, x6607, n6608, c6609, p6610, p6611 =>
    getL p6604 fun n6616 c6617 =>
    getL p6605 fun n6619 c6620 =>
    getL p6606 fun n6622 c6623 =>
    brn (((n6616 : Nat) : Int) == ((n6622 : Nat) : Int)) (
      bnd' (m49 N (.lst false n6619 c6620)) fun p6625 =>
      getB p6625 fun b6628 =>
      brn b6628 (
        bnd' (m92_2 N (.lst false n6616 c6617) x6607 n6608 c6609) fun (p6630, c6632) =>
        getT0 p6630 <|
        some ((.tup []), (.lst false n6622 c6623), c6632, p6611)) (
        some ((.tup []), (.lst false n6622 c6623), c6609, p6611))) (
      getL p6611 fun n6635 c6636 =>
      grd (0 ≤ ((n6616 : Nat) : Int) ∧ ((n6616 : Nat) : Int) < ((n6622 : Nat) : Int)) <|
      grd (0 < List.length (List.drop n6616 c6623)) <|
      getI .i64 (gp c6623 n6616) fun x6641 =>
      grd (0 ≤ x6641 ∧ x6641 < ((n6635 : Nat) : Int)) <|
      grd (0 < List.length (List.drop (Int.toNat x6641) c6636)) <|
      getL (gp c6636 (Int.toNat x6641)) fun n6646 c6647 =>
      bnd' (m89_2_L0 N (m89_2 N fu) x6607 n6608 p6610 n6616 c6617 n6619 c6620 n6646 c6647 N 0 (.lst false n6622 c6623) c6609 (.lst false n6635 c6636)) fun o =>
      match o with
      | (p6691, c6692, p6693) =>
        some ((.tup []), p6691, c6692, p6693))
theorem c89_2 (N : Nat) : ∀ (fu : Nat) (p6604 : PV) (p6605 : PV) (p6606 : PV) (x6607 : Int) (n6608 : Nat) (c6609 : List PV) (p6610 : PV) (p6611 : PV) (r : PV) (p6697 : PV) (c6698 : List PV) (p6699 : PV) (h : m89_2 N fu p6604 p6605 p6606 x6607 n6608 c6609 p6610 p6611 = some (r, p6697, c6698, p6699)), V.Fn Tryd.prog 89 6 [.v p6604, .v p6605, .ptr 0 0, .ptr 1 0, .ptr 4 0, .ptr 5 0] [(0, .p [p6606]), (1, .r [.fn 92 [.ptr 2 0, .v (.ipt [(.int .i64 x6607)])]]), (2, .r [.sl false 3 0 n6608 1]), (3, .p c6609), (4, .p [p6610, p6611]), (5, .r [.fn 89 [.ptr 0 0, .ptr 1 0, .ptr 4 0, .ptr 5 0]])] (fun d ob' => d = .v r ∧ ob' = [(0, .p [p6697]), (1, .r [.fn 92 [.ptr 2 0, .v (.ipt [(.int .i64 x6607)])]]), (2, .r [.sl false 3 0 n6608 1]), (3, .p c6698), (4, .p [p6610, p6699]), (5, .r [.fn 89 [.ptr 0 0, .ptr 1 0, .ptr 4 0, .ptr 5 0]])]) := by
  intro fu
  induction fu with
  | zero => intro p6604 p6605 p6606 x6607 n6608 c6609 p6610 p6611 r p6697 c6698 p6699 h; cases h
  | succ fu ih =>
    intro p6604 p6605 p6606 x6607 n6608 c6609 p6610 p6611 r p6697 c6698 p6699 h
    rw [m89_2] at h
    refine Fn_of (sz := 53) tab_ok [0, 1, 2, 3, 4, 5, 8, 9, 10, 16, 18, 29, 30, 31, 32] [] Tryd.func89 rfl rfl rfl (by simp) ?_
    simp only [initSt, initEnv, List.map_cons, List.map_nil, List.getD_cons_zero, List.getD_cons_succ, List.getD_nil]
    have hh := getL_some h; clear h; obtain ⟨n6616, c6617, h6615, h⟩ := hh
    have hh := getL_some h; clear h; obtain ⟨n6619, c6620, h6618, h⟩ := hh
    have hh := getL_some h; clear h; obtain ⟨n6622, c6623, h6621, h⟩ := hh
    have hh := brn_some h; clear h; rcases hh with ⟨h6624, h⟩ | ⟨h6624, h⟩
    · have hh := bnd'_some h; clear h; obtain ⟨p6625, h6626, h⟩ := hh
      refine W_sound tab_ok mixed 19 _ _ _ ?_
      simp -implicitDefEqProofs only [go_sem, qa, qb, qc, qd, qe, qf, qg, qh, qi, qj, qk, ↓reduceIte, h6615, h6618, h6621, h6624]
      repeat with_reducible refine And.intro (by first | kernel_rfl | decide) ?_
      refine Wp_callP (c49 N _ _ h6626) (by kernel_rfl) rfl rfl rfl rfl (by decide) ?_
      have hh := getB_some h; clear h; obtain ⟨b6628, h6627, h⟩ := hh
      have hh := brn_some h; clear h; rcases hh with ⟨h6629, h⟩ | ⟨h6629, h⟩
      · have hh := bnd'_some h; clear h; obtain ⟨⟨p6630, c6632⟩, h6631, h⟩ := hh
        (try dsimp only at h)
        refine W_sound tab_ok mixed 5 _ _ _ ?_
        simp -implicitDefEqProofs only [go_sem, qa, qb, qc, qd, qe, qf, qg, qh, qi, qj, qk, ↓reduceIte, h6615, h6618, h6621, h6624, h6627, h6629]
        repeat with_reducible refine And.intro (by first | kernel_rfl | decide) ?_
        refine Wp_callD [2, 3] (c92_2 N _ _ _ _ _ _ h6631) rfl rfl rfl (by first | rfl | (simp only [go_sem, qa, qb, qc, qd, qe, qf, qg, qh, qi, qj, qk, ↓reduceIte, h6615, h6618, h6621, h6624, h6627, h6629] <;> rfl)) rfl (by kernel_rfl) ?_
        have hh := getT0_some h; clear h; obtain ⟨h6633, h⟩ := hh
        refine W_sound tab_ok mixed 3 _ _ _ ?_
        simp -implicitDefEqProofs only [go_sem, qa, qb, qc, qd, qe, qf, qg, qh, qi, qj, qk, ↓reduceIte, h6615, h6618, h6621, h6624, h6627, h6629, h6633]
        repeat with_reducible refine And.intro (by first | kernel_rfl | decide) ?_
        simp only [Option.some.injEq, Prod.mk.injEq] at h; obtain ⟨rfl, rfl, rfl, rfl⟩ := h
        exact finD (e2 := [(0, .dead), (1, .dead), (2, .dead), (3, .dead), (4, .dead), (5, .dead), (8, .dead), (9, .dead), (10, .dead), (16, .dead), (18, .dead), (29, .dead), (30, .dead), (31, .dead), (32, .dead)]) (ob2 := [(0, .p [(.lst false n6622 c6623)]), (1, .r [.fn 92 [.ptr 2 0, .v (.ipt [(.int .i64 x6607)])]]), (4, .p [p6610, p6611]), (5, .r [.fn 89 [.ptr 0 0, .ptr 1 0, .ptr 4 0, .ptr 5 0]]), (3, .p c6632), (2, .r [.sl false 3 0 n6608 1])]) (st' := ⟨[], [(0, .dead), (1, .dead), (2, .dead), (3, .dead), (4, .dead), (5, .dead), (8, .dead), (9, .dead), (10, .dead), (16, .dead), (18, .dead), (29, .dead), (30, .dead), (31, .dead), (32, .dead)], [(0, .p [(.lst false n6622 c6623)]), (1, .r [.fn 92 [.ptr 2 0, .v (.ipt [(.int .i64 x6607)])]]), (2, .r [.sl false 3 0 n6608 1]), (3, .p c6632), (4, .p [p6610, p6611]), (5, .r [.fn 89 [.ptr 0 0, .ptr 1 0, .ptr 4 0, .ptr 5 0]])], 6, []⟩) (.k (.k (.k (.k (.k (.k (.k (.r (.r (.k (.k (.r (.r (.r (.r .nil))))))))))))))) (.cons _ _ _ _ _ (DLes.refl _) (.cons _ _ _ _ _ (DLes.refl _) (.cons _ _ _ _ _ (DLes.refl _) (.cons _ _ _ _ _ (DLes.refl _) (.cons _ _ _ _ _ (DLes.refl _) (.cons _ _ _ _ _ (DLes.refl _) .nil)))))) (by kernel_rfl) (by simp only [go_sem, qa, qb, qc, qd, qe, qf, qg, qh, qi, qj, qk, ↓reduceIte, resQ_tmp, resQ_cell, resQ_nil, retD_one, retD_two, retD_three, retD_none]; try simp [R.val, retD_one, retD_two, retD_three, retD_none])
      · refine W_sound tab_ok mixed 5 _ _ _ ?_
        simp -implicitDefEqProofs only [go_sem, qa, qb, qc, qd, qe, qf, qg, qh, qi, qj, qk, ↓reduceIte, h6615, h6618, h6621, h6624, h6627, h6629]
        repeat with_reducible refine And.intro (by first | kernel_rfl | decide) ?_
        simp only [Option.some.injEq, Prod.mk.injEq] at h; obtain ⟨rfl, rfl, rfl, rfl⟩ := h
        exact finD (e2 := [(0, .dead), (1, .dead), (2, .dead), (3, .dead), (4, .dead), (5, .dead), (8, .dead), (9, .dead), (10, .dead), (16, .dead), (18, .dead), (29, .dead), (30, .dead), (31, .dead), (32, .dead)]) (ob2 := [(0, .p [(.lst false n6622 c6623)]), (1, .r [.fn 92 [.ptr 2 0, .v (.ipt [(.int .i64 x6607)])]]), (2, .r [.sl false 3 0 n6608 1]), (3, .p c6609), (4, .p [p6610, p6611]), (5, .r [.fn 89 [.ptr 0 0, .ptr 1 0, .ptr 4 0, .ptr 5 0]])]) (st' := ⟨[], [(0, .dead), (1, .dead), (2, .dead), (3, .dead), (4, .dead), (5, .dead), (8, .dead), (9, .dead), (10, .dead), (16, .dead), (18, .dead), (29, .dead), (30, .dead), (31, .dead), (32, .dead)], [(0, .p [(.lst false n6622 c6623)]), (1, .r [.fn 92 [.ptr 2 0, .v (.ipt [(.int .i64 x6607)])]]), (2, .r [.sl false 3 0 n6608 1]), (3, .p c6609), (4, .p [p6610, p6611]), (5, .r [.fn 89 [.ptr 0 0, .ptr 1 0, .ptr 4 0, .ptr 5 0]])], 6, []⟩) (.k (.k (.k (.k (.k (.k (.k (.r (.r (.k (.k (.r (.r (.r (.r .nil))))))))))))))) (.cons _ _ _ _ _ (DLes.refl _) (.cons _ _ _ _ _ (DLes.refl _) (.cons _ _ _ _ _ (DLes.refl _) (.cons _ _ _ _ _ (DLes.refl _) (.cons _ _ _ _ _ (DLes.refl _) (.cons _ _ _ _ _ (DLes.refl _) .nil)))))) (by kernel_rfl) (by simp only [go_sem, qa, qb, qc, qd, qe, qf, qg, qh, qi, qj, qk, ↓reduceIte, resQ_tmp, resQ_cell, resQ_nil, retD_one, retD_two, retD_three, retD_none]; try simp [R.val, retD_one, retD_two, retD_three, retD_none])
    · have hh := getL_some h; clear h; obtain ⟨n6635, c6636, h6634, h⟩ := hh
      have hh := grd_some h; clear h; obtain ⟨⟨g6637, g6638⟩, h⟩ := hh
      have hh := grd_some h; clear h; obtain ⟨g6639, h⟩ := hh
      have hh := getI_some h; clear h; obtain ⟨x6641, h6640, h⟩ := hh
      have hh := grd_some h; clear h; obtain ⟨⟨g6642, g6643⟩, h⟩ := hh
      have hh := grd_some h; clear h; obtain ⟨g6644, h⟩ := hh
      have hh := getL_some h; clear h; obtain ⟨n6646, c6647, h6645, h⟩ := hh
      refine W_sound tab_ok mixed 29 _ _ _ ?_
      simp -implicitDefEqProofs only [go_sem, qa, qb, qc, qd, qe, qf, qg, qh, qi, qj, qk, ↓reduceIte, h6615, h6618, h6621, h6624, h6634, g6637, g6638, g6639, h6640, g6642, g6643, g6644, h6645]
      repeat with_reducible refine And.intro (by first | kernel_rfl | decide) ?_
      have hh := bnd'_some h; clear h; obtain ⟨o6700, h6701, h6702⟩ := hh
      refine Wp_cut (fun s => ∃ p6691, ∃ c6692, ∃ p6693, (p6691, c6692, p6693) = o6700 ∧ s = ⟨[], [(0, .dead), (1, .dead), (2, .dead), (3, .dead), (4, .dead), (5, .dead), (8, .dead), (9, .dead), (10, .dead), (16, .dead), (18, .dead), (29, .dead), (30, .dead), (31, .dead), (32, .dead)], [(0, .p [p6691]), (1, .r [.fn 92 [.ptr 2 0, .v (.ipt [(.int .i64 x6607)])]]), (2, .r [.sl false 3 0 n6608 1]), (3, .p c6692), (4, .p [p6610, p6693]), (5, .r [.fn 89 [.ptr 0 0, .ptr 1 0, .ptr 4 0, .ptr 5 0]])], 6, []⟩) ?_ ?_
      · refine Wp_block ?_
        refine Wp_loopG (fun n s => ∃ x6668, ∃ p6669, ∃ c6670, ∃ p6671, m89_2_L0 N (m89_2 N fu) x6607 n6608 p6610 n6616 c6617 n6619 c6620 n6646 c6647 n x6668 p6669 c6670 p6671 = some o6700 ∧ s = ⟨[], [(0, .v (.lst false n6616 c6617)), (1, .v (.lst false n6619 c6620)), (2, .dead), (3, .dead), (4, .dead), (5, .ptr 5 0), (8, .v (.int .i64 ((n6616 : Nat) : Int))), (9, .dead), (10, .dead), (16, .dead), (18, .dead), (29, .v (.lst false n6646 c6647)), (30, .v (.int .i64 ((n6646 : Nat) : Int))), (31, .v (.int .i64 x6668)), (32, .dead)], [(0, .p [p6669]), (1, .r [.fn 92 [.ptr 2 0, .v (.ipt [(.int .i64 x6607)])]]), (2, .r [.sl false 3 0 n6608 1]), (3, .p c6670), (4, .p [p6610, p6671]), (5, .r [.fn 89 [.ptr 0 0, .ptr 1 0, .ptr 4 0, .ptr 5 0]])], 6, []⟩) N _ ((Wk_le (.r (.r (.k (.k (.k (.r (.r (.r (.r (.k (.r (.r (.r (.r (.r .nil))))))))))))))) (OLe.refl _)).trans (cmpS_ok (st' := ⟨[], [(0, .v (.lst false n6616 c6617)), (1, .v (.lst false n6619 c6620)), (2, .dead), (3, .dead), (4, .dead), (5, .ptr 5 0), (8, .v (.int .i64 ((n6616 : Nat) : Int))), (9, .dead), (10, .dead), (16, .dead), (18, .dead), (29, .v (.lst false n6646 c6647)), (30, .v (.int .i64 ((n6646 : Nat) : Int))), (31, .v (.int .i64 0)), (32, .dead)], [(0, .p [(.lst false n6622 c6623)]), (1, .r [.fn 92 [.ptr 2 0, .v (.ipt [(.int .i64 x6607)])]]), (2, .r [.sl false 3 0 n6608 1]), (3, .p c6609), (4, .p [p6610, (.lst false n6635 c6636)]), (5, .r [.fn 89 [.ptr 0 0, .ptr 1 0, .ptr 4 0, .ptr 5 0]])], 6, []⟩) (by kernel_rfl))) ⟨_, _, _, _, h6701, rfl⟩ ?_
        clear h6701
        rintro n _ ⟨x6668, p6669, c6670, p6671, h6701, rfl⟩
        cases n with
        | zero => cases h6701
        | succ n =>
          rw [m89_2_L0] at h6701
          have hh := brn_some h6701; clear h6701; rcases hh with ⟨h6672, h6701⟩ | ⟨h6672, h6701⟩
          · have hh := grd_some h6701; clear h6701; obtain ⟨⟨g6673, g6674⟩, h6701⟩ := hh
            have hh := grd_some h6701; clear h6701; obtain ⟨g6675, h6701⟩ := hh
            have hh := getA2_some h6701; clear h6701; obtain ⟨p6677, p6678, h6676, h6701⟩ := hh
            injection h6676 with h6676
            have hh := grd_some h6701; clear h6701; obtain ⟨g6679, h6701⟩ := hh
            have hh := grd_some h6701; clear h6701; obtain ⟨g6680, h6701⟩ := hh
            have hh := grd_some h6701; clear h6701; obtain ⟨g6681, h6701⟩ := hh
            have hh := grd_some h6701; clear h6701; obtain ⟨g6682, h6701⟩ := hh
            have hh := grd_some h6701; clear h6701; obtain ⟨g6683, h6701⟩ := hh
            have hh := grd_some h6701; clear h6701; obtain ⟨g6684, h6701⟩ := hh
            have hh := bnd'_some h6701; clear h6701; obtain ⟨⟨p6685, p6687, c6688, p6689⟩, h6686, h6701⟩ := hh
            (try dsimp only at h6701)
            refine W_sound tab_ok mixed 34 _ _ _ ?_
            simp -implicitDefEqProofs only [go_sem, qa, qb, qc, qd, qe, qf, qg, qh, qi, qj, qk, ↓reduceIte, h6615, h6618, h6621, h6624, h6634, g6637, g6638, g6639, h6640, g6642, g6643, g6644, h6645, h6672, g6673, g6674, g6675, h6676, g6679, g6680, g6681, g6682, g6683, g6684]
            repeat with_reducible refine And.intro (by first | kernel_rfl | decide) ?_
            refine Wp_callDF [(60, (c6617 ++ [(.int .i64 x6668)])), (67, ((List.take (n6616 * 2) c6620) ++ [p6677, p6678]))] [0, 1, 2, 3, 4, 5] (ih _ _ _ _ _ _ _ _ _ _ _ _ h6686) rfl rfl rfl (by first | rfl | (simp only [go_sem, qa, qb, qc, qd, qe, qf, qg, qh, qi, qj, qk, ↓reduceIte, h6615, h6618, h6621, h6624, h6634, g6637, g6638, g6639, h6640, g6642, g6643, g6644, h6645, h6672, g6673, g6674, g6675, h6676, g6679, g6680, g6681, g6682, g6683, g6684] <;> rfl)) rfl (by kernel_rfl) rfl rfl (by simp [roF, obL]) ?_
            have hh := getT0_some h6701; clear h6701; obtain ⟨h6690, h6701⟩ := hh
            refine W_sound tab_ok mixed 6 _ _ _ ?_
            simp -implicitDefEqProofs only [go_sem, qa, qb, qc, qd, qe, qf, qg, qh, qi, qj, qk, ↓reduceIte, h6615, h6618, h6621, h6624, h6634, g6637, g6638, g6639, h6640, g6642, g6643, g6644, h6645, h6672, g6673, g6674, g6675, h6676, g6679, g6680, g6681, g6682, g6683, g6684, h6690]
            repeat with_reducible refine And.intro (by first | kernel_rfl | decide) ?_
            exact cutQ _ ((Wk_le (.r (.r (.r (.r (.r (.r (.r (.k (.k (.r (.r (.r (.r (.r (.k .nil))))))))))))))) (OLe.refl _)).trans (cmpS_ok (st' := ⟨[], [(0, .v (.lst false n6616 c6617)), (1, .v (.lst false n6619 c6620)), (2, .dead), (3, .dead), (4, .dead), (5, .ptr 5 0), (8, .v (.int .i64 ((n6616 : Nat) : Int))), (9, .dead), (10, .dead), (16, .dead), (18, .dead), (29, .v (.lst false n6646 c6647)), (30, .v (.int .i64 ((n6646 : Nat) : Int))), (31, .v (.int .i64 (IntKind.i64.wrap (x6668 + 1)))), (32, .dead)], [(0, .p [p6687]), (1, .r [.fn 92 [.ptr 2 0, .v (.ipt [(.int .i64 x6607)])]]), (2, .r [.sl false 3 0 n6608 1]), (3, .p c6688), (4, .p [p6610, p6689]), (5, .r [.fn 89 [.ptr 0 0, .ptr 1 0, .ptr 4 0, .ptr 5 0]])], 6, []⟩) (by kernel_rfl))) ⟨n, Nat.lt_succ_self n, _, _, _, _, h6701, rfl⟩
          · refine W_sound tab_ok mixed 7 _ _ _ ?_
            simp -implicitDefEqProofs only [go_sem, qa, qb, qc, qd, qe, qf, qg, qh, qi, qj, qk, ↓reduceIte, h6615, h6618, h6621, h6624, h6634, g6637, g6638, g6639, h6640, g6642, g6643, g6644, h6645, h6672]
            repeat with_reducible refine And.intro (by first | kernel_rfl | decide) ?_
            obtain rfl := Option.some.inj h6701
            exact cutQ _ ((Wk_le (.k (.k (.r (.r (.r (.k (.k (.r (.r (.r (.r (.k (.k (.k (.k .nil))))))))))))))) (OLe.refl _)).trans (cmpS_ok (st' := ⟨[], [(0, .dead), (1, .dead), (2, .dead), (3, .dead), (4, .dead), (5, .dead), (8, .dead), (9, .dead), (10, .dead), (16, .dead), (18, .dead), (29, .dead), (30, .dead), (31, .dead), (32, .dead)], [(0, .p [p6669]), (1, .r [.fn 92 [.ptr 2 0, .v (.ipt [(.int .i64 x6607)])]]), (2, .r [.sl false 3 0 n6608 1]), (3, .p c6670), (4, .p [p6610, p6671]), (5, .r [.fn 89 [.ptr 0 0, .ptr 1 0, .ptr 4 0, .ptr 5 0]])], 6, []⟩) (by kernel_rfl))) ⟨_, _, _, rfl, rfl⟩
      · rintro _ ⟨p6691, c6692, p6693, rfl, rfl⟩
        (try dsimp only at h6702)
        refine W_sound tab_ok mixed 1 _ _ _ ?_
        simp -implicitDefEqProofs only [go_sem, qa, qb, qc, qd, qe, qf, qg, qh, qi, qj, qk, ↓reduceIte, h6615, h6618, h6621, h6624, h6634, g6637, g6638, g6639, h6640, g6642, g6643, g6644, h6645]
        repeat with_reducible refine And.intro (by first | kernel_rfl | decide) ?_
        simp only [Option.some.injEq, Prod.mk.injEq] at h6702; obtain ⟨rfl, rfl, rfl, rfl⟩ := h6702
        exact finD (e2 := [(0, .dead), (1, .dead), (2, .dead), (3, .dead), (4, .dead), (5, .dead), (8, .dead), (9, .dead), (10, .dead), (16, .dead), (18, .dead), (29, .dead), (30, .dead), (31, .dead), (32, .dead)]) (ob2 := [(0, .p [p6691]), (1, .r [.fn 92 [.ptr 2 0, .v (.ipt [(.int .i64 x6607)])]]), (2, .r [.sl false 3 0 n6608 1]), (3, .p c6692), (4, .p [p6610, p6693]), (5, .r [.fn 89 [.ptr 0 0, .ptr 1 0, .ptr 4 0, .ptr 5 0]])]) (st' := ⟨[], [(0, .dead), (1, .dead), (2, .dead), (3, .dead), (4, .dead), (5, .dead), (8, .dead), (9, .dead), (10, .dead), (16, .dead), (18, .dead), (29, .dead), (30, .dead), (31, .dead), (32, .dead)], [(0, .p [p6691]), (1, .r [.fn 92 [.ptr 2 0, .v (.ipt [(.int .i64 x6607)])]]), (2, .r [.sl false 3 0 n6608 1]), (3, .p c6692), (4, .p [p6610, p6693]), (5, .r [.fn 89 [.ptr 0 0, .ptr 1 0, .ptr 4 0, .ptr 5 0]])], 6, []⟩) (.r (.r (.r (.r (.r (.r (.r (.r (.r (.r (.r (.r (.r (.r (.r .nil))))))))))))))) (.cons _ _ _ _ _ (DLes.refl _) (.cons _ _ _ _ _ (DLes.refl _) (.cons _ _ _ _ _ (DLes.refl _) (.cons _ _ _ _ _ (DLes.refl _) (.cons _ _ _ _ _ (DLes.refl _) (.cons _ _ _ _ _ (DLes.refl _) .nil)))))) (by kernel_rfl) (by simp only [go_sem, qa, qb, qc, qd, qe, qf, qg, qh, qi, qj, qk, ↓reduceIte, resQ_tmp, resQ_cell, resQ_nil, retD_one, retD_two, retD_three, retD_none]; try simp [R.val, retD_one, retD_two, retD_three, retD_none])

def m89_L0 (N : Nat) (x6733 : Int) (n6734 : Nat) (p6736 : PV) (n6765 : Nat) (c6766 : List PV) : Nat → Int → PV → List PV → PV → Option ((PV × List PV × PV))
  | 0, _, _, _, _ => none
  | n + 1, x6781, p6782, c6783, p6784 =>
    brn (decide (x6781 < ((n6765 : Nat) : Int))) (
      grd (0 ≤ x6781 ∧ x6781 < ((n6765 : Nat) : Int)) <|
      grd (2 ≤ List.length (List.drop ((Int.toNat x6781) * 2) c6766)) <|
      getA2 (.agg (List.take 2 (List.drop ((Int.toNat x6781) * 2) c6766))) fun p6790 p6791 =>
      bnd' (m89_2 N N (.lst false 1 [(.int .i64 x6781)]) (.lst false 1 [p6790, p6791]) p6782 x6733 n6734 c6783 p6736 p6784) fun (p6792, p6794, c6795, p6796) =>
      getT0 p6792 <|
      m89_L0 N x6733 n6734 p6736 n6765 c6766 n (IntKind.i64.wrap (x6781 + 1)) p6794 c6795 p6796) (
      some (p6782, c6783, p6784))
def m89 (N : Nat) (p6732 : PV) (x6733 : Int) (n6734 : Nat) (c6735 : List PV) (p6736 : PV) (p6737 : PV) : Option ((PV × PV × List PV × PV)) :=
  getL p6732 fun n6742 c6743 =>
  brn (0 == ((n6742 : Nat) : Int)) (
    bnd' (m49 N (.lst false 0 [])) fun p6745 =>
    getB p6745 fun b6748 =>
    brn b6748 (
      bnd' (m92 N x6733 n6734 c6735) fun (p6750, c6752) =>
      getT0 p6750 <|
      some ((.tup []), (.lst false n6742 c6743), c6752, p6737)) (
      some ((.tup []), (.lst false n6742 c6743), c6735, p6737))) (
    getL p6737 fun n6755 c6756 =>
    grd (0 < ((n6742 : Nat) : Int)) <|
    grd (0 < List.length c6743) <|
    getI .i64 (gp c6743 0) fun x6760 =>
    grd (0 ≤ x6760 ∧ x6760 < ((n6755 : Nat) : Int)) <|
    grd (0 < List.length (List.drop (Int.toNat x6760) c6756)) <|
    getL (gp c6756 (Int.toNat x6760)) fun n6765 c6766 =>
    bnd' (m89_L0 N x6733 n6734 p6736 n6765 c6766 N 0 (.lst false n6742 c6743) c6735 (.lst false n6755 c6756)) fun o =>
    match o with
    | (p6798, c6799, p6800) =>
      some ((.tup []), p6798, c6799, p6800))
theorem c89 (N : Nat) (p6732 : PV) (x6733 : Int) (n6734 : Nat) (c6735 : List PV) (p6736 : PV) (p6737 : PV) (r : PV) (p6804 : PV) (c6805 : List PV) (p6806 : PV) (h : m89 N p6732 x6733 n6734 c6735 p6736 p6737 = some (r, p6804, c6805, p6806)) : V.Fn Tryd.prog 89 6 [.v .nl, .v .nl, .ptr 0 0, .ptr 1 0, .ptr 4 0, .ptr 5 0] [(0, .p [p6732]), (1, .r [.fn 92 [.ptr 2 0, .v (.ipt [(.int .i64 x6733)])]]), (2, .r [.sl false 3 0 n6734 1]), (3, .p c6735), (4, .p [p6736, p6737]), (5, .r [.fn 89 [.ptr 0 0, .ptr 1 0, .ptr 4 0, .ptr 5 0]])] (fun d ob' => d = .v r ∧ ob' = [(0, .p [p6804]), (1, .r [.fn 92 [.ptr 2 0, .v (.ipt [(.int .i64 x6733)])]]), (2, .r [.sl false 3 0 n6734 1]), (3, .p c6805), (4, .p [p6736, p6806]), (5, .r [.fn 89 [.ptr 0 0, .ptr 1 0, .ptr 4 0, .ptr 5 0]])]) := by
  unfold m89 at h
  refine Fn_of (sz := 53) tab_ok [0, 1, 2, 3, 4, 5, 8, 9, 10, 16, 18, 29, 30, 31, 32] [] Tryd.func89 rfl rfl rfl (by simp) ?_
  simp only [initSt, initEnv, List.map_cons, List.map_nil, List.getD_cons_zero, List.getD_cons_succ, List.getD_nil]
  have hh := getL_some h; clear h; obtain ⟨n6742, c6743, h6741, h⟩ := hh
  have hh := brn_some h; clear h; rcases hh with ⟨h6744, h⟩ | ⟨h6744, h⟩
  · have hh := bnd'_some h; clear h; obtain ⟨p6745, h6746, h⟩ := hh
    refine W_sound tab_ok mixed 19 _ _ _ ?_
    simp -implicitDefEqProofs only [go_sem, qa, qb, qc, qd, qe, qf, qg, qh, qi, qj, qk, ↓reduceIte, h6741, h6744]
    repeat with_reducible refine And.intro (by first | kernel_rfl | decide) ?_
    refine Wp_callP (FnP_le (c49 N _ _ h6746) (.cons _ _ _ _ (.nl false) .nil) (.refl _)) (by kernel_rfl) rfl rfl rfl rfl (by decide) ?_
    have hh := getB_some h; clear h; obtain ⟨b6748, h6747, h⟩ := hh
    have hh := brn_some h; clear h; rcases hh with ⟨h6749, h⟩ | ⟨h6749, h⟩
    · have hh := bnd'_some h; clear h; obtain ⟨⟨p6750, c6752⟩, h6751, h⟩ := hh
      (try dsimp only at h)
      refine W_sound tab_ok mixed 5 _ _ _ ?_
      simp -implicitDefEqProofs only [go_sem, qa, qb, qc, qd, qe, qf, qg, qh, qi, qj, qk, ↓reduceIte, h6741, h6744, h6747, h6749]
      repeat with_reducible refine And.intro (by first | kernel_rfl | decide) ?_
      refine Wp_callD [2, 3] (c92 N _ _ _ _ _ h6751) rfl rfl rfl (by first | rfl | (simp only [go_sem, qa, qb, qc, qd, qe, qf, qg, qh, qi, qj, qk, ↓reduceIte, h6741, h6744, h6747, h6749] <;> rfl)) rfl (by kernel_rfl) ?_
      have hh := getT0_some h; clear h; obtain ⟨h6753, h⟩ := hh
      refine W_sound tab_ok mixed 3 _ _ _ ?_
      simp -implicitDefEqProofs only [go_sem, qa, qb, qc, qd, qe, qf, qg, qh, qi, qj, qk, ↓reduceIte, h6741, h6744, h6747, h6749, h6753]
      repeat with_reducible refine And.intro (by first | kernel_rfl | decide) ?_
      simp only [Option.some.injEq, Prod.mk.injEq] at h; obtain ⟨rfl, rfl, rfl, rfl⟩ := h
      exact finD (e2 := [(0, .dead), (1, .dead), (2, .dead), (3, .dead), (4, .dead), (5, .dead), (8, .dead), (9, .dead), (10, .dead), (16, .dead), (18, .dead), (29, .dead), (30, .dead), (31, .dead), (32, .dead)]) (ob2 := [(0, .p [(.lst false n6742 c6743)]), (1, .r [.fn 92 [.ptr 2 0, .v (.ipt [(.int .i64 x6733)])]]), (4, .p [p6736, p6737]), (5, .r [.fn 89 [.ptr 0 0, .ptr 1 0, .ptr 4 0, .ptr 5 0]]), (3, .p c6752), (2, .r [.sl false 3 0 n6734 1])]) (st' := ⟨[], [(0, .dead), (1, .dead), (2, .dead), (3, .dead), (4, .dead), (5, .dead), (8, .dead), (9, .dead), (10, .dead), (16, .dead), (18, .dead), (29, .dead), (30, .dead), (31, .dead), (32, .dead)], [(0, .p [(.lst false n6742 c6743)]), (1, .r [.fn 92 [.ptr 2 0, .v (.ipt [(.int .i64 x6733)])]]), (2, .r [.sl false 3 0 n6734 1]), (3, .p c6752), (4, .p [p6736, p6737]), (5, .r [.fn 89 [.ptr 0 0, .ptr 1 0, .ptr 4 0, .ptr 5 0]])], 6, []⟩) (.k (.k (.k (.k (.k (.k (.k (.r (.r (.k (.k (.r (.r (.r (.r .nil))))))))))))))) (.cons _ _ _ _ _ (DLes.refl _) (.cons _ _ _ _ _ (DLes.refl _) (.cons _ _ _ _ _ (DLes.refl _) (.cons _ _ _ _ _ (DLes.refl _) (.cons _ _ _ _ _ (DLes.refl _) (.cons _ _ _ _ _ (DLes.refl _) .nil)))))) (by kernel_rfl) (by simp only [go_sem, qa, qb, qc, qd, qe, qf, qg, qh, qi, qj, qk, ↓reduceIte, resQ_tmp, resQ_cell, resQ_nil, retD_one, retD_two, retD_three, retD_none]; try simp [R.val, retD_one, retD_two, retD_three, retD_none])
    · refine W_sound tab_ok mixed 5 _ _ _ ?_
      simp -implicitDefEqProofs only [go_sem, qa, qb, qc, qd, qe, qf, qg, qh, qi, qj, qk, ↓reduceIte, h6741, h6744, h6747, h6749]
      repeat with_reducible refine And.intro (by first | kernel_rfl | decide) ?_
      simp only [Option.some.injEq, Prod.mk.injEq] at h; obtain ⟨rfl, rfl, rfl, rfl⟩ := h
      exact finD (e2 := [(0, .dead), (1, .dead), (2, .dead), (3, .dead), (4, .dead), (5, .dead), (8, .dead), (9, .dead), (10, .dead), (16, .dead), (18, .dead), (29, .dead), (30, .dead), (31, .dead), (32, .dead)]) (ob2 := [(0, .p [(.lst false n6742 c6743)]), (1, .r [.fn 92 [.ptr 2 0, .v (.ipt [(.int .i64 x6733)])]]), (2, .r [.sl false 3 0 n6734 1]), (3, .p c6735), (4, .p [p6736, p6737]), (5, .r [.fn 89 [.ptr 0 0, .ptr 1 0, .ptr 4 0, .ptr 5 0]])]) (st' := ⟨[], [(0, .dead), (1, .dead), (2, .dead), (3, .dead), (4, .dead), (5, .dead), (8, .dead), (9, .dead), (10, .dead), (16, .dead), (18, .dead), (29, .dead), (30, .dead), (31, .dead), (32, .dead)], [(0, .p [(.lst false n6742 c6743)]), (1, .r [.fn 92 [.ptr 2 0, .v (.ipt [(.int .i64 x6733)])]]), (2, .r [.sl false 3 0 n6734 1]), (3, .p c6735), (4, .p [p6736, p6737]), (5, .r [.fn 89 [.ptr 0 0, .ptr 1 0, .ptr 4 0, .ptr 5 0]])], 6, []⟩) (.k (.k (.k (.k (.k (.k (.k (.r (.r (.k (.k (.r (.r (.r (.r .nil))))))))))))))) (.cons _ _ _ _ _ (DLes.refl _) (.cons _ _ _ _ _ (DLes.refl _) (.cons _ _ _ _ _ (DLes.refl _) (.cons _ _ _ _ _ (DLes.refl _) (.cons _ _ _ _ _ (DLes.refl _) (.cons _ _ _ _ _ (DLes.refl _) .nil)))))) (by kernel_rfl) (by simp only [go_sem, qa, qb, qc, qd, qe, qf, qg, qh, qi, qj, qk, ↓reduceIte, resQ_tmp, resQ_cell, resQ_nil, retD_one, retD_two, retD_three, retD_none]; try simp [R.val, retD_one, retD_two, retD_three, retD_none])
  · have hh := getL_some h; clear h; obtain ⟨n6755, c6756, h6754, h⟩ := hh
    have hh := grd_some h; clear h; obtain ⟨g6757, h⟩ := hh
    have hh := grd_some h; clear h; obtain ⟨g6758, h⟩ := hh
    have hh := getI_some h; clear h; obtain ⟨x6760, h6759, h⟩ := hh
    have hh := grd_some h; clear h; obtain ⟨⟨g6761, g6762⟩, h⟩ := hh
    have hh := grd_some h; clear h; obtain ⟨g6763, h⟩ := hh
    have hh := getL_some h; clear h; obtain ⟨n6765, c6766, h6764, h⟩ := hh
    refine W_sound tab_ok mixed 29 _ _ _ ?_
    simp -implicitDefEqProofs only [go_sem, qa, qb, qc, qd, qe, qf, qg, qh, qi, qj, qk, ↓reduceIte, h6741, h6744, h6754, g6757, g6758, h6759, g6761, g6762, g6763, h6764]
    repeat with_reducible refine And.intro (by first | kernel_rfl | decide) ?_
    have hh := bnd'_some h; clear h; obtain ⟨o6807, h6808, h6809⟩ := hh
    refine Wp_cut (fun s => ∃ p6798, ∃ c6799, ∃ p6800, (p6798, c6799, p6800) = o6807 ∧ s = ⟨[], [(0, .dead), (1, .dead), (2, .dead), (3, .dead), (4, .dead), (5, .dead), (8, .dead), (9, .dead), (10, .dead), (16, .dead), (18, .dead), (29, .dead), (30, .dead), (31, .dead), (32, .dead)], [(0, .p [p6798]), (1, .r [.fn 92 [.ptr 2 0, .v (.ipt [(.int .i64 x6733)])]]), (2, .r [.sl false 3 0 n6734 1]), (3, .p c6799), (4, .p [p6736, p6800]), (5, .r [.fn 89 [.ptr 0 0, .ptr 1 0, .ptr 4 0, .ptr 5 0]])], 6, []⟩) ?_ ?_
    · refine Wp_block ?_
      refine Wp_loopG (fun n s => ∃ x6781, ∃ p6782, ∃ c6783, ∃ p6784, m89_L0 N x6733 n6734 p6736 n6765 c6766 n x6781 p6782 c6783 p6784 = some o6807 ∧ s = ⟨[], [(0, .v .nl), (1, .v .nl), (2, .dead), (3, .dead), (4, .dead), (5, .ptr 5 0), (8, .v (.int .i64 0)), (9, .dead), (10, .dead), (16, .dead), (18, .dead), (29, .v (.lst false n6765 c6766)), (30, .v (.int .i64 ((n6765 : Nat) : Int))), (31, .v (.int .i64 x6781)), (32, .dead)], [(0, .p [p6782]), (1, .r [.fn 92 [.ptr 2 0, .v (.ipt [(.int .i64 x6733)])]]), (2, .r [.sl false 3 0 n6734 1]), (3, .p c6783), (4, .p [p6736, p6784]), (5, .r [.fn 89 [.ptr 0 0, .ptr 1 0, .ptr 4 0, .ptr 5 0]])], 6, []⟩) N _ ((Wk_le (.r (.r (.k (.k (.k (.r (.r (.r (.r (.k (.r (.r (.r (.r (.r .nil))))))))))))))) (OLe.refl _)).trans (cmpS_ok (st' := ⟨[], [(0, .v .nl), (1, .v .nl), (2, .dead), (3, .dead), (4, .dead), (5, .ptr 5 0), (8, .v (.int .i64 0)), (9, .dead), (10, .dead), (16, .dead), (18, .dead), (29, .v (.lst false n6765 c6766)), (30, .v (.int .i64 ((n6765 : Nat) : Int))), (31, .v (.int .i64 0)), (32, .dead)], [(0, .p [(.lst false n6742 c6743)]), (1, .r [.fn 92 [.ptr 2 0, .v (.ipt [(.int .i64 x6733)])]]), (2, .r [.sl false 3 0 n6734 1]), (3, .p c6735), (4, .p [p6736, (.lst false n6755 c6756)]), (5, .r [.fn 89 [.ptr 0 0, .ptr 1 0, .ptr 4 0, .ptr 5 0]])], 6, []⟩) (by kernel_rfl))) ⟨_, _, _, _, h6808, rfl⟩ ?_
      clear h6808
      rintro n _ ⟨x6781, p6782, c6783, p6784, h6808, rfl⟩
      cases n with
      | zero => cases h6808
      | succ n =>
        rw [m89_L0] at h6808
        have hh := brn_some h6808; clear h6808; rcases hh with ⟨h6785, h6808⟩ | ⟨h6785, h6808⟩
        · have hh := grd_some h6808; clear h6808; obtain ⟨⟨g6786, g6787⟩, h6808⟩ := hh
          have hh := grd_some h6808; clear h6808; obtain ⟨g6788, h6808⟩ := hh
          have hh := getA2_some h6808; clear h6808; obtain ⟨p6790, p6791, h6789, h6808⟩ := hh
          injection h6789 with h6789
          have hh := bnd'_some h6808; clear h6808; obtain ⟨⟨p6792, p6794, c6795, p6796⟩, h6793, h6808⟩ := hh
          (try dsimp only at h6808)
          refine W_sound tab_ok mixed 34 _ _ _ ?_
          simp -implicitDefEqProofs only [go_sem, qa, qb, qc, qd, qe, qf, qg, qh, qi, qj, qk, ↓reduceIte, h6741, h6744, h6754, g6757, g6758, h6759, g6761, g6762, g6763, h6764, h6785, g6786, g6787, g6788, h6789]
          repeat with_reducible refine And.intro (by first | kernel_rfl | decide) ?_
          refine Wp_callDF [(60, [(.int .i64 x6781)]), (67, [p6790, p6791])] [0, 1, 2, 3, 4, 5] (c89_2 N N _ _ _ _ _ _ _ _ _ _ _ _ h6793) rfl rfl rfl (by first | rfl | (simp only [go_sem, qa, qb, qc, qd, qe, qf, qg, qh, qi, qj, qk, ↓reduceIte, h6741, h6744, h6754, g6757, g6758, h6759, g6761, g6762, g6763, h6764, h6785, g6786, g6787, g6788, h6789] <;> rfl)) rfl (by kernel_rfl) rfl rfl (by simp [roF, obL]) ?_
          have hh := getT0_some h6808; clear h6808; obtain ⟨h6797, h6808⟩ := hh
          refine W_sound tab_ok mixed 6 _ _ _ ?_
          simp -implicitDefEqProofs only [go_sem, qa, qb, qc, qd, qe, qf, qg, qh, qi, qj, qk, ↓reduceIte, h6741, h6744, h6754, g6757, g6758, h6759, g6761, g6762, g6763, h6764, h6785, g6786, g6787, g6788, h6789, h6797]
          repeat with_reducible refine And.intro (by first | kernel_rfl | decide) ?_
          exact cutQ _ ((Wk_le (.r (.r (.r (.r (.r (.r (.r (.k (.k (.r (.r (.r (.r (.r (.k .nil))))))))))))))) (OLe.refl _)).trans (cmpS_ok (st' := ⟨[], [(0, .v .nl), (1, .v .nl), (2, .dead), (3, .dead), (4, .dead), (5, .ptr 5 0), (8, .v (.int .i64 0)), (9, .dead), (10, .dead), (16, .dead), (18, .dead), (29, .v (.lst false n6765 c6766)), (30, .v (.int .i64 ((n6765 : Nat) : Int))), (31, .v (.int .i64 (IntKind.i64.wrap (x6781 + 1)))), (32, .dead)], [(0, .p [p6794]), (1, .r [.fn 92 [.ptr 2 0, .v (.ipt [(.int .i64 x6733)])]]), (2, .r [.sl false 3 0 n6734 1]), (3, .p c6795), (4, .p [p6736, p6796]), (5, .r [.fn 89 [.ptr 0 0, .ptr 1 0, .ptr 4 0, .ptr 5 0]])], 6, []⟩) (by kernel_rfl))) ⟨n, Nat.lt_succ_self n, _, _, _, _, h6808, rfl⟩
        · refine W_sound tab_ok mixed 7 _ _ _ ?_
          simp -implicitDefEqProofs only [go_sem, qa, qb, qc, qd, qe, qf, qg, qh, qi, qj, qk, ↓reduceIte, h6741, h6744, h6754, g6757, g6758, h6759, g6761, g6762, g6763, h6764, h6785]
          repeat with_reducible refine And.intro (by first | kernel_rfl | decide) ?_
          obtain rfl := Option.some.inj h6808
          exact cutQ _ ((Wk_le (.k (.k (.r (.r (.r (.k (.k (.r (.r (.r (.r (.k (.k (.k (.k .nil))))))))))))))) (OLe.refl _)).trans (cmpS_ok (st' := ⟨[], [(0, .dead), (1, .dead), (2, .dead), (3, .dead), (4, .dead), (5, .dead), (8, .dead), (9, .dead), (10, .dead), (16, .dead), (18, .dead), (29, .dead), (30, .dead), (31, .dead), (32, .dead)], [(0, .p [p6782]), (1, .r [.fn 92 [.ptr 2 0, .v (.ipt [(.int .i64 x6733)])]]), (2, .r [.sl false 3 0 n6734 1]), (3, .p c6783), (4, .p [p6736, p6784]), (5, .r [.fn 89 [.ptr 0 0, .ptr 1 0, .ptr 4 0, .ptr 5 0]])], 6, []⟩) (by kernel_rfl))) ⟨_, _, _, rfl, rfl⟩
    · rintro _ ⟨p6798, c6799, p6800, rfl, rfl⟩
      (try dsimp only at h6809)
      refine W_sound tab_ok mixed 1 _ _ _ ?_
      simp -implicitDefEqProofs only [go_sem, qa, qb, qc, qd, qe, qf, qg, qh, qi, qj, qk, ↓reduceIte, h6741, h6744, h6754, g6757, g6758, h6759, g6761, g6762, g6763, h6764]
      repeat with_reducible refine And.intro (by first | kernel_rfl | decide) ?_
      simp only [Option.some.injEq, Prod.mk.injEq] at h6809; obtain ⟨rfl, rfl, rfl, rfl⟩ := h6809
      exact finD (e2 := [(0, .dead), (1, .dead), (2, .dead), (3, .dead), (4, .dead), (5, .dead), (8, .dead), (9, .dead), (10, .dead), (16, .dead), (18, .dead), (29, .dead), (30, .dead), (31, .dead), (32, .dead)]) (ob2 := [(0, .p [p6798]), (1, .r [.fn 92 [.ptr 2 0, .v (.ipt [(.int .i64 x6733)])]]), (2, .r [.sl false 3 0 n6734 1]), (3, .p c6799), (4, .p [p6736, p6800]), (5, .r [.fn 89 [.ptr 0 0, .ptr 1 0, .ptr 4 0, .ptr 5 0]])]) (st' := ⟨[], [(0, .dead), (1, .dead), (2, .dead), (3, .dead), (4, .dead), (5, .dead), (8, .dead), (9, .dead), (10, .dead), (16, .dead), (18, .dead), (29, .dead), (30, .dead), (31, .dead), (32, .dead)], [(0, .p [p6798]), (1, .r [.fn 92 [.ptr 2 0, .v (.ipt [(.int .i64 x6733)])]]), (2, .r [.sl false 3 0 n6734 1]), (3, .p c6799), (4, .p [p6736, p6800]), (5, .r [.fn 89 [.ptr 0 0, .ptr 1 0, .ptr 4 0, .ptr 5 0]])], 6, []⟩) (.r (.r (.r (.r (.r (.r (.r (.r (.r (.r (.r (.r (.r (.r (.r .nil))))))))))))))) (.cons _ _ _ _ _ (DLes.refl _) (.cons _ _ _ _ _ (DLes.refl _) (.cons _ _ _ _ _ (DLes.refl _) (.cons _ _ _ _ _ (DLes.refl _) (.cons _ _ _ _ _ (DLes.refl _) (.cons _ _ _ _ _ (DLes.refl _) .nil)))))) (by kernel_rfl) (by simp only [go_sem, qa, qb, qc, qd, qe, qf, qg, qh, qi, qj, qk, ↓reduceIte, resQ_tmp, resQ_cell, resQ_nil, retD_one, retD_two, retD_three, retD_none]; try simp [R.val, retD_one, retD_two, retD_three, retD_none])

def m41 (N : Nat) (p6817 : PV) (x6818 : Int) (x6819 : Int) (n6820 : Nat) (c6821 : List PV) : Option ((PV × List PV)) :=
  getA2 p6817 fun p6824 p6825 =>
  bnd' (m45 N x6818) fun p6826 =>
  getL p6826 fun n6829 c6830 =>
  bnd' (m89 N (.lst false n6829 c6830) x6819 n6820 c6821 p6824 p6825) fun (p6831, p6833, c6834, p6835) =>
  getT0 p6831 <|
  some ((.tup []), c6834)
theorem c41 (N : Nat) (p6817 : PV) (x6818 : Int) (x6819 : Int) (n6820 : Nat) (c6821 : List PV) (r : PV) (c6838 : List PV) (h : m41 N p6817 x6818 x6819 n6820 c6821 = some (r, c6838)) : V.Fn Tryd.prog 41 2 [.v p6817, .v (.int .u64 x6818), .fn 92 [.ptr 0 0, .v (.ipt [(.int .i64 x6819)])]] [(0, .r [.sl false 1 0 n6820 1]), (1, .p c6821)] (fun d ob' => d = .v r ∧ ob' = [(0, .r [.sl false 1 0 n6820 1]), (1, .p c6838)]) := by
  unfold m41 at h
  refine Fn_of (sz := 13) tab_ok [0, 1, 2, 3, 5, 6, 7] [] Tryd.func41 rfl rfl rfl (by simp) ?_
  simp only [initSt, initEnv, List.map_cons, List.map_nil, List.getD_cons_zero, List.getD_cons_succ, List.getD_nil]
  have hh := getA2_some h; clear h; obtain ⟨p6824, p6825, h6823, h⟩ := hh
  have hh := bnd'_some h; clear h; obtain ⟨p6826, h6827, h⟩ := hh
  refine W_sound tab_ok mixed 8 _ _ _ ?_
  simp -implicitDefEqProofs only [go_sem, qa, qb, qc, qd, qe, qf, qg, qh, qi, qj, qk, ↓reduceIte, h6823]
  repeat with_reducible refine And.intro (by first | kernel_rfl | decide) ?_
  refine Wp_callP (c45 N _ _ h6827) (by kernel_rfl) rfl rfl rfl rfl (by decide) ?_
  have hh := getL_some h; clear h; obtain ⟨n6829, c6830, h6828, h⟩ := hh
  have hh := bnd'_some h; clear h; obtain ⟨⟨p6831, p6833, c6834, p6835⟩, h6832, h⟩ := hh
  (try dsimp only at h)
  refine W_sound tab_ok mixed 14 _ _ _ ?_
  simp -implicitDefEqProofs only [go_sem, qa, qb, qc, qd, qe, qf, qg, qh, qi, qj, qk, ↓reduceIte, h6823, h6828]
  repeat with_reducible refine And.intro (by first | kernel_rfl | decide) ?_
  refine Wp_callD [14, 7, 0, 1, 5, 22] (c89 N _ _ _ _ _ _ _ _ _ _ h6832) rfl rfl rfl (by first | rfl | (simp only [go_sem, qa, qb, qc, qd, qe, qf, qg, qh, qi, qj, qk, ↓reduceIte, h6823, h6828] <;> rfl)) rfl (by kernel_rfl) ?_
  have hh := getT0_some h; clear h; obtain ⟨h6836, h⟩ := hh
  refine W_sound tab_ok mixed 2 _ _ _ ?_
  simp -implicitDefEqProofs only [go_sem, qa, qb, qc, qd, qe, qf, qg, qh, qi, qj, qk, ↓reduceIte, h6823, h6828, h6836]
  repeat with_reducible refine And.intro (by first | kernel_rfl | decide) ?_
  simp only [Option.some.injEq, Prod.mk.injEq] at h; obtain ⟨rfl, rfl⟩ := h
  exact finD (e2 := [(0, .dead), (1, .dead), (2, .dead), (3, .dead), (5, .dead), (6, .dead), (7, .dead)]) (ob2 := [(22, .r [.fn 89 [.ptr 14 0, .ptr 7 0, .ptr 5 0, .ptr 22 0]]), (5, .p [p6824, p6835]), (1, .p c6834), (0, .r [.sl false 1 0 n6820 1]), (7, .r [.fn 92 [.ptr 0 0, .v (.ipt [(.int .i64 x6819)])]]), (14, .p [p6833])]) (st' := ⟨[], [(0, .dead), (1, .dead), (2, .dead), (3, .dead), (5, .dead), (6, .dead), (7, .dead)], [(0, .r [.sl false 1 0 n6820 1]), (1, .p c6834)], 2, []⟩) (.k (.k (.k (.k (.k (.k (.k .nil))))))) (.cons _ _ _ _ _ (DLes.refl _) (.cons _ _ _ _ _ (DLes.refl _) (.cons _ _ _ _ _ (DLes.refl _) (.cons _ _ _ _ _ (DLes.refl _) (.cons _ _ _ _ _ (DLes.refl _) (.cons _ _ _ _ _ (DLes.refl _) .nil)))))) (by kernel_rfl) (by simp only [go_sem, qa, qb, qc, qd, qe, qf, qg, qh, qi, qj, qk, ↓reduceIte, resQ_tmp, resQ_cell, resQ_nil, retD_one, retD_two, retD_three, retD_none]; try simp [R.val, retD_one, retD_two, retD_three, retD_none])

def m48_L0 (N : Nat) (p6443 : PV) (n6446 : Nat) (c6447 : List PV) : Nat → Int → List PV → Option (List PV)
  | 0, _, _ => none
  | n + 1, x6843, c6844 =>
    brn (decide (x6843 < (((Int.toNat (IntKind.i64.wrap (1 * 2 ^ (min n6446 64)))) : Nat) : Int))) (
      bnd' (m41 N (.agg [p6443, (.lst false n6446 c6447)]) (IntKind.u64.wrap x6843) x6843 (Int.toNat (IntKind.i64.wrap (1 * 2 ^ (min n6446 64)))) c6844) fun (p6846, c6848) =>
      getT0 p6846 <|
      m48_L0 N p6443 n6446 c6447 n (IntKind.i64.wrap (x6843 + 1)) c6848) (
      some c6844)
def m48 (N : Nat) (p6441 : PV) : Option (PV) :=
  getA2 p6441 fun p6443 p6444 =>
  getL p6444 fun n6446 c6447 =>
  grd (0 ≤ ((n6446 : Nat) : Int)) <|
  grd (0 ≤ (IntKind.i64.wrap (1 * 2 ^ (min n6446 64))) ∧ (IntKind.i64.wrap (1 * 2 ^ (min n6446 64))) ≤ (IntKind.i64.wrap (1 * 2 ^ (min n6446 64))) ∧ (IntKind.i64.wrap (1 * 2 ^ (min n6446 64))) ≤ 1099511627776) <|
  bnd' (m48_L0 N p6443 n6446 c6447 N 0 (List.replicate (Int.toNat (IntKind.i64.wrap (1 * 2 ^ (min n6446 64)))) (.bool false))) fun c6850 =>
  grd (List.length c6850 = (Int.toNat (IntKind.i64.wrap (1 * 2 ^ (min n6446 64))))) <|
  some (.lst false (Int.toNat (IntKind.i64.wrap (1 * 2 ^ (min n6446 64)))) c6850)
theorem c48 (N : Nat) (p6441 : PV) (r : PV)  (h : m48 N p6441 = some r) : FnP Tryd.prog 48 [p6441] r := by
  unfold m48 at h
  refine Fn_of (sz := 22) tab_ok [0, 1, 2, 3, 4, 11, 12, 13] [.tmp 2] Tryd.func48 rfl rfl rfl (by simp) ?_
  simp only [initSt, initEnv, List.map_cons, List.map_nil, List.getD_cons_zero, List.getD_cons_succ, List.getD_nil]
  have hh := getA2_some h; clear h; obtain ⟨p6443, p6444, h6442, h⟩ := hh
  have hh := getL_some h; clear h; obtain ⟨n6446, c6447, h6445, h⟩ := hh
  have hh := grd_some h; clear h; obtain ⟨g6448, h⟩ := hh
  have hh := grd_some h; clear h; obtain ⟨⟨g6449, g6450, g6451⟩, h⟩ := hh
  refine W_sound tab_ok mixed 22 _ _ _ ?_
  simp -implicitDefEqProofs only [go_sem, qa, qb, qc, qd, qe, qf, qg, qh, qi, qj, qk, ↓reduceIte, h6442, h6445, g6448, g6449, g6450, g6451]
  repeat with_reducible refine And.intro (by first | kernel_rfl | decide) ?_
  have hh := bnd'_some h; clear h; obtain ⟨o6852, h6853, h6854⟩ := hh
  refine Wp_cut (fun s => ∃ c6850, c6850 = o6852 ∧ s = ⟨[], [(0, .dead), (1, .dead), (2, .dead), (3, .ptr 0 0), (4, .dead), (11, .dead), (12, .dead), (13, .dead)], [(0, .r [.sl false 1 0 (Int.toNat (IntKind.i64.wrap (1 * 2 ^ (min n6446 64)))) 1]), (1, .p c6850)], 2, []⟩) ?_ ?_
  · refine Wp_block ?_
    refine Wp_loopG (fun n s => ∃ x6843, ∃ c6844, m48_L0 N p6443 n6446 c6447 n x6843 c6844 = some o6852 ∧ s = ⟨[], [(0, .dead), (1, .ptr 0 0), (2, .dead), (3, .ptr 1 0), (4, .dead), (11, .v (.int .i64 (((Int.toNat (IntKind.i64.wrap (1 * 2 ^ (min n6446 64)))) : Nat) : Int))), (12, .v (.int .i64 x6843)), (13, .dead)], [(0, .p [p6443, (.lst false n6446 c6447)]), (1, .r [.sl false 2 0 (Int.toNat (IntKind.i64.wrap (1 * 2 ^ (min n6446 64)))) 1]), (2, .p c6844)], 3, []⟩) N _ ((Wk_le (.k (.r (.k (.r (.r (.r (.r (.r .nil)))))))) (OLe.refl _)).trans (cmpS_ok rfl)) ⟨_, _, h6853, rfl⟩ ?_
    clear h6853
    rintro n _ ⟨x6843, c6844, h6853, rfl⟩
    cases n with
    | zero => cases h6853
    | succ n =>
      rw [m48_L0] at h6853
      have hh := brn_some h6853; clear h6853; rcases hh with ⟨h6845, h6853⟩ | ⟨h6845, h6853⟩
      · refine W_sound tab_ok mixed 15 _ _ _ ?_
        simp -implicitDefEqProofs only [go_sem, qa, qb, qc, qd, qe, qf, qg, qh, qi, qj, qk, ↓reduceIte, h6442, h6445, g6448, g6449, g6450, g6451, h6845]
        repeat with_reducible refine And.intro (by first | kernel_rfl | decide) ?_
        refine Wp_wkK (Wk_freeze 7 [(.int .i64 x6843)] (by rfl) (by decide) (by decide)) rfl ?_
        simp -implicitDefEqProofs only [go_sem, qa, qb, qc, qd, qe, qf, qg, qh, qi, qj, qk, ↓reduceIte, h6442, h6445, g6448, g6449, g6450, g6451, h6845]
        have hh := bnd'_some h6853; clear h6853; obtain ⟨⟨p6846, c6848⟩, h6847, h6853⟩ := hh
        (try dsimp only at h6853)
        refine W_sound tab_ok mixed 5 _ _ _ ?_
        simp -implicitDefEqProofs only [go_sem, qa, qb, qc, qd, qe, qf, qg, qh, qi, qj, qk, ↓reduceIte, h6442, h6445, g6448, g6449, g6450, g6451, h6845]
        repeat with_reducible refine And.intro (by first | kernel_rfl | decide) ?_
        refine Wp_callD [1, 2] (c41 N _ _ _ _ _ _ _ h6847) rfl rfl rfl (by first | rfl | (simp only [go_sem, qa, qb, qc, qd, qe, qf, qg, qh, qi, qj, qk, ↓reduceIte, h6442, h6445, g6448, g6449, g6450, g6451, h6845] <;> rfl)) rfl (by kernel_rfl) ?_
        have hh := getT0_some h6853; clear h6853; obtain ⟨h6849, h6853⟩ := hh
        refine W_sound tab_ok mixed 6 _ _ _ ?_
        simp -implicitDefEqProofs only [go_sem, qa, qb, qc, qd, qe, qf, qg, qh, qi, qj, qk, ↓reduceIte, h6442, h6445, g6448, g6449, g6450, g6451, h6845, h6849]
        repeat with_reducible refine And.intro (by first | kernel_rfl | decide) ?_
        exact cutQ _ ((Wk_le (.r (.r (.r (.r (.k (.r (.r (.k .nil)))))))) (OLe.refl _)).trans (cmpS_ok rfl)) ⟨n, Nat.lt_succ_self n, _, _, h6853, rfl⟩
      · refine W_sound tab_ok mixed 7 _ _ _ ?_
        simp -implicitDefEqProofs only [go_sem, qa, qb, qc, qd, qe, qf, qg, qh, qi, qj, qk, ↓reduceIte, h6442, h6445, g6448, g6449, g6450, g6451, h6845]
        repeat with_reducible refine And.intro (by first | kernel_rfl | decide) ?_
        obtain rfl := Option.some.inj h6853
        exact cutQ _ ((Wk_le (.r (.k (.r (.r (.r (.k (.k (.k .nil)))))))) (OLe.refl _)).trans (cmpS_ok rfl)) ⟨_, rfl, rfl⟩
  · rintro _ ⟨c6850, rfl, rfl⟩
    refine W_sound tab_ok mixed 7 _ _ _ ?_
    simp -implicitDefEqProofs only [go_sem, qa, qb, qc, qd, qe, qf, qg, qh, qi, qj, qk, ↓reduceIte, h6442, h6445, g6448, g6449, g6450, g6451]
    repeat with_reducible refine And.intro (by first | kernel_rfl | decide) ?_
    have hh := grd_some h6854; clear h6854; obtain ⟨g6851, h6854⟩ := hh
    refine FinQ_wk (Wk_freeze 1 c6850 (by rfl) (by decide) (by decide)) ?_
    simp -implicitDefEqProofs only [go_sem, qa, qb, qc, qd, qe, qf, qg, qh, qi, qj, qk, ↓reduceIte, h6442, h6445, g6448, g6449, g6450, g6451, g6851]
    obtain rfl := Option.some.inj h6854
    exact finC [(2, .v (.lst false (Int.toNat (IntKind.i64.wrap (1 * 2 ^ (min n6446 64)))) c6850))] [(2, .v (.lst false (Int.toNat (IntKind.i64.wrap (1 * 2 ^ (min n6446 64)))) c6850))] (by simp [leE, lk_cons]) (.cons _ _ _ _ _ (.v _ _ (.refl _)) .nil) (by rfl) (by simp [leE, lk_cons]) (by decide) (by decide) rfl (by simp only [go_sem, qa, qb, qc, qd, qe, qf, qg, qh, qi, qj, qk, ↓reduceIte, resQ_tmp, resQ_cell, resQ_nil, retD_one, retD_two, retD_three, retD_none]; try simp [R.val, retD_one, retD_two, retD_three, retD_none])

def m8_L0 (N : Nat) (x6425 : Int) (p6438 : PV) (x6440 : Int) (n6858 : Nat) (c6859 : List PV) : Nat → PV → Int → Option ((PV ⊕ PV))
  | 0, _, _ => none
  | n + 1, p6935, x6936 =>
    getL p6935 fun n6938 c6939 =>
    brn (decide (x6936 < ((n6858 : Nat) : Int))) (
      grd (0 ≤ x6936 ∧ x6936 < ((n6858 : Nat) : Int)) <|
      grd (0 < List.length (List.drop (Int.toNat x6936) c6859)) <|
      getB (gp c6859 (Int.toNat x6936)) fun b6945 =>
      bnd' (m45 N (IntKind.u64.wrap x6936)) fun p6946 =>
      getL p6946 fun n6949 c6950 =>
      brn b6945 (
        brn (decide (((n6949 : Nat) : Int) > ((n6938 : Nat) : Int))) (
          bnd' (m30 N (.agg [(.int .i64 x6440), p6438]) (.lst false n6949 c6950)) fun p6953 =>
          getT2 p6953 fun p6956 p6957 =>
          getB p6956 fun b6959 =>
          getI .i64 p6957 fun x6961 =>
          brn (x6961 != 0) (
            some (.inl (.bool false))) (
            brn (b6959 != true) (
              some (.inl (.bool false))) (
              m8_L0 N x6425 p6438 x6440 n6858 c6859 n (.lst false n6949 c6950) (IntKind.i64.wrap (x6936 + 1))))) (
          brn (((n6949 : Nat) : Int) == ((n6938 : Nat) : Int)) (
            bnd' (m47 N (.lst false n6949 c6950) (.lst false n6938 c6939)) fun p6965 =>
            getI .i64 p6965 fun x6968 =>
            brn (decide (x6968 < 0)) (
              bnd' (m30 N (.agg [(.int .i64 x6440), p6438]) (.lst false n6949 c6950)) fun p6970 =>
              getT2 p6970 fun p6973 p6974 =>
              getB p6973 fun b6976 =>
              getI .i64 p6974 fun x6978 =>
              brn (x6978 != 0) (
                some (.inl (.bool false))) (
                brn (b6976 != true) (
                  some (.inl (.bool false))) (
                  m8_L0 N x6425 p6438 x6440 n6858 c6859 n (.lst false n6949 c6950) (IntKind.i64.wrap (x6936 + 1))))) (
              bnd' (m30 N (.agg [(.int .i64 x6440), p6438]) (.lst false n6949 c6950)) fun p6981 =>
              getT2 p6981 fun p6984 p6985 =>
              getB p6984 fun b6987 =>
              getI .i64 p6985 fun x6989 =>
              brn (x6989 != 0) (
                some (.inl (.bool false))) (
                brn (b6987 != true) (
                  some (.inl (.bool false))) (
                  m8_L0 N x6425 p6438 x6440 n6858 c6859 n (.lst false n6938 c6939) (IntKind.i64.wrap (x6936 + 1)))))) (
            bnd' (m30 N (.agg [(.int .i64 x6440), p6438]) (.lst false n6949 c6950)) fun p6992 =>
            getT2 p6992 fun p6995 p6996 =>
            getB p6995 fun b6998 =>
            getI .i64 p6996 fun x7000 =>
            brn (x7000 != 0) (
              some (.inl (.bool false))) (
              brn (b6998 != true) (
                some (.inl (.bool false))) (
                m8_L0 N x6425 p6438 x6440 n6858 c6859 n (.lst false n6938 c6939) (IntKind.i64.wrap (x6936 + 1))))))) (
        bnd' (m30 N (.agg [(.int .i64 x6440), p6438]) (.lst false n6949 c6950)) fun p7003 =>
        getT2 p7003 fun p7006 p7007 =>
        getB p7006 fun b7009 =>
        getI .i64 p7007 fun x7011 =>
        brn (x7011 != 0) (
          some (.inl (.bool false))) (
          brn (b7009 != false) (
            some (.inl (.bool false))) (
            m8_L0 N x6425 p6438 x6440 n6858 c6859 n (.lst false n6938 c6939) (IntKind.i64.wrap (x6936 + 1)))))) (
      some (.inr (.lst false n6938 c6939)))
def m8_L3 (N : Nat) (x6425 : Int) (p6438 : PV) (x6440 : Int) (n6858 : Nat) (c6859 : List PV) (x7035 : Int) (x7037 : Int) (n7047 : Nat) (c7048 : List PV) (x7057 : Int) (x7059 : Int) : Nat → Int → Int → Option (Int)
  | 0, _, _ => none
  | n + 1, x7075, x7076 =>
    brn (decide (x7076 < ((n7047 : Nat) : Int))) (
      grd (0 ≤ x7076 ∧ x7076 < ((n7047 : Nat) : Int)) <|
      grd (0 < List.length (List.drop (Int.toNat x7076) c7048)) <|
      getI .i64 (gp c7048 (Int.toNat x7076)) fun x7082 =>
      brn (decide (x7075 < 0)) (
        grd (0 ≤ x7082) <|
        brn ((bitsI .and .i64 (Int.fdiv x7035 (2 ^ (min (Int.toNat x7082) 64))) 1) == 0) (
          grd (0 ≤ (bitsI .or .i64 x7035 (IntKind.i64.wrap (1 * 2 ^ (min (Int.toNat x7082) 64)))) ∧ (bitsI .or .i64 x7035 (IntKind.i64.wrap (1 * 2 ^ (min (Int.toNat x7082) 64)))) < ((n6858 : Nat) : Int)) <|
          grd (0 < List.length (List.drop (Int.toNat (bitsI .or .i64 x7035 (IntKind.i64.wrap (1 * 2 ^ (min (Int.toNat x7082) 64))))) c6859)) <|
          getB (gp c6859 (Int.toNat (bitsI .or .i64 x7035 (IntKind.i64.wrap (1 * 2 ^ (min (Int.toNat x7082) 64)))))) fun b7090 =>
          brn b7090 (
            m8_L3 N x6425 p6438 x6440 n6858 c6859 x7035 x7037 n7047 c7048 x7057 x7059 n x7082 (IntKind.i64.wrap (x7076 + 1))) (
            m8_L3 N x6425 p6438 x6440 n6858 c6859 x7035 x7037 n7047 c7048 x7057 x7059 n x7075 (IntKind.i64.wrap (x7076 + 1)))) (
          m8_L3 N x6425 p6438 x6440 n6858 c6859 x7035 x7037 n7047 c7048 x7057 x7059 n x7075 (IntKind.i64.wrap (x7076 + 1)))) (
        m8_L3 N x6425 p6438 x6440 n6858 c6859 x7035 x7037 n7047 c7048 x7057 x7059 n x7075 (IntKind.i64.wrap (x7076 + 1)))) (
      some x7075)
def m8_L2 (N : Nat) (x6425 : Int) (p6438 : PV) (x6440 : Int) (n6858 : Nat) (c6859 : List PV) (x7035 : Int) : Nat → Int → Option ((PV ⊕ Unit))
  | 0, _ => none
  | n + 1, x7037 =>
    brn (decide (x7037 < ((n6858 : Nat) : Int))) (
      bnd' (m45 N (IntKind.u64.wrap x7035)) fun p7039 =>
      getL p7039 fun n7042 c7043 =>
      bnd' (m45 N (IntKind.u64.wrap x7037)) fun p7044 =>
      getL p7044 fun n7047 c7048 =>
      grd (3 ≠ 0) <|
      brn ((Int.tmod (IntKind.i64.wrap (x7035 + x7037)) 3) != (Int.tmod (IntKind.i64.wrap x6425) 3)) (
        m8_L2 N x6425 p6438 x6440 n6858 c6859 x7035 n (IntKind.i64.wrap (x7037 + 1))) (
        bnd' (m34 N (.agg [(.int .i64 x6440), p6438]) (.lst false n7042 c7043) (.lst false n7047 c7048)) fun p7051 =>
        getT2 p7051 fun p7054 p7055 =>
        getI .i64 p7054 fun x7057 =>
        getI .i64 p7055 fun x7059 =>
        grd (0 ≤ x7035 ∧ x7035 < ((n6858 : Nat) : Int)) <|
        grd (0 < List.length (List.drop (Int.toNat x7035) c6859)) <|
        getB (gp c6859 (Int.toNat x7035)) fun b7064 =>
        brn b7064 (
          grd (0 ≤ x7037 ∧ x7037 < ((n6858 : Nat) : Int)) <|
          grd (0 < List.length (List.drop (Int.toNat x7037) c6859)) <|
          getB (gp c6859 (Int.toNat x7037)) fun b7070 =>
          brn b7070 (
            brn (decide (((n7047 : Nat) : Int) ≤ ((n7042 : Nat) : Int))) (
              brn (x7059 != 5) (
                some (.inl (.bool false))) (
                brn (x7057 != 0) (
                  some (.inl (.bool false))) (
                  m8_L2 N x6425 p6438 x6440 n6858 c6859 x7035 n (IntKind.i64.wrap (x7037 + 1))))) (
              bnd' (m8_L3 N x6425 p6438 x6440 n6858 c6859 x7035 x7037 n7047 c7048 x7057 x7059 N (-1) 0) fun x7092 =>
              brn (decide (x7092 < 0)) (
                some (.inl (.bool false))) (
                brn (x7059 != 0) (
                  some (.inl (.bool false))) (
                  brn (x7057 != x7092) (
                    some (.inl (.bool false))) (
                    m8_L2 N x6425 p6438 x6440 n6858 c6859 x7035 n (IntKind.i64.wrap (x7037 + 1))))))) (
            brn (x7059 != 12) (
              some (.inl (.bool false))) (
              brn (x7057 != 0) (
                some (.inl (.bool false))) (
                m8_L2 N x6425 p6438 x6440 n6858 c6859 x7035 n (IntKind.i64.wrap (x7037 + 1)))))) (
          brn (x7059 != 12) (
            some (.inl (.bool false))) (
            brn (x7057 != 0) (
              some (.inl (.bool false))) (
              m8_L2 N x6425 p6438 x6440 n6858 c6859 x7035 n (IntKind.i64.wrap (x7037 + 1))))))) (
      some (.inr ()))
def m8_L1 (N : Nat) (x6425 : Int) (p6438 : PV) (x6440 : Int) (n6858 : Nat) (c6859 : List PV) : Nat → Int → Option ((PV ⊕ Unit))
  | 0, _ => none
  | n + 1, x7035 =>
    brn (decide (x7035 < ((n6858 : Nat) : Int))) (
      bnd' (m8_L2 N x6425 p6438 x6440 n6858 c6859 x7035 N 0) fun o =>
      match o with
      | .inl p7100 =>
        some (.inl p7100)
      | .inr () =>
        m8_L1 N x6425 p6438 x6440 n6858 c6859 n (IntKind.i64.wrap (x7035 + 1))) (
      some (.inr ()))
def m8 (N : Nat) (p6424 : PV) (x6425 : Int) : Option (PV) :=
  getA7 p6424 fun p6427 p6428 p6429 p6430 p6431 p6432 p6433 =>
  bnd' (m40 N (.agg [p6427, p6428, p6429, p6430, p6431, p6432, p6433]) 4 4 4) fun p6434 =>
  getA2 p6434 fun p6437 p6438 =>
  getI .i64 p6437 fun x6440 =>
  bnd' (m48 N (.agg [(.int .i64 x6440), p6438])) fun p6855 =>
  getL p6855 fun n6858 c6859 =>
  bnd' (m8_L0 N x6425 p6438 x6440 n6858 c6859 N (.lst false 0 []) 0) fun o =>
  match o with
  | .inl p7014 =>
    some p7014
  | .inr p7015 =>
    getL p7015 fun n7017 c7018 =>
    bnd' (m32 N (.agg [(.int .i64 x6440), p6438])) fun p7019 =>
    getT2 p7019 fun p7022 p7023 =>
    getL p7022 fun n7025 c7026 =>
    getI .i64 p7023 fun x7028 =>
    brn (x7028 != 0) (
      some (.bool false)) (
      bnd' (m21 N (.lst false n7025 c7026) (.lst false n7017 c7018)) fun p7030 =>
      getB p7030 fun b7033 =>
      brn b7033 (
        bnd' (m8_L1 N x6425 p6438 x6440 n6858 c6859 N 0) fun o =>
        match o with
        | .inl p7101 =>
          some p7101
        | .inr () =>
          bnd' (m16 N ) fun p7102 =>
          getB p7102 fun b7105 =>
          some (.bool b7105)) (
        some (.bool false)))
theorem c8 (N : Nat) (p6424 : PV) (x6425 : Int) (r : PV)  (h : m8 N p6424 x6425 = some r) : FnP Tryd.prog 8 [p6424, (.int .u8 x6425)] r := by
  unfold m8 at h
  refine Fn_of (sz := 187) tab_ok [0, 1, 2, 4, 5, 6, 7, 8, 9, 10, 11, 12, 13, 14, 15, 16, 17, 18, 19, 20, 21, 23, 28, 29, 30, 31, 58, 72, 86, 88, 89, 90, 93, 94, 95, 110, 129, 135, 140, 146, 147, 148, 149, 150, 170, 183] [.tmp 4] Tryd.func8 rfl rfl rfl (by simp) ?_
  simp only [initSt, initEnv, List.map_cons, List.map_nil, List.getD_cons_zero, List.getD_cons_succ, List.getD_nil]
  have hh := getA7_some h; clear h; obtain ⟨p6427, p6428, p6429, p6430, p6431, p6432, p6433, h6426, h⟩ := hh
  have hh := bnd'_some h; clear h; obtain ⟨p6434, h6435, h⟩ := hh
  refine W_sound tab_ok mixed 8 _ _ _ ?_
  simp -implicitDefEqProofs only [go_sem, qa, qb, qc, qd, qe, qf, qg, qh, qi, qj, qk, ↓reduceIte, h6426]
  repeat with_reducible refine And.intro (by first | kernel_rfl | decide) ?_
  refine Wp_callP (c40 N _ _ _ _ _ h6435) (by kernel_rfl) rfl rfl rfl rfl (by decide) ?_
  have hh := getA2_some h; clear h; obtain ⟨p6437, p6438, h6436, h⟩ := hh
  have hh := getI_some h; clear h; obtain ⟨x6440, h6439, h⟩ := hh
  have hh := bnd'_some h; clear h; obtain ⟨p6855, h6856, h⟩ := hh
  refine W_sound tab_ok mixed 6 _ _ _ ?_
  simp -implicitDefEqProofs only [go_sem, qa, qb, qc, qd, qe, qf, qg, qh, qi, qj, qk, ↓reduceIte, h6426, h6436, h6439]
  repeat with_reducible refine And.intro (by first | kernel_rfl | decide) ?_
  refine Wp_callP (c48 N _ _ h6856) (by kernel_rfl) rfl rfl rfl rfl (by decide) ?_
  have hh := getL_some h; clear h; obtain ⟨n6858, c6859, h6857, h⟩ := hh
  refine W_sound tab_ok mixed 13 _ _ _ ?_
  simp -implicitDefEqProofs only [go_sem, qa, qb, qc, qd, qe, qf, qg, qh, qi, qj, qk, ↓reduceIte, h6426, h6436, h6439, h6857]
  repeat with_reducible refine And.intro (by first | kernel_rfl | decide) ?_
  have hh := bnd'_some h; clear h; obtain ⟨o7106, h7107, h7108⟩ := hh
  refine Wp_cut (fun s => ∃ p7015, (.inr p7015) = o7106 ∧ s = ⟨[], [(0, .dead), (1, .v (.int .u8 x6425)), (2, .dead), (4, .dead), (5, .ptr 0 0), (6, .v (.lst false n6858 c6859)), (7, .v p7015), (8, .dead), (9, .dead), (10, .dead), (11, .dead), (12, .dead), (13, .dead), (14, .dead), (15, .dead), (16, .dead), (17, .dead), (18, .dead), (19, .dead), (20, .dead), (21, .dead), (23, .dead), (28, .dead), (29, .dead), (30, .dead), (31, .dead), (58, .dead), (72, .dead), (86, .dead), (88, .dead), (89, .dead), (90, .dead), (93, .dead), (94, .dead), (95, .dead), (110, .dead), (129, .dead), (135, .dead), (140, .dead), (146, .dead), (147, .dead), (148, .dead), (149, .dead), (150, .dead), (170, .dead), (183, .dead)], [(0, .p [(.int .i64 x6440), p6438])], 1, []⟩) ?_ ?_
  · refine Wp_block ?_
    refine Wp_loopG (fun n s => ∃ p6935, ∃ x6936, m8_L0 N x6425 p6438 x6440 n6858 c6859 n p6935 x6936 = some o7106 ∧ s = ⟨[], [(0, .dead), (1, .v (.int .u8 x6425)), (2, .dead), (4, .dead), (5, .ptr 0 0), (6, .v (.lst false n6858 c6859)), (7, .v p6935), (8, .dead), (9, .dead), (10, .dead), (11, .dead), (12, .dead), (13, .dead), (14, .dead), (15, .dead), (16, .dead), (17, .dead), (18, .dead), (19, .dead), (20, .dead), (21, .dead), (23, .dead), (28, .v (.lst false n6858 c6859)), (29, .v (.int .i64 ((n6858 : Nat) : Int))), (30, .v (.int .i64 x6936)), (31, .dead), (58, .dead), (72, .dead), (86, .dead), (88, .dead), (89, .dead), (90, .dead), (93, .dead), (94, .dead), (95, .dead), (110, .dead), (129, .dead), (135, .dead), (140, .dead), (146, .dead), (147, .dead), (148, .dead), (149, .dead), (150, .dead), (170, .dead), (183, .dead)], [(0, .p [(.int .i64 x6440), p6438])], 1, []⟩) N _ ((Wk_le (.k (.r (.k (.k (.r (.r (.cons _ _ _ _ _ (.v _ _ (.nl false)) (.r (.r (.r (.r (.r (.r (.r (.r (.r (.r (.r (.r (.r (.r (.r (.r (.r (.r (.r (.r (.r (.r (.r (.r (.r (.r (.r (.r (.r (.r (.r (.r (.r (.r (.r (.r (.r (.r (.r .nil)))))))))))))))))))))))))))))))))))))))))))))) (OLe.refl _)).trans (cmpS_ok (st' := ⟨[], [(0, .dead), (1, .v (.int .u8 x6425)), (2, .dead), (4, .dead), (5, .ptr 0 0), (6, .v (.lst false n6858 c6859)), (7, .v (.lst false 0 [])), (8, .dead), (9, .dead), (10, .dead), (11, .dead), (12, .dead), (13, .dead), (14, .dead), (15, .dead), (16, .dead), (17, .dead), (18, .dead), (19, .dead), (20, .dead), (21, .dead), (23, .dead), (28, .v (.lst false n6858 c6859)), (29, .v (.int .i64 ((n6858 : Nat) : Int))), (30, .v (.int .i64 0)), (31, .dead), (58, .dead), (72, .dead), (86, .dead), (88, .dead), (89, .dead), (90, .dead), (93, .dead), (94, .dead), (95, .dead), (110, .dead), (129, .dead), (135, .dead), (140, .dead), (146, .dead), (147, .dead), (148, .dead), (149, .dead), (150, .dead), (170, .dead), (183, .dead)], [(0, .p [(.int .i64 x6440), p6438])], 1, []⟩) (by kernel_rfl))) ⟨_, _, h7107, rfl⟩ ?_
    clear h7107
    rintro n _ ⟨p6935, x6936, h7107, rfl⟩
    cases n with
    | zero => cases h7107
    | succ n =>
      rw [m8_L0] at h7107
      have hh := getL_some h7107; clear h7107; obtain ⟨n6938, c6939, h6937, h7107⟩ := hh
      have hh := brn_some h7107; clear h7107; rcases hh with ⟨h6940, h7107⟩ | ⟨h6940, h7107⟩
      · have hh := grd_some h7107; clear h7107; obtain ⟨⟨g6941, g6942⟩, h7107⟩ := hh
        have hh := grd_some h7107; clear h7107; obtain ⟨g6943, h7107⟩ := hh
        have hh := getB_some h7107; clear h7107; obtain ⟨b6945, h6944, h7107⟩ := hh
        have hh := bnd'_some h7107; clear h7107; obtain ⟨p6946, h6947, h7107⟩ := hh
        refine W_sound tab_ok mixed 21 _ _ _ ?_
        simp -implicitDefEqProofs only [go_sem, qa, qb, qc, qd, qe, qf, qg, qh, qi, qj, qk, ↓reduceIte, h6426, h6436, h6439, h6857, h6937, h6940, g6941, g6942, g6943, h6944]
        repeat with_reducible refine And.intro (by first | kernel_rfl | decide) ?_
        refine Wp_callP (c45 N _ _ h6947) (by kernel_rfl) rfl rfl rfl rfl (by decide) ?_
        have hh := getL_some h7107; clear h7107; obtain ⟨n6949, c6950, h6948, h7107⟩ := hh
        have hh := brn_some h7107; clear h7107; rcases hh with ⟨h6951, h7107⟩ | ⟨h6951, h7107⟩
        · have hh := brn_some h7107; clear h7107; rcases hh with ⟨h6952, h7107⟩ | ⟨h6952, h7107⟩
          · have hh := bnd'_some h7107; clear h7107; obtain ⟨p6953, h6954, h7107⟩ := hh
            refine W_sound tab_ok mixed 36 _ _ _ ?_
            simp -implicitDefEqProofs only [go_sem, qa, qb, qc, qd, qe, qf, qg, qh, qi, qj, qk, ↓reduceIte, h6426, h6436, h6439, h6857, h6937, h6940, g6941, g6942, g6943, h6944, h6948, h6951, h6952]
            repeat with_reducible refine And.intro (by first | kernel_rfl | decide) ?_
            refine Wp_callP (c30 N _ _ _ h6954) (by kernel_rfl) rfl rfl rfl rfl (by decide) ?_
            have hh := getT2_some h7107; clear h7107; obtain ⟨p6956, p6957, h6955, h7107⟩ := hh
            have hh := getB_some h7107; clear h7107; obtain ⟨b6959, h6958, h7107⟩ := hh
            have hh := getI_some h7107; clear h7107; obtain ⟨x6961, h6960, h7107⟩ := hh
            have hh := brn_some h7107; clear h7107; rcases hh with ⟨h6962, h7107⟩ | ⟨h6962, h7107⟩
            · refine W_sound tab_ok mixed 23 _ _ _ ?_
              simp -implicitDefEqProofs only [go_sem, qa, qb, qc, qd, qe, qf, qg, qh, qi, qj, qk, ↓reduceIte, h6426, h6436, h6439, h6857, h6937, h6940, g6941, g6942, g6943, h6944, h6948, h6951, h6952, h6955, h6958, h6960, h6962]
              repeat with_reducible refine And.intro (by first | kernel_rfl | decide) ?_
              obtain rfl := Option.some.inj h7107
              (try dsimp only at h7108)
              obtain rfl := Option.some.inj h7108
              exact finC [(4, .v (.bool false))] [(4, .v (.bool false))] (by simp [leE, lk_cons]) (.cons _ _ _ _ _ (.v _ _ (.refl _)) .nil) (by rfl) (by simp [leE, lk_cons]) (by decide) (by decide) rfl (by simp only [go_sem, qa, qb, qc, qd, qe, qf, qg, qh, qi, qj, qk, ↓reduceIte, resQ_tmp, resQ_cell, resQ_nil, retD_one, retD_two, retD_three, retD_none]; try simp [R.val, retD_one, retD_two, retD_three, retD_none])
            · have hh := brn_some h7107; clear h7107; rcases hh with ⟨h6963, h7107⟩ | ⟨h6963, h7107⟩
              · refine W_sound tab_ok mixed 23 _ _ _ ?_
                simp -implicitDefEqProofs only [go_sem, qa, qb, qc, qd, qe, qf, qg, qh, qi, qj, qk, ↓reduceIte, h6426, h6436, h6439, h6857, h6937, h6940, g6941, g6942, g6943, h6944, h6948, h6951, h6952, h6955, h6958, h6960, h6962, h6963]
                repeat with_reducible refine And.intro (by first | kernel_rfl | decide) ?_
                obtain rfl := Option.some.inj h7107
                (try dsimp only at h7108)
                obtain rfl := Option.some.inj h7108
                exact finC [(4, .v (.bool false))] [(4, .v (.bool false))] (by simp [leE, lk_cons]) (.cons _ _ _ _ _ (.v _ _ (.refl _)) .nil) (by rfl) (by simp [leE, lk_cons]) (by decide) (by decide) rfl (by simp only [go_sem, qa, qb, qc, qd, qe, qf, qg, qh, qi, qj, qk, ↓reduceIte, resQ_tmp, resQ_cell, resQ_nil, retD_one, retD_two, retD_three, retD_none]; try simp [R.val, retD_one, retD_two, retD_three, retD_none])
              · refine W_sound tab_ok mixed 23 _ _ _ ?_
                simp -implicitDefEqProofs only [go_sem, qa, qb, qc, qd, qe, qf, qg, qh, qi, qj, qk, ↓reduceIte, h6426, h6436, h6439, h6857, h6937, h6940, g6941, g6942, g6943, h6944, h6948, h6951, h6952, h6955, h6958, h6960, h6962, h6963]
                repeat with_reducible refine And.intro (by first | kernel_rfl | decide) ?_
                exact cutQ _ ((Wk_le (.r (.r (.r (.r (.r (.r (.r (.k (.k (.k (.k (.k (.r (.r (.r (.r (.r (.r (.r (.r (.r (.r (.r (.r (.r (.k (.k (.k (.r (.r (.r (.r (.r (.r (.r (.r (.r (.r (.r (.r (.r (.r (.r (.r (.r (.r .nil)))))))))))))))))))))))))))))))))))))))))))))) (OLe.refl _)).trans (cmpS_ok (st' := ⟨[], [(0, .dead), (1, .v (.int .u8 x6425)), (2, .dead), (4, .dead), (5, .ptr 0 0), (6, .v (.lst false n6858 c6859)), (7, .v (.lst false n6949 c6950)), (8, .dead), (9, .dead), (10, .dead), (11, .dead), (12, .dead), (13, .dead), (14, .dead), (15, .dead), (16, .dead), (17, .dead), (18, .dead), (19, .dead), (20, .dead), (21, .dead), (23, .dead), (28, .v (.lst false n6858 c6859)), (29, .v (.int .i64 ((n6858 : Nat) : Int))), (30, .v (.int .i64 (IntKind.i64.wrap (x6936 + 1)))), (31, .dead), (58, .dead), (72, .dead), (86, .dead), (88, .dead), (89, .dead), (90, .dead), (93, .dead), (94, .dead), (95, .dead), (110, .dead), (129, .dead), (135, .dead), (140, .dead), (146, .dead), (147, .dead), (148, .dead), (149, .dead), (150, .dead), (170, .dead), (183, .dead)], [(0, .p [(.int .i64 x6440), p6438])], 1, []⟩) (by kernel_rfl))) ⟨n, Nat.lt_succ_self n, _, _, h7107, rfl⟩
          · have hh := brn_some h7107; clear h7107; rcases hh with ⟨h6964, h7107⟩ | ⟨h6964, h7107⟩
            · have hh := bnd'_some h7107; clear h7107; obtain ⟨p6965, h6966, h7107⟩ := hh
              refine W_sound tab_ok mixed 21 _ _ _ ?_
              simp -implicitDefEqProofs only [go_sem, qa, qb, qc, qd, qe, qf, qg, qh, qi, qj, qk, ↓reduceIte, h6426, h6436, h6439, h6857, h6937, h6940, g6941, g6942, g6943, h6944, h6948, h6951, h6952, h6964]
              repeat with_reducible refine And.intro (by first | kernel_rfl | decide) ?_
              refine Wp_callP (c47 N _ _ _ h6966) (by kernel_rfl) rfl rfl rfl rfl (by decide) ?_
              have hh := getI_some h7107; clear h7107; obtain ⟨x6968, h6967, h7107⟩ := hh
              have hh := brn_some h7107; clear h7107; rcases hh with ⟨h6969, h7107⟩ | ⟨h6969, h7107⟩
              · have hh := bnd'_some h7107; clear h7107; obtain ⟨p6970, h6971, h7107⟩ := hh
                refine W_sound tab_ok mixed 14 _ _ _ ?_
                simp -implicitDefEqProofs only [go_sem, qa, qb, qc, qd, qe, qf, qg, qh, qi, qj, qk, ↓reduceIte, h6426, h6436, h6439, h6857, h6937, h6940, g6941, g6942, g6943, h6944, h6948, h6951, h6952, h6964, h6967, h6969]
                repeat with_reducible refine And.intro (by first | kernel_rfl | decide) ?_
                refine Wp_callP (c30 N _ _ _ h6971) (by kernel_rfl) rfl rfl rfl rfl (by decide) ?_
                have hh := getT2_some h7107; clear h7107; obtain ⟨p6973, p6974, h6972, h7107⟩ := hh
                have hh := getB_some h7107; clear h7107; obtain ⟨b6976, h6975, h7107⟩ := hh
                have hh := getI_some h7107; clear h7107; obtain ⟨x6978, h6977, h7107⟩ := hh
                have hh := brn_some h7107; clear h7107; rcases hh with ⟨h6979, h7107⟩ | ⟨h6979, h7107⟩
                · refine W_sound tab_ok mixed 23 _ _ _ ?_
                  simp -implicitDefEqProofs only [go_sem, qa, qb, qc, qd, qe, qf, qg, qh, qi, qj, qk, ↓reduceIte, h6426, h6436, h6439, h6857, h6937, h6940, g6941, g6942, g6943, h6944, h6948, h6951, h6952, h6964, h6967, h6969, h6972, h6975, h6977, h6979]
                  repeat with_reducible refine And.intro (by first | kernel_rfl | decide) ?_
                  obtain rfl := Option.some.inj h7107
                  (try dsimp only at h7108)
                  obtain rfl := Option.some.inj h7108
                  exact finC [(4, .v (.bool false))] [(4, .v (.bool false))] (by simp [leE, lk_cons]) (.cons _ _ _ _ _ (.v _ _ (.refl _)) .nil) (by rfl) (by simp [leE, lk_cons]) (by decide) (by decide) rfl (by simp only [go_sem, qa, qb, qc, qd, qe, qf, qg, qh, qi, qj, qk, ↓reduceIte, resQ_tmp, resQ_cell, resQ_nil, retD_one, retD_two, retD_three, retD_none]; try simp [R.val, retD_one, retD_two, retD_three, retD_none])
                · have hh := brn_some h7107; clear h7107; rcases hh with ⟨h6980, h7107⟩ | ⟨h6980, h7107⟩
                  · refine W_sound tab_ok mixed 23 _ _ _ ?_
                    simp -implicitDefEqProofs only [go_sem, qa, qb, qc, qd, qe, qf, qg, qh, qi, qj, qk, ↓reduceIte, h6426, h6436, h6439, h6857, h6937, h6940, g6941, g6942, g6943, h6944, h6948, h6951, h6952, h6964, h6967, h6969, h6972, h6975, h6977, h6979, h6980]
                    repeat with_reducible refine And.intro (by first | kernel_rfl | decide) ?_
                    obtain rfl := Option.some.inj h7107
                    (try dsimp only at h7108)
                    obtain rfl := Option.some.inj h7108
                    exact finC [(4, .v (.bool false))] [(4, .v (.bool false))] (by simp [leE, lk_cons]) (.cons _ _ _ _ _ (.v _ _ (.refl _)) .nil) (by rfl) (by simp [leE, lk_cons]) (by decide) (by decide) rfl (by simp only [go_sem, qa, qb, qc, qd, qe, qf, qg, qh, qi, qj, qk, ↓reduceIte, resQ_tmp, resQ_cell, resQ_nil, retD_one, retD_two, retD_three, retD_none]; try simp [R.val, retD_one, retD_two, retD_three, retD_none])
                  · refine W_sound tab_ok mixed 23 _ _ _ ?_
                    simp -implicitDefEqProofs only [go_sem, qa, qb, qc, qd, qe, qf, qg, qh, qi, qj, qk, ↓reduceIte, h6426, h6436, h6439, h6857, h6937, h6940, g6941, g6942, g6943, h6944, h6948, h6951, h6952, h6964, h6967, h6969, h6972, h6975, h6977, h6979, h6980]
                    repeat with_reducible refine And.intro (by first | kernel_rfl | decide) ?_
                    exact cutQ _ ((Wk_le (.r (.r (.r (.r (.r (.r (.r (.k (.k (.k (.k (.k (.r (.r (.r (.r (.r (.r (.r (.r (.r (.r (.r (.r (.r (.k (.k (.k (.r (.r (.r (.r (.r (.r (.r (.r (.r (.r (.r (.r (.r (.r (.r (.r (.r (.r .nil)))))))))))))))))))))))))))))))))))))))))))))) (OLe.refl _)).trans (cmpS_ok (st' := ⟨[], [(0, .dead), (1, .v (.int .u8 x6425)), (2, .dead), (4, .dead), (5, .ptr 0 0), (6, .v (.lst false n6858 c6859)), (7, .v (.lst false n6949 c6950)), (8, .dead), (9, .dead), (10, .dead), (11, .dead), (12, .dead), (13, .dead), (14, .dead), (15, .dead), (16, .dead), (17, .dead), (18, .dead), (19, .dead), (20, .dead), (21, .dead), (23, .dead), (28, .v (.lst false n6858 c6859)), (29, .v (.int .i64 ((n6858 : Nat) : Int))), (30, .v (.int .i64 (IntKind.i64.wrap (x6936 + 1)))), (31, .dead), (58, .dead), (72, .dead), (86, .dead), (88, .dead), (89, .dead), (90, .dead), (93, .dead), (94, .dead), (95, .dead), (110, .dead), (129, .dead), (135, .dead), (140, .dead), (146, .dead), (147, .dead), (148, .dead), (149, .dead), (150, .dead), (170, .dead), (183, .dead)], [(0, .p [(.int .i64 x6440), p6438])], 1, []⟩) (by kernel_rfl))) ⟨n, Nat.lt_succ_self n, _, _, h7107, rfl⟩
              · have hh := bnd'_some h7107; clear h7107; obtain ⟨p6981, h6982, h7107⟩ := hh
                refine W_sound tab_ok mixed 11 _ _ _ ?_
                simp -implicitDefEqProofs only [go_sem, qa, qb, qc, qd, qe, qf, qg, qh, qi, qj, qk, ↓reduceIte, h6426, h6436, h6439, h6857, h6937, h6940, g6941, g6942, g6943, h6944, h6948, h6951, h6952, h6964, h6967, h6969]
                repeat with_reducible refine And.intro (by first | kernel_rfl | decide) ?_
                refine Wp_callP (c30 N _ _ _ h6982) (by kernel_rfl) rfl rfl rfl rfl (by decide) ?_
                have hh := getT2_some h7107; clear h7107; obtain ⟨p6984, p6985, h6983, h7107⟩ := hh
                have hh := getB_some h7107; clear h7107; obtain ⟨b6987, h6986, h7107⟩ := hh
                have hh := getI_some h7107; clear h7107; obtain ⟨x6989, h6988, h7107⟩ := hh
                have hh := brn_some h7107; clear h7107; rcases hh with ⟨h6990, h7107⟩ | ⟨h6990, h7107⟩
                · refine W_sound tab_ok mixed 23 _ _ _ ?_
                  simp -implicitDefEqProofs only [go_sem, qa, qb, qc, qd, qe, qf, qg, qh, qi, qj, qk, ↓reduceIte, h6426, h6436, h6439, h6857, h6937, h6940, g6941, g6942, g6943, h6944, h6948, h6951, h6952, h6964, h6967, h6969, h6983, h6986, h6988, h6990]
                  repeat with_reducible refine And.intro (by first | kernel_rfl | decide) ?_
                  obtain rfl := Option.some.inj h7107
                  (try dsimp only at h7108)
                  obtain rfl := Option.some.inj h7108
                  exact finC [(4, .v (.bool false))] [(4, .v (.bool false))] (by simp [leE, lk_cons]) (.cons _ _ _ _ _ (.v _ _ (.refl _)) .nil) (by rfl) (by simp [leE, lk_cons]) (by decide) (by decide) rfl (by simp only [go_sem, qa, qb, qc, qd, qe, qf, qg, qh, qi, qj, qk, ↓reduceIte, resQ_tmp, resQ_cell, resQ_nil, retD_one, retD_two, retD_three, retD_none]; try simp [R.val, retD_one, retD_two, retD_three, retD_none])
                · have hh := brn_some h7107; clear h7107; rcases hh with ⟨h6991, h7107⟩ | ⟨h6991, h7107⟩
                  · refine W_sound tab_ok mixed 23 _ _ _ ?_
                    simp -implicitDefEqProofs only [go_sem, qa, qb, qc, qd, qe, qf, qg, qh, qi, qj, qk, ↓reduceIte, h6426, h6436, h6439, h6857, h6937, h6940, g6941, g6942, g6943, h6944, h6948, h6951, h6952, h6964, h6967, h6969, h6983, h6986, h6988, h6990, h6991]
                    repeat with_reducible refine And.intro (by first | kernel_rfl | decide) ?_
                    obtain rfl := Option.some.inj h7107
                    (try dsimp only at h7108)
                    obtain rfl := Option.some.inj h7108
                    exact finC [(4, .v (.bool false))] [(4, .v (.bool false))] (by simp [leE, lk_cons]) (.cons _ _ _ _ _ (.v _ _ (.refl _)) .nil) (by rfl) (by simp [leE, lk_cons]) (by decide) (by decide) rfl (by simp only [go_sem, qa, qb, qc, qd, qe, qf, qg, qh, qi, qj, qk, ↓reduceIte, resQ_tmp, resQ_cell, resQ_nil, retD_one, retD_two, retD_three, retD_none]; try simp [R.val, retD_one, retD_two, retD_three, retD_none])
                  · refine W_sound tab_ok mixed 23 _ _ _ ?_
                    simp -implicitDefEqProofs only [go_sem, qa, qb, qc, qd, qe, qf, qg, qh, qi, qj, qk, ↓reduceIte, h6426, h6436, h6439, h6857, h6937, h6940, g6941, g6942, g6943, h6944, h6948, h6951, h6952, h6964, h6967, h6969, h6983, h6986, h6988, h6990, h6991]
                    repeat with_reducible refine And.intro (by first | kernel_rfl | decide) ?_
                    exact cutQ _ ((Wk_le (.r (.r (.r (.r (.r (.r (.r (.k (.k (.k (.k (.k (.r (.r (.r (.r (.r (.r (.r (.r (.r (.r (.r (.r (.r (.k (.k (.k (.r (.r (.r (.r (.r (.r (.r (.r (.r (.r (.r (.r (.r (.r (.r (.r (.r (.r .nil)))))))))))))))))))))))))))))))))))))))))))))) (OLe.refl _)).trans (cmpS_ok (st' := ⟨[], [(0, .dead), (1, .v (.int .u8 x6425)), (2, .dead), (4, .dead), (5, .ptr 0 0), (6, .v (.lst false n6858 c6859)), (7, .v (.lst false n6938 c6939)), (8, .dead), (9, .dead), (10, .dead), (11, .dead), (12, .dead), (13, .dead), (14, .dead), (15, .dead), (16, .dead), (17, .dead), (18, .dead), (19, .dead), (20, .dead), (21, .dead), (23, .dead), (28, .v (.lst false n6858 c6859)), (29, .v (.int .i64 ((n6858 : Nat) : Int))), (30, .v (.int .i64 (IntKind.i64.wrap (x6936 + 1)))), (31, .dead), (58, .dead), (72, .dead), (86, .dead), (88, .dead), (89, .dead), (90, .dead), (93, .dead), (94, .dead), (95, .dead), (110, .dead), (129, .dead), (135, .dead), (140, .dead), (146, .dead), (147, .dead), (148, .dead), (149, .dead), (150, .dead), (170, .dead), (183, .dead)], [(0, .p [(.int .i64 x6440), p6438])], 1, []⟩) (by kernel_rfl))) ⟨n, Nat.lt_succ_self n, _, _, h7107, rfl⟩
            · have hh := bnd'_some h7107; clear h7107; obtain ⟨p6992, h6993, h7107⟩ := hh
              refine W_sound tab_ok mixed 33 _ _ _ ?_
              simp -implicitDefEqProofs only [go_sem, qa, qb, qc, qd, qe, qf, qg, qh, qi, qj, qk, ↓reduceIte, h6426, h6436, h6439, h6857, h6937, h6940, g6941, g6942, g6943, h6944, h6948, h6951, h6952, h6964]
              repeat with_reducible refine And.intro (by first | kernel_rfl | decide) ?_
              refine Wp_callP (c30 N _ _ _ h6993) (by kernel_rfl) rfl rfl rfl rfl (by decide) ?_
              have hh := getT2_some h7107; clear h7107; obtain ⟨p6995, p6996, h6994, h7107⟩ := hh
              have hh := getB_some h7107; clear h7107; obtain ⟨b6998, h6997, h7107⟩ := hh
              have hh := getI_some h7107; clear h7107; obtain ⟨x7000, h6999, h7107⟩ := hh
              have hh := brn_some h7107; clear h7107; rcases hh with ⟨h7001, h7107⟩ | ⟨h7001, h7107⟩
              · refine W_sound tab_ok mixed 23 _ _ _ ?_
                simp -implicitDefEqProofs only [go_sem, qa, qb, qc, qd, qe, qf, qg, qh, qi, qj, qk, ↓reduceIte, h6426, h6436, h6439, h6857, h6937, h6940, g6941, g6942, g6943, h6944, h6948, h6951, h6952, h6964, h6994, h6997, h6999, h7001]
                repeat with_reducible refine And.intro (by first | kernel_rfl | decide) ?_
                obtain rfl := Option.some.inj h7107
                (try dsimp only at h7108)
                obtain rfl := Option.some.inj h7108
                exact finC [(4, .v (.bool false))] [(4, .v (.bool false))] (by simp [leE, lk_cons]) (.cons _ _ _ _ _ (.v _ _ (.refl _)) .nil) (by rfl) (by simp [leE, lk_cons]) (by decide) (by decide) rfl (by simp only [go_sem, qa, qb, qc, qd, qe, qf, qg, qh, qi, qj, qk, ↓reduceIte, resQ_tmp, resQ_cell, resQ_nil, retD_one, retD_two, retD_three, retD_none]; try simp [R.val, retD_one, retD_two, retD_three, retD_none])
              · have hh := brn_some h7107; clear h7107; rcases hh with ⟨h7002, h7107⟩ | ⟨h7002, h7107⟩
                · refine W_sound tab_ok mixed 23 _ _ _ ?_
                  simp -implicitDefEqProofs only [go_sem, qa, qb, qc, qd, qe, qf, qg, qh, qi, qj, qk, ↓reduceIte, h6426, h6436, h6439, h6857, h6937, h6940, g6941, g6942, g6943, h6944, h6948, h6951, h6952, h6964, h6994, h6997, h6999, h7001, h7002]
                  repeat with_reducible refine And.intro (by first | kernel_rfl | decide) ?_
                  obtain rfl := Option.some.inj h7107
                  (try dsimp only at h7108)
                  obtain rfl := Option.some.inj h7108
                  exact finC [(4, .v (.bool false))] [(4, .v (.bool false))] (by simp [leE, lk_cons]) (.cons _ _ _ _ _ (.v _ _ (.refl _)) .nil) (by rfl) (by simp [leE, lk_cons]) (by decide) (by decide) rfl (by simp only [go_sem, qa, qb, qc, qd, qe, qf, qg, qh, qi, qj, qk, ↓reduceIte, resQ_tmp, resQ_cell, resQ_nil, retD_one, retD_two, retD_three, retD_none]; try simp [R.val, retD_one, retD_two, retD_three, retD_none])
                · refine W_sound tab_ok mixed 23 _ _ _ ?_
                  simp -implicitDefEqProofs only [go_sem, qa, qb, qc, qd, qe, qf, qg, qh, qi, qj, qk, ↓reduceIte, h6426, h6436, h6439, h6857, h6937, h6940, g6941, g6942, g6943, h6944, h6948, h6951, h6952, h6964, h6994, h6997, h6999, h7001, h7002]
                  repeat with_reducible refine And.intro (by first | kernel_rfl | decide) ?_
                  exact cutQ _ ((Wk_le (.r (.r (.r (.r (.r (.r (.r (.k (.k (.k (.k (.k (.r (.r (.r (.r (.r (.r (.r (.r (.r (.r (.r (.r (.r (.k (.k (.k (.r (.r (.r (.r (.r (.r (.r (.r (.r (.r (.r (.r (.r (.r (.r (.r (.r (.r .nil)))))))))))))))))))))))))))))))))))))))))))))) (OLe.refl _)).trans (cmpS_ok (st' := ⟨[], [(0, .dead), (1, .v (.int .u8 x6425)), (2, .dead), (4, .dead), (5, .ptr 0 0), (6, .v (.lst false n6858 c6859)), (7, .v (.lst false n6938 c6939)), (8, .dead), (9, .dead), (10, .dead), (11, .dead), (12, .dead), (13, .dead), (14, .dead), (15, .dead), (16, .dead), (17, .dead), (18, .dead), (19, .dead), (20, .dead), (21, .dead), (23, .dead), (28, .v (.lst false n6858 c6859)), (29, .v (.int .i64 ((n6858 : Nat) : Int))), (30, .v (.int .i64 (IntKind.i64.wrap (x6936 + 1)))), (31, .dead), (58, .dead), (72, .dead), (86, .dead), (88, .dead), (89, .dead), (90, .dead), (93, .dead), (94, .dead), (95, .dead), (110, .dead), (129, .dead), (135, .dead), (140, .dead), (146, .dead), (147, .dead), (148, .dead), (149, .dead), (150, .dead), (170, .dead), (183, .dead)], [(0, .p [(.int .i64 x6440), p6438])], 1, []⟩) (by kernel_rfl))) ⟨n, Nat.lt_succ_self n, _, _, h7107, rfl⟩
        · have hh := bnd'_some h7107; clear h7107; obtain ⟨p7003, h7004, h7107⟩ := hh
          refine W_sound tab_ok mixed 33 _ _ _ ?_
          simp -implicitDefEqProofs only [go_sem, qa, qb, qc, qd, qe, qf, qg, qh, qi, qj, qk, ↓reduceIte, h6426, h6436, h6439, h6857, h6937, h6940, g6941, g6942, g6943, h6944, h6948, h6951]
          repeat with_reducible refine And.intro (by first | kernel_rfl | decide) ?_
          refine Wp_callP (c30 N _ _ _ h7004) (by kernel_rfl) rfl rfl rfl rfl (by decide) ?_
          have hh := getT2_some h7107; clear h7107; obtain ⟨p7006, p7007, h7005, h7107⟩ := hh
          have hh := getB_some h7107; clear h7107; obtain ⟨b7009, h7008, h7107⟩ := hh
          have hh := getI_some h7107; clear h7107; obtain ⟨x7011, h7010, h7107⟩ := hh
          have hh := brn_some h7107; clear h7107; rcases hh with ⟨h7012, h7107⟩ | ⟨h7012, h7107⟩
          · refine W_sound tab_ok mixed 23 _ _ _ ?_
            simp -implicitDefEqProofs only [go_sem, qa, qb, qc, qd, qe, qf, qg, qh, qi, qj, qk, ↓reduceIte, h6426, h6436, h6439, h6857, h6937, h6940, g6941, g6942, g6943, h6944, h6948, h6951, h7005, h7008, h7010, h7012]
            repeat with_reducible refine And.intro (by first | kernel_rfl | decide) ?_
            obtain rfl := Option.some.inj h7107
            (try dsimp only at h7108)
            obtain rfl := Option.some.inj h7108
            exact finC [(4, .v (.bool false))] [(4, .v (.bool false))] (by simp [leE, lk_cons]) (.cons _ _ _ _ _ (.v _ _ (.refl _)) .nil) (by rfl) (by simp [leE, lk_cons]) (by decide) (by decide) rfl (by simp only [go_sem, qa, qb, qc, qd, qe, qf, qg, qh, qi, qj, qk, ↓reduceIte, resQ_tmp, resQ_cell, resQ_nil, retD_one, retD_two, retD_three, retD_none]; try simp [R.val, retD_one, retD_two, retD_three, retD_none])
          · have hh := brn_some h7107; clear h7107; rcases hh with ⟨h7013, h7107⟩ | ⟨h7013, h7107⟩
            · refine W_sound tab_ok mixed 23 _ _ _ ?_
              simp -implicitDefEqProofs only [go_sem, qa, qb, qc, qd, qe, qf, qg, qh, qi, qj, qk, ↓reduceIte, h6426, h6436, h6439, h6857, h6937, h6940, g6941, g6942, g6943, h6944, h6948, h6951, h7005, h7008, h7010, h7012, h7013]
              repeat with_reducible refine And.intro (by first | kernel_rfl | decide) ?_
              obtain rfl := Option.some.inj h7107
              (try dsimp only at h7108)
              obtain rfl := Option.some.inj h7108
              exact finC [(4, .v (.bool false))] [(4, .v (.bool false))] (by simp [leE, lk_cons]) (.cons _ _ _ _ _ (.v _ _ (.refl _)) .nil) (by rfl) (by simp [leE, lk_cons]) (by decide) (by decide) rfl (by simp only [go_sem, qa, qb, qc, qd, qe, qf, qg, qh, qi, qj, qk, ↓reduceIte, resQ_tmp, resQ_cell, resQ_nil, retD_one, retD_two, retD_three, retD_none]; try simp [R.val, retD_one, retD_two, retD_three, retD_none])
            · refine W_sound tab_ok mixed 23 _ _ _ ?_
              simp -implicitDefEqProofs only [go_sem, qa, qb, qc, qd, qe, qf, qg, qh, qi, qj, qk, ↓reduceIte, h6426, h6436, h6439, h6857, h6937, h6940, g6941, g6942, g6943, h6944, h6948, h6951, h7005, h7008, h7010, h7012, h7013]
              repeat with_reducible refine And.intro (by first | kernel_rfl | decide) ?_
              exact cutQ _ ((Wk_le (.r (.r (.r (.r (.r (.r (.r (.k (.k (.k (.k (.k (.r (.r (.r (.r (.r (.r (.r (.r (.r (.r (.r (.r (.r (.k (.k (.k (.r (.r (.r (.r (.r (.r (.r (.r (.r (.r (.r (.r (.r (.r (.r (.r (.r (.r .nil)))))))))))))))))))))))))))))))))))))))))))))) (OLe.refl _)).trans (cmpS_ok (st' := ⟨[], [(0, .dead), (1, .v (.int .u8 x6425)), (2, .dead), (4, .dead), (5, .ptr 0 0), (6, .v (.lst false n6858 c6859)), (7, .v (.lst false n6938 c6939)), (8, .dead), (9, .dead), (10, .dead), (11, .dead), (12, .dead), (13, .dead), (14, .dead), (15, .dead), (16, .dead), (17, .dead), (18, .dead), (19, .dead), (20, .dead), (21, .dead), (23, .dead), (28, .v (.lst false n6858 c6859)), (29, .v (.int .i64 ((n6858 : Nat) : Int))), (30, .v (.int .i64 (IntKind.i64.wrap (x6936 + 1)))), (31, .dead), (58, .dead), (72, .dead), (86, .dead), (88, .dead), (89, .dead), (90, .dead), (93, .dead), (94, .dead), (95, .dead), (110, .dead), (129, .dead), (135, .dead), (140, .dead), (146, .dead), (147, .dead), (148, .dead), (149, .dead), (150, .dead), (170, .dead), (183, .dead)], [(0, .p [(.int .i64 x6440), p6438])], 1, []⟩) (by kernel_rfl))) ⟨n, Nat.lt_succ_self n, _, _, h7107, rfl⟩
      · refine W_sound tab_ok mixed 7 _ _ _ ?_
        simp -implicitDefEqProofs only [go_sem, qa, qb, qc, qd, qe, qf, qg, qh, qi, qj, qk, ↓reduceIte, h6426, h6436, h6439, h6857, h6937, h6940]
        repeat with_reducible refine And.intro (by first | kernel_rfl | decide) ?_
        obtain rfl := Option.some.inj h7107
        exact cutQ _ ((Wk_le (.r (.r (.r (.r (.r (.r (.r (.r (.r (.r (.r (.r (.r (.r (.r (.r (.r (.r (.r (.r (.r (.r (.k (.k (.k (.k (.r (.r (.r (.r (.r (.r (.r (.r (.r (.r (.r (.r (.r (.r (.r (.r (.r (.r (.r (.r .nil)))))))))))))))))))))))))))))))))))))))))))))) (OLe.refl _)).trans (cmpS_ok (st' := ⟨[], [(0, .dead), (1, .v (.int .u8 x6425)), (2, .dead), (4, .dead), (5, .ptr 0 0), (6, .v (.lst false n6858 c6859)), (7, .v (.lst false n6938 c6939)), (8, .dead), (9, .dead), (10, .dead), (11, .dead), (12, .dead), (13, .dead), (14, .dead), (15, .dead), (16, .dead), (17, .dead), (18, .dead), (19, .dead), (20, .dead), (21, .dead), (23, .dead), (28, .dead), (29, .dead), (30, .dead), (31, .dead), (58, .dead), (72, .dead), (86, .dead), (88, .dead), (89, .dead), (90, .dead), (93, .dead), (94, .dead), (95, .dead), (110, .dead), (129, .dead), (135, .dead), (140, .dead), (146, .dead), (147, .dead), (148, .dead), (149, .dead), (150, .dead), (170, .dead), (183, .dead)], [(0, .p [(.int .i64 x6440), p6438])], 1, []⟩) (by kernel_rfl))) ⟨_, rfl, rfl⟩
  · rintro _ ⟨p7015, rfl, rfl⟩
    (try dsimp only at h7108)
    have hh := getL_some h7108; clear h7108; obtain ⟨n7017, c7018, h7016, h7108⟩ := hh
    have hh := bnd'_some h7108; clear h7108; obtain ⟨p7019, h7020, h7108⟩ := hh
    refine W_sound tab_ok mixed 3 _ _ _ ?_
    simp -implicitDefEqProofs only [go_sem, qa, qb, qc, qd, qe, qf, qg, qh, qi, qj, qk, ↓reduceIte, h6426, h6436, h6439, h6857, h7016]
    repeat with_reducible refine And.intro (by first | kernel_rfl | decide) ?_
    refine Wp_callP (c32 N _ _ h7020) (by kernel_rfl) rfl rfl rfl rfl (by decide) ?_
    have hh := getT2_some h7108; clear h7108; obtain ⟨p7022, p7023, h7021, h7108⟩ := hh
    have hh := getL_some h7108; clear h7108; obtain ⟨n7025, c7026, h7024, h7108⟩ := hh
    have hh := getI_some h7108; clear h7108; obtain ⟨x7028, h7027, h7108⟩ := hh
    have hh := brn_some h7108; clear h7108; rcases hh with ⟨h7029, h7108⟩ | ⟨h7029, h7108⟩
    · refine W_sound tab_ok mixed 25 _ _ _ ?_
      simp -implicitDefEqProofs only [go_sem, qa, qb, qc, qd, qe, qf, qg, qh, qi, qj, qk, ↓reduceIte, h6426, h6436, h6439, h6857, h7016, h7021, h7024, h7027, h7029]
      repeat with_reducible refine And.intro (by first | kernel_rfl | decide) ?_
      obtain rfl := Option.some.inj h7108
      exact finC [(4, .v (.bool false))] [(4, .v (.bool false))] (by simp [leE, lk_cons]) (.cons _ _ _ _ _ (.v _ _ (.refl _)) .nil) (by rfl) (by simp [leE, lk_cons]) (by decide) (by decide) rfl (by simp only [go_sem, qa, qb, qc, qd, qe, qf, qg, qh, qi, qj, qk, ↓reduceIte, resQ_tmp, resQ_cell, resQ_nil, retD_one, retD_two, retD_three, retD_none]; try simp [R.val, retD_one, retD_two, retD_three, retD_none])
    · have hh := bnd'_some h7108; clear h7108; obtain ⟨p7030, h7031, h7108⟩ := hh
      refine W_sound tab_ok mixed 14 _ _ _ ?_
      simp -implicitDefEqProofs only [go_sem, qa, qb, qc, qd, qe, qf, qg, qh, qi, qj, qk, ↓reduceIte, h6426, h6436, h6439, h6857, h7016, h7021, h7024, h7027, h7029]
      repeat with_reducible refine And.intro (by first | kernel_rfl | decide) ?_
      refine Wp_callP (c21 N _ _ _ h7031) (by kernel_rfl) rfl rfl rfl rfl (by decide) ?_
      have hh := getB_some h7108; clear h7108; obtain ⟨b7033, h7032, h7108⟩ := hh
      have hh := brn_some h7108; clear h7108; rcases hh with ⟨h7034, h7108⟩ | ⟨h7034, h7108⟩
      · refine W_sound tab_ok mixed 12 _ _ _ ?_
        simp -implicitDefEqProofs only [go_sem, qa, qb, qc, qd, qe, qf, qg, qh, qi, qj, qk, ↓reduceIte, h6426, h6436, h6439, h6857, h7016, h7021, h7024, h7027, h7029, h7032, h7034]
        repeat with_reducible refine And.intro (by first | kernel_rfl | decide) ?_
        have hh := bnd'_some h7108; clear h7108; obtain ⟨o7109, h7110, h7111⟩ := hh
        refine Wp_cut (fun s => (.inr ()) = o7109 ∧ s = ⟨[], [(0, .dead), (1, .dead), (2, .dead), (4, .dead), (5, .dead), (6, .dead), (7, .dead), (8, .dead), (9, .dead), (10, .dead), (11, .dead), (12, .dead), (13, .dead), (14, .dead), (15, .dead), (16, .dead), (17, .dead), (18, .dead), (19, .dead), (20, .dead), (21, .dead), (23, .dead), (28, .dead), (29, .dead), (30, .dead), (31, .dead), (58, .dead), (72, .dead), (86, .dead), (88, .dead), (89, .dead), (90, .dead), (93, .dead), (94, .dead), (95, .dead), (110, .dead), (129, .dead), (135, .dead), (140, .dead), (146, .dead), (147, .dead), (148, .dead), (149, .dead), (150, .dead), (170, .dead), (183, .dead)], [], 0, []⟩) ?_ ?_
        · refine Wp_block ?_
          refine Wp_loopG (fun n s => ∃ x7035, m8_L1 N x6425 p6438 x6440 n6858 c6859 n x7035 = some o7109 ∧ s = ⟨[], [(0, .dead), (1, .v (.int .u8 x6425)), (2, .dead), (4, .dead), (5, .ptr 0 0), (6, .v (.lst false n6858 c6859)), (7, .dead), (8, .dead), (9, .dead), (10, .dead), (11, .dead), (12, .dead), (13, .dead), (14, .dead), (15, .dead), (16, .dead), (17, .dead), (18, .dead), (19, .dead), (20, .dead), (21, .dead), (23, .dead), (28, .dead), (29, .dead), (30, .dead), (31, .dead), (58, .dead), (72, .dead), (86, .dead), (88, .v (.int .i64 ((n6858 : Nat) : Int))), (89, .v (.int .i64 x7035)), (90, .dead), (93, .dead), (94, .dead), (95, .dead), (110, .dead), (129, .dead), (135, .dead), (140, .dead), (146, .dead), (147, .dead), (148, .dead), (149, .dead), (150, .dead), (170, .dead), (183, .dead)], [(0, .p [(.int .i64 x6440), p6438])], 1, []⟩) N _ ((Wk_le (.r (.r (.r (.r (.r (.r (.k (.r (.r (.r (.r (.r (.k (.k (.r (.r (.r (.r (.r (.r (.r (.r (.r (.r (.r (.r (.r (.r (.k (.r (.r (.r (.r (.r (.r (.r (.r (.r (.r (.r (.r (.r (.r (.r (.r (.r .nil)))))))))))))))))))))))))))))))))))))))))))))) (OLe.refl _)).trans (cmpS_ok (st' := ⟨[], [(0, .dead), (1, .v (.int .u8 x6425)), (2, .dead), (4, .dead), (5, .ptr 0 0), (6, .v (.lst false n6858 c6859)), (7, .dead), (8, .dead), (9, .dead), (10, .dead), (11, .dead), (12, .dead), (13, .dead), (14, .dead), (15, .dead), (16, .dead), (17, .dead), (18, .dead), (19, .dead), (20, .dead), (21, .dead), (23, .dead), (28, .dead), (29, .dead), (30, .dead), (31, .dead), (58, .dead), (72, .dead), (86, .dead), (88, .v (.int .i64 ((n6858 : Nat) : Int))), (89, .v (.int .i64 0)), (90, .dead), (93, .dead), (94, .dead), (95, .dead), (110, .dead), (129, .dead), (135, .dead), (140, .dead), (146, .dead), (147, .dead), (148, .dead), (149, .dead), (150, .dead), (170, .dead), (183, .dead)], [(0, .p [(.int .i64 x6440), p6438])], 1, []⟩) (by kernel_rfl))) ⟨_, h7110, rfl⟩ ?_
          clear h7110
          rintro n _ ⟨x7035, h7110, rfl⟩
          cases n with
          | zero => cases h7110
          | succ n =>
            rw [m8_L1] at h7110
            have hh := brn_some h7110; clear h7110; rcases hh with ⟨h7036, h7110⟩ | ⟨h7036, h7110⟩
            · refine W_sound tab_ok mixed 20 _ _ _ ?_
              simp -implicitDefEqProofs only [go_sem, qa, qb, qc, qd, qe, qf, qg, qh, qi, qj, qk, ↓reduceIte, h6426, h6436, h6439, h6857, h7016, h7021, h7024, h7027, h7029, h7032, h7034, h7036]
              repeat with_reducible refine And.intro (by first | kernel_rfl | decide) ?_
              have hh := bnd'_some h7110; clear h7110; obtain ⟨o7112, h7113, h7114⟩ := hh
              refine Wp_cut (fun s => (.inr ()) = o7112 ∧ s = ⟨[], [(0, .dead), (1, .v (.int .u8 x6425)), (2, .dead), (4, .dead), (5, .ptr 0 0), (6, .v (.lst false n6858 c6859)), (7, .dead), (8, .dead), (9, .dead), (10, .dead), (11, .dead), (12, .dead), (13, .dead), (14, .dead), (15, .dead), (16, .dead), (17, .dead), (18, .dead), (19, .dead), (20, .dead), (21, .dead), (23, .dead), (28, .dead), (29, .dead), (30, .dead), (31, .dead), (58, .dead), (72, .dead), (86, .dead), (88, .v (.int .i64 ((n6858 : Nat) : Int))), (89, .v (.int .i64 x7035)), (90, .dead), (93, .dead), (94, .dead), (95, .dead), (110, .dead), (129, .dead), (135, .dead), (140, .dead), (146, .dead), (147, .dead), (148, .dead), (149, .dead), (150, .dead), (170, .dead), (183, .dead)], [(0, .p [(.int .i64 x6440), p6438])], 1, []⟩) ?_ ?_
              · refine Wp_block ?_
                refine Wp_loopG (fun n s => ∃ x7037, m8_L2 N x6425 p6438 x6440 n6858 c6859 x7035 n x7037 = some o7112 ∧ s = ⟨[], [(0, .dead), (1, .v (.int .u8 x6425)), (2, .dead), (4, .dead), (5, .ptr 0 0), (6, .v (.lst false n6858 c6859)), (7, .dead), (8, .dead), (9, .dead), (10, .dead), (11, .dead), (12, .dead), (13, .dead), (14, .dead), (15, .v (.int .i64 x7035)), (16, .dead), (17, .dead), (18, .dead), (19, .dead), (20, .dead), (21, .dead), (23, .dead), (28, .dead), (29, .dead), (30, .dead), (31, .dead), (58, .dead), (72, .dead), (86, .dead), (88, .v (.int .i64 ((n6858 : Nat) : Int))), (89, .v (.int .i64 x7035)), (90, .dead), (93, .v (.int .i64 ((n6858 : Nat) : Int))), (94, .v (.int .i64 x7037)), (95, .dead), (110, .dead), (129, .dead), (135, .dead), (140, .dead), (146, .dead), (147, .dead), (148, .dead), (149, .dead), (150, .dead), (170, .dead), (183, .dead)], [(0, .p [(.int .i64 x6440), p6438])], 1, []⟩) N _ ((Wk_le (.r (.r (.r (.r (.r (.r (.r (.r (.r (.r (.r (.r (.r (.r (.r (.r (.r (.r (.r (.r (.r (.r (.r (.r (.r (.r (.r (.r (.r (.r (.r (.k (.r (.r (.r (.r (.r (.r (.r (.r (.r (.r (.r (.r (.r (.r .nil)))))))))))))))))))))))))))))))))))))))))))))) (OLe.refl _)).trans (cmpS_ok (st' := ⟨[], [(0, .dead), (1, .v (.int .u8 x6425)), (2, .dead), (4, .dead), (5, .ptr 0 0), (6, .v (.lst false n6858 c6859)), (7, .dead), (8, .dead), (9, .dead), (10, .dead), (11, .dead), (12, .dead), (13, .dead), (14, .dead), (15, .v (.int .i64 x7035)), (16, .dead), (17, .dead), (18, .dead), (19, .dead), (20, .dead), (21, .dead), (23, .dead), (28, .dead), (29, .dead), (30, .dead), (31, .dead), (58, .dead), (72, .dead), (86, .dead), (88, .v (.int .i64 ((n6858 : Nat) : Int))), (89, .v (.int .i64 x7035)), (90, .dead), (93, .v (.int .i64 ((n6858 : Nat) : Int))), (94, .v (.int .i64 0)), (95, .dead), (110, .dead), (129, .dead), (135, .dead), (140, .dead), (146, .dead), (147, .dead), (148, .dead), (149, .dead), (150, .dead), (170, .dead), (183, .dead)], [(0, .p [(.int .i64 x6440), p6438])], 1, []⟩) (by kernel_rfl))) ⟨_, h7113, rfl⟩ ?_
                clear h7113
                rintro n _ ⟨x7037, h7113, rfl⟩
                cases n with
                | zero => cases h7113
                | succ n =>
                  rw [m8_L2] at h7113
                  have hh := brn_some h7113; clear h7113; rcases hh with ⟨h7038, h7113⟩ | ⟨h7038, h7113⟩
                  · have hh := bnd'_some h7113; clear h7113; obtain ⟨p7039, h7040, h7113⟩ := hh
                    refine W_sound tab_ok mixed 18 _ _ _ ?_
                    simp -implicitDefEqProofs only [go_sem, qa, qb, qc, qd, qe, qf, qg, qh, qi, qj, qk, ↓reduceIte, h6426, h6436, h6439, h6857, h7016, h7021, h7024, h7027, h7029, h7032, h7034, h7036, h7038]
                    repeat with_reducible refine And.intro (by first | kernel_rfl | decide) ?_
                    refine Wp_callP (c45 N _ _ h7040) (by kernel_rfl) rfl rfl rfl rfl (by decide) ?_
                    have hh := getL_some h7113; clear h7113; obtain ⟨n7042, c7043, h7041, h7113⟩ := hh
                    have hh := bnd'_some h7113; clear h7113; obtain ⟨p7044, h7045, h7113⟩ := hh
                    refine W_sound tab_ok mixed 2 _ _ _ ?_
                    simp -implicitDefEqProofs only [go_sem, qa, qb, qc, qd, qe, qf, qg, qh, qi, qj, qk, ↓reduceIte, h6426, h6436, h6439, h6857, h7016, h7021, h7024, h7027, h7029, h7032, h7034, h7036, h7038, h7041]
                    repeat with_reducible refine And.intro (by first | kernel_rfl | decide) ?_
                    refine Wp_callP (c45 N _ _ h7045) (by kernel_rfl) rfl rfl rfl rfl (by decide) ?_
                    have hh := getL_some h7113; clear h7113; obtain ⟨n7047, c7048, h7046, h7113⟩ := hh
                    have hh := grd_some h7113; clear h7113; obtain ⟨g7049, h7113⟩ := hh
                    have hh := brn_some h7113; clear h7113; rcases hh with ⟨h7050, h7113⟩ | ⟨h7050, h7113⟩
                    · refine W_sound tab_ok mixed 21 _ _ _ ?_
                      simp -implicitDefEqProofs only [go_sem, qa, qb, qc, qd, qe, qf, qg, qh, qi, qj, qk, ↓reduceIte, h6426, h6436, h6439, h6857, h7016, h7021, h7024, h7027, h7029, h7032, h7034, h7036, h7038, h7041, h7046, g7049, h7050]
                      repeat with_reducible refine And.intro (by first | kernel_rfl | decide) ?_
                      exact cutQ _ ((Wk_le (.r (.r (.r (.r (.r (.r (.r (.r (.r (.r (.r (.r (.r (.r (.r (.k (.k (.k (.r (.r (.r (.r (.r (.r (.r (.r (.r (.r (.r (.r (.r (.r (.r (.r (.k (.k (.r (.r (.r (.r (.r (.r (.r (.r (.r (.r .nil)))))))))))))))))))))))))))))))))))))))))))))) (OLe.refl _)).trans (cmpS_ok (st' := ⟨[], [(0, .dead), (1, .v (.int .u8 x6425)), (2, .dead), (4, .dead), (5, .ptr 0 0), (6, .v (.lst false n6858 c6859)), (7, .dead), (8, .dead), (9, .dead), (10, .dead), (11, .dead), (12, .dead), (13, .dead), (14, .dead), (15, .v (.int .i64 x7035)), (16, .dead), (17, .dead), (18, .dead), (19, .dead), (20, .dead), (21, .dead), (23, .dead), (28, .dead), (29, .dead), (30, .dead), (31, .dead), (58, .dead), (72, .dead), (86, .dead), (88, .v (.int .i64 ((n6858 : Nat) : Int))), (89, .v (.int .i64 x7035)), (90, .dead), (93, .v (.int .i64 ((n6858 : Nat) : Int))), (94, .v (.int .i64 (IntKind.i64.wrap (x7037 + 1)))), (95, .dead), (110, .dead), (129, .dead), (135, .dead), (140, .dead), (146, .dead), (147, .dead), (148, .dead), (149, .dead), (150, .dead), (170, .dead), (183, .dead)], [(0, .p [(.int .i64 x6440), p6438])], 1, []⟩) (by kernel_rfl))) ⟨n, Nat.lt_succ_self n, _, h7113, rfl⟩
                    · have hh := bnd'_some h7113; clear h7113; obtain ⟨p7051, h7052, h7113⟩ := hh
                      refine W_sound tab_ok mixed 22 _ _ _ ?_
                      simp -implicitDefEqProofs only [go_sem, qa, qb, qc, qd, qe, qf, qg, qh, qi, qj, qk, ↓reduceIte, h6426, h6436, h6439, h6857, h7016, h7021, h7024, h7027, h7029, h7032, h7034, h7036, h7038, h7041, h7046, g7049, h7050]
                      repeat with_reducible refine And.intro (by first | kernel_rfl | decide) ?_
                      refine Wp_callP (c34 N _ _ _ _ h7052) (by kernel_rfl) rfl rfl rfl rfl (by decide) ?_
                      have hh := getT2_some h7113; clear h7113; obtain ⟨p7054, p7055, h7053, h7113⟩ := hh
                      have hh := getI_some h7113; clear h7113; obtain ⟨x7057, h7056, h7113⟩ := hh
                      have hh := getI_some h7113; clear h7113; obtain ⟨x7059, h7058, h7113⟩ := hh
                      have hh := grd_some h7113; clear h7113; obtain ⟨⟨g7060, g7061⟩, h7113⟩ := hh
                      have hh := grd_some h7113; clear h7113; obtain ⟨g7062, h7113⟩ := hh
                      have hh := getB_some h7113; clear h7113; obtain ⟨b7064, h7063, h7113⟩ := hh
                      have hh := brn_some h7113; clear h7113; rcases hh with ⟨h7065, h7113⟩ | ⟨h7065, h7113⟩
                      · have hh := grd_some h7113; clear h7113; obtain ⟨⟨g7066, g7067⟩, h7113⟩ := hh
                        have hh := grd_some h7113; clear h7113; obtain ⟨g7068, h7113⟩ := hh
                        have hh := getB_some h7113; clear h7113; obtain ⟨b7070, h7069, h7113⟩ := hh
                        have hh := brn_some h7113; clear h7113; rcases hh with ⟨h7071, h7113⟩ | ⟨h7071, h7113⟩
                        · have hh := brn_some h7113; clear h7113; rcases hh with ⟨h7072, h7113⟩ | ⟨h7072, h7113⟩
                          · have hh := brn_some h7113; clear h7113; rcases hh with ⟨h7073, h7113⟩ | ⟨h7073, h7113⟩
                            · refine W_sound tab_ok mixed 51 _ _ _ ?_
                              simp -implicitDefEqProofs only [go_sem, qa, qb, qc, qd, qe, qf, qg, qh, qi, qj, qk, ↓reduceIte, h6426, h6436, h6439, h6857, h7016, h7021, h7024, h7027, h7029, h7032, h7034, h7036, h7038, h7041, h7046, g7049, h7050, h7053, h7056, h7058, g7060, g7061, g7062, h7063, h7065, g7066, g7067, g7068, h7069, h7071, h7072, h7073]
                              repeat with_reducible refine And.intro (by first | kernel_rfl | decide) ?_
                              obtain rfl := Option.some.inj h7113
                              (try dsimp only at h7114)
                              obtain rfl := Option.some.inj h7114
                              (try dsimp only at h7111)
                              obtain rfl := Option.some.inj h7111
                              exact finC [(4, .v (.bool false))] [(4, .v (.bool false))] (by simp [leE, lk_cons]) (.cons _ _ _ _ _ (.v _ _ (.refl _)) .nil) (by rfl) (by simp [leE, lk_cons]) (by decide) (by decide) rfl (by simp only [go_sem, qa, qb, qc, qd, qe, qf, qg, qh, qi, qj, qk, ↓reduceIte, resQ_tmp, resQ_cell, resQ_nil, retD_one, retD_two, retD_three, retD_none]; try simp [R.val, retD_one, retD_two, retD_three, retD_none])
                            · have hh := brn_some h7113; clear h7113; rcases hh with ⟨h7074, h7113⟩ | ⟨h7074, h7113⟩
                              · refine W_sound tab_ok mixed 51 _ _ _ ?_
                                simp -implicitDefEqProofs only [go_sem, qa, qb, qc, qd, qe, qf, qg, qh, qi, qj, qk, ↓reduceIte, h6426, h6436, h6439, h6857, h7016, h7021, h7024, h7027, h7029, h7032, h7034, h7036, h7038, h7041, h7046, g7049, h7050, h7053, h7056, h7058, g7060, g7061, g7062, h7063, h7065, g7066, g7067, g7068, h7069, h7071, h7072, h7073, h7074]
                                repeat with_reducible refine And.intro (by first | kernel_rfl | decide) ?_
                                obtain rfl := Option.some.inj h7113
                                (try dsimp only at h7114)
                                obtain rfl := Option.some.inj h7114
                                (try dsimp only at h7111)
                                obtain rfl := Option.some.inj h7111
                                exact finC [(4, .v (.bool false))] [(4, .v (.bool false))] (by simp [leE, lk_cons]) (.cons _ _ _ _ _ (.v _ _ (.refl _)) .nil) (by rfl) (by simp [leE, lk_cons]) (by decide) (by decide) rfl (by simp only [go_sem, qa, qb, qc, qd, qe, qf, qg, qh, qi, qj, qk, ↓reduceIte, resQ_tmp, resQ_cell, resQ_nil, retD_one, retD_two, retD_three, retD_none]; try simp [R.val, retD_one, retD_two, retD_three, retD_none])
                              · refine W_sound tab_ok mixed 51 _ _ _ ?_
                                simp -implicitDefEqProofs only [go_sem, qa, qb, qc, qd, qe, qf, qg, qh, qi, qj, qk, ↓reduceIte, h6426, h6436, h6439, h6857, h7016, h7021, h7024, h7027, h7029, h7032, h7034, h7036, h7038, h7041, h7046, g7049, h7050, h7053, h7056, h7058, g7060, g7061, g7062, h7063, h7065, g7066, g7067, g7068, h7069, h7071, h7072, h7073, h7074]
                                repeat with_reducible refine And.intro (by first | kernel_rfl | decide) ?_
                                exact cutQ _ ((Wk_le (.r (.r (.r (.r (.r (.r (.r (.r (.r (.r (.r (.r (.r (.r (.r (.k (.k (.k (.k (.k (.r (.r (.r (.r (.r (.r (.r (.r (.r (.r (.r (.r (.r (.r (.k (.k (.k (.r (.k (.k (.r (.r (.r (.r (.r (.r .nil)))))))))))))))))))))))))))))))))))))))))))))) (OLe.refl _)).trans (cmpS_ok (st' := ⟨[], [(0, .dead), (1, .v (.int .u8 x6425)), (2, .dead), (4, .dead), (5, .ptr 0 0), (6, .v (.lst false n6858 c6859)), (7, .dead), (8, .dead), (9, .dead), (10, .dead), (11, .dead), (12, .dead), (13, .dead), (14, .dead), (15, .v (.int .i64 x7035)), (16, .dead), (17, .dead), (18, .dead), (19, .dead), (20, .dead), (21, .dead), (23, .dead), (28, .dead), (29, .dead), (30, .dead), (31, .dead), (58, .dead), (72, .dead), (86, .dead), (88, .v (.int .i64 ((n6858 : Nat) : Int))), (89, .v (.int .i64 x7035)), (90, .dead), (93, .v (.int .i64 ((n6858 : Nat) : Int))), (94, .v (.int .i64 (IntKind.i64.wrap (x7037 + 1)))), (95, .dead), (110, .dead), (129, .dead), (135, .dead), (140, .dead), (146, .dead), (147, .dead), (148, .dead), (149, .dead), (150, .dead), (170, .dead), (183, .dead)], [(0, .p [(.int .i64 x6440), p6438])], 1, []⟩) (by kernel_rfl))) ⟨n, Nat.lt_succ_self n, _, h7113, rfl⟩
                          · refine W_sound tab_ok mixed 46 _ _ _ ?_
                            simp -implicitDefEqProofs only [go_sem, qa, qb, qc, qd, qe, qf, qg, qh, qi, qj, qk, ↓reduceIte, h6426, h6436, h6439, h6857, h7016, h7021, h7024, h7027, h7029, h7032, h7034, h7036, h7038, h7041, h7046, g7049, h7050, h7053, h7056, h7058, g7060, g7061, g7062, h7063, h7065, g7066, g7067, g7068, h7069, h7071, h7072]
                            repeat with_reducible refine And.intro (by first | kernel_rfl | decide) ?_
                            have hh := bnd'_some h7113; clear h7113; obtain ⟨o7115, h7116, h7117⟩ := hh
                            refine Wp_cut (fun s => ∃ x7092, x7092 = o7115 ∧ s = ⟨[], [(0, .dead), (1, .v (.int .u8 x6425)), (2, .dead), (4, .dead), (5, .ptr 0 0), (6, .v (.lst false n6858 c6859)), (7, .dead), (8, .dead), (9, .dead), (10, .dead), (11, .dead), (12, .dead), (13, .dead), (14, .dead), (15, .v (.int .i64 x7035)), (16, .dead), (17, .dead), (18, .dead), (19, .v (.int .i64 x7057)), (20, .v (.int .i64 x7059)), (21, .v (.int .i64 x7092)), (23, .dead), (28, .dead), (29, .dead), (30, .dead), (31, .dead), (58, .dead), (72, .dead), (86, .dead), (88, .v (.int .i64 ((n6858 : Nat) : Int))), (89, .v (.int .i64 x7035)), (90, .dead), (93, .v (.int .i64 ((n6858 : Nat) : Int))), (94, .v (.int .i64 x7037)), (95, .dead), (110, .dead), (129, .dead), (135, .dead), (140, .dead), (146, .dead), (147, .dead), (148, .dead), (149, .dead), (150, .dead), (170, .dead), (183, .dead)], [(0, .p [(.int .i64 x6440), p6438])], 1, []⟩) ?_ ?_
                            · refine Wp_block ?_
                              refine Wp_loopG (fun n s => ∃ x7075, ∃ x7076, m8_L3 N x6425 p6438 x6440 n6858 c6859 x7035 x7037 n7047 c7048 x7057 x7059 n x7075 x7076 = some o7115 ∧ s = ⟨[], [(0, .dead), (1, .v (.int .u8 x6425)), (2, .dead), (4, .dead), (5, .ptr 0 0), (6, .v (.lst false n6858 c6859)), (7, .dead), (8, .dead), (9, .dead), (10, .dead), (11, .dead), (12, .dead), (13, .dead), (14, .dead), (15, .v (.int .i64 x7035)), (16, .dead), (17, .dead), (18, .dead), (19, .v (.int .i64 x7057)), (20, .v (.int .i64 x7059)), (21, .v (.int .i64 x7075)), (23, .dead), (28, .dead), (29, .dead), (30, .dead), (31, .dead), (58, .dead), (72, .dead), (86, .dead), (88, .v (.int .i64 ((n6858 : Nat) : Int))), (89, .v (.int .i64 x7035)), (90, .dead), (93, .v (.int .i64 ((n6858 : Nat) : Int))), (94, .v (.int .i64 x7037)), (95, .dead), (110, .dead), (129, .dead), (135, .dead), (140, .dead), (146, .dead), (147, .v (.lst false n7047 c7048)), (148, .v (.int .i64 ((n7047 : Nat) : Int))), (149, .v (.int .i64 x7076)), (150, .dead), (170, .dead), (183, .dead)], [(0, .p [(.int .i64 x6440), p6438])], 1, []⟩) N _ ((Wk_le (.r (.r (.r (.r (.r (.r (.r (.r (.r (.r (.r (.r (.r (.r (.r (.k (.k (.k (.r (.r (.r (.r (.r (.r (.r (.r (.r (.r (.r (.r (.r (.r (.r (.r (.k (.k (.k (.r (.k (.r (.r (.r (.r (.r (.r (.r .nil)))))))))))))))))))))))))))))))))))))))))))))) (OLe.refl _)).trans (cmpS_ok (st' := ⟨[], [(0, .dead), (1, .v (.int .u8 x6425)), (2, .dead), (4, .dead), (5, .ptr 0 0), (6, .v (.lst false n6858 c6859)), (7, .dead), (8, .dead), (9, .dead), (10, .dead), (11, .dead), (12, .dead), (13, .dead), (14, .dead), (15, .v (.int .i64 x7035)), (16, .dead), (17, .dead), (18, .dead), (19, .v (.int .i64 x7057)), (20, .v (.int .i64 x7059)), (21, .v (.int .i64 (-1))), (23, .dead), (28, .dead), (29, .dead), (30, .dead), (31, .dead), (58, .dead), (72, .dead), (86, .dead), (88, .v (.int .i64 ((n6858 : Nat) : Int))), (89, .v (.int .i64 x7035)), (90, .dead), (93, .v (.int .i64 ((n6858 : Nat) : Int))), (94, .v (.int .i64 x7037)), (95, .dead), (110, .dead), (129, .dead), (135, .dead), (140, .dead), (146, .dead), (147, .v (.lst false n7047 c7048)), (148, .v (.int .i64 ((n7047 : Nat) : Int))), (149, .v (.int .i64 0)), (150, .dead), (170, .dead), (183, .dead)], [(0, .p [(.int .i64 x6440), p6438])], 1, []⟩) (by kernel_rfl))) ⟨_, _, h7116, rfl⟩ ?_
                              clear h7116
                              rintro n _ ⟨x7075, x7076, h7116, rfl⟩
                              cases n with
                              | zero => cases h7116
                              | succ n =>
                                rw [m8_L3] at h7116
                                have hh := brn_some h7116; clear h7116; rcases hh with ⟨h7077, h7116⟩ | ⟨h7077, h7116⟩
                                · have hh := grd_some h7116; clear h7116; obtain ⟨⟨g7078, g7079⟩, h7116⟩ := hh
                                  have hh := grd_some h7116; clear h7116; obtain ⟨g7080, h7116⟩ := hh
                                  have hh := getI_some h7116; clear h7116; obtain ⟨x7082, h7081, h7116⟩ := hh
                                  have hh := brn_some h7116; clear h7116; rcases hh with ⟨h7083, h7116⟩ | ⟨h7083, h7116⟩
                                  · have hh := grd_some h7116; clear h7116; obtain ⟨g7084, h7116⟩ := hh
                                    have hh := brn_some h7116; clear h7116; rcases hh with ⟨h7085, h7116⟩ | ⟨h7085, h7116⟩
                                    · have hh := grd_some h7116; clear h7116; obtain ⟨⟨g7086, g7087⟩, h7116⟩ := hh
                                      have hh := grd_some h7116; clear h7116; obtain ⟨g7088, h7116⟩ := hh
                                      have hh := getB_some h7116; clear h7116; obtain ⟨b7090, h7089, h7116⟩ := hh
                                      have hh := brn_some h7116; clear h7116; rcases hh with ⟨h7091, h7116⟩ | ⟨h7091, h7116⟩
                                      · refine W_sound tab_ok mixed 46 _ _ _ ?_
                                        simp -implicitDefEqProofs only [go_sem, qa, qb, qc, qd, qe, qf, qg, qh, qi, qj, qk, ↓reduceIte, h6426, h6436, h6439, h6857, h7016, h7021, h7024, h7027, h7029, h7032, h7034, h7036, h7038, h7041, h7046, g7049, h7050, h7053, h7056, h7058, g7060, g7061, g7062, h7063, h7065, g7066, g7067, g7068, h7069, h7071, h7072, h7077, g7078, g7079, g7080, h7081, h7083, g7084, h7085, g7086, g7087, g7088, h7089, h7091]
                                        repeat with_reducible refine And.intro (by first | kernel_rfl | decide) ?_
                                        exact cutQ _ ((Wk_le (.r (.r (.r (.r (.r (.r (.r (.r (.r (.r (.r (.r (.r (.r (.r (.r (.r (.r (.r (.r (.r (.k (.r (.r (.r (.r (.r (.r (.r (.r (.r (.r (.r (.r (.r (.r (.r (.r (.r (.r (.r (.r (.r (.k (.k (.r .nil)))))))))))))))))))))))))))))))))))))))))))))) (OLe.refl _)).trans (cmpS_ok (st' := ⟨[], [(0, .dead), (1, .v (.int .u8 x6425)), (2, .dead), (4, .dead), (5, .ptr 0 0), (6, .v (.lst false n6858 c6859)), (7, .dead), (8, .dead), (9, .dead), (10, .dead), (11, .dead), (12, .dead), (13, .dead), (14, .dead), (15, .v (.int .i64 x7035)), (16, .dead), (17, .dead), (18, .dead), (19, .v (.int .i64 x7057)), (20, .v (.int .i64 x7059)), (21, .v (.int .i64 x7082)), (23, .dead), (28, .dead), (29, .dead), (30, .dead), (31, .dead), (58, .dead), (72, .dead), (86, .dead), (88, .v (.int .i64 ((n6858 : Nat) : Int))), (89, .v (.int .i64 x7035)), (90, .dead), (93, .v (.int .i64 ((n6858 : Nat) : Int))), (94, .v (.int .i64 x7037)), (95, .dead), (110, .dead), (129, .dead), (135, .dead), (140, .dead), (146, .dead), (147, .v (.lst false n7047 c7048)), (148, .v (.int .i64 ((n7047 : Nat) : Int))), (149, .v (.int .i64 (IntKind.i64.wrap (x7076 + 1)))), (150, .dead), (170, .dead), (183, .dead)], [(0, .p [(.int .i64 x6440), p6438])], 1, []⟩) (by kernel_rfl))) ⟨n, Nat.lt_succ_self n, _, _, h7116, rfl⟩
                                      · refine W_sound tab_ok mixed 43 _ _ _ ?_
                                        simp -implicitDefEqProofs only [go_sem, qa, qb, qc, qd, qe, qf, qg, qh, qi, qj, qk, ↓reduceIte, h6426, h6436, h6439, h6857, h7016, h7021, h7024, h7027, h7029, h7032, h7034, h7036, h7038, h7041, h7046, g7049, h7050, h7053, h7056, h7058, g7060, g7061, g7062, h7063, h7065, g7066, g7067, g7068, h7069, h7071, h7072, h7077, g7078, g7079, g7080, h7081, h7083, g7084, h7085, g7086, g7087, g7088, h7089, h7091]
                                        repeat with_reducible refine And.intro (by first | kernel_rfl | decide) ?_
                                        exact cutQ _ ((Wk_le (.r (.r (.r (.r (.r (.r (.r (.r (.r (.r (.r (.r (.r (.r (.r (.r (.r (.r (.r (.r (.r (.k (.r (.r (.r (.r (.r (.r (.r (.r (.r (.r (.r (.r (.r (.r (.r (.r (.r (.r (.r (.r (.r (.k (.k (.r .nil)))))))))))))))))))))))))))))))))))))))))))))) (OLe.refl _)).trans (cmpS_ok (st' := ⟨[], [(0, .dead), (1, .v (.int .u8 x6425)), (2, .dead), (4, .dead), (5, .ptr 0 0), (6, .v (.lst false n6858 c6859)), (7, .dead), (8, .dead), (9, .dead), (10, .dead), (11, .dead), (12, .dead), (13, .dead), (14, .dead), (15, .v (.int .i64 x7035)), (16, .dead), (17, .dead), (18, .dead), (19, .v (.int .i64 x7057)), (20, .v (.int .i64 x7059)), (21, .v (.int .i64 x7075)), (23, .dead), (28, .dead), (29, .dead), (30, .dead), (31, .dead), (58, .dead), (72, .dead), (86, .dead), (88, .v (.int .i64 ((n6858 : Nat) : Int))), (89, .v (.int .i64 x7035)), (90, .dead), (93, .v (.int .i64 ((n6858 : Nat) : Int))), (94, .v (.int .i64 x7037)), (95, .dead), (110, .dead), (129, .dead), (135, .dead), (140, .dead), (146, .dead), (147, .v (.lst false n7047 c7048)), (148, .v (.int .i64 ((n7047 : Nat) : Int))), (149, .v (.int .i64 (IntKind.i64.wrap (x7076 + 1)))), (150, .dead), (170, .dead), (183, .dead)], [(0, .p [(.int .i64 x6440), p6438])], 1, []⟩) (by kernel_rfl))) ⟨n, Nat.lt_succ_self n, _, _, h7116, rfl⟩
                                    · refine W_sound tab_ok mixed 43 _ _ _ ?_
                                      simp -implicitDefEqProofs only [go_sem, qa, qb, qc, qd, qe, qf, qg, qh, qi, qj, qk, ↓reduceIte, h6426, h6436, h6439, h6857, h7016, h7021, h7024, h7027, h7029, h7032, h7034, h7036, h7038, h7041, h7046, g7049, h7050, h7053, h7056, h7058, g7060, g7061, g7062, h7063, h7065, g7066, g7067, g7068, h7069, h7071, h7072, h7077, g7078, g7079, g7080, h7081, h7083, g7084, h7085]
                                      repeat with_reducible refine And.intro (by first | kernel_rfl | decide) ?_
                                      exact cutQ _ ((Wk_le (.r (.r (.r (.r (.r (.r (.r (.r (.r (.r (.r (.r (.r (.r (.r (.r (.r (.r (.r (.r (.r (.k (.r (.r (.r (.r (.r (.r (.r (.r (.r (.r (.r (.r (.r (.r (.r (.r (.r (.r (.r (.r (.r (.k (.k (.r .nil)))))))))))))))))))))))))))))))))))))))))))))) (OLe.refl _)).trans (cmpS_ok (st' := ⟨[], [(0, .dead), (1, .v (.int .u8 x6425)), (2, .dead), (4, .dead), (5, .ptr 0 0), (6, .v (.lst false n6858 c6859)), (7, .dead), (8, .dead), (9, .dead), (10, .dead), (11, .dead), (12, .dead), (13, .dead), (14, .dead), (15, .v (.int .i64 x7035)), (16, .dead), (17, .dead), (18, .dead), (19, .v (.int .i64 x7057)), (20, .v (.int .i64 x7059)), (21, .v (.int .i64 x7075)), (23, .dead), (28, .dead), (29, .dead), (30, .dead), (31, .dead), (58, .dead), (72, .dead), (86, .dead), (88, .v (.int .i64 ((n6858 : Nat) : Int))), (89, .v (.int .i64 x7035)), (90, .dead), (93, .v (.int .i64 ((n6858 : Nat) : Int))), (94, .v (.int .i64 x7037)), (95, .dead), (110, .dead), (129, .dead), (135, .dead), (140, .dead), (146, .dead), (147, .v (.lst false n7047 c7048)), (148, .v (.int .i64 ((n7047 : Nat) : Int))), (149, .v (.int .i64 (IntKind.i64.wrap (x7076 + 1)))), (150, .dead), (170, .dead), (183, .dead)], [(0, .p [(.int .i64 x6440), p6438])], 1, []⟩) (by kernel_rfl))) ⟨n, Nat.lt_succ_self n, _, _, h7116, rfl⟩
                                  · refine W_sound tab_ok mixed 43 _ _ _ ?_
                                    simp -implicitDefEqProofs only [go_sem, qa, qb, qc, qd, qe, qf, qg, qh, qi, qj, qk, ↓reduceIte, h6426, h6436, h6439, h6857, h7016, h7021, h7024, h7027, h7029, h7032, h7034, h7036, h7038, h7041, h7046, g7049, h7050, h7053, h7056, h7058, g7060, g7061, g7062, h7063, h7065, g7066, g7067, g7068, h7069, h7071, h7072, h7077, g7078, g7079, g7080, h7081, h7083]
                                    repeat with_reducible refine And.intro (by first | kernel_rfl | decide) ?_
                                    exact cutQ _ ((Wk_le (.r (.r (.r (.r (.r (.r (.r (.r (.r (.r (.r (.r (.r (.r (.r (.r (.r (.r (.r (.r (.r (.k (.r (.r (.r (.r (.r (.r (.r (.r (.r (.r (.r (.r (.r (.r (.r (.r (.r (.r (.r (.r (.r (.k (.k (.r .nil)))))))))))))))))))))))))))))))))))))))))))))) (OLe.refl _)).trans (cmpS_ok (st' := ⟨[], [(0, .dead), (1, .v (.int .u8 x6425)), (2, .dead), (4, .dead), (5, .ptr 0 0), (6, .v (.lst false n6858 c6859)), (7, .dead), (8, .dead), (9, .dead), (10, .dead), (11, .dead), (12, .dead), (13, .dead), (14, .dead), (15, .v (.int .i64 x7035)), (16, .dead), (17, .dead), (18, .dead), (19, .v (.int .i64 x7057)), (20, .v (.int .i64 x7059)), (21, .v (.int .i64 x7075)), (23, .dead), (28, .dead), (29, .dead), (30, .dead), (31, .dead), (58, .dead), (72, .dead), (86, .dead), (88, .v (.int .i64 ((n6858 : Nat) : Int))), (89, .v (.int .i64 x7035)), (90, .dead), (93, .v (.int .i64 ((n6858 : Nat) : Int))), (94, .v (.int .i64 x7037)), (95, .dead), (110, .dead), (129, .dead), (135, .dead), (140, .dead), (146, .dead), (147, .v (.lst false n7047 c7048)), (148, .v (.int .i64 ((n7047 : Nat) : Int))), (149, .v (.int .i64 (IntKind.i64.wrap (x7076 + 1)))), (150, .dead), (170, .dead), (183, .dead)], [(0, .p [(.int .i64 x6440), p6438])], 1, []⟩) (by kernel_rfl))) ⟨n, Nat.lt_succ_self n, _, _, h7116, rfl⟩
                                · refine W_sound tab_ok mixed 7 _ _ _ ?_
                                  simp -implicitDefEqProofs only [go_sem, qa, qb, qc, qd, qe, qf, qg, qh, qi, qj, qk, ↓reduceIte, h6426, h6436, h6439, h6857, h7016, h7021, h7024, h7027, h7029, h7032, h7034, h7036, h7038, h7041, h7046, g7049, h7050, h7053, h7056, h7058, g7060, g7061, g7062, h7063, h7065, g7066, g7067, g7068, h7069, h7071, h7072, h7077]
                                  repeat with_reducible refine And.intro (by first | kernel_rfl | decide) ?_
                                  obtain rfl := Option.some.inj h7116
                                  exact cutQ _ ((Wk_le (.r (.r (.r (.r (.r (.r (.r (.r (.r (.r (.r (.r (.r (.r (.r (.r (.r (.r (.r (.r (.r (.r (.r (.r (.r (.r (.r (.r (.r (.r (.r (.r (.r (.r (.r (.r (.r (.r (.r (.r (.k (.k (.k (.k (.r (.r .nil)))))))))))))))))))))))))))))))))))))))))))))) (OLe.refl _)).trans (cmpS_ok (st' := ⟨[], [(0, .dead), (1, .v (.int .u8 x6425)), (2, .dead), (4, .dead), (5, .ptr 0 0), (6, .v (.lst false n6858 c6859)), (7, .dead), (8, .dead), (9, .dead), (10, .dead), (11, .dead), (12, .dead), (13, .dead), (14, .dead), (15, .v (.int .i64 x7035)), (16, .dead), (17, .dead), (18, .dead), (19, .v (.int .i64 x7057)), (20, .v (.int .i64 x7059)), (21, .v (.int .i64 x7075)), (23, .dead), (28, .dead), (29, .dead), (30, .dead), (31, .dead), (58, .dead), (72, .dead), (86, .dead), (88, .v (.int .i64 ((n6858 : Nat) : Int))), (89, .v (.int .i64 x7035)), (90, .dead), (93, .v (.int .i64 ((n6858 : Nat) : Int))), (94, .v (.int .i64 x7037)), (95, .dead), (110, .dead), (129, .dead), (135, .dead), (140, .dead), (146, .dead), (147, .dead), (148, .dead), (149, .dead), (150, .dead), (170, .dead), (183, .dead)], [(0, .p [(.int .i64 x6440), p6438])], 1, []⟩) (by kernel_rfl))) ⟨_, rfl, rfl⟩
                            · rintro _ ⟨x7092, rfl, rfl⟩
                              have hh := brn_some h7117; clear h7117; rcases hh with ⟨h7093, h7117⟩ | ⟨h7093, h7117⟩
                              · refine W_sound tab_ok mixed 21 _ _ _ ?_
                                simp -implicitDefEqProofs only [go_sem, qa, qb, qc, qd, qe, qf, qg, qh, qi, qj, qk, ↓reduceIte, h6426, h6436, h6439, h6857, h7016, h7021, h7024, h7027, h7029, h7032, h7034, h7036, h7038, h7041, h7046, g7049, h7050, h7053, h7056, h7058, g7060, g7061, g7062, h7063, h7065, g7066, g7067, g7068, h7069, h7071, h7072, h7093]
                                repeat with_reducible refine And.intro (by first | kernel_rfl | decide) ?_
                                obtain rfl := Option.some.inj h7117
                                (try dsimp only at h7114)
                                obtain rfl := Option.some.inj h7114
                                (try dsimp only at h7111)
                                obtain rfl := Option.some.inj h7111
                                exact finC [(4, .v (.bool false))] [(4, .v (.bool false))] (by simp [leE, lk_cons]) (.cons _ _ _ _ _ (.v _ _ (.refl _)) .nil) (by rfl) (by simp [leE, lk_cons]) (by decide) (by decide) rfl (by simp only [go_sem, qa, qb, qc, qd, qe, qf, qg, qh, qi, qj, qk, ↓reduceIte, resQ_tmp, resQ_cell, resQ_nil, retD_one, retD_two, retD_three, retD_none]; try simp [R.val, retD_one, retD_two, retD_three, retD_none])
                              · have hh := brn_some h7117; clear h7117; rcases hh with ⟨h7094, h7117⟩ | ⟨h7094, h7117⟩
                                · refine W_sound tab_ok mixed 21 _ _ _ ?_
                                  simp -implicitDefEqProofs only [go_sem, qa, qb, qc, qd, qe, qf, qg, qh, qi, qj, qk, ↓reduceIte, h6426, h6436, h6439, h6857, h7016, h7021, h7024, h7027, h7029, h7032, h7034, h7036, h7038, h7041, h7046, g7049, h7050, h7053, h7056, h7058, g7060, g7061, g7062, h7063, h7065, g7066, g7067, g7068, h7069, h7071, h7072, h7093, h7094]
                                  repeat with_reducible refine And.intro (by first | kernel_rfl | decide) ?_
                                  obtain rfl := Option.some.inj h7117
                                  (try dsimp only at h7114)
                                  obtain rfl := Option.some.inj h7114
                                  (try dsimp only at h7111)
                                  obtain rfl := Option.some.inj h7111
                                  exact finC [(4, .v (.bool false))] [(4, .v (.bool false))] (by simp [leE, lk_cons]) (.cons _ _ _ _ _ (.v _ _ (.refl _)) .nil) (by rfl) (by simp [leE, lk_cons]) (by decide) (by decide) rfl (by simp only [go_sem, qa, qb, qc, qd, qe, qf, qg, qh, qi, qj, qk, ↓reduceIte, resQ_tmp, resQ_cell, resQ_nil, retD_one, retD_two, retD_three, retD_none]; try simp [R.val, retD_one, retD_two, retD_three, retD_none])
                                · have hh := brn_some h7117; clear h7117; rcases hh with ⟨h7095, h7117⟩ | ⟨h7095, h7117⟩
                                  · refine W_sound tab_ok mixed 21 _ _ _ ?_
                                    simp -implicitDefEqProofs only [go_sem, qa, qb, qc, qd, qe, qf, qg, qh, qi, qj, qk, ↓reduceIte, h6426, h6436, h6439, h6857, h7016, h7021, h7024, h7027, h7029, h7032, h7034, h7036, h7038, h7041, h7046, g7049, h7050, h7053, h7056, h7058, g7060, g7061, g7062, h7063, h7065, g7066, g7067, g7068, h7069, h7071, h7072, h7093, h7094, h7095]
                                    repeat with_reducible refine And.intro (by first | kernel_rfl | decide) ?_
                                    obtain rfl := Option.some.inj h7117
                                    (try dsimp only at h7114)
                                    obtain rfl := Option.some.inj h7114
                                    (try dsimp only at h7111)
                                    obtain rfl := Option.some.inj h7111
                                    exact finC [(4, .v (.bool false))] [(4, .v (.bool false))] (by simp [leE, lk_cons]) (.cons _ _ _ _ _ (.v _ _ (.refl _)) .nil) (by rfl) (by simp [leE, lk_cons]) (by decide) (by decide) rfl (by simp only [go_sem, qa, qb, qc, qd, qe, qf, qg, qh, qi, qj, qk, ↓reduceIte, resQ_tmp, resQ_cell, resQ_nil, retD_one, retD_two, retD_three, retD_none]; try simp [R.val, retD_one, retD_two, retD_three, retD_none])
                                  · refine W_sound tab_ok mixed 21 _ _ _ ?_
                                    simp -implicitDefEqProofs only [go_sem, qa, qb, qc, qd, qe, qf, qg, qh, qi, qj, qk, ↓reduceIte, h6426, h6436, h6439, h6857, h7016, h7021, h7024, h7027, h7029, h7032, h7034, h7036, h7038, h7041, h7046, g7049, h7050, h7053, h7056, h7058, g7060, g7061, g7062, h7063, h7065, g7066, g7067, g7068, h7069, h7071, h7072, h7093, h7094, h7095]
                                    repeat with_reducible refine And.intro (by first | kernel_rfl | decide) ?_
                                    exact cutQ _ ((Wk_le (.r (.r (.r (.r (.r (.r (.r (.r (.r (.r (.r (.r (.r (.r (.r (.r (.r (.r (.k (.k (.k (.r (.r (.r (.r (.r (.r (.r (.r (.r (.r (.r (.r (.r (.r (.r (.r (.r (.r (.r (.r (.r (.r (.r (.r (.k .nil)))))))))))))))))))))))))))))))))))))))))))))) (OLe.refl _)).trans (cmpS_ok (st' := ⟨[], [(0, .dead), (1, .v (.int .u8 x6425)), (2, .dead), (4, .dead), (5, .ptr 0 0), (6, .v (.lst false n6858 c6859)), (7, .dead), (8, .dead), (9, .dead), (10, .dead), (11, .dead), (12, .dead), (13, .dead), (14, .dead), (15, .v (.int .i64 x7035)), (16, .dead), (17, .dead), (18, .dead), (19, .dead), (20, .dead), (21, .dead), (23, .dead), (28, .dead), (29, .dead), (30, .dead), (31, .dead), (58, .dead), (72, .dead), (86, .dead), (88, .v (.int .i64 ((n6858 : Nat) : Int))), (89, .v (.int .i64 x7035)), (90, .dead), (93, .v (.int .i64 ((n6858 : Nat) : Int))), (94, .v (.int .i64 (IntKind.i64.wrap (x7037 + 1)))), (95, .dead), (110, .dead), (129, .dead), (135, .dead), (140, .dead), (146, .dead), (147, .dead), (148, .dead), (149, .dead), (150, .dead), (170, .dead), (183, .dead)], [(0, .p [(.int .i64 x6440), p6438])], 1, []⟩) (by kernel_rfl))) ⟨n, Nat.lt_succ_self n, _, h7117, rfl⟩
                        · have hh := brn_some h7113; clear h7113; rcases hh with ⟨h7096, h7113⟩ | ⟨h7096, h7113⟩
                          · refine W_sound tab_ok mixed 40 _ _ _ ?_
                            simp -implicitDefEqProofs only [go_sem, qa, qb, qc, qd, qe, qf, qg, qh, qi, qj, qk, ↓reduceIte, h6426, h6436, h6439, h6857, h7016, h7021, h7024, h7027, h7029, h7032, h7034, h7036, h7038, h7041, h7046, g7049, h7050, h7053, h7056, h7058, g7060, g7061, g7062, h7063, h7065, g7066, g7067, g7068, h7069, h7071, h7096]
                            repeat with_reducible refine And.intro (by first | kernel_rfl | decide) ?_
                            obtain rfl := Option.some.inj h7113
                            (try dsimp only at h7114)
                            obtain rfl := Option.some.inj h7114
                            (try dsimp only at h7111)
                            obtain rfl := Option.some.inj h7111
                            exact finC [(4, .v (.bool false))] [(4, .v (.bool false))] (by simp [leE, lk_cons]) (.cons _ _ _ _ _ (.v _ _ (.refl _)) .nil) (by rfl) (by simp [leE, lk_cons]) (by decide) (by decide) rfl (by simp only [go_sem, qa, qb, qc, qd, qe, qf, qg, qh, qi, qj, qk, ↓reduceIte, resQ_tmp, resQ_cell, resQ_nil, retD_one, retD_two, retD_three, retD_none]; try simp [R.val, retD_one, retD_two, retD_three, retD_none])
                          · have hh := brn_some h7113; clear h7113; rcases hh with ⟨h7097, h7113⟩ | ⟨h7097, h7113⟩
                            · refine W_sound tab_ok mixed 40 _ _ _ ?_
                              simp -implicitDefEqProofs only [go_sem, qa, qb, qc, qd, qe, qf, qg, qh, qi, qj, qk, ↓reduceIte, h6426, h6436, h6439, h6857, h7016, h7021, h7024, h7027, h7029, h7032, h7034, h7036, h7038, h7041, h7046, g7049, h7050, h7053, h7056, h7058, g7060, g7061, g7062, h7063, h7065, g7066, g7067, g7068, h7069, h7071, h7096, h7097]
                              repeat with_reducible refine And.intro (by first | kernel_rfl | decide) ?_
                              obtain rfl := Option.some.inj h7113
                              (try dsimp only at h7114)
                              obtain rfl := Option.some.inj h7114
                              (try dsimp only at h7111)
                              obtain rfl := Option.some.inj h7111
                              exact finC [(4, .v (.bool false))] [(4, .v (.bool false))] (by simp [leE, lk_cons]) (.cons _ _ _ _ _ (.v _ _ (.refl _)) .nil) (by rfl) (by simp [leE, lk_cons]) (by decide) (by decide) rfl (by simp only [go_sem, qa, qb, qc, qd, qe, qf, qg, qh, qi, qj, qk, ↓reduceIte, resQ_tmp, resQ_cell, resQ_nil, retD_one, retD_two, retD_three, retD_none]; try simp [R.val, retD_one, retD_two, retD_three, retD_none])
                            · refine W_sound tab_ok mixed 40 _ _ _ ?_
                              simp -implicitDefEqProofs only [go_sem, qa, qb, qc, qd, qe, qf, qg, qh, qi, qj, qk, ↓reduceIte, h6426, h6436, h6439, h6857, h7016, h7021, h7024, h7027, h7029, h7032, h7034, h7036, h7038, h7041, h7046, g7049, h7050, h7053, h7056, h7058, g7060, g7061, g7062, h7063, h7065, g7066, g7067, g7068, h7069, h7071, h7096, h7097]
                              repeat with_reducible refine And.intro (by first | kernel_rfl | decide) ?_
                              exact cutQ _ ((Wk_le (.r (.r (.r (.r (.r (.r (.r (.r (.r (.r (.r (.r (.r (.r (.r (.k (.k (.k (.k (.k (.r (.r (.r (.r (.r (.r (.r (.r (.r (.r (.r (.r (.r (.r (.k (.k (.k (.k (.r (.r (.r (.r (.r (.r (.r (.r .nil)))))))))))))))))))))))))))))))))))))))))))))) (OLe.refl _)).trans (cmpS_ok (st' := ⟨[], [(0, .dead), (1, .v (.int .u8 x6425)), (2, .dead), (4, .dead), (5, .ptr 0 0), (6, .v (.lst false n6858 c6859)), (7, .dead), (8, .dead), (9, .dead), (10, .dead), (11, .dead), (12, .dead), (13, .dead), (14, .dead), (15, .v (.int .i64 x7035)), (16, .dead), (17, .dead), (18, .dead), (19, .dead), (20, .dead), (21, .dead), (23, .dead), (28, .dead), (29, .dead), (30, .dead), (31, .dead), (58, .dead), (72, .dead), (86, .dead), (88, .v (.int .i64 ((n6858 : Nat) : Int))), (89, .v (.int .i64 x7035)), (90, .dead), (93, .v (.int .i64 ((n6858 : Nat) : Int))), (94, .v (.int .i64 (IntKind.i64.wrap (x7037 + 1)))), (95, .dead), (110, .dead), (129, .dead), (135, .dead), (140, .dead), (146, .dead), (147, .dead), (148, .dead), (149, .dead), (150, .dead), (170, .dead), (183, .dead)], [(0, .p [(.int .i64 x6440), p6438])], 1, []⟩) (by kernel_rfl))) ⟨n, Nat.lt_succ_self n, _, h7113, rfl⟩
                      · have hh := brn_some h7113; clear h7113; rcases hh with ⟨h7098, h7113⟩ | ⟨h7098, h7113⟩
                        · refine W_sound tab_ok mixed 40 _ _ _ ?_
                          simp -implicitDefEqProofs only [go_sem, qa, qb, qc, qd, qe, qf, qg, qh, qi, qj, qk, ↓reduceIte, h6426, h6436, h6439, h6857, h7016, h7021, h7024, h7027, h7029, h7032, h7034, h7036, h7038, h7041, h7046, g7049, h7050, h7053, h7056, h7058, g7060, g7061, g7062, h7063, h7065, h7098]
                          repeat with_reducible refine And.intro (by first | kernel_rfl | decide) ?_
                          obtain rfl := Option.some.inj h7113
                          (try dsimp only at h7114)
                          obtain rfl := Option.some.inj h7114
                          (try dsimp only at h7111)
                          obtain rfl := Option.some.inj h7111
                          exact finC [(4, .v (.bool false))] [(4, .v (.bool false))] (by simp [leE, lk_cons]) (.cons _ _ _ _ _ (.v _ _ (.refl _)) .nil) (by rfl) (by simp [leE, lk_cons]) (by decide) (by decide) rfl (by simp only [go_sem, qa, qb, qc, qd, qe, qf, qg, qh, qi, qj, qk, ↓reduceIte, resQ_tmp, resQ_cell, resQ_nil, retD_one, retD_two, retD_three, retD_none]; try simp [R.val, retD_one, retD_two, retD_three, retD_none])
                        · have hh := brn_some h7113; clear h7113; rcases hh with ⟨h7099, h7113⟩ | ⟨h7099, h7113⟩
                          · refine W_sound tab_ok mixed 40 _ _ _ ?_
                            simp -implicitDefEqProofs only [go_sem, qa, qb, qc, qd, qe, qf, qg, qh, qi, qj, qk, ↓reduceIte, h6426, h6436, h6439, h6857, h7016, h7021, h7024, h7027, h7029, h7032, h7034, h7036, h7038, h7041, h7046, g7049, h7050, h7053, h7056, h7058, g7060, g7061, g7062, h7063, h7065, h7098, h7099]
                            repeat with_reducible refine And.intro (by first | kernel_rfl | decide) ?_
                            obtain rfl := Option.some.inj h7113
                            (try dsimp only at h7114)
                            obtain rfl := Option.some.inj h7114
                            (try dsimp only at h7111)
                            obtain rfl := Option.some.inj h7111
                            exact finC [(4, .v (.bool false))] [(4, .v (.bool false))] (by simp [leE, lk_cons]) (.cons _ _ _ _ _ (.v _ _ (.refl _)) .nil) (by rfl) (by simp [leE, lk_cons]) (by decide) (by decide) rfl (by simp only [go_sem, qa, qb, qc, qd, qe, qf, qg, qh, qi, qj, qk, ↓reduceIte, resQ_tmp, resQ_cell, resQ_nil, retD_one, retD_two, retD_three, retD_none]; try simp [R.val, retD_one, retD_two, retD_three, retD_none])
                          · refine W_sound tab_ok mixed 40 _ _ _ ?_
                            simp -implicitDefEqProofs only [go_sem, qa, qb, qc, qd, qe, qf, qg, qh, qi, qj, qk, ↓reduceIte, h6426, h6436, h6439, h6857, h7016, h7021, h7024, h7027, h7029, h7032, h7034, h7036, h7038, h7041, h7046, g7049, h7050, h7053, h7056, h7058, g7060, g7061, g7062, h7063, h7065, h7098, h7099]
                            repeat with_reducible refine And.intro (by first | kernel_rfl | decide) ?_
                            exact cutQ _ ((Wk_le (.r (.r (.r (.r (.r (.r (.r (.r (.r (.r (.r (.r (.r (.r (.r (.k (.k (.k (.k (.k (.r (.r (.r (.r (.r (.r (.r (.r (.r (.r (.r (.r (.r (.r (.k (.k (.k (.k (.r (.r (.r (.r (.r (.r (.r (.r .nil)))))))))))))))))))))))))))))))))))))))))))))) (OLe.refl _)).trans (cmpS_ok (st' := ⟨[], [(0, .dead), (1, .v (.int .u8 x6425)), (2, .dead), (4, .dead), (5, .ptr 0 0), (6, .v (.lst false n6858 c6859)), (7, .dead), (8, .dead), (9, .dead), (10, .dead), (11, .dead), (12, .dead), (13, .dead), (14, .dead), (15, .v (.int .i64 x7035)), (16, .dead), (17, .dead), (18, .dead), (19, .dead), (20, .dead), (21, .dead), (23, .dead), (28, .dead), (29, .dead), (30, .dead), (31, .dead), (58, .dead), (72, .dead), (86, .dead), (88, .v (.int .i64 ((n6858 : Nat) : Int))), (89, .v (.int .i64 x7035)), (90, .dead), (93, .v (.int .i64 ((n6858 : Nat) : Int))), (94, .v (.int .i64 (IntKind.i64.wrap (x7037 + 1)))), (95, .dead), (110, .dead), (129, .dead), (135, .dead), (140, .dead), (146, .dead), (147, .dead), (148, .dead), (149, .dead), (150, .dead), (170, .dead), (183, .dead)], [(0, .p [(.int .i64 x6440), p6438])], 1, []⟩) (by kernel_rfl))) ⟨n, Nat.lt_succ_self n, _, h7113, rfl⟩
                  · refine W_sound tab_ok mixed 7 _ _ _ ?_
                    simp -implicitDefEqProofs only [go_sem, qa, qb, qc, qd, qe, qf, qg, qh, qi, qj, qk, ↓reduceIte, h6426, h6436, h6439, h6857, h7016, h7021, h7024, h7027, h7029, h7032, h7034, h7036, h7038]
                    repeat with_reducible refine And.intro (by first | kernel_rfl | decide) ?_
                    obtain rfl := Option.some.inj h7113
                    exact cutQ _ ((Wk_le (.r (.r (.r (.r (.r (.r (.r (.r (.r (.r (.r (.r (.r (.r (.k (.r (.r (.r (.r (.r (.r (.r (.r (.r (.r (.r (.r (.r (.r (.r (.r (.r (.k (.k (.k (.r (.r (.r (.r (.r (.r (.r (.r (.r (.r (.r .nil)))))))))))))))))))))))))))))))))))))))))))))) (OLe.refl _)).trans (cmpS_ok (st' := ⟨[], [(0, .dead), (1, .v (.int .u8 x6425)), (2, .dead), (4, .dead), (5, .ptr 0 0), (6, .v (.lst false n6858 c6859)), (7, .dead), (8, .dead), (9, .dead), (10, .dead), (11, .dead), (12, .dead), (13, .dead), (14, .dead), (15, .dead), (16, .dead), (17, .dead), (18, .dead), (19, .dead), (20, .dead), (21, .dead), (23, .dead), (28, .dead), (29, .dead), (30, .dead), (31, .dead), (58, .dead), (72, .dead), (86, .dead), (88, .v (.int .i64 ((n6858 : Nat) : Int))), (89, .v (.int .i64 x7035)), (90, .dead), (93, .dead), (94, .dead), (95, .dead), (110, .dead), (129, .dead), (135, .dead), (140, .dead), (146, .dead), (147, .dead), (148, .dead), (149, .dead), (150, .dead), (170, .dead), (183, .dead)], [(0, .p [(.int .i64 x6440), p6438])], 1, []⟩) (by kernel_rfl))) ⟨rfl, rfl⟩
              · rintro _ ⟨rfl, rfl⟩
                (try dsimp only at h7114)
                refine W_sound tab_ok mixed 5 _ _ _ ?_
                simp -implicitDefEqProofs only [go_sem, qa, qb, qc, qd, qe, qf, qg, qh, qi, qj, qk, ↓reduceIte, h6426, h6436, h6439, h6857, h7016, h7021, h7024, h7027, h7029, h7032, h7034, h7036]
                repeat with_reducible refine And.intro (by first | kernel_rfl | decide) ?_
                exact cutQ _ ((Wk_le (.r (.r (.r (.r (.r (.r (.r (.r (.r (.r (.r (.r (.r (.r (.r (.r (.r (.r (.r (.r (.r (.r (.r (.r (.r (.r (.r (.r (.r (.r (.r (.r (.r (.r (.r (.r (.r (.r (.r (.r (.r (.r (.r (.r (.r (.r .nil)))))))))))))))))))))))))))))))))))))))))))))) (OLe.refl _)).trans (cmpS_ok (st' := ⟨[], [(0, .dead), (1, .v (.int .u8 x6425)), (2, .dead), (4, .dead), (5, .ptr 0 0), (6, .v (.lst false n6858 c6859)), (7, .dead), (8, .dead), (9, .dead), (10, .dead), (11, .dead), (12, .dead), (13, .dead), (14, .dead), (15, .dead), (16, .dead), (17, .dead), (18, .dead), (19, .dead), (20, .dead), (21, .dead), (23, .dead), (28, .dead), (29, .dead), (30, .dead), (31, .dead), (58, .dead), (72, .dead), (86, .dead), (88, .v (.int .i64 ((n6858 : Nat) : Int))), (89, .v (.int .i64 (IntKind.i64.wrap (x7035 + 1)))), (90, .dead), (93, .dead), (94, .dead), (95, .dead), (110, .dead), (129, .dead), (135, .dead), (140, .dead), (146, .dead), (147, .dead), (148, .dead), (149, .dead), (150, .dead), (170, .dead), (183, .dead)], [(0, .p [(.int .i64 x6440), p6438])], 1, []⟩) (by kernel_rfl))) ⟨n, Nat.lt_succ_self n, _, h7114, rfl⟩
            · refine W_sound tab_ok mixed 7 _ _ _ ?_
              simp -implicitDefEqProofs only [go_sem, qa, qb, qc, qd, qe, qf, qg, qh, qi, qj, qk, ↓reduceIte, h6426, h6436, h6439, h6857, h7016, h7021, h7024, h7027, h7029, h7032, h7034, h7036]
              repeat with_reducible refine And.intro (by first | kernel_rfl | decide) ?_
              obtain rfl := Option.some.inj h7110
              exact cutQ _ ((Wk_le (.r (.k (.r (.r (.k (.k (.r (.r (.r (.r (.r (.r (.r (.r (.r (.r (.r (.r (.r (.r (.r (.r (.r (.r (.r (.r (.r (.r (.r (.k (.k (.k (.r (.r (.r (.r (.r (.r (.r (.r (.r (.r (.r (.r (.r (.r .nil)))))))))))))))))))))))))))))))))))))))))))))) (OLe.refl _)).trans (cmpS_ok (st' := ⟨[], [(0, .dead), (1, .dead), (2, .dead), (4, .dead), (5, .dead), (6, .dead), (7, .dead), (8, .dead), (9, .dead), (10, .dead), (11, .dead), (12, .dead), (13, .dead), (14, .dead), (15, .dead), (16, .dead), (17, .dead), (18, .dead), (19, .dead), (20, .dead), (21, .dead), (23, .dead), (28, .dead), (29, .dead), (30, .dead), (31, .dead), (58, .dead), (72, .dead), (86, .dead), (88, .dead), (89, .dead), (90, .dead), (93, .dead), (94, .dead), (95, .dead), (110, .dead), (129, .dead), (135, .dead), (140, .dead), (146, .dead), (147, .dead), (148, .dead), (149, .dead), (150, .dead), (170, .dead), (183, .dead)], [], 0, []⟩) (by kernel_rfl))) ⟨rfl, rfl⟩
        · rintro _ ⟨rfl, rfl⟩
          (try dsimp only at h7111)
          have hh := bnd'_some h7111; clear h7111; obtain ⟨p7102, h7103, h7111⟩ := hh
          refine W_sound tab_ok mixed 2 _ _ _ ?_
          simp -implicitDefEqProofs only [go_sem, qa, qb, qc, qd, qe, qf, qg, qh, qi, qj, qk, ↓reduceIte, h6426, h6436, h6439, h6857, h7016, h7021, h7024, h7027, h7029, h7032, h7034]
          repeat with_reducible refine And.intro (by first | kernel_rfl | decide) ?_
          refine Wp_callP (c16 N  _ h7103) (by kernel_rfl) rfl rfl rfl rfl (by decide) ?_
          have hh := getB_some h7111; clear h7111; obtain ⟨b7105, h7104, h7111⟩ := hh
          refine W_sound tab_ok mixed 4 _ _ _ ?_
          simp -implicitDefEqProofs only [go_sem, qa, qb, qc, qd, qe, qf, qg, qh, qi, qj, qk, ↓reduceIte, h6426, h6436, h6439, h6857, h7016, h7021, h7024, h7027, h7029, h7032, h7034, h7104]
          repeat with_reducible refine And.intro (by first | kernel_rfl | decide) ?_
          obtain rfl := Option.some.inj h7111
          exact finC [(4, .v (.bool b7105))] [(4, .v (.bool b7105))] (by simp [leE, lk_cons]) (.cons _ _ _ _ _ (.v _ _ (.refl _)) .nil) (by rfl) (by simp [leE, lk_cons]) (by decide) (by decide) rfl (by simp only [go_sem, qa, qb, qc, qd, qe, qf, qg, qh, qi, qj, qk, ↓reduceIte, resQ_tmp, resQ_cell, resQ_nil, retD_one, retD_two, retD_three, retD_none]; try simp [R.val, retD_one, retD_two, retD_three, retD_none])
      · refine W_sound tab_ok mixed 10 _ _ _ ?_
        simp -implicitDefEqProofs only [go_sem, qa, qb, qc, qd, qe, qf, qg, qh, qi, qj, qk, ↓reduceIte, h6426, h6436, h6439, h6857, h7016, h7021, h7024, h7027, h7029, h7032, h7034]
        repeat with_reducible refine And.intro (by first | kernel_rfl | decide) ?_
        obtain rfl := Option.some.inj h7108
        exact finC [(4, .v (.bool false))] [(4, .v (.bool false))] (by simp [leE, lk_cons]) (.cons _ _ _ _ _ (.v _ _ (.refl _)) .nil) (by rfl) (by simp [leE, lk_cons]) (by decide) (by decide) rfl (by simp only [go_sem, qa, qb, qc, qd, qe, qf, qg, qh, qi, qj, qk, ↓reduceIte, resQ_tmp, resQ_cell, resQ_nil, retD_one, retD_two, retD_three, retD_none]; try simp [R.val, retD_one, retD_two, retD_three, retD_none])
end Go.Proofs.YtnponojgpkbagaaDoor
