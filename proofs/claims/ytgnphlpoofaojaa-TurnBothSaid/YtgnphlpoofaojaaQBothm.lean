/-
  Contracts that are needed: the chain of the ones taken by rates, and what the reference says, are the same.
  Contracts that are needed, and turns: what the functions compute.
  TurnNeeds: what the functions compute answers as the law says.
  TurnNeeds: the law.
  Fair parts, and two books together: the mathematics.
-/
import Derived.Test.YtgnphlpoofaojaaQLawcov
import Derived.Test.YtgnphlpoofaojaaB
import Derived.Test.YtgnphlpoofaojaaV33
namespace Go.Proofs.Ytgnphlpoofaojaa
open Go.V
set_option maxRecDepth 100000
set_option maxHeartbeats 4000000
set_option linter.unusedSimpArgs false
set_option linter.unusedVariables false
attribute [local go_sem] tl1 tl2 tl3 tl4 tl5 tl9 tl17 tl21 tl22 tl23 tl24 tl25 tl26 tl27 tl28 tl29 tl31 tl33 tl34 tl36 tl37 tl38 tl39 tl40 tl41 tl42 tl43 tl44 tl46 tl47 tl49 tl50 tl52 tl53 tl54 tl55 tl56 tl57 tl58 tl60 tl62 tl63 tl64 tl65 tl66 tl67 tl68 tl69 tl70 tl71 tl72 tl74 tl75 tl76 tl77 tl78 tl79 tl80 tl81 tl82 tl83 tl84 tl85 tl86 tl87 tl88 tl89 tl90 tl91 tl92 tl93 tl94 tl95 tl96 tl97 tl98 tl99 tl100 tl102 tl103 tl104 tl105 tl106 tl107 tl108 tl109 tl110 tl111 tl112 tl113 tl114 tl115 tl116 tl117 tl118 tl119 tl120 tl121 tl122 tl123 tl124 tl125 tl126 tl127 tl128 tl129 tl130 tl131 tl132 tl133 tl134 tl140 tl141 tl145

def m81 (N : Nat) (p1783 : PV) : Option (PV) :=
  getA2 p1783 fun p1785 p1786 =>
  getI .i64 p1786 fun x1788 =>
  some (.int .i64 x1788)
theorem c81 (N : Nat) (p1783 : PV) (r : PV)  (h : m81 N p1783 = some r) : FnP Try.prog 81 [p1783] r := by
  unfold m81 at h
  refine Fn_of (sz := 5) tab_ok [0, 1, 2] [.tmp 2] Try.func81 rfl rfl rfl (by simp) ?_
  simp only [initSt, initEnv, List.map_cons, List.map_nil, List.getD_cons_zero, List.getD_cons_succ, List.getD_nil]
  have hh := getA2_some h; clear h; obtain ⟨p1785, p1786, h1784, h⟩ := hh
  have hh := getI_some h; clear h; obtain ⟨x1788, h1787, h⟩ := hh
  refine W_sound tab_ok mixed 13 _ _ _ ?_
  simp -implicitDefEqProofs only [go_sem, ne_eq, not_false_eq_true, Nat.reduceBEq, Nat.reduceAdd, Nat.reduceSub, Nat.reduceMul, Nat.reduceLT, Nat.reduceLeDiff, Int.reduceLE, Int.reduceLT, Int.reduceToNat, Int.reduceBEq, Int.reduceBNe, Int.le_refl, Nat.le_refl, decide_true, decide_false, Int.cast_ofNat_Int, ↓reduceIte, h1784, h1787]
  repeat with_reducible refine And.intro (by first | kernel_rfl | decide) ?_
  obtain rfl := Option.some.inj h
  exact finC [(2, .v (.int .i64 x1788))] [(2, .v (.int .i64 x1788))] (by simp [leE, lk_cons]) (.cons _ _ _ _ _ (.v _ _ (.refl _)) .nil) (by rfl) (by simp [leE, lk_cons]) (by decide) (by decide) rfl (by simp only [go_sem, ne_eq, not_false_eq_true, Nat.reduceBEq, Nat.reduceAdd, Nat.reduceSub, Nat.reduceMul, Nat.reduceLT, Nat.reduceLeDiff, Int.reduceLE, Int.reduceLT, Int.reduceToNat, Int.reduceBEq, Int.reduceBNe, Int.le_refl, Nat.le_refl, decide_true, decide_false, Int.cast_ofNat_Int, ↓reduceIte, resQ_tmp, resQ_cell, resQ_nil, retD_one, retD_two, retD_three, retD_none]; try simp [R.val, retD_one, retD_two, retD_three, retD_none])

def m82 (N : Nat) (p1798 : PV) : Option (PV) :=
  getA2 p1798 fun p1800 p1801 =>
  getI .i64 p1800 fun x1803 =>
  some (.int .i64 (IntKind.i64.wrap (0 - x1803)))
theorem c82 (N : Nat) (p1798 : PV) (r : PV)  (h : m82 N p1798 = some r) : FnP Try.prog 82 [p1798] r := by
  unfold m82 at h
  refine Fn_of (sz := 6) tab_ok [0, 1, 2] [.tmp 2] Try.func82 rfl rfl rfl (by simp) ?_
  simp only [initSt, initEnv, List.map_cons, List.map_nil, List.getD_cons_zero, List.getD_cons_succ, List.getD_nil]
  have hh := getA2_some h; clear h; obtain ⟨p1800, p1801, h1799, h⟩ := hh
  have hh := getI_some h; clear h; obtain ⟨x1803, h1802, h⟩ := hh
  refine W_sound tab_ok mixed 14 _ _ _ ?_
  simp -implicitDefEqProofs only [go_sem, ne_eq, not_false_eq_true, Nat.reduceBEq, Nat.reduceAdd, Nat.reduceSub, Nat.reduceMul, Nat.reduceLT, Nat.reduceLeDiff, Int.reduceLE, Int.reduceLT, Int.reduceToNat, Int.reduceBEq, Int.reduceBNe, Int.le_refl, Nat.le_refl, decide_true, decide_false, Int.cast_ofNat_Int, ↓reduceIte, h1799, h1802]
  repeat with_reducible refine And.intro (by first | kernel_rfl | decide) ?_
  obtain rfl := Option.some.inj h
  exact finC [(2, .v (.int .i64 (IntKind.i64.wrap (0 - x1803))))] [(2, .v (.int .i64 (IntKind.i64.wrap (0 - x1803))))] (by simp [leE, lk_cons]) (.cons _ _ _ _ _ (.v _ _ (.refl _)) .nil) (by rfl) (by simp [leE, lk_cons]) (by decide) (by decide) rfl (by simp only [go_sem, ne_eq, not_false_eq_true, Nat.reduceBEq, Nat.reduceAdd, Nat.reduceSub, Nat.reduceMul, Nat.reduceLT, Nat.reduceLeDiff, Int.reduceLE, Int.reduceLT, Int.reduceToNat, Int.reduceBEq, Int.reduceBNe, Int.le_refl, Nat.le_refl, decide_true, decide_false, Int.cast_ofNat_Int, ↓reduceIte, resQ_tmp, resQ_cell, resQ_nil, retD_one, retD_two, retD_three, retD_none]; try simp [R.val, retD_one, retD_two, retD_three, retD_none])

def m85 (N : Nat) (p1775 : PV) (p1776 : PV) : Option (PV) :=
  getA2 p1775 fun p1778 p1779 =>
  getA2 p1776 fun p1781 p1782 =>
  bnd' (m81 N (.agg [p1778, p1779])) fun p1789 =>
  getI .i64 p1789 fun x1792 =>
  bnd' (m81 N (.agg [p1781, p1782])) fun p1793 =>
  getI .i64 p1793 fun x1796 =>
  brn ((IntKind.i64.wrap (x1792 - x1796)) != 0) (
    some (.int .i64 (IntKind.i64.wrap (x1792 - x1796)))) (
    bnd' (m82 N (.agg [p1778, p1779])) fun p1804 =>
    getI .i64 p1804 fun x1807 =>
    bnd' (m82 N (.agg [p1781, p1782])) fun p1808 =>
    getI .i64 p1808 fun x1811 =>
    some (.int .i64 (IntKind.i64.wrap (x1807 - x1811))))
theorem c85 (N : Nat) (p1775 : PV) (p1776 : PV) (r : PV)  (h : m85 N p1775 p1776 = some r) : FnP Try.prog 85 [(.agg [(.fn 81 []), (.fn 82 [])]), p1775, p1776] r := by
  unfold m85 at h
  refine Fn_of (sz := 29) tab_ok [0, 1, 2, 3, 4, 5, 6, 7, 18] [.tmp 6] Try.func85 rfl rfl rfl (by simp) ?_
  simp only [initSt, initEnv, List.map_cons, List.map_nil, List.getD_cons_zero, List.getD_cons_succ, List.getD_nil]
  have hh := getA2_some h; clear h; obtain ⟨p1778, p1779, h1777, h⟩ := hh
  have hh := getA2_some h; clear h; obtain ⟨p1781, p1782, h1780, h⟩ := hh
  have hh := bnd'_some h; clear h; obtain ⟨p1789, h1790, h⟩ := hh
  refine W_sound tab_ok mixed 13 _ _ _ ?_
  simp -implicitDefEqProofs only [go_sem, ne_eq, not_false_eq_true, Nat.reduceBEq, Nat.reduceAdd, Nat.reduceSub, Nat.reduceMul, Nat.reduceLT, Nat.reduceLeDiff, Int.reduceLE, Int.reduceLT, Int.reduceToNat, Int.reduceBEq, Int.reduceBNe, Int.le_refl, Nat.le_refl, decide_true, decide_false, Int.cast_ofNat_Int, ↓reduceIte, h1777, h1780]
  repeat with_reducible refine And.intro (by first | kernel_rfl | decide) ?_
  refine Wp_callP (c81 N _ _ h1790) (by kernel_rfl) rfl rfl rfl rfl (by decide) ?_
  have hh := getI_some h; clear h; obtain ⟨x1792, h1791, h⟩ := hh
  have hh := bnd'_some h; clear h; obtain ⟨p1793, h1794, h⟩ := hh
  refine W_sound tab_ok mixed 3 _ _ _ ?_
  simp -implicitDefEqProofs only [go_sem, ne_eq, not_false_eq_true, Nat.reduceBEq, Nat.reduceAdd, Nat.reduceSub, Nat.reduceMul, Nat.reduceLT, Nat.reduceLeDiff, Int.reduceLE, Int.reduceLT, Int.reduceToNat, Int.reduceBEq, Int.reduceBNe, Int.le_refl, Nat.le_refl, decide_true, decide_false, Int.cast_ofNat_Int, ↓reduceIte, h1777, h1780, h1791]
  repeat with_reducible refine And.intro (by first | kernel_rfl | decide) ?_
  refine Wp_callP (c81 N _ _ h1794) (by kernel_rfl) rfl rfl rfl rfl (by decide) ?_
  have hh := getI_some h; clear h; obtain ⟨x1796, h1795, h⟩ := hh
  have hh := brn_some h; clear h; rcases hh with ⟨h1797, h⟩ | ⟨h1797, h⟩
  · refine W_sound tab_ok mixed 16 _ _ _ ?_
    simp -implicitDefEqProofs only [go_sem, ne_eq, not_false_eq_true, Nat.reduceBEq, Nat.reduceAdd, Nat.reduceSub, Nat.reduceMul, Nat.reduceLT, Nat.reduceLeDiff, Int.reduceLE, Int.reduceLT, Int.reduceToNat, Int.reduceBEq, Int.reduceBNe, Int.le_refl, Nat.le_refl, decide_true, decide_false, Int.cast_ofNat_Int, ↓reduceIte, h1777, h1780, h1791, h1795, h1797]
    repeat with_reducible refine And.intro (by first | kernel_rfl | decide) ?_
    obtain rfl := Option.some.inj h
    exact finC [(6, .v (.int .i64 (IntKind.i64.wrap (x1792 - x1796))))] [(6, .v (.int .i64 (IntKind.i64.wrap (x1792 - x1796))))] (by simp [leE, lk_cons]) (.cons _ _ _ _ _ (.v _ _ (.refl _)) .nil) (by rfl) (by simp [leE, lk_cons]) (by decide) (by decide) rfl (by simp only [go_sem, ne_eq, not_false_eq_true, Nat.reduceBEq, Nat.reduceAdd, Nat.reduceSub, Nat.reduceMul, Nat.reduceLT, Nat.reduceLeDiff, Int.reduceLE, Int.reduceLT, Int.reduceToNat, Int.reduceBEq, Int.reduceBNe, Int.le_refl, Nat.le_refl, decide_true, decide_false, Int.cast_ofNat_Int, ↓reduceIte, resQ_tmp, resQ_cell, resQ_nil, retD_one, retD_two, retD_three, retD_none]; try simp [R.val, retD_one, retD_two, retD_three, retD_none])
  · have hh := bnd'_some h; clear h; obtain ⟨p1804, h1805, h⟩ := hh
    refine W_sound tab_ok mixed 15 _ _ _ ?_
    simp -implicitDefEqProofs only [go_sem, ne_eq, not_false_eq_true, Nat.reduceBEq, Nat.reduceAdd, Nat.reduceSub, Nat.reduceMul, Nat.reduceLT, Nat.reduceLeDiff, Int.reduceLE, Int.reduceLT, Int.reduceToNat, Int.reduceBEq, Int.reduceBNe, Int.le_refl, Nat.le_refl, decide_true, decide_false, Int.cast_ofNat_Int, ↓reduceIte, h1777, h1780, h1791, h1795, h1797]
    repeat with_reducible refine And.intro (by first | kernel_rfl | decide) ?_
    refine Wp_callP (c82 N _ _ h1805) (by kernel_rfl) rfl rfl rfl rfl (by decide) ?_
    have hh := getI_some h; clear h; obtain ⟨x1807, h1806, h⟩ := hh
    have hh := bnd'_some h; clear h; obtain ⟨p1808, h1809, h⟩ := hh
    refine W_sound tab_ok mixed 3 _ _ _ ?_
    simp -implicitDefEqProofs only [go_sem, ne_eq, not_false_eq_true, Nat.reduceBEq, Nat.reduceAdd, Nat.reduceSub, Nat.reduceMul, Nat.reduceLT, Nat.reduceLeDiff, Int.reduceLE, Int.reduceLT, Int.reduceToNat, Int.reduceBEq, Int.reduceBNe, Int.le_refl, Nat.le_refl, decide_true, decide_false, Int.cast_ofNat_Int, ↓reduceIte, h1777, h1780, h1791, h1795, h1797, h1806]
    repeat with_reducible refine And.intro (by first | kernel_rfl | decide) ?_
    refine Wp_callP (c82 N _ _ h1809) (by kernel_rfl) rfl rfl rfl rfl (by decide) ?_
    have hh := getI_some h; clear h; obtain ⟨x1811, h1810, h⟩ := hh
    refine W_sound tab_ok mixed 5 _ _ _ ?_
    simp -implicitDefEqProofs only [go_sem, ne_eq, not_false_eq_true, Nat.reduceBEq, Nat.reduceAdd, Nat.reduceSub, Nat.reduceMul, Nat.reduceLT, Nat.reduceLeDiff, Int.reduceLE, Int.reduceLT, Int.reduceToNat, Int.reduceBEq, Int.reduceBNe, Int.le_refl, Nat.le_refl, decide_true, decide_false, Int.cast_ofNat_Int, ↓reduceIte, h1777, h1780, h1791, h1795, h1797, h1806, h1810]
    repeat with_reducible refine And.intro (by first | kernel_rfl | decide) ?_
    obtain rfl := Option.some.inj h
    exact finC [(6, .v (.int .i64 (IntKind.i64.wrap (x1807 - x1811))))] [(6, .v (.int .i64 (IntKind.i64.wrap (x1807 - x1811))))] (by simp [leE, lk_cons]) (.cons _ _ _ _ _ (.v _ _ (.refl _)) .nil) (by rfl) (by simp [leE, lk_cons]) (by decide) (by decide) rfl (by simp only [go_sem, ne_eq, not_false_eq_true, Nat.reduceBEq, Nat.reduceAdd, Nat.reduceSub, Nat.reduceMul, Nat.reduceLT, Nat.reduceLeDiff, Int.reduceLE, Int.reduceLT, Int.reduceToNat, Int.reduceBEq, Int.reduceBNe, Int.le_refl, Nat.le_refl, decide_true, decide_false, Int.cast_ofNat_Int, ↓reduceIte, resQ_tmp, resQ_cell, resQ_nil, retD_one, retD_two, retD_three, retD_none]; try simp [R.val, retD_one, retD_two, retD_three, retD_none])

def m84 (N : Nat) (x1757 : Int) (x1758 : Int) (p1759 : PV) : Option (PV) :=
  getL p1759 fun n1761 c1762 =>
  grd (0 ≤ x1757 ∧ x1757 < ((n1761 : Nat) : Int)) <|
  grd (2 ≤ List.length (List.drop ((Int.toNat x1757) * 2) c1762)) <|
  getA2 (.agg (List.take 2 (List.drop ((Int.toNat x1757) * 2) c1762))) fun p1767 p1768 =>
  grd (0 ≤ x1758 ∧ x1758 < ((n1761 : Nat) : Int)) <|
  grd (2 ≤ List.length (List.drop ((Int.toNat x1758) * 2) c1762)) <|
  getA2 (.agg (List.take 2 (List.drop ((Int.toNat x1758) * 2) c1762))) fun p1773 p1774 =>
  bnd' (m85 N (.agg [p1767, p1768]) (.agg [p1773, p1774])) fun p1812 =>
  getI .i64 p1812 fun x1815 =>
  some (.int .i64 x1815)
theorem c84 (N : Nat) (x1757 : Int) (x1758 : Int) (p1759 : PV) (r : PV)  (h : m84 N x1757 x1758 p1759 = some r) : V.Fn Try.prog 84 1 [.v (.int .i64 x1757), .v (.int .i64 x1758), .ptr 0 0, .v (.ipt [p1759])] [(0, .p [(.fn 81 []), (.fn 82 [])])] (fun d ob' => d = .v r ∧ ob' = [(0, .p [(.fn 81 []), (.fn 82 [])])]) := by
  unfold m84 at h
  refine Fn_of (sz := 17) tab_ok [0, 1, 2, 3, 6] [.tmp 6] Try.func84 rfl rfl rfl (by simp) ?_
  simp only [initSt, initEnv, List.map_cons, List.map_nil, List.getD_cons_zero, List.getD_cons_succ, List.getD_nil]
  have hh := getL_some h; clear h; obtain ⟨n1761, c1762, h1760, h⟩ := hh
  have hh := grd_some h; clear h; obtain ⟨⟨g1763, g1764⟩, h⟩ := hh
  have hh := grd_some h; clear h; obtain ⟨g1765, h⟩ := hh
  have hh := getA2_some h; clear h; obtain ⟨p1767, p1768, h1766, h⟩ := hh
  injection h1766 with h1766
  have hh := grd_some h; clear h; obtain ⟨⟨g1769, g1770⟩, h⟩ := hh
  have hh := grd_some h; clear h; obtain ⟨g1771, h⟩ := hh
  have hh := getA2_some h; clear h; obtain ⟨p1773, p1774, h1772, h⟩ := hh
  injection h1772 with h1772
  have hh := bnd'_some h; clear h; obtain ⟨p1812, h1813, h⟩ := hh
  refine W_sound tab_ok mixed 15 _ _ _ ?_
  simp -implicitDefEqProofs only [go_sem, ne_eq, not_false_eq_true, Nat.reduceBEq, Nat.reduceAdd, Nat.reduceSub, Nat.reduceMul, Nat.reduceLT, Nat.reduceLeDiff, Int.reduceLE, Int.reduceLT, Int.reduceToNat, Int.reduceBEq, Int.reduceBNe, Int.le_refl, Nat.le_refl, decide_true, decide_false, Int.cast_ofNat_Int, ↓reduceIte, h1760, g1763, g1764, g1765, h1766, g1769, g1770, g1771, h1772]
  repeat with_reducible refine And.intro (by first | kernel_rfl | decide) ?_
  refine Wp_callP (c85 N _ _ _ h1813) (by kernel_rfl) rfl rfl rfl rfl (by decide) ?_
  have hh := getI_some h; clear h; obtain ⟨x1815, h1814, h⟩ := hh
  refine W_sound tab_ok mixed 4 _ _ _ ?_
  simp -implicitDefEqProofs only [go_sem, ne_eq, not_false_eq_true, Nat.reduceBEq, Nat.reduceAdd, Nat.reduceSub, Nat.reduceMul, Nat.reduceLT, Nat.reduceLeDiff, Int.reduceLE, Int.reduceLT, Int.reduceToNat, Int.reduceBEq, Int.reduceBNe, Int.le_refl, Nat.le_refl, decide_true, decide_false, Int.cast_ofNat_Int, ↓reduceIte, h1760, g1763, g1764, g1765, h1766, g1769, g1770, g1771, h1772, h1814]
  repeat with_reducible refine And.intro (by first | kernel_rfl | decide) ?_
  obtain rfl := Option.some.inj h
  exact finD (e2 := [(0, .dead), (1, .dead), (2, .dead), (3, .dead), (6, .v (.int .i64 x1815))]) (ob2 := [(0, .p [(.fn 81 []), (.fn 82 [])])]) (st' := ⟨[], [(0, .dead), (1, .dead), (2, .dead), (3, .dead), (6, .v (.int .i64 x1815))], [(0, .p [(.fn 81 []), (.fn 82 [])])], 1, []⟩) (.cons _ _ _ _ _ (.dead _) (.cons _ _ _ _ _ (.dead _) (.cons _ _ _ _ _ (.dead _) (.cons _ _ _ _ _ (.dead _) (.cons _ _ _ _ _ (.refl _) .nil))))) (.cons _ _ _ _ _ (DLes.refl _) .nil) (by kernel_rfl) (by simp only [go_sem, ne_eq, not_false_eq_true, Nat.reduceBEq, Nat.reduceAdd, Nat.reduceSub, Nat.reduceMul, Nat.reduceLT, Nat.reduceLeDiff, Int.reduceLE, Int.reduceLT, Int.reduceToNat, Int.reduceBEq, Int.reduceBNe, Int.le_refl, Nat.le_refl, decide_true, decide_false, Int.cast_ofNat_Int, ↓reduceIte, resQ_tmp, resQ_cell, resQ_nil, retD_one, retD_two, retD_three, retD_none]; try simp [R.val, retD_one, retD_two, retD_three, retD_none])

def m89_L1 (N : Nat) (n1889 : Nat) (x1890 : Int) (x1891 : Int) (p1892 : PV) (x1937 : Int) : Nat → Int → List PV → Option (List PV)
  | 0, _, _ => none
  | n + 1, x1959, c1960 =>
    brn (decide (x1959 > x1890)) (
      grd (0 ≤ x1959 ∧ x1959 < ((n1889 : Nat) : Int)) <|
      grd ((Int.toNat x1959) < List.length c1960) <|
      getI .i64 (gp c1960 (Int.toNat x1959)) fun x1966 =>
      grd (0 ≤ (IntKind.i64.wrap (x1959 - 1)) ∧ (IntKind.i64.wrap (x1959 - 1)) < ((n1889 : Nat) : Int)) <|
      grd ((Int.toNat (IntKind.i64.wrap (x1959 - 1))) < List.length c1960) <|
      getI .i64 (gp c1960 (Int.toNat (IntKind.i64.wrap (x1959 - 1)))) fun x1971 =>
      bnd' (m84 N x1966 x1971 p1892) fun p1972 =>
      getI .i64 p1972 fun x1975 =>
      brn (decide (x1975 < 0)) (
        grd (((Int.toNat x1959) + 1) ≤ List.length c1960) <|
        grd (((Int.toNat (IntKind.i64.wrap (x1959 - 1))) + 1) ≤ List.length c1960) <|
        m89_L1 N n1889 x1890 x1891 p1892 x1937 n (IntKind.i64.wrap (x1959 - 1)) (List.set (List.set c1960 (Int.toNat x1959) (.int .i64 x1971)) (Int.toNat (IntKind.i64.wrap (x1959 - 1))) (.int .i64 x1966))) (
        some c1960)) (
      some c1960)
def m89_L0 (N : Nat) (n1889 : Nat) (x1890 : Int) (x1891 : Int) (p1892 : PV) : Nat → Int → List PV → Option (List PV)
  | 0, _, _ => none
  | n + 1, x1937, c1938 =>
    brn (decide (x1937 < x1891)) (
      bnd' (m89_L1 N n1889 x1890 x1891 p1892 x1937 N x1937 c1938) fun c1979 =>
      m89_L0 N n1889 x1890 x1891 p1892 n (IntKind.i64.wrap (x1937 + 1)) c1979) (
      some c1938)
def m89 (N : Nat) (n1889 : Nat) (x1890 : Int) (x1891 : Int) (p1892 : PV) (c1893 : List PV) : Option ((PV × List PV)) :=
  bnd' (m89_L0 N n1889 x1890 x1891 p1892 N (IntKind.i64.wrap (x1890 + 1)) c1893) fun c1980 =>
  some ((.tup []), c1980)
theorem c89 (N : Nat) (n1889 : Nat) (x1890 : Int) (x1891 : Int) (p1892 : PV) (c1893 : List PV) (r : PV) (c1982 : List PV) (h : m89 N n1889 x1890 x1891 p1892 c1893 = some (r, c1982)) : V.Fn Try.prog 89 2 [.sl false 0 0 n1889 1, .v (.int .i64 x1890), .v (.int .i64 x1891), .fn 84 [.ptr 1 0, .v (.ipt [p1892])]] [(0, .p c1893), (1, .p [(.fn 81 []), (.fn 82 [])])] (fun d ob' => d = .v r ∧ ob' = [(0, .p c1982), (1, .p [(.fn 81 []), (.fn 82 [])])]) := by
  unfold m89 at h
  refine Fn_of (sz := 53) tab_ok [0, 1, 2, 3, 8, 9, 14, 34] [] Try.func89 rfl rfl rfl (by simp) ?_
  simp only [initSt, initEnv, List.map_cons, List.map_nil, List.getD_cons_zero, List.getD_cons_succ, List.getD_nil]
  refine W_sound tab_ok mixed 6 _ _ _ ?_
  simp -implicitDefEqProofs only [go_sem, ne_eq, not_false_eq_true, Nat.reduceBEq, Nat.reduceAdd, Nat.reduceSub, Nat.reduceMul, Nat.reduceLT, Nat.reduceLeDiff, Int.reduceLE, Int.reduceLT, Int.reduceToNat, Int.reduceBEq, Int.reduceBNe, Int.le_refl, Nat.le_refl, decide_true, decide_false, Int.cast_ofNat_Int, ↓reduceIte]
  repeat with_reducible refine And.intro (by first | kernel_rfl | decide) ?_
  have hh := bnd'_some h; clear h; obtain ⟨o1983, h1984, h1985⟩ := hh
  refine Wp_cut (fun s => ∃ c1980, c1980 = o1983 ∧ s = ⟨[], [(0, .dead), (1, .dead), (2, .dead), (3, .dead), (8, .dead), (9, .dead), (14, .dead), (34, .dead)], [(0, .p c1980), (1, .p [(.fn 81 []), (.fn 82 [])])], 2, []⟩) ?_ ?_
  · refine Wp_block ?_
    refine Wp_loopG (fun n s => ∃ x1937, ∃ c1938, m89_L0 N n1889 x1890 x1891 p1892 n x1937 c1938 = some o1983 ∧ s = ⟨[], [(0, .sl false 0 0 n1889 1), (1, .v (.int .i64 x1890)), (2, .v (.int .i64 x1891)), (3, .fn 84 [.ptr 1 0, .v (.ipt [p1892])]), (8, .v (.int .i64 x1937)), (9, .dead), (14, .dead), (34, .dead)], [(0, .p c1938), (1, .p [(.fn 81 []), (.fn 82 [])])], 2, []⟩) N _ ((Wk_le (.cons _ _ _ _ _ (.refl _) (.cons _ _ _ _ _ (.refl _) (.cons _ _ _ _ _ (.refl _) (.cons _ _ _ _ _ (.refl _) (.cons _ _ _ _ _ (.refl _) (.cons _ _ _ _ _ (.refl _) (.cons _ _ _ _ _ (.refl _) (.cons _ _ _ _ _ (.refl _) .nil)))))))) (OLe.refl _)).trans (cmpS_ok rfl)) ⟨_, _, h1984, rfl⟩ ?_
    clear h1984
    rintro n _ ⟨x1937, c1938, h1984, rfl⟩
    cases n with
    | zero => cases h1984
    | succ n =>
      rw [m89_L0] at h1984
      have hh := brn_some h1984; clear h1984; rcases hh with ⟨h1939, h1984⟩ | ⟨h1939, h1984⟩
      · refine W_sound tab_ok mixed 16 _ _ _ ?_
        simp -implicitDefEqProofs only [go_sem, ne_eq, not_false_eq_true, Nat.reduceBEq, Nat.reduceAdd, Nat.reduceSub, Nat.reduceMul, Nat.reduceLT, Nat.reduceLeDiff, Int.reduceLE, Int.reduceLT, Int.reduceToNat, Int.reduceBEq, Int.reduceBNe, Int.le_refl, Nat.le_refl, decide_true, decide_false, Int.cast_ofNat_Int, ↓reduceIte, h1939]
        repeat with_reducible refine And.intro (by first | kernel_rfl | decide) ?_
        have hh := bnd'_some h1984; clear h1984; obtain ⟨o1986, h1987, h1988⟩ := hh
        refine Wp_cut (fun s => ∃ c1979, c1979 = o1986 ∧ s = ⟨[], [(0, .sl false 0 0 n1889 1), (1, .v (.int .i64 x1890)), (2, .v (.int .i64 x1891)), (3, .fn 84 [.ptr 1 0, .v (.ipt [p1892])]), (8, .v (.int .i64 x1937)), (9, .dead), (14, .dead), (34, .dead)], [(0, .p c1979), (1, .p [(.fn 81 []), (.fn 82 [])])], 2, []⟩) ?_ ?_
        · refine Wp_block ?_
          refine Wp_loopG (fun n s => ∃ x1959, ∃ c1960, m89_L1 N n1889 x1890 x1891 p1892 x1937 n x1959 c1960 = some o1986 ∧ s = ⟨[], [(0, .sl false 0 0 n1889 1), (1, .v (.int .i64 x1890)), (2, .v (.int .i64 x1891)), (3, .fn 84 [.ptr 1 0, .v (.ipt [p1892])]), (8, .v (.int .i64 x1937)), (9, .v (.int .i64 x1959)), (14, .dead), (34, .dead)], [(0, .p c1960), (1, .p [(.fn 81 []), (.fn 82 [])])], 2, []⟩) N _ ((Wk_le (.cons _ _ _ _ _ (.refl _) (.cons _ _ _ _ _ (.refl _) (.cons _ _ _ _ _ (.refl _) (.cons _ _ _ _ _ (.refl _) (.cons _ _ _ _ _ (.refl _) (.cons _ _ _ _ _ (.refl _) (.cons _ _ _ _ _ (.dead _) (.cons _ _ _ _ _ (.refl _) .nil)))))))) (OLe.refl _)).trans (cmpS_ok rfl)) ⟨_, _, h1987, rfl⟩ ?_
          clear h1987
          rintro n _ ⟨x1959, c1960, h1987, rfl⟩
          cases n with
          | zero => cases h1987
          | succ n =>
            rw [m89_L1] at h1987
            have hh := brn_some h1987; clear h1987; rcases hh with ⟨h1961, h1987⟩ | ⟨h1961, h1987⟩
            · have hh := grd_some h1987; clear h1987; obtain ⟨⟨g1962, g1963⟩, h1987⟩ := hh
              have hh := grd_some h1987; clear h1987; obtain ⟨g1964, h1987⟩ := hh
              have hh := getI_some h1987; clear h1987; obtain ⟨x1966, h1965, h1987⟩ := hh
              have hh := grd_some h1987; clear h1987; obtain ⟨⟨g1967, g1968⟩, h1987⟩ := hh
              have hh := grd_some h1987; clear h1987; obtain ⟨g1969, h1987⟩ := hh
              have hh := getI_some h1987; clear h1987; obtain ⟨x1971, h1970, h1987⟩ := hh
              have hh := bnd'_some h1987; clear h1987; obtain ⟨p1972, h1973, h1987⟩ := hh
              (try dsimp only at h1987)
              refine W_sound tab_ok mixed 17 _ _ _ ?_
              simp -implicitDefEqProofs only [go_sem, ne_eq, not_false_eq_true, Nat.reduceBEq, Nat.reduceAdd, Nat.reduceSub, Nat.reduceMul, Nat.reduceLT, Nat.reduceLeDiff, Int.reduceLE, Int.reduceLT, Int.reduceToNat, Int.reduceBEq, Int.reduceBNe, Int.le_refl, Nat.le_refl, decide_true, decide_false, Int.cast_ofNat_Int, ↓reduceIte, h1939, h1961, g1962, g1963, g1964, h1965, g1967, g1968, g1969, h1970]
              repeat with_reducible refine And.intro (by first | kernel_rfl | decide) ?_
              refine Wp_callD [1] (c84 N _ _ _ _ h1973) rfl rfl rfl (by first | rfl | (simp only [go_sem, ne_eq, not_false_eq_true, Nat.reduceBEq, Nat.reduceAdd, Nat.reduceSub, Nat.reduceMul, Nat.reduceLT, Nat.reduceLeDiff, Int.reduceLE, Int.reduceLT, Int.reduceToNat, Int.reduceBEq, Int.reduceBNe, Int.le_refl, Nat.le_refl, decide_true, decide_false, Int.cast_ofNat_Int, ↓reduceIte, h1939, h1961, g1962, g1963, g1964, h1965, g1967, g1968, g1969, h1970] <;> rfl)) rfl (by kernel_rfl) ?_
              have hh := getI_some h1987; clear h1987; obtain ⟨x1975, h1974, h1987⟩ := hh
              have hh := brn_some h1987; clear h1987; rcases hh with ⟨h1976, h1987⟩ | ⟨h1976, h1987⟩
              · have hh := grd_some h1987; clear h1987; obtain ⟨g1977, h1987⟩ := hh
                have hh := grd_some h1987; clear h1987; obtain ⟨g1978, h1987⟩ := hh
                refine W_sound tab_ok mixed 33 _ _ _ ?_
                simp -implicitDefEqProofs only [go_sem, ne_eq, not_false_eq_true, Nat.reduceBEq, Nat.reduceAdd, Nat.reduceSub, Nat.reduceMul, Nat.reduceLT, Nat.reduceLeDiff, Int.reduceLE, Int.reduceLT, Int.reduceToNat, Int.reduceBEq, Int.reduceBNe, Int.le_refl, Nat.le_refl, decide_true, decide_false, Int.cast_ofNat_Int, ↓reduceIte, h1939, h1961, g1962, g1963, g1964, h1965, g1967, g1968, g1969, h1970, h1974, h1976, g1977, g1978]
                repeat with_reducible refine And.intro (by first | kernel_rfl | decide) ?_
                exact cutQ _ ((Wk_le (.cons _ _ _ _ _ (.refl _) (.cons _ _ _ _ _ (.refl _) (.cons _ _ _ _ _ (.refl _) (.cons _ _ _ _ _ (.refl _) (.cons _ _ _ _ _ (.refl _) (.cons _ _ _ _ _ (.refl _) (.cons _ _ _ _ _ (.refl _) (.cons _ _ _ _ _ (.dead _) .nil)))))))) (OLe.refl _)).trans (cmpS_ok rfl)) ⟨n, Nat.lt_succ_self n, _, _, h1987, rfl⟩
              · refine W_sound tab_ok mixed 5 _ _ _ ?_
                simp -implicitDefEqProofs only [go_sem, ne_eq, not_false_eq_true, Nat.reduceBEq, Nat.reduceAdd, Nat.reduceSub, Nat.reduceMul, Nat.reduceLT, Nat.reduceLeDiff, Int.reduceLE, Int.reduceLT, Int.reduceToNat, Int.reduceBEq, Int.reduceBNe, Int.le_refl, Nat.le_refl, decide_true, decide_false, Int.cast_ofNat_Int, ↓reduceIte, h1939, h1961, g1962, g1963, g1964, h1965, g1967, g1968, g1969, h1970, h1974, h1976]
                repeat with_reducible refine And.intro (by first | kernel_rfl | decide) ?_
                obtain rfl := Option.some.inj h1987
                exact cutQ _ ((Wk_le (.cons _ _ _ _ _ (.refl _) (.cons _ _ _ _ _ (.refl _) (.cons _ _ _ _ _ (.refl _) (.cons _ _ _ _ _ (.refl _) (.cons _ _ _ _ _ (.refl _) (.cons _ _ _ _ _ (.dead _) (.cons _ _ _ _ _ (.refl _) (.cons _ _ _ _ _ (.dead _) .nil)))))))) (OLe.refl _)).trans (cmpS_ok rfl)) ⟨_, rfl, rfl⟩
            · refine W_sound tab_ok mixed 23 _ _ _ ?_
              simp -implicitDefEqProofs only [go_sem, ne_eq, not_false_eq_true, Nat.reduceBEq, Nat.reduceAdd, Nat.reduceSub, Nat.reduceMul, Nat.reduceLT, Nat.reduceLeDiff, Int.reduceLE, Int.reduceLT, Int.reduceToNat, Int.reduceBEq, Int.reduceBNe, Int.le_refl, Nat.le_refl, decide_true, decide_false, Int.cast_ofNat_Int, ↓reduceIte, h1939, h1961]
              repeat with_reducible refine And.intro (by first | kernel_rfl | decide) ?_
              obtain rfl := Option.some.inj h1987
              exact cutQ _ ((Wk_le (.cons _ _ _ _ _ (.refl _) (.cons _ _ _ _ _ (.refl _) (.cons _ _ _ _ _ (.refl _) (.cons _ _ _ _ _ (.refl _) (.cons _ _ _ _ _ (.refl _) (.cons _ _ _ _ _ (.dead _) (.cons _ _ _ _ _ (.refl _) (.cons _ _ _ _ _ (.dead _) .nil)))))))) (OLe.refl _)).trans (cmpS_ok rfl)) ⟨_, rfl, rfl⟩
        · rintro _ ⟨c1979, rfl, rfl⟩
          refine W_sound tab_ok mixed 6 _ _ _ ?_
          simp -implicitDefEqProofs only [go_sem, ne_eq, not_false_eq_true, Nat.reduceBEq, Nat.reduceAdd, Nat.reduceSub, Nat.reduceMul, Nat.reduceLT, Nat.reduceLeDiff, Int.reduceLE, Int.reduceLT, Int.reduceToNat, Int.reduceBEq, Int.reduceBNe, Int.le_refl, Nat.le_refl, decide_true, decide_false, Int.cast_ofNat_Int, ↓reduceIte, h1939]
          repeat with_reducible refine And.intro (by first | kernel_rfl | decide) ?_
          exact cutQ _ ((Wk_le (.cons _ _ _ _ _ (.refl _) (.cons _ _ _ _ _ (.refl _) (.cons _ _ _ _ _ (.refl _) (.cons _ _ _ _ _ (.refl _) (.cons _ _ _ _ _ (.refl _) (.cons _ _ _ _ _ (.refl _) (.cons _ _ _ _ _ (.refl _) (.cons _ _ _ _ _ (.refl _) .nil)))))))) (OLe.refl _)).trans (cmpS_ok rfl)) ⟨n, Nat.lt_succ_self n, _, _, h1988, rfl⟩
      · refine W_sound tab_ok mixed 9 _ _ _ ?_
        simp -implicitDefEqProofs only [go_sem, ne_eq, not_false_eq_true, Nat.reduceBEq, Nat.reduceAdd, Nat.reduceSub, Nat.reduceMul, Nat.reduceLT, Nat.reduceLeDiff, Int.reduceLE, Int.reduceLT, Int.reduceToNat, Int.reduceBEq, Int.reduceBNe, Int.le_refl, Nat.le_refl, decide_true, decide_false, Int.cast_ofNat_Int, ↓reduceIte, h1939]
        repeat with_reducible refine And.intro (by first | kernel_rfl | decide) ?_
        obtain rfl := Option.some.inj h1984
        exact cutQ _ ((Wk_le (.cons _ _ _ _ _ (.dead _) (.cons _ _ _ _ _ (.dead _) (.cons _ _ _ _ _ (.dead _) (.cons _ _ _ _ _ (.dead _) (.cons _ _ _ _ _ (.dead _) (.cons _ _ _ _ _ (.refl _) (.cons _ _ _ _ _ (.dead _) (.cons _ _ _ _ _ (.refl _) .nil)))))))) (OLe.refl _)).trans (cmpS_ok rfl)) ⟨_, rfl, rfl⟩
  · rintro _ ⟨c1980, rfl, rfl⟩
    refine W_sound tab_ok mixed 1 _ _ _ ?_
    simp -implicitDefEqProofs only [go_sem, ne_eq, not_false_eq_true, Nat.reduceBEq, Nat.reduceAdd, Nat.reduceSub, Nat.reduceMul, Nat.reduceLT, Nat.reduceLeDiff, Int.reduceLE, Int.reduceLT, Int.reduceToNat, Int.reduceBEq, Int.reduceBNe, Int.le_refl, Nat.le_refl, decide_true, decide_false, Int.cast_ofNat_Int, ↓reduceIte]
    repeat with_reducible refine And.intro (by first | kernel_rfl | decide) ?_
    simp only [Option.some.injEq, Prod.mk.injEq] at h1985; obtain ⟨rfl, rfl⟩ := h1985
    exact finD (e2 := [(0, .dead), (1, .dead), (2, .dead), (3, .dead), (8, .dead), (9, .dead), (14, .dead), (34, .dead)]) (ob2 := [(0, .p c1980), (1, .p [(.fn 81 []), (.fn 82 [])])]) (st' := ⟨[], [(0, .dead), (1, .dead), (2, .dead), (3, .dead), (8, .dead), (9, .dead), (14, .dead), (34, .dead)], [(0, .p c1980), (1, .p [(.fn 81 []), (.fn 82 [])])], 2, []⟩) (.cons _ _ _ _ _ (.refl _) (.cons _ _ _ _ _ (.refl _) (.cons _ _ _ _ _ (.refl _) (.cons _ _ _ _ _ (.refl _) (.cons _ _ _ _ _ (.refl _) (.cons _ _ _ _ _ (.refl _) (.cons _ _ _ _ _ (.refl _) (.cons _ _ _ _ _ (.refl _) .nil)))))))) (.cons _ _ _ _ _ (DLes.refl _) (.cons _ _ _ _ _ (DLes.refl _) .nil)) (by kernel_rfl) (by simp only [go_sem, ne_eq, not_false_eq_true, Nat.reduceBEq, Nat.reduceAdd, Nat.reduceSub, Nat.reduceMul, Nat.reduceLT, Nat.reduceLeDiff, Int.reduceLE, Int.reduceLT, Int.reduceToNat, Int.reduceBEq, Int.reduceBNe, Int.le_refl, Nat.le_refl, decide_true, decide_false, Int.cast_ofNat_Int, ↓reduceIte, resQ_tmp, resQ_cell, resQ_nil, retD_one, retD_two, retD_three, retD_none]; try simp [R.val, retD_one, retD_two, retD_three, retD_none])

def m88_L0 (N : Nat) (n2015 : Nat) (x2016 : Int) (p2017 : PV) : Nat → Int → Int → List PV → Option ((Int × List PV))
  | 0, _, _, _ => none
  | n + 1, x2027, x2028, c2029 =>
    brn (decide (x2028 ≤ x2016)) (
      bnd' (m89 N n2015 x2027 x2028 p2017 c2029) fun (p2031, c2033) =>
      getT0 p2031 <|
      m88_L0 N n2015 x2016 p2017 n x2028 (IntKind.i64.wrap (x2028 + 20)) c2033) (
      some (x2027, c2029))
def m88_L2 (N : Nat) (n2015 : Nat) (x2016 : Int) (p2017 : PV) (c2039 : List PV) (x2041 : Int) : Nat → Int → Int → Option (Int)
  | 0, _, _ => none
  | n + 1, x2043, x2044 =>
    brn (decide (x2044 ≤ x2016)) (
      none) (
      some x2043)
def m88_L1 (N : Nat) (n2015 : Nat) (x2016 : Int) (p2017 : PV) (c2039 : List PV) : Nat → Int → Option (Unit)
  | 0, _ => none
  | n + 1, x2041 =>
    brn (decide (x2041 < x2016)) (
      bnd' (m88_L2 N n2015 x2016 p2017 c2039 x2041 N 0 (IntKind.i64.wrap (2 * x2041))) fun x2046 =>
      brn (decide ((IntKind.i64.wrap (x2046 + x2041)) < x2016)) (
        none) (
        m88_L1 N n2015 x2016 p2017 c2039 n (IntKind.i64.wrap (x2041 * 2)))) (
      some ())
def m88 (N : Nat) (n2015 : Nat) (x2016 : Int) (p2017 : PV) (c2018 : List PV) : Option ((PV × List PV)) :=
  bnd' (m88_L0 N n2015 x2016 p2017 N 0 20 c2018) fun o =>
  match o with
  | (x2035, c2036) =>
    bnd' (m89 N n2015 x2035 x2016 p2017 c2036) fun (p2037, c2039) =>
    getT0 p2037 <|
    bnd' (m88_L1 N n2015 x2016 p2017 c2039 N 20) fun _ =>
    some ((.tup []), c2039)
theorem c88 (N : Nat) (n2015 : Nat) (x2016 : Int) (p2017 : PV) (c2018 : List PV) (r : PV) (c2049 : List PV) (h : m88 N n2015 x2016 p2017 c2018 = some (r, c2049)) : V.Fn Try.prog 88 2 [.sl false 0 0 n2015 1, .v (.int .i64 x2016), .fn 84 [.ptr 1 0, .v (.ipt [p2017])]] [(0, .p c2018), (1, .p [(.fn 81 []), (.fn 82 [])])] (fun d ob' => d = .v r ∧ ob' = [(0, .p c2049), (1, .p [(.fn 81 []), (.fn 82 [])])]) := by
  unfold m88 at h
  refine Fn_of (sz := 63) tab_ok [0, 1, 2, 6, 7, 8, 9, 13, 30, 35, 54] [] Try.func88 rfl rfl rfl (by simp) ?_
  simp only [initSt, initEnv, List.map_cons, List.map_nil, List.getD_cons_zero, List.getD_cons_succ, List.getD_nil]
  refine W_sound tab_ok mixed 11 _ _ _ ?_
  simp -implicitDefEqProofs only [go_sem, ne_eq, not_false_eq_true, Nat.reduceBEq, Nat.reduceAdd, Nat.reduceSub, Nat.reduceMul, Nat.reduceLT, Nat.reduceLeDiff, Int.reduceLE, Int.reduceLT, Int.reduceToNat, Int.reduceBEq, Int.reduceBNe, Int.le_refl, Nat.le_refl, decide_true, decide_false, Int.cast_ofNat_Int, ↓reduceIte]
  repeat with_reducible refine And.intro (by first | kernel_rfl | decide) ?_
  have hh := bnd'_some h; clear h; obtain ⟨o2050, h2051, h2052⟩ := hh
  refine Wp_cut (fun s => ∃ x2035, ∃ c2036, (x2035, c2036) = o2050 ∧ s = ⟨[], [(0, .sl false 0 0 n2015 1), (1, .v (.int .i64 x2016)), (2, .fn 84 [.ptr 1 0, .v (.ipt [p2017])]), (6, .v (.int .i64 20)), (7, .v (.int .i64 x2035)), (8, .dead), (9, .dead), (13, .dead), (30, .dead), (35, .dead), (54, .dead)], [(0, .p c2036), (1, .p [(.fn 81 []), (.fn 82 [])])], 2, []⟩) ?_ ?_
  · refine Wp_block ?_
    refine Wp_loopG (fun n s => ∃ x2027, ∃ x2028, ∃ c2029, m88_L0 N n2015 x2016 p2017 n x2027 x2028 c2029 = some o2050 ∧ s = ⟨[], [(0, .sl false 0 0 n2015 1), (1, .v (.int .i64 x2016)), (2, .fn 84 [.ptr 1 0, .v (.ipt [p2017])]), (6, .v (.int .i64 20)), (7, .v (.int .i64 x2027)), (8, .v (.int .i64 x2028)), (9, .dead), (13, .dead), (30, .dead), (35, .dead), (54, .dead)], [(0, .p c2029), (1, .p [(.fn 81 []), (.fn 82 [])])], 2, []⟩) N _ ((Wk_le (.cons _ _ _ _ _ (.refl _) (.cons _ _ _ _ _ (.refl _) (.cons _ _ _ _ _ (.refl _) (.cons _ _ _ _ _ (.refl _) (.cons _ _ _ _ _ (.refl _) (.cons _ _ _ _ _ (.refl _) (.cons _ _ _ _ _ (.refl _) (.cons _ _ _ _ _ (.refl _) (.cons _ _ _ _ _ (.refl _) (.cons _ _ _ _ _ (.refl _) (.cons _ _ _ _ _ (.refl _) .nil))))))))))) (OLe.refl _)).trans (cmpS_ok rfl)) ⟨_, _, _, h2051, rfl⟩ ?_
    clear h2051
    rintro n _ ⟨x2027, x2028, c2029, h2051, rfl⟩
    cases n with
    | zero => cases h2051
    | succ n =>
      rw [m88_L0] at h2051
      have hh := brn_some h2051; clear h2051; rcases hh with ⟨h2030, h2051⟩ | ⟨h2030, h2051⟩
      · have hh := bnd'_some h2051; clear h2051; obtain ⟨⟨p2031, c2033⟩, h2032, h2051⟩ := hh
        (try dsimp only at h2051)
        refine W_sound tab_ok mixed 16 _ _ _ ?_
        simp -implicitDefEqProofs only [go_sem, ne_eq, not_false_eq_true, Nat.reduceBEq, Nat.reduceAdd, Nat.reduceSub, Nat.reduceMul, Nat.reduceLT, Nat.reduceLeDiff, Int.reduceLE, Int.reduceLT, Int.reduceToNat, Int.reduceBEq, Int.reduceBNe, Int.le_refl, Nat.le_refl, decide_true, decide_false, Int.cast_ofNat_Int, ↓reduceIte, h2030]
        repeat with_reducible refine And.intro (by first | kernel_rfl | decide) ?_
        refine Wp_callD [0, 1] (c89 N _ _ _ _ _ _ _ h2032) rfl rfl rfl (by first | rfl | (simp only [go_sem, ne_eq, not_false_eq_true, Nat.reduceBEq, Nat.reduceAdd, Nat.reduceSub, Nat.reduceMul, Nat.reduceLT, Nat.reduceLeDiff, Int.reduceLE, Int.reduceLT, Int.reduceToNat, Int.reduceBEq, Int.reduceBNe, Int.le_refl, Nat.le_refl, decide_true, decide_false, Int.cast_ofNat_Int, ↓reduceIte, h2030] <;> rfl)) rfl (by kernel_rfl) ?_
        have hh := getT0_some h2051; clear h2051; obtain ⟨h2034, h2051⟩ := hh
        refine W_sound tab_ok mixed 13 _ _ _ ?_
        simp -implicitDefEqProofs only [go_sem, ne_eq, not_false_eq_true, Nat.reduceBEq, Nat.reduceAdd, Nat.reduceSub, Nat.reduceMul, Nat.reduceLT, Nat.reduceLeDiff, Int.reduceLE, Int.reduceLT, Int.reduceToNat, Int.reduceBEq, Int.reduceBNe, Int.le_refl, Nat.le_refl, decide_true, decide_false, Int.cast_ofNat_Int, ↓reduceIte, h2030, h2034]
        repeat with_reducible refine And.intro (by first | kernel_rfl | decide) ?_
        exact cutQ _ ((Wk_le (.cons _ _ _ _ _ (.refl _) (.cons _ _ _ _ _ (.refl _) (.cons _ _ _ _ _ (.refl _) (.cons _ _ _ _ _ (.refl _) (.cons _ _ _ _ _ (.refl _) (.cons _ _ _ _ _ (.refl _) (.cons _ _ _ _ _ (.refl _) (.cons _ _ _ _ _ (.dead _) (.cons _ _ _ _ _ (.refl _) (.cons _ _ _ _ _ (.refl _) (.cons _ _ _ _ _ (.refl _) .nil))))))))))) (OLe.refl _)).trans (cmpS_ok rfl)) ⟨n, Nat.lt_succ_self n, _, _, _, h2051, rfl⟩
      · refine W_sound tab_ok mixed 9 _ _ _ ?_
        simp -implicitDefEqProofs only [go_sem, ne_eq, not_false_eq_true, Nat.reduceBEq, Nat.reduceAdd, Nat.reduceSub, Nat.reduceMul, Nat.reduceLT, Nat.reduceLeDiff, Int.reduceLE, Int.reduceLT, Int.reduceToNat, Int.reduceBEq, Int.reduceBNe, Int.le_refl, Nat.le_refl, decide_true, decide_false, Int.cast_ofNat_Int, ↓reduceIte, h2030]
        repeat with_reducible refine And.intro (by first | kernel_rfl | decide) ?_
        obtain rfl := Option.some.inj h2051
        exact cutQ _ ((Wk_le (.cons _ _ _ _ _ (.refl _) (.cons _ _ _ _ _ (.refl _) (.cons _ _ _ _ _ (.refl _) (.cons _ _ _ _ _ (.refl _) (.cons _ _ _ _ _ (.refl _) (.cons _ _ _ _ _ (.dead _) (.cons _ _ _ _ _ (.refl _) (.cons _ _ _ _ _ (.dead _) (.cons _ _ _ _ _ (.refl _) (.cons _ _ _ _ _ (.refl _) (.cons _ _ _ _ _ (.refl _) .nil))))))))))) (OLe.refl _)).trans (cmpS_ok rfl)) ⟨_, _, rfl, rfl⟩
  · rintro _ ⟨x2035, c2036, rfl, rfl⟩
    (try dsimp only at h2052)
    have hh := bnd'_some h2052; clear h2052; obtain ⟨⟨p2037, c2039⟩, h2038, h2052⟩ := hh
    (try dsimp only at h2052)
    refine W_sound tab_ok mixed 6 _ _ _ ?_
    simp -implicitDefEqProofs only [go_sem, ne_eq, not_false_eq_true, Nat.reduceBEq, Nat.reduceAdd, Nat.reduceSub, Nat.reduceMul, Nat.reduceLT, Nat.reduceLeDiff, Int.reduceLE, Int.reduceLT, Int.reduceToNat, Int.reduceBEq, Int.reduceBNe, Int.le_refl, Nat.le_refl, decide_true, decide_false, Int.cast_ofNat_Int, ↓reduceIte]
    repeat with_reducible refine And.intro (by first | kernel_rfl | decide) ?_
    refine Wp_callD [0, 1] (c89 N _ _ _ _ _ _ _ h2038) rfl rfl rfl (by first | rfl | (simp only [go_sem, ne_eq, not_false_eq_true, Nat.reduceBEq, Nat.reduceAdd, Nat.reduceSub, Nat.reduceMul, Nat.reduceLT, Nat.reduceLeDiff, Int.reduceLE, Int.reduceLT, Int.reduceToNat, Int.reduceBEq, Int.reduceBNe, Int.le_refl, Nat.le_refl, decide_true, decide_false, Int.cast_ofNat_Int, ↓reduceIte] <;> rfl)) rfl (by kernel_rfl) ?_
    have hh := getT0_some h2052; clear h2052; obtain ⟨h2040, h2052⟩ := hh
    refine W_sound tab_ok mixed 1 _ _ _ ?_
    simp -implicitDefEqProofs only [go_sem, ne_eq, not_false_eq_true, Nat.reduceBEq, Nat.reduceAdd, Nat.reduceSub, Nat.reduceMul, Nat.reduceLT, Nat.reduceLeDiff, Int.reduceLE, Int.reduceLT, Int.reduceToNat, Int.reduceBEq, Int.reduceBNe, Int.le_refl, Nat.le_refl, decide_true, decide_false, Int.cast_ofNat_Int, ↓reduceIte, h2040]
    repeat with_reducible refine And.intro (by first | kernel_rfl | decide) ?_
    have hh := bnd'_some h2052; clear h2052; obtain ⟨o2053, h2054, h2055⟩ := hh
    refine Wp_cut (fun s => () = o2053 ∧ s = ⟨[], [(0, .dead), (1, .dead), (2, .dead), (6, .dead), (7, .dead), (8, .dead), (9, .dead), (13, .dead), (30, .dead), (35, .dead), (54, .dead)], [(0, .p c2039), (1, .p [(.fn 81 []), (.fn 82 [])])], 2, []⟩) ?_ ?_
    · refine Wp_block ?_
      refine Wp_loopG (fun n s => ∃ x2041, m88_L1 N n2015 x2016 p2017 c2039 n x2041 = some o2053 ∧ s = ⟨[], [(0, .sl false 0 0 n2015 1), (1, .v (.int .i64 x2016)), (2, .fn 84 [.ptr 1 0, .v (.ipt [p2017])]), (6, .v (.int .i64 x2041)), (7, .dead), (8, .dead), (9, .dead), (13, .dead), (30, .dead), (35, .dead), (54, .dead)], [(0, .p c2039), (1, .p [(.fn 81 []), (.fn 82 [])])], 2, []⟩) N _ ((Wk_le (.cons _ _ _ _ _ (.refl _) (.cons _ _ _ _ _ (.refl _) (.cons _ _ _ _ _ (.refl _) (.cons _ _ _ _ _ (.refl _) (.cons _ _ _ _ _ (.dead _) (.cons _ _ _ _ _ (.refl _) (.cons _ _ _ _ _ (.refl _) (.cons _ _ _ _ _ (.refl _) (.cons _ _ _ _ _ (.refl _) (.cons _ _ _ _ _ (.refl _) (.cons _ _ _ _ _ (.refl _) .nil))))))))))) (OLe.refl _)).trans (cmpS_ok rfl)) ⟨_, h2054, rfl⟩ ?_
      clear h2054
      rintro n _ ⟨x2041, h2054, rfl⟩
      cases n with
      | zero => cases h2054
      | succ n =>
        rw [m88_L1] at h2054
        have hh := brn_some h2054; clear h2054; rcases hh with ⟨h2042, h2054⟩ | ⟨h2042, h2054⟩
        · refine W_sound tab_ok mixed 18 _ _ _ ?_
          simp -implicitDefEqProofs only [go_sem, ne_eq, not_false_eq_true, Nat.reduceBEq, Nat.reduceAdd, Nat.reduceSub, Nat.reduceMul, Nat.reduceLT, Nat.reduceLeDiff, Int.reduceLE, Int.reduceLT, Int.reduceToNat, Int.reduceBEq, Int.reduceBNe, Int.le_refl, Nat.le_refl, decide_true, decide_false, Int.cast_ofNat_Int, ↓reduceIte, h2040, h2042]
          repeat with_reducible refine And.intro (by first | kernel_rfl | decide) ?_
          have hh := bnd'_some h2054; clear h2054; obtain ⟨o2056, h2057, h2058⟩ := hh
          refine Wp_cut (fun s => ∃ x2046, x2046 = o2056 ∧ s = ⟨[], [(0, .sl false 0 0 n2015 1), (1, .v (.int .i64 x2016)), (2, .fn 84 [.ptr 1 0, .v (.ipt [p2017])]), (6, .v (.int .i64 x2041)), (7, .v (.int .i64 x2046)), (8, .dead), (9, .dead), (13, .dead), (30, .dead), (35, .dead), (54, .dead)], [(0, .p c2039), (1, .p [(.fn 81 []), (.fn 82 [])])], 2, []⟩) ?_ ?_
          · refine Wp_block ?_
            refine Wp_loopG (fun n s => ∃ x2043, ∃ x2044, m88_L2 N n2015 x2016 p2017 c2039 x2041 n x2043 x2044 = some o2056 ∧ s = ⟨[], [(0, .sl false 0 0 n2015 1), (1, .v (.int .i64 x2016)), (2, .fn 84 [.ptr 1 0, .v (.ipt [p2017])]), (6, .v (.int .i64 x2041)), (7, .v (.int .i64 x2043)), (8, .v (.int .i64 x2044)), (9, .dead), (13, .dead), (30, .dead), (35, .dead), (54, .dead)], [(0, .p c2039), (1, .p [(.fn 81 []), (.fn 82 [])])], 2, []⟩) N _ ((Wk_le (.cons _ _ _ _ _ (.refl _) (.cons _ _ _ _ _ (.refl _) (.cons _ _ _ _ _ (.refl _) (.cons _ _ _ _ _ (.refl _) (.cons _ _ _ _ _ (.refl _) (.cons _ _ _ _ _ (.refl _) (.cons _ _ _ _ _ (.refl _) (.cons _ _ _ _ _ (.refl _) (.cons _ _ _ _ _ (.dead _) (.cons _ _ _ _ _ (.refl _) (.cons _ _ _ _ _ (.refl _) .nil))))))))))) (OLe.refl _)).trans (cmpS_ok rfl)) ⟨_, _, h2057, rfl⟩ ?_
            clear h2057
            rintro n _ ⟨x2043, x2044, h2057, rfl⟩
            cases n with
            | zero => cases h2057
            | succ n =>
              rw [m88_L2] at h2057
              have hh := brn_some h2057; clear h2057; rcases hh with ⟨h2045, h2057⟩ | ⟨h2045, h2057⟩
              · cases h2057
              · refine W_sound tab_ok mixed 9 _ _ _ ?_
                simp -implicitDefEqProofs only [go_sem, ne_eq, not_false_eq_true, Nat.reduceBEq, Nat.reduceAdd, Nat.reduceSub, Nat.reduceMul, Nat.reduceLT, Nat.reduceLeDiff, Int.reduceLE, Int.reduceLT, Int.reduceToNat, Int.reduceBEq, Int.reduceBNe, Int.le_refl, Nat.le_refl, decide_true, decide_false, Int.cast_ofNat_Int, ↓reduceIte, h2040, h2042, h2045]
                repeat with_reducible refine And.intro (by first | kernel_rfl | decide) ?_
                obtain rfl := Option.some.inj h2057
                exact cutQ _ ((Wk_le (.cons _ _ _ _ _ (.refl _) (.cons _ _ _ _ _ (.refl _) (.cons _ _ _ _ _ (.refl _) (.cons _ _ _ _ _ (.refl _) (.cons _ _ _ _ _ (.refl _) (.cons _ _ _ _ _ (.dead _) (.cons _ _ _ _ _ (.refl _) (.cons _ _ _ _ _ (.refl _) (.cons _ _ _ _ _ (.refl _) (.cons _ _ _ _ _ (.dead _) (.cons _ _ _ _ _ (.refl _) .nil))))))))))) (OLe.refl _)).trans (cmpS_ok rfl)) ⟨_, rfl, rfl⟩
          · rintro _ ⟨x2046, rfl, rfl⟩
            have hh := brn_some h2058; clear h2058; rcases hh with ⟨h2047, h2058⟩ | ⟨h2047, h2058⟩
            · cases h2058
            · refine W_sound tab_ok mixed 22 _ _ _ ?_
              simp -implicitDefEqProofs only [go_sem, ne_eq, not_false_eq_true, Nat.reduceBEq, Nat.reduceAdd, Nat.reduceSub, Nat.reduceMul, Nat.reduceLT, Nat.reduceLeDiff, Int.reduceLE, Int.reduceLT, Int.reduceToNat, Int.reduceBEq, Int.reduceBNe, Int.le_refl, Nat.le_refl, decide_true, decide_false, Int.cast_ofNat_Int, ↓reduceIte, h2040, h2042, h2047]
              repeat with_reducible refine And.intro (by first | kernel_rfl | decide) ?_
              exact cutQ _ ((Wk_le (.cons _ _ _ _ _ (.refl _) (.cons _ _ _ _ _ (.refl _) (.cons _ _ _ _ _ (.refl _) (.cons _ _ _ _ _ (.refl _) (.cons _ _ _ _ _ (.dead _) (.cons _ _ _ _ _ (.refl _) (.cons _ _ _ _ _ (.dead _) (.cons _ _ _ _ _ (.refl _) (.cons _ _ _ _ _ (.refl _) (.cons _ _ _ _ _ (.refl _) (.cons _ _ _ _ _ (.dead _) .nil))))))))))) (OLe.refl _)).trans (cmpS_ok rfl)) ⟨n, Nat.lt_succ_self n, _, h2058, rfl⟩
        · refine W_sound tab_ok mixed 9 _ _ _ ?_
          simp -implicitDefEqProofs only [go_sem, ne_eq, not_false_eq_true, Nat.reduceBEq, Nat.reduceAdd, Nat.reduceSub, Nat.reduceMul, Nat.reduceLT, Nat.reduceLeDiff, Int.reduceLE, Int.reduceLT, Int.reduceToNat, Int.reduceBEq, Int.reduceBNe, Int.le_refl, Nat.le_refl, decide_true, decide_false, Int.cast_ofNat_Int, ↓reduceIte, h2040, h2042]
          repeat with_reducible refine And.intro (by first | kernel_rfl | decide) ?_
          obtain rfl := Option.some.inj h2054
          exact cutQ _ ((Wk_le (.cons _ _ _ _ _ (.dead _) (.cons _ _ _ _ _ (.dead _) (.cons _ _ _ _ _ (.dead _) (.cons _ _ _ _ _ (.dead _) (.cons _ _ _ _ _ (.refl _) (.cons _ _ _ _ _ (.refl _) (.cons _ _ _ _ _ (.refl _) (.cons _ _ _ _ _ (.refl _) (.cons _ _ _ _ _ (.dead _) (.cons _ _ _ _ _ (.refl _) (.cons _ _ _ _ _ (.refl _) .nil))))))))))) (OLe.refl _)).trans (cmpS_ok rfl)) (by first | exact ⟨rfl, rfl⟩ | exact rfl)
    · rintro _ ⟨rfl, rfl⟩
      (try dsimp only at h2055)
      refine W_sound tab_ok mixed 1 _ _ _ ?_
      simp -implicitDefEqProofs only [go_sem, ne_eq, not_false_eq_true, Nat.reduceBEq, Nat.reduceAdd, Nat.reduceSub, Nat.reduceMul, Nat.reduceLT, Nat.reduceLeDiff, Int.reduceLE, Int.reduceLT, Int.reduceToNat, Int.reduceBEq, Int.reduceBNe, Int.le_refl, Nat.le_refl, decide_true, decide_false, Int.cast_ofNat_Int, ↓reduceIte, h2040]
      repeat with_reducible refine And.intro (by first | kernel_rfl | decide) ?_
      simp only [Option.some.injEq, Prod.mk.injEq] at h2055; obtain ⟨rfl, rfl⟩ := h2055
      exact finD (e2 := [(0, .dead), (1, .dead), (2, .dead), (6, .dead), (7, .dead), (8, .dead), (9, .dead), (13, .dead), (30, .dead), (35, .dead), (54, .dead)]) (ob2 := [(0, .p c2039), (1, .p [(.fn 81 []), (.fn 82 [])])]) (st' := ⟨[], [(0, .dead), (1, .dead), (2, .dead), (6, .dead), (7, .dead), (8, .dead), (9, .dead), (13, .dead), (30, .dead), (35, .dead), (54, .dead)], [(0, .p c2039), (1, .p [(.fn 81 []), (.fn 82 [])])], 2, []⟩) (.cons _ _ _ _ _ (.refl _) (.cons _ _ _ _ _ (.refl _) (.cons _ _ _ _ _ (.refl _) (.cons _ _ _ _ _ (.refl _) (.cons _ _ _ _ _ (.refl _) (.cons _ _ _ _ _ (.refl _) (.cons _ _ _ _ _ (.refl _) (.cons _ _ _ _ _ (.refl _) (.cons _ _ _ _ _ (.refl _) (.cons _ _ _ _ _ (.refl _) (.cons _ _ _ _ _ (.refl _) .nil))))))))))) (.cons _ _ _ _ _ (DLes.refl _) (.cons _ _ _ _ _ (DLes.refl _) .nil)) (by kernel_rfl) (by simp only [go_sem, ne_eq, not_false_eq_true, Nat.reduceBEq, Nat.reduceAdd, Nat.reduceSub, Nat.reduceMul, Nat.reduceLT, Nat.reduceLeDiff, Int.reduceLE, Int.reduceLT, Int.reduceToNat, Int.reduceBEq, Int.reduceBNe, Int.le_refl, Nat.le_refl, decide_true, decide_false, Int.cast_ofNat_Int, ↓reduceIte, resQ_tmp, resQ_cell, resQ_nil, retD_one, retD_two, retD_three, retD_none]; try simp [R.val, retD_one, retD_two, retD_three, retD_none])

def m83 (N : Nat) (n2064 : Nat) (p2065 : PV) (c2066 : List PV) : Option ((PV × List PV)) :=
  bnd' (m88 N n2064 ((n2064 : Nat) : Int) p2065 c2066) fun (p2068, c2070) =>
  getT0 p2068 <|
  some ((.tup []), c2070)
theorem c83 (N : Nat) (n2064 : Nat) (p2065 : PV) (c2066 : List PV) (r : PV) (c2073 : List PV) (h : m83 N n2064 p2065 c2066 = some (r, c2073)) : V.Fn Try.prog 83 2 [.sl false 0 0 n2064 1, .fn 84 [.ptr 1 0, .v (.ipt [p2065])]] [(0, .p c2066), (1, .p [(.fn 81 []), (.fn 82 [])])] (fun d ob' => d = .v r ∧ ob' = [(0, .p c2073), (1, .p [(.fn 81 []), (.fn 82 [])])]) := by
  unfold m83 at h
  refine Fn_of (sz := 9) tab_ok [0, 1] [] Try.func83 rfl rfl rfl (by simp) ?_
  simp only [initSt, initEnv, List.map_cons, List.map_nil, List.getD_cons_zero, List.getD_cons_succ, List.getD_nil]
  have hh := bnd'_some h; clear h; obtain ⟨⟨p2068, c2070⟩, h2069, h⟩ := hh
  (try dsimp only at h)
  refine W_sound tab_ok mixed 5 _ _ _ ?_
  simp -implicitDefEqProofs only [go_sem, ne_eq, not_false_eq_true, Nat.reduceBEq, Nat.reduceAdd, Nat.reduceSub, Nat.reduceMul, Nat.reduceLT, Nat.reduceLeDiff, Int.reduceLE, Int.reduceLT, Int.reduceToNat, Int.reduceBEq, Int.reduceBNe, Int.le_refl, Nat.le_refl, decide_true, decide_false, Int.cast_ofNat_Int, ↓reduceIte]
  repeat with_reducible refine And.intro (by first | kernel_rfl | decide) ?_
  refine Wp_callD [0, 1] (c88 N _ _ _ _ _ _ h2069) rfl rfl rfl (by first | rfl | (simp only [go_sem, ne_eq, not_false_eq_true, Nat.reduceBEq, Nat.reduceAdd, Nat.reduceSub, Nat.reduceMul, Nat.reduceLT, Nat.reduceLeDiff, Int.reduceLE, Int.reduceLT, Int.reduceToNat, Int.reduceBEq, Int.reduceBNe, Int.le_refl, Nat.le_refl, decide_true, decide_false, Int.cast_ofNat_Int, ↓reduceIte] <;> rfl)) rfl (by kernel_rfl) ?_
  have hh := getT0_some h; clear h; obtain ⟨h2071, h⟩ := hh
  refine W_sound tab_ok mixed 2 _ _ _ ?_
  simp -implicitDefEqProofs only [go_sem, ne_eq, not_false_eq_true, Nat.reduceBEq, Nat.reduceAdd, Nat.reduceSub, Nat.reduceMul, Nat.reduceLT, Nat.reduceLeDiff, Int.reduceLE, Int.reduceLT, Int.reduceToNat, Int.reduceBEq, Int.reduceBNe, Int.le_refl, Nat.le_refl, decide_true, decide_false, Int.cast_ofNat_Int, ↓reduceIte, h2071]
  repeat with_reducible refine And.intro (by first | kernel_rfl | decide) ?_
  simp only [Option.some.injEq, Prod.mk.injEq] at h; obtain ⟨rfl, rfl⟩ := h
  exact finD (e2 := [(0, .dead), (1, .dead)]) (ob2 := [(1, .p [(.fn 81 []), (.fn 82 [])]), (0, .p c2070)]) (st' := ⟨[], [(0, .dead), (1, .dead)], [(0, .p c2070), (1, .p [(.fn 81 []), (.fn 82 [])])], 2, []⟩) (.cons _ _ _ _ _ (.dead _) (.cons _ _ _ _ _ (.dead _) .nil)) (.cons _ _ _ _ _ (DLes.refl _) (.cons _ _ _ _ _ (DLes.refl _) .nil)) (by kernel_rfl) (by simp only [go_sem, ne_eq, not_false_eq_true, Nat.reduceBEq, Nat.reduceAdd, Nat.reduceSub, Nat.reduceMul, Nat.reduceLT, Nat.reduceLeDiff, Int.reduceLE, Int.reduceLT, Int.reduceToNat, Int.reduceBEq, Int.reduceBNe, Int.le_refl, Nat.le_refl, decide_true, decide_false, Int.cast_ofNat_Int, ↓reduceIte, resQ_tmp, resQ_cell, resQ_nil, retD_one, retD_two, retD_three, retD_none]; try simp [R.val, retD_one, retD_two, retD_three, retD_none])

def m65_L0 (N : Nat) (n1711 : Nat) (c1712 : List PV) : Nat → Int → List PV → Option (List PV)
  | 0, _, _ => none
  | n + 1, x1721, c1722 =>
    brn (decide (x1721 < ((n1711 : Nat) : Int))) (
      grd (0 ≤ x1721 ∧ x1721 < ((n1711 : Nat) : Int)) <|
      grd (((Int.toNat x1721) + 1) ≤ List.length c1722) <|
      m65_L0 N n1711 c1712 n (IntKind.i64.wrap (x1721 + 1)) (List.set c1722 (Int.toNat x1721) (.int .i64 x1721))) (
      some c1722)
def m65_L2 (N : Nat) (n1711 : Nat) (c1712 : List PV) (c2076 : List PV) (n2139 : Nat) (x2140 : Int) (c2141 : List PV) (x2147 : Int) : Nat → Int → Option (Int)
  | 0, _ => none
  | n + 1, x2165 =>
    brn (decide (x2165 > 1)) (
      grd (0 ≤ (IntKind.i64.wrap (x2165 - 2)) ∧ (IntKind.i64.wrap (x2165 - 2)) < ((n2139 : Nat) : Int)) <|
      grd ((Int.toNat (IntKind.i64.wrap (x2165 - 2))) < List.length c2141) <|
      getI .i64 (gp c2141 (Int.toNat (IntKind.i64.wrap (x2165 - 2)))) fun x2171 =>
      grd (0 ≤ x2171 ∧ x2171 < ((n1711 : Nat) : Int)) <|
      grd (2 ≤ List.length (List.drop ((Int.toNat x2171) * 2) c1712)) <|
      getA2 (.agg (List.take 2 (List.drop ((Int.toNat x2171) * 2) c1712))) fun p2176 p2177 =>
      grd (0 ≤ (IntKind.i64.wrap (x2165 - 1)) ∧ (IntKind.i64.wrap (x2165 - 1)) < ((n2139 : Nat) : Int)) <|
      grd ((Int.toNat (IntKind.i64.wrap (x2165 - 1))) < List.length c2141) <|
      getI .i64 (gp c2141 (Int.toNat (IntKind.i64.wrap (x2165 - 1)))) fun x2182 =>
      grd (0 ≤ x2182 ∧ x2182 < ((n1711 : Nat) : Int)) <|
      grd (2 ≤ List.length (List.drop ((Int.toNat x2182) * 2) c1712)) <|
      getA2 (.agg (List.take 2 (List.drop ((Int.toNat x2182) * 2) c1712))) fun p2187 p2188 =>
      grd (2 ≤ List.length (List.drop ((Int.toNat x2147) * 2) c1712)) <|
      getA2 (.agg (List.take 2 (List.drop ((Int.toNat x2147) * 2) c1712))) fun p2191 p2192 =>
      bnd' (m86 N (.agg [p2176, p2177]) (.agg [p2187, p2188]) (.agg [p2191, p2192])) fun p2193 =>
      getB p2193 fun b2196 =>
      brn b2196 (
        some x2165) (
        m65_L2 N n1711 c1712 c2076 n2139 x2140 c2141 x2147 n (IntKind.i64.wrap (x2165 - 1)))) (
      some x2165)
def m65_L3 (N : Nat) (n1711 : Nat) (c1712 : List PV) (c2076 : List PV) (n2139 : Nat) (x2140 : Int) (c2141 : List PV) (x2147 : Int) : Nat → Int → Option (Int)
  | 0, _ => none
  | n + 1, x2206 =>
    brn (decide (x2206 > 1)) (
      grd (0 ≤ (IntKind.i64.wrap (x2206 - 2)) ∧ (IntKind.i64.wrap (x2206 - 2)) < ((n2139 : Nat) : Int)) <|
      grd ((Int.toNat (IntKind.i64.wrap (x2206 - 2))) < List.length c2141) <|
      getI .i64 (gp c2141 (Int.toNat (IntKind.i64.wrap (x2206 - 2)))) fun x2212 =>
      grd (0 ≤ x2212 ∧ x2212 < ((n1711 : Nat) : Int)) <|
      grd (2 ≤ List.length (List.drop ((Int.toNat x2212) * 2) c1712)) <|
      getA2 (.agg (List.take 2 (List.drop ((Int.toNat x2212) * 2) c1712))) fun p2217 p2218 =>
      grd (0 ≤ (IntKind.i64.wrap (x2206 - 1)) ∧ (IntKind.i64.wrap (x2206 - 1)) < ((n2139 : Nat) : Int)) <|
      grd ((Int.toNat (IntKind.i64.wrap (x2206 - 1))) < List.length c2141) <|
      getI .i64 (gp c2141 (Int.toNat (IntKind.i64.wrap (x2206 - 1)))) fun x2223 =>
      grd (0 ≤ x2223 ∧ x2223 < ((n1711 : Nat) : Int)) <|
      grd (2 ≤ List.length (List.drop ((Int.toNat x2223) * 2) c1712)) <|
      getA2 (.agg (List.take 2 (List.drop ((Int.toNat x2223) * 2) c1712))) fun p2228 p2229 =>
      grd (0 ≤ x2147 ∧ x2147 < ((n1711 : Nat) : Int)) <|
      grd (2 ≤ List.length (List.drop ((Int.toNat x2147) * 2) c1712)) <|
      getA2 (.agg (List.take 2 (List.drop ((Int.toNat x2147) * 2) c1712))) fun p2234 p2235 =>
      bnd' (m86 N (.agg [p2217, p2218]) (.agg [p2228, p2229]) (.agg [p2234, p2235])) fun p2236 =>
      getB p2236 fun b2239 =>
      brn b2239 (
        some x2206) (
        m65_L3 N n1711 c1712 c2076 n2139 x2140 c2141 x2147 n (IntKind.i64.wrap (x2206 - 1)))) (
      some x2206)
def m65_L1 (N : Nat) (n1711 : Nat) (c1712 : List PV) (c2076 : List PV) : Nat → Nat → Int → List PV → Option ((Nat × List PV))
  | 0, _, _, _ => none
  | n + 1, n2139, x2140, c2141 =>
    brn (decide (x2140 < ((n1711 : Nat) : Int))) (
      grd (0 ≤ x2140 ∧ x2140 < ((n1711 : Nat) : Int)) <|
      grd ((Int.toNat x2140) < List.length c2076) <|
      getI .i64 (gp c2076 (Int.toNat x2140)) fun x2147 =>
      brn (decide (((n2139 : Nat) : Int) > 0)) (
        grd (0 ≤ (IntKind.i64.wrap (((n2139 : Nat) : Int) - 1)) ∧ (IntKind.i64.wrap (((n2139 : Nat) : Int) - 1)) < ((n2139 : Nat) : Int)) <|
        grd ((Int.toNat (IntKind.i64.wrap (((n2139 : Nat) : Int) - 1))) < List.length c2141) <|
        getI .i64 (gp c2141 (Int.toNat (IntKind.i64.wrap (((n2139 : Nat) : Int) - 1)))) fun x2153 =>
        grd (0 ≤ x2153 ∧ x2153 < ((n1711 : Nat) : Int)) <|
        grd (0 < List.length (List.drop 1 (List.drop ((Int.toNat x2153) * 2) c1712))) <|
        getI .i64 (gp c1712 (((Int.toNat x2153) * 2) + 1)) fun x2158 =>
        grd (0 ≤ x2147 ∧ x2147 < ((n1711 : Nat) : Int)) <|
        grd (0 < List.length (List.drop 1 (List.drop ((Int.toNat x2147) * 2) c1712))) <|
        getI .i64 (gp c1712 (((Int.toNat x2147) * 2) + 1)) fun x2163 =>
        brn (x2158 == x2163) (
          m65_L1 N n1711 c1712 c2076 n n2139 (IntKind.i64.wrap (x2140 + 1)) c2141) (
          bnd' (m65_L2 N n1711 c1712 c2076 n2139 x2140 c2141 x2147 N ((n2139 : Nat) : Int)) fun x2198 =>
          grd (0 ≤ x2198 ∧ x2198 ≤ ((n2139 : Nat) : Int)) <|
          brn (decide (((Int.toNat x2198) + 1) ≤ (n2139 - 0))) (
            grd (cutG ((Int.toNat x2198) + 1) c2141 ∧ (Int.toNat x2198) ≤ List.length c2141) <|
            m65_L1 N n1711 c1712 c2076 n ((Int.toNat x2198) + 1) (IntKind.i64.wrap (x2140 + 1)) ((List.take (Int.toNat x2198) c2141) ++ [(.int .i64 x2147)])) (
            grd (((Int.toNat x2198) + 1) ≤ 1099511627776 ∧ cutG (Int.toNat x2198) c2141) <|
            m65_L1 N n1711 c1712 c2076 n ((Int.toNat x2198) + 1) (IntKind.i64.wrap (x2140 + 1)) ((List.take (Int.toNat x2198) c2141) ++ [(.int .i64 x2147)])))) (
        bnd' (m65_L3 N n1711 c1712 c2076 n2139 x2140 c2141 x2147 N ((n2139 : Nat) : Int)) fun x2241 =>
        grd (0 ≤ x2241 ∧ x2241 ≤ ((n2139 : Nat) : Int)) <|
        brn (decide (((Int.toNat x2241) + 1) ≤ (n2139 - 0))) (
          grd (cutG ((Int.toNat x2241) + 1) c2141 ∧ (Int.toNat x2241) ≤ List.length c2141) <|
          m65_L1 N n1711 c1712 c2076 n ((Int.toNat x2241) + 1) (IntKind.i64.wrap (x2140 + 1)) ((List.take (Int.toNat x2241) c2141) ++ [(.int .i64 x2147)])) (
          grd (((Int.toNat x2241) + 1) ≤ 1099511627776 ∧ cutG (Int.toNat x2241) c2141) <|
          m65_L1 N n1711 c1712 c2076 n ((Int.toNat x2241) + 1) (IntKind.i64.wrap (x2140 + 1)) ((List.take (Int.toNat x2241) c2141) ++ [(.int .i64 x2147)])))) (
      some (n2139, c2141))
def m65 (N : Nat) (p1709 : PV) : Option (PV) :=
  getL p1709 fun n1711 c1712 =>
  grd (0 ≤ ((n1711 : Nat) : Int) ∧ ((n1711 : Nat) : Int) ≤ ((n1711 : Nat) : Int) ∧ ((n1711 : Nat) : Int) ≤ 1099511627776) <|
  bnd' (m65_L0 N n1711 c1712 N 0 (List.replicate n1711 (.int .i64 0))) fun c1727 =>
  bnd' (m83 N n1711 (.lst false n1711 c1712) c1727) fun (p2074, c2076) =>
  getT0 p2074 <|
  bnd' (m65_L1 N n1711 c1712 c2076 N 0 0 []) fun o =>
  match o with
  | (n2249, c2250) =>
    grd (List.length c2250 = n2249) <|
    some (.lst false n2249 c2250)
theorem c65 (N : Nat) (p1709 : PV) (r : PV)  (h : m65 N p1709 = some r) : FnP Try.prog 65 [p1709] r := by
  unfold m65 at h
  refine Fn_of (sz := 90) tab_ok [0, 1, 2, 3, 4, 5, 6, 8, 9, 15, 16, 17, 27, 28, 29, 30, 53, 79] [.tmp 2] Try.func65 rfl rfl rfl (by simp) ?_
  simp only [initSt, initEnv, List.map_cons, List.map_nil, List.getD_cons_zero, List.getD_cons_succ, List.getD_nil]
  have hh := getL_some h; clear h; obtain ⟨n1711, c1712, h1710, h⟩ := hh
  have hh := grd_some h; clear h; obtain ⟨⟨g1713, g1714, g1715⟩, h⟩ := hh
  refine W_sound tab_ok mixed 25 _ _ _ ?_
  simp -implicitDefEqProofs only [go_sem, ne_eq, not_false_eq_true, Nat.reduceBEq, Nat.reduceAdd, Nat.reduceSub, Nat.reduceMul, Nat.reduceLT, Nat.reduceLeDiff, Int.reduceLE, Int.reduceLT, Int.reduceToNat, Int.reduceBEq, Int.reduceBNe, Int.le_refl, Nat.le_refl, decide_true, decide_false, Int.cast_ofNat_Int, ↓reduceIte, h1710, g1713, g1714, g1715]
  repeat with_reducible refine And.intro (by first | kernel_rfl | decide) ?_
  have hh := bnd'_some h; clear h; obtain ⟨o2252, h2253, h2254⟩ := hh
  refine Wp_cut (fun s => ∃ c1727, c1727 = o2252 ∧ s = ⟨[], [(0, .dead), (1, .ptr 0 0), (2, .dead), (3, .ptr 1 0), (4, .sl false 2 0 n1711 1), (5, .dead), (6, .dead), (8, .dead), (9, .dead), (15, .dead), (16, .dead), (17, .dead), (27, .dead), (28, .dead), (29, .dead), (30, .dead), (53, .dead), (79, .dead)], [(0, .p [(.lst false n1711 c1712)]), (1, .r [.v (.fn 81 []), .v (.fn 82 [])]), (2, .p c1727)], 3, []⟩) ?_ ?_
  · refine Wp_block ?_
    refine Wp_loopG (fun n s => ∃ x1721, ∃ c1722, m65_L0 N n1711 c1712 n x1721 c1722 = some o2252 ∧ s = ⟨[], [(0, .dead), (1, .ptr 0 0), (2, .dead), (3, .ptr 1 0), (4, .sl false 2 0 n1711 1), (5, .dead), (6, .dead), (8, .dead), (9, .dead), (15, .v (.int .i64 ((n1711 : Nat) : Int))), (16, .v (.int .i64 x1721)), (17, .dead), (27, .dead), (28, .dead), (29, .dead), (30, .dead), (53, .dead), (79, .dead)], [(0, .p [(.lst false n1711 c1712)]), (1, .r [.v (.fn 81 []), .v (.fn 82 [])]), (2, .p c1722)], 3, []⟩) N _ ((Wk_le (.cons _ _ _ _ _ (.dead _) (.cons _ _ _ _ _ (.refl _) (.cons _ _ _ _ _ (.dead _) (.cons _ _ _ _ _ (.refl _) (.cons _ _ _ _ _ (.refl _) (.cons _ _ _ _ _ (.refl _) (.cons _ _ _ _ _ (.refl _) (.cons _ _ _ _ _ (.refl _) (.cons _ _ _ _ _ (.refl _) (.cons _ _ _ _ _ (.refl _) (.cons _ _ _ _ _ (.refl _) (.cons _ _ _ _ _ (.refl _) (.cons _ _ _ _ _ (.refl _) (.cons _ _ _ _ _ (.refl _) (.cons _ _ _ _ _ (.refl _) (.cons _ _ _ _ _ (.refl _) (.cons _ _ _ _ _ (.refl _) (.cons _ _ _ _ _ (.refl _) .nil)))))))))))))))))) (OLe.refl _)).trans (cmpS_ok rfl)) ⟨_, _, h2253, rfl⟩ ?_
    clear h2253
    rintro n _ ⟨x1721, c1722, h2253, rfl⟩
    cases n with
    | zero => cases h2253
    | succ n =>
      rw [m65_L0] at h2253
      have hh := brn_some h2253; clear h2253; rcases hh with ⟨h1723, h2253⟩ | ⟨h1723, h2253⟩
      · have hh := grd_some h2253; clear h2253; obtain ⟨⟨g1724, g1725⟩, h2253⟩ := hh
        have hh := grd_some h2253; clear h2253; obtain ⟨g1726, h2253⟩ := hh
        refine W_sound tab_ok mixed 26 _ _ _ ?_
        simp -implicitDefEqProofs only [go_sem, ne_eq, not_false_eq_true, Nat.reduceBEq, Nat.reduceAdd, Nat.reduceSub, Nat.reduceMul, Nat.reduceLT, Nat.reduceLeDiff, Int.reduceLE, Int.reduceLT, Int.reduceToNat, Int.reduceBEq, Int.reduceBNe, Int.le_refl, Nat.le_refl, decide_true, decide_false, Int.cast_ofNat_Int, ↓reduceIte, h1710, g1713, g1714, g1715, h1723, g1724, g1725, g1726]
        repeat with_reducible refine And.intro (by first | kernel_rfl | decide) ?_
        exact cutQ _ ((Wk_le (.cons _ _ _ _ _ (.refl _) (.cons _ _ _ _ _ (.refl _) (.cons _ _ _ _ _ (.refl _) (.cons _ _ _ _ _ (.refl _) (.cons _ _ _ _ _ (.refl _) (.cons _ _ _ _ _ (.dead _) (.cons _ _ _ _ _ (.refl _) (.cons _ _ _ _ _ (.refl _) (.cons _ _ _ _ _ (.refl _) (.cons _ _ _ _ _ (.refl _) (.cons _ _ _ _ _ (.refl _) (.cons _ _ _ _ _ (.dead _) (.cons _ _ _ _ _ (.refl _) (.cons _ _ _ _ _ (.refl _) (.cons _ _ _ _ _ (.refl _) (.cons _ _ _ _ _ (.refl _) (.cons _ _ _ _ _ (.refl _) (.cons _ _ _ _ _ (.refl _) .nil)))))))))))))))))) (OLe.refl _)).trans (cmpS_ok rfl)) ⟨n, Nat.lt_succ_self n, _, _, h2253, rfl⟩
      · refine W_sound tab_ok mixed 7 _ _ _ ?_
        simp -implicitDefEqProofs only [go_sem, ne_eq, not_false_eq_true, Nat.reduceBEq, Nat.reduceAdd, Nat.reduceSub, Nat.reduceMul, Nat.reduceLT, Nat.reduceLeDiff, Int.reduceLE, Int.reduceLT, Int.reduceToNat, Int.reduceBEq, Int.reduceBNe, Int.le_refl, Nat.le_refl, decide_true, decide_false, Int.cast_ofNat_Int, ↓reduceIte, h1710, g1713, g1714, g1715, h1723]
        repeat with_reducible refine And.intro (by first | kernel_rfl | decide) ?_
        obtain rfl := Option.some.inj h2253
        exact cutQ _ ((Wk_le (.cons _ _ _ _ _ (.refl _) (.cons _ _ _ _ _ (.refl _) (.cons _ _ _ _ _ (.refl _) (.cons _ _ _ _ _ (.refl _) (.cons _ _ _ _ _ (.refl _) (.cons _ _ _ _ _ (.refl _) (.cons _ _ _ _ _ (.refl _) (.cons _ _ _ _ _ (.refl _) (.cons _ _ _ _ _ (.refl _) (.cons _ _ _ _ _ (.dead _) (.cons _ _ _ _ _ (.dead _) (.cons _ _ _ _ _ (.dead _) (.cons _ _ _ _ _ (.refl _) (.cons _ _ _ _ _ (.refl _) (.cons _ _ _ _ _ (.refl _) (.cons _ _ _ _ _ (.refl _) (.cons _ _ _ _ _ (.refl _) (.cons _ _ _ _ _ (.refl _) .nil)))))))))))))))))) (OLe.refl _)).trans (cmpS_ok rfl)) ⟨_, rfl, rfl⟩
  · rintro _ ⟨c1727, rfl, rfl⟩
    refine W_sound tab_ok mixed 1 _ _ _ ?_
    simp -implicitDefEqProofs only [go_sem, ne_eq, not_false_eq_true, Nat.reduceBEq, Nat.reduceAdd, Nat.reduceSub, Nat.reduceMul, Nat.reduceLT, Nat.reduceLeDiff, Int.reduceLE, Int.reduceLT, Int.reduceToNat, Int.reduceBEq, Int.reduceBNe, Int.le_refl, Nat.le_refl, decide_true, decide_false, Int.cast_ofNat_Int, ↓reduceIte, h1710, g1713, g1714, g1715]
    repeat with_reducible refine And.intro (by first | kernel_rfl | decide) ?_
    refine Wp_wkK (Wk_freeze 0 [(.lst false n1711 c1712)] (by rfl) (by decide) (by decide)) rfl ?_
    simp -implicitDefEqProofs only [go_sem, ne_eq, not_false_eq_true, Nat.reduceBEq, Nat.reduceAdd, Nat.reduceSub, Nat.reduceMul, Nat.reduceLT, Nat.reduceLeDiff, Int.reduceLE, Int.reduceLT, Int.reduceToNat, Int.reduceBEq, Int.reduceBNe, Int.le_refl, Nat.le_refl, decide_true, decide_false, Int.cast_ofNat_Int, ↓reduceIte, h1710, g1713, g1714, g1715]
    have hh := bnd'_some h2254; clear h2254; obtain ⟨⟨p2074, c2076⟩, h2075, h2254⟩ := hh
    (try dsimp only at h2254)
    refine W_sound tab_ok mixed 3 _ _ _ ?_
    simp -implicitDefEqProofs only [go_sem, ne_eq, not_false_eq_true, Nat.reduceBEq, Nat.reduceAdd, Nat.reduceSub, Nat.reduceMul, Nat.reduceLT, Nat.reduceLeDiff, Int.reduceLE, Int.reduceLT, Int.reduceToNat, Int.reduceBEq, Int.reduceBNe, Int.le_refl, Nat.le_refl, decide_true, decide_false, Int.cast_ofNat_Int, ↓reduceIte, h1710, g1713, g1714, g1715]
    repeat with_reducible refine And.intro (by first | kernel_rfl | decide) ?_
    refine Wp_callD [2, 1] (c83 N _ _ _ _ _ h2075) rfl rfl rfl (by first | rfl | (simp only [go_sem, ne_eq, not_false_eq_true, Nat.reduceBEq, Nat.reduceAdd, Nat.reduceSub, Nat.reduceMul, Nat.reduceLT, Nat.reduceLeDiff, Int.reduceLE, Int.reduceLT, Int.reduceToNat, Int.reduceBEq, Int.reduceBNe, Int.le_refl, Nat.le_refl, decide_true, decide_false, Int.cast_ofNat_Int, ↓reduceIte, h1710, g1713, g1714, g1715] <;> rfl)) rfl (by kernel_rfl) ?_
    have hh := getT0_some h2254; clear h2254; obtain ⟨h2077, h2254⟩ := hh
    refine W_sound tab_ok mixed 12 _ _ _ ?_
    simp -implicitDefEqProofs only [go_sem, ne_eq, not_false_eq_true, Nat.reduceBEq, Nat.reduceAdd, Nat.reduceSub, Nat.reduceMul, Nat.reduceLT, Nat.reduceLeDiff, Int.reduceLE, Int.reduceLT, Int.reduceToNat, Int.reduceBEq, Int.reduceBNe, Int.le_refl, Nat.le_refl, decide_true, decide_false, Int.cast_ofNat_Int, ↓reduceIte, h1710, g1713, g1714, g1715, h2077]
    repeat with_reducible refine And.intro (by first | kernel_rfl | decide) ?_
    refine Wp_weaken (Wk_ownS 6 1 rfl (by decide) (by decide)) ?_
    simp -implicitDefEqProofs only [go_sem, ne_eq, not_false_eq_true, Nat.reduceBEq, Nat.reduceAdd, Nat.reduceSub, Nat.reduceMul, Nat.reduceLT, Nat.reduceLeDiff, Int.reduceLE, Int.reduceLT, Int.reduceToNat, Int.reduceBEq, Int.reduceBNe, Int.le_refl, Nat.le_refl, decide_true, decide_false, Int.cast_ofNat_Int, ↓reduceIte, h1710, g1713, g1714, g1715, h2077]
    have hh := bnd'_some h2254; clear h2254; obtain ⟨o2255, h2256, h2257⟩ := hh
    refine Wp_cut (fun s => ∃ n2249, ∃ c2250, (n2249, c2250) = o2255 ∧ s = ⟨[], [(0, .dead), (1, .dead), (2, .dead), (3, .dead), (4, .dead), (5, .dead), (6, .sl false 0 0 n2249 1), (8, .dead), (9, .dead), (15, .dead), (16, .dead), (17, .dead), (27, .dead), (28, .dead), (29, .dead), (30, .dead), (53, .dead), (79, .dead)], [(0, .p c2250)], 1, []⟩) ?_ ?_
    · refine Wp_block ?_
      refine Wp_loopG (fun n s => ∃ n2139, ∃ x2140, ∃ c2141, m65_L1 N n1711 c1712 c2076 n n2139 x2140 c2141 = some o2255 ∧ s = ⟨[], [(0, .dead), (1, .v (.ipt [(.lst false n1711 c1712)])), (2, .dead), (3, .dead), (4, .dead), (5, .dead), (6, .sl false 0 0 n2139 1), (8, .dead), (9, .dead), (15, .dead), (16, .dead), (17, .dead), (27, .sl false 1 0 n1711 1), (28, .v (.int .i64 ((n1711 : Nat) : Int))), (29, .v (.int .i64 x2140)), (30, .dead), (53, .dead), (79, .dead)], [(0, .p c2141), (1, .p c2076)], 2, []⟩) N _ ((Wk_le (.cons _ _ _ _ _ (.refl _) (.cons _ _ _ _ _ (.refl _) (.cons _ _ _ _ _ (.refl _) (.cons _ _ _ _ _ (.dead _) (.cons _ _ _ _ _ (.dead _) (.cons _ _ _ _ _ (.refl _) (.cons _ _ _ _ _ (.refl _) (.cons _ _ _ _ _ (.refl _) (.cons _ _ _ _ _ (.refl _) (.cons _ _ _ _ _ (.refl _) (.cons _ _ _ _ _ (.refl _) (.cons _ _ _ _ _ (.refl _) (.cons _ _ _ _ _ (.refl _) (.cons _ _ _ _ _ (.refl _) (.cons _ _ _ _ _ (.refl _) (.cons _ _ _ _ _ (.refl _) (.cons _ _ _ _ _ (.refl _) (.cons _ _ _ _ _ (.refl _) .nil)))))))))))))))))) (OLe.refl _)).trans (cmpS_ok rfl)) ⟨_, _, _, h2256, rfl⟩ ?_
      clear h2256
      rintro n _ ⟨n2139, x2140, c2141, h2256, rfl⟩
      cases n with
      | zero => cases h2256
      | succ n =>
        rw [m65_L1] at h2256
        have hh := brn_some h2256; clear h2256; rcases hh with ⟨h2142, h2256⟩ | ⟨h2142, h2256⟩
        · have hh := grd_some h2256; clear h2256; obtain ⟨⟨g2143, g2144⟩, h2256⟩ := hh
          have hh := grd_some h2256; clear h2256; obtain ⟨g2145, h2256⟩ := hh
          have hh := getI_some h2256; clear h2256; obtain ⟨x2147, h2146, h2256⟩ := hh
          have hh := brn_some h2256; clear h2256; rcases hh with ⟨h2148, h2256⟩ | ⟨h2148, h2256⟩
          · have hh := grd_some h2256; clear h2256; obtain ⟨⟨g2149, g2150⟩, h2256⟩ := hh
            have hh := grd_some h2256; clear h2256; obtain ⟨g2151, h2256⟩ := hh
            have hh := getI_some h2256; clear h2256; obtain ⟨x2153, h2152, h2256⟩ := hh
            have hh := grd_some h2256; clear h2256; obtain ⟨⟨g2154, g2155⟩, h2256⟩ := hh
            have hh := grd_some h2256; clear h2256; obtain ⟨g2156, h2256⟩ := hh
            have hh := getI_some h2256; clear h2256; obtain ⟨x2158, h2157, h2256⟩ := hh
            have hh := grd_some h2256; clear h2256; obtain ⟨⟨g2159, g2160⟩, h2256⟩ := hh
            have hh := grd_some h2256; clear h2256; obtain ⟨g2161, h2256⟩ := hh
            have hh := getI_some h2256; clear h2256; obtain ⟨x2163, h2162, h2256⟩ := hh
            have hh := brn_some h2256; clear h2256; rcases hh with ⟨h2164, h2256⟩ | ⟨h2164, h2256⟩
            · refine W_sound tab_ok mixed 50 _ _ _ ?_
              simp -implicitDefEqProofs only [go_sem, ne_eq, not_false_eq_true, Nat.reduceBEq, Nat.reduceAdd, Nat.reduceSub, Nat.reduceMul, Nat.reduceLT, Nat.reduceLeDiff, Int.reduceLE, Int.reduceLT, Int.reduceToNat, Int.reduceBEq, Int.reduceBNe, Int.le_refl, Nat.le_refl, decide_true, decide_false, Int.cast_ofNat_Int, ↓reduceIte, h1710, g1713, g1714, g1715, h2077, h2142, g2143, g2144, g2145, h2146, h2148, g2149, g2150, g2151, h2152, g2154, g2155, g2156, h2157, g2159, g2160, g2161, h2162, h2164]
              repeat with_reducible refine And.intro (by first | kernel_rfl | decide) ?_
              exact cutQ _ ((Wk_le (.cons _ _ _ _ _ (.refl _) (.cons _ _ _ _ _ (.refl _) (.cons _ _ _ _ _ (.refl _) (.cons _ _ _ _ _ (.refl _) (.cons _ _ _ _ _ (.refl _) (.cons _ _ _ _ _ (.refl _) (.cons _ _ _ _ _ (.refl _) (.cons _ _ _ _ _ (.dead _) (.cons _ _ _ _ _ (.dead _) (.cons _ _ _ _ _ (.refl _) (.cons _ _ _ _ _ (.refl _) (.cons _ _ _ _ _ (.refl _) (.cons _ _ _ _ _ (.refl _) (.cons _ _ _ _ _ (.refl _) (.cons _ _ _ _ _ (.refl _) (.cons _ _ _ _ _ (.dead _) (.cons _ _ _ _ _ (.dead _) (.cons _ _ _ _ _ (.refl _) .nil)))))))))))))))))) (OLe.refl _)).trans (cmpS_ok rfl)) ⟨n, Nat.lt_succ_self n, _, _, _, h2256, rfl⟩
            · refine W_sound tab_ok mixed 47 _ _ _ ?_
              simp -implicitDefEqProofs only [go_sem, ne_eq, not_false_eq_true, Nat.reduceBEq, Nat.reduceAdd, Nat.reduceSub, Nat.reduceMul, Nat.reduceLT, Nat.reduceLeDiff, Int.reduceLE, Int.reduceLT, Int.reduceToNat, Int.reduceBEq, Int.reduceBNe, Int.le_refl, Nat.le_refl, decide_true, decide_false, Int.cast_ofNat_Int, ↓reduceIte, h1710, g1713, g1714, g1715, h2077, h2142, g2143, g2144, g2145, h2146, h2148, g2149, g2150, g2151, h2152, g2154, g2155, g2156, h2157, g2159, g2160, g2161, h2162, h2164]
              repeat with_reducible refine And.intro (by first | kernel_rfl | decide) ?_
              have hh := bnd'_some h2256; clear h2256; obtain ⟨o2258, h2259, h2260⟩ := hh
              refine Wp_cut (fun s => ∃ x2198, x2198 = o2258 ∧ s = ⟨[], [(0, .dead), (1, .v (.ipt [(.lst false n1711 c1712)])), (2, .dead), (3, .dead), (4, .dead), (5, .dead), (6, .sl false 0 0 n2139 1), (8, .v (.int .i64 x2147)), (9, .v (.int .i64 x2198)), (15, .dead), (16, .dead), (17, .dead), (27, .sl false 1 0 n1711 1), (28, .v (.int .i64 ((n1711 : Nat) : Int))), (29, .v (.int .i64 x2140)), (30, .dead), (53, .dead), (79, .dead)], [(0, .p c2141), (1, .p c2076)], 2, []⟩) ?_ ?_
              · refine Wp_block ?_
                refine Wp_loopG (fun n s => ∃ x2165, m65_L2 N n1711 c1712 c2076 n2139 x2140 c2141 x2147 n x2165 = some o2258 ∧ s = ⟨[], [(0, .dead), (1, .v (.ipt [(.lst false n1711 c1712)])), (2, .dead), (3, .dead), (4, .dead), (5, .dead), (6, .sl false 0 0 n2139 1), (8, .v (.int .i64 x2147)), (9, .v (.int .i64 x2165)), (15, .dead), (16, .dead), (17, .dead), (27, .sl false 1 0 n1711 1), (28, .v (.int .i64 ((n1711 : Nat) : Int))), (29, .v (.int .i64 x2140)), (30, .dead), (53, .dead), (79, .dead)], [(0, .p c2141), (1, .p c2076)], 2, []⟩) N _ ((Wk_le (.cons _ _ _ _ _ (.refl _) (.cons _ _ _ _ _ (.refl _) (.cons _ _ _ _ _ (.refl _) (.cons _ _ _ _ _ (.refl _) (.cons _ _ _ _ _ (.refl _) (.cons _ _ _ _ _ (.refl _) (.cons _ _ _ _ _ (.refl _) (.cons _ _ _ _ _ (.refl _) (.cons _ _ _ _ _ (.refl _) (.cons _ _ _ _ _ (.refl _) (.cons _ _ _ _ _ (.refl _) (.cons _ _ _ _ _ (.refl _) (.cons _ _ _ _ _ (.refl _) (.cons _ _ _ _ _ (.refl _) (.cons _ _ _ _ _ (.refl _) (.cons _ _ _ _ _ (.dead _) (.cons _ _ _ _ _ (.dead _) (.cons _ _ _ _ _ (.refl _) .nil)))))))))))))))))) (OLe.refl _)).trans (cmpS_ok rfl)) ⟨_, h2259, rfl⟩ ?_
                clear h2259
                rintro n _ ⟨x2165, h2259, rfl⟩
                cases n with
                | zero => cases h2259
                | succ n =>
                  rw [m65_L2] at h2259
                  have hh := brn_some h2259; clear h2259; rcases hh with ⟨h2166, h2259⟩ | ⟨h2166, h2259⟩
                  · have hh := grd_some h2259; clear h2259; obtain ⟨⟨g2167, g2168⟩, h2259⟩ := hh
                    have hh := grd_some h2259; clear h2259; obtain ⟨g2169, h2259⟩ := hh
                    have hh := getI_some h2259; clear h2259; obtain ⟨x2171, h2170, h2259⟩ := hh
                    have hh := grd_some h2259; clear h2259; obtain ⟨⟨g2172, g2173⟩, h2259⟩ := hh
                    have hh := grd_some h2259; clear h2259; obtain ⟨g2174, h2259⟩ := hh
                    have hh := getA2_some h2259; clear h2259; obtain ⟨p2176, p2177, h2175, h2259⟩ := hh
                    injection h2175 with h2175
                    have hh := grd_some h2259; clear h2259; obtain ⟨⟨g2178, g2179⟩, h2259⟩ := hh
                    have hh := grd_some h2259; clear h2259; obtain ⟨g2180, h2259⟩ := hh
                    have hh := getI_some h2259; clear h2259; obtain ⟨x2182, h2181, h2259⟩ := hh
                    have hh := grd_some h2259; clear h2259; obtain ⟨⟨g2183, g2184⟩, h2259⟩ := hh
                    have hh := grd_some h2259; clear h2259; obtain ⟨g2185, h2259⟩ := hh
                    have hh := getA2_some h2259; clear h2259; obtain ⟨p2187, p2188, h2186, h2259⟩ := hh
                    injection h2186 with h2186
                    have hh := grd_some h2259; clear h2259; obtain ⟨g2189, h2259⟩ := hh
                    have hh := getA2_some h2259; clear h2259; obtain ⟨p2191, p2192, h2190, h2259⟩ := hh
                    injection h2190 with h2190
                    have hh := bnd'_some h2259; clear h2259; obtain ⟨p2193, h2194, h2259⟩ := hh
                    refine W_sound tab_ok mixed 26 _ _ _ ?_
                    simp -implicitDefEqProofs only [go_sem, ne_eq, not_false_eq_true, Nat.reduceBEq, Nat.reduceAdd, Nat.reduceSub, Nat.reduceMul, Nat.reduceLT, Nat.reduceLeDiff, Int.reduceLE, Int.reduceLT, Int.reduceToNat, Int.reduceBEq, Int.reduceBNe, Int.le_refl, Nat.le_refl, decide_true, decide_false, Int.cast_ofNat_Int, ↓reduceIte, h1710, g1713, g1714, g1715, h2077, h2142, g2143, g2144, g2145, h2146, h2148, g2149, g2150, g2151, h2152, g2154, g2155, g2156, h2157, g2159, g2160, g2161, h2162, h2164, h2166, g2167, g2168, g2169, h2170, g2172, g2173, g2174, h2175, g2178, g2179, g2180, h2181, g2183, g2184, g2185, h2186, g2189, h2190]
                    repeat with_reducible refine And.intro (by first | kernel_rfl | decide) ?_
                    refine Wp_callP (c86 N _ _ _ _ h2194) (by kernel_rfl) rfl rfl rfl rfl (by decide) ?_
                    have hh := getB_some h2259; clear h2259; obtain ⟨b2196, h2195, h2259⟩ := hh
                    have hh := brn_some h2259; clear h2259; rcases hh with ⟨h2197, h2259⟩ | ⟨h2197, h2259⟩
                    · refine W_sound tab_ok mixed 5 _ _ _ ?_
                      simp -implicitDefEqProofs only [go_sem, ne_eq, not_false_eq_true, Nat.reduceBEq, Nat.reduceAdd, Nat.reduceSub, Nat.reduceMul, Nat.reduceLT, Nat.reduceLeDiff, Int.reduceLE, Int.reduceLT, Int.reduceToNat, Int.reduceBEq, Int.reduceBNe, Int.le_refl, Nat.le_refl, decide_true, decide_false, Int.cast_ofNat_Int, ↓reduceIte, h1710, g1713, g1714, g1715, h2077, h2142, g2143, g2144, g2145, h2146, h2148, g2149, g2150, g2151, h2152, g2154, g2155, g2156, h2157, g2159, g2160, g2161, h2162, h2164, h2166, g2167, g2168, g2169, h2170, g2172, g2173, g2174, h2175, g2178, g2179, g2180, h2181, g2183, g2184, g2185, h2186, g2189, h2190, h2195, h2197]
                      repeat with_reducible refine And.intro (by first | kernel_rfl | decide) ?_
                      obtain rfl := Option.some.inj h2259
                      exact cutQ _ ((Wk_le (.cons _ _ _ _ _ (.refl _) (.cons _ _ _ _ _ (.refl _) (.cons _ _ _ _ _ (.refl _) (.cons _ _ _ _ _ (.refl _) (.cons _ _ _ _ _ (.refl _) (.cons _ _ _ _ _ (.refl _) (.cons _ _ _ _ _ (.refl _) (.cons _ _ _ _ _ (.refl _) (.cons _ _ _ _ _ (.refl _) (.cons _ _ _ _ _ (.refl _) (.cons _ _ _ _ _ (.refl _) (.cons _ _ _ _ _ (.refl _) (.cons _ _ _ _ _ (.refl _) (.cons _ _ _ _ _ (.refl _) (.cons _ _ _ _ _ (.refl _) (.cons _ _ _ _ _ (.refl _) (.cons _ _ _ _ _ (.refl _) (.cons _ _ _ _ _ (.dead _) .nil)))))))))))))))))) (OLe.refl _)).trans (cmpS_ok rfl)) ⟨_, rfl, rfl⟩
                    · refine W_sound tab_ok mixed 14 _ _ _ ?_
                      simp -implicitDefEqProofs only [go_sem, ne_eq, not_false_eq_true, Nat.reduceBEq, Nat.reduceAdd, Nat.reduceSub, Nat.reduceMul, Nat.reduceLT, Nat.reduceLeDiff, Int.reduceLE, Int.reduceLT, Int.reduceToNat, Int.reduceBEq, Int.reduceBNe, Int.le_refl, Nat.le_refl, decide_true, decide_false, Int.cast_ofNat_Int, ↓reduceIte, h1710, g1713, g1714, g1715, h2077, h2142, g2143, g2144, g2145, h2146, h2148, g2149, g2150, g2151, h2152, g2154, g2155, g2156, h2157, g2159, g2160, g2161, h2162, h2164, h2166, g2167, g2168, g2169, h2170, g2172, g2173, g2174, h2175, g2178, g2179, g2180, h2181, g2183, g2184, g2185, h2186, g2189, h2190, h2195, h2197]
                      repeat with_reducible refine And.intro (by first | kernel_rfl | decide) ?_
                      exact cutQ _ ((Wk_le (.cons _ _ _ _ _ (.refl _) (.cons _ _ _ _ _ (.refl _) (.cons _ _ _ _ _ (.refl _) (.cons _ _ _ _ _ (.refl _) (.cons _ _ _ _ _ (.refl _) (.cons _ _ _ _ _ (.refl _) (.cons _ _ _ _ _ (.refl _) (.cons _ _ _ _ _ (.refl _) (.cons _ _ _ _ _ (.refl _) (.cons _ _ _ _ _ (.refl _) (.cons _ _ _ _ _ (.refl _) (.cons _ _ _ _ _ (.refl _) (.cons _ _ _ _ _ (.refl _) (.cons _ _ _ _ _ (.refl _) (.cons _ _ _ _ _ (.refl _) (.cons _ _ _ _ _ (.refl _) (.cons _ _ _ _ _ (.refl _) (.cons _ _ _ _ _ (.dead _) .nil)))))))))))))))))) (OLe.refl _)).trans (cmpS_ok rfl)) ⟨n, Nat.lt_succ_self n, _, h2259, rfl⟩
                  · refine W_sound tab_ok mixed 32 _ _ _ ?_
                    simp -implicitDefEqProofs only [go_sem, ne_eq, not_false_eq_true, Nat.reduceBEq, Nat.reduceAdd, Nat.reduceSub, Nat.reduceMul, Nat.reduceLT, Nat.reduceLeDiff, Int.reduceLE, Int.reduceLT, Int.reduceToNat, Int.reduceBEq, Int.reduceBNe, Int.le_refl, Nat.le_refl, decide_true, decide_false, Int.cast_ofNat_Int, ↓reduceIte, h1710, g1713, g1714, g1715, h2077, h2142, g2143, g2144, g2145, h2146, h2148, g2149, g2150, g2151, h2152, g2154, g2155, g2156, h2157, g2159, g2160, g2161, h2162, h2164, h2166]
                    repeat with_reducible refine And.intro (by first | kernel_rfl | decide) ?_
                    obtain rfl := Option.some.inj h2259
                    exact cutQ _ ((Wk_le (.cons _ _ _ _ _ (.refl _) (.cons _ _ _ _ _ (.refl _) (.cons _ _ _ _ _ (.refl _) (.cons _ _ _ _ _ (.refl _) (.cons _ _ _ _ _ (.refl _) (.cons _ _ _ _ _ (.refl _) (.cons _ _ _ _ _ (.refl _) (.cons _ _ _ _ _ (.refl _) (.cons _ _ _ _ _ (.refl _) (.cons _ _ _ _ _ (.refl _) (.cons _ _ _ _ _ (.refl _) (.cons _ _ _ _ _ (.refl _) (.cons _ _ _ _ _ (.refl _) (.cons _ _ _ _ _ (.refl _) (.cons _ _ _ _ _ (.refl _) (.cons _ _ _ _ _ (.refl _) (.cons _ _ _ _ _ (.refl _) (.cons _ _ _ _ _ (.dead _) .nil)))))))))))))))))) (OLe.refl _)).trans (cmpS_ok rfl)) ⟨_, rfl, rfl⟩
              · rintro _ ⟨x2198, rfl, rfl⟩
                have hh := grd_some h2260; clear h2260; obtain ⟨⟨g2199, g2200⟩, h2260⟩ := hh
                have hh := brn_some h2260; clear h2260; rcases hh with ⟨h2201, h2260⟩ | ⟨h2201, h2260⟩
                · have hh := grd_some h2260; clear h2260; obtain ⟨⟨g2202, g2203⟩, h2260⟩ := hh
                  refine W_sound tab_ok mixed 9 _ _ _ ?_
                  simp -implicitDefEqProofs only [go_sem, ne_eq, not_false_eq_true, Nat.reduceBEq, Nat.reduceAdd, Nat.reduceSub, Nat.reduceMul, Nat.reduceLT, Nat.reduceLeDiff, Int.reduceLE, Int.reduceLT, Int.reduceToNat, Int.reduceBEq, Int.reduceBNe, Int.le_refl, Nat.le_refl, decide_true, decide_false, Int.cast_ofNat_Int, ↓reduceIte, h1710, g1713, g1714, g1715, h2077, h2142, g2143, g2144, g2145, h2146, h2148, g2149, g2150, g2151, h2152, g2154, g2155, g2156, h2157, g2159, g2160, g2161, h2162, h2164, g2199, g2200, h2201, g2202, g2203, cutG_le, extO_cut, set_cut1, normE, trimO]
                  repeat with_reducible refine And.intro (by first | kernel_rfl | decide) ?_
                  refine Wp_wkK Wk_norm rfl ?_
                  simp -implicitDefEqProofs only [go_sem, ne_eq, not_false_eq_true, Nat.reduceBEq, Nat.reduceAdd, Nat.reduceSub, Nat.reduceMul, Nat.reduceLT, Nat.reduceLeDiff, Int.reduceLE, Int.reduceLT, Int.reduceToNat, Int.reduceBEq, Int.reduceBNe, Int.le_refl, Nat.le_refl, decide_true, decide_false, Int.cast_ofNat_Int, ↓reduceIte, normE, h1710, g1713, g1714, g1715, h2077, h2142, g2143, g2144, g2145, h2146, h2148, g2149, g2150, g2151, h2152, g2154, g2155, g2156, h2157, g2159, g2160, g2161, h2162, h2164, g2199, g2200, h2201, g2202, g2203, cutG_le, extO_cut, set_cut1, normE, trimO]
                  refine Wp_wkK (Wk_trim 0 ((Int.toNat x2198) + 1)) rfl ?_
                  simp -implicitDefEqProofs only [go_sem, ne_eq, not_false_eq_true, Nat.reduceBEq, Nat.reduceAdd, Nat.reduceSub, Nat.reduceMul, Nat.reduceLT, Nat.reduceLeDiff, Int.reduceLE, Int.reduceLT, Int.reduceToNat, Int.reduceBEq, Int.reduceBNe, Int.le_refl, Nat.le_refl, decide_true, decide_false, Int.cast_ofNat_Int, ↓reduceIte, trimO, h1710, g1713, g1714, g1715, h2077, h2142, g2143, g2144, g2145, h2146, h2148, g2149, g2150, g2151, h2152, g2154, g2155, g2156, h2157, g2159, g2160, g2161, h2162, h2164, g2199, g2200, h2201, g2202, g2203, cutG_le, extO_cut, set_cut1, normE, trimO]
                  refine W_sound tab_ok mixed 5 _ _ _ ?_
                  simp -implicitDefEqProofs only [go_sem, ne_eq, not_false_eq_true, Nat.reduceBEq, Nat.reduceAdd, Nat.reduceSub, Nat.reduceMul, Nat.reduceLT, Nat.reduceLeDiff, Int.reduceLE, Int.reduceLT, Int.reduceToNat, Int.reduceBEq, Int.reduceBNe, Int.le_refl, Nat.le_refl, decide_true, decide_false, Int.cast_ofNat_Int, ↓reduceIte, h1710, g1713, g1714, g1715, h2077, h2142, g2143, g2144, g2145, h2146, h2148, g2149, g2150, g2151, h2152, g2154, g2155, g2156, h2157, g2159, g2160, g2161, h2162, h2164, g2199, g2200, h2201, g2202, g2203, cutG_le, extO_cut, set_cut1, normE, trimO]
                  repeat with_reducible refine And.intro (by first | kernel_rfl | decide) ?_
                  exact cutQ _ ((Wk_le (.cons _ _ _ _ _ (.refl _) (.cons _ _ _ _ _ (.refl _) (.cons _ _ _ _ _ (.refl _) (.cons _ _ _ _ _ (.refl _) (.cons _ _ _ _ _ (.refl _) (.cons _ _ _ _ _ (.refl _) (.cons _ _ _ _ _ (.refl _) (.cons _ _ _ _ _ (.dead _) (.cons _ _ _ _ _ (.dead _) (.cons _ _ _ _ _ (.refl _) (.cons _ _ _ _ _ (.refl _) (.cons _ _ _ _ _ (.refl _) (.cons _ _ _ _ _ (.refl _) (.cons _ _ _ _ _ (.refl _) (.cons _ _ _ _ _ (.refl _) (.cons _ _ _ _ _ (.refl _) (.cons _ _ _ _ _ (.refl _) (.cons _ _ _ _ _ (.refl _) .nil)))))))))))))))))) (OLe.refl _)).trans (cmpS_ok rfl)) ⟨n, Nat.lt_succ_self n, _, _, _, h2260, rfl⟩
                · have hh := grd_some h2260; clear h2260; obtain ⟨⟨g2204, g2205⟩, h2260⟩ := hh
                  refine W_sound tab_ok mixed 14 _ _ _ ?_
                  simp -implicitDefEqProofs only [go_sem, ne_eq, not_false_eq_true, Nat.reduceBEq, Nat.reduceAdd, Nat.reduceSub, Nat.reduceMul, Nat.reduceLT, Nat.reduceLeDiff, Int.reduceLE, Int.reduceLT, Int.reduceToNat, Int.reduceBEq, Int.reduceBNe, Int.le_refl, Nat.le_refl, decide_true, decide_false, Int.cast_ofNat_Int, ↓reduceIte, h1710, g1713, g1714, g1715, h2077, h2142, g2143, g2144, g2145, h2146, h2148, g2149, g2150, g2151, h2152, g2154, g2155, g2156, h2157, g2159, g2160, g2161, h2162, h2164, g2199, g2200, h2201, g2204, g2205, cut_take, cutG_le]
                  repeat with_reducible refine And.intro (by first | kernel_rfl | decide) ?_
                  exact cutQ _ ((Wk_le (.cons _ _ _ _ _ (.refl _) (.cons _ _ _ _ _ (.refl _) (.cons _ _ _ _ _ (.refl _) (.cons _ _ _ _ _ (.refl _) (.cons _ _ _ _ _ (.refl _) (.cons _ _ _ _ _ (.refl _) (.cons _ _ _ _ _ (.refl _) (.cons _ _ _ _ _ (.dead _) (.cons _ _ _ _ _ (.dead _) (.cons _ _ _ _ _ (.refl _) (.cons _ _ _ _ _ (.refl _) (.cons _ _ _ _ _ (.refl _) (.cons _ _ _ _ _ (.refl _) (.cons _ _ _ _ _ (.refl _) (.cons _ _ _ _ _ (.refl _) (.cons _ _ _ _ _ (.refl _) (.cons _ _ _ _ _ (.refl _) (.cons _ _ _ _ _ (.refl _) .nil)))))))))))))))))) (OLe.refl _)).trans (cmpS_ok rfl)) ⟨n, Nat.lt_succ_self n, _, _, _, h2260, rfl⟩
          · refine W_sound tab_ok mixed 47 _ _ _ ?_
            simp -implicitDefEqProofs only [go_sem, ne_eq, not_false_eq_true, Nat.reduceBEq, Nat.reduceAdd, Nat.reduceSub, Nat.reduceMul, Nat.reduceLT, Nat.reduceLeDiff, Int.reduceLE, Int.reduceLT, Int.reduceToNat, Int.reduceBEq, Int.reduceBNe, Int.le_refl, Nat.le_refl, decide_true, decide_false, Int.cast_ofNat_Int, ↓reduceIte, h1710, g1713, g1714, g1715, h2077, h2142, g2143, g2144, g2145, h2146, h2148]
            repeat with_reducible refine And.intro (by first | kernel_rfl | decide) ?_
            have hh := bnd'_some h2256; clear h2256; obtain ⟨o2261, h2262, h2263⟩ := hh
            refine Wp_cut (fun s => ∃ x2241, x2241 = o2261 ∧ s = ⟨[], [(0, .dead), (1, .v (.ipt [(.lst false n1711 c1712)])), (2, .dead), (3, .dead), (4, .dead), (5, .dead), (6, .sl false 0 0 n2139 1), (8, .v (.int .i64 x2147)), (9, .v (.int .i64 x2241)), (15, .dead), (16, .dead), (17, .dead), (27, .sl false 1 0 n1711 1), (28, .v (.int .i64 ((n1711 : Nat) : Int))), (29, .v (.int .i64 x2140)), (30, .dead), (53, .dead), (79, .dead)], [(0, .p c2141), (1, .p c2076)], 2, []⟩) ?_ ?_
            · refine Wp_block ?_
              refine Wp_loopG (fun n s => ∃ x2206, m65_L3 N n1711 c1712 c2076 n2139 x2140 c2141 x2147 n x2206 = some o2261 ∧ s = ⟨[], [(0, .dead), (1, .v (.ipt [(.lst false n1711 c1712)])), (2, .dead), (3, .dead), (4, .dead), (5, .dead), (6, .sl false 0 0 n2139 1), (8, .v (.int .i64 x2147)), (9, .v (.int .i64 x2206)), (15, .dead), (16, .dead), (17, .dead), (27, .sl false 1 0 n1711 1), (28, .v (.int .i64 ((n1711 : Nat) : Int))), (29, .v (.int .i64 x2140)), (30, .dead), (53, .dead), (79, .dead)], [(0, .p c2141), (1, .p c2076)], 2, []⟩) N _ ((Wk_le (.cons _ _ _ _ _ (.refl _) (.cons _ _ _ _ _ (.refl _) (.cons _ _ _ _ _ (.refl _) (.cons _ _ _ _ _ (.refl _) (.cons _ _ _ _ _ (.refl _) (.cons _ _ _ _ _ (.refl _) (.cons _ _ _ _ _ (.refl _) (.cons _ _ _ _ _ (.refl _) (.cons _ _ _ _ _ (.refl _) (.cons _ _ _ _ _ (.refl _) (.cons _ _ _ _ _ (.refl _) (.cons _ _ _ _ _ (.refl _) (.cons _ _ _ _ _ (.refl _) (.cons _ _ _ _ _ (.refl _) (.cons _ _ _ _ _ (.refl _) (.cons _ _ _ _ _ (.dead _) (.cons _ _ _ _ _ (.dead _) (.cons _ _ _ _ _ (.refl _) .nil)))))))))))))))))) (OLe.refl _)).trans (cmpS_ok rfl)) ⟨_, h2262, rfl⟩ ?_
              clear h2262
              rintro n _ ⟨x2206, h2262, rfl⟩
              cases n with
              | zero => cases h2262
              | succ n =>
                rw [m65_L3] at h2262
                have hh := brn_some h2262; clear h2262; rcases hh with ⟨h2207, h2262⟩ | ⟨h2207, h2262⟩
                · have hh := grd_some h2262; clear h2262; obtain ⟨⟨g2208, g2209⟩, h2262⟩ := hh
                  have hh := grd_some h2262; clear h2262; obtain ⟨g2210, h2262⟩ := hh
                  have hh := getI_some h2262; clear h2262; obtain ⟨x2212, h2211, h2262⟩ := hh
                  have hh := grd_some h2262; clear h2262; obtain ⟨⟨g2213, g2214⟩, h2262⟩ := hh
                  have hh := grd_some h2262; clear h2262; obtain ⟨g2215, h2262⟩ := hh
                  have hh := getA2_some h2262; clear h2262; obtain ⟨p2217, p2218, h2216, h2262⟩ := hh
                  injection h2216 with h2216
                  have hh := grd_some h2262; clear h2262; obtain ⟨⟨g2219, g2220⟩, h2262⟩ := hh
                  have hh := grd_some h2262; clear h2262; obtain ⟨g2221, h2262⟩ := hh
                  have hh := getI_some h2262; clear h2262; obtain ⟨x2223, h2222, h2262⟩ := hh
                  have hh := grd_some h2262; clear h2262; obtain ⟨⟨g2224, g2225⟩, h2262⟩ := hh
                  have hh := grd_some h2262; clear h2262; obtain ⟨g2226, h2262⟩ := hh
                  have hh := getA2_some h2262; clear h2262; obtain ⟨p2228, p2229, h2227, h2262⟩ := hh
                  injection h2227 with h2227
                  have hh := grd_some h2262; clear h2262; obtain ⟨⟨g2230, g2231⟩, h2262⟩ := hh
                  have hh := grd_some h2262; clear h2262; obtain ⟨g2232, h2262⟩ := hh
                  have hh := getA2_some h2262; clear h2262; obtain ⟨p2234, p2235, h2233, h2262⟩ := hh
                  injection h2233 with h2233
                  have hh := bnd'_some h2262; clear h2262; obtain ⟨p2236, h2237, h2262⟩ := hh
                  refine W_sound tab_ok mixed 26 _ _ _ ?_
                  simp -implicitDefEqProofs only [go_sem, ne_eq, not_false_eq_true, Nat.reduceBEq, Nat.reduceAdd, Nat.reduceSub, Nat.reduceMul, Nat.reduceLT, Nat.reduceLeDiff, Int.reduceLE, Int.reduceLT, Int.reduceToNat, Int.reduceBEq, Int.reduceBNe, Int.le_refl, Nat.le_refl, decide_true, decide_false, Int.cast_ofNat_Int, ↓reduceIte, h1710, g1713, g1714, g1715, h2077, h2142, g2143, g2144, g2145, h2146, h2148, h2207, g2208, g2209, g2210, h2211, g2213, g2214, g2215, h2216, g2219, g2220, g2221, h2222, g2224, g2225, g2226, h2227, g2230, g2231, g2232, h2233]
                  repeat with_reducible refine And.intro (by first | kernel_rfl | decide) ?_
                  refine Wp_callP (c86 N _ _ _ _ h2237) (by kernel_rfl) rfl rfl rfl rfl (by decide) ?_
                  have hh := getB_some h2262; clear h2262; obtain ⟨b2239, h2238, h2262⟩ := hh
                  have hh := brn_some h2262; clear h2262; rcases hh with ⟨h2240, h2262⟩ | ⟨h2240, h2262⟩
                  · refine W_sound tab_ok mixed 5 _ _ _ ?_
                    simp -implicitDefEqProofs only [go_sem, ne_eq, not_false_eq_true, Nat.reduceBEq, Nat.reduceAdd, Nat.reduceSub, Nat.reduceMul, Nat.reduceLT, Nat.reduceLeDiff, Int.reduceLE, Int.reduceLT, Int.reduceToNat, Int.reduceBEq, Int.reduceBNe, Int.le_refl, Nat.le_refl, decide_true, decide_false, Int.cast_ofNat_Int, ↓reduceIte, h1710, g1713, g1714, g1715, h2077, h2142, g2143, g2144, g2145, h2146, h2148, h2207, g2208, g2209, g2210, h2211, g2213, g2214, g2215, h2216, g2219, g2220, g2221, h2222, g2224, g2225, g2226, h2227, g2230, g2231, g2232, h2233, h2238, h2240]
                    repeat with_reducible refine And.intro (by first | kernel_rfl | decide) ?_
                    obtain rfl := Option.some.inj h2262
                    exact cutQ _ ((Wk_le (.cons _ _ _ _ _ (.refl _) (.cons _ _ _ _ _ (.refl _) (.cons _ _ _ _ _ (.refl _) (.cons _ _ _ _ _ (.refl _) (.cons _ _ _ _ _ (.refl _) (.cons _ _ _ _ _ (.refl _) (.cons _ _ _ _ _ (.refl _) (.cons _ _ _ _ _ (.refl _) (.cons _ _ _ _ _ (.refl _) (.cons _ _ _ _ _ (.refl _) (.cons _ _ _ _ _ (.refl _) (.cons _ _ _ _ _ (.refl _) (.cons _ _ _ _ _ (.refl _) (.cons _ _ _ _ _ (.refl _) (.cons _ _ _ _ _ (.refl _) (.cons _ _ _ _ _ (.refl _) (.cons _ _ _ _ _ (.refl _) (.cons _ _ _ _ _ (.dead _) .nil)))))))))))))))))) (OLe.refl _)).trans (cmpS_ok rfl)) ⟨_, rfl, rfl⟩
                  · refine W_sound tab_ok mixed 14 _ _ _ ?_
                    simp -implicitDefEqProofs only [go_sem, ne_eq, not_false_eq_true, Nat.reduceBEq, Nat.reduceAdd, Nat.reduceSub, Nat.reduceMul, Nat.reduceLT, Nat.reduceLeDiff, Int.reduceLE, Int.reduceLT, Int.reduceToNat, Int.reduceBEq, Int.reduceBNe, Int.le_refl, Nat.le_refl, decide_true, decide_false, Int.cast_ofNat_Int, ↓reduceIte, h1710, g1713, g1714, g1715, h2077, h2142, g2143, g2144, g2145, h2146, h2148, h2207, g2208, g2209, g2210, h2211, g2213, g2214, g2215, h2216, g2219, g2220, g2221, h2222, g2224, g2225, g2226, h2227, g2230, g2231, g2232, h2233, h2238, h2240]
                    repeat with_reducible refine And.intro (by first | kernel_rfl | decide) ?_
                    exact cutQ _ ((Wk_le (.cons _ _ _ _ _ (.refl _) (.cons _ _ _ _ _ (.refl _) (.cons _ _ _ _ _ (.refl _) (.cons _ _ _ _ _ (.refl _) (.cons _ _ _ _ _ (.refl _) (.cons _ _ _ _ _ (.refl _) (.cons _ _ _ _ _ (.refl _) (.cons _ _ _ _ _ (.refl _) (.cons _ _ _ _ _ (.refl _) (.cons _ _ _ _ _ (.refl _) (.cons _ _ _ _ _ (.refl _) (.cons _ _ _ _ _ (.refl _) (.cons _ _ _ _ _ (.refl _) (.cons _ _ _ _ _ (.refl _) (.cons _ _ _ _ _ (.refl _) (.cons _ _ _ _ _ (.refl _) (.cons _ _ _ _ _ (.refl _) (.cons _ _ _ _ _ (.dead _) .nil)))))))))))))))))) (OLe.refl _)).trans (cmpS_ok rfl)) ⟨n, Nat.lt_succ_self n, _, h2262, rfl⟩
                · refine W_sound tab_ok mixed 32 _ _ _ ?_
                  simp -implicitDefEqProofs only [go_sem, ne_eq, not_false_eq_true, Nat.reduceBEq, Nat.reduceAdd, Nat.reduceSub, Nat.reduceMul, Nat.reduceLT, Nat.reduceLeDiff, Int.reduceLE, Int.reduceLT, Int.reduceToNat, Int.reduceBEq, Int.reduceBNe, Int.le_refl, Nat.le_refl, decide_true, decide_false, Int.cast_ofNat_Int, ↓reduceIte, h1710, g1713, g1714, g1715, h2077, h2142, g2143, g2144, g2145, h2146, h2148, h2207]
                  repeat with_reducible refine And.intro (by first | kernel_rfl | decide) ?_
                  obtain rfl := Option.some.inj h2262
                  exact cutQ _ ((Wk_le (.cons _ _ _ _ _ (.refl _) (.cons _ _ _ _ _ (.refl _) (.cons _ _ _ _ _ (.refl _) (.cons _ _ _ _ _ (.refl _) (.cons _ _ _ _ _ (.refl _) (.cons _ _ _ _ _ (.refl _) (.cons _ _ _ _ _ (.refl _) (.cons _ _ _ _ _ (.refl _) (.cons _ _ _ _ _ (.refl _) (.cons _ _ _ _ _ (.refl _) (.cons _ _ _ _ _ (.refl _) (.cons _ _ _ _ _ (.refl _) (.cons _ _ _ _ _ (.refl _) (.cons _ _ _ _ _ (.refl _) (.cons _ _ _ _ _ (.refl _) (.cons _ _ _ _ _ (.refl _) (.cons _ _ _ _ _ (.refl _) (.cons _ _ _ _ _ (.dead _) .nil)))))))))))))))))) (OLe.refl _)).trans (cmpS_ok rfl)) ⟨_, rfl, rfl⟩
            · rintro _ ⟨x2241, rfl, rfl⟩
              have hh := grd_some h2263; clear h2263; obtain ⟨⟨g2242, g2243⟩, h2263⟩ := hh
              have hh := brn_some h2263; clear h2263; rcases hh with ⟨h2244, h2263⟩ | ⟨h2244, h2263⟩
              · have hh := grd_some h2263; clear h2263; obtain ⟨⟨g2245, g2246⟩, h2263⟩ := hh
                refine W_sound tab_ok mixed 9 _ _ _ ?_
                simp -implicitDefEqProofs only [go_sem, ne_eq, not_false_eq_true, Nat.reduceBEq, Nat.reduceAdd, Nat.reduceSub, Nat.reduceMul, Nat.reduceLT, Nat.reduceLeDiff, Int.reduceLE, Int.reduceLT, Int.reduceToNat, Int.reduceBEq, Int.reduceBNe, Int.le_refl, Nat.le_refl, decide_true, decide_false, Int.cast_ofNat_Int, ↓reduceIte, h1710, g1713, g1714, g1715, h2077, h2142, g2143, g2144, g2145, h2146, h2148, g2242, g2243, h2244, g2245, g2246, cutG_le, extO_cut, set_cut1, normE, trimO]
                repeat with_reducible refine And.intro (by first | kernel_rfl | decide) ?_
                refine Wp_wkK Wk_norm rfl ?_
                simp -implicitDefEqProofs only [go_sem, ne_eq, not_false_eq_true, Nat.reduceBEq, Nat.reduceAdd, Nat.reduceSub, Nat.reduceMul, Nat.reduceLT, Nat.reduceLeDiff, Int.reduceLE, Int.reduceLT, Int.reduceToNat, Int.reduceBEq, Int.reduceBNe, Int.le_refl, Nat.le_refl, decide_true, decide_false, Int.cast_ofNat_Int, ↓reduceIte, normE, h1710, g1713, g1714, g1715, h2077, h2142, g2143, g2144, g2145, h2146, h2148, g2242, g2243, h2244, g2245, g2246, cutG_le, extO_cut, set_cut1, normE, trimO]
                refine Wp_wkK (Wk_trim 0 ((Int.toNat x2241) + 1)) rfl ?_
                simp -implicitDefEqProofs only [go_sem, ne_eq, not_false_eq_true, Nat.reduceBEq, Nat.reduceAdd, Nat.reduceSub, Nat.reduceMul, Nat.reduceLT, Nat.reduceLeDiff, Int.reduceLE, Int.reduceLT, Int.reduceToNat, Int.reduceBEq, Int.reduceBNe, Int.le_refl, Nat.le_refl, decide_true, decide_false, Int.cast_ofNat_Int, ↓reduceIte, trimO, h1710, g1713, g1714, g1715, h2077, h2142, g2143, g2144, g2145, h2146, h2148, g2242, g2243, h2244, g2245, g2246, cutG_le, extO_cut, set_cut1, normE, trimO]
                refine W_sound tab_ok mixed 5 _ _ _ ?_
                simp -implicitDefEqProofs only [go_sem, ne_eq, not_false_eq_true, Nat.reduceBEq, Nat.reduceAdd, Nat.reduceSub, Nat.reduceMul, Nat.reduceLT, Nat.reduceLeDiff, Int.reduceLE, Int.reduceLT, Int.reduceToNat, Int.reduceBEq, Int.reduceBNe, Int.le_refl, Nat.le_refl, decide_true, decide_false, Int.cast_ofNat_Int, ↓reduceIte, h1710, g1713, g1714, g1715, h2077, h2142, g2143, g2144, g2145, h2146, h2148, g2242, g2243, h2244, g2245, g2246, cutG_le, extO_cut, set_cut1, normE, trimO]
                repeat with_reducible refine And.intro (by first | kernel_rfl | decide) ?_
                exact cutQ _ ((Wk_le (.cons _ _ _ _ _ (.refl _) (.cons _ _ _ _ _ (.refl _) (.cons _ _ _ _ _ (.refl _) (.cons _ _ _ _ _ (.refl _) (.cons _ _ _ _ _ (.refl _) (.cons _ _ _ _ _ (.refl _) (.cons _ _ _ _ _ (.refl _) (.cons _ _ _ _ _ (.dead _) (.cons _ _ _ _ _ (.dead _) (.cons _ _ _ _ _ (.refl _) (.cons _ _ _ _ _ (.refl _) (.cons _ _ _ _ _ (.refl _) (.cons _ _ _ _ _ (.refl _) (.cons _ _ _ _ _ (.refl _) (.cons _ _ _ _ _ (.refl _) (.cons _ _ _ _ _ (.refl _) (.cons _ _ _ _ _ (.refl _) (.cons _ _ _ _ _ (.refl _) .nil)))))))))))))))))) (OLe.refl _)).trans (cmpS_ok rfl)) ⟨n, Nat.lt_succ_self n, _, _, _, h2263, rfl⟩
              · have hh := grd_some h2263; clear h2263; obtain ⟨⟨g2247, g2248⟩, h2263⟩ := hh
                refine W_sound tab_ok mixed 14 _ _ _ ?_
                simp -implicitDefEqProofs only [go_sem, ne_eq, not_false_eq_true, Nat.reduceBEq, Nat.reduceAdd, Nat.reduceSub, Nat.reduceMul, Nat.reduceLT, Nat.reduceLeDiff, Int.reduceLE, Int.reduceLT, Int.reduceToNat, Int.reduceBEq, Int.reduceBNe, Int.le_refl, Nat.le_refl, decide_true, decide_false, Int.cast_ofNat_Int, ↓reduceIte, h1710, g1713, g1714, g1715, h2077, h2142, g2143, g2144, g2145, h2146, h2148, g2242, g2243, h2244, g2247, g2248, cut_take, cutG_le]
                repeat with_reducible refine And.intro (by first | kernel_rfl | decide) ?_
                exact cutQ _ ((Wk_le (.cons _ _ _ _ _ (.refl _) (.cons _ _ _ _ _ (.refl _) (.cons _ _ _ _ _ (.refl _) (.cons _ _ _ _ _ (.refl _) (.cons _ _ _ _ _ (.refl _) (.cons _ _ _ _ _ (.refl _) (.cons _ _ _ _ _ (.refl _) (.cons _ _ _ _ _ (.dead _) (.cons _ _ _ _ _ (.dead _) (.cons _ _ _ _ _ (.refl _) (.cons _ _ _ _ _ (.refl _) (.cons _ _ _ _ _ (.refl _) (.cons _ _ _ _ _ (.refl _) (.cons _ _ _ _ _ (.refl _) (.cons _ _ _ _ _ (.refl _) (.cons _ _ _ _ _ (.refl _) (.cons _ _ _ _ _ (.refl _) (.cons _ _ _ _ _ (.refl _) .nil)))))))))))))))))) (OLe.refl _)).trans (cmpS_ok rfl)) ⟨n, Nat.lt_succ_self n, _, _, _, h2263, rfl⟩
        · refine W_sound tab_ok mixed 7 _ _ _ ?_
          simp -implicitDefEqProofs only [go_sem, ne_eq, not_false_eq_true, Nat.reduceBEq, Nat.reduceAdd, Nat.reduceSub, Nat.reduceMul, Nat.reduceLT, Nat.reduceLeDiff, Int.reduceLE, Int.reduceLT, Int.reduceToNat, Int.reduceBEq, Int.reduceBNe, Int.le_refl, Nat.le_refl, decide_true, decide_false, Int.cast_ofNat_Int, ↓reduceIte, h1710, g1713, g1714, g1715, h2077, h2142]
          repeat with_reducible refine And.intro (by first | kernel_rfl | decide) ?_
          obtain rfl := Option.some.inj h2256
          exact cutQ _ ((Wk_le (.cons _ _ _ _ _ (.refl _) (.cons _ _ _ _ _ (.dead _) (.cons _ _ _ _ _ (.refl _) (.cons _ _ _ _ _ (.refl _) (.cons _ _ _ _ _ (.refl _) (.cons _ _ _ _ _ (.refl _) (.cons _ _ _ _ _ (.refl _) (.cons _ _ _ _ _ (.refl _) (.cons _ _ _ _ _ (.refl _) (.cons _ _ _ _ _ (.refl _) (.cons _ _ _ _ _ (.refl _) (.cons _ _ _ _ _ (.refl _) (.cons _ _ _ _ _ (.dead _) (.cons _ _ _ _ _ (.dead _) (.cons _ _ _ _ _ (.dead _) (.cons _ _ _ _ _ (.dead _) (.cons _ _ _ _ _ (.refl _) (.cons _ _ _ _ _ (.refl _) .nil)))))))))))))))))) (OLe.refl _)).trans (cmpS_ok rfl)) ⟨_, _, rfl, rfl⟩
    · rintro _ ⟨n2249, c2250, rfl, rfl⟩
      (try dsimp only at h2257)
      refine W_sound tab_ok mixed 7 _ _ _ ?_
      simp -implicitDefEqProofs only [go_sem, ne_eq, not_false_eq_true, Nat.reduceBEq, Nat.reduceAdd, Nat.reduceSub, Nat.reduceMul, Nat.reduceLT, Nat.reduceLeDiff, Int.reduceLE, Int.reduceLT, Int.reduceToNat, Int.reduceBEq, Int.reduceBNe, Int.le_refl, Nat.le_refl, decide_true, decide_false, Int.cast_ofNat_Int, ↓reduceIte, h1710, g1713, g1714, g1715, h2077]
      repeat with_reducible refine And.intro (by first | kernel_rfl | decide) ?_
      have hh := grd_some h2257; clear h2257; obtain ⟨g2251, h2257⟩ := hh
      refine FinQ_wk (Wk_freeze 0 c2250 (by rfl) (by decide) (by decide)) ?_
      simp -implicitDefEqProofs only [go_sem, ne_eq, not_false_eq_true, Nat.reduceBEq, Nat.reduceAdd, Nat.reduceSub, Nat.reduceMul, Nat.reduceLT, Nat.reduceLeDiff, Int.reduceLE, Int.reduceLT, Int.reduceToNat, Int.reduceBEq, Int.reduceBNe, Int.le_refl, Nat.le_refl, decide_true, decide_false, Int.cast_ofNat_Int, ↓reduceIte, h1710, g1713, g1714, g1715, h2077, g2251]
      obtain rfl := Option.some.inj h2257
      exact finC [(2, .v (.lst false n2249 c2250))] [(2, .v (.lst false n2249 c2250))] (by simp [leE, lk_cons]) (.cons _ _ _ _ _ (.v _ _ (.refl _)) .nil) (by rfl) (by simp [leE, lk_cons]) (by decide) (by decide) rfl (by simp only [go_sem, ne_eq, not_false_eq_true, Nat.reduceBEq, Nat.reduceAdd, Nat.reduceSub, Nat.reduceMul, Nat.reduceLT, Nat.reduceLeDiff, Int.reduceLE, Int.reduceLT, Int.reduceToNat, Int.reduceBEq, Int.reduceBNe, Int.le_refl, Nat.le_refl, decide_true, decide_false, Int.cast_ofNat_Int, ↓reduceIte, resQ_tmp, resQ_cell, resQ_nil, retD_one, retD_two, retD_three, retD_none]; try simp [R.val, retD_one, retD_two, retD_three, retD_none])
end Go.Proofs.Ytgnphlpoofaojaa

namespace Go.Proofs.Ytgnphlpoofaojaa
open Go.V
theorem less_irr (a : Int × Int) : ¬ lessP a a := by unfold lessP; omega
/-- who is worth more, by the price at which they are worth the same -/
theorem cross_lt {a b p : Int × Int} (h : a.2 < b.2) (hp : 0 < p.2) : (CtP p a < CtP p b ↔ lessP (crossP a b) p) ∧ (CtP p b < CtP p a ↔ lessP p (crossP a b)) := by
  obtain ⟨h1, h2⟩ := cross_sp (a := a) (b := b) (by omega)
  have key : (CtP p b - CtP p a) * (crossP a b).2 = (p.1 * (crossP a b).2 - (crossP a b).1 * p.2) * (b.2 - a.2) := by
    unfold CtP; generalize crossP a b = q at *; grind
  refine ⟨⟨fun hl => ?_, cross_above h⟩, ⟨fun hl => ?_, cross_below h⟩⟩
  · unfold lessP
    have e1 : 0 < (CtP p b - CtP p a) * (crossP a b).2 := Int.mul_pos (by omega) h1
    rw [key] at e1
    have := mul_pos_of (by omega) e1
    omega
  · unfold lessP
    have e1 : 0 < (CtP p a - CtP p b) * (crossP a b).2 := Int.mul_pos (by omega) h1
    have e2 : (CtP p a - CtP p b) * (crossP a b).2 = ((crossP a b).1 * p.2 - p.1 * (crossP a b).2) * (b.2 - a.2) := by
      have : (CtP p a - CtP p b) * (crossP a b).2 = -((CtP p b - CtP p a) * (crossP a b).2) := by grind
      rw [this, key]; grind
    rw [e2] at e1
    have := mul_pos_of (by omega) e1
    omega
theorem above_less {a b c : Int × Int} (h1 : a.2 < b.2) (h2 : b.2 < c.2) : aboveG a b c = true ↔ lessP (crossP a b) (crossP b c) := by
  obtain ⟨s1, s2⟩ := cross_sp (a := a) (b := b) (by omega)
  obtain ⟨t1, t2⟩ := cross_sp (a := b) (b := c) (by omega)
  unfold aboveG lessP
  rw [decide_eq_true_eq]
  generalize crossP a b = q at *
  generalize crossP b c = r at *
  have key : ((b.1 - a.1) * (c.2 - b.2) - (c.1 - b.1) * (b.2 - a.2)) * (q.2 * r.2) = (r.1 * q.2 - q.1 * r.2) * ((b.2 - a.2) * (c.2 - b.2)) := by grind
  have k1 := Int.mul_pos s1 t1
  have k2 : 0 < (b.2 - a.2) * (c.2 - b.2) := Int.mul_pos (by omega) (by omega)
  constructor
  · intro h
    have e := Int.mul_pos (a := (b.1 - a.1) * (c.2 - b.2) - (c.1 - b.1) * (b.2 - a.2)) (by omega) k1
    rw [key] at e
    have := mul_pos_of k2 e
    omega
  · intro h
    have e := Int.mul_pos (a := r.1 * q.2 - q.1 * r.2) (by omega) k2
    rw [← key] at e
    have := mul_pos_of k1 e
    omega

def Chn : List (Int × Int) → Prop
  | c :: b :: a :: T => aboveG a b c = true ∧ Chn (b :: a :: T)
  | _ => True
def Dsc (T : List (Int × Int)) : Prop := T.Pairwise fun c b => b.2 < c.2
def popC (k : Int × Int) : List (Int × Int) → List (Int × Int)
  | b :: a :: T => if aboveG a b k then b :: a :: T else popC k (a :: T)
  | T => T
theorem popC_sp (k : Int × Int) : ∀ (T : List (Int × Int)), Dsc T → Chn T → (∀ t ∈ T, t.2 < k.2) → T ≠ [] →
    (popC k T ≠ [] ∧ (∃ u, T = u ++ popC k T)) ∧ Chn (k :: popC k T) ∧ ∀ p : Int × Int, 0 < p.2 → ∀ t ∈ T, ∃ t' ∈ k :: popC k T, CtP p t ≤ CtP p t'
  | [], _, _, _, h => absurd rfl h
  | [b], _, _, _, _ => ⟨⟨by simp [popC], [], rfl⟩, trivial, fun p _ t ht => ⟨t, by simp only [popC]; exact .tail _ ht, by omega⟩⟩
  | b :: a :: T, hd, hc, hk, _ => by
    unfold popC
    split
    · rename_i hab
      exact ⟨⟨by simp, [], rfl⟩, ⟨hab, hc⟩, fun p _ t ht => ⟨t, .tail _ ht, by omega⟩⟩
    · rename_i hab
      have hd' := List.pairwise_cons.1 hd
      have hc' : Chn (a :: T) := by
        cases T with
        | nil => trivial
        | cons z T => exact hc.2
      obtain ⟨⟨r1, u, r2⟩, r3, r4⟩ := popC_sp k (a :: T) hd'.2 hc' (fun t ht => hk t (.tail _ ht)) (by simp)
      refine ⟨⟨r1, b :: u, by rw [List.cons_append, ← r2]⟩, r3, fun p hp t ht => ?_⟩
      rcases List.mem_cons.1 ht with rfl | ht
      · have hab1 : a.2 < t.2 := hd'.1 a (by simp)
        have hbk : t.2 < k.2 := hk t (by simp)
        have hcov : covG1 a k t = true := by
          unfold covG1
          rw [if_neg (by omega), if_neg (by omega), if_neg (by omega), if_neg (by omega)]
          simpa using hab
        have hn := covG1_sound (by omega) hp hcov
        rcases Int.lt_or_le (CtP p a) (CtP p t) with h1 | h1
        · exact ⟨k, by simp, by omega⟩
        · obtain ⟨t', h2, h3⟩ := r4 p hp a (by simp)
          exact ⟨t', h2, by omega⟩
      · exact r4 p hp t ht
def Asc (T : List (Int × Int)) : Prop := T.Pairwise fun b c => b.2 < c.2
def ChA : List (Int × Int) → Prop
  | a :: b :: c :: T => aboveG a b c = true ∧ ChA (b :: c :: T)
  | _ => True
theorem chn_lo : ∀ (T : List (Int × Int)) (k : Int × Int) (p : Int × Int), 0 < p.2 → Asc (k :: T) → ChA (k :: T) → (∀ b T', T = b :: T' → lessP p (crossP k b)) → ∀ t ∈ T, CtP p t < CtP p k
  | [], _, _, _, _, _, _, t, h => by simp at h
  | b :: T, k, p, hp, hd, hc, hl, t, h => by
    have hd' := List.pairwise_cons.1 hd
    have h1 := hl b T rfl
    have hbk : k.2 < b.2 := hd'.1 b (by simp)
    have h2 := cross_below hbk h1
    rcases List.mem_cons.1 h with rfl | h
    · exact h2
    · have ih := chn_lo T b p hp hd'.2 (by cases T with
        | nil => trivial
        | cons z T => exact hc.2) (fun z T' e => by
          subst e
          have hzb : b.2 < z.2 := (List.pairwise_cons.1 hd'.2).1 z (by simp)
          have := (above_less hbk hzb).1 hc.1
          exact less_trans hp (cross_sp (by omega)).1 (cross_sp (by omega)).1 h1 this) t h
      omega
theorem ChA_tail {a : Int × Int} {T : List (Int × Int)} (h : ChA (a :: T)) : ChA T := by
  match T, h with
  | [], _ => trivial
  | [_], _ => trivial
  | b :: c :: T, h => exact h.2
theorem Chn_tail {a : Int × Int} {T : List (Int × Int)} (h : Chn (a :: T)) : Chn T := by
  match T, h with
  | [], _ => trivial
  | [_], _ => trivial
  | b :: c :: T, h => exact h.2
/-- both orders -/
theorem Chn_rev : ∀ (T U : List (Int × Int)), Chn T → ChA U → (∀ b T', T = b :: T' → ∀ c U', U = c :: U' → (∀ a T'', T' = a :: T'' → aboveG a b c = true) ∧ (∀ d U'', U' = d :: U'' → aboveG b c d = true)) → ChA (T.reverse ++ U)
  | [], U, _, hU, _ => by simpa using hU
  | b :: T, U, hT, hU, hb => by
    rw [List.reverse_cons, List.append_assoc, List.singleton_append]
    refine Chn_rev T (b :: U) (Chn_tail hT) ?_ ?_
    · match U, hU, hb with
      | [], _, _ => trivial
      | [_], _, _ => trivial
      | c :: d :: U', hU, hb => exact ⟨(hb b T rfl c (d :: U') rfl).2 d U' rfl, hU⟩
    · rintro a T' rfl c U' e
      obtain ⟨rfl, rfl⟩ := List.cons.inj e
      refine ⟨fun z T'' e => ?_, fun d U'' e => ?_⟩
      · subst e; exact hT.1
      · subst e; exact (hb b (a :: T') rfl d U'' rfl).1 a T' rfl
theorem Dsc_rev {T : List (Int × Int)} (h : Dsc T) : Asc T.reverse := by
  unfold Asc Dsc at *
  exact List.pairwise_reverse.2 h
def kl (f : Nat → Int × Int) (i j : Nat) : Prop := (f i).2 < (f j).2 ∨ ((f i).2 = (f j).2 ∧ ((f j).1 < (f i).1 ∨ ((f i).1 = (f j).1 ∧ i < j)))
def popI (f : Nat → Int × Int) (k : Nat) : List Nat → List Nat
  | b :: a :: T => if aboveG (f a) (f b) (f k) then b :: a :: T else popI f k (a :: T)
  | T => T
def pushI (f : Nat → Int × Int) (T : List Nat) (k : Nat) : List Nat :=
  match T with
  | [] => [k]
  | b :: T => if (f b).2 = (f k).2 then b :: T else k :: popI f k (b :: T)
theorem popI_map (f : Nat → Int × Int) (k : Nat) : ∀ T : List Nat, (popI f k T).map f = popC (f k) (T.map f)
  | [] => rfl
  | [b] => rfl
  | b :: a :: T => by
    have ih := popI_map f k (a :: T)
    simp only [popI, popC, List.map_cons] at ih ⊢
    split
    · rfl
    · exact ih
theorem popI_sub (f : Nat → Int × Int) (k : Nat) : ∀ T : List Nat, ∃ u, T = u ++ popI f k T
  | [] => ⟨[], rfl⟩
  | [b] => ⟨[], rfl⟩
  | b :: a :: T => by
    obtain ⟨u, h⟩ := popI_sub f k (a :: T)
    unfold popI
    split
    · exact ⟨[], rfl⟩
    · exact ⟨b :: u, by rw [List.cons_append, ← h]⟩
structure HInv (f : Nat → Int × Int) (P T : List Nat) : Prop where
  sub : ∀ t ∈ T, t ∈ P
  dsc : Dsc (T.map f)
  chn : Chn (T.map f)
  dom : ∀ p : Int × Int, 0 < p.2 → ∀ i ∈ P, ∃ t ∈ T, CtP p (f i) ≤ CtP p (f t)
  top : ∀ i ∈ P, ∃ b T', T = b :: T' ∧ (f i).2 ≤ (f b).2
  fst : ∀ t ∈ T, ∀ i ∈ P, (f i).2 = (f t).2 → i = t ∨ kl f t i
theorem CtP_same {p a b : Int × Int} (hp : 0 < p.2) (h : a.2 = b.2) : (CtP p a < CtP p b ↔ a.1 < b.1) ∧ (CtP p a ≤ CtP p b ↔ a.1 ≤ b.1) := by
  have h1 : ∀ x y : Int, x < y → x * p.2 < y * p.2 := fun x y h => Int.mul_lt_mul_of_pos_right h hp
  unfold CtP
  rw [h]
  constructor
  · constructor
    · intro hl
      rcases Int.lt_or_le a.1 b.1 with h2 | h2
      · exact h2
      · rcases Int.lt_or_eq_of_le h2 with h3 | h3
        · have := h1 _ _ h3; omega
        · rw [h3] at hl; omega
    · intro hl; have := h1 _ _ hl; omega
  · constructor
    · intro hl
      rcases Int.lt_or_le b.1 a.1 with h2 | h2
      · have := h1 _ _ h2; omega
      · exact h2
    · intro hl
      rcases Int.lt_or_eq_of_le hl with h3 | h3
      · have := h1 _ _ h3; omega
      · rw [h3]; omega
theorem HInv.push {f : Nat → Int × Int} {P T : List Nat} (h : HInv f P T) (k : Nat) (hk : ∀ i ∈ P, kl f i k) (hne : P ≠ [] → T ≠ []) : HInv f (P ++ [k]) (pushI f T k) ∧ pushI f T k ≠ [] := by
  match T, h, hne with
  | [], h, hne =>
    have hP : P = [] := by
      cases P with
      | nil => rfl
      | cons x P => exact absurd rfl (hne (by simp))
    subst hP
    refine ⟨⟨by simp [pushI], by simp [pushI, Dsc], trivial, ?_, ?_, ?_⟩, by simp [pushI]⟩
    · intro p _ i hi
      simp at hi; subst hi
      exact ⟨i, by simp [pushI], by omega⟩
    · intro i hi
      simp at hi; subst hi
      exact ⟨i, [], rfl, by omega⟩
    · intro t ht i hi _
      simp [pushI] at ht hi; subst ht; subst hi
      exact .inl rfl
  | b :: T, h, _ =>
    have hbP : b ∈ P := h.sub b (by simp)
    have hkb := hk b hbP
    by_cases hr : (f b).2 = (f k).2
    · have e : pushI f (b :: T) k = b :: T := by simp [pushI, hr]
      rw [e]
      refine ⟨⟨fun t ht => by simp [h.sub t ht], h.dsc, h.chn, ?_, ?_, ?_⟩, by simp⟩
      · intro p hp i hi
        rcases List.mem_append.1 hi with hi | hi
        · exact h.dom p hp i hi
        · simp at hi; subst hi
          refine ⟨b, by simp, (CtP_same hp hr.symm).2.2 ?_⟩
          unfold kl at hkb; omega
      · intro i hi
        rcases List.mem_append.1 hi with hi | hi
        · exact h.top i hi
        · simp at hi; subst hi
          exact ⟨b, T, rfl, by omega⟩
      · intro t ht i hi hir
        rcases List.mem_append.1 hi with hi | hi
        · exact h.fst t ht i hi hir
        · simp at hi; subst hi
          exact .inr (hk t (h.sub t ht))
    · have e : pushI f (b :: T) k = k :: popI f k (b :: T) := by simp [pushI, hr]
      rw [e]
      have hlt : ∀ i ∈ P, (f i).2 < (f k).2 := fun i hi => by
        obtain ⟨b', T', e, hle⟩ := h.top i hi
        obtain ⟨rfl, rfl⟩ := List.cons.inj e
        unfold kl at hkb; omega
      obtain ⟨u, hu⟩ := popI_sub f k (b :: T)
      have hsub : ∀ t ∈ popI f k (b :: T), t ∈ b :: T := fun t ht => by rw [hu]; simp [ht]
      obtain ⟨_, c2, c3⟩ := popC_sp (f k) ((b :: T).map f) h.dsc h.chn (fun t ht => by
        obtain ⟨i, hi, rfl⟩ := List.mem_map.1 ht
        exact hlt i (h.sub i hi)) (by simp)
      rw [← popI_map] at c2 c3
      have hd : Dsc ((popI f k (b :: T)).map f) := by
        have := h.dsc
        rw [hu, List.map_append] at this
        exact (List.pairwise_append.1 this).2.1
      refine ⟨⟨?_, ?_, by simpa using c2, ?_, ?_, ?_⟩, by simp⟩
      · intro t ht
        rcases List.mem_cons.1 ht with rfl | ht
        · simp
        · simp [h.sub t (hsub t ht)]
      · rw [List.map_cons]
        refine List.pairwise_cons.2 ⟨fun t ht => ?_, hd⟩
        obtain ⟨i, hi, rfl⟩ := List.mem_map.1 ht
        exact hlt i (h.sub i (hsub i hi))
      · intro p hp i hi
        rcases List.mem_append.1 hi with hi | hi
        · obtain ⟨t, ht, h1⟩ := h.dom p hp i hi
          obtain ⟨t', ht', h2⟩ := c3 p hp (f t) (List.mem_map.2 ⟨t, ht, rfl⟩)
          rcases List.mem_cons.1 ht' with rfl | ht'
          · exact ⟨k, by simp, by omega⟩
          · obtain ⟨j, hj, rfl⟩ := List.mem_map.1 ht'
            exact ⟨j, by simp [hj], by omega⟩
        · simp at hi; subst hi
          exact ⟨i, by simp, by omega⟩
      · intro i hi
        refine ⟨k, _, rfl, ?_⟩
        rcases List.mem_append.1 hi with hi | hi
        · have := hlt i hi; omega
        · simp at hi; subst hi; omega
      · intro t ht i hi hir
        rcases List.mem_append.1 hi with hi | hi
        · rcases List.mem_cons.1 ht with e | ht
          · have := hlt i hi; rw [e] at hir; omega
          · exact h.fst t (hsub t ht) i hi hir
        · simp at hi; subst hi
          rcases List.mem_cons.1 ht with rfl | ht
          · exact .inl rfl
          · have := hlt t (h.sub t (hsub t ht)); omega
theorem hull_inv (f : Nat → Int × Int) : ∀ (S P T : List Nat), HInv f P T → (P ≠ [] → T ≠ []) → (P ++ S).Pairwise (kl f) → HInv f (P ++ S) (S.foldl (pushI f) T) ∧ (P ++ S ≠ [] → S.foldl (pushI f) T ≠ [])
  | [], P, T, h, hne, _ => by simpa using ⟨h, hne⟩
  | k :: S, P, T, h, hne, hp => by
    have e : P ++ k :: S = (P ++ [k]) ++ S := by simp
    rw [e] at hp ⊢
    have hk : ∀ i ∈ P, kl f i k := fun i hi => by
      have := (List.pairwise_append.1 hp).1
      exact (List.pairwise_append.1 this).2.2 i hi k (by simp)
    obtain ⟨h1, h2⟩ := h.push k hk hne
    exact hull_inv f S (P ++ [k]) (pushI f T k) h1 (fun _ => h2) hp
def ctL (L : List (Int × Int)) (i : Nat) : Int × Int := L.getD i (0, 0)
theorem ctL_mem {L : List (Int × Int)} {i : Nat} (h : i < L.length) : ctL L i ∈ L := by
  unfold ctL; rw [List.getD_eq_getElem?_getD, List.getElem?_eq_getElem h]; simp
theorem mem_ctL {L : List (Int × Int)} {c : Int × Int} (h : c ∈ L) : ∃ i, i < L.length ∧ ctL L i = c := by
  obtain ⟨i, hi, rfl⟩ := List.mem_iff_getElem.1 h
  exact ⟨i, hi, by unfold ctL; rw [List.getD_eq_getElem?_getD, List.getElem?_eq_getElem hi]; rfl⟩
def cmpLt (f : Nat → Int × Int) (x p : Nat) : Bool := decide ((f x).2 < (f p).2 ∨ ((f x).2 = (f p).2 ∧ (f p).1 < (f x).1))
def insS (f : Nat → Int × Int) (x : Nat) : List Nat → List Nat
  | [] => [x]
  | p :: R => if cmpLt f x p then p :: insS f x R else x :: p :: R
def srtF (f : Nat → Int × Int) : Nat → List Nat
  | 0 => []
  | i + 1 => insS f i (srtF f i)
theorem insS_mem {f : Nat → Int × Int} {k x : Nat} : ∀ {l : List Nat}, x ∈ insS f k l ↔ x = k ∨ x ∈ l
  | [] => by simp [insS]
  | a :: r => by
    unfold insS
    split
    · have := insS_mem (f := f) (k := k) (x := x) (l := r)
      simp only [List.mem_cons, this]; grind
    · simp only [List.mem_cons]
theorem kl_trans {f : Nat → Int × Int} {a b c : Nat} (h1 : kl f a b) (h2 : kl f b c) : kl f a c := by unfold kl at *; omega
theorem insS_srt {f : Nat → Int × Int} {x : Nat} : ∀ {R : List Nat}, R.Pairwise (fun a b => kl f b a) → (∀ a ∈ R, a < x) → (insS f x R).Pairwise (fun a b => kl f b a)
  | [], _, _ => by simp [insS]
  | p :: R, h, hx => by
    have h' := List.pairwise_cons.1 h
    have hp := hx p (by simp)
    unfold insS
    split
    · rename_i hc
      have hc : (f x).2 < (f p).2 ∨ ((f x).2 = (f p).2 ∧ (f p).1 < (f x).1) := by simpa [cmpLt] using hc
      refine List.pairwise_cons.2 ⟨fun z hz => ?_, insS_srt h'.2 (fun z hz => hx z (by simp [hz]))⟩
      rcases insS_mem.1 hz with rfl | hz
      · unfold kl; omega
      · exact h'.1 z hz
    · rename_i hc
      have hc : ¬ ((f x).2 < (f p).2 ∨ ((f x).2 = (f p).2 ∧ (f p).1 < (f x).1)) := by simpa [cmpLt] using hc
      have hpx : kl f p x := by unfold kl; omega
      refine List.pairwise_cons.2 ⟨fun z hz => ?_, h⟩
      rcases List.mem_cons.1 hz with rfl | hz
      · exact hpx
      · exact kl_trans (h'.1 z hz) hpx
theorem srtF_sp (f : Nat → Int × Int) : ∀ n, (srtF f n).Pairwise (fun a b => kl f b a) ∧ ∀ x, x ∈ srtF f n ↔ x < n
  | 0 => by simp [srtF]
  | n + 1 => by
    obtain ⟨h1, h2⟩ := srtF_sp f n
    refine ⟨insS_srt h1 (fun a ha => (h2 a).1 ha), fun x => ?_⟩
    rw [srtF, insS_mem, h2]; omega
def hullF (L : List (Int × Int)) : List Nat := ((srtF (ctL L) L.length).reverse.foldl (pushI (ctL L)) []).reverse
theorem hull_HInv (L : List (Int × Int)) : HInv (ctL L) (srtF (ctL L) L.length).reverse (hullF L).reverse ∧ ∀ i, i ∈ (srtF (ctL L) L.length).reverse ↔ i < L.length := by
  obtain ⟨h1, h2⟩ := srtF_sp (ctL L) L.length
  have := (hull_inv (ctL L) (srtF (ctL L) L.length).reverse [] [] ⟨by simp, by simp [Dsc], trivial, by simp, by simp, by simp⟩ (by simp) (by rw [List.nil_append]; exact List.pairwise_reverse.2 h1)).1
  refine ⟨by simpa [hullF] using this, fun i => by rw [List.mem_reverse, h2]⟩
def turnsC : List (Int × Int) → List (Int × Int)
  | a :: b :: r => crossP a b :: turnsC (b :: r)
  | _ => []
theorem turnsC_mem : ∀ {C : List (Int × Int)} {q : Int × Int}, q ∈ turnsC C ↔ ∃ u a b v, C = u ++ a :: b :: v ∧ q = crossP a b
  | [], q => by simp [turnsC]
  | [a], q => by
    simp only [turnsC, List.not_mem_nil, false_iff]
    rintro ⟨u, x, y, v, e, _⟩
    have := congrArg List.length e
    simp at this; omega
  | a :: b :: r, q => by
    have ih := turnsC_mem (C := b :: r) (q := q)
    simp only [turnsC, List.mem_cons, ih]
    constructor
    · rintro (rfl | ⟨u, x, y, v, e, h⟩)
      · exact ⟨[], a, b, r, rfl, rfl⟩
      · exact ⟨a :: u, x, y, v, by rw [e]; rfl, h⟩
    · rintro ⟨u, x, y, v, e, h⟩
      cases u with
      | nil =>
        simp only [List.nil_append, List.cons.injEq] at e
        obtain ⟨rfl, rfl, rfl⟩ := e
        exact .inl h
      | cons z u =>
        simp only [List.cons_append, List.cons.injEq] at e
        exact .inr ⟨u, x, y, v, e.2, h⟩
theorem turnsC_srt : ∀ {C : List (Int × Int)}, Asc C → ChA C → (turnsC C).Pairwise lessP ∧ (∀ a r, C = a :: r → ∀ b s, r = b :: s → ∀ q ∈ turnsC (b :: s), lessP (crossP a b) q)
  | [], _, _ => by simp [turnsC]
  | [a], _, _ => by simp [turnsC]
  | a :: b :: r, hA, hC => by
    have hA' := List.pairwise_cons.1 hA
    have hab : a.2 < b.2 := hA'.1 b (by simp)
    obtain ⟨i1, i2⟩ := turnsC_srt (C := b :: r) hA'.2 (ChA_tail hC)
    have key : ∀ q ∈ turnsC (b :: r), lessP (crossP a b) q := by
      match r, hA, hC, i1, i2 with
      | [], _, _, _, _ => simp [turnsC]
      | c :: s, hA, hC, i1, i2 =>
        have hbc : b.2 < c.2 := (List.pairwise_cons.1 (List.pairwise_cons.1 hA).2).1 c (by simp)
        have h1 := (above_less hab hbc).1 hC.1
        intro q hq
        simp only [turnsC, List.mem_cons] at hq
        rcases hq with rfl | hq
        · exact h1
        · have h2 := i2 b (c :: s) rfl c s rfl q hq
          have hq2 : 0 < q.2 := by
            obtain ⟨u, x, y, v, e, rfl⟩ := turnsC_mem.1 hq
            have hxy : x.2 < y.2 := by
              have hh : Asc (u ++ x :: y :: v) := by rw [← e]; exact (List.pairwise_cons.1 (List.pairwise_cons.1 hA).2).2
              exact (List.pairwise_cons.1 (List.pairwise_append.1 hh).2.1).1 y (by simp)
            exact (cross_sp (by omega)).1
          exact less_trans (cross_sp (by omega)).1 (cross_sp (by omega)).1 hq2 h1 h2
    refine ⟨by simp only [turnsC]; exact List.pairwise_cons.2 ⟨key, i1⟩, ?_⟩
    rintro a' r' e b' s' rfl q hq
    simp only [List.cons.injEq] at e
    obtain ⟨rfl, rfl, rfl⟩ := e
    exact key q hq
/-- the most at a price -/
def IsMx (L : List (Int × Int)) (p : Int × Int) (M : Int) : Prop := (∃ c ∈ L, CtP p c = M) ∧ ∀ c ∈ L, CtP p c ≤ M
end Go.Proofs.Ytgnphlpoofaojaa

namespace Go.Proofs.Ytgnphlpoofaojaa
open Go.V
set_option maxRecDepth 100000
set_option maxHeartbeats 4000000
set_option linter.unusedSimpArgs false
set_option linter.unusedVariables false
attribute [local go_sem] tl1 tl2 tl3 tl4 tl5 tl9 tl17 tl21 tl22 tl23 tl24 tl25 tl26 tl27 tl28 tl29 tl31 tl33 tl34 tl36 tl37 tl38 tl39 tl40 tl41 tl42 tl43 tl44 tl46 tl47 tl49 tl50 tl52 tl53 tl54 tl55 tl56 tl57 tl58 tl60 tl62 tl63 tl64 tl65 tl66 tl67 tl68 tl69 tl70 tl71 tl72 tl74 tl75 tl76 tl77 tl78 tl79 tl80 tl81 tl82 tl83 tl84 tl85 tl86 tl87 tl88 tl89 tl90 tl91 tl92 tl93 tl94 tl95 tl96 tl97 tl98 tl99 tl100 tl102 tl103 tl104 tl105 tl106 tl107 tl108 tl109 tl110 tl111 tl112 tl113 tl114 tl115 tl116 tl117 tl118 tl119 tl120 tl121 tl122 tl123 tl124 tl125 tl126 tl127 tl128 tl129 tl130 tl131 tl132 tl133 tl134 tl140 tl141 tl145

def m24 (N : Nat) (p2264 : PV) : Option (PV) :=
  getL p2264 fun n2266 c2267 =>
  bnd' (m22 N (.lst false n2266 c2267)) fun p2268 =>
  getI .i64 p2268 fun x2271 =>
  brn (x2271 != 0) (
    some (.tup [(.lst false 0 []), (.int .i64 x2271)])) (
    bnd' (m65 N (.lst false n2266 c2267)) fun p2273 =>
    getL p2273 fun n2276 c2277 =>
    some (.tup [(.lst false n2276 c2277), (.int .i64 0)]))
theorem c24 (N : Nat) (p2264 : PV) (r : PV)  (h : m24 N p2264 = some r) : FnP Try.prog 24 [p2264] r := by
  unfold m24 at h
  refine Fn_of (sz := 12) tab_ok [0, 2, 3, 4, 8] [.tmp 2, .tmp 3] Try.func24 rfl rfl rfl (by simp) ?_
  simp only [initSt, initEnv, List.map_cons, List.map_nil, List.getD_cons_zero, List.getD_cons_succ, List.getD_nil]
  have hh := getL_some h; clear h; obtain ⟨n2266, c2267, h2265, h⟩ := hh
  have hh := bnd'_some h; clear h; obtain ⟨p2268, h2269, h⟩ := hh
  refine W_sound tab_ok mixed 9 _ _ _ ?_
  simp -implicitDefEqProofs only [go_sem, ne_eq, not_false_eq_true, Nat.reduceBEq, Nat.reduceAdd, Nat.reduceSub, Nat.reduceMul, Nat.reduceLT, Nat.reduceLeDiff, Int.reduceLE, Int.reduceLT, Int.reduceToNat, Int.reduceBEq, Int.reduceBNe, Int.le_refl, Nat.le_refl, decide_true, decide_false, Int.cast_ofNat_Int, ↓reduceIte, h2265]
  repeat with_reducible refine And.intro (by first | kernel_rfl | decide) ?_
  refine Wp_callP (c22 N _ _ h2269) (by kernel_rfl) rfl rfl rfl rfl (by decide) ?_
  have hh := getI_some h; clear h; obtain ⟨x2271, h2270, h⟩ := hh
  have hh := brn_some h; clear h; rcases hh with ⟨h2272, h⟩ | ⟨h2272, h⟩
  · refine W_sound tab_ok mixed 16 _ _ _ ?_
    simp -implicitDefEqProofs only [go_sem, ne_eq, not_false_eq_true, Nat.reduceBEq, Nat.reduceAdd, Nat.reduceSub, Nat.reduceMul, Nat.reduceLT, Nat.reduceLeDiff, Int.reduceLE, Int.reduceLT, Int.reduceToNat, Int.reduceBEq, Int.reduceBNe, Int.le_refl, Nat.le_refl, decide_true, decide_false, Int.cast_ofNat_Int, ↓reduceIte, h2265, h2270, h2272]
    repeat with_reducible refine And.intro (by first | kernel_rfl | decide) ?_
    obtain rfl := Option.some.inj h
    exact finC [(2, .v .nl), (3, .v (.int .i64 x2271))] [(2, .v (.lst false 0 [])), (3, .v (.int .i64 x2271))] (by simp [leE, lk_cons]) (.cons _ _ _ _ _ (.v _ _ (.nl false)) (.cons _ _ _ _ _ (.v _ _ (.refl _)) .nil)) (by rfl) (by simp [leE, lk_cons]) (by decide) (by decide) rfl (by simp only [go_sem, ne_eq, not_false_eq_true, Nat.reduceBEq, Nat.reduceAdd, Nat.reduceSub, Nat.reduceMul, Nat.reduceLT, Nat.reduceLeDiff, Int.reduceLE, Int.reduceLT, Int.reduceToNat, Int.reduceBEq, Int.reduceBNe, Int.le_refl, Nat.le_refl, decide_true, decide_false, Int.cast_ofNat_Int, ↓reduceIte, resQ_tmp, resQ_cell, resQ_nil, retD_one, retD_two, retD_three, retD_none]; try simp [R.val, retD_one, retD_two, retD_three, retD_none])
  · have hh := bnd'_some h; clear h; obtain ⟨p2273, h2274, h⟩ := hh
    refine W_sound tab_ok mixed 12 _ _ _ ?_
    simp -implicitDefEqProofs only [go_sem, ne_eq, not_false_eq_true, Nat.reduceBEq, Nat.reduceAdd, Nat.reduceSub, Nat.reduceMul, Nat.reduceLT, Nat.reduceLeDiff, Int.reduceLE, Int.reduceLT, Int.reduceToNat, Int.reduceBEq, Int.reduceBNe, Int.le_refl, Nat.le_refl, decide_true, decide_false, Int.cast_ofNat_Int, ↓reduceIte, h2265, h2270, h2272]
    repeat with_reducible refine And.intro (by first | kernel_rfl | decide) ?_
    refine Wp_callP (c65 N _ _ h2274) (by kernel_rfl) rfl rfl rfl rfl (by decide) ?_
    have hh := getL_some h; clear h; obtain ⟨n2276, c2277, h2275, h⟩ := hh
    refine W_sound tab_ok mixed 5 _ _ _ ?_
    simp -implicitDefEqProofs only [go_sem, ne_eq, not_false_eq_true, Nat.reduceBEq, Nat.reduceAdd, Nat.reduceSub, Nat.reduceMul, Nat.reduceLT, Nat.reduceLeDiff, Int.reduceLE, Int.reduceLT, Int.reduceToNat, Int.reduceBEq, Int.reduceBNe, Int.le_refl, Nat.le_refl, decide_true, decide_false, Int.cast_ofNat_Int, ↓reduceIte, h2265, h2270, h2272, h2275]
    repeat with_reducible refine And.intro (by first | kernel_rfl | decide) ?_
    obtain rfl := Option.some.inj h
    exact finC [(2, .v (.lst false n2276 c2277)), (3, .v (.int .i64 0))] [(2, .v (.lst false n2276 c2277)), (3, .v (.int .i64 0))] (by simp [leE, lk_cons]) (.cons _ _ _ _ _ (.v _ _ (.refl _)) (.cons _ _ _ _ _ (.v _ _ (.refl _)) .nil)) (by rfl) (by simp [leE, lk_cons]) (by decide) (by decide) rfl (by simp only [go_sem, ne_eq, not_false_eq_true, Nat.reduceBEq, Nat.reduceAdd, Nat.reduceSub, Nat.reduceMul, Nat.reduceLT, Nat.reduceLeDiff, Int.reduceLE, Int.reduceLT, Int.reduceToNat, Int.reduceBEq, Int.reduceBNe, Int.le_refl, Nat.le_refl, decide_true, decide_false, Int.cast_ofNat_Int, ↓reduceIte, resQ_tmp, resQ_cell, resQ_nil, retD_one, retD_two, retD_three, retD_none]; try simp [R.val, retD_one, retD_two, retD_three, retD_none])

def m67_L0 (N : Nat) (n2280 : Nat) (c2281 : List PV) (n2285 : Nat) (c2286 : List PV) : Nat → Nat → Int → List PV → Option ((Nat × List PV))
  | 0, _, _, _ => none
  | n + 1, n2361, x2362, c2363 =>
    brn (decide (x2362 < (IntKind.i64.wrap (((n2285 : Nat) : Int) - 1)))) (
      grd (0 ≤ x2362 ∧ x2362 < ((n2285 : Nat) : Int)) <|
      grd (0 < List.length (List.drop (Int.toNat x2362) c2286)) <|
      getI .i64 (gp c2286 (Int.toNat x2362)) fun x2369 =>
      grd (0 ≤ x2369 ∧ x2369 < ((n2280 : Nat) : Int)) <|
      grd (2 ≤ List.length (List.drop ((Int.toNat x2369) * 2) c2281)) <|
      getA2 (.agg (List.take 2 (List.drop ((Int.toNat x2369) * 2) c2281))) fun p2374 p2375 =>
      grd (0 ≤ (IntKind.i64.wrap (x2362 + 1)) ∧ (IntKind.i64.wrap (x2362 + 1)) < ((n2285 : Nat) : Int)) <|
      grd (0 < List.length (List.drop (Int.toNat (IntKind.i64.wrap (x2362 + 1))) c2286)) <|
      getI .i64 (gp c2286 (Int.toNat (IntKind.i64.wrap (x2362 + 1)))) fun x2380 =>
      grd (0 ≤ x2380 ∧ x2380 < ((n2280 : Nat) : Int)) <|
      grd (2 ≤ List.length (List.drop ((Int.toNat x2380) * 2) c2281)) <|
      getA2 (.agg (List.take 2 (List.drop ((Int.toNat x2380) * 2) c2281))) fun p2385 p2386 =>
      getI .i64 p2374 fun x2388 =>
      getI .i64 p2375 fun x2390 =>
      getI .i64 p2385 fun x2392 =>
      getI .i64 p2386 fun x2394 =>
      bnd' (m58 N (IntKind.i64.wrap (x2388 - x2392)) (IntKind.i64.wrap (x2394 - x2390))) fun p2395 =>
      getA2 p2395 fun p2398 p2399 =>
      grd ((n2361 + 1) ≤ 1099511627776) <|
      grd (List.length c2363 = (n2361 * 2)) <|
      m67_L0 N n2280 c2281 n2285 c2286 n (n2361 + 1) (IntKind.i64.wrap (x2362 + 1)) (c2363 ++ [p2398, p2399])) (
      some (n2361, c2363))
def m67 (N : Nat) (p2278 : PV) : Option (PV) :=
  getL p2278 fun n2280 c2281 =>
  bnd' (m65 N (.lst false n2280 c2281)) fun p2282 =>
  getL p2282 fun n2285 c2286 =>
  bnd' (m67_L0 N n2280 c2281 n2285 c2286 N 0 0 []) fun o =>
  match o with
  | (n2402, c2403) =>
    grd (List.length c2403 = (n2402 * 2)) <|
    some (.lst false n2402 c2403)
theorem c67 (N : Nat) (p2278 : PV) (r : PV)  (h : m67 N p2278 = some r) : FnP Try.prog 67 [p2278] r := by
  unfold m67 at h
  refine Fn_of (sz := 47) tab_ok [0, 2, 3, 4, 5, 6, 7, 12, 13, 14] [.tmp 2] Try.func67 rfl rfl rfl (by simp) ?_
  simp only [initSt, initEnv, List.map_cons, List.map_nil, List.getD_cons_zero, List.getD_cons_succ, List.getD_nil]
  have hh := getL_some h; clear h; obtain ⟨n2280, c2281, h2279, h⟩ := hh
  have hh := bnd'_some h; clear h; obtain ⟨p2282, h2283, h⟩ := hh
  refine W_sound tab_ok mixed 7 _ _ _ ?_
  simp -implicitDefEqProofs only [go_sem, ne_eq, not_false_eq_true, Nat.reduceBEq, Nat.reduceAdd, Nat.reduceSub, Nat.reduceMul, Nat.reduceLT, Nat.reduceLeDiff, Int.reduceLE, Int.reduceLT, Int.reduceToNat, Int.reduceBEq, Int.reduceBNe, Int.le_refl, Nat.le_refl, decide_true, decide_false, Int.cast_ofNat_Int, ↓reduceIte, h2279]
  repeat with_reducible refine And.intro (by first | kernel_rfl | decide) ?_
  refine Wp_callP (c65 N _ _ h2283) (by kernel_rfl) rfl rfl rfl rfl (by decide) ?_
  have hh := getL_some h; clear h; obtain ⟨n2285, c2286, h2284, h⟩ := hh
  refine W_sound tab_ok mixed 14 _ _ _ ?_
  simp -implicitDefEqProofs only [go_sem, ne_eq, not_false_eq_true, Nat.reduceBEq, Nat.reduceAdd, Nat.reduceSub, Nat.reduceMul, Nat.reduceLT, Nat.reduceLeDiff, Int.reduceLE, Int.reduceLT, Int.reduceToNat, Int.reduceBEq, Int.reduceBNe, Int.le_refl, Nat.le_refl, decide_true, decide_false, Int.cast_ofNat_Int, ↓reduceIte, h2279, h2284]
  repeat with_reducible refine And.intro (by first | kernel_rfl | decide) ?_
  refine Wp_weaken (Wk_ownS 4 2 rfl (by decide) (by decide)) ?_
  simp -implicitDefEqProofs only [go_sem, ne_eq, not_false_eq_true, Nat.reduceBEq, Nat.reduceAdd, Nat.reduceSub, Nat.reduceMul, Nat.reduceLT, Nat.reduceLeDiff, Int.reduceLE, Int.reduceLT, Int.reduceToNat, Int.reduceBEq, Int.reduceBNe, Int.le_refl, Nat.le_refl, decide_true, decide_false, Int.cast_ofNat_Int, ↓reduceIte, h2279, h2284]
  have hh := bnd'_some h; clear h; obtain ⟨o2405, h2406, h2407⟩ := hh
  refine Wp_cut (fun s => ∃ n2402, ∃ c2403, (n2402, c2403) = o2405 ∧ s = ⟨[], [(0, .dead), (2, .dead), (3, .dead), (4, .sl false 0 0 n2402 2), (5, .dead), (6, .dead), (7, .dead), (12, .dead), (13, .dead), (14, .dead)], [(0, .p c2403)], 1, []⟩) ?_ ?_
  · refine Wp_block ?_
    refine Wp_loopG (fun n s => ∃ n2361, ∃ x2362, ∃ c2363, m67_L0 N n2280 c2281 n2285 c2286 n n2361 x2362 c2363 = some o2405 ∧ s = ⟨[], [(0, .v (.lst false n2280 c2281)), (2, .dead), (3, .v (.lst false n2285 c2286)), (4, .sl false 0 0 n2361 2), (5, .dead), (6, .dead), (7, .dead), (12, .v (.int .i64 (IntKind.i64.wrap (((n2285 : Nat) : Int) - 1)))), (13, .v (.int .i64 x2362)), (14, .dead)], [(0, .p c2363)], 1, []⟩) N _ ((Wk_le (.cons _ _ _ _ _ (.refl _) (.cons _ _ _ _ _ (.dead _) (.cons _ _ _ _ _ (.refl _) (.cons _ _ _ _ _ (.refl _) (.cons _ _ _ _ _ (.refl _) (.cons _ _ _ _ _ (.refl _) (.cons _ _ _ _ _ (.refl _) (.cons _ _ _ _ _ (.refl _) (.cons _ _ _ _ _ (.refl _) (.cons _ _ _ _ _ (.refl _) .nil)))))))))) (OLe.refl _)).trans (cmpS_ok rfl)) ⟨_, _, _, h2406, rfl⟩ ?_
    clear h2406
    rintro n _ ⟨n2361, x2362, c2363, h2406, rfl⟩
    cases n with
    | zero => cases h2406
    | succ n =>
      rw [m67_L0] at h2406
      have hh := brn_some h2406; clear h2406; rcases hh with ⟨h2364, h2406⟩ | ⟨h2364, h2406⟩
      · have hh := grd_some h2406; clear h2406; obtain ⟨⟨g2365, g2366⟩, h2406⟩ := hh
        have hh := grd_some h2406; clear h2406; obtain ⟨g2367, h2406⟩ := hh
        have hh := getI_some h2406; clear h2406; obtain ⟨x2369, h2368, h2406⟩ := hh
        have hh := grd_some h2406; clear h2406; obtain ⟨⟨g2370, g2371⟩, h2406⟩ := hh
        have hh := grd_some h2406; clear h2406; obtain ⟨g2372, h2406⟩ := hh
        have hh := getA2_some h2406; clear h2406; obtain ⟨p2374, p2375, h2373, h2406⟩ := hh
        injection h2373 with h2373
        have hh := grd_some h2406; clear h2406; obtain ⟨⟨g2376, g2377⟩, h2406⟩ := hh
        have hh := grd_some h2406; clear h2406; obtain ⟨g2378, h2406⟩ := hh
        have hh := getI_some h2406; clear h2406; obtain ⟨x2380, h2379, h2406⟩ := hh
        have hh := grd_some h2406; clear h2406; obtain ⟨⟨g2381, g2382⟩, h2406⟩ := hh
        have hh := grd_some h2406; clear h2406; obtain ⟨g2383, h2406⟩ := hh
        have hh := getA2_some h2406; clear h2406; obtain ⟨p2385, p2386, h2384, h2406⟩ := hh
        injection h2384 with h2384
        have hh := getI_some h2406; clear h2406; obtain ⟨x2388, h2387, h2406⟩ := hh
        have hh := getI_some h2406; clear h2406; obtain ⟨x2390, h2389, h2406⟩ := hh
        have hh := getI_some h2406; clear h2406; obtain ⟨x2392, h2391, h2406⟩ := hh
        have hh := getI_some h2406; clear h2406; obtain ⟨x2394, h2393, h2406⟩ := hh
        have hh := bnd'_some h2406; clear h2406; obtain ⟨p2395, h2396, h2406⟩ := hh
        refine W_sound tab_ok mixed 48 _ _ _ ?_
        simp -implicitDefEqProofs only [go_sem, ne_eq, not_false_eq_true, Nat.reduceBEq, Nat.reduceAdd, Nat.reduceSub, Nat.reduceMul, Nat.reduceLT, Nat.reduceLeDiff, Int.reduceLE, Int.reduceLT, Int.reduceToNat, Int.reduceBEq, Int.reduceBNe, Int.le_refl, Nat.le_refl, decide_true, decide_false, Int.cast_ofNat_Int, ↓reduceIte, h2279, h2284, h2364, g2365, g2366, g2367, h2368, g2370, g2371, g2372, h2373, g2376, g2377, g2378, h2379, g2381, g2382, g2383, h2384, h2387, h2389, h2391, h2393]
        repeat with_reducible refine And.intro (by first | kernel_rfl | decide) ?_
        refine Wp_callP (c58 N _ _ _ h2396) (by kernel_rfl) rfl rfl rfl rfl (by decide) ?_
        have hh := getA2_some h2406; clear h2406; obtain ⟨p2398, p2399, h2397, h2406⟩ := hh
        have hh := grd_some h2406; clear h2406; obtain ⟨g2400, h2406⟩ := hh
        have hh := grd_some h2406; clear h2406; obtain ⟨g2401, h2406⟩ := hh
        refine W_sound tab_ok mixed 9 _ _ _ ?_
        simp -implicitDefEqProofs only [go_sem, ne_eq, not_false_eq_true, Nat.reduceBEq, Nat.reduceAdd, Nat.reduceSub, Nat.reduceMul, Nat.reduceLT, Nat.reduceLeDiff, Int.reduceLE, Int.reduceLT, Int.reduceToNat, Int.reduceBEq, Int.reduceBNe, Int.le_refl, Nat.le_refl, decide_true, decide_false, Int.cast_ofNat_Int, ↓reduceIte, h2279, h2284, h2364, g2365, g2366, g2367, h2368, g2370, g2371, g2372, h2373, g2376, g2377, g2378, h2379, g2381, g2382, g2383, h2384, h2387, h2389, h2391, h2393, h2397, g2400, g2401]
        repeat with_reducible refine And.intro (by first | kernel_rfl | decide) ?_
        exact cutQ _ ((Wk_le (.cons _ _ _ _ _ (.refl _) (.cons _ _ _ _ _ (.refl _) (.cons _ _ _ _ _ (.refl _) (.cons _ _ _ _ _ (.refl _) (.cons _ _ _ _ _ (.dead _) (.cons _ _ _ _ _ (.dead _) (.cons _ _ _ _ _ (.dead _) (.cons _ _ _ _ _ (.refl _) (.cons _ _ _ _ _ (.refl _) (.cons _ _ _ _ _ (.dead _) .nil)))))))))) (OLe.refl _)).trans (cmpS_ok rfl)) ⟨n, Nat.lt_succ_self n, _, _, _, h2406, rfl⟩
      · refine W_sound tab_ok mixed 7 _ _ _ ?_
        simp -implicitDefEqProofs only [go_sem, ne_eq, not_false_eq_true, Nat.reduceBEq, Nat.reduceAdd, Nat.reduceSub, Nat.reduceMul, Nat.reduceLT, Nat.reduceLeDiff, Int.reduceLE, Int.reduceLT, Int.reduceToNat, Int.reduceBEq, Int.reduceBNe, Int.le_refl, Nat.le_refl, decide_true, decide_false, Int.cast_ofNat_Int, ↓reduceIte, h2279, h2284, h2364]
        repeat with_reducible refine And.intro (by first | kernel_rfl | decide) ?_
        obtain rfl := Option.some.inj h2406
        exact cutQ _ ((Wk_le (.cons _ _ _ _ _ (.dead _) (.cons _ _ _ _ _ (.refl _) (.cons _ _ _ _ _ (.dead _) (.cons _ _ _ _ _ (.refl _) (.cons _ _ _ _ _ (.refl _) (.cons _ _ _ _ _ (.refl _) (.cons _ _ _ _ _ (.refl _) (.cons _ _ _ _ _ (.dead _) (.cons _ _ _ _ _ (.dead _) (.cons _ _ _ _ _ (.dead _) .nil)))))))))) (OLe.refl _)).trans (cmpS_ok rfl)) ⟨_, _, rfl, rfl⟩
  · rintro _ ⟨n2402, c2403, rfl, rfl⟩
    (try dsimp only at h2407)
    refine W_sound tab_ok mixed 7 _ _ _ ?_
    simp -implicitDefEqProofs only [go_sem, ne_eq, not_false_eq_true, Nat.reduceBEq, Nat.reduceAdd, Nat.reduceSub, Nat.reduceMul, Nat.reduceLT, Nat.reduceLeDiff, Int.reduceLE, Int.reduceLT, Int.reduceToNat, Int.reduceBEq, Int.reduceBNe, Int.le_refl, Nat.le_refl, decide_true, decide_false, Int.cast_ofNat_Int, ↓reduceIte, h2279, h2284]
    repeat with_reducible refine And.intro (by first | kernel_rfl | decide) ?_
    have hh := grd_some h2407; clear h2407; obtain ⟨g2404, h2407⟩ := hh
    refine FinQ_wk (Wk_freeze 0 c2403 (by rfl) (by decide) (by decide)) ?_
    simp -implicitDefEqProofs only [go_sem, ne_eq, not_false_eq_true, Nat.reduceBEq, Nat.reduceAdd, Nat.reduceSub, Nat.reduceMul, Nat.reduceLT, Nat.reduceLeDiff, Int.reduceLE, Int.reduceLT, Int.reduceToNat, Int.reduceBEq, Int.reduceBNe, Int.le_refl, Nat.le_refl, decide_true, decide_false, Int.cast_ofNat_Int, ↓reduceIte, h2279, h2284, g2404]
    obtain rfl := Option.some.inj h2407
    exact finC [(2, .v (.lst false n2402 c2403))] [(2, .v (.lst false n2402 c2403))] (by simp [leE, lk_cons]) (.cons _ _ _ _ _ (.v _ _ (.refl _)) .nil) (by rfl) (by simp [leE, lk_cons]) (by decide) (by decide) rfl (by simp only [go_sem, ne_eq, not_false_eq_true, Nat.reduceBEq, Nat.reduceAdd, Nat.reduceSub, Nat.reduceMul, Nat.reduceLT, Nat.reduceLeDiff, Int.reduceLE, Int.reduceLT, Int.reduceToNat, Int.reduceBEq, Int.reduceBNe, Int.le_refl, Nat.le_refl, decide_true, decide_false, Int.cast_ofNat_Int, ↓reduceIte, resQ_tmp, resQ_cell, resQ_nil, retD_one, retD_two, retD_three, retD_none]; try simp [R.val, retD_one, retD_two, retD_three, retD_none])

def m26 (N : Nat) (p2408 : PV) : Option (PV) :=
  getL p2408 fun n2410 c2411 =>
  bnd' (m22 N (.lst false n2410 c2411)) fun p2412 =>
  getI .i64 p2412 fun x2415 =>
  brn (x2415 != 0) (
    some (.tup [(.lst false 0 []), (.int .i64 x2415)])) (
    bnd' (m67 N (.lst false n2410 c2411)) fun p2417 =>
    getL p2417 fun n2420 c2421 =>
    some (.tup [(.lst false n2420 c2421), (.int .i64 0)]))
theorem c26 (N : Nat) (p2408 : PV) (r : PV)  (h : m26 N p2408 = some r) : FnP Try.prog 26 [p2408] r := by
  unfold m26 at h
  refine Fn_of (sz := 12) tab_ok [0, 2, 3, 4, 8] [.tmp 2, .tmp 3] Try.func26 rfl rfl rfl (by simp) ?_
  simp only [initSt, initEnv, List.map_cons, List.map_nil, List.getD_cons_zero, List.getD_cons_succ, List.getD_nil]
  have hh := getL_some h; clear h; obtain ⟨n2410, c2411, h2409, h⟩ := hh
  have hh := bnd'_some h; clear h; obtain ⟨p2412, h2413, h⟩ := hh
  refine W_sound tab_ok mixed 9 _ _ _ ?_
  simp -implicitDefEqProofs only [go_sem, ne_eq, not_false_eq_true, Nat.reduceBEq, Nat.reduceAdd, Nat.reduceSub, Nat.reduceMul, Nat.reduceLT, Nat.reduceLeDiff, Int.reduceLE, Int.reduceLT, Int.reduceToNat, Int.reduceBEq, Int.reduceBNe, Int.le_refl, Nat.le_refl, decide_true, decide_false, Int.cast_ofNat_Int, ↓reduceIte, h2409]
  repeat with_reducible refine And.intro (by first | kernel_rfl | decide) ?_
  refine Wp_callP (c22 N _ _ h2413) (by kernel_rfl) rfl rfl rfl rfl (by decide) ?_
  have hh := getI_some h; clear h; obtain ⟨x2415, h2414, h⟩ := hh
  have hh := brn_some h; clear h; rcases hh with ⟨h2416, h⟩ | ⟨h2416, h⟩
  · refine W_sound tab_ok mixed 16 _ _ _ ?_
    simp -implicitDefEqProofs only [go_sem, ne_eq, not_false_eq_true, Nat.reduceBEq, Nat.reduceAdd, Nat.reduceSub, Nat.reduceMul, Nat.reduceLT, Nat.reduceLeDiff, Int.reduceLE, Int.reduceLT, Int.reduceToNat, Int.reduceBEq, Int.reduceBNe, Int.le_refl, Nat.le_refl, decide_true, decide_false, Int.cast_ofNat_Int, ↓reduceIte, h2409, h2414, h2416]
    repeat with_reducible refine And.intro (by first | kernel_rfl | decide) ?_
    obtain rfl := Option.some.inj h
    exact finC [(2, .v .nl), (3, .v (.int .i64 x2415))] [(2, .v (.lst false 0 [])), (3, .v (.int .i64 x2415))] (by simp [leE, lk_cons]) (.cons _ _ _ _ _ (.v _ _ (.nl false)) (.cons _ _ _ _ _ (.v _ _ (.refl _)) .nil)) (by rfl) (by simp [leE, lk_cons]) (by decide) (by decide) rfl (by simp only [go_sem, ne_eq, not_false_eq_true, Nat.reduceBEq, Nat.reduceAdd, Nat.reduceSub, Nat.reduceMul, Nat.reduceLT, Nat.reduceLeDiff, Int.reduceLE, Int.reduceLT, Int.reduceToNat, Int.reduceBEq, Int.reduceBNe, Int.le_refl, Nat.le_refl, decide_true, decide_false, Int.cast_ofNat_Int, ↓reduceIte, resQ_tmp, resQ_cell, resQ_nil, retD_one, retD_two, retD_three, retD_none]; try simp [R.val, retD_one, retD_two, retD_three, retD_none])
  · have hh := bnd'_some h; clear h; obtain ⟨p2417, h2418, h⟩ := hh
    refine W_sound tab_ok mixed 12 _ _ _ ?_
    simp -implicitDefEqProofs only [go_sem, ne_eq, not_false_eq_true, Nat.reduceBEq, Nat.reduceAdd, Nat.reduceSub, Nat.reduceMul, Nat.reduceLT, Nat.reduceLeDiff, Int.reduceLE, Int.reduceLT, Int.reduceToNat, Int.reduceBEq, Int.reduceBNe, Int.le_refl, Nat.le_refl, decide_true, decide_false, Int.cast_ofNat_Int, ↓reduceIte, h2409, h2414, h2416]
    repeat with_reducible refine And.intro (by first | kernel_rfl | decide) ?_
    refine Wp_callP (c67 N _ _ h2418) (by kernel_rfl) rfl rfl rfl rfl (by decide) ?_
    have hh := getL_some h; clear h; obtain ⟨n2420, c2421, h2419, h⟩ := hh
    refine W_sound tab_ok mixed 5 _ _ _ ?_
    simp -implicitDefEqProofs only [go_sem, ne_eq, not_false_eq_true, Nat.reduceBEq, Nat.reduceAdd, Nat.reduceSub, Nat.reduceMul, Nat.reduceLT, Nat.reduceLeDiff, Int.reduceLE, Int.reduceLT, Int.reduceToNat, Int.reduceBEq, Int.reduceBNe, Int.le_refl, Nat.le_refl, decide_true, decide_false, Int.cast_ofNat_Int, ↓reduceIte, h2409, h2414, h2416, h2419]
    repeat with_reducible refine And.intro (by first | kernel_rfl | decide) ?_
    obtain rfl := Option.some.inj h
    exact finC [(2, .v (.lst false n2420 c2421)), (3, .v (.int .i64 0))] [(2, .v (.lst false n2420 c2421)), (3, .v (.int .i64 0))] (by simp [leE, lk_cons]) (.cons _ _ _ _ _ (.v _ _ (.refl _)) (.cons _ _ _ _ _ (.v _ _ (.refl _)) .nil)) (by rfl) (by simp [leE, lk_cons]) (by decide) (by decide) rfl (by simp only [go_sem, ne_eq, not_false_eq_true, Nat.reduceBEq, Nat.reduceAdd, Nat.reduceSub, Nat.reduceMul, Nat.reduceLT, Nat.reduceLeDiff, Int.reduceLE, Int.reduceLT, Int.reduceToNat, Int.reduceBEq, Int.reduceBNe, Int.le_refl, Nat.le_refl, decide_true, decide_false, Int.cast_ofNat_Int, ↓reduceIte, resQ_tmp, resQ_cell, resQ_nil, retD_one, retD_two, retD_three, retD_none]; try simp [R.val, retD_one, retD_two, retD_three, retD_none])

end Go.Proofs.Ytgnphlpoofaojaa

namespace Go.Proofs.Ytgnphlpoofaojaa
open Go.V

def nL (l : List Nat) : List PV := l.map fun (k : Nat) => PV.int .i64 (k : Int)
theorem nL_len (l : List Nat) : (nL l).length = l.length := by simp [nL]
theorem nL_app (a b : List Nat) : nL (a ++ b) = nL a ++ nL b := by simp [nL]
theorem nL_gp (a : List Nat) (x : Nat) (b : List Nat) : gp (nL (a ++ x :: b)) a.length = .int .i64 (x : Int) := by
  have := gp_drop (l := nL (a ++ x :: b)) (k := a.length) (i := 0)
  rw [Nat.add_zero] at this
  rw [← this]
  have : (nL (a ++ x :: b)).drop a.length = nL (x :: b) := by
    rw [nL_app, ← nL_len a, List.drop_left]
  rw [this]; rfl
theorem nL_set (a : List Nat) (x y : Nat) (b : List Nat) : (nL (a ++ x :: b)).set a.length (.int .i64 (y : Int)) = nL (a ++ y :: b) := by
  rw [nL_app, nL_app]
  have := set_mid (nL a) (.int .i64 (x : Int)) (.int .i64 (y : Int)) (nL b)
  rw [nL_len] at this
  exact this
theorem ctL_at {L : List (Int × Int)} {k : Nat} (h : k < L.length) : L[k]? = some (ctL L k) := by
  unfold ctL; rw [List.getD_eq_getElem?_getD, List.getElem?_eq_getElem h]; rfl
theorem gpc1 {L : List (Int × Int)} {k : Nat} (h : k < L.length) : gp (cellsC L) (k * 2 + 1) = .int .i64 (ctL L k).2 := by
  have e : L = L.take k ++ ctL L k :: L.drop (k + 1) := by
    have h1 := List.getElem?_eq_some_iff.1 (ctL_at h)
    have := List.drop_eq_getElem_cons h
    rw [h1.2] at this
    rw [← this, List.take_append_drop]
  have := cellsC_gp1 (L.take k) (ctL L k) (L.drop (k + 1))
  rw [List.length_take, Nat.min_eq_left (by omega)] at this
  rw [← e] at this
  exact this
def cmpV (a b : Int × Int) : Int := if a.2 - b.2 ≠ 0 then a.2 - b.2 else -a.1 - -b.1
theorem cmpV_lt {f : Nat → Int × Int} {i j : Nat} : cmpV (f i) (f j) < 0 ↔ cmpLt f i j = true := by
  unfold cmpV cmpLt
  rw [decide_eq_true_eq]
  split <;> omega
theorem cmp_ok (N : Nat) (L : List (Int × Int)) (hb : ∀ q ∈ L, bdC q) (i j : Nat) (hi : i < L.length) (hj : j < L.length) : m84 N (i : Int) (j : Int) (.lst false L.length (cellsC L)) = some (.int .i64 (cmpV (ctL L i) (ctL L j))) := by
  have hcl : (cellsC L).length = L.length * 2 := cellsC_len L
  have ti : (Int.toNat (i : Int)) = i := by omega
  have tj : (Int.toNat (j : Int)) = j := by omega
  have bi := hb _ (ctL_mem hi)
  have bj := hb _ (ctL_mem hj)
  unfold bdC at bi bj
  simp only [m84, getL, ti, tj]
  rw [grd_t ⟨by omega, by omega⟩, grd_t (by simp only [List.length_drop]; omega), cellsC_at (ctL_at hi)]
  simp only [getA2]
  rw [grd_t ⟨by omega, by omega⟩, grd_t (by simp only [List.length_drop]; omega), cellsC_at (ctL_at hj)]
  simp only [m85, m81, m82, getA2, getI, if_true, bnd']
  have w1 : IntKind.i64.wrap ((ctL L i).2 - (ctL L j).2) = (ctL L i).2 - (ctL L j).2 := wrap64 (by omega) (by omega)
  have w2 : IntKind.i64.wrap (0 - (ctL L i).1) = -(ctL L i).1 := by rw [wrap64 (by omega) (by omega)]; omega
  have w3 : IntKind.i64.wrap (0 - (ctL L j).1) = -(ctL L j).1 := by rw [wrap64 (by omega) (by omega)]; omega
  have w4 : IntKind.i64.wrap (-(ctL L i).1 - -(ctL L j).1) = -(ctL L i).1 - -(ctL L j).1 := wrap64 (by omega) (by omega)
  rw [w1, w2, w3, w4]
  unfold cmpV
  by_cases h : (ctL L i).2 - (ctL L j).2 ≠ 0
  · rw [brn_t (by simpa using h), if_pos h]
    simp only [if_true]
  · rw [brn_f (by simpa using h), if_neg h]
    simp only [if_true]
theorem ins_L (N : Nat) (L : List (Int × Int)) (hb : ∀ q ∈ L, bdC q) (hL : L.length ≤ 1000) (n : Nat) (hn : n ≤ 1000) (b i : Int) (x : Nat) (hx : x < L.length) : ∀ (R rest : List Nat) (fuel : Nat), (∀ p ∈ R, p < L.length) → n = R.length + 1 + rest.length → R.length < fuel →
    m89_L1 N n 0 b (.lst false L.length (cellsC L)) i fuel (R.length : Int) (nL (R.reverse ++ x :: rest)) = some (nL ((insS (ctL L) x R).reverse ++ rest))
  | [], rest, 0, _, _, h => by simp at h
  | [], rest, f + 1, _, _, _ => by
    rw [m89_L1, brn_f (by simp)]; rfl
  | p :: R, rest, 0, _, _, h => by simp at h
  | p :: R, rest, f + 1, hR, hnn, hf => by
    have hp := hR p (by simp)
    simp only [List.length_cons] at hnn hf
    have w1 : IntKind.i64.wrap (((p :: R).length : Int) - 1) = ((R.length : Nat) : Int) := by rw [List.length_cons, wrap64 (by omega) (by omega)]; omega
    have t1 : (Int.toNat ((p :: R).length : Int)) = R.length + 1 := by simp
    have t2 : (Int.toNat ((R.length : Nat) : Int)) = R.length := by omega
    have hlen : (nL ((p :: R).reverse ++ x :: rest)).length = n := by rw [nL_len]; simp; omega
    have gx : gp (nL ((p :: R).reverse ++ x :: rest)) (R.length + 1) = .int .i64 (x : Int) := by
      have := nL_gp ((p :: R).reverse) x rest
      rw [List.length_reverse, List.length_cons] at this
      exact this
    have ep : (p :: R).reverse ++ x :: rest = R.reverse ++ p :: x :: rest := by simp
    have gpp : gp (nL ((p :: R).reverse ++ x :: rest)) R.length = .int .i64 (p : Int) := by
      rw [ep]
      have := nL_gp R.reverse p (x :: rest)
      rw [List.length_reverse] at this
      exact this
    rw [m89_L1, brn_t (by simp), w1, t1, t2, grd_t ⟨by simp; omega, by simp; omega⟩, grd_t (by omega), gx]
    simp only [getI, if_true]
    rw [grd_t ⟨by omega, by omega⟩, grd_t (by omega), gpp]
    simp only [if_true]
    rw [cmp_ok N L hb x p hx hp]
    simp only [bnd', if_true]
    by_cases hc : cmpV (ctL L x) (ctL L p) < 0
    · have hc' := cmpV_lt.1 hc
      rw [brn_t (by simpa using hc), grd_t (by omega), grd_t (by omega)]
      have es : ((nL ((p :: R).reverse ++ x :: rest)).set (R.length + 1) (.int .i64 (p : Int))).set R.length (.int .i64 (x : Int)) = nL (R.reverse ++ x :: p :: rest) := by
        have s1 := nL_set ((p :: R).reverse) x p rest
        rw [List.length_reverse, List.length_cons] at s1
        rw [s1]
        have e2 : (p :: R).reverse ++ p :: rest = R.reverse ++ p :: p :: rest := by simp
        rw [e2]
        have s2 := nL_set R.reverse p x (p :: rest)
        rw [List.length_reverse] at s2
        exact s2
      rw [es]
      have ih := ins_L N L hb hL n hn b i x hx R (p :: rest) f (fun z hz => hR z (by simp [hz])) (by simp; omega) (by omega)
      rw [ih]
      simp [insS, hc']
    · have hc' : ¬ cmpLt (ctL L) x p = true := fun h => hc (cmpV_lt.2 h)
      rw [brn_f (by simpa using hc)]
      simp [insS, hc']
theorem srt_len (f : Nat → Int × Int) : ∀ n, (srtF f n).length = n
  | 0 => rfl
  | n + 1 => by
    have h : ∀ (x : Nat) (R : List Nat), (insS f x R).length = R.length + 1 := by
      intro x R
      induction R with
      | nil => rfl
      | cons p R ih => simp only [insS]; split <;> simp [ih]
    rw [srtF, h, srt_len f n]
theorem sort_L (N : Nat) (L : List (Int × Int)) (hb : ∀ q ∈ L, bdC q) (hL : L.length ≤ 1000) (hN : 2000 ≤ N) : ∀ (r i fuel : Nat), L.length - i = r → i ≤ L.length → r < fuel →
    m89_L0 N L.length 0 (L.length : Int) (.lst false L.length (cellsC L)) fuel (i : Int) (nL ((srtF (ctL L) i).reverse ++ List.range' i (L.length - i))) = some (nL (srtF (ctL L) L.length).reverse)
  | r, i, 0, _, _, h => by omega
  | r, i, f + 1, hr, hi, hf => by
    rw [m89_L0]
    by_cases hd : i < L.length
    · rw [brn_t (by simpa using hd)]
      have e1 : List.range' i (L.length - i) = i :: List.range' (i + 1) (L.length - (i + 1)) := by
        rw [show L.length - i = (L.length - (i + 1)) + 1 by omega, List.range'_succ]
      have hmem := (srtF_sp (ctL L) i).2
      have h1 := ins_L N L hb hL L.length hL (L.length : Int) (i : Int) i hd (srtF (ctL L) i) (List.range' (i + 1) (L.length - (i + 1))) N (fun p hp => by have := (hmem p).1 hp; omega) (by rw [srt_len]; simp; omega) (by rw [srt_len]; omega)
      rw [srt_len] at h1
      rw [e1, h1]
      have hw : IntKind.i64.wrap ((i : Int) + 1) = ((i + 1 : Nat) : Int) := by rw [wrap64 (by omega) (by omega)]; omega
      simp only [bnd', hw]
      exact sort_L N L hb hL hN (r - 1) (i + 1) f (by omega) (by omega) (by omega)
    · have : i = L.length := by omega
      subst this
      rw [brn_f (by simp)]
      simp
theorem sort_ok (N : Nat) (L : List (Int × Int)) (hb : ∀ q ∈ L, bdC q) (h1 : 1 ≤ L.length) (hL : L.length < 20) (hN : 2000 ≤ N) : m83 N L.length (.lst false L.length (cellsC L)) (nL (List.range' 0 L.length)) = some (.tup [], nL (srtF (ctL L) L.length).reverse) := by
  have h2 := sort_L N L hb (by omega) hN (L.length - 1) 1 N (by omega) (by omega) (by omega)
  have e1 : (srtF (ctL L) 1).reverse ++ List.range' 1 (L.length - 1) = List.range' 0 L.length := by
    rw [show L.length = (L.length - 1) + 1 by omega, List.range'_succ]; rfl
  rw [e1] at h2
  have hA : m89 N L.length 0 (L.length : Int) (.lst false L.length (cellsC L)) (nL (List.range' 0 L.length)) = some (.tup [], nL (srtF (ctL L) L.length).reverse) := by
    simp only [m89]
    rw [show IntKind.i64.wrap ((0 : Int) + 1) = ((1 : Nat) : Int) by decide, h2]
    rfl
  obtain ⟨g, rfl⟩ : ∃ g, N = g + 1 := ⟨N - 1, by omega⟩
  simp only [m83, m88]
  rw [m88_L0, brn_f (by simp; omega)]
  simp only [bnd']
  rw [hA]
  simp only [getT0]
  rw [m88_L1, brn_f (by simp; omega)]
theorem fill_L (N : Nat) (n : Nat) (c : List PV) (hn : n ≤ 1000) : ∀ (r i fuel : Nat), n - i = r → i ≤ n → r < fuel →
    m65_L0 N n c fuel (i : Int) (nL (List.range' 0 i) ++ List.replicate (n - i) (.int .i64 0)) = some (nL (List.range' 0 n))
  | r, i, 0, _, _, h => by omega
  | r, i, f + 1, hr, hi, hf => by
    rw [m65_L0]
    have hli : (nL (List.range' 0 i)).length = i := by rw [nL_len]; simp
    by_cases hd : i < n
    · have ti : (Int.toNat (i : Int)) = i := by omega
      have hw : IntKind.i64.wrap ((i : Int) + 1) = ((i + 1 : Nat) : Int) := by rw [wrap64 (by omega) (by omega)]; omega
      rw [brn_t (by simpa using hd), ti, grd_t ⟨by omega, by omega⟩, grd_t (by rw [List.length_append, hli]; simp; omega), hw]
      have e1 : List.replicate (n - i) (PV.int .i64 0) = .int .i64 0 :: List.replicate (n - (i + 1)) (.int .i64 0) := by
        rw [show n - i = (n - (i + 1)) + 1 by omega, List.replicate_succ]
      have e2 : (nL (List.range' 0 i) ++ List.replicate (n - i) (PV.int .i64 0)).set i (.int .i64 (i : Int)) = nL (List.range' 0 (i + 1)) ++ List.replicate (n - (i + 1)) (.int .i64 0) := by
        rw [e1]
        have := set_mid (nL (List.range' 0 i)) (.int .i64 0) (.int .i64 (i : Int)) (List.replicate (n - (i + 1)) (PV.int .i64 0))
        rw [hli] at this
        rw [this]
        have : List.range' 0 (i + 1) = List.range' 0 i ++ [i] := by rw [List.range'_concat]; simp
        rw [this, nL_app]; simp [nL]
      rw [e2]
      exact fill_L N n c hn (r - 1) (i + 1) f (by omega) (by omega) (by omega)
    · have : i = n := by omega
      subst this
      rw [brn_f (by simp)]
      simp
theorem popI_len (f : Nat → Int × Int) (k : Nat) (T : List Nat) : (popI f k T).length ≤ T.length := by
  obtain ⟨u, h⟩ := popI_sub f k T
  have := congrArg List.length h
  simp at this; omega
theorem pop_L (N : Nat) (L : List (Int × Int)) (hb : ∀ q ∈ L, bdC q) (hL : L.length ≤ 1000) (c2 : List PV) (x : Int) (k : Nat) (hk : k < L.length) (T : List Nat) (hT : ∀ t ∈ T, t < L.length) (hTl : T.length ≤ 1000) : ∀ (T' u : List Nat) (fuel : Nat), T = u ++ T' → T'.length < fuel →
    m65_L2 N L.length (cellsC L) c2 T.length x (nL T.reverse) (k : Int) fuel (T'.length : Int) = some (((popI (ctL L) k T').length : Nat) : Int) ∧
    m65_L3 N L.length (cellsC L) c2 T.length x (nL T.reverse) (k : Int) fuel (T'.length : Int) = some (((popI (ctL L) k T').length : Nat) : Int)
  | [], u, 0, _, h => by simp at h
  | [], u, f + 1, _, _ => by
    rw [m65_L2, m65_L3, brn_f (by simp), brn_f (by simp)]; exact ⟨rfl, rfl⟩
  | [b], u, 0, _, h => by simp at h
  | [b], u, f + 1, _, _ => by
    rw [m65_L2, m65_L3, brn_f (by simp), brn_f (by simp)]; exact ⟨rfl, rfl⟩
  | b :: a :: T', u, 0, _, h => by simp at h
  | b :: a :: T', u, f + 1, e, hf => by
    have ha := hT a (by rw [e]; simp)
    have hbb := hT b (by rw [e]; simp)
    have hcl : (cellsC L).length = L.length * 2 := cellsC_len L
    have tk : (Int.toNat (k : Int)) = k := by omega
    have ta : (Int.toNat (a : Int)) = a := by omega
    have tb : (Int.toNat (b : Int)) = b := by omega
    have hTe : T.length = u.length + (T'.length + 2) := by rw [e]; simp
    have w1 : IntKind.i64.wrap (((b :: a :: T').length : Int) - 2) = ((T'.length : Nat) : Int) := by simp only [List.length_cons]; rw [wrap64 (by omega) (by omega)]; omega
    have w2 : IntKind.i64.wrap (((b :: a :: T').length : Int) - 1) = ((T'.length + 1 : Nat) : Int) := by simp only [List.length_cons]; rw [wrap64 (by omega) (by omega)]; omega
    have t1 : (Int.toNat ((T'.length : Nat) : Int)) = T'.length := by omega
    have t2 : (Int.toNat ((T'.length + 1 : Nat) : Int)) = T'.length + 1 := by omega
    have hlen : (nL T.reverse).length = T.length := by rw [nL_len]; simp
    have er : T.reverse = T'.reverse ++ a :: b :: u.reverse := by rw [e]; simp
    have ga : gp (nL T.reverse) T'.length = .int .i64 (a : Int) := by
      rw [er]
      have := nL_gp T'.reverse a (b :: u.reverse)
      rw [List.length_reverse] at this; exact this
    have gb : gp (nL T.reverse) (T'.length + 1) = .int .i64 (b : Int) := by
      rw [er]
      have := nL_gp (T'.reverse ++ [a]) b u.reverse
      simp only [List.length_append, List.length_reverse, List.length_cons, List.length_nil, Nat.zero_add, List.append_assoc, List.singleton_append] at this
      exact this
    obtain ⟨i1, i2⟩ := pop_L N L hb hL c2 x k hk T hT hTl (a :: T') (u ++ [b]) f (by rw [e]; simp) (by simp at hf ⊢; omega)
    have hab := above_ok N (hb _ (ctL_mem ha)) (hb _ (ctL_mem hbb)) (hb _ (ctL_mem hk))
    have hl1 : (((a :: T').length : Nat) : Int) = ((T'.length + 1 : Nat) : Int) := by simp
    rw [hl1] at i1 i2
    constructor
    · rw [m65_L2, brn_t (by simp; omega), w1, w2, t1, t2, grd_t ⟨by omega, by omega⟩, grd_t (by omega), ga]
      simp only [getI, if_true]
      rw [ta, grd_t ⟨by omega, by omega⟩, grd_t (by simp only [List.length_drop]; omega), cellsC_at (ctL_at ha)]
      simp only [getA2]
      rw [grd_t ⟨by omega, by omega⟩, grd_t (by omega), gb]
      simp only [if_true]
      rw [tb, grd_t ⟨by omega, by omega⟩, grd_t (by simp only [List.length_drop]; omega), cellsC_at (ctL_at hbb)]
      simp only []
      rw [tk, grd_t (by simp only [List.length_drop]; omega), cellsC_at (ctL_at hk)]
      simp only [hab, bnd', getB]
      simp only [popI]
      by_cases hh : aboveG (ctL L a) (ctL L b) (ctL L k) = true
      · rw [brn_t hh, if_pos hh]
      · rw [brn_f (by simpa using hh), if_neg hh, i1]
    · rw [m65_L3, brn_t (by simp; omega), w1, w2, t1, t2, grd_t ⟨by omega, by omega⟩, grd_t (by omega), ga]
      simp only [getI, if_true]
      rw [ta, grd_t ⟨by omega, by omega⟩, grd_t (by simp only [List.length_drop]; omega), cellsC_at (ctL_at ha)]
      simp only [getA2]
      rw [grd_t ⟨by omega, by omega⟩, grd_t (by omega), gb]
      simp only [if_true]
      rw [tb, grd_t ⟨by omega, by omega⟩, grd_t (by simp only [List.length_drop]; omega), cellsC_at (ctL_at hbb)]
      simp only []
      rw [tk, grd_t ⟨by omega, by omega⟩, grd_t (by simp only [List.length_drop]; omega), cellsC_at (ctL_at hk)]
      simp only [hab, bnd', getB]
      simp only [popI]
      by_cases hh : aboveG (ctL L a) (ctL L b) (ctL L k) = true
      · rw [brn_t hh, if_pos hh]
      · rw [brn_f (by simpa using hh), if_neg hh, i2]
theorem chain_L (N : Nat) (L : List (Int × Int)) (hb : ∀ q ∈ L, bdC q) (hL : L.length ≤ 500) (hN : 2000 ≤ N) (S : List Nat) (hS : ∀ s ∈ S, s < L.length) (hSl : S.length = L.length) : ∀ (rest done T : List Nat) (fuel : Nat), S = done ++ rest → (∀ t ∈ T, t < L.length) → T.length ≤ done.length → rest.length < fuel →
    m65_L1 N L.length (cellsC L) (nL S) fuel T.length (done.length : Int) (nL T.reverse) = some ((rest.foldl (pushI (ctL L)) T).length, nL (rest.foldl (pushI (ctL L)) T).reverse)
  | [], done, T, 0, _, _, _, h => by simp at h
  | [], done, T, f + 1, e, _, _, _ => by
    have : S.length = done.length := by rw [e]; simp
    rw [m65_L1, brn_f (by simp; omega)]; rfl
  | k :: rest, done, T, 0, _, _, _, h => by simp at h
  | k :: rest, done, T, f + 1, e, hT, hTd, hf => by
    have hk := hS k (by rw [e]; simp)
    have hSe : S.length = done.length + (rest.length + 1) := by rw [e]; simp
    have td : (Int.toNat ((done.length : Nat) : Int)) = done.length := by omega
    have hw : IntKind.i64.wrap ((done.length : Int) + 1) = ((done.length + 1 : Nat) : Int) := by rw [wrap64 (by omega) (by omega)]; omega
    have gk : gp (nL S) done.length = .int .i64 (k : Int) := by rw [e]; exact nL_gp done k rest
    have hlS : (nL S).length = S.length := nL_len S
    have hcl : (cellsC L).length = L.length * 2 := cellsC_len L
    have hlT : (nL T.reverse).length = T.length := by rw [nL_len]; simp
    have hdl : (done ++ [k]).length = done.length + 1 := by simp
    rw [m65_L1, brn_t (by simp; omega), td, grd_t ⟨by omega, by omega⟩, grd_t (by omega), gk]
    simp only [getI, if_true]
    obtain ⟨u, hu⟩ := popI_sub (ctL L) k T
    have hpl := popI_len (ctL L) k T
    have tp : Int.toNat (((popI (ctL L) k T).length : Nat) : Int) = (popI (ctL L) k T).length := by omega
    have etk : (nL T.reverse).take (popI (ctL L) k T).length ++ [.int .i64 (k : Int)] = nL (k :: popI (ctL L) k T).reverse := by
      have : T.reverse = (popI (ctL L) k T).reverse ++ u.reverse := by
        conv => lhs; rw [hu]
        simp
      have hl : (nL (popI (ctL L) k T).reverse).length = (popI (ctL L) k T).length := by rw [nL_len]; simp
      rw [this, nL_app, ← hl, List.take_left, List.reverse_cons, nL_app]
      rfl
    have hTp : ∀ t ∈ k :: popI (ctL L) k T, t < L.length := fun t ht => by
      rcases List.mem_cons.1 ht with rfl | ht
      · exact hk
      · exact hT t (by rw [hu]; simp [ht])
    have tkk : (Int.toNat (k : Int)) = k := by omega
    have ih2 := chain_L N L hb hL hN S hS hSl rest (done ++ [k]) (k :: popI (ctL L) k T) f (by simp [e]) hTp (by simp; omega) (by simp at hf; omega)
    rw [hdl, List.length_cons] at ih2
    match T, hT, hTd, hlT, hpl, hu, tp, etk, hTp, ih2 with
    | [], hT, hTd, hlT, hpl, hu, tp, etk, hTp, ih2 =>
      rw [brn_f (by simp)]
      have hp := (pop_L N L hb (by omega) (nL S) (done.length : Int) k hk [] (by simp) (by simp) [] [] N rfl (by simp; omega)).2
      rw [show ((([] : List Nat).length : Nat) : Int) = ((0 : Nat) : Int) from rfl] at hp
      rw [show m65_L3 N L.length (cellsC L) (nL S) ([] : List Nat).length (done.length : Int) (nL ([] : List Nat).reverse) (k : Int) N (([] : List Nat).length : Int) = _ from hp]
      simp only [bnd']
      rw [tp, grd_t ⟨by omega, by simp [popI]⟩, brn_f (by simp [popI]), grd_t ⟨by simp [popI], by unfold cutG; simp [popI]⟩, etk, hw, ih2]
      rfl
    | b :: T, hT, hTd, hlT, hpl, hu, tp, etk, hTp, ih2 =>
      have hbl := hT b (by simp)
      have tb : (Int.toNat (b : Int)) = b := by omega
      have w1 : IntKind.i64.wrap (((b :: T).length : Int) - 1) = ((T.length : Nat) : Int) := by rw [List.length_cons, wrap64 (by omega) (by simp only [List.length_cons] at hTd; omega)]; omega
      have t1 : (Int.toNat ((T.length : Nat) : Int)) = T.length := by omega
      have gb : gp (nL (b :: T).reverse) T.length = .int .i64 (b : Int) := by
        have := nL_gp T.reverse b []
        rw [List.length_reverse] at this
        simpa using this
      have hlT' : (nL (b :: T).reverse).length = T.length + 1 := by simpa using hlT
      simp only [List.length_cons] at hTd
      rw [brn_t (by simp), w1, t1, grd_t ⟨by omega, by simp only [List.length_cons]; omega⟩, grd_t (by omega), gb]
      simp only [if_true]
      rw [tb, grd_t ⟨by omega, by omega⟩, grd_t (by simp only [List.length_drop]; omega), gpc1 hbl]
      simp only [if_true]
      rw [tkk, grd_t ⟨by omega, by omega⟩, grd_t (by simp only [List.length_drop]; omega), gpc1 hk]
      simp only [if_true]
      by_cases hr : (ctL L b).2 = (ctL L k).2
      · rw [brn_t (by simpa using hr), hw]
        have ih1 := chain_L N L hb hL hN S hS hSl rest (done ++ [k]) (b :: T) f (by simp [e]) hT (by simp; omega) (by simp at hf; omega)
        rw [hdl] at ih1
        rw [ih1]
        simp [pushI, hr]
      · rw [brn_f (by simpa using hr)]
        have hp := (pop_L N L hb (by omega) (nL S) (done.length : Int) k hk (b :: T) hT (by simp; omega) (b :: T) [] N rfl (by simp; omega)).1
        rw [show m65_L2 N L.length (cellsC L) (nL S) (b :: T).length (done.length : Int) (nL (b :: T).reverse) (k : Int) N ((b :: T).length : Int) = _ from hp]
        simp only [bnd']
        simp only [List.length_cons] at hpl
        rw [tp, grd_t ⟨by omega, by simp only [List.length_cons]; omega⟩]
        by_cases hroom : (popI (ctL L) k (b :: T)).length + 1 ≤ (b :: T).length - 0
        · simp only [List.length_cons] at hroom
          rw [brn_t (by simpa using hroom), grd_t ⟨by unfold cutG; omega, by omega⟩, etk, hw, ih2]
          simp [pushI, hr]
        · rw [brn_f (by simpa using hroom), grd_t ⟨by omega, by unfold cutG; omega⟩, etk, hw, ih2]
          simp [pushI, hr]
theorem hull_ok (N : Nat) (L : List (Int × Int)) (hb : ∀ q ∈ L, bdC q) (h1 : 1 ≤ L.length) (hL : L.length < 20) (hN : 2000 ≤ N) : m65 N (.lst false L.length (cellsC L)) = some (.lst false (hullF L).length (nL (hullF L))) := by
  have hf := fill_L N L.length (cellsC L) (by omega) L.length 0 N (by omega) (by omega) (by omega)
  obtain ⟨s1, s2⟩ := srtF_sp (ctL L) L.length
  have hc := chain_L N L hb (by omega) hN (srtF (ctL L) L.length).reverse (fun s hs => (s2 s).1 (List.mem_reverse.1 hs)) (by simp [srt_len]) (srtF (ctL L) L.length).reverse [] [] N rfl (by simp) (by simp) (by simp [srt_len]; omega)
  simp only [m65, getL]
  rw [grd_t ⟨by omega, by omega, by omega⟩]
  rw [show m65_L0 N L.length (cellsC L) N 0 (List.replicate L.length (.int .i64 0)) = some (nL (List.range' 0 L.length)) from by simpa [nL] using hf]
  simp only [bnd', sort_ok N L hb h1 hL hN, getT0]
  rw [show m65_L1 N L.length (cellsC L) (nL (srtF (ctL L) L.length).reverse) N 0 0 [] = _ from hc]
  simp only []
  rw [grd_t (by rw [nL_len]; simp)]
  simp [hullF]
end Go.Proofs.Ytgnphlpoofaojaa

namespace Go.Proofs.Ytgnphlpoofaojaa
open Go.V

theorem hull_facts (L : List (Int × Int)) : Asc ((hullF L).map (ctL L)) ∧ ChA ((hullF L).map (ctL L)) ∧ (∀ k ∈ hullF L, k < L.length) := by
  obtain ⟨h1, h2⟩ := hull_HInv L
  refine ⟨?_, ?_, fun k hk => (h2 k).1 (h1.sub k (List.mem_reverse.2 hk))⟩
  · have := Dsc_rev h1.dsc
    rw [← List.map_reverse, List.reverse_reverse] at this
    exact this
  · have := Chn_rev _ [] h1.chn trivial (by simp)
    rw [← List.map_reverse, List.reverse_reverse, List.append_nil] at this
    exact this
theorem hull_lenle (L : List (Int × Int)) : (hullF L).length ≤ L.length := by
  have h : ∀ (f : Nat → Int × Int) (S T : List Nat), (S.foldl (pushI f) T).length ≤ T.length + S.length := by
    intro f S
    induction S with
    | nil => intro T; simp
    | cons k S ih =>
      intro T
      have h1 := ih (pushI f T k)
      have h2 : (pushI f T k).length ≤ T.length + 1 := by
        unfold pushI
        split
        · simp
        · split
          · omega
          · have := popI_len f k (‹Nat› :: ‹List Nat›)
            simp only [List.length_cons] at this ⊢
            omega
      simp only [List.foldl_cons, List.length_cons]; omega
  have := h (ctL L) (srtF (ctL L) L.length).reverse []
  simp only [hullF, List.length_reverse, List.length_nil, Nat.zero_add, srt_len] at this ⊢
  exact this
theorem turns_L (N : Nat) (hN : 4000 ≤ N) (L : List (Int × Int)) (hb : ∀ q ∈ L, bdC q) (hL : L.length ≤ 1000) (H : List Nat) (hH : ∀ k ∈ H, k < L.length) (hHl : H.length ≤ 1000) (hA : Asc (H.map (ctL L))) : ∀ (rest done : List Nat) (fuel : Nat) (acc : List (Int × Int)),
    H = done ++ rest → rest.length < fuel → acc.length ≤ done.length →
    m67_L0 N L.length (cellsC L) H.length (nL H) fuel acc.length (done.length : Int) (cellsC acc) = some ((acc ++ turnsC (rest.map (ctL L))).length, cellsC (acc ++ turnsC (rest.map (ctL L))))
  | rest, done, 0, _, _, h, _ => by simp at h
  | [], done, f + 1, acc, e, _, _ => by
    have : H.length = done.length := by rw [e]; simp
    have hw : IntKind.i64.wrap (((H.length : Nat) : Int) - 1) = ((H.length : Nat) : Int) - 1 := wrap64 (by omega) (by omega)
    rw [m67_L0, hw, brn_f (by simp; omega)]; simp [turnsC]
  | [a], done, f + 1, acc, e, _, _ => by
    have : H.length = done.length + 1 := by rw [e]; simp
    have hw : IntKind.i64.wrap (((H.length : Nat) : Int) - 1) = ((H.length : Nat) : Int) - 1 := wrap64 (by omega) (by omega)
    rw [m67_L0, hw, brn_f (by simp; omega)]; simp [turnsC]
  | a :: b :: r, done, f + 1, acc, e, hf, ha => by
    have hHe : H.length = done.length + (r.length + 2) := by rw [e]; simp
    have hal := hH a (by rw [e]; simp)
    have hbl := hH b (by rw [e]; simp)
    have hcl : (cellsC L).length = L.length * 2 := cellsC_len L
    have hnl : (nL H).length = H.length := nL_len H
    have hac : (cellsC acc).length = acc.length * 2 := cellsC_len acc
    have td : (Int.toNat ((done.length : Nat) : Int)) = done.length := by omega
    have td1 : (Int.toNat ((done.length + 1 : Nat) : Int)) = done.length + 1 := by omega
    have ta : (Int.toNat (a : Int)) = a := by omega
    have tb : (Int.toNat (b : Int)) = b := by omega
    have hw0 : IntKind.i64.wrap (((H.length : Nat) : Int) - 1) = ((H.length : Nat) : Int) - 1 := wrap64 (by omega) (by omega)
    have hw : IntKind.i64.wrap ((done.length : Int) + 1) = ((done.length + 1 : Nat) : Int) := by rw [wrap64 (by omega) (by omega)]; omega
    have ga : gp (nL H) done.length = .int .i64 (a : Int) := by rw [e]; exact nL_gp done a _
    have gb : gp (nL H) (done.length + 1) = .int .i64 (b : Int) := by
      have := nL_gp (done ++ [a]) b r
      rw [List.length_append, List.length_cons, List.length_nil, List.append_assoc, List.singleton_append] at this
      rw [e]; exact this
    have ba := hb _ (ctL_mem hal)
    have bb := hb _ (ctL_mem hbl)
    have hab : (ctL L a).2 < (ctL L b).2 := by
      have h1 : Asc (done.map (ctL L) ++ ctL L a :: ctL L b :: r.map (ctL L)) := by rw [e] at hA; simpa using hA
      exact (List.pairwise_cons.1 (List.pairwise_append.1 h1).2.1).1 _ (by simp)
    have ba' := ba
    have bb' := bb
    unfold bdC at ba' bb'
    have hm := (low_m N ((ctL L a).1 - (ctL L b).1) ((ctL L b).2 - (ctL L a).2) ⟨by omega, by omega⟩ (by omega) ⟨by omega, by omega⟩ (by omega)).1
    rw [m67_L0, hw0, brn_t (by simp; omega), td, grd_t ⟨by omega, by omega⟩, grd_t (by simp only [List.length_drop]; omega), ga]
    simp only [getI, if_true]
    rw [ta, grd_t ⟨by omega, by omega⟩, grd_t (by simp only [List.length_drop]; omega), cellsC_at (ctL_at hal)]
    simp only [getA2]
    rw [hw, td1, grd_t ⟨by omega, by omega⟩, grd_t (by simp only [List.length_drop]; omega), gb]
    simp only [if_true]
    rw [tb, grd_t ⟨by omega, by omega⟩, grd_t (by simp only [List.length_drop]; omega), cellsC_at (ctL_at hbl)]
    simp only [if_true]
    rw [wrap64 (n := (ctL L a).1 - (ctL L b).1) (by omega) (by omega), wrap64 (n := (ctL L b).2 - (ctL L a).2) (by omega) (by omega), hm]
    simp only [bnd', frP]
    rw [grd_t (by omega), grd_t (by omega)]
    have ih := turns_L N hN L hb hL H hH hHl hA (b :: r) (done ++ [a]) f (acc ++ [crossP (ctL L a) (ctL L b)]) (by simp [e]) (by simp at hf ⊢; omega) (by simp; omega)
    have e3 : cellsC (acc ++ [crossP (ctL L a) (ctL L b)]) = cellsC acc ++ [.int .i64 (lowP ((ctL L a).1 - (ctL L b).1) ((ctL L b).2 - (ctL L a).2)).1, .int .i64 (lowP ((ctL L a).1 - (ctL L b).1) ((ctL L b).2 - (ctL L a).2)).2] := by
      rw [cellsC_app]; rfl
    simp only [List.length_append, List.length_cons, List.length_nil, Nat.zero_add] at ih
    rw [e3] at ih
    rw [ih]
    simp only [List.map_cons, turnsC, List.append_assoc, List.singleton_append, List.length_append, List.length_cons]
    congr 2; omega
theorem turns_ok (N : Nat) (hN : 4000 ≤ N) (L : List (Int × Int)) (hb : ∀ q ∈ L, bdC q) (h1 : 1 ≤ L.length) (hL : L.length < 20) :
    m67 N (.lst false L.length (cellsC L)) = some (.lst false (turnsC ((hullF L).map (ctL L))).length (cellsC (turnsC ((hullF L).map (ctL L))))) := by
  obtain ⟨a1, a2, a3⟩ := hull_facts L
  have hl := hull_lenle L
  have := turns_L N hN L hb (by omega) (hullF L) a3 (by omega) a1 (hullF L) [] N [] rfl (by omega) (by simp)
  simp only [m67, getL, hull_ok N L hb h1 hL (by omega), bnd']
  rw [show m67_L0 N L.length (cellsC L) (hullF L).length (nL (hullF L)) N 0 0 [] = _ from this]
  simp only [List.nil_append]
  rw [grd_t (by rw [cellsC_len])]

theorem eqC {a b : Int × Int} : ((a.1 == b.1) && (a.2 == b.2)) = (a == b) := rfl
end Go.Proofs.Ytgnphlpoofaojaa

namespace Go.Proofs.Ytgnphlpoofaojaa
open Go.V

theorem bdQ_P {q : Int × Int} (h : bdQ q) : bdP q := by unfold bdQ at h; unfold bdP; omega
def mxL (q : Int × Int) : List (Int × Int) → Int
  | [] => 0
  | p :: l => mx (Wt q.1 q.2 p) (l.map (Wt q.1 q.2))
theorem mx_sp : ∀ (X : List Int) (m : Int), m ≤ mx m X ∧ (∀ x ∈ X, x ≤ mx m X) ∧ (mx m X = m ∨ mx m X ∈ X)
  | [], m => by simp [mx]
  | x :: X, m => by
    obtain ⟨h1, h2, h3⟩ := mx_sp X (maxI m x)
    have e : mx m (x :: X) = mx (maxI m x) X := rfl
    have h4 : m ≤ maxI m x ∧ x ≤ maxI m x ∧ (maxI m x = m ∨ maxI m x = x) := by unfold maxI; split <;> omega
    rw [e]
    refine ⟨by omega, fun y hy => ?_, ?_⟩
    · rcases List.mem_cons.1 hy with rfl | hy
      · omega
      · exact h2 y hy
    · rcases h3 with h3 | h3
      · rw [h3]
        rcases h4.2.2 with h | h
        · left; exact h
        · right; simp [h]
      · right; simp [h3]
theorem mxL_is {q : Int × Int} (hq : bdP q) : ∀ {L : List (Int × Int)}, L ≠ [] → (∀ c ∈ L, bdC c) → IsMx L q (mxL q L)
  | [], h, _ => absurd rfl h
  | p :: l, _, hb => by
    obtain ⟨h1, h2, h3⟩ := mx_sp (l.map (Wt q.1 q.2)) (Wt q.1 q.2 p)
    have hw : ∀ c ∈ p :: l, Wt q.1 q.2 c = CtP q c := fun c hc => Wt_P hq (hb c hc)
    constructor
    · rcases h3 with h3 | h3
      · exact ⟨p, by simp, by rw [← hw p (by simp)]; exact h3.symm⟩
      · obtain ⟨c, hc, e⟩ := List.mem_map.1 h3
        exact ⟨c, by simp [hc], by rw [← hw c (by simp [hc])]; exact e⟩
    · intro c hc
      rw [← hw c hc]
      rcases List.mem_cons.1 hc with rfl | hc
      · exact h1
      · exact h2 _ (List.mem_map.2 ⟨c, hc, rfl⟩)
theorem turnsG_ok (N : Nat) (hN : 4000 ≤ N) (L : List (Int × Int)) (h0 : Chk L = 0) :
    m26 N (.lst false L.length (cellsC L)) = some (.tup [.lst false (turnsC ((hullF L).map (ctL L))).length (cellsC (turnsC ((hullF L).map (ctL L)))), .int .i64 0]) := by
  obtain ⟨l1, l8, hb⟩ := Chk_len8 h0
  simp only [m26, getL, check_ok N L (by omega) (by omega), bnd', getI, if_true]
  rw [brn_f (by simp [h0]), turns_ok N hN L hb l1 (by omega)]
theorem neededG_ok (N : Nat) (hN : 4000 ≤ N) (L : List (Int × Int)) (h0 : Chk L = 0) : m24 N (.lst false L.length (cellsC L)) = some (.tup [.lst false (hullF L).length (nL (hullF L)), .int .i64 0]) := by
  obtain ⟨l1, l8, hb⟩ := Chk_len8 h0
  simp only [m24, getL, check_ok N L (by omega) (by omega), bnd', getI, if_true]
  rw [brn_f (by simp [h0]), hull_ok N L hb l1 (by omega) (by omega)]
end Go.Proofs.Ytgnphlpoofaojaa

namespace Go.Proofs.Ytgnphlpoofaojaa
open Go.V
structure Chain (S C : List (Int × Int)) : Prop where
  sub : ∀ c ∈ C, c ∈ S
  asc : Asc C
  cha : ChA C
  dom : ∀ p : Int × Int, 0 < p.2 → ∀ d ∈ S, ∃ c ∈ C, CtP p d ≤ CtP p c
theorem hull_chain (L : List (Int × Int)) : Chain L ((hullF L).map (ctL L)) := by
  obtain ⟨h1, h2⟩ := hull_HInv L
  refine ⟨fun c hc => ?_, ?_, ?_, fun p hp d hd => ?_⟩
  · obtain ⟨k, hk, rfl⟩ := List.mem_map.1 hc
    exact ctL_mem ((h2 k).1 (h1.sub k (List.mem_reverse.2 hk)))
  · have := Dsc_rev h1.dsc
    rw [← List.map_reverse, List.reverse_reverse] at this
    exact this
  · have := Chn_rev _ [] h1.chn trivial (by simp)
    rw [← List.map_reverse, List.reverse_reverse, List.append_nil] at this
    exact this
  · obtain ⟨i, hi, rfl⟩ := mem_ctL hd
    obtain ⟨t, ht, h3⟩ := h1.dom p hp i ((h2 i).2 hi)
    exact ⟨ctL L t, List.mem_map.2 ⟨t, List.mem_reverse.1 ht, rfl⟩, h3⟩
def addP (a b : Int × Int) : Int × Int := (a.1 + b.1, a.2 + b.2)
theorem Ct_add (p a b : Int × Int) : CtP p (addP a b) = CtP p a + CtP p b := by unfold CtP addP; simp only; grind
def mergeC : List (Int × Int) → List (Int × Int) → List (Int × Int)
  | x :: x1 :: As, y :: y1 :: Bs =>
    if lessP (crossP x x1) (crossP y y1) then addP x y :: mergeC (x1 :: As) (y :: y1 :: Bs)
    else if lessP (crossP y y1) (crossP x x1) then addP x y :: mergeC (x :: x1 :: As) (y1 :: Bs)
    else addP x y :: mergeC (x1 :: As) (y1 :: Bs)
  | x :: x1 :: As, [y] => addP x y :: mergeC (x1 :: As) [y]
  | [x], y :: y1 :: Bs => addP x y :: mergeC [x] (y1 :: Bs)
  | [x], [y] => [addP x y]
  | _, _ => []
termination_by a b => a.length + b.length
/-- the first one is a best one, up to the price at which it turns -/
theorem first_le {x : Int × Int} {As : List (Int × Int)} {p : Int × Int} (hp : 0 < p.2) (hA : Asc (x :: As)) (hC : ChA (x :: As)) (h : ∀ x1 T, As = x1 :: T → ¬ lessP (crossP x x1) p) : ∀ t ∈ x :: As, CtP p t ≤ CtP p x := by
  intro t ht
  rcases List.mem_cons.1 ht with rfl | ht
  · omega
  · match As, hA, hC, h, ht with
    | x1 :: T, hA, hC, h, ht =>
      have hA' := List.pairwise_cons.1 hA
      have h01 : x.2 < x1.2 := hA'.1 x1 (by simp)
      have hn := h x1 T rfl
      have h1 : CtP p x1 ≤ CtP p x := by
        have := (cross_lt h01 hp).1
        rcases Int.lt_or_le (CtP p x) (CtP p x1) with hh | hh
        · exact absurd (this.1 hh) hn
        · exact hh
      rcases List.mem_cons.1 ht with rfl | ht
      · exact h1
      · have := chn_lo T x1 p hp hA'.2 (ChA_tail hC) (fun d T' e => by
          subst e
          have h12 : x1.2 < d.2 := (List.pairwise_cons.1 hA'.2).1 d (by simp)
          have h4 := (above_less h01 h12).1 hC.1
          have p1 := (cross_sp (a := x) (b := x1) (by omega)).1
          have p2 := (cross_sp (a := x1) (b := d) (by omega)).1
          generalize crossP x x1 = y at *
          generalize crossP x1 d = z at *
          unfold lessP at *
          have e1 := Int.mul_pos (a := z.1 * y.2 - y.1 * z.2) (b := p.2) (by omega) hp
          have e2 : 0 ≤ (y.1 * p.2 - p.1 * y.2) * z.2 := Int.mul_nonneg (by omega) (by omega)
          have e3 : (z.1 * p.2 - p.1 * z.2) * y.2 = (z.1 * y.2 - y.1 * z.2) * p.2 + (y.1 * p.2 - p.1 * y.2) * z.2 := by clear e1 e2; grind
          have e4 : 0 < (z.1 * p.2 - p.1 * z.2) * y.2 := by omega
          have := mul_pos_of p1 e4
          omega) t ht
        omega
theorem next_gt {x x1 : Int × Int} {p : Int × Int} (h01 : x.2 < x1.2) (hp : 0 < p.2) (h : lessP (crossP x x1) p) : CtP p x < CtP p x1 := (cross_lt h01 hp).1.2 h
def GT (t : Int × Int) (A : List (Int × Int)) : Prop := ∀ x x1 T, A = x :: x1 :: T → lessP t (crossP x x1)
theorem GT_tail {x x1 : Int × Int} {T : List (Int × Int)} (hA : Asc (x :: x1 :: T)) (hC : ChA (x :: x1 :: T)) : GT (crossP x x1) (x1 :: T) := by
  rintro a b T' e
  obtain ⟨rfl, rfl⟩ := List.cons.inj e
  have h01 : x.2 < x1.2 := (List.pairwise_cons.1 hA).1 x1 (by simp)
  have h12 : x1.2 < b.2 := (List.pairwise_cons.1 (List.pairwise_cons.1 hA).2).1 b (by simp)
  exact (above_less h01 h12).1 hC.1
/-- where sums turn -/
theorem cross_add_l {x x1 y : Int × Int} (h : x.2 < x1.2) : crossP (addP x y) (addP x1 y) = crossP x x1 := by
  unfold crossP addP
  simp only
  congr 1 <;> omega
theorem cross_add_r {x y y1 : Int × Int} (h : y.2 < y1.2) : crossP (addP x y) (addP x y1) = crossP y y1 := by
  unfold crossP addP
  simp only
  congr 1 <;> omega
theorem cross_add_b {x x1 y y1 : Int × Int} (h1 : x.2 < x1.2) (h2 : y.2 < y1.2) (h : crossP x x1 = crossP y y1) : crossP (addP x y) (addP x1 y1) = crossP x x1 := by
  obtain ⟨s1, s2⟩ := cross_sp (a := x) (b := x1) (by omega)
  obtain ⟨t1, t2⟩ := cross_sp (a := y) (b := y1) (by omega)
  rw [← h] at t1 t2
  have hr : Red (crossP x x1) := low_red _ _ (by omega)
  have hr2 : Red (crossP (addP x y) (addP x1 y1)) := low_red _ _ (by unfold addP; simp only; omega)
  obtain ⟨u1, u2⟩ := cross_sp (a := addP x y) (b := addP x1 y1) (by unfold addP; simp only; omega)
  unfold addP at u2
  simp only at u2
  generalize crossP x x1 = q at *
  rw [show crossP (addP x y) (addP x1 y1) = crossP ((x.1 + y.1, x.2 + y.2)) ((x1.1 + y1.1, x1.2 + y1.2)) from rfl] at *
  generalize crossP ((x.1 + y.1, x.2 + y.2)) ((x1.1 + y1.1, x1.2 + y1.2)) = r at *
  have hk : (r.1 * q.2 - q.1 * r.2) * ((x1.2 - x.2) + (y1.2 - y.2)) = 0 := by grind
  have hz : r.1 * q.2 - q.1 * r.2 = 0 := by
    rcases Int.mul_eq_zero.1 hk with h | h
    · exact h
    · omega
  exact red_uniq hr2 hr (by unfold lessP; omega) (by unfold lessP; omega)
structure MInv (t : Int × Int) (A B M : List (Int × Int)) : Prop where
  hd : ∀ x As y Bs, A = x :: As → B = y :: Bs → ∃ M', M = addP x y :: M'
  asc : Asc M
  cha : ChA M
  gt : GT t M
  sub : ∀ z ∈ M, ∃ x ∈ A, ∃ y ∈ B, z = addP x y
  dom : ∀ p : Int × Int, 0 < p.2 → ∃ z ∈ M, ∀ x ∈ A, ∀ y ∈ B, CtP p x + CtP p y ≤ CtP p z
theorem merge_step {t c z z1 : Int × Int} {M' : List (Int × Int)} (ht : lessP t c) (hz : z.2 < z1.2) (hc : crossP z z1 = c) (hA : Asc (z1 :: M')) (hC : ChA (z1 :: M')) (hG : GT c (z1 :: M')) :
    Asc (z :: z1 :: M') ∧ ChA (z :: z1 :: M') ∧ GT t (z :: z1 :: M') := by
  refine ⟨?_, ?_, ?_⟩
  · refine List.pairwise_cons.2 ⟨fun w hw => ?_, hA⟩
    rcases List.mem_cons.1 hw with rfl | hw
    · exact hz
    · have := (List.pairwise_cons.1 hA).1 w hw; omega
  · match M', hA, hC, hG with
    | [], _, _, _ => trivial
    | z2 :: M', hA, hC, hG =>
      have h12 : z1.2 < z2.2 := (List.pairwise_cons.1 hA).1 z2 (by simp)
      exact ⟨(above_less hz h12).2 (by rw [hc]; exact hG z1 z2 M' rfl), hC⟩
  · rintro a b T e
    simp only [List.cons.injEq] at e
    obtain ⟨rfl, rfl, rfl⟩ := e
    rw [hc]; exact ht
theorem merge_sp : ∀ (n : Nat) (A B : List (Int × Int)) (t : Int × Int), A.length + B.length = n → A ≠ [] → B ≠ [] → Asc A → ChA A → Asc B → ChA B → GT t A → GT t B → MInv t A B (mergeC A B)
  | n, [], B, t, _, h, _, _, _, _, _, _, _ => absurd rfl h
  | n, A, [], t, _, _, h, _, _, _, _, _, _ => absurd rfl h
  | n, [x], [y], t, _, _, _, _, _, _, _, _, _ => by
    rw [mergeC]
    refine ⟨fun _ _ _ _ e1 e2 => ?_, by simp [Asc], trivial, by rintro a b T e; simp at e, fun z hz => ⟨x, by simp, y, by simp, by simpa using hz⟩, fun p _ => ⟨addP x y, by simp, fun x' hx' y' hy' => ?_⟩⟩
    · obtain ⟨rfl, rfl⟩ := List.cons.inj e1
      obtain ⟨rfl, rfl⟩ := List.cons.inj e2
      exact ⟨_, rfl⟩
    · simp at hx' hy'; subst hx'; subst hy'; rw [Ct_add]; omega
  | n, x :: x1 :: As, [y], t, hn, _, _, hA, cA, hB, cB, gA, gB => by
    have hA' := List.pairwise_cons.1 hA
    have h01 : x.2 < x1.2 := hA'.1 x1 (by simp)
    have gc := gA x x1 As rfl
    obtain ⟨i1, i2, i3, i4, i5, i6⟩ := merge_sp (n - 1) (x1 :: As) [y] (crossP x x1) (by simp at hn ⊢; omega) (by simp) (by simp) hA'.2 (ChA_tail cA) hB cB (GT_tail hA cA) (by rintro a b T e; simp at e)
    rw [mergeC]
    obtain ⟨M', e⟩ := i1 x1 As y [] rfl rfl
    rw [e] at i2 i3 i4 i5 i6 ⊢
    obtain ⟨s1, s2, s3⟩ := merge_step gc (by unfold addP; simp only; omega) (cross_add_l h01) i2 i3 i4
    refine ⟨fun _ _ _ _ e1 e2 => ?_, s1, s2, s3, fun z hz => ?_, fun p hp => ?_⟩
    · obtain ⟨rfl, _⟩ := List.cons.inj e1
      obtain ⟨rfl, _⟩ := List.cons.inj e2
      exact ⟨_, rfl⟩
    · rcases List.mem_cons.1 hz with rfl | hz
      · exact ⟨x, by simp, y, by simp, rfl⟩
      · obtain ⟨a, ha, b, hb, e⟩ := i5 z hz
        exact ⟨a, by simp [List.mem_cons.1 ha], b, hb, e⟩
    · by_cases hl : lessP (crossP x x1) p
      · obtain ⟨z, hz, h⟩ := i6 p hp
        have := next_gt h01 hp hl
        refine ⟨z, by simp [List.mem_cons.1 hz], fun x' hx' y' hy' => ?_⟩
        rcases List.mem_cons.1 hx' with rfl | hx'
        · have := h x1 (by simp) y' hy'; omega
        · exact h x' hx' y' hy'
      · refine ⟨addP x y, by simp, fun x' hx' y' hy' => ?_⟩
        have := first_le hp hA cA (fun a T e => by obtain ⟨rfl, rfl⟩ := List.cons.inj e; exact hl) x' hx'
        simp at hy'; subst hy'
        rw [Ct_add]; omega
  | n, [x], y :: y1 :: Bs, t, hn, _, _, hA, cA, hB, cB, gA, gB => by
    have hB' := List.pairwise_cons.1 hB
    have h01 : y.2 < y1.2 := hB'.1 y1 (by simp)
    have gc := gB y y1 Bs rfl
    obtain ⟨i1, i2, i3, i4, i5, i6⟩ := merge_sp (n - 1) [x] (y1 :: Bs) (crossP y y1) (by simp at hn ⊢; omega) (by simp) (by simp) hA cA hB'.2 (ChA_tail cB) (by rintro a b T e; simp at e) (GT_tail hB cB)
    rw [mergeC]
    obtain ⟨M', e⟩ := i1 x [] y1 Bs rfl rfl
    rw [e] at i2 i3 i4 i5 i6 ⊢
    obtain ⟨s1, s2, s3⟩ := merge_step gc (by unfold addP; simp only; omega) (cross_add_r h01) i2 i3 i4
    refine ⟨fun _ _ _ _ e1 e2 => ?_, s1, s2, s3, fun z hz => ?_, fun p hp => ?_⟩
    · obtain ⟨rfl, _⟩ := List.cons.inj e1
      obtain ⟨rfl, _⟩ := List.cons.inj e2
      exact ⟨_, rfl⟩
    · rcases List.mem_cons.1 hz with rfl | hz
      · exact ⟨x, by simp, y, by simp, rfl⟩
      · obtain ⟨a, ha, b, hb, e⟩ := i5 z hz
        exact ⟨a, ha, b, by simp [List.mem_cons.1 hb], e⟩
    · by_cases hl : lessP (crossP y y1) p
      · obtain ⟨z, hz, h⟩ := i6 p hp
        have := next_gt h01 hp hl
        refine ⟨z, by simp [List.mem_cons.1 hz], fun x' hx' y' hy' => ?_⟩
        rcases List.mem_cons.1 hy' with rfl | hy'
        · have := h x' hx' y1 (by simp); omega
        · exact h x' hx' y' hy'
      · refine ⟨addP x y, by simp, fun x' hx' y' hy' => ?_⟩
        have := first_le hp hB cB (fun a T e => by obtain ⟨rfl, rfl⟩ := List.cons.inj e; exact hl) y' hy'
        simp at hx'; subst hx'
        rw [Ct_add]; omega
  | n, x :: x1 :: As, y :: y1 :: Bs, t, hn, _, _, hA, cA, hB, cB, gA, gB => by
    have hA' := List.pairwise_cons.1 hA
    have hB' := List.pairwise_cons.1 hB
    have hx01 : x.2 < x1.2 := hA'.1 x1 (by simp)
    have hy01 : y.2 < y1.2 := hB'.1 y1 (by simp)
    have gcx := gA x x1 As rfl
    have gcy := gB y y1 Bs rfl
    have px := (cross_sp (a := x) (b := x1) (by omega)).1
    have py := (cross_sp (a := y) (b := y1) (by omega)).1
    have fx : ∀ p : Int × Int, 0 < p.2 → ¬ lessP (crossP x x1) p → ∀ x' ∈ x :: x1 :: As, CtP p x' ≤ CtP p x := fun p hp hl => first_le hp hA cA (fun a T e => by obtain ⟨rfl, rfl⟩ := List.cons.inj e; exact hl)
    have fy : ∀ p : Int × Int, 0 < p.2 → ¬ lessP (crossP y y1) p → ∀ y' ∈ y :: y1 :: Bs, CtP p y' ≤ CtP p y := fun p hp hl => first_le hp hB cB (fun a T e => by obtain ⟨rfl, rfl⟩ := List.cons.inj e; exact hl)
    rw [mergeC]
    by_cases c1 : lessP (crossP x x1) (crossP y y1)
    · rw [if_pos c1]
      obtain ⟨i1, i2, i3, i4, i5, i6⟩ := merge_sp (n - 1) (x1 :: As) (y :: y1 :: Bs) (crossP x x1) (by simp at hn ⊢; omega) (by simp) (by simp) hA'.2 (ChA_tail cA) hB cB (GT_tail hA cA) (by
        rintro a b T e
        simp only [List.cons.injEq] at e
        obtain ⟨rfl, rfl, rfl⟩ := e
        exact c1)
      obtain ⟨M', e⟩ := i1 x1 As y (y1 :: Bs) rfl rfl
      rw [e] at i2 i3 i4 i5 i6 ⊢
      obtain ⟨s1, s2, s3⟩ := merge_step gcx (by unfold addP; simp only; omega) (cross_add_l hx01) i2 i3 i4
      refine ⟨fun _ _ _ _ e1 e2 => ?_, s1, s2, s3, fun z hz => ?_, fun p hp => ?_⟩
      · obtain ⟨rfl, _⟩ := List.cons.inj e1
        obtain ⟨rfl, _⟩ := List.cons.inj e2
        exact ⟨_, rfl⟩
      · rcases List.mem_cons.1 hz with rfl | hz
        · exact ⟨x, by simp, y, by simp, rfl⟩
        · obtain ⟨a, ha, b, hb, e⟩ := i5 z hz
          exact ⟨a, by simp [List.mem_cons.1 ha], b, hb, e⟩
      · by_cases hl : lessP (crossP x x1) p
        · obtain ⟨z, hz, h⟩ := i6 p hp
          have := next_gt hx01 hp hl
          refine ⟨z, by simp [List.mem_cons.1 hz], fun x' hx' y' hy' => ?_⟩
          rcases List.mem_cons.1 hx' with rfl | hx'
          · have := h x1 (by simp) y' hy'; omega
          · exact h x' hx' y' hy'
        · have hly : ¬ lessP (crossP y y1) p := fun hh => hl (less_trans px py hp c1 hh)
          refine ⟨addP x y, by simp, fun x' hx' y' hy' => ?_⟩
          have := fx p hp hl x' hx'
          have := fy p hp hly y' hy'
          rw [Ct_add]; omega
    · rw [if_neg c1]
      by_cases c2 : lessP (crossP y y1) (crossP x x1)
      · rw [if_pos c2]
        obtain ⟨i1, i2, i3, i4, i5, i6⟩ := merge_sp (n - 1) (x :: x1 :: As) (y1 :: Bs) (crossP y y1) (by simp at hn ⊢; omega) (by simp) (by simp) hA cA hB'.2 (ChA_tail cB) (by
          rintro a b T e
          simp only [List.cons.injEq] at e
          obtain ⟨rfl, rfl, rfl⟩ := e
          exact c2) (GT_tail hB cB)
        obtain ⟨M', e⟩ := i1 x (x1 :: As) y1 Bs rfl rfl
        rw [e] at i2 i3 i4 i5 i6 ⊢
        obtain ⟨s1, s2, s3⟩ := merge_step gcy (by unfold addP; simp only; omega) (cross_add_r hy01) i2 i3 i4
        refine ⟨fun _ _ _ _ e1 e2 => ?_, s1, s2, s3, fun z hz => ?_, fun p hp => ?_⟩
        · obtain ⟨rfl, _⟩ := List.cons.inj e1
          obtain ⟨rfl, _⟩ := List.cons.inj e2
          exact ⟨_, rfl⟩
        · rcases List.mem_cons.1 hz with rfl | hz
          · exact ⟨x, by simp, y, by simp, rfl⟩
          · obtain ⟨a, ha, b, hb, e⟩ := i5 z hz
            exact ⟨a, ha, b, by simp [List.mem_cons.1 hb], e⟩
        · by_cases hl : lessP (crossP y y1) p
          · obtain ⟨z, hz, h⟩ := i6 p hp
            have := next_gt hy01 hp hl
            refine ⟨z, by simp [List.mem_cons.1 hz], fun x' hx' y' hy' => ?_⟩
            rcases List.mem_cons.1 hy' with rfl | hy'
            · have := h x' hx' y1 (by simp); omega
            · exact h x' hx' y' hy'
          · have hlx : ¬ lessP (crossP x x1) p := fun hh => hl (less_trans py px hp c2 hh)
            refine ⟨addP x y, by simp, fun x' hx' y' hy' => ?_⟩
            have := fx p hp hlx x' hx'
            have := fy p hp hl y' hy'
            rw [Ct_add]; omega
      · rw [if_neg c2]
        have hxy : crossP x x1 = crossP y y1 := red_uniq (low_red _ _ (by omega)) (low_red _ _ (by omega)) c1 c2
        obtain ⟨i1, i2, i3, i4, i5, i6⟩ := merge_sp (n - 2) (x1 :: As) (y1 :: Bs) (crossP x x1) (by simp at hn ⊢; omega) (by simp) (by simp) hA'.2 (ChA_tail cA) hB'.2 (ChA_tail cB) (GT_tail hA cA) (by rw [hxy]; exact GT_tail hB cB)
        obtain ⟨M', e⟩ := i1 x1 As y1 Bs rfl rfl
        rw [e] at i2 i3 i4 i5 i6 ⊢
        obtain ⟨s1, s2, s3⟩ := merge_step gcx (by unfold addP; simp only; omega) (cross_add_b hx01 hy01 hxy) i2 i3 i4
        refine ⟨fun _ _ _ _ e1 e2 => ?_, s1, s2, s3, fun z hz => ?_, fun p hp => ?_⟩
        · obtain ⟨rfl, _⟩ := List.cons.inj e1
          obtain ⟨rfl, _⟩ := List.cons.inj e2
          exact ⟨_, rfl⟩
        · rcases List.mem_cons.1 hz with rfl | hz
          · exact ⟨x, by simp, y, by simp, rfl⟩
          · obtain ⟨a, ha, b, hb, e⟩ := i5 z hz
            exact ⟨a, by simp [List.mem_cons.1 ha], b, by simp [List.mem_cons.1 hb], e⟩
        · by_cases hl : lessP (crossP x x1) p
          · obtain ⟨z, hz, h⟩ := i6 p hp
            have g1 := next_gt hx01 hp hl
            have g2 := next_gt hy01 hp (by rw [← hxy]; exact hl)
            refine ⟨z, by simp [List.mem_cons.1 hz], fun x' hx' y' hy' => ?_⟩
            have kx : ∃ x'' ∈ x1 :: As, CtP p x' ≤ CtP p x'' := by
              rcases List.mem_cons.1 hx' with rfl | hx'
              · exact ⟨x1, by simp, by omega⟩
              · exact ⟨x', hx', by omega⟩
            have ky : ∃ y'' ∈ y1 :: Bs, CtP p y' ≤ CtP p y'' := by
              rcases List.mem_cons.1 hy' with rfl | hy'
              · exact ⟨y1, by simp, by omega⟩
              · exact ⟨y', hy', by omega⟩
            obtain ⟨x'', hx'', a1⟩ := kx
            obtain ⟨y'', hy'', a2⟩ := ky
            have := h x'' hx'' y'' hy''
            omega
          · have hly : ¬ lessP (crossP y y1) p := by rw [← hxy]; exact hl
            refine ⟨addP x y, by simp, fun x' hx' y' hy' => ?_⟩
            have := fx p hp hl x' hx'
            have := fy p hp hly y' hy'
            rw [Ct_add]; omega
end Go.Proofs.Ytgnphlpoofaojaa
