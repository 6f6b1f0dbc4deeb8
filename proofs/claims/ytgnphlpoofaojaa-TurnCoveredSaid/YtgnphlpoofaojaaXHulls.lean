import Derived.Test.YtgnphlpoofaojaaXCovs
import Derived.Test.YtgnphlpoofaojaaB
import Derived.Test.YtgnphlpoofaojaaV33
namespace Go.Proofs.Ytgnphlpoofaojaa
open Go.V
set_option maxRecDepth 100000
set_option maxHeartbeats 4000000
set_option linter.unusedSimpArgs false
set_option linter.unusedVariables false
attribute [local go_sem] tl1 tl2 tl3 tl4 tl5 tl9 tl17 tl21 tl22 tl23 tl24 tl25 tl26 tl27 tl28 tl29 tl31 tl33 tl34 tl36 tl37 tl38 tl39 tl40 tl41 tl42 tl43 tl44 tl46 tl47 tl49 tl50 tl52 tl53 tl54 tl55 tl56 tl57 tl58 tl60 tl62 tl63 tl64 tl65 tl66 tl67 tl68 tl69 tl70 tl71 tl72 tl74 tl75 tl76 tl77 tl78 tl79 tl80 tl81 tl82 tl83 tl84 tl85 tl86 tl87 tl88 tl89 tl90 tl91 tl92 tl93 tl94 tl95 tl96 tl97 tl98 tl99 tl100 tl102 tl103 tl104 tl105 tl106 tl107 tl108 tl109 tl110 tl111 tl112 tl113 tl114 tl115 tl116 tl117 tl118 tl119 tl120 tl121 tl122 tl123 tl124 tl125 tl126 tl127 tl128 tl129 tl130 tl131 tl132 tl133 tl134 tl140 tl141 tl145

def m81 (N : Nat) (p1783 : PV) : Option (PV) :=
  getA2 p1783 fun p1785 p1786 =>
  getI .i64 p1786 fun x1788 =>
  some (.int .i64 x1788)
theorem c81 (N : Nat) (p1783 : PV) (r : PV)  (h : m81 N p1783 = some r) : FnP Try.prog 81 [p1783] r := by
  unfold m81 at h
  refine Fn_of (sz := 5) tab_ok [0, 1, 2] [.tmp 2] Try.func81 rfl rfl rfl (by simp) ?_
  simp only [initSt, initEnv, List.map_cons, List.map_nil, List.getD_cons_zero, List.getD_cons_succ, List.getD_nil]
  have hh := getA2_some h; clear h; obtain ⟨p1785, p1786, h1784, h⟩ := hh
  have hh := getI_some h; clear h; obtain ⟨x1788, h1787, h⟩ := hh
  refine W_sound tab_ok mixed 13 _ _ _ ?_
  simp -implicitDefEqProofs only [go_sem, ne_eq, not_false_eq_true, Nat.reduceBEq, Nat.reduceAdd, Nat.reduceSub, Nat.reduceMul, Nat.reduceLT, Nat.reduceLeDiff, Int.reduceLE, Int.reduceLT, Int.reduceToNat, Int.reduceBEq, Int.reduceBNe, Int.le_refl, Nat.le_refl, decide_true, decide_false, Int.cast_ofNat_Int, ↓reduceIte, h1784, h1787]
  repeat with_reducible refine And.intro (by first | kernel_rfl | decide) ?_
  obtain rfl := Option.some.inj h
  exact finC [(2, .v (.int .i64 x1788))] [(2, .v (.int .i64 x1788))] (by simp [leE, lk_cons]) (.cons _ _ _ _ _ (.v _ _ (.refl _)) .nil) (by rfl) (by simp [leE, lk_cons]) (by decide) (by decide) rfl (by simp only [go_sem, ne_eq, not_false_eq_true, Nat.reduceBEq, Nat.reduceAdd, Nat.reduceSub, Nat.reduceMul, Nat.reduceLT, Nat.reduceLeDiff, Int.reduceLE, Int.reduceLT, Int.reduceToNat, Int.reduceBEq, Int.reduceBNe, Int.le_refl, Nat.le_refl, decide_true, decide_false, Int.cast_ofNat_Int, ↓reduceIte, resQ_tmp, resQ_cell, resQ_nil, retD_one, retD_two, retD_three, retD_none]; try simp [R.val, retD_one, retD_two, retD_three, retD_none])

def m82 (N : Nat) (p1798 : PV) : Option (PV) :=
  getA2 p1798 fun p1800 p1801 =>
  getI .i64 p1800 fun x1803 =>
  some (.int .i64 (IntKind.i64.wrap (0 - x1803)))
theorem c82 (N : Nat) (p1798 : PV) (r : PV)  (h : m82 N p1798 = some r) : FnP Try.prog 82 [p1798] r := by
  unfold m82 at h
  refine Fn_of (sz := 6) tab_ok [0, 1, 2] [.tmp 2] Try.func82 rfl rfl rfl (by simp) ?_
  simp only [initSt, initEnv, List.map_cons, List.map_nil, List.getD_cons_zero, List.getD_cons_succ, List.getD_nil]
  have hh := getA2_some h; clear h; obtain ⟨p1800, p1801, h1799, h⟩ := hh
  have hh := getI_some h; clear h; obtain ⟨x1803, h1802, h⟩ := hh
  refine W_sound tab_ok mixed 14 _ _ _ ?_
  simp -implicitDefEqProofs only [go_sem, ne_eq, not_false_eq_true, Nat.reduceBEq, Nat.reduceAdd, Nat.reduceSub, Nat.reduceMul, Nat.reduceLT, Nat.reduceLeDiff, Int.reduceLE, Int.reduceLT, Int.reduceToNat, Int.reduceBEq, Int.reduceBNe, Int.le_refl, Nat.le_refl, decide_true, decide_false, Int.cast_ofNat_Int, ↓reduceIte, h1799, h1802]
  repeat with_reducible refine And.intro (by first | kernel_rfl | decide) ?_
  obtain rfl := Option.some.inj h
  exact finC [(2, .v (.int .i64 (IntKind.i64.wrap (0 - x1803))))] [(2, .v (.int .i64 (IntKind.i64.wrap (0 - x1803))))] (by simp [leE, lk_cons]) (.cons _ _ _ _ _ (.v _ _ (.refl _)) .nil) (by rfl) (by simp [leE, lk_cons]) (by decide) (by decide) rfl (by simp only [go_sem, ne_eq, not_false_eq_true, Nat.reduceBEq, Nat.reduceAdd, Nat.reduceSub, Nat.reduceMul, Nat.reduceLT, Nat.reduceLeDiff, Int.reduceLE, Int.reduceLT, Int.reduceToNat, Int.reduceBEq, Int.reduceBNe, Int.le_refl, Nat.le_refl, decide_true, decide_false, Int.cast_ofNat_Int, ↓reduceIte, resQ_tmp, resQ_cell, resQ_nil, retD_one, retD_two, retD_three, retD_none]; try simp [R.val, retD_one, retD_two, retD_three, retD_none])

def m85 (N : Nat) (p1775 : PV) (p1776 : PV) : Option (PV) :=
  getA2 p1775 fun p1778 p1779 =>
  getA2 p1776 fun p1781 p1782 =>
  bnd' (m81 N (.agg [p1778, p1779])) fun p1789 =>
  getI .i64 p1789 fun x1792 =>
  bnd' (m81 N (.agg [p1781, p1782])) fun p1793 =>
  getI .i64 p1793 fun x1796 =>
  brn ((IntKind.i64.wrap (x1792 - x1796)) != 0) (
    some (.int .i64 (IntKind.i64.wrap (x1792 - x1796)))) (
    bnd' (m82 N (.agg [p1778, p1779])) fun p1804 =>
    getI .i64 p1804 fun x1807 =>
    bnd' (m82 N (.agg [p1781, p1782])) fun p1808 =>
    getI .i64 p1808 fun x1811 =>
    some (.int .i64 (IntKind.i64.wrap (x1807 - x1811))))
theorem c85 (N : Nat) (p1775 : PV) (p1776 : PV) (r : PV)  (h : m85 N p1775 p1776 = some r) : FnP Try.prog 85 [(.agg [(.fn 81 []), (.fn 82 [])]), p1775, p1776] r := by
  unfold m85 at h
  refine Fn_of (sz := 29) tab_ok [0, 1, 2, 3, 4, 5, 6, 7, 18] [.tmp 6] Try.func85 rfl rfl rfl (by simp) ?_
  simp only [initSt, initEnv, List.map_cons, List.map_nil, List.getD_cons_zero, List.getD_cons_succ, List.getD_nil]
  have hh := getA2_some h; clear h; obtain ⟨p1778, p1779, h1777, h⟩ := hh
  have hh := getA2_some h; clear h; obtain ⟨p1781, p1782, h1780, h⟩ := hh
  have hh := bnd'_some h; clear h; obtain ⟨p1789, h1790, h⟩ := hh
  refine W_sound tab_ok mixed 13 _ _ _ ?_
  simp -implicitDefEqProofs only [go_sem, ne_eq, not_false_eq_true, Nat.reduceBEq, Nat.reduceAdd, Nat.reduceSub, Nat.reduceMul, Nat.reduceLT, Nat.reduceLeDiff, Int.reduceLE, Int.reduceLT, Int.reduceToNat, Int.reduceBEq, Int.reduceBNe, Int.le_refl, Nat.le_refl, decide_true, decide_false, Int.cast_ofNat_Int, ↓reduceIte, h1777, h1780]
  repeat with_reducible refine And.intro (by first | kernel_rfl | decide) ?_
  refine Wp_callP (c81 N _ _ h1790) (by kernel_rfl) rfl rfl rfl rfl (by decide) ?_
  have hh := getI_some h; clear h; obtain ⟨x1792, h1791, h⟩ := hh
  have hh := bnd'_some h; clear h; obtain ⟨p1793, h1794, h⟩ := hh
  refine W_sound tab_ok mixed 3 _ _ _ ?_
  simp -implicitDefEqProofs only [go_sem, ne_eq, not_false_eq_true, Nat.reduceBEq, Nat.reduceAdd, Nat.reduceSub, Nat.reduceMul, Nat.reduceLT, Nat.reduceLeDiff, Int.reduceLE, Int.reduceLT, Int.reduceToNat, Int.reduceBEq, Int.reduceBNe, Int.le_refl, Nat.le_refl, decide_true, decide_false, Int.cast_ofNat_Int, ↓reduceIte, h1777, h1780, h1791]
  repeat with_reducible refine And.intro (by first | kernel_rfl | decide) ?_
  refine Wp_callP (c81 N _ _ h1794) (by kernel_rfl) rfl rfl rfl rfl (by decide) ?_
  have hh := getI_some h; clear h; obtain ⟨x1796, h1795, h⟩ := hh
  have hh := brn_some h; clear h; rcases hh with ⟨h1797, h⟩ | ⟨h1797, h⟩
  · refine W_sound tab_ok mixed 16 _ _ _ ?_
    simp -implicitDefEqProofs only [go_sem, ne_eq, not_false_eq_true, Nat.reduceBEq, Nat.reduceAdd, Nat.reduceSub, Nat.reduceMul, Nat.reduceLT, Nat.reduceLeDiff, Int.reduceLE, Int.reduceLT, Int.reduceToNat, Int.reduceBEq, Int.reduceBNe, Int.le_refl, Nat.le_refl, decide_true, decide_false, Int.cast_ofNat_Int, ↓reduceIte, h1777, h1780, h1791, h1795, h1797]
    repeat with_reducible refine And.intro (by first | kernel_rfl | decide) ?_
    obtain rfl := Option.some.inj h
    exact finC [(6, .v (.int .i64 (IntKind.i64.wrap (x1792 - x1796))))] [(6, .v (.int .i64 (IntKind.i64.wrap (x1792 - x1796))))] (by simp [leE, lk_cons]) (.cons _ _ _ _ _ (.v _ _ (.refl _)) .nil) (by rfl) (by simp [leE, lk_cons]) (by decide) (by decide) rfl (by simp only [go_sem, ne_eq, not_false_eq_true, Nat.reduceBEq, Nat.reduceAdd, Nat.reduceSub, Nat.reduceMul, Nat.reduceLT, Nat.reduceLeDiff, Int.reduceLE, Int.reduceLT, Int.reduceToNat, Int.reduceBEq, Int.reduceBNe, Int.le_refl, Nat.le_refl, decide_true, decide_false, Int.cast_ofNat_Int, ↓reduceIte, resQ_tmp, resQ_cell, resQ_nil, retD_one, retD_two, retD_three, retD_none]; try simp [R.val, retD_one, retD_two, retD_three, retD_none])
  · have hh := bnd'_some h; clear h; obtain ⟨p1804, h1805, h⟩ := hh
    refine W_sound tab_ok mixed 15 _ _ _ ?_
    simp -implicitDefEqProofs only [go_sem, ne_eq, not_false_eq_true, Nat.reduceBEq, Nat.reduceAdd, Nat.reduceSub, Nat.reduceMul, Nat.reduceLT, Nat.reduceLeDiff, Int.reduceLE, Int.reduceLT, Int.reduceToNat, Int.reduceBEq, Int.reduceBNe, Int.le_refl, Nat.le_refl, decide_true, decide_false, Int.cast_ofNat_Int, ↓reduceIte, h1777, h1780, h1791, h1795, h1797]
    repeat with_reducible refine And.intro (by first | kernel_rfl | decide) ?_
    refine Wp_callP (c82 N _ _ h1805) (by kernel_rfl) rfl rfl rfl rfl (by decide) ?_
    have hh := getI_some h; clear h; obtain ⟨x1807, h1806, h⟩ := hh
    have hh := bnd'_some h; clear h; obtain ⟨p1808, h1809, h⟩ := hh
    refine W_sound tab_ok mixed 3 _ _ _ ?_
    simp -implicitDefEqProofs only [go_sem, ne_eq, not_false_eq_true, Nat.reduceBEq, Nat.reduceAdd, Nat.reduceSub, Nat.reduceMul, Nat.reduceLT, Nat.reduceLeDiff, Int.reduceLE, Int.reduceLT, Int.reduceToNat, Int.reduceBEq, Int.reduceBNe, Int.le_refl, Nat.le_refl, decide_true, decide_false, Int.cast_ofNat_Int, ↓reduceIte, h1777, h1780, h1791, h1795, h1797, h1806]
    repeat with_reducible refine And.intro (by first | kernel_rfl | decide) ?_
    refine Wp_callP (c82 N _ _ h1809) (by kernel_rfl) rfl rfl rfl rfl (by decide) ?_
    have hh := getI_some h; clear h; obtain ⟨x1811, h1810, h⟩ := hh
    refine W_sound tab_ok mixed 5 _ _ _ ?_
    simp -implicitDefEqProofs only [go_sem, ne_eq, not_false_eq_true, Nat.reduceBEq, Nat.reduceAdd, Nat.reduceSub, Nat.reduceMul, Nat.reduceLT, Nat.reduceLeDiff, Int.reduceLE, Int.reduceLT, Int.reduceToNat, Int.reduceBEq, Int.reduceBNe, Int.le_refl, Nat.le_refl, decide_true, decide_false, Int.cast_ofNat_Int, ↓reduceIte, h1777, h1780, h1791, h1795, h1797, h1806, h1810]
    repeat with_reducible refine And.intro (by first | kernel_rfl | decide) ?_
    obtain rfl := Option.some.inj h
    exact finC [(6, .v (.int .i64 (IntKind.i64.wrap (x1807 - x1811))))] [(6, .v (.int .i64 (IntKind.i64.wrap (x1807 - x1811))))] (by simp [leE, lk_cons]) (.cons _ _ _ _ _ (.v _ _ (.refl _)) .nil) (by rfl) (by simp [leE, lk_cons]) (by decide) (by decide) rfl (by simp only [go_sem, ne_eq, not_false_eq_true, Nat.reduceBEq, Nat.reduceAdd, Nat.reduceSub, Nat.reduceMul, Nat.reduceLT, Nat.reduceLeDiff, Int.reduceLE, Int.reduceLT, Int.reduceToNat, Int.reduceBEq, Int.reduceBNe, Int.le_refl, Nat.le_refl, decide_true, decide_false, Int.cast_ofNat_Int, ↓reduceIte, resQ_tmp, resQ_cell, resQ_nil, retD_one, retD_two, retD_three, retD_none]; try simp [R.val, retD_one, retD_two, retD_three, retD_none])

def m84 (N : Nat) (x1757 : Int) (x1758 : Int) (p1759 : PV) : Option (PV) :=
  getL p1759 fun n1761 c1762 =>
  grd (0 ≤ x1757 ∧ x1757 < ((n1761 : Nat) : Int)) <|
  grd (2 ≤ List.length (List.drop ((Int.toNat x1757) * 2) c1762)) <|
  getA2 (.agg (List.take 2 (List.drop ((Int.toNat x1757) * 2) c1762))) fun p1767 p1768 =>
  grd (0 ≤ x1758 ∧ x1758 < ((n1761 : Nat) : Int)) <|
  grd (2 ≤ List.length (List.drop ((Int.toNat x1758) * 2) c1762)) <|
  getA2 (.agg (List.take 2 (List.drop ((Int.toNat x1758) * 2) c1762))) fun p1773 p1774 =>
  bnd' (m85 N (.agg [p1767, p1768]) (.agg [p1773, p1774])) fun p1812 =>
  getI .i64 p1812 fun x1815 =>
  some (.int .i64 x1815)
theorem c84 (N : Nat) (x1757 : Int) (x1758 : Int) (p1759 : PV) (r : PV)  (h : m84 N x1757 x1758 p1759 = some r) : V.Fn Try.prog 84 1 [.v (.int .i64 x1757), .v (.int .i64 x1758), .ptr 0 0, .v (.ipt [p1759])] [(0, .p [(.fn 81 []), (.fn 82 [])])] (fun d ob' => d = .v r ∧ ob' = [(0, .p [(.fn 81 []), (.fn 82 [])])]) := by
  unfold m84 at h
  refine Fn_of (sz := 17) tab_ok [0, 1, 2, 3, 6] [.tmp 6] Try.func84 rfl rfl rfl (by simp) ?_
  simp only [initSt, initEnv, List.map_cons, List.map_nil, List.getD_cons_zero, List.getD_cons_succ, List.getD_nil]
  have hh := getL_some h; clear h; obtain ⟨n1761, c1762, h1760, h⟩ := hh
  have hh := grd_some h; clear h; obtain ⟨⟨g1763, g1764⟩, h⟩ := hh
  have hh := grd_some h; clear h; obtain ⟨g1765, h⟩ := hh
  have hh := getA2_some h; clear h; obtain ⟨p1767, p1768, h1766, h⟩ := hh
  injection h1766 with h1766
  have hh := grd_some h; clear h; obtain ⟨⟨g1769, g1770⟩, h⟩ := hh
  have hh := grd_some h; clear h; obtain ⟨g1771, h⟩ := hh
  have hh := getA2_some h; clear h; obtain ⟨p1773, p1774, h1772, h⟩ := hh
  injection h1772 with h1772
  have hh := bnd'_some h; clear h; obtain ⟨p1812, h1813, h⟩ := hh
  refine W_sound tab_ok mixed 15 _ _ _ ?_
  simp -implicitDefEqProofs only [go_sem, ne_eq, not_false_eq_true, Nat.reduceBEq, Nat.reduceAdd, Nat.reduceSub, Nat.reduceMul, Nat.reduceLT, Nat.reduceLeDiff, Int.reduceLE, Int.reduceLT, Int.reduceToNat, Int.reduceBEq, Int.reduceBNe, Int.le_refl, Nat.le_refl, decide_true, decide_false, Int.cast_ofNat_Int, ↓reduceIte, h1760, g1763, g1764, g1765, h1766, g1769, g1770, g1771, h1772]
  repeat with_reducible refine And.intro (by first | kernel_rfl | decide) ?_
  refine Wp_callP (c85 N _ _ _ h1813) (by kernel_rfl) rfl rfl rfl rfl (by decide) ?_
  have hh := getI_some h; clear h; obtain ⟨x1815, h1814, h⟩ := hh
  refine W_sound tab_ok mixed 4 _ _ _ ?_
  simp -implicitDefEqProofs only [go_sem, ne_eq, not_false_eq_true, Nat.reduceBEq, Nat.reduceAdd, Nat.reduceSub, Nat.reduceMul, Nat.reduceLT, Nat.reduceLeDiff, Int.reduceLE, Int.reduceLT, Int.reduceToNat, Int.reduceBEq, Int.reduceBNe, Int.le_refl, Nat.le_refl, decide_true, decide_false, Int.cast_ofNat_Int, ↓reduceIte, h1760, g1763, g1764, g1765, h1766, g1769, g1770, g1771, h1772, h1814]
  repeat with_reducible refine And.intro (by first | kernel_rfl | decide) ?_
  obtain rfl := Option.some.inj h
  exact finD (e2 := [(0, .dead), (1, .dead), (2, .dead), (3, .dead), (6, .v (.int .i64 x1815))]) (ob2 := [(0, .p [(.fn 81 []), (.fn 82 [])])]) (st' := ⟨[], [(0, .dead), (1, .dead), (2, .dead), (3, .dead), (6, .v (.int .i64 x1815))], [(0, .p [(.fn 81 []), (.fn 82 [])])], 1, []⟩) (.cons _ _ _ _ _ (.dead _) (.cons _ _ _ _ _ (.dead _) (.cons _ _ _ _ _ (.dead _) (.cons _ _ _ _ _ (.dead _) (.cons _ _ _ _ _ (.refl _) .nil))))) (.cons _ _ _ _ _ (DLes.refl _) .nil) (by kernel_rfl) (by simp only [go_sem, ne_eq, not_false_eq_true, Nat.reduceBEq, Nat.reduceAdd, Nat.reduceSub, Nat.reduceMul, Nat.reduceLT, Nat.reduceLeDiff, Int.reduceLE, Int.reduceLT, Int.reduceToNat, Int.reduceBEq, Int.reduceBNe, Int.le_refl, Nat.le_refl, decide_true, decide_false, Int.cast_ofNat_Int, ↓reduceIte, resQ_tmp, resQ_cell, resQ_nil, retD_one, retD_two, retD_three, retD_none]; try simp [R.val, retD_one, retD_two, retD_three, retD_none])

def m89_L1 (N : Nat) (n1889 : Nat) (x1890 : Int) (x1891 : Int) (p1892 : PV) (x1937 : Int) : Nat → Int → List PV → Option (List PV)
  | 0, _, _ => none
  | n + 1, x1959, c1960 =>
    brn (decide (x1959 > x1890)) (
      grd (0 ≤ x1959 ∧ x1959 < ((n1889 : Nat) : Int)) <|
      grd ((Int.toNat x1959) < List.length c1960) <|
      getI .i64 (gp c1960 (Int.toNat x1959)) fun x1966 =>
      grd (0 ≤ (IntKind.i64.wrap (x1959 - 1)) ∧ (IntKind.i64.wrap (x1959 - 1)) < ((n1889 : Nat) : Int)) <|
      grd ((Int.toNat (IntKind.i64.wrap (x1959 - 1))) < List.length c1960) <|
      getI .i64 (gp c1960 (Int.toNat (IntKind.i64.wrap (x1959 - 1)))) fun x1971 =>
      bnd' (m84 N x1966 x1971 p1892) fun p1972 =>
      getI .i64 p1972 fun x1975 =>
      brn (decide (x1975 < 0)) (
        grd (((Int.toNat x1959) + 1) ≤ List.length c1960) <|
        grd (((Int.toNat (IntKind.i64.wrap (x1959 - 1))) + 1) ≤ List.length c1960) <|
        m89_L1 N n1889 x1890 x1891 p1892 x1937 n (IntKind.i64.wrap (x1959 - 1)) (List.set (List.set c1960 (Int.toNat x1959) (.int .i64 x1971)) (Int.toNat (IntKind.i64.wrap (x1959 - 1))) (.int .i64 x1966))) (
        some c1960)) (
      some c1960)
def m89_L0 (N : Nat) (n1889 : Nat) (x1890 : Int) (x1891 : Int) (p1892 : PV) : Nat → Int → List PV → Option (List PV)
  | 0, _, _ => none
  | n + 1, x1937, c1938 =>
    brn (decide (x1937 < x1891)) (
      bnd' (m89_L1 N n1889 x1890 x1891 p1892 x1937 N x1937 c1938) fun c1979 =>
      m89_L0 N n1889 x1890 x1891 p1892 n (IntKind.i64.wrap (x1937 + 1)) c1979) (
      some c1938)
def m89 (N : Nat) (n1889 : Nat) (x1890 : Int) (x1891 : Int) (p1892 : PV) (c1893 : List PV) : Option ((PV × List PV)) :=
  bnd' (m89_L0 N n1889 x1890 x1891 p1892 N (IntKind.i64.wrap (x1890 + 1)) c1893) fun c1980 =>
  some ((.tup []), c1980)
theorem c89 (N : Nat) (n1889 : Nat) (x1890 : Int) (x1891 : Int) (p1892 : PV) (c1893 : List PV) (r : PV) (c1982 : List PV) (h : m89 N n1889 x1890 x1891 p1892 c1893 = some (r, c1982)) : V.Fn Try.prog 89 2 [.sl false 0 0 n1889 1, .v (.int .i64 x1890), .v (.int .i64 x1891), .fn 84 [.ptr 1 0, .v (.ipt [p1892])]] [(0, .p c1893), (1, .p [(.fn 81 []), (.fn 82 [])])] (fun d ob' => d = .v r ∧ ob' = [(0, .p c1982), (1, .p [(.fn 81 []), (.fn 82 [])])]) := by
  unfold m89 at h
  refine Fn_of (sz := 53) tab_ok [0, 1, 2, 3, 8, 9, 14, 34] [] Try.func89 rfl rfl rfl (by simp) ?_
  simp only [initSt, initEnv, List.map_cons, List.map_nil, List.getD_cons_zero, List.getD_cons_succ, List.getD_nil]
  refine W_sound tab_ok mixed 6 _ _ _ ?_
  simp -implicitDefEqProofs only [go_sem, ne_eq, not_false_eq_true, Nat.reduceBEq, Nat.reduceAdd, Nat.reduceSub, Nat.reduceMul, Nat.reduceLT, Nat.reduceLeDiff, Int.reduceLE, Int.reduceLT, Int.reduceToNat, Int.reduceBEq, Int.reduceBNe, Int.le_refl, Nat.le_refl, decide_true, decide_false, Int.cast_ofNat_Int, ↓reduceIte]
  repeat with_reducible refine And.intro (by first | kernel_rfl | decide) ?_
  have hh := bnd'_some h; clear h; obtain ⟨o1983, h1984, h1985⟩ := hh
  refine Wp_cut (fun s => ∃ c1980, c1980 = o1983 ∧ s = ⟨[], [(0, .dead), (1, .dead), (2, .dead), (3, .dead), (8, .dead), (9, .dead), (14, .dead), (34, .dead)], [(0, .p c1980), (1, .p [(.fn 81 []), (.fn 82 [])])], 2, []⟩) ?_ ?_
  · refine Wp_block ?_
    refine Wp_loopG (fun n s => ∃ x1937, ∃ c1938, m89_L0 N n1889 x1890 x1891 p1892 n x1937 c1938 = some o1983 ∧ s = ⟨[], [(0, .sl false 0 0 n1889 1), (1, .v (.int .i64 x1890)), (2, .v (.int .i64 x1891)), (3, .fn 84 [.ptr 1 0, .v (.ipt [p1892])]), (8, .v (.int .i64 x1937)), (9, .dead), (14, .dead), (34, .dead)], [(0, .p c1938), (1, .p [(.fn 81 []), (.fn 82 [])])], 2, []⟩) N _ ((Wk_le (.cons _ _ _ _ _ (.refl _) (.cons _ _ _ _ _ (.refl _) (.cons _ _ _ _ _ (.refl _) (.cons _ _ _ _ _ (.refl _) (.cons _ _ _ _ _ (.refl _) (.cons _ _ _ _ _ (.refl _) (.cons _ _ _ _ _ (.refl _) (.cons _ _ _ _ _ (.refl _) .nil)))))))) (OLe.refl _)).trans (cmpS_ok rfl)) ⟨_, _, h1984, rfl⟩ ?_
    clear h1984
    rintro n _ ⟨x1937, c1938, h1984, rfl⟩
    cases n with
    | zero => cases h1984
    | succ n =>
      rw [m89_L0] at h1984
      have hh := brn_some h1984; clear h1984; rcases hh with ⟨h1939, h1984⟩ | ⟨h1939, h1984⟩
      · refine W_sound tab_ok mixed 16 _ _ _ ?_
        simp -implicitDefEqProofs only [go_sem, ne_eq, not_false_eq_true, Nat.reduceBEq, Nat.reduceAdd, Nat.reduceSub, Nat.reduceMul, Nat.reduceLT, Nat.reduceLeDiff, Int.reduceLE, Int.reduceLT, Int.reduceToNat, Int.reduceBEq, Int.reduceBNe, Int.le_refl, Nat.le_refl, decide_true, decide_false, Int.cast_ofNat_Int, ↓reduceIte, h1939]
        repeat with_reducible refine And.intro (by first | kernel_rfl | decide) ?_
        have hh := bnd'_some h1984; clear h1984; obtain ⟨o1986, h1987, h1988⟩ := hh
        refine Wp_cut (fun s => ∃ c1979, c1979 = o1986 ∧ s = ⟨[], [(0, .sl false 0 0 n1889 1), (1, .v (.int .i64 x1890)), (2, .v (.int .i64 x1891)), (3, .fn 84 [.ptr 1 0, .v (.ipt [p1892])]), (8, .v (.int .i64 x1937)), (9, .dead), (14, .dead), (34, .dead)], [(0, .p c1979), (1, .p [(.fn 81 []), (.fn 82 [])])], 2, []⟩) ?_ ?_
        · refine Wp_block ?_
          refine Wp_loopG (fun n s => ∃ x1959, ∃ c1960, m89_L1 N n1889 x1890 x1891 p1892 x1937 n x1959 c1960 = some o1986 ∧ s = ⟨[], [(0, .sl false 0 0 n1889 1), (1, .v (.int .i64 x1890)), (2, .v (.int .i64 x1891)), (3, .fn 84 [.ptr 1 0, .v (.ipt [p1892])]), (8, .v (.int .i64 x1937)), (9, .v (.int .i64 x1959)), (14, .dead), (34, .dead)], [(0, .p c1960), (1, .p [(.fn 81 []), (.fn 82 [])])], 2, []⟩) N _ ((Wk_le (.cons _ _ _ _ _ (.refl _) (.cons _ _ _ _ _ (.refl _) (.cons _ _ _ _ _ (.refl _) (.cons _ _ _ _ _ (.refl _) (.cons _ _ _ _ _ (.refl _) (.cons _ _ _ _ _ (.refl _) (.cons _ _ _ _ _ (.dead _) (.cons _ _ _ _ _ (.refl _) .nil)))))))) (OLe.refl _)).trans (cmpS_ok rfl)) ⟨_, _, h1987, rfl⟩ ?_
          clear h1987
          rintro n _ ⟨x1959, c1960, h1987, rfl⟩
          cases n with
          | zero => cases h1987
          | succ n =>
            rw [m89_L1] at h1987
            have hh := brn_some h1987; clear h1987; rcases hh with ⟨h1961, h1987⟩ | ⟨h1961, h1987⟩
            · have hh := grd_some h1987; clear h1987; obtain ⟨⟨g1962, g1963⟩, h1987⟩ := hh
              have hh := grd_some h1987; clear h1987; obtain ⟨g1964, h1987⟩ := hh
              have hh := getI_some h1987; clear h1987; obtain ⟨x1966, h1965, h1987⟩ := hh
              have hh := grd_some h1987; clear h1987; obtain ⟨⟨g1967, g1968⟩, h1987⟩ := hh
              have hh := grd_some h1987; clear h1987; obtain ⟨g1969, h1987⟩ := hh
              have hh := getI_some h1987; clear h1987; obtain ⟨x1971, h1970, h1987⟩ := hh
              have hh := bnd'_some h1987; clear h1987; obtain ⟨p1972, h1973, h1987⟩ := hh
              (try dsimp only at h1987)
              refine W_sound tab_ok mixed 17 _ _ _ ?_
              simp -implicitDefEqProofs only [go_sem, ne_eq, not_false_eq_true, Nat.reduceBEq, Nat.reduceAdd, Nat.reduceSub, Nat.reduceMul, Nat.reduceLT, Nat.reduceLeDiff, Int.reduceLE, Int.reduceLT, Int.reduceToNat, Int.reduceBEq, Int.reduceBNe, Int.le_refl, Nat.le_refl, decide_true, decide_false, Int.cast_ofNat_Int, ↓reduceIte, h1939, h1961, g1962, g1963, g1964, h1965, g1967, g1968, g1969, h1970]
              repeat with_reducible refine And.intro (by first | kernel_rfl | decide) ?_
              refine Wp_callD [1] (c84 N _ _ _ _ h1973) rfl rfl rfl (by first | rfl | (simp only [go_sem, ne_eq, not_false_eq_true, Nat.reduceBEq, Nat.reduceAdd, Nat.reduceSub, Nat.reduceMul, Nat.reduceLT, Nat.reduceLeDiff, Int.reduceLE, Int.reduceLT, Int.reduceToNat, Int.reduceBEq, Int.reduceBNe, Int.le_refl, Nat.le_refl, decide_true, decide_false, Int.cast_ofNat_Int, ↓reduceIte, h1939, h1961, g1962, g1963, g1964, h1965, g1967, g1968, g1969, h1970] <;> rfl)) rfl (by kernel_rfl) ?_
              have hh := getI_some h1987; clear h1987; obtain ⟨x1975, h1974, h1987⟩ := hh
              have hh := brn_some h1987; clear h1987; rcases hh with ⟨h1976, h1987⟩ | ⟨h1976, h1987⟩
              · have hh := grd_some h1987; clear h1987; obtain ⟨g1977, h1987⟩ := hh
                have hh := grd_some h1987; clear h1987; obtain ⟨g1978, h1987⟩ := hh
                refine W_sound tab_ok mixed 33 _ _ _ ?_
                simp -implicitDefEqProofs only [go_sem, ne_eq, not_false_eq_true, Nat.reduceBEq, Nat.reduceAdd, Nat.reduceSub, Nat.reduceMul, Nat.reduceLT, Nat.reduceLeDiff, Int.reduceLE, Int.reduceLT, Int.reduceToNat, Int.reduceBEq, Int.reduceBNe, Int.le_refl, Nat.le_refl, decide_true, decide_false, Int.cast_ofNat_Int, ↓reduceIte, h1939, h1961, g1962, g1963, g1964, h1965, g1967, g1968, g1969, h1970, h1974, h1976, g1977, g1978]
                repeat with_reducible refine And.intro (by first | kernel_rfl | decide) ?_
                exact cutQ _ ((Wk_le (.cons _ _ _ _ _ (.refl _) (.cons _ _ _ _ _ (.refl _) (.cons _ _ _ _ _ (.refl _) (.cons _ _ _ _ _ (.refl _) (.cons _ _ _ _ _ (.refl _) (.cons _ _ _ _ _ (.refl _) (.cons _ _ _ _ _ (.refl _) (.cons _ _ _ _ _ (.dead _) .nil)))))))) (OLe.refl _)).trans (cmpS_ok rfl)) ⟨n, Nat.lt_succ_self n, _, _, h1987, rfl⟩
              · refine W_sound tab_ok mixed 5 _ _ _ ?_
                simp -implicitDefEqProofs only [go_sem, ne_eq, not_false_eq_true, Nat.reduceBEq, Nat.reduceAdd, Nat.reduceSub, Nat.reduceMul, Nat.reduceLT, Nat.reduceLeDiff, Int.reduceLE, Int.reduceLT, Int.reduceToNat, Int.reduceBEq, Int.reduceBNe, Int.le_refl, Nat.le_refl, decide_true, decide_false, Int.cast_ofNat_Int, ↓reduceIte, h1939, h1961, g1962, g1963, g1964, h1965, g1967, g1968, g1969, h1970, h1974, h1976]
                repeat with_reducible refine And.intro (by first | kernel_rfl | decide) ?_
                obtain rfl := Option.some.inj h1987
                exact cutQ _ ((Wk_le (.cons _ _ _ _ _ (.refl _) (.cons _ _ _ _ _ (.refl _) (.cons _ _ _ _ _ (.refl _) (.cons _ _ _ _ _ (.refl _) (.cons _ _ _ _ _ (.refl _) (.cons _ _ _ _ _ (.dead _) (.cons _ _ _ _ _ (.refl _) (.cons _ _ _ _ _ (.dead _) .nil)))))))) (OLe.refl _)).trans (cmpS_ok rfl)) ⟨_, rfl, rfl⟩
            · refine W_sound tab_ok mixed 23 _ _ _ ?_
              simp -implicitDefEqProofs only [go_sem, ne_eq, not_false_eq_true, Nat.reduceBEq, Nat.reduceAdd, Nat.reduceSub, Nat.reduceMul, Nat.reduceLT, Nat.reduceLeDiff, Int.reduceLE, Int.reduceLT, Int.reduceToNat, Int.reduceBEq, Int.reduceBNe, Int.le_refl, Nat.le_refl, decide_true, decide_false, Int.cast_ofNat_Int, ↓reduceIte, h1939, h1961]
              repeat with_reducible refine And.intro (by first | kernel_rfl | decide) ?_
              obtain rfl := Option.some.inj h1987
              exact cutQ _ ((Wk_le (.cons _ _ _ _ _ (.refl _) (.cons _ _ _ _ _ (.refl _) (.cons _ _ _ _ _ (.refl _) (.cons _ _ _ _ _ (.refl _) (.cons _ _ _ _ _ (.refl _) (.cons _ _ _ _ _ (.dead _) (.cons _ _ _ _ _ (.refl _) (.cons _ _ _ _ _ (.dead _) .nil)))))))) (OLe.refl _)).trans (cmpS_ok rfl)) ⟨_, rfl, rfl⟩
        · rintro _ ⟨c1979, rfl, rfl⟩
          refine W_sound tab_ok mixed 6 _ _ _ ?_
          simp -implicitDefEqProofs only [go_sem, ne_eq, not_false_eq_true, Nat.reduceBEq, Nat.reduceAdd, Nat.reduceSub, Nat.reduceMul, Nat.reduceLT, Nat.reduceLeDiff, Int.reduceLE, Int.reduceLT, Int.reduceToNat, Int.reduceBEq, Int.reduceBNe, Int.le_refl, Nat.le_refl, decide_true, decide_false, Int.cast_ofNat_Int, ↓reduceIte, h1939]
          repeat with_reducible refine And.intro (by first | kernel_rfl | decide) ?_
          exact cutQ _ ((Wk_le (.cons _ _ _ _ _ (.refl _) (.cons _ _ _ _ _ (.refl _) (.cons _ _ _ _ _ (.refl _) (.cons _ _ _ _ _ (.refl _) (.cons _ _ _ _ _ (.refl _) (.cons _ _ _ _ _ (.refl _) (.cons _ _ _ _ _ (.refl _) (.cons _ _ _ _ _ (.refl _) .nil)))))))) (OLe.refl _)).trans (cmpS_ok rfl)) ⟨n, Nat.lt_succ_self n, _, _, h1988, rfl⟩
      · refine W_sound tab_ok mixed 9 _ _ _ ?_
        simp -implicitDefEqProofs only [go_sem, ne_eq, not_false_eq_true, Nat.reduceBEq, Nat.reduceAdd, Nat.reduceSub, Nat.reduceMul, Nat.reduceLT, Nat.reduceLeDiff, Int.reduceLE, Int.reduceLT, Int.reduceToNat, Int.reduceBEq, Int.reduceBNe, Int.le_refl, Nat.le_refl, decide_true, decide_false, Int.cast_ofNat_Int, ↓reduceIte, h1939]
        repeat with_reducible refine And.intro (by first | kernel_rfl | decide) ?_
        obtain rfl := Option.some.inj h1984
        exact cutQ _ ((Wk_le (.cons _ _ _ _ _ (.dead _) (.cons _ _ _ _ _ (.dead _) (.cons _ _ _ _ _ (.dead _) (.cons _ _ _ _ _ (.dead _) (.cons _ _ _ _ _ (.dead _) (.cons _ _ _ _ _ (.refl _) (.cons _ _ _ _ _ (.dead _) (.cons _ _ _ _ _ (.refl _) .nil)))))))) (OLe.refl _)).trans (cmpS_ok rfl)) ⟨_, rfl, rfl⟩
  · rintro _ ⟨c1980, rfl, rfl⟩
    refine W_sound tab_ok mixed 1 _ _ _ ?_
    simp -implicitDefEqProofs only [go_sem, ne_eq, not_false_eq_true, Nat.reduceBEq, Nat.reduceAdd, Nat.reduceSub, Nat.reduceMul, Nat.reduceLT, Nat.reduceLeDiff, Int.reduceLE, Int.reduceLT, Int.reduceToNat, Int.reduceBEq, Int.reduceBNe, Int.le_refl, Nat.le_refl, decide_true, decide_false, Int.cast_ofNat_Int, ↓reduceIte]
    repeat with_reducible refine And.intro (by first | kernel_rfl | decide) ?_
    simp only [Option.some.injEq, Prod.mk.injEq] at h1985; obtain ⟨rfl, rfl⟩ := h1985
    exact finD (e2 := [(0, .dead), (1, .dead), (2, .dead), (3, .dead), (8, .dead), (9, .dead), (14, .dead), (34, .dead)]) (ob2 := [(0, .p c1980), (1, .p [(.fn 81 []), (.fn 82 [])])]) (st' := ⟨[], [(0, .dead), (1, .dead), (2, .dead), (3, .dead), (8, .dead), (9, .dead), (14, .dead), (34, .dead)], [(0, .p c1980), (1, .p [(.fn 81 []), (.fn 82 [])])], 2, []⟩) (.cons _ _ _ _ _ (.refl _) (.cons _ _ _ _ _ (.refl _) (.cons _ _ _ _ _ (.refl _) (.cons _ _ _ _ _ (.refl _) (.cons _ _ _ _ _ (.refl _) (.cons _ _ _ _ _ (.refl _) (.cons _ _ _ _ _ (.refl _) (.cons _ _ _ _ _ (.refl _) .nil)))))))) (.cons _ _ _ _ _ (DLes.refl _) (.cons _ _ _ _ _ (DLes.refl _) .nil)) (by kernel_rfl) (by simp only [go_sem, ne_eq, not_false_eq_true, Nat.reduceBEq, Nat.reduceAdd, Nat.reduceSub, Nat.reduceMul, Nat.reduceLT, Nat.reduceLeDiff, Int.reduceLE, Int.reduceLT, Int.reduceToNat, Int.reduceBEq, Int.reduceBNe, Int.le_refl, Nat.le_refl, decide_true, decide_false, Int.cast_ofNat_Int, ↓reduceIte, resQ_tmp, resQ_cell, resQ_nil, retD_one, retD_two, retD_three, retD_none]; try simp [R.val, retD_one, retD_two, retD_three, retD_none])

def m88_L0 (N : Nat) (n2015 : Nat) (x2016 : Int) (p2017 : PV) : Nat → Int → Int → List PV → Option ((Int × List PV))
  | 0, _, _, _ => none
  | n + 1, x2027, x2028, c2029 =>
    brn (decide (x2028 ≤ x2016)) (
      bnd' (m89 N n2015 x2027 x2028 p2017 c2029) fun (p2031, c2033) =>
      getT0 p2031 <|
      m88_L0 N n2015 x2016 p2017 n x2028 (IntKind.i64.wrap (x2028 + 20)) c2033) (
      some (x2027, c2029))
def m88_L2 (N : Nat) (n2015 : Nat) (x2016 : Int) (p2017 : PV) (c2039 : List PV) (x2041 : Int) : Nat → Int → Int → Option (Int)
  | 0, _, _ => none
  | n + 1, x2043, x2044 =>
    brn (decide (x2044 ≤ x2016)) (
      none) (
      some x2043)
def m88_L1 (N : Nat) (n2015 : Nat) (x2016 : Int) (p2017 : PV) (c2039 : List PV) : Nat → Int → Option (Unit)
  | 0, _ => none
  | n + 1, x2041 =>
    brn (decide (x2041 < x2016)) (
      bnd' (m88_L2 N n2015 x2016 p2017 c2039 x2041 N 0 (IntKind.i64.wrap (2 * x2041))) fun x2046 =>
      brn (decide ((IntKind.i64.wrap (x2046 + x2041)) < x2016)) (
        none) (
        m88_L1 N n2015 x2016 p2017 c2039 n (IntKind.i64.wrap (x2041 * 2)))) (
      some ())
def m88 (N : Nat) (n2015 : Nat) (x2016 : Int) (p2017 : PV) (c2018 : List PV) : Option ((PV × List PV)) :=
  bnd' (m88_L0 N n2015 x2016 p2017 N 0 20 c2018) fun o =>
  match o with
  | (x2035, c2036) =>
    bnd' (m89 N n2015 x2035 x2016 p2017 c2036) fun (p2037, c2039) =>
    getT0 p2037 <|
    bnd' (m88_L1 N n2015 x2016 p2017 c2039 N 20) fun _ =>
    some ((.tup []), c2039)
theorem c88 (N : Nat) (n2015 : Nat) (x2016 : Int) (p2017 : PV) (c2018 : List PV) (r : PV) (c2049 : List PV) (h : m88 N n2015 x2016 p2017 c2018 = some (r, c2049)) : V.Fn Try.prog 88 2 [.sl false 0 0 n2015 1, .v (.int .i64 x2016), .fn 84 [.ptr 1 0, .v (.ipt [p2017])]] [(0, .p c2018), (1, .p [(.fn 81 []), (.fn 82 [])])] (fun d ob' => d = .v r ∧ ob' = [(0, .p c2049), (1, .p [(.fn 81 []), (.fn 82 [])])]) := by
  unfold m88 at h
  refine Fn_of (sz := 63) tab_ok [0, 1, 2, 6, 7, 8, 9, 13, 30, 35, 54] [] Try.func88 rfl rfl rfl (by simp) ?_
  simp only [initSt, initEnv, List.map_cons, List.map_nil, List.getD_cons_zero, List.getD_cons_succ, List.getD_nil]
  refine W_sound tab_ok mixed 11 _ _ _ ?_
  simp -implicitDefEqProofs only [go_sem, ne_eq, not_false_eq_true, Nat.reduceBEq, Nat.reduceAdd, Nat.reduceSub, Nat.reduceMul, Nat.reduceLT, Nat.reduceLeDiff, Int.reduceLE, Int.reduceLT, Int.reduceToNat, Int.reduceBEq, Int.reduceBNe, Int.le_refl, Nat.le_refl, decide_true, decide_false, Int.cast_ofNat_Int, ↓reduceIte]
  repeat with_reducible refine And.intro (by first | kernel_rfl | decide) ?_
  have hh := bnd'_some h; clear h; obtain ⟨o2050, h2051, h2052⟩ := hh
  refine Wp_cut (fun s => ∃ x2035, ∃ c2036, (x2035, c2036) = o2050 ∧ s = ⟨[], [(0, .sl false 0 0 n2015 1), (1, .v (.int .i64 x2016)), (2, .fn 84 [.ptr 1 0, .v (.ipt [p2017])]), (6, .v (.int .i64 20)), (7, .v (.int .i64 x2035)), (8, .dead), (9, .dead), (13, .dead), (30, .dead), (35, .dead), (54, .dead)], [(0, .p c2036), (1, .p [(.fn 81 []), (.fn 82 [])])], 2, []⟩) ?_ ?_
  · refine Wp_block ?_
    refine Wp_loopG (fun n s => ∃ x2027, ∃ x2028, ∃ c2029, m88_L0 N n2015 x2016 p2017 n x2027 x2028 c2029 = some o2050 ∧ s = ⟨[], [(0, .sl false 0 0 n2015 1), (1, .v (.int .i64 x2016)), (2, .fn 84 [.ptr 1 0, .v (.ipt [p2017])]), (6, .v (.int .i64 20)), (7, .v (.int .i64 x2027)), (8, .v (.int .i64 x2028)), (9, .dead), (13, .dead), (30, .dead), (35, .dead), (54, .dead)], [(0, .p c2029), (1, .p [(.fn 81 []), (.fn 82 [])])], 2, []⟩) N _ ((Wk_le (.cons _ _ _ _ _ (.refl _) (.cons _ _ _ _ _ (.refl _) (.cons _ _ _ _ _ (.refl _) (.cons _ _ _ _ _ (.refl _) (.cons _ _ _ _ _ (.refl _) (.cons _ _ _ _ _ (.refl _) (.cons _ _ _ _ _ (.refl _) (.cons _ _ _ _ _ (.refl _) (.cons _ _ _ _ _ (.refl _) (.cons _ _ _ _ _ (.refl _) (.cons _ _ _ _ _ (.refl _) .nil))))))))))) (OLe.refl _)).trans (cmpS_ok rfl)) ⟨_, _, _, h2051, rfl⟩ ?_
    clear h2051
    rintro n _ ⟨x2027, x2028, c2029, h2051, rfl⟩
    cases n with
    | zero => cases h2051
    | succ n =>
      rw [m88_L0] at h2051
      have hh := brn_some h2051; clear h2051; rcases hh with ⟨h2030, h2051⟩ | ⟨h2030, h2051⟩
      · have hh := bnd'_some h2051; clear h2051; obtain ⟨⟨p2031, c2033⟩, h2032, h2051⟩ := hh
        (try dsimp only at h2051)
        refine W_sound tab_ok mixed 16 _ _ _ ?_
        simp -implicitDefEqProofs only [go_sem, ne_eq, not_false_eq_true, Nat.reduceBEq, Nat.reduceAdd, Nat.reduceSub, Nat.reduceMul, Nat.reduceLT, Nat.reduceLeDiff, Int.reduceLE, Int.reduceLT, Int.reduceToNat, Int.reduceBEq, Int.reduceBNe, Int.le_refl, Nat.le_refl, decide_true, decide_false, Int.cast_ofNat_Int, ↓reduceIte, h2030]
        repeat with_reducible refine And.intro (by first | kernel_rfl | decide) ?_
        refine Wp_callD [0, 1] (c89 N _ _ _ _ _ _ _ h2032) rfl rfl rfl (by first | rfl | (simp only [go_sem, ne_eq, not_false_eq_true, Nat.reduceBEq, Nat.reduceAdd, Nat.reduceSub, Nat.reduceMul, Nat.reduceLT, Nat.reduceLeDiff, Int.reduceLE, Int.reduceLT, Int.reduceToNat, Int.reduceBEq, Int.reduceBNe, Int.le_refl, Nat.le_refl, decide_true, decide_false, Int.cast_ofNat_Int, ↓reduceIte, h2030] <;> rfl)) rfl (by kernel_rfl) ?_
        have hh := getT0_some h2051; clear h2051; obtain ⟨h2034, h2051⟩ := hh
        refine W_sound tab_ok mixed 13 _ _ _ ?_
        simp -implicitDefEqProofs only [go_sem, ne_eq, not_false_eq_true, Nat.reduceBEq, Nat.reduceAdd, Nat.reduceSub, Nat.reduceMul, Nat.reduceLT, Nat.reduceLeDiff, Int.reduceLE, Int.reduceLT, Int.reduceToNat, Int.reduceBEq, Int.reduceBNe, Int.le_refl, Nat.le_refl, decide_true, decide_false, Int.cast_ofNat_Int, ↓reduceIte, h2030, h2034]
        repeat with_reducible refine And.intro (by first | kernel_rfl | decide) ?_
        exact cutQ _ ((Wk_le (.cons _ _ _ _ _ (.refl _) (.cons _ _ _ _ _ (.refl _) (.cons _ _ _ _ _ (.refl _) (.cons _ _ _ _ _ (.refl _) (.cons _ _ _ _ _ (.refl _) (.cons _ _ _ _ _ (.refl _) (.cons _ _ _ _ _ (.refl _) (.cons _ _ _ _ _ (.dead _) (.cons _ _ _ _ _ (.refl _) (.cons _ _ _ _ _ (.refl _) (.cons _ _ _ _ _ (.refl _) .nil))))))))))) (OLe.refl _)).trans (cmpS_ok rfl)) ⟨n, Nat.lt_succ_self n, _, _, _, h2051, rfl⟩
      · refine W_sound tab_ok mixed 9 _ _ _ ?_
        simp -implicitDefEqProofs only [go_sem, ne_eq, not_false_eq_true, Nat.reduceBEq, Nat.reduceAdd, Nat.reduceSub, Nat.reduceMul, Nat.reduceLT, Nat.reduceLeDiff, Int.reduceLE, Int.reduceLT, Int.reduceToNat, Int.reduceBEq, Int.reduceBNe, Int.le_refl, Nat.le_refl, decide_true, decide_false, Int.cast_ofNat_Int, ↓reduceIte, h2030]
        repeat with_reducible refine And.intro (by first | kernel_rfl | decide) ?_
        obtain rfl := Option.some.inj h2051
        exact cutQ _ ((Wk_le (.cons _ _ _ _ _ (.refl _) (.cons _ _ _ _ _ (.refl _) (.cons _ _ _ _ _ (.refl _) (.cons _ _ _ _ _ (.refl _) (.cons _ _ _ _ _ (.refl _) (.cons _ _ _ _ _ (.dead _) (.cons _ _ _ _ _ (.refl _) (.cons _ _ _ _ _ (.dead _) (.cons _ _ _ _ _ (.refl _) (.cons _ _ _ _ _ (.refl _) (.cons _ _ _ _ _ (.refl _) .nil))))))))))) (OLe.refl _)).trans (cmpS_ok rfl)) ⟨_, _, rfl, rfl⟩
  · rintro _ ⟨x2035, c2036, rfl, rfl⟩
    (try dsimp only at h2052)
    have hh := bnd'_some h2052; clear h2052; obtain ⟨⟨p2037, c2039⟩, h2038, h2052⟩ := hh
    (try dsimp only at h2052)
    refine W_sound tab_ok mixed 6 _ _ _ ?_
    simp -implicitDefEqProofs only [go_sem, ne_eq, not_false_eq_true, Nat.reduceBEq, Nat.reduceAdd, Nat.reduceSub, Nat.reduceMul, Nat.reduceLT, Nat.reduceLeDiff, Int.reduceLE, Int.reduceLT, Int.reduceToNat, Int.reduceBEq, Int.reduceBNe, Int.le_refl, Nat.le_refl, decide_true, decide_false, Int.cast_ofNat_Int, ↓reduceIte]
    repeat with_reducible refine And.intro (by first | kernel_rfl | decide) ?_
    refine Wp_callD [0, 1] (c89 N _ _ _ _ _ _ _ h2038) rfl rfl rfl (by first | rfl | (simp only [go_sem, ne_eq, not_false_eq_true, Nat.reduceBEq, Nat.reduceAdd, Nat.reduceSub, Nat.reduceMul, Nat.reduceLT, Nat.reduceLeDiff, Int.reduceLE, Int.reduceLT, Int.reduceToNat, Int.reduceBEq, Int.reduceBNe, Int.le_refl, Nat.le_refl, decide_true, decide_false, Int.cast_ofNat_Int, ↓reduceIte] <;> rfl)) rfl (by kernel_rfl) ?_
    have hh := getT0_some h2052; clear h2052; obtain ⟨h2040, h2052⟩ := hh
    refine W_sound tab_ok mixed 1 _ _ _ ?_
    simp -implicitDefEqProofs only [go_sem, ne_eq, not_false_eq_true, Nat.reduceBEq, Nat.reduceAdd, Nat.reduceSub, Nat.reduceMul, Nat.reduceLT, Nat.reduceLeDiff, Int.reduceLE, Int.reduceLT, Int.reduceToNat, Int.reduceBEq, Int.reduceBNe, Int.le_refl, Nat.le_refl, decide_true, decide_false, Int.cast_ofNat_Int, ↓reduceIte, h2040]
    repeat with_reducible refine And.intro (by first | kernel_rfl | decide) ?_
    have hh := bnd'_some h2052; clear h2052; obtain ⟨o2053, h2054, h2055⟩ := hh
    refine Wp_cut (fun s => () = o2053 ∧ s = ⟨[], [(0, .dead), (1, .dead), (2, .dead), (6, .dead), (7, .dead), (8, .dead), (9, .dead), (13, .dead), (30, .dead), (35, .dead), (54, .dead)], [(0, .p c2039), (1, .p [(.fn 81 []), (.fn 82 [])])], 2, []⟩) ?_ ?_
    · refine Wp_block ?_
      refine Wp_loopG (fun n s => ∃ x2041, m88_L1 N n2015 x2016 p2017 c2039 n x2041 = some o2053 ∧ s = ⟨[], [(0, .sl false 0 0 n2015 1), (1, .v (.int .i64 x2016)), (2, .fn 84 [.ptr 1 0, .v (.ipt [p2017])]), (6, .v (.int .i64 x2041)), (7, .dead), (8, .dead), (9, .dead), (13, .dead), (30, .dead), (35, .dead), (54, .dead)], [(0, .p c2039), (1, .p [(.fn 81 []), (.fn 82 [])])], 2, []⟩) N _ ((Wk_le (.cons _ _ _ _ _ (.refl _) (.cons _ _ _ _ _ (.refl _) (.cons _ _ _ _ _ (.refl _) (.cons _ _ _ _ _ (.refl _) (.cons _ _ _ _ _ (.dead _) (.cons _ _ _ _ _ (.refl _) (.cons _ _ _ _ _ (.refl _) (.cons _ _ _ _ _ (.refl _) (.cons _ _ _ _ _ (.refl _) (.cons _ _ _ _ _ (.refl _) (.cons _ _ _ _ _ (.refl _) .nil))))))))))) (OLe.refl _)).trans (cmpS_ok rfl)) ⟨_, h2054, rfl⟩ ?_
      clear h2054
      rintro n _ ⟨x2041, h2054, rfl⟩
      cases n with
      | zero => cases h2054
      | succ n =>
        rw [m88_L1] at h2054
        have hh := brn_some h2054; clear h2054; rcases hh with ⟨h2042, h2054⟩ | ⟨h2042, h2054⟩
        · refine W_sound tab_ok mixed 18 _ _ _ ?_
          simp -implicitDefEqProofs only [go_sem, ne_eq, not_false_eq_true, Nat.reduceBEq, Nat.reduceAdd, Nat.reduceSub, Nat.reduceMul, Nat.reduceLT, Nat.reduceLeDiff, Int.reduceLE, Int.reduceLT, Int.reduceToNat, Int.reduceBEq, Int.reduceBNe, Int.le_refl, Nat.le_refl, decide_true, decide_false, Int.cast_ofNat_Int, ↓reduceIte, h2040, h2042]
          repeat with_reducible refine And.intro (by first | kernel_rfl | decide) ?_
          have hh := bnd'_some h2054; clear h2054; obtain ⟨o2056, h2057, h2058⟩ := hh
          refine Wp_cut (fun s => ∃ x2046, x2046 = o2056 ∧ s = ⟨[], [(0, .sl false 0 0 n2015 1), (1, .v (.int .i64 x2016)), (2, .fn 84 [.ptr 1 0, .v (.ipt [p2017])]), (6, .v (.int .i64 x2041)), (7, .v (.int .i64 x2046)), (8, .dead), (9, .dead), (13, .dead), (30, .dead), (35, .dead), (54, .dead)], [(0, .p c2039), (1, .p [(.fn 81 []), (.fn 82 [])])], 2, []⟩) ?_ ?_
          · refine Wp_block ?_
            refine Wp_loopG (fun n s => ∃ x2043, ∃ x2044, m88_L2 N n2015 x2016 p2017 c2039 x2041 n x2043 x2044 = some o2056 ∧ s = ⟨[], [(0, .sl false 0 0 n2015 1), (1, .v (.int .i64 x2016)), (2, .fn 84 [.ptr 1 0, .v (.ipt [p2017])]), (6, .v (.int .i64 x2041)), (7, .v (.int .i64 x2043)), (8, .v (.int .i64 x2044)), (9, .dead), (13, .dead), (30, .dead), (35, .dead), (54, .dead)], [(0, .p c2039), (1, .p [(.fn 81 []), (.fn 82 [])])], 2, []⟩) N _ ((Wk_le (.cons _ _ _ _ _ (.refl _) (.cons _ _ _ _ _ (.refl _) (.cons _ _ _ _ _ (.refl _) (.cons _ _ _ _ _ (.refl _) (.cons _ _ _ _ _ (.refl _) (.cons _ _ _ _ _ (.refl _) (.cons _ _ _ _ _ (.refl _) (.cons _ _ _ _ _ (.refl _) (.cons _ _ _ _ _ (.dead _) (.cons _ _ _ _ _ (.refl _) (.cons _ _ _ _ _ (.refl _) .nil))))))))))) (OLe.refl _)).trans (cmpS_ok rfl)) ⟨_, _, h2057, rfl⟩ ?_
            clear h2057
            rintro n _ ⟨x2043, x2044, h2057, rfl⟩
            cases n with
            | zero => cases h2057
            | succ n =>
              rw [m88_L2] at h2057
              have hh := brn_some h2057; clear h2057; rcases hh with ⟨h2045, h2057⟩ | ⟨h2045, h2057⟩
              · cases h2057
              · refine W_sound tab_ok mixed 9 _ _ _ ?_
                simp -implicitDefEqProofs only [go_sem, ne_eq, not_false_eq_true, Nat.reduceBEq, Nat.reduceAdd, Nat.reduceSub, Nat.reduceMul, Nat.reduceLT, Nat.reduceLeDiff, Int.reduceLE, Int.reduceLT, Int.reduceToNat, Int.reduceBEq, Int.reduceBNe, Int.le_refl, Nat.le_refl, decide_true, decide_false, Int.cast_ofNat_Int, ↓reduceIte, h2040, h2042, h2045]
                repeat with_reducible refine And.intro (by first | kernel_rfl | decide) ?_
                obtain rfl := Option.some.inj h2057
                exact cutQ _ ((Wk_le (.cons _ _ _ _ _ (.refl _) (.cons _ _ _ _ _ (.refl _) (.cons _ _ _ _ _ (.refl _) (.cons _ _ _ _ _ (.refl _) (.cons _ _ _ _ _ (.refl _) (.cons _ _ _ _ _ (.dead _) (.cons _ _ _ _ _ (.refl _) (.cons _ _ _ _ _ (.refl _) (.cons _ _ _ _ _ (.refl _) (.cons _ _ _ _ _ (.dead _) (.cons _ _ _ _ _ (.refl _) .nil))))))))))) (OLe.refl _)).trans (cmpS_ok rfl)) ⟨_, rfl, rfl⟩
          · rintro _ ⟨x2046, rfl, rfl⟩
            have hh := brn_some h2058; clear h2058; rcases hh with ⟨h2047, h2058⟩ | ⟨h2047, h2058⟩
            · cases h2058
            · refine W_sound tab_ok mixed 22 _ _ _ ?_
              simp -implicitDefEqProofs only [go_sem, ne_eq, not_false_eq_true, Nat.reduceBEq, Nat.reduceAdd, Nat.reduceSub, Nat.reduceMul, Nat.reduceLT, Nat.reduceLeDiff, Int.reduceLE, Int.reduceLT, Int.reduceToNat, Int.reduceBEq, Int.reduceBNe, Int.le_refl, Nat.le_refl, decide_true, decide_false, Int.cast_ofNat_Int, ↓reduceIte, h2040, h2042, h2047]
              repeat with_reducible refine And.intro (by first | kernel_rfl | decide) ?_
              exact cutQ _ ((Wk_le (.cons _ _ _ _ _ (.refl _) (.cons _ _ _ _ _ (.refl _) (.cons _ _ _ _ _ (.refl _) (.cons _ _ _ _ _ (.refl _) (.cons _ _ _ _ _ (.dead _) (.cons _ _ _ _ _ (.refl _) (.cons _ _ _ _ _ (.dead _) (.cons _ _ _ _ _ (.refl _) (.cons _ _ _ _ _ (.refl _) (.cons _ _ _ _ _ (.refl _) (.cons _ _ _ _ _ (.dead _) .nil))))))))))) (OLe.refl _)).trans (cmpS_ok rfl)) ⟨n, Nat.lt_succ_self n, _, h2058, rfl⟩
        · refine W_sound tab_ok mixed 9 _ _ _ ?_
          simp -implicitDefEqProofs only [go_sem, ne_eq, not_false_eq_true, Nat.reduceBEq, Nat.reduceAdd, Nat.reduceSub, Nat.reduceMul, Nat.reduceLT, Nat.reduceLeDiff, Int.reduceLE, Int.reduceLT, Int.reduceToNat, Int.reduceBEq, Int.reduceBNe, Int.le_refl, Nat.le_refl, decide_true, decide_false, Int.cast_ofNat_Int, ↓reduceIte, h2040, h2042]
          repeat with_reducible refine And.intro (by first | kernel_rfl | decide) ?_
          obtain rfl := Option.some.inj h2054
          exact cutQ _ ((Wk_le (.cons _ _ _ _ _ (.dead _) (.cons _ _ _ _ _ (.dead _) (.cons _ _ _ _ _ (.dead _) (.cons _ _ _ _ _ (.dead _) (.cons _ _ _ _ _ (.refl _) (.cons _ _ _ _ _ (.refl _) (.cons _ _ _ _ _ (.refl _) (.cons _ _ _ _ _ (.refl _) (.cons _ _ _ _ _ (.dead _) (.cons _ _ _ _ _ (.refl _) (.cons _ _ _ _ _ (.refl _) .nil))))))))))) (OLe.refl _)).trans (cmpS_ok rfl)) (by first | exact ⟨rfl, rfl⟩ | exact rfl)
    · rintro _ ⟨rfl, rfl⟩
      (try dsimp only at h2055)
      refine W_sound tab_ok mixed 1 _ _ _ ?_
      simp -implicitDefEqProofs only [go_sem, ne_eq, not_false_eq_true, Nat.reduceBEq, Nat.reduceAdd, Nat.reduceSub, Nat.reduceMul, Nat.reduceLT, Nat.reduceLeDiff, Int.reduceLE, Int.reduceLT, Int.reduceToNat, Int.reduceBEq, Int.reduceBNe, Int.le_refl, Nat.le_refl, decide_true, decide_false, Int.cast_ofNat_Int, ↓reduceIte, h2040]
      repeat with_reducible refine And.intro (by first | kernel_rfl | decide) ?_
      simp only [Option.some.injEq, Prod.mk.injEq] at h2055; obtain ⟨rfl, rfl⟩ := h2055
      exact finD (e2 := [(0, .dead), (1, .dead), (2, .dead), (6, .dead), (7, .dead), (8, .dead), (9, .dead), (13, .dead), (30, .dead), (35, .dead), (54, .dead)]) (ob2 := [(0, .p c2039), (1, .p [(.fn 81 []), (.fn 82 [])])]) (st' := ⟨[], [(0, .dead), (1, .dead), (2, .dead), (6, .dead), (7, .dead), (8, .dead), (9, .dead), (13, .dead), (30, .dead), (35, .dead), (54, .dead)], [(0, .p c2039), (1, .p [(.fn 81 []), (.fn 82 [])])], 2, []⟩) (.cons _ _ _ _ _ (.refl _) (.cons _ _ _ _ _ (.refl _) (.cons _ _ _ _ _ (.refl _) (.cons _ _ _ _ _ (.refl _) (.cons _ _ _ _ _ (.refl _) (.cons _ _ _ _ _ (.refl _) (.cons _ _ _ _ _ (.refl _) (.cons _ _ _ _ _ (.refl _) (.cons _ _ _ _ _ (.refl _) (.cons _ _ _ _ _ (.refl _) (.cons _ _ _ _ _ (.refl _) .nil))))))))))) (.cons _ _ _ _ _ (DLes.refl _) (.cons _ _ _ _ _ (DLes.refl _) .nil)) (by kernel_rfl) (by simp only [go_sem, ne_eq, not_false_eq_true, Nat.reduceBEq, Nat.reduceAdd, Nat.reduceSub, Nat.reduceMul, Nat.reduceLT, Nat.reduceLeDiff, Int.reduceLE, Int.reduceLT, Int.reduceToNat, Int.reduceBEq, Int.reduceBNe, Int.le_refl, Nat.le_refl, decide_true, decide_false, Int.cast_ofNat_Int, ↓reduceIte, resQ_tmp, resQ_cell, resQ_nil, retD_one, retD_two, retD_three, retD_none]; try simp [R.val, retD_one, retD_two, retD_three, retD_none])

def m83 (N : Nat) (n2064 : Nat) (p2065 : PV) (c2066 : List PV) : Option ((PV × List PV)) :=
  bnd' (m88 N n2064 ((n2064 : Nat) : Int) p2065 c2066) fun (p2068, c2070) =>
  getT0 p2068 <|
  some ((.tup []), c2070)
theorem c83 (N : Nat) (n2064 : Nat) (p2065 : PV) (c2066 : List PV) (r : PV) (c2073 : List PV) (h : m83 N n2064 p2065 c2066 = some (r, c2073)) : V.Fn Try.prog 83 2 [.sl false 0 0 n2064 1, .fn 84 [.ptr 1 0, .v (.ipt [p2065])]] [(0, .p c2066), (1, .p [(.fn 81 []), (.fn 82 [])])] (fun d ob' => d = .v r ∧ ob' = [(0, .p c2073), (1, .p [(.fn 81 []), (.fn 82 [])])]) := by
  unfold m83 at h
  refine Fn_of (sz := 9) tab_ok [0, 1] [] Try.func83 rfl rfl rfl (by simp) ?_
  simp only [initSt, initEnv, List.map_cons, List.map_nil, List.getD_cons_zero, List.getD_cons_succ, List.getD_nil]
  have hh := bnd'_some h; clear h; obtain ⟨⟨p2068, c2070⟩, h2069, h⟩ := hh
  (try dsimp only at h)
  refine W_sound tab_ok mixed 5 _ _ _ ?_
  simp -implicitDefEqProofs only [go_sem, ne_eq, not_false_eq_true, Nat.reduceBEq, Nat.reduceAdd, Nat.reduceSub, Nat.reduceMul, Nat.reduceLT, Nat.reduceLeDiff, Int.reduceLE, Int.reduceLT, Int.reduceToNat, Int.reduceBEq, Int.reduceBNe, Int.le_refl, Nat.le_refl, decide_true, decide_false, Int.cast_ofNat_Int, ↓reduceIte]
  repeat with_reducible refine And.intro (by first | kernel_rfl | decide) ?_
  refine Wp_callD [0, 1] (c88 N _ _ _ _ _ _ h2069) rfl rfl rfl (by first | rfl | (simp only [go_sem, ne_eq, not_false_eq_true, Nat.reduceBEq, Nat.reduceAdd, Nat.reduceSub, Nat.reduceMul, Nat.reduceLT, Nat.reduceLeDiff, Int.reduceLE, Int.reduceLT, Int.reduceToNat, Int.reduceBEq, Int.reduceBNe, Int.le_refl, Nat.le_refl, decide_true, decide_false, Int.cast_ofNat_Int, ↓reduceIte] <;> rfl)) rfl (by kernel_rfl) ?_
  have hh := getT0_some h; clear h; obtain ⟨h2071, h⟩ := hh
  refine W_sound tab_ok mixed 2 _ _ _ ?_
  simp -implicitDefEqProofs only [go_sem, ne_eq, not_false_eq_true, Nat.reduceBEq, Nat.reduceAdd, Nat.reduceSub, Nat.reduceMul, Nat.reduceLT, Nat.reduceLeDiff, Int.reduceLE, Int.reduceLT, Int.reduceToNat, Int.reduceBEq, Int.reduceBNe, Int.le_refl, Nat.le_refl, decide_true, decide_false, Int.cast_ofNat_Int, ↓reduceIte, h2071]
  repeat with_reducible refine And.intro (by first | kernel_rfl | decide) ?_
  simp only [Option.some.injEq, Prod.mk.injEq] at h; obtain ⟨rfl, rfl⟩ := h
  exact finD (e2 := [(0, .dead), (1, .dead)]) (ob2 := [(1, .p [(.fn 81 []), (.fn 82 [])]), (0, .p c2070)]) (st' := ⟨[], [(0, .dead), (1, .dead)], [(0, .p c2070), (1, .p [(.fn 81 []), (.fn 82 [])])], 2, []⟩) (.cons _ _ _ _ _ (.dead _) (.cons _ _ _ _ _ (.dead _) .nil)) (.cons _ _ _ _ _ (DLes.refl _) (.cons _ _ _ _ _ (DLes.refl _) .nil)) (by kernel_rfl) (by simp only [go_sem, ne_eq, not_false_eq_true, Nat.reduceBEq, Nat.reduceAdd, Nat.reduceSub, Nat.reduceMul, Nat.reduceLT, Nat.reduceLeDiff, Int.reduceLE, Int.reduceLT, Int.reduceToNat, Int.reduceBEq, Int.reduceBNe, Int.le_refl, Nat.le_refl, decide_true, decide_false, Int.cast_ofNat_Int, ↓reduceIte, resQ_tmp, resQ_cell, resQ_nil, retD_one, retD_two, retD_three, retD_none]; try simp [R.val, retD_one, retD_two, retD_three, retD_none])

def m65_L0 (N : Nat) (n1711 : Nat) (c1712 : List PV) : Nat → Int → List PV → Option (List PV)
  | 0, _, _ => none
  | n + 1, x1721, c1722 =>
    brn (decide (x1721 < ((n1711 : Nat) : Int))) (
      grd (0 ≤ x1721 ∧ x1721 < ((n1711 : Nat) : Int)) <|
      grd (((Int.toNat x1721) + 1) ≤ List.length c1722) <|
      m65_L0 N n1711 c1712 n (IntKind.i64.wrap (x1721 + 1)) (List.set c1722 (Int.toNat x1721) (.int .i64 x1721))) (
      some c1722)
def m65_L2 (N : Nat) (n1711 : Nat) (c1712 : List PV) (c2076 : List PV) (n2139 : Nat) (x2140 : Int) (c2141 : List PV) (x2147 : Int) : Nat → Int → Option (Int)
  | 0, _ => none
  | n + 1, x2165 =>
    brn (decide (x2165 > 1)) (
      grd (0 ≤ (IntKind.i64.wrap (x2165 - 2)) ∧ (IntKind.i64.wrap (x2165 - 2)) < ((n2139 : Nat) : Int)) <|
      grd ((Int.toNat (IntKind.i64.wrap (x2165 - 2))) < List.length c2141) <|
      getI .i64 (gp c2141 (Int.toNat (IntKind.i64.wrap (x2165 - 2)))) fun x2171 =>
      grd (0 ≤ x2171 ∧ x2171 < ((n1711 : Nat) : Int)) <|
      grd (2 ≤ List.length (List.drop ((Int.toNat x2171) * 2) c1712)) <|
      getA2 (.agg (List.take 2 (List.drop ((Int.toNat x2171) * 2) c1712))) fun p2176 p2177 =>
      grd (0 ≤ (IntKind.i64.wrap (x2165 - 1)) ∧ (IntKind.i64.wrap (x2165 - 1)) < ((n2139 : Nat) : Int)) <|
      grd ((Int.toNat (IntKind.i64.wrap (x2165 - 1))) < List.length c2141) <|
      getI .i64 (gp c2141 (Int.toNat (IntKind.i64.wrap (x2165 - 1)))) fun x2182 =>
      grd (0 ≤ x2182 ∧ x2182 < ((n1711 : Nat) : Int)) <|
      grd (2 ≤ List.length (List.drop ((Int.toNat x2182) * 2) c1712)) <|
      getA2 (.agg (List.take 2 (List.drop ((Int.toNat x2182) * 2) c1712))) fun p2187 p2188 =>
      grd (2 ≤ List.length (List.drop ((Int.toNat x2147) * 2) c1712)) <|
      getA2 (.agg (List.take 2 (List.drop ((Int.toNat x2147) * 2) c1712))) fun p2191 p2192 =>
      bnd' (m86 N (.agg [p2176, p2177]) (.agg [p2187, p2188]) (.agg [p2191, p2192])) fun p2193 =>
      getB p2193 fun b2196 =>
      brn b2196 (
        some x2165) (
        m65_L2 N n1711 c1712 c2076 n2139 x2140 c2141 x2147 n (IntKind.i64.wrap (x2165 - 1)))) (
      some x2165)
def m65_L3 (N : Nat) (n1711 : Nat) (c1712 : List PV) (c2076 : List PV) (n2139 : Nat) (x2140 : Int) (c2141 : List PV) (x2147 : Int) : Nat → Int → Option (Int)
  | 0, _ => none
  | n + 1, x2206 =>
    brn (decide (x2206 > 1)) (
      grd (0 ≤ (IntKind.i64.wrap (x2206 - 2)) ∧ (IntKind.i64.wrap (x2206 - 2)) < ((n2139 : Nat) : Int)) <|
      grd ((Int.toNat (IntKind.i64.wrap (x2206 - 2))) < List.length c2141) <|
      getI .i64 (gp c2141 (Int.toNat (IntKind.i64.wrap (x2206 - 2)))) fun x2212 =>
      grd (0 ≤ x2212 ∧ x2212 < ((n1711 : Nat) : Int)) <|
      grd (2 ≤ List.length (List.drop ((Int.toNat x2212) * 2) c1712)) <|
      getA2 (.agg (List.take 2 (List.drop ((Int.toNat x2212) * 2) c1712))) fun p2217 p2218 =>
      grd (0 ≤ (IntKind.i64.wrap (x2206 - 1)) ∧ (IntKind.i64.wrap (x2206 - 1)) < ((n2139 : Nat) : Int)) <|
      grd ((Int.toNat (IntKind.i64.wrap (x2206 - 1))) < List.length c2141) <|
      getI .i64 (gp c2141 (Int.toNat (IntKind.i64.wrap (x2206 - 1)))) fun x2223 =>
      grd (0 ≤ x2223 ∧ x2223 < ((n1711 : Nat) : Int)) <|
      grd (2 ≤ List.length (List.drop ((Int.toNat x2223) * 2) c1712)) <|
      getA2 (.agg (List.take 2 (List.drop ((Int.toNat x2223) * 2) c1712))) fun p2228 p2229 =>
      grd (0 ≤ x2147 ∧ x2147 < ((n1711 : Nat) : Int)) <|
      grd (2 ≤ List.length (List.drop ((Int.toNat x2147) * 2) c1712)) <|
      getA2 (.agg (List.take 2 (List.drop ((Int.toNat x2147) * 2) c1712))) fun p2234 p2235 =>
      bnd' (m86 N (.agg [p2217, p2218]) (.agg [p2228, p2229]) (.agg [p2234, p2235])) fun p2236 =>
      getB p2236 fun b2239 =>
      brn b2239 (
        some x2206) (
        m65_L3 N n1711 c1712 c2076 n2139 x2140 c2141 x2147 n (IntKind.i64.wrap (x2206 - 1)))) (
      some x2206)
def m65_L1 (N : Nat) (n1711 : Nat) (c1712 : List PV) (c2076 : List PV) : Nat → Nat → Int → List PV → Option ((Nat × List PV))
  | 0, _, _, _ => none
  | n + 1, n2139, x2140, c2141 =>
    brn (decide (x2140 < ((n1711 : Nat) : Int))) (
      grd (0 ≤ x2140 ∧ x2140 < ((n1711 : Nat) : Int)) <|
      grd ((Int.toNat x2140) < List.length c2076) <|
      getI .i64 (gp c2076 (Int.toNat x2140)) fun x2147 =>
      brn (decide (((n2139 : Nat) : Int) > 0)) (
        grd (0 ≤ (IntKind.i64.wrap (((n2139 : Nat) : Int) - 1)) ∧ (IntKind.i64.wrap (((n2139 : Nat) : Int) - 1)) < ((n2139 : Nat) : Int)) <|
        grd ((Int.toNat (IntKind.i64.wrap (((n2139 : Nat) : Int) - 1))) < List.length c2141) <|
        getI .i64 (gp c2141 (Int.toNat (IntKind.i64.wrap (((n2139 : Nat) : Int) - 1)))) fun x2153 =>
        grd (0 ≤ x2153 ∧ x2153 < ((n1711 : Nat) : Int)) <|
        grd (0 < List.length (List.drop 1 (List.drop ((Int.toNat x2153) * 2) c1712))) <|
        getI .i64 (gp c1712 (((Int.toNat x2153) * 2) + 1)) fun x2158 =>
        grd (0 ≤ x2147 ∧ x2147 < ((n1711 : Nat) : Int)) <|
        grd (0 < List.length (List.drop 1 (List.drop ((Int.toNat x2147) * 2) c1712))) <|
        getI .i64 (gp c1712 (((Int.toNat x2147) * 2) + 1)) fun x2163 =>
        brn (x2158 == x2163) (
          m65_L1 N n1711 c1712 c2076 n n2139 (IntKind.i64.wrap (x2140 + 1)) c2141) (
          bnd' (m65_L2 N n1711 c1712 c2076 n2139 x2140 c2141 x2147 N ((n2139 : Nat) : Int)) fun x2198 =>
          grd (0 ≤ x2198 ∧ x2198 ≤ ((n2139 : Nat) : Int)) <|
          brn (decide (((Int.toNat x2198) + 1) ≤ (n2139 - 0))) (
            grd (cutG ((Int.toNat x2198) + 1) c2141 ∧ (Int.toNat x2198) ≤ List.length c2141) <|
            m65_L1 N n1711 c1712 c2076 n ((Int.toNat x2198) + 1) (IntKind.i64.wrap (x2140 + 1)) ((List.take (Int.toNat x2198) c2141) ++ [(.int .i64 x2147)])) (
            grd (((Int.toNat x2198) + 1) ≤ 1099511627776 ∧ cutG (Int.toNat x2198) c2141) <|
            m65_L1 N n1711 c1712 c2076 n ((Int.toNat x2198) + 1) (IntKind.i64.wrap (x2140 + 1)) ((List.take (Int.toNat x2198) c2141) ++ [(.int .i64 x2147)])))) (
        bnd' (m65_L3 N n1711 c1712 c2076 n2139 x2140 c2141 x2147 N ((n2139 : Nat) : Int)) fun x2241 =>
        grd (0 ≤ x2241 ∧ x2241 ≤ ((n2139 : Nat) : Int)) <|
        brn (decide (((Int.toNat x2241) + 1) ≤ (n2139 - 0))) (
          grd (cutG ((Int.toNat x2241) + 1) c2141 ∧ (Int.toNat x2241) ≤ List.length c2141) <|
          m65_L1 N n1711 c1712 c2076 n ((Int.toNat x2241) + 1) (IntKind.i64.wrap (x2140 + 1)) ((List.take (Int.toNat x2241) c2141) ++ [(.int .i64 x2147)])) (
          grd (((Int.toNat x2241) + 1) ≤ 1099511627776 ∧ cutG (Int.toNat x2241) c2141) <|
          m65_L1 N n1711 c1712 c2076 n ((Int.toNat x2241) + 1) (IntKind.i64.wrap (x2140 + 1)) ((List.take (Int.toNat x2241) c2141) ++ [(.int .i64 x2147)])))) (
      some (n2139, c2141))
def m65 (N : Nat) (p1709 : PV) : Option (PV) :=
  getL p1709 fun n1711 c1712 =>
  grd (0 ≤ ((n1711 : Nat) : Int) ∧ ((n1711 : Nat) : Int) ≤ ((n1711 : Nat) : Int) ∧ ((n1711 : Nat) : Int) ≤ 1099511627776) <|
  bnd' (m65_L0 N n1711 c1712 N 0 (List.replicate n1711 (.int .i64 0))) fun c1727 =>
  bnd' (m83 N n1711 (.lst false n1711 c1712) c1727) fun (p2074, c2076) =>
  getT0 p2074 <|
  bnd' (m65_L1 N n1711 c1712 c2076 N 0 0 []) fun o =>
  match o with
  | (n2249, c2250) =>
    grd (List.length c2250 = n2249) <|
    some (.lst false n2249 c2250)
theorem c65 (N : Nat) (p1709 : PV) (r : PV)  (h : m65 N p1709 = some r) : FnP Try.prog 65 [p1709] r := by
  unfold m65 at h
  refine Fn_of (sz := 90) tab_ok [0, 1, 2, 3, 4, 5, 6, 8, 9, 15, 16, 17, 27, 28, 29, 30, 53, 79] [.tmp 2] Try.func65 rfl rfl rfl (by simp) ?_
  simp only [initSt, initEnv, List.map_cons, List.map_nil, List.getD_cons_zero, List.getD_cons_succ, List.getD_nil]
  have hh := getL_some h; clear h; obtain ⟨n1711, c1712, h1710, h⟩ := hh
  have hh := grd_some h; clear h; obtain ⟨⟨g1713, g1714, g1715⟩, h⟩ := hh
  refine W_sound tab_ok mixed 25 _ _ _ ?_
  simp -implicitDefEqProofs only [go_sem, ne_eq, not_false_eq_true, Nat.reduceBEq, Nat.reduceAdd, Nat.reduceSub, Nat.reduceMul, Nat.reduceLT, Nat.reduceLeDiff, Int.reduceLE, Int.reduceLT, Int.reduceToNat, Int.reduceBEq, Int.reduceBNe, Int.le_refl, Nat.le_refl, decide_true, decide_false, Int.cast_ofNat_Int, ↓reduceIte, h1710, g1713, g1714, g1715]
  repeat with_reducible refine And.intro (by first | kernel_rfl | decide) ?_
  have hh := bnd'_some h; clear h; obtain ⟨o2252, h2253, h2254⟩ := hh
  refine Wp_cut (fun s => ∃ c1727, c1727 = o2252 ∧ s = ⟨[], [(0, .dead), (1, .ptr 0 0), (2, .dead), (3, .ptr 1 0), (4, .sl false 2 0 n1711 1), (5, .dead), (6, .dead), (8, .dead), (9, .dead), (15, .dead), (16, .dead), (17, .dead), (27, .dead), (28, .dead), (29, .dead), (30, .dead), (53, .dead), (79, .dead)], [(0, .p [(.lst false n1711 c1712)]), (1, .r [.v (.fn 81 []), .v (.fn 82 [])]), (2, .p c1727)], 3, []⟩) ?_ ?_
  · refine Wp_block ?_
    refine Wp_loopG (fun n s => ∃ x1721, ∃ c1722, m65_L0 N n1711 c1712 n x1721 c1722 = some o2252 ∧ s = ⟨[], [(0, .dead), (1, .ptr 0 0), (2, .dead), (3, .ptr 1 0), (4, .sl false 2 0 n1711 1), (5, .dead), (6, .dead), (8, .dead), (9, .dead), (15, .v (.int .i64 ((n1711 : Nat) : Int))), (16, .v (.int .i64 x1721)), (17, .dead), (27, .dead), (28, .dead), (29, .dead), (30, .dead), (53, .dead), (79, .dead)], [(0, .p [(.lst false n1711 c1712)]), (1, .r [.v (.fn 81 []), .v (.fn 82 [])]), (2, .p c1722)], 3, []⟩) N _ ((Wk_le (.cons _ _ _ _ _ (.dead _) (.cons _ _ _ _ _ (.refl _) (.cons _ _ _ _ _ (.dead _) (.cons _ _ _ _ _ (.refl _) (.cons _ _ _ _ _ (.refl _) (.cons _ _ _ _ _ (.refl _) (.cons _ _ _ _ _ (.refl _) (.cons _ _ _ _ _ (.refl _) (.cons _ _ _ _ _ (.refl _) (.cons _ _ _ _ _ (.refl _) (.cons _ _ _ _ _ (.refl _) (.cons _ _ _ _ _ (.refl _) (.cons _ _ _ _ _ (.refl _) (.cons _ _ _ _ _ (.refl _) (.cons _ _ _ _ _ (.refl _) (.cons _ _ _ _ _ (.refl _) (.cons _ _ _ _ _ (.refl _) (.cons _ _ _ _ _ (.refl _) .nil)))))))))))))))))) (OLe.refl _)).trans (cmpS_ok rfl)) ⟨_, _, h2253, rfl⟩ ?_
    clear h2253
    rintro n _ ⟨x1721, c1722, h2253, rfl⟩
    cases n with
    | zero => cases h2253
    | succ n =>
      rw [m65_L0] at h2253
      have hh := brn_some h2253; clear h2253; rcases hh with ⟨h1723, h2253⟩ | ⟨h1723, h2253⟩
      · have hh := grd_some h2253; clear h2253; obtain ⟨⟨g1724, g1725⟩, h2253⟩ := hh
        have hh := grd_some h2253; clear h2253; obtain ⟨g1726, h2253⟩ := hh
        refine W_sound tab_ok mixed 26 _ _ _ ?_
        simp -implicitDefEqProofs only [go_sem, ne_eq, not_false_eq_true, Nat.reduceBEq, Nat.reduceAdd, Nat.reduceSub, Nat.reduceMul, Nat.reduceLT, Nat.reduceLeDiff, Int.reduceLE, Int.reduceLT, Int.reduceToNat, Int.reduceBEq, Int.reduceBNe, Int.le_refl, Nat.le_refl, decide_true, decide_false, Int.cast_ofNat_Int, ↓reduceIte, h1710, g1713, g1714, g1715, h1723, g1724, g1725, g1726]
        repeat with_reducible refine And.intro (by first | kernel_rfl | decide) ?_
        exact cutQ _ ((Wk_le (.cons _ _ _ _ _ (.refl _) (.cons _ _ _ _ _ (.refl _) (.cons _ _ _ _ _ (.refl _) (.cons _ _ _ _ _ (.refl _) (.cons _ _ _ _ _ (.refl _) (.cons _ _ _ _ _ (.dead _) (.cons _ _ _ _ _ (.refl _) (.cons _ _ _ _ _ (.refl _) (.cons _ _ _ _ _ (.refl _) (.cons _ _ _ _ _ (.refl _) (.cons _ _ _ _ _ (.refl _) (.cons _ _ _ _ _ (.dead _) (.cons _ _ _ _ _ (.refl _) (.cons _ _ _ _ _ (.refl _) (.cons _ _ _ _ _ (.refl _) (.cons _ _ _ _ _ (.refl _) (.cons _ _ _ _ _ (.refl _) (.cons _ _ _ _ _ (.refl _) .nil)))))))))))))))))) (OLe.refl _)).trans (cmpS_ok rfl)) ⟨n, Nat.lt_succ_self n, _, _, h2253, rfl⟩
      · refine W_sound tab_ok mixed 7 _ _ _ ?_
        simp -implicitDefEqProofs only [go_sem, ne_eq, not_false_eq_true, Nat.reduceBEq, Nat.reduceAdd, Nat.reduceSub, Nat.reduceMul, Nat.reduceLT, Nat.reduceLeDiff, Int.reduceLE, Int.reduceLT, Int.reduceToNat, Int.reduceBEq, Int.reduceBNe, Int.le_refl, Nat.le_refl, decide_true, decide_false, Int.cast_ofNat_Int, ↓reduceIte, h1710, g1713, g1714, g1715, h1723]
        repeat with_reducible refine And.intro (by first | kernel_rfl | decide) ?_
        obtain rfl := Option.some.inj h2253
        exact cutQ _ ((Wk_le (.cons _ _ _ _ _ (.refl _) (.cons _ _ _ _ _ (.refl _) (.cons _ _ _ _ _ (.refl _) (.cons _ _ _ _ _ (.refl _) (.cons _ _ _ _ _ (.refl _) (.cons _ _ _ _ _ (.refl _) (.cons _ _ _ _ _ (.refl _) (.cons _ _ _ _ _ (.refl _) (.cons _ _ _ _ _ (.refl _) (.cons _ _ _ _ _ (.dead _) (.cons _ _ _ _ _ (.dead _) (.cons _ _ _ _ _ (.dead _) (.cons _ _ _ _ _ (.refl _) (.cons _ _ _ _ _ (.refl _) (.cons _ _ _ _ _ (.refl _) (.cons _ _ _ _ _ (.refl _) (.cons _ _ _ _ _ (.refl _) (.cons _ _ _ _ _ (.refl _) .nil)))))))))))))))))) (OLe.refl _)).trans (cmpS_ok rfl)) ⟨_, rfl, rfl⟩
  · rintro _ ⟨c1727, rfl, rfl⟩
    refine W_sound tab_ok mixed 1 _ _ _ ?_
    simp -implicitDefEqProofs only [go_sem, ne_eq, not_false_eq_true, Nat.reduceBEq, Nat.reduceAdd, Nat.reduceSub, Nat.reduceMul, Nat.reduceLT, Nat.reduceLeDiff, Int.reduceLE, Int.reduceLT, Int.reduceToNat, Int.reduceBEq, Int.reduceBNe, Int.le_refl, Nat.le_refl, decide_true, decide_false, Int.cast_ofNat_Int, ↓reduceIte, h1710, g1713, g1714, g1715]
    repeat with_reducible refine And.intro (by first | kernel_rfl | decide) ?_
    refine Wp_wkK (Wk_freeze 0 [(.lst false n1711 c1712)] (by rfl) (by decide) (by decide)) rfl ?_
    simp -implicitDefEqProofs only [go_sem, ne_eq, not_false_eq_true, Nat.reduceBEq, Nat.reduceAdd, Nat.reduceSub, Nat.reduceMul, Nat.reduceLT, Nat.reduceLeDiff, Int.reduceLE, Int.reduceLT, Int.reduceToNat, Int.reduceBEq, Int.reduceBNe, Int.le_refl, Nat.le_refl, decide_true, decide_false, Int.cast_ofNat_Int, ↓reduceIte, h1710, g1713, g1714, g1715]
    have hh := bnd'_some h2254; clear h2254; obtain ⟨⟨p2074, c2076⟩, h2075, h2254⟩ := hh
    (try dsimp only at h2254)
    refine W_sound tab_ok mixed 3 _ _ _ ?_
    simp -implicitDefEqProofs only [go_sem, ne_eq, not_false_eq_true, Nat.reduceBEq, Nat.reduceAdd, Nat.reduceSub, Nat.reduceMul, Nat.reduceLT, Nat.reduceLeDiff, Int.reduceLE, Int.reduceLT, Int.reduceToNat, Int.reduceBEq, Int.reduceBNe, Int.le_refl, Nat.le_refl, decide_true, decide_false, Int.cast_ofNat_Int, ↓reduceIte, h1710, g1713, g1714, g1715]
    repeat with_reducible refine And.intro (by first | kernel_rfl | decide) ?_
    refine Wp_callD [2, 1] (c83 N _ _ _ _ _ h2075) rfl rfl rfl (by first | rfl | (simp only [go_sem, ne_eq, not_false_eq_true, Nat.reduceBEq, Nat.reduceAdd, Nat.reduceSub, Nat.reduceMul, Nat.reduceLT, Nat.reduceLeDiff, Int.reduceLE, Int.reduceLT, Int.reduceToNat, Int.reduceBEq, Int.reduceBNe, Int.le_refl, Nat.le_refl, decide_true, decide_false, Int.cast_ofNat_Int, ↓reduceIte, h1710, g1713, g1714, g1715] <;> rfl)) rfl (by kernel_rfl) ?_
    have hh := getT0_some h2254; clear h2254; obtain ⟨h2077, h2254⟩ := hh
    refine W_sound tab_ok mixed 12 _ _ _ ?_
    simp -implicitDefEqProofs only [go_sem, ne_eq, not_false_eq_true, Nat.reduceBEq, Nat.reduceAdd, Nat.reduceSub, Nat.reduceMul, Nat.reduceLT, Nat.reduceLeDiff, Int.reduceLE, Int.reduceLT, Int.reduceToNat, Int.reduceBEq, Int.reduceBNe, Int.le_refl, Nat.le_refl, decide_true, decide_false, Int.cast_ofNat_Int, ↓reduceIte, h1710, g1713, g1714, g1715, h2077]
    repeat with_reducible refine And.intro (by first | kernel_rfl | decide) ?_
    refine Wp_weaken (Wk_ownS 6 1 rfl (by decide) (by decide)) ?_
    simp -implicitDefEqProofs only [go_sem, ne_eq, not_false_eq_true, Nat.reduceBEq, Nat.reduceAdd, Nat.reduceSub, Nat.reduceMul, Nat.reduceLT, Nat.reduceLeDiff, Int.reduceLE, Int.reduceLT, Int.reduceToNat, Int.reduceBEq, Int.reduceBNe, Int.le_refl, Nat.le_refl, decide_true, decide_false, Int.cast_ofNat_Int, ↓reduceIte, h1710, g1713, g1714, g1715, h2077]
    have hh := bnd'_some h2254; clear h2254; obtain ⟨o2255, h2256, h2257⟩ := hh
    refine Wp_cut (fun s => ∃ n2249, ∃ c2250, (n2249, c2250) = o2255 ∧ s = ⟨[], [(0, .dead), (1, .dead), (2, .dead), (3, .dead), (4, .dead), (5, .dead), (6, .sl false 0 0 n2249 1), (8, .dead), (9, .dead), (15, .dead), (16, .dead), (17, .dead), (27, .dead), (28, .dead), (29, .dead), (30, .dead), (53, .dead), (79, .dead)], [(0, .p c2250)], 1, []⟩) ?_ ?_
    · refine Wp_block ?_
      refine Wp_loopG (fun n s => ∃ n2139, ∃ x2140, ∃ c2141, m65_L1 N n1711 c1712 c2076 n n2139 x2140 c2141 = some o2255 ∧ s = ⟨[], [(0, .dead), (1, .v (.ipt [(.lst false n1711 c1712)])), (2, .dead), (3, .dead), (4, .dead), (5, .dead), (6, .sl false 0 0 n2139 1), (8, .dead), (9, .dead), (15, .dead), (16, .dead), (17, .dead), (27, .sl false 1 0 n1711 1), (28, .v (.int .i64 ((n1711 : Nat) : Int))), (29, .v (.int .i64 x2140)), (30, .dead), (53, .dead), (79, .dead)], [(0, .p c2141), (1, .p c2076)], 2, []⟩) N _ ((Wk_le (.cons _ _ _ _ _ (.refl _) (.cons _ _ _ _ _ (.refl _) (.cons _ _ _ _ _ (.refl _) (.cons _ _ _ _ _ (.dead _) (.cons _ _ _ _ _ (.dead _) (.cons _ _ _ _ _ (.refl _) (.cons _ _ _ _ _ (.refl _) (.cons _ _ _ _ _ (.refl _) (.cons _ _ _ _ _ (.refl _) (.cons _ _ _ _ _ (.refl _) (.cons _ _ _ _ _ (.refl _) (.cons _ _ _ _ _ (.refl _) (.cons _ _ _ _ _ (.refl _) (.cons _ _ _ _ _ (.refl _) (.cons _ _ _ _ _ (.refl _) (.cons _ _ _ _ _ (.refl _) (.cons _ _ _ _ _ (.refl _) (.cons _ _ _ _ _ (.refl _) .nil)))))))))))))))))) (OLe.refl _)).trans (cmpS_ok rfl)) ⟨_, _, _, h2256, rfl⟩ ?_
      clear h2256
      rintro n _ ⟨n2139, x2140, c2141, h2256, rfl⟩
      cases n with
      | zero => cases h2256
      | succ n =>
        rw [m65_L1] at h2256
        have hh := brn_some h2256; clear h2256; rcases hh with ⟨h2142, h2256⟩ | ⟨h2142, h2256⟩
        · have hh := grd_some h2256; clear h2256; obtain ⟨⟨g2143, g2144⟩, h2256⟩ := hh
          have hh := grd_some h2256; clear h2256; obtain ⟨g2145, h2256⟩ := hh
          have hh := getI_some h2256; clear h2256; obtain ⟨x2147, h2146, h2256⟩ := hh
          have hh := brn_some h2256; clear h2256; rcases hh with ⟨h2148, h2256⟩ | ⟨h2148, h2256⟩
          · have hh := grd_some h2256; clear h2256; obtain ⟨⟨g2149, g2150⟩, h2256⟩ := hh
            have hh := grd_some h2256; clear h2256; obtain ⟨g2151, h2256⟩ := hh
            have hh := getI_some h2256; clear h2256; obtain ⟨x2153, h2152, h2256⟩ := hh
            have hh := grd_some h2256; clear h2256; obtain ⟨⟨g2154, g2155⟩, h2256⟩ := hh
            have hh := grd_some h2256; clear h2256; obtain ⟨g2156, h2256⟩ := hh
            have hh := getI_some h2256; clear h2256; obtain ⟨x2158, h2157, h2256⟩ := hh
            have hh := grd_some h2256; clear h2256; obtain ⟨⟨g2159, g2160⟩, h2256⟩ := hh
            have hh := grd_some h2256; clear h2256; obtain ⟨g2161, h2256⟩ := hh
            have hh := getI_some h2256; clear h2256; obtain ⟨x2163, h2162, h2256⟩ := hh
            have hh := brn_some h2256; clear h2256; rcases hh with ⟨h2164, h2256⟩ | ⟨h2164, h2256⟩
            · refine W_sound tab_ok mixed 50 _ _ _ ?_
              simp -implicitDefEqProofs only [go_sem, ne_eq, not_false_eq_true, Nat.reduceBEq, Nat.reduceAdd, Nat.reduceSub, Nat.reduceMul, Nat.reduceLT, Nat.reduceLeDiff, Int.reduceLE, Int.reduceLT, Int.reduceToNat, Int.reduceBEq, Int.reduceBNe, Int.le_refl, Nat.le_refl, decide_true, decide_false, Int.cast_ofNat_Int, ↓reduceIte, h1710, g1713, g1714, g1715, h2077, h2142, g2143, g2144, g2145, h2146, h2148, g2149, g2150, g2151, h2152, g2154, g2155, g2156, h2157, g2159, g2160, g2161, h2162, h2164]
              repeat with_reducible refine And.intro (by first | kernel_rfl | decide) ?_
              exact cutQ _ ((Wk_le (.cons _ _ _ _ _ (.refl _) (.cons _ _ _ _ _ (.refl _) (.cons _ _ _ _ _ (.refl _) (.cons _ _ _ _ _ (.refl _) (.cons _ _ _ _ _ (.refl _) (.cons _ _ _ _ _ (.refl _) (.cons _ _ _ _ _ (.refl _) (.cons _ _ _ _ _ (.dead _) (.cons _ _ _ _ _ (.dead _) (.cons _ _ _ _ _ (.refl _) (.cons _ _ _ _ _ (.refl _) (.cons _ _ _ _ _ (.refl _) (.cons _ _ _ _ _ (.refl _) (.cons _ _ _ _ _ (.refl _) (.cons _ _ _ _ _ (.refl _) (.cons _ _ _ _ _ (.dead _) (.cons _ _ _ _ _ (.dead _) (.cons _ _ _ _ _ (.refl _) .nil)))))))))))))))))) (OLe.refl _)).trans (cmpS_ok rfl)) ⟨n, Nat.lt_succ_self n, _, _, _, h2256, rfl⟩
            · refine W_sound tab_ok mixed 47 _ _ _ ?_
              simp -implicitDefEqProofs only [go_sem, ne_eq, not_false_eq_true, Nat.reduceBEq, Nat.reduceAdd, Nat.reduceSub, Nat.reduceMul, Nat.reduceLT, Nat.reduceLeDiff, Int.reduceLE, Int.reduceLT, Int.reduceToNat, Int.reduceBEq, Int.reduceBNe, Int.le_refl, Nat.le_refl, decide_true, decide_false, Int.cast_ofNat_Int, ↓reduceIte, h1710, g1713, g1714, g1715, h2077, h2142, g2143, g2144, g2145, h2146, h2148, g2149, g2150, g2151, h2152, g2154, g2155, g2156, h2157, g2159, g2160, g2161, h2162, h2164]
              repeat with_reducible refine And.intro (by first | kernel_rfl | decide) ?_
              have hh := bnd'_some h2256; clear h2256; obtain ⟨o2258, h2259, h2260⟩ := hh
              refine Wp_cut (fun s => ∃ x2198, x2198 = o2258 ∧ s = ⟨[], [(0, .dead), (1, .v (.ipt [(.lst false n1711 c1712)])), (2, .dead), (3, .dead), (4, .dead), (5, .dead), (6, .sl false 0 0 n2139 1), (8, .v (.int .i64 x2147)), (9, .v (.int .i64 x2198)), (15, .dead), (16, .dead), (17, .dead), (27, .sl false 1 0 n1711 1), (28, .v (.int .i64 ((n1711 : Nat) : Int))), (29, .v (.int .i64 x2140)), (30, .dead), (53, .dead), (79, .dead)], [(0, .p c2141), (1, .p c2076)], 2, []⟩) ?_ ?_
              · refine Wp_block ?_
                refine Wp_loopG (fun n s => ∃ x2165, m65_L2 N n1711 c1712 c2076 n2139 x2140 c2141 x2147 n x2165 = some o2258 ∧ s = ⟨[], [(0, .dead), (1, .v (.ipt [(.lst false n1711 c1712)])), (2, .dead), (3, .dead), (4, .dead), (5, .dead), (6, .sl false 0 0 n2139 1), (8, .v (.int .i64 x2147)), (9, .v (.int .i64 x2165)), (15, .dead), (16, .dead), (17, .dead), (27, .sl false 1 0 n1711 1), (28, .v (.int .i64 ((n1711 : Nat) : Int))), (29, .v (.int .i64 x2140)), (30, .dead), (53, .dead), (79, .dead)], [(0, .p c2141), (1, .p c2076)], 2, []⟩) N _ ((Wk_le (.cons _ _ _ _ _ (.refl _) (.cons _ _ _ _ _ (.refl _) (.cons _ _ _ _ _ (.refl _) (.cons _ _ _ _ _ (.refl _) (.cons _ _ _ _ _ (.refl _) (.cons _ _ _ _ _ (.refl _) (.cons _ _ _ _ _ (.refl _) (.cons _ _ _ _ _ (.refl _) (.cons _ _ _ _ _ (.refl _) (.cons _ _ _ _ _ (.refl _) (.cons _ _ _ _ _ (.refl _) (.cons _ _ _ _ _ (.refl _) (.cons _ _ _ _ _ (.refl _) (.cons _ _ _ _ _ (.refl _) (.cons _ _ _ _ _ (.refl _) (.cons _ _ _ _ _ (.dead _) (.cons _ _ _ _ _ (.dead _) (.cons _ _ _ _ _ (.refl _) .nil)))))))))))))))))) (OLe.refl _)).trans (cmpS_ok rfl)) ⟨_, h2259, rfl⟩ ?_
                clear h2259
                rintro n _ ⟨x2165, h2259, rfl⟩
                cases n with
                | zero => cases h2259
                | succ n =>
                  rw [m65_L2] at h2259
                  have hh := brn_some h2259; clear h2259; rcases hh with ⟨h2166, h2259⟩ | ⟨h2166, h2259⟩
                  · have hh := grd_some h2259; clear h2259; obtain ⟨⟨g2167, g2168⟩, h2259⟩ := hh
                    have hh := grd_some h2259; clear h2259; obtain ⟨g2169, h2259⟩ := hh
                    have hh := getI_some h2259; clear h2259; obtain ⟨x2171, h2170, h2259⟩ := hh
                    have hh := grd_some h2259; clear h2259; obtain ⟨⟨g2172, g2173⟩, h2259⟩ := hh
                    have hh := grd_some h2259; clear h2259; obtain ⟨g2174, h2259⟩ := hh
                    have hh := getA2_some h2259; clear h2259; obtain ⟨p2176, p2177, h2175, h2259⟩ := hh
                    injection h2175 with h2175
                    have hh := grd_some h2259; clear h2259; obtain ⟨⟨g2178, g2179⟩, h2259⟩ := hh
                    have hh := grd_some h2259; clear h2259; obtain ⟨g2180, h2259⟩ := hh
                    have hh := getI_some h2259; clear h2259; obtain ⟨x2182, h2181, h2259⟩ := hh
                    have hh := grd_some h2259; clear h2259; obtain ⟨⟨g2183, g2184⟩, h2259⟩ := hh
                    have hh := grd_some h2259; clear h2259; obtain ⟨g2185, h2259⟩ := hh
                    have hh := getA2_some h2259; clear h2259; obtain ⟨p2187, p2188, h2186, h2259⟩ := hh
                    injection h2186 with h2186
                    have hh := grd_some h2259; clear h2259; obtain ⟨g2189, h2259⟩ := hh
                    have hh := getA2_some h2259; clear h2259; obtain ⟨p2191, p2192, h2190, h2259⟩ := hh
                    injection h2190 with h2190
                    have hh := bnd'_some h2259; clear h2259; obtain ⟨p2193, h2194, h2259⟩ := hh
                    refine W_sound tab_ok mixed 26 _ _ _ ?_
                    simp -implicitDefEqProofs only [go_sem, ne_eq, not_false_eq_true, Nat.reduceBEq, Nat.reduceAdd, Nat.reduceSub, Nat.reduceMul, Nat.reduceLT, Nat.reduceLeDiff, Int.reduceLE, Int.reduceLT, Int.reduceToNat, Int.reduceBEq, Int.reduceBNe, Int.le_refl, Nat.le_refl, decide_true, decide_false, Int.cast_ofNat_Int, ↓reduceIte, h1710, g1713, g1714, g1715, h2077, h2142, g2143, g2144, g2145, h2146, h2148, g2149, g2150, g2151, h2152, g2154, g2155, g2156, h2157, g2159, g2160, g2161, h2162, h2164, h2166, g2167, g2168, g2169, h2170, g2172, g2173, g2174, h2175, g2178, g2179, g2180, h2181, g2183, g2184, g2185, h2186, g2189, h2190]
                    repeat with_reducible refine And.intro (by first | kernel_rfl | decide) ?_
                    refine Wp_callP (c86 N _ _ _ _ h2194) (by kernel_rfl) rfl rfl rfl rfl (by decide) ?_
                    have hh := getB_some h2259; clear h2259; obtain ⟨b2196, h2195, h2259⟩ := hh
                    have hh := brn_some h2259; clear h2259; rcases hh with ⟨h2197, h2259⟩ | ⟨h2197, h2259⟩
                    · refine W_sound tab_ok mixed 5 _ _ _ ?_
                      simp -implicitDefEqProofs only [go_sem, ne_eq, not_false_eq_true, Nat.reduceBEq, Nat.reduceAdd, Nat.reduceSub, Nat.reduceMul, Nat.reduceLT, Nat.reduceLeDiff, Int.reduceLE, Int.reduceLT, Int.reduceToNat, Int.reduceBEq, Int.reduceBNe, Int.le_refl, Nat.le_refl, decide_true, decide_false, Int.cast_ofNat_Int, ↓reduceIte, h1710, g1713, g1714, g1715, h2077, h2142, g2143, g2144, g2145, h2146, h2148, g2149, g2150, g2151, h2152, g2154, g2155, g2156, h2157, g2159, g2160, g2161, h2162, h2164, h2166, g2167, g2168, g2169, h2170, g2172, g2173, g2174, h2175, g2178, g2179, g2180, h2181, g2183, g2184, g2185, h2186, g2189, h2190, h2195, h2197]
                      repeat with_reducible refine And.intro (by first | kernel_rfl | decide) ?_
                      obtain rfl := Option.some.inj h2259
                      exact cutQ _ ((Wk_le (.cons _ _ _ _ _ (.refl _) (.cons _ _ _ _ _ (.refl _) (.cons _ _ _ _ _ (.refl _) (.cons _ _ _ _ _ (.refl _) (.cons _ _ _ _ _ (.refl _) (.cons _ _ _ _ _ (.refl _) (.cons _ _ _ _ _ (.refl _) (.cons _ _ _ _ _ (.refl _) (.cons _ _ _ _ _ (.refl _) (.cons _ _ _ _ _ (.refl _) (.cons _ _ _ _ _ (.refl _) (.cons _ _ _ _ _ (.refl _) (.cons _ _ _ _ _ (.refl _) (.cons _ _ _ _ _ (.refl _) (.cons _ _ _ _ _ (.refl _) (.cons _ _ _ _ _ (.refl _) (.cons _ _ _ _ _ (.refl _) (.cons _ _ _ _ _ (.dead _) .nil)))))))))))))))))) (OLe.refl _)).trans (cmpS_ok rfl)) ⟨_, rfl, rfl⟩
                    · refine W_sound tab_ok mixed 14 _ _ _ ?_
                      simp -implicitDefEqProofs only [go_sem, ne_eq, not_false_eq_true, Nat.reduceBEq, Nat.reduceAdd, Nat.reduceSub, Nat.reduceMul, Nat.reduceLT, Nat.reduceLeDiff, Int.reduceLE, Int.reduceLT, Int.reduceToNat, Int.reduceBEq, Int.reduceBNe, Int.le_refl, Nat.le_refl, decide_true, decide_false, Int.cast_ofNat_Int, ↓reduceIte, h1710, g1713, g1714, g1715, h2077, h2142, g2143, g2144, g2145, h2146, h2148, g2149, g2150, g2151, h2152, g2154, g2155, g2156, h2157, g2159, g2160, g2161, h2162, h2164, h2166, g2167, g2168, g2169, h2170, g2172, g2173, g2174, h2175, g2178, g2179, g2180, h2181, g2183, g2184, g2185, h2186, g2189, h2190, h2195, h2197]
                      repeat with_reducible refine And.intro (by first | kernel_rfl | decide) ?_
                      exact cutQ _ ((Wk_le (.cons _ _ _ _ _ (.refl _) (.cons _ _ _ _ _ (.refl _) (.cons _ _ _ _ _ (.refl _) (.cons _ _ _ _ _ (.refl _) (.cons _ _ _ _ _ (.refl _) (.cons _ _ _ _ _ (.refl _) (.cons _ _ _ _ _ (.refl _) (.cons _ _ _ _ _ (.refl _) (.cons _ _ _ _ _ (.refl _) (.cons _ _ _ _ _ (.refl _) (.cons _ _ _ _ _ (.refl _) (.cons _ _ _ _ _ (.refl _) (.cons _ _ _ _ _ (.refl _) (.cons _ _ _ _ _ (.refl _) (.cons _ _ _ _ _ (.refl _) (.cons _ _ _ _ _ (.refl _) (.cons _ _ _ _ _ (.refl _) (.cons _ _ _ _ _ (.dead _) .nil)))))))))))))))))) (OLe.refl _)).trans (cmpS_ok rfl)) ⟨n, Nat.lt_succ_self n, _, h2259, rfl⟩
                  · refine W_sound tab_ok mixed 32 _ _ _ ?_
                    simp -implicitDefEqProofs only [go_sem, ne_eq, not_false_eq_true, Nat.reduceBEq, Nat.reduceAdd, Nat.reduceSub, Nat.reduceMul, Nat.reduceLT, Nat.reduceLeDiff, Int.reduceLE, Int.reduceLT, Int.reduceToNat, Int.reduceBEq, Int.reduceBNe, Int.le_refl, Nat.le_refl, decide_true, decide_false, Int.cast_ofNat_Int, ↓reduceIte, h1710, g1713, g1714, g1715, h2077, h2142, g2143, g2144, g2145, h2146, h2148, g2149, g2150, g2151, h2152, g2154, g2155, g2156, h2157, g2159, g2160, g2161, h2162, h2164, h2166]
                    repeat with_reducible refine And.intro (by first | kernel_rfl | decide) ?_
                    obtain rfl := Option.some.inj h2259
                    exact cutQ _ ((Wk_le (.cons _ _ _ _ _ (.refl _) (.cons _ _ _ _ _ (.refl _) (.cons _ _ _ _ _ (.refl _) (.cons _ _ _ _ _ (.refl _) (.cons _ _ _ _ _ (.refl _) (.cons _ _ _ _ _ (.refl _) (.cons _ _ _ _ _ (.refl _) (.cons _ _ _ _ _ (.refl _) (.cons _ _ _ _ _ (.refl _) (.cons _ _ _ _ _ (.refl _) (.cons _ _ _ _ _ (.refl _) (.cons _ _ _ _ _ (.refl _) (.cons _ _ _ _ _ (.refl _) (.cons _ _ _ _ _ (.refl _) (.cons _ _ _ _ _ (.refl _) (.cons _ _ _ _ _ (.refl _) (.cons _ _ _ _ _ (.refl _) (.cons _ _ _ _ _ (.dead _) .nil)))))))))))))))))) (OLe.refl _)).trans (cmpS_ok rfl)) ⟨_, rfl, rfl⟩
              · rintro _ ⟨x2198, rfl, rfl⟩
                have hh := grd_some h2260; clear h2260; obtain ⟨⟨g2199, g2200⟩, h2260⟩ := hh
                have hh := brn_some h2260; clear h2260; rcases hh with ⟨h2201, h2260⟩ | ⟨h2201, h2260⟩
                · have hh := grd_some h2260; clear h2260; obtain ⟨⟨g2202, g2203⟩, h2260⟩ := hh
                  refine W_sound tab_ok mixed 9 _ _ _ ?_
                  simp -implicitDefEqProofs only [go_sem, ne_eq, not_false_eq_true, Nat.reduceBEq, Nat.reduceAdd, Nat.reduceSub, Nat.reduceMul, Nat.reduceLT, Nat.reduceLeDiff, Int.reduceLE, Int.reduceLT, Int.reduceToNat, Int.reduceBEq, Int.reduceBNe, Int.le_refl, Nat.le_refl, decide_true, decide_false, Int.cast_ofNat_Int, ↓reduceIte, h1710, g1713, g1714, g1715, h2077, h2142, g2143, g2144, g2145, h2146, h2148, g2149, g2150, g2151, h2152, g2154, g2155, g2156, h2157, g2159, g2160, g2161, h2162, h2164, g2199, g2200, h2201, g2202, g2203, cutG_le, extO_cut, set_cut1, normE, trimO]
                  repeat with_reducible refine And.intro (by first | kernel_rfl | decide) ?_
                  refine Wp_wkK Wk_norm rfl ?_
                  simp -implicitDefEqProofs only [go_sem, ne_eq, not_false_eq_true, Nat.reduceBEq, Nat.reduceAdd, Nat.reduceSub, Nat.reduceMul, Nat.reduceLT, Nat.reduceLeDiff, Int.reduceLE, Int.reduceLT, Int.reduceToNat, Int.reduceBEq, Int.reduceBNe, Int.le_refl, Nat.le_refl, decide_true, decide_false, Int.cast_ofNat_Int, ↓reduceIte, normE, h1710, g1713, g1714, g1715, h2077, h2142, g2143, g2144, g2145, h2146, h2148, g2149, g2150, g2151, h2152, g2154, g2155, g2156, h2157, g2159, g2160, g2161, h2162, h2164, g2199, g2200, h2201, g2202, g2203, cutG_le, extO_cut, set_cut1, normE, trimO]
                  refine Wp_wkK (Wk_trim 0 ((Int.toNat x2198) + 1)) rfl ?_
                  simp -implicitDefEqProofs only [go_sem, ne_eq, not_false_eq_true, Nat.reduceBEq, Nat.reduceAdd, Nat.reduceSub, Nat.reduceMul, Nat.reduceLT, Nat.reduceLeDiff, Int.reduceLE, Int.reduceLT, Int.reduceToNat, Int.reduceBEq, Int.reduceBNe, Int.le_refl, Nat.le_refl, decide_true, decide_false, Int.cast_ofNat_Int, ↓reduceIte, trimO, h1710, g1713, g1714, g1715, h2077, h2142, g2143, g2144, g2145, h2146, h2148, g2149, g2150, g2151, h2152, g2154, g2155, g2156, h2157, g2159, g2160, g2161, h2162, h2164, g2199, g2200, h2201, g2202, g2203, cutG_le, extO_cut, set_cut1, normE, trimO]
                  refine W_sound tab_ok mixed 5 _ _ _ ?_
                  simp -implicitDefEqProofs only [go_sem, ne_eq, not_false_eq_true, Nat.reduceBEq, Nat.reduceAdd, Nat.reduceSub, Nat.reduceMul, Nat.reduceLT, Nat.reduceLeDiff, Int.reduceLE, Int.reduceLT, Int.reduceToNat, Int.reduceBEq, Int.reduceBNe, Int.le_refl, Nat.le_refl, decide_true, decide_false, Int.cast_ofNat_Int, ↓reduceIte, h1710, g1713, g1714, g1715, h2077, h2142, g2143, g2144, g2145, h2146, h2148, g2149, g2150, g2151, h2152, g2154, g2155, g2156, h2157, g2159, g2160, g2161, h2162, h2164, g2199, g2200, h2201, g2202, g2203, cutG_le, extO_cut, set_cut1, normE, trimO]
                  repeat with_reducible refine And.intro (by first | kernel_rfl | decide) ?_
                  exact cutQ _ ((Wk_le (.cons _ _ _ _ _ (.refl _) (.cons _ _ _ _ _ (.refl _) (.cons _ _ _ _ _ (.refl _) (.cons _ _ _ _ _ (.refl _) (.cons _ _ _ _ _ (.refl _) (.cons _ _ _ _ _ (.refl _) (.cons _ _ _ _ _ (.refl _) (.cons _ _ _ _ _ (.dead _) (.cons _ _ _ _ _ (.dead _) (.cons _ _ _ _ _ (.refl _) (.cons _ _ _ _ _ (.refl _) (.cons _ _ _ _ _ (.refl _) (.cons _ _ _ _ _ (.refl _) (.cons _ _ _ _ _ (.refl _) (.cons _ _ _ _ _ (.refl _) (.cons _ _ _ _ _ (.refl _) (.cons _ _ _ _ _ (.refl _) (.cons _ _ _ _ _ (.refl _) .nil)))))))))))))))))) (OLe.refl _)).trans (cmpS_ok rfl)) ⟨n, Nat.lt_succ_self n, _, _, _, h2260, rfl⟩
                · have hh := grd_some h2260; clear h2260; obtain ⟨⟨g2204, g2205⟩, h2260⟩ := hh
                  refine W_sound tab_ok mixed 14 _ _ _ ?_
                  simp -implicitDefEqProofs only [go_sem, ne_eq, not_false_eq_true, Nat.reduceBEq, Nat.reduceAdd, Nat.reduceSub, Nat.reduceMul, Nat.reduceLT, Nat.reduceLeDiff, Int.reduceLE, Int.reduceLT, Int.reduceToNat, Int.reduceBEq, Int.reduceBNe, Int.le_refl, Nat.le_refl, decide_true, decide_false, Int.cast_ofNat_Int, ↓reduceIte, h1710, g1713, g1714, g1715, h2077, h2142, g2143, g2144, g2145, h2146, h2148, g2149, g2150, g2151, h2152, g2154, g2155, g2156, h2157, g2159, g2160, g2161, h2162, h2164, g2199, g2200, h2201, g2204, g2205, cut_take, cutG_le]
                  repeat with_reducible refine And.intro (by first | kernel_rfl | decide) ?_
                  exact cutQ _ ((Wk_le (.cons _ _ _ _ _ (.refl _) (.cons _ _ _ _ _ (.refl _) (.cons _ _ _ _ _ (.refl _) (.cons _ _ _ _ _ (.refl _) (.cons _ _ _ _ _ (.refl _) (.cons _ _ _ _ _ (.refl _) (.cons _ _ _ _ _ (.refl _) (.cons _ _ _ _ _ (.dead _) (.cons _ _ _ _ _ (.dead _) (.cons _ _ _ _ _ (.refl _) (.cons _ _ _ _ _ (.refl _) (.cons _ _ _ _ _ (.refl _) (.cons _ _ _ _ _ (.refl _) (.cons _ _ _ _ _ (.refl _) (.cons _ _ _ _ _ (.refl _) (.cons _ _ _ _ _ (.refl _) (.cons _ _ _ _ _ (.refl _) (.cons _ _ _ _ _ (.refl _) .nil)))))))))))))))))) (OLe.refl _)).trans (cmpS_ok rfl)) ⟨n, Nat.lt_succ_self n, _, _, _, h2260, rfl⟩
          · refine W_sound tab_ok mixed 47 _ _ _ ?_
            simp -implicitDefEqProofs only [go_sem, ne_eq, not_false_eq_true, Nat.reduceBEq, Nat.reduceAdd, Nat.reduceSub, Nat.reduceMul, Nat.reduceLT, Nat.reduceLeDiff, Int.reduceLE, Int.reduceLT, Int.reduceToNat, Int.reduceBEq, Int.reduceBNe, Int.le_refl, Nat.le_refl, decide_true, decide_false, Int.cast_ofNat_Int, ↓reduceIte, h1710, g1713, g1714, g1715, h2077, h2142, g2143, g2144, g2145, h2146, h2148]
            repeat with_reducible refine And.intro (by first | kernel_rfl | decide) ?_
            have hh := bnd'_some h2256; clear h2256; obtain ⟨o2261, h2262, h2263⟩ := hh
            refine Wp_cut (fun s => ∃ x2241, x2241 = o2261 ∧ s = ⟨[], [(0, .dead), (1, .v (.ipt [(.lst false n1711 c1712)])), (2, .dead), (3, .dead), (4, .dead), (5, .dead), (6, .sl false 0 0 n2139 1), (8, .v (.int .i64 x2147)), (9, .v (.int .i64 x2241)), (15, .dead), (16, .dead), (17, .dead), (27, .sl false 1 0 n1711 1), (28, .v (.int .i64 ((n1711 : Nat) : Int))), (29, .v (.int .i64 x2140)), (30, .dead), (53, .dead), (79, .dead)], [(0, .p c2141), (1, .p c2076)], 2, []⟩) ?_ ?_
            · refine Wp_block ?_
              refine Wp_loopG (fun n s => ∃ x2206, m65_L3 N n1711 c1712 c2076 n2139 x2140 c2141 x2147 n x2206 = some o2261 ∧ s = ⟨[], [(0, .dead), (1, .v (.ipt [(.lst false n1711 c1712)])), (2, .dead), (3, .dead), (4, .dead), (5, .dead), (6, .sl false 0 0 n2139 1), (8, .v (.int .i64 x2147)), (9, .v (.int .i64 x2206)), (15, .dead), (16, .dead), (17, .dead), (27, .sl false 1 0 n1711 1), (28, .v (.int .i64 ((n1711 : Nat) : Int))), (29, .v (.int .i64 x2140)), (30, .dead), (53, .dead), (79, .dead)], [(0, .p c2141), (1, .p c2076)], 2, []⟩) N _ ((Wk_le (.cons _ _ _ _ _ (.refl _) (.cons _ _ _ _ _ (.refl _) (.cons _ _ _ _ _ (.refl _) (.cons _ _ _ _ _ (.refl _) (.cons _ _ _ _ _ (.refl _) (.cons _ _ _ _ _ (.refl _) (.cons _ _ _ _ _ (.refl _) (.cons _ _ _ _ _ (.refl _) (.cons _ _ _ _ _ (.refl _) (.cons _ _ _ _ _ (.refl _) (.cons _ _ _ _ _ (.refl _) (.cons _ _ _ _ _ (.refl _) (.cons _ _ _ _ _ (.refl _) (.cons _ _ _ _ _ (.refl _) (.cons _ _ _ _ _ (.refl _) (.cons _ _ _ _ _ (.dead _) (.cons _ _ _ _ _ (.dead _) (.cons _ _ _ _ _ (.refl _) .nil)))))))))))))))))) (OLe.refl _)).trans (cmpS_ok rfl)) ⟨_, h2262, rfl⟩ ?_
              clear h2262
              rintro n _ ⟨x2206, h2262, rfl⟩
              cases n with
              | zero => cases h2262
              | succ n =>
                rw [m65_L3] at h2262
                have hh := brn_some h2262; clear h2262; rcases hh with ⟨h2207, h2262⟩ | ⟨h2207, h2262⟩
                · have hh := grd_some h2262; clear h2262; obtain ⟨⟨g2208, g2209⟩, h2262⟩ := hh
                  have hh := grd_some h2262; clear h2262; obtain ⟨g2210, h2262⟩ := hh
                  have hh := getI_some h2262; clear h2262; obtain ⟨x2212, h2211, h2262⟩ := hh
                  have hh := grd_some h2262; clear h2262; obtain ⟨⟨g2213, g2214⟩, h2262⟩ := hh
                  have hh := grd_some h2262; clear h2262; obtain ⟨g2215, h2262⟩ := hh
                  have hh := getA2_some h2262; clear h2262; obtain ⟨p2217, p2218, h2216, h2262⟩ := hh
                  injection h2216 with h2216
                  have hh := grd_some h2262; clear h2262; obtain ⟨⟨g2219, g2220⟩, h2262⟩ := hh
                  have hh := grd_some h2262; clear h2262; obtain ⟨g2221, h2262⟩ := hh
                  have hh := getI_some h2262; clear h2262; obtain ⟨x2223, h2222, h2262⟩ := hh
                  have hh := grd_some h2262; clear h2262; obtain ⟨⟨g2224, g2225⟩, h2262⟩ := hh
                  have hh := grd_some h2262; clear h2262; obtain ⟨g2226, h2262⟩ := hh
                  have hh := getA2_some h2262; clear h2262; obtain ⟨p2228, p2229, h2227, h2262⟩ := hh
                  injection h2227 with h2227
                  have hh := grd_some h2262; clear h2262; obtain ⟨⟨g2230, g2231⟩, h2262⟩ := hh
                  have hh := grd_some h2262; clear h2262; obtain ⟨g2232, h2262⟩ := hh
                  have hh := getA2_some h2262; clear h2262; obtain ⟨p2234, p2235, h2233, h2262⟩ := hh
                  injection h2233 with h2233
                  have hh := bnd'_some h2262; clear h2262; obtain ⟨p2236, h2237, h2262⟩ := hh
                  refine W_sound tab_ok mixed 26 _ _ _ ?_
                  simp -implicitDefEqProofs only [go_sem, ne_eq, not_false_eq_true, Nat.reduceBEq, Nat.reduceAdd, Nat.reduceSub, Nat.reduceMul, Nat.reduceLT, Nat.reduceLeDiff, Int.reduceLE, Int.reduceLT, Int.reduceToNat, Int.reduceBEq, Int.reduceBNe, Int.le_refl, Nat.le_refl, decide_true, decide_false, Int.cast_ofNat_Int, ↓reduceIte, h1710, g1713, g1714, g1715, h2077, h2142, g2143, g2144, g2145, h2146, h2148, h2207, g2208, g2209, g2210, h2211, g2213, g2214, g2215, h2216, g2219, g2220, g2221, h2222, g2224, g2225, g2226, h2227, g2230, g2231, g2232, h2233]
                  repeat with_reducible refine And.intro (by first | kernel_rfl | decide) ?_
                  refine Wp_callP (c86 N _ _ _ _ h2237) (by kernel_rfl) rfl rfl rfl rfl (by decide) ?_
                  have hh := getB_some h2262; clear h2262; obtain ⟨b2239, h2238, h2262⟩ := hh
                  have hh := brn_some h2262; clear h2262; rcases hh with ⟨h2240, h2262⟩ | ⟨h2240, h2262⟩
                  · refine W_sound tab_ok mixed 5 _ _ _ ?_
                    simp -implicitDefEqProofs only [go_sem, ne_eq, not_false_eq_true, Nat.reduceBEq, Nat.reduceAdd, Nat.reduceSub, Nat.reduceMul, Nat.reduceLT, Nat.reduceLeDiff, Int.reduceLE, Int.reduceLT, Int.reduceToNat, Int.reduceBEq, Int.reduceBNe, Int.le_refl, Nat.le_refl, decide_true, decide_false, Int.cast_ofNat_Int, ↓reduceIte, h1710, g1713, g1714, g1715, h2077, h2142, g2143, g2144, g2145, h2146, h2148, h2207, g2208, g2209, g2210, h2211, g2213, g2214, g2215, h2216, g2219, g2220, g2221, h2222, g2224, g2225, g2226, h2227, g2230, g2231, g2232, h2233, h2238, h2240]
                    repeat with_reducible refine And.intro (by first | kernel_rfl | decide) ?_
                    obtain rfl := Option.some.inj h2262
                    exact cutQ _ ((Wk_le (.cons _ _ _ _ _ (.refl _) (.cons _ _ _ _ _ (.refl _) (.cons _ _ _ _ _ (.refl _) (.cons _ _ _ _ _ (.refl _) (.cons _ _ _ _ _ (.refl _) (.cons _ _ _ _ _ (.refl _) (.cons _ _ _ _ _ (.refl _) (.cons _ _ _ _ _ (.refl _) (.cons _ _ _ _ _ (.refl _) (.cons _ _ _ _ _ (.refl _) (.cons _ _ _ _ _ (.refl _) (.cons _ _ _ _ _ (.refl _) (.cons _ _ _ _ _ (.refl _) (.cons _ _ _ _ _ (.refl _) (.cons _ _ _ _ _ (.refl _) (.cons _ _ _ _ _ (.refl _) (.cons _ _ _ _ _ (.refl _) (.cons _ _ _ _ _ (.dead _) .nil)))))))))))))))))) (OLe.refl _)).trans (cmpS_ok rfl)) ⟨_, rfl, rfl⟩
                  · refine W_sound tab_ok mixed 14 _ _ _ ?_
                    simp -implicitDefEqProofs only [go_sem, ne_eq, not_false_eq_true, Nat.reduceBEq, Nat.reduceAdd, Nat.reduceSub, Nat.reduceMul, Nat.reduceLT, Nat.reduceLeDiff, Int.reduceLE, Int.reduceLT, Int.reduceToNat, Int.reduceBEq, Int.reduceBNe, Int.le_refl, Nat.le_refl, decide_true, decide_false, Int.cast_ofNat_Int, ↓reduceIte, h1710, g1713, g1714, g1715, h2077, h2142, g2143, g2144, g2145, h2146, h2148, h2207, g2208, g2209, g2210, h2211, g2213, g2214, g2215, h2216, g2219, g2220, g2221, h2222, g2224, g2225, g2226, h2227, g2230, g2231, g2232, h2233, h2238, h2240]
                    repeat with_reducible refine And.intro (by first | kernel_rfl | decide) ?_
                    exact cutQ _ ((Wk_le (.cons _ _ _ _ _ (.refl _) (.cons _ _ _ _ _ (.refl _) (.cons _ _ _ _ _ (.refl _) (.cons _ _ _ _ _ (.refl _) (.cons _ _ _ _ _ (.refl _) (.cons _ _ _ _ _ (.refl _) (.cons _ _ _ _ _ (.refl _) (.cons _ _ _ _ _ (.refl _) (.cons _ _ _ _ _ (.refl _) (.cons _ _ _ _ _ (.refl _) (.cons _ _ _ _ _ (.refl _) (.cons _ _ _ _ _ (.refl _) (.cons _ _ _ _ _ (.refl _) (.cons _ _ _ _ _ (.refl _) (.cons _ _ _ _ _ (.refl _) (.cons _ _ _ _ _ (.refl _) (.cons _ _ _ _ _ (.refl _) (.cons _ _ _ _ _ (.dead _) .nil)))))))))))))))))) (OLe.refl _)).trans (cmpS_ok rfl)) ⟨n, Nat.lt_succ_self n, _, h2262, rfl⟩
                · refine W_sound tab_ok mixed 32 _ _ _ ?_
                  simp -implicitDefEqProofs only [go_sem, ne_eq, not_false_eq_true, Nat.reduceBEq, Nat.reduceAdd, Nat.reduceSub, Nat.reduceMul, Nat.reduceLT, Nat.reduceLeDiff, Int.reduceLE, Int.reduceLT, Int.reduceToNat, Int.reduceBEq, Int.reduceBNe, Int.le_refl, Nat.le_refl, decide_true, decide_false, Int.cast_ofNat_Int, ↓reduceIte, h1710, g1713, g1714, g1715, h2077, h2142, g2143, g2144, g2145, h2146, h2148, h2207]
                  repeat with_reducible refine And.intro (by first | kernel_rfl | decide) ?_
                  obtain rfl := Option.some.inj h2262
                  exact cutQ _ ((Wk_le (.cons _ _ _ _ _ (.refl _) (.cons _ _ _ _ _ (.refl _) (.cons _ _ _ _ _ (.refl _) (.cons _ _ _ _ _ (.refl _) (.cons _ _ _ _ _ (.refl _) (.cons _ _ _ _ _ (.refl _) (.cons _ _ _ _ _ (.refl _) (.cons _ _ _ _ _ (.refl _) (.cons _ _ _ _ _ (.refl _) (.cons _ _ _ _ _ (.refl _) (.cons _ _ _ _ _ (.refl _) (.cons _ _ _ _ _ (.refl _) (.cons _ _ _ _ _ (.refl _) (.cons _ _ _ _ _ (.refl _) (.cons _ _ _ _ _ (.refl _) (.cons _ _ _ _ _ (.refl _) (.cons _ _ _ _ _ (.refl _) (.cons _ _ _ _ _ (.dead _) .nil)))))))))))))))))) (OLe.refl _)).trans (cmpS_ok rfl)) ⟨_, rfl, rfl⟩
            · rintro _ ⟨x2241, rfl, rfl⟩
              have hh := grd_some h2263; clear h2263; obtain ⟨⟨g2242, g2243⟩, h2263⟩ := hh
              have hh := brn_some h2263; clear h2263; rcases hh with ⟨h2244, h2263⟩ | ⟨h2244, h2263⟩
              · have hh := grd_some h2263; clear h2263; obtain ⟨⟨g2245, g2246⟩, h2263⟩ := hh
                refine W_sound tab_ok mixed 9 _ _ _ ?_
                simp -implicitDefEqProofs only [go_sem, ne_eq, not_false_eq_true, Nat.reduceBEq, Nat.reduceAdd, Nat.reduceSub, Nat.reduceMul, Nat.reduceLT, Nat.reduceLeDiff, Int.reduceLE, Int.reduceLT, Int.reduceToNat, Int.reduceBEq, Int.reduceBNe, Int.le_refl, Nat.le_refl, decide_true, decide_false, Int.cast_ofNat_Int, ↓reduceIte, h1710, g1713, g1714, g1715, h2077, h2142, g2143, g2144, g2145, h2146, h2148, g2242, g2243, h2244, g2245, g2246, cutG_le, extO_cut, set_cut1, normE, trimO]
                repeat with_reducible refine And.intro (by first | kernel_rfl | decide) ?_
                refine Wp_wkK Wk_norm rfl ?_
                simp -implicitDefEqProofs only [go_sem, ne_eq, not_false_eq_true, Nat.reduceBEq, Nat.reduceAdd, Nat.reduceSub, Nat.reduceMul, Nat.reduceLT, Nat.reduceLeDiff, Int.reduceLE, Int.reduceLT, Int.reduceToNat, Int.reduceBEq, Int.reduceBNe, Int.le_refl, Nat.le_refl, decide_true, decide_false, Int.cast_ofNat_Int, ↓reduceIte, normE, h1710, g1713, g1714, g1715, h2077, h2142, g2143, g2144, g2145, h2146, h2148, g2242, g2243, h2244, g2245, g2246, cutG_le, extO_cut, set_cut1, normE, trimO]
                refine Wp_wkK (Wk_trim 0 ((Int.toNat x2241) + 1)) rfl ?_
                simp -implicitDefEqProofs only [go_sem, ne_eq, not_false_eq_true, Nat.reduceBEq, Nat.reduceAdd, Nat.reduceSub, Nat.reduceMul, Nat.reduceLT, Nat.reduceLeDiff, Int.reduceLE, Int.reduceLT, Int.reduceToNat, Int.reduceBEq, Int.reduceBNe, Int.le_refl, Nat.le_refl, decide_true, decide_false, Int.cast_ofNat_Int, ↓reduceIte, trimO, h1710, g1713, g1714, g1715, h2077, h2142, g2143, g2144, g2145, h2146, h2148, g2242, g2243, h2244, g2245, g2246, cutG_le, extO_cut, set_cut1, normE, trimO]
                refine W_sound tab_ok mixed 5 _ _ _ ?_
                simp -implicitDefEqProofs only [go_sem, ne_eq, not_false_eq_true, Nat.reduceBEq, Nat.reduceAdd, Nat.reduceSub, Nat.reduceMul, Nat.reduceLT, Nat.reduceLeDiff, Int.reduceLE, Int.reduceLT, Int.reduceToNat, Int.reduceBEq, Int.reduceBNe, Int.le_refl, Nat.le_refl, decide_true, decide_false, Int.cast_ofNat_Int, ↓reduceIte, h1710, g1713, g1714, g1715, h2077, h2142, g2143, g2144, g2145, h2146, h2148, g2242, g2243, h2244, g2245, g2246, cutG_le, extO_cut, set_cut1, normE, trimO]
                repeat with_reducible refine And.intro (by first | kernel_rfl | decide) ?_
                exact cutQ _ ((Wk_le (.cons _ _ _ _ _ (.refl _) (.cons _ _ _ _ _ (.refl _) (.cons _ _ _ _ _ (.refl _) (.cons _ _ _ _ _ (.refl _) (.cons _ _ _ _ _ (.refl _) (.cons _ _ _ _ _ (.refl _) (.cons _ _ _ _ _ (.refl _) (.cons _ _ _ _ _ (.dead _) (.cons _ _ _ _ _ (.dead _) (.cons _ _ _ _ _ (.refl _) (.cons _ _ _ _ _ (.refl _) (.cons _ _ _ _ _ (.refl _) (.cons _ _ _ _ _ (.refl _) (.cons _ _ _ _ _ (.refl _) (.cons _ _ _ _ _ (.refl _) (.cons _ _ _ _ _ (.refl _) (.cons _ _ _ _ _ (.refl _) (.cons _ _ _ _ _ (.refl _) .nil)))))))))))))))))) (OLe.refl _)).trans (cmpS_ok rfl)) ⟨n, Nat.lt_succ_self n, _, _, _, h2263, rfl⟩
              · have hh := grd_some h2263; clear h2263; obtain ⟨⟨g2247, g2248⟩, h2263⟩ := hh
                refine W_sound tab_ok mixed 14 _ _ _ ?_
                simp -implicitDefEqProofs only [go_sem, ne_eq, not_false_eq_true, Nat.reduceBEq, Nat.reduceAdd, Nat.reduceSub, Nat.reduceMul, Nat.reduceLT, Nat.reduceLeDiff, Int.reduceLE, Int.reduceLT, Int.reduceToNat, Int.reduceBEq, Int.reduceBNe, Int.le_refl, Nat.le_refl, decide_true, decide_false, Int.cast_ofNat_Int, ↓reduceIte, h1710, g1713, g1714, g1715, h2077, h2142, g2143, g2144, g2145, h2146, h2148, g2242, g2243, h2244, g2247, g2248, cut_take, cutG_le]
                repeat with_reducible refine And.intro (by first | kernel_rfl | decide) ?_
                exact cutQ _ ((Wk_le (.cons _ _ _ _ _ (.refl _) (.cons _ _ _ _ _ (.refl _) (.cons _ _ _ _ _ (.refl _) (.cons _ _ _ _ _ (.refl _) (.cons _ _ _ _ _ (.refl _) (.cons _ _ _ _ _ (.refl _) (.cons _ _ _ _ _ (.refl _) (.cons _ _ _ _ _ (.dead _) (.cons _ _ _ _ _ (.dead _) (.cons _ _ _ _ _ (.refl _) (.cons _ _ _ _ _ (.refl _) (.cons _ _ _ _ _ (.refl _) (.cons _ _ _ _ _ (.refl _) (.cons _ _ _ _ _ (.refl _) (.cons _ _ _ _ _ (.refl _) (.cons _ _ _ _ _ (.refl _) (.cons _ _ _ _ _ (.refl _) (.cons _ _ _ _ _ (.refl _) .nil)))))))))))))))))) (OLe.refl _)).trans (cmpS_ok rfl)) ⟨n, Nat.lt_succ_self n, _, _, _, h2263, rfl⟩
        · refine W_sound tab_ok mixed 7 _ _ _ ?_
          simp -implicitDefEqProofs only [go_sem, ne_eq, not_false_eq_true, Nat.reduceBEq, Nat.reduceAdd, Nat.reduceSub, Nat.reduceMul, Nat.reduceLT, Nat.reduceLeDiff, Int.reduceLE, Int.reduceLT, Int.reduceToNat, Int.reduceBEq, Int.reduceBNe, Int.le_refl, Nat.le_refl, decide_true, decide_false, Int.cast_ofNat_Int, ↓reduceIte, h1710, g1713, g1714, g1715, h2077, h2142]
          repeat with_reducible refine And.intro (by first | kernel_rfl | decide) ?_
          obtain rfl := Option.some.inj h2256
          exact cutQ _ ((Wk_le (.cons _ _ _ _ _ (.refl _) (.cons _ _ _ _ _ (.dead _) (.cons _ _ _ _ _ (.refl _) (.cons _ _ _ _ _ (.refl _) (.cons _ _ _ _ _ (.refl _) (.cons _ _ _ _ _ (.refl _) (.cons _ _ _ _ _ (.refl _) (.cons _ _ _ _ _ (.refl _) (.cons _ _ _ _ _ (.refl _) (.cons _ _ _ _ _ (.refl _) (.cons _ _ _ _ _ (.refl _) (.cons _ _ _ _ _ (.refl _) (.cons _ _ _ _ _ (.dead _) (.cons _ _ _ _ _ (.dead _) (.cons _ _ _ _ _ (.dead _) (.cons _ _ _ _ _ (.dead _) (.cons _ _ _ _ _ (.refl _) (.cons _ _ _ _ _ (.refl _) .nil)))))))))))))))))) (OLe.refl _)).trans (cmpS_ok rfl)) ⟨_, _, rfl, rfl⟩
    · rintro _ ⟨n2249, c2250, rfl, rfl⟩
      (try dsimp only at h2257)
      refine W_sound tab_ok mixed 7 _ _ _ ?_
      simp -implicitDefEqProofs only [go_sem, ne_eq, not_false_eq_true, Nat.reduceBEq, Nat.reduceAdd, Nat.reduceSub, Nat.reduceMul, Nat.reduceLT, Nat.reduceLeDiff, Int.reduceLE, Int.reduceLT, Int.reduceToNat, Int.reduceBEq, Int.reduceBNe, Int.le_refl, Nat.le_refl, decide_true, decide_false, Int.cast_ofNat_Int, ↓reduceIte, h1710, g1713, g1714, g1715, h2077]
      repeat with_reducible refine And.intro (by first | kernel_rfl | decide) ?_
      have hh := grd_some h2257; clear h2257; obtain ⟨g2251, h2257⟩ := hh
      refine FinQ_wk (Wk_freeze 0 c2250 (by rfl) (by decide) (by decide)) ?_
      simp -implicitDefEqProofs only [go_sem, ne_eq, not_false_eq_true, Nat.reduceBEq, Nat.reduceAdd, Nat.reduceSub, Nat.reduceMul, Nat.reduceLT, Nat.reduceLeDiff, Int.reduceLE, Int.reduceLT, Int.reduceToNat, Int.reduceBEq, Int.reduceBNe, Int.le_refl, Nat.le_refl, decide_true, decide_false, Int.cast_ofNat_Int, ↓reduceIte, h1710, g1713, g1714, g1715, h2077, g2251]
      obtain rfl := Option.some.inj h2257
      exact finC [(2, .v (.lst false n2249 c2250))] [(2, .v (.lst false n2249 c2250))] (by simp [leE, lk_cons]) (.cons _ _ _ _ _ (.v _ _ (.refl _)) .nil) (by rfl) (by simp [leE, lk_cons]) (by decide) (by decide) rfl (by simp only [go_sem, ne_eq, not_false_eq_true, Nat.reduceBEq, Nat.reduceAdd, Nat.reduceSub, Nat.reduceMul, Nat.reduceLT, Nat.reduceLeDiff, Int.reduceLE, Int.reduceLT, Int.reduceToNat, Int.reduceBEq, Int.reduceBNe, Int.le_refl, Nat.le_refl, decide_true, decide_false, Int.cast_ofNat_Int, ↓reduceIte, resQ_tmp, resQ_cell, resQ_nil, retD_one, retD_two, retD_three, retD_none]; try simp [R.val, retD_one, retD_two, retD_three, retD_none])
end Go.Proofs.Ytgnphlpoofaojaa
