/-
  WeekAllCardSaid: the law returns true: the row, and the tied card.
-/
import Derived.Test.YtcaecfofgdogbaaDoorQWpA
import Derived.Test.YtcaecfofgdogbaaDoorQV39
import Derived.Test.YtcaecfofgdogbaaDoorQV36
import Derived.KernelRfl
import Derived.Test.YtcaecfofgdogbaaDoorRows
import Derived.Test.YtcaecfofgdogbaaDoorCards
import Derived.Test.YtcaecfofgdogbaaDoorTie
import Derived.WalkKit
import Derived.ProofKit
import Derived.OpenShut
import Derived.Lay
import Derived.SevenTiedAt
import Derived.MakeChecks
set_option linter.unusedSimpArgs false
set_option linter.unusedVariables false
namespace Go.Proofs.YtcaecfofgdogbaaDoor
open Go.V
open Nat renaming reduceBEq → qa, reduceAdd → qb, reduceSub → qc, reduceMul → qd, reduceLT → qe, reduceLeDiff → qf
open Int renaming reduceLE → qg, reduceLT → qh, reduceToNat → qi, reduceBEq → qj, reduceBNe → qk
set_option maxRecDepth 100000
set_option maxHeartbeats 4000000
set_option linter.unusedSimpArgs false
set_option linter.unusedVariables false
attribute [local go_sem] tl1 tl2 tl3 tl4 tl5 tl9 tl17 tl21 tl22 tl23 tl24 tl25 tl27 tl28 tl30 tl31 tl32 tl33 tl35 tl36 tl37 tl38 tl39 tl40 tl42 tl43 tl44 tl45 tl46 tl47 tl48 tl49 tl50 tl51 tl52 tl53 tl54 tl55 tl56 tl57 tl58 tl59 tl61 tl62 tl63 tl64 tl65 tl66 tl67 tl68 tl69 tl70 tl71 tl72 tl73 tl74 tl75 tl76 tl77 tl78 tl79 tl80 tl81 tl82 tl83 tl84 tl85 tl87 tl89 tl90 tl91 tl92 tl93 tl94 tl96 tl97 tl98 tl99 tl100 tl101 tl102 tl103 tl104 tl105 tl106 tl107 tl108 tl109 tl115 tl119
def m86_L0 (N : Nat) (x1610 : Int) (n1612 : Nat) (c1613 : List PV) : Nat → Int → Option ((PV ⊕ Unit))
  | 0, _ => none
  | n + 1, x1614 =>
    brn (decide (x1614 < ((n1612 : Nat) : Int))) (
      grd (0 ≤ x1614 ∧ x1614 < ((n1612 : Nat) : Int)) <|
      grd (0 < List.length (List.drop (Int.toNat x1614) c1613)) <|
      getI .i64 (gp c1613 (Int.toNat x1614)) fun x1620 =>
      brn (x1610 == x1620) (
        some (.inl (.int .i64 x1614))) (
        m86_L0 N x1610 n1612 c1613 n (IntKind.i64.wrap (x1614 + 1)))) (
      some (.inr ()))
def m86 (N : Nat) (p1609 : PV) (x1610 : Int) : Option (PV) :=
  getL p1609 fun n1612 c1613 =>
  bnd' (m86_L0 N x1610 n1612 c1613 N 0) fun o =>
  match o with
  | .inl p1622 =>
    some p1622
  | .inr () =>
    some (.int .i64 (-1))
theorem c86 (N : Nat) (p1609 : PV) (x1610 : Int) (r : PV)  (h : m86 N p1609 x1610 = some r) : FnP Tryd.prog 86 [p1609, (.int .i64 x1610)] r := by
  unfold m86 at h
  refine Fn_of (sz := 19) tab_ok [0, 1, 4, 5, 7, 8, 9, 16] [.tmp 4] Tryd.func86 rfl rfl rfl (by simp) ?_
  simp only [initSt, initEnv, List.map_cons, List.map_nil, List.getD_cons_zero, List.getD_cons_succ, List.getD_nil]
  have hh := getL_some h; clear h; obtain ⟨n1612, c1613, h1611, h⟩ := hh
  refine W_sound tab_ok mixed 11 _ _ _ ?_
  simp -implicitDefEqProofs only [go_sem, qa, qb, qc, qd, qe, qf, qg, qh, qi, qj, qk, ↓reduceIte, h1611]
  repeat with_reducible refine ⟨by first | kernel_rfl | decide, ?_⟩
  have hh := bnd'_some h; clear h; obtain ⟨o1623, h1624, h1625⟩ := hh
  refine Wp_cut (fun s => (.inr ()) = o1623 ∧ s = ⟨[], [(0, .dead), (1, .dead), (4, .dead), (5, .dead), (7, .dead), (8, .dead), (9, .dead), (16, .dead)], [], 0, []⟩) ?_ ?_
  · refine Wp_block ?_
    refine Wp_loopG (fun n s => ∃ x1614, m86_L0 N x1610 n1612 c1613 n x1614 = some o1623 ∧ s = ⟨[], [(0, .v (.lst false n1612 c1613)), (1, .v (.int .i64 x1610)), (4, .dead), (5, .dead), (7, .v (.int .i64 ((n1612 : Nat) : Int))), (8, .v (.int .i64 x1614)), (9, .dead), (16, .dead)], [], 0, []⟩) N _ ((Wk_le (.r (.r (.k (.r (.r (.r (.r (.r .nil)))))))) (OLe.refl _)).trans (cmpS_ok (st' := ⟨[], [(0, .v (.lst false n1612 c1613)), (1, .v (.int .i64 x1610)), (4, .dead), (5, .dead), (7, .v (.int .i64 ((n1612 : Nat) : Int))), (8, .v (.int .i64 0)), (9, .dead), (16, .dead)], [], 0, []⟩) (by kernel_rfl))) ⟨_, h1624, rfl⟩ ?_
    clear h1624
    rintro n _ ⟨x1614, h1624, rfl⟩
    cases n with
    | zero => cases h1624
    | succ n =>
      rw [m86_L0] at h1624
      have hh := brn_some h1624; clear h1624; rcases hh with ⟨h1615, h1624⟩ | ⟨h1615, h1624⟩
      · have hh := grd_some h1624; clear h1624; obtain ⟨⟨g1616, g1617⟩, h1624⟩ := hh
        have hh := grd_some h1624; clear h1624; obtain ⟨g1618, h1624⟩ := hh
        have hh := getI_some h1624; clear h1624; obtain ⟨x1620, h1619, h1624⟩ := hh
        have hh := brn_some h1624; clear h1624; rcases hh with ⟨h1621, h1624⟩ | ⟨h1621, h1624⟩
        · refine W_sound tab_ok mixed 31 _ _ _ ?_
          simp -implicitDefEqProofs only [go_sem, qa, qb, qc, qd, qe, qf, qg, qh, qi, qj, qk, ↓reduceIte, h1611, h1615, g1616, g1617, g1618, h1619, h1621]
          repeat with_reducible refine ⟨by first | kernel_rfl | decide, ?_⟩
          obtain rfl := Option.some.inj h1624
          (try dsimp only at h1625)
          obtain rfl := Option.some.inj h1625
          exact finC [(4, .v (.int .i64 x1614))] [(4, .v (.int .i64 x1614))] (by simp [leE, lk_cons]) (.cons _ _ _ _ _ (.v _ _ (.refl _)) .nil) (by rfl) (by simp [leE, lk_cons]) (by decide) (by decide) rfl (by simp only [go_sem, qa, qb, qc, qd, qe, qf, qg, qh, qi, qj, qk, ↓reduceIte, resQ_tmp, resQ_cell, resQ_nil, retD_one, retD_two, retD_three, retD_none]; try simp [R.val, retD_one, retD_two, retD_three, retD_none])
        · refine W_sound tab_ok mixed 30 _ _ _ ?_
          simp -implicitDefEqProofs only [go_sem, qa, qb, qc, qd, qe, qf, qg, qh, qi, qj, qk, ↓reduceIte, h1611, h1615, g1616, g1617, g1618, h1619, h1621]
          repeat with_reducible refine ⟨by first | kernel_rfl | decide, ?_⟩
          exact cutQ _ ((Wk_le (.r (.r (.r (.k (.r (.r (.k (.k .nil)))))))) (OLe.refl _)).trans (cmpS_ok (st' := ⟨[], [(0, .v (.lst false n1612 c1613)), (1, .v (.int .i64 x1610)), (4, .dead), (5, .dead), (7, .v (.int .i64 ((n1612 : Nat) : Int))), (8, .v (.int .i64 (IntKind.i64.wrap (x1614 + 1)))), (9, .dead), (16, .dead)], [], 0, []⟩) (by kernel_rfl))) ⟨n, Nat.lt_succ_self n, _, h1624, rfl⟩
      · refine W_sound tab_ok mixed 7 _ _ _ ?_
        simp -implicitDefEqProofs only [go_sem, qa, qb, qc, qd, qe, qf, qg, qh, qi, qj, qk, ↓reduceIte, h1611, h1615]
        repeat with_reducible refine ⟨by first | kernel_rfl | decide, ?_⟩
        obtain rfl := Option.some.inj h1624
        exact cutQ _ ((Wk_le (.k (.k (.r (.r (.k (.k (.k (.r .nil)))))))) (OLe.refl _)).trans (cmpS_ok (st' := ⟨[], [(0, .dead), (1, .dead), (4, .dead), (5, .dead), (7, .dead), (8, .dead), (9, .dead), (16, .dead)], [], 0, []⟩) (by kernel_rfl))) ⟨rfl, rfl⟩
  · rintro _ ⟨rfl, rfl⟩
    (try dsimp only at h1625)
    refine W_sound tab_ok mixed 6 _ _ _ ?_
    simp -implicitDefEqProofs only [go_sem, qa, qb, qc, qd, qe, qf, qg, qh, qi, qj, qk, ↓reduceIte, h1611]
    repeat with_reducible refine ⟨by first | kernel_rfl | decide, ?_⟩
    obtain rfl := Option.some.inj h1625
    exact finC [(4, .v (.int .i64 (-1)))] [(4, .v (.int .i64 (-1)))] (by simp [leE, lk_cons]) (.cons _ _ _ _ _ (.v _ _ (.refl _)) .nil) (by rfl) (by simp [leE, lk_cons]) (by decide) (by decide) rfl (by simp only [go_sem, qa, qb, qc, qd, qe, qf, qg, qh, qi, qj, qk, ↓reduceIte, resQ_tmp, resQ_cell, resQ_nil, retD_one, retD_two, retD_three, retD_none]; try simp [R.val, retD_one, retD_two, retD_three, retD_none])
def m57 (N : Nat) (p1604 : PV) (x1605 : Int) : Option (PV) :=
  getL p1604 fun n1607 c1608 =>
  bnd' (m86 N (.lst false n1607 c1608) x1605) fun p1626 =>
  getI .i64 p1626 fun x1629 =>
  some (.bool (decide (x1629 ≥ 0)))
theorem c57 (N : Nat) (p1604 : PV) (x1605 : Int) (r : PV)  (h : m57 N p1604 x1605 = some r) : FnP Tryd.prog 57 [p1604, (.int .i64 x1605)] r := by
  unfold m57 at h
  refine Fn_of (sz := 9) tab_ok [0, 1, 4] [.tmp 4] Tryd.func57 rfl rfl rfl (by simp) ?_
  simp only [initSt, initEnv, List.map_cons, List.map_nil, List.getD_cons_zero, List.getD_cons_succ, List.getD_nil]
  have hh := getL_some h; clear h; obtain ⟨n1607, c1608, h1606, h⟩ := hh
  have hh := bnd'_some h; clear h; obtain ⟨p1626, h1627, h⟩ := hh
  refine W_sound tab_ok mixed 8 _ _ _ ?_
  simp -implicitDefEqProofs only [go_sem, qa, qb, qc, qd, qe, qf, qg, qh, qi, qj, qk, ↓reduceIte, h1606]
  repeat with_reducible refine ⟨by first | kernel_rfl | decide, ?_⟩
  refine Wp_callP (c86 N _ _ _ h1627) (by kernel_rfl) rfl rfl rfl rfl (by decide) ?_
  have hh := getI_some h; clear h; obtain ⟨x1629, h1628, h⟩ := hh
  refine W_sound tab_ok mixed 5 _ _ _ ?_
  simp -implicitDefEqProofs only [go_sem, qa, qb, qc, qd, qe, qf, qg, qh, qi, qj, qk, ↓reduceIte, h1606, h1628]
  repeat with_reducible refine ⟨by first | kernel_rfl | decide, ?_⟩
  obtain rfl := Option.some.inj h
  exact finC [(4, .v (.bool (decide (x1629 ≥ 0))))] [(4, .v (.bool (decide (x1629 ≥ 0))))] (by simp [leE, lk_cons]) (.cons _ _ _ _ _ (.v _ _ (.refl _)) .nil) (by rfl) (by simp [leE, lk_cons]) (by decide) (by decide) rfl (by simp only [go_sem, qa, qb, qc, qd, qe, qf, qg, qh, qi, qj, qk, ↓reduceIte, resQ_tmp, resQ_cell, resQ_nil, retD_one, retD_two, retD_three, retD_none]; try simp [R.val, retD_one, retD_two, retD_three, retD_none])
def m79_3_L1 (N : Nat) (rec : PV → List PV → Nat → List PV → List PV → Option ((List PV × Nat × List PV × List PV))) (n1840 : Nat) (c1841 : List PV) (x1844 : Int) (x1888 : Int) (c1889 : List PV) (n1890 : Nat) (c1891 : List PV) (c1892 : List PV) (n1900 : Nat) (c1901 : List PV) : Nat → Bool → Int → Option (Bool)
  | 0, _, _ => none
  | n + 1, b1902, x1903 =>
    brn (decide (x1903 < ((n1900 : Nat) : Int))) (
      grd (0 ≤ x1903 ∧ x1903 < ((n1900 : Nat) : Int)) <|
      grd (0 < List.length (List.drop (Int.toNat x1903) c1901)) <|
      getL (gp c1901 (Int.toNat x1903)) fun n1909 c1910 =>
      brn b1902 (
        m79_3_L1 N rec n1840 c1841 x1844 x1888 c1889 n1890 c1891 c1892 n1900 c1901 n true (IntKind.i64.wrap (x1903 + 1))) (
        grd (0 ≤ ((n1840 : Nat) : Int) ∧ ((n1840 : Nat) : Int) < ((n1909 : Nat) : Int)) <|
        grd (0 < List.length (List.drop n1840 c1910)) <|
        getI .i64 (gp c1910 n1840) fun x1916 =>
        m79_3_L1 N rec n1840 c1841 x1844 x1888 c1889 n1890 c1891 c1892 n1900 c1901 n (x1916 == x1888) (IntKind.i64.wrap (x1903 + 1)))) (
      some b1902)
def m79_3_L0 (N : Nat) (rec : PV → List PV → Nat → List PV → List PV → Option ((List PV × Nat × List PV × List PV))) (n1840 : Nat) (c1841 : List PV) (x1844 : Int) : Nat → Int → List PV → Nat → List PV → List PV → Option ((List PV × Nat × List PV × List PV))
  | 0, _, _, _, _, _ => none
  | n + 1, x1888, c1889, n1890, c1891, c1892 =>
    brn (decide (x1888 < x1844)) (
      bnd' (m57 N (.lst false n1840 c1841) x1888) fun p1894 =>
      getB p1894 fun b1897 =>
      grd (0 < List.length c1891) <|
      getL (gp c1891 0) fun n1900 c1901 =>
      bnd' (m79_3_L1 N rec n1840 c1841 x1844 x1888 c1889 n1890 c1891 c1892 n1900 c1901 N b1897 0) fun b1917 =>
      brn b1917 (
        m79_3_L0 N rec n1840 c1841 x1844 n (IntKind.i64.wrap (x1888 + 1)) c1889 n1890 c1891 c1892) (
        grd (0 ≤ ((n1840 : Nat) : Int) ∧ ((n1840 : Nat) : Int) ≤ ((n1840 : Nat) : Int)) <|
        grd (List.length c1841 = n1840) <|
        grd ((n1840 + 1) ≤ 1099511627776) <|
        bnd' (rec (.lst false (n1840 + 1) (c1841 ++ [(.int .i64 x1888)])) c1889 n1890 c1892 c1891) fun o =>
        match o with
        | (c1924, n1925, c1926, c1927) =>
          m79_3_L0 N rec n1840 c1841 x1844 n (IntKind.i64.wrap (x1888 + 1)) c1924 n1925 c1926 c1927)) (
      some (c1889, n1890, c1891, c1892))
def m79_3 (N : Nat) : Nat → PV → List PV → Nat → List PV → List PV → Option ((List PV × Nat × List PV × List PV))
  | 0, _, _, _, _, _ => none
  | fu + 1, p1834, c1835, n1836, c1837, c1838 =>
    getL p1834 fun n1840 c1841 =>
    grd (0 < List.length c1835) <|
    getI .i64 (gp c1835 0) fun x1844 =>
    brn (((n1840 : Nat) : Int) == x1844) (
      grd ((n1836 + 1) ≤ 1099511627776) <|
      grd (List.length c1837 = n1836) <|
      some (c1835, (n1836 + 1), c1838, (c1837 ++ [(.lst false n1840 c1841)]))) (
      bnd' (m79_3_L0 N (m79_3 N fu) n1840 c1841 x1844 N 0 c1835 n1836 c1838 c1837) fun o =>
      match o with
      | (c1928, n1929, c1930, c1931) =>
        some (c1928, n1929, c1930, c1931))
theorem c79_3 (N : Nat) : ∀ (fu : Nat) (p1834 : PV) (c1835 : List PV) (n1836 : Nat) (c1837 : List PV) (c1838 : List PV) (r : (List PV × Nat × List PV × List PV))  (h : m79_3 N fu p1834 c1835 n1836 c1837 c1838 = some r), V.Fn Tryd.prog 79 5 [.v p1834, .ptr 0 0, .ptr 1 0, .ptr 3 0, .ptr 4 0] [(0, .p c1835), (1, .r [.sl false 2 0 n1836 1]), (2, .p c1837), (3, .p c1838), (4, .r [.fn 79 [.ptr 0 0, .ptr 1 0, .ptr 3 0, .ptr 4 0]])] (fun d ob' => match (generalizing := false) r with | (c1746, n1747, c1748, c1749) => d = .v (.tup []) ∧ ob' = [(0, .p c1746), (1, .r [.sl false 5 0 n1747 1]), (3, .p c1748), (4, .r [.fn 79 [.ptr 0 0, .ptr 1 0, .ptr 3 0, .ptr 4 0]]), (5, .p c1749)]) := by
  intro fu
  induction fu with
  | zero => intro p1834 c1835 n1836 c1837 c1838 r h; cases h
  | succ fu ih =>
    intro p1834 c1835 n1836 c1837 c1838 r h
    rw [m79_3] at h
    refine Fn_of (sz := 56) tab_ok [0, 1, 2, 3, 4, 6, 7, 9, 13, 18, 19, 20, 25, 26, 27, 28, 43] [] Tryd.func79 rfl rfl rfl (by simp) ?_
    simp only [initSt, initEnv, List.map_cons, List.map_nil, List.getD_cons_zero, List.getD_cons_succ, List.getD_nil]
    have hh := getL_some h; clear h; obtain ⟨n1840, c1841, h1839, h⟩ := hh
    simp only [h1839]
    refine Wp_wkK (cmpT_ok (st' := ⟨[], [(0, .v (.lst false n1840 c1841)), (1, .ptr 0 0), (2, .ptr 1 0), (3, .ptr 3 0), (4, .ptr 4 0), (6, .dead), (7, .dead), (9, .dead), (13, .dead), (18, .dead), (19, .dead), (20, .dead), (25, .dead), (26, .dead), (27, .dead), (28, .dead), (43, .dead)], [(0, .p c1835), (1, .r [.sl false 5 0 n1836 1]), (3, .p c1838), (4, .r [.fn 79 [.ptr 0 0, .ptr 1 0, .ptr 3 0, .ptr 4 0]]), (5, .p c1837)], 6, []⟩) [0, 1, 1000000002, 3, 4, 2] (by kernel_rfl)) rfl ?_
    have hh := grd_some h; clear h; obtain ⟨g1842, h⟩ := hh
    have hh := getI_some h; clear h; obtain ⟨x1844, h1843, h⟩ := hh
    have hh := brn_some h; clear h; rcases hh with ⟨h1845, h⟩ | ⟨h1845, h⟩
    · have hh := grd_some h; clear h; obtain ⟨g1846, h⟩ := hh
      have hh := grd_some h; clear h; obtain ⟨g1847, h⟩ := hh
      refine W_sound tab_ok mixed 19 _ _ _ ?_
      simp -implicitDefEqProofs only [go_sem, qa, qb, qc, qd, qe, qf, qg, qh, qi, qj, qk, ↓reduceIte, h1839, g1842, h1843, h1845, g1846, g1847]
      repeat with_reducible refine ⟨by first | kernel_rfl | decide, ?_⟩
      obtain rfl := Option.some.inj h
      exact finD (e2 := [(0, .dead), (1, .dead), (2, .dead), (3, .dead), (4, .dead), (6, .dead), (7, .dead), (9, .dead), (13, .dead), (18, .dead), (19, .dead), (20, .dead), (25, .dead), (26, .dead), (27, .dead), (28, .dead), (43, .dead)]) (ob2 := [(0, .p c1835), (1, .r [.sl false 23 0 (n1836 + 1) 1]), (3, .p c1838), (4, .r [.fn 79 [.ptr 0 0, .ptr 1 0, .ptr 3 0, .ptr 4 0]]), (22, .p [(.lst false n1840 c1841)]), (23, .p (c1837 ++ [(.lst false n1840 c1841)]))]) (st' := ⟨[], [(0, .dead), (1, .dead), (2, .dead), (3, .dead), (4, .dead), (6, .dead), (7, .dead), (9, .dead), (13, .dead), (18, .dead), (19, .dead), (20, .dead), (25, .dead), (26, .dead), (27, .dead), (28, .dead), (43, .dead)], [(0, .p c1835), (1, .r [.sl false 5 0 (n1836 + 1) 1]), (3, .p c1838), (4, .r [.fn 79 [.ptr 0 0, .ptr 1 0, .ptr 3 0, .ptr 4 0]]), (5, .p (c1837 ++ [(.lst false n1840 c1841)]))], 6, []⟩) (.k (.k (.k (.k (.k (.r (.r (.r (.k (.r (.r (.r (.r (.r (.r (.r (.r .nil))))))))))))))))) (.cons _ _ _ _ _ (DLes.refl _) (.cons _ _ _ _ _ (DLes.refl _) (.cons _ _ _ _ _ (DLes.refl _) (.cons _ _ _ _ _ (DLes.refl _) (.cons _ _ _ _ _ (DLes.refl _) (.cons _ _ _ _ _ (DLes.refl _) .nil)))))) (by kernel_rfl) (by simp only [go_sem, qa, qb, qc, qd, qe, qf, qg, qh, qi, qj, qk, ↓reduceIte, resQ_tmp, resQ_cell, resQ_nil, retD_one, retD_two, retD_three, retD_none] <;> first | rfl | exact ⟨rfl, rfl⟩ | (try simp [R.val, retD_one, retD_two, retD_three, retD_none]))
    · refine W_sound tab_ok mixed 15 _ _ _ ?_
      simp -implicitDefEqProofs only [go_sem, qa, qb, qc, qd, qe, qf, qg, qh, qi, qj, qk, ↓reduceIte, h1839, g1842, h1843, h1845]
      repeat with_reducible refine ⟨by first | kernel_rfl | decide, ?_⟩
      have hh := bnd'_some h; clear h; obtain ⟨o1936, h1937, h1938⟩ := hh
      refine Wp_cut (fun s => ∃ c1928, ∃ n1929, ∃ c1930, ∃ c1931, (c1928, n1929, c1930, c1931) = o1936 ∧ s = ⟨[], [(0, .dead), (1, .dead), (2, .dead), (3, .dead), (4, .dead), (6, .dead), (7, .dead), (9, .dead), (13, .dead), (18, .dead), (19, .dead), (20, .dead), (25, .dead), (26, .dead), (27, .dead), (28, .dead), (43, .dead)], [(0, .p c1928), (1, .r [.sl false 5 0 n1929 1]), (3, .p c1930), (4, .r [.fn 79 [.ptr 0 0, .ptr 1 0, .ptr 3 0, .ptr 4 0]]), (5, .p c1931)], 6, []⟩) ?_ ?_
      · refine Wp_block ?_
        refine Wp_loopG (fun n s => ∃ x1888, ∃ c1889, ∃ n1890, ∃ c1891, ∃ c1892, m79_3_L0 N (m79_3 N fu) n1840 c1841 x1844 n x1888 c1889 n1890 c1891 c1892 = some o1936 ∧ s = ⟨[], [(0, .v (.lst false n1840 c1841)), (1, .dead), (2, .dead), (3, .ptr 3 0), (4, .ptr 4 0), (6, .dead), (7, .dead), (9, .dead), (13, .dead), (18, .v (.int .i64 x1844)), (19, .v (.int .i64 x1888)), (20, .dead), (25, .dead), (26, .dead), (27, .dead), (28, .dead), (43, .dead)], [(0, .p c1889), (1, .r [.sl false 5 0 n1890 1]), (3, .p c1891), (4, .r [.fn 79 [.ptr 0 0, .ptr 1 0, .ptr 3 0, .ptr 4 0]]), (5, .p c1892)], 6, []⟩) N _ ((Wk_le (.r (.k (.k (.r (.r (.r (.r (.r (.k (.r (.r (.r (.r (.r (.r (.r (.r .nil))))))))))))))))) (OLe.refl _)).trans (cmpS_ok (st' := ⟨[], [(0, .v (.lst false n1840 c1841)), (1, .dead), (2, .dead), (3, .ptr 3 0), (4, .ptr 4 0), (6, .dead), (7, .dead), (9, .dead), (13, .dead), (18, .v (.int .i64 x1844)), (19, .v (.int .i64 0)), (20, .dead), (25, .dead), (26, .dead), (27, .dead), (28, .dead), (43, .dead)], [(0, .p c1835), (1, .r [.sl false 5 0 n1836 1]), (3, .p c1838), (4, .r [.fn 79 [.ptr 0 0, .ptr 1 0, .ptr 3 0, .ptr 4 0]]), (5, .p c1837)], 6, []⟩) (by kernel_rfl))) ⟨_, _, _, _, _, h1937, rfl⟩ ?_
        clear h1937
        rintro n _ ⟨x1888, c1889, n1890, c1891, c1892, h1937, rfl⟩
        cases n with
        | zero => cases h1937
        | succ n =>
          rw [m79_3_L0] at h1937
          have hh := brn_some h1937; clear h1937; rcases hh with ⟨h1893, h1937⟩ | ⟨h1893, h1937⟩
          · have hh := bnd'_some h1937; clear h1937; obtain ⟨p1894, h1895, h1937⟩ := hh
            refine W_sound tab_ok mixed 18 _ _ _ ?_
            simp -implicitDefEqProofs only [go_sem, qa, qb, qc, qd, qe, qf, qg, qh, qi, qj, qk, ↓reduceIte, h1839, g1842, h1843, h1845, h1893]
            repeat with_reducible refine ⟨by first | kernel_rfl | decide, ?_⟩
            refine Wp_callP (c57 N _ _ _ h1895) (by kernel_rfl) rfl rfl rfl rfl (by decide) ?_
            have hh := getB_some h1937; clear h1937; obtain ⟨b1897, h1896, h1937⟩ := hh
            have hh := grd_some h1937; clear h1937; obtain ⟨g1898, h1937⟩ := hh
            have hh := getL_some h1937; clear h1937; obtain ⟨n1900, c1901, h1899, h1937⟩ := hh
            refine W_sound tab_ok mixed 9 _ _ _ ?_
            simp -implicitDefEqProofs only [go_sem, qa, qb, qc, qd, qe, qf, qg, qh, qi, qj, qk, ↓reduceIte, h1839, g1842, h1843, h1845, h1893, h1896, g1898, h1899]
            repeat with_reducible refine ⟨by first | kernel_rfl | decide, ?_⟩
            have hh := bnd'_some h1937; clear h1937; obtain ⟨o1939, h1940, h1941⟩ := hh
            refine Wp_cut (fun s => ∃ b1917, b1917 = o1939 ∧ s = ⟨[], [(0, .v (.lst false n1840 c1841)), (1, .dead), (2, .dead), (3, .ptr 3 0), (4, .ptr 4 0), (6, .v (.int .i64 x1888)), (7, .v (.bool b1917)), (9, .dead), (13, .dead), (18, .v (.int .i64 x1844)), (19, .v (.int .i64 x1888)), (20, .dead), (25, .dead), (26, .dead), (27, .dead), (28, .dead), (43, .dead)], [(0, .p c1889), (1, .r [.sl false 5 0 n1890 1]), (3, .p c1891), (4, .r [.fn 79 [.ptr 0 0, .ptr 1 0, .ptr 3 0, .ptr 4 0]]), (5, .p c1892)], 6, []⟩) ?_ ?_
            · refine Wp_block ?_
              refine Wp_loopG (fun n s => ∃ b1902, ∃ x1903, m79_3_L1 N (m79_3 N fu) n1840 c1841 x1844 x1888 c1889 n1890 c1891 c1892 n1900 c1901 n b1902 x1903 = some o1939 ∧ s = ⟨[], [(0, .v (.lst false n1840 c1841)), (1, .dead), (2, .dead), (3, .ptr 3 0), (4, .ptr 4 0), (6, .v (.int .i64 x1888)), (7, .v (.bool b1902)), (9, .dead), (13, .dead), (18, .v (.int .i64 x1844)), (19, .v (.int .i64 x1888)), (20, .dead), (25, .v (.lst false n1900 c1901)), (26, .v (.int .i64 ((n1900 : Nat) : Int))), (27, .v (.int .i64 x1903)), (28, .dead), (43, .dead)], [(0, .p c1889), (1, .r [.sl false 5 0 n1890 1]), (3, .p c1891), (4, .r [.fn 79 [.ptr 0 0, .ptr 1 0, .ptr 3 0, .ptr 4 0]]), (5, .p c1892)], 6, []⟩) N _ ((Wk_le (.r (.r (.r (.r (.r (.r (.r (.r (.r (.r (.r (.k (.r (.r (.r (.r (.r .nil))))))))))))))))) (OLe.refl _)).trans (cmpS_ok (st' := ⟨[], [(0, .v (.lst false n1840 c1841)), (1, .dead), (2, .dead), (3, .ptr 3 0), (4, .ptr 4 0), (6, .v (.int .i64 x1888)), (7, .v (.bool b1897)), (9, .dead), (13, .dead), (18, .v (.int .i64 x1844)), (19, .v (.int .i64 x1888)), (20, .dead), (25, .v (.lst false n1900 c1901)), (26, .v (.int .i64 ((n1900 : Nat) : Int))), (27, .v (.int .i64 0)), (28, .dead), (43, .dead)], [(0, .p c1889), (1, .r [.sl false 5 0 n1890 1]), (3, .p c1891), (4, .r [.fn 79 [.ptr 0 0, .ptr 1 0, .ptr 3 0, .ptr 4 0]]), (5, .p c1892)], 6, []⟩) (by kernel_rfl))) ⟨_, _, h1940, rfl⟩ ?_
              clear h1940
              rintro n _ ⟨b1902, x1903, h1940, rfl⟩
              cases n with
              | zero => cases h1940
              | succ n =>
                rw [m79_3_L1] at h1940
                have hh := brn_some h1940; clear h1940; rcases hh with ⟨h1904, h1940⟩ | ⟨h1904, h1940⟩
                · have hh := grd_some h1940; clear h1940; obtain ⟨⟨g1905, g1906⟩, h1940⟩ := hh
                  have hh := grd_some h1940; clear h1940; obtain ⟨g1907, h1940⟩ := hh
                  have hh := getL_some h1940; clear h1940; obtain ⟨n1909, c1910, h1908, h1940⟩ := hh
                  have hh := brn_some h1940; clear h1940; rcases hh with ⟨h1911, h1940⟩ | ⟨h1911, h1940⟩
                  · refine W_sound tab_ok mixed 33 _ _ _ ?_
                    simp -implicitDefEqProofs only [go_sem, qa, qb, qc, qd, qe, qf, qg, qh, qi, qj, qk, ↓reduceIte, h1839, g1842, h1843, h1845, h1893, h1896, g1898, h1899, h1904, g1905, g1906, g1907, h1908, h1911]
                    repeat with_reducible refine ⟨by first | kernel_rfl | decide, ?_⟩
                    exact cutQ _ ((Wk_le (.r (.r (.r (.r (.r (.r (.r (.k (.r (.r (.r (.r (.r (.r (.r (.k (.r .nil))))))))))))))))) (OLe.refl _)).trans (cmpS_ok (st' := ⟨[], [(0, .v (.lst false n1840 c1841)), (1, .dead), (2, .dead), (3, .ptr 3 0), (4, .ptr 4 0), (6, .v (.int .i64 x1888)), (7, .v (.bool true)), (9, .dead), (13, .dead), (18, .v (.int .i64 x1844)), (19, .v (.int .i64 x1888)), (20, .dead), (25, .v (.lst false n1900 c1901)), (26, .v (.int .i64 ((n1900 : Nat) : Int))), (27, .v (.int .i64 (IntKind.i64.wrap (x1903 + 1)))), (28, .dead), (43, .dead)], [(0, .p c1889), (1, .r [.sl false 5 0 n1890 1]), (3, .p c1891), (4, .r [.fn 79 [.ptr 0 0, .ptr 1 0, .ptr 3 0, .ptr 4 0]]), (5, .p c1892)], 6, []⟩) (by kernel_rfl))) ⟨n, Nat.lt_succ_self n, _, _, h1940, rfl⟩
                  · have hh := grd_some h1940; clear h1940; obtain ⟨⟨g1912, g1913⟩, h1940⟩ := hh
                    have hh := grd_some h1940; clear h1940; obtain ⟨g1914, h1940⟩ := hh
                    have hh := getI_some h1940; clear h1940; obtain ⟨x1916, h1915, h1940⟩ := hh
                    refine W_sound tab_ok mixed 33 _ _ _ ?_
                    simp -implicitDefEqProofs only [go_sem, qa, qb, qc, qd, qe, qf, qg, qh, qi, qj, qk, ↓reduceIte, h1839, g1842, h1843, h1845, h1893, h1896, g1898, h1899, h1904, g1905, g1906, g1907, h1908, h1911, g1912, g1913, g1914, h1915]
                    repeat with_reducible refine ⟨by first | kernel_rfl | decide, ?_⟩
                    exact cutQ _ ((Wk_le (.r (.r (.r (.r (.r (.r (.r (.k (.r (.r (.r (.r (.r (.r (.r (.k (.r .nil))))))))))))))))) (OLe.refl _)).trans (cmpS_ok (st' := ⟨[], [(0, .v (.lst false n1840 c1841)), (1, .dead), (2, .dead), (3, .ptr 3 0), (4, .ptr 4 0), (6, .v (.int .i64 x1888)), (7, .v (.bool (x1916 == x1888))), (9, .dead), (13, .dead), (18, .v (.int .i64 x1844)), (19, .v (.int .i64 x1888)), (20, .dead), (25, .v (.lst false n1900 c1901)), (26, .v (.int .i64 ((n1900 : Nat) : Int))), (27, .v (.int .i64 (IntKind.i64.wrap (x1903 + 1)))), (28, .dead), (43, .dead)], [(0, .p c1889), (1, .r [.sl false 5 0 n1890 1]), (3, .p c1891), (4, .r [.fn 79 [.ptr 0 0, .ptr 1 0, .ptr 3 0, .ptr 4 0]]), (5, .p c1892)], 6, []⟩) (by kernel_rfl))) ⟨n, Nat.lt_succ_self n, _, _, h1940, rfl⟩
                · refine W_sound tab_ok mixed 7 _ _ _ ?_
                  simp -implicitDefEqProofs only [go_sem, qa, qb, qc, qd, qe, qf, qg, qh, qi, qj, qk, ↓reduceIte, h1839, g1842, h1843, h1845, h1893, h1896, g1898, h1899, h1904]
                  repeat with_reducible refine ⟨by first | kernel_rfl | decide, ?_⟩
                  obtain rfl := Option.some.inj h1940
                  exact cutQ _ ((Wk_le (.r (.r (.r (.r (.r (.r (.r (.r (.r (.r (.r (.r (.k (.k (.k (.k (.r .nil))))))))))))))))) (OLe.refl _)).trans (cmpS_ok (st' := ⟨[], [(0, .v (.lst false n1840 c1841)), (1, .dead), (2, .dead), (3, .ptr 3 0), (4, .ptr 4 0), (6, .v (.int .i64 x1888)), (7, .v (.bool b1902)), (9, .dead), (13, .dead), (18, .v (.int .i64 x1844)), (19, .v (.int .i64 x1888)), (20, .dead), (25, .dead), (26, .dead), (27, .dead), (28, .dead), (43, .dead)], [(0, .p c1889), (1, .r [.sl false 5 0 n1890 1]), (3, .p c1891), (4, .r [.fn 79 [.ptr 0 0, .ptr 1 0, .ptr 3 0, .ptr 4 0]]), (5, .p c1892)], 6, []⟩) (by kernel_rfl))) ⟨_, rfl, rfl⟩
            · rintro _ ⟨b1917, rfl, rfl⟩
              have hh := brn_some h1941; clear h1941; rcases hh with ⟨h1918, h1941⟩ | ⟨h1918, h1941⟩
              · refine W_sound tab_ok mixed 12 _ _ _ ?_
                simp -implicitDefEqProofs only [go_sem, qa, qb, qc, qd, qe, qf, qg, qh, qi, qj, qk, ↓reduceIte, h1839, g1842, h1843, h1845, h1893, h1896, g1898, h1899, h1918]
                repeat with_reducible refine ⟨by first | kernel_rfl | decide, ?_⟩
                exact cutQ _ ((Wk_le (.r (.r (.r (.r (.r (.k (.k (.r (.r (.r (.r (.r (.r (.r (.r (.r (.k .nil))))))))))))))))) (OLe.refl _)).trans (cmpS_ok (st' := ⟨[], [(0, .v (.lst false n1840 c1841)), (1, .dead), (2, .dead), (3, .ptr 3 0), (4, .ptr 4 0), (6, .dead), (7, .dead), (9, .dead), (13, .dead), (18, .v (.int .i64 x1844)), (19, .v (.int .i64 (IntKind.i64.wrap (x1888 + 1)))), (20, .dead), (25, .dead), (26, .dead), (27, .dead), (28, .dead), (43, .dead)], [(0, .p c1889), (1, .r [.sl false 5 0 n1890 1]), (3, .p c1891), (4, .r [.fn 79 [.ptr 0 0, .ptr 1 0, .ptr 3 0, .ptr 4 0]]), (5, .p c1892)], 6, []⟩) (by kernel_rfl))) ⟨n, Nat.lt_succ_self n, _, _, _, _, _, h1941, rfl⟩
              · have hh := grd_some h1941; clear h1941; obtain ⟨⟨g1919, g1920⟩, h1941⟩ := hh
                have hh := grd_some h1941; clear h1941; obtain ⟨g1921, h1941⟩ := hh
                have hh := grd_some h1941; clear h1941; obtain ⟨g1922, h1941⟩ := hh
                have hh := bnd'_some h1941; clear h1941; obtain ⟨⟨c1924, n1925, c1926, c1927⟩, h1923, h1941⟩ := hh
                (try dsimp only at h1941)
                refine W_sound tab_ok mixed 17 _ _ _ ?_
                simp -implicitDefEqProofs only [go_sem, qa, qb, qc, qd, qe, qf, qg, qh, qi, qj, qk, ↓reduceIte, h1839, g1842, h1843, h1845, h1893, h1896, g1898, h1899, h1918, g1919, g1920, g1921, g1922]
                repeat with_reducible refine ⟨by first | kernel_rfl | decide, ?_⟩
                refine Wp_callDF [(59, (c1841 ++ [(.int .i64 x1888)]))] [0, 1, 5, 3, 4] (ih _ _ _ _ _ _ h1923) rfl rfl rfl (by first | rfl | (simp only [go_sem, qa, qb, qc, qd, qe, qf, qg, qh, qi, qj, qk, ↓reduceIte, h1839, g1842, h1843, h1845, h1893, h1896, g1898, h1899, h1918, g1919, g1920, g1921, g1922] <;> rfl)) rfl (by kernel_rfl) rfl rfl (by simp [roF, obL]) ?_
                refine W_sound tab_ok mixed 6 _ _ _ ?_
                simp -implicitDefEqProofs only [go_sem, qa, qb, qc, qd, qe, qf, qg, qh, qi, qj, qk, ↓reduceIte, h1839, g1842, h1843, h1845, h1893, h1896, g1898, h1899, h1918, g1919, g1920, g1921, g1922]
                repeat with_reducible refine ⟨by first | kernel_rfl | decide, ?_⟩
                exact cutQ _ ((Wk_le (.r (.r (.r (.r (.r (.k (.k (.r (.r (.r (.r (.r (.r (.r (.r (.r (.k .nil))))))))))))))))) (OLe.refl _)).trans (cmpS_ok (st' := ⟨[], [(0, .v (.lst false n1840 c1841)), (1, .dead), (2, .dead), (3, .ptr 3 0), (4, .ptr 4 0), (6, .dead), (7, .dead), (9, .dead), (13, .dead), (18, .v (.int .i64 x1844)), (19, .v (.int .i64 (IntKind.i64.wrap (x1888 + 1)))), (20, .dead), (25, .dead), (26, .dead), (27, .dead), (28, .dead), (43, .dead)], [(0, .p c1924), (1, .r [.sl false 5 0 n1925 1]), (3, .p c1926), (4, .r [.fn 79 [.ptr 0 0, .ptr 1 0, .ptr 3 0, .ptr 4 0]]), (5, .p c1927)], 6, []⟩) (by kernel_rfl))) ⟨n, Nat.lt_succ_self n, _, _, _, _, _, h1941, rfl⟩
          · refine W_sound tab_ok mixed 7 _ _ _ ?_
            simp -implicitDefEqProofs only [go_sem, qa, qb, qc, qd, qe, qf, qg, qh, qi, qj, qk, ↓reduceIte, h1839, g1842, h1843, h1845, h1893]
            repeat with_reducible refine ⟨by first | kernel_rfl | decide, ?_⟩
            obtain rfl := Option.some.inj h1937
            exact cutQ _ ((Wk_le (.k (.r (.r (.k (.k (.r (.r (.r (.r (.k (.k (.k (.r (.r (.r (.r (.r .nil))))))))))))))))) (OLe.refl _)).trans (cmpS_ok (st' := ⟨[], [(0, .dead), (1, .dead), (2, .dead), (3, .dead), (4, .dead), (6, .dead), (7, .dead), (9, .dead), (13, .dead), (18, .dead), (19, .dead), (20, .dead), (25, .dead), (26, .dead), (27, .dead), (28, .dead), (43, .dead)], [(0, .p c1889), (1, .r [.sl false 5 0 n1890 1]), (3, .p c1891), (4, .r [.fn 79 [.ptr 0 0, .ptr 1 0, .ptr 3 0, .ptr 4 0]]), (5, .p c1892)], 6, []⟩) (by kernel_rfl))) ⟨_, _, _, _, rfl, rfl⟩
      · rintro _ ⟨c1928, n1929, c1930, c1931, rfl, rfl⟩
        (try dsimp only at h1938)
        refine W_sound tab_ok mixed 1 _ _ _ ?_
        simp -implicitDefEqProofs only [go_sem, qa, qb, qc, qd, qe, qf, qg, qh, qi, qj, qk, ↓reduceIte, h1839, g1842, h1843, h1845]
        repeat with_reducible refine ⟨by first | kernel_rfl | decide, ?_⟩
        obtain rfl := Option.some.inj h1938
        exact finD (e2 := [(0, .dead), (1, .dead), (2, .dead), (3, .dead), (4, .dead), (6, .dead), (7, .dead), (9, .dead), (13, .dead), (18, .dead), (19, .dead), (20, .dead), (25, .dead), (26, .dead), (27, .dead), (28, .dead), (43, .dead)]) (ob2 := [(0, .p c1928), (1, .r [.sl false 5 0 n1929 1]), (3, .p c1930), (4, .r [.fn 79 [.ptr 0 0, .ptr 1 0, .ptr 3 0, .ptr 4 0]]), (5, .p c1931)]) (st' := ⟨[], [(0, .dead), (1, .dead), (2, .dead), (3, .dead), (4, .dead), (6, .dead), (7, .dead), (9, .dead), (13, .dead), (18, .dead), (19, .dead), (20, .dead), (25, .dead), (26, .dead), (27, .dead), (28, .dead), (43, .dead)], [(0, .p c1928), (1, .r [.sl false 5 0 n1929 1]), (3, .p c1930), (4, .r [.fn 79 [.ptr 0 0, .ptr 1 0, .ptr 3 0, .ptr 4 0]]), (5, .p c1931)], 6, []⟩) (.r (.r (.r (.r (.r (.r (.r (.r (.r (.r (.r (.r (.r (.r (.r (.r (.r .nil))))))))))))))))) (.cons _ _ _ _ _ (DLes.refl _) (.cons _ _ _ _ _ (DLes.refl _) (.cons _ _ _ _ _ (DLes.refl _) (.cons _ _ _ _ _ (DLes.refl _) (.cons _ _ _ _ _ (DLes.refl _) .nil))))) (by kernel_rfl) (by simp only [go_sem, qa, qb, qc, qd, qe, qf, qg, qh, qi, qj, qk, ↓reduceIte, resQ_tmp, resQ_cell, resQ_nil, retD_one, retD_two, retD_three, retD_none] <;> first | rfl | exact ⟨rfl, rfl⟩ | (try simp [R.val, retD_one, retD_two, retD_three, retD_none]))
theorem c79_3_a (N : Nat) (fu : Nat) (p1834 : PV) (c1835 : List PV) (n1836 : Nat) (c1837 : List PV) (c1838 : List PV) (c1746 : List PV) (n1747 : Nat) (c1748 : List PV) (c1749 : List PV) (h : m79_3 N fu p1834 c1835 n1836 c1837 c1838 = some (c1746, n1747, c1748, c1749)) : V.Fn Tryd.prog 79 5 [.v p1834, .ptr 0 0, .ptr 1 0, .ptr 3 0, .ptr 4 0] [(0, .p c1835), (1, .r [.sl false 2 0 n1836 1]), (2, .p c1837), (3, .p c1838), (4, .r [.fn 79 [.ptr 0 0, .ptr 1 0, .ptr 3 0, .ptr 4 0]])] (fun d ob' => d = .v (.tup []) ∧ ob' = [(0, .p c1746), (1, .r [.sl false 5 0 n1747 1]), (3, .p c1748), (4, .r [.fn 79 [.ptr 0 0, .ptr 1 0, .ptr 3 0, .ptr 4 0]]), (5, .p c1749)]) := c79_3 N fu p1834 c1835 n1836 c1837 c1838 _ h
def m79_L1 (N : Nat) (x1596 : Int) (x2065 : Int) (c2066 : List PV) (n2067 : Nat) (c2068 : List PV) (c2069 : List PV) (n2077 : Nat) (c2078 : List PV) : Nat → Bool → Int → Option (Bool)
  | 0, _, _ => none
  | n + 1, b2079, x2080 =>
    brn (decide (x2080 < ((n2077 : Nat) : Int))) (
      grd (0 ≤ x2080 ∧ x2080 < ((n2077 : Nat) : Int)) <|
      grd (0 < List.length (List.drop (Int.toNat x2080) c2078)) <|
      getL (gp c2078 (Int.toNat x2080)) fun n2086 c2087 =>
      brn b2079 (
        m79_L1 N x1596 x2065 c2066 n2067 c2068 c2069 n2077 c2078 n true (IntKind.i64.wrap (x2080 + 1))) (
        grd (0 < ((n2086 : Nat) : Int)) <|
        grd (0 < List.length c2087) <|
        getI .i64 (gp c2087 0) fun x2092 =>
        m79_L1 N x1596 x2065 c2066 n2067 c2068 c2069 n2077 c2078 n (x2092 == x2065) (IntKind.i64.wrap (x2080 + 1)))) (
      some b2079)
def m79_L0 (N : Nat) (x1596 : Int) : Nat → Int → List PV → Nat → List PV → List PV → Option ((List PV × Nat × List PV × List PV))
  | 0, _, _, _, _, _ => none
  | n + 1, x2065, c2066, n2067, c2068, c2069 =>
    brn (decide (x2065 < x1596)) (
      bnd' (m57 N (.lst false 0 []) x2065) fun p2071 =>
      getB p2071 fun b2074 =>
      grd (0 < List.length c2068) <|
      getL (gp c2068 0) fun n2077 c2078 =>
      bnd' (m79_L1 N x1596 x2065 c2066 n2067 c2068 c2069 n2077 c2078 N b2074 0) fun b2093 =>
      brn b2093 (
        m79_L0 N x1596 n (IntKind.i64.wrap (x2065 + 1)) c2066 n2067 c2068 c2069) (
        bnd' (m79_3 N N (.lst false 1 [(.int .i64 x2065)]) c2066 n2067 c2069 c2068) fun o =>
        match o with
        | (c2096, n2097, c2098, c2099) =>
          m79_L0 N x1596 n (IntKind.i64.wrap (x2065 + 1)) c2096 n2097 c2098 c2099)) (
      some (c2066, n2067, c2068, c2069))
def m79 (N : Nat) (x1596 : Int) (p1597 : PV) : Option (((List PV × List PV × List PV) ⊕ (List PV × Nat × List PV × List PV))) :=
  brn (0 == x1596) (
    some (.inl ([(.int .i64 x1596)], [p1597], [(.lst false 0 [])]))) (
    bnd' (m79_L0 N x1596 N 0 [(.int .i64 x1596)] 0 [p1597] []) fun o =>
    match o with
    | (c2100, n2101, c2102, c2103) =>
      some (.inr (c2100, n2101, c2102, c2103)))
theorem c79 (N : Nat) (x1596 : Int) (p1597 : PV) (r : ((List PV × List PV × List PV) ⊕ (List PV × Nat × List PV × List PV)))  (h : m79 N x1596 p1597 = some r) : V.Fn Tryd.prog 79 5 [.v .nl, .ptr 0 0, .ptr 1 0, .ptr 3 0, .ptr 4 0] [(0, .p [(.int .i64 x1596)]), (1, .r [.sl false 2 0 0 1]), (2, .p []), (3, .p [p1597]), (4, .r [.fn 79 [.ptr 0 0, .ptr 1 0, .ptr 3 0, .ptr 4 0]])] (fun d ob' => match (generalizing := false) r with | .inl (c1599, c1600, c1601) => d = .v (.tup []) ∧ ob' = [(0, .p c1599), (1, .r [.sl false 5 0 1 1]), (3, .p c1600), (4, .r [.fn 79 [.ptr 0 0, .ptr 1 0, .ptr 3 0, .ptr 4 0]]), (5, .p c1601)] | .inr (c2104, n2105, c2106, c2107) => d = .v (.tup []) ∧ ob' = [(0, .p c2104), (1, .r [.sl false 5 0 n2105 1]), (3, .p c2106), (4, .r [.fn 79 [.ptr 0 0, .ptr 1 0, .ptr 3 0, .ptr 4 0]]), (5, .p c2107)]) := by
  unfold m79 at h
  refine Fn_of (sz := 56) tab_ok [0, 1, 2, 3, 4, 6, 7, 9, 13, 18, 19, 20, 25, 26, 27, 28, 43] [] Tryd.func79 rfl rfl rfl (by simp) ?_
  simp only [initSt, initEnv, List.map_cons, List.map_nil, List.getD_cons_zero, List.getD_cons_succ, List.getD_nil]
  refine Wp_wkK (cmpT_ok (st' := ⟨[], [(0, .v .nl), (1, .ptr 0 0), (2, .ptr 1 0), (3, .ptr 3 0), (4, .ptr 4 0), (6, .dead), (7, .dead), (9, .dead), (13, .dead), (18, .dead), (19, .dead), (20, .dead), (25, .dead), (26, .dead), (27, .dead), (28, .dead), (43, .dead)], [(0, .p [(.int .i64 x1596)]), (1, .r [.sl false 5 0 0 1]), (3, .p [p1597]), (4, .r [.fn 79 [.ptr 0 0, .ptr 1 0, .ptr 3 0, .ptr 4 0]]), (5, .p [])], 6, []⟩) [0, 1, 1000000002, 3, 4, 2] (by kernel_rfl)) rfl ?_
  have hh := brn_some h; clear h; rcases hh with ⟨h1598, h⟩ | ⟨h1598, h⟩
  · refine W_sound tab_ok mixed 19 _ _ _ ?_
    simp -implicitDefEqProofs only [go_sem, qa, qb, qc, qd, qe, qf, qg, qh, qi, qj, qk, ↓reduceIte, h1598]
    repeat with_reducible refine ⟨by first | kernel_rfl | decide, ?_⟩
    obtain rfl := Option.some.inj h
    exact finD (e2 := [(0, .dead), (1, .dead), (2, .dead), (3, .dead), (4, .dead), (6, .dead), (7, .dead), (9, .dead), (13, .dead), (18, .dead), (19, .dead), (20, .dead), (25, .dead), (26, .dead), (27, .dead), (28, .dead), (43, .dead)]) (ob2 := [(0, .p [(.int .i64 x1596)]), (1, .r [.sl false 23 0 1 1]), (3, .p [p1597]), (4, .r [.fn 79 [.ptr 0 0, .ptr 1 0, .ptr 3 0, .ptr 4 0]]), (22, .p [.nl]), (23, .p [(.lst false 0 [])])]) (st' := ⟨[], [(0, .dead), (1, .dead), (2, .dead), (3, .dead), (4, .dead), (6, .dead), (7, .dead), (9, .dead), (13, .dead), (18, .dead), (19, .dead), (20, .dead), (25, .dead), (26, .dead), (27, .dead), (28, .dead), (43, .dead)], [(0, .p [(.int .i64 x1596)]), (1, .r [.sl false 5 0 1 1]), (3, .p [p1597]), (4, .r [.fn 79 [.ptr 0 0, .ptr 1 0, .ptr 3 0, .ptr 4 0]]), (5, .p [(.lst false 0 [])])], 6, []⟩) (.k (.k (.k (.k (.k (.r (.r (.r (.k (.r (.r (.r (.r (.r (.r (.r (.r .nil))))))))))))))))) (.cons _ _ _ _ _ (DLes.refl _) (.cons _ _ _ _ _ (DLes.refl _) (.cons _ _ _ _ _ (DLes.refl _) (.cons _ _ _ _ _ (DLes.refl _) (.cons _ _ _ _ _ (DLes.refl _) (.cons _ _ _ _ _ (DLes.of_p (.cons _ _ _ _ (.nl false) .nil)) .nil)))))) (by kernel_rfl) (by simp only [go_sem, qa, qb, qc, qd, qe, qf, qg, qh, qi, qj, qk, ↓reduceIte, resQ_tmp, resQ_cell, resQ_nil, retD_one, retD_two, retD_three, retD_none] <;> first | rfl | exact ⟨rfl, rfl⟩ | (try simp [R.val, retD_one, retD_two, retD_three, retD_none]))
  · refine W_sound tab_ok mixed 15 _ _ _ ?_
    simp -implicitDefEqProofs only [go_sem, qa, qb, qc, qd, qe, qf, qg, qh, qi, qj, qk, ↓reduceIte, h1598]
    repeat with_reducible refine ⟨by first | kernel_rfl | decide, ?_⟩
    have hh := bnd'_some h; clear h; obtain ⟨o2108, h2109, h2110⟩ := hh
    refine Wp_cut (fun s => ∃ c2100, ∃ n2101, ∃ c2102, ∃ c2103, (c2100, n2101, c2102, c2103) = o2108 ∧ s = ⟨[], [(0, .dead), (1, .dead), (2, .dead), (3, .dead), (4, .dead), (6, .dead), (7, .dead), (9, .dead), (13, .dead), (18, .dead), (19, .dead), (20, .dead), (25, .dead), (26, .dead), (27, .dead), (28, .dead), (43, .dead)], [(0, .p c2100), (1, .r [.sl false 5 0 n2101 1]), (3, .p c2102), (4, .r [.fn 79 [.ptr 0 0, .ptr 1 0, .ptr 3 0, .ptr 4 0]]), (5, .p c2103)], 6, []⟩) ?_ ?_
    · refine Wp_block ?_
      refine Wp_loopG (fun n s => ∃ x2065, ∃ c2066, ∃ n2067, ∃ c2068, ∃ c2069, m79_L0 N x1596 n x2065 c2066 n2067 c2068 c2069 = some o2108 ∧ s = ⟨[], [(0, .v .nl), (1, .dead), (2, .dead), (3, .ptr 3 0), (4, .ptr 4 0), (6, .dead), (7, .dead), (9, .dead), (13, .dead), (18, .v (.int .i64 x1596)), (19, .v (.int .i64 x2065)), (20, .dead), (25, .dead), (26, .dead), (27, .dead), (28, .dead), (43, .dead)], [(0, .p c2066), (1, .r [.sl false 5 0 n2067 1]), (3, .p c2068), (4, .r [.fn 79 [.ptr 0 0, .ptr 1 0, .ptr 3 0, .ptr 4 0]]), (5, .p c2069)], 6, []⟩) N _ ((Wk_le (.r (.k (.k (.r (.r (.r (.r (.r (.k (.r (.r (.r (.r (.r (.r (.r (.r .nil))))))))))))))))) (OLe.refl _)).trans (cmpS_ok (st' := ⟨[], [(0, .v .nl), (1, .dead), (2, .dead), (3, .ptr 3 0), (4, .ptr 4 0), (6, .dead), (7, .dead), (9, .dead), (13, .dead), (18, .v (.int .i64 x1596)), (19, .v (.int .i64 0)), (20, .dead), (25, .dead), (26, .dead), (27, .dead), (28, .dead), (43, .dead)], [(0, .p [(.int .i64 x1596)]), (1, .r [.sl false 5 0 0 1]), (3, .p [p1597]), (4, .r [.fn 79 [.ptr 0 0, .ptr 1 0, .ptr 3 0, .ptr 4 0]]), (5, .p [])], 6, []⟩) (by kernel_rfl))) ⟨_, _, _, _, _, h2109, rfl⟩ ?_
      clear h2109
      rintro n _ ⟨x2065, c2066, n2067, c2068, c2069, h2109, rfl⟩
      cases n with
      | zero => cases h2109
      | succ n =>
        rw [m79_L0] at h2109
        have hh := brn_some h2109; clear h2109; rcases hh with ⟨h2070, h2109⟩ | ⟨h2070, h2109⟩
        · have hh := bnd'_some h2109; clear h2109; obtain ⟨p2071, h2072, h2109⟩ := hh
          refine W_sound tab_ok mixed 18 _ _ _ ?_
          simp -implicitDefEqProofs only [go_sem, qa, qb, qc, qd, qe, qf, qg, qh, qi, qj, qk, ↓reduceIte, h1598, h2070]
          repeat with_reducible refine ⟨by first | kernel_rfl | decide, ?_⟩
          refine Wp_callP (FnP_le (c57 N _ _ _ h2072) (.cons _ _ _ _ (.nl false) (.cons _ _ _ _ (.refl _) .nil)) (.refl _)) (by kernel_rfl) rfl rfl rfl rfl (by decide) ?_
          have hh := getB_some h2109; clear h2109; obtain ⟨b2074, h2073, h2109⟩ := hh
          have hh := grd_some h2109; clear h2109; obtain ⟨g2075, h2109⟩ := hh
          have hh := getL_some h2109; clear h2109; obtain ⟨n2077, c2078, h2076, h2109⟩ := hh
          refine W_sound tab_ok mixed 9 _ _ _ ?_
          simp -implicitDefEqProofs only [go_sem, qa, qb, qc, qd, qe, qf, qg, qh, qi, qj, qk, ↓reduceIte, h1598, h2070, h2073, g2075, h2076]
          repeat with_reducible refine ⟨by first | kernel_rfl | decide, ?_⟩
          have hh := bnd'_some h2109; clear h2109; obtain ⟨o2111, h2112, h2113⟩ := hh
          refine Wp_cut (fun s => ∃ b2093, b2093 = o2111 ∧ s = ⟨[], [(0, .v .nl), (1, .dead), (2, .dead), (3, .ptr 3 0), (4, .ptr 4 0), (6, .v (.int .i64 x2065)), (7, .v (.bool b2093)), (9, .dead), (13, .dead), (18, .v (.int .i64 x1596)), (19, .v (.int .i64 x2065)), (20, .dead), (25, .dead), (26, .dead), (27, .dead), (28, .dead), (43, .dead)], [(0, .p c2066), (1, .r [.sl false 5 0 n2067 1]), (3, .p c2068), (4, .r [.fn 79 [.ptr 0 0, .ptr 1 0, .ptr 3 0, .ptr 4 0]]), (5, .p c2069)], 6, []⟩) ?_ ?_
          · refine Wp_block ?_
            refine Wp_loopG (fun n s => ∃ b2079, ∃ x2080, m79_L1 N x1596 x2065 c2066 n2067 c2068 c2069 n2077 c2078 n b2079 x2080 = some o2111 ∧ s = ⟨[], [(0, .v .nl), (1, .dead), (2, .dead), (3, .ptr 3 0), (4, .ptr 4 0), (6, .v (.int .i64 x2065)), (7, .v (.bool b2079)), (9, .dead), (13, .dead), (18, .v (.int .i64 x1596)), (19, .v (.int .i64 x2065)), (20, .dead), (25, .v (.lst false n2077 c2078)), (26, .v (.int .i64 ((n2077 : Nat) : Int))), (27, .v (.int .i64 x2080)), (28, .dead), (43, .dead)], [(0, .p c2066), (1, .r [.sl false 5 0 n2067 1]), (3, .p c2068), (4, .r [.fn 79 [.ptr 0 0, .ptr 1 0, .ptr 3 0, .ptr 4 0]]), (5, .p c2069)], 6, []⟩) N _ ((Wk_le (.r (.r (.r (.r (.r (.r (.r (.r (.r (.r (.r (.k (.r (.r (.r (.r (.r .nil))))))))))))))))) (OLe.refl _)).trans (cmpS_ok (st' := ⟨[], [(0, .v .nl), (1, .dead), (2, .dead), (3, .ptr 3 0), (4, .ptr 4 0), (6, .v (.int .i64 x2065)), (7, .v (.bool b2074)), (9, .dead), (13, .dead), (18, .v (.int .i64 x1596)), (19, .v (.int .i64 x2065)), (20, .dead), (25, .v (.lst false n2077 c2078)), (26, .v (.int .i64 ((n2077 : Nat) : Int))), (27, .v (.int .i64 0)), (28, .dead), (43, .dead)], [(0, .p c2066), (1, .r [.sl false 5 0 n2067 1]), (3, .p c2068), (4, .r [.fn 79 [.ptr 0 0, .ptr 1 0, .ptr 3 0, .ptr 4 0]]), (5, .p c2069)], 6, []⟩) (by kernel_rfl))) ⟨_, _, h2112, rfl⟩ ?_
            clear h2112
            rintro n _ ⟨b2079, x2080, h2112, rfl⟩
            cases n with
            | zero => cases h2112
            | succ n =>
              rw [m79_L1] at h2112
              have hh := brn_some h2112; clear h2112; rcases hh with ⟨h2081, h2112⟩ | ⟨h2081, h2112⟩
              · have hh := grd_some h2112; clear h2112; obtain ⟨⟨g2082, g2083⟩, h2112⟩ := hh
                have hh := grd_some h2112; clear h2112; obtain ⟨g2084, h2112⟩ := hh
                have hh := getL_some h2112; clear h2112; obtain ⟨n2086, c2087, h2085, h2112⟩ := hh
                have hh := brn_some h2112; clear h2112; rcases hh with ⟨h2088, h2112⟩ | ⟨h2088, h2112⟩
                · refine W_sound tab_ok mixed 33 _ _ _ ?_
                  simp -implicitDefEqProofs only [go_sem, qa, qb, qc, qd, qe, qf, qg, qh, qi, qj, qk, ↓reduceIte, h1598, h2070, h2073, g2075, h2076, h2081, g2082, g2083, g2084, h2085, h2088]
                  repeat with_reducible refine ⟨by first | kernel_rfl | decide, ?_⟩
                  exact cutQ _ ((Wk_le (.r (.r (.r (.r (.r (.r (.r (.k (.r (.r (.r (.r (.r (.r (.r (.k (.r .nil))))))))))))))))) (OLe.refl _)).trans (cmpS_ok (st' := ⟨[], [(0, .v .nl), (1, .dead), (2, .dead), (3, .ptr 3 0), (4, .ptr 4 0), (6, .v (.int .i64 x2065)), (7, .v (.bool true)), (9, .dead), (13, .dead), (18, .v (.int .i64 x1596)), (19, .v (.int .i64 x2065)), (20, .dead), (25, .v (.lst false n2077 c2078)), (26, .v (.int .i64 ((n2077 : Nat) : Int))), (27, .v (.int .i64 (IntKind.i64.wrap (x2080 + 1)))), (28, .dead), (43, .dead)], [(0, .p c2066), (1, .r [.sl false 5 0 n2067 1]), (3, .p c2068), (4, .r [.fn 79 [.ptr 0 0, .ptr 1 0, .ptr 3 0, .ptr 4 0]]), (5, .p c2069)], 6, []⟩) (by kernel_rfl))) ⟨n, Nat.lt_succ_self n, _, _, h2112, rfl⟩
                · have hh := grd_some h2112; clear h2112; obtain ⟨g2089, h2112⟩ := hh
                  have hh := grd_some h2112; clear h2112; obtain ⟨g2090, h2112⟩ := hh
                  have hh := getI_some h2112; clear h2112; obtain ⟨x2092, h2091, h2112⟩ := hh
                  refine W_sound tab_ok mixed 33 _ _ _ ?_
                  simp -implicitDefEqProofs only [go_sem, qa, qb, qc, qd, qe, qf, qg, qh, qi, qj, qk, ↓reduceIte, h1598, h2070, h2073, g2075, h2076, h2081, g2082, g2083, g2084, h2085, h2088, g2089, g2090, h2091]
                  repeat with_reducible refine ⟨by first | kernel_rfl | decide, ?_⟩
                  exact cutQ _ ((Wk_le (.r (.r (.r (.r (.r (.r (.r (.k (.r (.r (.r (.r (.r (.r (.r (.k (.r .nil))))))))))))))))) (OLe.refl _)).trans (cmpS_ok (st' := ⟨[], [(0, .v .nl), (1, .dead), (2, .dead), (3, .ptr 3 0), (4, .ptr 4 0), (6, .v (.int .i64 x2065)), (7, .v (.bool (x2092 == x2065))), (9, .dead), (13, .dead), (18, .v (.int .i64 x1596)), (19, .v (.int .i64 x2065)), (20, .dead), (25, .v (.lst false n2077 c2078)), (26, .v (.int .i64 ((n2077 : Nat) : Int))), (27, .v (.int .i64 (IntKind.i64.wrap (x2080 + 1)))), (28, .dead), (43, .dead)], [(0, .p c2066), (1, .r [.sl false 5 0 n2067 1]), (3, .p c2068), (4, .r [.fn 79 [.ptr 0 0, .ptr 1 0, .ptr 3 0, .ptr 4 0]]), (5, .p c2069)], 6, []⟩) (by kernel_rfl))) ⟨n, Nat.lt_succ_self n, _, _, h2112, rfl⟩
              · refine W_sound tab_ok mixed 7 _ _ _ ?_
                simp -implicitDefEqProofs only [go_sem, qa, qb, qc, qd, qe, qf, qg, qh, qi, qj, qk, ↓reduceIte, h1598, h2070, h2073, g2075, h2076, h2081]
                repeat with_reducible refine ⟨by first | kernel_rfl | decide, ?_⟩
                obtain rfl := Option.some.inj h2112
                exact cutQ _ ((Wk_le (.r (.r (.r (.r (.r (.r (.r (.r (.r (.r (.r (.r (.k (.k (.k (.k (.r .nil))))))))))))))))) (OLe.refl _)).trans (cmpS_ok (st' := ⟨[], [(0, .v .nl), (1, .dead), (2, .dead), (3, .ptr 3 0), (4, .ptr 4 0), (6, .v (.int .i64 x2065)), (7, .v (.bool b2079)), (9, .dead), (13, .dead), (18, .v (.int .i64 x1596)), (19, .v (.int .i64 x2065)), (20, .dead), (25, .dead), (26, .dead), (27, .dead), (28, .dead), (43, .dead)], [(0, .p c2066), (1, .r [.sl false 5 0 n2067 1]), (3, .p c2068), (4, .r [.fn 79 [.ptr 0 0, .ptr 1 0, .ptr 3 0, .ptr 4 0]]), (5, .p c2069)], 6, []⟩) (by kernel_rfl))) ⟨_, rfl, rfl⟩
          · rintro _ ⟨b2093, rfl, rfl⟩
            have hh := brn_some h2113; clear h2113; rcases hh with ⟨h2094, h2113⟩ | ⟨h2094, h2113⟩
            · refine W_sound tab_ok mixed 12 _ _ _ ?_
              simp -implicitDefEqProofs only [go_sem, qa, qb, qc, qd, qe, qf, qg, qh, qi, qj, qk, ↓reduceIte, h1598, h2070, h2073, g2075, h2076, h2094]
              repeat with_reducible refine ⟨by first | kernel_rfl | decide, ?_⟩
              exact cutQ _ ((Wk_le (.r (.r (.r (.r (.r (.k (.k (.r (.r (.r (.r (.r (.r (.r (.r (.r (.k .nil))))))))))))))))) (OLe.refl _)).trans (cmpS_ok (st' := ⟨[], [(0, .v .nl), (1, .dead), (2, .dead), (3, .ptr 3 0), (4, .ptr 4 0), (6, .dead), (7, .dead), (9, .dead), (13, .dead), (18, .v (.int .i64 x1596)), (19, .v (.int .i64 (IntKind.i64.wrap (x2065 + 1)))), (20, .dead), (25, .dead), (26, .dead), (27, .dead), (28, .dead), (43, .dead)], [(0, .p c2066), (1, .r [.sl false 5 0 n2067 1]), (3, .p c2068), (4, .r [.fn 79 [.ptr 0 0, .ptr 1 0, .ptr 3 0, .ptr 4 0]]), (5, .p c2069)], 6, []⟩) (by kernel_rfl))) ⟨n, Nat.lt_succ_self n, _, _, _, _, _, h2113, rfl⟩
            · have hh := bnd'_some h2113; clear h2113; obtain ⟨⟨c2096, n2097, c2098, c2099⟩, h2095, h2113⟩ := hh
              (try dsimp only at h2113)
              refine W_sound tab_ok mixed 17 _ _ _ ?_
              simp -implicitDefEqProofs only [go_sem, qa, qb, qc, qd, qe, qf, qg, qh, qi, qj, qk, ↓reduceIte, h1598, h2070, h2073, g2075, h2076, h2094]
              repeat with_reducible refine ⟨by first | kernel_rfl | decide, ?_⟩
              refine Wp_callDF [(59, [(.int .i64 x2065)])] [0, 1, 5, 3, 4] (c79_3_a N N _ _ _ _ _ _ _ _ _ h2095) rfl rfl rfl (by first | rfl | (simp only [go_sem, qa, qb, qc, qd, qe, qf, qg, qh, qi, qj, qk, ↓reduceIte, h1598, h2070, h2073, g2075, h2076, h2094] <;> rfl)) rfl (by kernel_rfl) rfl rfl (by simp [roF, obL]) ?_
              refine W_sound tab_ok mixed 6 _ _ _ ?_
              simp -implicitDefEqProofs only [go_sem, qa, qb, qc, qd, qe, qf, qg, qh, qi, qj, qk, ↓reduceIte, h1598, h2070, h2073, g2075, h2076, h2094]
              repeat with_reducible refine ⟨by first | kernel_rfl | decide, ?_⟩
              exact cutQ _ ((Wk_le (.r (.r (.r (.r (.r (.k (.k (.r (.r (.r (.r (.r (.r (.r (.r (.r (.k .nil))))))))))))))))) (OLe.refl _)).trans (cmpS_ok (st' := ⟨[], [(0, .v .nl), (1, .dead), (2, .dead), (3, .ptr 3 0), (4, .ptr 4 0), (6, .dead), (7, .dead), (9, .dead), (13, .dead), (18, .v (.int .i64 x1596)), (19, .v (.int .i64 (IntKind.i64.wrap (x2065 + 1)))), (20, .dead), (25, .dead), (26, .dead), (27, .dead), (28, .dead), (43, .dead)], [(0, .p c2096), (1, .r [.sl false 5 0 n2097 1]), (3, .p c2098), (4, .r [.fn 79 [.ptr 0 0, .ptr 1 0, .ptr 3 0, .ptr 4 0]]), (5, .p c2099)], 6, []⟩) (by kernel_rfl))) ⟨n, Nat.lt_succ_self n, _, _, _, _, _, h2113, rfl⟩
        · refine W_sound tab_ok mixed 7 _ _ _ ?_
          simp -implicitDefEqProofs only [go_sem, qa, qb, qc, qd, qe, qf, qg, qh, qi, qj, qk, ↓reduceIte, h1598, h2070]
          repeat with_reducible refine ⟨by first | kernel_rfl | decide, ?_⟩
          obtain rfl := Option.some.inj h2109
          exact cutQ _ ((Wk_le (.k (.r (.r (.k (.k (.r (.r (.r (.r (.k (.k (.k (.r (.r (.r (.r (.r .nil))))))))))))))))) (OLe.refl _)).trans (cmpS_ok (st' := ⟨[], [(0, .dead), (1, .dead), (2, .dead), (3, .dead), (4, .dead), (6, .dead), (7, .dead), (9, .dead), (13, .dead), (18, .dead), (19, .dead), (20, .dead), (25, .dead), (26, .dead), (27, .dead), (28, .dead), (43, .dead)], [(0, .p c2066), (1, .r [.sl false 5 0 n2067 1]), (3, .p c2068), (4, .r [.fn 79 [.ptr 0 0, .ptr 1 0, .ptr 3 0, .ptr 4 0]]), (5, .p c2069)], 6, []⟩) (by kernel_rfl))) ⟨_, _, _, _, rfl, rfl⟩
    · rintro _ ⟨c2100, n2101, c2102, c2103, rfl, rfl⟩
      (try dsimp only at h2110)
      refine W_sound tab_ok mixed 1 _ _ _ ?_
      simp -implicitDefEqProofs only [go_sem, qa, qb, qc, qd, qe, qf, qg, qh, qi, qj, qk, ↓reduceIte, h1598]
      repeat with_reducible refine ⟨by first | kernel_rfl | decide, ?_⟩
      obtain rfl := Option.some.inj h2110
      exact finD (e2 := [(0, .dead), (1, .dead), (2, .dead), (3, .dead), (4, .dead), (6, .dead), (7, .dead), (9, .dead), (13, .dead), (18, .dead), (19, .dead), (20, .dead), (25, .dead), (26, .dead), (27, .dead), (28, .dead), (43, .dead)]) (ob2 := [(0, .p c2100), (1, .r [.sl false 5 0 n2101 1]), (3, .p c2102), (4, .r [.fn 79 [.ptr 0 0, .ptr 1 0, .ptr 3 0, .ptr 4 0]]), (5, .p c2103)]) (st' := ⟨[], [(0, .dead), (1, .dead), (2, .dead), (3, .dead), (4, .dead), (6, .dead), (7, .dead), (9, .dead), (13, .dead), (18, .dead), (19, .dead), (20, .dead), (25, .dead), (26, .dead), (27, .dead), (28, .dead), (43, .dead)], [(0, .p c2100), (1, .r [.sl false 5 0 n2101 1]), (3, .p c2102), (4, .r [.fn 79 [.ptr 0 0, .ptr 1 0, .ptr 3 0, .ptr 4 0]]), (5, .p c2103)], 6, []⟩) (.r (.r (.r (.r (.r (.r (.r (.r (.r (.r (.r (.r (.r (.r (.r (.r (.r .nil))))))))))))))))) (.cons _ _ _ _ _ (DLes.refl _) (.cons _ _ _ _ _ (DLes.refl _) (.cons _ _ _ _ _ (DLes.refl _) (.cons _ _ _ _ _ (DLes.refl _) (.cons _ _ _ _ _ (DLes.refl _) .nil))))) (by kernel_rfl) (by simp only [go_sem, qa, qb, qc, qd, qe, qf, qg, qh, qi, qj, qk, ↓reduceIte, resQ_tmp, resQ_cell, resQ_nil, retD_one, retD_two, retD_three, retD_none] <;> first | rfl | exact ⟨rfl, rfl⟩ | (try simp [R.val, retD_one, retD_two, retD_three, retD_none]))
theorem c79_a (N : Nat) (x1596 : Int) (p1597 : PV) (c1599 : List PV) (c1600 : List PV) (c1601 : List PV) (h : m79 N x1596 p1597 = some (.inl (c1599, c1600, c1601))) : V.Fn Tryd.prog 79 5 [.v .nl, .ptr 0 0, .ptr 1 0, .ptr 3 0, .ptr 4 0] [(0, .p [(.int .i64 x1596)]), (1, .r [.sl false 2 0 0 1]), (2, .p []), (3, .p [p1597]), (4, .r [.fn 79 [.ptr 0 0, .ptr 1 0, .ptr 3 0, .ptr 4 0]])] (fun d ob' => d = .v (.tup []) ∧ ob' = [(0, .p c1599), (1, .r [.sl false 5 0 1 1]), (3, .p c1600), (4, .r [.fn 79 [.ptr 0 0, .ptr 1 0, .ptr 3 0, .ptr 4 0]]), (5, .p c1601)]) := c79 N x1596 p1597 _ h
theorem c79_b (N : Nat) (x1596 : Int) (p1597 : PV) (c2104 : List PV) (n2105 : Nat) (c2106 : List PV) (c2107 : List PV) (h : m79 N x1596 p1597 = some (.inr (c2104, n2105, c2106, c2107))) : V.Fn Tryd.prog 79 5 [.v .nl, .ptr 0 0, .ptr 1 0, .ptr 3 0, .ptr 4 0] [(0, .p [(.int .i64 x1596)]), (1, .r [.sl false 2 0 0 1]), (2, .p []), (3, .p [p1597]), (4, .r [.fn 79 [.ptr 0 0, .ptr 1 0, .ptr 3 0, .ptr 4 0]])] (fun d ob' => d = .v (.tup []) ∧ ob' = [(0, .p c2104), (1, .r [.sl false 5 0 n2105 1]), (3, .p c2106), (4, .r [.fn 79 [.ptr 0 0, .ptr 1 0, .ptr 3 0, .ptr 4 0]]), (5, .p c2107)]) := c79 N x1596 p1597 _ h
def m38 (N : Nat) (x1591 : Int) (p1592 : PV) : Option (PV) :=
  getL p1592 fun n1594 c1595 =>
  bnd' (m79 N x1591 (.lst false n1594 c1595)) fun o =>
  match o with
  | .inl (c2115, c2116, c2117) =>
    grd (List.length c2117 = 1) <|
    some (.lst false 1 c2117)
  | .inr (c2119, n2120, c2121, c2122) =>
    grd (List.length c2122 = n2120) <|
    some (.lst false n2120 c2122)
theorem c38 (N : Nat) (x1591 : Int) (p1592 : PV) (r : PV)  (h : m38 N x1591 p1592 = some r) : FnP Tryd.prog 38 [(.int .i64 x1591), p1592] r := by
  unfold m38 at h
  refine Fn_of (sz := 11) tab_ok [0, 1, 2, 3, 4, 5, 6] [.tmp 4] Tryd.func38 rfl rfl rfl (by simp) ?_
  simp only [initSt, initEnv, List.map_cons, List.map_nil, List.getD_cons_zero, List.getD_cons_succ, List.getD_nil]
  have hh := getL_some h; clear h; obtain ⟨n1594, c1595, h1593, h⟩ := hh
  refine W_sound tab_ok mixed 20 _ _ _ ?_
  simp -implicitDefEqProofs only [go_sem, qa, qb, qc, qd, qe, qf, qg, qh, qi, qj, qk, ↓reduceIte, h1593]
  repeat with_reducible refine ⟨by first | kernel_rfl | decide, ?_⟩
  refine Wp_wkK (Wk_ownC 9 0 1 rfl rfl (by decide) (by decide)) rfl ?_
  simp -implicitDefEqProofs only [go_sem, qa, qb, qc, qd, qe, qf, qg, qh, qi, qj, qk, ↓reduceIte, setO, h1593]
  have hh := bnd'_some h; clear h; obtain ⟨oo, h2114, h⟩ := hh
  rcases oo with ⟨c2115, c2116, c2117⟩ | ⟨c2119, n2120, c2121, c2122⟩
  · (try dsimp only at h)
    refine W_sound tab_ok mixed 2 _ _ _ ?_
    simp -implicitDefEqProofs only [go_sem, qa, qb, qc, qd, qe, qf, qg, qh, qi, qj, qk, ↓reduceIte, h1593]
    repeat with_reducible refine ⟨by first | kernel_rfl | decide, ?_⟩
    refine Wp_callD [2, 9, 17, 3, 16] (c79_a N _ _ _ _ _ h2114) rfl rfl rfl (by first | rfl | (simp only [go_sem, qa, qb, qc, qd, qe, qf, qg, qh, qi, qj, qk, ↓reduceIte, h1593] <;> rfl)) rfl (by kernel_rfl) ?_
    refine W_sound tab_ok mixed 8 _ _ _ ?_
    simp -implicitDefEqProofs only [go_sem, qa, qb, qc, qd, qe, qf, qg, qh, qi, qj, qk, ↓reduceIte, h1593]
    repeat with_reducible refine ⟨by first | kernel_rfl | decide, ?_⟩
    have hh := grd_some h; clear h; obtain ⟨g2118, h⟩ := hh
    refine FinQ_wk (Wk_freeze 27 c2117 (by rfl) (by decide) (by decide)) ?_
    simp -implicitDefEqProofs only [go_sem, qa, qb, qc, qd, qe, qf, qg, qh, qi, qj, qk, ↓reduceIte, h1593, g2118]
    obtain rfl := Option.some.inj h
    exact finC [(4, .v (.lst false 1 c2117))] [(4, .v (.lst false 1 c2117))] (by simp [leE, lk_cons]) (.cons _ _ _ _ _ (.v _ _ (.refl _)) .nil) (by rfl) (by simp [leE, lk_cons]) (by decide) (by decide) rfl (by simp only [go_sem, qa, qb, qc, qd, qe, qf, qg, qh, qi, qj, qk, ↓reduceIte, resQ_tmp, resQ_cell, resQ_nil, retD_one, retD_two, retD_three, retD_none]; try simp [R.val, retD_one, retD_two, retD_three, retD_none])
  · (try dsimp only at h)
    refine W_sound tab_ok mixed 2 _ _ _ ?_
    simp -implicitDefEqProofs only [go_sem, qa, qb, qc, qd, qe, qf, qg, qh, qi, qj, qk, ↓reduceIte, h1593]
    repeat with_reducible refine ⟨by first | kernel_rfl | decide, ?_⟩
    refine Wp_callD [2, 9, 17, 3, 16] (c79_b N _ _ _ _ _ _ h2114) rfl rfl rfl (by first | rfl | (simp only [go_sem, qa, qb, qc, qd, qe, qf, qg, qh, qi, qj, qk, ↓reduceIte, h1593] <;> rfl)) rfl (by kernel_rfl) ?_
    refine W_sound tab_ok mixed 8 _ _ _ ?_
    simp -implicitDefEqProofs only [go_sem, qa, qb, qc, qd, qe, qf, qg, qh, qi, qj, qk, ↓reduceIte, h1593]
    repeat with_reducible refine ⟨by first | kernel_rfl | decide, ?_⟩
    have hh := grd_some h; clear h; obtain ⟨g2123, h⟩ := hh
    refine FinQ_wk (Wk_freeze 27 c2122 (by rfl) (by decide) (by decide)) ?_
    simp -implicitDefEqProofs only [go_sem, qa, qb, qc, qd, qe, qf, qg, qh, qi, qj, qk, ↓reduceIte, h1593, g2123]
    obtain rfl := Option.some.inj h
    exact finC [(4, .v (.lst false n2120 c2122))] [(4, .v (.lst false n2120 c2122))] (by simp [leE, lk_cons]) (.cons _ _ _ _ _ (.v _ _ (.refl _)) .nil) (by rfl) (by simp [leE, lk_cons]) (by decide) (by decide) rfl (by simp only [go_sem, qa, qb, qc, qd, qe, qf, qg, qh, qi, qj, qk, ↓reduceIte, resQ_tmp, resQ_cell, resQ_nil, retD_one, retD_two, retD_three, retD_none]; try simp [R.val, retD_one, retD_two, retD_three, retD_none])
def m44_2_L0 (N : Nat) (rec : PV → Int → Int → Bool → Option ((PV × Int × Bool))) (x2196 : Int) (n2202 : Nat) (c2203 : List PV) (n2207 : Nat) (c2208 : List PV) : Nat → Int → Int → Bool → Option ((Int × Bool))
  | 0, _, _, _ => none
  | n + 1, x2238, x2239, b2240 =>
    brn (decide (x2238 < ((n2207 : Nat) : Int))) (
      grd (0 ≤ x2238 ∧ x2238 < ((n2207 : Nat) : Int)) <|
      grd (0 < List.length (List.drop (Int.toNat x2238) c2208)) <|
      getL (gp c2208 (Int.toNat x2238)) fun n2246 c2247 =>
      grd (0 ≤ ((n2202 : Nat) : Int) ∧ ((n2202 : Nat) : Int) ≤ ((n2202 : Nat) : Int)) <|
      grd (List.length c2203 = n2202) <|
      grd ((n2202 + 1) ≤ 1099511627776) <|
      bnd' (rec (.lst false (n2202 + 1) (c2203 ++ [(.lst false n2246 c2247)])) x2196 x2239 b2240) fun (p2252, x2254, b2255) =>
      getT0 p2252 <|
      m44_2_L0 N rec x2196 n2202 c2203 n2207 c2208 n (IntKind.i64.wrap (x2238 + 1)) x2254 b2255) (
      some (x2239, b2240))
def m44_2 (N : Nat) : Nat → PV → Int → Int → Bool → Option ((PV × Int × Bool))
  | 0, _, _, _, _ => none
  | fu + 1, p2195, x2196, x2197, b2198 =>
    getL p2195 fun n2202 c2203 =>
    bnd' (m38 N x2196 (.lst false n2202 c2203)) fun p2204 =>
    getL p2204 fun n2207 c2208 =>
    brn (((n2202 : Nat) : Int) == (IntKind.i64.wrap (x2196 - 1))) (
      bnd' (m25 N x2196 (.lst false n2202 c2203)) fun p2210 =>
      getT2 p2210 fun p2213 p2214 =>
      getI .i64 p2213 fun x2216 =>
      getI .i64 p2214 fun x2218 =>
      brn b2198 (
        brn (x2218 == 0) (
          some ((.tup []), (IntKind.i64.wrap (x2197 + ((n2207 : Nat) : Int))), (x2216 == ((n2207 : Nat) : Int)))) (
          some ((.tup []), (IntKind.i64.wrap (x2197 + ((n2207 : Nat) : Int))), false))) (
        some ((.tup []), (IntKind.i64.wrap (x2197 + ((n2207 : Nat) : Int))), false))) (
      bnd' (m44_2_L0 N (m44_2 N fu) x2196 n2202 c2203 n2207 c2208 N 0 x2197 b2198) fun o =>
      match o with
      | (x2257, b2258) =>
        some ((.tup []), x2257, b2258))
theorem c44_2 (N : Nat) : ∀ (fu : Nat) (p2195 : PV) (x2196 : Int) (x2197 : Int) (b2198 : Bool) (r : PV) (x2261 : Int) (b2262 : Bool) (h : m44_2 N fu p2195 x2196 x2197 b2198 = some (r, x2261, b2262)), V.Fn Tryd.prog 44 4 [.v p2195, .ptr 0 0, .ptr 1 0, .ptr 2 0, .ptr 3 0] [(0, .p [(.int .i64 x2196)]), (1, .p [(.int .i64 x2197)]), (2, .p [(.bool b2198)]), (3, .r [.fn 44 [.ptr 0 0, .ptr 1 0, .ptr 2 0, .ptr 3 0]])] (fun d ob' => d = .v r ∧ ob' = [(0, .p [(.int .i64 x2196)]), (1, .p [(.int .i64 x2261)]), (2, .p [(.bool b2262)]), (3, .r [.fn 44 [.ptr 0 0, .ptr 1 0, .ptr 2 0, .ptr 3 0]])]) := by
  intro fu
  induction fu with
  | zero => intro p2195 x2196 x2197 b2198 r x2261 b2262 h; cases h
  | succ fu ih =>
    intro p2195 x2196 x2197 b2198 r x2261 b2262 h
    rw [m44_2] at h
    refine Fn_of (sz := 58) tab_ok [0, 1, 2, 3, 4, 6, 7, 8, 10, 18, 40, 41, 42, 43] [] Tryd.func44 rfl rfl rfl (by simp) ?_
    simp only [initSt, initEnv, List.map_cons, List.map_nil, List.getD_cons_zero, List.getD_cons_succ, List.getD_nil]
    have hh := getL_some h; clear h; obtain ⟨n2202, c2203, h2201, h⟩ := hh
    have hh := bnd'_some h; clear h; obtain ⟨p2204, h2205, h⟩ := hh
    refine W_sound tab_ok mixed 4 _ _ _ ?_
    simp -implicitDefEqProofs only [go_sem, qa, qb, qc, qd, qe, qf, qg, qh, qi, qj, qk, ↓reduceIte, h2201]
    repeat with_reducible refine ⟨by first | kernel_rfl | decide, ?_⟩
    refine Wp_callP (c38 N _ _ _ h2205) (by kernel_rfl) rfl rfl rfl rfl (by decide) ?_
    have hh := getL_some h; clear h; obtain ⟨n2207, c2208, h2206, h⟩ := hh
    have hh := brn_some h; clear h; rcases hh with ⟨h2209, h⟩ | ⟨h2209, h⟩
    · have hh := bnd'_some h; clear h; obtain ⟨p2210, h2211, h⟩ := hh
      refine W_sound tab_ok mixed 24 _ _ _ ?_
      simp -implicitDefEqProofs only [go_sem, qa, qb, qc, qd, qe, qf, qg, qh, qi, qj, qk, ↓reduceIte, h2201, h2206, h2209]
      repeat with_reducible refine ⟨by first | kernel_rfl | decide, ?_⟩
      refine Wp_callP (c25 N _ _ _ h2211) (by kernel_rfl) rfl rfl rfl rfl (by decide) ?_
      have hh := getT2_some h; clear h; obtain ⟨p2213, p2214, h2212, h⟩ := hh
      have hh := getI_some h; clear h; obtain ⟨x2216, h2215, h⟩ := hh
      have hh := getI_some h; clear h; obtain ⟨x2218, h2217, h⟩ := hh
      have hh := brn_some h; clear h; rcases hh with ⟨h2219, h⟩ | ⟨h2219, h⟩
      · have hh := brn_some h; clear h; rcases hh with ⟨h2220, h⟩ | ⟨h2220, h⟩
        · refine W_sound tab_ok mixed 23 _ _ _ ?_
          simp -implicitDefEqProofs only [go_sem, qa, qb, qc, qd, qe, qf, qg, qh, qi, qj, qk, ↓reduceIte, h2201, h2206, h2209, h2212, h2215, h2217, h2219, h2220]
          repeat with_reducible refine ⟨by first | kernel_rfl | decide, ?_⟩
          simp only [Option.some.injEq, Prod.mk.injEq] at h; obtain ⟨rfl, rfl, rfl⟩ := h
          exact finD (e2 := [(0, .dead), (1, .dead), (2, .dead), (3, .dead), (4, .dead), (6, .dead), (7, .dead), (8, .dead), (10, .dead), (18, .dead), (40, .dead), (41, .dead), (42, .dead), (43, .dead)]) (ob2 := [(0, .p [(.int .i64 x2196)]), (1, .p [(.int .i64 (IntKind.i64.wrap (x2197 + ((n2207 : Nat) : Int))))]), (2, .p [(.bool (x2216 == ((n2207 : Nat) : Int)))]), (3, .r [.fn 44 [.ptr 0 0, .ptr 1 0, .ptr 2 0, .ptr 3 0]])]) (st' := ⟨[], [(0, .dead), (1, .dead), (2, .dead), (3, .dead), (4, .dead), (6, .dead), (7, .dead), (8, .dead), (10, .dead), (18, .dead), (40, .dead), (41, .dead), (42, .dead), (43, .dead)], [(0, .p [(.int .i64 x2196)]), (1, .p [(.int .i64 (IntKind.i64.wrap (x2197 + ((n2207 : Nat) : Int))))]), (2, .p [(.bool (x2216 == ((n2207 : Nat) : Int)))]), (3, .r [.fn 44 [.ptr 0 0, .ptr 1 0, .ptr 2 0, .ptr 3 0]])], 4, []⟩) (.k (.k (.k (.k (.k (.k (.k (.k (.r (.k (.r (.r (.r (.r .nil)))))))))))))) (.cons _ _ _ _ _ (DLes.refl _) (.cons _ _ _ _ _ (DLes.refl _) (.cons _ _ _ _ _ (DLes.refl _) (.cons _ _ _ _ _ (DLes.refl _) .nil)))) (by kernel_rfl) (by simp only [go_sem, qa, qb, qc, qd, qe, qf, qg, qh, qi, qj, qk, ↓reduceIte, resQ_tmp, resQ_cell, resQ_nil, retD_one, retD_two, retD_three, retD_none]; try simp [R.val, retD_one, retD_two, retD_three, retD_none])
        · refine W_sound tab_ok mixed 23 _ _ _ ?_
          simp -implicitDefEqProofs only [go_sem, qa, qb, qc, qd, qe, qf, qg, qh, qi, qj, qk, ↓reduceIte, h2201, h2206, h2209, h2212, h2215, h2217, h2219, h2220]
          repeat with_reducible refine ⟨by first | kernel_rfl | decide, ?_⟩
          simp only [Option.some.injEq, Prod.mk.injEq] at h; obtain ⟨rfl, rfl, rfl⟩ := h
          exact finD (e2 := [(0, .dead), (1, .dead), (2, .dead), (3, .dead), (4, .dead), (6, .dead), (7, .dead), (8, .dead), (10, .dead), (18, .dead), (40, .dead), (41, .dead), (42, .dead), (43, .dead)]) (ob2 := [(0, .p [(.int .i64 x2196)]), (1, .p [(.int .i64 (IntKind.i64.wrap (x2197 + ((n2207 : Nat) : Int))))]), (2, .p [(.bool false)]), (3, .r [.fn 44 [.ptr 0 0, .ptr 1 0, .ptr 2 0, .ptr 3 0]])]) (st' := ⟨[], [(0, .dead), (1, .dead), (2, .dead), (3, .dead), (4, .dead), (6, .dead), (7, .dead), (8, .dead), (10, .dead), (18, .dead), (40, .dead), (41, .dead), (42, .dead), (43, .dead)], [(0, .p [(.int .i64 x2196)]), (1, .p [(.int .i64 (IntKind.i64.wrap (x2197 + ((n2207 : Nat) : Int))))]), (2, .p [(.bool false)]), (3, .r [.fn 44 [.ptr 0 0, .ptr 1 0, .ptr 2 0, .ptr 3 0]])], 4, []⟩) (.k (.k (.k (.k (.k (.k (.k (.k (.r (.k (.r (.r (.r (.r .nil)))))))))))))) (.cons _ _ _ _ _ (DLes.refl _) (.cons _ _ _ _ _ (DLes.refl _) (.cons _ _ _ _ _ (DLes.refl _) (.cons _ _ _ _ _ (DLes.refl _) .nil)))) (by kernel_rfl) (by simp only [go_sem, qa, qb, qc, qd, qe, qf, qg, qh, qi, qj, qk, ↓reduceIte, resQ_tmp, resQ_cell, resQ_nil, retD_one, retD_two, retD_three, retD_none]; try simp [R.val, retD_one, retD_two, retD_three, retD_none])
      · refine W_sound tab_ok mixed 23 _ _ _ ?_
        simp -implicitDefEqProofs only [go_sem, qa, qb, qc, qd, qe, qf, qg, qh, qi, qj, qk, ↓reduceIte, h2201, h2206, h2209, h2212, h2215, h2217, h2219]
        repeat with_reducible refine ⟨by first | kernel_rfl | decide, ?_⟩
        simp only [Option.some.injEq, Prod.mk.injEq] at h; obtain ⟨rfl, rfl, rfl⟩ := h
        exact finD (e2 := [(0, .dead), (1, .dead), (2, .dead), (3, .dead), (4, .dead), (6, .dead), (7, .dead), (8, .dead), (10, .dead), (18, .dead), (40, .dead), (41, .dead), (42, .dead), (43, .dead)]) (ob2 := [(0, .p [(.int .i64 x2196)]), (1, .p [(.int .i64 (IntKind.i64.wrap (x2197 + ((n2207 : Nat) : Int))))]), (2, .p [(.bool false)]), (3, .r [.fn 44 [.ptr 0 0, .ptr 1 0, .ptr 2 0, .ptr 3 0]])]) (st' := ⟨[], [(0, .dead), (1, .dead), (2, .dead), (3, .dead), (4, .dead), (6, .dead), (7, .dead), (8, .dead), (10, .dead), (18, .dead), (40, .dead), (41, .dead), (42, .dead), (43, .dead)], [(0, .p [(.int .i64 x2196)]), (1, .p [(.int .i64 (IntKind.i64.wrap (x2197 + ((n2207 : Nat) : Int))))]), (2, .p [(.bool false)]), (3, .r [.fn 44 [.ptr 0 0, .ptr 1 0, .ptr 2 0, .ptr 3 0]])], 4, []⟩) (.k (.k (.k (.k (.k (.k (.k (.k (.r (.k (.r (.r (.r (.r .nil)))))))))))))) (.cons _ _ _ _ _ (DLes.refl _) (.cons _ _ _ _ _ (DLes.refl _) (.cons _ _ _ _ _ (DLes.refl _) (.cons _ _ _ _ _ (DLes.refl _) .nil)))) (by kernel_rfl) (by simp only [go_sem, qa, qb, qc, qd, qe, qf, qg, qh, qi, qj, qk, ↓reduceIte, resQ_tmp, resQ_cell, resQ_nil, retD_one, retD_two, retD_three, retD_none]; try simp [R.val, retD_one, retD_two, retD_three, retD_none])
    · refine W_sound tab_ok mixed 19 _ _ _ ?_
      simp -implicitDefEqProofs only [go_sem, qa, qb, qc, qd, qe, qf, qg, qh, qi, qj, qk, ↓reduceIte, h2201, h2206, h2209]
      repeat with_reducible refine ⟨by first | kernel_rfl | decide, ?_⟩
      have hh := bnd'_some h; clear h; obtain ⟨o2263, h2264, h2265⟩ := hh
      refine Wp_cut (fun s => ∃ x2257, ∃ b2258, (x2257, b2258) = o2263 ∧ s = ⟨[], [(0, .dead), (1, .dead), (2, .dead), (3, .dead), (4, .dead), (6, .dead), (7, .dead), (8, .dead), (10, .dead), (18, .dead), (40, .dead), (41, .dead), (42, .dead), (43, .dead)], [(0, .p [(.int .i64 x2196)]), (1, .p [(.int .i64 x2257)]), (2, .p [(.bool b2258)]), (3, .r [.fn 44 [.ptr 0 0, .ptr 1 0, .ptr 2 0, .ptr 3 0]])], 4, []⟩) ?_ ?_
      · refine Wp_block ?_
        refine Wp_loopG (fun n s => ∃ x2238, ∃ x2239, ∃ b2240, m44_2_L0 N (m44_2 N fu) x2196 n2202 c2203 n2207 c2208 n x2238 x2239 b2240 = some o2263 ∧ s = ⟨[], [(0, .v (.lst false n2202 c2203)), (1, .dead), (2, .dead), (3, .dead), (4, .ptr 3 0), (6, .dead), (7, .dead), (8, .dead), (10, .dead), (18, .dead), (40, .v (.lst false n2207 c2208)), (41, .v (.int .i64 ((n2207 : Nat) : Int))), (42, .v (.int .i64 x2238)), (43, .dead)], [(0, .p [(.int .i64 x2196)]), (1, .p [(.int .i64 x2239)]), (2, .p [(.bool b2240)]), (3, .r [.fn 44 [.ptr 0 0, .ptr 1 0, .ptr 2 0, .ptr 3 0]])], 4, []⟩) N _ ((Wk_le (.r (.k (.k (.k (.r (.k (.r (.r (.r (.k (.r (.r (.r (.r .nil)))))))))))))) (OLe.refl _)).trans (cmpS_ok (st' := ⟨[], [(0, .v (.lst false n2202 c2203)), (1, .dead), (2, .dead), (3, .dead), (4, .ptr 3 0), (6, .dead), (7, .dead), (8, .dead), (10, .dead), (18, .dead), (40, .v (.lst false n2207 c2208)), (41, .v (.int .i64 ((n2207 : Nat) : Int))), (42, .v (.int .i64 0)), (43, .dead)], [(0, .p [(.int .i64 x2196)]), (1, .p [(.int .i64 x2197)]), (2, .p [(.bool b2198)]), (3, .r [.fn 44 [.ptr 0 0, .ptr 1 0, .ptr 2 0, .ptr 3 0]])], 4, []⟩) (by kernel_rfl))) ⟨_, _, _, h2264, rfl⟩ ?_
        clear h2264
        rintro n _ ⟨x2238, x2239, b2240, h2264, rfl⟩
        cases n with
        | zero => cases h2264
        | succ n =>
          rw [m44_2_L0] at h2264
          have hh := brn_some h2264; clear h2264; rcases hh with ⟨h2241, h2264⟩ | ⟨h2241, h2264⟩
          · have hh := grd_some h2264; clear h2264; obtain ⟨⟨g2242, g2243⟩, h2264⟩ := hh
            have hh := grd_some h2264; clear h2264; obtain ⟨g2244, h2264⟩ := hh
            have hh := getL_some h2264; clear h2264; obtain ⟨n2246, c2247, h2245, h2264⟩ := hh
            have hh := grd_some h2264; clear h2264; obtain ⟨⟨g2248, g2249⟩, h2264⟩ := hh
            have hh := grd_some h2264; clear h2264; obtain ⟨g2250, h2264⟩ := hh
            have hh := grd_some h2264; clear h2264; obtain ⟨g2251, h2264⟩ := hh
            have hh := bnd'_some h2264; clear h2264; obtain ⟨⟨p2252, x2254, b2255⟩, h2253, h2264⟩ := hh
            (try dsimp only at h2264)
            refine W_sound tab_ok mixed 26 _ _ _ ?_
            simp -implicitDefEqProofs only [go_sem, qa, qb, qc, qd, qe, qf, qg, qh, qi, qj, qk, ↓reduceIte, h2201, h2206, h2209, h2241, g2242, g2243, g2244, h2245, g2248, g2249, g2250, g2251]
            repeat with_reducible refine ⟨by first | kernel_rfl | decide, ?_⟩
            refine Wp_callDF [(59, (c2203 ++ [(.lst false n2246 c2247)]))] [0, 1, 2, 3] (ih _ _ _ _ _ _ _ h2253) rfl rfl rfl (by first | rfl | (simp only [go_sem, qa, qb, qc, qd, qe, qf, qg, qh, qi, qj, qk, ↓reduceIte, h2201, h2206, h2209, h2241, g2242, g2243, g2244, h2245, g2248, g2249, g2250, g2251] <;> rfl)) rfl (by kernel_rfl) rfl rfl (by simp [roF, obL]) ?_
            have hh := getT0_some h2264; clear h2264; obtain ⟨h2256, h2264⟩ := hh
            refine W_sound tab_ok mixed 6 _ _ _ ?_
            simp -implicitDefEqProofs only [go_sem, qa, qb, qc, qd, qe, qf, qg, qh, qi, qj, qk, ↓reduceIte, h2201, h2206, h2209, h2241, g2242, g2243, g2244, h2245, g2248, g2249, g2250, g2251, h2256]
            repeat with_reducible refine ⟨by first | kernel_rfl | decide, ?_⟩
            exact cutQ _ ((Wk_le (.r (.r (.r (.r (.r (.r (.r (.r (.k (.r (.r (.r (.r (.k .nil)))))))))))))) (OLe.refl _)).trans (cmpS_ok (st' := ⟨[], [(0, .v (.lst false n2202 c2203)), (1, .dead), (2, .dead), (3, .dead), (4, .ptr 3 0), (6, .dead), (7, .dead), (8, .dead), (10, .dead), (18, .dead), (40, .v (.lst false n2207 c2208)), (41, .v (.int .i64 ((n2207 : Nat) : Int))), (42, .v (.int .i64 (IntKind.i64.wrap (x2238 + 1)))), (43, .dead)], [(0, .p [(.int .i64 x2196)]), (1, .p [(.int .i64 x2254)]), (2, .p [(.bool b2255)]), (3, .r [.fn 44 [.ptr 0 0, .ptr 1 0, .ptr 2 0, .ptr 3 0]])], 4, []⟩) (by kernel_rfl))) ⟨n, Nat.lt_succ_self n, _, _, _, h2264, rfl⟩
          · refine W_sound tab_ok mixed 7 _ _ _ ?_
            simp -implicitDefEqProofs only [go_sem, qa, qb, qc, qd, qe, qf, qg, qh, qi, qj, qk, ↓reduceIte, h2201, h2206, h2209, h2241]
            repeat with_reducible refine ⟨by first | kernel_rfl | decide, ?_⟩
            obtain rfl := Option.some.inj h2264
            exact cutQ _ ((Wk_le (.k (.r (.r (.r (.k (.r (.r (.r (.r (.r (.k (.k (.k (.k .nil)))))))))))))) (OLe.refl _)).trans (cmpS_ok (st' := ⟨[], [(0, .dead), (1, .dead), (2, .dead), (3, .dead), (4, .dead), (6, .dead), (7, .dead), (8, .dead), (10, .dead), (18, .dead), (40, .dead), (41, .dead), (42, .dead), (43, .dead)], [(0, .p [(.int .i64 x2196)]), (1, .p [(.int .i64 x2239)]), (2, .p [(.bool b2240)]), (3, .r [.fn 44 [.ptr 0 0, .ptr 1 0, .ptr 2 0, .ptr 3 0]])], 4, []⟩) (by kernel_rfl))) ⟨_, _, rfl, rfl⟩
      · rintro _ ⟨x2257, b2258, rfl, rfl⟩
        (try dsimp only at h2265)
        refine W_sound tab_ok mixed 1 _ _ _ ?_
        simp -implicitDefEqProofs only [go_sem, qa, qb, qc, qd, qe, qf, qg, qh, qi, qj, qk, ↓reduceIte, h2201, h2206, h2209]
        repeat with_reducible refine ⟨by first | kernel_rfl | decide, ?_⟩
        simp only [Option.some.injEq, Prod.mk.injEq] at h2265; obtain ⟨rfl, rfl, rfl⟩ := h2265
        exact finD (e2 := [(0, .dead), (1, .dead), (2, .dead), (3, .dead), (4, .dead), (6, .dead), (7, .dead), (8, .dead), (10, .dead), (18, .dead), (40, .dead), (41, .dead), (42, .dead), (43, .dead)]) (ob2 := [(0, .p [(.int .i64 x2196)]), (1, .p [(.int .i64 x2257)]), (2, .p [(.bool b2258)]), (3, .r [.fn 44 [.ptr 0 0, .ptr 1 0, .ptr 2 0, .ptr 3 0]])]) (st' := ⟨[], [(0, .dead), (1, .dead), (2, .dead), (3, .dead), (4, .dead), (6, .dead), (7, .dead), (8, .dead), (10, .dead), (18, .dead), (40, .dead), (41, .dead), (42, .dead), (43, .dead)], [(0, .p [(.int .i64 x2196)]), (1, .p [(.int .i64 x2257)]), (2, .p [(.bool b2258)]), (3, .r [.fn 44 [.ptr 0 0, .ptr 1 0, .ptr 2 0, .ptr 3 0]])], 4, []⟩) (.r (.r (.r (.r (.r (.r (.r (.r (.r (.r (.r (.r (.r (.r .nil)))))))))))))) (.cons _ _ _ _ _ (DLes.refl _) (.cons _ _ _ _ _ (DLes.refl _) (.cons _ _ _ _ _ (DLes.refl _) (.cons _ _ _ _ _ (DLes.refl _) .nil)))) (by kernel_rfl) (by simp only [go_sem, qa, qb, qc, qd, qe, qf, qg, qh, qi, qj, qk, ↓reduceIte, resQ_tmp, resQ_cell, resQ_nil, retD_one, retD_two, retD_three, retD_none]; try simp [R.val, retD_one, retD_two, retD_three, retD_none])
def m44_L0 (N : Nat) (x2290 : Int) (n2298 : Nat) (c2299 : List PV) : Nat → Int → Int → Bool → Option ((Int × Bool))
  | 0, _, _, _ => none
  | n + 1, x2325, x2326, b2327 =>
    brn (decide (x2325 < ((n2298 : Nat) : Int))) (
      grd (0 ≤ x2325 ∧ x2325 < ((n2298 : Nat) : Int)) <|
      grd (0 < List.length (List.drop (Int.toNat x2325) c2299)) <|
      getL (gp c2299 (Int.toNat x2325)) fun n2333 c2334 =>
      bnd' (m44_2 N N (.lst false 1 [(.lst false n2333 c2334)]) x2290 x2326 b2327) fun (p2335, x2337, b2338) =>
      getT0 p2335 <|
      m44_L0 N x2290 n2298 c2299 n (IntKind.i64.wrap (x2325 + 1)) x2337 b2338) (
      some (x2326, b2327))
def m44 (N : Nat) (x2290 : Int) (x2291 : Int) (b2292 : Bool) : Option ((PV × Int × Bool)) :=
  bnd' (m38 N x2290 (.lst false 0 [])) fun p2295 =>
  getL p2295 fun n2298 c2299 =>
  brn (0 == (IntKind.i64.wrap (x2290 - 1))) (
    bnd' (m25 N x2290 (.lst false 0 [])) fun p2301 =>
    getT2 p2301 fun p2304 p2305 =>
    getI .i64 p2304 fun x2307 =>
    getI .i64 p2305 fun x2309 =>
    brn b2292 (
      brn (x2309 == 0) (
        some ((.tup []), (IntKind.i64.wrap (x2291 + ((n2298 : Nat) : Int))), (x2307 == ((n2298 : Nat) : Int)))) (
        some ((.tup []), (IntKind.i64.wrap (x2291 + ((n2298 : Nat) : Int))), false))) (
      some ((.tup []), (IntKind.i64.wrap (x2291 + ((n2298 : Nat) : Int))), false))) (
    bnd' (m44_L0 N x2290 n2298 c2299 N 0 x2291 b2292) fun o =>
    match o with
    | (x2340, b2341) =>
      some ((.tup []), x2340, b2341))
theorem c44 (N : Nat) (x2290 : Int) (x2291 : Int) (b2292 : Bool) (r : PV) (x2344 : Int) (b2345 : Bool) (h : m44 N x2290 x2291 b2292 = some (r, x2344, b2345)) : V.Fn Tryd.prog 44 4 [.v .nl, .ptr 0 0, .ptr 1 0, .ptr 2 0, .ptr 3 0] [(0, .p [(.int .i64 x2290)]), (1, .p [(.int .i64 x2291)]), (2, .p [(.bool b2292)]), (3, .r [.fn 44 [.ptr 0 0, .ptr 1 0, .ptr 2 0, .ptr 3 0]])] (fun d ob' => d = .v r ∧ ob' = [(0, .p [(.int .i64 x2290)]), (1, .p [(.int .i64 x2344)]), (2, .p [(.bool b2345)]), (3, .r [.fn 44 [.ptr 0 0, .ptr 1 0, .ptr 2 0, .ptr 3 0]])]) := by
  unfold m44 at h
  refine Fn_of (sz := 58) tab_ok [0, 1, 2, 3, 4, 6, 7, 8, 10, 18, 40, 41, 42, 43] [] Tryd.func44 rfl rfl rfl (by simp) ?_
  simp only [initSt, initEnv, List.map_cons, List.map_nil, List.getD_cons_zero, List.getD_cons_succ, List.getD_nil]
  have hh := bnd'_some h; clear h; obtain ⟨p2295, h2296, h⟩ := hh
  refine W_sound tab_ok mixed 4 _ _ _ ?_
  simp -implicitDefEqProofs only [go_sem, qa, qb, qc, qd, qe, qf, qg, qh, qi, qj, qk, ↓reduceIte]
  repeat with_reducible refine ⟨by first | kernel_rfl | decide, ?_⟩
  refine Wp_callP (FnP_le (c38 N _ _ _ h2296) (.cons _ _ _ _ (.refl _) (.cons _ _ _ _ (.nl false) .nil)) (.refl _)) (by kernel_rfl) rfl rfl rfl rfl (by decide) ?_
  have hh := getL_some h; clear h; obtain ⟨n2298, c2299, h2297, h⟩ := hh
  have hh := brn_some h; clear h; rcases hh with ⟨h2300, h⟩ | ⟨h2300, h⟩
  · have hh := bnd'_some h; clear h; obtain ⟨p2301, h2302, h⟩ := hh
    refine W_sound tab_ok mixed 24 _ _ _ ?_
    simp -implicitDefEqProofs only [go_sem, qa, qb, qc, qd, qe, qf, qg, qh, qi, qj, qk, ↓reduceIte, h2297, h2300]
    repeat with_reducible refine ⟨by first | kernel_rfl | decide, ?_⟩
    refine Wp_callP (FnP_le (c25 N _ _ _ h2302) (.cons _ _ _ _ (.refl _) (.cons _ _ _ _ (.nl false) .nil)) (.refl _)) (by kernel_rfl) rfl rfl rfl rfl (by decide) ?_
    have hh := getT2_some h; clear h; obtain ⟨p2304, p2305, h2303, h⟩ := hh
    have hh := getI_some h; clear h; obtain ⟨x2307, h2306, h⟩ := hh
    have hh := getI_some h; clear h; obtain ⟨x2309, h2308, h⟩ := hh
    have hh := brn_some h; clear h; rcases hh with ⟨h2310, h⟩ | ⟨h2310, h⟩
    · have hh := brn_some h; clear h; rcases hh with ⟨h2311, h⟩ | ⟨h2311, h⟩
      · refine W_sound tab_ok mixed 23 _ _ _ ?_
        simp -implicitDefEqProofs only [go_sem, qa, qb, qc, qd, qe, qf, qg, qh, qi, qj, qk, ↓reduceIte, h2297, h2300, h2303, h2306, h2308, h2310, h2311]
        repeat with_reducible refine ⟨by first | kernel_rfl | decide, ?_⟩
        simp only [Option.some.injEq, Prod.mk.injEq] at h; obtain ⟨rfl, rfl, rfl⟩ := h
        exact finD (e2 := [(0, .dead), (1, .dead), (2, .dead), (3, .dead), (4, .dead), (6, .dead), (7, .dead), (8, .dead), (10, .dead), (18, .dead), (40, .dead), (41, .dead), (42, .dead), (43, .dead)]) (ob2 := [(0, .p [(.int .i64 x2290)]), (1, .p [(.int .i64 (IntKind.i64.wrap (x2291 + ((n2298 : Nat) : Int))))]), (2, .p [(.bool (x2307 == ((n2298 : Nat) : Int)))]), (3, .r [.fn 44 [.ptr 0 0, .ptr 1 0, .ptr 2 0, .ptr 3 0]])]) (st' := ⟨[], [(0, .dead), (1, .dead), (2, .dead), (3, .dead), (4, .dead), (6, .dead), (7, .dead), (8, .dead), (10, .dead), (18, .dead), (40, .dead), (41, .dead), (42, .dead), (43, .dead)], [(0, .p [(.int .i64 x2290)]), (1, .p [(.int .i64 (IntKind.i64.wrap (x2291 + ((n2298 : Nat) : Int))))]), (2, .p [(.bool (x2307 == ((n2298 : Nat) : Int)))]), (3, .r [.fn 44 [.ptr 0 0, .ptr 1 0, .ptr 2 0, .ptr 3 0]])], 4, []⟩) (.k (.k (.k (.k (.k (.k (.k (.k (.r (.k (.r (.r (.r (.r .nil)))))))))))))) (.cons _ _ _ _ _ (DLes.refl _) (.cons _ _ _ _ _ (DLes.refl _) (.cons _ _ _ _ _ (DLes.refl _) (.cons _ _ _ _ _ (DLes.refl _) .nil)))) (by kernel_rfl) (by simp only [go_sem, qa, qb, qc, qd, qe, qf, qg, qh, qi, qj, qk, ↓reduceIte, resQ_tmp, resQ_cell, resQ_nil, retD_one, retD_two, retD_three, retD_none]; try simp [R.val, retD_one, retD_two, retD_three, retD_none])
      · refine W_sound tab_ok mixed 23 _ _ _ ?_
        simp -implicitDefEqProofs only [go_sem, qa, qb, qc, qd, qe, qf, qg, qh, qi, qj, qk, ↓reduceIte, h2297, h2300, h2303, h2306, h2308, h2310, h2311]
        repeat with_reducible refine ⟨by first | kernel_rfl | decide, ?_⟩
        simp only [Option.some.injEq, Prod.mk.injEq] at h; obtain ⟨rfl, rfl, rfl⟩ := h
        exact finD (e2 := [(0, .dead), (1, .dead), (2, .dead), (3, .dead), (4, .dead), (6, .dead), (7, .dead), (8, .dead), (10, .dead), (18, .dead), (40, .dead), (41, .dead), (42, .dead), (43, .dead)]) (ob2 := [(0, .p [(.int .i64 x2290)]), (1, .p [(.int .i64 (IntKind.i64.wrap (x2291 + ((n2298 : Nat) : Int))))]), (2, .p [(.bool false)]), (3, .r [.fn 44 [.ptr 0 0, .ptr 1 0, .ptr 2 0, .ptr 3 0]])]) (st' := ⟨[], [(0, .dead), (1, .dead), (2, .dead), (3, .dead), (4, .dead), (6, .dead), (7, .dead), (8, .dead), (10, .dead), (18, .dead), (40, .dead), (41, .dead), (42, .dead), (43, .dead)], [(0, .p [(.int .i64 x2290)]), (1, .p [(.int .i64 (IntKind.i64.wrap (x2291 + ((n2298 : Nat) : Int))))]), (2, .p [(.bool false)]), (3, .r [.fn 44 [.ptr 0 0, .ptr 1 0, .ptr 2 0, .ptr 3 0]])], 4, []⟩) (.k (.k (.k (.k (.k (.k (.k (.k (.r (.k (.r (.r (.r (.r .nil)))))))))))))) (.cons _ _ _ _ _ (DLes.refl _) (.cons _ _ _ _ _ (DLes.refl _) (.cons _ _ _ _ _ (DLes.refl _) (.cons _ _ _ _ _ (DLes.refl _) .nil)))) (by kernel_rfl) (by simp only [go_sem, qa, qb, qc, qd, qe, qf, qg, qh, qi, qj, qk, ↓reduceIte, resQ_tmp, resQ_cell, resQ_nil, retD_one, retD_two, retD_three, retD_none]; try simp [R.val, retD_one, retD_two, retD_three, retD_none])
    · refine W_sound tab_ok mixed 23 _ _ _ ?_
      simp -implicitDefEqProofs only [go_sem, qa, qb, qc, qd, qe, qf, qg, qh, qi, qj, qk, ↓reduceIte, h2297, h2300, h2303, h2306, h2308, h2310]
      repeat with_reducible refine ⟨by first | kernel_rfl | decide, ?_⟩
      simp only [Option.some.injEq, Prod.mk.injEq] at h; obtain ⟨rfl, rfl, rfl⟩ := h
      exact finD (e2 := [(0, .dead), (1, .dead), (2, .dead), (3, .dead), (4, .dead), (6, .dead), (7, .dead), (8, .dead), (10, .dead), (18, .dead), (40, .dead), (41, .dead), (42, .dead), (43, .dead)]) (ob2 := [(0, .p [(.int .i64 x2290)]), (1, .p [(.int .i64 (IntKind.i64.wrap (x2291 + ((n2298 : Nat) : Int))))]), (2, .p [(.bool false)]), (3, .r [.fn 44 [.ptr 0 0, .ptr 1 0, .ptr 2 0, .ptr 3 0]])]) (st' := ⟨[], [(0, .dead), (1, .dead), (2, .dead), (3, .dead), (4, .dead), (6, .dead), (7, .dead), (8, .dead), (10, .dead), (18, .dead), (40, .dead), (41, .dead), (42, .dead), (43, .dead)], [(0, .p [(.int .i64 x2290)]), (1, .p [(.int .i64 (IntKind.i64.wrap (x2291 + ((n2298 : Nat) : Int))))]), (2, .p [(.bool false)]), (3, .r [.fn 44 [.ptr 0 0, .ptr 1 0, .ptr 2 0, .ptr 3 0]])], 4, []⟩) (.k (.k (.k (.k (.k (.k (.k (.k (.r (.k (.r (.r (.r (.r .nil)))))))))))))) (.cons _ _ _ _ _ (DLes.refl _) (.cons _ _ _ _ _ (DLes.refl _) (.cons _ _ _ _ _ (DLes.refl _) (.cons _ _ _ _ _ (DLes.refl _) .nil)))) (by kernel_rfl) (by simp only [go_sem, qa, qb, qc, qd, qe, qf, qg, qh, qi, qj, qk, ↓reduceIte, resQ_tmp, resQ_cell, resQ_nil, retD_one, retD_two, retD_three, retD_none]; try simp [R.val, retD_one, retD_two, retD_three, retD_none])
  · refine W_sound tab_ok mixed 19 _ _ _ ?_
    simp -implicitDefEqProofs only [go_sem, qa, qb, qc, qd, qe, qf, qg, qh, qi, qj, qk, ↓reduceIte, h2297, h2300]
    repeat with_reducible refine ⟨by first | kernel_rfl | decide, ?_⟩
    have hh := bnd'_some h; clear h; obtain ⟨o2346, h2347, h2348⟩ := hh
    refine Wp_cut (fun s => ∃ x2340, ∃ b2341, (x2340, b2341) = o2346 ∧ s = ⟨[], [(0, .dead), (1, .dead), (2, .dead), (3, .dead), (4, .dead), (6, .dead), (7, .dead), (8, .dead), (10, .dead), (18, .dead), (40, .dead), (41, .dead), (42, .dead), (43, .dead)], [(0, .p [(.int .i64 x2290)]), (1, .p [(.int .i64 x2340)]), (2, .p [(.bool b2341)]), (3, .r [.fn 44 [.ptr 0 0, .ptr 1 0, .ptr 2 0, .ptr 3 0]])], 4, []⟩) ?_ ?_
    · refine Wp_block ?_
      refine Wp_loopG (fun n s => ∃ x2325, ∃ x2326, ∃ b2327, m44_L0 N x2290 n2298 c2299 n x2325 x2326 b2327 = some o2346 ∧ s = ⟨[], [(0, .v .nl), (1, .dead), (2, .dead), (3, .dead), (4, .ptr 3 0), (6, .dead), (7, .dead), (8, .dead), (10, .dead), (18, .dead), (40, .v (.lst false n2298 c2299)), (41, .v (.int .i64 ((n2298 : Nat) : Int))), (42, .v (.int .i64 x2325)), (43, .dead)], [(0, .p [(.int .i64 x2290)]), (1, .p [(.int .i64 x2326)]), (2, .p [(.bool b2327)]), (3, .r [.fn 44 [.ptr 0 0, .ptr 1 0, .ptr 2 0, .ptr 3 0]])], 4, []⟩) N _ ((Wk_le (.r (.k (.k (.k (.r (.k (.r (.r (.r (.k (.r (.r (.r (.r .nil)))))))))))))) (OLe.refl _)).trans (cmpS_ok (st' := ⟨[], [(0, .v .nl), (1, .dead), (2, .dead), (3, .dead), (4, .ptr 3 0), (6, .dead), (7, .dead), (8, .dead), (10, .dead), (18, .dead), (40, .v (.lst false n2298 c2299)), (41, .v (.int .i64 ((n2298 : Nat) : Int))), (42, .v (.int .i64 0)), (43, .dead)], [(0, .p [(.int .i64 x2290)]), (1, .p [(.int .i64 x2291)]), (2, .p [(.bool b2292)]), (3, .r [.fn 44 [.ptr 0 0, .ptr 1 0, .ptr 2 0, .ptr 3 0]])], 4, []⟩) (by kernel_rfl))) ⟨_, _, _, h2347, rfl⟩ ?_
      clear h2347
      rintro n _ ⟨x2325, x2326, b2327, h2347, rfl⟩
      cases n with
      | zero => cases h2347
      | succ n =>
        rw [m44_L0] at h2347
        have hh := brn_some h2347; clear h2347; rcases hh with ⟨h2328, h2347⟩ | ⟨h2328, h2347⟩
        · have hh := grd_some h2347; clear h2347; obtain ⟨⟨g2329, g2330⟩, h2347⟩ := hh
          have hh := grd_some h2347; clear h2347; obtain ⟨g2331, h2347⟩ := hh
          have hh := getL_some h2347; clear h2347; obtain ⟨n2333, c2334, h2332, h2347⟩ := hh
          have hh := bnd'_some h2347; clear h2347; obtain ⟨⟨p2335, x2337, b2338⟩, h2336, h2347⟩ := hh
          (try dsimp only at h2347)
          refine W_sound tab_ok mixed 26 _ _ _ ?_
          simp -implicitDefEqProofs only [go_sem, qa, qb, qc, qd, qe, qf, qg, qh, qi, qj, qk, ↓reduceIte, h2297, h2300, h2328, g2329, g2330, g2331, h2332]
          repeat with_reducible refine ⟨by first | kernel_rfl | decide, ?_⟩
          refine Wp_callDF [(59, [(.lst false n2333 c2334)])] [0, 1, 2, 3] (c44_2 N N _ _ _ _ _ _ _ h2336) rfl rfl rfl (by first | rfl | (simp only [go_sem, qa, qb, qc, qd, qe, qf, qg, qh, qi, qj, qk, ↓reduceIte, h2297, h2300, h2328, g2329, g2330, g2331, h2332] <;> rfl)) rfl (by kernel_rfl) rfl rfl (by simp [roF, obL]) ?_
          have hh := getT0_some h2347; clear h2347; obtain ⟨h2339, h2347⟩ := hh
          refine W_sound tab_ok mixed 6 _ _ _ ?_
          simp -implicitDefEqProofs only [go_sem, qa, qb, qc, qd, qe, qf, qg, qh, qi, qj, qk, ↓reduceIte, h2297, h2300, h2328, g2329, g2330, g2331, h2332, h2339]
          repeat with_reducible refine ⟨by first | kernel_rfl | decide, ?_⟩
          exact cutQ _ ((Wk_le (.r (.r (.r (.r (.r (.r (.r (.r (.k (.r (.r (.r (.r (.k .nil)))))))))))))) (OLe.refl _)).trans (cmpS_ok (st' := ⟨[], [(0, .v .nl), (1, .dead), (2, .dead), (3, .dead), (4, .ptr 3 0), (6, .dead), (7, .dead), (8, .dead), (10, .dead), (18, .dead), (40, .v (.lst false n2298 c2299)), (41, .v (.int .i64 ((n2298 : Nat) : Int))), (42, .v (.int .i64 (IntKind.i64.wrap (x2325 + 1)))), (43, .dead)], [(0, .p [(.int .i64 x2290)]), (1, .p [(.int .i64 x2337)]), (2, .p [(.bool b2338)]), (3, .r [.fn 44 [.ptr 0 0, .ptr 1 0, .ptr 2 0, .ptr 3 0]])], 4, []⟩) (by kernel_rfl))) ⟨n, Nat.lt_succ_self n, _, _, _, h2347, rfl⟩
        · refine W_sound tab_ok mixed 7 _ _ _ ?_
          simp -implicitDefEqProofs only [go_sem, qa, qb, qc, qd, qe, qf, qg, qh, qi, qj, qk, ↓reduceIte, h2297, h2300, h2328]
          repeat with_reducible refine ⟨by first | kernel_rfl | decide, ?_⟩
          obtain rfl := Option.some.inj h2347
          exact cutQ _ ((Wk_le (.k (.r (.r (.r (.k (.r (.r (.r (.r (.r (.k (.k (.k (.k .nil)))))))))))))) (OLe.refl _)).trans (cmpS_ok (st' := ⟨[], [(0, .dead), (1, .dead), (2, .dead), (3, .dead), (4, .dead), (6, .dead), (7, .dead), (8, .dead), (10, .dead), (18, .dead), (40, .dead), (41, .dead), (42, .dead), (43, .dead)], [(0, .p [(.int .i64 x2290)]), (1, .p [(.int .i64 x2326)]), (2, .p [(.bool b2327)]), (3, .r [.fn 44 [.ptr 0 0, .ptr 1 0, .ptr 2 0, .ptr 3 0]])], 4, []⟩) (by kernel_rfl))) ⟨_, _, rfl, rfl⟩
    · rintro _ ⟨x2340, b2341, rfl, rfl⟩
      (try dsimp only at h2348)
      refine W_sound tab_ok mixed 1 _ _ _ ?_
      simp -implicitDefEqProofs only [go_sem, qa, qb, qc, qd, qe, qf, qg, qh, qi, qj, qk, ↓reduceIte, h2297, h2300]
      repeat with_reducible refine ⟨by first | kernel_rfl | decide, ?_⟩
      simp only [Option.some.injEq, Prod.mk.injEq] at h2348; obtain ⟨rfl, rfl, rfl⟩ := h2348
      exact finD (e2 := [(0, .dead), (1, .dead), (2, .dead), (3, .dead), (4, .dead), (6, .dead), (7, .dead), (8, .dead), (10, .dead), (18, .dead), (40, .dead), (41, .dead), (42, .dead), (43, .dead)]) (ob2 := [(0, .p [(.int .i64 x2290)]), (1, .p [(.int .i64 x2340)]), (2, .p [(.bool b2341)]), (3, .r [.fn 44 [.ptr 0 0, .ptr 1 0, .ptr 2 0, .ptr 3 0]])]) (st' := ⟨[], [(0, .dead), (1, .dead), (2, .dead), (3, .dead), (4, .dead), (6, .dead), (7, .dead), (8, .dead), (10, .dead), (18, .dead), (40, .dead), (41, .dead), (42, .dead), (43, .dead)], [(0, .p [(.int .i64 x2290)]), (1, .p [(.int .i64 x2340)]), (2, .p [(.bool b2341)]), (3, .r [.fn 44 [.ptr 0 0, .ptr 1 0, .ptr 2 0, .ptr 3 0]])], 4, []⟩) (.r (.r (.r (.r (.r (.r (.r (.r (.r (.r (.r (.r (.r (.r .nil)))))))))))))) (.cons _ _ _ _ _ (DLes.refl _) (.cons _ _ _ _ _ (DLes.refl _) (.cons _ _ _ _ _ (DLes.refl _) (.cons _ _ _ _ _ (DLes.refl _) .nil)))) (by kernel_rfl) (by simp only [go_sem, qa, qb, qc, qd, qe, qf, qg, qh, qi, qj, qk, ↓reduceIte, resQ_tmp, resQ_cell, resQ_nil, retD_one, retD_two, retD_three, retD_none]; try simp [R.val, retD_one, retD_two, retD_three, retD_none])
def m43 (N : Nat) (p2355 : PV) : Option (PV) :=
  getL p2355 fun n2357 c2358 =>
  some (.lst false n2357 c2358)
theorem c43 (N : Nat) (p2355 : PV) (r : PV)  (h : m43 N p2355 = some r) : FnP Tryd.prog 43 [p2355] r := by
  unfold m43 at h
  refine Fn_of (sz := 4) tab_ok [0, 2] [.tmp 2] Tryd.func43 rfl rfl rfl (by simp) ?_
  simp only [initSt, initEnv, List.map_cons, List.map_nil, List.getD_cons_zero, List.getD_cons_succ, List.getD_nil]
  have hh := getL_some h; clear h; obtain ⟨n2357, c2358, h2356, h⟩ := hh
  refine W_sound tab_ok mixed 11 _ _ _ ?_
  simp -implicitDefEqProofs only [go_sem, qa, qb, qc, qd, qe, qf, qg, qh, qi, qj, qk, ↓reduceIte, h2356]
  repeat with_reducible refine ⟨by first | kernel_rfl | decide, ?_⟩
  obtain rfl := Option.some.inj h
  exact finC [(2, .v (.lst false n2357 c2358))] [(2, .v (.lst false n2357 c2358))] (by simp [leE, lk_cons]) (.cons _ _ _ _ _ (.v _ _ (.refl _)) .nil) (by rfl) (by simp [leE, lk_cons]) (by decide) (by decide) rfl (by simp only [go_sem, qa, qb, qc, qd, qe, qf, qg, qh, qi, qj, qk, ↓reduceIte, resQ_tmp, resQ_cell, resQ_nil, retD_one, retD_two, retD_three, retD_none]; try simp [R.val, retD_one, retD_two, retD_three, retD_none])
def m16 (N : Nat) : Option PV := some (.bool true)
theorem c16 (N : Nat) (r : PV) (h : m16 N = some r) : FnP Tryd.prog 16 [] r := by
  obtain rfl := Option.some.inj h
  exact k92
def m10 (N : Nat) (x2124 : Int) : Option (PV) :=
  grd (4 ≠ 0) <|
  bnd' (m44 N (IntKind.i64.wrap (1 + (Int.tmod (IntKind.i64.wrap x2124) 4))) 0 true) fun (p2349, x2351, b2352) =>
  getT0 p2349 <|
  brn b2352 (
    bnd' (m43 N (.lst false 5 [(.int .i64 0), (.int .i64 1), (.int .i64 2), (.int .i64 12), (.int .i64 576)])) fun p2359 =>
    getL p2359 fun n2362 c2363 =>
    grd (0 ≤ (IntKind.i64.wrap (1 + (Int.tmod (IntKind.i64.wrap x2124) 4))) ∧ (IntKind.i64.wrap (1 + (Int.tmod (IntKind.i64.wrap x2124) 4))) < ((n2362 : Nat) : Int)) <|
    grd (0 < List.length (List.drop (Int.toNat (IntKind.i64.wrap (1 + (Int.tmod (IntKind.i64.wrap x2124) 4)))) c2363)) <|
    getI .i64 (gp c2363 (Int.toNat (IntKind.i64.wrap (1 + (Int.tmod (IntKind.i64.wrap x2124) 4))))) fun x2368 =>
    brn (x2351 == x2368) (
      bnd' (m16 N ) fun p2370 =>
      getB p2370 fun b2373 =>
      some (.bool b2373)) (
      some (.bool false))) (
    some (.bool false))
theorem c10 (N : Nat) (x2124 : Int) (r : PV)  (h : m10 N x2124 = some r) : FnP Tryd.prog 10 [(.int .u8 x2124)] r := by
  unfold m10 at h
  refine Fn_of (sz := 27) tab_ok [0, 2, 3, 4, 5, 6] [.tmp 2] Tryd.func10 rfl rfl rfl (by simp) ?_
  simp only [initSt, initEnv, List.map_cons, List.map_nil, List.getD_cons_zero, List.getD_cons_succ, List.getD_nil]
  have hh := grd_some h; clear h; obtain ⟨g2125, h⟩ := hh
  have hh := bnd'_some h; clear h; obtain ⟨⟨p2349, x2351, b2352⟩, h2350, h⟩ := hh
  (try dsimp only at h)
  refine W_sound tab_ok mixed 35 _ _ _ ?_
  simp -implicitDefEqProofs only [go_sem, qa, qb, qc, qd, qe, qf, qg, qh, qi, qj, qk, ↓reduceIte, g2125]
  repeat with_reducible refine ⟨by first | kernel_rfl | decide, ?_⟩
  refine Wp_callD [3, 8, 14, 21] (c44 N _ _ _ _ _ _ h2350) rfl rfl rfl (by first | rfl | (simp only [go_sem, qa, qb, qc, qd, qe, qf, qg, qh, qi, qj, qk, ↓reduceIte, g2125] <;> rfl)) rfl (by kernel_rfl) ?_
  have hh := getT0_some h; clear h; obtain ⟨h2353, h⟩ := hh
  have hh := brn_some h; clear h; rcases hh with ⟨h2354, h⟩ | ⟨h2354, h⟩
  · have hh := bnd'_some h; clear h; obtain ⟨p2359, h2360, h⟩ := hh
    refine W_sound tab_ok mixed 7 _ _ _ ?_
    simp -implicitDefEqProofs only [go_sem, qa, qb, qc, qd, qe, qf, qg, qh, qi, qj, qk, ↓reduceIte, g2125, h2353, h2354]
    repeat with_reducible refine ⟨by first | kernel_rfl | decide, ?_⟩
    refine Wp_callF [(39, [(.int .i64 0), (.int .i64 1), (.int .i64 2), (.int .i64 12), (.int .i64 576)])] (FnP_le (c43 N _ _ h2360) (.cons _ _ _ _ (.lst true false _ _ _ (fun h => by first | exact h | cases h) (PLes.refl _)) .nil) (.refl _)) (by kernel_rfl) rfl rfl rfl (by simp only [go_sem, qa, qb, qc, qd, qe, qf, qg, qh, qi, qj, qk, ↓reduceIte, g2125, h2353, h2354] <;> rfl) (by decide) rfl (by simp [roF, obL]) rfl ?_
    have hh := getL_some h; clear h; obtain ⟨n2362, c2363, h2361, h⟩ := hh
    have hh := grd_some h; clear h; obtain ⟨⟨g2364, g2365⟩, h⟩ := hh
    have hh := grd_some h; clear h; obtain ⟨g2366, h⟩ := hh
    have hh := getI_some h; clear h; obtain ⟨x2368, h2367, h⟩ := hh
    have hh := brn_some h; clear h; rcases hh with ⟨h2369, h⟩ | ⟨h2369, h⟩
    · have hh := bnd'_some h; clear h; obtain ⟨p2370, h2371, h⟩ := hh
      refine W_sound tab_ok mixed 6 _ _ _ ?_
      simp -implicitDefEqProofs only [go_sem, qa, qb, qc, qd, qe, qf, qg, qh, qi, qj, qk, ↓reduceIte, g2125, h2353, h2354, h2361, g2364, g2365, g2366, h2367, h2369]
      repeat with_reducible refine ⟨by first | kernel_rfl | decide, ?_⟩
      refine Wp_callP (c16 N  _ h2371) (by kernel_rfl) rfl rfl rfl rfl (by decide) ?_
      have hh := getB_some h; clear h; obtain ⟨b2373, h2372, h⟩ := hh
      refine W_sound tab_ok mixed 5 _ _ _ ?_
      simp -implicitDefEqProofs only [go_sem, qa, qb, qc, qd, qe, qf, qg, qh, qi, qj, qk, ↓reduceIte, g2125, h2353, h2354, h2361, g2364, g2365, g2366, h2367, h2369, h2372]
      repeat with_reducible refine ⟨by first | kernel_rfl | decide, ?_⟩
      obtain rfl := Option.some.inj h
      exact finC [(2, .v (.bool b2373))] [(2, .v (.bool b2373))] (by simp [leE, lk_cons]) (.cons _ _ _ _ _ (.v _ _ (.refl _)) .nil) (by rfl) (by simp [leE, lk_cons]) (by decide) (by decide) rfl (by simp only [go_sem, qa, qb, qc, qd, qe, qf, qg, qh, qi, qj, qk, ↓reduceIte, resQ_tmp, resQ_cell, resQ_nil, retD_one, retD_two, retD_three, retD_none]; try simp [R.val, retD_one, retD_two, retD_three, retD_none])
    · refine W_sound tab_ok mixed 12 _ _ _ ?_
      simp -implicitDefEqProofs only [go_sem, qa, qb, qc, qd, qe, qf, qg, qh, qi, qj, qk, ↓reduceIte, g2125, h2353, h2354, h2361, g2364, g2365, g2366, h2367, h2369]
      repeat with_reducible refine ⟨by first | kernel_rfl | decide, ?_⟩
      obtain rfl := Option.some.inj h
      exact finC [(2, .v (.bool false))] [(2, .v (.bool false))] (by simp [leE, lk_cons]) (.cons _ _ _ _ _ (.v _ _ (.refl _)) .nil) (by rfl) (by simp [leE, lk_cons]) (by decide) (by decide) rfl (by simp only [go_sem, qa, qb, qc, qd, qe, qf, qg, qh, qi, qj, qk, ↓reduceIte, resQ_tmp, resQ_cell, resQ_nil, retD_one, retD_two, retD_three, retD_none]; try simp [R.val, retD_one, retD_two, retD_three, retD_none])
  · refine W_sound tab_ok mixed 20 _ _ _ ?_
    simp -implicitDefEqProofs only [go_sem, qa, qb, qc, qd, qe, qf, qg, qh, qi, qj, qk, ↓reduceIte, g2125, h2353, h2354]
    repeat with_reducible refine ⟨by first | kernel_rfl | decide, ?_⟩
    obtain rfl := Option.some.inj h
    exact finC [(2, .v (.bool false))] [(2, .v (.bool false))] (by simp [leE, lk_cons]) (.cons _ _ _ _ _ (.v _ _ (.refl _)) .nil) (by rfl) (by simp [leE, lk_cons]) (by decide) (by decide) rfl (by simp only [go_sem, qa, qb, qc, qd, qe, qf, qg, qh, qi, qj, qk, ↓reduceIte, resQ_tmp, resQ_cell, resQ_nil, retD_one, retD_two, retD_three, retD_none]; try simp [R.val, retD_one, retD_two, retD_three, retD_none])
end Go.Proofs.YtcaecfofgdogbaaDoor
namespace Go.Proofs.YtcaecfofgdogbaaDoor
open Go.V
set_option maxRecDepth 100000
def rw4 (a b c d : Int) : PV := .lst false 4 [.int .i64 a, .int .i64 b, .int .i64 c, .int .i64 d]
theorem wall1 : m44 40 1 0 true = some (.tup [], 1, true) := by kernel_rfl
theorem wall2 : m44 40 2 0 true = some (.tup [], 2, true) := by kernel_rfl
theorem wall3 : m44 40 3 0 true = some (.tup [], 12, true) := by kernel_rfl
theorem wal0 : m44_2 40 40 (.lst false 1 [rw4 0 1 2 3]) 4 0 true = some (.tup [], 24, true) := by kernel_rfl
theorem wal1 : m44_2 40 40 (.lst false 1 [rw4 0 1 3 2]) 4 24 true = some (.tup [], 48, true) := by kernel_rfl
theorem wal2 : m44_2 40 40 (.lst false 1 [rw4 0 2 1 3]) 4 48 true = some (.tup [], 72, true) := by kernel_rfl
theorem wal3 : m44_2 40 40 (.lst false 1 [rw4 0 2 3 1]) 4 72 true = some (.tup [], 96, true) := by kernel_rfl
theorem wal4 : m44_2 40 40 (.lst false 1 [rw4 0 3 1 2]) 4 96 true = some (.tup [], 120, true) := by kernel_rfl
theorem wal5 : m44_2 40 40 (.lst false 1 [rw4 0 3 2 1]) 4 120 true = some (.tup [], 144, true) := by kernel_rfl
theorem wal6 : m44_2 40 40 (.lst false 1 [rw4 1 0 2 3]) 4 144 true = some (.tup [], 168, true) := by kernel_rfl
theorem wal7 : m44_2 40 40 (.lst false 1 [rw4 1 0 3 2]) 4 168 true = some (.tup [], 192, true) := by kernel_rfl
theorem wal8 : m44_2 40 40 (.lst false 1 [rw4 1 2 0 3]) 4 192 true = some (.tup [], 216, true) := by kernel_rfl
theorem wal9 : m44_2 40 40 (.lst false 1 [rw4 1 2 3 0]) 4 216 true = some (.tup [], 240, true) := by kernel_rfl
theorem wal10 : m44_2 40 40 (.lst false 1 [rw4 1 3 0 2]) 4 240 true = some (.tup [], 264, true) := by kernel_rfl
theorem wal11 : m44_2 40 40 (.lst false 1 [rw4 1 3 2 0]) 4 264 true = some (.tup [], 288, true) := by kernel_rfl
theorem wal12 : m44_2 40 40 (.lst false 1 [rw4 2 0 1 3]) 4 288 true = some (.tup [], 312, true) := by kernel_rfl
theorem wal13 : m44_2 40 40 (.lst false 1 [rw4 2 0 3 1]) 4 312 true = some (.tup [], 336, true) := by kernel_rfl
theorem wal14 : m44_2 40 40 (.lst false 1 [rw4 2 1 0 3]) 4 336 true = some (.tup [], 360, true) := by kernel_rfl
theorem wal15 : m44_2 40 40 (.lst false 1 [rw4 2 1 3 0]) 4 360 true = some (.tup [], 384, true) := by kernel_rfl
theorem wal16 : m44_2 40 40 (.lst false 1 [rw4 2 3 0 1]) 4 384 true = some (.tup [], 408, true) := by kernel_rfl
theorem wal17 : m44_2 40 40 (.lst false 1 [rw4 2 3 1 0]) 4 408 true = some (.tup [], 432, true) := by kernel_rfl
theorem wal18 : m44_2 40 40 (.lst false 1 [rw4 3 0 1 2]) 4 432 true = some (.tup [], 456, true) := by kernel_rfl
theorem wal19 : m44_2 40 40 (.lst false 1 [rw4 3 0 2 1]) 4 456 true = some (.tup [], 480, true) := by kernel_rfl
theorem wal20 : m44_2 40 40 (.lst false 1 [rw4 3 1 0 2]) 4 480 true = some (.tup [], 504, true) := by kernel_rfl
theorem wal21 : m44_2 40 40 (.lst false 1 [rw4 3 1 2 0]) 4 504 true = some (.tup [], 528, true) := by kernel_rfl
theorem wal22 : m44_2 40 40 (.lst false 1 [rw4 3 2 0 1]) 4 528 true = some (.tup [], 552, true) := by kernel_rfl
theorem wal23 : m44_2 40 40 (.lst false 1 [rw4 3 2 1 0]) 4 552 true = some (.tup [], 576, true) := by kernel_rfl
def rws4 : List PV := [rw4 0 1 2 3, rw4 0 1 3 2, rw4 0 2 1 3, rw4 0 2 3 1, rw4 0 3 1 2, rw4 0 3 2 1, rw4 1 0 2 3, rw4 1 0 3 2, rw4 1 2 0 3, rw4 1 2 3 0, rw4 1 3 0 2, rw4 1 3 2 0, rw4 2 0 1 3, rw4 2 0 3 1, rw4 2 1 0 3, rw4 2 1 3 0, rw4 2 3 0 1, rw4 2 3 1 0, rw4 3 0 1 2, rw4 3 0 2 1, rw4 3 1 0 2, rw4 3 1 2 0, rw4 3 2 0 1, rw4 3 2 1 0]
theorem walf : m38 40 4 (.lst false 0 []) = some (.lst false 24 rws4) := by kernel_rfl
theorem wbrn_t {α : Type} {b : Bool} {x y : Option α} (h : b = true) : brn b x y = x := by subst h; rfl
theorem wbrn_f {α : Type} {b : Bool} {x y : Option α} (h : b = false) : brn b x y = y := by subst h; rfl
theorem wbnd {α β : Type} {x : α} {f : α → Option β} : bnd' (some x) f = f x := rfl
theorem wgetL {α : Type} {n : Nat} {c : List PV} {f : Nat → List PV → Option α} : getL (.lst false n c) f = f n c := rfl
theorem wgrd_t {α : Type} {p : Prop} [Decidable p] {k : Option α} (h : p) : grd p k = k := by simp [grd, h]
theorem wal_step {n i : Nat} {s s' : Int} {b b' : Bool} {cs : List PV} (h1 : i < 24) (hr : gp rws4 i = .lst false 4 cs) (h : m44_2 40 40 (.lst false 1 [.lst false 4 cs]) 4 s b = some (.tup [], s', b')) :
    m44_L0 40 4 24 rws4 (n + 1) (i : Int) s b = m44_L0 40 4 24 rws4 n ((i + 1 : Nat) : Int) s' b' := by
  have hl : rws4.length = 24 := rfl
  have ht : Int.toNat (i : Int) = i := by omega
  rw [m44_L0, wbrn_t (decide_eq_true (by omega)), wgrd_t ⟨by omega, by omega⟩, ht, wgrd_t (by rw [List.length_drop, hl]; omega), hr]
  show bnd' (m44_2 40 40 (.lst false 1 [.lst false 4 cs]) 4 s b) _ = _
  rw [h]
  show m44_L0 40 4 24 rws4 n (IntKind.i64.wrap ((i : Int) + 1)) s' b' = _
  rw [wrap64 (by omega) (by omega)]
  rfl
theorem wall4 : m44 40 4 0 true = some (.tup [], 576, true) := by
  rw [m44, walf, wbnd, wgetL, wbrn_f (by decide), show m44_L0 40 4 24 rws4 40 0 0 true = m44_L0 40 4 24 rws4 (39 + 1) ((0 : Nat) : Int) 0 true from rfl]
  rw [wal_step (n := 39) (i := 0) (by decide) rfl wal0]
  rw [show (39 : Nat) = 38 + 1 from rfl, wal_step (n := 38) (i := 1) (by decide) rfl wal1]
  rw [show (38 : Nat) = 37 + 1 from rfl, wal_step (n := 37) (i := 2) (by decide) rfl wal2]
  rw [show (37 : Nat) = 36 + 1 from rfl, wal_step (n := 36) (i := 3) (by decide) rfl wal3]
  rw [show (36 : Nat) = 35 + 1 from rfl, wal_step (n := 35) (i := 4) (by decide) rfl wal4]
  rw [show (35 : Nat) = 34 + 1 from rfl, wal_step (n := 34) (i := 5) (by decide) rfl wal5]
  rw [show (34 : Nat) = 33 + 1 from rfl, wal_step (n := 33) (i := 6) (by decide) rfl wal6]
  rw [show (33 : Nat) = 32 + 1 from rfl, wal_step (n := 32) (i := 7) (by decide) rfl wal7]
  rw [show (32 : Nat) = 31 + 1 from rfl, wal_step (n := 31) (i := 8) (by decide) rfl wal8]
  rw [show (31 : Nat) = 30 + 1 from rfl, wal_step (n := 30) (i := 9) (by decide) rfl wal9]
  rw [show (30 : Nat) = 29 + 1 from rfl, wal_step (n := 29) (i := 10) (by decide) rfl wal10]
  rw [show (29 : Nat) = 28 + 1 from rfl, wal_step (n := 28) (i := 11) (by decide) rfl wal11]
  rw [show (28 : Nat) = 27 + 1 from rfl, wal_step (n := 27) (i := 12) (by decide) rfl wal12]
  rw [show (27 : Nat) = 26 + 1 from rfl, wal_step (n := 26) (i := 13) (by decide) rfl wal13]
  rw [show (26 : Nat) = 25 + 1 from rfl, wal_step (n := 25) (i := 14) (by decide) rfl wal14]
  rw [show (25 : Nat) = 24 + 1 from rfl, wal_step (n := 24) (i := 15) (by decide) rfl wal15]
  rw [show (24 : Nat) = 23 + 1 from rfl, wal_step (n := 23) (i := 16) (by decide) rfl wal16]
  rw [show (23 : Nat) = 22 + 1 from rfl, wal_step (n := 22) (i := 17) (by decide) rfl wal17]
  rw [show (22 : Nat) = 21 + 1 from rfl, wal_step (n := 21) (i := 18) (by decide) rfl wal18]
  rw [show (21 : Nat) = 20 + 1 from rfl, wal_step (n := 20) (i := 19) (by decide) rfl wal19]
  rw [show (20 : Nat) = 19 + 1 from rfl, wal_step (n := 19) (i := 20) (by decide) rfl wal20]
  rw [show (19 : Nat) = 18 + 1 from rfl, wal_step (n := 18) (i := 21) (by decide) rfl wal21]
  rw [show (18 : Nat) = 17 + 1 from rfl, wal_step (n := 17) (i := 22) (by decide) rfl wal22]
  rw [show (17 : Nat) = 16 + 1 from rfl, wal_step (n := 16) (i := 23) (by decide) rfl wal23]
  kernel_rfl
theorem wal_rest {x : Int} {n : Int} {s : Int} (hn : IntKind.i64.wrap (1 + (Int.tmod (IntKind.i64.wrap x) 4)) = n) (h : m44 40 n 0 true = some (.tup [], s, true)) (h2 : (n = 1 ∧ s = 1) ∨ (n = 2 ∧ s = 2) ∨ (n = 3 ∧ s = 12) ∨ (n = 4 ∧ s = 576)) : m10 40 x = some (.bool true) := by
  rw [m10, hn, wgrd_t (by decide), h, wbnd]
  rcases h2 with ⟨rfl, rfl⟩ | ⟨rfl, rfl⟩ | ⟨rfl, rfl⟩ | ⟨rfl, rfl⟩ <;> rfl
theorem lawAll (x : Int) (hx : 0 ≤ x ∧ x < 256) : m10 40 x = some (.bool true) := by
  have hn : IntKind.i64.wrap (1 + (Int.tmod (IntKind.i64.wrap x) 4)) = 1 ∨ IntKind.i64.wrap (1 + (Int.tmod (IntKind.i64.wrap x) 4)) = 2 ∨ IntKind.i64.wrap (1 + (Int.tmod (IntKind.i64.wrap x) 4)) = 3 ∨ IntKind.i64.wrap (1 + (Int.tmod (IntKind.i64.wrap x) 4)) = 4 := by
    rw [wrap64 (n := x) (by omega) (by omega), Int.tmod_eq_emod_of_nonneg hx.1, wrap64 (n := 1 + x % 4) (by omega) (by omega)]
    omega
  rcases hn with hn | hn | hn | hn
  · exact wal_rest hn wall1 (.inl ⟨rfl, rfl⟩)
  · exact wal_rest hn wall2 (.inr (.inl ⟨rfl, rfl⟩))
  · exact wal_rest hn wall3 (.inr (.inr (.inl ⟨rfl, rfl⟩)))
  · exact wal_rest hn wall4 (.inr (.inr (.inr ⟨rfl, rfl⟩)))
theorem weekall (x : Int) (hx : 0 ≤ x ∧ x < 256) : FnP Tryd.prog 10 [.int .u8 x] (.bool true) := c10 40 x _ (lawAll x hx)
end Go.Proofs.YtcaecfofgdogbaaDoor
namespace Go.Proofs.YtcaecfofgdogbaaDoor.weekAll
open Go.ChangeShapes Go.WideShapes Go.ChangeAt Go.RowKit Go.V
theorem own : ownKnob Tryd.prog.godebug = none := by kernel_rfl
theorem u8_bounds {n : Int} (h : (Lit.int .u8 n).wf = true) : 0 ≤ n ∧ n < 256 := by
  have h2 : (decide ((0 : Int) ≤ n) && decide (n ≤ (255 : Int))) = true := h
  simp only [Bool.and_eq_true, decide_eq_true_eq] at h2
  omega
set_option maxRecDepth 100000 in
theorem lifted (os : Os) (started : os.Started) (H : Type) (enc : TypeId × Value → H) :
    ReturnsInHanded {} Tryd.checked os 10 .any (fun w args => (Rows.weekAllSpec.pre enc Tryd.prog Tryd.f10 [] false w args ∧ laidMetH Tryd.prog [("math/bits.deBruijn32tab", Rows.laid_math_bits_deBruijn32tab), ("math/bits.deBruijn64tab", Rows.laid_math_bits_deBruijn64tab)] w) ∧ sizedMet enc Tryd.prog Tryd.f10 (OpenSpec.ofChange Rows.weekAllSpec) false w args)
      (Rows.weekAllSpec.post enc Tryd.prog Tryd.f10 false true false false) := by
  refine returnsInHanded_of_change_and (C := Tryd.checked) (X := fun w _ => laidMetH Tryd.prog [("math/bits.deBruijn32tab", Rows.laid_math_bits_deBruijn32tab), ("math/bits.deBruijn64tab", Rows.laid_math_bits_deBruijn64tab)] w) (fun _ _ _ hh h => h.of_heap hh) own started (by kernel_rfl) Tryd.func10
    (ChangeSpec.witness_shaped (enc := enc) (C := Tryd.checked) (os := os) (X := fun w _ => laidMetH Tryd.prog [("math/bits.deBruijn32tab", Rows.laid_math_bits_deBruijn32tab), ("math/bits.deBruijn64tab", Rows.laid_math_bits_deBruijn64tab)] w) false (World.laidAll Tryd.prog os [("math/bits.deBruijn32tab", Rows.laid_math_bits_deBruijn32tab), ("math/bits.deBruijn64tab", Rows.laid_math_bits_deBruijn64tab)]) #[.int .u8 0] 8 (World.laidAll_os _ _ _)
      (World.shaped_of_ZipB (by kernel_rfl) (by kernel_rfl)) (by kernel_rfl) (by kernel_rfl) (by kernel_rfl)
      (by rw [MakeChecks.laidMetH_plain _ _ _ (by kernel_rfl)]; exact laidMet_laidAll _ (by kernel_rfl) (by kernel_rfl))) ?_
  intro W base args ds gs before hval0 hW _ _ hL _
  have hW' := hW
  obtain ⟨p, q, hA0, hV, rfl, hfz, hnd⟩ := hW
  have hA : DataW.TrodAll enc Tryd.prog W 0 (fun _ => true) true Tryd.f10.params.toList args.toList ds p := hA0
  rw [Tryd.params10] at hA
  obtain ⟨v0, d0, rfl, rfl, h0⟩ := trodAll_one hA
  obtain ⟨a0, rfl, rfl, rfl, w0⟩ := open_int Tryd.underlying5 (hval0 0 5 v0 rfl rfl) h0
  have b0 : 0 ≤ a0 ∧ a0 < 256 := u8_bounds w0
  obtain ⟨rfl, rfl⟩ := trodVars_none hV
  clear hA0 hval0
  simp only [List.append_nil] at hW'
  refine (FnP.calls (W := W) (vals := #[.int .u8 a0]) (weekall a0 b0) (.cons _ _ _ _ (.int _ _) .nil) (laidG hL)).mono fun e W' ⟨he, hg⟩ => ?_
  subst he
  exact ⟨_, rfl, post_of_kept (pa := []) (pv := []) hW' (fun _ _ _ => trodAll_cons_mk (shut_bool Tryd.underlying4 _) trodAll_mk0) (fun sp _ => trodAll_mk1 (shut_int Tryd.underlying5 w0)) (fun _ _ => rfl) rfl
    hg (ok_one (by kernel_rfl) rfl (okWide_bool_mk Tryd.underlying4 _))⟩
theorem over : Rows.weekAllRow.holds Tryd.pinned (OpenSpec.ofChange Rows.weekAllSpec) :=
  OpenClaim.holds_of_wide 10 Tryd.f10 rfl rfl rfl rfl rfl rfl rfl ⟨rfl, rfl, rfl, rfl, rfl⟩ rfl rfl rfl rfl rfl (by kernel_rfl) Tryd.func10 (by kernel_rfl)
    (of_decide_eq_true (by kernel_rfl)) (by unfold Func.isWrapper; first | (rw [if_pos (by decide +kernel)]; kernel_rfl) | (rw [if_neg (by decide +kernel)]; exact ⟨rfl, rfl⟩))
    (fun os started H enc _ => lifted os started H enc)
theorem card : Rows.WeekAllCardSaid :=
  Claim7.holds_tied_plain_at .later [] [.data, .data] true (true, "b10945a5c0c6bbe518806a5b2982a3effa3ad2c65afd0553d66b8bf8a483c2f3") true (over) (fun _ h => by cases h) (by kernel_rfl) (fun _ h => by cases h) weekAll_row_tie rfl ⟨rfl, rfl⟩ (by kernel_rfl) rfl
    (fun f fn hf hfn => by
      obtain rfl : f = 10 := Option.some.inj ((show Tryd.prog.funcNamed "breeze/breezelaw03.WeekAll" = some 10 by kernel_rfl).symm.trans hf) |>.symm
      obtain rfl : fn = Tryd.f10 := (Option.some.inj (Tryd.func10.symm.trans hfn)).symm
      exact ⟨by kernel_rfl, fun j t ht => by
        rw [Tryd.params10] at ht
        have h3 : t = 5 := by
          rcases j with _ | j
          · simpa using ht.symm
          · simp at ht
        subst h3
        exact (show Tryd.prog.wantsStandIn 5 = false by kernel_rfl)⟩)
    (by kernel_rfl)
end Go.Proofs.YtcaecfofgdogbaaDoor.weekAll
namespace Go.Proofs.YtcaecfofgdogbaaDoor
/-- the statement -/
theorem weekAll_holds : Rows.WeekAllCardSaid := weekAll.card
#print axioms weekAll_holds
end Go.Proofs.YtcaecfofgdogbaaDoor
