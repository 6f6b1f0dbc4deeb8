/-
  Who is joined with whom: ranks of lists of pairs.
  Groups by breadth search are the groups by joining.
  The least list that has a property: looked for among all of them in any order, or in order.
  Crews as the functions of the chapter see them: pairs joined one after the other; ranks; checks.
  Crews are checked; lists of kinds; Rank.
  Groups, as the reference counts them.
  The reference: Check, listed, Rank.
  A crew that is checked fits; Rank is as stated.
  The pairs of a choice.
  The pairs of a choice, in the reference; Valid.
  Valid: the chapter's and the reference's.
  The first of the shortest, or of the longest, lists that have a property.
  The first of the shortest lists that have a property: best, as Ring calls it.
  Ring: the chapter's and the reference's.
  Ring in the reference.
  Ring: both answer the same.
  CrewChecks: what the functions compute answers as the law says.
  CrewChecks: at every argument of its types.
  CrewChecks: the law returns true.
-/
import Derived.Test.YtnponojgpkbagaaDoorURankA
import Derived.Test.YtnponojgpkbagaaDoorUChkA
import Derived.Test.YtnponojgpkbagaaDoorUChkB
import Derived.Test.YtnponojgpkbagaaDoorB
import Derived.Test.YtnponojgpkbagaaDoorK
import Derived.Test.YtnponojgpkbagaaDoorV35
import Derived.Test.YtnponojgpkbagaaDoorV32
import Derived.Test.YtnponojgpkbagaaDoorRows
import Derived.Test.YtnponojgpkbagaaDoorCards
import Derived.Test.YtnponojgpkbagaaDoorTie
import Derived.Test.YtnponojgpkbagaaDoorG
import Derived.Test.YtnponojgpkbagaaDoorV31
import Derived.WalkKit
import Derived.ProofKit
import Derived.OpenShut
import Derived.Lay
import Derived.SevenTiedAt
import Derived.MakeChecks
namespace Go.Proofs.YtnponojgpkbagaaDoor
open Go.V
set_option maxRecDepth 100000
set_option maxHeartbeats 4000000
set_option linter.unusedSimpArgs false
set_option linter.unusedVariables false
attribute [local go_sem] tl1 tl2 tl3 tl4 tl5 tl9 tl17 tl21 tl22 tl23 tl24 tl25 tl26 tl27 tl28 tl29 tl31 tl32 tl34 tl35 tl36 tl37 tl38 tl39 tl40 tl41 tl42 tl43 tl44 tl45 tl47 tl48 tl49 tl50 tl51 tl52 tl53 tl54 tl55 tl56 tl57 tl58 tl59 tl60 tl61 tl62 tl63 tl64 tl65 tl66 tl67 tl68 tl69 tl70 tl71 tl72 tl73 tl74 tl75 tl76 tl77 tl78 tl79 tl80 tl81 tl82 tl83 tl84 tl85 tl86 tl87 tl88 tl89 tl90 tl92 tl94 tl95 tl96 tl97 tl98 tl99 tl100 tl101 tl102 tl103 tl104 tl105 tl106 tl107 tl108 tl109 tl110 tl111 tl112 tl113 tl114 tl115 tl116 tl118 tl119 tl121 tl122 tl123 tl124 tl125 tl126 tl127 tl128 tl129 tl131 tl133 tl134 tl135 tl136 tl142 tl146

def m16 (N : Nat) : Option PV := some (.bool true)
theorem c16 (N : Nat) (r : PV) (h : m16 N = some r) : FnP Tryd.prog 16 [] r := by
  obtain rfl := Option.some.inj h
  exact k29

def m15_L0 (N : Nat) (p2256 : PV) (n2259 : Nat) (c2260 : List PV) : Nat → Int → Option ((PV ⊕ Unit))
  | 0, _ => none
  | n + 1, x2262 =>
    brn (decide (x2262 < ((n2259 : Nat) : Int))) (
      grd (0 ≤ x2262 ∧ x2262 < ((n2259 : Nat) : Int)) <|
      grd (0 < List.length (List.drop (Int.toNat x2262) c2260)) <|
      getL (gp c2260 (Int.toNat x2262)) fun n2268 c2269 =>
      brn (decide (((n2268 : Nat) : Int) > 20)) (
        some (.inl (.bool true))) (
        m15_L0 N p2256 n2259 c2260 n (IntKind.i64.wrap (x2262 + 1)))) (
      some (.inr ()))
def m15 (N : Nat) (p2254 : PV) : Option (PV) :=
  getA2 p2254 fun p2256 p2257 =>
  getL p2257 fun n2259 c2260 =>
  brn (decide (((n2259 : Nat) : Int) > 20)) (
    some (.bool true)) (
    bnd' (m15_L0 N p2256 n2259 c2260 N 0) fun o =>
    match o with
    | .inl p2271 =>
      some p2271
    | .inr () =>
      some (.bool false))
theorem c15 (N : Nat) (p2254 : PV) (r : PV)  (h : m15 N p2254 = some r) : FnP Tryd.prog 15 [p2254] r := by
  unfold m15 at h
  refine Fn_of (sz := 22) tab_ok [0, 1, 2, 3, 7, 12, 21] [.tmp 2] Tryd.func15 rfl rfl rfl (by simp) ?_
  simp only [initSt, initEnv, List.map_cons, List.map_nil, List.getD_cons_zero, List.getD_cons_succ, List.getD_nil]
  have hh := getA2_some h; clear h; obtain ⟨p2256, p2257, h2255, h⟩ := hh
  have hh := getL_some h; clear h; obtain ⟨n2259, c2260, h2258, h⟩ := hh
  have hh := brn_some h; clear h; rcases hh with ⟨h2261, h⟩ | ⟨h2261, h⟩
  · refine W_sound tab_ok mixed 20 _ _ _ ?_
    simp -implicitDefEqProofs only [go_sem, ne_eq, not_false_eq_true, Nat.reduceBEq, Nat.reduceAdd, Nat.reduceSub, Nat.reduceMul, Nat.reduceLT, Nat.reduceLeDiff, Int.reduceLE, Int.reduceLT, Int.reduceToNat, Int.reduceBEq, Int.reduceBNe, Int.le_refl, Nat.le_refl, decide_true, decide_false, Int.cast_ofNat_Int, ↓reduceIte, h2255, h2258, h2261]
    repeat with_reducible refine And.intro (by first | kernel_rfl | decide) ?_
    obtain rfl := Option.some.inj h
    exact finC [(2, .v (.bool true))] [(2, .v (.bool true))] (by simp [leE, lk_cons]) (.cons _ _ _ _ _ (.v _ _ (.refl _)) .nil) (by rfl) (by simp [leE, lk_cons]) (by decide) (by decide) rfl (by simp only [go_sem, ne_eq, not_false_eq_true, Nat.reduceBEq, Nat.reduceAdd, Nat.reduceSub, Nat.reduceMul, Nat.reduceLT, Nat.reduceLeDiff, Int.reduceLE, Int.reduceLT, Int.reduceToNat, Int.reduceBEq, Int.reduceBNe, Int.le_refl, Nat.le_refl, decide_true, decide_false, Int.cast_ofNat_Int, ↓reduceIte, resQ_tmp, resQ_cell, resQ_nil, retD_one, retD_two, retD_three, retD_none]; try simp [R.val, retD_one, retD_two, retD_three, retD_none])
  · refine W_sound tab_ok mixed 20 _ _ _ ?_
    simp -implicitDefEqProofs only [go_sem, ne_eq, not_false_eq_true, Nat.reduceBEq, Nat.reduceAdd, Nat.reduceSub, Nat.reduceMul, Nat.reduceLT, Nat.reduceLeDiff, Int.reduceLE, Int.reduceLT, Int.reduceToNat, Int.reduceBEq, Int.reduceBNe, Int.le_refl, Nat.le_refl, decide_true, decide_false, Int.cast_ofNat_Int, ↓reduceIte, h2255, h2258, h2261]
    repeat with_reducible refine And.intro (by first | kernel_rfl | decide) ?_
    have hh := bnd'_some h; clear h; obtain ⟨o2272, h2273, h2274⟩ := hh
    refine Wp_cut (fun s => (.inr ()) = o2272 ∧ s = ⟨[], [(0, .dead), (1, .dead), (2, .dead), (3, .dead), (7, .dead), (12, .dead), (21, .dead)], [], 0, []⟩) ?_ ?_
    · refine Wp_block ?_
      refine Wp_loopG (fun n s => ∃ x2262, m15_L0 N p2256 n2259 c2260 n x2262 = some o2272 ∧ s = ⟨[], [(0, .dead), (1, .ptr 0 0), (2, .dead), (3, .v (.int .i64 x2262)), (7, .dead), (12, .dead), (21, .dead)], [(0, .p [p2256, (.lst false n2259 c2260)])], 1, []⟩) N _ ((Wk_le (.cons _ _ _ _ _ (.dead _) (.cons _ _ _ _ _ (.refl _) (.cons _ _ _ _ _ (.dead _) (.cons _ _ _ _ _ (.refl _) (.cons _ _ _ _ _ (.dead _) (.cons _ _ _ _ _ (.refl _) (.cons _ _ _ _ _ (.refl _) .nil))))))) (OLe.refl _)).trans (cmpS_ok rfl)) ⟨_, h2273, rfl⟩ ?_
      clear h2273
      rintro n _ ⟨x2262, h2273, rfl⟩
      cases n with
      | zero => cases h2273
      | succ n =>
        rw [m15_L0] at h2273
        have hh := brn_some h2273; clear h2273; rcases hh with ⟨h2263, h2273⟩ | ⟨h2263, h2273⟩
        · have hh := grd_some h2273; clear h2273; obtain ⟨⟨g2264, g2265⟩, h2273⟩ := hh
          have hh := grd_some h2273; clear h2273; obtain ⟨g2266, h2273⟩ := hh
          have hh := getL_some h2273; clear h2273; obtain ⟨n2268, c2269, h2267, h2273⟩ := hh
          have hh := brn_some h2273; clear h2273; rcases hh with ⟨h2270, h2273⟩ | ⟨h2270, h2273⟩
          · refine W_sound tab_ok mixed 30 _ _ _ ?_
            simp -implicitDefEqProofs only [go_sem, ne_eq, not_false_eq_true, Nat.reduceBEq, Nat.reduceAdd, Nat.reduceSub, Nat.reduceMul, Nat.reduceLT, Nat.reduceLeDiff, Int.reduceLE, Int.reduceLT, Int.reduceToNat, Int.reduceBEq, Int.reduceBNe, Int.le_refl, Nat.le_refl, decide_true, decide_false, Int.cast_ofNat_Int, ↓reduceIte, h2255, h2258, h2261, h2263, g2264, g2265, g2266, h2267, h2270]
            repeat with_reducible refine And.intro (by first | kernel_rfl | decide) ?_
            obtain rfl := Option.some.inj h2273
            (try dsimp only at h2274)
            obtain rfl := Option.some.inj h2274
            exact finC [(2, .v (.bool true))] [(2, .v (.bool true))] (by simp [leE, lk_cons]) (.cons _ _ _ _ _ (.v _ _ (.refl _)) .nil) (by rfl) (by simp [leE, lk_cons]) (by decide) (by decide) rfl (by simp only [go_sem, ne_eq, not_false_eq_true, Nat.reduceBEq, Nat.reduceAdd, Nat.reduceSub, Nat.reduceMul, Nat.reduceLT, Nat.reduceLeDiff, Int.reduceLE, Int.reduceLT, Int.reduceToNat, Int.reduceBEq, Int.reduceBNe, Int.le_refl, Nat.le_refl, decide_true, decide_false, Int.cast_ofNat_Int, ↓reduceIte, resQ_tmp, resQ_cell, resQ_nil, retD_one, retD_two, retD_three, retD_none]; try simp [R.val, retD_one, retD_two, retD_three, retD_none])
          · refine W_sound tab_ok mixed 31 _ _ _ ?_
            simp -implicitDefEqProofs only [go_sem, ne_eq, not_false_eq_true, Nat.reduceBEq, Nat.reduceAdd, Nat.reduceSub, Nat.reduceMul, Nat.reduceLT, Nat.reduceLeDiff, Int.reduceLE, Int.reduceLT, Int.reduceToNat, Int.reduceBEq, Int.reduceBNe, Int.le_refl, Nat.le_refl, decide_true, decide_false, Int.cast_ofNat_Int, ↓reduceIte, h2255, h2258, h2261, h2263, g2264, g2265, g2266, h2267, h2270]
            repeat with_reducible refine And.intro (by first | kernel_rfl | decide) ?_
            exact cutQ _ ((Wk_le (.cons _ _ _ _ _ (.refl _) (.cons _ _ _ _ _ (.refl _) (.cons _ _ _ _ _ (.refl _) (.cons _ _ _ _ _ (.refl _) (.cons _ _ _ _ _ (.refl _) (.cons _ _ _ _ _ (.dead _) (.cons _ _ _ _ _ (.dead _) .nil))))))) (OLe.refl _)).trans (cmpS_ok rfl)) ⟨n, Nat.lt_succ_self n, _, h2273, rfl⟩
        · refine W_sound tab_ok mixed 11 _ _ _ ?_
          simp -implicitDefEqProofs only [go_sem, ne_eq, not_false_eq_true, Nat.reduceBEq, Nat.reduceAdd, Nat.reduceSub, Nat.reduceMul, Nat.reduceLT, Nat.reduceLeDiff, Int.reduceLE, Int.reduceLT, Int.reduceToNat, Int.reduceBEq, Int.reduceBNe, Int.le_refl, Nat.le_refl, decide_true, decide_false, Int.cast_ofNat_Int, ↓reduceIte, h2255, h2258, h2261, h2263]
          repeat with_reducible refine And.intro (by first | kernel_rfl | decide) ?_
          obtain rfl := Option.some.inj h2273
          exact cutQ _ ((Wk_le (.cons _ _ _ _ _ (.refl _) (.cons _ _ _ _ _ (.dead _) (.cons _ _ _ _ _ (.refl _) (.cons _ _ _ _ _ (.dead _) (.cons _ _ _ _ _ (.refl _) (.cons _ _ _ _ _ (.dead _) (.cons _ _ _ _ _ (.refl _) .nil))))))) (OLe.refl _)).trans (cmpS_ok rfl)) ⟨rfl, rfl⟩
    · rintro _ ⟨rfl, rfl⟩
      (try dsimp only at h2274)
      refine W_sound tab_ok mixed 6 _ _ _ ?_
      simp -implicitDefEqProofs only [go_sem, ne_eq, not_false_eq_true, Nat.reduceBEq, Nat.reduceAdd, Nat.reduceSub, Nat.reduceMul, Nat.reduceLT, Nat.reduceLeDiff, Int.reduceLE, Int.reduceLT, Int.reduceToNat, Int.reduceBEq, Int.reduceBNe, Int.le_refl, Nat.le_refl, decide_true, decide_false, Int.cast_ofNat_Int, ↓reduceIte, h2255, h2258, h2261]
      repeat with_reducible refine And.intro (by first | kernel_rfl | decide) ?_
      obtain rfl := Option.some.inj h2274
      exact finC [(2, .v (.bool false))] [(2, .v (.bool false))] (by simp [leE, lk_cons]) (.cons _ _ _ _ _ (.v _ _ (.refl _)) .nil) (by rfl) (by simp [leE, lk_cons]) (by decide) (by decide) rfl (by simp only [go_sem, ne_eq, not_false_eq_true, Nat.reduceBEq, Nat.reduceAdd, Nat.reduceSub, Nat.reduceMul, Nat.reduceLT, Nat.reduceLeDiff, Int.reduceLE, Int.reduceLT, Int.reduceToNat, Int.reduceBEq, Int.reduceBNe, Int.le_refl, Nat.le_refl, decide_true, decide_false, Int.cast_ofNat_Int, ↓reduceIte, resQ_tmp, resQ_cell, resQ_nil, retD_one, retD_two, retD_three, retD_none]; try simp [R.val, retD_one, retD_two, retD_three, retD_none])

def m21_L0 (N : Nat) (n2278 : Nat) (c2279 : List PV) (n2281 : Nat) (c2282 : List PV) : Nat → Int → Option ((PV ⊕ Unit))
  | 0, _ => none
  | n + 1, x2284 =>
    brn (decide (x2284 < ((n2278 : Nat) : Int))) (
      grd (0 ≤ x2284 ∧ x2284 < ((n2278 : Nat) : Int)) <|
      grd (0 < List.length (List.drop (Int.toNat x2284) c2279)) <|
      getI .i64 (gp c2279 (Int.toNat x2284)) fun x2290 =>
      grd (x2284 < ((n2281 : Nat) : Int)) <|
      grd (0 < List.length (List.drop (Int.toNat x2284) c2282)) <|
      getI .i64 (gp c2282 (Int.toNat x2284)) fun x2294 =>
      brn (x2290 != x2294) (
        some (.inl (.bool false))) (
        m21_L0 N n2278 c2279 n2281 c2282 n (IntKind.i64.wrap (x2284 + 1)))) (
      some (.inr ()))
def m21 (N : Nat) (p2275 : PV) (p2276 : PV) : Option (PV) :=
  getL p2275 fun n2278 c2279 =>
  getL p2276 fun n2281 c2282 =>
  brn (((n2278 : Nat) : Int) != ((n2281 : Nat) : Int)) (
    some (.bool false)) (
    bnd' (m21_L0 N n2278 c2279 n2281 c2282 N 0) fun o =>
    match o with
    | .inl p2296 =>
      some p2296
    | .inr () =>
      some (.bool true))
theorem c21 (N : Nat) (p2275 : PV) (p2276 : PV) (r : PV)  (h : m21 N p2275 p2276 = some r) : FnP Tryd.prog 21 [p2275, p2276] r := by
  unfold m21 at h
  refine Fn_of (sz := 26) tab_ok [0, 1, 4, 5, 10, 14, 25] [.tmp 4] Tryd.func21 rfl rfl rfl (by simp) ?_
  simp only [initSt, initEnv, List.map_cons, List.map_nil, List.getD_cons_zero, List.getD_cons_succ, List.getD_nil]
  have hh := getL_some h; clear h; obtain ⟨n2278, c2279, h2277, h⟩ := hh
  have hh := getL_some h; clear h; obtain ⟨n2281, c2282, h2280, h⟩ := hh
  have hh := brn_some h; clear h; rcases hh with ⟨h2283, h⟩ | ⟨h2283, h⟩
  · refine W_sound tab_ok mixed 20 _ _ _ ?_
    simp -implicitDefEqProofs only [go_sem, ne_eq, not_false_eq_true, Nat.reduceBEq, Nat.reduceAdd, Nat.reduceSub, Nat.reduceMul, Nat.reduceLT, Nat.reduceLeDiff, Int.reduceLE, Int.reduceLT, Int.reduceToNat, Int.reduceBEq, Int.reduceBNe, Int.le_refl, Nat.le_refl, decide_true, decide_false, Int.cast_ofNat_Int, ↓reduceIte, h2277, h2280, h2283]
    repeat with_reducible refine And.intro (by first | kernel_rfl | decide) ?_
    obtain rfl := Option.some.inj h
    exact finC [(4, .v (.bool false))] [(4, .v (.bool false))] (by simp [leE, lk_cons]) (.cons _ _ _ _ _ (.v _ _ (.refl _)) .nil) (by rfl) (by simp [leE, lk_cons]) (by decide) (by decide) rfl (by simp only [go_sem, ne_eq, not_false_eq_true, Nat.reduceBEq, Nat.reduceAdd, Nat.reduceSub, Nat.reduceMul, Nat.reduceLT, Nat.reduceLeDiff, Int.reduceLE, Int.reduceLT, Int.reduceToNat, Int.reduceBEq, Int.reduceBNe, Int.le_refl, Nat.le_refl, decide_true, decide_false, Int.cast_ofNat_Int, ↓reduceIte, resQ_tmp, resQ_cell, resQ_nil, retD_one, retD_two, retD_three, retD_none]; try simp [R.val, retD_one, retD_two, retD_three, retD_none])
  · refine W_sound tab_ok mixed 20 _ _ _ ?_
    simp -implicitDefEqProofs only [go_sem, ne_eq, not_false_eq_true, Nat.reduceBEq, Nat.reduceAdd, Nat.reduceSub, Nat.reduceMul, Nat.reduceLT, Nat.reduceLeDiff, Int.reduceLE, Int.reduceLT, Int.reduceToNat, Int.reduceBEq, Int.reduceBNe, Int.le_refl, Nat.le_refl, decide_true, decide_false, Int.cast_ofNat_Int, ↓reduceIte, h2277, h2280, h2283]
    repeat with_reducible refine And.intro (by first | kernel_rfl | decide) ?_
    have hh := bnd'_some h; clear h; obtain ⟨o2297, h2298, h2299⟩ := hh
    refine Wp_cut (fun s => (.inr ()) = o2297 ∧ s = ⟨[], [(0, .dead), (1, .dead), (4, .dead), (5, .dead), (10, .dead), (14, .dead), (25, .dead)], [], 0, []⟩) ?_ ?_
    · refine Wp_block ?_
      refine Wp_loopG (fun n s => ∃ x2284, m21_L0 N n2278 c2279 n2281 c2282 n x2284 = some o2297 ∧ s = ⟨[], [(0, .v (.lst false n2278 c2279)), (1, .v (.lst false n2281 c2282)), (4, .dead), (5, .v (.int .i64 x2284)), (10, .dead), (14, .dead), (25, .dead)], [], 0, []⟩) N _ ((Wk_le (.cons _ _ _ _ _ (.refl _) (.cons _ _ _ _ _ (.refl _) (.cons _ _ _ _ _ (.dead _) (.cons _ _ _ _ _ (.refl _) (.cons _ _ _ _ _ (.dead _) (.cons _ _ _ _ _ (.refl _) (.cons _ _ _ _ _ (.refl _) .nil))))))) (OLe.refl _)).trans (cmpS_ok rfl)) ⟨_, h2298, rfl⟩ ?_
      clear h2298
      rintro n _ ⟨x2284, h2298, rfl⟩
      cases n with
      | zero => cases h2298
      | succ n =>
        rw [m21_L0] at h2298
        have hh := brn_some h2298; clear h2298; rcases hh with ⟨h2285, h2298⟩ | ⟨h2285, h2298⟩
        · have hh := grd_some h2298; clear h2298; obtain ⟨⟨g2286, g2287⟩, h2298⟩ := hh
          have hh := grd_some h2298; clear h2298; obtain ⟨g2288, h2298⟩ := hh
          have hh := getI_some h2298; clear h2298; obtain ⟨x2290, h2289, h2298⟩ := hh
          have hh := grd_some h2298; clear h2298; obtain ⟨g2291, h2298⟩ := hh
          have hh := grd_some h2298; clear h2298; obtain ⟨g2292, h2298⟩ := hh
          have hh := getI_some h2298; clear h2298; obtain ⟨x2294, h2293, h2298⟩ := hh
          have hh := brn_some h2298; clear h2298; rcases hh with ⟨h2295, h2298⟩ | ⟨h2295, h2298⟩
          · refine W_sound tab_ok mixed 31 _ _ _ ?_
            simp -implicitDefEqProofs only [go_sem, ne_eq, not_false_eq_true, Nat.reduceBEq, Nat.reduceAdd, Nat.reduceSub, Nat.reduceMul, Nat.reduceLT, Nat.reduceLeDiff, Int.reduceLE, Int.reduceLT, Int.reduceToNat, Int.reduceBEq, Int.reduceBNe, Int.le_refl, Nat.le_refl, decide_true, decide_false, Int.cast_ofNat_Int, ↓reduceIte, h2277, h2280, h2283, h2285, g2286, g2287, g2288, h2289, g2291, g2292, h2293, h2295]
            repeat with_reducible refine And.intro (by first | kernel_rfl | decide) ?_
            obtain rfl := Option.some.inj h2298
            (try dsimp only at h2299)
            obtain rfl := Option.some.inj h2299
            exact finC [(4, .v (.bool false))] [(4, .v (.bool false))] (by simp [leE, lk_cons]) (.cons _ _ _ _ _ (.v _ _ (.refl _)) .nil) (by rfl) (by simp [leE, lk_cons]) (by decide) (by decide) rfl (by simp only [go_sem, ne_eq, not_false_eq_true, Nat.reduceBEq, Nat.reduceAdd, Nat.reduceSub, Nat.reduceMul, Nat.reduceLT, Nat.reduceLeDiff, Int.reduceLE, Int.reduceLT, Int.reduceToNat, Int.reduceBEq, Int.reduceBNe, Int.le_refl, Nat.le_refl, decide_true, decide_false, Int.cast_ofNat_Int, ↓reduceIte, resQ_tmp, resQ_cell, resQ_nil, retD_one, retD_two, retD_three, retD_none]; try simp [R.val, retD_one, retD_two, retD_three, retD_none])
          · refine W_sound tab_ok mixed 32 _ _ _ ?_
            simp -implicitDefEqProofs only [go_sem, ne_eq, not_false_eq_true, Nat.reduceBEq, Nat.reduceAdd, Nat.reduceSub, Nat.reduceMul, Nat.reduceLT, Nat.reduceLeDiff, Int.reduceLE, Int.reduceLT, Int.reduceToNat, Int.reduceBEq, Int.reduceBNe, Int.le_refl, Nat.le_refl, decide_true, decide_false, Int.cast_ofNat_Int, ↓reduceIte, h2277, h2280, h2283, h2285, g2286, g2287, g2288, h2289, g2291, g2292, h2293, h2295]
            repeat with_reducible refine And.intro (by first | kernel_rfl | decide) ?_
            exact cutQ _ ((Wk_le (.cons _ _ _ _ _ (.refl _) (.cons _ _ _ _ _ (.refl _) (.cons _ _ _ _ _ (.refl _) (.cons _ _ _ _ _ (.refl _) (.cons _ _ _ _ _ (.refl _) (.cons _ _ _ _ _ (.dead _) (.cons _ _ _ _ _ (.dead _) .nil))))))) (OLe.refl _)).trans (cmpS_ok rfl)) ⟨n, Nat.lt_succ_self n, _, h2298, rfl⟩
        · refine W_sound tab_ok mixed 10 _ _ _ ?_
          simp -implicitDefEqProofs only [go_sem, ne_eq, not_false_eq_true, Nat.reduceBEq, Nat.reduceAdd, Nat.reduceSub, Nat.reduceMul, Nat.reduceLT, Nat.reduceLeDiff, Int.reduceLE, Int.reduceLT, Int.reduceToNat, Int.reduceBEq, Int.reduceBNe, Int.le_refl, Nat.le_refl, decide_true, decide_false, Int.cast_ofNat_Int, ↓reduceIte, h2277, h2280, h2283, h2285]
          repeat with_reducible refine And.intro (by first | kernel_rfl | decide) ?_
          obtain rfl := Option.some.inj h2298
          exact cutQ _ ((Wk_le (.cons _ _ _ _ _ (.dead _) (.cons _ _ _ _ _ (.dead _) (.cons _ _ _ _ _ (.refl _) (.cons _ _ _ _ _ (.dead _) (.cons _ _ _ _ _ (.refl _) (.cons _ _ _ _ _ (.dead _) (.cons _ _ _ _ _ (.refl _) .nil))))))) (OLe.refl _)).trans (cmpS_ok rfl)) ⟨rfl, rfl⟩
    · rintro _ ⟨rfl, rfl⟩
      (try dsimp only at h2299)
      refine W_sound tab_ok mixed 6 _ _ _ ?_
      simp -implicitDefEqProofs only [go_sem, ne_eq, not_false_eq_true, Nat.reduceBEq, Nat.reduceAdd, Nat.reduceSub, Nat.reduceMul, Nat.reduceLT, Nat.reduceLeDiff, Int.reduceLE, Int.reduceLT, Int.reduceToNat, Int.reduceBEq, Int.reduceBNe, Int.le_refl, Nat.le_refl, decide_true, decide_false, Int.cast_ofNat_Int, ↓reduceIte, h2277, h2280, h2283]
      repeat with_reducible refine And.intro (by first | kernel_rfl | decide) ?_
      obtain rfl := Option.some.inj h2299
      exact finC [(4, .v (.bool true))] [(4, .v (.bool true))] (by simp [leE, lk_cons]) (.cons _ _ _ _ _ (.v _ _ (.refl _)) .nil) (by rfl) (by simp [leE, lk_cons]) (by decide) (by decide) rfl (by simp only [go_sem, ne_eq, not_false_eq_true, Nat.reduceBEq, Nat.reduceAdd, Nat.reduceSub, Nat.reduceMul, Nat.reduceLT, Nat.reduceLeDiff, Int.reduceLE, Int.reduceLT, Int.reduceToNat, Int.reduceBEq, Int.reduceBNe, Int.le_refl, Nat.le_refl, decide_true, decide_false, Int.cast_ofNat_Int, ↓reduceIte, resQ_tmp, resQ_cell, resQ_nil, retD_one, retD_two, retD_three, retD_none]; try simp [R.val, retD_one, retD_two, retD_three, retD_none])

def m3 (N : Nat) (p2300 : PV) (p2301 : PV) (p2302 : PV) : Option (PV) :=
  getA2 p2300 fun p2304 p2305 =>
  getL p2301 fun n2307 c2308 =>
  getL p2302 fun n2310 c2311 =>
  bnd' (m15 N (.agg [p2304, p2305])) fun p2312 =>
  getB p2312 fun b2315 =>
  brn b2315 (
    bnd' (m16 N ) fun p2317 =>
    getB p2317 fun b2320 =>
    some (.bool b2320)) (
    brn (decide (((n2307 : Nat) : Int) > 20)) (
      bnd' (m16 N ) fun p2322 =>
      getB p2322 fun b2325 =>
      some (.bool b2325)) (
      brn (decide (((n2310 : Nat) : Int) > 20)) (
        bnd' (m16 N ) fun p2327 =>
        getB p2327 fun b2330 =>
        some (.bool b2330)) (
        getI .i64 p2304 fun x2332 =>
        bnd' (m17 N (.agg [(.int .i64 x2332), p2305]) (.lst false n2307 c2308)) fun p2333 =>
        getT2 p2333 fun p2336 p2337 =>
        getI .i64 p2336 fun x2339 =>
        getI .i64 p2337 fun x2341 =>
        bnd' (m18 N (.agg [(.int .i64 x2332), p2305]) (.lst false n2307 c2308)) fun p2342 =>
        getT2 p2342 fun p2345 p2346 =>
        getI .i64 p2345 fun x2348 =>
        getI .i64 p2346 fun x2350 =>
        bnd' (m19 N (.agg [(.int .i64 x2332), p2305]) (.lst false n2310 c2311)) fun p2351 =>
        getT2 p2351 fun p2354 p2355 =>
        getL p2354 fun n2357 c2358 =>
        getI .i64 p2355 fun x2360 =>
        bnd' (m20 N (.agg [(.int .i64 x2332), p2305]) (.lst false n2310 c2311)) fun p2361 =>
        getT2 p2361 fun p2364 p2365 =>
        getL p2364 fun n2367 c2368 =>
        getI .i64 p2365 fun x2370 =>
        brn (x2339 == x2348) (
          brn (x2341 == x2350) (
            bnd' (m21 N (.lst false n2357 c2358) (.lst false n2367 c2368)) fun p2373 =>
            getB p2373 fun b2376 =>
            brn b2376 (
              brn (x2360 == x2370) (
                bnd' (m22 N (.agg [(.int .i64 x2332), p2305])) fun p2379 =>
                getI .i64 p2379 fun x2382 =>
                bnd' (m23 N (.agg [(.int .i64 x2332), p2305])) fun p2383 =>
                getI .i64 p2383 fun x2386 =>
                brn (x2382 == x2386) (
                  bnd' (m24 N (.agg [(.int .i64 x2332), p2305]) (.lst false n2310 c2311)) fun p2388 =>
                  getI .i64 p2388 fun x2391 =>
                  bnd' (m25 N (.agg [(.int .i64 x2332), p2305]) (.lst false n2310 c2311)) fun p2392 =>
                  getI .i64 p2392 fun x2395 =>
                  brn (x2391 == x2395) (
                    bnd' (m16 N ) fun p2397 =>
                    getB p2397 fun b2400 =>
                    some (.bool b2400)) (
                    some (.bool false))) (
                  some (.bool false))) (
                some (.bool false))) (
              some (.bool false))) (
            some (.bool false))) (
          some (.bool false)))))
theorem c3 (N : Nat) (p2300 : PV) (p2301 : PV) (p2302 : PV) (r : PV)  (h : m3 N p2300 p2301 p2302 = some r) : FnP Tryd.prog 3 [p2300, p2301, p2302] r := by
  unfold m3 at h
  refine Fn_of (sz := 91) tab_ok [0, 1, 2, 3, 6, 7, 8, 9, 10, 11, 12, 13, 14, 15, 27] [.tmp 6] Tryd.func3 rfl rfl rfl (by simp) ?_
  simp only [initSt, initEnv, List.map_cons, List.map_nil, List.getD_cons_zero, List.getD_cons_succ, List.getD_nil]
  have hh := getA2_some h; clear h; obtain ⟨p2304, p2305, h2303, h⟩ := hh
  have hh := getL_some h; clear h; obtain ⟨n2307, c2308, h2306, h⟩ := hh
  have hh := getL_some h; clear h; obtain ⟨n2310, c2311, h2309, h⟩ := hh
  have hh := bnd'_some h; clear h; obtain ⟨p2312, h2313, h⟩ := hh
  refine W_sound tab_ok mixed 9 _ _ _ ?_
  simp -implicitDefEqProofs only [go_sem, ne_eq, not_false_eq_true, Nat.reduceBEq, Nat.reduceAdd, Nat.reduceSub, Nat.reduceMul, Nat.reduceLT, Nat.reduceLeDiff, Int.reduceLE, Int.reduceLT, Int.reduceToNat, Int.reduceBEq, Int.reduceBNe, Int.le_refl, Nat.le_refl, decide_true, decide_false, Int.cast_ofNat_Int, ↓reduceIte, h2303, h2306, h2309]
  repeat with_reducible refine And.intro (by first | kernel_rfl | decide) ?_
  refine Wp_callP (c15 N _ _ h2313) (by kernel_rfl) rfl rfl rfl rfl (by decide) ?_
  have hh := getB_some h; clear h; obtain ⟨b2315, h2314, h⟩ := hh
  have hh := brn_some h; clear h; rcases hh with ⟨h2316, h⟩ | ⟨h2316, h⟩
  · have hh := bnd'_some h; clear h; obtain ⟨p2317, h2318, h⟩ := hh
    refine W_sound tab_ok mixed 14 _ _ _ ?_
    simp -implicitDefEqProofs only [go_sem, ne_eq, not_false_eq_true, Nat.reduceBEq, Nat.reduceAdd, Nat.reduceSub, Nat.reduceMul, Nat.reduceLT, Nat.reduceLeDiff, Int.reduceLE, Int.reduceLT, Int.reduceToNat, Int.reduceBEq, Int.reduceBNe, Int.le_refl, Nat.le_refl, decide_true, decide_false, Int.cast_ofNat_Int, ↓reduceIte, h2303, h2306, h2309, h2314, h2316]
    repeat with_reducible refine And.intro (by first | kernel_rfl | decide) ?_
    refine Wp_callP (c16 N  _ h2318) (by kernel_rfl) rfl rfl rfl rfl (by decide) ?_
    have hh := getB_some h; clear h; obtain ⟨b2320, h2319, h⟩ := hh
    refine W_sound tab_ok mixed 4 _ _ _ ?_
    simp -implicitDefEqProofs only [go_sem, ne_eq, not_false_eq_true, Nat.reduceBEq, Nat.reduceAdd, Nat.reduceSub, Nat.reduceMul, Nat.reduceLT, Nat.reduceLeDiff, Int.reduceLE, Int.reduceLT, Int.reduceToNat, Int.reduceBEq, Int.reduceBNe, Int.le_refl, Nat.le_refl, decide_true, decide_false, Int.cast_ofNat_Int, ↓reduceIte, h2303, h2306, h2309, h2314, h2316, h2319]
    repeat with_reducible refine And.intro (by first | kernel_rfl | decide) ?_
    obtain rfl := Option.some.inj h
    exact finC [(6, .v (.bool b2320))] [(6, .v (.bool b2320))] (by simp [leE, lk_cons]) (.cons _ _ _ _ _ (.v _ _ (.refl _)) .nil) (by rfl) (by simp [leE, lk_cons]) (by decide) (by decide) rfl (by simp only [go_sem, ne_eq, not_false_eq_true, Nat.reduceBEq, Nat.reduceAdd, Nat.reduceSub, Nat.reduceMul, Nat.reduceLT, Nat.reduceLeDiff, Int.reduceLE, Int.reduceLT, Int.reduceToNat, Int.reduceBEq, Int.reduceBNe, Int.le_refl, Nat.le_refl, decide_true, decide_false, Int.cast_ofNat_Int, ↓reduceIte, resQ_tmp, resQ_cell, resQ_nil, retD_one, retD_two, retD_three, retD_none]; try simp [R.val, retD_one, retD_two, retD_three, retD_none])
  · have hh := brn_some h; clear h; rcases hh with ⟨h2321, h⟩ | ⟨h2321, h⟩
    · have hh := bnd'_some h; clear h; obtain ⟨p2322, h2323, h⟩ := hh
      refine W_sound tab_ok mixed 14 _ _ _ ?_
      simp -implicitDefEqProofs only [go_sem, ne_eq, not_false_eq_true, Nat.reduceBEq, Nat.reduceAdd, Nat.reduceSub, Nat.reduceMul, Nat.reduceLT, Nat.reduceLeDiff, Int.reduceLE, Int.reduceLT, Int.reduceToNat, Int.reduceBEq, Int.reduceBNe, Int.le_refl, Nat.le_refl, decide_true, decide_false, Int.cast_ofNat_Int, ↓reduceIte, h2303, h2306, h2309, h2314, h2316, h2321]
      repeat with_reducible refine And.intro (by first | kernel_rfl | decide) ?_
      refine Wp_callP (c16 N  _ h2323) (by kernel_rfl) rfl rfl rfl rfl (by decide) ?_
      have hh := getB_some h; clear h; obtain ⟨b2325, h2324, h⟩ := hh
      refine W_sound tab_ok mixed 4 _ _ _ ?_
      simp -implicitDefEqProofs only [go_sem, ne_eq, not_false_eq_true, Nat.reduceBEq, Nat.reduceAdd, Nat.reduceSub, Nat.reduceMul, Nat.reduceLT, Nat.reduceLeDiff, Int.reduceLE, Int.reduceLT, Int.reduceToNat, Int.reduceBEq, Int.reduceBNe, Int.le_refl, Nat.le_refl, decide_true, decide_false, Int.cast_ofNat_Int, ↓reduceIte, h2303, h2306, h2309, h2314, h2316, h2321, h2324]
      repeat with_reducible refine And.intro (by first | kernel_rfl | decide) ?_
      obtain rfl := Option.some.inj h
      exact finC [(6, .v (.bool b2325))] [(6, .v (.bool b2325))] (by simp [leE, lk_cons]) (.cons _ _ _ _ _ (.v _ _ (.refl _)) .nil) (by rfl) (by simp [leE, lk_cons]) (by decide) (by decide) rfl (by simp only [go_sem, ne_eq, not_false_eq_true, Nat.reduceBEq, Nat.reduceAdd, Nat.reduceSub, Nat.reduceMul, Nat.reduceLT, Nat.reduceLeDiff, Int.reduceLE, Int.reduceLT, Int.reduceToNat, Int.reduceBEq, Int.reduceBNe, Int.le_refl, Nat.le_refl, decide_true, decide_false, Int.cast_ofNat_Int, ↓reduceIte, resQ_tmp, resQ_cell, resQ_nil, retD_one, retD_two, retD_three, retD_none]; try simp [R.val, retD_one, retD_two, retD_three, retD_none])
    · have hh := brn_some h; clear h; rcases hh with ⟨h2326, h⟩ | ⟨h2326, h⟩
      · have hh := bnd'_some h; clear h; obtain ⟨p2327, h2328, h⟩ := hh
        refine W_sound tab_ok mixed 14 _ _ _ ?_
        simp -implicitDefEqProofs only [go_sem, ne_eq, not_false_eq_true, Nat.reduceBEq, Nat.reduceAdd, Nat.reduceSub, Nat.reduceMul, Nat.reduceLT, Nat.reduceLeDiff, Int.reduceLE, Int.reduceLT, Int.reduceToNat, Int.reduceBEq, Int.reduceBNe, Int.le_refl, Nat.le_refl, decide_true, decide_false, Int.cast_ofNat_Int, ↓reduceIte, h2303, h2306, h2309, h2314, h2316, h2321, h2326]
        repeat with_reducible refine And.intro (by first | kernel_rfl | decide) ?_
        refine Wp_callP (c16 N  _ h2328) (by kernel_rfl) rfl rfl rfl rfl (by decide) ?_
        have hh := getB_some h; clear h; obtain ⟨b2330, h2329, h⟩ := hh
        refine W_sound tab_ok mixed 4 _ _ _ ?_
        simp -implicitDefEqProofs only [go_sem, ne_eq, not_false_eq_true, Nat.reduceBEq, Nat.reduceAdd, Nat.reduceSub, Nat.reduceMul, Nat.reduceLT, Nat.reduceLeDiff, Int.reduceLE, Int.reduceLT, Int.reduceToNat, Int.reduceBEq, Int.reduceBNe, Int.le_refl, Nat.le_refl, decide_true, decide_false, Int.cast_ofNat_Int, ↓reduceIte, h2303, h2306, h2309, h2314, h2316, h2321, h2326, h2329]
        repeat with_reducible refine And.intro (by first | kernel_rfl | decide) ?_
        obtain rfl := Option.some.inj h
        exact finC [(6, .v (.bool b2330))] [(6, .v (.bool b2330))] (by simp [leE, lk_cons]) (.cons _ _ _ _ _ (.v _ _ (.refl _)) .nil) (by rfl) (by simp [leE, lk_cons]) (by decide) (by decide) rfl (by simp only [go_sem, ne_eq, not_false_eq_true, Nat.reduceBEq, Nat.reduceAdd, Nat.reduceSub, Nat.reduceMul, Nat.reduceLT, Nat.reduceLeDiff, Int.reduceLE, Int.reduceLT, Int.reduceToNat, Int.reduceBEq, Int.reduceBNe, Int.le_refl, Nat.le_refl, decide_true, decide_false, Int.cast_ofNat_Int, ↓reduceIte, resQ_tmp, resQ_cell, resQ_nil, retD_one, retD_two, retD_three, retD_none]; try simp [R.val, retD_one, retD_two, retD_three, retD_none])
      · have hh := getI_some h; clear h; obtain ⟨x2332, h2331, h⟩ := hh
        have hh := bnd'_some h; clear h; obtain ⟨p2333, h2334, h⟩ := hh
        refine W_sound tab_ok mixed 23 _ _ _ ?_
        simp -implicitDefEqProofs only [go_sem, ne_eq, not_false_eq_true, Nat.reduceBEq, Nat.reduceAdd, Nat.reduceSub, Nat.reduceMul, Nat.reduceLT, Nat.reduceLeDiff, Int.reduceLE, Int.reduceLT, Int.reduceToNat, Int.reduceBEq, Int.reduceBNe, Int.le_refl, Nat.le_refl, decide_true, decide_false, Int.cast_ofNat_Int, ↓reduceIte, h2303, h2306, h2309, h2314, h2316, h2321, h2326, h2331]
        repeat with_reducible refine And.intro (by first | kernel_rfl | decide) ?_
        refine Wp_callP (c17 N _ _ _ h2334) (by kernel_rfl) rfl rfl rfl rfl (by decide) ?_
        have hh := getT2_some h; clear h; obtain ⟨p2336, p2337, h2335, h⟩ := hh
        have hh := getI_some h; clear h; obtain ⟨x2339, h2338, h⟩ := hh
        have hh := getI_some h; clear h; obtain ⟨x2341, h2340, h⟩ := hh
        have hh := bnd'_some h; clear h; obtain ⟨p2342, h2343, h⟩ := hh
        refine W_sound tab_ok mixed 10 _ _ _ ?_
        simp -implicitDefEqProofs only [go_sem, ne_eq, not_false_eq_true, Nat.reduceBEq, Nat.reduceAdd, Nat.reduceSub, Nat.reduceMul, Nat.reduceLT, Nat.reduceLeDiff, Int.reduceLE, Int.reduceLT, Int.reduceToNat, Int.reduceBEq, Int.reduceBNe, Int.le_refl, Nat.le_refl, decide_true, decide_false, Int.cast_ofNat_Int, ↓reduceIte, h2303, h2306, h2309, h2314, h2316, h2321, h2326, h2331, h2335, h2338, h2340]
        repeat with_reducible refine And.intro (by first | kernel_rfl | decide) ?_
        refine Wp_callP (c18 N _ _ _ h2343) (by kernel_rfl) rfl rfl rfl rfl (by decide) ?_
        have hh := getT2_some h; clear h; obtain ⟨p2345, p2346, h2344, h⟩ := hh
        have hh := getI_some h; clear h; obtain ⟨x2348, h2347, h⟩ := hh
        have hh := getI_some h; clear h; obtain ⟨x2350, h2349, h⟩ := hh
        have hh := bnd'_some h; clear h; obtain ⟨p2351, h2352, h⟩ := hh
        refine W_sound tab_ok mixed 10 _ _ _ ?_
        simp -implicitDefEqProofs only [go_sem, ne_eq, not_false_eq_true, Nat.reduceBEq, Nat.reduceAdd, Nat.reduceSub, Nat.reduceMul, Nat.reduceLT, Nat.reduceLeDiff, Int.reduceLE, Int.reduceLT, Int.reduceToNat, Int.reduceBEq, Int.reduceBNe, Int.le_refl, Nat.le_refl, decide_true, decide_false, Int.cast_ofNat_Int, ↓reduceIte, h2303, h2306, h2309, h2314, h2316, h2321, h2326, h2331, h2335, h2338, h2340, h2344, h2347, h2349]
        repeat with_reducible refine And.intro (by first | kernel_rfl | decide) ?_
        refine Wp_callP (c19 N _ _ _ h2352) (by kernel_rfl) rfl rfl rfl rfl (by decide) ?_
        have hh := getT2_some h; clear h; obtain ⟨p2354, p2355, h2353, h⟩ := hh
        have hh := getL_some h; clear h; obtain ⟨n2357, c2358, h2356, h⟩ := hh
        have hh := getI_some h; clear h; obtain ⟨x2360, h2359, h⟩ := hh
        have hh := bnd'_some h; clear h; obtain ⟨p2361, h2362, h⟩ := hh
        refine W_sound tab_ok mixed 10 _ _ _ ?_
        simp -implicitDefEqProofs only [go_sem, ne_eq, not_false_eq_true, Nat.reduceBEq, Nat.reduceAdd, Nat.reduceSub, Nat.reduceMul, Nat.reduceLT, Nat.reduceLeDiff, Int.reduceLE, Int.reduceLT, Int.reduceToNat, Int.reduceBEq, Int.reduceBNe, Int.le_refl, Nat.le_refl, decide_true, decide_false, Int.cast_ofNat_Int, ↓reduceIte, h2303, h2306, h2309, h2314, h2316, h2321, h2326, h2331, h2335, h2338, h2340, h2344, h2347, h2349, h2353, h2356, h2359]
        repeat with_reducible refine And.intro (by first | kernel_rfl | decide) ?_
        refine Wp_callP (c20 N _ _ _ h2362) (by kernel_rfl) rfl rfl rfl rfl (by decide) ?_
        have hh := getT2_some h; clear h; obtain ⟨p2364, p2365, h2363, h⟩ := hh
        have hh := getL_some h; clear h; obtain ⟨n2367, c2368, h2366, h⟩ := hh
        have hh := getI_some h; clear h; obtain ⟨x2370, h2369, h⟩ := hh
        have hh := brn_some h; clear h; rcases hh with ⟨h2371, h⟩ | ⟨h2371, h⟩
        · have hh := brn_some h; clear h; rcases hh with ⟨h2372, h⟩ | ⟨h2372, h⟩
          · have hh := bnd'_some h; clear h; obtain ⟨p2373, h2374, h⟩ := hh
            refine W_sound tab_ok mixed 19 _ _ _ ?_
            simp -implicitDefEqProofs only [go_sem, ne_eq, not_false_eq_true, Nat.reduceBEq, Nat.reduceAdd, Nat.reduceSub, Nat.reduceMul, Nat.reduceLT, Nat.reduceLeDiff, Int.reduceLE, Int.reduceLT, Int.reduceToNat, Int.reduceBEq, Int.reduceBNe, Int.le_refl, Nat.le_refl, decide_true, decide_false, Int.cast_ofNat_Int, ↓reduceIte, h2303, h2306, h2309, h2314, h2316, h2321, h2326, h2331, h2335, h2338, h2340, h2344, h2347, h2349, h2353, h2356, h2359, h2363, h2366, h2369, h2371, h2372]
            repeat with_reducible refine And.intro (by first | kernel_rfl | decide) ?_
            refine Wp_callP (c21 N _ _ _ h2374) (by kernel_rfl) rfl rfl rfl rfl (by decide) ?_
            have hh := getB_some h; clear h; obtain ⟨b2376, h2375, h⟩ := hh
            have hh := brn_some h; clear h; rcases hh with ⟨h2377, h⟩ | ⟨h2377, h⟩
            · have hh := brn_some h; clear h; rcases hh with ⟨h2378, h⟩ | ⟨h2378, h⟩
              · have hh := bnd'_some h; clear h; obtain ⟨p2379, h2380, h⟩ := hh
                refine W_sound tab_ok mixed 8 _ _ _ ?_
                simp -implicitDefEqProofs only [go_sem, ne_eq, not_false_eq_true, Nat.reduceBEq, Nat.reduceAdd, Nat.reduceSub, Nat.reduceMul, Nat.reduceLT, Nat.reduceLeDiff, Int.reduceLE, Int.reduceLT, Int.reduceToNat, Int.reduceBEq, Int.reduceBNe, Int.le_refl, Nat.le_refl, decide_true, decide_false, Int.cast_ofNat_Int, ↓reduceIte, h2303, h2306, h2309, h2314, h2316, h2321, h2326, h2331, h2335, h2338, h2340, h2344, h2347, h2349, h2353, h2356, h2359, h2363, h2366, h2369, h2371, h2372, h2375, h2377, h2378]
                repeat with_reducible refine And.intro (by first | kernel_rfl | decide) ?_
                refine Wp_callP (c22 N _ _ h2380) (by kernel_rfl) rfl rfl rfl rfl (by decide) ?_
                have hh := getI_some h; clear h; obtain ⟨x2382, h2381, h⟩ := hh
                have hh := bnd'_some h; clear h; obtain ⟨p2383, h2384, h⟩ := hh
                refine W_sound tab_ok mixed 1 _ _ _ ?_
                simp -implicitDefEqProofs only [go_sem, ne_eq, not_false_eq_true, Nat.reduceBEq, Nat.reduceAdd, Nat.reduceSub, Nat.reduceMul, Nat.reduceLT, Nat.reduceLeDiff, Int.reduceLE, Int.reduceLT, Int.reduceToNat, Int.reduceBEq, Int.reduceBNe, Int.le_refl, Nat.le_refl, decide_true, decide_false, Int.cast_ofNat_Int, ↓reduceIte, h2303, h2306, h2309, h2314, h2316, h2321, h2326, h2331, h2335, h2338, h2340, h2344, h2347, h2349, h2353, h2356, h2359, h2363, h2366, h2369, h2371, h2372, h2375, h2377, h2378, h2381]
                repeat with_reducible refine And.intro (by first | kernel_rfl | decide) ?_
                refine Wp_callP (c23 N _ _ h2384) (by kernel_rfl) rfl rfl rfl rfl (by decide) ?_
                have hh := getI_some h; clear h; obtain ⟨x2386, h2385, h⟩ := hh
                have hh := brn_some h; clear h; rcases hh with ⟨h2387, h⟩ | ⟨h2387, h⟩
                · have hh := bnd'_some h; clear h; obtain ⟨p2388, h2389, h⟩ := hh
                  refine W_sound tab_ok mixed 5 _ _ _ ?_
                  simp -implicitDefEqProofs only [go_sem, ne_eq, not_false_eq_true, Nat.reduceBEq, Nat.reduceAdd, Nat.reduceSub, Nat.reduceMul, Nat.reduceLT, Nat.reduceLeDiff, Int.reduceLE, Int.reduceLT, Int.reduceToNat, Int.reduceBEq, Int.reduceBNe, Int.le_refl, Nat.le_refl, decide_true, decide_false, Int.cast_ofNat_Int, ↓reduceIte, h2303, h2306, h2309, h2314, h2316, h2321, h2326, h2331, h2335, h2338, h2340, h2344, h2347, h2349, h2353, h2356, h2359, h2363, h2366, h2369, h2371, h2372, h2375, h2377, h2378, h2381, h2385, h2387]
                  repeat with_reducible refine And.intro (by first | kernel_rfl | decide) ?_
                  refine Wp_callP (c24 N _ _ _ h2389) (by kernel_rfl) rfl rfl rfl rfl (by decide) ?_
                  have hh := getI_some h; clear h; obtain ⟨x2391, h2390, h⟩ := hh
                  have hh := bnd'_some h; clear h; obtain ⟨p2392, h2393, h⟩ := hh
                  refine W_sound tab_ok mixed 2 _ _ _ ?_
                  simp -implicitDefEqProofs only [go_sem, ne_eq, not_false_eq_true, Nat.reduceBEq, Nat.reduceAdd, Nat.reduceSub, Nat.reduceMul, Nat.reduceLT, Nat.reduceLeDiff, Int.reduceLE, Int.reduceLT, Int.reduceToNat, Int.reduceBEq, Int.reduceBNe, Int.le_refl, Nat.le_refl, decide_true, decide_false, Int.cast_ofNat_Int, ↓reduceIte, h2303, h2306, h2309, h2314, h2316, h2321, h2326, h2331, h2335, h2338, h2340, h2344, h2347, h2349, h2353, h2356, h2359, h2363, h2366, h2369, h2371, h2372, h2375, h2377, h2378, h2381, h2385, h2387, h2390]
                  repeat with_reducible refine And.intro (by first | kernel_rfl | decide) ?_
                  refine Wp_callP (c25 N _ _ _ h2393) (by kernel_rfl) rfl rfl rfl rfl (by decide) ?_
                  have hh := getI_some h; clear h; obtain ⟨x2395, h2394, h⟩ := hh
                  have hh := brn_some h; clear h; rcases hh with ⟨h2396, h⟩ | ⟨h2396, h⟩
                  · have hh := bnd'_some h; clear h; obtain ⟨p2397, h2398, h⟩ := hh
                    refine W_sound tab_ok mixed 3 _ _ _ ?_
                    simp -implicitDefEqProofs only [go_sem, ne_eq, not_false_eq_true, Nat.reduceBEq, Nat.reduceAdd, Nat.reduceSub, Nat.reduceMul, Nat.reduceLT, Nat.reduceLeDiff, Int.reduceLE, Int.reduceLT, Int.reduceToNat, Int.reduceBEq, Int.reduceBNe, Int.le_refl, Nat.le_refl, decide_true, decide_false, Int.cast_ofNat_Int, ↓reduceIte, h2303, h2306, h2309, h2314, h2316, h2321, h2326, h2331, h2335, h2338, h2340, h2344, h2347, h2349, h2353, h2356, h2359, h2363, h2366, h2369, h2371, h2372, h2375, h2377, h2378, h2381, h2385, h2387, h2390, h2394, h2396]
                    repeat with_reducible refine And.intro (by first | kernel_rfl | decide) ?_
                    refine Wp_callP (c16 N  _ h2398) (by kernel_rfl) rfl rfl rfl rfl (by decide) ?_
                    have hh := getB_some h; clear h; obtain ⟨b2400, h2399, h⟩ := hh
                    refine W_sound tab_ok mixed 5 _ _ _ ?_
                    simp -implicitDefEqProofs only [go_sem, ne_eq, not_false_eq_true, Nat.reduceBEq, Nat.reduceAdd, Nat.reduceSub, Nat.reduceMul, Nat.reduceLT, Nat.reduceLeDiff, Int.reduceLE, Int.reduceLT, Int.reduceToNat, Int.reduceBEq, Int.reduceBNe, Int.le_refl, Nat.le_refl, decide_true, decide_false, Int.cast_ofNat_Int, ↓reduceIte, h2303, h2306, h2309, h2314, h2316, h2321, h2326, h2331, h2335, h2338, h2340, h2344, h2347, h2349, h2353, h2356, h2359, h2363, h2366, h2369, h2371, h2372, h2375, h2377, h2378, h2381, h2385, h2387, h2390, h2394, h2396, h2399]
                    repeat with_reducible refine And.intro (by first | kernel_rfl | decide) ?_
                    obtain rfl := Option.some.inj h
                    exact finC [(6, .v (.bool b2400))] [(6, .v (.bool b2400))] (by simp [leE, lk_cons]) (.cons _ _ _ _ _ (.v _ _ (.refl _)) .nil) (by rfl) (by simp [leE, lk_cons]) (by decide) (by decide) rfl (by simp only [go_sem, ne_eq, not_false_eq_true, Nat.reduceBEq, Nat.reduceAdd, Nat.reduceSub, Nat.reduceMul, Nat.reduceLT, Nat.reduceLeDiff, Int.reduceLE, Int.reduceLT, Int.reduceToNat, Int.reduceBEq, Int.reduceBNe, Int.le_refl, Nat.le_refl, decide_true, decide_false, Int.cast_ofNat_Int, ↓reduceIte, resQ_tmp, resQ_cell, resQ_nil, retD_one, retD_two, retD_three, retD_none]; try simp [R.val, retD_one, retD_two, retD_three, retD_none])
                  · refine W_sound tab_ok mixed 9 _ _ _ ?_
                    simp -implicitDefEqProofs only [go_sem, ne_eq, not_false_eq_true, Nat.reduceBEq, Nat.reduceAdd, Nat.reduceSub, Nat.reduceMul, Nat.reduceLT, Nat.reduceLeDiff, Int.reduceLE, Int.reduceLT, Int.reduceToNat, Int.reduceBEq, Int.reduceBNe, Int.le_refl, Nat.le_refl, decide_true, decide_false, Int.cast_ofNat_Int, ↓reduceIte, h2303, h2306, h2309, h2314, h2316, h2321, h2326, h2331, h2335, h2338, h2340, h2344, h2347, h2349, h2353, h2356, h2359, h2363, h2366, h2369, h2371, h2372, h2375, h2377, h2378, h2381, h2385, h2387, h2390, h2394, h2396]
                    repeat with_reducible refine And.intro (by first | kernel_rfl | decide) ?_
                    obtain rfl := Option.some.inj h
                    exact finC [(6, .v (.bool false))] [(6, .v (.bool false))] (by simp [leE, lk_cons]) (.cons _ _ _ _ _ (.v _ _ (.refl _)) .nil) (by rfl) (by simp [leE, lk_cons]) (by decide) (by decide) rfl (by simp only [go_sem, ne_eq, not_false_eq_true, Nat.reduceBEq, Nat.reduceAdd, Nat.reduceSub, Nat.reduceMul, Nat.reduceLT, Nat.reduceLeDiff, Int.reduceLE, Int.reduceLT, Int.reduceToNat, Int.reduceBEq, Int.reduceBNe, Int.le_refl, Nat.le_refl, decide_true, decide_false, Int.cast_ofNat_Int, ↓reduceIte, resQ_tmp, resQ_cell, resQ_nil, retD_one, retD_two, retD_three, retD_none]; try simp [R.val, retD_one, retD_two, retD_three, retD_none])
                · refine W_sound tab_ok mixed 18 _ _ _ ?_
                  simp -implicitDefEqProofs only [go_sem, ne_eq, not_false_eq_true, Nat.reduceBEq, Nat.reduceAdd, Nat.reduceSub, Nat.reduceMul, Nat.reduceLT, Nat.reduceLeDiff, Int.reduceLE, Int.reduceLT, Int.reduceToNat, Int.reduceBEq, Int.reduceBNe, Int.le_refl, Nat.le_refl, decide_true, decide_false, Int.cast_ofNat_Int, ↓reduceIte, h2303, h2306, h2309, h2314, h2316, h2321, h2326, h2331, h2335, h2338, h2340, h2344, h2347, h2349, h2353, h2356, h2359, h2363, h2366, h2369, h2371, h2372, h2375, h2377, h2378, h2381, h2385, h2387]
                  repeat with_reducible refine And.intro (by first | kernel_rfl | decide) ?_
                  obtain rfl := Option.some.inj h
                  exact finC [(6, .v (.bool false))] [(6, .v (.bool false))] (by simp [leE, lk_cons]) (.cons _ _ _ _ _ (.v _ _ (.refl _)) .nil) (by rfl) (by simp [leE, lk_cons]) (by decide) (by decide) rfl (by simp only [go_sem, ne_eq, not_false_eq_true, Nat.reduceBEq, Nat.reduceAdd, Nat.reduceSub, Nat.reduceMul, Nat.reduceLT, Nat.reduceLeDiff, Int.reduceLE, Int.reduceLT, Int.reduceToNat, Int.reduceBEq, Int.reduceBNe, Int.le_refl, Nat.le_refl, decide_true, decide_false, Int.cast_ofNat_Int, ↓reduceIte, resQ_tmp, resQ_cell, resQ_nil, retD_one, retD_two, retD_three, retD_none]; try simp [R.val, retD_one, retD_two, retD_three, retD_none])
              · refine W_sound tab_ok mixed 29 _ _ _ ?_
                simp -implicitDefEqProofs only [go_sem, ne_eq, not_false_eq_true, Nat.reduceBEq, Nat.reduceAdd, Nat.reduceSub, Nat.reduceMul, Nat.reduceLT, Nat.reduceLeDiff, Int.reduceLE, Int.reduceLT, Int.reduceToNat, Int.reduceBEq, Int.reduceBNe, Int.le_refl, Nat.le_refl, decide_true, decide_false, Int.cast_ofNat_Int, ↓reduceIte, h2303, h2306, h2309, h2314, h2316, h2321, h2326, h2331, h2335, h2338, h2340, h2344, h2347, h2349, h2353, h2356, h2359, h2363, h2366, h2369, h2371, h2372, h2375, h2377, h2378]
                repeat with_reducible refine And.intro (by first | kernel_rfl | decide) ?_
                obtain rfl := Option.some.inj h
                exact finC [(6, .v (.bool false))] [(6, .v (.bool false))] (by simp [leE, lk_cons]) (.cons _ _ _ _ _ (.v _ _ (.refl _)) .nil) (by rfl) (by simp [leE, lk_cons]) (by decide) (by decide) rfl (by simp only [go_sem, ne_eq, not_false_eq_true, Nat.reduceBEq, Nat.reduceAdd, Nat.reduceSub, Nat.reduceMul, Nat.reduceLT, Nat.reduceLeDiff, Int.reduceLE, Int.reduceLT, Int.reduceToNat, Int.reduceBEq, Int.reduceBNe, Int.le_refl, Nat.le_refl, decide_true, decide_false, Int.cast_ofNat_Int, ↓reduceIte, resQ_tmp, resQ_cell, resQ_nil, retD_one, retD_two, retD_three, retD_none]; try simp [R.val, retD_one, retD_two, retD_three, retD_none])
            · refine W_sound tab_ok mixed 29 _ _ _ ?_
              simp -implicitDefEqProofs only [go_sem, ne_eq, not_false_eq_true, Nat.reduceBEq, Nat.reduceAdd, Nat.reduceSub, Nat.reduceMul, Nat.reduceLT, Nat.reduceLeDiff, Int.reduceLE, Int.reduceLT, Int.reduceToNat, Int.reduceBEq, Int.reduceBNe, Int.le_refl, Nat.le_refl, decide_true, decide_false, Int.cast_ofNat_Int, ↓reduceIte, h2303, h2306, h2309, h2314, h2316, h2321, h2326, h2331, h2335, h2338, h2340, h2344, h2347, h2349, h2353, h2356, h2359, h2363, h2366, h2369, h2371, h2372, h2375, h2377]
              repeat with_reducible refine And.intro (by first | kernel_rfl | decide) ?_
              obtain rfl := Option.some.inj h
              exact finC [(6, .v (.bool false))] [(6, .v (.bool false))] (by simp [leE, lk_cons]) (.cons _ _ _ _ _ (.v _ _ (.refl _)) .nil) (by rfl) (by simp [leE, lk_cons]) (by decide) (by decide) rfl (by simp only [go_sem, ne_eq, not_false_eq_true, Nat.reduceBEq, Nat.reduceAdd, Nat.reduceSub, Nat.reduceMul, Nat.reduceLT, Nat.reduceLeDiff, Int.reduceLE, Int.reduceLT, Int.reduceToNat, Int.reduceBEq, Int.reduceBNe, Int.le_refl, Nat.le_refl, decide_true, decide_false, Int.cast_ofNat_Int, ↓reduceIte, resQ_tmp, resQ_cell, resQ_nil, retD_one, retD_two, retD_three, retD_none]; try simp [R.val, retD_one, retD_two, retD_three, retD_none])
          · refine W_sound tab_ok mixed 49 _ _ _ ?_
            simp -implicitDefEqProofs only [go_sem, ne_eq, not_false_eq_true, Nat.reduceBEq, Nat.reduceAdd, Nat.reduceSub, Nat.reduceMul, Nat.reduceLT, Nat.reduceLeDiff, Int.reduceLE, Int.reduceLT, Int.reduceToNat, Int.reduceBEq, Int.reduceBNe, Int.le_refl, Nat.le_refl, decide_true, decide_false, Int.cast_ofNat_Int, ↓reduceIte, h2303, h2306, h2309, h2314, h2316, h2321, h2326, h2331, h2335, h2338, h2340, h2344, h2347, h2349, h2353, h2356, h2359, h2363, h2366, h2369, h2371, h2372]
            repeat with_reducible refine And.intro (by first | kernel_rfl | decide) ?_
            obtain rfl := Option.some.inj h
            exact finC [(6, .v (.bool false))] [(6, .v (.bool false))] (by simp [leE, lk_cons]) (.cons _ _ _ _ _ (.v _ _ (.refl _)) .nil) (by rfl) (by simp [leE, lk_cons]) (by decide) (by decide) rfl (by simp only [go_sem, ne_eq, not_false_eq_true, Nat.reduceBEq, Nat.reduceAdd, Nat.reduceSub, Nat.reduceMul, Nat.reduceLT, Nat.reduceLeDiff, Int.reduceLE, Int.reduceLT, Int.reduceToNat, Int.reduceBEq, Int.reduceBNe, Int.le_refl, Nat.le_refl, decide_true, decide_false, Int.cast_ofNat_Int, ↓reduceIte, resQ_tmp, resQ_cell, resQ_nil, retD_one, retD_two, retD_three, retD_none]; try simp [R.val, retD_one, retD_two, retD_three, retD_none])
        · refine W_sound tab_ok mixed 49 _ _ _ ?_
          simp -implicitDefEqProofs only [go_sem, ne_eq, not_false_eq_true, Nat.reduceBEq, Nat.reduceAdd, Nat.reduceSub, Nat.reduceMul, Nat.reduceLT, Nat.reduceLeDiff, Int.reduceLE, Int.reduceLT, Int.reduceToNat, Int.reduceBEq, Int.reduceBNe, Int.le_refl, Nat.le_refl, decide_true, decide_false, Int.cast_ofNat_Int, ↓reduceIte, h2303, h2306, h2309, h2314, h2316, h2321, h2326, h2331, h2335, h2338, h2340, h2344, h2347, h2349, h2353, h2356, h2359, h2363, h2366, h2369, h2371]
          repeat with_reducible refine And.intro (by first | kernel_rfl | decide) ?_
          obtain rfl := Option.some.inj h
          exact finC [(6, .v (.bool false))] [(6, .v (.bool false))] (by simp [leE, lk_cons]) (.cons _ _ _ _ _ (.v _ _ (.refl _)) .nil) (by rfl) (by simp [leE, lk_cons]) (by decide) (by decide) rfl (by simp only [go_sem, ne_eq, not_false_eq_true, Nat.reduceBEq, Nat.reduceAdd, Nat.reduceSub, Nat.reduceMul, Nat.reduceLT, Nat.reduceLeDiff, Int.reduceLE, Int.reduceLT, Int.reduceToNat, Int.reduceBEq, Int.reduceBNe, Int.le_refl, Nat.le_refl, decide_true, decide_false, Int.cast_ofNat_Int, ↓reduceIte, resQ_tmp, resQ_cell, resQ_nil, retD_one, retD_two, retD_three, retD_none]; try simp [R.val, retD_one, retD_two, retD_three, retD_none])
end Go.Proofs.YtnponojgpkbagaaDoor

namespace Go.Crew

def ja (j : List Nat) (s : Nat) : Nat := j.getD s 0
def jnd (j : List Nat) (p : Nat × Nat) : Bool := ja j p.1 == ja j p.2
def lo (j : List Nat) (p : Nat × Nat) : Nat := min (ja j p.1) (ja j p.2)
def hi (j : List Nat) (p : Nat × Nat) : Nat := max (ja j p.1) (ja j p.2)
def wth (j : List Nat) (p : Nat × Nat) : List Nat := j.map fun x => if x = hi j p then lo j p else x
/-- pairs are joined one after the other -/
def runJ : List Nat → List (Nat × Nat) → List Nat
  | j, [] => j
  | j, p :: l => if jnd j p then runJ j l else runJ (wth j p) l
def cntJ : List Nat → List (Nat × Nat) → Nat
  | _, [] => 0
  | j, p :: l => if jnd j p then cntJ j l else cntJ (wth j p) l + 1
def apt : List Nat := List.range 5
def rk (L : List (Nat × Nat)) : Nat := cntJ apt L

theorem cntJ_le : ∀ (L : List (Nat × Nat)) (j : List Nat), cntJ j L ≤ L.length
  | [], _ => by simp [cntJ]
  | p :: L, j => by
    simp only [cntJ, List.length_cons]
    split
    · have := cntJ_le L j; omega
    · have := cntJ_le L (wth j p); omega

structure Can (j : List Nat) : Prop where
  len : j.length = 5
  le : ∀ s, s < 5 → ja j s ≤ s
  id : ∀ s, s < 5 → ja j (ja j s) = ja j s
theorem wth_at {j : List Nat} (h : j.length = 5) (p : Nat × Nat) {s : Nat} (hs : s < 5) : ja (wth j p) s = if ja j s = hi j p then lo j p else ja j s := by
  simp [ja, wth, List.getD, h, hs]
theorem can_apt : Can apt := ⟨by decide, by decide, by decide⟩
def Ok (L : List (Nat × Nat)) : Prop := ∀ p ∈ L, p.1 < 5 ∧ p.2 < 5
theorem lo_le {j : List Nat} {p : Nat × Nat} : lo j p ≤ hi j p := by unfold lo hi; omega
theorem lo_or {j : List Nat} {p : Nat × Nat} : lo j p = ja j p.1 ∨ lo j p = ja j p.2 := by unfold lo; omega
theorem hi_or {j : List Nat} {p : Nat × Nat} : hi j p = ja j p.1 ∨ hi j p = ja j p.2 := by unfold hi; omega
theorem can_wth {j : List Nat} (h : Can j) {p : Nat × Nat} (hp : p.1 < 5 ∧ p.2 < 5) : Can (wth j p) := by
  have hlo : lo j p < 5 ∧ ja j (lo j p) = lo j p := by
    rcases lo_or (j := j) (p := p) with e | e <;> rw [e]
    · exact ⟨by have := h.le _ hp.1; omega, h.id _ hp.1⟩
    · exact ⟨by have := h.le _ hp.2; omega, h.id _ hp.2⟩
  refine ⟨by simp [wth, h.len], fun s hs => ?_, fun s hs => ?_⟩
  · rw [wth_at h.len p hs]
    have := h.le s hs
    have := lo_le (j := j) (p := p)
    split <;> omega
  · rw [wth_at h.len p hs]
    have h1 := h.le s hs
    have h2 := h.id s hs
    split
    · rw [wth_at h.len p hlo.1, hlo.2]
      split <;> rfl
    · rename_i hn
      rw [wth_at h.len p (by omega), h2, if_neg hn]
theorem can_run : ∀ {L : List (Nat × Nat)} {j : List Nat}, Can j → Ok L → Can (runJ j L)
  | [], _, h, _ => h
  | p :: L, j, h, hL => by
    simp only [runJ]
    split
    · exact can_run h fun q hq => hL q (.tail _ hq)
    · exact can_run (can_wth h (hL p (.head _))) fun q hq => hL q (.tail _ hq)
/-- finer -/
def Fin' (j j' : List Nat) : Prop := ∀ s t, s < 5 → t < 5 → ja j s = ja j t → ja j' s = ja j' t
theorem fin_refl (j : List Nat) : Fin' j j := fun _ _ _ _ h => h
theorem fin_wth {j : List Nat} (h : Can j) {p : Nat × Nat} : Fin' j (wth j p) := fun s t hs ht e => by
  rw [wth_at h.len p hs, wth_at h.len p ht, e]
theorem wth_jnd {j : List Nat} (h : Can j) {p : Nat × Nat} (hp : p.1 < 5 ∧ p.2 < 5) : ja (wth j p) p.1 = ja (wth j p) p.2 := by
  rw [wth_at h.len p hp.1, wth_at h.len p hp.2]
  unfold lo hi
  split <;> split <;> omega
/-- joining is the least that joins a pair -/
theorem wth_least {j j' : List Nat} (h : Can j) {p : Nat × Nat} (hp : p.1 < 5 ∧ p.2 < 5) (hf : Fin' j j') (hj : ja j' p.1 = ja j' p.2) : Fin' (wth j p) j' := by
  intro s t hs ht e
  rw [wth_at h.len p hs, wth_at h.len p ht] at e
  have key : ∀ s, s < 5 → (ja j s = ja j p.1 ∨ ja j s = ja j p.2) → ja j' s = ja j' p.1 := fun s hs h => by
    rcases h with h | h
    · exact hf _ _ hs hp.1 h
    · rw [hj]; exact hf _ _ hs hp.2 h
  have k1 : ja j s = hi j p → ja j' s = ja j' p.1 := fun h => key s hs (by rcases hi_or (j := j) (p := p) with e | e <;> simp [h, e])
  have k2 : ja j t = hi j p → ja j' t = ja j' p.1 := fun h => key t ht (by rcases hi_or (j := j) (p := p) with e | e <;> simp [h, e])
  have k3 : ja j s = lo j p → ja j' s = ja j' p.1 := fun h => key s hs (by rcases lo_or (j := j) (p := p) with e | e <;> simp [h, e])
  have k4 : ja j t = lo j p → ja j' t = ja j' p.1 := fun h => key t ht (by rcases lo_or (j := j) (p := p) with e | e <;> simp [h, e])
  split at e
  · rename_i a
    split at e
    · rename_i b; rw [k1 a, k2 b]
    · rw [k1 a, k4 e.symm]
  · split at e
    · rename_i b; rw [k3 e, k2 b]
    · exact hf _ _ hs ht e
theorem jnd_iff {j : List Nat} {p : Nat × Nat} : jnd j p = true ↔ ja j p.1 = ja j p.2 := by unfold jnd; simp
theorem run_fin : ∀ {L : List (Nat × Nat)} {j : List Nat}, Can j → Ok L → Fin' j (runJ j L)
  | [], j, _, _ => fin_refl j
  | p :: L, j, h, hL => by
    have hp := hL p (.head _)
    have hL' : Ok L := fun q hq => hL q (.tail _ hq)
    simp only [runJ]
    split
    · exact run_fin h hL'
    · exact fun s t hs ht e => run_fin (can_wth h hp) hL' s t hs ht (fin_wth h s t hs ht e)
theorem run_jnd : ∀ {L : List (Nat × Nat)} {j : List Nat}, Can j → Ok L → ∀ p ∈ L, ja (runJ j L) p.1 = ja (runJ j L) p.2
  | p :: L, j, h, hL, q, hq => by
    have hp := hL p (.head _)
    have hL' : Ok L := fun q hq => hL q (.tail _ hq)
    simp only [runJ]
    rcases List.mem_cons.1 hq with rfl | hq
    · split
      · rename_i e; exact run_fin h hL' _ _ hp.1 hp.2 (jnd_iff.1 e)
      · exact run_fin (can_wth h hp) hL' _ _ hp.1 hp.2 (wth_jnd h hp)
    · split
      · exact run_jnd h hL' q hq
      · exact run_jnd (can_wth h hp) hL' q hq
theorem run_least : ∀ {L : List (Nat × Nat)} {j j' : List Nat}, Can j → Ok L → Fin' j j' → (∀ p ∈ L, ja j' p.1 = ja j' p.2) → Fin' (runJ j L) j'
  | [], _, _, _, _, hf, _ => hf
  | p :: L, j, j', h, hL, hf, hj => by
    have hp := hL p (.head _)
    have hL' : Ok L := fun q hq => hL q (.tail _ hq)
    simp only [runJ]
    split
    · exact run_least h hL' hf fun q hq => hj q (.tail _ hq)
    · exact run_least (can_wth h hp) hL' (wth_least h hp hf (hj p (.head _))) fun q hq => hj q (.tail _ hq)
theorem apt_fin (j : List Nat) : Fin' apt j := fun s t hs ht e => by
  have : ∀ s, s < 5 → ja apt s = s := by decide
  rw [this s hs, this t ht] at e
  rw [e]
/-- how many are the smallest of theirs -/
def rts (j : List Nat) : Nat := ((List.range 5).filter fun s => ja j s == s).length
theorem filter_one {p q : Nat → Bool} {h : Nat} : ∀ (l : List Nat), l.Nodup → h ∈ l → p h = true → q h = false → (∀ s ∈ l, s ≠ h → p s = q s) → (l.filter p).length = (l.filter q).length + 1
  | [], _, hm, _, _, _ => by cases hm
  | x :: l, hn, hm, hp, hq, he => by
    obtain ⟨n1, n2⟩ := List.nodup_cons.1 hn
    by_cases hx : x = h
    · subst hx
      have : l.filter p = l.filter q := List.filter_congr fun s hs => he s (.tail _ hs) (fun e => n1 (e ▸ hs))
      simp [List.filter_cons, hp, hq, this]
    · have hm' : h ∈ l := by
        rcases List.mem_cons.1 hm with e | e
        · exact absurd e.symm hx
        · exact e
      have ih := filter_one l n2 hm' hp hq fun s hs hne => he s (.tail _ hs) hne
      have := he x (.head _) hx
      simp only [List.filter_cons, this]
      split
      · simp only [List.length_cons]; omega
      · exact ih
theorem rts_wth {j : List Nat} (h : Can j) {p : Nat × Nat} (hp : p.1 < 5 ∧ p.2 < 5) (hn : ja j p.1 ≠ ja j p.2) : rts j = rts (wth j p) + 1 := by
  have hh : hi j p < 5 ∧ ja j (hi j p) = hi j p := by
    rcases hi_or (j := j) (p := p) with e | e <;> rw [e]
    · exact ⟨by have := h.le _ hp.1; omega, h.id _ hp.1⟩
    · exact ⟨by have := h.le _ hp.2; omega, h.id _ hp.2⟩
  have hlt : lo j p < hi j p := by unfold lo hi; omega
  refine filter_one (h := hi j p) _ List.nodup_range (by simpa using hh.1) (by simpa using hh.2) ?_ fun s hs hne => ?_
  · rw [wth_at h.len p hh.1, if_pos hh.2]
    simp; omega
  · have hs' : s < 5 := by simpa using hs
    rw [wth_at h.len p hs']
    have := h.le s hs'
    split
    · rename_i e
      rw [e, Bool.eq_iff_iff]
      simp only [beq_iff_eq]
      omega
    · rfl
theorem cnt_rts : ∀ {L : List (Nat × Nat)} {j : List Nat}, Can j → Ok L → cntJ j L + rts (runJ j L) = rts j
  | [], j, _, _ => by simp [cntJ, runJ]
  | p :: L, j, h, hL => by
    have hp := hL p (.head _)
    have hL' : Ok L := fun q hq => hL q (.tail _ hq)
    simp only [cntJ, runJ]
    split
    · exact cnt_rts h hL'
    · rename_i e
      have := cnt_rts (can_wth h hp) hL'
      rw [rts_wth h hp (fun x => e (jnd_iff.2 x))]
      omega
theorem rk_le (L : List (Nat × Nat)) : rk L ≤ L.length := cntJ_le L apt
/-- fewer than the sifters are -/
theorem run_out : ∀ {L : List (Nat × Nat)} {j : List Nat} {n : Nat}, Can j → n ≤ 5 → (∀ p ∈ L, p.1 < n ∧ p.2 < n) → (∀ s, n ≤ s → s < 5 → ja j s = s) → (∀ s, s < n → ja j s < n) → ∀ s, n ≤ s → s < 5 → ja (runJ j L) s = s
  | [], _, _, _, _, _, h, _ => h
  | p :: L, j, n, hc, hn, hL, h, h2 => by
    have hp := hL p (.head _)
    have hp5 : p.1 < 5 ∧ p.2 < 5 := ⟨by omega, by omega⟩
    have hL' : ∀ q ∈ L, q.1 < n ∧ q.2 < n := fun q hq => hL q (.tail _ hq)
    have a1 := h2 _ hp.1
    have a2 := h2 _ hp.2
    have hl : lo j p < n := by unfold lo; omega
    have hh : hi j p < n := by unfold hi; omega
    simp only [runJ]
    split
    · exact run_out hc hn hL' h h2
    · refine run_out (can_wth hc hp5) hn hL' (fun s h1 hs => ?_) fun s hs => ?_
      · rw [wth_at hc.len p hs, h s h1 hs, if_neg (by omega)]
      · rw [wth_at hc.len p (by omega)]
        have := h2 s hs
        split <;> omega
theorem filter_ge {p : Nat → Bool} {n : Nat} (hn : n ≤ 5) (h0 : p 0 = true) (h : ∀ s, n ≤ s → s < 5 → p s = true) (h1 : 1 ≤ n) : 5 - n + 1 ≤ ((List.range 5).filter p).length := by
  have e : List.range 5 = [0, 1, 2, 3, 4] := by decide
  have : n = 1 ∨ n = 2 ∨ n = 3 ∨ n = 4 ∨ n = 5 := by omega
  rcases this with rfl | rfl | rfl | rfl | rfl
  · simp [e, List.filter_cons, h0, h 1 (by omega) (by omega), h 2 (by omega) (by omega), h 3 (by omega) (by omega), h 4 (by omega) (by omega)]
  · cases e1 : p 1 <;> simp [e, List.filter_cons, h0, e1, h 2 (by omega) (by omega), h 3 (by omega) (by omega), h 4 (by omega) (by omega)]
  · cases e1 : p 1 <;> cases e2 : p 2 <;> simp [e, List.filter_cons, h0, e1, e2, h 3 (by omega) (by omega), h 4 (by omega) (by omega)]
  · cases e1 : p 1 <;> cases e2 : p 2 <;> cases e3 : p 3 <;> simp [e, List.filter_cons, h0, e1, e2, e3, h 4 (by omega) (by omega)]
  · simp [e, List.filter_cons, h0]
theorem rk_lt {L : List (Nat × Nat)} {n : Nat} (h1 : 1 ≤ n) (hn : n ≤ 5) (hL : ∀ p ∈ L, p.1 < n ∧ p.2 < n) : rk L < n := by
  have hL5 : Ok L := fun p hp => ⟨by have := hL p hp; omega, by have := hL p hp; omega⟩
  have hc := can_run can_apt hL5
  have a := cnt_rts can_apt hL5
  have ap : ∀ s, s < 5 → ja apt s = s := by decide
  have b := run_out can_apt hn hL (fun s _ hs => ap s hs) (fun s hs => by rw [ap s (by omega)]; exact hs)
  have c : 5 - n + 1 ≤ rts (runJ apt L) := filter_ge hn (by have := hc.le 0 (by omega); simp; omega) (fun s h hs => by simpa using b s h hs) h1
  have d : rts apt = 5 := by decide
  unfold rk; omega
end Go.Crew

namespace Go.Crew

/-- one pair, seen from v -/
def upd (v : Nat) (M : List Nat) (p : Nat × Nat) : List Nat := if p.1 = v ∧ p.2 ∉ M then M ++ [p.2] else if p.2 = v ∧ p.1 ∉ M then M ++ [p.1] else M
def scan (L : List (Nat × Nat)) (v : Nat) (M : List Nat) : List Nat := L.foldl (upd v) M
theorem upd_sub {v : Nat} {M : List Nat} {p : Nat × Nat} : ∃ R, upd v M p = M ++ R := by
  unfold upd
  split
  · exact ⟨_, rfl⟩
  · split
    · exact ⟨_, rfl⟩
    · exact ⟨[], by simp⟩
theorem scan_sub : ∀ (L : List (Nat × Nat)) (v : Nat) (M : List Nat), ∃ R, scan L v M = M ++ R
  | [], _, M => ⟨[], by simp [scan]⟩
  | p :: L, v, M => by
    obtain ⟨R, h⟩ := upd_sub (v := v) (M := M) (p := p)
    obtain ⟨R2, h2⟩ := scan_sub L v (upd v M p)
    exact ⟨R ++ R2, by rw [show scan (p :: L) v M = scan L v (upd v M p) from rfl, h2, h, List.append_assoc]⟩
theorem scan_mem {L : List (Nat × Nat)} {v : Nat} {M : List Nat} {x : Nat} (h : x ∈ M) : x ∈ scan L v M := by
  obtain ⟨R, e⟩ := scan_sub L v M
  rw [e]; exact List.mem_append_left _ h
theorem upd_next {v : Nat} {M : List Nat} {p : Nat × Nat} : (p.1 = v → p.2 ∈ upd v M p) ∧ (p.2 = v → p.1 ∈ upd v M p ∨ p.1 = v) := by
  unfold upd
  constructor
  · intro h
    by_cases h2 : p.2 ∈ M
    · rw [if_neg (by simp [h2])]
      split
      · exact List.mem_append_left _ h2
      · exact h2
    · rw [if_pos ⟨h, h2⟩]; simp
  · intro h
    by_cases h1 : p.1 = v
    · exact .inr h1
    · left
      rw [if_neg (by simp [h1])]
      by_cases h2 : p.1 ∈ M
      · rw [if_neg (by simp [h2])]; exact h2
      · rw [if_pos ⟨h, h2⟩]; simp
theorem scan_next : ∀ {L : List (Nat × Nat)} {v : Nat} {M : List Nat} (p : Nat × Nat), p ∈ L → v ∈ M → (p.1 = v → p.2 ∈ scan L v M) ∧ (p.2 = v → p.1 ∈ scan L v M)
  | q :: L, v, M, p, hp, hv => by
    show (p.1 = v → p.2 ∈ scan L v (upd v M q)) ∧ (p.2 = v → p.1 ∈ scan L v (upd v M q))
    have hv' : v ∈ upd v M q := by
      obtain ⟨R, e⟩ := upd_sub (v := v) (M := M) (p := q)
      rw [e]; exact List.mem_append_left _ hv
    rcases List.mem_cons.1 hp with rfl | hp
    · obtain ⟨a, b⟩ := upd_next (v := v) (M := M) (p := p)
      refine ⟨fun h => scan_mem (a h), fun h => ?_⟩
      rcases b h with h2 | h2
      · exact scan_mem h2
      · rw [h2]; exact scan_mem hv'
    · exact scan_next p hp hv'
/-- what holds of all that is met -/
theorem upd_all {P : Nat → Prop} {v : Nat} {M : List Nat} {p : Nat × Nat} (h : ∀ x ∈ M, P x) (hp : p.1 = v → P p.2) (hq : p.2 = v → P p.1) : ∀ x ∈ upd v M p, P x := by
  intro x hx
  unfold upd at hx
  split at hx
  · rename_i c
    rcases List.mem_append.1 hx with hx | hx
    · exact h x hx
    · simp only [List.mem_singleton] at hx; subst hx; exact hp c.1
  · split at hx
    · rename_i c
      rcases List.mem_append.1 hx with hx | hx
      · exact h x hx
      · simp only [List.mem_singleton] at hx; subst hx; exact hq c.1
    · exact h x hx
theorem scan_all {P : Nat → Prop} : ∀ {L : List (Nat × Nat)} {v : Nat} {M : List Nat}, (∀ x ∈ M, P x) → (∀ p ∈ L, (p.1 = v → P p.2) ∧ (p.2 = v → P p.1)) → ∀ x ∈ scan L v M, P x
  | [], _, _, h, _ => h
  | p :: L, v, M, h, hL => scan_all (L := L) (upd_all h (hL p (.head _)).1 (hL p (.head _)).2) fun q hq => hL q (.tail _ hq)
theorem upd_nodup {v : Nat} {M : List Nat} {p : Nat × Nat} (h : M.Nodup) : (upd v M p).Nodup := by
  have snoc : ∀ x, x ∉ M → (M ++ [x]).Nodup := fun x hx => List.nodup_append.2 ⟨h, by simp, fun a ha b hb => by simp only [List.mem_singleton] at hb; subst hb; exact fun e => hx (e ▸ ha)⟩
  unfold upd
  split
  · rename_i c; exact snoc _ c.2
  · split
    · rename_i c; exact snoc _ c.2
    · exact h
theorem scan_nodup : ∀ {L : List (Nat × Nat)} {v : Nat} {M : List Nat}, M.Nodup → (scan L v M).Nodup
  | [], _, _, h => h
  | _ :: L, _, _, h => scan_nodup (L := L) (upd_nodup h)
theorem nodup_five {M : List Nat} (h : M.Nodup) (h5 : ∀ x ∈ M, x < 5) : M.length ≤ 5 := by
  have := List.Nodup.length_le_of_subset h (l₂ := List.range 5) fun x hx => by simpa using h5 x hx
  simpa using this
/-- the search, from the i-th on -/
def bfs (L : List (Nat × Nat)) : Nat → Nat → List Nat → List Nat
  | 0, _, M => M
  | f + 1, i, M => if i < M.length then bfs L f (i + 1) (scan L (M.getD i 0) M) else M
/-- all neighbours of the first i are met -/
def Dn (L : List (Nat × Nat)) (i : Nat) (M : List Nat) : Prop := ∀ k, k < i → ∀ p ∈ L, (p.1 = M.getD k 0 → p.2 ∈ M) ∧ (p.2 = M.getD k 0 → p.1 ∈ M)
structure Bok (L : List (Nat × Nat)) (s i : Nat) (M : List Nat) : Prop where
  nd : M.Nodup
  cl : ∀ x ∈ M, x < 5 ∧ ja (runJ apt L) x = ja (runJ apt L) s
  st : s ∈ M
  dn : Dn L i M
  le : i ≤ M.length
theorem getD_app {M R : List Nat} {k : Nat} (h : k < M.length) : (M ++ R).getD k 0 = M.getD k 0 := by
  simp [List.getD, List.getElem?_append_left h]
theorem getD_mem {M : List Nat} {k : Nat} (h : k < M.length) : M.getD k 0 ∈ M := by
  simp [List.getD, h]
theorem bok_scan {L : List (Nat × Nat)} (hL : Ok L) {s i : Nat} {M : List Nat} (h : Bok L s i M) (hi : i < M.length) : Bok L s (i + 1) (scan L (M.getD i 0) M) := by
  have hv := getD_mem hi
  obtain ⟨R, e⟩ := scan_sub L (M.getD i 0) M
  have hj := run_jnd can_apt hL
  refine ⟨scan_nodup h.nd, scan_all h.cl fun p hp => ⟨fun hp1 => ?_, fun hp2 => ?_⟩, scan_mem h.st, fun k hk p hp => ?_, ?_⟩
  · exact ⟨(hL p hp).2, by rw [← hj p hp, hp1]; exact (h.cl _ hv).2⟩
  · exact ⟨(hL p hp).1, by rw [hj p hp, hp2]; exact (h.cl _ hv).2⟩
  · have hk' : k < M.length := by omega
    rw [e, getD_app hk', ← e]
    by_cases hki : k = i
    · subst hki; exact scan_next p hp hv
    · obtain ⟨a, b⟩ := h.dn k (by omega) p hp
      exact ⟨fun q => scan_mem (a q), fun q => scan_mem (b q)⟩
  · rw [e, List.length_append]; omega
theorem bfs_ok {L : List (Nat × Nat)} (hL : Ok L) : ∀ (f i s : Nat) (M : List Nat), 5 < f + i → Bok L s i M → Bok L s (bfs L f i M).length (bfs L f i M)
  | 0, i, s, M, hf, h => by
    have := nodup_five h.nd fun x hx => (h.cl x hx).1
    have := h.le
    omega
  | f + 1, i, s, M, hf, h => by
    rw [bfs]
    split
    · rename_i hi
      exact bfs_ok hL f (i + 1) s _ (by omega) (bok_scan hL h hi)
    · rename_i hi
      have : i = M.length := by have := h.le; omega
      subst this; exact h
/-- what is met is the group -/
theorem bok_all {L : List (Nat × Nat)} (hL : Ok L) {s : Nat} (hs : s < 5) {M : List Nat} (h : Bok L s M.length M) {t : Nat} (ht : t < 5) (e : ja (runJ apt L) t = ja (runJ apt L) s) : t ∈ M := by
  let j' : List Nat := (List.range 5).map fun t => if t ∈ M then 0 else 1
  have hj' : ∀ t, t < 5 → ja j' t = if t ∈ M then 0 else 1 := fun t ht => by simp [ja, j', List.getD, ht]
  have hf : Fin' (runJ apt L) j' := run_least can_apt hL (apt_fin _) fun p hp => by
    obtain ⟨a, b⟩ := hL p hp
    rw [hj' _ a, hj' _ b]
    have nx : ∀ x ∈ M, (p.1 = x → p.2 ∈ M) ∧ (p.2 = x → p.1 ∈ M) := fun x hx => by
      obtain ⟨k, hk, rfl⟩ := List.getElem_of_mem hx
      have := h.dn k hk p hp
      simpa [List.getD, hk] using this
    by_cases m1 : p.1 ∈ M
    · rw [if_pos m1, if_pos ((nx _ m1).1 rfl)]
    · rw [if_neg m1, if_neg fun m2 => m1 ((nx _ m2).2 rfl)]
  have := hf t s ht hs e
  rw [hj' _ ht, hj' _ hs, if_pos h.st] at this
  by_cases m : t ∈ M
  · exact m
  · rw [if_neg m] at this; cases this
theorem bok_init (L : List (Nat × Nat)) {s : Nat} (hs : s < 5) : Bok L s 0 [s] := ⟨by simp, fun x hx => by simp only [List.mem_singleton] at hx; subst hx; exact ⟨hs, rfl⟩, by simp, fun k hk => by omega, by simp⟩
theorem bfs_sub (L : List (Nat × Nat)) : ∀ (f i : Nat) (M : List Nat), ∃ R, bfs L f i M = M ++ R
  | 0, _, M => ⟨[], by simp [bfs]⟩
  | f + 1, i, M => by
    rw [bfs]
    split
    · obtain ⟨R1, e1⟩ := scan_sub L (M.getD i 0) M
      obtain ⟨R2, e2⟩ := bfs_sub L f (i + 1) (scan L (M.getD i 0) M)
      exact ⟨R1 ++ R2, by rw [e2, e1, List.append_assoc]⟩
    · exact ⟨[], by simp⟩
theorem grp_first {L : List (Nat × Nat)} (hL : Ok L) {s : Nat} (hs : s < 5) {f : Nat} (hf : 5 < f) : (bfs L f 0 [s]).all (fun x => decide (s ≤ x)) = (ja (runJ apt L) s == s) := by
  have h := bfs_ok hL f 0 s [s] (by omega) (bok_init L hs)
  have hc := can_run can_apt hL
  rw [Bool.eq_iff_iff, List.all_eq_true]
  simp only [decide_eq_true_eq, beq_iff_eq]
  constructor
  · intro ha
    have h1 := hc.le s hs
    have h2 := ha _ (bok_all hL hs h (t := ja (runJ apt L) s) (by omega) (hc.id s hs))
    omega
  · intro e x hx
    obtain ⟨x5, xe⟩ := h.cl x hx
    have := hc.le x x5
    omega
/-- how many groups -/
def grps (n : Nat) (L : List (Nat × Nat)) : Nat := ((List.range n).filter fun s => ja (runJ apt L) s == s).length
theorem grps_rk {n : Nat} (hn : n ≤ 5) {L : List (Nat × Nat)} (hL : ∀ p ∈ L, p.1 < n ∧ p.2 < n) : grps n L + rk L = n := by
  have hL5 : Ok L := fun p hp => ⟨by have := hL p hp; omega, by have := hL p hp; omega⟩
  have a := cnt_rts can_apt hL5
  have ap : ∀ s, s < 5 → ja apt s = s := by decide
  have b := run_out can_apt hn hL (fun s _ hs => ap s hs) (fun s hs => by rw [ap s (by omega)]; exact hs)
  have d : rts apt = 5 := by decide
  have e : List.range 5 = List.range n ++ List.range' n (5 - n) := by
    have : n = 0 ∨ n = 1 ∨ n = 2 ∨ n = 3 ∨ n = 4 ∨ n = 5 := by omega
    rcases this with rfl | rfl | rfl | rfl | rfl | rfl <;> rfl
  have c : rts (runJ apt L) = grps n L + (5 - n) := by
    unfold rts grps
    rw [e, List.filter_append, List.length_append]
    congr 1
    rw [List.filter_eq_self.2, List.length_range']
    intro s hs
    obtain ⟨h1, h2⟩ := List.mem_range'_1.1 hs
    simpa using b s h1 (by omega)
  unfold rk
  omega
end Go.Crew

namespace Go.Crew
section
variable {α : Type} [DecidableEq α]
def bstep (is : α → Bool) (lt : α → α → Bool) (acc : Option α) (l : α) : Option α := if is l then (match acc with | none => some l | some o => if lt l o then some l else some o) else acc
theorem find_or {lt : α → α → Bool} (has : ∀ x y, lt x y = true → lt y x = false) (hir : ∀ x, lt x x = false) {l : α} {q : α → Bool} : ∀ (T : List α), T.Pairwise (fun x y => lt x y = true) → l ∈ T →
    T.find? (fun x => q x || x == l) = (match T.find? q with | none => some l | some o => if lt l o then some l else some o)
  | a :: T, hT, hl => by
    obtain ⟨h1, h2⟩ := List.pairwise_cons.1 hT
    rw [List.find?_cons, List.find?_cons]
    cases hq : q a with
    | true =>
      simp only [Bool.true_or]
      have : lt l a = false := by
        rcases List.mem_cons.1 hl with rfl | hl
        · exact hir _
        · exact has _ _ (h1 _ hl)
      simp [this]
    | false =>
      simp only [Bool.false_or]
      by_cases e : a = l
      · subst e
        simp only [beq_self_eq_true]
        cases hf : T.find? q with
        | none => rfl
        | some o => simp [h1 _ (List.mem_of_find?_eq_some hf)]
      · have : (a == l) = false := by simpa using e
        simp only [this]
        exact find_or has hir T h2 (by
          rcases List.mem_cons.1 hl with rfl | hl
          · exact absurd rfl e
          · exact hl)
theorem best_find {lt : α → α → Bool} (has : ∀ x y, lt x y = true → lt y x = false) (hir : ∀ x, lt x x = false) (is : α → Bool) {T : List α} (hT : T.Pairwise (fun x y => lt x y = true)) : ∀ (R S : List α), (∀ x ∈ R, x ∈ T) → 
    R.foldl (bstep is lt) (T.find? (fun x => is x && S.contains x)) = T.find? (fun x => is x && (S ++ R).contains x)
  | [], S, _ => by simp
  | l :: R, S, h => by
    have ih := best_find has hir is hT R (S ++ [l]) fun x hx => h x (.tail _ hx)
    rw [List.foldl_cons]
    have e : bstep is lt (T.find? fun x => is x && S.contains x) l = T.find? (fun x => is x && (S ++ [l]).contains x) := by
      unfold bstep
      cases hi : is l with
      | true =>
        rw [if_pos rfl, ← find_or has hir T hT (h l (.head _))]
        congr 1
        funext x
        by_cases hx : x = l
        · subst hx; simp [hi]
        · simp [hx]
      | false =>
        rw [if_neg (by simp)]
        congr 1
        funext x
        by_cases hx : x = l
        · subst hx; simp [hi]
        · simp [hx]
    rw [e, ih]
    simp
theorem best_all {lt : α → α → Bool} (has : ∀ x y, lt x y = true → lt y x = false) (hir : ∀ x, lt x x = false) (is : α → Bool) {T R : List α} (hT : T.Pairwise (fun x y => lt x y = true)) (h : ∀ x ∈ R, x ∈ T) (h2 : ∀ x ∈ T, x ∈ R) :
    R.foldl (bstep is lt) none = T.find? is := by
  have := best_find has hir is hT R [] h
  have z : T.find? (fun x => is x && ([] : List α).contains x) = none := by
    rw [List.find?_eq_none]; intro x _; simp
  rw [z, List.nil_append] at this
  rw [this]
  clear this z h hT
  have : ∀ T' : List α, (∀ x ∈ T', x ∈ R) → T'.find? (fun x => is x && R.contains x) = T'.find? is := by
    intro T' hT'
    induction T' with
    | nil => rfl
    | cons a T' ih =>
      have ha := hT' a (.head _)
      rw [List.find?_cons, List.find?_cons, ih fun x hx => hT' x (.tail _ hx)]
      simp [ha]
  exact this T h2
end

def lexL : List Nat → List Nat → Bool
  | [], [] => false
  | [], _ :: _ => true
  | _ :: _, [] => false
  | a :: x, b :: y => if a < b then true else if b < a then false else lexL x y
theorem lexL_irr : ∀ x, lexL x x = false
  | [] => rfl
  | a :: x => by simp [lexL, lexL_irr x]
theorem lexL_as : ∀ x y, lexL x y = true → lexL y x = false
  | [], [], h => by simp [lexL] at h
  | [], _ :: _, _ => rfl
  | _ :: _, [], h => by simp [lexL] at h
  | a :: x, b :: y, h => by
    simp only [lexL] at h ⊢
    by_cases h1 : a < b
    · rw [if_neg (by omega), if_pos h1]
    · rw [if_neg h1] at h
      by_cases h2 : b < a
      · rw [if_pos h2] at h; cases h
      · rw [if_neg h2] at h
        rw [if_neg h2, if_neg h1]
        exact lexL_as x y h
def ltS (x y : List Nat) : Bool := if x.length = y.length then lexL x y else decide (x.length < y.length)
def ltG (x y : List Nat) : Bool := if x.length = y.length then lexL x y else decide (x.length > y.length)
theorem ltS_irr (x : List Nat) : ltS x x = false := by simp [ltS, lexL_irr]
theorem ltS_as (x y : List Nat) (h : ltS x y = true) : ltS y x = false := by
  unfold ltS at *
  by_cases e : x.length = y.length
  · rw [if_pos e] at h; rw [if_pos e.symm]; exact lexL_as x y h
  · rw [if_neg e] at h; rw [if_neg (fun q => e q.symm)]
    simp at h ⊢; omega
/-- lists of so many numbers below n, from one on, in order -/
def ls (n : Nat) : Nat → Nat → List (List Nat)
  | 0, _ => [[]]
  | m + 1, k => (List.range' k (n - k)).flatMap fun x => (ls n m (x + 1)).map (x :: ·)
def upT (n : Nat) : List (List Nat) := (List.range (n + 1)).flatMap fun m => ls n m 0
def downT (n : Nat) : List (List Nat) := (List.range (n + 1)).reverse.flatMap fun m => ls n m 0
def memb (s : Nat) : List Nat := (List.range 5).filter fun k => s.testBit k
def allS (n : Nat) : List (List Nat) := (List.range (2 ^ n)).map memb
def pwB (lt : List Nat → List Nat → Bool) : List (List Nat) → Bool
  | [] => true
  | a :: l => l.all (lt a) && pwB lt l
theorem pwB_ok {lt : List Nat → List Nat → Bool} : ∀ {l : List (List Nat)}, pwB lt l = true → l.Pairwise (fun x y => lt x y = true)
  | [], _ => .nil
  | a :: l, h => by
    simp only [pwB, Bool.and_eq_true, List.all_eq_true] at h
    exact List.pairwise_cons.2 ⟨h.1, pwB_ok h.2⟩
theorem sorted_all : ((List.range 6).all fun n => pwB ltS (upT n) && pwB ltG (downT n) && (allS n).all (fun x => (upT n).contains x && (downT n).contains x) && (upT n).all (fun x => (allS n).contains x) && (downT n).all (fun x => (allS n).contains x)) = true := by decide +kernel
theorem sorted_n {n : Nat} (h : n ≤ 5) : (upT n).Pairwise (fun x y => ltS x y = true) ∧ (downT n).Pairwise (fun x y => ltG x y = true) ∧ (∀ x, x ∈ allS n ↔ x ∈ upT n) ∧ (∀ x, x ∈ allS n ↔ x ∈ downT n) := by
  have := List.all_eq_true.1 sorted_all n (List.mem_range.2 (by omega))
  simp only [Bool.and_eq_true, List.all_eq_true, List.contains_iff_mem] at this
  obtain ⟨⟨⟨⟨h1, h2⟩, h3⟩, h4⟩, h5⟩ := this
  exact ⟨pwB_ok h1, pwB_ok h2, fun x => ⟨fun hx => (h3 x hx).1, fun hx => h4 x hx⟩, fun x => ⟨fun hx => (h3 x hx).2, fun hx => h5 x hx⟩⟩
theorem best_up (is : List Nat → Bool) {n : Nat} (h : n ≤ 5) : (allS n).foldl (bstep is ltS) none = (upT n).find? is := by
  obtain ⟨h1, _, h3, _⟩ := sorted_n h
  exact best_all ltS_as ltS_irr is h1 (fun x hx => (h3 x).1 hx) fun x hx => (h3 x).2 hx
end Go.Crew

namespace Go.Proofs.YtnponojgpkbagaaDoor
open Go.V Go.Crew
set_option linter.unusedSectionVars false
set_option linter.unnecessarySimpa false

theorem brn_t {α : Type} {b : Bool} {x y : Option α} (h : b = true) : brn b x y = x := by subst h; rfl
theorem brn_f {α : Type} {b : Bool} {x y : Option α} (h : b = false) : brn b x y = y := by subst h; rfl
theorem grd_t {α : Type} {p : Prop} [Decidable p] {k : Option α} (h : p) : grd p k = k := by simp [grd, h]
theorem wrapN {n : Nat} (h : n ≤ 100000) : IntKind.i64.wrap ((n : Int) + 1) = ((n + 1 : Nat) : Int) := by
  rw [wrap64 (by omega) (by omega)]; omega
theorem toNatN (n : Nat) : Int.toNat (n : Int) = n := by omega

def prI (p : Int × Int) : List PV := [.int .i64 p.1, .int .i64 p.2]
def prsI (l : List (Int × Int)) : List PV := l.flatMap prI
theorem prsI_len : ∀ (l : List (Int × Int)), (prsI l).length = l.length * 2
  | [] => rfl
  | p :: l => by
    have := prsI_len l
    simp only [prsI, List.flatMap_cons, List.length_append, prI, List.length_cons, List.length_nil] at *
    omega
def pI (l : List (Int × Int)) (i : Nat) : Int × Int := l.getD i (0, 0)
theorem prsI_drop : ∀ (l : List (Int × Int)) (i : Nat), (prsI l).drop (i * 2) = prsI (l.drop i)
  | l, 0 => by simp
  | [], i + 1 => by simp [prsI]
  | p :: l, i + 1 => by
    have := prsI_drop l i
    rw [show (i + 1) * 2 = i * 2 + 2 by omega]
    simpa [prsI, prI] using this
theorem prsI_take : ∀ (l : List (Int × Int)) (i : Nat), (prsI l).take (i * 2) = prsI (l.take i)
  | l, 0 => by simp [prsI]
  | [], i + 1 => by simp [prsI]
  | p :: l, i + 1 => by
    have := prsI_take l i
    rw [show (i + 1) * 2 = i * 2 + 2 by omega]
    simpa [prsI, prI] using this
theorem drop_pI {l : List (Int × Int)} {i : Nat} (h : i < l.length) : l.drop i = pI l i :: l.drop (i + 1) := by
  rw [List.drop_eq_getElem_cons h]; simp [pI, List.getD, h]
theorem take_pI {l : List (Int × Int)} {i : Nat} (h : i < l.length) : l.take (i + 1) = l.take i ++ [pI l i] := by
  rw [List.take_add_one]; simp [pI, List.getD, h]
theorem prsI_two {l : List (Int × Int)} {i : Nat} (h : i < l.length) : List.take 2 (List.drop (i * 2) (prsI l)) = [.int .i64 (pI l i).1, .int .i64 (pI l i).2] := by
  rw [prsI_drop, drop_pI h]; simp [prsI, prI]
theorem prsI_two' {l : List (Int × Int)} {i : Nat} (h : i < l.length) : 2 ≤ List.length (List.drop (i * 2) (prsI l)) := by
  rw [prsI_drop, prsI_len, List.length_drop]; omega
theorem prsI_app (l m : List (Int × Int)) : prsI l ++ prsI m = prsI (l ++ m) := by simp [prsI]
def knI (l : List (Int × Int)) : PV := .lst false l.length (prsI l)
def knsI (K : List (List (Int × Int))) : List PV := K.map knI
theorem knsI_len (K : List (List (Int × Int))) : (knsI K).length = K.length := by simp [knsI]
def kI (K : List (List (Int × Int))) (i : Nat) : List (Int × Int) := K.getD i []
theorem knsI_gp {K : List (List (Int × Int))} {i : Nat} (h : i < K.length) : gp (knsI K) i = .lst false (kI K i).length (prsI (kI K i)) := by
  simp [knsI, gp, kI, knI, List.getD, h]
theorem kI_mem {K : List (List (Int × Int))} {i : Nat} (h : i < K.length) : kI K i ∈ K := by simp [kI, List.getD, h]
theorem drop_kI {K : List (List (Int × Int))} {i : Nat} (h : i < K.length) : K.drop i = kI K i :: K.drop (i + 1) := by
  rw [List.drop_eq_getElem_cons h]; simp [kI, List.getD, h]

def jP (j : List Nat) : List PV := [.int .i64 (ja j 0 : Int), .int .i64 (ja j 1 : Int), .int .i64 (ja j 2 : Int), .int .i64 (ja j 3 : Int), .int .i64 (ja j 4 : Int)]
theorem jP_gp {j : List Nat} {s : Nat} (h : s < 5) : gp (jP j) s = .int .i64 (ja j s : Int) := by
  have : s = 0 ∨ s = 1 ∨ s = 2 ∨ s = 3 ∨ s = 4 := by omega
  rcases this with rfl | rfl | rfl | rfl | rfl <;> rfl
def cI (p : Nat × Nat) : Int × Int := ((p.1 : Int), (p.2 : Int))
theorem getA5_jP {α : Type} (j : List Nat) (k : PV → PV → PV → PV → PV → Option α) : getA5 (.agg (jP j)) k = k (.int .i64 (ja j 0 : Int)) (.int .i64 (ja j 1 : Int)) (.int .i64 (ja j 2 : Int)) (.int .i64 (ja j 3 : Int)) (.int .i64 (ja j 4 : Int)) := rfl
theorem joined_ok (N : Nat) (j : List Nat) (p : Nat × Nat) (hp : p.1 < 5 ∧ p.2 < 5) : m71 N (.agg (jP j)) (.agg (prI (cI p))) = some (.bool (jnd j p)) := by
  simp only [m71, prI, cI, getA2, getI, if_true, toNatN]
  have e1 := jP_gp (j := j) hp.1
  have e2 := jP_gp (j := j) hp.2
  unfold jP at e1 e2
  rw [getA5_jP, grd_t ⟨by omega, by omega⟩, grd_t hp.1, e1]
  simp only [if_true]
  rw [grd_t ⟨by omega, by omega⟩, grd_t hp.2, e2]
  simp only [if_true, jnd]
  congr 2
  rw [Bool.eq_iff_iff]; simp; omega
theorem maxI_hi (j : List Nat) (p : Nat × Nat) : maxI (ja j p.1 : Int) (ja j p.2 : Int) = (hi j p : Int) := by
  unfold maxI hi; split <;> omega
theorem minI_lo (j : List Nat) (p : Nat × Nat) : minI (ja j p.1 : Int) (ja j p.2 : Int) = (lo j p : Int) := by
  unfold minI lo; split <;> omega
/-- half way -/
def hw (j : List Nat) (p : Nat × Nat) (s t : Nat) : PV := .int .i64 ((if t < s then ja (wth j p) t else ja j t : Nat) : Int)
def mid (j : List Nat) (p : Nat × Nat) (s : Nat) : List PV := [hw j p s 0, hw j p s 1, hw j p s 2, hw j p s 3, hw j p s 4]
theorem mid_set {j : List Nat} {p : Nat × Nat} {s : Nat} (hj : j.length = 5) (h : s < 5) (e : ja j s = hi j p) : (mid j p s).set s (.int .i64 (lo j p : Int)) = mid j p (s + 1) := by
  have w := wth_at hj p h
  rw [if_pos e] at w
  have : s = 0 ∨ s = 1 ∨ s = 2 ∨ s = 3 ∨ s = 4 := by omega
  rcases this with rfl | rfl | rfl | rfl | rfl <;> simp [mid, hw, w]
theorem mid_not {j : List Nat} {p : Nat × Nat} {s : Nat} (hj : j.length = 5) (h : s < 5) (e : ja j s ≠ hi j p) : mid j p s = mid j p (s + 1) := by
  have w := wth_at hj p h
  rw [if_neg e] at w
  have : s = 0 ∨ s = 1 ∨ s = 2 ∨ s = 3 ∨ s = 4 := by omega
  rcases this with rfl | rfl | rfl | rfl | rfl <;> simp [mid, hw, w]
theorem with_L (N : Nat) (j : List Nat) (p : Nat × Nat) (hj : j.length = 5) : ∀ (r s fuel : Nat), 5 - s = r → s ≤ 5 → r < fuel →
    m98_L0 N (.int .i64 (ja j 0 : Int)) (.int .i64 (ja j 1 : Int)) (.int .i64 (ja j 2 : Int)) (.int .i64 (ja j 3 : Int)) (.int .i64 (ja j 4 : Int)) (ja j p.1 : Int) (ja j p.2 : Int) fuel (s : Int) (mid j p s) = some (mid j p 5)
  | r, s, 0, _, _, h => by omega
  | r, s, f + 1, hr, hs, hf => by
    rw [m98_L0]
    by_cases h : s < 5
    · have ih := with_L N j p hj (r - 1) (s + 1) f (by omega) (by omega) (by omega)
      have e1 := jP_gp (j := j) h
      unfold jP at e1
      rw [brn_t (by simp; omega), toNatN, grd_t ⟨by omega, by omega⟩, e1, maxI_hi, minI_lo, wrapN (by omega)]
      simp only [getI, if_true]
      by_cases e : ja j s = hi j p
      · rw [brn_t (by simp; omega), grd_t (by simp [mid]; omega), mid_set hj h e]; exact ih
      · rw [brn_f (by simp; omega), mid_not hj h e]; exact ih
    · rw [brn_f (by simp; omega), show s = 5 by omega]
theorem mid_zero (j : List Nat) (p : Nat × Nat) : mid j p 0 = jP j := by simp [mid, hw, jP]
theorem mid_five (j : List Nat) (p : Nat × Nat) : mid j p 5 = jP (wth j p) := by simp [mid, hw, jP]
theorem with_ok (N : Nat) (hN : 2000 ≤ N) (j : List Nat) (hj : j.length = 5) (p : Nat × Nat) (hp : p.1 < 5 ∧ p.2 < 5) : m98 N (.agg (jP j)) (.agg (prI (cI p))) = some (.agg (jP (wth j p))) := by
  simp only [m98, prI, cI, getA2, getI, if_true, toNatN]
  have e1 := jP_gp (j := j) hp.1
  have e2 := jP_gp (j := j) hp.2
  unfold jP at e1 e2
  rw [getA5_jP, grd_t ⟨by omega, by omega⟩, grd_t hp.1, e1]
  simp only [if_true]
  rw [grd_t ⟨by omega, by omega⟩, grd_t hp.2, e2]
  simp only [if_true]
  have := with_L N j p hj 5 0 N (by omega) (by omega) (by omega)
  rw [mid_zero, mid_five] at this
  rw [show m98_L0 N (.int .i64 (ja j 0 : Int)) (.int .i64 (ja j 1 : Int)) (.int .i64 (ja j 2 : Int)) (.int .i64 (ja j 3 : Int)) (.int .i64 (ja j 4 : Int)) (ja j p.1 : Int) (ja j p.2 : Int) N 0 [.int .i64 (ja j 0 : Int), .int .i64 (ja j 1 : Int), .int .i64 (ja j 2 : Int), .int .i64 (ja j 3 : Int), .int .i64 (ja j 4 : Int)] = _ from this]
  rfl
theorem apart_ok : m97 2000 = some (.agg (jP apt)) := by kernel_rfl
theorem wth_len {j : List Nat} {p : Nat × Nat} (h : j.length = 5) : (wth j p).length = 5 := by simp [wth, h]
def cL (L : List (Nat × Nat)) : List (Int × Int) := L.map cI
theorem cL_len (L : List (Nat × Nat)) : (cL L).length = L.length := by simp [cL]
def pN (L : List (Nat × Nat)) (i : Nat) : Nat × Nat := L.getD i (0, 0)
theorem cL_pI {L : List (Nat × Nat)} {i : Nat} (h : i < L.length) : pI (cL L) i = cI (pN L i) := by simp [pI, cL, pN, List.getD, h]
theorem pN_mem {L : List (Nat × Nat)} {i : Nat} (h : i < L.length) : pN L i ∈ L := by simp [pN, List.getD, h]
theorem drop_pN {L : List (Nat × Nat)} {i : Nat} (h : i < L.length) : L.drop i = pN L i :: L.drop (i + 1) := by
  rw [List.drop_eq_getElem_cons h]; simp [pN, List.getD, h]
theorem count_L (N : Nat) (hN : 2000 ≤ N) (L : List (Nat × Nat)) (hL : Ok L) (hl : L.length ≤ 1000) : ∀ (r i fuel a : Nat) (j : List Nat), L.length - i = r → j.length = 5 → a ≤ i → r < fuel →
    m70_L0 N L.length (prsI (cL L)) fuel (a : Int) (i : Int) (.int .i64 (ja j 0 : Int)) (.int .i64 (ja j 1 : Int)) (.int .i64 (ja j 2 : Int)) (.int .i64 (ja j 3 : Int)) (.int .i64 (ja j 4 : Int)) = some ((a + cntJ j (L.drop i) : Nat) : Int)
  | r, i, 0, a, j, _, _, _, h => by omega
  | r, i, f + 1, a, j, hr, hj, ha, hf => by
    rw [m70_L0]
    by_cases h : i < L.length
    · have h' : i < (cL L).length := by rw [cL_len]; exact h
      have hp := hL _ (pN_mem h)
      rw [brn_t (by simp; omega), toNatN, grd_t ⟨by omega, by omega⟩, grd_t (prsI_two' h'), prsI_two h', cL_pI h, drop_pN h]
      have e1 := joined_ok N j (pN L i) hp
      have e2 := with_ok N hN j hj (pN L i) hp
      unfold jP prI at e1
      unfold jP prI at e2
      simp only [getA2, e1, bnd', getB, cntJ]
      cases e : jnd j (pN L i) with
      | true =>
        rw [brn_t rfl, wrapN (by omega), count_L N hN L hL hl (r - 1) (i + 1) f a j (by omega) hj (by omega) (by omega)]
        simp
      | false =>
        rw [brn_f rfl]
        simp only [e2, getA5]
        rw [wrapN (by omega), wrapN (by omega), count_L N hN L hL hl (r - 1) (i + 1) f (a + 1) (wth j (pN L i)) (by omega) (wth_len hj) (by omega) (by omega)]
        simp; omega
    · rw [brn_f (by simp; omega), List.drop_eq_nil_of_le (by omega)]; simp [cntJ]
theorem count_ok (L : List (Nat × Nat)) (hL : Ok L) (hl : L.length ≤ 1000) : m70 2000 (.lst false L.length (prsI (cL L))) = some (.int .i64 (rk L : Int)) := by
  simp only [m70, getL, apart_ok, bnd']
  rw [getA5_jP]
  have := count_L 2000 (by omega) L hL hl L.length 0 2000 0 apt (by omega) rfl (by omega) (by omega)
  rw [show m70_L0 2000 L.length (prsI (cL L)) 2000 0 0 _ _ _ _ _ = _ from this]
  simp [rk]

def cK (K : List (List (Nat × Nat))) : List (List (Int × Int)) := K.map cL
theorem cK_len (K : List (List (Nat × Nat))) : (cK K).length = K.length := by simp [cK]
def kN (K : List (List (Nat × Nat))) (i : Nat) : List (Nat × Nat) := K.getD i []
theorem cK_kI {K : List (List (Nat × Nat))} {i : Nat} (h : i < K.length) : kI (cK K) i = cL (kN K i) := by simp [kI, cK, kN, List.getD, h]
theorem kN_mem {K : List (List (Nat × Nat))} {i : Nat} (h : i < K.length) : kN K i ∈ K := by simp [kN, List.getD, h]
def crw (n : Nat) (K : List (List (Nat × Nat))) : PV := .agg [.int .i64 (n : Int), .lst false K.length (knsI (cK K))]
def nL (X : List Nat) : List PV := X.map fun (k : Nat) => PV.int .i64 (k : Int)
theorem nL_len (X : List Nat) : (nL X).length = X.length := by simp [nL]
def nn (X : List Nat) (i : Nat) : Nat := X.getD i 0
theorem nL_gp {X : List Nat} {i : Nat} (h : i < X.length) : gp (nL X) i = .int .i64 (nn X i : Int) := by
  simp [nL, gp, nn, List.getD, h]
theorem nn_mem {X : List Nat} {i : Nat} (h : i < X.length) : nn X i ∈ X := by
  simp [nn, List.getD, h]
theorem drop_nn {X : List Nat} {i : Nat} (h : i < X.length) : X.drop i = nn X i :: X.drop (i + 1) := by
  rw [List.drop_eq_getElem_cons h]; simp [nn, List.getD, h]
/-- all pairs of some kinds -/
def pairsOf (K : List (List (Nat × Nat))) (ks : List Nat) : List (Nat × Nat) := ks.flatMap (kN K)
/-- a crew as it should be, but for what its pairs are -/
structure Fit (n : Nat) (K : List (List (Nat × Nat))) : Prop where
  n1 : 1 ≤ n
  n5 : n ≤ 5
  many : K.length ≤ 5
  len : ∀ l ∈ K, l.length ≤ 6
  lt : ∀ l ∈ K, ∀ p ∈ l, p.1 < p.2 ∧ p.2 < n
  one : ∀ l ∈ K, l.Nodup
theorem kN_lt {n : Nat} {K : List (List (Nat × Nat))} (h : Fit n K) {k : Nat} : ∀ p ∈ kN K k, p.1 < n ∧ p.2 < n := fun p hp => by
  by_cases hk : k < K.length
  · have := h.lt _ (kN_mem hk) p hp; omega
  · simp [kN, List.getD, hk] at hp
theorem kN_len {n : Nat} {K : List (List (Nat × Nat))} (h : Fit n K) {k : Nat} : (kN K k).length ≤ 6 := by
  by_cases hk : k < K.length
  · exact h.len _ (kN_mem hk)
  · simp [kN, List.getD, hk]
theorem pairsOf_lt {n : Nat} {K : List (List (Nat × Nat))} (h : Fit n K) {ks : List Nat} : ∀ p ∈ pairsOf K ks, p.1 < n ∧ p.2 < n := fun p hp => by
  obtain ⟨k, _, hp⟩ := List.mem_flatMap.1 hp
  exact kN_lt h p hp
theorem pairsOf_ok {n : Nat} {K : List (List (Nat × Nat))} (h : Fit n K) {ks : List Nat} : Ok (pairsOf K ks) := fun p hp => by
  have := pairsOf_lt h p hp
  have := h.n5
  omega
theorem pairsOf_len {n : Nat} {K : List (List (Nat × Nat))} (h : Fit n K) : ∀ (ks : List Nat), (pairsOf K ks).length ≤ ks.length * 6
  | [] => by simp [pairsOf]
  | k :: ks => by
    have := pairsOf_len h ks
    have := kN_len h (k := k)
    simp only [pairsOf, List.flatMap_cons, List.length_append, List.length_cons] at *
    omega
theorem cL_app (L M : List (Nat × Nat)) : cL L ++ cL M = cL (L ++ M) := by simp [cL]
theorem rank_L (N : Nat) (n : Nat) (K : List (List (Nat × Nat))) (hK : Fit n K) (p : PV) (ks : List Nat) (hk : ∀ k ∈ ks, k < K.length) (hl : ks.length ≤ 100) : ∀ (r i fuel : Nat), ks.length - i = r → i ≤ ks.length → r < fuel →
    m64_L0 N p ks.length (nL ks) fuel (pairsOf K (ks.take i)).length (i : Int) (.lst false K.length (knsI (cK K))) (prsI (cL (pairsOf K (ks.take i)))) = some ((pairsOf K ks).length, prsI (cL (pairsOf K ks)))
  | r, i, 0, _, _, h => by omega
  | r, i, f + 1, hr, hi, hf => by
    have hnl := nL_len ks
    have hkl : (knsI (cK K)).length = K.length := by rw [knsI_len, cK_len]
    rw [m64_L0]
    by_cases h : i < ks.length
    · have ih := rank_L N n K hK p ks hk hl (r - 1) (i + 1) f (by omega) (by omega) (by omega)
      have hx := hk _ (nn_mem h)
      have h6 := kN_len hK (k := nn ks i)
      have h7 := pairsOf_len hK (ks.take i)
      rw [List.length_take] at h7
      rw [brn_t (by simp; omega), toNatN, grd_t ⟨by omega, by omega⟩, grd_t (by simp only [List.length_drop]; omega), nL_gp h]
      simp only [getI, if_true, getL, toNatN]
      rw [grd_t ⟨by omega, by omega⟩, grd_t (by simp only [List.length_drop]; omega), knsI_gp (by rw [cK_len]; exact hx), cK_kI hx]
      simp only [cL_len]
      rw [grd_t (by rw [prsI_len, cL_len]), grd_t (by omega), grd_t (by rw [prsI_len, cL_len]), wrapN (by omega), prsI_app, cL_app]
      have e : pairsOf K (ks.take i) ++ kN K (nn ks i) = pairsOf K (ks.take (i + 1)) := by
        rw [List.take_add_one]
        have : ks[i]? = some (nn ks i) := by simp [nn, List.getD, h]
        rw [this]
        simp [pairsOf]
      rw [e, show (pairsOf K (ks.take i)).length + (kN K (nn ks i)).length = (pairsOf K (ks.take (i + 1))).length by rw [← e, List.length_append]]
      exact ih
    · rw [brn_f (by simp; omega), List.take_of_length_le (by omega)]
theorem rank_ok (n : Nat) (K : List (List (Nat × Nat))) (hK : Fit n K) (ks : List Nat) (hk : ∀ k ∈ ks, k < K.length) (hl : ks.length ≤ 100) : m64 2000 (crw n K) (.lst false ks.length (nL ks)) = some (.int .i64 (rk (pairsOf K ks) : Int)) := by
  have h := rank_L 2000 n K hK (.int .i64 (n : Int)) ks hk hl ks.length 0 2000 (by omega) (by omega) (by omega)
  have hp := pairsOf_len hK ks
  simp only [m64, crw, getA2, getL]
  rw [show m64_L0 2000 (.int .i64 (n : Int)) ks.length (nL ks) 2000 0 0 (.lst false K.length (knsI (cK K))) [] = _ from h]
  simp only [bnd']
  rw [grd_t (by rw [prsI_len, cL_len])]
  simp only [count_ok (pairsOf K ks) (pairsOf_ok hK) (by omega), getI, if_true]
end Go.Proofs.YtnponojgpkbagaaDoor

namespace Go.Proofs.YtnponojgpkbagaaDoor
open Go.V Go.Crew
set_option linter.unusedSectionVars false
set_option linter.unnecessarySimpa false

theorem idx_L (N : Nat) (p : Int × Int) (l : List (Int × Int)) (hl : l.length ≤ 1000) : ∀ (r i fuel : Nat), l.length - i = r → r < fuel →
    ∃ o, m93_L0 N l.length (prsI l) fuel (i : Int) (.int .i64 p.1) (.int .i64 p.2) = some o ∧ ((l.drop i).contains p = true → ∃ k : Nat, o = .inl (.int .i64 (k : Int))) ∧ ((l.drop i).contains p = false → o = .inr ())
  | r, i, 0, _, h => by omega
  | r, i, f + 1, hr, hf => by
    rw [m93_L0]
    by_cases h : i < l.length
    · obtain ⟨o, o1, o2, o3⟩ := idx_L N p l hl (r - 1) (i + 1) f (by omega) (by omega)
      rw [brn_t (by simp; omega), toNatN, grd_t ⟨by omega, by omega⟩, grd_t (prsI_two' h), prsI_two h, drop_pI h]
      simp only [getA2, getI, if_true, List.contains_cons]
      by_cases e : p = pI l i
      · have e1 : (p == pI l i) = true := by simpa using e
        rw [brn_t (by rw [← e]; simp), e1]
        exact ⟨_, rfl, fun _ => ⟨i, rfl⟩, fun h => by simp at h⟩
      · have e1 : (p == pI l i) = false := by simpa using e
        rw [brn_f (by
          rw [Bool.and_eq_false_iff]
          by_cases a : p.1 = (pI l i).1
          · right; have : p.2 ≠ (pI l i).2 := fun b => e (Prod.ext a b)
            simpa using this
          · left; simpa using a), wrapN (by omega), e1]
        exact ⟨o, o1, fun h => o2 (by simpa using h), fun h => o3 (by simpa using h)⟩
    · rw [brn_f (by simp; omega), List.drop_eq_nil_of_le (by omega)]
      exact ⟨_, rfl, fun h => by simp at h, fun _ => rfl⟩
theorem has_ok (N : Nat) (hN : 2000 ≤ N) (p : Int × Int) (l : List (Int × Int)) (hl : l.length ≤ 1000) : m51 N (.lst false l.length (prsI l)) (.agg [.int .i64 p.1, .int .i64 p.2]) = some (.bool (l.contains p)) := by
  obtain ⟨o, o1, o2, o3⟩ := idx_L N p l hl l.length 0 N (by omega) (by omega)
  rw [List.drop_zero] at o2 o3
  simp only [m51, getL, getA2, m93]
  rw [show m93_L0 N l.length (prsI l) N 0 (.int .i64 p.1) (.int .i64 p.2) = some o from o1]
  cases h : l.contains p with
  | true =>
    obtain ⟨k, rfl⟩ := o2 h
    simp [bnd', getI]
  | false => rw [o3 h]; simp [bnd', getI]

def chkL (n : Int) : List (Int × Int) → List (Int × Int) → Int
  | _, [] => 0
  | d, p :: r => if minI p.1 p.2 < 0 then 2 else if maxI p.1 p.2 ≥ n then 2 else if p.1 ≥ p.2 then 7 else if d.contains p then 6 else chkL n (d ++ [p]) r
def chkK (n : Int) : List (List (Int × Int)) → Int
  | [] => 0
  | l :: ls => if 6 < l.length then 3 else if chkL n [] l ≠ 0 then chkL n [] l else chkK n ls
def chk (n : Int) (K : List (List (Int × Int))) : Int := if n < 1 then 1 else if n > 5 then 1 else if 5 < K.length then 3 else chkK n K
def outE (e : Int) : PV ⊕ Unit := if e = 0 then .inr () else .inl (.int .i64 e)
theorem chk_L1 (N : Nat) (hN : 2000 ≤ N) (n : Int) (m : Nat) (c : List PV) (x : Int) (l : List (Int × Int)) (hl : l.length ≤ 1000) : ∀ (r i fuel : Nat), l.length - i = r → r < fuel →
    m22_L1 N n m c x l.length (prsI l) fuel (i : Int) = some (outE (chkL n (l.take i) (l.drop i)))
  | r, i, 0, _, h => by omega
  | r, i, f + 1, hr, hf => by
    rw [m22_L1]
    by_cases h : i < l.length
    · have ih := chk_L1 N hN n m c x l hl (r - 1) (i + 1) f (by omega) (by omega)
      rw [brn_t (by simp; omega), toNatN, grd_t ⟨by omega, by omega⟩, grd_t (prsI_two' h), prsI_two h, drop_pI h]
      simp only [getA2, getI, if_true, chkL]
      by_cases h1 : minI (pI l i).1 (pI l i).2 < 0
      · rw [brn_t (by simpa using h1), if_pos h1]; rfl
      · rw [brn_f (by simpa using h1), if_neg h1]
        by_cases h2 : maxI (pI l i).1 (pI l i).2 ≥ n
        · rw [brn_t (by simpa using h2), if_pos h2]; rfl
        · rw [brn_f (by simpa using h2), if_neg h2]
          by_cases h3 : (pI l i).1 ≥ (pI l i).2
          · rw [brn_t (by simpa using h3), if_pos h3]; rfl
          · have e := has_ok N hN (pI l i) (l.take i) (by rw [List.length_take]; omega)
            rw [show (l.take i).length = i by rw [List.length_take]; omega] at e
            rw [brn_f (by simpa using h3), if_neg h3, grd_t (by omega), grd_t (prsI_len l), prsI_take, e]
            simp only [bnd', getB]
            cases hc : (l.take i).contains (pI l i) with
            | true => rw [brn_t rfl, if_pos rfl]; rfl
            | false => rw [brn_f rfl, if_neg (by simp), wrapN (by omega), ih, take_pI h]
    · rw [brn_f (by simp; omega), List.drop_eq_nil_of_le (by omega)]; rfl
theorem chk_L0 (N : Nat) (hN : 2000 ≤ N) (n : Int) (K : List (List (Int × Int))) (hK : K.length ≤ 1000) (hl : ∀ l ∈ K, l.length ≤ 1000) : ∀ (r i fuel : Nat), K.length - i = r → r < fuel →
    m22_L0 N n K.length (knsI K) fuel (i : Int) = some (outE (chkK n (K.drop i)))
  | r, i, 0, _, h => by omega
  | r, i, f + 1, hr, hf => by
    have hk := knsI_len K
    rw [m22_L0]
    by_cases h : i < K.length
    · have ih := chk_L0 N hN n K hK hl (r - 1) (i + 1) f (by omega) (by omega)
      have h1 := hl _ (kI_mem h)
      rw [brn_t (by simp; omega), toNatN, grd_t ⟨by omega, by omega⟩, grd_t (by simp only [List.length_drop]; omega), knsI_gp h, drop_kI h]
      simp only [getL, chkK]
      by_cases h2 : 6 < (kI K i).length
      · rw [brn_t (by simp; omega), if_pos h2]; rfl
      · have e := chk_L1 N hN n K.length (knsI K) (i : Int) (kI K i) h1 (kI K i).length 0 N (by omega) (by omega)
        rw [List.take_zero, List.drop_zero] at e
        rw [brn_f (by simp; omega), if_neg h2, show m22_L1 N n K.length (knsI K) (i : Int) (kI K i).length (prsI (kI K i)) N 0 = _ from e]
        by_cases h3 : chkL n [] (kI K i) = 0
        · rw [if_neg (by simpa using h3), outE, if_pos h3]
          simp only [bnd']
          rw [wrapN (by omega)]; exact ih
        · rw [if_pos h3, outE, if_neg h3]; simp [bnd', outE, h3]
    · rw [brn_f (by simp; omega), List.drop_eq_nil_of_le (by omega)]; rfl
theorem outE_end {x : Int} : (match outE x with | .inl p => some p | .inr () => some (PV.int .i64 0)) = some (.int .i64 x) := by
  unfold outE
  by_cases h : x = 0
  · rw [if_pos h, h]
  · rw [if_neg h]
theorem check_ok (N : Nat) (hN : 2000 ≤ N) (n : Int) (K : List (List (Int × Int))) (hK : K.length ≤ 1000) (hl : ∀ l ∈ K, l.length ≤ 1000) : m22 N (.agg [.int .i64 n, .lst false K.length (knsI K)]) = some (.int .i64 (chk n K)) := by
  simp only [m22, getA2, getI, if_true, getL]
  unfold chk
  by_cases h1 : n < 1
  · rw [brn_t (by simpa using h1), if_pos h1]
  · rw [brn_f (by simpa using h1), if_neg h1]
    by_cases h2 : n > 5
    · rw [brn_t (by simpa using h2), if_pos h2]
    · rw [brn_f (by simpa using h2), if_neg h2]
      by_cases h3 : 5 < K.length
      · rw [brn_t (by simp; omega), if_pos h3]
      · have e := chk_L0 N hN n K hK hl K.length 0 N (by omega) (by omega)
        rw [List.drop_zero] at e
        rw [brn_f (by simp; omega), if_neg h3, show m22_L0 N n K.length (knsI K) N 0 = _ from e]
        exact outE_end
theorem minI_min (a b : Int) : minI a b = min a b := by unfold minI; split <;> omega
theorem maxI_max (a b : Int) : maxI a b = max a b := by unfold maxI; split <;> omega
def lsE (m : Nat) : Int → List Int → Int
  | _, [] => 0
  | last, k :: r => if k < 0 then 2 else if k ≥ (m : Int) then 2 else if k ≤ last then 7 else lsE m k r
def iL (X : List Int) : List PV := X.map (PV.int .i64)
theorem iL_len (X : List Int) : (iL X).length = X.length := by simp [iL]
def en (X : List Int) (i : Nat) : Int := X.getD i 0
theorem iL_gp {X : List Int} {i : Nat} (h : i < X.length) : gp (iL X) i = .int .i64 (en X i) := by
  simp [iL, gp, en, List.getD, h]
theorem drop_en {L : List Int} {i : Nat} (h : i < L.length) : L.drop i = en L i :: L.drop (i + 1) := by
  rw [List.drop_eq_getElem_cons h]; simp [en, List.getD, h]
theorem listed_L (N : Nat) (p : PV) (m : Nat) (c : List PV) (ks : List Int) (hk : ks.length ≤ 1000) : ∀ (r i fuel : Nat) (last : Int), ks.length - i = r → r < fuel →
    m63_L0 N p ks.length (iL ks) fuel last (i : Int) (.lst false m c) = some (outE (lsE m last (ks.drop i)))
  | r, i, 0, _, _, h => by omega
  | r, i, f + 1, last, hr, hf => by
    have hl := iL_len ks
    rw [m63_L0]
    by_cases h : i < ks.length
    · have ih := listed_L N p m c ks hk (r - 1) (i + 1) f (en ks i) (by omega) (by omega)
      rw [brn_t (by simp; omega), toNatN, grd_t ⟨by omega, by omega⟩, grd_t (by simp only [List.length_drop]; omega), iL_gp h, drop_en h]
      simp only [getI, if_true, getL, lsE]
      by_cases h1 : en ks i < 0
      · rw [brn_t (by simpa using h1), if_pos h1]; rfl
      · rw [brn_f (by simpa using h1), if_neg h1]
        by_cases h2 : en ks i ≥ (m : Int)
        · rw [brn_t (by simpa using h2), if_pos h2]; rfl
        · rw [brn_f (by simpa using h2), if_neg h2]
          by_cases h3 : en ks i ≤ last
          · rw [brn_t (by simpa using h3), if_pos h3]; rfl
          · rw [brn_f (by simpa using h3), if_neg h3, wrapN (by omega)]; exact ih
    · rw [brn_f (by simp; omega), List.drop_eq_nil_of_le (by omega)]; rfl
def lstE (n : Int) (K : List (List (Int × Int))) (ks : List Int) : Int := if chk n K ≠ 0 then chk n K else lsE K.length (-1) ks
theorem listed_ok (N : Nat) (hN : 2000 ≤ N) (n : Int) (K : List (List (Int × Int))) (hK : K.length ≤ 1000) (hl : ∀ l ∈ K, l.length ≤ 1000) (ks : List Int) (hk : ks.length ≤ 1000) :
    m63 N (.agg [.int .i64 n, .lst false K.length (knsI K)]) (.lst false ks.length (iL ks)) = some (.int .i64 (lstE n K ks)) := by
  have e := listed_L N (.int .i64 n) K.length (knsI K) ks hk ks.length 0 N (-1) (by omega) (by omega)
  rw [List.drop_zero] at e
  simp only [m63, getA2, getL, check_ok N hN n K hK hl, bnd', getI, if_true]
  unfold lstE
  by_cases h : chk n K = 0
  · rw [brn_f (by simpa using h), if_neg (by simpa using h), show m63_L0 N (.int .i64 n) ks.length (iL ks) N (-1) 0 (.lst false K.length (knsI K)) = _ from e]
    exact outE_end
  · rw [brn_t (by simpa using h), if_pos h]
def cS (X : List Nat) : List Int := X.map fun (k : Nat) => (k : Int)
theorem cS_len (X : List Nat) : (cS X).length = X.length := by simp [cS]
theorem nL_iL (X : List Nat) : nL X = iL (cS X) := by simp [nL, iL, cS]
end Go.Proofs.YtnponojgpkbagaaDoor

namespace Go.Proofs.YtnponojgpkbagaaDoor
open Go.V Go.Crew
set_option linter.unusedSectionVars false
set_option linter.unnecessarySimpa false

theorem hasN_L (N : Nat) (x : Nat) (M : List Nat) (hM : M.length ≤ 1000) : ∀ (r i fuel : Nat), M.length - i = r → r < fuel →
    m85_2_L0 N M.length (x : Int) (nL M) fuel (i : Int) = some (if (M.drop i).contains x then .inl (.bool true) else .inr ())
  | r, i, 0, _, h => by omega
  | r, i, f + 1, hr, hf => by
    have hl := nL_len M
    rw [m85_2_L0]
    by_cases h : i < M.length
    · have ih := hasN_L N x M hM (r - 1) (i + 1) f (by omega) (by omega)
      rw [brn_t (by simp; omega), toNatN, grd_t ⟨by omega, by omega⟩, grd_t (by omega), nL_gp h, drop_nn h]
      simp only [getI, if_true, List.contains_cons]
      by_cases e : x = nn M i
      · rw [brn_t (by simp; omega)]; simp [e]
      · rw [brn_f (by simp; omega), wrapN (by omega), ih]; simp [e]
    · rw [brn_f (by simp; omega), List.drop_eq_nil_of_le (by omega)]; rfl
theorem hasN_ok (N : Nat) (hN : 2000 ≤ N) (x : Nat) (M : List Nat) (hM : M.length ≤ 1000) : m85_2 N M.length (x : Int) (nL M) = some (.bool (M.contains x)) := by
  have e := hasN_L N x M hM M.length 0 N (by omega) (by omega)
  rw [List.drop_zero] at e
  simp only [m85_2]
  rw [show m85_2_L0 N M.length (x : Int) (nL M) N 0 = _ from e]
  cases M.contains x <;> rfl
theorem prsI_fst {l : List (Int × Int)} {i : Nat} (h : i < l.length) : gp (prsI l) (i * 2) = .int .i64 (pI l i).1 := by
  have := prsI_two h
  have hl := prsI_len l
  simp only [gp, List.getD]
  have e := congrArg (fun z => z[0]?) this
  simp only [List.getElem?_take, List.getElem?_drop] at e
  simp at e
  rw [e]; rfl
theorem prsI_snd {l : List (Int × Int)} {i : Nat} (h : i < l.length) : gp (prsI l) (i * 2 + 1) = .int .i64 (pI l i).2 := by
  have := prsI_two h
  simp only [gp, List.getD]
  have e := congrArg (fun z => z[1]?) this
  simp only [List.getElem?_take, List.getElem?_drop] at e
  simp at e
  rw [e]; rfl
theorem bnd_t {α β : Type} {x : α} {f : α → Option β} : bnd' (some x) f = f x := rfl
theorem getI_t {α : Type} {k : IntKind} {x : Int} {f : Int → Option α} : getI k (.int k x) f = f x := by simp [getI]
theorem getB_t {α : Type} {x : Bool} {f : Bool → Option α} : getB (.bool x) f = f x := rfl
theorem getL_t {α : Type} {n : Nat} {c : List PV} {f : Nat → List PV → Option α} : getL (.lst false n c) f = f n c := rfl
theorem scan_L2 (N : Nat) (hN : 2000 ≤ N) (L : List (Nat × Nat)) (hl : L.length ≤ 500) (i v : Nat) (a b c d : Int) : ∀ (r k fuel : Nat) (M : List Nat), L.length - k = r → r < fuel → i < M.length → nn M i = v → M.length + r ≤ 900 →
    m96_L2 N a L.length (prsI (cL L)) b c (i : Int) d fuel M.length (k : Int) (nL M) = some ((scan (L.drop k) v M).length, nL (scan (L.drop k) v M))
  | r, k, 0, M, _, h, _, _, _ => by omega
  | r, k, f + 1, M, hr, hf, hi, hv, hm => by
    have hnl := nL_len M
    rw [m96_L2]
    by_cases h : k < L.length
    · have ih := fun M => scan_L2 N hN L hl i v a b c d (r - 1) (k + 1) f M (by omega) (by omega)
      have h' : k < (cL L).length := by rw [cL_len]; exact h
      have hc := prsI_two' h'
      have hlen := prsI_len (cL L)
      have q1 : ∀ {α : Type} (y : Option α), grd (0 < List.length (List.drop (k * 2) (prsI (cL L)))) y = y := fun y => grd_t (by omega)
      have q2 : ∀ {α : Type} (y : Option α), grd (0 < List.length (List.drop 1 (List.drop (k * 2) (prsI (cL L))))) y = y := fun y => grd_t (by rw [List.length_drop]; omega)
      have g1 : gp (prsI (cL L)) (k * 2) = .int .i64 ((pN L k).1 : Int) := by rw [prsI_fst h', cL_pI h]; rfl
      have g2 : gp (prsI (cL L)) (k * 2 + 1) = .int .i64 ((pN L k).2 : Int) := by rw [prsI_snd h', cL_pI h]; rfl
      have stay := ih M hi hv (by omega)
      have snoc : ∀ x : Nat, m96_L2 N a L.length (prsI (cL L)) b c (i : Int) d f (M.length + 1) (IntKind.i64.wrap ((k : Int) + 1)) (nL M ++ [.int .i64 (x : Int)]) = some ((scan (L.drop (k + 1)) v (M ++ [x])).length, nL (scan (L.drop (k + 1)) v (M ++ [x]))) := fun x => by
        have e1 : nL M ++ [PV.int .i64 (x : Int)] = nL (M ++ [x]) := by simp [nL]
        have := ih (M ++ [x]) (by simp; omega) (by rw [← hv]; exact getD_app hi) (by simp; omega)
        rw [List.length_append] at this
        rw [wrapN (by omega), e1]; exact this
      rw [brn_t (by simp; omega), toNatN, grd_t ⟨by omega, by omega⟩, q1, g1, drop_pN h]
      simp only [getI_t, toNatN]
      rw [grd_t (by omega), grd_t (by omega), nL_gp hi, hv]
      simp only [getI_t, q2, g2, hasN_ok N hN _ M (by omega), bnd_t, getB_t]
      show _ = some ((scan (L.drop (k + 1)) v (Crew.upd v M (pN L k))).length, nL (scan (L.drop (k + 1)) v (Crew.upd v M (pN L k))))
      unfold Crew.upd
      by_cases h1 : (pN L k).1 = v
      · rw [brn_t (by simp; omega)]
        cases m2 : M.contains (pN L k).2 with
        | true =>
          have m2' : (pN L k).2 ∈ M := by simpa using m2
          rw [brn_t rfl, if_neg (by simp [m2'])]
          by_cases h2 : (pN L k).2 = v
          · rw [brn_t (by simp; omega)]
            cases m1 : M.contains (pN L k).1 with
            | true =>
              have m1' : (pN L k).1 ∈ M := by simpa using m1
              rw [brn_t rfl, if_neg (by simp [m1']), wrapN (by omega)]; exact stay
            | false =>
              have m1' : (pN L k).1 ∉ M := by simpa using m1
              rw [brn_f rfl, if_pos ⟨h2, m1'⟩, grd_t (by omega), grd_t hnl]; exact snoc _
          · rw [brn_f (by simp; omega), if_neg (by simp [h2]), wrapN (by omega)]; exact stay
        | false =>
          have m2' : (pN L k).2 ∉ M := by simpa using m2
          rw [brn_f rfl, if_pos ⟨h1, m2'⟩, grd_t (by omega), grd_t hnl]; exact snoc _
      · rw [brn_f (by simp; omega), if_neg (by simp [h1])]
        by_cases h2 : (pN L k).2 = v
        · rw [brn_t (by simp; omega)]
          cases m1 : M.contains (pN L k).1 with
          | true =>
            have m1' : (pN L k).1 ∈ M := by simpa using m1
            rw [brn_t rfl, if_neg (by simp [m1']), wrapN (by omega)]; exact stay
          | false =>
            have m1' : (pN L k).1 ∉ M := by simpa using m1
            rw [brn_f rfl, if_pos ⟨h2, m1'⟩, grd_t (by omega), grd_t hnl]; exact snoc _
        · rw [brn_f (by simp; omega), if_neg (by simp [h2]), wrapN (by omega)]; exact stay
    · rw [brn_f (by simp; omega), List.drop_eq_nil_of_le (by omega)]; rfl
theorem scan_L3 (N : Nat) (hN : 2000 ≤ N) (L : List (Nat × Nat)) (hl : L.length ≤ 500) (i v : Nat) (a b c : Int) : ∀ (r k fuel : Nat) (M : List Nat), L.length - k = r → r < fuel → i < M.length → nn M i = v → M.length + r ≤ 900 →
    m96_L3 N a L.length (prsI (cL L)) b c (i : Int) fuel M.length (k : Int) (nL M) = some ((scan (L.drop k) v M).length, nL (scan (L.drop k) v M))
  | r, k, 0, M, _, h, _, _, _ => by omega
  | r, k, f + 1, M, hr, hf, hi, hv, hm => by
    have hnl := nL_len M
    rw [m96_L3]
    by_cases h : k < L.length
    · have ih := fun M => scan_L3 N hN L hl i v a b c (r - 1) (k + 1) f M (by omega) (by omega)
      have h' : k < (cL L).length := by rw [cL_len]; exact h
      have hc := prsI_two' h'
      have hlen := prsI_len (cL L)
      have q1 : ∀ {α : Type} (y : Option α), grd (0 < List.length (List.drop (k * 2) (prsI (cL L)))) y = y := fun y => grd_t (by omega)
      have q2 : ∀ {α : Type} (y : Option α), grd (0 < List.length (List.drop 1 (List.drop (k * 2) (prsI (cL L))))) y = y := fun y => grd_t (by rw [List.length_drop]; omega)
      have g1 : gp (prsI (cL L)) (k * 2) = .int .i64 ((pN L k).1 : Int) := by rw [prsI_fst h', cL_pI h]; rfl
      have g2 : gp (prsI (cL L)) (k * 2 + 1) = .int .i64 ((pN L k).2 : Int) := by rw [prsI_snd h', cL_pI h]; rfl
      have stay := ih M hi hv (by omega)
      have snoc : ∀ x : Nat, m96_L3 N a L.length (prsI (cL L)) b c (i : Int) f (M.length + 1) (IntKind.i64.wrap ((k : Int) + 1)) (nL M ++ [.int .i64 (x : Int)]) = some ((scan (L.drop (k + 1)) v (M ++ [x])).length, nL (scan (L.drop (k + 1)) v (M ++ [x]))) := fun x => by
        have e1 : nL M ++ [PV.int .i64 (x : Int)] = nL (M ++ [x]) := by simp [nL]
        have := ih (M ++ [x]) (by simp; omega) (by rw [← hv]; exact getD_app hi) (by simp; omega)
        rw [List.length_append] at this
        rw [wrapN (by omega), e1]; exact this
      rw [brn_t (by simp; omega), toNatN, grd_t ⟨by omega, by omega⟩, q1, g1, drop_pN h]
      simp only [getI_t, toNatN]
      rw [grd_t ⟨by omega, by omega⟩, grd_t (by omega), nL_gp hi, hv]
      simp only [getI_t, q2, g2, hasN_ok N hN _ M (by omega), bnd_t, getB_t]
      show _ = some ((scan (L.drop (k + 1)) v (Crew.upd v M (pN L k))).length, nL (scan (L.drop (k + 1)) v (Crew.upd v M (pN L k))))
      unfold Crew.upd
      by_cases h1 : (pN L k).1 = v
      · rw [brn_t (by simp; omega)]
        cases m2 : M.contains (pN L k).2 with
        | true =>
          have m2' : (pN L k).2 ∈ M := by simpa using m2
          rw [brn_t rfl, if_neg (by simp [m2'])]
          by_cases h2 : (pN L k).2 = v
          · rw [brn_t (by simp; omega)]
            cases m1 : M.contains (pN L k).1 with
            | true =>
              have m1' : (pN L k).1 ∈ M := by simpa using m1
              rw [brn_t rfl, if_neg (by simp [m1']), wrapN (by omega)]; exact stay
            | false =>
              have m1' : (pN L k).1 ∉ M := by simpa using m1
              rw [brn_f rfl, if_pos ⟨h2, m1'⟩, grd_t (by omega), grd_t hnl]; exact snoc _
          · rw [brn_f (by simp; omega), if_neg (by simp [h2]), wrapN (by omega)]; exact stay
        | false =>
          have m2' : (pN L k).2 ∉ M := by simpa using m2
          rw [brn_f rfl, if_pos ⟨h1, m2'⟩, grd_t (by omega), grd_t hnl]; exact snoc _
      · rw [brn_f (by simp; omega), if_neg (by simp [h1])]
        by_cases h2 : (pN L k).2 = v
        · rw [brn_t (by simp; omega)]
          cases m1 : M.contains (pN L k).1 with
          | true =>
            have m1' : (pN L k).1 ∈ M := by simpa using m1
            rw [brn_t rfl, if_neg (by simp [m1']), wrapN (by omega)]; exact stay
          | false =>
            have m1' : (pN L k).1 ∉ M := by simpa using m1
            rw [brn_f rfl, if_pos ⟨h2, m1'⟩, grd_t (by omega), grd_t hnl]; exact snoc _
        · rw [brn_f (by simp; omega), if_neg (by simp [h2]), wrapN (by omega)]; exact stay
    · rw [brn_f (by simp; omega), List.drop_eq_nil_of_le (by omega)]; rfl
theorem grp_L1 (N : Nat) (hN : 2000 ≤ N) (L : List (Nat × Nat)) (hL : Ok L) (hl : L.length ≤ 500) (a x : Int) (s : Nat) (hs : s < 5) : ∀ (f i : Nat) (M : List Nat) (b : Bool), 5 < f + i → Bok L s i M →
    m96_L1 N a L.length (prsI (cL L)) x (s : Int) f M.length b (i : Int) (nL M) = some (b && ((bfs L f i M).drop i).all fun y => decide (s ≤ y))
  | 0, i, M, b, hf, h => by
    have := nodup_five h.nd fun x hx => (h.cl x hx).1
    have := h.le
    omega
  | f + 1, i, M, b, hf, h => by
    have h5 := nodup_five h.nd fun x hx => (h.cl x hx).1
    have hnl := nL_len M
    rw [m96_L1, bfs]
    by_cases hi : i < M.length
    · have hb := bok_scan hL h hi
      have ih := fun b => grp_L1 N hN L hL hl a x s hs f (i + 1) (scan L (M.getD i 0) M) b (by omega) hb
      obtain ⟨R1, e1⟩ := scan_sub L (M.getD i 0) M
      obtain ⟨R2, e2⟩ := bfs_sub L f (i + 1) (scan L (M.getD i 0) M)
      have ed : (bfs L f (i + 1) (scan L (M.getD i 0) M)).drop i = nn M i :: (bfs L f (i + 1) (scan L (M.getD i 0) M)).drop (i + 1) := by
        rw [drop_nn (by rw [e2, e1]; simp; omega)]
        congr 1
        show List.getD _ _ _ = _
        rw [e2, e1, List.append_assoc, getD_app hi]; rfl
      rw [if_pos hi, brn_t (by simp; omega), ed, List.all_cons]
      cases b with
      | true =>
        have e := scan_L2 N hN L hl i (nn M i) a x (s : Int) (nn M i : Int) L.length 0 N M (by omega) (by omega) hi rfl (by omega)
        rw [List.drop_zero] at e
        rw [brn_t rfl, toNatN, grd_t ⟨by omega, by omega⟩, grd_t (by omega), nL_gp hi, getI_t, show m96_L2 N a L.length (prsI (cL L)) x (s : Int) (i : Int) (nn M i : Int) N M.length 0 (nL M) = _ from e, bnd_t]
        simp only []
        rw [wrapN (by omega)]
        have := ih (decide ((nn M i : Int) ≥ (s : Int)))
        rw [show (scan L (nn M i) M) = scan L (M.getD i 0) M from rfl, this]
        congr 1
        rw [Bool.true_and]
        congr 1
        simp
      | false =>
        have e := scan_L3 N hN L hl i (nn M i) a x (s : Int) L.length 0 N M (by omega) (by omega) hi rfl (by omega)
        rw [List.drop_zero] at e
        rw [brn_f rfl, show m96_L3 N a L.length (prsI (cL L)) x (s : Int) (i : Int) N M.length 0 (nL M) = _ from e, bnd_t]
        simp only []
        rw [wrapN (by omega)]
        exact ih false
    · have : i = M.length := by have := h.le; omega
      rw [if_neg hi, brn_f (by simp; omega), List.drop_eq_nil_of_le (by omega)]
      simp
theorem parts_L (N : Nat) (hN : 2000 ≤ N) (n : Nat) (hn : n ≤ 5) (L : List (Nat × Nat)) (hL : Ok L) (hl : L.length ≤ 500) : ∀ (r s fuel c : Nat), n - s = r → r < fuel → c ≤ s →
    m96_L0 N (n : Int) L.length (prsI (cL L)) fuel (c : Int) (s : Int) = some ((c + ((List.range' s (n - s)).filter fun s => ja (runJ apt L) s == s).length : Nat) : Int)
  | r, s, 0, c, _, h, _ => by omega
  | r, s, f + 1, c, hr, hf, hc => by
    rw [m96_L0]
    by_cases h : s < n
    · have e := grp_L1 N hN L hL hl (n : Int) (c : Int) s (by omega) N 0 [s] true (by omega) (bok_init L (by omega))
      rw [List.drop_zero, grp_first hL (by omega) (by omega), Bool.true_and] at e
      rw [brn_t (by simp; omega), show m96_L1 N (n : Int) L.length (prsI (cL L)) (c : Int) (s : Int) N 1 true 0 [.int .i64 (s : Int)] = _ from e, bnd_t, show n - s = (n - (s + 1)) + 1 by omega, List.range'_succ, List.filter_cons]
      cases hq : ja (runJ apt L) s == s with
      | true =>
        rw [brn_t rfl, wrapN (by omega), wrapN (by omega), parts_L N hN n hn L hL hl (r - 1) (s + 1) f (c + 1) (by omega) (by omega) (by omega)]
        simp; omega
      | false =>
        rw [brn_f rfl, wrapN (by omega), parts_L N hN n hn L hL hl (r - 1) (s + 1) f c (by omega) (by omega) (by omega)]
        simp
    · rw [brn_f (by simp; omega), show n - s = 0 by omega]; simp
/-- the reference's groups are what joining leaves -/
theorem parts_ok (N : Nat) (hN : 2000 ≤ N) (n : Nat) (hn : n ≤ 5) (L : List (Nat × Nat)) (hL : ∀ p ∈ L, p.1 < n ∧ p.2 < n) (hl : L.length ≤ 500) : m96 N (n : Int) (.lst false L.length (prsI (cL L))) = some (.int .i64 ((n - rk L : Nat) : Int)) := by
  have hL5 : Ok L := fun p hp => ⟨by have := hL p hp; omega, by have := hL p hp; omega⟩
  have e := parts_L N hN n hn L hL5 hl n 0 N 0 (by omega) (by omega) (by omega)
  have g := grps_rk hn hL
  rw [Nat.zero_add, Nat.sub_zero, ← List.range_eq_range'] at e
  rw [m96, getL_t, show m96_L0 N (n : Int) L.length (prsI (cL L)) N 0 0 = _ from e, bnd_t]
  rw [show ((List.range n).filter fun s => ja (runJ apt L) s == s).length = grps n L from rfl, show grps n L = n - rk L by omega]
end Go.Proofs.YtnponojgpkbagaaDoor

namespace Go.Proofs.YtnponojgpkbagaaDoor
open Go.V Go.Crew
set_option linter.unusedSectionVars false
set_option linter.unnecessarySimpa false

theorem in_ok (N : Nat) (x lo hi : Int) : m75 N x lo hi = some (.bool (decide (lo ≤ x) && decide (x ≤ hi))) := by
  unfold m75
  by_cases h : x ≥ lo
  · have h' : lo ≤ x := h
    rw [brn_t (decide_eq_true h), decide_eq_true h', Bool.true_and]
  · have h' : ¬ lo ≤ x := h
    rw [brn_f (decide_eq_false h), decide_eq_false h', Bool.false_and]
theorem getA2_t {α : Type} {a b : PV} {f : PV → PV → Option α} : getA2 (.agg [a, b]) f = f a b := rfl
theorem twice_L (N : Nat) (n : Int) (m : Nat) (c : List PV) (x : Int) (l : List (Int × Int)) (i : Nat) (hi : i < l.length) (hl : l.length ≤ 1000) : ∀ (r j fuel : Nat), i - j = r → r < fuel →
    m23_L2 N n m c x l.length (prsI l) (i : Int) fuel (j : Int) = some (if ((l.take i).drop j).contains (pI l i) then .inl (.int .i64 6) else .inr ())
  | r, j, 0, _, h => by omega
  | r, j, f + 1, hr, hf => by
    rw [m23_L2]
    by_cases h : j < i
    · have ih := twice_L N n m c x l i hi hl (r - 1) (j + 1) f (by omega) (by omega)
      have hj : j < l.length := by omega
      have hjt : j < (l.take i).length := by rw [List.length_take]; omega
      have e : pI (l.take i) j = pI l j := by simp [pI, List.getD, h]
      rw [brn_t (by simp; omega), toNatN, toNatN, grd_t ⟨by omega, by omega⟩, grd_t (prsI_two' hj), prsI_two hj, getA2_t, grd_t (prsI_two' hi), prsI_two hi, getA2_t, getI_t, getI_t, getI_t, getI_t, drop_pI hjt, List.contains_cons, e]
      by_cases q : pI l i = pI l j
      · rw [brn_t (by rw [q]; simp)]; simp [q]
      · have q1 : (pI l i == pI l j) = false := by simpa using q
        rw [brn_f (by
          rw [Bool.and_eq_false_iff]
          by_cases a : (pI l i).1 = (pI l j).1
          · right; have : (pI l j).2 ≠ (pI l i).2 := fun b => q (Prod.ext a b.symm)
            simpa using this
          · left; simpa using fun b : (pI l j).1 = (pI l i).1 => a b.symm), wrapN (by omega), ih, q1, Bool.false_or]
    · rw [brn_f (by simp; omega), List.drop_eq_nil_of_le (by rw [List.length_take]; omega)]; rfl
theorem rchk_L1 (N : Nat) (hN : 2000 ≤ N) (n : Int) (hn1 : 1 ≤ n) (hn5 : n ≤ 5) (m : Nat) (c : List PV) (x : Int) (l : List (Int × Int)) (hl : l.length ≤ 1000) : ∀ (r i fuel : Nat), l.length - i = r → r < fuel →
    m23_L1 N n m c x l.length (prsI l) fuel (i : Int) = some (outE (chkL n (l.take i) (l.drop i)))
  | r, i, 0, _, h => by omega
  | r, i, f + 1, hr, hf => by
    rw [m23_L1]
    by_cases h : i < l.length
    · have ih := rchk_L1 N hN n hn1 hn5 m c x l hl (r - 1) (i + 1) f (by omega) (by omega)
      have hp := prsI_len l
      have w : IntKind.i64.wrap (n - 1) = n - 1 := wrap64 (by omega) (by omega)
      rw [brn_t (by simp; omega), toNatN, grd_t ⟨by omega, by omega⟩, grd_t (by rw [List.length_drop]; omega), prsI_fst h, getI_t, w, in_ok, bnd_t, getB_t, drop_pI h, chkL, minI_min, maxI_max]
      by_cases h1 : 0 ≤ (pI l i).1 ∧ (pI l i).1 ≤ n - 1
      · rw [brn_t (by simp [h1]), grd_t (by rw [List.length_drop, List.length_drop]; omega), prsI_snd h, getI_t, in_ok, bnd_t, getB_t]
        by_cases h2 : 0 ≤ (pI l i).2 ∧ (pI l i).2 ≤ n - 1
        · rw [brn_t (by simp [h2]), if_neg (by omega), if_neg (by omega)]
          by_cases h3 : (pI l i).1 ≥ (pI l i).2
          · rw [brn_t (by simpa using h3), if_pos h3]; rfl
          · have e := twice_L N n m c x l i h hl i 0 N (by omega) (by omega)
            rw [List.drop_zero] at e
            rw [brn_f (by simpa using h3), if_neg h3, show m23_L2 N n m c x l.length (prsI l) (i : Int) N 0 = _ from e]
            cases hc : (l.take i).contains (pI l i) with
            | true => rfl
            | false =>
              simp only [Bool.false_eq_true, if_false, bnd_t]
              rw [wrapN (by omega), ih, take_pI h]
        · rw [brn_f (by
            rw [Bool.and_eq_false_iff]
            by_cases a : 0 ≤ (pI l i).2
            · right; simp; omega
            · left; simpa using a)]
          by_cases a : min (pI l i).1 (pI l i).2 < 0
          · rw [if_pos a]; rfl
          · rw [if_neg a, if_pos (by omega)]; rfl
      · rw [brn_f (by
          rw [Bool.and_eq_false_iff]
          by_cases a : 0 ≤ (pI l i).1
          · right; simp; omega
          · left; simpa using a)]
        by_cases a : min (pI l i).1 (pI l i).2 < 0
        · rw [if_pos a]; rfl
        · rw [if_neg a, if_pos (by omega)]; rfl
    · rw [brn_f (by simp; omega), List.drop_eq_nil_of_le (by omega)]; rfl
theorem rchk_L0 (N : Nat) (hN : 2000 ≤ N) (n : Int) (hn1 : 1 ≤ n) (hn5 : n ≤ 5) (K : List (List (Int × Int))) (hK : K.length ≤ 1000) (hl : ∀ l ∈ K, l.length ≤ 1000) : ∀ (r i fuel : Nat), K.length - i = r → r < fuel →
    m23_L0 N n K.length (knsI K) fuel (i : Int) = some (outE (chkK n (K.drop i)))
  | r, i, 0, _, h => by omega
  | r, i, f + 1, hr, hf => by
    have hk := knsI_len K
    rw [m23_L0]
    by_cases h : i < K.length
    · have ih := rchk_L0 N hN n hn1 hn5 K hK hl (r - 1) (i + 1) f (by omega) (by omega)
      have h1 := hl _ (kI_mem h)
      rw [brn_t (by simp; omega), toNatN, grd_t ⟨by omega, by omega⟩, grd_t (by simp only [List.length_drop]; omega), knsI_gp h, drop_kI h]
      simp only [getL, chkK]
      by_cases h2 : 6 < (kI K i).length
      · rw [brn_t (by simp; omega), if_pos h2]; rfl
      · have e := rchk_L1 N hN n hn1 hn5 K.length (knsI K) (i : Int) (kI K i) h1 (kI K i).length 0 N (by omega) (by omega)
        rw [List.take_zero, List.drop_zero] at e
        rw [brn_f (by simp; omega), if_neg h2, show m23_L1 N n K.length (knsI K) (i : Int) (kI K i).length (prsI (kI K i)) N 0 = _ from e]
        by_cases h3 : chkL n [] (kI K i) = 0
        · rw [if_neg (by simpa using h3), outE, if_pos h3]
          simp only [bnd']
          rw [wrapN (by omega)]; exact ih
        · rw [if_pos h3, outE, if_neg h3]; simp [bnd', outE, h3]
    · rw [brn_f (by simp; omega), List.drop_eq_nil_of_le (by omega)]; rfl
theorem rcheck_ok (N : Nat) (hN : 2000 ≤ N) (n : Int) (K : List (List (Int × Int))) (hK : K.length ≤ 1000) (hl : ∀ l ∈ K, l.length ≤ 1000) : m23 N (.agg [.int .i64 n, .lst false K.length (knsI K)]) = some (.int .i64 (chk n K)) := by
  rw [m23, getA2_t, getI_t, in_ok, bnd_t, getB_t]
  unfold chk
  by_cases h1 : n < 1
  · rw [brn_f (by simp; omega), if_pos h1]
  · rw [if_neg h1]
    by_cases h2 : n > 5
    · rw [brn_f (by simp; omega), if_pos h2]
    · rw [brn_t (by simp; omega), if_neg h2, getL_t]
      by_cases h3 : 5 < K.length
      · rw [brn_t (by simp; omega), if_pos h3]
      · have e := rchk_L0 N hN n (by omega) (by omega) K hK hl K.length 0 N (by omega) (by omega)
        rw [List.drop_zero] at e
        rw [brn_f (by simp; omega), if_neg h3, show m23_L0 N n K.length (knsI K) N 0 = _ from e]
        exact outE_end
theorem rlisted_e (N : Nat) (p q : PV) (e : Int) (he : e ≠ 0) (k : Nat) (c : List PV) (i : Int) (f : Nat) : m65_L0 N p k c (f + 1) e i q = some e := by
  rw [m65_L0]
  have h2 : (e == 0) = false := by simpa using he
  cases h : decide (i < ((k : Nat) : Int)) with
  | true => rw [brn_t rfl, h2, brn_f rfl]
  | false => rw [brn_f rfl]
def lastE (ks : List Int) (i : Nat) : Int := if i = 0 then -1 else en ks (i - 1)
theorem rlisted_L (N : Nat) (p : PV) (m : Nat) (hm : m ≤ 1000) (c : List PV) (ks : List Int) (hk : ks.length ≤ 1000) : ∀ (r i fuel : Nat), ks.length - i = r → r + 1 < fuel →
    m65_L0 N p ks.length (iL ks) fuel 0 (i : Int) (.lst false m c) = some (lsE m (lastE ks i) (ks.drop i))
  | r, i, 0, _, h => by omega
  | r, i, f + 1, hr, hf => by
    have hl := iL_len ks
    rw [m65_L0]
    by_cases h : i < ks.length
    · obtain ⟨g, rfl⟩ : ∃ g, f = g + 1 := ⟨f - 1, by omega⟩
      have ih := rlisted_L N p m hm c ks hk (r - 1) (i + 1) (g + 1) (by omega) (by omega)
      have w : IntKind.i64.wrap ((m : Int) - 1) = (m : Int) - 1 := wrap64 (by omega) (by omega)
      have e0 : lastE ks (i + 1) = en ks i := by simp [lastE]
      rw [brn_t (by simp; omega), brn_t (by rfl), toNatN, grd_t ⟨by omega, by omega⟩, grd_t (by simp only [List.length_drop]; omega), iL_gp h, getI_t, getL_t, w, in_ok, bnd_t, getB_t, drop_en h, lsE]
      by_cases h1 : 0 ≤ en ks i ∧ en ks i ≤ (m : Int) - 1
      · rw [brn_t (by simp [h1]), if_neg (by omega), if_neg (by omega)]
        by_cases hi : i = 0
        · subst hi
          rw [brn_f (by simp), wrapN (by omega), ih, e0, if_neg (by unfold lastE; simp; omega)]
        · have wi : IntKind.i64.wrap ((i : Int) - 1) = ((i - 1 : Nat) : Int) := by rw [wrap64 (by omega) (by omega)]; omega
          have el : lastE ks i = en ks (i - 1) := by simp [lastE, hi]
          rw [brn_t (by simp; omega), wi, toNatN, grd_t ⟨by omega, by omega⟩, grd_t (by simp only [List.length_drop]; omega), iL_gp (by omega), getI_t, el]
          by_cases h3 : en ks i ≤ en ks (i - 1)
          · rw [brn_t (decide_eq_true h3), if_pos h3, rlisted_e N p _ 7 (by decide)]
          · rw [brn_f (decide_eq_false h3), if_neg h3, wrapN (by omega), ih, e0]
      · rw [brn_f (by
          rw [Bool.and_eq_false_iff]
          by_cases a : 0 ≤ en ks i
          · right; simp; omega
          · left; simpa using a), rlisted_e N p _ 2 (by decide)]
        by_cases a : en ks i < 0
        · rw [if_pos a]
        · rw [if_neg a, if_pos (by omega)]
    · rw [brn_f (by simp; omega), List.drop_eq_nil_of_le (by omega)]; rfl
theorem rlisted_ok (N : Nat) (hN : 2000 ≤ N) (n : Int) (K : List (List (Int × Int))) (hK : K.length ≤ 1000) (hl : ∀ l ∈ K, l.length ≤ 1000) (ks : List Int) (hk : ks.length ≤ 1000) :
    m65 N (.agg [.int .i64 n, .lst false K.length (knsI K)]) (.lst false ks.length (iL ks)) = some (.int .i64 (lstE n K ks)) := by
  obtain ⟨g, rfl⟩ : ∃ g, N = g + 1 := ⟨N - 1, by omega⟩
  rw [m65, getA2_t, getL_t, rcheck_ok (g + 1) hN n K hK hl, bnd_t, getI_t]
  unfold lstE
  by_cases h : chk n K = 0
  · have e := rlisted_L (g + 1) (.int .i64 n) K.length hK (knsI K) ks hk ks.length 0 (g + 1) (by omega) (by omega)
    rw [List.drop_zero] at e
    rw [h, show m65_L0 (g + 1) (.int .i64 n) ks.length (iL ks) (g + 1) 0 0 (.lst false K.length (knsI K)) = _ from e, bnd_t, if_neg (by simp)]
    rfl
  · rw [rlisted_e (g + 1) _ _ _ h, bnd_t, if_pos h]
theorem rrank_L (N : Nat) (n : Nat) (K : List (List (Nat × Nat))) (hK : Fit n K) (p : PV) (ks : List Nat) (hk : ∀ k ∈ ks, k < K.length) (hl : ks.length ≤ 80) : ∀ (r i fuel : Nat), ks.length - i = r → i ≤ ks.length → r < fuel →
    m66_L0 N p ks.length (nL ks) fuel (pairsOf K (ks.take i)).length (i : Int) (.lst false K.length (knsI (cK K))) (prsI (cL (pairsOf K (ks.take i)))) = some ((pairsOf K ks).length, .lst false K.length (knsI (cK K)), prsI (cL (pairsOf K ks)))
  | r, i, 0, _, _, h => by omega
  | r, i, f + 1, hr, hi, hf => by
    have hnl := nL_len ks
    have hkl : (knsI (cK K)).length = K.length := by rw [knsI_len, cK_len]
    rw [m66_L0]
    by_cases h : i < ks.length
    · have ih := rrank_L N n K hK p ks hk hl (r - 1) (i + 1) f (by omega) (by omega) (by omega)
      have hx := hk _ (nn_mem h)
      have h6 := kN_len hK (k := nn ks i)
      have h7 := pairsOf_len hK (ks.take i)
      rw [List.length_take] at h7
      rw [brn_t (by simp; omega), getL_t, toNatN, grd_t ⟨by omega, by omega⟩, grd_t (by simp only [List.length_drop]; omega), nL_gp h, getI_t, toNatN, grd_t ⟨by omega, by omega⟩, grd_t (by simp only [List.length_drop]; omega), knsI_gp (by rw [cK_len]; exact hx), cK_kI hx, getL_t, cL_len, grd_t (by rw [prsI_len, cL_len]), grd_t (by omega), grd_t (by rw [prsI_len, cL_len]), wrapN (by omega), prsI_app, cL_app]
      have e : pairsOf K (ks.take i) ++ kN K (nn ks i) = pairsOf K (ks.take (i + 1)) := by
        rw [List.take_add_one]
        have : ks[i]? = some (nn ks i) := by simp [nn, List.getD, h]
        rw [this]
        simp [pairsOf]
      rw [e, show (pairsOf K (ks.take i)).length + (kN K (nn ks i)).length = (pairsOf K (ks.take (i + 1))).length by rw [← e, List.length_append]]
      exact ih
    · rw [brn_f (by simp; omega), List.take_of_length_le (by omega)]
theorem rrank_ok (N : Nat) (hN : 2000 ≤ N) (n : Nat) (K : List (List (Nat × Nat))) (hK : Fit n K) (ks : List Nat) (hk : ∀ k ∈ ks, k < K.length) (hl : ks.length ≤ 80) : m66 N (crw n K) (.lst false ks.length (nL ks)) = some (.int .i64 (rk (pairsOf K ks) : Int)) := by
  have h := rrank_L N n K hK (.int .i64 (n : Int)) ks hk hl ks.length 0 N (by omega) (by omega) (by omega)
  have hp := pairsOf_len hK ks
  have h5 := hK.n5
  have g := parts_ok N hN n h5 (pairsOf K ks) (pairsOf_lt hK) (by omega)
  have lt := rk_lt hK.n1 h5 (pairsOf_lt hK (ks := ks))
  unfold crw
  rw [m66, getA2_t, getL_t, show m66_L0 N (.int .i64 (n : Int)) ks.length (nL ks) N 0 0 (.lst false K.length (knsI (cK K))) [] = _ from h, bnd_t]
  simp only []
  rw [grd_t (by rw [prsI_len, cL_len]), getI_t, g, bnd_t, getI_t, wrap64 (by omega) (by omega)]
  congr 2; omega
end Go.Proofs.YtnponojgpkbagaaDoor

namespace Go.Proofs.YtnponojgpkbagaaDoor
open Go.V Go.Crew
set_option linter.unusedSectionVars false
set_option linter.unnecessarySimpa false

theorem chkL_zero {n : Int} : ∀ (r d : List (Int × Int)), chkL n d r = 0 → d.Nodup → (∀ p ∈ r, 0 ≤ p.1 ∧ p.1 < p.2 ∧ p.2 < n) ∧ (d ++ r).Nodup
  | [], d, _, hd => ⟨fun p hp => by simp at hp, by simpa using hd⟩
  | p :: r, d, h, hd => by
    rw [chkL] at h
    split at h
    · cases h
    · rename_i h1
      split at h
      · cases h
      · rename_i h2
        split at h
        · cases h
        · rename_i h3
          split at h
          · cases h
          · rename_i h4
            rw [minI_min] at h1
            rw [maxI_max] at h2
            have hm : p ∉ d := by simpa using h4
            obtain ⟨a, b⟩ := chkL_zero r (d ++ [p]) h (List.nodup_append.2 ⟨hd, by simp, fun x hx y hy => by simp only [List.mem_singleton] at hy; subst hy; exact fun e => hm (e ▸ hx)⟩)
            refine ⟨fun q hq => ?_, by simpa using b⟩
            rcases List.mem_cons.1 hq with rfl | hq
            · omega
            · exact a q hq
theorem chkK_zero {n : Int} : ∀ (K : List (List (Int × Int))), chkK n K = 0 → ∀ l ∈ K, l.length ≤ 6 ∧ (∀ p ∈ l, 0 ≤ p.1 ∧ p.1 < p.2 ∧ p.2 < n) ∧ l.Nodup
  | [], _, _, hl => by simp at hl
  | l :: K, h, x, hx => by
    rw [chkK] at h
    split at h
    · cases h
    · rename_i h1
      split at h
      · rename_i h2; exact absurd h h2
      · rename_i h2
        rcases List.mem_cons.1 hx with rfl | hx
        · have h2' : chkL n [] x = 0 := by simpa using h2
          obtain ⟨a, b⟩ := chkL_zero x [] h2' .nil
          exact ⟨by omega, a, by simpa using b⟩
        · exact chkK_zero K h x hx
def toP (p : Int × Int) : Nat × Nat := (p.1.toNat, p.2.toNat)
theorem toP_cI {p : Int × Int} (h : 0 ≤ p.1 ∧ 0 ≤ p.2) : cI (toP p) = p := by
  simp only [cI, toP]
  exact Prod.ext (by simp only []; omega) (by simp only []; omega)
theorem map_toP : ∀ {l : List (Int × Int)}, (∀ p ∈ l, 0 ≤ p.1 ∧ 0 ≤ p.2) → cL (l.map toP) = l
  | [], _ => rfl
  | p :: l, h => by
    show cI (toP p) :: cL (l.map toP) = p :: l
    rw [toP_cI (h p (.head _)), map_toP fun q hq => h q (.tail _ hq)]
theorem chk_zero {n : Int} {K : List (List (Int × Int))} (h : chk n K = 0) : ∃ (m : Nat) (K' : List (List (Nat × Nat))), n = (m : Int) ∧ K = cK K' ∧ Fit m K' := by
  unfold chk at h
  split at h
  · cases h
  · rename_i h1
    split at h
    · cases h
    · rename_i h2
      split at h
      · cases h
      · rename_i h3
        have hz := chkK_zero K h
        have e : cK (K.map fun l => l.map toP) = K := by
          unfold cK
          rw [List.map_map]
          have : ∀ K0 : List (List (Int × Int)), (∀ l ∈ K0, l ∈ K) → K0.map (cL ∘ fun l => l.map toP) = K0 := by
            intro K0
            induction K0 with
            | nil => intro _; rfl
            | cons l K0 ih =>
              intro hk
              rw [List.map_cons, ih fun x hx => hk x (.tail _ hx)]
              congr 1
              have := hz l (hk l (.head _))
              exact map_toP fun p hp => by have := this.2.1 p hp; omega
          exact this K fun l hl => hl
        refine ⟨n.toNat, K.map fun l => l.map toP, by omega, e.symm, by omega, by omega, by simp; omega, fun l hl => ?_, fun l hl p hp => ?_, fun l hl => ?_⟩
        · obtain ⟨l0, h0, rfl⟩ := List.mem_map.1 hl
          have := (hz l0 h0).1
          simpa using this
        · obtain ⟨l0, h0, rfl⟩ := List.mem_map.1 hl
          obtain ⟨p0, hp0, rfl⟩ := List.mem_map.1 hp
          have := (hz l0 h0).2.1 p0 hp0
          simp only [toP]; omega
        · obtain ⟨l0, h0, rfl⟩ := List.mem_map.1 hl
          obtain ⟨_, b, c⟩ := hz l0 h0
          refine List.Pairwise.map _ (fun p q (hpq : p ≠ q ∧ (0 ≤ p.1 ∧ 0 ≤ p.2) ∧ (0 ≤ q.1 ∧ 0 ≤ q.2)) e => ?_) (?_ : l0.Pairwise fun p q => p ≠ q ∧ (0 ≤ p.1 ∧ 0 ≤ p.2) ∧ (0 ≤ q.1 ∧ 0 ≤ q.2))
          · have e1 := congrArg cI e
            rw [toP_cI hpq.2.1, toP_cI hpq.2.2] at e1
            exact hpq.1 e1
          · refine List.Pairwise.imp_of_mem (fun {p q} hp hq hpq => ⟨hpq, ?_, ?_⟩) c
            · have := b p hp; omega
            · have := b q hq; omega
theorem lsE_zero {m : Nat} : ∀ (X : List Int) (last : Int), -1 ≤ last → lsE m last X = 0 → ∃ Y : List Nat, X = cS Y ∧ (∀ k ∈ Y, k < m ∧ last < (k : Int)) ∧ Y.Pairwise (· < ·)
  | [], _, _, _ => ⟨[], rfl, by simp, .nil⟩
  | k :: X, last, hl, h => by
    rw [lsE] at h
    split at h
    · cases h
    · rename_i h1
      split at h
      · cases h
      · rename_i h2
        split at h
        · cases h
        · rename_i h3
          obtain ⟨Y, rfl, y2, y3⟩ := lsE_zero X k (by omega) h
          refine ⟨k.toNat :: Y, ?_, fun q hq => ?_, List.pairwise_cons.2 ⟨fun q hq => by have := (y2 q hq).2; omega, y3⟩⟩
          · simp only [cS, List.map_cons]; congr 1; omega
          · rcases List.mem_cons.1 hq with rfl | hq
            · omega
            · have := y2 q hq; omega
/-- Rank: the chapter's and the reference's -/
theorem Rank_both (n : Int) (K : List (List (Int × Int))) (hK : K.length ≤ 1000) (hl : ∀ l ∈ K, l.length ≤ 1000) (ks : List Int) (hk : ks.length ≤ 80) :
    ∃ a e : Int, m17 2000 (.agg [.int .i64 n, .lst false K.length (knsI K)]) (.lst false ks.length (iL ks)) = some (.tup [.int .i64 a, .int .i64 e]) ∧ m18 2000 (.agg [.int .i64 n, .lst false K.length (knsI K)]) (.lst false ks.length (iL ks)) = some (.tup [.int .i64 a, .int .i64 e]) := by
  have e1 := listed_ok 2000 (by omega) n K hK hl ks (by omega)
  have e2 := rlisted_ok 2000 (by omega) n K hK hl ks (by omega)
  by_cases h : lstE n K ks = 0
  · have h0 := h
    unfold lstE at h
    by_cases hc : chk n K = 0
    · rw [if_neg (by simpa using hc)] at h
      obtain ⟨m, K', rfl, rfl, hF⟩ := chk_zero hc
      obtain ⟨Y, rfl, y2, y3⟩ := lsE_zero ks (-1) (by omega) h
      rw [cS_len] at hk
      have y2' : ∀ k ∈ Y, k < K'.length := fun k hk => by have := (y2 k hk).1; rw [cK_len] at this; exact this
      have r1 := rank_ok m K' hF Y y2' (by omega)
      have r2 := rrank_ok 2000 (by omega) m K' hF Y y2' (by omega)
      rw [h0, cS_len, ← nL_iL, cK_len] at e1 e2
      rw [cS_len, ← nL_iL, cK_len]
      unfold crw at r1 r2
      refine ⟨(rk (pairsOf K' Y) : Int), 0, ?_, ?_⟩
      · rw [m17, getA2_t, getL_t, e1, bnd_t, getI_t, brn_f (b := ((0 : Int) != 0)) rfl, r1, bnd_t, getI_t]
      · rw [m18, getA2_t, getL_t, e2, bnd_t, getI_t, brn_f (b := ((0 : Int) != 0)) rfl, r2, bnd_t, getI_t]
    · rw [if_pos hc] at h; exact absurd h hc
  · refine ⟨0, lstE n K ks, ?_, ?_⟩
    · rw [m17, getA2_t, getL_t, e1, bnd_t, getI_t, brn_t (by simpa using h)]
    · rw [m18, getA2_t, getL_t, e2, bnd_t, getI_t, brn_t (by simpa using h)]
end Go.Proofs.YtnponojgpkbagaaDoor

namespace Go.Proofs.YtnponojgpkbagaaDoor
open Go.V Go.Crew
set_option linter.unusedSectionVars false
set_option linter.unnecessarySimpa false

/-- the pairs that a choice names, from some kind on; none: an index is wrong -/
def chL : List (List (Int × Int)) → List Int → Option (List (Int × Int))
  | l :: K, x :: X => if 0 ≤ x ∧ x < (l.length : Int) then (chL K X).map (pI l x.toNat :: ·) else none
  | _, _ => some []
def chO (A : List (Int × Int)) : Option (List (Int × Int)) → PV ⊕ (Nat × List PV)
  | some B => .inr ((A ++ B).length, prsI (A ++ B))
  | none => .inl (.tup [.lst false 0 [], .int .i64 2])
theorem chosen_L (N : Nat) (p : PV) (K : List (List (Int × Int))) (X : List Int) (hX : X.length = K.length) (hK : K.length ≤ 1000) : ∀ (r i fuel : Nat) (A : List (Int × Int)), X.length - i = r → r < fuel → A.length ≤ i →
    m67_L0 N p X.length (iL X) K.length (knsI K) fuel A.length (i : Int) (prsI A) = some (chO A (chL (K.drop i) (X.drop i)))
  | r, i, 0, A, _, h, _ => by omega
  | r, i, f + 1, A, hr, hf, hA => by
    have hl := iL_len X
    have hk := knsI_len K
    rw [m67_L0]
    by_cases h : i < X.length
    · have h' : i < K.length := by omega
      rw [brn_t (by simp; omega), toNatN, grd_t ⟨by omega, by omega⟩, grd_t (by simp only [List.length_drop]; omega), iL_gp h, getI_t, drop_en h, drop_kI h', chL]
      by_cases h1 : en X i < 0
      · rw [brn_t (by simpa using h1), if_neg (by omega)]; rfl
      · rw [brn_f (by simpa using h1), grd_t (by omega), grd_t (by simp only [List.length_drop]; omega), knsI_gp h', getL_t]
        by_cases h2 : en X i < ((kI K i).length : Int)
        · have h3 : (en X i).toNat < (kI K i).length := by omega
          have ih := chosen_L N p K X hX hK (r - 1) (i + 1) f (A ++ [pI (kI K i) (en X i).toNat]) (by omega) (by omega) (by simp; omega)
          rw [brn_f (by simp; omega), if_pos ⟨by omega, h2⟩, grd_t ⟨by omega, h2⟩, grd_t (prsI_two' h3), prsI_two h3, getA2_t, grd_t (by omega), grd_t (prsI_len A), wrapN (by omega)]
          have e : prsI A ++ [PV.int .i64 (pI (kI K i) (en X i).toNat).1, PV.int .i64 (pI (kI K i) (en X i).toNat).2] = prsI (A ++ [pI (kI K i) (en X i).toNat]) := by simp [prsI, prI]
          rw [List.length_append] at ih
          rw [e]
          refine Eq.trans ih ?_
          cases chL (K.drop (i + 1)) (X.drop (i + 1)) <;> simp [chO]
        · rw [brn_t (by simp; omega), if_neg (by omega)]; rfl
    · rw [brn_f (by simp; omega), show X.drop i = [] from List.drop_eq_nil_of_le (by omega)]
      cases K.drop i <;> simp [chL, chO]
def chE (n : Int) (K : List (List (Int × Int))) (X : List Int) : Int := if chk n K ≠ 0 then chk n K else if X.length ≠ K.length then 5 else match chL K X with | some _ => 0 | none => 2
def chP (K : List (List (Int × Int))) (X : List Int) : List (Int × Int) := (chL K X).getD []
theorem chosen_ok (N : Nat) (hN : 2000 ≤ N) (n : Int) (K : List (List (Int × Int))) (hK : K.length ≤ 1000) (hl : ∀ l ∈ K, l.length ≤ 1000) (X : List Int) (hX : X.length ≤ 1000) :
    m67 N (.agg [.int .i64 n, .lst false K.length (knsI K)]) (.lst false X.length (iL X)) = some (.tup [if chE n K X = 0 then .lst false (chP K X).length (prsI (chP K X)) else .lst false 0 [], .int .i64 (chE n K X)]) := by
  rw [m67, getA2_t, getL_t, check_ok N hN n K hK hl, bnd_t, getI_t]
  by_cases h : chk n K = 0
  · rw [brn_f (by simpa using h), getL_t]
    by_cases h2 : X.length = K.length
    · have e := chosen_L N (.int .i64 n) K X h2 hK X.length 0 N [] (by omega) (by omega) (by simp)
      rw [List.drop_zero, List.drop_zero] at e
      have hE : chE n K X = match chL K X with | some _ => 0 | none => 2 := by
        unfold chE; rw [if_neg (by simpa using h), if_neg (by simpa using h2)]
      rw [brn_f (by simp; omega), hE, show m67_L0 N (.int .i64 n) X.length (iL X) K.length (knsI K) N 0 0 [] = _ from e, bnd_t]
      unfold chP
      cases chL K X with
      | some B =>
        simp only [chO, List.nil_append]
        rw [grd_t (prsI_len B)]; rfl
      | none => rfl
    · have hE : chE n K X = 5 := by unfold chE; rw [if_neg (by simpa using h), if_pos h2]
      rw [brn_t (by simp; omega), hE]; rfl
  · have hE : chE n K X = chk n K := by unfold chE; rw [if_pos h]
    rw [brn_t (by simpa using h), hE, if_neg h]
end Go.Proofs.YtnponojgpkbagaaDoor

namespace Go.Proofs.YtnponojgpkbagaaDoor
open Go.V Go.Crew
set_option linter.unusedSectionVars false
set_option linter.unnecessarySimpa false

theorem getT2_t {α : Type} {a b : PV} {f : PV → PV → Option α} : getT2 (.tup [a, b]) f = f a b := rfl
theorem rch_e0 (N : Nat) (p : PV) (a : Nat) (b : List PV) (c : Nat) (d : List PV) (e : Int) (he : e ≠ 0) (f n : Nat) (i : Int) (q : List PV) : m72_L0 N p a b c d (f + 1) e n i q = some (e, n, q) := by
  rw [m72_L0]
  have h2 : (e == 0) = false := by simpa using he
  cases h : decide (i < ((a : Nat) : Int)) with
  | true => rw [brn_t rfl, h2, brn_f rfl]
  | false => rw [brn_f rfl]
theorem rch_e1 (N : Nat) (p : PV) (a : Nat) (b : List PV) (c : Nat) (d : List PV) (e : Int) (he : e ≠ 0) (f n : Nat) (i : Int) (q : List PV) : m72_L1 N p a b c d (f + 1) e n i q = some (e, n, q) := by
  rw [m72_L1]
  have h2 : (e == 0) = false := by simpa using he
  cases h : decide (i < ((a : Nat) : Int)) with
  | true => rw [brn_t rfl, h2, brn_f rfl]
  | false => rw [brn_f rfl]
theorem rch_e2 (N : Nat) (p : PV) (a : Nat) (b : List PV) (e : Int) (he : e ≠ 0) (f n : Nat) (i : Int) (s : PV) (q : List PV) : m72_L2 N p a b (f + 1) e n i s q = some (e, n, q) := by
  rw [m72_L2]
  have h2 : (e == 0) = false := by simpa using he
  cases h : decide (i < ((a : Nat) : Int)) with
  | true => rw [brn_t rfl, h2, brn_f rfl]
  | false => rw [brn_f rfl]
theorem rchosen_L (N : Nat) (p : PV) (K : List (List (Int × Int))) (X : List Int) (hX : X.length = K.length) (hK : K.length ≤ 1000) (hl : ∀ l ∈ K, l.length ≤ 1000) : ∀ (r i fuel : Nat) (A : List (Int × Int)), X.length - i = r → r + 1 < fuel → A.length ≤ i →
    ∃ (e : Int) (B : List (Int × Int)), m72_L1 N p X.length (iL X) K.length (knsI K) fuel 0 A.length (i : Int) (prsI A) = some (e, B.length, prsI B) ∧ (∀ C, chL (K.drop i) (X.drop i) = some C → e = 0 ∧ B = A ++ C) ∧ (chL (K.drop i) (X.drop i) = none → e = 2)
  | r, i, 0, A, _, h, _ => by omega
  | r, i, f + 1, A, hr, hf, hA => by
    have hx := iL_len X
    have hk := knsI_len K
    rw [m72_L1]
    by_cases h : i < X.length
    · obtain ⟨g, rfl⟩ : ∃ g, f = g + 1 := ⟨f - 1, by omega⟩
      have h' : i < K.length := by omega
      have hl' := hl _ (kI_mem h')
      have w : IntKind.i64.wrap (((kI K i).length : Int) - 1) = ((kI K i).length : Int) - 1 := wrap64 (by omega) (by omega)
      rw [brn_t (by simp; omega), brn_t (by rfl), toNatN, grd_t ⟨by omega, by omega⟩, grd_t (by simp only [List.length_drop]; omega), iL_gp h, getI_t, grd_t (by omega), grd_t (by simp only [List.length_drop]; omega), knsI_gp h', getL_t, w, in_ok, bnd_t, getB_t, drop_en h, drop_kI h', chL]
      by_cases h1 : 0 ≤ en X i ∧ en X i < ((kI K i).length : Int)
      · have h3 : (en X i).toNat < (kI K i).length := by omega
        obtain ⟨e, B, e1, e2, e3⟩ := rchosen_L N p K X hX hK hl (r - 1) (i + 1) (g + 1) (A ++ [pI (kI K i) (en X i).toNat]) (by omega) (by omega) (by simp; omega)
        have ee : prsI A ++ [PV.int .i64 (pI (kI K i) (en X i).toNat).1, PV.int .i64 (pI (kI K i) (en X i).toNat).2] = prsI (A ++ [pI (kI K i) (en X i).toNat]) := by simp [prsI, prI]
        rw [List.length_append] at e1
        rw [brn_t (by simp; omega), if_pos h1, grd_t h1, grd_t (prsI_two' h3), prsI_two h3, getA2_t, grd_t (by omega), grd_t (prsI_len A), wrapN (by omega), ee]
        refine ⟨e, B, e1, fun C hC => ?_, fun hC => e3 (by simpa using hC)⟩
        rw [Option.map_eq_some_iff] at hC
        obtain ⟨C', hC', rfl⟩ := hC
        obtain ⟨q1, q2⟩ := e2 C' hC'
        exact ⟨q1, by simpa using q2⟩
      · rw [brn_f (by
          rw [Bool.and_eq_false_iff]
          by_cases a : 0 ≤ en X i
          · right; simp; omega
          · left; simpa using a), if_neg h1, rch_e1 N p _ _ _ _ 2 (by decide)]
        exact ⟨2, A, rfl, fun C hC => (by cases hC), fun _ => rfl⟩
    · rw [brn_f (by simp; omega), show X.drop i = [] from List.drop_eq_nil_of_le (by omega)]
      refine ⟨0, A, rfl, fun C hC => ?_, fun hC => ?_⟩
      · cases hd : K.drop i <;> rw [hd] at hC <;> simp [chL] at hC <;> subst hC <;> simp
      · cases hd : K.drop i <;> rw [hd] at hC <;> simp [chL] at hC
theorem rchosen_ok (N : Nat) (hN : 2000 ≤ N) (n : Int) (K : List (List (Int × Int))) (hK : K.length ≤ 1000) (hl : ∀ l ∈ K, l.length ≤ 1000) (X : List Int) (hX : X.length ≤ 1000) :
    ∃ B : List (Int × Int), m72 N (.agg [.int .i64 n, .lst false K.length (knsI K)]) (.lst false X.length (iL X)) = some (.tup [.lst false B.length (prsI B), .int .i64 (chE n K X)]) ∧ (chE n K X = 0 → B = chP K X) := by
  obtain ⟨g, rfl⟩ : ∃ g, N = g + 1 := ⟨N - 1, by omega⟩
  rw [m72, getA2_t, getL_t, rcheck_ok (g + 1) hN n K hK hl, bnd_t, getI_t]
  by_cases h : chk n K = 0
  · rw [h, brn_t (by rfl), getL_t]
    by_cases h2 : X.length = K.length
    · obtain ⟨e, B, e1, e2, e3⟩ := rchosen_L (g + 1) (.int .i64 n) K X h2 hK hl X.length 0 (g + 1) [] (by omega) (by omega) (by simp)
      rw [List.drop_zero, List.drop_zero] at e2 e3
      have hE : chE n K X = match chL K X with | some _ => 0 | none => 2 := by
        unfold chE; rw [if_neg (by simpa using h), if_neg (by simpa using h2)]
        all_goals (cases chL K X <;> rfl)
      rw [brn_f (by simp; omega), hE, show m72_L1 (g + 1) (.int .i64 n) X.length (iL X) K.length (knsI K) (g + 1) 0 0 0 [] = _ from e1, bnd_t]
      simp only []
      rw [grd_t (prsI_len B)]
      refine ⟨B, ?_, ?_⟩
      · cases hc : chL K X with
        | some C => rw [(e2 C hc).1]
        | none => rw [e3 hc]
      · unfold chP
        cases hc : chL K X with
        | some C => intro _; simpa using (e2 C hc).2
        | none => intro q; cases q
    · have hE : chE n K X = 5 := by unfold chE; rw [if_neg (by simpa using h), if_pos h2]
      rw [brn_t (by simp; omega), rch_e0 (g + 1) _ _ _ _ _ 5 (by decide), bnd_t, hE]
      exact ⟨[], rfl, fun q => by cases q⟩
  · have hE : chE n K X = chk n K := by unfold chE; rw [if_pos h]
    rw [brn_f (by simpa using h), rch_e2 (g + 1) _ _ _ _ h, bnd_t, hE]
    exact ⟨[], rfl, fun q => absurd q h⟩
end Go.Proofs.YtnponojgpkbagaaDoor

namespace Go.Proofs.YtnponojgpkbagaaDoor
open Go.V Go.Crew
set_option linter.unusedSectionVars false
set_option linter.unnecessarySimpa false

theorem chL_fit {m : Nat} : ∀ (K : List (List (Nat × Nat))) (X : List Int) (C : List (Int × Int)), (∀ l ∈ K, ∀ p ∈ l, p.1 < p.2 ∧ p.2 < m) → chL (cK K) X = some C → ∃ D : List (Nat × Nat), C = cL D ∧ (∀ p ∈ D, p.1 < m ∧ p.2 < m) ∧ D.length ≤ K.length
  | [], X, C, _, h => by
    have : chL (cK []) X = some [] := by cases X <;> rfl
    rw [this] at h; cases h
    exact ⟨[], rfl, by simp, by simp⟩
  | l :: K, [], C, _, h => by
    have : chL (cK (l :: K)) [] = some [] := rfl
    rw [this] at h; cases h
    exact ⟨[], rfl, by simp, by simp⟩
  | l :: K, x :: X, C, hK, h => by
    have h : (if 0 ≤ x ∧ x < ((cL l).length : Int) then (chL (cK K) X).map (pI (cL l) x.toNat :: ·) else none) = some C := h
    split at h
    · rename_i hx
      rw [Option.map_eq_some_iff] at h
      obtain ⟨C', hC', rfl⟩ := h
      obtain ⟨D, rfl, d2, d3⟩ := chL_fit K X C' (fun q hq => hK q (.tail _ hq)) hC'
      rw [cL_len] at hx
      have hi : x.toNat < l.length := by omega
      have hp := hK l (.head _) _ (pN_mem hi)
      refine ⟨pN l x.toNat :: D, ?_, fun p hp' => ?_, by simp; omega⟩
      · show _ = cI (pN l x.toNat) :: cL D
        rw [cL_pI hi]
      · rcases List.mem_cons.1 hp' with rfl | hp'
        · omega
        · exact d2 p hp'
    · cases h
/-- a choice whose pairs are there -/
theorem chE_zero {n : Int} {K : List (List (Int × Int))} {X : List Int} (h : chE n K X = 0) : ∃ (m : Nat) (D : List (Nat × Nat)), n = (m : Int) ∧ 1 ≤ m ∧ m ≤ 5 ∧ chP K X = cL D ∧ (∀ p ∈ D, p.1 < m ∧ p.2 < m) ∧ D.length ≤ 5 := by
  unfold chE at h
  by_cases hc : chk n K = 0
  · rw [if_neg (by simpa using hc)] at h
    obtain ⟨m, K', rfl, rfl, hF⟩ := chk_zero hc
    split at h
    · cases h
    · cases hch : chL (cK K') X with
      | none => rw [hch] at h; cases h
      | some C =>
        obtain ⟨D, rfl, d2, d3⟩ := chL_fit K' X C hF.lt hch
        exact ⟨m, D, rfl, hF.n1, hF.n5, by unfold chP; rw [hch]; rfl, d2, by have := hF.many; omega⟩
  · rw [if_pos hc] at h; exact absurd h hc
theorem ringless_ok (N : Nat) (hN : 2000 ≤ N) (m : Nat) (h1 : 1 ≤ m) (h5 : m ≤ 5) (D : List (Nat × Nat)) (hD : ∀ p ∈ D, p.1 < m ∧ p.2 < m) (hl : D.length ≤ 500) : m74 N (m : Int) (.lst false D.length (prsI (cL D))) = some (.bool (rk D == D.length)) := by
  have lt := rk_lt h1 h5 hD
  have le := rk_le D
  rw [m74, getL_t, parts_ok N hN m h5 D hD hl, bnd_t, getI_t, wrap64 (by omega) (by omega)]
  congr 2
  rw [Bool.eq_iff_iff]; simp; omega
theorem Valid_both (n : Int) (K : List (List (Int × Int))) (hK : K.length ≤ 1000) (hl : ∀ l ∈ K, l.length ≤ 1000) (X : List Int) (hX : X.length ≤ 1000) :
    ∃ e : Int, m24 2000 (.agg [.int .i64 n, .lst false K.length (knsI K)]) (.lst false X.length (iL X)) = some (.int .i64 e) ∧ m25 2000 (.agg [.int .i64 n, .lst false K.length (knsI K)]) (.lst false X.length (iL X)) = some (.int .i64 e) := by
  have c1 := chosen_ok 2000 (by omega) n K hK hl X hX
  obtain ⟨B, c2, c3⟩ := rchosen_ok 2000 (by omega) n K hK hl X hX
  by_cases h : chE n K X = 0
  · obtain ⟨m, D, rfl, m1, m5, hD, d2, d3⟩ := chE_zero h
    have hD5 : Ok D := fun p hp => ⟨by have := d2 p hp; omega, by have := d2 p hp; omega⟩
    rw [if_pos h, h, hD, cL_len] at c1
    rw [h, c3 h, hD, cL_len] at c2
    have le := rk_le D
    rw [m24, getA2_t, getL_t, c1, bnd_t, getT2_t, getL_t, getI_t, brn_f (b := ((0 : Int) != 0)) rfl, count_ok D hD5 (by omega), bnd_t, getI_t]
    rw [m25, getA2_t, getL_t, c2, bnd_t, getT2_t, getL_t, getI_t, brn_t (b := ((0 : Int) == 0)) rfl, getI_t, ringless_ok 2000 (by omega) m m1 m5 D d2 (by omega), bnd_t, getB_t]
    by_cases hr : rk D < D.length
    · refine ⟨13, ?_, ?_⟩
      · rw [brn_t (by simp; omega)]
      · rw [brn_f (by simp; omega)]
    · refine ⟨0, ?_, ?_⟩
      · rw [brn_f (by simp; omega)]
      · rw [brn_t (by simp; omega)]
  · rw [if_neg h] at c1
    refine ⟨chE n K X, ?_, ?_⟩
    · rw [m24, getA2_t, getL_t, c1, bnd_t, getT2_t, getL_t, getI_t, brn_t (by simpa using h)]
    · rw [m25, getA2_t, getL_t, c2, bnd_t, getT2_t, getL_t, getI_t, brn_f (by simpa using h)]
end Go.Proofs.YtnponojgpkbagaaDoor

namespace Go.Proofs.YtnponojgpkbagaaDoor
open Go.V Go.Crew
set_option linter.unusedSectionVars false
set_option linter.unnecessarySimpa false

theorem mems_ok : ∀ (s : Nat), s < 32 → m77 2000 (s : Int) = some (.lst false (memb s).length (nL (memb s)))
  | 0, _ => by kernel_rfl
  | 1, _ => by kernel_rfl
  | 2, _ => by kernel_rfl
  | 3, _ => by kernel_rfl
  | 4, _ => by kernel_rfl
  | 5, _ => by kernel_rfl
  | 6, _ => by kernel_rfl
  | 7, _ => by kernel_rfl
  | 8, _ => by kernel_rfl
  | 9, _ => by kernel_rfl
  | 10, _ => by kernel_rfl
  | 11, _ => by kernel_rfl
  | 12, _ => by kernel_rfl
  | 13, _ => by kernel_rfl
  | 14, _ => by kernel_rfl
  | 15, _ => by kernel_rfl
  | 16, _ => by kernel_rfl
  | 17, _ => by kernel_rfl
  | 18, _ => by kernel_rfl
  | 19, _ => by kernel_rfl
  | 20, _ => by kernel_rfl
  | 21, _ => by kernel_rfl
  | 22, _ => by kernel_rfl
  | 23, _ => by kernel_rfl
  | 24, _ => by kernel_rfl
  | 25, _ => by kernel_rfl
  | 26, _ => by kernel_rfl
  | 27, _ => by kernel_rfl
  | 28, _ => by kernel_rfl
  | 29, _ => by kernel_rfl
  | 30, _ => by kernel_rfl
  | 31, _ => by kernel_rfl
  | n + 32, h => by omega
def cmpI (x y : Int) : Int := if x < y then -1 else if x > y then 1 else 0
theorem cmp_ok (N : Nat) (x y : Int) : m91 N x y = some (.int .i64 (cmpI x y)) := by
  have h1 : (x != x) = false := by simp
  have h2 : (y != y) = false := by simp
  unfold cmpI
  rw [m91, m104, bnd_t, getB_t, m104, bnd_t, getB_t, h1, h2, brn_f rfl, brn_f rfl]
  by_cases a : x < y
  · rw [brn_t (decide_eq_true a), if_pos a]
  · rw [brn_f (decide_eq_false a), if_neg a]
    by_cases b : x > y
    · rw [brn_t (decide_eq_true b), if_pos b]
    · rw [brn_f (decide_eq_false b), if_neg b]
/-- how two lists compare -/
def cmpL : List Nat → List Nat → Int
  | [], [] => 0
  | [], _ :: _ => -1
  | _ :: _, [] => 1
  | a :: x, b :: y => if a < b then -1 else if b < a then 1 else cmpL x y
theorem cmpL_lex : ∀ x y, (cmpL x y < 0) ↔ lexL x y = true
  | [], [] => by simp [cmpL, lexL]
  | [], _ :: _ => by simp [cmpL, lexL]
  | _ :: _, [] => by simp [cmpL, lexL]
  | a :: x, b :: y => by
    have ih := cmpL_lex x y
    unfold cmpL lexL
    by_cases h1 : a < b
    · simp [h1]
    · rw [if_neg h1, if_neg h1]
      by_cases h2 : b < a
      · simp [h2]
      · rw [if_neg h2, if_neg h2]; exact ih
def cmO (n m : Nat) (e : Int) : PV ⊕ Unit → Option PV
  | .inl p => some p
  | .inr () => brn (decide ((n : Int) < (m : Int))) (some (.int .i64 (-1))) (some (.int .i64 0))
theorem compare_L (N : Nat) (x y : List Nat) (hx : x.length ≤ 1000) : ∀ (r i fuel : Nat), x.length - i = r → r < fuel → i ≤ x.length → i ≤ y.length →
    ∃ o, m47_L0 N x.length (nL x) y.length (nL y) fuel (i : Int) = some o ∧ cmO x.length y.length 0 o = some (.int .i64 (cmpL (x.drop i) (y.drop i)))
  | r, i, 0, _, h, _, _ => by omega
  | r, i, f + 1, hr, hf, hi, hy => by
    have lx := nL_len x
    have ly := nL_len y
    rw [m47_L0]
    by_cases h : i < x.length
    · rw [brn_t (by simp; omega), toNatN, grd_t ⟨by omega, by omega⟩, grd_t (by simp only [List.length_drop]; omega), nL_gp h, getI_t, drop_nn h]
      by_cases h2 : i < y.length
      · rw [brn_f (by simp; omega), grd_t (by omega), grd_t (by simp only [List.length_drop]; omega), nL_gp h2, getI_t, cmp_ok, bnd_t, getI_t, drop_nn h2, cmpL]
        unfold cmpI
        by_cases a : nn x i < nn y i
        · have a' : ((nn x i : Nat) : Int) < (nn y i : Int) := by omega
          rw [if_pos a', if_pos a, brn_t (by decide)]
          exact ⟨_, rfl, rfl⟩
        · have a' : ¬ ((nn x i : Nat) : Int) < (nn y i : Int) := by omega
          rw [if_neg a', if_neg a]
          by_cases b : nn y i < nn x i
          · have b' : ((nn x i : Nat) : Int) > (nn y i : Int) := by omega
            rw [if_pos b', if_pos b, brn_t (by decide)]
            exact ⟨_, rfl, rfl⟩
          · have b' : ¬ ((nn x i : Nat) : Int) > (nn y i : Int) := by omega
            rw [if_neg b', if_neg b, brn_f (by rfl), wrapN (by omega)]
            exact compare_L N x y hx (r - 1) (i + 1) f (by omega) (by omega) (by omega) (by omega)
      · rw [brn_t (by simp; omega), show y.drop i = [] from List.drop_eq_nil_of_le (by omega)]
        exact ⟨_, rfl, rfl⟩
    · rw [brn_f (by simp; omega), show x.drop i = [] from List.drop_eq_nil_of_le (by omega)]
      refine ⟨_, rfl, ?_⟩
      by_cases h2 : i < y.length
      · rw [drop_nn h2, cmO, brn_t (by simp; omega)]; rfl
      · rw [show y.drop i = [] from List.drop_eq_nil_of_le (by omega), cmO, brn_f (by simp; omega)]; rfl
theorem compare_ok (N : Nat) (hN : 2000 ≤ N) (x y : List Nat) (hx : x.length ≤ 1000) : m47 N (.lst false x.length (nL x)) (.lst false y.length (nL y)) = some (.int .i64 (cmpL x y)) := by
  obtain ⟨o, o1, o2⟩ := compare_L N x y hx x.length 0 N (by omega) (by omega) (by omega) (by omega)
  rw [List.drop_zero, List.drop_zero] at o2
  rw [m47, getL_t, getL_t, show m47_L0 N x.length (nL x) y.length (nL y) N 0 = some o from o1, bnd_t, ← o2]
  cases o with
  | inl p => rfl
  | inr u => rfl
end Go.Proofs.YtnponojgpkbagaaDoor

namespace Go.Proofs.YtnponojgpkbagaaDoor
open Go.V Go.Crew
set_option linter.unusedSectionVars false
set_option linter.unnecessarySimpa false

def fnd : Option (List Nat) → PV
  | none => .fn 999999 []
  | some l => .fn 1000025 [.lst false l.length (nL l)]
theorem getIf_n {α : Type} {f : Nat} {k1 : Option α} {k2 : PV → Option α} : getIf f (fnd none) k1 k2 = k1 := by simp [getIf, fnd]
theorem getIf_s {α : Type} {l : List Nat} {k1 : Option α} {k2 : PV → Option α} : getIf 1000025 (fnd (some l)) k1 k2 = k2 (.lst false l.length (nL l)) := by simp [getIf, fnd]
theorem memb_len (s : Nat) : (memb s).length ≤ 5 := by
  have := List.length_filter_le (fun k => s.testBit k) (List.range 5)
  simpa [memb] using this
theorem wrapU (s : Nat) (h : s ≤ 32) : IntKind.u64.wrap ((s : Int) + 1) = ((s + 1 : Nat) : Int) := by
  have : ((List.range 33).all fun s => IntKind.u64.wrap ((s : Int) + 1) == ((s + 1 : Nat) : Int)) = true := by kernel_rfl
  simpa using List.all_eq_true.1 this s (List.mem_range.2 (by omega))
theorem pow_U (n : Nat) (h : n ≤ 5) : IntKind.u64.wrap (1 * 2 ^ (min (Int.toNat (n : Int)) 64)) = ((2 ^ n : Nat) : Int) := by
  have : n = 0 ∨ n = 1 ∨ n = 2 ∨ n = 3 ∨ n = 4 ∨ n = 5 := by omega
  rcases this with rfl | rfl | rfl | rfl | rfl | rfl <;> rfl
theorem bs_f {is : List Nat → Bool} {lt : List Nat → List Nat → Bool} {acc : Option (List Nat)} {l : List Nat} (h : is l = false) : bstep is lt acc l = acc := by simp [bstep, h]
theorem bs_n {is : List Nat → Bool} {lt : List Nat → List Nat → Bool} {l : List Nat} (h : is l = true) : bstep is lt none l = some l := by simp [bstep, h]
theorem bs_t {is : List Nat → Bool} {lt : List Nat → List Nat → Bool} {o l : List Nat} (h : is l = true) (h2 : lt l o = true) : bstep is lt (some o) l = some l := by simp [bstep, h, h2]
theorem bs_k {is : List Nat → Bool} {lt : List Nat → List Nat → Bool} {o l : List Nat} (h : is l = true) (h2 : lt l o = false) : bstep is lt (some o) l = some o := by simp [bstep, h, h2]
section
variable (n : Nat) (hn : n ≤ 5) (p : PV) (is : List Nat → Bool) (his : ∀ s, s < 2 ^ n → m69 2000 (.lst false (memb s).length (nL (memb s))) p = some (.bool (is (memb s))))
include hn his
theorem best_L : ∀ (r s fuel : Nat) (acc : Option (List Nat)), 2 ^ n - s = r → r < fuel → (∀ l, acc = some l → l.length ≤ 5) →
    m68_L0 2000 (n : Int) false p fuel (fnd acc) (s : Int) = some (fnd (((List.range' s (2 ^ n - s)).map memb).foldl (bstep is ltS) acc))
  | r, s, 0, acc, _, h, _ => by omega
  | r, s, f + 1, acc, hr, hf, ha => by
    have hp : 2 ^ n ≤ 32 := Nat.pow_le_pow_right (n := 2) (by omega) hn
    have hm := memb_len s
    rw [m68_L0, pow_U n hn]
    by_cases h : s < 2 ^ n
    · have ih := fun acc => best_L (r - 1) (s + 1) f acc (by omega) (by omega)
      rw [brn_t (decide_eq_true (by omega)), mems_ok s (by omega), bnd_t, getL_t, his s h, bnd_t, getB_t, show 2 ^ n - s = (2 ^ n - (s + 1)) + 1 by omega, List.range'_succ, List.map_cons, List.foldl_cons, wrapU s (by omega)]
      have take : m68_L0 2000 (n : Int) false p f (.fn 1000025 [.lst false (memb s).length (nL (memb s))]) ((s + 1 : Nat) : Int) = some (fnd (((List.range' (s + 1) (2 ^ n - (s + 1))).map memb).foldl (bstep is ltS) (some (memb s)))) := ih (some (memb s)) (fun l hl => by cases hl; exact hm)
      cases hi : is (memb s) with
      | false => rw [brn_f rfl, bs_f hi]; exact ih acc ha
      | true =>
        rw [brn_t rfl]
        cases acc with
        | none => rw [getIf_n, bs_n hi]; exact take
        | some o =>
          have ho := ha o rfl
          have keep : m68_L0 2000 (n : Int) false p f (.fn 1000025 [.lst false o.length (nL o)]) ((s + 1 : Nat) : Int) = some (fnd (((List.range' (s + 1) (2 ^ n - (s + 1))).map memb).foldl (bstep is ltS) (some o))) := ih (some o) ha
          rw [getIf_s, getL_t]
          by_cases e : (memb s).length = o.length
          · have hlt : ltS (memb s) o = lexL (memb s) o := by unfold ltS; rw [if_pos e]
            rw [brn_t (by simp; omega), compare_ok 2000 (by omega) _ _ (by omega), bnd_t, getI_t]
            cases hx : lexL (memb s) o with
            | true =>
              have := (cmpL_lex (memb s) o).2 hx
              rw [brn_t (decide_eq_true this), bs_t hi (hlt.trans hx)]; exact take
            | false =>
              have : ¬ cmpL (memb s) o < 0 := fun q => by rw [(cmpL_lex _ _).1 q] at hx; cases hx
              rw [brn_f (decide_eq_false this), brn_f (by simp; omega), bs_k hi (hlt.trans hx)]; exact keep
          · have hlt : ltS (memb s) o = decide ((memb s).length < o.length) := by unfold ltS; rw [if_neg e]
            rw [brn_f (by simp; omega), brn_t (by simp; omega)]
            by_cases g : (memb s).length < o.length
            · rw [brn_t (by simp; omega), bs_t hi (by rw [hlt]; exact decide_eq_true g)]; exact take
            · rw [brn_f (by simp; omega), bs_k hi (by rw [hlt]; exact decide_eq_false g)]; exact keep
    · rw [brn_f (decide_eq_false (by omega)), show 2 ^ n - s = 0 by omega]; rfl
theorem best_ok : m68 2000 (n : Int) false p = some (match (upT n).find? is with | some l => .tup [.lst false l.length (nL l), .bool true] | none => .tup [.lst false 0 [], .bool false]) := by
  have hp : 2 ^ n ≤ 32 := Nat.pow_le_pow_right (n := 2) (by omega) hn
  have e := best_L n hn p is his (2 ^ n) 0 2000 none (Nat.sub_zero _) (Nat.lt_of_le_of_lt hp (by decide)) (fun l hl => by cases hl)
  have r := best_up is hn
  unfold allS at r
  rw [Nat.sub_zero, ← List.range_eq_range', r] at e
  rw [m68, grd_t (by omega), show m68_L0 2000 (n : Int) false p 2000 (.fn 999999 []) 0 = _ from e, bnd_t]
  cases (upT n).find? is with
  | none => rw [getIf_n]
  | some l => rw [getIf_s, getL_t]
end
end Go.Proofs.YtnponojgpkbagaaDoor

namespace Go.Proofs.YtnponojgpkbagaaDoor
open Go.V Go.Crew
set_option linter.unusedSectionVars false
set_option linter.unnecessarySimpa false

def rwN (l : List Nat) : PV := .lst false l.length (nL l)
/-- the pairs of some kinds -/
def sel (D : List (Nat × Nat)) (l : List Nat) : List (Nat × Nat) := l.map (pN D)
theorem sel_len (D : List (Nat × Nat)) (l : List Nat) : (sel D l).length = l.length := by simp [sel]
theorem sel_lt {D : List (Nat × Nat)} {m : Nat} (hD : ∀ p ∈ D, p.1 < m ∧ p.2 < m) {l : List Nat} (hl : ∀ k ∈ l, k < D.length) : ∀ p ∈ sel D l, p.1 < m ∧ p.2 < m := fun p hp => by
  obtain ⟨k, hk, rfl⟩ := List.mem_map.1 hp
  exact hD _ (pN_mem (hl k hk))
theorem sel_L (N : Nat) (D : List (Nat × Nat)) (l : List Nat) (hl : ∀ k ∈ l, k < D.length) (h5 : l.length ≤ 100) : ∀ (r i fuel : Nat), l.length - i = r → i ≤ l.length → r < fuel →
    m69_L0 N l.length (nL l) D.length (prsI (cL D)) fuel i (i : Int) (prsI (cL (sel D (l.take i)))) = some (l.length, prsI (cL (sel D l)))
  | r, i, 0, _, _, h => by omega
  | r, i, f + 1, hr, hi, hf => by
    have hnl := nL_len l
    rw [m69_L0]
    by_cases h : i < l.length
    · have ih := sel_L N D l hl h5 (r - 1) (i + 1) f (by omega) (by omega) (by omega)
      have hx := hl _ (nn_mem h)
      have hx' : nn l i < (cL D).length := by rw [cL_len]; exact hx
      have hlen : (prsI (cL (sel D (l.take i)))).length = i * 2 := by rw [prsI_len, cL_len, sel_len, List.length_take, Nat.min_eq_left (by omega)]
      rw [brn_t (decide_eq_true (by omega)), toNatN, grd_t ⟨by omega, by omega⟩, grd_t (by simp only [List.length_drop]; omega), nL_gp h, getI_t, toNatN, grd_t ⟨by omega, by omega⟩, grd_t (prsI_two' hx'), prsI_two hx', cL_pI hx, getA2_t, grd_t (by omega), grd_t hlen, wrapN (by omega)]
      have e : prsI (cL (sel D (l.take i))) ++ [PV.int .i64 (cI (pN D (nn l i))).1, PV.int .i64 (cI (pN D (nn l i))).2] = prsI (cL (sel D (l.take (i + 1)))) := by
        rw [List.take_add_one]
        have : l[i]? = some (nn l i) := by simp [nn, List.getD, h]
        rw [this]
        simp [sel, cL, prsI, prI]
      rw [e]; exact ih
    · rw [brn_f (decide_eq_false (by omega)), List.take_of_length_le (by omega), show i = l.length by omega]
def ring (D : List (Nat × Nat)) (l : List Nat) : Bool := decide (rk (sel D l) < l.length)
theorem ring1_ok (D : List (Nat × Nat)) (hD : Ok D) (l : List Nat) (hl : ∀ k ∈ l, k < D.length) (h5 : l.length ≤ 100) : m69 2000 (.lst false l.length (nL l)) (.lst false D.length (prsI (cL D))) = some (.bool (ring D l)) := by
  have e := sel_L 2000 D l hl h5 l.length 0 2000 (by omega) (by omega) (by omega)
  have hs : Ok (sel D l) := sel_lt (m := 5) hD hl
  have c := count_ok (sel D l) hs (by rw [sel_len]; omega)
  rw [sel_len] at c
  rw [m69, getL_t, getL_t, show m69_L0 2000 l.length (nL l) D.length (prsI (cL D)) 2000 0 0 [] = _ from e, bnd_t]
  simp only []
  rw [grd_t (by rw [prsI_len, cL_len, sel_len]), c, bnd_t, getI_t]
  unfold ring
  congr 2
  rw [Bool.eq_iff_iff]; simp
theorem lists_ok : ∀ (n m : Nat), n ≤ 5 → m ≤ n → m73 2000 2000 (n : Int) (m : Int) (.lst false 0 []) = some (.lst false (ls n m 0).length ((ls n m 0).map rwN))
  | 0, 0, _, _ => by kernel_rfl
  | 1, 0, _, _ => by kernel_rfl
  | 1, 1, _, _ => by kernel_rfl
  | 2, 0, _, _ => by kernel_rfl
  | 2, 1, _, _ => by kernel_rfl
  | 2, 2, _, _ => by kernel_rfl
  | 3, 0, _, _ => by kernel_rfl
  | 3, 1, _, _ => by kernel_rfl
  | 3, 2, _, _ => by kernel_rfl
  | 3, 3, _, _ => by kernel_rfl
  | 4, 0, _, _ => by kernel_rfl
  | 4, 1, _, _ => by kernel_rfl
  | 4, 2, _, _ => by kernel_rfl
  | 4, 3, _, _ => by kernel_rfl
  | 4, 4, _, _ => by kernel_rfl
  | 5, 0, _, _ => by kernel_rfl
  | 5, 1, _, _ => by kernel_rfl
  | 5, 2, _, _ => by kernel_rfl
  | 5, 3, _, _ => by kernel_rfl
  | 5, 4, _, _ => by kernel_rfl
  | 5, 5, _, _ => by kernel_rfl
  | n + 6, _, h, _ => by omega
  | 0, m + 1, _, h => by omega
  | 1, m + 2, _, h => by omega
  | 2, m + 3, _, h => by omega
  | 3, m + 4, _, h => by omega
  | 4, m + 5, _, h => by omega
  | 5, m + 6, _, h => by omega
end Go.Proofs.YtnponojgpkbagaaDoor

namespace Go.Proofs.YtnponojgpkbagaaDoor
open Go.V Go.Crew
set_option linter.unusedSectionVars false
set_option linter.unnecessarySimpa false

def roN (P : List (List Nat)) (k : Nat) : List Nat := P.getD k []
theorem gpN {P : List (List Nat)} {k : Nat} (h : k < P.length) : gp (P.map rwN) k = .lst false (roN P k).length (nL (roN P k)) := by
  simp [gp, roN, rwN, List.getD, h]
theorem roN_mem {P : List (List Nat)} {k : Nat} (h : k < P.length) : roN P k ∈ P := by
  simp [roN, List.getD, h]
theorem drop_roN {P : List (List Nat)} {k : Nat} (h : k < P.length) : P.drop k = roN P k :: P.drop (k + 1) := by
  rw [List.drop_eq_getElem_cons h]; simp [roN, List.getD, h]
section
variable (N : Nat) (hN : 2000 ≤ N) (m : Nat) (m1 : 1 ≤ m) (m5 : m ≤ 5) (D : List (Nat × Nat)) (hD : ∀ p ∈ D, p.1 < m ∧ p.2 < m) (T : List (List Nat)) (mn : Nat) (hT : ∀ l ∈ T, l.length = mn ∧ ∀ k ∈ l, k < D.length) (hmn : mn ≤ 100) (hTl : T.length ≤ 1000)
include hN m1 m5 hD hT hmn hTl
theorem rsel_L (p q : PV) (i : Nat) (hi : i < T.length) : ∀ (r k fuel : Nat), mn - k = r → k ≤ mn → r < fuel →
    m20_L2 N p D.length (prsI (cL D)) (mn : Int) T.length (T.map rwN) (i : Int) q fuel k (k : Int) (prsI (cL (sel D ((roN T i).take k)))) = some (mn, prsI (cL (sel D (roN T i))))
  | r, k, 0, _, _, h => by omega
  | r, k, f + 1, hr, hk, hf => by
    obtain ⟨t1, t2⟩ := hT _ (roN_mem hi)
    have hTm : (T.map rwN).length = T.length := by simp
    have hnl := nL_len (roN T i)
    rw [m20_L2]
    by_cases h : k < mn
    · have ih := rsel_L p q i hi (r - 1) (k + 1) f (by omega) (by omega) (by omega)
      have h' : k < (roN T i).length := by omega
      have hx := t2 _ (nn_mem h')
      have hx' : nn (roN T i) k < (cL D).length := by rw [cL_len]; exact hx
      have hlen : (prsI (cL (sel D ((roN T i).take k)))).length = k * 2 := by rw [prsI_len, cL_len, sel_len, List.length_take, Nat.min_eq_left (by omega)]
      rw [brn_t (decide_eq_true (by omega)), toNatN, toNatN, grd_t ⟨by omega, by omega⟩, grd_t (by simp only [List.length_drop]; omega), gpN hi, getL_t, grd_t ⟨by omega, by omega⟩, grd_t (by simp only [List.length_drop]; omega), nL_gp h', getI_t, toNatN, grd_t ⟨by omega, by omega⟩, grd_t (prsI_two' hx'), prsI_two hx', cL_pI hx, getA2_t, grd_t (by omega), grd_t hlen, wrapN (by omega)]
      have e : prsI (cL (sel D ((roN T i).take k))) ++ [PV.int .i64 (cI (pN D (nn (roN T i) k))).1, PV.int .i64 (cI (pN D (nn (roN T i) k))).2] = prsI (cL (sel D ((roN T i).take (k + 1)))) := by
        rw [List.take_add_one]
        have : (roN T i)[k]? = some (nn (roN T i) k) := by simp [nn, List.getD, h']
        rw [this]
        simp [sel, cL, prsI, prI]
      rw [e]; exact ih
    · rw [brn_f (decide_eq_false (by omega)), List.take_of_length_le (by omega), show k = mn by omega]
def rgO : Option (List Nat) → PV → PV ⊕ PV
  | some l, _ => .inl (.tup [rwN l, .int .i64 0])
  | none, q => .inr q
theorem rring_L1 (p : PV) : ∀ (r i fuel : Nat), T.length - i = r → r < fuel →
    m20_L1 N p D.length (prsI (cL D)) (mn : Int) T.length (T.map rwN) fuel (i : Int) (.int .i64 (m : Int)) = some (rgO ((T.drop i).find? (ring D)) (.int .i64 (m : Int)))
  | r, i, 0, _, h => by omega
  | r, i, f + 1, hr, hf => by
    have hTm : (T.map rwN).length = T.length := by simp
    rw [m20_L1]
    by_cases h : i < T.length
    · have ih := rring_L1 p (r - 1) (i + 1) f (by omega) (by omega)
      obtain ⟨t1, t2⟩ := hT _ (roN_mem h)
      have e := rsel_L N hN m m1 m5 D hD T mn hT hmn hTl p (.int .i64 (m : Int)) i h mn 0 N (by omega) (by omega) (by omega)
      have g := ringless_ok N hN m m1 m5 (sel D (roN T i)) (sel_lt hD t2) (by rw [sel_len]; omega)
      rw [sel_len, t1] at g
      have le := rk_le (sel D (roN T i))
      rw [sel_len, t1] at le
      rw [brn_t (decide_eq_true (by omega)), show m20_L2 N p D.length (prsI (cL D)) (mn : Int) T.length (T.map rwN) (i : Int) (.int .i64 (m : Int)) N 0 0 [] = _ from e, bnd_t]
      simp only []
      rw [grd_t (by rw [prsI_len, cL_len, sel_len, t1]), getI_t, g, bnd_t, getB_t, drop_roN h, List.find?_cons]
      by_cases q : rk (sel D (roN T i)) = mn
      · have hr : ring D (roN T i) = false := by unfold ring; rw [t1]; simp; omega
        rw [brn_t (by simpa using q), hr, wrapN (by omega)]; exact ih
      · have hr : ring D (roN T i) = true := by unfold ring; rw [t1]; simp; omega
        rw [brn_f (by simpa using q), hr, toNatN, grd_t ⟨by omega, by omega⟩, grd_t (by simp only [List.length_drop]; omega), gpN h, getL_t]
        rfl
    · rw [brn_f (decide_eq_false (by omega)), List.drop_eq_nil_of_le (by omega)]; rfl
end
end Go.Proofs.YtnponojgpkbagaaDoor

namespace Go.Proofs.YtnponojgpkbagaaDoor
open Go.V Go.Crew
set_option linter.unusedSectionVars false
set_option linter.unnecessarySimpa false

theorem ls_all : ((List.range 6).all fun n => (List.range (n + 1)).all fun m => (ls n m 0).all (fun l => l.length == m && l.all fun k => decide (k < n)) && decide ((ls n m 0).length ≤ 100)) = true := by decide +kernel
theorem ls_mem {n m : Nat} (hn : n ≤ 5) (hm : m ≤ n) : (∀ l ∈ ls n m 0, l.length = m ∧ ∀ k ∈ l, k < n) ∧ (ls n m 0).length ≤ 100 := by
  have h := List.all_eq_true.1 (List.all_eq_true.1 ls_all n (List.mem_range.2 (by omega))) m (List.mem_range.2 (by omega))
  simp only [Bool.and_eq_true, List.all_eq_true, beq_iff_eq, decide_eq_true_eq] at h
  exact ⟨fun l hl => h.1 l hl, h.2⟩
def rgU : Option (List Nat) → PV ⊕ Unit
  | some l => .inl (.tup [rwN l, .int .i64 0])
  | none => .inr ()
theorem rring_L0 (m : Nat) (m1 : 1 ≤ m) (m5 : m ≤ 5) (D : List (Nat × Nat)) (hD : ∀ p ∈ D, p.1 < m ∧ p.2 < m) (d5 : D.length ≤ 5) (p : PV) : ∀ (r k fuel : Nat), D.length + 1 - k = r → r < fuel →
    m20_L0 2000 p D.length (prsI (cL D)) fuel (k : Int) (.int .i64 (m : Int)) = some (rgU (((List.range' k (D.length + 1 - k)).flatMap fun j => ls D.length j 0).find? (ring D)))
  | r, k, 0, _, h => by omega
  | r, k, f + 1, hr, hf => by
    rw [m20_L0]
    by_cases h : k ≤ D.length
    · have ih := rring_L0 m m1 m5 D hD d5 p (r - 1) (k + 1) f (by omega) (by omega)
      obtain ⟨l1, l2⟩ := ls_mem d5 h
      have e := rring_L1 2000 (by omega) m m1 m5 D hD (ls D.length k 0) k l1 (by omega) (by omega) p (ls D.length k 0).length 0 2000 (by omega) (by omega)
      rw [List.drop_zero] at e
      rw [brn_t (decide_eq_true (by omega)), lists_ok D.length k d5 h, bnd_t, getL_t, show m20_L1 2000 p D.length (prsI (cL D)) (k : Int) (ls D.length k 0).length ((ls D.length k 0).map rwN) 2000 0 (.int .i64 (m : Int)) = _ from e, bnd_t, show D.length + 1 - k = (D.length + 1 - (k + 1)) + 1 by omega, List.range'_succ, List.flatMap_cons, List.find?_append]
      cases (ls D.length k 0).find? (ring D) with
      | some l => rfl
      | none =>
        simp only [rgO]
        rw [wrapN (by omega), ih]; rfl
    · rw [brn_f (decide_eq_false (by omega)), show D.length + 1 - k = 0 by omega]; rfl
theorem upT_tail (D : List (Nat × Nat)) (n : Nat) : (upT n).find? (ring D) = ((List.range' 1 n).flatMap fun j => ls n j 0).find? (ring D) := by
  have e : List.range (n + 1) = 0 :: List.range' 1 n := by rw [List.range_eq_range', List.range'_succ]
  unfold upT
  rw [e, List.flatMap_cons]
  have : ls n 0 0 = [[]] := rfl
  rw [this]
  have z : ring D [] = false := by simp [ring]
  simp [z]
theorem memb_lt_all : ((List.range 6).all fun m => (List.range (2 ^ m)).all fun s => (memb s).all fun k => decide (k < m)) = true := by decide +kernel
theorem memb_lt {s m : Nat} (hm : m ≤ 5) (hs : s < 2 ^ m) : ∀ k ∈ memb s, k < m := fun k hk => by
  have := List.all_eq_true.1 (List.all_eq_true.1 (List.all_eq_true.1 memb_lt_all m (List.mem_range.2 (by omega))) s (List.mem_range.2 hs)) k hk
  simpa using this
theorem Ring_both (n : Int) (K : List (List (Int × Int))) (hK : K.length ≤ 1000) (hl : ∀ l ∈ K, l.length ≤ 1000) (X : List Int) (hX : X.length ≤ 1000) :
    ∃ (l : List Nat) (e : Int), m19 2000 (.agg [.int .i64 n, .lst false K.length (knsI K)]) (.lst false X.length (iL X)) = some (.tup [rwN l, .int .i64 e]) ∧ m20 2000 (.agg [.int .i64 n, .lst false K.length (knsI K)]) (.lst false X.length (iL X)) = some (.tup [rwN l, .int .i64 e]) ∧ l.length ≤ 1000 := by
  have c1 := chosen_ok 2000 (by omega) n K hK hl X hX
  obtain ⟨B, c2, c3⟩ := rchosen_ok 2000 (by omega) n K hK hl X hX
  by_cases h : chE n K X = 0
  · obtain ⟨m, D, rfl, m1, m5, hD, d2, d3⟩ := chE_zero h
    have hD5 : Ok D := fun p hp => ⟨by have := d2 p hp; omega, by have := d2 p hp; omega⟩
    rw [if_pos h, h, hD, cL_len] at c1
    rw [h, c3 h, hD, cL_len] at c2
    have b := best_ok D.length d3 (.lst false D.length (prsI (cL D))) (ring D) (fun s hs => ring1_ok D hD5 (memb s) (memb_lt d3 hs) (by have := memb_len s; omega))
    have q := rring_L0 m m1 m5 D d2 d3 (.lst false K.length (knsI K)) D.length 1 2000 (by omega) (by omega)
    rw [show D.length + 1 - 1 = D.length by omega, ← upT_tail] at q
    rw [m19, getA2_t, getL_t, c1, bnd_t, getT2_t, getL_t, getI_t, brn_f (b := ((0 : Int) != 0)) rfl, b, bnd_t]
    rw [m20, getA2_t, getL_t, c2, bnd_t, getT2_t, getL_t, getI_t, brn_f (b := ((0 : Int) != 0)) rfl, show m20_L0 2000 (.lst false K.length (knsI K)) D.length (prsI (cL D)) 2000 1 (.int .i64 (m : Int)) = _ from q, bnd_t]
    cases hf : (upT D.length).find? (ring D) with
    | some l =>
      have hm := List.mem_of_find?_eq_some hf
      obtain ⟨j, hj, hl'⟩ := List.mem_flatMap.1 hm
      have hj' : j ≤ D.length := by have := List.mem_range.1 hj; omega
      have := ((ls_mem d3 hj').1 l hl').1
      exact ⟨l, 0, rfl, rfl, by omega⟩
    | none => exact ⟨[], 13, rfl, rfl, by simp⟩
  · rw [if_neg h] at c1
    refine ⟨[], chE n K X, ?_, ?_, by simp⟩
    · rw [m19, getA2_t, getL_t, c1, bnd_t, getT2_t, getL_t, getI_t, brn_t (by simpa using h)]; rfl
    · rw [m20, getA2_t, getL_t, c2, bnd_t, getT2_t, getL_t, getI_t, brn_t (by simpa using h)]; rfl
end Go.Proofs.YtnponojgpkbagaaDoor

namespace Go.Proofs.YtnponojgpkbagaaDoor
open Go.V Go.Crew
set_option linter.unusedSectionVars false
set_option linter.unnecessarySimpa false

def bigK (K : List (List (Int × Int))) : Bool := decide (20 < K.length) || K.any fun l => decide (20 < l.length)
theorem large_L (N : Nat) (p : PV) (K : List (List (Int × Int))) (hK : K.length ≤ 20) : ∀ (r i fuel : Nat), K.length - i = r → r < fuel →
    m15_L0 N p K.length (knsI K) fuel (i : Int) = some (if (K.drop i).any (fun l => decide (20 < l.length)) then .inl (.bool true) else .inr ())
  | r, i, 0, _, h => by omega
  | r, i, f + 1, hr, hf => by
    have hk := knsI_len K
    rw [m15_L0]
    by_cases h : i < K.length
    · have ih := large_L N p K hK (r - 1) (i + 1) f (by omega) (by omega)
      rw [brn_t (decide_eq_true (by omega)), toNatN, grd_t ⟨by omega, by omega⟩, grd_t (by simp only [List.length_drop]; omega), knsI_gp h, getL_t, drop_kI h, List.any_cons]
      by_cases q : 20 < (kI K i).length
      · rw [brn_t (decide_eq_true (by omega))]; simp [q]
      · rw [brn_f (decide_eq_false (by omega)), wrapN (by omega), ih]; simp [q]
    · rw [brn_f (decide_eq_false (by omega)), List.drop_eq_nil_of_le (by omega)]; rfl
theorem large_ok (N : Nat) (hN : 2000 ≤ N) (p : PV) (K : List (List (Int × Int))) : m15 N (.agg [p, .lst false K.length (knsI K)]) = some (.bool (bigK K)) := by
  rw [m15, getA2_t, getL_t]
  by_cases h : 20 < K.length
  · rw [brn_t (decide_eq_true (by omega))]; simp [bigK, h]
  · have e := large_L N p K (by omega) K.length 0 N (by omega) (by omega)
    rw [List.drop_zero] at e
    rw [brn_f (decide_eq_false (by omega)), show m15_L0 N p K.length (knsI K) N 0 = _ from e, bnd_t]
    simp only [bigK, h, decide_false, Bool.false_or]
    cases K.any fun l => decide (20 < l.length) <;> rfl
theorem big_f {K : List (List (Int × Int))} (h : bigK K = false) : K.length ≤ 20 ∧ ∀ l ∈ K, l.length ≤ 20 := by
  simp only [bigK, Bool.or_eq_false_iff, decide_eq_false_iff_not] at h
  refine ⟨by omega, fun l hl => ?_⟩
  have := List.any_eq_false.1 h.2 l hl
  simp at this; exact this
theorem same_L (N : Nat) (X : List Nat) (hX : X.length ≤ 1000) : ∀ (r i fuel : Nat), X.length - i = r → r < fuel → m21_L0 N X.length (nL X) X.length (nL X) fuel (i : Int) = some (.inr ())
  | r, i, 0, _, h => by omega
  | r, i, f + 1, hr, hf => by
    have hl := nL_len X
    rw [m21_L0]
    by_cases h : i < X.length
    · rw [brn_t (decide_eq_true (by omega)), toNatN, grd_t ⟨by omega, by omega⟩, grd_t (by simp only [List.length_drop]; omega), nL_gp h, getI_t, grd_t (by omega), grd_t (by simp only [List.length_drop]; omega), getI_t, brn_f (by simp), wrapN (by omega)]
      exact same_L N X hX (r - 1) (i + 1) f (by omega) (by omega)
    · rw [brn_f (decide_eq_false (by omega))]
theorem same_ok (X : List Nat) (hX : X.length ≤ 1000) : m21 2000 (.lst false X.length (nL X)) (.lst false X.length (nL X)) = some (.bool true) := by
  have := same_L 2000 X hX X.length 0 2000 (by omega) (by omega)
  rw [m21, getL_t, getL_t, brn_f (by simp), show m21_L0 2000 X.length (nL X) X.length (nL X) 2000 0 = _ from this, bnd_t]
theorem law3 (n : Int) (K : List (List (Int × Int))) (ks X : List Int) : m3 2000 (.agg [.int .i64 n, .lst false K.length (knsI K)]) (.lst false ks.length (iL ks)) (.lst false X.length (iL X)) = some (.bool true) := by
  have w : m16 2000 = some (.bool true) := rfl
  rw [m3, getA2_t, getL_t, getL_t, large_ok 2000 (by omega), bnd_t, getB_t]
  cases hb : bigK K with
  | true => rw [brn_t rfl, w, bnd_t, getB_t]
  | false =>
    obtain ⟨b1, b2⟩ := big_f hb
    have hK : K.length ≤ 1000 := by omega
    have hl : ∀ l ∈ K, l.length ≤ 1000 := fun l h => by have := b2 l h; omega
    rw [brn_f rfl]
    by_cases h1 : 20 < ks.length
    · rw [brn_t (decide_eq_true (by omega)), w, bnd_t, getB_t]
    · rw [brn_f (decide_eq_false (by omega))]
      by_cases h2 : 20 < X.length
      · rw [brn_t (decide_eq_true (by omega)), w, bnd_t, getB_t]
      · obtain ⟨a, e, r1, r2⟩ := Rank_both n K hK hl ks (by omega)
        obtain ⟨l, g, q1, q2, q3⟩ := Ring_both n K hK hl X (by omega)
        obtain ⟨v, v1, v2⟩ := Valid_both n K hK hl X (by omega)
        have c1 := check_ok 2000 (by omega) n K hK hl
        have c2 := rcheck_ok 2000 (by omega) n K hK hl
        unfold rwN at q1 q2
        rw [brn_f (decide_eq_false (by omega)), getI_t, r1, bnd_t, getT2_t, getI_t, getI_t, r2, bnd_t, getT2_t, getI_t, getI_t, q1, bnd_t, getT2_t, getL_t, getI_t, q2, bnd_t, getT2_t, getL_t, getI_t, brn_t (by simp), brn_t (by simp), same_ok l q3, bnd_t, getB_t, brn_t rfl, brn_t (by simp), c1, bnd_t, getI_t, c2, bnd_t, getI_t, brn_t (by simp), v1, bnd_t, getI_t, v2, bnd_t, getI_t, brn_t (by simp), w, bnd_t, getB_t]
end Go.Proofs.YtnponojgpkbagaaDoor

namespace Go.Proofs.YtnponojgpkbagaaDoor
open Go.V Go.Crew
set_option linter.unusedSectionVars false
set_option linter.unnecessarySimpa false

theorem int_of {x : List PV} (h : PT tab 3 x) : ∃ n : Int, x = [.int .i64 n] := by
  obtain ⟨a, e, _⟩ := h.int' tl3 rfl
  exact ⟨a, e⟩
theorem ints_of {x : PV} (h : PT tab 25 [x]) : ∃ X : List Int, PLe x (.lst false X.length (iL X)) := by
  rcases h.slice' tl25 rfl with h | ⟨xs, h, hx⟩
  · cases h; exact ⟨[], .nl false⟩
  · cases h
    obtain ⟨L, h1, h2, _⟩ := opened (fun p : Int => [PV.int .i64 p]) (fun x => PT tab 3 x) (fun _ => True) (fun x hx => by obtain ⟨n, e⟩ := int_of hx; exact ⟨n, e, trivial⟩) xs hx
    refine ⟨L, ?_⟩
    rw [h2, ← h1]
    have : L.flatMap (fun p : Int => [PV.int .i64 p]) = iL L := by
      clear h1 h2
      induction L with
      | nil => rfl
      | cons a L ih => simpa [iL] using ih
    rw [this]; exact .refl _
theorem pair_of {x : List PV} (h : PT tab 71 x) : ∃ p : Int × Int, x = prI p := by
  obtain ⟨xs, rfl, hl, hxs⟩ := h.arr' tl71 rfl
  match xs, hl with
  | [a, b], _ =>
    obtain ⟨u, rfl⟩ := int_of (hxs a (by simp))
    obtain ⟨v, rfl⟩ := int_of (hxs b (by simp))
    exact ⟨(u, v), rfl⟩
theorem kind_of {x : List PV} (h : PT tab 70 x) : ∃ (y : PV) (l : List (Int × Int)), x = [y] ∧ PLe y (knI l) := by
  rcases h.slice' tl70 rfl with h | ⟨xs, h, hx⟩
  · exact ⟨.nl, [], h, .nl false⟩
  · obtain ⟨L, h1, h2, _⟩ := opened prI (fun x => PT tab 71 x) (fun _ => True) (fun x hx => by obtain ⟨p, e⟩ := pair_of hx; exact ⟨p, e, trivial⟩) xs hx
    refine ⟨_, L, h, ?_⟩
    rw [h2, ← h1]
    exact .refl _
theorem kinds_of' : ∀ (xs : List (List PV)), (∀ x ∈ xs, PT tab 70 x) → ∃ K : List (List (Int × Int)), K.length = xs.length ∧ PLes xs.flatten (knsI K)
  | [], _ => ⟨[], rfl, .nil⟩
  | x :: xs, h => by
    obtain ⟨K, h1, h2⟩ := kinds_of' xs fun y hy => h y (.tail _ hy)
    obtain ⟨y, l, rfl, hr⟩ := kind_of (h x (.head _))
    exact ⟨l :: K, by simp [h1], .cons _ _ _ _ hr h2⟩
theorem crew_of {qs : List PV} (h : PT tab 24 qs) : ∃ (n : Int) (K : List (List (Int × Int))), PLes qs [.int .i64 n, .lst false K.length (knsI K)] := by
  obtain ⟨a, rs, rfl, ha, h⟩ := (h.structs tl24 rfl).cons'
  obtain ⟨b, rs, rfl, hb, h⟩ := h.cons'
  obtain rfl := h.nil'
  obtain ⟨n, rfl⟩ := int_of ha
  rcases hb.slice' tl22 rfl with h | ⟨xs, h, hx⟩
  · subst h; exact ⟨n, [], .cons _ _ _ _ (.refl _) (.cons _ _ _ _ (.nl false) .nil)⟩
  · subst h
    obtain ⟨K, h1, h2⟩ := kinds_of' xs hx
    refine ⟨n, K, .cons _ _ _ _ (.refl _) (.cons _ _ _ _ ?_ .nil)⟩
    rw [h1]
    exact .lst false false _ _ _ (fun h => h) h2
theorem con3 (x0 : List PV) (h0 : PT tab 24 x0) (x1 : PV) (h1 : PT tab 25 [x1]) (x2 : PV) (h2 : PT tab 25 [x2]) : FnP Tryd.prog 3 [.agg x0, x1, x2] (.bool true) := by
  obtain ⟨n, K, hK⟩ := crew_of h0
  obtain ⟨ks, hk⟩ := ints_of h1
  obtain ⟨X, hX⟩ := ints_of h2
  exact FnP_le (c3 2000 _ _ _ _ (law3 n K ks X)) (.cons _ _ _ _ (.agg _ _ hK) (.cons _ _ _ _ hk (.cons _ _ _ _ hX .nil))) (.refl _)
end Go.Proofs.YtnponojgpkbagaaDoor

namespace Go.Proofs.YtnponojgpkbagaaDoor.crewChecks
open Go.ChangeShapes Go.WideShapes Go.ChangeAt Go.RowKit Go.V

theorem own : ownKnob Tryd.prog.godebug = none := by kernel_rfl
theorem laid : laidOutB Tryd.prog = true := by kernel_rfl
set_option maxRecDepth 100000 in
theorem lifted (os : Os) (started : os.Started) (H : Type) (enc : TypeId × Value → H) :
    ReturnsInHanded {} Tryd.checked os 3 .any (fun w args => (Rows.crewChecksSpec.pre enc Tryd.prog Tryd.f3 [] false w args ∧ laidMetH Tryd.prog [("math/bits.deBruijn32tab", Rows.laid_math_bits_deBruijn32tab), ("math/bits.deBruijn64tab", Rows.laid_math_bits_deBruijn64tab)] w) ∧ sizedMet enc Tryd.prog Tryd.f3 (OpenSpec.ofChange Rows.crewChecksSpec) false w args)
      (Rows.crewChecksSpec.post enc Tryd.prog Tryd.f3 false true false false) := by
  refine returnsInHanded_of_change_and (C := Tryd.checked) (X := fun w _ => laidMetH Tryd.prog [("math/bits.deBruijn32tab", Rows.laid_math_bits_deBruijn32tab), ("math/bits.deBruijn64tab", Rows.laid_math_bits_deBruijn64tab)] w) (fun _ _ _ hh h => h.of_heap hh) own started (by kernel_rfl) Tryd.func3
    (ChangeSpec.witness_shaped (enc := enc) (C := Tryd.checked) (os := os) (X := fun w _ => laidMetH Tryd.prog [("math/bits.deBruijn32tab", Rows.laid_math_bits_deBruijn32tab), ("math/bits.deBruijn64tab", Rows.laid_math_bits_deBruijn64tab)] w) false (World.laidAll Tryd.prog os [("math/bits.deBruijn32tab", Rows.laid_math_bits_deBruijn32tab), ("math/bits.deBruijn64tab", Rows.laid_math_bits_deBruijn64tab)]) #[.agg #[.int .i64 0, .slice none 0 0], .slice none 0 0, .slice none 0 0] 8 (World.laidAll_os _ _ _)
      (World.shaped_of_ZipB (by kernel_rfl) (by kernel_rfl)) (by kernel_rfl) (by kernel_rfl) (by kernel_rfl)
      (by rw [MakeChecks.laidMetH_plain _ _ _ (by kernel_rfl)]; exact laidMet_laidAll _ (by kernel_rfl) (by kernel_rfl))) ?_
  intro W base args ds gs before hval0 hW _ _ hL _
  have hW' := hW
  obtain ⟨p, q, hA0, hV, rfl, hfz, hnd⟩ := hW
  have hA : DataW.TrodAll enc Tryd.prog W 0 (fun _ => true) true Tryd.f3.params.toList args.toList ds p := hA0
  rw [Tryd.params3] at hA
  obtain ⟨v0, vs0, d0, ds0, p0, q0, e0, rfl, rfl, h0, hr0⟩ := trodAll_cons hA
  obtain ⟨v1, vs1, d1, ds1, p1, q1, e1, rfl, rfl, h1, hr1⟩ := trodAll_cons hr0
  obtain ⟨v2, vs2, d2, ds2, p2, q2, e2, rfl, rfl, h2, hr2⟩ := trodAll_cons hr1
  obtain ⟨rfl, rfl, rfl⟩ := trodAll_nil hr2
  subst e2
  subst e1
  obtain rfl : args = #[v0, v1, v2] := by cases args; simp_all
  obtain ⟨x0, k0, t0⟩ := arg_agg (n := 8) tab_ok (hval0 0 24 v0 rfl rfl) h0 (by kernel_rfl) (by kernel_rfl)
  obtain ⟨x1, k1, t1⟩ := arg_one (n := 8) tab_ok (hval0 1 25 v1 rfl rfl) h1 (by kernel_rfl) (by kernel_rfl)
  obtain ⟨x2, k2, t2⟩ := arg_one (n := 8) tab_ok (hval0 2 25 v2 rfl rfl) h2 (by kernel_rfl) (by kernel_rfl)
  obtain ⟨rfl, rfl⟩ := trodVars_none hV
  clear hA0 hval0
  simp only [List.append_nil] at hW'
  refine (FnP.calls (W := W) (vals := #[v0, v1, v2]) (con3 x0 t0 x1 t1 x2 t2) (.cons _ _ _ _ k0 (.cons _ _ _ _ k1 (.cons _ _ _ _ k2 .nil))) (laidG hL)).mono fun e W' ⟨he, hg⟩ => ?_
  subst he
  exact ⟨_, rfl, post_of_kept (pv := []) hW' (fun _ _ _ => trodAll_cons_mk (shut_bool Tryd.underlying4 _) trodAll_mk0) (fun sp hsp => trodAll_cons_mk (Kept.trod hg laid (by kernel_rfl) (of_decide_eq_true (by kernel_rfl)) h0 (fun y hy => hsp y (by simp [hy]))) (trodAll_cons_mk (Kept.trod hg laid (by kernel_rfl) (of_decide_eq_true (by kernel_rfl)) h1 (fun y hy => hsp y (by simp [hy]))) (trodAll_cons_mk (Kept.trod hg laid (by kernel_rfl) (of_decide_eq_true (by kernel_rfl)) h2 (fun y hy => hsp y (by simp [hy]))) (trodAll_mk0)))) (fun _ _ => rfl) (by simp)
    hg (ok_one (by kernel_rfl) rfl (okWide_bool_mk Tryd.underlying4 _))⟩

theorem over : Rows.crewChecksRow.holds Tryd.pinned (OpenSpec.ofChange Rows.crewChecksSpec) :=
  OpenClaim.holds_of_wide 3 Tryd.f3 rfl rfl rfl rfl rfl rfl rfl ⟨rfl, rfl, rfl, rfl, rfl⟩ rfl rfl rfl rfl rfl (by kernel_rfl) Tryd.func3 (by kernel_rfl)
    (of_decide_eq_true (by kernel_rfl)) (by unfold Func.isWrapper; first | (rw [if_pos (by decide +kernel)]; kernel_rfl) | (rw [if_neg (by decide +kernel)]; exact ⟨rfl, rfl⟩))
    (fun os started H enc _ => lifted os started H enc)

theorem card : Rows.CrewChecksCardSaid :=
  Claim7.holds_tied_plain_at .later [] [.data, .data] true (true, "36f3adb999a13030bb38168af2e88bed1a560d200de820ff25b5e377fa9c04d7") true (over) (fun _ h => by cases h) (by kernel_rfl) (fun _ h => by cases h) crewChecks_row_tie rfl ⟨rfl, rfl⟩ (by kernel_rfl) rfl
    (fun f fn hf hfn => by
      obtain rfl : f = 3 := Option.some.inj ((show Tryd.prog.funcNamed "breeze/breezelaw10.CrewChecks" = some 3 by kernel_rfl).symm.trans hf) |>.symm
      obtain rfl : fn = Tryd.f3 := (Option.some.inj (Tryd.func3.symm.trans hfn)).symm
      exact ⟨by kernel_rfl, fun j t ht => by
        rw [Tryd.params3] at ht
        rcases j with _ | _ | _ | j
        · obtain rfl : t = 24 := by simpa using ht.symm
          exact (show Tryd.prog.wantsStandIn 24 = false by kernel_rfl)
        · obtain rfl : t = 25 := by simpa using ht.symm
          exact (show Tryd.prog.wantsStandIn 25 = false by kernel_rfl)
        · obtain rfl : t = 25 := by simpa using ht.symm
          exact (show Tryd.prog.wantsStandIn 25 = false by kernel_rfl)
        · simp at ht⟩)
    (by kernel_rfl)

end Go.Proofs.YtnponojgpkbagaaDoor.crewChecks
namespace Go.Proofs.YtnponojgpkbagaaDoor
/-- the statement -/
theorem crewChecks_holds : Rows.CrewChecksCardSaid := crewChecks.card
#print axioms crewChecks_holds
end Go.Proofs.YtnponojgpkbagaaDoor
