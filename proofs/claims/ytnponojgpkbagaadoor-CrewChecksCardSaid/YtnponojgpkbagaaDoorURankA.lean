/-
  Models and laws.
-/
import Derived.Test.YtnponojgpkbagaaDoorB
import Derived.Test.YtnponojgpkbagaaDoorV35
namespace Go.Proofs.YtnponojgpkbagaaDoor
open Go.V
set_option maxRecDepth 100000
set_option maxHeartbeats 4000000
set_option linter.unusedSimpArgs false
set_option linter.unusedVariables false
attribute [local go_sem] tl1 tl2 tl3 tl4 tl5 tl9 tl17 tl21 tl22 tl23 tl24 tl25 tl26 tl27 tl28 tl29 tl31 tl32 tl34 tl35 tl36 tl37 tl38 tl39 tl40 tl41 tl42 tl43 tl44 tl45 tl47 tl48 tl49 tl50 tl51 tl52 tl53 tl54 tl55 tl56 tl57 tl58 tl59 tl60 tl61 tl62 tl63 tl64 tl65 tl66 tl67 tl68 tl69 tl70 tl71 tl72 tl73 tl74 tl75 tl76 tl77 tl78 tl79 tl80 tl81 tl82 tl83 tl84 tl85 tl86 tl87 tl88 tl89 tl90 tl92 tl94 tl95 tl96 tl97 tl98 tl99 tl100 tl101 tl102 tl103 tl104 tl105 tl106 tl107 tl108 tl109 tl110 tl111 tl112 tl113 tl114 tl115 tl116 tl118 tl119 tl121 tl122 tl123 tl124 tl125 tl126 tl127 tl128 tl129 tl131 tl133 tl134 tl135 tl136 tl142 tl146
def getA5 {α : Type} (p : PV) (k : PV → PV → PV → PV → PV → Option α) : Option α := match p with | .agg [a0, a1, a2, a3, a4] => k a0 a1 a2 a3 a4 | _ => none
theorem getA5_some {α : Type} {p : PV} {k : PV → PV → PV → PV → PV → Option α} {r : α} (h : getA5 p k = some r) : ∃ a0 a1 a2 a3 a4, p = .agg [a0, a1, a2, a3, a4] ∧ k a0 a1 a2 a3 a4 = some r := by
  unfold getA5 at h; split at h
  · exact ⟨_, _, _, _, _, rfl, h⟩
  · cases h

def m93_L0 (N : Nat) (n66 : Nat) (c67 : List PV) : Nat → Int → PV → PV → Option ((PV ⊕ Unit))
  | 0, _, _, _ => none
  | n + 1, x88, p89, p90 =>
    brn (decide (x88 < ((n66 : Nat) : Int))) (
      grd (0 ≤ x88 ∧ x88 < ((n66 : Nat) : Int)) <|
      grd (2 ≤ List.length (List.drop ((Int.toNat x88) * 2) c67)) <|
      getA2 (.agg (List.take 2 (List.drop ((Int.toNat x88) * 2) c67))) fun p96 p97 =>
      getI .i64 p90 fun x99 =>
      getI .i64 p97 fun x101 =>
      getI .i64 p89 fun x103 =>
      getI .i64 p96 fun x105 =>
      brn ((x103 == x105) && (x99 == x101)) (
        some (.inl (.int .i64 x88))) (
        m93_L0 N n66 c67 n (IntKind.i64.wrap (x88 + 1)) (.int .i64 x103) (.int .i64 x99))) (
      some (.inr ()))
def m93 (N : Nat) (p63 : PV) (p64 : PV) : Option (PV) :=
  getL p63 fun n66 c67 =>
  getA2 p64 fun p69 p70 =>
  bnd' (m93_L0 N n66 c67 N 0 p69 p70) fun o =>
  match o with
  | .inl p107 =>
    some p107
  | .inr () =>
    some (.int .i64 (-1))
theorem c93 (N : Nat) (p63 : PV) (p64 : PV) (r : PV)  (h : m93 N p63 p64 = some r) : FnP Tryd.prog 93 [p63, p64] r := by
  unfold m93 at h
  refine Fn_of (sz := 19) tab_ok [0, 1, 3, 4, 5, 7, 8, 9, 16] [.tmp 4] Tryd.func93 rfl rfl rfl (by simp) ?_
  simp only [initSt, initEnv, List.map_cons, List.map_nil, List.getD_cons_zero, List.getD_cons_succ, List.getD_nil]
  have hh := getL_some h; clear h; obtain ⟨n66, c67, h65, h⟩ := hh
  have hh := getA2_some h; clear h; obtain ⟨p69, p70, h68, h⟩ := hh
  refine W_sound tab_ok mixed 12 _ _ _ ?_
  simp -implicitDefEqProofs only [go_sem, ne_eq, not_false_eq_true, Nat.reduceBEq, Nat.reduceAdd, Nat.reduceSub, Nat.reduceMul, Nat.reduceLT, Nat.reduceLeDiff, Int.reduceLE, Int.reduceLT, Int.reduceToNat, Int.reduceBEq, Int.reduceBNe, Int.le_refl, Nat.le_refl, decide_true, decide_false, Int.cast_ofNat_Int, ↓reduceIte, h65, h68]
  repeat with_reducible refine And.intro (by first | kernel_rfl | decide) ?_
  have hh := bnd'_some h; clear h; obtain ⟨o108, h109, h110⟩ := hh
  refine Wp_cut (fun s => (.inr ()) = o108 ∧ s = ⟨[], [(0, .dead), (1, .dead), (3, .dead), (4, .dead), (5, .dead), (7, .dead), (8, .dead), (9, .dead), (16, .dead)], [], 0, []⟩) ?_ ?_
  · refine Wp_block ?_
    refine Wp_loopG (fun n s => ∃ x88, ∃ p89, ∃ p90, m93_L0 N n66 c67 n x88 p89 p90 = some o108 ∧ s = ⟨[], [(0, .v (.lst false n66 c67)), (1, .dead), (3, .ptr 0 0), (4, .dead), (5, .dead), (7, .v (.int .i64 ((n66 : Nat) : Int))), (8, .v (.int .i64 x88)), (9, .dead), (16, .dead)], [(0, .p [p89, p90])], 1, []⟩) N _ ((Wk_le (.cons _ _ _ _ _ (.refl _) (.cons _ _ _ _ _ (.dead _) (.cons _ _ _ _ _ (.refl _) (.cons _ _ _ _ _ (.dead _) (.cons _ _ _ _ _ (.refl _) (.cons _ _ _ _ _ (.refl _) (.cons _ _ _ _ _ (.refl _) (.cons _ _ _ _ _ (.refl _) (.cons _ _ _ _ _ (.refl _) .nil))))))))) (OLe.refl _)).trans (cmpS_ok rfl)) ⟨_, _, _, h109, rfl⟩ ?_
    clear h109
    rintro n _ ⟨x88, p89, p90, h109, rfl⟩
    cases n with
    | zero => cases h109
    | succ n =>
      rw [m93_L0] at h109
      have hh := brn_some h109; clear h109; rcases hh with ⟨h91, h109⟩ | ⟨h91, h109⟩
      · have hh := grd_some h109; clear h109; obtain ⟨⟨g92, g93⟩, h109⟩ := hh
        have hh := grd_some h109; clear h109; obtain ⟨g94, h109⟩ := hh
        have hh := getA2_some h109; clear h109; obtain ⟨p96, p97, h95, h109⟩ := hh
        injection h95 with h95
        have hh := getI_some h109; clear h109; obtain ⟨x99, h98, h109⟩ := hh
        have hh := getI_some h109; clear h109; obtain ⟨x101, h100, h109⟩ := hh
        have hh := getI_some h109; clear h109; obtain ⟨x103, h102, h109⟩ := hh
        have hh := getI_some h109; clear h109; obtain ⟨x105, h104, h109⟩ := hh
        have hh := brn_some h109; clear h109; rcases hh with ⟨h106, h109⟩ | ⟨h106, h109⟩
        · refine W_sound tab_ok mixed 31 _ _ _ ?_
          simp -implicitDefEqProofs only [go_sem, ne_eq, not_false_eq_true, Nat.reduceBEq, Nat.reduceAdd, Nat.reduceSub, Nat.reduceMul, Nat.reduceLT, Nat.reduceLeDiff, Int.reduceLE, Int.reduceLT, Int.reduceToNat, Int.reduceBEq, Int.reduceBNe, Int.le_refl, Nat.le_refl, decide_true, decide_false, Int.cast_ofNat_Int, ↓reduceIte, h65, h68, h91, g92, g93, g94, h95, h98, h100, h102, h104, h106]
          repeat with_reducible refine And.intro (by first | kernel_rfl | decide) ?_
          obtain rfl := Option.some.inj h109
          (try dsimp only at h110)
          obtain rfl := Option.some.inj h110
          exact finC [(4, .v (.int .i64 x88))] [(4, .v (.int .i64 x88))] (by simp [leE, lk_cons]) (.cons _ _ _ _ _ (.v _ _ (.refl _)) .nil) (by rfl) (by simp [leE, lk_cons]) (by decide) (by decide) rfl (by simp only [go_sem, ne_eq, not_false_eq_true, Nat.reduceBEq, Nat.reduceAdd, Nat.reduceSub, Nat.reduceMul, Nat.reduceLT, Nat.reduceLeDiff, Int.reduceLE, Int.reduceLT, Int.reduceToNat, Int.reduceBEq, Int.reduceBNe, Int.le_refl, Nat.le_refl, decide_true, decide_false, Int.cast_ofNat_Int, ↓reduceIte, resQ_tmp, resQ_cell, resQ_nil, retD_one, retD_two, retD_three, retD_none]; try simp [R.val, retD_one, retD_two, retD_three, retD_none])
        · refine W_sound tab_ok mixed 30 _ _ _ ?_
          simp -implicitDefEqProofs only [go_sem, ne_eq, not_false_eq_true, Nat.reduceBEq, Nat.reduceAdd, Nat.reduceSub, Nat.reduceMul, Nat.reduceLT, Nat.reduceLeDiff, Int.reduceLE, Int.reduceLT, Int.reduceToNat, Int.reduceBEq, Int.reduceBNe, Int.le_refl, Nat.le_refl, decide_true, decide_false, Int.cast_ofNat_Int, ↓reduceIte, h65, h68, h91, g92, g93, g94, h95, h98, h100, h102, h104, h106]
          repeat with_reducible refine And.intro (by first | kernel_rfl | decide) ?_
          exact cutQ _ ((Wk_le (.cons _ _ _ _ _ (.refl _) (.cons _ _ _ _ _ (.refl _) (.cons _ _ _ _ _ (.refl _) (.cons _ _ _ _ _ (.refl _) (.cons _ _ _ _ _ (.dead _) (.cons _ _ _ _ _ (.refl _) (.cons _ _ _ _ _ (.refl _) (.cons _ _ _ _ _ (.dead _) (.cons _ _ _ _ _ (.dead _) .nil))))))))) (OLe.refl _)).trans (cmpS_ok rfl)) ⟨n, Nat.lt_succ_self n, _, _, _, h109, rfl⟩
      · refine W_sound tab_ok mixed 7 _ _ _ ?_
        simp -implicitDefEqProofs only [go_sem, ne_eq, not_false_eq_true, Nat.reduceBEq, Nat.reduceAdd, Nat.reduceSub, Nat.reduceMul, Nat.reduceLT, Nat.reduceLeDiff, Int.reduceLE, Int.reduceLT, Int.reduceToNat, Int.reduceBEq, Int.reduceBNe, Int.le_refl, Nat.le_refl, decide_true, decide_false, Int.cast_ofNat_Int, ↓reduceIte, h65, h68, h91]
        repeat with_reducible refine And.intro (by first | kernel_rfl | decide) ?_
        obtain rfl := Option.some.inj h109
        exact cutQ _ ((Wk_le (.cons _ _ _ _ _ (.dead _) (.cons _ _ _ _ _ (.refl _) (.cons _ _ _ _ _ (.dead _) (.cons _ _ _ _ _ (.refl _) (.cons _ _ _ _ _ (.refl _) (.cons _ _ _ _ _ (.dead _) (.cons _ _ _ _ _ (.dead _) (.cons _ _ _ _ _ (.dead _) (.cons _ _ _ _ _ (.refl _) .nil))))))))) (OLe.refl _)).trans (cmpS_ok rfl)) ⟨rfl, rfl⟩
  · rintro _ ⟨rfl, rfl⟩
    (try dsimp only at h110)
    refine W_sound tab_ok mixed 6 _ _ _ ?_
    simp -implicitDefEqProofs only [go_sem, ne_eq, not_false_eq_true, Nat.reduceBEq, Nat.reduceAdd, Nat.reduceSub, Nat.reduceMul, Nat.reduceLT, Nat.reduceLeDiff, Int.reduceLE, Int.reduceLT, Int.reduceToNat, Int.reduceBEq, Int.reduceBNe, Int.le_refl, Nat.le_refl, decide_true, decide_false, Int.cast_ofNat_Int, ↓reduceIte, h65, h68]
    repeat with_reducible refine And.intro (by first | kernel_rfl | decide) ?_
    obtain rfl := Option.some.inj h110
    exact finC [(4, .v (.int .i64 (-1)))] [(4, .v (.int .i64 (-1)))] (by simp [leE, lk_cons]) (.cons _ _ _ _ _ (.v _ _ (.refl _)) .nil) (by rfl) (by simp [leE, lk_cons]) (by decide) (by decide) rfl (by simp only [go_sem, ne_eq, not_false_eq_true, Nat.reduceBEq, Nat.reduceAdd, Nat.reduceSub, Nat.reduceMul, Nat.reduceLT, Nat.reduceLeDiff, Int.reduceLE, Int.reduceLT, Int.reduceToNat, Int.reduceBEq, Int.reduceBNe, Int.le_refl, Nat.le_refl, decide_true, decide_false, Int.cast_ofNat_Int, ↓reduceIte, resQ_tmp, resQ_cell, resQ_nil, retD_one, retD_two, retD_three, retD_none]; try simp [R.val, retD_one, retD_two, retD_three, retD_none])

def m51 (N : Nat) (p55 : PV) (p56 : PV) : Option (PV) :=
  getL p55 fun n58 c59 =>
  getA2 p56 fun p61 p62 =>
  bnd' (m93 N (.lst false n58 c59) (.agg [p61, p62])) fun p111 =>
  getI .i64 p111 fun x114 =>
  some (.bool (decide (x114 ≥ 0)))
theorem c51 (N : Nat) (p55 : PV) (p56 : PV) (r : PV)  (h : m51 N p55 p56 = some r) : FnP Tryd.prog 51 [p55, p56] r := by
  unfold m51 at h
  refine Fn_of (sz := 9) tab_ok [0, 1, 3, 4] [.tmp 4] Tryd.func51 rfl rfl rfl (by simp) ?_
  simp only [initSt, initEnv, List.map_cons, List.map_nil, List.getD_cons_zero, List.getD_cons_succ, List.getD_nil]
  have hh := getL_some h; clear h; obtain ⟨n58, c59, h57, h⟩ := hh
  have hh := getA2_some h; clear h; obtain ⟨p61, p62, h60, h⟩ := hh
  have hh := bnd'_some h; clear h; obtain ⟨p111, h112, h⟩ := hh
  refine W_sound tab_ok mixed 9 _ _ _ ?_
  simp -implicitDefEqProofs only [go_sem, ne_eq, not_false_eq_true, Nat.reduceBEq, Nat.reduceAdd, Nat.reduceSub, Nat.reduceMul, Nat.reduceLT, Nat.reduceLeDiff, Int.reduceLE, Int.reduceLT, Int.reduceToNat, Int.reduceBEq, Int.reduceBNe, Int.le_refl, Nat.le_refl, decide_true, decide_false, Int.cast_ofNat_Int, ↓reduceIte, h57, h60]
  repeat with_reducible refine And.intro (by first | kernel_rfl | decide) ?_
  refine Wp_callP (c93 N _ _ _ h112) (by kernel_rfl) rfl rfl rfl rfl (by decide) ?_
  have hh := getI_some h; clear h; obtain ⟨x114, h113, h⟩ := hh
  refine W_sound tab_ok mixed 5 _ _ _ ?_
  simp -implicitDefEqProofs only [go_sem, ne_eq, not_false_eq_true, Nat.reduceBEq, Nat.reduceAdd, Nat.reduceSub, Nat.reduceMul, Nat.reduceLT, Nat.reduceLeDiff, Int.reduceLE, Int.reduceLT, Int.reduceToNat, Int.reduceBEq, Int.reduceBNe, Int.le_refl, Nat.le_refl, decide_true, decide_false, Int.cast_ofNat_Int, ↓reduceIte, h57, h60, h113]
  repeat with_reducible refine And.intro (by first | kernel_rfl | decide) ?_
  obtain rfl := Option.some.inj h
  exact finC [(4, .v (.bool (decide (x114 ≥ 0))))] [(4, .v (.bool (decide (x114 ≥ 0))))] (by simp [leE, lk_cons]) (.cons _ _ _ _ _ (.v _ _ (.refl _)) .nil) (by rfl) (by simp [leE, lk_cons]) (by decide) (by decide) rfl (by simp only [go_sem, ne_eq, not_false_eq_true, Nat.reduceBEq, Nat.reduceAdd, Nat.reduceSub, Nat.reduceMul, Nat.reduceLT, Nat.reduceLeDiff, Int.reduceLE, Int.reduceLT, Int.reduceToNat, Int.reduceBEq, Int.reduceBNe, Int.le_refl, Nat.le_refl, decide_true, decide_false, Int.cast_ofNat_Int, ↓reduceIte, resQ_tmp, resQ_cell, resQ_nil, retD_one, retD_two, retD_three, retD_none]; try simp [R.val, retD_one, retD_two, retD_three, retD_none])

def m22_L1 (N : Nat) (x22 : Int) (n26 : Nat) (c27 : List PV) (x29 : Int) (n35 : Nat) (c36 : List PV) : Nat → Int → Option ((PV ⊕ Unit))
  | 0, _ => none
  | n + 1, x38 =>
    brn (decide (x38 < ((n35 : Nat) : Int))) (
      grd (0 ≤ x38 ∧ x38 < ((n35 : Nat) : Int)) <|
      grd (2 ≤ List.length (List.drop ((Int.toNat x38) * 2) c36)) <|
      getA2 (.agg (List.take 2 (List.drop ((Int.toNat x38) * 2) c36))) fun p44 p45 =>
      getI .i64 p44 fun x47 =>
      getI .i64 p45 fun x49 =>
      brn (decide ((minI x47 x49) < 0)) (
        some (.inl (.int .i64 2))) (
        brn (decide ((maxI x47 x49) ≥ x22)) (
          some (.inl (.int .i64 2))) (
          brn (decide (x47 ≥ x49)) (
            some (.inl (.int .i64 7))) (
            grd (x38 ≤ ((n35 : Nat) : Int)) <|
            grd (List.length c36 = (n35 * 2)) <|
            bnd' (m51 N (.lst false (Int.toNat x38) (List.take ((Int.toNat x38) * 2) c36)) (.agg [(.int .i64 x47), (.int .i64 x49)])) fun p115 =>
            getB p115 fun b118 =>
            brn b118 (
              some (.inl (.int .i64 6))) (
              m22_L1 N x22 n26 c27 x29 n35 c36 n (IntKind.i64.wrap (x38 + 1))))))) (
      some (.inr ()))
def m22_L0 (N : Nat) (x22 : Int) (n26 : Nat) (c27 : List PV) : Nat → Int → Option ((PV ⊕ Unit))
  | 0, _ => none
  | n + 1, x29 =>
    brn (decide (x29 < ((n26 : Nat) : Int))) (
      grd (0 ≤ x29 ∧ x29 < ((n26 : Nat) : Int)) <|
      grd (0 < List.length (List.drop (Int.toNat x29) c27)) <|
      getL (gp c27 (Int.toNat x29)) fun n35 c36 =>
      brn (decide (((n35 : Nat) : Int) > 6)) (
        some (.inl (.int .i64 3))) (
        bnd' (m22_L1 N x22 n26 c27 x29 n35 c36 N 0) fun o =>
        match o with
        | .inl p120 =>
          some (.inl p120)
        | .inr () =>
          m22_L0 N x22 n26 c27 n (IntKind.i64.wrap (x29 + 1)))) (
      some (.inr ()))
def m22 (N : Nat) (p17 : PV) : Option (PV) :=
  getA2 p17 fun p19 p20 =>
  getI .i64 p19 fun x22 =>
  brn (decide (x22 < 1)) (
    some (.int .i64 1)) (
    brn (decide (x22 > 5)) (
      some (.int .i64 1)) (
      getL p20 fun n26 c27 =>
      brn (decide (((n26 : Nat) : Int) > 5)) (
        some (.int .i64 3)) (
        bnd' (m22_L0 N x22 n26 c27 N 0) fun o =>
        match o with
        | .inl p121 =>
          some p121
        | .inr () =>
          some (.int .i64 0))))
theorem c22 (N : Nat) (p17 : PV) (r : PV)  (h : m22 N p17 = some r) : FnP Tryd.prog 22 [p17] r := by
  unfold m22 at h
  refine Fn_of (sz := 69) tab_ok [0, 1, 2, 4, 5, 6, 7, 16, 22, 23, 24, 25, 30, 31, 32, 33, 34, 38, 55, 61] [.tmp 2] Tryd.func22 rfl rfl rfl (by simp) ?_
  simp only [initSt, initEnv, List.map_cons, List.map_nil, List.getD_cons_zero, List.getD_cons_succ, List.getD_nil]
  have hh := getA2_some h; clear h; obtain ⟨p19, p20, h18, h⟩ := hh
  have hh := getI_some h; clear h; obtain ⟨x22, h21, h⟩ := hh
  have hh := brn_some h; clear h; rcases hh with ⟨h23, h⟩ | ⟨h23, h⟩
  · refine W_sound tab_ok mixed 26 _ _ _ ?_
    simp -implicitDefEqProofs only [go_sem, ne_eq, not_false_eq_true, Nat.reduceBEq, Nat.reduceAdd, Nat.reduceSub, Nat.reduceMul, Nat.reduceLT, Nat.reduceLeDiff, Int.reduceLE, Int.reduceLT, Int.reduceToNat, Int.reduceBEq, Int.reduceBNe, Int.le_refl, Nat.le_refl, decide_true, decide_false, Int.cast_ofNat_Int, ↓reduceIte, h18, h21, h23]
    repeat with_reducible refine And.intro (by first | kernel_rfl | decide) ?_
    obtain rfl := Option.some.inj h
    exact finC [(2, .v (.int .i64 1))] [(2, .v (.int .i64 1))] (by simp [leE, lk_cons]) (.cons _ _ _ _ _ (.v _ _ (.refl _)) .nil) (by rfl) (by simp [leE, lk_cons]) (by decide) (by decide) rfl (by simp only [go_sem, ne_eq, not_false_eq_true, Nat.reduceBEq, Nat.reduceAdd, Nat.reduceSub, Nat.reduceMul, Nat.reduceLT, Nat.reduceLeDiff, Int.reduceLE, Int.reduceLT, Int.reduceToNat, Int.reduceBEq, Int.reduceBNe, Int.le_refl, Nat.le_refl, decide_true, decide_false, Int.cast_ofNat_Int, ↓reduceIte, resQ_tmp, resQ_cell, resQ_nil, retD_one, retD_two, retD_three, retD_none]; try simp [R.val, retD_one, retD_two, retD_three, retD_none])
  · have hh := brn_some h; clear h; rcases hh with ⟨h24, h⟩ | ⟨h24, h⟩
    · refine W_sound tab_ok mixed 26 _ _ _ ?_
      simp -implicitDefEqProofs only [go_sem, ne_eq, not_false_eq_true, Nat.reduceBEq, Nat.reduceAdd, Nat.reduceSub, Nat.reduceMul, Nat.reduceLT, Nat.reduceLeDiff, Int.reduceLE, Int.reduceLT, Int.reduceToNat, Int.reduceBEq, Int.reduceBNe, Int.le_refl, Nat.le_refl, decide_true, decide_false, Int.cast_ofNat_Int, ↓reduceIte, h18, h21, h23, h24]
      repeat with_reducible refine And.intro (by first | kernel_rfl | decide) ?_
      obtain rfl := Option.some.inj h
      exact finC [(2, .v (.int .i64 1))] [(2, .v (.int .i64 1))] (by simp [leE, lk_cons]) (.cons _ _ _ _ _ (.v _ _ (.refl _)) .nil) (by rfl) (by simp [leE, lk_cons]) (by decide) (by decide) rfl (by simp only [go_sem, ne_eq, not_false_eq_true, Nat.reduceBEq, Nat.reduceAdd, Nat.reduceSub, Nat.reduceMul, Nat.reduceLT, Nat.reduceLeDiff, Int.reduceLE, Int.reduceLT, Int.reduceToNat, Int.reduceBEq, Int.reduceBNe, Int.le_refl, Nat.le_refl, decide_true, decide_false, Int.cast_ofNat_Int, ↓reduceIte, resQ_tmp, resQ_cell, resQ_nil, retD_one, retD_two, retD_three, retD_none]; try simp [R.val, retD_one, retD_two, retD_three, retD_none])
    · have hh := getL_some h; clear h; obtain ⟨n26, c27, h25, h⟩ := hh
      have hh := brn_some h; clear h; rcases hh with ⟨h28, h⟩ | ⟨h28, h⟩
      · refine W_sound tab_ok mixed 35 _ _ _ ?_
        simp -implicitDefEqProofs only [go_sem, ne_eq, not_false_eq_true, Nat.reduceBEq, Nat.reduceAdd, Nat.reduceSub, Nat.reduceMul, Nat.reduceLT, Nat.reduceLeDiff, Int.reduceLE, Int.reduceLT, Int.reduceToNat, Int.reduceBEq, Int.reduceBNe, Int.le_refl, Nat.le_refl, decide_true, decide_false, Int.cast_ofNat_Int, ↓reduceIte, h18, h21, h23, h24, h25, h28]
        repeat with_reducible refine And.intro (by first | kernel_rfl | decide) ?_
        obtain rfl := Option.some.inj h
        exact finC [(2, .v (.int .i64 3))] [(2, .v (.int .i64 3))] (by simp [leE, lk_cons]) (.cons _ _ _ _ _ (.v _ _ (.refl _)) .nil) (by rfl) (by simp [leE, lk_cons]) (by decide) (by decide) rfl (by simp only [go_sem, ne_eq, not_false_eq_true, Nat.reduceBEq, Nat.reduceAdd, Nat.reduceSub, Nat.reduceMul, Nat.reduceLT, Nat.reduceLeDiff, Int.reduceLE, Int.reduceLT, Int.reduceToNat, Int.reduceBEq, Int.reduceBNe, Int.le_refl, Nat.le_refl, decide_true, decide_false, Int.cast_ofNat_Int, ↓reduceIte, resQ_tmp, resQ_cell, resQ_nil, retD_one, retD_two, retD_three, retD_none]; try simp [R.val, retD_one, retD_two, retD_three, retD_none])
      · refine W_sound tab_ok mixed 39 _ _ _ ?_
        simp -implicitDefEqProofs only [go_sem, ne_eq, not_false_eq_true, Nat.reduceBEq, Nat.reduceAdd, Nat.reduceSub, Nat.reduceMul, Nat.reduceLT, Nat.reduceLeDiff, Int.reduceLE, Int.reduceLT, Int.reduceToNat, Int.reduceBEq, Int.reduceBNe, Int.le_refl, Nat.le_refl, decide_true, decide_false, Int.cast_ofNat_Int, ↓reduceIte, h18, h21, h23, h24, h25, h28]
        repeat with_reducible refine And.intro (by first | kernel_rfl | decide) ?_
        have hh := bnd'_some h; clear h; obtain ⟨o122, h123, h124⟩ := hh
        refine Wp_cut (fun s => (.inr ()) = o122 ∧ s = ⟨[], [(0, .dead), (1, .dead), (2, .dead), (4, .dead), (5, .dead), (6, .dead), (7, .dead), (16, .dead), (22, .dead), (23, .dead), (24, .dead), (25, .dead), (30, .dead), (31, .dead), (32, .dead), (33, .dead), (34, .dead), (38, .dead), (55, .dead), (61, .dead)], [], 0, []⟩) ?_ ?_
        · refine Wp_block ?_
          refine Wp_loopG (fun n s => ∃ x29, m22_L0 N x22 n26 c27 n x29 = some o122 ∧ s = ⟨[], [(0, .dead), (1, .ptr 0 0), (2, .dead), (4, .dead), (5, .dead), (6, .dead), (7, .dead), (16, .dead), (22, .v (.lst false n26 c27)), (23, .v (.int .i64 ((n26 : Nat) : Int))), (24, .v (.int .i64 x29)), (25, .dead), (30, .dead), (31, .dead), (32, .dead), (33, .dead), (34, .dead), (38, .dead), (55, .dead), (61, .dead)], [(0, .p [(.int .i64 x22), (.lst false n26 c27)])], 1, []⟩) N _ ((Wk_le (.cons _ _ _ _ _ (.dead _) (.cons _ _ _ _ _ (.refl _) (.cons _ _ _ _ _ (.dead _) (.cons _ _ _ _ _ (.refl _) (.cons _ _ _ _ _ (.refl _) (.cons _ _ _ _ _ (.refl _) (.cons _ _ _ _ _ (.dead _) (.cons _ _ _ _ _ (.dead _) (.cons _ _ _ _ _ (.refl _) (.cons _ _ _ _ _ (.refl _) (.cons _ _ _ _ _ (.refl _) (.cons _ _ _ _ _ (.refl _) (.cons _ _ _ _ _ (.refl _) (.cons _ _ _ _ _ (.refl _) (.cons _ _ _ _ _ (.refl _) (.cons _ _ _ _ _ (.refl _) (.cons _ _ _ _ _ (.refl _) (.cons _ _ _ _ _ (.refl _) (.cons _ _ _ _ _ (.refl _) (.cons _ _ _ _ _ (.refl _) .nil)))))))))))))))))))) (OLe.refl _)).trans (cmpS_ok (st' := ⟨[], [(0, .dead), (1, .ptr 0 0), (2, .dead), (4, .dead), (5, .dead), (6, .dead), (7, .dead), (16, .dead), (22, .v (.lst false n26 c27)), (23, .v (.int .i64 ((n26 : Nat) : Int))), (24, .v (.int .i64 0)), (25, .dead), (30, .dead), (31, .dead), (32, .dead), (33, .dead), (34, .dead), (38, .dead), (55, .dead), (61, .dead)], [(0, .p [(.int .i64 x22), (.lst false n26 c27)])], 1, []⟩) (by kernel_rfl))) ⟨_, h123, rfl⟩ ?_
          clear h123
          rintro n _ ⟨x29, h123, rfl⟩
          cases n with
          | zero => cases h123
          | succ n =>
            rw [m22_L0] at h123
            have hh := brn_some h123; clear h123; rcases hh with ⟨h30, h123⟩ | ⟨h30, h123⟩
            · have hh := grd_some h123; clear h123; obtain ⟨⟨g31, g32⟩, h123⟩ := hh
              have hh := grd_some h123; clear h123; obtain ⟨g33, h123⟩ := hh
              have hh := getL_some h123; clear h123; obtain ⟨n35, c36, h34, h123⟩ := hh
              have hh := brn_some h123; clear h123; rcases hh with ⟨h37, h123⟩ | ⟨h37, h123⟩
              · refine W_sound tab_ok mixed 29 _ _ _ ?_
                simp -implicitDefEqProofs only [go_sem, ne_eq, not_false_eq_true, Nat.reduceBEq, Nat.reduceAdd, Nat.reduceSub, Nat.reduceMul, Nat.reduceLT, Nat.reduceLeDiff, Int.reduceLE, Int.reduceLT, Int.reduceToNat, Int.reduceBEq, Int.reduceBNe, Int.le_refl, Nat.le_refl, decide_true, decide_false, Int.cast_ofNat_Int, ↓reduceIte, h18, h21, h23, h24, h25, h28, h30, g31, g32, g33, h34, h37]
                repeat with_reducible refine And.intro (by first | kernel_rfl | decide) ?_
                obtain rfl := Option.some.inj h123
                (try dsimp only at h124)
                obtain rfl := Option.some.inj h124
                exact finC [(2, .v (.int .i64 3))] [(2, .v (.int .i64 3))] (by simp [leE, lk_cons]) (.cons _ _ _ _ _ (.v _ _ (.refl _)) .nil) (by rfl) (by simp [leE, lk_cons]) (by decide) (by decide) rfl (by simp only [go_sem, ne_eq, not_false_eq_true, Nat.reduceBEq, Nat.reduceAdd, Nat.reduceSub, Nat.reduceMul, Nat.reduceLT, Nat.reduceLeDiff, Int.reduceLE, Int.reduceLT, Int.reduceToNat, Int.reduceBEq, Int.reduceBNe, Int.le_refl, Nat.le_refl, decide_true, decide_false, Int.cast_ofNat_Int, ↓reduceIte, resQ_tmp, resQ_cell, resQ_nil, retD_one, retD_two, retD_three, retD_none]; try simp [R.val, retD_one, retD_two, retD_three, retD_none])
              · refine W_sound tab_ok mixed 30 _ _ _ ?_
                simp -implicitDefEqProofs only [go_sem, ne_eq, not_false_eq_true, Nat.reduceBEq, Nat.reduceAdd, Nat.reduceSub, Nat.reduceMul, Nat.reduceLT, Nat.reduceLeDiff, Int.reduceLE, Int.reduceLT, Int.reduceToNat, Int.reduceBEq, Int.reduceBNe, Int.le_refl, Nat.le_refl, decide_true, decide_false, Int.cast_ofNat_Int, ↓reduceIte, h18, h21, h23, h24, h25, h28, h30, g31, g32, g33, h34, h37]
                repeat with_reducible refine And.intro (by first | kernel_rfl | decide) ?_
                have hh := bnd'_some h123; clear h123; obtain ⟨o125, h126, h127⟩ := hh
                refine Wp_cut (fun s => (.inr ()) = o125 ∧ s = ⟨[], [(0, .dead), (1, .ptr 0 0), (2, .dead), (4, .dead), (5, .dead), (6, .dead), (7, .dead), (16, .dead), (22, .v (.lst false n26 c27)), (23, .v (.int .i64 ((n26 : Nat) : Int))), (24, .v (.int .i64 x29)), (25, .dead), (30, .dead), (31, .dead), (32, .dead), (33, .dead), (34, .dead), (38, .dead), (55, .dead), (61, .dead)], [(0, .p [(.int .i64 x22), (.lst false n26 c27)])], 1, []⟩) ?_ ?_
                · refine Wp_block ?_
                  refine Wp_loopG (fun n s => ∃ x38, m22_L1 N x22 n26 c27 x29 n35 c36 n x38 = some o125 ∧ s = ⟨[], [(0, .dead), (1, .ptr 0 0), (2, .dead), (4, .v (.lst false n35 c36)), (5, .dead), (6, .dead), (7, .dead), (16, .dead), (22, .v (.lst false n26 c27)), (23, .v (.int .i64 ((n26 : Nat) : Int))), (24, .v (.int .i64 x29)), (25, .dead), (30, .dead), (31, .v (.lst false n35 c36)), (32, .v (.int .i64 ((n35 : Nat) : Int))), (33, .v (.int .i64 x38)), (34, .dead), (38, .dead), (55, .dead), (61, .dead)], [(0, .p [(.int .i64 x22), (.lst false n26 c27)])], 1, []⟩) N _ ((Wk_le (.cons _ _ _ _ _ (.refl _) (.cons _ _ _ _ _ (.refl _) (.cons _ _ _ _ _ (.refl _) (.cons _ _ _ _ _ (.refl _) (.cons _ _ _ _ _ (.refl _) (.cons _ _ _ _ _ (.refl _) (.cons _ _ _ _ _ (.refl _) (.cons _ _ _ _ _ (.refl _) (.cons _ _ _ _ _ (.refl _) (.cons _ _ _ _ _ (.refl _) (.cons _ _ _ _ _ (.refl _) (.cons _ _ _ _ _ (.dead _) (.cons _ _ _ _ _ (.dead _) (.cons _ _ _ _ _ (.refl _) (.cons _ _ _ _ _ (.refl _) (.cons _ _ _ _ _ (.refl _) (.cons _ _ _ _ _ (.refl _) (.cons _ _ _ _ _ (.refl _) (.cons _ _ _ _ _ (.refl _) (.cons _ _ _ _ _ (.refl _) .nil)))))))))))))))))))) (OLe.refl _)).trans (cmpS_ok (st' := ⟨[], [(0, .dead), (1, .ptr 0 0), (2, .dead), (4, .v (.lst false n35 c36)), (5, .dead), (6, .dead), (7, .dead), (16, .dead), (22, .v (.lst false n26 c27)), (23, .v (.int .i64 ((n26 : Nat) : Int))), (24, .v (.int .i64 x29)), (25, .dead), (30, .dead), (31, .v (.lst false n35 c36)), (32, .v (.int .i64 ((n35 : Nat) : Int))), (33, .v (.int .i64 0)), (34, .dead), (38, .dead), (55, .dead), (61, .dead)], [(0, .p [(.int .i64 x22), (.lst false n26 c27)])], 1, []⟩) (by kernel_rfl))) ⟨_, h126, rfl⟩ ?_
                  clear h126
                  rintro n _ ⟨x38, h126, rfl⟩
                  cases n with
                  | zero => cases h126
                  | succ n =>
                    rw [m22_L1] at h126
                    have hh := brn_some h126; clear h126; rcases hh with ⟨h39, h126⟩ | ⟨h39, h126⟩
                    · have hh := grd_some h126; clear h126; obtain ⟨⟨g40, g41⟩, h126⟩ := hh
                      have hh := grd_some h126; clear h126; obtain ⟨g42, h126⟩ := hh
                      have hh := getA2_some h126; clear h126; obtain ⟨p44, p45, h43, h126⟩ := hh
                      injection h43 with h43
                      have hh := getI_some h126; clear h126; obtain ⟨x47, h46, h126⟩ := hh
                      have hh := getI_some h126; clear h126; obtain ⟨x49, h48, h126⟩ := hh
                      have hh := brn_some h126; clear h126; rcases hh with ⟨h50, h126⟩ | ⟨h50, h126⟩
                      · refine W_sound tab_ok mixed 46 _ _ _ ?_
                        simp -implicitDefEqProofs only [go_sem, ne_eq, not_false_eq_true, Nat.reduceBEq, Nat.reduceAdd, Nat.reduceSub, Nat.reduceMul, Nat.reduceLT, Nat.reduceLeDiff, Int.reduceLE, Int.reduceLT, Int.reduceToNat, Int.reduceBEq, Int.reduceBNe, Int.le_refl, Nat.le_refl, decide_true, decide_false, Int.cast_ofNat_Int, ↓reduceIte, h18, h21, h23, h24, h25, h28, h30, g31, g32, g33, h34, h37, h39, g40, g41, g42, h43, h46, h48, h50]
                        repeat with_reducible refine And.intro (by first | kernel_rfl | decide) ?_
                        obtain rfl := Option.some.inj h126
                        (try dsimp only at h127)
                        obtain rfl := Option.some.inj h127
                        (try dsimp only at h124)
                        obtain rfl := Option.some.inj h124
                        exact finC [(2, .v (.int .i64 2))] [(2, .v (.int .i64 2))] (by simp [leE, lk_cons]) (.cons _ _ _ _ _ (.v _ _ (.refl _)) .nil) (by rfl) (by simp [leE, lk_cons]) (by decide) (by decide) rfl (by simp only [go_sem, ne_eq, not_false_eq_true, Nat.reduceBEq, Nat.reduceAdd, Nat.reduceSub, Nat.reduceMul, Nat.reduceLT, Nat.reduceLeDiff, Int.reduceLE, Int.reduceLT, Int.reduceToNat, Int.reduceBEq, Int.reduceBNe, Int.le_refl, Nat.le_refl, decide_true, decide_false, Int.cast_ofNat_Int, ↓reduceIte, resQ_tmp, resQ_cell, resQ_nil, retD_one, retD_two, retD_three, retD_none]; try simp [R.val, retD_one, retD_two, retD_three, retD_none])
                      · have hh := brn_some h126; clear h126; rcases hh with ⟨h51, h126⟩ | ⟨h51, h126⟩
                        · refine W_sound tab_ok mixed 46 _ _ _ ?_
                          simp -implicitDefEqProofs only [go_sem, ne_eq, not_false_eq_true, Nat.reduceBEq, Nat.reduceAdd, Nat.reduceSub, Nat.reduceMul, Nat.reduceLT, Nat.reduceLeDiff, Int.reduceLE, Int.reduceLT, Int.reduceToNat, Int.reduceBEq, Int.reduceBNe, Int.le_refl, Nat.le_refl, decide_true, decide_false, Int.cast_ofNat_Int, ↓reduceIte, h18, h21, h23, h24, h25, h28, h30, g31, g32, g33, h34, h37, h39, g40, g41, g42, h43, h46, h48, h50, h51]
                          repeat with_reducible refine And.intro (by first | kernel_rfl | decide) ?_
                          obtain rfl := Option.some.inj h126
                          (try dsimp only at h127)
                          obtain rfl := Option.some.inj h127
                          (try dsimp only at h124)
                          obtain rfl := Option.some.inj h124
                          exact finC [(2, .v (.int .i64 2))] [(2, .v (.int .i64 2))] (by simp [leE, lk_cons]) (.cons _ _ _ _ _ (.v _ _ (.refl _)) .nil) (by rfl) (by simp [leE, lk_cons]) (by decide) (by decide) rfl (by simp only [go_sem, ne_eq, not_false_eq_true, Nat.reduceBEq, Nat.reduceAdd, Nat.reduceSub, Nat.reduceMul, Nat.reduceLT, Nat.reduceLeDiff, Int.reduceLE, Int.reduceLT, Int.reduceToNat, Int.reduceBEq, Int.reduceBNe, Int.le_refl, Nat.le_refl, decide_true, decide_false, Int.cast_ofNat_Int, ↓reduceIte, resQ_tmp, resQ_cell, resQ_nil, retD_one, retD_two, retD_three, retD_none]; try simp [R.val, retD_one, retD_two, retD_three, retD_none])
                        · have hh := brn_some h126; clear h126; rcases hh with ⟨h52, h126⟩ | ⟨h52, h126⟩
                          · refine W_sound tab_ok mixed 56 _ _ _ ?_
                            simp -implicitDefEqProofs only [go_sem, ne_eq, not_false_eq_true, Nat.reduceBEq, Nat.reduceAdd, Nat.reduceSub, Nat.reduceMul, Nat.reduceLT, Nat.reduceLeDiff, Int.reduceLE, Int.reduceLT, Int.reduceToNat, Int.reduceBEq, Int.reduceBNe, Int.le_refl, Nat.le_refl, decide_true, decide_false, Int.cast_ofNat_Int, ↓reduceIte, h18, h21, h23, h24, h25, h28, h30, g31, g32, g33, h34, h37, h39, g40, g41, g42, h43, h46, h48, h50, h51, h52]
                            repeat with_reducible refine And.intro (by first | kernel_rfl | decide) ?_
                            obtain rfl := Option.some.inj h126
                            (try dsimp only at h127)
                            obtain rfl := Option.some.inj h127
                            (try dsimp only at h124)
                            obtain rfl := Option.some.inj h124
                            exact finC [(2, .v (.int .i64 7))] [(2, .v (.int .i64 7))] (by simp [leE, lk_cons]) (.cons _ _ _ _ _ (.v _ _ (.refl _)) .nil) (by rfl) (by simp [leE, lk_cons]) (by decide) (by decide) rfl (by simp only [go_sem, ne_eq, not_false_eq_true, Nat.reduceBEq, Nat.reduceAdd, Nat.reduceSub, Nat.reduceMul, Nat.reduceLT, Nat.reduceLeDiff, Int.reduceLE, Int.reduceLT, Int.reduceToNat, Int.reduceBEq, Int.reduceBNe, Int.le_refl, Nat.le_refl, decide_true, decide_false, Int.cast_ofNat_Int, ↓reduceIte, resQ_tmp, resQ_cell, resQ_nil, retD_one, retD_two, retD_three, retD_none]; try simp [R.val, retD_one, retD_two, retD_three, retD_none])
                          · have hh := grd_some h126; clear h126; obtain ⟨g53, h126⟩ := hh
                            have hh := grd_some h126; clear h126; obtain ⟨g54, h126⟩ := hh
                            have hh := bnd'_some h126; clear h126; obtain ⟨p115, h116, h126⟩ := hh
                            refine W_sound tab_ok mixed 56 _ _ _ ?_
                            simp -implicitDefEqProofs only [go_sem, ne_eq, not_false_eq_true, Nat.reduceBEq, Nat.reduceAdd, Nat.reduceSub, Nat.reduceMul, Nat.reduceLT, Nat.reduceLeDiff, Int.reduceLE, Int.reduceLT, Int.reduceToNat, Int.reduceBEq, Int.reduceBNe, Int.le_refl, Nat.le_refl, decide_true, decide_false, Int.cast_ofNat_Int, ↓reduceIte, h18, h21, h23, h24, h25, h28, h30, g31, g32, g33, h34, h37, h39, g40, g41, g42, h43, h46, h48, h50, h51, h52, g53, g54]
                            repeat with_reducible refine And.intro (by first | kernel_rfl | decide) ?_
                            refine Wp_callP (c51 N _ _ _ h116) (by kernel_rfl) rfl rfl rfl rfl (by decide) ?_
                            have hh := getB_some h126; clear h126; obtain ⟨b118, h117, h126⟩ := hh
                            have hh := brn_some h126; clear h126; rcases hh with ⟨h119, h126⟩ | ⟨h119, h126⟩
                            · refine W_sound tab_ok mixed 9 _ _ _ ?_
                              simp -implicitDefEqProofs only [go_sem, ne_eq, not_false_eq_true, Nat.reduceBEq, Nat.reduceAdd, Nat.reduceSub, Nat.reduceMul, Nat.reduceLT, Nat.reduceLeDiff, Int.reduceLE, Int.reduceLT, Int.reduceToNat, Int.reduceBEq, Int.reduceBNe, Int.le_refl, Nat.le_refl, decide_true, decide_false, Int.cast_ofNat_Int, ↓reduceIte, h18, h21, h23, h24, h25, h28, h30, g31, g32, g33, h34, h37, h39, g40, g41, g42, h43, h46, h48, h50, h51, h52, g53, g54, h117, h119]
                              repeat with_reducible refine And.intro (by first | kernel_rfl | decide) ?_
                              obtain rfl := Option.some.inj h126
                              (try dsimp only at h127)
                              obtain rfl := Option.some.inj h127
                              (try dsimp only at h124)
                              obtain rfl := Option.some.inj h124
                              exact finC [(2, .v (.int .i64 6))] [(2, .v (.int .i64 6))] (by simp [leE, lk_cons]) (.cons _ _ _ _ _ (.v _ _ (.refl _)) .nil) (by rfl) (by simp [leE, lk_cons]) (by decide) (by decide) rfl (by simp only [go_sem, ne_eq, not_false_eq_true, Nat.reduceBEq, Nat.reduceAdd, Nat.reduceSub, Nat.reduceMul, Nat.reduceLT, Nat.reduceLeDiff, Int.reduceLE, Int.reduceLT, Int.reduceToNat, Int.reduceBEq, Int.reduceBNe, Int.le_refl, Nat.le_refl, decide_true, decide_false, Int.cast_ofNat_Int, ↓reduceIte, resQ_tmp, resQ_cell, resQ_nil, retD_one, retD_two, retD_three, retD_none]; try simp [R.val, retD_one, retD_two, retD_three, retD_none])
                            · refine W_sound tab_ok mixed 10 _ _ _ ?_
                              simp -implicitDefEqProofs only [go_sem, ne_eq, not_false_eq_true, Nat.reduceBEq, Nat.reduceAdd, Nat.reduceSub, Nat.reduceMul, Nat.reduceLT, Nat.reduceLeDiff, Int.reduceLE, Int.reduceLT, Int.reduceToNat, Int.reduceBEq, Int.reduceBNe, Int.le_refl, Nat.le_refl, decide_true, decide_false, Int.cast_ofNat_Int, ↓reduceIte, h18, h21, h23, h24, h25, h28, h30, g31, g32, g33, h34, h37, h39, g40, g41, g42, h43, h46, h48, h50, h51, h52, g53, g54, h117, h119]
                              repeat with_reducible refine And.intro (by first | kernel_rfl | decide) ?_
                              exact cutQ _ ((Wk_le (.cons _ _ _ _ _ (.refl _) (.cons _ _ _ _ _ (.refl _) (.cons _ _ _ _ _ (.refl _) (.cons _ _ _ _ _ (.refl _) (.cons _ _ _ _ _ (.dead _) (.cons _ _ _ _ _ (.dead _) (.cons _ _ _ _ _ (.refl _) (.cons _ _ _ _ _ (.refl _) (.cons _ _ _ _ _ (.refl _) (.cons _ _ _ _ _ (.refl _) (.cons _ _ _ _ _ (.refl _) (.cons _ _ _ _ _ (.refl _) (.cons _ _ _ _ _ (.refl _) (.cons _ _ _ _ _ (.refl _) (.cons _ _ _ _ _ (.refl _) (.cons _ _ _ _ _ (.refl _) (.cons _ _ _ _ _ (.dead _) (.cons _ _ _ _ _ (.dead _) (.cons _ _ _ _ _ (.dead _) (.cons _ _ _ _ _ (.dead _) .nil)))))))))))))))))))) (OLe.refl _)).trans (cmpS_ok (st' := ⟨[], [(0, .dead), (1, .ptr 0 0), (2, .dead), (4, .v (.lst false n35 c36)), (5, .dead), (6, .dead), (7, .dead), (16, .dead), (22, .v (.lst false n26 c27)), (23, .v (.int .i64 ((n26 : Nat) : Int))), (24, .v (.int .i64 x29)), (25, .dead), (30, .dead), (31, .v (.lst false n35 c36)), (32, .v (.int .i64 ((n35 : Nat) : Int))), (33, .v (.int .i64 (IntKind.i64.wrap (x38 + 1)))), (34, .dead), (38, .dead), (55, .dead), (61, .dead)], [(0, .p [(.int .i64 x22), (.lst false n26 c27)])], 1, []⟩) (by kernel_rfl))) ⟨n, Nat.lt_succ_self n, _, h126, rfl⟩
                    · refine W_sound tab_ok mixed 7 _ _ _ ?_
                      simp -implicitDefEqProofs only [go_sem, ne_eq, not_false_eq_true, Nat.reduceBEq, Nat.reduceAdd, Nat.reduceSub, Nat.reduceMul, Nat.reduceLT, Nat.reduceLeDiff, Int.reduceLE, Int.reduceLT, Int.reduceToNat, Int.reduceBEq, Int.reduceBNe, Int.le_refl, Nat.le_refl, decide_true, decide_false, Int.cast_ofNat_Int, ↓reduceIte, h18, h21, h23, h24, h25, h28, h30, g31, g32, g33, h34, h37, h39]
                      repeat with_reducible refine And.intro (by first | kernel_rfl | decide) ?_
                      obtain rfl := Option.some.inj h126
                      exact cutQ _ ((Wk_le (.cons _ _ _ _ _ (.refl _) (.cons _ _ _ _ _ (.refl _) (.cons _ _ _ _ _ (.refl _) (.cons _ _ _ _ _ (.dead _) (.cons _ _ _ _ _ (.refl _) (.cons _ _ _ _ _ (.refl _) (.cons _ _ _ _ _ (.refl _) (.cons _ _ _ _ _ (.refl _) (.cons _ _ _ _ _ (.refl _) (.cons _ _ _ _ _ (.refl _) (.cons _ _ _ _ _ (.refl _) (.cons _ _ _ _ _ (.refl _) (.cons _ _ _ _ _ (.refl _) (.cons _ _ _ _ _ (.dead _) (.cons _ _ _ _ _ (.dead _) (.cons _ _ _ _ _ (.dead _) (.cons _ _ _ _ _ (.dead _) (.cons _ _ _ _ _ (.refl _) (.cons _ _ _ _ _ (.refl _) (.cons _ _ _ _ _ (.refl _) .nil)))))))))))))))))))) (OLe.refl _)).trans (cmpS_ok (st' := ⟨[], [(0, .dead), (1, .ptr 0 0), (2, .dead), (4, .dead), (5, .dead), (6, .dead), (7, .dead), (16, .dead), (22, .v (.lst false n26 c27)), (23, .v (.int .i64 ((n26 : Nat) : Int))), (24, .v (.int .i64 x29)), (25, .dead), (30, .dead), (31, .dead), (32, .dead), (33, .dead), (34, .dead), (38, .dead), (55, .dead), (61, .dead)], [(0, .p [(.int .i64 x22), (.lst false n26 c27)])], 1, []⟩) (by kernel_rfl))) ⟨rfl, rfl⟩
                · rintro _ ⟨rfl, rfl⟩
                  (try dsimp only at h127)
                  refine W_sound tab_ok mixed 5 _ _ _ ?_
                  simp -implicitDefEqProofs only [go_sem, ne_eq, not_false_eq_true, Nat.reduceBEq, Nat.reduceAdd, Nat.reduceSub, Nat.reduceMul, Nat.reduceLT, Nat.reduceLeDiff, Int.reduceLE, Int.reduceLT, Int.reduceToNat, Int.reduceBEq, Int.reduceBNe, Int.le_refl, Nat.le_refl, decide_true, decide_false, Int.cast_ofNat_Int, ↓reduceIte, h18, h21, h23, h24, h25, h28, h30, g31, g32, g33, h34, h37]
                  repeat with_reducible refine And.intro (by first | kernel_rfl | decide) ?_
                  exact cutQ _ ((Wk_le (.cons _ _ _ _ _ (.refl _) (.cons _ _ _ _ _ (.refl _) (.cons _ _ _ _ _ (.refl _) (.cons _ _ _ _ _ (.refl _) (.cons _ _ _ _ _ (.refl _) (.cons _ _ _ _ _ (.refl _) (.cons _ _ _ _ _ (.refl _) (.cons _ _ _ _ _ (.refl _) (.cons _ _ _ _ _ (.refl _) (.cons _ _ _ _ _ (.refl _) (.cons _ _ _ _ _ (.refl _) (.cons _ _ _ _ _ (.refl _) (.cons _ _ _ _ _ (.refl _) (.cons _ _ _ _ _ (.refl _) (.cons _ _ _ _ _ (.refl _) (.cons _ _ _ _ _ (.refl _) (.cons _ _ _ _ _ (.refl _) (.cons _ _ _ _ _ (.refl _) (.cons _ _ _ _ _ (.refl _) (.cons _ _ _ _ _ (.refl _) .nil)))))))))))))))))))) (OLe.refl _)).trans (cmpS_ok (st' := ⟨[], [(0, .dead), (1, .ptr 0 0), (2, .dead), (4, .dead), (5, .dead), (6, .dead), (7, .dead), (16, .dead), (22, .v (.lst false n26 c27)), (23, .v (.int .i64 ((n26 : Nat) : Int))), (24, .v (.int .i64 (IntKind.i64.wrap (x29 + 1)))), (25, .dead), (30, .dead), (31, .dead), (32, .dead), (33, .dead), (34, .dead), (38, .dead), (55, .dead), (61, .dead)], [(0, .p [(.int .i64 x22), (.lst false n26 c27)])], 1, []⟩) (by kernel_rfl))) ⟨n, Nat.lt_succ_self n, _, h127, rfl⟩
            · refine W_sound tab_ok mixed 7 _ _ _ ?_
              simp -implicitDefEqProofs only [go_sem, ne_eq, not_false_eq_true, Nat.reduceBEq, Nat.reduceAdd, Nat.reduceSub, Nat.reduceMul, Nat.reduceLT, Nat.reduceLeDiff, Int.reduceLE, Int.reduceLT, Int.reduceToNat, Int.reduceBEq, Int.reduceBNe, Int.le_refl, Nat.le_refl, decide_true, decide_false, Int.cast_ofNat_Int, ↓reduceIte, h18, h21, h23, h24, h25, h28, h30]
              repeat with_reducible refine And.intro (by first | kernel_rfl | decide) ?_
              obtain rfl := Option.some.inj h123
              exact cutQ _ ((Wk_le (.cons _ _ _ _ _ (.refl _) (.cons _ _ _ _ _ (.dead _) (.cons _ _ _ _ _ (.refl _) (.cons _ _ _ _ _ (.refl _) (.cons _ _ _ _ _ (.refl _) (.cons _ _ _ _ _ (.refl _) (.cons _ _ _ _ _ (.refl _) (.cons _ _ _ _ _ (.refl _) (.cons _ _ _ _ _ (.dead _) (.cons _ _ _ _ _ (.dead _) (.cons _ _ _ _ _ (.dead _) (.cons _ _ _ _ _ (.dead _) (.cons _ _ _ _ _ (.refl _) (.cons _ _ _ _ _ (.refl _) (.cons _ _ _ _ _ (.refl _) (.cons _ _ _ _ _ (.refl _) (.cons _ _ _ _ _ (.refl _) (.cons _ _ _ _ _ (.refl _) (.cons _ _ _ _ _ (.refl _) (.cons _ _ _ _ _ (.refl _) .nil)))))))))))))))))))) (OLe.refl _)).trans (cmpS_ok (st' := ⟨[], [(0, .dead), (1, .dead), (2, .dead), (4, .dead), (5, .dead), (6, .dead), (7, .dead), (16, .dead), (22, .dead), (23, .dead), (24, .dead), (25, .dead), (30, .dead), (31, .dead), (32, .dead), (33, .dead), (34, .dead), (38, .dead), (55, .dead), (61, .dead)], [], 0, []⟩) (by kernel_rfl))) ⟨rfl, rfl⟩
        · rintro _ ⟨rfl, rfl⟩
          (try dsimp only at h124)
          refine W_sound tab_ok mixed 6 _ _ _ ?_
          simp -implicitDefEqProofs only [go_sem, ne_eq, not_false_eq_true, Nat.reduceBEq, Nat.reduceAdd, Nat.reduceSub, Nat.reduceMul, Nat.reduceLT, Nat.reduceLeDiff, Int.reduceLE, Int.reduceLT, Int.reduceToNat, Int.reduceBEq, Int.reduceBNe, Int.le_refl, Nat.le_refl, decide_true, decide_false, Int.cast_ofNat_Int, ↓reduceIte, h18, h21, h23, h24, h25, h28]
          repeat with_reducible refine And.intro (by first | kernel_rfl | decide) ?_
          obtain rfl := Option.some.inj h124
          exact finC [(2, .v (.int .i64 0))] [(2, .v (.int .i64 0))] (by simp [leE, lk_cons]) (.cons _ _ _ _ _ (.v _ _ (.refl _)) .nil) (by rfl) (by simp [leE, lk_cons]) (by decide) (by decide) rfl (by simp only [go_sem, ne_eq, not_false_eq_true, Nat.reduceBEq, Nat.reduceAdd, Nat.reduceSub, Nat.reduceMul, Nat.reduceLT, Nat.reduceLeDiff, Int.reduceLE, Int.reduceLT, Int.reduceToNat, Int.reduceBEq, Int.reduceBNe, Int.le_refl, Nat.le_refl, decide_true, decide_false, Int.cast_ofNat_Int, ↓reduceIte, resQ_tmp, resQ_cell, resQ_nil, retD_one, retD_two, retD_three, retD_none]; try simp [R.val, retD_one, retD_two, retD_three, retD_none])

def m63_L0 (N : Nat) (p12 : PV) (n15 : Nat) (c16 : List PV) : Nat → Int → Int → PV → Option ((PV ⊕ Unit))
  | 0, _, _, _ => none
  | n + 1, x147, x148, p149 =>
    brn (decide (x148 < ((n15 : Nat) : Int))) (
      grd (0 ≤ x148 ∧ x148 < ((n15 : Nat) : Int)) <|
      grd (0 < List.length (List.drop (Int.toNat x148) c16)) <|
      getI .i64 (gp c16 (Int.toNat x148)) fun x155 =>
      brn (decide (x155 < 0)) (
        some (.inl (.int .i64 2))) (
        getL p149 fun n158 c159 =>
        brn (decide (x155 ≥ ((n158 : Nat) : Int))) (
          some (.inl (.int .i64 2))) (
          brn (decide (x155 ≤ x147)) (
            some (.inl (.int .i64 7))) (
            m63_L0 N p12 n15 c16 n x155 (IntKind.i64.wrap (x148 + 1)) (.lst false n158 c159))))) (
      some (.inr ()))
def m63 (N : Nat) (p9 : PV) (p10 : PV) : Option (PV) :=
  getA2 p9 fun p12 p13 =>
  getL p10 fun n15 c16 =>
  bnd' (m22 N (.agg [p12, p13])) fun p128 =>
  getI .i64 p128 fun x131 =>
  brn (x131 != 0) (
    some (.int .i64 x131)) (
    bnd' (m63_L0 N p12 n15 c16 N (-1) 0 p13) fun o =>
    match o with
    | .inl p162 =>
      some p162
    | .inr () =>
      some (.int .i64 0))
theorem c63 (N : Nat) (p9 : PV) (p10 : PV) (r : PV)  (h : m63 N p9 p10 = some r) : FnP Tryd.prog 63 [p9, p10] r := by
  unfold m63 at h
  refine Fn_of (sz := 36) tab_ok [0, 1, 2, 4, 5, 6, 8, 12, 14, 15, 16, 17, 20, 30] [.tmp 4] Tryd.func63 rfl rfl rfl (by simp) ?_
  simp only [initSt, initEnv, List.map_cons, List.map_nil, List.getD_cons_zero, List.getD_cons_succ, List.getD_nil]
  have hh := getA2_some h; clear h; obtain ⟨p12, p13, h11, h⟩ := hh
  have hh := getL_some h; clear h; obtain ⟨n15, c16, h14, h⟩ := hh
  have hh := bnd'_some h; clear h; obtain ⟨p128, h129, h⟩ := hh
  refine W_sound tab_ok mixed 9 _ _ _ ?_
  simp -implicitDefEqProofs only [go_sem, ne_eq, not_false_eq_true, Nat.reduceBEq, Nat.reduceAdd, Nat.reduceSub, Nat.reduceMul, Nat.reduceLT, Nat.reduceLeDiff, Int.reduceLE, Int.reduceLT, Int.reduceToNat, Int.reduceBEq, Int.reduceBNe, Int.le_refl, Nat.le_refl, decide_true, decide_false, Int.cast_ofNat_Int, ↓reduceIte, h11, h14]
  repeat with_reducible refine And.intro (by first | kernel_rfl | decide) ?_
  refine Wp_callP (c22 N _ _ h129) (by kernel_rfl) rfl rfl rfl rfl (by decide) ?_
  have hh := getI_some h; clear h; obtain ⟨x131, h130, h⟩ := hh
  have hh := brn_some h; clear h; rcases hh with ⟨h132, h⟩ | ⟨h132, h⟩
  · refine W_sound tab_ok mixed 15 _ _ _ ?_
    simp -implicitDefEqProofs only [go_sem, ne_eq, not_false_eq_true, Nat.reduceBEq, Nat.reduceAdd, Nat.reduceSub, Nat.reduceMul, Nat.reduceLT, Nat.reduceLeDiff, Int.reduceLE, Int.reduceLT, Int.reduceToNat, Int.reduceBEq, Int.reduceBNe, Int.le_refl, Nat.le_refl, decide_true, decide_false, Int.cast_ofNat_Int, ↓reduceIte, h11, h14, h130, h132]
    repeat with_reducible refine And.intro (by first | kernel_rfl | decide) ?_
    obtain rfl := Option.some.inj h
    exact finC [(4, .v (.int .i64 x131))] [(4, .v (.int .i64 x131))] (by simp [leE, lk_cons]) (.cons _ _ _ _ _ (.v _ _ (.refl _)) .nil) (by rfl) (by simp [leE, lk_cons]) (by decide) (by decide) rfl (by simp only [go_sem, ne_eq, not_false_eq_true, Nat.reduceBEq, Nat.reduceAdd, Nat.reduceSub, Nat.reduceMul, Nat.reduceLT, Nat.reduceLeDiff, Int.reduceLE, Int.reduceLT, Int.reduceToNat, Int.reduceBEq, Int.reduceBNe, Int.le_refl, Nat.le_refl, decide_true, decide_false, Int.cast_ofNat_Int, ↓reduceIte, resQ_tmp, resQ_cell, resQ_nil, retD_one, retD_two, retD_three, retD_none]; try simp [R.val, retD_one, retD_two, retD_three, retD_none])
  · refine W_sound tab_ok mixed 20 _ _ _ ?_
    simp -implicitDefEqProofs only [go_sem, ne_eq, not_false_eq_true, Nat.reduceBEq, Nat.reduceAdd, Nat.reduceSub, Nat.reduceMul, Nat.reduceLT, Nat.reduceLeDiff, Int.reduceLE, Int.reduceLT, Int.reduceToNat, Int.reduceBEq, Int.reduceBNe, Int.le_refl, Nat.le_refl, decide_true, decide_false, Int.cast_ofNat_Int, ↓reduceIte, h11, h14, h130, h132]
    repeat with_reducible refine And.intro (by first | kernel_rfl | decide) ?_
    have hh := bnd'_some h; clear h; obtain ⟨o163, h164, h165⟩ := hh
    refine Wp_cut (fun s => (.inr ()) = o163 ∧ s = ⟨[], [(0, .dead), (1, .dead), (2, .dead), (4, .dead), (5, .dead), (6, .dead), (8, .dead), (12, .dead), (14, .dead), (15, .dead), (16, .dead), (17, .dead), (20, .dead), (30, .dead)], [], 0, []⟩) ?_ ?_
    · refine Wp_block ?_
      refine Wp_loopG (fun n s => ∃ x147, ∃ x148, ∃ p149, m63_L0 N p12 n15 c16 n x147 x148 p149 = some o163 ∧ s = ⟨[], [(0, .dead), (1, .dead), (2, .ptr 0 0), (4, .dead), (5, .dead), (6, .v (.int .i64 x147)), (8, .dead), (12, .dead), (14, .v (.lst false n15 c16)), (15, .v (.int .i64 ((n15 : Nat) : Int))), (16, .v (.int .i64 x148)), (17, .dead), (20, .dead), (30, .dead)], [(0, .p [p12, p149])], 1, []⟩) N _ ((Wk_le (.cons _ _ _ _ _ (.dead _) (.cons _ _ _ _ _ (.dead _) (.cons _ _ _ _ _ (.refl _) (.cons _ _ _ _ _ (.dead _) (.cons _ _ _ _ _ (.dead _) (.cons _ _ _ _ _ (.refl _) (.cons _ _ _ _ _ (.refl _) (.cons _ _ _ _ _ (.dead _) (.cons _ _ _ _ _ (.refl _) (.cons _ _ _ _ _ (.refl _) (.cons _ _ _ _ _ (.refl _) (.cons _ _ _ _ _ (.refl _) (.cons _ _ _ _ _ (.refl _) (.cons _ _ _ _ _ (.refl _) .nil)))))))))))))) (OLe.refl _)).trans (cmpS_ok (st' := ⟨[], [(0, .dead), (1, .dead), (2, .ptr 0 0), (4, .dead), (5, .dead), (6, .v (.int .i64 (-1))), (8, .dead), (12, .dead), (14, .v (.lst false n15 c16)), (15, .v (.int .i64 ((n15 : Nat) : Int))), (16, .v (.int .i64 0)), (17, .dead), (20, .dead), (30, .dead)], [(0, .p [p12, p13])], 1, []⟩) (by kernel_rfl))) ⟨_, _, _, h164, rfl⟩ ?_
      clear h164
      rintro n _ ⟨x147, x148, p149, h164, rfl⟩
      cases n with
      | zero => cases h164
      | succ n =>
        rw [m63_L0] at h164
        have hh := brn_some h164; clear h164; rcases hh with ⟨h150, h164⟩ | ⟨h150, h164⟩
        · have hh := grd_some h164; clear h164; obtain ⟨⟨g151, g152⟩, h164⟩ := hh
          have hh := grd_some h164; clear h164; obtain ⟨g153, h164⟩ := hh
          have hh := getI_some h164; clear h164; obtain ⟨x155, h154, h164⟩ := hh
          have hh := brn_some h164; clear h164; rcases hh with ⟨h156, h164⟩ | ⟨h156, h164⟩
          · refine W_sound tab_ok mixed 37 _ _ _ ?_
            simp -implicitDefEqProofs only [go_sem, ne_eq, not_false_eq_true, Nat.reduceBEq, Nat.reduceAdd, Nat.reduceSub, Nat.reduceMul, Nat.reduceLT, Nat.reduceLeDiff, Int.reduceLE, Int.reduceLT, Int.reduceToNat, Int.reduceBEq, Int.reduceBNe, Int.le_refl, Nat.le_refl, decide_true, decide_false, Int.cast_ofNat_Int, ↓reduceIte, h11, h14, h130, h132, h150, g151, g152, g153, h154, h156]
            repeat with_reducible refine And.intro (by first | kernel_rfl | decide) ?_
            obtain rfl := Option.some.inj h164
            (try dsimp only at h165)
            obtain rfl := Option.some.inj h165
            exact finC [(4, .v (.int .i64 2))] [(4, .v (.int .i64 2))] (by simp [leE, lk_cons]) (.cons _ _ _ _ _ (.v _ _ (.refl _)) .nil) (by rfl) (by simp [leE, lk_cons]) (by decide) (by decide) rfl (by simp only [go_sem, ne_eq, not_false_eq_true, Nat.reduceBEq, Nat.reduceAdd, Nat.reduceSub, Nat.reduceMul, Nat.reduceLT, Nat.reduceLeDiff, Int.reduceLE, Int.reduceLT, Int.reduceToNat, Int.reduceBEq, Int.reduceBNe, Int.le_refl, Nat.le_refl, decide_true, decide_false, Int.cast_ofNat_Int, ↓reduceIte, resQ_tmp, resQ_cell, resQ_nil, retD_one, retD_two, retD_three, retD_none]; try simp [R.val, retD_one, retD_two, retD_three, retD_none])
          · have hh := getL_some h164; clear h164; obtain ⟨n158, c159, h157, h164⟩ := hh
            have hh := brn_some h164; clear h164; rcases hh with ⟨h160, h164⟩ | ⟨h160, h164⟩
            · refine W_sound tab_ok mixed 37 _ _ _ ?_
              simp -implicitDefEqProofs only [go_sem, ne_eq, not_false_eq_true, Nat.reduceBEq, Nat.reduceAdd, Nat.reduceSub, Nat.reduceMul, Nat.reduceLT, Nat.reduceLeDiff, Int.reduceLE, Int.reduceLT, Int.reduceToNat, Int.reduceBEq, Int.reduceBNe, Int.le_refl, Nat.le_refl, decide_true, decide_false, Int.cast_ofNat_Int, ↓reduceIte, h11, h14, h130, h132, h150, g151, g152, g153, h154, h156, h157, h160]
              repeat with_reducible refine And.intro (by first | kernel_rfl | decide) ?_
              obtain rfl := Option.some.inj h164
              (try dsimp only at h165)
              obtain rfl := Option.some.inj h165
              exact finC [(4, .v (.int .i64 2))] [(4, .v (.int .i64 2))] (by simp [leE, lk_cons]) (.cons _ _ _ _ _ (.v _ _ (.refl _)) .nil) (by rfl) (by simp [leE, lk_cons]) (by decide) (by decide) rfl (by simp only [go_sem, ne_eq, not_false_eq_true, Nat.reduceBEq, Nat.reduceAdd, Nat.reduceSub, Nat.reduceMul, Nat.reduceLT, Nat.reduceLeDiff, Int.reduceLE, Int.reduceLT, Int.reduceToNat, Int.reduceBEq, Int.reduceBNe, Int.le_refl, Nat.le_refl, decide_true, decide_false, Int.cast_ofNat_Int, ↓reduceIte, resQ_tmp, resQ_cell, resQ_nil, retD_one, retD_two, retD_three, retD_none]; try simp [R.val, retD_one, retD_two, retD_three, retD_none])
            · have hh := brn_some h164; clear h164; rcases hh with ⟨h161, h164⟩ | ⟨h161, h164⟩
              · refine W_sound tab_ok mixed 45 _ _ _ ?_
                simp -implicitDefEqProofs only [go_sem, ne_eq, not_false_eq_true, Nat.reduceBEq, Nat.reduceAdd, Nat.reduceSub, Nat.reduceMul, Nat.reduceLT, Nat.reduceLeDiff, Int.reduceLE, Int.reduceLT, Int.reduceToNat, Int.reduceBEq, Int.reduceBNe, Int.le_refl, Nat.le_refl, decide_true, decide_false, Int.cast_ofNat_Int, ↓reduceIte, h11, h14, h130, h132, h150, g151, g152, g153, h154, h156, h157, h160, h161]
                repeat with_reducible refine And.intro (by first | kernel_rfl | decide) ?_
                obtain rfl := Option.some.inj h164
                (try dsimp only at h165)
                obtain rfl := Option.some.inj h165
                exact finC [(4, .v (.int .i64 7))] [(4, .v (.int .i64 7))] (by simp [leE, lk_cons]) (.cons _ _ _ _ _ (.v _ _ (.refl _)) .nil) (by rfl) (by simp [leE, lk_cons]) (by decide) (by decide) rfl (by simp only [go_sem, ne_eq, not_false_eq_true, Nat.reduceBEq, Nat.reduceAdd, Nat.reduceSub, Nat.reduceMul, Nat.reduceLT, Nat.reduceLeDiff, Int.reduceLE, Int.reduceLT, Int.reduceToNat, Int.reduceBEq, Int.reduceBNe, Int.le_refl, Nat.le_refl, decide_true, decide_false, Int.cast_ofNat_Int, ↓reduceIte, resQ_tmp, resQ_cell, resQ_nil, retD_one, retD_two, retD_three, retD_none]; try simp [R.val, retD_one, retD_two, retD_three, retD_none])
              · refine W_sound tab_ok mixed 50 _ _ _ ?_
                simp -implicitDefEqProofs only [go_sem, ne_eq, not_false_eq_true, Nat.reduceBEq, Nat.reduceAdd, Nat.reduceSub, Nat.reduceMul, Nat.reduceLT, Nat.reduceLeDiff, Int.reduceLE, Int.reduceLT, Int.reduceToNat, Int.reduceBEq, Int.reduceBNe, Int.le_refl, Nat.le_refl, decide_true, decide_false, Int.cast_ofNat_Int, ↓reduceIte, h11, h14, h130, h132, h150, g151, g152, g153, h154, h156, h157, h160, h161]
                repeat with_reducible refine And.intro (by first | kernel_rfl | decide) ?_
                exact cutQ _ ((Wk_le (.cons _ _ _ _ _ (.refl _) (.cons _ _ _ _ _ (.refl _) (.cons _ _ _ _ _ (.refl _) (.cons _ _ _ _ _ (.refl _) (.cons _ _ _ _ _ (.refl _) (.cons _ _ _ _ _ (.refl _) (.cons _ _ _ _ _ (.dead _) (.cons _ _ _ _ _ (.refl _) (.cons _ _ _ _ _ (.refl _) (.cons _ _ _ _ _ (.refl _) (.cons _ _ _ _ _ (.refl _) (.cons _ _ _ _ _ (.dead _) (.cons _ _ _ _ _ (.dead _) (.cons _ _ _ _ _ (.dead _) .nil)))))))))))))) (OLe.refl _)).trans (cmpS_ok (st' := ⟨[], [(0, .dead), (1, .dead), (2, .ptr 0 0), (4, .dead), (5, .dead), (6, .v (.int .i64 x155)), (8, .dead), (12, .dead), (14, .v (.lst false n15 c16)), (15, .v (.int .i64 ((n15 : Nat) : Int))), (16, .v (.int .i64 (IntKind.i64.wrap (x148 + 1)))), (17, .dead), (20, .dead), (30, .dead)], [(0, .p [p12, (.lst false n158 c159)])], 1, []⟩) (by kernel_rfl))) ⟨n, Nat.lt_succ_self n, _, _, _, h164, rfl⟩
        · refine W_sound tab_ok mixed 7 _ _ _ ?_
          simp -implicitDefEqProofs only [go_sem, ne_eq, not_false_eq_true, Nat.reduceBEq, Nat.reduceAdd, Nat.reduceSub, Nat.reduceMul, Nat.reduceLT, Nat.reduceLeDiff, Int.reduceLE, Int.reduceLT, Int.reduceToNat, Int.reduceBEq, Int.reduceBNe, Int.le_refl, Nat.le_refl, decide_true, decide_false, Int.cast_ofNat_Int, ↓reduceIte, h11, h14, h130, h132, h150]
          repeat with_reducible refine And.intro (by first | kernel_rfl | decide) ?_
          obtain rfl := Option.some.inj h164
          exact cutQ _ ((Wk_le (.cons _ _ _ _ _ (.refl _) (.cons _ _ _ _ _ (.refl _) (.cons _ _ _ _ _ (.dead _) (.cons _ _ _ _ _ (.refl _) (.cons _ _ _ _ _ (.refl _) (.cons _ _ _ _ _ (.dead _) (.cons _ _ _ _ _ (.refl _) (.cons _ _ _ _ _ (.refl _) (.cons _ _ _ _ _ (.dead _) (.cons _ _ _ _ _ (.dead _) (.cons _ _ _ _ _ (.dead _) (.cons _ _ _ _ _ (.dead _) (.cons _ _ _ _ _ (.refl _) (.cons _ _ _ _ _ (.refl _) .nil)))))))))))))) (OLe.refl _)).trans (cmpS_ok (st' := ⟨[], [(0, .dead), (1, .dead), (2, .dead), (4, .dead), (5, .dead), (6, .dead), (8, .dead), (12, .dead), (14, .dead), (15, .dead), (16, .dead), (17, .dead), (20, .dead), (30, .dead)], [], 0, []⟩) (by kernel_rfl))) ⟨rfl, rfl⟩
    · rintro _ ⟨rfl, rfl⟩
      (try dsimp only at h165)
      refine W_sound tab_ok mixed 6 _ _ _ ?_
      simp -implicitDefEqProofs only [go_sem, ne_eq, not_false_eq_true, Nat.reduceBEq, Nat.reduceAdd, Nat.reduceSub, Nat.reduceMul, Nat.reduceLT, Nat.reduceLeDiff, Int.reduceLE, Int.reduceLT, Int.reduceToNat, Int.reduceBEq, Int.reduceBNe, Int.le_refl, Nat.le_refl, decide_true, decide_false, Int.cast_ofNat_Int, ↓reduceIte, h11, h14, h130, h132]
      repeat with_reducible refine And.intro (by first | kernel_rfl | decide) ?_
      obtain rfl := Option.some.inj h165
      exact finC [(4, .v (.int .i64 0))] [(4, .v (.int .i64 0))] (by simp [leE, lk_cons]) (.cons _ _ _ _ _ (.v _ _ (.refl _)) .nil) (by rfl) (by simp [leE, lk_cons]) (by decide) (by decide) rfl (by simp only [go_sem, ne_eq, not_false_eq_true, Nat.reduceBEq, Nat.reduceAdd, Nat.reduceSub, Nat.reduceMul, Nat.reduceLT, Nat.reduceLeDiff, Int.reduceLE, Int.reduceLT, Int.reduceToNat, Int.reduceBEq, Int.reduceBNe, Int.le_refl, Nat.le_refl, decide_true, decide_false, Int.cast_ofNat_Int, ↓reduceIte, resQ_tmp, resQ_cell, resQ_nil, retD_one, retD_two, retD_three, retD_none]; try simp [R.val, retD_one, retD_two, retD_three, retD_none])

def m97_L0 (N : Nat)  : Nat → Int → List PV → Option (List PV)
  | 0, _, _ => none
  | n + 1, x249, c250 =>
    brn (decide (x249 < 5)) (
      grd (0 ≤ x249 ∧ x249 < 5) <|
      grd (((Int.toNat x249) + 1) ≤ List.length c250) <|
      m97_L0 N  n (IntKind.i64.wrap (x249 + 1)) (List.set c250 (Int.toNat x249) (.int .i64 x249))) (
      some c250)
def m97 (N : Nat)  : Option (PV) :=
  bnd' (m97_L0 N  N 0 [(.int .i64 0), (.int .i64 0), (.int .i64 0), (.int .i64 0), (.int .i64 0)]) fun c255 =>
  grd (5 ≤ List.length c255) <|
  getA5 (.agg (List.take 5 c255)) fun p258 p259 p260 p261 p262 =>
  some (.agg [p258, p259, p260, p261, p262])
theorem c97 (N : Nat)  (r : PV)  (h : m97 N  = some r) : FnP Tryd.prog 97 [] r := by
  unfold m97 at h
  refine Fn_of (sz := 11) tab_ok [0, 1, 2, 3, 4] [.cell 0 98] Tryd.func97 rfl rfl rfl (by simp) ?_
  simp only [initSt, initEnv, List.map_cons, List.map_nil, List.getD_cons_zero, List.getD_cons_succ, List.getD_nil]
  refine W_sound tab_ok mixed 13 _ _ _ ?_
  simp -implicitDefEqProofs only [go_sem, ne_eq, not_false_eq_true, Nat.reduceBEq, Nat.reduceAdd, Nat.reduceSub, Nat.reduceMul, Nat.reduceLT, Nat.reduceLeDiff, Int.reduceLE, Int.reduceLT, Int.reduceToNat, Int.reduceBEq, Int.reduceBNe, Int.le_refl, Nat.le_refl, decide_true, decide_false, Int.cast_ofNat_Int, ↓reduceIte]
  repeat with_reducible refine And.intro (by first | kernel_rfl | decide) ?_
  have hh := bnd'_some h; clear h; obtain ⟨o263, h264, h265⟩ := hh
  refine Wp_cut (fun s => ∃ c255, c255 = o263 ∧ s = ⟨[], [(0, .ptr 0 0), (1, .ptr 1 0), (2, .dead), (3, .dead), (4, .dead)], [(0, .p [(.int .i64 0), (.int .i64 0), (.int .i64 0), (.int .i64 0), (.int .i64 0)]), (1, .p c255)], 2, []⟩) ?_ ?_
  · refine Wp_block ?_
    refine Wp_loopG (fun n s => ∃ x249, ∃ c250, m97_L0 N  n x249 c250 = some o263 ∧ s = ⟨[], [(0, .ptr 0 0), (1, .ptr 1 0), (2, .dead), (3, .v (.int .i64 x249)), (4, .dead)], [(0, .p [(.int .i64 0), (.int .i64 0), (.int .i64 0), (.int .i64 0), (.int .i64 0)]), (1, .p c250)], 2, []⟩) N _ ((Wk_le (.cons _ _ _ _ _ (.refl _) (.cons _ _ _ _ _ (.refl _) (.cons _ _ _ _ _ (.refl _) (.cons _ _ _ _ _ (.refl _) (.cons _ _ _ _ _ (.refl _) .nil))))) (OLe.refl _)).trans (cmpS_ok rfl)) ⟨_, _, h264, rfl⟩ ?_
    clear h264
    rintro n _ ⟨x249, c250, h264, rfl⟩
    cases n with
    | zero => cases h264
    | succ n =>
      rw [m97_L0] at h264
      have hh := brn_some h264; clear h264; rcases hh with ⟨h251, h264⟩ | ⟨h251, h264⟩
      · have hh := grd_some h264; clear h264; obtain ⟨⟨g252, g253⟩, h264⟩ := hh
        have hh := grd_some h264; clear h264; obtain ⟨g254, h264⟩ := hh
        refine W_sound tab_ok mixed 25 _ _ _ ?_
        simp -implicitDefEqProofs only [go_sem, ne_eq, not_false_eq_true, Nat.reduceBEq, Nat.reduceAdd, Nat.reduceSub, Nat.reduceMul, Nat.reduceLT, Nat.reduceLeDiff, Int.reduceLE, Int.reduceLT, Int.reduceToNat, Int.reduceBEq, Int.reduceBNe, Int.le_refl, Nat.le_refl, decide_true, decide_false, Int.cast_ofNat_Int, ↓reduceIte, h251, g252, g253, g254]
        repeat with_reducible refine And.intro (by first | kernel_rfl | decide) ?_
        exact cutQ _ ((Wk_le (.cons _ _ _ _ _ (.refl _) (.cons _ _ _ _ _ (.refl _) (.cons _ _ _ _ _ (.dead _) (.cons _ _ _ _ _ (.refl _) (.cons _ _ _ _ _ (.dead _) .nil))))) (OLe.refl _)).trans (cmpS_ok rfl)) ⟨n, Nat.lt_succ_self n, _, _, h264, rfl⟩
      · refine W_sound tab_ok mixed 7 _ _ _ ?_
        simp -implicitDefEqProofs only [go_sem, ne_eq, not_false_eq_true, Nat.reduceBEq, Nat.reduceAdd, Nat.reduceSub, Nat.reduceMul, Nat.reduceLT, Nat.reduceLeDiff, Int.reduceLE, Int.reduceLT, Int.reduceToNat, Int.reduceBEq, Int.reduceBNe, Int.le_refl, Nat.le_refl, decide_true, decide_false, Int.cast_ofNat_Int, ↓reduceIte, h251]
        repeat with_reducible refine And.intro (by first | kernel_rfl | decide) ?_
        obtain rfl := Option.some.inj h264
        exact cutQ _ ((Wk_le (.cons _ _ _ _ _ (.refl _) (.cons _ _ _ _ _ (.refl _) (.cons _ _ _ _ _ (.refl _) (.cons _ _ _ _ _ (.dead _) (.cons _ _ _ _ _ (.dead _) .nil))))) (OLe.refl _)).trans (cmpS_ok rfl)) ⟨_, rfl, rfl⟩
  · rintro _ ⟨c255, rfl, rfl⟩
    have hh := grd_some h265; clear h265; obtain ⟨g256, h265⟩ := hh
    have hh := getA5_some h265; clear h265; obtain ⟨p258, p259, p260, p261, p262, h257, h265⟩ := hh
    injection h257 with h257
    refine W_sound tab_ok mixed 7 _ _ _ ?_
    simp -implicitDefEqProofs only [go_sem, ne_eq, not_false_eq_true, Nat.reduceBEq, Nat.reduceAdd, Nat.reduceSub, Nat.reduceMul, Nat.reduceLT, Nat.reduceLeDiff, Int.reduceLE, Int.reduceLT, Int.reduceToNat, Int.reduceBEq, Int.reduceBNe, Int.le_refl, Nat.le_refl, decide_true, decide_false, Int.cast_ofNat_Int, ↓reduceIte, g256, h257]
    repeat with_reducible refine And.intro (by first | kernel_rfl | decide) ?_
    refine FinQ_wk (Wk_freeze 0 [p258, p259, p260, p261, p262] (by rfl) (by decide) (by decide)) ?_
    simp -implicitDefEqProofs only [go_sem, ne_eq, not_false_eq_true, Nat.reduceBEq, Nat.reduceAdd, Nat.reduceSub, Nat.reduceMul, Nat.reduceLT, Nat.reduceLeDiff, Int.reduceLE, Int.reduceLT, Int.reduceToNat, Int.reduceBEq, Int.reduceBNe, Int.le_refl, Nat.le_refl, decide_true, decide_false, Int.cast_ofNat_Int, ↓reduceIte, g256, h257]
    obtain rfl := Option.some.inj h265
    exact finC [(0, .v (.ipt [p258, p259, p260, p261, p262]))] [(0, .v (.ipt [p258, p259, p260, p261, p262]))] (by simp [leE, lk_cons]) (.cons _ _ _ _ _ (.v _ _ (.refl _)) .nil) (by rfl) (by simp [leE, lk_cons]) (by decide) (by decide) rfl (by simp only [go_sem, ne_eq, not_false_eq_true, Nat.reduceBEq, Nat.reduceAdd, Nat.reduceSub, Nat.reduceMul, Nat.reduceLT, Nat.reduceLeDiff, Int.reduceLE, Int.reduceLT, Int.reduceToNat, Int.reduceBEq, Int.reduceBNe, Int.le_refl, Nat.le_refl, decide_true, decide_false, Int.cast_ofNat_Int, ↓reduceIte, resQ_tmp, resQ_cell, resQ_nil, retD_one, retD_two, retD_three, retD_none]; try simp [R.val, retD_one, retD_two, retD_three, retD_none])

def m71 (N : Nat) (p283 : PV) (p284 : PV) : Option (PV) :=
  getA5 p283 fun p286 p287 p288 p289 p290 =>
  getA2 p284 fun p292 p293 =>
  getI .i64 p292 fun x295 =>
  grd (0 ≤ x295 ∧ x295 < 5) <|
  grd ((Int.toNat x295) < 5) <|
  getI .i64 (gp [p286, p287, p288, p289, p290] (Int.toNat x295)) fun x300 =>
  getI .i64 p293 fun x302 =>
  grd (0 ≤ x302 ∧ x302 < 5) <|
  grd ((Int.toNat x302) < 5) <|
  getI .i64 (gp [p286, p287, p288, p289, p290] (Int.toNat x302)) fun x307 =>
  some (.bool (x300 == x307))
theorem c71 (N : Nat) (p283 : PV) (p284 : PV) (r : PV)  (h : m71 N p283 p284 = some r) : FnP Tryd.prog 71 [p283, p284] r := by
  unfold m71 at h
  refine Fn_of (sz := 14) tab_ok [0, 1, 2, 3, 4] [.tmp 4] Tryd.func71 rfl rfl rfl (by simp) ?_
  simp only [initSt, initEnv, List.map_cons, List.map_nil, List.getD_cons_zero, List.getD_cons_succ, List.getD_nil]
  have hh := getA5_some h; clear h; obtain ⟨p286, p287, p288, p289, p290, h285, h⟩ := hh
  have hh := getA2_some h; clear h; obtain ⟨p292, p293, h291, h⟩ := hh
  have hh := getI_some h; clear h; obtain ⟨x295, h294, h⟩ := hh
  have hh := grd_some h; clear h; obtain ⟨⟨g296, g297⟩, h⟩ := hh
  have hh := grd_some h; clear h; obtain ⟨g298, h⟩ := hh
  have hh := getI_some h; clear h; obtain ⟨x300, h299, h⟩ := hh
  have hh := getI_some h; clear h; obtain ⟨x302, h301, h⟩ := hh
  have hh := grd_some h; clear h; obtain ⟨⟨g303, g304⟩, h⟩ := hh
  have hh := grd_some h; clear h; obtain ⟨g305, h⟩ := hh
  have hh := getI_some h; clear h; obtain ⟨x307, h306, h⟩ := hh
  refine W_sound tab_ok mixed 21 _ _ _ ?_
  simp -implicitDefEqProofs only [go_sem, ne_eq, not_false_eq_true, Nat.reduceBEq, Nat.reduceAdd, Nat.reduceSub, Nat.reduceMul, Nat.reduceLT, Nat.reduceLeDiff, Int.reduceLE, Int.reduceLT, Int.reduceToNat, Int.reduceBEq, Int.reduceBNe, Int.le_refl, Nat.le_refl, decide_true, decide_false, Int.cast_ofNat_Int, ↓reduceIte, h285, h291, h294, g296, g297, g298, h299, h301, g303, g304, g305, h306]
  repeat with_reducible refine And.intro (by first | kernel_rfl | decide) ?_
  obtain rfl := Option.some.inj h
  exact finC [(4, .v (.bool (x300 == x307)))] [(4, .v (.bool (x300 == x307)))] (by simp [leE, lk_cons]) (.cons _ _ _ _ _ (.v _ _ (.refl _)) .nil) (by rfl) (by simp [leE, lk_cons]) (by decide) (by decide) rfl (by simp only [go_sem, ne_eq, not_false_eq_true, Nat.reduceBEq, Nat.reduceAdd, Nat.reduceSub, Nat.reduceMul, Nat.reduceLT, Nat.reduceLeDiff, Int.reduceLE, Int.reduceLT, Int.reduceToNat, Int.reduceBEq, Int.reduceBNe, Int.le_refl, Nat.le_refl, decide_true, decide_false, Int.cast_ofNat_Int, ↓reduceIte, resQ_tmp, resQ_cell, resQ_nil, retD_one, retD_two, retD_three, retD_none]; try simp [R.val, retD_one, retD_two, retD_three, retD_none])

def m98_L0 (N : Nat) (p316 : PV) (p317 : PV) (p318 : PV) (p319 : PV) (p320 : PV) (x330 : Int) (x337 : Int) : Nat → Int → List PV → Option (List PV)
  | 0, _, _ => none
  | n + 1, x346, c347 =>
    brn (decide (x346 < 5)) (
      grd (0 ≤ x346 ∧ x346 < 5) <|
      getI .i64 (gp [p316, p317, p318, p319, p320] (Int.toNat x346)) fun x352 =>
      brn (x352 == (maxI x330 x337)) (
        grd (((Int.toNat x346) + 1) ≤ List.length c347) <|
        m98_L0 N p316 p317 p318 p319 p320 x330 x337 n (IntKind.i64.wrap (x346 + 1)) (List.set c347 (Int.toNat x346) (.int .i64 (minI x330 x337)))) (
        m98_L0 N p316 p317 p318 p319 p320 x330 x337 n (IntKind.i64.wrap (x346 + 1)) c347)) (
      some c347)
def m98 (N : Nat) (p313 : PV) (p314 : PV) : Option (PV) :=
  getA5 p313 fun p316 p317 p318 p319 p320 =>
  getA2 p314 fun p322 p323 =>
  getI .i64 p322 fun x325 =>
  grd (0 ≤ x325 ∧ x325 < 5) <|
  grd ((Int.toNat x325) < 5) <|
  getI .i64 (gp [p316, p317, p318, p319, p320] (Int.toNat x325)) fun x330 =>
  getI .i64 p323 fun x332 =>
  grd (0 ≤ x332 ∧ x332 < 5) <|
  grd ((Int.toNat x332) < 5) <|
  getI .i64 (gp [p316, p317, p318, p319, p320] (Int.toNat x332)) fun x337 =>
  bnd' (m98_L0 N p316 p317 p318 p319 p320 x330 x337 N 0 [p316, p317, p318, p319, p320]) fun c355 =>
  grd (5 ≤ List.length c355) <|
  getA5 (.agg (List.take 5 c355)) fun p358 p359 p360 p361 p362 =>
  some (.agg [p358, p359, p360, p361, p362])
theorem c98 (N : Nat) (p313 : PV) (p314 : PV) (r : PV)  (h : m98 N p313 p314 = some r) : FnP Tryd.prog 98 [p313, p314] r := by
  unfold m98 at h
  refine Fn_of (sz := 40) tab_ok [0, 1, 2, 3, 4, 5, 6, 7, 8, 27, 28, 29, 34] [.cell 4 98] Tryd.func98 rfl rfl rfl (by simp) ?_
  simp only [initSt, initEnv, List.map_cons, List.map_nil, List.getD_cons_zero, List.getD_cons_succ, List.getD_nil]
  have hh := getA5_some h; clear h; obtain ⟨p316, p317, p318, p319, p320, h315, h⟩ := hh
  have hh := getA2_some h; clear h; obtain ⟨p322, p323, h321, h⟩ := hh
  have hh := getI_some h; clear h; obtain ⟨x325, h324, h⟩ := hh
  have hh := grd_some h; clear h; obtain ⟨⟨g326, g327⟩, h⟩ := hh
  have hh := grd_some h; clear h; obtain ⟨g328, h⟩ := hh
  have hh := getI_some h; clear h; obtain ⟨x330, h329, h⟩ := hh
  have hh := getI_some h; clear h; obtain ⟨x332, h331, h⟩ := hh
  have hh := grd_some h; clear h; obtain ⟨⟨g333, g334⟩, h⟩ := hh
  have hh := grd_some h; clear h; obtain ⟨g335, h⟩ := hh
  have hh := getI_some h; clear h; obtain ⟨x337, h336, h⟩ := hh
  refine W_sound tab_ok mixed 35 _ _ _ ?_
  simp -implicitDefEqProofs only [go_sem, ne_eq, not_false_eq_true, Nat.reduceBEq, Nat.reduceAdd, Nat.reduceSub, Nat.reduceMul, Nat.reduceLT, Nat.reduceLeDiff, Int.reduceLE, Int.reduceLT, Int.reduceToNat, Int.reduceBEq, Int.reduceBNe, Int.le_refl, Nat.le_refl, decide_true, decide_false, Int.cast_ofNat_Int, ↓reduceIte, h315, h321, h324, g326, g327, g328, h329, h331, g333, g334, g335, h336]
  repeat with_reducible refine And.intro (by first | kernel_rfl | decide) ?_
  have hh := bnd'_some h; clear h; obtain ⟨o363, h364, h365⟩ := hh
  refine Wp_cut (fun s => ∃ c355, c355 = o363 ∧ s = ⟨[], [(0, .dead), (1, .dead), (2, .ptr 0 0), (3, .dead), (4, .ptr 1 0), (5, .dead), (6, .dead), (7, .dead), (8, .dead), (27, .dead), (28, .dead), (29, .dead), (34, .dead)], [(0, .p c355), (1, .p [(.int .i64 0), (.int .i64 0), (.int .i64 0), (.int .i64 0), (.int .i64 0)])], 2, []⟩) ?_ ?_
  · refine Wp_block ?_
    refine Wp_loopG (fun n s => ∃ x346, ∃ c347, m98_L0 N p316 p317 p318 p319 p320 x330 x337 n x346 c347 = some o363 ∧ s = ⟨[], [(0, .dead), (1, .dead), (2, .ptr 0 0), (3, .dead), (4, .ptr 1 0), (5, .v (.int .i64 (minI x330 x337))), (6, .v (.int .i64 (maxI x330 x337))), (7, .dead), (8, .dead), (27, .v (.agg [p316, p317, p318, p319, p320])), (28, .v (.int .i64 x346)), (29, .dead), (34, .dead)], [(0, .p c347), (1, .p [(.int .i64 0), (.int .i64 0), (.int .i64 0), (.int .i64 0), (.int .i64 0)])], 2, []⟩) N _ ((Wk_le (.cons _ _ _ _ _ (.dead _) (.cons _ _ _ _ _ (.dead _) (.cons _ _ _ _ _ (.refl _) (.cons _ _ _ _ _ (.dead _) (.cons _ _ _ _ _ (.refl _) (.cons _ _ _ _ _ (.refl _) (.cons _ _ _ _ _ (.refl _) (.cons _ _ _ _ _ (.refl _) (.cons _ _ _ _ _ (.refl _) (.cons _ _ _ _ _ (.refl _) (.cons _ _ _ _ _ (.refl _) (.cons _ _ _ _ _ (.refl _) (.cons _ _ _ _ _ (.refl _) .nil))))))))))))) (OLe.refl _)).trans (cmpS_ok (st' := ⟨[], [(0, .dead), (1, .dead), (2, .ptr 0 0), (3, .dead), (4, .ptr 1 0), (5, .v (.int .i64 (minI x330 x337))), (6, .v (.int .i64 (maxI x330 x337))), (7, .dead), (8, .dead), (27, .v (.agg [p316, p317, p318, p319, p320])), (28, .v (.int .i64 0)), (29, .dead), (34, .dead)], [(0, .p [p316, p317, p318, p319, p320]), (1, .p [(.int .i64 0), (.int .i64 0), (.int .i64 0), (.int .i64 0), (.int .i64 0)])], 2, []⟩) (by kernel_rfl))) ⟨_, _, h364, rfl⟩ ?_
    clear h364
    rintro n _ ⟨x346, c347, h364, rfl⟩
    cases n with
    | zero => cases h364
    | succ n =>
      rw [m98_L0] at h364
      have hh := brn_some h364; clear h364; rcases hh with ⟨h348, h364⟩ | ⟨h348, h364⟩
      · have hh := grd_some h364; clear h364; obtain ⟨⟨g349, g350⟩, h364⟩ := hh
        have hh := getI_some h364; clear h364; obtain ⟨x352, h351, h364⟩ := hh
        have hh := brn_some h364; clear h364; rcases hh with ⟨h353, h364⟩ | ⟨h353, h364⟩
        · have hh := grd_some h364; clear h364; obtain ⟨g354, h364⟩ := hh
          refine W_sound tab_ok mixed 34 _ _ _ ?_
          simp -implicitDefEqProofs only [go_sem, ne_eq, not_false_eq_true, Nat.reduceBEq, Nat.reduceAdd, Nat.reduceSub, Nat.reduceMul, Nat.reduceLT, Nat.reduceLeDiff, Int.reduceLE, Int.reduceLT, Int.reduceToNat, Int.reduceBEq, Int.reduceBNe, Int.le_refl, Nat.le_refl, decide_true, decide_false, Int.cast_ofNat_Int, ↓reduceIte, h315, h321, h324, g326, g327, g328, h329, h331, g333, g334, g335, h336, h348, g349, g350, h351, h353, g354]
          repeat with_reducible refine And.intro (by first | kernel_rfl | decide) ?_
          exact cutQ _ ((Wk_le (.cons _ _ _ _ _ (.refl _) (.cons _ _ _ _ _ (.refl _) (.cons _ _ _ _ _ (.refl _) (.cons _ _ _ _ _ (.refl _) (.cons _ _ _ _ _ (.refl _) (.cons _ _ _ _ _ (.refl _) (.cons _ _ _ _ _ (.refl _) (.cons _ _ _ _ _ (.dead _) (.cons _ _ _ _ _ (.dead _) (.cons _ _ _ _ _ (.refl _) (.cons _ _ _ _ _ (.refl _) (.cons _ _ _ _ _ (.dead _) (.cons _ _ _ _ _ (.dead _) .nil))))))))))))) (OLe.refl _)).trans (cmpS_ok (st' := ⟨[], [(0, .dead), (1, .dead), (2, .ptr 0 0), (3, .dead), (4, .ptr 1 0), (5, .v (.int .i64 (minI x330 x337))), (6, .v (.int .i64 (maxI x330 x337))), (7, .dead), (8, .dead), (27, .v (.agg [p316, p317, p318, p319, p320])), (28, .v (.int .i64 (IntKind.i64.wrap (x346 + 1)))), (29, .dead), (34, .dead)], [(0, .p (List.set c347 (Int.toNat x346) (.int .i64 (minI x330 x337)))), (1, .p [(.int .i64 0), (.int .i64 0), (.int .i64 0), (.int .i64 0), (.int .i64 0)])], 2, []⟩) (by kernel_rfl))) ⟨n, Nat.lt_succ_self n, _, _, h364, rfl⟩
        · refine W_sound tab_ok mixed 29 _ _ _ ?_
          simp -implicitDefEqProofs only [go_sem, ne_eq, not_false_eq_true, Nat.reduceBEq, Nat.reduceAdd, Nat.reduceSub, Nat.reduceMul, Nat.reduceLT, Nat.reduceLeDiff, Int.reduceLE, Int.reduceLT, Int.reduceToNat, Int.reduceBEq, Int.reduceBNe, Int.le_refl, Nat.le_refl, decide_true, decide_false, Int.cast_ofNat_Int, ↓reduceIte, h315, h321, h324, g326, g327, g328, h329, h331, g333, g334, g335, h336, h348, g349, g350, h351, h353]
          repeat with_reducible refine And.intro (by first | kernel_rfl | decide) ?_
          exact cutQ _ ((Wk_le (.cons _ _ _ _ _ (.refl _) (.cons _ _ _ _ _ (.refl _) (.cons _ _ _ _ _ (.refl _) (.cons _ _ _ _ _ (.refl _) (.cons _ _ _ _ _ (.refl _) (.cons _ _ _ _ _ (.refl _) (.cons _ _ _ _ _ (.refl _) (.cons _ _ _ _ _ (.dead _) (.cons _ _ _ _ _ (.dead _) (.cons _ _ _ _ _ (.refl _) (.cons _ _ _ _ _ (.refl _) (.cons _ _ _ _ _ (.dead _) (.cons _ _ _ _ _ (.dead _) .nil))))))))))))) (OLe.refl _)).trans (cmpS_ok (st' := ⟨[], [(0, .dead), (1, .dead), (2, .ptr 0 0), (3, .dead), (4, .ptr 1 0), (5, .v (.int .i64 (minI x330 x337))), (6, .v (.int .i64 (maxI x330 x337))), (7, .dead), (8, .dead), (27, .v (.agg [p316, p317, p318, p319, p320])), (28, .v (.int .i64 (IntKind.i64.wrap (x346 + 1)))), (29, .dead), (34, .dead)], [(0, .p c347), (1, .p [(.int .i64 0), (.int .i64 0), (.int .i64 0), (.int .i64 0), (.int .i64 0)])], 2, []⟩) (by kernel_rfl))) ⟨n, Nat.lt_succ_self n, _, _, h364, rfl⟩
      · refine W_sound tab_ok mixed 7 _ _ _ ?_
        simp -implicitDefEqProofs only [go_sem, ne_eq, not_false_eq_true, Nat.reduceBEq, Nat.reduceAdd, Nat.reduceSub, Nat.reduceMul, Nat.reduceLT, Nat.reduceLeDiff, Int.reduceLE, Int.reduceLT, Int.reduceToNat, Int.reduceBEq, Int.reduceBNe, Int.le_refl, Nat.le_refl, decide_true, decide_false, Int.cast_ofNat_Int, ↓reduceIte, h315, h321, h324, g326, g327, g328, h329, h331, g333, g334, g335, h336, h348]
        repeat with_reducible refine And.intro (by first | kernel_rfl | decide) ?_
        obtain rfl := Option.some.inj h364
        exact cutQ _ ((Wk_le (.cons _ _ _ _ _ (.refl _) (.cons _ _ _ _ _ (.refl _) (.cons _ _ _ _ _ (.refl _) (.cons _ _ _ _ _ (.refl _) (.cons _ _ _ _ _ (.refl _) (.cons _ _ _ _ _ (.dead _) (.cons _ _ _ _ _ (.dead _) (.cons _ _ _ _ _ (.refl _) (.cons _ _ _ _ _ (.refl _) (.cons _ _ _ _ _ (.dead _) (.cons _ _ _ _ _ (.dead _) (.cons _ _ _ _ _ (.dead _) (.cons _ _ _ _ _ (.refl _) .nil))))))))))))) (OLe.refl _)).trans (cmpS_ok (st' := ⟨[], [(0, .dead), (1, .dead), (2, .ptr 0 0), (3, .dead), (4, .ptr 1 0), (5, .dead), (6, .dead), (7, .dead), (8, .dead), (27, .dead), (28, .dead), (29, .dead), (34, .dead)], [(0, .p c347), (1, .p [(.int .i64 0), (.int .i64 0), (.int .i64 0), (.int .i64 0), (.int .i64 0)])], 2, []⟩) (by kernel_rfl))) ⟨_, rfl, rfl⟩
  · rintro _ ⟨c355, rfl, rfl⟩
    have hh := grd_some h365; clear h365; obtain ⟨g356, h365⟩ := hh
    have hh := getA5_some h365; clear h365; obtain ⟨p358, p359, p360, p361, p362, h357, h365⟩ := hh
    injection h357 with h357
    refine W_sound tab_ok mixed 7 _ _ _ ?_
    simp -implicitDefEqProofs only [go_sem, ne_eq, not_false_eq_true, Nat.reduceBEq, Nat.reduceAdd, Nat.reduceSub, Nat.reduceMul, Nat.reduceLT, Nat.reduceLeDiff, Int.reduceLE, Int.reduceLT, Int.reduceToNat, Int.reduceBEq, Int.reduceBNe, Int.le_refl, Nat.le_refl, decide_true, decide_false, Int.cast_ofNat_Int, ↓reduceIte, h315, h321, h324, g326, g327, g328, h329, h331, g333, g334, g335, h336, g356, h357]
    repeat with_reducible refine And.intro (by first | kernel_rfl | decide) ?_
    refine FinQ_wk (Wk_freeze 1 [p358, p359, p360, p361, p362] (by rfl) (by decide) (by decide)) ?_
    simp -implicitDefEqProofs only [go_sem, ne_eq, not_false_eq_true, Nat.reduceBEq, Nat.reduceAdd, Nat.reduceSub, Nat.reduceMul, Nat.reduceLT, Nat.reduceLeDiff, Int.reduceLE, Int.reduceLT, Int.reduceToNat, Int.reduceBEq, Int.reduceBNe, Int.le_refl, Nat.le_refl, decide_true, decide_false, Int.cast_ofNat_Int, ↓reduceIte, h315, h321, h324, g326, g327, g328, h329, h331, g333, g334, g335, h336, g356, h357]
    obtain rfl := Option.some.inj h365
    exact finC [(4, .v (.ipt [p358, p359, p360, p361, p362]))] [(4, .v (.ipt [p358, p359, p360, p361, p362]))] (by simp [leE, lk_cons]) (.cons _ _ _ _ _ (.v _ _ (.refl _)) .nil) (by rfl) (by simp [leE, lk_cons]) (by decide) (by decide) rfl (by simp only [go_sem, ne_eq, not_false_eq_true, Nat.reduceBEq, Nat.reduceAdd, Nat.reduceSub, Nat.reduceMul, Nat.reduceLT, Nat.reduceLeDiff, Int.reduceLE, Int.reduceLT, Int.reduceToNat, Int.reduceBEq, Int.reduceBNe, Int.le_refl, Nat.le_refl, decide_true, decide_false, Int.cast_ofNat_Int, ↓reduceIte, resQ_tmp, resQ_cell, resQ_nil, retD_one, retD_two, retD_three, retD_none]; try simp [R.val, retD_one, retD_two, retD_three, retD_none])

def m70_L0 (N : Nat) (n242 : Nat) (c243 : List PV) : Nat → Int → Int → PV → PV → PV → PV → PV → Option (Int)
  | 0, _, _, _, _, _, _, _ => none
  | n + 1, x374, x375, p376, p377, p378, p379, p380 =>
    brn (decide (x375 < ((n242 : Nat) : Int))) (
      grd (0 ≤ x375 ∧ x375 < ((n242 : Nat) : Int)) <|
      grd (2 ≤ List.length (List.drop ((Int.toNat x375) * 2) c243)) <|
      getA2 (.agg (List.take 2 (List.drop ((Int.toNat x375) * 2) c243))) fun p386 p387 =>
      bnd' (m71 N (.agg [p376, p377, p378, p379, p380]) (.agg [p386, p387])) fun p388 =>
      getB p388 fun b391 =>
      brn b391 (
        m70_L0 N n242 c243 n x374 (IntKind.i64.wrap (x375 + 1)) p376 p377 p378 p379 p380) (
        bnd' (m98 N (.agg [p376, p377, p378, p379, p380]) (.agg [p386, p387])) fun p393 =>
        getA5 p393 fun p396 p397 p398 p399 p400 =>
        m70_L0 N n242 c243 n (IntKind.i64.wrap (x374 + 1)) (IntKind.i64.wrap (x375 + 1)) p396 p397 p398 p399 p400)) (
      some x374)
def m70 (N : Nat) (p240 : PV) : Option (PV) :=
  getL p240 fun n242 c243 =>
  bnd' (m97 N ) fun p266 =>
  getA5 p266 fun p269 p270 p271 p272 p273 =>
  bnd' (m70_L0 N n242 c243 N 0 0 p269 p270 p271 p272 p273) fun x401 =>
  some (.int .i64 x401)
theorem c70 (N : Nat) (p240 : PV) (r : PV)  (h : m70 N p240 = some r) : FnP Tryd.prog 70 [p240, (.fn 71 [])] r := by
  unfold m70 at h
  refine Fn_of (sz := 28) tab_ok [0, 1, 4, 5, 6, 8, 10, 11, 12, 13, 20] [.tmp 4] Tryd.func70 rfl rfl rfl (by simp) ?_
  simp only [initSt, initEnv, List.map_cons, List.map_nil, List.getD_cons_zero, List.getD_cons_succ, List.getD_nil]
  have hh := getL_some h; clear h; obtain ⟨n242, c243, h241, h⟩ := hh
  have hh := bnd'_some h; clear h; obtain ⟨p266, h267, h⟩ := hh
  refine W_sound tab_ok mixed 6 _ _ _ ?_
  simp -implicitDefEqProofs only [go_sem, ne_eq, not_false_eq_true, Nat.reduceBEq, Nat.reduceAdd, Nat.reduceSub, Nat.reduceMul, Nat.reduceLT, Nat.reduceLeDiff, Int.reduceLE, Int.reduceLT, Int.reduceToNat, Int.reduceBEq, Int.reduceBNe, Int.le_refl, Nat.le_refl, decide_true, decide_false, Int.cast_ofNat_Int, ↓reduceIte, h241]
  repeat with_reducible refine And.intro (by first | kernel_rfl | decide) ?_
  refine Wp_callP (c97 N  _ h267) (by kernel_rfl) rfl rfl rfl rfl (by decide) ?_
  have hh := getA5_some h; clear h; obtain ⟨p269, p270, p271, p272, p273, h268, h⟩ := hh
  refine W_sound tab_ok mixed 11 _ _ _ ?_
  simp -implicitDefEqProofs only [go_sem, ne_eq, not_false_eq_true, Nat.reduceBEq, Nat.reduceAdd, Nat.reduceSub, Nat.reduceMul, Nat.reduceLT, Nat.reduceLeDiff, Int.reduceLE, Int.reduceLT, Int.reduceToNat, Int.reduceBEq, Int.reduceBNe, Int.le_refl, Nat.le_refl, decide_true, decide_false, Int.cast_ofNat_Int, ↓reduceIte, h241, h268]
  repeat with_reducible refine And.intro (by first | kernel_rfl | decide) ?_
  have hh := bnd'_some h; clear h; obtain ⟨o402, h403, h404⟩ := hh
  refine Wp_cut (fun s => ∃ x401, x401 = o402 ∧ s = ⟨[], [(0, .dead), (1, .dead), (4, .dead), (5, .dead), (6, .v (.int .i64 x401)), (8, .dead), (10, .dead), (11, .dead), (12, .dead), (13, .dead), (20, .dead)], [], 0, []⟩) ?_ ?_
  · refine Wp_block ?_
    refine Wp_loopG (fun n s => ∃ x374, ∃ x375, ∃ p376, ∃ p377, ∃ p378, ∃ p379, ∃ p380, m70_L0 N n242 c243 n x374 x375 p376 p377 p378 p379 p380 = some o402 ∧ s = ⟨[], [(0, .dead), (1, .v (.fn 71 [])), (4, .dead), (5, .ptr 0 0), (6, .v (.int .i64 x374)), (8, .dead), (10, .v (.lst false n242 c243)), (11, .v (.int .i64 ((n242 : Nat) : Int))), (12, .v (.int .i64 x375)), (13, .dead), (20, .dead)], [(0, .p [p376, p377, p378, p379, p380])], 1, []⟩) N _ ((Wk_le (.cons _ _ _ _ _ (.dead _) (.cons _ _ _ _ _ (.refl _) (.cons _ _ _ _ _ (.dead _) (.cons _ _ _ _ _ (.refl _) (.cons _ _ _ _ _ (.refl _) (.cons _ _ _ _ _ (.refl _) (.cons _ _ _ _ _ (.refl _) (.cons _ _ _ _ _ (.refl _) (.cons _ _ _ _ _ (.refl _) (.cons _ _ _ _ _ (.refl _) (.cons _ _ _ _ _ (.refl _) .nil))))))))))) (OLe.refl _)).trans (cmpS_ok (st' := ⟨[], [(0, .dead), (1, .v (.fn 71 [])), (4, .dead), (5, .ptr 0 0), (6, .v (.int .i64 0)), (8, .dead), (10, .v (.lst false n242 c243)), (11, .v (.int .i64 ((n242 : Nat) : Int))), (12, .v (.int .i64 0)), (13, .dead), (20, .dead)], [(0, .p [p269, p270, p271, p272, p273])], 1, []⟩) (by kernel_rfl))) ⟨_, _, _, _, _, _, _, h403, rfl⟩ ?_
    clear h403
    rintro n _ ⟨x374, x375, p376, p377, p378, p379, p380, h403, rfl⟩
    cases n with
    | zero => cases h403
    | succ n =>
      rw [m70_L0] at h403
      have hh := brn_some h403; clear h403; rcases hh with ⟨h381, h403⟩ | ⟨h381, h403⟩
      · have hh := grd_some h403; clear h403; obtain ⟨⟨g382, g383⟩, h403⟩ := hh
        have hh := grd_some h403; clear h403; obtain ⟨g384, h403⟩ := hh
        have hh := getA2_some h403; clear h403; obtain ⟨p386, p387, h385, h403⟩ := hh
        injection h385 with h385
        have hh := bnd'_some h403; clear h403; obtain ⟨p388, h389, h403⟩ := hh
        refine W_sound tab_ok mixed 21 _ _ _ ?_
        simp -implicitDefEqProofs only [go_sem, ne_eq, not_false_eq_true, Nat.reduceBEq, Nat.reduceAdd, Nat.reduceSub, Nat.reduceMul, Nat.reduceLT, Nat.reduceLeDiff, Int.reduceLE, Int.reduceLT, Int.reduceToNat, Int.reduceBEq, Int.reduceBNe, Int.le_refl, Nat.le_refl, decide_true, decide_false, Int.cast_ofNat_Int, ↓reduceIte, h241, h268, h381, g382, g383, g384, h385]
        repeat with_reducible refine And.intro (by first | kernel_rfl | decide) ?_
        refine Wp_callP (c71 N _ _ _ h389) (by kernel_rfl) rfl rfl rfl rfl (by decide) ?_
        have hh := getB_some h403; clear h403; obtain ⟨b391, h390, h403⟩ := hh
        have hh := brn_some h403; clear h403; rcases hh with ⟨h392, h403⟩ | ⟨h392, h403⟩
        · refine W_sound tab_ok mixed 9 _ _ _ ?_
          simp -implicitDefEqProofs only [go_sem, ne_eq, not_false_eq_true, Nat.reduceBEq, Nat.reduceAdd, Nat.reduceSub, Nat.reduceMul, Nat.reduceLT, Nat.reduceLeDiff, Int.reduceLE, Int.reduceLT, Int.reduceToNat, Int.reduceBEq, Int.reduceBNe, Int.le_refl, Nat.le_refl, decide_true, decide_false, Int.cast_ofNat_Int, ↓reduceIte, h241, h268, h381, g382, g383, g384, h385, h390, h392]
          repeat with_reducible refine And.intro (by first | kernel_rfl | decide) ?_
          exact cutQ _ ((Wk_le (.cons _ _ _ _ _ (.refl _) (.cons _ _ _ _ _ (.refl _) (.cons _ _ _ _ _ (.refl _) (.cons _ _ _ _ _ (.refl _) (.cons _ _ _ _ _ (.refl _) (.cons _ _ _ _ _ (.dead _) (.cons _ _ _ _ _ (.refl _) (.cons _ _ _ _ _ (.refl _) (.cons _ _ _ _ _ (.refl _) (.cons _ _ _ _ _ (.dead _) (.cons _ _ _ _ _ (.dead _) .nil))))))))))) (OLe.refl _)).trans (cmpS_ok (st' := ⟨[], [(0, .dead), (1, .v (.fn 71 [])), (4, .dead), (5, .ptr 0 0), (6, .v (.int .i64 x374)), (8, .dead), (10, .v (.lst false n242 c243)), (11, .v (.int .i64 ((n242 : Nat) : Int))), (12, .v (.int .i64 (IntKind.i64.wrap (x375 + 1)))), (13, .dead), (20, .dead)], [(0, .p [p376, p377, p378, p379, p380])], 1, []⟩) (by kernel_rfl))) ⟨n, Nat.lt_succ_self n, _, _, _, _, _, _, _, h403, rfl⟩
        · have hh := bnd'_some h403; clear h403; obtain ⟨p393, h394, h403⟩ := hh
          refine W_sound tab_ok mixed 7 _ _ _ ?_
          simp -implicitDefEqProofs only [go_sem, ne_eq, not_false_eq_true, Nat.reduceBEq, Nat.reduceAdd, Nat.reduceSub, Nat.reduceMul, Nat.reduceLT, Nat.reduceLeDiff, Int.reduceLE, Int.reduceLT, Int.reduceToNat, Int.reduceBEq, Int.reduceBNe, Int.le_refl, Nat.le_refl, decide_true, decide_false, Int.cast_ofNat_Int, ↓reduceIte, h241, h268, h381, g382, g383, g384, h385, h390, h392]
          repeat with_reducible refine And.intro (by first | kernel_rfl | decide) ?_
          refine Wp_callP (c98 N _ _ _ h394) (by kernel_rfl) rfl rfl rfl rfl (by decide) ?_
          have hh := getA5_some h403; clear h403; obtain ⟨p396, p397, p398, p399, p400, h395, h403⟩ := hh
          refine W_sound tab_ok mixed 12 _ _ _ ?_
          simp -implicitDefEqProofs only [go_sem, ne_eq, not_false_eq_true, Nat.reduceBEq, Nat.reduceAdd, Nat.reduceSub, Nat.reduceMul, Nat.reduceLT, Nat.reduceLeDiff, Int.reduceLE, Int.reduceLT, Int.reduceToNat, Int.reduceBEq, Int.reduceBNe, Int.le_refl, Nat.le_refl, decide_true, decide_false, Int.cast_ofNat_Int, ↓reduceIte, h241, h268, h381, g382, g383, g384, h385, h390, h392, h395]
          repeat with_reducible refine And.intro (by first | kernel_rfl | decide) ?_
          exact cutQ _ ((Wk_le (.cons _ _ _ _ _ (.refl _) (.cons _ _ _ _ _ (.refl _) (.cons _ _ _ _ _ (.refl _) (.cons _ _ _ _ _ (.refl _) (.cons _ _ _ _ _ (.refl _) (.cons _ _ _ _ _ (.dead _) (.cons _ _ _ _ _ (.refl _) (.cons _ _ _ _ _ (.refl _) (.cons _ _ _ _ _ (.refl _) (.cons _ _ _ _ _ (.dead _) (.cons _ _ _ _ _ (.dead _) .nil))))))))))) (OLe.refl _)).trans (cmpS_ok (st' := ⟨[], [(0, .dead), (1, .v (.fn 71 [])), (4, .dead), (5, .ptr 0 0), (6, .v (.int .i64 (IntKind.i64.wrap (x374 + 1)))), (8, .dead), (10, .v (.lst false n242 c243)), (11, .v (.int .i64 ((n242 : Nat) : Int))), (12, .v (.int .i64 (IntKind.i64.wrap (x375 + 1)))), (13, .dead), (20, .dead)], [(0, .p [p396, p397, p398, p399, p400])], 1, []⟩) (by kernel_rfl))) ⟨n, Nat.lt_succ_self n, _, _, _, _, _, _, _, h403, rfl⟩
      · refine W_sound tab_ok mixed 7 _ _ _ ?_
        simp -implicitDefEqProofs only [go_sem, ne_eq, not_false_eq_true, Nat.reduceBEq, Nat.reduceAdd, Nat.reduceSub, Nat.reduceMul, Nat.reduceLT, Nat.reduceLeDiff, Int.reduceLE, Int.reduceLT, Int.reduceToNat, Int.reduceBEq, Int.reduceBNe, Int.le_refl, Nat.le_refl, decide_true, decide_false, Int.cast_ofNat_Int, ↓reduceIte, h241, h268, h381]
        repeat with_reducible refine And.intro (by first | kernel_rfl | decide) ?_
        obtain rfl := Option.some.inj h403
        exact cutQ _ ((Wk_le (.cons _ _ _ _ _ (.refl _) (.cons _ _ _ _ _ (.dead _) (.cons _ _ _ _ _ (.refl _) (.cons _ _ _ _ _ (.dead _) (.cons _ _ _ _ _ (.refl _) (.cons _ _ _ _ _ (.refl _) (.cons _ _ _ _ _ (.dead _) (.cons _ _ _ _ _ (.dead _) (.cons _ _ _ _ _ (.dead _) (.cons _ _ _ _ _ (.dead _) (.cons _ _ _ _ _ (.refl _) .nil))))))))))) (OLe.refl _)).trans (cmpS_ok (st' := ⟨[], [(0, .dead), (1, .dead), (4, .dead), (5, .dead), (6, .v (.int .i64 x374)), (8, .dead), (10, .dead), (11, .dead), (12, .dead), (13, .dead), (20, .dead)], [], 0, []⟩) (by kernel_rfl))) ⟨_, rfl, rfl⟩
  · rintro _ ⟨x401, rfl, rfl⟩
    refine W_sound tab_ok mixed 7 _ _ _ ?_
    simp -implicitDefEqProofs only [go_sem, ne_eq, not_false_eq_true, Nat.reduceBEq, Nat.reduceAdd, Nat.reduceSub, Nat.reduceMul, Nat.reduceLT, Nat.reduceLeDiff, Int.reduceLE, Int.reduceLT, Int.reduceToNat, Int.reduceBEq, Int.reduceBNe, Int.le_refl, Nat.le_refl, decide_true, decide_false, Int.cast_ofNat_Int, ↓reduceIte, h241, h268]
    repeat with_reducible refine And.intro (by first | kernel_rfl | decide) ?_
    obtain rfl := Option.some.inj h404
    exact finC [(4, .v (.int .i64 x401))] [(4, .v (.int .i64 x401))] (by simp [leE, lk_cons]) (.cons _ _ _ _ _ (.v _ _ (.refl _)) .nil) (by rfl) (by simp [leE, lk_cons]) (by decide) (by decide) rfl (by simp only [go_sem, ne_eq, not_false_eq_true, Nat.reduceBEq, Nat.reduceAdd, Nat.reduceSub, Nat.reduceMul, Nat.reduceLT, Nat.reduceLeDiff, Int.reduceLE, Int.reduceLT, Int.reduceToNat, Int.reduceBEq, Int.reduceBNe, Int.le_refl, Nat.le_refl, decide_true, decide_false, Int.cast_ofNat_Int, ↓reduceIte, resQ_tmp, resQ_cell, resQ_nil, retD_one, retD_two, retD_three, retD_none]; try simp [R.val, retD_one, retD_two, retD_three, retD_none])

def m64_L0 (N : Nat) (p174 : PV) (n177 : Nat) (c178 : List PV) : Nat → Nat → Int → PV → List PV → Option ((Nat × List PV))
  | 0, _, _, _, _ => none
  | n + 1, n215, x216, p217, c218 =>
    brn (decide (x216 < ((n177 : Nat) : Int))) (
      grd (0 ≤ x216 ∧ x216 < ((n177 : Nat) : Int)) <|
      grd (0 < List.length (List.drop (Int.toNat x216) c178)) <|
      getI .i64 (gp c178 (Int.toNat x216)) fun x224 =>
      getL p217 fun n226 c227 =>
      grd (0 ≤ x224 ∧ x224 < ((n226 : Nat) : Int)) <|
      grd (0 < List.length (List.drop (Int.toNat x224) c227)) <|
      getL (gp c227 (Int.toNat x224)) fun n232 c233 =>
      grd (List.length c233 = (n232 * 2)) <|
      grd ((n215 + n232) ≤ 1099511627776) <|
      grd (List.length c218 = (n215 * 2)) <|
      m64_L0 N p174 n177 c178 n (n215 + n232) (IntKind.i64.wrap (x216 + 1)) (.lst false n226 c227) (c218 ++ c233)) (
      some (n215, c218))
def m64 (N : Nat) (p171 : PV) (p172 : PV) : Option (PV) :=
  getA2 p171 fun p174 p175 =>
  getL p172 fun n177 c178 =>
  bnd' (m64_L0 N p174 n177 c178 N 0 0 p175 []) fun o =>
  match o with
  | (n237, c238) =>
    grd (List.length c238 = (n237 * 2)) <|
    bnd' (m70 N (.lst false n237 c238)) fun p405 =>
    getI .i64 p405 fun x408 =>
    some (.int .i64 x408)
theorem c64 (N : Nat) (p171 : PV) (p172 : PV) (r : PV)  (h : m64 N p171 p172 = some r) : FnP Tryd.prog 64 [p171, p172] r := by
  unfold m64 at h
  refine Fn_of (sz := 24) tab_ok [0, 1, 2, 4, 5, 7, 8, 9, 10, 11] [.tmp 4] Tryd.func64 rfl rfl rfl (by simp) ?_
  simp only [initSt, initEnv, List.map_cons, List.map_nil, List.getD_cons_zero, List.getD_cons_succ, List.getD_nil]
  have hh := getA2_some h; clear h; obtain ⟨p174, p175, h173, h⟩ := hh
  have hh := getL_some h; clear h; obtain ⟨n177, c178, h176, h⟩ := hh
  refine W_sound tab_ok mixed 16 _ _ _ ?_
  simp -implicitDefEqProofs only [go_sem, ne_eq, not_false_eq_true, Nat.reduceBEq, Nat.reduceAdd, Nat.reduceSub, Nat.reduceMul, Nat.reduceLT, Nat.reduceLeDiff, Int.reduceLE, Int.reduceLT, Int.reduceToNat, Int.reduceBEq, Int.reduceBNe, Int.le_refl, Nat.le_refl, decide_true, decide_false, Int.cast_ofNat_Int, ↓reduceIte, h173, h176]
  repeat with_reducible refine And.intro (by first | kernel_rfl | decide) ?_
  refine Wp_weaken (Wk_ownS 5 2 rfl (by decide) (by decide)) ?_
  simp -implicitDefEqProofs only [go_sem, ne_eq, not_false_eq_true, Nat.reduceBEq, Nat.reduceAdd, Nat.reduceSub, Nat.reduceMul, Nat.reduceLT, Nat.reduceLeDiff, Int.reduceLE, Int.reduceLT, Int.reduceToNat, Int.reduceBEq, Int.reduceBNe, Int.le_refl, Nat.le_refl, decide_true, decide_false, Int.cast_ofNat_Int, ↓reduceIte, h173, h176]
  have hh := bnd'_some h; clear h; obtain ⟨o409, h410, h411⟩ := hh
  refine Wp_cut (fun s => ∃ n237, ∃ c238, (n237, c238) = o409 ∧ s = ⟨[], [(0, .dead), (1, .dead), (2, .dead), (4, .dead), (5, .sl false 0 0 n237 2), (7, .dead), (8, .dead), (9, .dead), (10, .dead), (11, .dead)], [(0, .p c238)], 1, []⟩) ?_ ?_
  · refine Wp_block ?_
    refine Wp_loopG (fun n s => ∃ n215, ∃ x216, ∃ p217, ∃ c218, m64_L0 N p174 n177 c178 n n215 x216 p217 c218 = some o409 ∧ s = ⟨[], [(0, .dead), (1, .dead), (2, .ptr 0 0), (4, .dead), (5, .sl false 1 0 n215 2), (7, .dead), (8, .v (.lst false n177 c178)), (9, .v (.int .i64 ((n177 : Nat) : Int))), (10, .v (.int .i64 x216)), (11, .dead)], [(0, .p [p174, p217]), (1, .p c218)], 2, []⟩) N _ ((Wk_le (.cons _ _ _ _ _ (.dead _) (.cons _ _ _ _ _ (.dead _) (.cons _ _ _ _ _ (.refl _) (.cons _ _ _ _ _ (.dead _) (.cons _ _ _ _ _ (.refl _) (.cons _ _ _ _ _ (.refl _) (.cons _ _ _ _ _ (.refl _) (.cons _ _ _ _ _ (.refl _) (.cons _ _ _ _ _ (.refl _) (.cons _ _ _ _ _ (.refl _) .nil)))))))))) (OLe.refl _)).trans (cmpS_ok rfl)) ⟨_, _, _, _, h410, rfl⟩ ?_
    clear h410
    rintro n _ ⟨n215, x216, p217, c218, h410, rfl⟩
    cases n with
    | zero => cases h410
    | succ n =>
      rw [m64_L0] at h410
      have hh := brn_some h410; clear h410; rcases hh with ⟨h219, h410⟩ | ⟨h219, h410⟩
      · have hh := grd_some h410; clear h410; obtain ⟨⟨g220, g221⟩, h410⟩ := hh
        have hh := grd_some h410; clear h410; obtain ⟨g222, h410⟩ := hh
        have hh := getI_some h410; clear h410; obtain ⟨x224, h223, h410⟩ := hh
        have hh := getL_some h410; clear h410; obtain ⟨n226, c227, h225, h410⟩ := hh
        have hh := grd_some h410; clear h410; obtain ⟨⟨g228, g229⟩, h410⟩ := hh
        have hh := grd_some h410; clear h410; obtain ⟨g230, h410⟩ := hh
        have hh := getL_some h410; clear h410; obtain ⟨n232, c233, h231, h410⟩ := hh
        have hh := grd_some h410; clear h410; obtain ⟨g234, h410⟩ := hh
        have hh := grd_some h410; clear h410; obtain ⟨g235, h410⟩ := hh
        have hh := grd_some h410; clear h410; obtain ⟨g236, h410⟩ := hh
        refine W_sound tab_ok mixed 30 _ _ _ ?_
        simp -implicitDefEqProofs only [go_sem, ne_eq, not_false_eq_true, Nat.reduceBEq, Nat.reduceAdd, Nat.reduceSub, Nat.reduceMul, Nat.reduceLT, Nat.reduceLeDiff, Int.reduceLE, Int.reduceLT, Int.reduceToNat, Int.reduceBEq, Int.reduceBNe, Int.le_refl, Nat.le_refl, decide_true, decide_false, Int.cast_ofNat_Int, ↓reduceIte, h173, h176, h219, g220, g221, g222, h223, h225, g228, g229, g230, h231, g234, g235, g236]
        repeat with_reducible refine And.intro (by first | kernel_rfl | decide) ?_
        exact cutQ _ ((Wk_le (.cons _ _ _ _ _ (.refl _) (.cons _ _ _ _ _ (.refl _) (.cons _ _ _ _ _ (.refl _) (.cons _ _ _ _ _ (.refl _) (.cons _ _ _ _ _ (.refl _) (.cons _ _ _ _ _ (.dead _) (.cons _ _ _ _ _ (.refl _) (.cons _ _ _ _ _ (.refl _) (.cons _ _ _ _ _ (.refl _) (.cons _ _ _ _ _ (.dead _) .nil)))))))))) (OLe.refl _)).trans (cmpS_ok rfl)) ⟨n, Nat.lt_succ_self n, _, _, _, _, h410, rfl⟩
      · refine W_sound tab_ok mixed 7 _ _ _ ?_
        simp -implicitDefEqProofs only [go_sem, ne_eq, not_false_eq_true, Nat.reduceBEq, Nat.reduceAdd, Nat.reduceSub, Nat.reduceMul, Nat.reduceLT, Nat.reduceLeDiff, Int.reduceLE, Int.reduceLT, Int.reduceToNat, Int.reduceBEq, Int.reduceBNe, Int.le_refl, Nat.le_refl, decide_true, decide_false, Int.cast_ofNat_Int, ↓reduceIte, h173, h176, h219]
        repeat with_reducible refine And.intro (by first | kernel_rfl | decide) ?_
        obtain rfl := Option.some.inj h410
        exact cutQ _ ((Wk_le (.cons _ _ _ _ _ (.refl _) (.cons _ _ _ _ _ (.refl _) (.cons _ _ _ _ _ (.dead _) (.cons _ _ _ _ _ (.refl _) (.cons _ _ _ _ _ (.refl _) (.cons _ _ _ _ _ (.refl _) (.cons _ _ _ _ _ (.dead _) (.cons _ _ _ _ _ (.dead _) (.cons _ _ _ _ _ (.dead _) (.cons _ _ _ _ _ (.dead _) .nil)))))))))) (OLe.refl _)).trans (cmpS_ok rfl)) ⟨_, _, rfl, rfl⟩
  · rintro _ ⟨n237, c238, rfl, rfl⟩
    (try dsimp only at h411)
    refine W_sound tab_ok mixed 1 _ _ _ ?_
    simp -implicitDefEqProofs only [go_sem, ne_eq, not_false_eq_true, Nat.reduceBEq, Nat.reduceAdd, Nat.reduceSub, Nat.reduceMul, Nat.reduceLT, Nat.reduceLeDiff, Int.reduceLE, Int.reduceLT, Int.reduceToNat, Int.reduceBEq, Int.reduceBNe, Int.le_refl, Nat.le_refl, decide_true, decide_false, Int.cast_ofNat_Int, ↓reduceIte, h173, h176]
    repeat with_reducible refine And.intro (by first | kernel_rfl | decide) ?_
    have hh := grd_some h411; clear h411; obtain ⟨g239, h411⟩ := hh
    refine Wp_wkK (Wk_freeze 0 c238 (by rfl) (by decide) (by decide)) rfl ?_
    simp -implicitDefEqProofs only [go_sem, ne_eq, not_false_eq_true, Nat.reduceBEq, Nat.reduceAdd, Nat.reduceSub, Nat.reduceMul, Nat.reduceLT, Nat.reduceLeDiff, Int.reduceLE, Int.reduceLT, Int.reduceToNat, Int.reduceBEq, Int.reduceBNe, Int.le_refl, Nat.le_refl, decide_true, decide_false, Int.cast_ofNat_Int, ↓reduceIte, h173, h176, g239]
    have hh := bnd'_some h411; clear h411; obtain ⟨p405, h406, h411⟩ := hh
    refine W_sound tab_ok mixed 2 _ _ _ ?_
    simp -implicitDefEqProofs only [go_sem, ne_eq, not_false_eq_true, Nat.reduceBEq, Nat.reduceAdd, Nat.reduceSub, Nat.reduceMul, Nat.reduceLT, Nat.reduceLeDiff, Int.reduceLE, Int.reduceLT, Int.reduceToNat, Int.reduceBEq, Int.reduceBNe, Int.le_refl, Nat.le_refl, decide_true, decide_false, Int.cast_ofNat_Int, ↓reduceIte, h173, h176, g239]
    repeat with_reducible refine And.intro (by first | kernel_rfl | decide) ?_
    refine Wp_callP (c70 N _ _ h406) (by kernel_rfl) rfl rfl rfl rfl (by decide) ?_
    have hh := getI_some h411; clear h411; obtain ⟨x408, h407, h411⟩ := hh
    refine W_sound tab_ok mixed 4 _ _ _ ?_
    simp -implicitDefEqProofs only [go_sem, ne_eq, not_false_eq_true, Nat.reduceBEq, Nat.reduceAdd, Nat.reduceSub, Nat.reduceMul, Nat.reduceLT, Nat.reduceLeDiff, Int.reduceLE, Int.reduceLT, Int.reduceToNat, Int.reduceBEq, Int.reduceBNe, Int.le_refl, Nat.le_refl, decide_true, decide_false, Int.cast_ofNat_Int, ↓reduceIte, h173, h176, g239, h407]
    repeat with_reducible refine And.intro (by first | kernel_rfl | decide) ?_
    obtain rfl := Option.some.inj h411
    exact finC [(4, .v (.int .i64 x408))] [(4, .v (.int .i64 x408))] (by simp [leE, lk_cons]) (.cons _ _ _ _ _ (.v _ _ (.refl _)) .nil) (by rfl) (by simp [leE, lk_cons]) (by decide) (by decide) rfl (by simp only [go_sem, ne_eq, not_false_eq_true, Nat.reduceBEq, Nat.reduceAdd, Nat.reduceSub, Nat.reduceMul, Nat.reduceLT, Nat.reduceLeDiff, Int.reduceLE, Int.reduceLT, Int.reduceToNat, Int.reduceBEq, Int.reduceBNe, Int.le_refl, Nat.le_refl, decide_true, decide_false, Int.cast_ofNat_Int, ↓reduceIte, resQ_tmp, resQ_cell, resQ_nil, retD_one, retD_two, retD_three, retD_none]; try simp [R.val, retD_one, retD_two, retD_three, retD_none])

def m17 (N : Nat) (p1 : PV) (p2 : PV) : Option (PV) :=
  getA2 p1 fun p4 p5 =>
  getL p2 fun n7 c8 =>
  bnd' (m63 N (.agg [p4, p5]) (.lst false n7 c8)) fun p166 =>
  getI .i64 p166 fun x169 =>
  brn (x169 != 0) (
    some (.tup [(.int .i64 0), (.int .i64 x169)])) (
    bnd' (m64 N (.agg [p4, p5]) (.lst false n7 c8)) fun p412 =>
    getI .i64 p412 fun x415 =>
    some (.tup [(.int .i64 x415), (.int .i64 0)]))
theorem c17 (N : Nat) (p1 : PV) (p2 : PV) (r : PV)  (h : m17 N p1 p2 = some r) : FnP Tryd.prog 17 [p1, p2] r := by
  unfold m17 at h
  refine Fn_of (sz := 16) tab_ok [0, 1, 2, 4, 5, 6, 11] [.tmp 4, .tmp 5] Tryd.func17 rfl rfl rfl (by simp) ?_
  simp only [initSt, initEnv, List.map_cons, List.map_nil, List.getD_cons_zero, List.getD_cons_succ, List.getD_nil]
  have hh := getA2_some h; clear h; obtain ⟨p4, p5, h3, h⟩ := hh
  have hh := getL_some h; clear h; obtain ⟨n7, c8, h6, h⟩ := hh
  have hh := bnd'_some h; clear h; obtain ⟨p166, h167, h⟩ := hh
  refine W_sound tab_ok mixed 11 _ _ _ ?_
  simp -implicitDefEqProofs only [go_sem, ne_eq, not_false_eq_true, Nat.reduceBEq, Nat.reduceAdd, Nat.reduceSub, Nat.reduceMul, Nat.reduceLT, Nat.reduceLeDiff, Int.reduceLE, Int.reduceLT, Int.reduceToNat, Int.reduceBEq, Int.reduceBNe, Int.le_refl, Nat.le_refl, decide_true, decide_false, Int.cast_ofNat_Int, ↓reduceIte, h3, h6]
  repeat with_reducible refine And.intro (by first | kernel_rfl | decide) ?_
  refine Wp_callP (c63 N _ _ _ h167) (by kernel_rfl) rfl rfl rfl rfl (by decide) ?_
  have hh := getI_some h; clear h; obtain ⟨x169, h168, h⟩ := hh
  have hh := brn_some h; clear h; rcases hh with ⟨h170, h⟩ | ⟨h170, h⟩
  · refine W_sound tab_ok mixed 16 _ _ _ ?_
    simp -implicitDefEqProofs only [go_sem, ne_eq, not_false_eq_true, Nat.reduceBEq, Nat.reduceAdd, Nat.reduceSub, Nat.reduceMul, Nat.reduceLT, Nat.reduceLeDiff, Int.reduceLE, Int.reduceLT, Int.reduceToNat, Int.reduceBEq, Int.reduceBNe, Int.le_refl, Nat.le_refl, decide_true, decide_false, Int.cast_ofNat_Int, ↓reduceIte, h3, h6, h168, h170]
    repeat with_reducible refine And.intro (by first | kernel_rfl | decide) ?_
    obtain rfl := Option.some.inj h
    exact finC [(4, .v (.int .i64 0)), (5, .v (.int .i64 x169))] [(4, .v (.int .i64 0)), (5, .v (.int .i64 x169))] (by simp [leE, lk_cons]) (.cons _ _ _ _ _ (.v _ _ (.refl _)) (.cons _ _ _ _ _ (.v _ _ (.refl _)) .nil)) (by rfl) (by simp [leE, lk_cons]) (by decide) (by decide) rfl (by simp only [go_sem, ne_eq, not_false_eq_true, Nat.reduceBEq, Nat.reduceAdd, Nat.reduceSub, Nat.reduceMul, Nat.reduceLT, Nat.reduceLeDiff, Int.reduceLE, Int.reduceLT, Int.reduceToNat, Int.reduceBEq, Int.reduceBNe, Int.le_refl, Nat.le_refl, decide_true, decide_false, Int.cast_ofNat_Int, ↓reduceIte, resQ_tmp, resQ_cell, resQ_nil, retD_one, retD_two, retD_three, retD_none]; try simp [R.val, retD_one, retD_two, retD_three, retD_none])
  · have hh := bnd'_some h; clear h; obtain ⟨p412, h413, h⟩ := hh
    refine W_sound tab_ok mixed 13 _ _ _ ?_
    simp -implicitDefEqProofs only [go_sem, ne_eq, not_false_eq_true, Nat.reduceBEq, Nat.reduceAdd, Nat.reduceSub, Nat.reduceMul, Nat.reduceLT, Nat.reduceLeDiff, Int.reduceLE, Int.reduceLT, Int.reduceToNat, Int.reduceBEq, Int.reduceBNe, Int.le_refl, Nat.le_refl, decide_true, decide_false, Int.cast_ofNat_Int, ↓reduceIte, h3, h6, h168, h170]
    repeat with_reducible refine And.intro (by first | kernel_rfl | decide) ?_
    refine Wp_callP (c64 N _ _ _ h413) (by kernel_rfl) rfl rfl rfl rfl (by decide) ?_
    have hh := getI_some h; clear h; obtain ⟨x415, h414, h⟩ := hh
    refine W_sound tab_ok mixed 5 _ _ _ ?_
    simp -implicitDefEqProofs only [go_sem, ne_eq, not_false_eq_true, Nat.reduceBEq, Nat.reduceAdd, Nat.reduceSub, Nat.reduceMul, Nat.reduceLT, Nat.reduceLeDiff, Int.reduceLE, Int.reduceLT, Int.reduceToNat, Int.reduceBEq, Int.reduceBNe, Int.le_refl, Nat.le_refl, decide_true, decide_false, Int.cast_ofNat_Int, ↓reduceIte, h3, h6, h168, h170, h414]
    repeat with_reducible refine And.intro (by first | kernel_rfl | decide) ?_
    obtain rfl := Option.some.inj h
    exact finC [(4, .v (.int .i64 x415)), (5, .v (.int .i64 0))] [(4, .v (.int .i64 x415)), (5, .v (.int .i64 0))] (by simp [leE, lk_cons]) (.cons _ _ _ _ _ (.v _ _ (.refl _)) (.cons _ _ _ _ _ (.v _ _ (.refl _)) .nil)) (by rfl) (by simp [leE, lk_cons]) (by decide) (by decide) rfl (by simp only [go_sem, ne_eq, not_false_eq_true, Nat.reduceBEq, Nat.reduceAdd, Nat.reduceSub, Nat.reduceMul, Nat.reduceLT, Nat.reduceLeDiff, Int.reduceLE, Int.reduceLT, Int.reduceToNat, Int.reduceBEq, Int.reduceBNe, Int.le_refl, Nat.le_refl, decide_true, decide_false, Int.cast_ofNat_Int, ↓reduceIte, resQ_tmp, resQ_cell, resQ_nil, retD_one, retD_two, retD_three, retD_none]; try simp [R.val, retD_one, retD_two, retD_three, retD_none])
end Go.Proofs.YtnponojgpkbagaaDoor
