/-
  Models and laws.
-/
import Derived.Test.YtnponojgpkbagaaDoorB
import Derived.Test.YtnponojgpkbagaaDoorV35
namespace Go.Proofs.YtnponojgpkbagaaDoor
open Go.V
set_option maxRecDepth 100000
set_option maxHeartbeats 4000000
set_option linter.unusedSimpArgs false
set_option linter.unusedVariables false
attribute [local go_sem] tl1 tl2 tl3 tl4 tl5 tl9 tl17 tl21 tl22 tl23 tl24 tl25 tl26 tl27 tl28 tl29 tl31 tl32 tl34 tl35 tl36 tl37 tl38 tl39 tl40 tl41 tl42 tl43 tl44 tl45 tl47 tl48 tl49 tl50 tl51 tl52 tl53 tl54 tl55 tl56 tl57 tl58 tl59 tl60 tl61 tl62 tl63 tl64 tl65 tl66 tl67 tl68 tl69 tl70 tl71 tl72 tl73 tl74 tl75 tl76 tl77 tl78 tl79 tl80 tl81 tl82 tl83 tl84 tl85 tl86 tl87 tl88 tl89 tl90 tl92 tl94 tl95 tl96 tl97 tl98 tl99 tl100 tl101 tl102 tl103 tl104 tl105 tl106 tl107 tl108 tl109 tl110 tl111 tl112 tl113 tl114 tl115 tl116 tl118 tl119 tl121 tl122 tl123 tl124 tl125 tl126 tl127 tl128 tl129 tl131 tl133 tl134 tl135 tl136 tl142 tl146
def getA5 {α : Type} (p : PV) (k : PV → PV → PV → PV → PV → Option α) : Option α := match p with | .agg [a0, a1, a2, a3, a4] => k a0 a1 a2 a3 a4 | _ => none
theorem getA5_some {α : Type} {p : PV} {k : PV → PV → PV → PV → PV → Option α} {r : α} (h : getA5 p k = some r) : ∃ a0 a1 a2 a3 a4, p = .agg [a0, a1, a2, a3, a4] ∧ k a0 a1 a2 a3 a4 = some r := by
  unfold getA5 at h; split at h
  · exact ⟨_, _, _, _, _, rfl, h⟩
  · cases h

def m93_L0 (N : Nat) (n66 : Nat) (c67 : List PV) : Nat → Int → PV → PV → Option ((PV ⊕ Unit))
  | 0, _, _, _ => none
  | n + 1, x88, p89, p90 =>
    brn (decide (x88 < ((n66 : Nat) : Int))) (
      grd (0 ≤ x88 ∧ x88 < ((n66 : Nat) : Int)) <|
      grd (2 ≤ List.length (List.drop ((Int.toNat x88) * 2) c67)) <|
      getA2 (.agg (List.take 2 (List.drop ((Int.toNat x88) * 2) c67))) fun p96 p97 =>
      getI .i64 p90 fun x99 =>
      getI .i64 p97 fun x101 =>
      getI .i64 p89 fun x103 =>
      getI .i64 p96 fun x105 =>
      brn ((x103 == x105) && (x99 == x101)) (
        some (.inl (.int .i64 x88))) (
        m93_L0 N n66 c67 n (IntKind.i64.wrap (x88 + 1)) (.int .i64 x103) (.int .i64 x99))) (
      some (.inr ()))
def m93 (N : Nat) (p63 : PV) (p64 : PV) : Option (PV) :=
  getL p63 fun n66 c67 =>
  getA2 p64 fun p69 p70 =>
  bnd' (m93_L0 N n66 c67 N 0 p69 p70) fun o =>
  match o with
  | .inl p107 =>
    some p107
  | .inr () =>
    some (.int .i64 (-1))
theorem c93 (N : Nat) (p63 : PV) (p64 : PV) (r : PV)  (h : m93 N p63 p64 = some r) : FnP Tryd.prog 93 [p63, p64] r := by
  unfold m93 at h
  refine Fn_of (sz := 19) tab_ok [0, 1, 3, 4, 5, 7, 8, 9, 16] [.tmp 4] Tryd.func93 rfl rfl rfl (by simp) ?_
  simp only [initSt, initEnv, List.map_cons, List.map_nil, List.getD_cons_zero, List.getD_cons_succ, List.getD_nil]
  have hh := getL_some h; clear h; obtain ⟨n66, c67, h65, h⟩ := hh
  have hh := getA2_some h; clear h; obtain ⟨p69, p70, h68, h⟩ := hh
  refine W_sound tab_ok mixed 12 _ _ _ ?_
  simp -implicitDefEqProofs only [go_sem, ne_eq, not_false_eq_true, Nat.reduceBEq, Nat.reduceAdd, Nat.reduceSub, Nat.reduceMul, Nat.reduceLT, Nat.reduceLeDiff, Int.reduceLE, Int.reduceLT, Int.reduceToNat, Int.reduceBEq, Int.reduceBNe, Int.le_refl, Nat.le_refl, decide_true, decide_false, Int.cast_ofNat_Int, ↓reduceIte, h65, h68]
  repeat with_reducible refine And.intro (by first | kernel_rfl | decide) ?_
  have hh := bnd'_some h; clear h; obtain ⟨o108, h109, h110⟩ := hh
  refine Wp_cut (fun s => (.inr ()) = o108 ∧ s = ⟨[], [(0, .dead), (1, .dead), (3, .dead), (4, .dead), (5, .dead), (7, .dead), (8, .dead), (9, .dead), (16, .dead)], [], 0, []⟩) ?_ ?_
  · refine Wp_block ?_
    refine Wp_loopG (fun n s => ∃ x88, ∃ p89, ∃ p90, m93_L0 N n66 c67 n x88 p89 p90 = some o108 ∧ s = ⟨[], [(0, .v (.lst false n66 c67)), (1, .dead), (3, .ptr 0 0), (4, .dead), (5, .dead), (7, .v (.int .i64 ((n66 : Nat) : Int))), (8, .v (.int .i64 x88)), (9, .dead), (16, .dead)], [(0, .p [p89, p90])], 1, []⟩) N _ ((Wk_le (.cons _ _ _ _ _ (.refl _) (.cons _ _ _ _ _ (.dead _) (.cons _ _ _ _ _ (.refl _) (.cons _ _ _ _ _ (.dead _) (.cons _ _ _ _ _ (.refl _) (.cons _ _ _ _ _ (.refl _) (.cons _ _ _ _ _ (.refl _) (.cons _ _ _ _ _ (.refl _) (.cons _ _ _ _ _ (.refl _) .nil))))))))) (OLe.refl _)).trans (cmpS_ok rfl)) ⟨_, _, _, h109, rfl⟩ ?_
    clear h109
    rintro n _ ⟨x88, p89, p90, h109, rfl⟩
    cases n with
    | zero => cases h109
    | succ n =>
      rw [m93_L0] at h109
      have hh := brn_some h109; clear h109; rcases hh with ⟨h91, h109⟩ | ⟨h91, h109⟩
      · have hh := grd_some h109; clear h109; obtain ⟨⟨g92, g93⟩, h109⟩ := hh
        have hh := grd_some h109; clear h109; obtain ⟨g94, h109⟩ := hh
        have hh := getA2_some h109; clear h109; obtain ⟨p96, p97, h95, h109⟩ := hh
        injection h95 with h95
        have hh := getI_some h109; clear h109; obtain ⟨x99, h98, h109⟩ := hh
        have hh := getI_some h109; clear h109; obtain ⟨x101, h100, h109⟩ := hh
        have hh := getI_some h109; clear h109; obtain ⟨x103, h102, h109⟩ := hh
        have hh := getI_some h109; clear h109; obtain ⟨x105, h104, h109⟩ := hh
        have hh := brn_some h109; clear h109; rcases hh with ⟨h106, h109⟩ | ⟨h106, h109⟩
        · refine W_sound tab_ok mixed 31 _ _ _ ?_
          simp -implicitDefEqProofs only [go_sem, ne_eq, not_false_eq_true, Nat.reduceBEq, Nat.reduceAdd, Nat.reduceSub, Nat.reduceMul, Nat.reduceLT, Nat.reduceLeDiff, Int.reduceLE, Int.reduceLT, Int.reduceToNat, Int.reduceBEq, Int.reduceBNe, Int.le_refl, Nat.le_refl, decide_true, decide_false, Int.cast_ofNat_Int, ↓reduceIte, h65, h68, h91, g92, g93, g94, h95, h98, h100, h102, h104, h106]
          repeat with_reducible refine And.intro (by first | kernel_rfl | decide) ?_
          obtain rfl := Option.some.inj h109
          (try dsimp only at h110)
          obtain rfl := Option.some.inj h110
          exact finC [(4, .v (.int .i64 x88))] [(4, .v (.int .i64 x88))] (by simp [leE, lk_cons]) (.cons _ _ _ _ _ (.v _ _ (.refl _)) .nil) (by rfl) (by simp [leE, lk_cons]) (by decide) (by decide) rfl (by simp only [go_sem, ne_eq, not_false_eq_true, Nat.reduceBEq, Nat.reduceAdd, Nat.reduceSub, Nat.reduceMul, Nat.reduceLT, Nat.reduceLeDiff, Int.reduceLE, Int.reduceLT, Int.reduceToNat, Int.reduceBEq, Int.reduceBNe, Int.le_refl, Nat.le_refl, decide_true, decide_false, Int.cast_ofNat_Int, ↓reduceIte, resQ_tmp, resQ_cell, resQ_nil, retD_one, retD_two, retD_three, retD_none]; try simp [R.val, retD_one, retD_two, retD_three, retD_none])
        · refine W_sound tab_ok mixed 30 _ _ _ ?_
          simp -implicitDefEqProofs only [go_sem, ne_eq, not_false_eq_true, Nat.reduceBEq, Nat.reduceAdd, Nat.reduceSub, Nat.reduceMul, Nat.reduceLT, Nat.reduceLeDiff, Int.reduceLE, Int.reduceLT, Int.reduceToNat, Int.reduceBEq, Int.reduceBNe, Int.le_refl, Nat.le_refl, decide_true, decide_false, Int.cast_ofNat_Int, ↓reduceIte, h65, h68, h91, g92, g93, g94, h95, h98, h100, h102, h104, h106]
          repeat with_reducible refine And.intro (by first | kernel_rfl | decide) ?_
          exact cutQ _ ((Wk_le (.cons _ _ _ _ _ (.refl _) (.cons _ _ _ _ _ (.refl _) (.cons _ _ _ _ _ (.refl _) (.cons _ _ _ _ _ (.refl _) (.cons _ _ _ _ _ (.dead _) (.cons _ _ _ _ _ (.refl _) (.cons _ _ _ _ _ (.refl _) (.cons _ _ _ _ _ (.dead _) (.cons _ _ _ _ _ (.dead _) .nil))))))))) (OLe.refl _)).trans (cmpS_ok rfl)) ⟨n, Nat.lt_succ_self n, _, _, _, h109, rfl⟩
      · refine W_sound tab_ok mixed 7 _ _ _ ?_
        simp -implicitDefEqProofs only [go_sem, ne_eq, not_false_eq_true, Nat.reduceBEq, Nat.reduceAdd, Nat.reduceSub, Nat.reduceMul, Nat.reduceLT, Nat.reduceLeDiff, Int.reduceLE, Int.reduceLT, Int.reduceToNat, Int.reduceBEq, Int.reduceBNe, Int.le_refl, Nat.le_refl, decide_true, decide_false, Int.cast_ofNat_Int, ↓reduceIte, h65, h68, h91]
        repeat with_reducible refine And.intro (by first | kernel_rfl | decide) ?_
        obtain rfl := Option.some.inj h109
        exact cutQ _ ((Wk_le (.cons _ _ _ _ _ (.dead _) (.cons _ _ _ _ _ (.refl _) (.cons _ _ _ _ _ (.dead _) (.cons _ _ _ _ _ (.refl _) (.cons _ _ _ _ _ (.refl _) (.cons _ _ _ _ _ (.dead _) (.cons _ _ _ _ _ (.dead _) (.cons _ _ _ _ _ (.dead _) (.cons _ _ _ _ _ (.refl _) .nil))))))))) (OLe.refl _)).trans (cmpS_ok rfl)) ⟨rfl, rfl⟩
  · rintro _ ⟨rfl, rfl⟩
    (try dsimp only at h110)
    refine W_sound tab_ok mixed 6 _ _ _ ?_
    simp -implicitDefEqProofs only [go_sem, ne_eq, not_false_eq_true, Nat.reduceBEq, Nat.reduceAdd, Nat.reduceSub, Nat.reduceMul, Nat.reduceLT, Nat.reduceLeDiff, Int.reduceLE, Int.reduceLT, Int.reduceToNat, Int.reduceBEq, Int.reduceBNe, Int.le_refl, Nat.le_refl, decide_true, decide_false, Int.cast_ofNat_Int, ↓reduceIte, h65, h68]
    repeat with_reducible refine And.intro (by first | kernel_rfl | decide) ?_
    obtain rfl := Option.some.inj h110
    exact finC [(4, .v (.int .i64 (-1)))] [(4, .v (.int .i64 (-1)))] (by simp [leE, lk_cons]) (.cons _ _ _ _ _ (.v _ _ (.refl _)) .nil) (by rfl) (by simp [leE, lk_cons]) (by decide) (by decide) rfl (by simp only [go_sem, ne_eq, not_false_eq_true, Nat.reduceBEq, Nat.reduceAdd, Nat.reduceSub, Nat.reduceMul, Nat.reduceLT, Nat.reduceLeDiff, Int.reduceLE, Int.reduceLT, Int.reduceToNat, Int.reduceBEq, Int.reduceBNe, Int.le_refl, Nat.le_refl, decide_true, decide_false, Int.cast_ofNat_Int, ↓reduceIte, resQ_tmp, resQ_cell, resQ_nil, retD_one, retD_two, retD_three, retD_none]; try simp [R.val, retD_one, retD_two, retD_three, retD_none])

def m51 (N : Nat) (p55 : PV) (p56 : PV) : Option (PV) :=
  getL p55 fun n58 c59 =>
  getA2 p56 fun p61 p62 =>
  bnd' (m93 N (.lst false n58 c59) (.agg [p61, p62])) fun p111 =>
  getI .i64 p111 fun x114 =>
  some (.bool (decide (x114 ≥ 0)))
theorem c51 (N : Nat) (p55 : PV) (p56 : PV) (r : PV)  (h : m51 N p55 p56 = some r) : FnP Tryd.prog 51 [p55, p56] r := by
  unfold m51 at h
  refine Fn_of (sz := 9) tab_ok [0, 1, 3, 4] [.tmp 4] Tryd.func51 rfl rfl rfl (by simp) ?_
  simp only [initSt, initEnv, List.map_cons, List.map_nil, List.getD_cons_zero, List.getD_cons_succ, List.getD_nil]
  have hh := getL_some h; clear h; obtain ⟨n58, c59, h57, h⟩ := hh
  have hh := getA2_some h; clear h; obtain ⟨p61, p62, h60, h⟩ := hh
  have hh := bnd'_some h; clear h; obtain ⟨p111, h112, h⟩ := hh
  refine W_sound tab_ok mixed 9 _ _ _ ?_
  simp -implicitDefEqProofs only [go_sem, ne_eq, not_false_eq_true, Nat.reduceBEq, Nat.reduceAdd, Nat.reduceSub, Nat.reduceMul, Nat.reduceLT, Nat.reduceLeDiff, Int.reduceLE, Int.reduceLT, Int.reduceToNat, Int.reduceBEq, Int.reduceBNe, Int.le_refl, Nat.le_refl, decide_true, decide_false, Int.cast_ofNat_Int, ↓reduceIte, h57, h60]
  repeat with_reducible refine And.intro (by first | kernel_rfl | decide) ?_
  refine Wp_callP (c93 N _ _ _ h112) (by kernel_rfl) rfl rfl rfl rfl (by decide) ?_
  have hh := getI_some h; clear h; obtain ⟨x114, h113, h⟩ := hh
  refine W_sound tab_ok mixed 5 _ _ _ ?_
  simp -implicitDefEqProofs only [go_sem, ne_eq, not_false_eq_true, Nat.reduceBEq, Nat.reduceAdd, Nat.reduceSub, Nat.reduceMul, Nat.reduceLT, Nat.reduceLeDiff, Int.reduceLE, Int.reduceLT, Int.reduceToNat, Int.reduceBEq, Int.reduceBNe, Int.le_refl, Nat.le_refl, decide_true, decide_false, Int.cast_ofNat_Int, ↓reduceIte, h57, h60, h113]
  repeat with_reducible refine And.intro (by first | kernel_rfl | decide) ?_
  obtain rfl := Option.some.inj h
  exact finC [(4, .v (.bool (decide (x114 ≥ 0))))] [(4, .v (.bool (decide (x114 ≥ 0))))] (by simp [leE, lk_cons]) (.cons _ _ _ _ _ (.v _ _ (.refl _)) .nil) (by rfl) (by simp [leE, lk_cons]) (by decide) (by decide) rfl (by simp only [go_sem, ne_eq, not_false_eq_true, Nat.reduceBEq, Nat.reduceAdd, Nat.reduceSub, Nat.reduceMul, Nat.reduceLT, Nat.reduceLeDiff, Int.reduceLE, Int.reduceLT, Int.reduceToNat, Int.reduceBEq, Int.reduceBNe, Int.le_refl, Nat.le_refl, decide_true, decide_false, Int.cast_ofNat_Int, ↓reduceIte, resQ_tmp, resQ_cell, resQ_nil, retD_one, retD_two, retD_three, retD_none]; try simp [R.val, retD_one, retD_two, retD_three, retD_none])

def m22_L1 (N : Nat) (x22 : Int) (n26 : Nat) (c27 : List PV) (x29 : Int) (n35 : Nat) (c36 : List PV) : Nat → Int → Option ((PV ⊕ Unit))
  | 0, _ => none
  | n + 1, x38 =>
    brn (decide (x38 < ((n35 : Nat) : Int))) (
      grd (0 ≤ x38 ∧ x38 < ((n35 : Nat) : Int)) <|
      grd (2 ≤ List.length (List.drop ((Int.toNat x38) * 2) c36)) <|
      getA2 (.agg (List.take 2 (List.drop ((Int.toNat x38) * 2) c36))) fun p44 p45 =>
      getI .i64 p44 fun x47 =>
      getI .i64 p45 fun x49 =>
      brn (decide ((minI x47 x49) < 0)) (
        some (.inl (.int .i64 2))) (
        brn (decide ((maxI x47 x49) ≥ x22)) (
          some (.inl (.int .i64 2))) (
          brn (decide (x47 ≥ x49)) (
            some (.inl (.int .i64 7))) (
            grd (x38 ≤ ((n35 : Nat) : Int)) <|
            grd (List.length c36 = (n35 * 2)) <|
            bnd' (m51 N (.lst false (Int.toNat x38) (List.take ((Int.toNat x38) * 2) c36)) (.agg [(.int .i64 x47), (.int .i64 x49)])) fun p115 =>
            getB p115 fun b118 =>
            brn b118 (
              some (.inl (.int .i64 6))) (
              m22_L1 N x22 n26 c27 x29 n35 c36 n (IntKind.i64.wrap (x38 + 1))))))) (
      some (.inr ()))
def m22_L0 (N : Nat) (x22 : Int) (n26 : Nat) (c27 : List PV) : Nat → Int → Option ((PV ⊕ Unit))
  | 0, _ => none
  | n + 1, x29 =>
    brn (decide (x29 < ((n26 : Nat) : Int))) (
      grd (0 ≤ x29 ∧ x29 < ((n26 : Nat) : Int)) <|
      grd (0 < List.length (List.drop (Int.toNat x29) c27)) <|
      getL (gp c27 (Int.toNat x29)) fun n35 c36 =>
      brn (decide (((n35 : Nat) : Int) > 6)) (
        some (.inl (.int .i64 3))) (
        bnd' (m22_L1 N x22 n26 c27 x29 n35 c36 N 0) fun o =>
        match o with
        | .inl p120 =>
          some (.inl p120)
        | .inr () =>
          m22_L0 N x22 n26 c27 n (IntKind.i64.wrap (x29 + 1)))) (
      some (.inr ()))
def m22 (N : Nat) (p17 : PV) : Option (PV) :=
  getA2 p17 fun p19 p20 =>
  getI .i64 p19 fun x22 =>
  brn (decide (x22 < 1)) (
    some (.int .i64 1)) (
    brn (decide (x22 > 5)) (
      some (.int .i64 1)) (
      getL p20 fun n26 c27 =>
      brn (decide (((n26 : Nat) : Int) > 5)) (
        some (.int .i64 3)) (
        bnd' (m22_L0 N x22 n26 c27 N 0) fun o =>
        match o with
        | .inl p121 =>
          some p121
        | .inr () =>
          some (.int .i64 0))))
theorem c22 (N : Nat) (p17 : PV) (r : PV)  (h : m22 N p17 = some r) : FnP Tryd.prog 22 [p17] r := by
  unfold m22 at h
  refine Fn_of (sz := 69) tab_ok [0, 1, 2, 4, 5, 6, 7, 16, 22, 23, 24, 25, 30, 31, 32, 33, 34, 38, 55, 61] [.tmp 2] Tryd.func22 rfl rfl rfl (by simp) ?_
  simp only [initSt, initEnv, List.map_cons, List.map_nil, List.getD_cons_zero, List.getD_cons_succ, List.getD_nil]
  have hh := getA2_some h; clear h; obtain ⟨p19, p20, h18, h⟩ := hh
  have hh := getI_some h; clear h; obtain ⟨x22, h21, h⟩ := hh
  have hh := brn_some h; clear h; rcases hh with ⟨h23, h⟩ | ⟨h23, h⟩
  · refine W_sound tab_ok mixed 26 _ _ _ ?_
    simp -implicitDefEqProofs only [go_sem, ne_eq, not_false_eq_true, Nat.reduceBEq, Nat.reduceAdd, Nat.reduceSub, Nat.reduceMul, Nat.reduceLT, Nat.reduceLeDiff, Int.reduceLE, Int.reduceLT, Int.reduceToNat, Int.reduceBEq, Int.reduceBNe, Int.le_refl, Nat.le_refl, decide_true, decide_false, Int.cast_ofNat_Int, ↓reduceIte, h18, h21, h23]
    repeat with_reducible refine And.intro (by first | kernel_rfl | decide) ?_
    obtain rfl := Option.some.inj h
    exact finC [(2, .v (.int .i64 1))] [(2, .v (.int .i64 1))] (by simp [leE, lk_cons]) (.cons _ _ _ _ _ (.v _ _ (.refl _)) .nil) (by rfl) (by simp [leE, lk_cons]) (by decide) (by decide) rfl (by simp only [go_sem, ne_eq, not_false_eq_true, Nat.reduceBEq, Nat.reduceAdd, Nat.reduceSub, Nat.reduceMul, Nat.reduceLT, Nat.reduceLeDiff, Int.reduceLE, Int.reduceLT, Int.reduceToNat, Int.reduceBEq, Int.reduceBNe, Int.le_refl, Nat.le_refl, decide_true, decide_false, Int.cast_ofNat_Int, ↓reduceIte, resQ_tmp, resQ_cell, resQ_nil, retD_one, retD_two, retD_three, retD_none]; try simp [R.val, retD_one, retD_two, retD_three, retD_none])
  · have hh := brn_some h; clear h; rcases hh with ⟨h24, h⟩ | ⟨h24, h⟩
    · refine W_sound tab_ok mixed 26 _ _ _ ?_
      simp -implicitDefEqProofs only [go_sem, ne_eq, not_false_eq_true, Nat.reduceBEq, Nat.reduceAdd, Nat.reduceSub, Nat.reduceMul, Nat.reduceLT, Nat.reduceLeDiff, Int.reduceLE, Int.reduceLT, Int.reduceToNat, Int.reduceBEq, Int.reduceBNe, Int.le_refl, Nat.le_refl, decide_true, decide_false, Int.cast_ofNat_Int, ↓reduceIte, h18, h21, h23, h24]
      repeat with_reducible refine And.intro (by first | kernel_rfl | decide) ?_
      obtain rfl := Option.some.inj h
      exact finC [(2, .v (.int .i64 1))] [(2, .v (.int .i64 1))] (by simp [leE, lk_cons]) (.cons _ _ _ _ _ (.v _ _ (.refl _)) .nil) (by rfl) (by simp [leE, lk_cons]) (by decide) (by decide) rfl (by simp only [go_sem, ne_eq, not_false_eq_true, Nat.reduceBEq, Nat.reduceAdd, Nat.reduceSub, Nat.reduceMul, Nat.reduceLT, Nat.reduceLeDiff, Int.reduceLE, Int.reduceLT, Int.reduceToNat, Int.reduceBEq, Int.reduceBNe, Int.le_refl, Nat.le_refl, decide_true, decide_false, Int.cast_ofNat_Int, ↓reduceIte, resQ_tmp, resQ_cell, resQ_nil, retD_one, retD_two, retD_three, retD_none]; try simp [R.val, retD_one, retD_two, retD_three, retD_none])
    · have hh := getL_some h; clear h; obtain ⟨n26, c27, h25, h⟩ := hh
      have hh := brn_some h; clear h; rcases hh with ⟨h28, h⟩ | ⟨h28, h⟩
      · refine W_sound tab_ok mixed 35 _ _ _ ?_
        simp -implicitDefEqProofs only [go_sem, ne_eq, not_false_eq_true, Nat.reduceBEq, Nat.reduceAdd, Nat.reduceSub, Nat.reduceMul, Nat.reduceLT, Nat.reduceLeDiff, Int.reduceLE, Int.reduceLT, Int.reduceToNat, Int.reduceBEq, Int.reduceBNe, Int.le_refl, Nat.le_refl, decide_true, decide_false, Int.cast_ofNat_Int, ↓reduceIte, h18, h21, h23, h24, h25, h28]
        repeat with_reducible refine And.intro (by first | kernel_rfl | decide) ?_
        obtain rfl := Option.some.inj h
        exact finC [(2, .v (.int .i64 3))] [(2, .v (.int .i64 3))] (by simp [leE, lk_cons]) (.cons _ _ _ _ _ (.v _ _ (.refl _)) .nil) (by rfl) (by simp [leE, lk_cons]) (by decide) (by decide) rfl (by simp only [go_sem, ne_eq, not_false_eq_true, Nat.reduceBEq, Nat.reduceAdd, Nat.reduceSub, Nat.reduceMul, Nat.reduceLT, Nat.reduceLeDiff, Int.reduceLE, Int.reduceLT, Int.reduceToNat, Int.reduceBEq, Int.reduceBNe, Int.le_refl, Nat.le_refl, decide_true, decide_false, Int.cast_ofNat_Int, ↓reduceIte, resQ_tmp, resQ_cell, resQ_nil, retD_one, retD_two, retD_three, retD_none]; try simp [R.val, retD_one, retD_two, retD_three, retD_none])
      · refine W_sound tab_ok mixed 39 _ _ _ ?_
        simp -implicitDefEqProofs only [go_sem, ne_eq, not_false_eq_true, Nat.reduceBEq, Nat.reduceAdd, Nat.reduceSub, Nat.reduceMul, Nat.reduceLT, Nat.reduceLeDiff, Int.reduceLE, Int.reduceLT, Int.reduceToNat, Int.reduceBEq, Int.reduceBNe, Int.le_refl, Nat.le_refl, decide_true, decide_false, Int.cast_ofNat_Int, ↓reduceIte, h18, h21, h23, h24, h25, h28]
        repeat with_reducible refine And.intro (by first | kernel_rfl | decide) ?_
        have hh := bnd'_some h; clear h; obtain ⟨o122, h123, h124⟩ := hh
        refine Wp_cut (fun s => (.inr ()) = o122 ∧ s = ⟨[], [(0, .dead), (1, .dead), (2, .dead), (4, .dead), (5, .dead), (6, .dead), (7, .dead), (16, .dead), (22, .dead), (23, .dead), (24, .dead), (25, .dead), (30, .dead), (31, .dead), (32, .dead), (33, .dead), (34, .dead), (38, .dead), (55, .dead), (61, .dead)], [], 0, []⟩) ?_ ?_
        · refine Wp_block ?_
          refine Wp_loopG (fun n s => ∃ x29, m22_L0 N x22 n26 c27 n x29 = some o122 ∧ s = ⟨[], [(0, .dead), (1, .ptr 0 0), (2, .dead), (4, .dead), (5, .dead), (6, .dead), (7, .dead), (16, .dead), (22, .v (.lst false n26 c27)), (23, .v (.int .i64 ((n26 : Nat) : Int))), (24, .v (.int .i64 x29)), (25, .dead), (30, .dead), (31, .dead), (32, .dead), (33, .dead), (34, .dead), (38, .dead), (55, .dead), (61, .dead)], [(0, .p [(.int .i64 x22), (.lst false n26 c27)])], 1, []⟩) N _ ((Wk_le (.cons _ _ _ _ _ (.dead _) (.cons _ _ _ _ _ (.refl _) (.cons _ _ _ _ _ (.dead _) (.cons _ _ _ _ _ (.refl _) (.cons _ _ _ _ _ (.refl _) (.cons _ _ _ _ _ (.refl _) (.cons _ _ _ _ _ (.dead _) (.cons _ _ _ _ _ (.dead _) (.cons _ _ _ _ _ (.refl _) (.cons _ _ _ _ _ (.refl _) (.cons _ _ _ _ _ (.refl _) (.cons _ _ _ _ _ (.refl _) (.cons _ _ _ _ _ (.refl _) (.cons _ _ _ _ _ (.refl _) (.cons _ _ _ _ _ (.refl _) (.cons _ _ _ _ _ (.refl _) (.cons _ _ _ _ _ (.refl _) (.cons _ _ _ _ _ (.refl _) (.cons _ _ _ _ _ (.refl _) (.cons _ _ _ _ _ (.refl _) .nil)))))))))))))))))))) (OLe.refl _)).trans (cmpS_ok (st' := ⟨[], [(0, .dead), (1, .ptr 0 0), (2, .dead), (4, .dead), (5, .dead), (6, .dead), (7, .dead), (16, .dead), (22, .v (.lst false n26 c27)), (23, .v (.int .i64 ((n26 : Nat) : Int))), (24, .v (.int .i64 0)), (25, .dead), (30, .dead), (31, .dead), (32, .dead), (33, .dead), (34, .dead), (38, .dead), (55, .dead), (61, .dead)], [(0, .p [(.int .i64 x22), (.lst false n26 c27)])], 1, []⟩) (by kernel_rfl))) ⟨_, h123, rfl⟩ ?_
          clear h123
          rintro n _ ⟨x29, h123, rfl⟩
          cases n with
          | zero => cases h123
          | succ n =>
            rw [m22_L0] at h123
            have hh := brn_some h123; clear h123; rcases hh with ⟨h30, h123⟩ | ⟨h30, h123⟩
            · have hh := grd_some h123; clear h123; obtain ⟨⟨g31, g32⟩, h123⟩ := hh
              have hh := grd_some h123; clear h123; obtain ⟨g33, h123⟩ := hh
              have hh := getL_some h123; clear h123; obtain ⟨n35, c36, h34, h123⟩ := hh
              have hh := brn_some h123; clear h123; rcases hh with ⟨h37, h123⟩ | ⟨h37, h123⟩
              · refine W_sound tab_ok mixed 29 _ _ _ ?_
                simp -implicitDefEqProofs only [go_sem, ne_eq, not_false_eq_true, Nat.reduceBEq, Nat.reduceAdd, Nat.reduceSub, Nat.reduceMul, Nat.reduceLT, Nat.reduceLeDiff, Int.reduceLE, Int.reduceLT, Int.reduceToNat, Int.reduceBEq, Int.reduceBNe, Int.le_refl, Nat.le_refl, decide_true, decide_false, Int.cast_ofNat_Int, ↓reduceIte, h18, h21, h23, h24, h25, h28, h30, g31, g32, g33, h34, h37]
                repeat with_reducible refine And.intro (by first | kernel_rfl | decide) ?_
                obtain rfl := Option.some.inj h123
                (try dsimp only at h124)
                obtain rfl := Option.some.inj h124
                exact finC [(2, .v (.int .i64 3))] [(2, .v (.int .i64 3))] (by simp [leE, lk_cons]) (.cons _ _ _ _ _ (.v _ _ (.refl _)) .nil) (by rfl) (by simp [leE, lk_cons]) (by decide) (by decide) rfl (by simp only [go_sem, ne_eq, not_false_eq_true, Nat.reduceBEq, Nat.reduceAdd, Nat.reduceSub, Nat.reduceMul, Nat.reduceLT, Nat.reduceLeDiff, Int.reduceLE, Int.reduceLT, Int.reduceToNat, Int.reduceBEq, Int.reduceBNe, Int.le_refl, Nat.le_refl, decide_true, decide_false, Int.cast_ofNat_Int, ↓reduceIte, resQ_tmp, resQ_cell, resQ_nil, retD_one, retD_two, retD_three, retD_none]; try simp [R.val, retD_one, retD_two, retD_three, retD_none])
              · refine W_sound tab_ok mixed 30 _ _ _ ?_
                simp -implicitDefEqProofs only [go_sem, ne_eq, not_false_eq_true, Nat.reduceBEq, Nat.reduceAdd, Nat.reduceSub, Nat.reduceMul, Nat.reduceLT, Nat.reduceLeDiff, Int.reduceLE, Int.reduceLT, Int.reduceToNat, Int.reduceBEq, Int.reduceBNe, Int.le_refl, Nat.le_refl, decide_true, decide_false, Int.cast_ofNat_Int, ↓reduceIte, h18, h21, h23, h24, h25, h28, h30, g31, g32, g33, h34, h37]
                repeat with_reducible refine And.intro (by first | kernel_rfl | decide) ?_
                have hh := bnd'_some h123; clear h123; obtain ⟨o125, h126, h127⟩ := hh
                refine Wp_cut (fun s => (.inr ()) = o125 ∧ s = ⟨[], [(0, .dead), (1, .ptr 0 0), (2, .dead), (4, .dead), (5, .dead), (6, .dead), (7, .dead), (16, .dead), (22, .v (.lst false n26 c27)), (23, .v (.int .i64 ((n26 : Nat) : Int))), (24, .v (.int .i64 x29)), (25, .dead), (30, .dead), (31, .dead), (32, .dead), (33, .dead), (34, .dead), (38, .dead), (55, .dead), (61, .dead)], [(0, .p [(.int .i64 x22), (.lst false n26 c27)])], 1, []⟩) ?_ ?_
                · refine Wp_block ?_
                  refine Wp_loopG (fun n s => ∃ x38, m22_L1 N x22 n26 c27 x29 n35 c36 n x38 = some o125 ∧ s = ⟨[], [(0, .dead), (1, .ptr 0 0), (2, .dead), (4, .v (.lst false n35 c36)), (5, .dead), (6, .dead), (7, .dead), (16, .dead), (22, .v (.lst false n26 c27)), (23, .v (.int .i64 ((n26 : Nat) : Int))), (24, .v (.int .i64 x29)), (25, .dead), (30, .dead), (31, .v (.lst false n35 c36)), (32, .v (.int .i64 ((n35 : Nat) : Int))), (33, .v (.int .i64 x38)), (34, .dead), (38, .dead), (55, .dead), (61, .dead)], [(0, .p [(.int .i64 x22), (.lst false n26 c27)])], 1, []⟩) N _ ((Wk_le (.cons _ _ _ _ _ (.refl _) (.cons _ _ _ _ _ (.refl _) (.cons _ _ _ _ _ (.refl _) (.cons _ _ _ _ _ (.refl _) (.cons _ _ _ _ _ (.refl _) (.cons _ _ _ _ _ (.refl _) (.cons _ _ _ _ _ (.refl _) (.cons _ _ _ _ _ (.refl _) (.cons _ _ _ _ _ (.refl _) (.cons _ _ _ _ _ (.refl _) (.cons _ _ _ _ _ (.refl _) (.cons _ _ _ _ _ (.dead _) (.cons _ _ _ _ _ (.dead _) (.cons _ _ _ _ _ (.refl _) (.cons _ _ _ _ _ (.refl _) (.cons _ _ _ _ _ (.refl _) (.cons _ _ _ _ _ (.refl _) (.cons _ _ _ _ _ (.refl _) (.cons _ _ _ _ _ (.refl _) (.cons _ _ _ _ _ (.refl _) .nil)))))))))))))))))))) (OLe.refl _)).trans (cmpS_ok (st' := ⟨[], [(0, .dead), (1, .ptr 0 0), (2, .dead), (4, .v (.lst false n35 c36)), (5, .dead), (6, .dead), (7, .dead), (16, .dead), (22, .v (.lst false n26 c27)), (23, .v (.int .i64 ((n26 : Nat) : Int))), (24, .v (.int .i64 x29)), (25, .dead), (30, .dead), (31, .v (.lst false n35 c36)), (32, .v (.int .i64 ((n35 : Nat) : Int))), (33, .v (.int .i64 0)), (34, .dead), (38, .dead), (55, .dead), (61, .dead)], [(0, .p [(.int .i64 x22), (.lst false n26 c27)])], 1, []⟩) (by kernel_rfl))) ⟨_, h126, rfl⟩ ?_
                  clear h126
                  rintro n _ ⟨x38, h126, rfl⟩
                  cases n with
                  | zero => cases h126
                  | succ n =>
                    rw [m22_L1] at h126
                    have hh := brn_some h126; clear h126; rcases hh with ⟨h39, h126⟩ | ⟨h39, h126⟩
                    · have hh := grd_some h126; clear h126; obtain ⟨⟨g40, g41⟩, h126⟩ := hh
                      have hh := grd_some h126; clear h126; obtain ⟨g42, h126⟩ := hh
                      have hh := getA2_some h126; clear h126; obtain ⟨p44, p45, h43, h126⟩ := hh
                      injection h43 with h43
                      have hh := getI_some h126; clear h126; obtain ⟨x47, h46, h126⟩ := hh
                      have hh := getI_some h126; clear h126; obtain ⟨x49, h48, h126⟩ := hh
                      have hh := brn_some h126; clear h126; rcases hh with ⟨h50, h126⟩ | ⟨h50, h126⟩
                      · refine W_sound tab_ok mixed 46 _ _ _ ?_
                        simp -implicitDefEqProofs only [go_sem, ne_eq, not_false_eq_true, Nat.reduceBEq, Nat.reduceAdd, Nat.reduceSub, Nat.reduceMul, Nat.reduceLT, Nat.reduceLeDiff, Int.reduceLE, Int.reduceLT, Int.reduceToNat, Int.reduceBEq, Int.reduceBNe, Int.le_refl, Nat.le_refl, decide_true, decide_false, Int.cast_ofNat_Int, ↓reduceIte, h18, h21, h23, h24, h25, h28, h30, g31, g32, g33, h34, h37, h39, g40, g41, g42, h43, h46, h48, h50]
                        repeat with_reducible refine And.intro (by first | kernel_rfl | decide) ?_
                        obtain rfl := Option.some.inj h126
                        (try dsimp only at h127)
                        obtain rfl := Option.some.inj h127
                        (try dsimp only at h124)
                        obtain rfl := Option.some.inj h124
                        exact finC [(2, .v (.int .i64 2))] [(2, .v (.int .i64 2))] (by simp [leE, lk_cons]) (.cons _ _ _ _ _ (.v _ _ (.refl _)) .nil) (by rfl) (by simp [leE, lk_cons]) (by decide) (by decide) rfl (by simp only [go_sem, ne_eq, not_false_eq_true, Nat.reduceBEq, Nat.reduceAdd, Nat.reduceSub, Nat.reduceMul, Nat.reduceLT, Nat.reduceLeDiff, Int.reduceLE, Int.reduceLT, Int.reduceToNat, Int.reduceBEq, Int.reduceBNe, Int.le_refl, Nat.le_refl, decide_true, decide_false, Int.cast_ofNat_Int, ↓reduceIte, resQ_tmp, resQ_cell, resQ_nil, retD_one, retD_two, retD_three, retD_none]; try simp [R.val, retD_one, retD_two, retD_three, retD_none])
                      · have hh := brn_some h126; clear h126; rcases hh with ⟨h51, h126⟩ | ⟨h51, h126⟩
                        · refine W_sound tab_ok mixed 46 _ _ _ ?_
                          simp -implicitDefEqProofs only [go_sem, ne_eq, not_false_eq_true, Nat.reduceBEq, Nat.reduceAdd, Nat.reduceSub, Nat.reduceMul, Nat.reduceLT, Nat.reduceLeDiff, Int.reduceLE, Int.reduceLT, Int.reduceToNat, Int.reduceBEq, Int.reduceBNe, Int.le_refl, Nat.le_refl, decide_true, decide_false, Int.cast_ofNat_Int, ↓reduceIte, h18, h21, h23, h24, h25, h28, h30, g31, g32, g33, h34, h37, h39, g40, g41, g42, h43, h46, h48, h50, h51]
                          repeat with_reducible refine And.intro (by first | kernel_rfl | decide) ?_
                          obtain rfl := Option.some.inj h126
                          (try dsimp only at h127)
                          obtain rfl := Option.some.inj h127
                          (try dsimp only at h124)
                          obtain rfl := Option.some.inj h124
                          exact finC [(2, .v (.int .i64 2))] [(2, .v (.int .i64 2))] (by simp [leE, lk_cons]) (.cons _ _ _ _ _ (.v _ _ (.refl _)) .nil) (by rfl) (by simp [leE, lk_cons]) (by decide) (by decide) rfl (by simp only [go_sem, ne_eq, not_false_eq_true, Nat.reduceBEq, Nat.reduceAdd, Nat.reduceSub, Nat.reduceMul, Nat.reduceLT, Nat.reduceLeDiff, Int.reduceLE, Int.reduceLT, Int.reduceToNat, Int.reduceBEq, Int.reduceBNe, Int.le_refl, Nat.le_refl, decide_true, decide_false, Int.cast_ofNat_Int, ↓reduceIte, resQ_tmp, resQ_cell, resQ_nil, retD_one, retD_two, retD_three, retD_none]; try simp [R.val, retD_one, retD_two, retD_three, retD_none])
                        · have hh := brn_some h126; clear h126; rcases hh with ⟨h52, h126⟩ | ⟨h52, h126⟩
                          · refine W_sound tab_ok mixed 56 _ _ _ ?_
                            simp -implicitDefEqProofs only [go_sem, ne_eq, not_false_eq_true, Nat.reduceBEq, Nat.reduceAdd, Nat.reduceSub, Nat.reduceMul, Nat.reduceLT, Nat.reduceLeDiff, Int.reduceLE, Int.reduceLT, Int.reduceToNat, Int.reduceBEq, Int.reduceBNe, Int.le_refl, Nat.le_refl, decide_true, decide_false, Int.cast_ofNat_Int, ↓reduceIte, h18, h21, h23, h24, h25, h28, h30, g31, g32, g33, h34, h37, h39, g40, g41, g42, h43, h46, h48, h50, h51, h52]
                            repeat with_reducible refine And.intro (by first | kernel_rfl | decide) ?_
                            obtain rfl := Option.some.inj h126
                            (try dsimp only at h127)
                            obtain rfl := Option.some.inj h127
                            (try dsimp only at h124)
                            obtain rfl := Option.some.inj h124
                            exact finC [(2, .v (.int .i64 7))] [(2, .v (.int .i64 7))] (by simp [leE, lk_cons]) (.cons _ _ _ _ _ (.v _ _ (.refl _)) .nil) (by rfl) (by simp [leE, lk_cons]) (by decide) (by decide) rfl (by simp only [go_sem, ne_eq, not_false_eq_true, Nat.reduceBEq, Nat.reduceAdd, Nat.reduceSub, Nat.reduceMul, Nat.reduceLT, Nat.reduceLeDiff, Int.reduceLE, Int.reduceLT, Int.reduceToNat, Int.reduceBEq, Int.reduceBNe, Int.le_refl, Nat.le_refl, decide_true, decide_false, Int.cast_ofNat_Int, ↓reduceIte, resQ_tmp, resQ_cell, resQ_nil, retD_one, retD_two, retD_three, retD_none]; try simp [R.val, retD_one, retD_two, retD_three, retD_none])
                          · have hh := grd_some h126; clear h126; obtain ⟨g53, h126⟩ := hh
                            have hh := grd_some h126; clear h126; obtain ⟨g54, h126⟩ := hh
                            have hh := bnd'_some h126; clear h126; obtain ⟨p115, h116, h126⟩ := hh
                            refine W_sound tab_ok mixed 56 _ _ _ ?_
                            simp -implicitDefEqProofs only [go_sem, ne_eq, not_false_eq_true, Nat.reduceBEq, Nat.reduceAdd, Nat.reduceSub, Nat.reduceMul, Nat.reduceLT, Nat.reduceLeDiff, Int.reduceLE, Int.reduceLT, Int.reduceToNat, Int.reduceBEq, Int.reduceBNe, Int.le_refl, Nat.le_refl, decide_true, decide_false, Int.cast_ofNat_Int, ↓reduceIte, h18, h21, h23, h24, h25, h28, h30, g31, g32, g33, h34, h37, h39, g40, g41, g42, h43, h46, h48, h50, h51, h52, g53, g54]
                            repeat with_reducible refine And.intro (by first | kernel_rfl | decide) ?_
                            refine Wp_callP (c51 N _ _ _ h116) (by kernel_rfl) rfl rfl rfl rfl (by decide) ?_
                            have hh := getB_some h126; clear h126; obtain ⟨b118, h117, h126⟩ := hh
                            have hh := brn_some h126; clear h126; rcases hh with ⟨h119, h126⟩ | ⟨h119, h126⟩
                            · refine W_sound tab_ok mixed 9 _ _ _ ?_
                              simp -implicitDefEqProofs only [go_sem, ne_eq, not_false_eq_true, Nat.reduceBEq, Nat.reduceAdd, Nat.reduceSub, Nat.reduceMul, Nat.reduceLT, Nat.reduceLeDiff, Int.reduceLE, Int.reduceLT, Int.reduceToNat, Int.reduceBEq, Int.reduceBNe, Int.le_refl, Nat.le_refl, decide_true, decide_false, Int.cast_ofNat_Int, ↓reduceIte, h18, h21, h23, h24, h25, h28, h30, g31, g32, g33, h34, h37, h39, g40, g41, g42, h43, h46, h48, h50, h51, h52, g53, g54, h117, h119]
                              repeat with_reducible refine And.intro (by first | kernel_rfl | decide) ?_
                              obtain rfl := Option.some.inj h126
                              (try dsimp only at h127)
                              obtain rfl := Option.some.inj h127
                              (try dsimp only at h124)
                              obtain rfl := Option.some.inj h124
                              exact finC [(2, .v (.int .i64 6))] [(2, .v (.int .i64 6))] (by simp [leE, lk_cons]) (.cons _ _ _ _ _ (.v _ _ (.refl _)) .nil) (by rfl) (by simp [leE, lk_cons]) (by decide) (by decide) rfl (by simp only [go_sem, ne_eq, not_false_eq_true, Nat.reduceBEq, Nat.reduceAdd, Nat.reduceSub, Nat.reduceMul, Nat.reduceLT, Nat.reduceLeDiff, Int.reduceLE, Int.reduceLT, Int.reduceToNat, Int.reduceBEq, Int.reduceBNe, Int.le_refl, Nat.le_refl, decide_true, decide_false, Int.cast_ofNat_Int, ↓reduceIte, resQ_tmp, resQ_cell, resQ_nil, retD_one, retD_two, retD_three, retD_none]; try simp [R.val, retD_one, retD_two, retD_three, retD_none])
                            · refine W_sound tab_ok mixed 10 _ _ _ ?_
                              simp -implicitDefEqProofs only [go_sem, ne_eq, not_false_eq_true, Nat.reduceBEq, Nat.reduceAdd, Nat.reduceSub, Nat.reduceMul, Nat.reduceLT, Nat.reduceLeDiff, Int.reduceLE, Int.reduceLT, Int.reduceToNat, Int.reduceBEq, Int.reduceBNe, Int.le_refl, Nat.le_refl, decide_true, decide_false, Int.cast_ofNat_Int, ↓reduceIte, h18, h21, h23, h24, h25, h28, h30, g31, g32, g33, h34, h37, h39, g40, g41, g42, h43, h46, h48, h50, h51, h52, g53, g54, h117, h119]
                              repeat with_reducible refine And.intro (by first | kernel_rfl | decide) ?_
                              exact cutQ _ ((Wk_le (.cons _ _ _ _ _ (.refl _) (.cons _ _ _ _ _ (.refl _) (.cons _ _ _ _ _ (.refl _) (.cons _ _ _ _ _ (.refl _) (.cons _ _ _ _ _ (.dead _) (.cons _ _ _ _ _ (.dead _) (.cons _ _ _ _ _ (.refl _) (.cons _ _ _ _ _ (.refl _) (.cons _ _ _ _ _ (.refl _) (.cons _ _ _ _ _ (.refl _) (.cons _ _ _ _ _ (.refl _) (.cons _ _ _ _ _ (.refl _) (.cons _ _ _ _ _ (.refl _) (.cons _ _ _ _ _ (.refl _) (.cons _ _ _ _ _ (.refl _) (.cons _ _ _ _ _ (.refl _) (.cons _ _ _ _ _ (.dead _) (.cons _ _ _ _ _ (.dead _) (.cons _ _ _ _ _ (.dead _) (.cons _ _ _ _ _ (.dead _) .nil)))))))))))))))))))) (OLe.refl _)).trans (cmpS_ok (st' := ⟨[], [(0, .dead), (1, .ptr 0 0), (2, .dead), (4, .v (.lst false n35 c36)), (5, .dead), (6, .dead), (7, .dead), (16, .dead), (22, .v (.lst false n26 c27)), (23, .v (.int .i64 ((n26 : Nat) : Int))), (24, .v (.int .i64 x29)), (25, .dead), (30, .dead), (31, .v (.lst false n35 c36)), (32, .v (.int .i64 ((n35 : Nat) : Int))), (33, .v (.int .i64 (IntKind.i64.wrap (x38 + 1)))), (34, .dead), (38, .dead), (55, .dead), (61, .dead)], [(0, .p [(.int .i64 x22), (.lst false n26 c27)])], 1, []⟩) (by kernel_rfl))) ⟨n, Nat.lt_succ_self n, _, h126, rfl⟩
                    · refine W_sound tab_ok mixed 7 _ _ _ ?_
                      simp -implicitDefEqProofs only [go_sem, ne_eq, not_false_eq_true, Nat.reduceBEq, Nat.reduceAdd, Nat.reduceSub, Nat.reduceMul, Nat.reduceLT, Nat.reduceLeDiff, Int.reduceLE, Int.reduceLT, Int.reduceToNat, Int.reduceBEq, Int.reduceBNe, Int.le_refl, Nat.le_refl, decide_true, decide_false, Int.cast_ofNat_Int, ↓reduceIte, h18, h21, h23, h24, h25, h28, h30, g31, g32, g33, h34, h37, h39]
                      repeat with_reducible refine And.intro (by first | kernel_rfl | decide) ?_
                      obtain rfl := Option.some.inj h126
                      exact cutQ _ ((Wk_le (.cons _ _ _ _ _ (.refl _) (.cons _ _ _ _ _ (.refl _) (.cons _ _ _ _ _ (.refl _) (.cons _ _ _ _ _ (.dead _) (.cons _ _ _ _ _ (.refl _) (.cons _ _ _ _ _ (.refl _) (.cons _ _ _ _ _ (.refl _) (.cons _ _ _ _ _ (.refl _) (.cons _ _ _ _ _ (.refl _) (.cons _ _ _ _ _ (.refl _) (.cons _ _ _ _ _ (.refl _) (.cons _ _ _ _ _ (.refl _) (.cons _ _ _ _ _ (.refl _) (.cons _ _ _ _ _ (.dead _) (.cons _ _ _ _ _ (.dead _) (.cons _ _ _ _ _ (.dead _) (.cons _ _ _ _ _ (.dead _) (.cons _ _ _ _ _ (.refl _) (.cons _ _ _ _ _ (.refl _) (.cons _ _ _ _ _ (.refl _) .nil)))))))))))))))))))) (OLe.refl _)).trans (cmpS_ok (st' := ⟨[], [(0, .dead), (1, .ptr 0 0), (2, .dead), (4, .dead), (5, .dead), (6, .dead), (7, .dead), (16, .dead), (22, .v (.lst false n26 c27)), (23, .v (.int .i64 ((n26 : Nat) : Int))), (24, .v (.int .i64 x29)), (25, .dead), (30, .dead), (31, .dead), (32, .dead), (33, .dead), (34, .dead), (38, .dead), (55, .dead), (61, .dead)], [(0, .p [(.int .i64 x22), (.lst false n26 c27)])], 1, []⟩) (by kernel_rfl))) ⟨rfl, rfl⟩
                · rintro _ ⟨rfl, rfl⟩
                  (try dsimp only at h127)
                  refine W_sound tab_ok mixed 5 _ _ _ ?_
                  simp -implicitDefEqProofs only [go_sem, ne_eq, not_false_eq_true, Nat.reduceBEq, Nat.reduceAdd, Nat.reduceSub, Nat.reduceMul, Nat.reduceLT, Nat.reduceLeDiff, Int.reduceLE, Int.reduceLT, Int.reduceToNat, Int.reduceBEq, Int.reduceBNe, Int.le_refl, Nat.le_refl, decide_true, decide_false, Int.cast_ofNat_Int, ↓reduceIte, h18, h21, h23, h24, h25, h28, h30, g31, g32, g33, h34, h37]
                  repeat with_reducible refine And.intro (by first | kernel_rfl | decide) ?_
                  exact cutQ _ ((Wk_le (.cons _ _ _ _ _ (.refl _) (.cons _ _ _ _ _ (.refl _) (.cons _ _ _ _ _ (.refl _) (.cons _ _ _ _ _ (.refl _) (.cons _ _ _ _ _ (.refl _) (.cons _ _ _ _ _ (.refl _) (.cons _ _ _ _ _ (.refl _) (.cons _ _ _ _ _ (.refl _) (.cons _ _ _ _ _ (.refl _) (.cons _ _ _ _ _ (.refl _) (.cons _ _ _ _ _ (.refl _) (.cons _ _ _ _ _ (.refl _) (.cons _ _ _ _ _ (.refl _) (.cons _ _ _ _ _ (.refl _) (.cons _ _ _ _ _ (.refl _) (.cons _ _ _ _ _ (.refl _) (.cons _ _ _ _ _ (.refl _) (.cons _ _ _ _ _ (.refl _) (.cons _ _ _ _ _ (.refl _) (.cons _ _ _ _ _ (.refl _) .nil)))))))))))))))))))) (OLe.refl _)).trans (cmpS_ok (st' := ⟨[], [(0, .dead), (1, .ptr 0 0), (2, .dead), (4, .dead), (5, .dead), (6, .dead), (7, .dead), (16, .dead), (22, .v (.lst false n26 c27)), (23, .v (.int .i64 ((n26 : Nat) : Int))), (24, .v (.int .i64 (IntKind.i64.wrap (x29 + 1)))), (25, .dead), (30, .dead), (31, .dead), (32, .dead), (33, .dead), (34, .dead), (38, .dead), (55, .dead), (61, .dead)], [(0, .p [(.int .i64 x22), (.lst false n26 c27)])], 1, []⟩) (by kernel_rfl))) ⟨n, Nat.lt_succ_self n, _, h127, rfl⟩
            · refine W_sound tab_ok mixed 7 _ _ _ ?_
              simp -implicitDefEqProofs only [go_sem, ne_eq, not_false_eq_true, Nat.reduceBEq, Nat.reduceAdd, Nat.reduceSub, Nat.reduceMul, Nat.reduceLT, Nat.reduceLeDiff, Int.reduceLE, Int.reduceLT, Int.reduceToNat, Int.reduceBEq, Int.reduceBNe, Int.le_refl, Nat.le_refl, decide_true, decide_false, Int.cast_ofNat_Int, ↓reduceIte, h18, h21, h23, h24, h25, h28, h30]
              repeat with_reducible refine And.intro (by first | kernel_rfl | decide) ?_
              obtain rfl := Option.some.inj h123
              exact cutQ _ ((Wk_le (.cons _ _ _ _ _ (.refl _) (.cons _ _ _ _ _ (.dead _) (.cons _ _ _ _ _ (.refl _) (.cons _ _ _ _ _ (.refl _) (.cons _ _ _ _ _ (.refl _) (.cons _ _ _ _ _ (.refl _) (.cons _ _ _ _ _ (.refl _) (.cons _ _ _ _ _ (.refl _) (.cons _ _ _ _ _ (.dead _) (.cons _ _ _ _ _ (.dead _) (.cons _ _ _ _ _ (.dead _) (.cons _ _ _ _ _ (.dead _) (.cons _ _ _ _ _ (.refl _) (.cons _ _ _ _ _ (.refl _) (.cons _ _ _ _ _ (.refl _) (.cons _ _ _ _ _ (.refl _) (.cons _ _ _ _ _ (.refl _) (.cons _ _ _ _ _ (.refl _) (.cons _ _ _ _ _ (.refl _) (.cons _ _ _ _ _ (.refl _) .nil)))))))))))))))))))) (OLe.refl _)).trans (cmpS_ok (st' := ⟨[], [(0, .dead), (1, .dead), (2, .dead), (4, .dead), (5, .dead), (6, .dead), (7, .dead), (16, .dead), (22, .dead), (23, .dead), (24, .dead), (25, .dead), (30, .dead), (31, .dead), (32, .dead), (33, .dead), (34, .dead), (38, .dead), (55, .dead), (61, .dead)], [], 0, []⟩) (by kernel_rfl))) ⟨rfl, rfl⟩
        · rintro _ ⟨rfl, rfl⟩
          (try dsimp only at h124)
          refine W_sound tab_ok mixed 6 _ _ _ ?_
          simp -implicitDefEqProofs only [go_sem, ne_eq, not_false_eq_true, Nat.reduceBEq, Nat.reduceAdd, Nat.reduceSub, Nat.reduceMul, Nat.reduceLT, Nat.reduceLeDiff, Int.reduceLE, Int.reduceLT, Int.reduceToNat, Int.reduceBEq, Int.reduceBNe, Int.le_refl, Nat.le_refl, decide_true, decide_false, Int.cast_ofNat_Int, ↓reduceIte, h18, h21, h23, h24, h25, h28]
          repeat with_reducible refine And.intro (by first | kernel_rfl | decide) ?_
          obtain rfl := Option.some.inj h124
          exact finC [(2, .v (.int .i64 0))] [(2, .v (.int .i64 0))] (by simp [leE, lk_cons]) (.cons _ _ _ _ _ (.v _ _ (.refl _)) .nil) (by rfl) (by simp [leE, lk_cons]) (by decide) (by decide) rfl (by simp only [go_sem, ne_eq, not_false_eq_true, Nat.reduceBEq, Nat.reduceAdd, Nat.reduceSub, Nat.reduceMul, Nat.reduceLT, Nat.reduceLeDiff, Int.reduceLE, Int.reduceLT, Int.reduceToNat, Int.reduceBEq, Int.reduceBNe, Int.le_refl, Nat.le_refl, decide_true, decide_false, Int.cast_ofNat_Int, ↓reduceIte, resQ_tmp, resQ_cell, resQ_nil, retD_one, retD_two, retD_three, retD_none]; try simp [R.val, retD_one, retD_two, retD_three, retD_none])

def m97_L0 (N : Nat)  : Nat → Int → List PV → Option (List PV)
  | 0, _, _ => none
  | n + 1, x249, c250 =>
    brn (decide (x249 < 5)) (
      grd (0 ≤ x249 ∧ x249 < 5) <|
      grd (((Int.toNat x249) + 1) ≤ List.length c250) <|
      m97_L0 N  n (IntKind.i64.wrap (x249 + 1)) (List.set c250 (Int.toNat x249) (.int .i64 x249))) (
      some c250)
def m97 (N : Nat)  : Option (PV) :=
  bnd' (m97_L0 N  N 0 [(.int .i64 0), (.int .i64 0), (.int .i64 0), (.int .i64 0), (.int .i64 0)]) fun c255 =>
  grd (5 ≤ List.length c255) <|
  getA5 (.agg (List.take 5 c255)) fun p258 p259 p260 p261 p262 =>
  some (.agg [p258, p259, p260, p261, p262])
theorem c97 (N : Nat)  (r : PV)  (h : m97 N  = some r) : FnP Tryd.prog 97 [] r := by
  unfold m97 at h
  refine Fn_of (sz := 11) tab_ok [0, 1, 2, 3, 4] [.cell 0 98] Tryd.func97 rfl rfl rfl (by simp) ?_
  simp only [initSt, initEnv, List.map_cons, List.map_nil, List.getD_cons_zero, List.getD_cons_succ, List.getD_nil]
  refine W_sound tab_ok mixed 13 _ _ _ ?_
  simp -implicitDefEqProofs only [go_sem, ne_eq, not_false_eq_true, Nat.reduceBEq, Nat.reduceAdd, Nat.reduceSub, Nat.reduceMul, Nat.reduceLT, Nat.reduceLeDiff, Int.reduceLE, Int.reduceLT, Int.reduceToNat, Int.reduceBEq, Int.reduceBNe, Int.le_refl, Nat.le_refl, decide_true, decide_false, Int.cast_ofNat_Int, ↓reduceIte]
  repeat with_reducible refine And.intro (by first | kernel_rfl | decide) ?_
  have hh := bnd'_some h; clear h; obtain ⟨o263, h264, h265⟩ := hh
  refine Wp_cut (fun s => ∃ c255, c255 = o263 ∧ s = ⟨[], [(0, .ptr 0 0), (1, .ptr 1 0), (2, .dead), (3, .dead), (4, .dead)], [(0, .p [(.int .i64 0), (.int .i64 0), (.int .i64 0), (.int .i64 0), (.int .i64 0)]), (1, .p c255)], 2, []⟩) ?_ ?_
  · refine Wp_block ?_
    refine Wp_loopG (fun n s => ∃ x249, ∃ c250, m97_L0 N  n x249 c250 = some o263 ∧ s = ⟨[], [(0, .ptr 0 0), (1, .ptr 1 0), (2, .dead), (3, .v (.int .i64 x249)), (4, .dead)], [(0, .p [(.int .i64 0), (.int .i64 0), (.int .i64 0), (.int .i64 0), (.int .i64 0)]), (1, .p c250)], 2, []⟩) N _ ((Wk_le (.cons _ _ _ _ _ (.refl _) (.cons _ _ _ _ _ (.refl _) (.cons _ _ _ _ _ (.refl _) (.cons _ _ _ _ _ (.refl _) (.cons _ _ _ _ _ (.refl _) .nil))))) (OLe.refl _)).trans (cmpS_ok rfl)) ⟨_, _, h264, rfl⟩ ?_
    clear h264
    rintro n _ ⟨x249, c250, h264, rfl⟩
    cases n with
    | zero => cases h264
    | succ n =>
      rw [m97_L0] at h264
      have hh := brn_some h264; clear h264; rcases hh with ⟨h251, h264⟩ | ⟨h251, h264⟩
      · have hh := grd_some h264; clear h264; obtain ⟨⟨g252, g253⟩, h264⟩ := hh
        have hh := grd_some h264; clear h264; obtain ⟨g254, h264⟩ := hh
        refine W_sound tab_ok mixed 25 _ _ _ ?_
        simp -implicitDefEqProofs only [go_sem, ne_eq, not_false_eq_true, Nat.reduceBEq, Nat.reduceAdd, Nat.reduceSub, Nat.reduceMul, Nat.reduceLT, Nat.reduceLeDiff, Int.reduceLE, Int.reduceLT, Int.reduceToNat, Int.reduceBEq, Int.reduceBNe, Int.le_refl, Nat.le_refl, decide_true, decide_false, Int.cast_ofNat_Int, ↓reduceIte, h251, g252, g253, g254]
        repeat with_reducible refine And.intro (by first | kernel_rfl | decide) ?_
        exact cutQ _ ((Wk_le (.cons _ _ _ _ _ (.refl _) (.cons _ _ _ _ _ (.refl _) (.cons _ _ _ _ _ (.dead _) (.cons _ _ _ _ _ (.refl _) (.cons _ _ _ _ _ (.dead _) .nil))))) (OLe.refl _)).trans (cmpS_ok rfl)) ⟨n, Nat.lt_succ_self n, _, _, h264, rfl⟩
      · refine W_sound tab_ok mixed 7 _ _ _ ?_
        simp -implicitDefEqProofs only [go_sem, ne_eq, not_false_eq_true, Nat.reduceBEq, Nat.reduceAdd, Nat.reduceSub, Nat.reduceMul, Nat.reduceLT, Nat.reduceLeDiff, Int.reduceLE, Int.reduceLT, Int.reduceToNat, Int.reduceBEq, Int.reduceBNe, Int.le_refl, Nat.le_refl, decide_true, decide_false, Int.cast_ofNat_Int, ↓reduceIte, h251]
        repeat with_reducible refine And.intro (by first | kernel_rfl | decide) ?_
        obtain rfl := Option.some.inj h264
        exact cutQ _ ((Wk_le (.cons _ _ _ _ _ (.refl _) (.cons _ _ _ _ _ (.refl _) (.cons _ _ _ _ _ (.refl _) (.cons _ _ _ _ _ (.dead _) (.cons _ _ _ _ _ (.dead _) .nil))))) (OLe.refl _)).trans (cmpS_ok rfl)) ⟨_, rfl, rfl⟩
  · rintro _ ⟨c255, rfl, rfl⟩
    have hh := grd_some h265; clear h265; obtain ⟨g256, h265⟩ := hh
    have hh := getA5_some h265; clear h265; obtain ⟨p258, p259, p260, p261, p262, h257, h265⟩ := hh
    injection h257 with h257
    refine W_sound tab_ok mixed 7 _ _ _ ?_
    simp -implicitDefEqProofs only [go_sem, ne_eq, not_false_eq_true, Nat.reduceBEq, Nat.reduceAdd, Nat.reduceSub, Nat.reduceMul, Nat.reduceLT, Nat.reduceLeDiff, Int.reduceLE, Int.reduceLT, Int.reduceToNat, Int.reduceBEq, Int.reduceBNe, Int.le_refl, Nat.le_refl, decide_true, decide_false, Int.cast_ofNat_Int, ↓reduceIte, g256, h257]
    repeat with_reducible refine And.intro (by first | kernel_rfl | decide) ?_
    refine FinQ_wk (Wk_freeze 0 [p258, p259, p260, p261, p262] (by rfl) (by decide) (by decide)) ?_
    simp -implicitDefEqProofs only [go_sem, ne_eq, not_false_eq_true, Nat.reduceBEq, Nat.reduceAdd, Nat.reduceSub, Nat.reduceMul, Nat.reduceLT, Nat.reduceLeDiff, Int.reduceLE, Int.reduceLT, Int.reduceToNat, Int.reduceBEq, Int.reduceBNe, Int.le_refl, Nat.le_refl, decide_true, decide_false, Int.cast_ofNat_Int, ↓reduceIte, g256, h257]
    obtain rfl := Option.some.inj h265
    exact finC [(0, .v (.ipt [p258, p259, p260, p261, p262]))] [(0, .v (.ipt [p258, p259, p260, p261, p262]))] (by simp [leE, lk_cons]) (.cons _ _ _ _ _ (.v _ _ (.refl _)) .nil) (by rfl) (by simp [leE, lk_cons]) (by decide) (by decide) rfl (by simp only [go_sem, ne_eq, not_false_eq_true, Nat.reduceBEq, Nat.reduceAdd, Nat.reduceSub, Nat.reduceMul, Nat.reduceLT, Nat.reduceLeDiff, Int.reduceLE, Int.reduceLT, Int.reduceToNat, Int.reduceBEq, Int.reduceBNe, Int.le_refl, Nat.le_refl, decide_true, decide_false, Int.cast_ofNat_Int, ↓reduceIte, resQ_tmp, resQ_cell, resQ_nil, retD_one, retD_two, retD_three, retD_none]; try simp [R.val, retD_one, retD_two, retD_three, retD_none])

def m71 (N : Nat) (p283 : PV) (p284 : PV) : Option (PV) :=
  getA5 p283 fun p286 p287 p288 p289 p290 =>
  getA2 p284 fun p292 p293 =>
  getI .i64 p292 fun x295 =>
  grd (0 ≤ x295 ∧ x295 < 5) <|
  grd ((Int.toNat x295) < 5) <|
  getI .i64 (gp [p286, p287, p288, p289, p290] (Int.toNat x295)) fun x300 =>
  getI .i64 p293 fun x302 =>
  grd (0 ≤ x302 ∧ x302 < 5) <|
  grd ((Int.toNat x302) < 5) <|
  getI .i64 (gp [p286, p287, p288, p289, p290] (Int.toNat x302)) fun x307 =>
  some (.bool (x300 == x307))
theorem c71 (N : Nat) (p283 : PV) (p284 : PV) (r : PV)  (h : m71 N p283 p284 = some r) : FnP Tryd.prog 71 [p283, p284] r := by
  unfold m71 at h
  refine Fn_of (sz := 14) tab_ok [0, 1, 2, 3, 4] [.tmp 4] Tryd.func71 rfl rfl rfl (by simp) ?_
  simp only [initSt, initEnv, List.map_cons, List.map_nil, List.getD_cons_zero, List.getD_cons_succ, List.getD_nil]
  have hh := getA5_some h; clear h; obtain ⟨p286, p287, p288, p289, p290, h285, h⟩ := hh
  have hh := getA2_some h; clear h; obtain ⟨p292, p293, h291, h⟩ := hh
  have hh := getI_some h; clear h; obtain ⟨x295, h294, h⟩ := hh
  have hh := grd_some h; clear h; obtain ⟨⟨g296, g297⟩, h⟩ := hh
  have hh := grd_some h; clear h; obtain ⟨g298, h⟩ := hh
  have hh := getI_some h; clear h; obtain ⟨x300, h299, h⟩ := hh
  have hh := getI_some h; clear h; obtain ⟨x302, h301, h⟩ := hh
  have hh := grd_some h; clear h; obtain ⟨⟨g303, g304⟩, h⟩ := hh
  have hh := grd_some h; clear h; obtain ⟨g305, h⟩ := hh
  have hh := getI_some h; clear h; obtain ⟨x307, h306, h⟩ := hh
  refine W_sound tab_ok mixed 21 _ _ _ ?_
  simp -implicitDefEqProofs only [go_sem, ne_eq, not_false_eq_true, Nat.reduceBEq, Nat.reduceAdd, Nat.reduceSub, Nat.reduceMul, Nat.reduceLT, Nat.reduceLeDiff, Int.reduceLE, Int.reduceLT, Int.reduceToNat, Int.reduceBEq, Int.reduceBNe, Int.le_refl, Nat.le_refl, decide_true, decide_false, Int.cast_ofNat_Int, ↓reduceIte, h285, h291, h294, g296, g297, g298, h299, h301, g303, g304, g305, h306]
  repeat with_reducible refine And.intro (by first | kernel_rfl | decide) ?_
  obtain rfl := Option.some.inj h
  exact finC [(4, .v (.bool (x300 == x307)))] [(4, .v (.bool (x300 == x307)))] (by simp [leE, lk_cons]) (.cons _ _ _ _ _ (.v _ _ (.refl _)) .nil) (by rfl) (by simp [leE, lk_cons]) (by decide) (by decide) rfl (by simp only [go_sem, ne_eq, not_false_eq_true, Nat.reduceBEq, Nat.reduceAdd, Nat.reduceSub, Nat.reduceMul, Nat.reduceLT, Nat.reduceLeDiff, Int.reduceLE, Int.reduceLT, Int.reduceToNat, Int.reduceBEq, Int.reduceBNe, Int.le_refl, Nat.le_refl, decide_true, decide_false, Int.cast_ofNat_Int, ↓reduceIte, resQ_tmp, resQ_cell, resQ_nil, retD_one, retD_two, retD_three, retD_none]; try simp [R.val, retD_one, retD_two, retD_three, retD_none])

def m98_L0 (N : Nat) (p316 : PV) (p317 : PV) (p318 : PV) (p319 : PV) (p320 : PV) (x330 : Int) (x337 : Int) : Nat → Int → List PV → Option (List PV)
  | 0, _, _ => none
  | n + 1, x346, c347 =>
    brn (decide (x346 < 5)) (
      grd (0 ≤ x346 ∧ x346 < 5) <|
      getI .i64 (gp [p316, p317, p318, p319, p320] (Int.toNat x346)) fun x352 =>
      brn (x352 == (maxI x330 x337)) (
        grd (((Int.toNat x346) + 1) ≤ List.length c347) <|
        m98_L0 N p316 p317 p318 p319 p320 x330 x337 n (IntKind.i64.wrap (x346 + 1)) (List.set c347 (Int.toNat x346) (.int .i64 (minI x330 x337)))) (
        m98_L0 N p316 p317 p318 p319 p320 x330 x337 n (IntKind.i64.wrap (x346 + 1)) c347)) (
      some c347)
def m98 (N : Nat) (p313 : PV) (p314 : PV) : Option (PV) :=
  getA5 p313 fun p316 p317 p318 p319 p320 =>
  getA2 p314 fun p322 p323 =>
  getI .i64 p322 fun x325 =>
  grd (0 ≤ x325 ∧ x325 < 5) <|
  grd ((Int.toNat x325) < 5) <|
  getI .i64 (gp [p316, p317, p318, p319, p320] (Int.toNat x325)) fun x330 =>
  getI .i64 p323 fun x332 =>
  grd (0 ≤ x332 ∧ x332 < 5) <|
  grd ((Int.toNat x332) < 5) <|
  getI .i64 (gp [p316, p317, p318, p319, p320] (Int.toNat x332)) fun x337 =>
  bnd' (m98_L0 N p316 p317 p318 p319 p320 x330 x337 N 0 [p316, p317, p318, p319, p320]) fun c355 =>
  grd (5 ≤ List.length c355) <|
  getA5 (.agg (List.take 5 c355)) fun p358 p359 p360 p361 p362 =>
  some (.agg [p358, p359, p360, p361, p362])
theorem c98 (N : Nat) (p313 : PV) (p314 : PV) (r : PV)  (h : m98 N p313 p314 = some r) : FnP Tryd.prog 98 [p313, p314] r := by
  unfold m98 at h
  refine Fn_of (sz := 40) tab_ok [0, 1, 2, 3, 4, 5, 6, 7, 8, 27, 28, 29, 34] [.cell 4 98] Tryd.func98 rfl rfl rfl (by simp) ?_
  simp only [initSt, initEnv, List.map_cons, List.map_nil, List.getD_cons_zero, List.getD_cons_succ, List.getD_nil]
  have hh := getA5_some h; clear h; obtain ⟨p316, p317, p318, p319, p320, h315, h⟩ := hh
  have hh := getA2_some h; clear h; obtain ⟨p322, p323, h321, h⟩ := hh
  have hh := getI_some h; clear h; obtain ⟨x325, h324, h⟩ := hh
  have hh := grd_some h; clear h; obtain ⟨⟨g326, g327⟩, h⟩ := hh
  have hh := grd_some h; clear h; obtain ⟨g328, h⟩ := hh
  have hh := getI_some h; clear h; obtain ⟨x330, h329, h⟩ := hh
  have hh := getI_some h; clear h; obtain ⟨x332, h331, h⟩ := hh
  have hh := grd_some h; clear h; obtain ⟨⟨g333, g334⟩, h⟩ := hh
  have hh := grd_some h; clear h; obtain ⟨g335, h⟩ := hh
  have hh := getI_some h; clear h; obtain ⟨x337, h336, h⟩ := hh
  refine W_sound tab_ok mixed 35 _ _ _ ?_
  simp -implicitDefEqProofs only [go_sem, ne_eq, not_false_eq_true, Nat.reduceBEq, Nat.reduceAdd, Nat.reduceSub, Nat.reduceMul, Nat.reduceLT, Nat.reduceLeDiff, Int.reduceLE, Int.reduceLT, Int.reduceToNat, Int.reduceBEq, Int.reduceBNe, Int.le_refl, Nat.le_refl, decide_true, decide_false, Int.cast_ofNat_Int, ↓reduceIte, h315, h321, h324, g326, g327, g328, h329, h331, g333, g334, g335, h336]
  repeat with_reducible refine And.intro (by first | kernel_rfl | decide) ?_
  have hh := bnd'_some h; clear h; obtain ⟨o363, h364, h365⟩ := hh
  refine Wp_cut (fun s => ∃ c355, c355 = o363 ∧ s = ⟨[], [(0, .dead), (1, .dead), (2, .ptr 0 0), (3, .dead), (4, .ptr 1 0), (5, .dead), (6, .dead), (7, .dead), (8, .dead), (27, .dead), (28, .dead), (29, .dead), (34, .dead)], [(0, .p c355), (1, .p [(.int .i64 0), (.int .i64 0), (.int .i64 0), (.int .i64 0), (.int .i64 0)])], 2, []⟩) ?_ ?_
  · refine Wp_block ?_
    refine Wp_loopG (fun n s => ∃ x346, ∃ c347, m98_L0 N p316 p317 p318 p319 p320 x330 x337 n x346 c347 = some o363 ∧ s = ⟨[], [(0, .dead), (1, .dead), (2, .ptr 0 0), (3, .dead), (4, .ptr 1 0), (5, .v (.int .i64 (minI x330 x337))), (6, .v (.int .i64 (maxI x330 x337))), (7, .dead), (8, .dead), (27, .v (.agg [p316, p317, p318, p319, p320])), (28, .v (.int .i64 x346)), (29, .dead), (34, .dead)], [(0, .p c347), (1, .p [(.int .i64 0), (.int .i64 0), (.int .i64 0), (.int .i64 0), (.int .i64 0)])], 2, []⟩) N _ ((Wk_le (.cons _ _ _ _ _ (.dead _) (.cons _ _ _ _ _ (.dead _) (.cons _ _ _ _ _ (.refl _) (.cons _ _ _ _ _ (.dead _) (.cons _ _ _ _ _ (.refl _) (.cons _ _ _ _ _ (.refl _) (.cons _ _ _ _ _ (.refl _) (.cons _ _ _ _ _ (.refl _) (.cons _ _ _ _ _ (.refl _) (.cons _ _ _ _ _ (.refl _) (.cons _ _ _ _ _ (.refl _) (.cons _ _ _ _ _ (.refl _) (.cons _ _ _ _ _ (.refl _) .nil))))))))))))) (OLe.refl _)).trans (cmpS_ok (st' := ⟨[], [(0, .dead), (1, .dead), (2, .ptr 0 0), (3, .dead), (4, .ptr 1 0), (5, .v (.int .i64 (minI x330 x337))), (6, .v (.int .i64 (maxI x330 x337))), (7, .dead), (8, .dead), (27, .v (.agg [p316, p317, p318, p319, p320])), (28, .v (.int .i64 0)), (29, .dead), (34, .dead)], [(0, .p [p316, p317, p318, p319, p320]), (1, .p [(.int .i64 0), (.int .i64 0), (.int .i64 0), (.int .i64 0), (.int .i64 0)])], 2, []⟩) (by kernel_rfl))) ⟨_, _, h364, rfl⟩ ?_
    clear h364
    rintro n _ ⟨x346, c347, h364, rfl⟩
    cases n with
    | zero => cases h364
    | succ n =>
      rw [m98_L0] at h364
      have hh := brn_some h364; clear h364; rcases hh with ⟨h348, h364⟩ | ⟨h348, h364⟩
      · have hh := grd_some h364; clear h364; obtain ⟨⟨g349, g350⟩, h364⟩ := hh
        have hh := getI_some h364; clear h364; obtain ⟨x352, h351, h364⟩ := hh
        have hh := brn_some h364; clear h364; rcases hh with ⟨h353, h364⟩ | ⟨h353, h364⟩
        · have hh := grd_some h364; clear h364; obtain ⟨g354, h364⟩ := hh
          refine W_sound tab_ok mixed 34 _ _ _ ?_
          simp -implicitDefEqProofs only [go_sem, ne_eq, not_false_eq_true, Nat.reduceBEq, Nat.reduceAdd, Nat.reduceSub, Nat.reduceMul, Nat.reduceLT, Nat.reduceLeDiff, Int.reduceLE, Int.reduceLT, Int.reduceToNat, Int.reduceBEq, Int.reduceBNe, Int.le_refl, Nat.le_refl, decide_true, decide_false, Int.cast_ofNat_Int, ↓reduceIte, h315, h321, h324, g326, g327, g328, h329, h331, g333, g334, g335, h336, h348, g349, g350, h351, h353, g354]
          repeat with_reducible refine And.intro (by first | kernel_rfl | decide) ?_
          exact cutQ _ ((Wk_le (.cons _ _ _ _ _ (.refl _) (.cons _ _ _ _ _ (.refl _) (.cons _ _ _ _ _ (.refl _) (.cons _ _ _ _ _ (.refl _) (.cons _ _ _ _ _ (.refl _) (.cons _ _ _ _ _ (.refl _) (.cons _ _ _ _ _ (.refl _) (.cons _ _ _ _ _ (.dead _) (.cons _ _ _ _ _ (.dead _) (.cons _ _ _ _ _ (.refl _) (.cons _ _ _ _ _ (.refl _) (.cons _ _ _ _ _ (.dead _) (.cons _ _ _ _ _ (.dead _) .nil))))))))))))) (OLe.refl _)).trans (cmpS_ok (st' := ⟨[], [(0, .dead), (1, .dead), (2, .ptr 0 0), (3, .dead), (4, .ptr 1 0), (5, .v (.int .i64 (minI x330 x337))), (6, .v (.int .i64 (maxI x330 x337))), (7, .dead), (8, .dead), (27, .v (.agg [p316, p317, p318, p319, p320])), (28, .v (.int .i64 (IntKind.i64.wrap (x346 + 1)))), (29, .dead), (34, .dead)], [(0, .p (List.set c347 (Int.toNat x346) (.int .i64 (minI x330 x337)))), (1, .p [(.int .i64 0), (.int .i64 0), (.int .i64 0), (.int .i64 0), (.int .i64 0)])], 2, []⟩) (by kernel_rfl))) ⟨n, Nat.lt_succ_self n, _, _, h364, rfl⟩
        · refine W_sound tab_ok mixed 29 _ _ _ ?_
          simp -implicitDefEqProofs only [go_sem, ne_eq, not_false_eq_true, Nat.reduceBEq, Nat.reduceAdd, Nat.reduceSub, Nat.reduceMul, Nat.reduceLT, Nat.reduceLeDiff, Int.reduceLE, Int.reduceLT, Int.reduceToNat, Int.reduceBEq, Int.reduceBNe, Int.le_refl, Nat.le_refl, decide_true, decide_false, Int.cast_ofNat_Int, ↓reduceIte, h315, h321, h324, g326, g327, g328, h329, h331, g333, g334, g335, h336, h348, g349, g350, h351, h353]
          repeat with_reducible refine And.intro (by first | kernel_rfl | decide) ?_
          exact cutQ _ ((Wk_le (.cons _ _ _ _ _ (.refl _) (.cons _ _ _ _ _ (.refl _) (.cons _ _ _ _ _ (.refl _) (.cons _ _ _ _ _ (.refl _) (.cons _ _ _ _ _ (.refl _) (.cons _ _ _ _ _ (.refl _) (.cons _ _ _ _ _ (.refl _) (.cons _ _ _ _ _ (.dead _) (.cons _ _ _ _ _ (.dead _) (.cons _ _ _ _ _ (.refl _) (.cons _ _ _ _ _ (.refl _) (.cons _ _ _ _ _ (.dead _) (.cons _ _ _ _ _ (.dead _) .nil))))))))))))) (OLe.refl _)).trans (cmpS_ok (st' := ⟨[], [(0, .dead), (1, .dead), (2, .ptr 0 0), (3, .dead), (4, .ptr 1 0), (5, .v (.int .i64 (minI x330 x337))), (6, .v (.int .i64 (maxI x330 x337))), (7, .dead), (8, .dead), (27, .v (.agg [p316, p317, p318, p319, p320])), (28, .v (.int .i64 (IntKind.i64.wrap (x346 + 1)))), (29, .dead), (34, .dead)], [(0, .p c347), (1, .p [(.int .i64 0), (.int .i64 0), (.int .i64 0), (.int .i64 0), (.int .i64 0)])], 2, []⟩) (by kernel_rfl))) ⟨n, Nat.lt_succ_self n, _, _, h364, rfl⟩
      · refine W_sound tab_ok mixed 7 _ _ _ ?_
        simp -implicitDefEqProofs only [go_sem, ne_eq, not_false_eq_true, Nat.reduceBEq, Nat.reduceAdd, Nat.reduceSub, Nat.reduceMul, Nat.reduceLT, Nat.reduceLeDiff, Int.reduceLE, Int.reduceLT, Int.reduceToNat, Int.reduceBEq, Int.reduceBNe, Int.le_refl, Nat.le_refl, decide_true, decide_false, Int.cast_ofNat_Int, ↓reduceIte, h315, h321, h324, g326, g327, g328, h329, h331, g333, g334, g335, h336, h348]
        repeat with_reducible refine And.intro (by first | kernel_rfl | decide) ?_
        obtain rfl := Option.some.inj h364
        exact cutQ _ ((Wk_le (.cons _ _ _ _ _ (.refl _) (.cons _ _ _ _ _ (.refl _) (.cons _ _ _ _ _ (.refl _) (.cons _ _ _ _ _ (.refl _) (.cons _ _ _ _ _ (.refl _) (.cons _ _ _ _ _ (.dead _) (.cons _ _ _ _ _ (.dead _) (.cons _ _ _ _ _ (.refl _) (.cons _ _ _ _ _ (.refl _) (.cons _ _ _ _ _ (.dead _) (.cons _ _ _ _ _ (.dead _) (.cons _ _ _ _ _ (.dead _) (.cons _ _ _ _ _ (.refl _) .nil))))))))))))) (OLe.refl _)).trans (cmpS_ok (st' := ⟨[], [(0, .dead), (1, .dead), (2, .ptr 0 0), (3, .dead), (4, .ptr 1 0), (5, .dead), (6, .dead), (7, .dead), (8, .dead), (27, .dead), (28, .dead), (29, .dead), (34, .dead)], [(0, .p c347), (1, .p [(.int .i64 0), (.int .i64 0), (.int .i64 0), (.int .i64 0), (.int .i64 0)])], 2, []⟩) (by kernel_rfl))) ⟨_, rfl, rfl⟩
  · rintro _ ⟨c355, rfl, rfl⟩
    have hh := grd_some h365; clear h365; obtain ⟨g356, h365⟩ := hh
    have hh := getA5_some h365; clear h365; obtain ⟨p358, p359, p360, p361, p362, h357, h365⟩ := hh
    injection h357 with h357
    refine W_sound tab_ok mixed 7 _ _ _ ?_
    simp -implicitDefEqProofs only [go_sem, ne_eq, not_false_eq_true, Nat.reduceBEq, Nat.reduceAdd, Nat.reduceSub, Nat.reduceMul, Nat.reduceLT, Nat.reduceLeDiff, Int.reduceLE, Int.reduceLT, Int.reduceToNat, Int.reduceBEq, Int.reduceBNe, Int.le_refl, Nat.le_refl, decide_true, decide_false, Int.cast_ofNat_Int, ↓reduceIte, h315, h321, h324, g326, g327, g328, h329, h331, g333, g334, g335, h336, g356, h357]
    repeat with_reducible refine And.intro (by first | kernel_rfl | decide) ?_
    refine FinQ_wk (Wk_freeze 1 [p358, p359, p360, p361, p362] (by rfl) (by decide) (by decide)) ?_
    simp -implicitDefEqProofs only [go_sem, ne_eq, not_false_eq_true, Nat.reduceBEq, Nat.reduceAdd, Nat.reduceSub, Nat.reduceMul, Nat.reduceLT, Nat.reduceLeDiff, Int.reduceLE, Int.reduceLT, Int.reduceToNat, Int.reduceBEq, Int.reduceBNe, Int.le_refl, Nat.le_refl, decide_true, decide_false, Int.cast_ofNat_Int, ↓reduceIte, h315, h321, h324, g326, g327, g328, h329, h331, g333, g334, g335, h336, g356, h357]
    obtain rfl := Option.some.inj h365
    exact finC [(4, .v (.ipt [p358, p359, p360, p361, p362]))] [(4, .v (.ipt [p358, p359, p360, p361, p362]))] (by simp [leE, lk_cons]) (.cons _ _ _ _ _ (.v _ _ (.refl _)) .nil) (by rfl) (by simp [leE, lk_cons]) (by decide) (by decide) rfl (by simp only [go_sem, ne_eq, not_false_eq_true, Nat.reduceBEq, Nat.reduceAdd, Nat.reduceSub, Nat.reduceMul, Nat.reduceLT, Nat.reduceLeDiff, Int.reduceLE, Int.reduceLT, Int.reduceToNat, Int.reduceBEq, Int.reduceBNe, Int.le_refl, Nat.le_refl, decide_true, decide_false, Int.cast_ofNat_Int, ↓reduceIte, resQ_tmp, resQ_cell, resQ_nil, retD_one, retD_two, retD_three, retD_none]; try simp [R.val, retD_one, retD_two, retD_three, retD_none])

end Go.Proofs.YtnponojgpkbagaaDoor

namespace Go.Proofs.YtnponojgpkbagaaDoor
open Go.V
set_option maxRecDepth 100000
set_option maxHeartbeats 4000000
set_option linter.unusedSimpArgs false
set_option linter.unusedVariables false
attribute [local go_sem] tl1 tl2 tl3 tl4 tl5 tl9 tl17 tl21 tl22 tl23 tl24 tl25 tl26 tl27 tl28 tl29 tl31 tl32 tl34 tl35 tl36 tl37 tl38 tl39 tl40 tl41 tl42 tl43 tl44 tl45 tl47 tl48 tl49 tl50 tl51 tl52 tl53 tl54 tl55 tl56 tl57 tl58 tl59 tl60 tl61 tl62 tl63 tl64 tl65 tl66 tl67 tl68 tl69 tl70 tl71 tl72 tl73 tl74 tl75 tl76 tl77 tl78 tl79 tl80 tl81 tl82 tl83 tl84 tl85 tl86 tl87 tl88 tl89 tl90 tl92 tl94 tl95 tl96 tl97 tl98 tl99 tl100 tl101 tl102 tl103 tl104 tl105 tl106 tl107 tl108 tl109 tl110 tl111 tl112 tl113 tl114 tl115 tl116 tl118 tl119 tl121 tl122 tl123 tl124 tl125 tl126 tl127 tl128 tl129 tl131 tl133 tl134 tl135 tl136 tl142 tl146
def gv1 : List PV := (glk Gv 1).getD []
@[local go_sem] theorem ev_gv1 (get : Nat → D) : evG get (.global 1) = .v (.ipt gv1) := rfl

def m103 (N : Nat) (x533 : Int) : Option (PV) :=
  brn (x533 == 0) (
    some (.int .i64 64)) (
    grd (0 ≤ (Int.fdiv (IntKind.u64.wrap ((bitsI .and .u64 x533 (IntKind.u64.wrap (0 - x533))) * 285870213051353865)) (2 ^ (min 58 64))) ∧ (Int.fdiv (IntKind.u64.wrap ((bitsI .and .u64 x533 (IntKind.u64.wrap (0 - x533))) * 285870213051353865)) (2 ^ (min 58 64))) < 64) <|
    grd (0 < List.length (List.drop (Int.toNat (Int.fdiv (IntKind.u64.wrap ((bitsI .and .u64 x533 (IntKind.u64.wrap (0 - x533))) * 285870213051353865)) (2 ^ (min 58 64)))) gv1)) <|
    getI .u8 (gp gv1 (Int.toNat (Int.fdiv (IntKind.u64.wrap ((bitsI .and .u64 x533 (IntKind.u64.wrap (0 - x533))) * 285870213051353865)) (2 ^ (min 58 64))))) fun x539 =>
    some (.int .i64 (IntKind.i64.wrap x539)))
theorem c103 (N : Nat) (x533 : Int) (r : PV)  (h : m103 N x533 = some r) : FnP Tryd.prog 103 [(.int .u64 x533)] r := by
  unfold m103 at h
  refine Fn_of (sz := 14) tab_ok [0, 2, 4] [.tmp 2] Tryd.func103 rfl rfl rfl (by simp) ?_
  simp only [initSt, initEnv, List.map_cons, List.map_nil, List.getD_cons_zero, List.getD_cons_succ, List.getD_nil]
  have hh := brn_some h; clear h; rcases hh with ⟨h534, h⟩ | ⟨h534, h⟩
  · refine W_sound tab_ok mixed 17 _ _ _ ?_
    simp -implicitDefEqProofs only [go_sem, ne_eq, not_false_eq_true, Nat.reduceBEq, Nat.reduceAdd, Nat.reduceSub, Nat.reduceMul, Nat.reduceLT, Nat.reduceLeDiff, Int.reduceLE, Int.reduceLT, Int.reduceToNat, Int.reduceBEq, Int.reduceBNe, Int.le_refl, Nat.le_refl, decide_true, decide_false, Int.cast_ofNat_Int, ↓reduceIte, h534]
    repeat with_reducible refine And.intro (by first | kernel_rfl | decide) ?_
    obtain rfl := Option.some.inj h
    exact finC [(2, .v (.int .i64 64))] [(2, .v (.int .i64 64))] (by simp [leE, lk_cons]) (.cons _ _ _ _ _ (.v _ _ (.refl _)) .nil) (by rfl) (by simp [leE, lk_cons]) (by decide) (by decide) rfl (by simp only [go_sem, ne_eq, not_false_eq_true, Nat.reduceBEq, Nat.reduceAdd, Nat.reduceSub, Nat.reduceMul, Nat.reduceLT, Nat.reduceLeDiff, Int.reduceLE, Int.reduceLT, Int.reduceToNat, Int.reduceBEq, Int.reduceBNe, Int.le_refl, Nat.le_refl, decide_true, decide_false, Int.cast_ofNat_Int, ↓reduceIte, resQ_tmp, resQ_cell, resQ_nil, retD_one, retD_two, retD_three, retD_none]; try simp [R.val, retD_one, retD_two, retD_three, retD_none])
  · have hh := grd_some h; clear h; obtain ⟨⟨g535, g536⟩, h⟩ := hh
    have hh := grd_some h; clear h; obtain ⟨g537, h⟩ := hh
    have hh := getI_some h; clear h; obtain ⟨x539, h538, h⟩ := hh
    refine W_sound tab_ok mixed 27 _ _ _ ?_
    simp -implicitDefEqProofs only [go_sem, ne_eq, not_false_eq_true, Nat.reduceBEq, Nat.reduceAdd, Nat.reduceSub, Nat.reduceMul, Nat.reduceLT, Nat.reduceLeDiff, Int.reduceLE, Int.reduceLT, Int.reduceToNat, Int.reduceBEq, Int.reduceBNe, Int.le_refl, Nat.le_refl, decide_true, decide_false, Int.cast_ofNat_Int, ↓reduceIte, h534, g535, g536, g537, h538]
    repeat with_reducible refine And.intro (by first | kernel_rfl | decide) ?_
    obtain rfl := Option.some.inj h
    exact finC [(2, .v (.int .i64 (IntKind.i64.wrap x539)))] [(2, .v (.int .i64 (IntKind.i64.wrap x539)))] (by simp [leE, lk_cons]) (.cons _ _ _ _ _ (.v _ _ (.refl _)) .nil) (by rfl) (by simp [leE, lk_cons]) (by decide) (by decide) rfl (by simp only [go_sem, ne_eq, not_false_eq_true, Nat.reduceBEq, Nat.reduceAdd, Nat.reduceSub, Nat.reduceMul, Nat.reduceLT, Nat.reduceLeDiff, Int.reduceLE, Int.reduceLT, Int.reduceToNat, Int.reduceBEq, Int.reduceBNe, Int.le_refl, Nat.le_refl, decide_true, decide_false, Int.cast_ofNat_Int, ↓reduceIte, resQ_tmp, resQ_cell, resQ_nil, retD_one, retD_two, retD_three, retD_none]; try simp [R.val, retD_one, retD_two, retD_three, retD_none])

def m90 (N : Nat) (x532 : Int) : Option (PV) :=
  bnd' (m103 N x532) fun p540 =>
  getI .i64 p540 fun x543 =>
  some (.int .i64 x543)
theorem c90 (N : Nat) (x532 : Int) (r : PV)  (h : m90 N x532 = some r) : FnP Tryd.prog 90 [(.int .u64 x532)] r := by
  unfold m90 at h
  refine Fn_of (sz := 8) tab_ok [0, 2] [.tmp 2] Tryd.func90 rfl rfl rfl (by simp) ?_
  simp only [initSt, initEnv, List.map_cons, List.map_nil, List.getD_cons_zero, List.getD_cons_succ, List.getD_nil]
  have hh := bnd'_some h; clear h; obtain ⟨p540, h541, h⟩ := hh
  refine W_sound tab_ok mixed 10 _ _ _ ?_
  simp -implicitDefEqProofs only [go_sem, ne_eq, not_false_eq_true, Nat.reduceBEq, Nat.reduceAdd, Nat.reduceSub, Nat.reduceMul, Nat.reduceLT, Nat.reduceLeDiff, Int.reduceLE, Int.reduceLT, Int.reduceToNat, Int.reduceBEq, Int.reduceBNe, Int.le_refl, Nat.le_refl, decide_true, decide_false, Int.cast_ofNat_Int, ↓reduceIte]
  repeat with_reducible refine And.intro (by first | kernel_rfl | decide) ?_
  refine Wp_callP (c103 N _ _ h541) (by kernel_rfl) rfl rfl rfl rfl (by decide) ?_
  have hh := getI_some h; clear h; obtain ⟨x543, h542, h⟩ := hh
  refine W_sound tab_ok mixed 4 _ _ _ ?_
  simp -implicitDefEqProofs only [go_sem, ne_eq, not_false_eq_true, Nat.reduceBEq, Nat.reduceAdd, Nat.reduceSub, Nat.reduceMul, Nat.reduceLT, Nat.reduceLeDiff, Int.reduceLE, Int.reduceLT, Int.reduceToNat, Int.reduceBEq, Int.reduceBNe, Int.le_refl, Nat.le_refl, decide_true, decide_false, Int.cast_ofNat_Int, ↓reduceIte, h542]
  repeat with_reducible refine And.intro (by first | kernel_rfl | decide) ?_
  obtain rfl := Option.some.inj h
  exact finC [(2, .v (.int .i64 x543))] [(2, .v (.int .i64 x543))] (by simp [leE, lk_cons]) (.cons _ _ _ _ _ (.v _ _ (.refl _)) .nil) (by rfl) (by simp [leE, lk_cons]) (by decide) (by decide) rfl (by simp only [go_sem, ne_eq, not_false_eq_true, Nat.reduceBEq, Nat.reduceAdd, Nat.reduceSub, Nat.reduceMul, Nat.reduceLT, Nat.reduceLeDiff, Int.reduceLE, Int.reduceLT, Int.reduceToNat, Int.reduceBEq, Int.reduceBNe, Int.le_refl, Nat.le_refl, decide_true, decide_false, Int.cast_ofNat_Int, ↓reduceIte, resQ_tmp, resQ_cell, resQ_nil, retD_one, retD_two, retD_three, retD_none]; try simp [R.val, retD_one, retD_two, retD_three, retD_none])

def m77_L0 (N : Nat)  : Nat → Int → Nat → List PV → Option ((Nat × List PV))
  | 0, _, _, _ => none
  | n + 1, x554, n555, c556 =>
    brn (x554 != 0) (
      bnd' (m90 N x554) fun p558 =>
      getI .i64 p558 fun x561 =>
      grd ((n555 + 1) ≤ 1099511627776) <|
      grd (List.length c556 = n555) <|
      m77_L0 N  n (bitsI .and .u64 x554 (IntKind.u64.wrap (x554 - 1))) (n555 + 1) (c556 ++ [(.int .i64 x561)])) (
      some (n555, c556))
def m77 (N : Nat) (x529 : Int) : Option (PV) :=
  bnd' (m77_L0 N  N x529 0 []) fun o =>
  match o with
  | (n564, c565) =>
    grd (List.length c565 = n564) <|
    some (.lst false n564 c565)
theorem c77 (N : Nat) (x529 : Int) (r : PV)  (h : m77 N x529 = some r) : FnP Tryd.prog 77 [(.int .u64 x529)] r := by
  unfold m77 at h
  refine Fn_of (sz := 16) tab_ok [0, 2, 3, 5] [.tmp 2] Tryd.func77 rfl rfl rfl (by simp) ?_
  simp only [initSt, initEnv, List.map_cons, List.map_nil, List.getD_cons_zero, List.getD_cons_succ, List.getD_nil]
  refine W_sound tab_ok mixed 9 _ _ _ ?_
  simp -implicitDefEqProofs only [go_sem, ne_eq, not_false_eq_true, Nat.reduceBEq, Nat.reduceAdd, Nat.reduceSub, Nat.reduceMul, Nat.reduceLT, Nat.reduceLeDiff, Int.reduceLE, Int.reduceLT, Int.reduceToNat, Int.reduceBEq, Int.reduceBNe, Int.le_refl, Nat.le_refl, decide_true, decide_false, Int.cast_ofNat_Int, ↓reduceIte]
  repeat with_reducible refine And.intro (by first | kernel_rfl | decide) ?_
  refine Wp_weaken (Wk_ownS 3 1 rfl (by decide) (by decide)) ?_
  simp -implicitDefEqProofs only [go_sem, ne_eq, not_false_eq_true, Nat.reduceBEq, Nat.reduceAdd, Nat.reduceSub, Nat.reduceMul, Nat.reduceLT, Nat.reduceLeDiff, Int.reduceLE, Int.reduceLT, Int.reduceToNat, Int.reduceBEq, Int.reduceBNe, Int.le_refl, Nat.le_refl, decide_true, decide_false, Int.cast_ofNat_Int, ↓reduceIte]
  have hh := bnd'_some h; clear h; obtain ⟨o567, h568, h569⟩ := hh
  refine Wp_cut (fun s => ∃ n564, ∃ c565, (n564, c565) = o567 ∧ s = ⟨[], [(0, .dead), (2, .dead), (3, .sl false 0 0 n564 1), (5, .dead)], [(0, .p c565)], 1, []⟩) ?_ ?_
  · refine Wp_block ?_
    refine Wp_loopG (fun n s => ∃ x554, ∃ n555, ∃ c556, m77_L0 N  n x554 n555 c556 = some o567 ∧ s = ⟨[], [(0, .v (.int .u64 x554)), (2, .dead), (3, .sl false 0 0 n555 1), (5, .dead)], [(0, .p c556)], 1, []⟩) N _ ((Wk_le (.cons _ _ _ _ _ (.refl _) (.cons _ _ _ _ _ (.dead _) (.cons _ _ _ _ _ (.refl _) (.cons _ _ _ _ _ (.refl _) .nil)))) (OLe.refl _)).trans (cmpS_ok rfl)) ⟨_, _, _, h568, rfl⟩ ?_
    clear h568
    rintro n _ ⟨x554, n555, c556, h568, rfl⟩
    cases n with
    | zero => cases h568
    | succ n =>
      rw [m77_L0] at h568
      have hh := brn_some h568; clear h568; rcases hh with ⟨h557, h568⟩ | ⟨h557, h568⟩
      · have hh := bnd'_some h568; clear h568; obtain ⟨p558, h559, h568⟩ := hh
        refine W_sound tab_ok mixed 13 _ _ _ ?_
        simp -implicitDefEqProofs only [go_sem, ne_eq, not_false_eq_true, Nat.reduceBEq, Nat.reduceAdd, Nat.reduceSub, Nat.reduceMul, Nat.reduceLT, Nat.reduceLeDiff, Int.reduceLE, Int.reduceLT, Int.reduceToNat, Int.reduceBEq, Int.reduceBNe, Int.le_refl, Nat.le_refl, decide_true, decide_false, Int.cast_ofNat_Int, ↓reduceIte, h557]
        repeat with_reducible refine And.intro (by first | kernel_rfl | decide) ?_
        refine Wp_callP (c90 N _ _ h559) (by kernel_rfl) rfl rfl rfl rfl (by decide) ?_
        have hh := getI_some h568; clear h568; obtain ⟨x561, h560, h568⟩ := hh
        have hh := grd_some h568; clear h568; obtain ⟨g562, h568⟩ := hh
        have hh := grd_some h568; clear h568; obtain ⟨g563, h568⟩ := hh
        refine W_sound tab_ok mixed 12 _ _ _ ?_
        simp -implicitDefEqProofs only [go_sem, ne_eq, not_false_eq_true, Nat.reduceBEq, Nat.reduceAdd, Nat.reduceSub, Nat.reduceMul, Nat.reduceLT, Nat.reduceLeDiff, Int.reduceLE, Int.reduceLT, Int.reduceToNat, Int.reduceBEq, Int.reduceBNe, Int.le_refl, Nat.le_refl, decide_true, decide_false, Int.cast_ofNat_Int, ↓reduceIte, h557, h560, g562, g563]
        repeat with_reducible refine And.intro (by first | kernel_rfl | decide) ?_
        exact cutQ _ ((Wk_le (.cons _ _ _ _ _ (.refl _) (.cons _ _ _ _ _ (.refl _) (.cons _ _ _ _ _ (.refl _) (.cons _ _ _ _ _ (.dead _) .nil)))) (OLe.refl _)).trans (cmpS_ok rfl)) ⟨n, Nat.lt_succ_self n, _, _, _, h568, rfl⟩
      · refine W_sound tab_ok mixed 8 _ _ _ ?_
        simp -implicitDefEqProofs only [go_sem, ne_eq, not_false_eq_true, Nat.reduceBEq, Nat.reduceAdd, Nat.reduceSub, Nat.reduceMul, Nat.reduceLT, Nat.reduceLeDiff, Int.reduceLE, Int.reduceLT, Int.reduceToNat, Int.reduceBEq, Int.reduceBNe, Int.le_refl, Nat.le_refl, decide_true, decide_false, Int.cast_ofNat_Int, ↓reduceIte, h557]
        repeat with_reducible refine And.intro (by first | kernel_rfl | decide) ?_
        obtain rfl := Option.some.inj h568
        exact cutQ _ ((Wk_le (.cons _ _ _ _ _ (.dead _) (.cons _ _ _ _ _ (.refl _) (.cons _ _ _ _ _ (.refl _) (.cons _ _ _ _ _ (.dead _) .nil)))) (OLe.refl _)).trans (cmpS_ok rfl)) ⟨_, _, rfl, rfl⟩
  · rintro _ ⟨n564, c565, rfl, rfl⟩
    (try dsimp only at h569)
    refine W_sound tab_ok mixed 7 _ _ _ ?_
    simp -implicitDefEqProofs only [go_sem, ne_eq, not_false_eq_true, Nat.reduceBEq, Nat.reduceAdd, Nat.reduceSub, Nat.reduceMul, Nat.reduceLT, Nat.reduceLeDiff, Int.reduceLE, Int.reduceLT, Int.reduceToNat, Int.reduceBEq, Int.reduceBNe, Int.le_refl, Nat.le_refl, decide_true, decide_false, Int.cast_ofNat_Int, ↓reduceIte]
    repeat with_reducible refine And.intro (by first | kernel_rfl | decide) ?_
    have hh := grd_some h569; clear h569; obtain ⟨g566, h569⟩ := hh
    refine FinQ_wk (Wk_freeze 0 c565 (by rfl) (by decide) (by decide)) ?_
    simp -implicitDefEqProofs only [go_sem, ne_eq, not_false_eq_true, Nat.reduceBEq, Nat.reduceAdd, Nat.reduceSub, Nat.reduceMul, Nat.reduceLT, Nat.reduceLeDiff, Int.reduceLE, Int.reduceLT, Int.reduceToNat, Int.reduceBEq, Int.reduceBNe, Int.le_refl, Nat.le_refl, decide_true, decide_false, Int.cast_ofNat_Int, ↓reduceIte, g566]
    obtain rfl := Option.some.inj h569
    exact finC [(2, .v (.lst false n564 c565))] [(2, .v (.lst false n564 c565))] (by simp [leE, lk_cons]) (.cons _ _ _ _ _ (.v _ _ (.refl _)) .nil) (by rfl) (by simp [leE, lk_cons]) (by decide) (by decide) rfl (by simp only [go_sem, ne_eq, not_false_eq_true, Nat.reduceBEq, Nat.reduceAdd, Nat.reduceSub, Nat.reduceMul, Nat.reduceLT, Nat.reduceLeDiff, Int.reduceLE, Int.reduceLT, Int.reduceToNat, Int.reduceBEq, Int.reduceBNe, Int.le_refl, Nat.le_refl, decide_true, decide_false, Int.cast_ofNat_Int, ↓reduceIte, resQ_tmp, resQ_cell, resQ_nil, retD_one, retD_two, retD_three, retD_none]; try simp [R.val, retD_one, retD_two, retD_three, retD_none])

end Go.Proofs.YtnponojgpkbagaaDoor

namespace Go.Proofs.YtnponojgpkbagaaDoor
open Go.V
set_option maxRecDepth 100000
set_option maxHeartbeats 4000000
set_option linter.unusedSimpArgs false
set_option linter.unusedVariables false
attribute [local go_sem] tl1 tl2 tl3 tl4 tl5 tl9 tl17 tl21 tl22 tl23 tl24 tl25 tl26 tl27 tl28 tl29 tl31 tl32 tl34 tl35 tl36 tl37 tl38 tl39 tl40 tl41 tl42 tl43 tl44 tl45 tl47 tl48 tl49 tl50 tl51 tl52 tl53 tl54 tl55 tl56 tl57 tl58 tl59 tl60 tl61 tl62 tl63 tl64 tl65 tl66 tl67 tl68 tl69 tl70 tl71 tl72 tl73 tl74 tl75 tl76 tl77 tl78 tl79 tl80 tl81 tl82 tl83 tl84 tl85 tl86 tl87 tl88 tl89 tl90 tl92 tl94 tl95 tl96 tl97 tl98 tl99 tl100 tl101 tl102 tl103 tl104 tl105 tl106 tl107 tl108 tl109 tl110 tl111 tl112 tl113 tl114 tl115 tl116 tl118 tl119 tl121 tl122 tl123 tl124 tl125 tl126 tl127 tl128 tl129 tl131 tl133 tl134 tl135 tl136 tl142 tl146

def m75 (N : Nat) (x781 : Int) (x782 : Int) (x783 : Int) : Option (PV) :=
  brn (decide (x781 ≥ x782)) (
    some (.bool (decide (x781 ≤ x783)))) (
    some (.bool false))
theorem c75 (N : Nat) (x781 : Int) (x782 : Int) (x783 : Int) (r : PV)  (h : m75 N x781 x782 x783 = some r) : FnP Tryd.prog 75 [(.int .i64 x781), (.int .i64 x782), (.int .i64 x783)] r := by
  unfold m75 at h
  refine Fn_of (sz := 15) tab_ok [0, 1, 2, 6] [.tmp 6] Tryd.func75 rfl rfl rfl (by simp) ?_
  simp only [initSt, initEnv, List.map_cons, List.map_nil, List.getD_cons_zero, List.getD_cons_succ, List.getD_nil]
  have hh := brn_some h; clear h; rcases hh with ⟨h784, h⟩ | ⟨h784, h⟩
  · refine W_sound tab_ok mixed 18 _ _ _ ?_
    simp -implicitDefEqProofs only [go_sem, ne_eq, not_false_eq_true, Nat.reduceBEq, Nat.reduceAdd, Nat.reduceSub, Nat.reduceMul, Nat.reduceLT, Nat.reduceLeDiff, Int.reduceLE, Int.reduceLT, Int.reduceToNat, Int.reduceBEq, Int.reduceBNe, Int.le_refl, Nat.le_refl, decide_true, decide_false, Int.cast_ofNat_Int, ↓reduceIte, h784]
    repeat with_reducible refine And.intro (by first | kernel_rfl | decide) ?_
    obtain rfl := Option.some.inj h
    exact finC [(6, .v (.bool (decide (x781 ≤ x783))))] [(6, .v (.bool (decide (x781 ≤ x783))))] (by simp [leE, lk_cons]) (.cons _ _ _ _ _ (.v _ _ (.refl _)) .nil) (by rfl) (by simp [leE, lk_cons]) (by decide) (by decide) rfl (by simp only [go_sem, ne_eq, not_false_eq_true, Nat.reduceBEq, Nat.reduceAdd, Nat.reduceSub, Nat.reduceMul, Nat.reduceLT, Nat.reduceLeDiff, Int.reduceLE, Int.reduceLT, Int.reduceToNat, Int.reduceBEq, Int.reduceBNe, Int.le_refl, Nat.le_refl, decide_true, decide_false, Int.cast_ofNat_Int, ↓reduceIte, resQ_tmp, resQ_cell, resQ_nil, retD_one, retD_two, retD_three, retD_none]; try simp [R.val, retD_one, retD_two, retD_three, retD_none])
  · refine W_sound tab_ok mixed 18 _ _ _ ?_
    simp -implicitDefEqProofs only [go_sem, ne_eq, not_false_eq_true, Nat.reduceBEq, Nat.reduceAdd, Nat.reduceSub, Nat.reduceMul, Nat.reduceLT, Nat.reduceLeDiff, Int.reduceLE, Int.reduceLT, Int.reduceToNat, Int.reduceBEq, Int.reduceBNe, Int.le_refl, Nat.le_refl, decide_true, decide_false, Int.cast_ofNat_Int, ↓reduceIte, h784]
    repeat with_reducible refine And.intro (by first | kernel_rfl | decide) ?_
    obtain rfl := Option.some.inj h
    exact finC [(6, .v (.bool false))] [(6, .v (.bool false))] (by simp [leE, lk_cons]) (.cons _ _ _ _ _ (.v _ _ (.refl _)) .nil) (by rfl) (by simp [leE, lk_cons]) (by decide) (by decide) rfl (by simp only [go_sem, ne_eq, not_false_eq_true, Nat.reduceBEq, Nat.reduceAdd, Nat.reduceSub, Nat.reduceMul, Nat.reduceLT, Nat.reduceLeDiff, Int.reduceLE, Int.reduceLT, Int.reduceToNat, Int.reduceBEq, Int.reduceBNe, Int.le_refl, Nat.le_refl, decide_true, decide_false, Int.cast_ofNat_Int, ↓reduceIte, resQ_tmp, resQ_cell, resQ_nil, retD_one, retD_two, retD_three, retD_none]; try simp [R.val, retD_one, retD_two, retD_three, retD_none])

def m23_L2 (N : Nat) (x780 : Int) (n791 : Nat) (c792 : List PV) (x794 : Int) (n800 : Nat) (c801 : List PV) (x803 : Int) : Nat → Int → Option ((PV ⊕ Unit))
  | 0, _ => none
  | n + 1, x824 =>
    brn (decide (x824 < x803)) (
      grd (0 ≤ x824 ∧ x824 < ((n800 : Nat) : Int)) <|
      grd (2 ≤ List.length (List.drop ((Int.toNat x824) * 2) c801)) <|
      getA2 (.agg (List.take 2 (List.drop ((Int.toNat x824) * 2) c801))) fun p830 p831 =>
      grd (2 ≤ List.length (List.drop ((Int.toNat x803) * 2) c801)) <|
      getA2 (.agg (List.take 2 (List.drop ((Int.toNat x803) * 2) c801))) fun p834 p835 =>
      getI .i64 p831 fun x837 =>
      getI .i64 p835 fun x839 =>
      getI .i64 p830 fun x841 =>
      getI .i64 p834 fun x843 =>
      brn ((x841 == x843) && (x837 == x839)) (
        some (.inl (.int .i64 6))) (
        m23_L2 N x780 n791 c792 x794 n800 c801 x803 n (IntKind.i64.wrap (x824 + 1)))) (
      some (.inr ()))
def m23_L1 (N : Nat) (x780 : Int) (n791 : Nat) (c792 : List PV) (x794 : Int) (n800 : Nat) (c801 : List PV) : Nat → Int → Option ((PV ⊕ Unit))
  | 0, _ => none
  | n + 1, x803 =>
    brn (decide (x803 < ((n800 : Nat) : Int))) (
      grd (0 ≤ x803 ∧ x803 < ((n800 : Nat) : Int)) <|
      grd (0 < List.length (List.drop ((Int.toNat x803) * 2) c801)) <|
      getI .i64 (gp c801 ((Int.toNat x803) * 2)) fun x809 =>
      bnd' (m75 N x809 0 (IntKind.i64.wrap (x780 - 1))) fun p810 =>
      getB p810 fun b813 =>
      brn b813 (
        grd (0 < List.length (List.drop 1 (List.drop ((Int.toNat x803) * 2) c801))) <|
        getI .i64 (gp c801 (((Int.toNat x803) * 2) + 1)) fun x817 =>
        bnd' (m75 N x817 0 (IntKind.i64.wrap (x780 - 1))) fun p818 =>
        getB p818 fun b821 =>
        brn b821 (
          brn (decide (x809 ≥ x817)) (
            some (.inl (.int .i64 7))) (
            bnd' (m23_L2 N x780 n791 c792 x794 n800 c801 x803 N 0) fun o =>
            match o with
            | .inl p845 =>
              some (.inl p845)
            | .inr () =>
              m23_L1 N x780 n791 c792 x794 n800 c801 n (IntKind.i64.wrap (x803 + 1)))) (
          some (.inl (.int .i64 2)))) (
        some (.inl (.int .i64 2)))) (
      some (.inr ()))
def m23_L0 (N : Nat) (x780 : Int) (n791 : Nat) (c792 : List PV) : Nat → Int → Option ((PV ⊕ Unit))
  | 0, _ => none
  | n + 1, x794 =>
    brn (decide (x794 < ((n791 : Nat) : Int))) (
      grd (0 ≤ x794 ∧ x794 < ((n791 : Nat) : Int)) <|
      grd (0 < List.length (List.drop (Int.toNat x794) c792)) <|
      getL (gp c792 (Int.toNat x794)) fun n800 c801 =>
      brn (decide (((n800 : Nat) : Int) > 6)) (
        some (.inl (.int .i64 3))) (
        bnd' (m23_L1 N x780 n791 c792 x794 n800 c801 N 0) fun o =>
        match o with
        | .inl p846 =>
          some (.inl p846)
        | .inr () =>
          m23_L0 N x780 n791 c792 n (IntKind.i64.wrap (x794 + 1)))) (
      some (.inr ()))
def m23 (N : Nat) (p775 : PV) : Option (PV) :=
  getA2 p775 fun p777 p778 =>
  getI .i64 p777 fun x780 =>
  bnd' (m75 N x780 1 5) fun p785 =>
  getB p785 fun b788 =>
  brn b788 (
    getL p778 fun n791 c792 =>
    brn (decide (((n791 : Nat) : Int) > 5)) (
      some (.int .i64 3)) (
      bnd' (m23_L0 N x780 n791 c792 N 0) fun o =>
      match o with
      | .inl p847 =>
        some p847
      | .inr () =>
        some (.int .i64 0))) (
    some (.int .i64 1))
theorem c23 (N : Nat) (p775 : PV) (r : PV)  (h : m23 N p775 = some r) : FnP Tryd.prog 23 [p775] r := by
  unfold m23 at h
  refine Fn_of (sz := 83) tab_ok [0, 1, 2, 3, 4, 5, 6, 10, 14, 19, 29, 33, 57, 68, 71, 82] [.tmp 2] Tryd.func23 rfl rfl rfl (by simp) ?_
  simp only [initSt, initEnv, List.map_cons, List.map_nil, List.getD_cons_zero, List.getD_cons_succ, List.getD_nil]
  have hh := getA2_some h; clear h; obtain ⟨p777, p778, h776, h⟩ := hh
  have hh := getI_some h; clear h; obtain ⟨x780, h779, h⟩ := hh
  have hh := bnd'_some h; clear h; obtain ⟨p785, h786, h⟩ := hh
  refine W_sound tab_ok mixed 10 _ _ _ ?_
  simp -implicitDefEqProofs only [go_sem, ne_eq, not_false_eq_true, Nat.reduceBEq, Nat.reduceAdd, Nat.reduceSub, Nat.reduceMul, Nat.reduceLT, Nat.reduceLeDiff, Int.reduceLE, Int.reduceLT, Int.reduceToNat, Int.reduceBEq, Int.reduceBNe, Int.le_refl, Nat.le_refl, decide_true, decide_false, Int.cast_ofNat_Int, ↓reduceIte, h776, h779]
  repeat with_reducible refine And.intro (by first | kernel_rfl | decide) ?_
  refine Wp_callP (c75 N _ _ _ _ h786) (by kernel_rfl) rfl rfl rfl rfl (by decide) ?_
  have hh := getB_some h; clear h; obtain ⟨b788, h787, h⟩ := hh
  have hh := brn_some h; clear h; rcases hh with ⟨h789, h⟩ | ⟨h789, h⟩
  · have hh := getL_some h; clear h; obtain ⟨n791, c792, h790, h⟩ := hh
    have hh := brn_some h; clear h; rcases hh with ⟨h793, h⟩ | ⟨h793, h⟩
    · refine W_sound tab_ok mixed 19 _ _ _ ?_
      simp -implicitDefEqProofs only [go_sem, ne_eq, not_false_eq_true, Nat.reduceBEq, Nat.reduceAdd, Nat.reduceSub, Nat.reduceMul, Nat.reduceLT, Nat.reduceLeDiff, Int.reduceLE, Int.reduceLT, Int.reduceToNat, Int.reduceBEq, Int.reduceBNe, Int.le_refl, Nat.le_refl, decide_true, decide_false, Int.cast_ofNat_Int, ↓reduceIte, h776, h779, h787, h789, h790, h793]
      repeat with_reducible refine And.intro (by first | kernel_rfl | decide) ?_
      obtain rfl := Option.some.inj h
      exact finC [(2, .v (.int .i64 3))] [(2, .v (.int .i64 3))] (by simp [leE, lk_cons]) (.cons _ _ _ _ _ (.v _ _ (.refl _)) .nil) (by rfl) (by simp [leE, lk_cons]) (by decide) (by decide) rfl (by simp only [go_sem, ne_eq, not_false_eq_true, Nat.reduceBEq, Nat.reduceAdd, Nat.reduceSub, Nat.reduceMul, Nat.reduceLT, Nat.reduceLeDiff, Int.reduceLE, Int.reduceLT, Int.reduceToNat, Int.reduceBEq, Int.reduceBNe, Int.le_refl, Nat.le_refl, decide_true, decide_false, Int.cast_ofNat_Int, ↓reduceIte, resQ_tmp, resQ_cell, resQ_nil, retD_one, retD_two, retD_three, retD_none]; try simp [R.val, retD_one, retD_two, retD_three, retD_none])
    · refine W_sound tab_ok mixed 19 _ _ _ ?_
      simp -implicitDefEqProofs only [go_sem, ne_eq, not_false_eq_true, Nat.reduceBEq, Nat.reduceAdd, Nat.reduceSub, Nat.reduceMul, Nat.reduceLT, Nat.reduceLeDiff, Int.reduceLE, Int.reduceLT, Int.reduceToNat, Int.reduceBEq, Int.reduceBNe, Int.le_refl, Nat.le_refl, decide_true, decide_false, Int.cast_ofNat_Int, ↓reduceIte, h776, h779, h787, h789, h790, h793]
      repeat with_reducible refine And.intro (by first | kernel_rfl | decide) ?_
      have hh := bnd'_some h; clear h; obtain ⟨o848, h849, h850⟩ := hh
      refine Wp_cut (fun s => (.inr ()) = o848 ∧ s = ⟨[], [(0, .dead), (1, .dead), (2, .dead), (3, .dead), (4, .dead), (5, .dead), (6, .dead), (10, .dead), (14, .dead), (19, .dead), (29, .dead), (33, .dead), (57, .dead), (68, .dead), (71, .dead), (82, .dead)], [], 0, []⟩) ?_ ?_
      · refine Wp_block ?_
        refine Wp_loopG (fun n s => ∃ x794, m23_L0 N x780 n791 c792 n x794 = some o848 ∧ s = ⟨[], [(0, .dead), (1, .ptr 0 0), (2, .dead), (3, .v (.int .i64 x794)), (4, .dead), (5, .dead), (6, .dead), (10, .dead), (14, .dead), (19, .dead), (29, .dead), (33, .dead), (57, .dead), (68, .dead), (71, .dead), (82, .dead)], [(0, .p [(.int .i64 x780), (.lst false n791 c792)])], 1, []⟩) N _ ((Wk_le (.cons _ _ _ _ _ (.dead _) (.cons _ _ _ _ _ (.refl _) (.cons _ _ _ _ _ (.dead _) (.cons _ _ _ _ _ (.refl _) (.cons _ _ _ _ _ (.refl _) (.cons _ _ _ _ _ (.refl _) (.cons _ _ _ _ _ (.refl _) (.cons _ _ _ _ _ (.dead _) (.cons _ _ _ _ _ (.dead _) (.cons _ _ _ _ _ (.refl _) (.cons _ _ _ _ _ (.refl _) (.cons _ _ _ _ _ (.refl _) (.cons _ _ _ _ _ (.refl _) (.cons _ _ _ _ _ (.refl _) (.cons _ _ _ _ _ (.refl _) (.cons _ _ _ _ _ (.refl _) .nil)))))))))))))))) (OLe.refl _)).trans (cmpS_ok (st' := ⟨[], [(0, .dead), (1, .ptr 0 0), (2, .dead), (3, .v (.int .i64 0)), (4, .dead), (5, .dead), (6, .dead), (10, .dead), (14, .dead), (19, .dead), (29, .dead), (33, .dead), (57, .dead), (68, .dead), (71, .dead), (82, .dead)], [(0, .p [(.int .i64 x780), (.lst false n791 c792)])], 1, []⟩) (by kernel_rfl))) ⟨_, h849, rfl⟩ ?_
        clear h849
        rintro n _ ⟨x794, h849, rfl⟩
        cases n with
        | zero => cases h849
        | succ n =>
          rw [m23_L0] at h849
          have hh := brn_some h849; clear h849; rcases hh with ⟨h795, h849⟩ | ⟨h795, h849⟩
          · have hh := grd_some h849; clear h849; obtain ⟨⟨g796, g797⟩, h849⟩ := hh
            have hh := grd_some h849; clear h849; obtain ⟨g798, h849⟩ := hh
            have hh := getL_some h849; clear h849; obtain ⟨n800, c801, h799, h849⟩ := hh
            have hh := brn_some h849; clear h849; rcases hh with ⟨h802, h849⟩ | ⟨h802, h849⟩
            · refine W_sound tab_ok mixed 36 _ _ _ ?_
              simp -implicitDefEqProofs only [go_sem, ne_eq, not_false_eq_true, Nat.reduceBEq, Nat.reduceAdd, Nat.reduceSub, Nat.reduceMul, Nat.reduceLT, Nat.reduceLeDiff, Int.reduceLE, Int.reduceLT, Int.reduceToNat, Int.reduceBEq, Int.reduceBNe, Int.le_refl, Nat.le_refl, decide_true, decide_false, Int.cast_ofNat_Int, ↓reduceIte, h776, h779, h787, h789, h790, h793, h795, g796, g797, g798, h799, h802]
              repeat with_reducible refine And.intro (by first | kernel_rfl | decide) ?_
              obtain rfl := Option.some.inj h849
              (try dsimp only at h850)
              obtain rfl := Option.some.inj h850
              exact finC [(2, .v (.int .i64 3))] [(2, .v (.int .i64 3))] (by simp [leE, lk_cons]) (.cons _ _ _ _ _ (.v _ _ (.refl _)) .nil) (by rfl) (by simp [leE, lk_cons]) (by decide) (by decide) rfl (by simp only [go_sem, ne_eq, not_false_eq_true, Nat.reduceBEq, Nat.reduceAdd, Nat.reduceSub, Nat.reduceMul, Nat.reduceLT, Nat.reduceLeDiff, Int.reduceLE, Int.reduceLT, Int.reduceToNat, Int.reduceBEq, Int.reduceBNe, Int.le_refl, Nat.le_refl, decide_true, decide_false, Int.cast_ofNat_Int, ↓reduceIte, resQ_tmp, resQ_cell, resQ_nil, retD_one, retD_two, retD_three, retD_none]; try simp [R.val, retD_one, retD_two, retD_three, retD_none])
            · refine W_sound tab_ok mixed 35 _ _ _ ?_
              simp -implicitDefEqProofs only [go_sem, ne_eq, not_false_eq_true, Nat.reduceBEq, Nat.reduceAdd, Nat.reduceSub, Nat.reduceMul, Nat.reduceLT, Nat.reduceLeDiff, Int.reduceLE, Int.reduceLT, Int.reduceToNat, Int.reduceBEq, Int.reduceBNe, Int.le_refl, Nat.le_refl, decide_true, decide_false, Int.cast_ofNat_Int, ↓reduceIte, h776, h779, h787, h789, h790, h793, h795, g796, g797, g798, h799, h802]
              repeat with_reducible refine And.intro (by first | kernel_rfl | decide) ?_
              have hh := bnd'_some h849; clear h849; obtain ⟨o851, h852, h853⟩ := hh
              refine Wp_cut (fun s => (.inr ()) = o851 ∧ s = ⟨[], [(0, .dead), (1, .ptr 0 0), (2, .dead), (3, .v (.int .i64 x794)), (4, .dead), (5, .dead), (6, .dead), (10, .dead), (14, .dead), (19, .dead), (29, .dead), (33, .dead), (57, .dead), (68, .dead), (71, .dead), (82, .dead)], [(0, .p [(.int .i64 x780), (.lst false n791 c792)])], 1, []⟩) ?_ ?_
              · refine Wp_block ?_
                refine Wp_loopG (fun n s => ∃ x803, m23_L1 N x780 n791 c792 x794 n800 c801 n x803 = some o851 ∧ s = ⟨[], [(0, .dead), (1, .ptr 0 0), (2, .dead), (3, .v (.int .i64 x794)), (4, .v (.lst false n800 c801)), (5, .v (.int .i64 x803)), (6, .dead), (10, .dead), (14, .dead), (19, .dead), (29, .dead), (33, .dead), (57, .dead), (68, .dead), (71, .dead), (82, .dead)], [(0, .p [(.int .i64 x780), (.lst false n791 c792)])], 1, []⟩) N _ ((Wk_le (.cons _ _ _ _ _ (.refl _) (.cons _ _ _ _ _ (.refl _) (.cons _ _ _ _ _ (.refl _) (.cons _ _ _ _ _ (.refl _) (.cons _ _ _ _ _ (.refl _) (.cons _ _ _ _ _ (.refl _) (.cons _ _ _ _ _ (.refl _) (.cons _ _ _ _ _ (.refl _) (.cons _ _ _ _ _ (.refl _) (.cons _ _ _ _ _ (.dead _) (.cons _ _ _ _ _ (.dead _) (.cons _ _ _ _ _ (.refl _) (.cons _ _ _ _ _ (.refl _) (.cons _ _ _ _ _ (.refl _) (.cons _ _ _ _ _ (.refl _) (.cons _ _ _ _ _ (.refl _) .nil)))))))))))))))) (OLe.refl _)).trans (cmpS_ok (st' := ⟨[], [(0, .dead), (1, .ptr 0 0), (2, .dead), (3, .v (.int .i64 x794)), (4, .v (.lst false n800 c801)), (5, .v (.int .i64 0)), (6, .dead), (10, .dead), (14, .dead), (19, .dead), (29, .dead), (33, .dead), (57, .dead), (68, .dead), (71, .dead), (82, .dead)], [(0, .p [(.int .i64 x780), (.lst false n791 c792)])], 1, []⟩) (by kernel_rfl))) ⟨_, h852, rfl⟩ ?_
                clear h852
                rintro n _ ⟨x803, h852, rfl⟩
                cases n with
                | zero => cases h852
                | succ n =>
                  rw [m23_L1] at h852
                  have hh := brn_some h852; clear h852; rcases hh with ⟨h804, h852⟩ | ⟨h804, h852⟩
                  · have hh := grd_some h852; clear h852; obtain ⟨⟨g805, g806⟩, h852⟩ := hh
                    have hh := grd_some h852; clear h852; obtain ⟨g807, h852⟩ := hh
                    have hh := getI_some h852; clear h852; obtain ⟨x809, h808, h852⟩ := hh
                    have hh := bnd'_some h852; clear h852; obtain ⟨p810, h811, h852⟩ := hh
                    refine W_sound tab_ok mixed 23 _ _ _ ?_
                    simp -implicitDefEqProofs only [go_sem, ne_eq, not_false_eq_true, Nat.reduceBEq, Nat.reduceAdd, Nat.reduceSub, Nat.reduceMul, Nat.reduceLT, Nat.reduceLeDiff, Int.reduceLE, Int.reduceLT, Int.reduceToNat, Int.reduceBEq, Int.reduceBNe, Int.le_refl, Nat.le_refl, decide_true, decide_false, Int.cast_ofNat_Int, ↓reduceIte, h776, h779, h787, h789, h790, h793, h795, g796, g797, g798, h799, h802, h804, g805, g806, g807, h808]
                    repeat with_reducible refine And.intro (by first | kernel_rfl | decide) ?_
                    refine Wp_callP (c75 N _ _ _ _ h811) (by kernel_rfl) rfl rfl rfl rfl (by decide) ?_
                    have hh := getB_some h852; clear h852; obtain ⟨b813, h812, h852⟩ := hh
                    have hh := brn_some h852; clear h852; rcases hh with ⟨h814, h852⟩ | ⟨h814, h852⟩
                    · have hh := grd_some h852; clear h852; obtain ⟨g815, h852⟩ := hh
                      have hh := getI_some h852; clear h852; obtain ⟨x817, h816, h852⟩ := hh
                      have hh := bnd'_some h852; clear h852; obtain ⟨p818, h819, h852⟩ := hh
                      refine W_sound tab_ok mixed 10 _ _ _ ?_
                      simp -implicitDefEqProofs only [go_sem, ne_eq, not_false_eq_true, Nat.reduceBEq, Nat.reduceAdd, Nat.reduceSub, Nat.reduceMul, Nat.reduceLT, Nat.reduceLeDiff, Int.reduceLE, Int.reduceLT, Int.reduceToNat, Int.reduceBEq, Int.reduceBNe, Int.le_refl, Nat.le_refl, decide_true, decide_false, Int.cast_ofNat_Int, ↓reduceIte, h776, h779, h787, h789, h790, h793, h795, g796, g797, g798, h799, h802, h804, g805, g806, g807, h808, h812, h814, g815, h816]
                      repeat with_reducible refine And.intro (by first | kernel_rfl | decide) ?_
                      refine Wp_callP (c75 N _ _ _ _ h819) (by kernel_rfl) rfl rfl rfl rfl (by decide) ?_
                      have hh := getB_some h852; clear h852; obtain ⟨b821, h820, h852⟩ := hh
                      have hh := brn_some h852; clear h852; rcases hh with ⟨h822, h852⟩ | ⟨h822, h852⟩
                      · have hh := brn_some h852; clear h852; rcases hh with ⟨h823, h852⟩ | ⟨h823, h852⟩
                        · refine W_sound tab_ok mixed 27 _ _ _ ?_
                          simp -implicitDefEqProofs only [go_sem, ne_eq, not_false_eq_true, Nat.reduceBEq, Nat.reduceAdd, Nat.reduceSub, Nat.reduceMul, Nat.reduceLT, Nat.reduceLeDiff, Int.reduceLE, Int.reduceLT, Int.reduceToNat, Int.reduceBEq, Int.reduceBNe, Int.le_refl, Nat.le_refl, decide_true, decide_false, Int.cast_ofNat_Int, ↓reduceIte, h776, h779, h787, h789, h790, h793, h795, g796, g797, g798, h799, h802, h804, g805, g806, g807, h808, h812, h814, g815, h816, h820, h822, h823]
                          repeat with_reducible refine And.intro (by first | kernel_rfl | decide) ?_
                          obtain rfl := Option.some.inj h852
                          (try dsimp only at h853)
                          obtain rfl := Option.some.inj h853
                          (try dsimp only at h850)
                          obtain rfl := Option.some.inj h850
                          exact finC [(2, .v (.int .i64 7))] [(2, .v (.int .i64 7))] (by simp [leE, lk_cons]) (.cons _ _ _ _ _ (.v _ _ (.refl _)) .nil) (by rfl) (by simp [leE, lk_cons]) (by decide) (by decide) rfl (by simp only [go_sem, ne_eq, not_false_eq_true, Nat.reduceBEq, Nat.reduceAdd, Nat.reduceSub, Nat.reduceMul, Nat.reduceLT, Nat.reduceLeDiff, Int.reduceLE, Int.reduceLT, Int.reduceToNat, Int.reduceBEq, Int.reduceBNe, Int.le_refl, Nat.le_refl, decide_true, decide_false, Int.cast_ofNat_Int, ↓reduceIte, resQ_tmp, resQ_cell, resQ_nil, retD_one, retD_two, retD_three, retD_none]; try simp [R.val, retD_one, retD_two, retD_three, retD_none])
                        · refine W_sound tab_ok mixed 26 _ _ _ ?_
                          simp -implicitDefEqProofs only [go_sem, ne_eq, not_false_eq_true, Nat.reduceBEq, Nat.reduceAdd, Nat.reduceSub, Nat.reduceMul, Nat.reduceLT, Nat.reduceLeDiff, Int.reduceLE, Int.reduceLT, Int.reduceToNat, Int.reduceBEq, Int.reduceBNe, Int.le_refl, Nat.le_refl, decide_true, decide_false, Int.cast_ofNat_Int, ↓reduceIte, h776, h779, h787, h789, h790, h793, h795, g796, g797, g798, h799, h802, h804, g805, g806, g807, h808, h812, h814, g815, h816, h820, h822, h823]
                          repeat with_reducible refine And.intro (by first | kernel_rfl | decide) ?_
                          have hh := bnd'_some h852; clear h852; obtain ⟨o854, h855, h856⟩ := hh
                          refine Wp_cut (fun s => (.inr ()) = o854 ∧ s = ⟨[], [(0, .dead), (1, .ptr 0 0), (2, .dead), (3, .v (.int .i64 x794)), (4, .v (.lst false n800 c801)), (5, .v (.int .i64 x803)), (6, .dead), (10, .dead), (14, .dead), (19, .dead), (29, .dead), (33, .dead), (57, .dead), (68, .dead), (71, .dead), (82, .dead)], [(0, .p [(.int .i64 x780), (.lst false n791 c792)])], 1, []⟩) ?_ ?_
                          · refine Wp_block ?_
                            refine Wp_loopG (fun n s => ∃ x824, m23_L2 N x780 n791 c792 x794 n800 c801 x803 n x824 = some o854 ∧ s = ⟨[], [(0, .dead), (1, .ptr 0 0), (2, .dead), (3, .v (.int .i64 x794)), (4, .v (.lst false n800 c801)), (5, .v (.int .i64 x803)), (6, .v (.int .i64 x824)), (10, .dead), (14, .dead), (19, .dead), (29, .dead), (33, .dead), (57, .dead), (68, .dead), (71, .dead), (82, .dead)], [(0, .p [(.int .i64 x780), (.lst false n791 c792)])], 1, []⟩) N _ ((Wk_le (.cons _ _ _ _ _ (.refl _) (.cons _ _ _ _ _ (.refl _) (.cons _ _ _ _ _ (.refl _) (.cons _ _ _ _ _ (.refl _) (.cons _ _ _ _ _ (.refl _) (.cons _ _ _ _ _ (.refl _) (.cons _ _ _ _ _ (.refl _) (.cons _ _ _ _ _ (.refl _) (.cons _ _ _ _ _ (.refl _) (.cons _ _ _ _ _ (.refl _) (.cons _ _ _ _ _ (.refl _) (.cons _ _ _ _ _ (.dead _) (.cons _ _ _ _ _ (.dead _) (.cons _ _ _ _ _ (.dead _) (.cons _ _ _ _ _ (.refl _) (.cons _ _ _ _ _ (.refl _) .nil)))))))))))))))) (OLe.refl _)).trans (cmpS_ok (st' := ⟨[], [(0, .dead), (1, .ptr 0 0), (2, .dead), (3, .v (.int .i64 x794)), (4, .v (.lst false n800 c801)), (5, .v (.int .i64 x803)), (6, .v (.int .i64 0)), (10, .dead), (14, .dead), (19, .dead), (29, .dead), (33, .dead), (57, .dead), (68, .dead), (71, .dead), (82, .dead)], [(0, .p [(.int .i64 x780), (.lst false n791 c792)])], 1, []⟩) (by kernel_rfl))) ⟨_, h855, rfl⟩ ?_
                            clear h855
                            rintro n _ ⟨x824, h855, rfl⟩
                            cases n with
                            | zero => cases h855
                            | succ n =>
                              rw [m23_L2] at h855
                              have hh := brn_some h855; clear h855; rcases hh with ⟨h825, h855⟩ | ⟨h825, h855⟩
                              · have hh := grd_some h855; clear h855; obtain ⟨⟨g826, g827⟩, h855⟩ := hh
                                have hh := grd_some h855; clear h855; obtain ⟨g828, h855⟩ := hh
                                have hh := getA2_some h855; clear h855; obtain ⟨p830, p831, h829, h855⟩ := hh
                                injection h829 with h829
                                have hh := grd_some h855; clear h855; obtain ⟨g832, h855⟩ := hh
                                have hh := getA2_some h855; clear h855; obtain ⟨p834, p835, h833, h855⟩ := hh
                                injection h833 with h833
                                have hh := getI_some h855; clear h855; obtain ⟨x837, h836, h855⟩ := hh
                                have hh := getI_some h855; clear h855; obtain ⟨x839, h838, h855⟩ := hh
                                have hh := getI_some h855; clear h855; obtain ⟨x841, h840, h855⟩ := hh
                                have hh := getI_some h855; clear h855; obtain ⟨x843, h842, h855⟩ := hh
                                have hh := brn_some h855; clear h855; rcases hh with ⟨h844, h855⟩ | ⟨h844, h855⟩
                                · refine W_sound tab_ok mixed 30 _ _ _ ?_
                                  simp -implicitDefEqProofs only [go_sem, ne_eq, not_false_eq_true, Nat.reduceBEq, Nat.reduceAdd, Nat.reduceSub, Nat.reduceMul, Nat.reduceLT, Nat.reduceLeDiff, Int.reduceLE, Int.reduceLT, Int.reduceToNat, Int.reduceBEq, Int.reduceBNe, Int.le_refl, Nat.le_refl, decide_true, decide_false, Int.cast_ofNat_Int, ↓reduceIte, h776, h779, h787, h789, h790, h793, h795, g796, g797, g798, h799, h802, h804, g805, g806, g807, h808, h812, h814, g815, h816, h820, h822, h823, h825, g826, g827, g828, h829, g832, h833, h836, h838, h840, h842, h844]
                                  repeat with_reducible refine And.intro (by first | kernel_rfl | decide) ?_
                                  obtain rfl := Option.some.inj h855
                                  (try dsimp only at h856)
                                  obtain rfl := Option.some.inj h856
                                  (try dsimp only at h853)
                                  obtain rfl := Option.some.inj h853
                                  (try dsimp only at h850)
                                  obtain rfl := Option.some.inj h850
                                  exact finC [(2, .v (.int .i64 6))] [(2, .v (.int .i64 6))] (by simp [leE, lk_cons]) (.cons _ _ _ _ _ (.v _ _ (.refl _)) .nil) (by rfl) (by simp [leE, lk_cons]) (by decide) (by decide) rfl (by simp only [go_sem, ne_eq, not_false_eq_true, Nat.reduceBEq, Nat.reduceAdd, Nat.reduceSub, Nat.reduceMul, Nat.reduceLT, Nat.reduceLeDiff, Int.reduceLE, Int.reduceLT, Int.reduceToNat, Int.reduceBEq, Int.reduceBNe, Int.le_refl, Nat.le_refl, decide_true, decide_false, Int.cast_ofNat_Int, ↓reduceIte, resQ_tmp, resQ_cell, resQ_nil, retD_one, retD_two, retD_three, retD_none]; try simp [R.val, retD_one, retD_two, retD_three, retD_none])
                                · refine W_sound tab_ok mixed 31 _ _ _ ?_
                                  simp -implicitDefEqProofs only [go_sem, ne_eq, not_false_eq_true, Nat.reduceBEq, Nat.reduceAdd, Nat.reduceSub, Nat.reduceMul, Nat.reduceLT, Nat.reduceLeDiff, Int.reduceLE, Int.reduceLT, Int.reduceToNat, Int.reduceBEq, Int.reduceBNe, Int.le_refl, Nat.le_refl, decide_true, decide_false, Int.cast_ofNat_Int, ↓reduceIte, h776, h779, h787, h789, h790, h793, h795, g796, g797, g798, h799, h802, h804, g805, g806, g807, h808, h812, h814, g815, h816, h820, h822, h823, h825, g826, g827, g828, h829, g832, h833, h836, h838, h840, h842, h844]
                                  repeat with_reducible refine And.intro (by first | kernel_rfl | decide) ?_
                                  exact cutQ _ ((Wk_le (.cons _ _ _ _ _ (.refl _) (.cons _ _ _ _ _ (.refl _) (.cons _ _ _ _ _ (.refl _) (.cons _ _ _ _ _ (.refl _) (.cons _ _ _ _ _ (.refl _) (.cons _ _ _ _ _ (.refl _) (.cons _ _ _ _ _ (.refl _) (.cons _ _ _ _ _ (.refl _) (.cons _ _ _ _ _ (.refl _) (.cons _ _ _ _ _ (.refl _) (.cons _ _ _ _ _ (.refl _) (.cons _ _ _ _ _ (.refl _) (.cons _ _ _ _ _ (.refl _) (.cons _ _ _ _ _ (.refl _) (.cons _ _ _ _ _ (.dead _) (.cons _ _ _ _ _ (.dead _) .nil)))))))))))))))) (OLe.refl _)).trans (cmpS_ok (st' := ⟨[], [(0, .dead), (1, .ptr 0 0), (2, .dead), (3, .v (.int .i64 x794)), (4, .v (.lst false n800 c801)), (5, .v (.int .i64 x803)), (6, .v (.int .i64 (IntKind.i64.wrap (x824 + 1)))), (10, .dead), (14, .dead), (19, .dead), (29, .dead), (33, .dead), (57, .dead), (68, .dead), (71, .dead), (82, .dead)], [(0, .p [(.int .i64 x780), (.lst false n791 c792)])], 1, []⟩) (by kernel_rfl))) ⟨n, Nat.lt_succ_self n, _, h855, rfl⟩
                              · refine W_sound tab_ok mixed 9 _ _ _ ?_
                                simp -implicitDefEqProofs only [go_sem, ne_eq, not_false_eq_true, Nat.reduceBEq, Nat.reduceAdd, Nat.reduceSub, Nat.reduceMul, Nat.reduceLT, Nat.reduceLeDiff, Int.reduceLE, Int.reduceLT, Int.reduceToNat, Int.reduceBEq, Int.reduceBNe, Int.le_refl, Nat.le_refl, decide_true, decide_false, Int.cast_ofNat_Int, ↓reduceIte, h776, h779, h787, h789, h790, h793, h795, g796, g797, g798, h799, h802, h804, g805, g806, g807, h808, h812, h814, g815, h816, h820, h822, h823, h825]
                                repeat with_reducible refine And.intro (by first | kernel_rfl | decide) ?_
                                obtain rfl := Option.some.inj h855
                                exact cutQ _ ((Wk_le (.cons _ _ _ _ _ (.refl _) (.cons _ _ _ _ _ (.refl _) (.cons _ _ _ _ _ (.refl _) (.cons _ _ _ _ _ (.refl _) (.cons _ _ _ _ _ (.refl _) (.cons _ _ _ _ _ (.refl _) (.cons _ _ _ _ _ (.dead _) (.cons _ _ _ _ _ (.refl _) (.cons _ _ _ _ _ (.refl _) (.cons _ _ _ _ _ (.refl _) (.cons _ _ _ _ _ (.refl _) (.cons _ _ _ _ _ (.refl _) (.cons _ _ _ _ _ (.refl _) (.cons _ _ _ _ _ (.refl _) (.cons _ _ _ _ _ (.dead _) (.cons _ _ _ _ _ (.refl _) .nil)))))))))))))))) (OLe.refl _)).trans (cmpS_ok (st' := ⟨[], [(0, .dead), (1, .ptr 0 0), (2, .dead), (3, .v (.int .i64 x794)), (4, .v (.lst false n800 c801)), (5, .v (.int .i64 x803)), (6, .dead), (10, .dead), (14, .dead), (19, .dead), (29, .dead), (33, .dead), (57, .dead), (68, .dead), (71, .dead), (82, .dead)], [(0, .p [(.int .i64 x780), (.lst false n791 c792)])], 1, []⟩) (by kernel_rfl))) ⟨rfl, rfl⟩
                          · rintro _ ⟨rfl, rfl⟩
                            (try dsimp only at h856)
                            refine W_sound tab_ok mixed 6 _ _ _ ?_
                            simp -implicitDefEqProofs only [go_sem, ne_eq, not_false_eq_true, Nat.reduceBEq, Nat.reduceAdd, Nat.reduceSub, Nat.reduceMul, Nat.reduceLT, Nat.reduceLeDiff, Int.reduceLE, Int.reduceLT, Int.reduceToNat, Int.reduceBEq, Int.reduceBNe, Int.le_refl, Nat.le_refl, decide_true, decide_false, Int.cast_ofNat_Int, ↓reduceIte, h776, h779, h787, h789, h790, h793, h795, g796, g797, g798, h799, h802, h804, g805, g806, g807, h808, h812, h814, g815, h816, h820, h822, h823]
                            repeat with_reducible refine And.intro (by first | kernel_rfl | decide) ?_
                            exact cutQ _ ((Wk_le (.cons _ _ _ _ _ (.refl _) (.cons _ _ _ _ _ (.refl _) (.cons _ _ _ _ _ (.refl _) (.cons _ _ _ _ _ (.refl _) (.cons _ _ _ _ _ (.refl _) (.cons _ _ _ _ _ (.refl _) (.cons _ _ _ _ _ (.refl _) (.cons _ _ _ _ _ (.refl _) (.cons _ _ _ _ _ (.refl _) (.cons _ _ _ _ _ (.refl _) (.cons _ _ _ _ _ (.refl _) (.cons _ _ _ _ _ (.refl _) (.cons _ _ _ _ _ (.refl _) (.cons _ _ _ _ _ (.refl _) (.cons _ _ _ _ _ (.refl _) (.cons _ _ _ _ _ (.refl _) .nil)))))))))))))))) (OLe.refl _)).trans (cmpS_ok (st' := ⟨[], [(0, .dead), (1, .ptr 0 0), (2, .dead), (3, .v (.int .i64 x794)), (4, .v (.lst false n800 c801)), (5, .v (.int .i64 (IntKind.i64.wrap (x803 + 1)))), (6, .dead), (10, .dead), (14, .dead), (19, .dead), (29, .dead), (33, .dead), (57, .dead), (68, .dead), (71, .dead), (82, .dead)], [(0, .p [(.int .i64 x780), (.lst false n791 c792)])], 1, []⟩) (by kernel_rfl))) ⟨n, Nat.lt_succ_self n, _, h856, rfl⟩
                      · refine W_sound tab_ok mixed 10 _ _ _ ?_
                        simp -implicitDefEqProofs only [go_sem, ne_eq, not_false_eq_true, Nat.reduceBEq, Nat.reduceAdd, Nat.reduceSub, Nat.reduceMul, Nat.reduceLT, Nat.reduceLeDiff, Int.reduceLE, Int.reduceLT, Int.reduceToNat, Int.reduceBEq, Int.reduceBNe, Int.le_refl, Nat.le_refl, decide_true, decide_false, Int.cast_ofNat_Int, ↓reduceIte, h776, h779, h787, h789, h790, h793, h795, g796, g797, g798, h799, h802, h804, g805, g806, g807, h808, h812, h814, g815, h816, h820, h822]
                        repeat with_reducible refine And.intro (by first | kernel_rfl | decide) ?_
                        obtain rfl := Option.some.inj h852
                        (try dsimp only at h853)
                        obtain rfl := Option.some.inj h853
                        (try dsimp only at h850)
                        obtain rfl := Option.some.inj h850
                        exact finC [(2, .v (.int .i64 2))] [(2, .v (.int .i64 2))] (by simp [leE, lk_cons]) (.cons _ _ _ _ _ (.v _ _ (.refl _)) .nil) (by rfl) (by simp [leE, lk_cons]) (by decide) (by decide) rfl (by simp only [go_sem, ne_eq, not_false_eq_true, Nat.reduceBEq, Nat.reduceAdd, Nat.reduceSub, Nat.reduceMul, Nat.reduceLT, Nat.reduceLeDiff, Int.reduceLE, Int.reduceLT, Int.reduceToNat, Int.reduceBEq, Int.reduceBNe, Int.le_refl, Nat.le_refl, decide_true, decide_false, Int.cast_ofNat_Int, ↓reduceIte, resQ_tmp, resQ_cell, resQ_nil, retD_one, retD_two, retD_three, retD_none]; try simp [R.val, retD_one, retD_two, retD_three, retD_none])
                    · refine W_sound tab_ok mixed 21 _ _ _ ?_
                      simp -implicitDefEqProofs only [go_sem, ne_eq, not_false_eq_true, Nat.reduceBEq, Nat.reduceAdd, Nat.reduceSub, Nat.reduceMul, Nat.reduceLT, Nat.reduceLeDiff, Int.reduceLE, Int.reduceLT, Int.reduceToNat, Int.reduceBEq, Int.reduceBNe, Int.le_refl, Nat.le_refl, decide_true, decide_false, Int.cast_ofNat_Int, ↓reduceIte, h776, h779, h787, h789, h790, h793, h795, g796, g797, g798, h799, h802, h804, g805, g806, g807, h808, h812, h814]
                      repeat with_reducible refine And.intro (by first | kernel_rfl | decide) ?_
                      obtain rfl := Option.some.inj h852
                      (try dsimp only at h853)
                      obtain rfl := Option.some.inj h853
                      (try dsimp only at h850)
                      obtain rfl := Option.some.inj h850
                      exact finC [(2, .v (.int .i64 2))] [(2, .v (.int .i64 2))] (by simp [leE, lk_cons]) (.cons _ _ _ _ _ (.v _ _ (.refl _)) .nil) (by rfl) (by simp [leE, lk_cons]) (by decide) (by decide) rfl (by simp only [go_sem, ne_eq, not_false_eq_true, Nat.reduceBEq, Nat.reduceAdd, Nat.reduceSub, Nat.reduceMul, Nat.reduceLT, Nat.reduceLeDiff, Int.reduceLE, Int.reduceLT, Int.reduceToNat, Int.reduceBEq, Int.reduceBNe, Int.le_refl, Nat.le_refl, decide_true, decide_false, Int.cast_ofNat_Int, ↓reduceIte, resQ_tmp, resQ_cell, resQ_nil, retD_one, retD_two, retD_three, retD_none]; try simp [R.val, retD_one, retD_two, retD_three, retD_none])
                  · refine W_sound tab_ok mixed 10 _ _ _ ?_
                    simp -implicitDefEqProofs only [go_sem, ne_eq, not_false_eq_true, Nat.reduceBEq, Nat.reduceAdd, Nat.reduceSub, Nat.reduceMul, Nat.reduceLT, Nat.reduceLeDiff, Int.reduceLE, Int.reduceLT, Int.reduceToNat, Int.reduceBEq, Int.reduceBNe, Int.le_refl, Nat.le_refl, decide_true, decide_false, Int.cast_ofNat_Int, ↓reduceIte, h776, h779, h787, h789, h790, h793, h795, g796, g797, g798, h799, h802, h804]
                    repeat with_reducible refine And.intro (by first | kernel_rfl | decide) ?_
                    obtain rfl := Option.some.inj h852
                    exact cutQ _ ((Wk_le (.cons _ _ _ _ _ (.refl _) (.cons _ _ _ _ _ (.refl _) (.cons _ _ _ _ _ (.refl _) (.cons _ _ _ _ _ (.refl _) (.cons _ _ _ _ _ (.dead _) (.cons _ _ _ _ _ (.dead _) (.cons _ _ _ _ _ (.refl _) (.cons _ _ _ _ _ (.refl _) (.cons _ _ _ _ _ (.refl _) (.cons _ _ _ _ _ (.refl _) (.cons _ _ _ _ _ (.refl _) (.cons _ _ _ _ _ (.dead _) (.cons _ _ _ _ _ (.refl _) (.cons _ _ _ _ _ (.refl _) (.cons _ _ _ _ _ (.refl _) (.cons _ _ _ _ _ (.refl _) .nil)))))))))))))))) (OLe.refl _)).trans (cmpS_ok (st' := ⟨[], [(0, .dead), (1, .ptr 0 0), (2, .dead), (3, .v (.int .i64 x794)), (4, .dead), (5, .dead), (6, .dead), (10, .dead), (14, .dead), (19, .dead), (29, .dead), (33, .dead), (57, .dead), (68, .dead), (71, .dead), (82, .dead)], [(0, .p [(.int .i64 x780), (.lst false n791 c792)])], 1, []⟩) (by kernel_rfl))) ⟨rfl, rfl⟩
              · rintro _ ⟨rfl, rfl⟩
                (try dsimp only at h853)
                refine W_sound tab_ok mixed 6 _ _ _ ?_
                simp -implicitDefEqProofs only [go_sem, ne_eq, not_false_eq_true, Nat.reduceBEq, Nat.reduceAdd, Nat.reduceSub, Nat.reduceMul, Nat.reduceLT, Nat.reduceLeDiff, Int.reduceLE, Int.reduceLT, Int.reduceToNat, Int.reduceBEq, Int.reduceBNe, Int.le_refl, Nat.le_refl, decide_true, decide_false, Int.cast_ofNat_Int, ↓reduceIte, h776, h779, h787, h789, h790, h793, h795, g796, g797, g798, h799, h802]
                repeat with_reducible refine And.intro (by first | kernel_rfl | decide) ?_
                exact cutQ _ ((Wk_le (.cons _ _ _ _ _ (.refl _) (.cons _ _ _ _ _ (.refl _) (.cons _ _ _ _ _ (.refl _) (.cons _ _ _ _ _ (.refl _) (.cons _ _ _ _ _ (.refl _) (.cons _ _ _ _ _ (.refl _) (.cons _ _ _ _ _ (.refl _) (.cons _ _ _ _ _ (.refl _) (.cons _ _ _ _ _ (.refl _) (.cons _ _ _ _ _ (.refl _) (.cons _ _ _ _ _ (.refl _) (.cons _ _ _ _ _ (.refl _) (.cons _ _ _ _ _ (.refl _) (.cons _ _ _ _ _ (.refl _) (.cons _ _ _ _ _ (.refl _) (.cons _ _ _ _ _ (.refl _) .nil)))))))))))))))) (OLe.refl _)).trans (cmpS_ok (st' := ⟨[], [(0, .dead), (1, .ptr 0 0), (2, .dead), (3, .v (.int .i64 (IntKind.i64.wrap (x794 + 1)))), (4, .dead), (5, .dead), (6, .dead), (10, .dead), (14, .dead), (19, .dead), (29, .dead), (33, .dead), (57, .dead), (68, .dead), (71, .dead), (82, .dead)], [(0, .p [(.int .i64 x780), (.lst false n791 c792)])], 1, []⟩) (by kernel_rfl))) ⟨n, Nat.lt_succ_self n, _, h853, rfl⟩
          · refine W_sound tab_ok mixed 11 _ _ _ ?_
            simp -implicitDefEqProofs only [go_sem, ne_eq, not_false_eq_true, Nat.reduceBEq, Nat.reduceAdd, Nat.reduceSub, Nat.reduceMul, Nat.reduceLT, Nat.reduceLeDiff, Int.reduceLE, Int.reduceLT, Int.reduceToNat, Int.reduceBEq, Int.reduceBNe, Int.le_refl, Nat.le_refl, decide_true, decide_false, Int.cast_ofNat_Int, ↓reduceIte, h776, h779, h787, h789, h790, h793, h795]
            repeat with_reducible refine And.intro (by first | kernel_rfl | decide) ?_
            obtain rfl := Option.some.inj h849
            exact cutQ _ ((Wk_le (.cons _ _ _ _ _ (.refl _) (.cons _ _ _ _ _ (.dead _) (.cons _ _ _ _ _ (.refl _) (.cons _ _ _ _ _ (.dead _) (.cons _ _ _ _ _ (.refl _) (.cons _ _ _ _ _ (.refl _) (.cons _ _ _ _ _ (.refl _) (.cons _ _ _ _ _ (.refl _) (.cons _ _ _ _ _ (.refl _) (.cons _ _ _ _ _ (.dead _) (.cons _ _ _ _ _ (.refl _) (.cons _ _ _ _ _ (.refl _) (.cons _ _ _ _ _ (.refl _) (.cons _ _ _ _ _ (.refl _) (.cons _ _ _ _ _ (.refl _) (.cons _ _ _ _ _ (.refl _) .nil)))))))))))))))) (OLe.refl _)).trans (cmpS_ok (st' := ⟨[], [(0, .dead), (1, .dead), (2, .dead), (3, .dead), (4, .dead), (5, .dead), (6, .dead), (10, .dead), (14, .dead), (19, .dead), (29, .dead), (33, .dead), (57, .dead), (68, .dead), (71, .dead), (82, .dead)], [], 0, []⟩) (by kernel_rfl))) ⟨rfl, rfl⟩
      · rintro _ ⟨rfl, rfl⟩
        (try dsimp only at h850)
        refine W_sound tab_ok mixed 6 _ _ _ ?_
        simp -implicitDefEqProofs only [go_sem, ne_eq, not_false_eq_true, Nat.reduceBEq, Nat.reduceAdd, Nat.reduceSub, Nat.reduceMul, Nat.reduceLT, Nat.reduceLeDiff, Int.reduceLE, Int.reduceLT, Int.reduceToNat, Int.reduceBEq, Int.reduceBNe, Int.le_refl, Nat.le_refl, decide_true, decide_false, Int.cast_ofNat_Int, ↓reduceIte, h776, h779, h787, h789, h790, h793]
        repeat with_reducible refine And.intro (by first | kernel_rfl | decide) ?_
        obtain rfl := Option.some.inj h850
        exact finC [(2, .v (.int .i64 0))] [(2, .v (.int .i64 0))] (by simp [leE, lk_cons]) (.cons _ _ _ _ _ (.v _ _ (.refl _)) .nil) (by rfl) (by simp [leE, lk_cons]) (by decide) (by decide) rfl (by simp only [go_sem, ne_eq, not_false_eq_true, Nat.reduceBEq, Nat.reduceAdd, Nat.reduceSub, Nat.reduceMul, Nat.reduceLT, Nat.reduceLeDiff, Int.reduceLE, Int.reduceLT, Int.reduceToNat, Int.reduceBEq, Int.reduceBNe, Int.le_refl, Nat.le_refl, decide_true, decide_false, Int.cast_ofNat_Int, ↓reduceIte, resQ_tmp, resQ_cell, resQ_nil, retD_one, retD_two, retD_three, retD_none]; try simp [R.val, retD_one, retD_two, retD_three, retD_none])
  · refine W_sound tab_ok mixed 9 _ _ _ ?_
    simp -implicitDefEqProofs only [go_sem, ne_eq, not_false_eq_true, Nat.reduceBEq, Nat.reduceAdd, Nat.reduceSub, Nat.reduceMul, Nat.reduceLT, Nat.reduceLeDiff, Int.reduceLE, Int.reduceLT, Int.reduceToNat, Int.reduceBEq, Int.reduceBNe, Int.le_refl, Nat.le_refl, decide_true, decide_false, Int.cast_ofNat_Int, ↓reduceIte, h776, h779, h787, h789]
    repeat with_reducible refine And.intro (by first | kernel_rfl | decide) ?_
    obtain rfl := Option.some.inj h
    exact finC [(2, .v (.int .i64 1))] [(2, .v (.int .i64 1))] (by simp [leE, lk_cons]) (.cons _ _ _ _ _ (.v _ _ (.refl _)) .nil) (by rfl) (by simp [leE, lk_cons]) (by decide) (by decide) rfl (by simp only [go_sem, ne_eq, not_false_eq_true, Nat.reduceBEq, Nat.reduceAdd, Nat.reduceSub, Nat.reduceMul, Nat.reduceLT, Nat.reduceLeDiff, Int.reduceLE, Int.reduceLT, Int.reduceToNat, Int.reduceBEq, Int.reduceBNe, Int.le_refl, Nat.le_refl, decide_true, decide_false, Int.cast_ofNat_Int, ↓reduceIte, resQ_tmp, resQ_cell, resQ_nil, retD_one, retD_two, retD_three, retD_none]; try simp [R.val, retD_one, retD_two, retD_three, retD_none])

def m85_2_L0 (N : Nat) (n1070 : Nat) (x1071 : Int) (c1072 : List PV) : Nat → Int → Option ((PV ⊕ Unit))
  | 0, _ => none
  | n + 1, x1073 =>
    brn (decide (x1073 < ((n1070 : Nat) : Int))) (
      grd (0 ≤ x1073 ∧ x1073 < ((n1070 : Nat) : Int)) <|
      grd ((Int.toNat x1073) < List.length c1072) <|
      getI .i64 (gp c1072 (Int.toNat x1073)) fun x1079 =>
      brn (x1079 == x1071) (
        some (.inl (.bool true))) (
        m85_2_L0 N n1070 x1071 c1072 n (IntKind.i64.wrap (x1073 + 1)))) (
      some (.inr ()))
def m85_2 (N : Nat) (n1070 : Nat) (x1071 : Int) (c1072 : List PV) : Option (PV) :=
  bnd' (m85_2_L0 N n1070 x1071 c1072 N 0) fun o =>
  match o with
  | .inl p1081 =>
    some p1081
  | .inr () =>
    some (.bool false)
theorem c85_2 (N : Nat) (n1070 : Nat) (x1071 : Int) (c1072 : List PV) (r : PV)  (h : m85_2 N n1070 x1071 c1072 = some r) : V.Fn Tryd.prog 85 1 [.sl false 0 0 n1070 1, .v (.int .i64 x1071)] [(0, .p c1072)] (fun d ob' => d = .v r ∧ ob' = [(0, .p c1072)]) := by
  unfold m85_2 at h
  refine Fn_of (sz := 18) tab_ok [0, 1, 4, 5, 9, 17] [.tmp 4] Tryd.func85 rfl rfl rfl (by simp) ?_
  simp only [initSt, initEnv, List.map_cons, List.map_nil, List.getD_cons_zero, List.getD_cons_succ, List.getD_nil]
  refine W_sound tab_ok mixed 9 _ _ _ ?_
  simp -implicitDefEqProofs only [go_sem, ne_eq, not_false_eq_true, Nat.reduceBEq, Nat.reduceAdd, Nat.reduceSub, Nat.reduceMul, Nat.reduceLT, Nat.reduceLeDiff, Int.reduceLE, Int.reduceLT, Int.reduceToNat, Int.reduceBEq, Int.reduceBNe, Int.le_refl, Nat.le_refl, decide_true, decide_false, Int.cast_ofNat_Int, ↓reduceIte]
  repeat with_reducible refine And.intro (by first | kernel_rfl | decide) ?_
  have hh := bnd'_some h; clear h; obtain ⟨o1082, h1083, h1084⟩ := hh
  refine Wp_cut (fun s => (.inr ()) = o1082 ∧ s = ⟨[], [(0, .dead), (1, .dead), (4, .dead), (5, .dead), (9, .dead), (17, .dead)], [(0, .p c1072)], 1, []⟩) ?_ ?_
  · refine Wp_block ?_
    refine Wp_loopG (fun n s => ∃ x1073, m85_2_L0 N n1070 x1071 c1072 n x1073 = some o1082 ∧ s = ⟨[], [(0, .sl false 0 0 n1070 1), (1, .v (.int .i64 x1071)), (4, .dead), (5, .v (.int .i64 x1073)), (9, .dead), (17, .dead)], [(0, .p c1072)], 1, []⟩) N _ ((Wk_le (.cons _ _ _ _ _ (.refl _) (.cons _ _ _ _ _ (.refl _) (.cons _ _ _ _ _ (.dead _) (.cons _ _ _ _ _ (.refl _) (.cons _ _ _ _ _ (.refl _) (.cons _ _ _ _ _ (.refl _) .nil)))))) (OLe.refl _)).trans (cmpS_ok rfl)) ⟨_, h1083, rfl⟩ ?_
    clear h1083
    rintro n _ ⟨x1073, h1083, rfl⟩
    cases n with
    | zero => cases h1083
    | succ n =>
      rw [m85_2_L0] at h1083
      have hh := brn_some h1083; clear h1083; rcases hh with ⟨h1074, h1083⟩ | ⟨h1074, h1083⟩
      · have hh := grd_some h1083; clear h1083; obtain ⟨⟨g1075, g1076⟩, h1083⟩ := hh
        have hh := grd_some h1083; clear h1083; obtain ⟨g1077, h1083⟩ := hh
        have hh := getI_some h1083; clear h1083; obtain ⟨x1079, h1078, h1083⟩ := hh
        have hh := brn_some h1083; clear h1083; rcases hh with ⟨h1080, h1083⟩ | ⟨h1080, h1083⟩
        · refine W_sound tab_ok mixed 28 _ _ _ ?_
          simp -implicitDefEqProofs only [go_sem, ne_eq, not_false_eq_true, Nat.reduceBEq, Nat.reduceAdd, Nat.reduceSub, Nat.reduceMul, Nat.reduceLT, Nat.reduceLeDiff, Int.reduceLE, Int.reduceLT, Int.reduceToNat, Int.reduceBEq, Int.reduceBNe, Int.le_refl, Nat.le_refl, decide_true, decide_false, Int.cast_ofNat_Int, ↓reduceIte, h1074, g1075, g1076, g1077, h1078, h1080]
          repeat with_reducible refine And.intro (by first | kernel_rfl | decide) ?_
          obtain rfl := Option.some.inj h1083
          (try dsimp only at h1084)
          obtain rfl := Option.some.inj h1084
          exact finD (e2 := [(0, .dead), (1, .dead), (4, .v (.bool true)), (5, .dead), (9, .dead), (17, .dead)]) (ob2 := [(0, .p c1072)]) (st' := ⟨[], [(0, .dead), (1, .dead), (4, .v (.bool true)), (5, .dead), (9, .dead), (17, .dead)], [(0, .p c1072)], 1, []⟩) (.cons _ _ _ _ _ (.dead _) (.cons _ _ _ _ _ (.dead _) (.cons _ _ _ _ _ (.refl _) (.cons _ _ _ _ _ (.dead _) (.cons _ _ _ _ _ (.dead _) (.cons _ _ _ _ _ (.dead _) .nil)))))) (.cons _ _ _ _ _ (DLes.refl _) .nil) (by kernel_rfl) (by simp only [go_sem, ne_eq, not_false_eq_true, Nat.reduceBEq, Nat.reduceAdd, Nat.reduceSub, Nat.reduceMul, Nat.reduceLT, Nat.reduceLeDiff, Int.reduceLE, Int.reduceLT, Int.reduceToNat, Int.reduceBEq, Int.reduceBNe, Int.le_refl, Nat.le_refl, decide_true, decide_false, Int.cast_ofNat_Int, ↓reduceIte, resQ_tmp, resQ_cell, resQ_nil, retD_one, retD_two, retD_three, retD_none]; try simp [R.val, retD_one, retD_two, retD_three, retD_none])
        · refine W_sound tab_ok mixed 29 _ _ _ ?_
          simp -implicitDefEqProofs only [go_sem, ne_eq, not_false_eq_true, Nat.reduceBEq, Nat.reduceAdd, Nat.reduceSub, Nat.reduceMul, Nat.reduceLT, Nat.reduceLeDiff, Int.reduceLE, Int.reduceLT, Int.reduceToNat, Int.reduceBEq, Int.reduceBNe, Int.le_refl, Nat.le_refl, decide_true, decide_false, Int.cast_ofNat_Int, ↓reduceIte, h1074, g1075, g1076, g1077, h1078, h1080]
          repeat with_reducible refine And.intro (by first | kernel_rfl | decide) ?_
          exact cutQ _ ((Wk_le (.cons _ _ _ _ _ (.refl _) (.cons _ _ _ _ _ (.refl _) (.cons _ _ _ _ _ (.refl _) (.cons _ _ _ _ _ (.refl _) (.cons _ _ _ _ _ (.dead _) (.cons _ _ _ _ _ (.dead _) .nil)))))) (OLe.refl _)).trans (cmpS_ok rfl)) ⟨n, Nat.lt_succ_self n, _, h1083, rfl⟩
      · refine W_sound tab_ok mixed 10 _ _ _ ?_
        simp -implicitDefEqProofs only [go_sem, ne_eq, not_false_eq_true, Nat.reduceBEq, Nat.reduceAdd, Nat.reduceSub, Nat.reduceMul, Nat.reduceLT, Nat.reduceLeDiff, Int.reduceLE, Int.reduceLT, Int.reduceToNat, Int.reduceBEq, Int.reduceBNe, Int.le_refl, Nat.le_refl, decide_true, decide_false, Int.cast_ofNat_Int, ↓reduceIte, h1074]
        repeat with_reducible refine And.intro (by first | kernel_rfl | decide) ?_
        obtain rfl := Option.some.inj h1083
        exact cutQ _ ((Wk_le (.cons _ _ _ _ _ (.dead _) (.cons _ _ _ _ _ (.dead _) (.cons _ _ _ _ _ (.refl _) (.cons _ _ _ _ _ (.dead _) (.cons _ _ _ _ _ (.dead _) (.cons _ _ _ _ _ (.refl _) .nil)))))) (OLe.refl _)).trans (cmpS_ok rfl)) ⟨rfl, rfl⟩
  · rintro _ ⟨rfl, rfl⟩
    (try dsimp only at h1084)
    refine W_sound tab_ok mixed 6 _ _ _ ?_
    simp -implicitDefEqProofs only [go_sem, ne_eq, not_false_eq_true, Nat.reduceBEq, Nat.reduceAdd, Nat.reduceSub, Nat.reduceMul, Nat.reduceLT, Nat.reduceLeDiff, Int.reduceLE, Int.reduceLT, Int.reduceToNat, Int.reduceBEq, Int.reduceBNe, Int.le_refl, Nat.le_refl, decide_true, decide_false, Int.cast_ofNat_Int, ↓reduceIte]
    repeat with_reducible refine And.intro (by first | kernel_rfl | decide) ?_
    obtain rfl := Option.some.inj h1084
    exact finD (e2 := [(0, .dead), (1, .dead), (4, .v (.bool false)), (5, .dead), (9, .dead), (17, .dead)]) (ob2 := [(0, .p c1072)]) (st' := ⟨[], [(0, .dead), (1, .dead), (4, .v (.bool false)), (5, .dead), (9, .dead), (17, .dead)], [(0, .p c1072)], 1, []⟩) (.cons _ _ _ _ _ (.refl _) (.cons _ _ _ _ _ (.refl _) (.cons _ _ _ _ _ (.refl _) (.cons _ _ _ _ _ (.refl _) (.cons _ _ _ _ _ (.refl _) (.cons _ _ _ _ _ (.refl _) .nil)))))) (.cons _ _ _ _ _ (DLes.refl _) .nil) (by kernel_rfl) (by simp only [go_sem, ne_eq, not_false_eq_true, Nat.reduceBEq, Nat.reduceAdd, Nat.reduceSub, Nat.reduceMul, Nat.reduceLT, Nat.reduceLeDiff, Int.reduceLE, Int.reduceLT, Int.reduceToNat, Int.reduceBEq, Int.reduceBNe, Int.le_refl, Nat.le_refl, decide_true, decide_false, Int.cast_ofNat_Int, ↓reduceIte, resQ_tmp, resQ_cell, resQ_nil, retD_one, retD_two, retD_three, retD_none]; try simp [R.val, retD_one, retD_two, retD_three, retD_none])

def m96_L2 (N : Nat) (x991 : Int) (n994 : Nat) (c995 : List PV) (x996 : Int) (x997 : Int) (x1197 : Int) (x1205 : Int) : Nat → Nat → Int → List PV → Option ((Nat × List PV))
  | 0, _, _, _ => none
  | n + 1, n1243, x1244, c1245 =>
    brn (decide (x1244 < ((n994 : Nat) : Int))) (
      grd (0 ≤ x1244 ∧ x1244 < ((n994 : Nat) : Int)) <|
      grd (0 < List.length (List.drop ((Int.toNat x1244) * 2) c995)) <|
      getI .i64 (gp c995 ((Int.toNat x1244) * 2)) fun x1251 =>
      grd (x1197 < ((n1243 : Nat) : Int)) <|
      grd ((Int.toNat x1197) < List.length c1245) <|
      getI .i64 (gp c1245 (Int.toNat x1197)) fun x1255 =>
      brn (x1251 == x1255) (
        grd (0 < List.length (List.drop 1 (List.drop ((Int.toNat x1244) * 2) c995))) <|
        getI .i64 (gp c995 (((Int.toNat x1244) * 2) + 1)) fun x1259 =>
        bnd' (m85_2 N n1243 x1259 c1245) fun p1260 =>
        getB p1260 fun b1263 =>
        brn b1263 (
          brn (x1259 == x1255) (
            bnd' (m85_2 N n1243 x1251 c1245) fun p1266 =>
            getB p1266 fun b1269 =>
            brn b1269 (
              m96_L2 N x991 n994 c995 x996 x997 x1197 x1205 n n1243 (IntKind.i64.wrap (x1244 + 1)) c1245) (
              grd ((n1243 + 1) ≤ 1099511627776) <|
              grd (List.length c1245 = n1243) <|
              m96_L2 N x991 n994 c995 x996 x997 x1197 x1205 n (n1243 + 1) (IntKind.i64.wrap (x1244 + 1)) (c1245 ++ [(.int .i64 x1251)]))) (
            m96_L2 N x991 n994 c995 x996 x997 x1197 x1205 n n1243 (IntKind.i64.wrap (x1244 + 1)) c1245)) (
          grd ((n1243 + 1) ≤ 1099511627776) <|
          grd (List.length c1245 = n1243) <|
          m96_L2 N x991 n994 c995 x996 x997 x1197 x1205 n (n1243 + 1) (IntKind.i64.wrap (x1244 + 1)) (c1245 ++ [(.int .i64 x1259)]))) (
        grd (0 < List.length (List.drop 1 (List.drop ((Int.toNat x1244) * 2) c995))) <|
        getI .i64 (gp c995 (((Int.toNat x1244) * 2) + 1)) fun x1277 =>
        brn (x1277 == x1255) (
          bnd' (m85_2 N n1243 x1251 c1245) fun p1279 =>
          getB p1279 fun b1282 =>
          brn b1282 (
            m96_L2 N x991 n994 c995 x996 x997 x1197 x1205 n n1243 (IntKind.i64.wrap (x1244 + 1)) c1245) (
            grd ((n1243 + 1) ≤ 1099511627776) <|
            grd (List.length c1245 = n1243) <|
            m96_L2 N x991 n994 c995 x996 x997 x1197 x1205 n (n1243 + 1) (IntKind.i64.wrap (x1244 + 1)) (c1245 ++ [(.int .i64 x1251)]))) (
          m96_L2 N x991 n994 c995 x996 x997 x1197 x1205 n n1243 (IntKind.i64.wrap (x1244 + 1)) c1245))) (
      some (n1243, c1245))
def m96_L3 (N : Nat) (x991 : Int) (n994 : Nat) (c995 : List PV) (x996 : Int) (x997 : Int) (x1197 : Int) : Nat → Nat → Int → List PV → Option ((Nat × List PV))
  | 0, _, _, _ => none
  | n + 1, n1330, x1331, c1332 =>
    brn (decide (x1331 < ((n994 : Nat) : Int))) (
      grd (0 ≤ x1331 ∧ x1331 < ((n994 : Nat) : Int)) <|
      grd (0 < List.length (List.drop ((Int.toNat x1331) * 2) c995)) <|
      getI .i64 (gp c995 ((Int.toNat x1331) * 2)) fun x1338 =>
      grd (0 ≤ x1197 ∧ x1197 < ((n1330 : Nat) : Int)) <|
      grd ((Int.toNat x1197) < List.length c1332) <|
      getI .i64 (gp c1332 (Int.toNat x1197)) fun x1343 =>
      brn (x1338 == x1343) (
        grd (0 < List.length (List.drop 1 (List.drop ((Int.toNat x1331) * 2) c995))) <|
        getI .i64 (gp c995 (((Int.toNat x1331) * 2) + 1)) fun x1347 =>
        bnd' (m85_2 N n1330 x1347 c1332) fun p1348 =>
        getB p1348 fun b1351 =>
        brn b1351 (
          brn (x1347 == x1343) (
            bnd' (m85_2 N n1330 x1338 c1332) fun p1354 =>
            getB p1354 fun b1357 =>
            brn b1357 (
              m96_L3 N x991 n994 c995 x996 x997 x1197 n n1330 (IntKind.i64.wrap (x1331 + 1)) c1332) (
              grd ((n1330 + 1) ≤ 1099511627776) <|
              grd (List.length c1332 = n1330) <|
              m96_L3 N x991 n994 c995 x996 x997 x1197 n (n1330 + 1) (IntKind.i64.wrap (x1331 + 1)) (c1332 ++ [(.int .i64 x1338)]))) (
            m96_L3 N x991 n994 c995 x996 x997 x1197 n n1330 (IntKind.i64.wrap (x1331 + 1)) c1332)) (
          grd ((n1330 + 1) ≤ 1099511627776) <|
          grd (List.length c1332 = n1330) <|
          m96_L3 N x991 n994 c995 x996 x997 x1197 n (n1330 + 1) (IntKind.i64.wrap (x1331 + 1)) (c1332 ++ [(.int .i64 x1347)]))) (
        grd (0 < List.length (List.drop 1 (List.drop ((Int.toNat x1331) * 2) c995))) <|
        getI .i64 (gp c995 (((Int.toNat x1331) * 2) + 1)) fun x1365 =>
        brn (x1365 == x1343) (
          bnd' (m85_2 N n1330 x1338 c1332) fun p1367 =>
          getB p1367 fun b1370 =>
          brn b1370 (
            m96_L3 N x991 n994 c995 x996 x997 x1197 n n1330 (IntKind.i64.wrap (x1331 + 1)) c1332) (
            grd ((n1330 + 1) ≤ 1099511627776) <|
            grd (List.length c1332 = n1330) <|
            m96_L3 N x991 n994 c995 x996 x997 x1197 n (n1330 + 1) (IntKind.i64.wrap (x1331 + 1)) (c1332 ++ [(.int .i64 x1338)]))) (
          m96_L3 N x991 n994 c995 x996 x997 x1197 n n1330 (IntKind.i64.wrap (x1331 + 1)) c1332))) (
      some (n1330, c1332))
def m96_L1 (N : Nat) (x991 : Int) (n994 : Nat) (c995 : List PV) (x996 : Int) (x997 : Int) : Nat → Nat → Bool → Int → List PV → Option (Bool)
  | 0, _, _, _, _ => none
  | n + 1, n1195, b1196, x1197, c1198 =>
    brn (decide (x1197 < ((n1195 : Nat) : Int))) (
      brn b1196 (
        grd (0 ≤ x1197 ∧ x1197 < ((n1195 : Nat) : Int)) <|
        grd ((Int.toNat x1197) < List.length c1198) <|
        getI .i64 (gp c1198 (Int.toNat x1197)) fun x1205 =>
        bnd' (m96_L2 N x991 n994 c995 x996 x997 x1197 x1205 N n1195 0 c1198) fun o =>
        match o with
        | (n1286, c1287) =>
          m96_L1 N x991 n994 c995 x996 x997 n n1286 (decide (x1205 ≥ x997)) (IntKind.i64.wrap (x1197 + 1)) c1287) (
        bnd' (m96_L3 N x991 n994 c995 x996 x997 x1197 N n1195 0 c1198) fun o =>
        match o with
        | (n1374, c1375) =>
          m96_L1 N x991 n994 c995 x996 x997 n n1374 false (IntKind.i64.wrap (x1197 + 1)) c1375)) (
      some b1196)
def m96_L0 (N : Nat) (x991 : Int) (n994 : Nat) (c995 : List PV) : Nat → Int → Int → Option (Int)
  | 0, _, _ => none
  | n + 1, x996, x997 =>
    brn (decide (x997 < x991)) (
      bnd' (m96_L1 N x991 n994 c995 x996 x997 N 1 true 0 [(.int .i64 x997)]) fun b1376 =>
      brn b1376 (
        m96_L0 N x991 n994 c995 n (IntKind.i64.wrap (x996 + 1)) (IntKind.i64.wrap (x997 + 1))) (
        m96_L0 N x991 n994 c995 n x996 (IntKind.i64.wrap (x997 + 1)))) (
      some x996)
def m96 (N : Nat) (x991 : Int) (p992 : PV) : Option (PV) :=
  getL p992 fun n994 c995 =>
  bnd' (m96_L0 N x991 n994 c995 N 0 0) fun x1378 =>
  some (.int .i64 x1378)
theorem c96 (N : Nat) (x991 : Int) (p992 : PV) (r : PV)  (h : m96 N x991 p992 = some r) : FnP Tryd.prog 96 [(.int .i64 x991), p992] r := by
  unfold m96 at h
  refine Fn_of (sz := 99) tab_ok [0, 1, 4, 5, 6, 7, 8, 9, 10, 13, 21, 36, 58, 86, 95] [.tmp 4] Tryd.func96 rfl rfl rfl (by simp) ?_
  simp only [initSt, initEnv, List.map_cons, List.map_nil, List.getD_cons_zero, List.getD_cons_succ, List.getD_nil]
  have hh := getL_some h; clear h; obtain ⟨n994, c995, h993, h⟩ := hh
  refine W_sound tab_ok mixed 13 _ _ _ ?_
  simp -implicitDefEqProofs only [go_sem, ne_eq, not_false_eq_true, Nat.reduceBEq, Nat.reduceAdd, Nat.reduceSub, Nat.reduceMul, Nat.reduceLT, Nat.reduceLeDiff, Int.reduceLE, Int.reduceLT, Int.reduceToNat, Int.reduceBEq, Int.reduceBNe, Int.le_refl, Nat.le_refl, decide_true, decide_false, Int.cast_ofNat_Int, ↓reduceIte, h993]
  repeat with_reducible refine And.intro (by first | kernel_rfl | decide) ?_
  have hh := bnd'_some h; clear h; obtain ⟨o1379, h1380, h1381⟩ := hh
  refine Wp_cut (fun s => ∃ x1378, x1378 = o1379 ∧ s = ⟨[], [(0, .dead), (1, .dead), (4, .dead), (5, .v (.int .i64 x1378)), (6, .dead), (7, .dead), (8, .dead), (9, .dead), (10, .dead), (13, .dead), (21, .dead), (36, .dead), (58, .dead), (86, .dead), (95, .dead)], [], 0, []⟩) ?_ ?_
  · refine Wp_block ?_
    refine Wp_loopG (fun n s => ∃ x996, ∃ x997, m96_L0 N x991 n994 c995 n x996 x997 = some o1379 ∧ s = ⟨[], [(0, .v (.int .i64 x991)), (1, .v (.lst false n994 c995)), (4, .dead), (5, .v (.int .i64 x996)), (6, .v (.int .i64 x997)), (7, .dead), (8, .dead), (9, .dead), (10, .dead), (13, .dead), (21, .dead), (36, .dead), (58, .dead), (86, .dead), (95, .dead)], [], 0, []⟩) N _ ((Wk_le (.cons _ _ _ _ _ (.refl _) (.cons _ _ _ _ _ (.refl _) (.cons _ _ _ _ _ (.dead _) (.cons _ _ _ _ _ (.refl _) (.cons _ _ _ _ _ (.refl _) (.cons _ _ _ _ _ (.refl _) (.cons _ _ _ _ _ (.refl _) (.cons _ _ _ _ _ (.refl _) (.cons _ _ _ _ _ (.refl _) (.cons _ _ _ _ _ (.refl _) (.cons _ _ _ _ _ (.refl _) (.cons _ _ _ _ _ (.refl _) (.cons _ _ _ _ _ (.refl _) (.cons _ _ _ _ _ (.refl _) (.cons _ _ _ _ _ (.refl _) .nil))))))))))))))) (OLe.refl _)).trans (cmpS_ok (st' := ⟨[], [(0, .v (.int .i64 x991)), (1, .v (.lst false n994 c995)), (4, .dead), (5, .v (.int .i64 0)), (6, .v (.int .i64 0)), (7, .dead), (8, .dead), (9, .dead), (10, .dead), (13, .dead), (21, .dead), (36, .dead), (58, .dead), (86, .dead), (95, .dead)], [], 0, []⟩) (by kernel_rfl))) ⟨_, _, h1380, rfl⟩ ?_
    clear h1380
    rintro n _ ⟨x996, x997, h1380, rfl⟩
    cases n with
    | zero => cases h1380
    | succ n =>
      rw [m96_L0] at h1380
      have hh := brn_some h1380; clear h1380; rcases hh with ⟨h998, h1380⟩ | ⟨h998, h1380⟩
      · refine W_sound tab_ok mixed 26 _ _ _ ?_
        simp -implicitDefEqProofs only [go_sem, ne_eq, not_false_eq_true, Nat.reduceBEq, Nat.reduceAdd, Nat.reduceSub, Nat.reduceMul, Nat.reduceLT, Nat.reduceLeDiff, Int.reduceLE, Int.reduceLT, Int.reduceToNat, Int.reduceBEq, Int.reduceBNe, Int.le_refl, Nat.le_refl, decide_true, decide_false, Int.cast_ofNat_Int, ↓reduceIte, h993, h998]
        repeat with_reducible refine And.intro (by first | kernel_rfl | decide) ?_
        have hh := bnd'_some h1380; clear h1380; obtain ⟨o1382, h1383, h1384⟩ := hh
        refine Wp_cut (fun s => ∃ b1376, b1376 = o1382 ∧ s = ⟨[], [(0, .v (.int .i64 x991)), (1, .v (.lst false n994 c995)), (4, .dead), (5, .v (.int .i64 x996)), (6, .v (.int .i64 x997)), (7, .dead), (8, .v (.bool b1376)), (9, .dead), (10, .dead), (13, .dead), (21, .dead), (36, .dead), (58, .dead), (86, .dead), (95, .dead)], [], 0, []⟩) ?_ ?_
        · refine Wp_block ?_
          refine Wp_loopG (fun n s => ∃ n1195, ∃ b1196, ∃ x1197, ∃ c1198, m96_L1 N x991 n994 c995 x996 x997 n n1195 b1196 x1197 c1198 = some o1382 ∧ s = ⟨[], [(0, .v (.int .i64 x991)), (1, .v (.lst false n994 c995)), (4, .dead), (5, .v (.int .i64 x996)), (6, .v (.int .i64 x997)), (7, .sl false 0 0 n1195 1), (8, .v (.bool b1196)), (9, .v (.int .i64 x1197)), (10, .dead), (13, .dead), (21, .dead), (36, .dead), (58, .dead), (86, .dead), (95, .dead)], [(0, .p c1198)], 1, []⟩) N _ ((Wk_le (.cons _ _ _ _ _ (.refl _) (.cons _ _ _ _ _ (.refl _) (.cons _ _ _ _ _ (.refl _) (.cons _ _ _ _ _ (.refl _) (.cons _ _ _ _ _ (.refl _) (.cons _ _ _ _ _ (.sl _ _ _ _ _) (.cons _ _ _ _ _ (.refl _) (.cons _ _ _ _ _ (.refl _) (.cons _ _ _ _ _ (.refl _) (.cons _ _ _ _ _ (.dead _) (.cons _ _ _ _ _ (.refl _) (.cons _ _ _ _ _ (.refl _) (.cons _ _ _ _ _ (.refl _) (.cons _ _ _ _ _ (.refl _) (.cons _ _ _ _ _ (.refl _) .nil))))))))))))))) (OLe.refl _)).trans (cmpS_ok (st' := ⟨[], [(0, .v (.int .i64 x991)), (1, .v (.lst false n994 c995)), (4, .dead), (5, .v (.int .i64 x996)), (6, .v (.int .i64 x997)), (7, .sl false 0 0 1 1), (8, .v (.bool true)), (9, .v (.int .i64 0)), (10, .dead), (13, .dead), (21, .dead), (36, .dead), (58, .dead), (86, .dead), (95, .dead)], [(0, .p [(.int .i64 x997)])], 1, []⟩) (by kernel_rfl))) ⟨_, _, _, _, h1383, rfl⟩ ?_
          clear h1383
          rintro n _ ⟨n1195, b1196, x1197, c1198, h1383, rfl⟩
          cases n with
          | zero => cases h1383
          | succ n =>
            rw [m96_L1] at h1383
            have hh := brn_some h1383; clear h1383; rcases hh with ⟨h1199, h1383⟩ | ⟨h1199, h1383⟩
            · have hh := brn_some h1383; clear h1383; rcases hh with ⟨h1200, h1383⟩ | ⟨h1200, h1383⟩
              · have hh := grd_some h1383; clear h1383; obtain ⟨⟨g1201, g1202⟩, h1383⟩ := hh
                have hh := grd_some h1383; clear h1383; obtain ⟨g1203, h1383⟩ := hh
                have hh := getI_some h1383; clear h1383; obtain ⟨x1205, h1204, h1383⟩ := hh
                refine W_sound tab_ok mixed 29 _ _ _ ?_
                simp -implicitDefEqProofs only [go_sem, ne_eq, not_false_eq_true, Nat.reduceBEq, Nat.reduceAdd, Nat.reduceSub, Nat.reduceMul, Nat.reduceLT, Nat.reduceLeDiff, Int.reduceLE, Int.reduceLT, Int.reduceToNat, Int.reduceBEq, Int.reduceBNe, Int.le_refl, Nat.le_refl, decide_true, decide_false, Int.cast_ofNat_Int, ↓reduceIte, h993, h998, h1199, h1200, g1201, g1202, g1203, h1204]
                repeat with_reducible refine And.intro (by first | kernel_rfl | decide) ?_
                have hh := bnd'_some h1383; clear h1383; obtain ⟨o1385, h1386, h1387⟩ := hh
                refine Wp_cut (fun s => ∃ n1286, ∃ c1287, (n1286, c1287) = o1385 ∧ s = ⟨[], [(0, .v (.int .i64 x991)), (1, .v (.lst false n994 c995)), (4, .dead), (5, .v (.int .i64 x996)), (6, .v (.int .i64 x997)), (7, .sl false 0 0 n1286 1), (8, .v (.bool (decide (x1205 ≥ x997)))), (9, .v (.int .i64 x1197)), (10, .dead), (13, .dead), (21, .dead), (36, .dead), (58, .dead), (86, .dead), (95, .dead)], [(0, .p c1287)], 1, []⟩) ?_ ?_
                · refine Wp_block ?_
                  refine Wp_loopG (fun n s => ∃ n1243, ∃ x1244, ∃ c1245, m96_L2 N x991 n994 c995 x996 x997 x1197 x1205 n n1243 x1244 c1245 = some o1385 ∧ s = ⟨[], [(0, .v (.int .i64 x991)), (1, .v (.lst false n994 c995)), (4, .dead), (5, .v (.int .i64 x996)), (6, .v (.int .i64 x997)), (7, .sl false 0 0 n1243 1), (8, .v (.bool (decide (x1205 ≥ x997)))), (9, .v (.int .i64 x1197)), (10, .v (.int .i64 x1244)), (13, .dead), (21, .dead), (36, .dead), (58, .dead), (86, .dead), (95, .dead)], [(0, .p c1245)], 1, []⟩) N _ ((Wk_le (.cons _ _ _ _ _ (.refl _) (.cons _ _ _ _ _ (.refl _) (.cons _ _ _ _ _ (.refl _) (.cons _ _ _ _ _ (.refl _) (.cons _ _ _ _ _ (.refl _) (.cons _ _ _ _ _ (.refl _) (.cons _ _ _ _ _ (.refl _) (.cons _ _ _ _ _ (.refl _) (.cons _ _ _ _ _ (.refl _) (.cons _ _ _ _ _ (.refl _) (.cons _ _ _ _ _ (.dead _) (.cons _ _ _ _ _ (.refl _) (.cons _ _ _ _ _ (.refl _) (.cons _ _ _ _ _ (.refl _) (.cons _ _ _ _ _ (.refl _) .nil))))))))))))))) (OLe.refl _)).trans (cmpS_ok (st' := ⟨[], [(0, .v (.int .i64 x991)), (1, .v (.lst false n994 c995)), (4, .dead), (5, .v (.int .i64 x996)), (6, .v (.int .i64 x997)), (7, .sl false 0 0 n1195 1), (8, .v (.bool (decide (x1205 ≥ x997)))), (9, .v (.int .i64 x1197)), (10, .v (.int .i64 0)), (13, .dead), (21, .dead), (36, .dead), (58, .dead), (86, .dead), (95, .dead)], [(0, .p c1198)], 1, []⟩) (by kernel_rfl))) ⟨_, _, _, h1386, rfl⟩ ?_
                  clear h1386
                  rintro n _ ⟨n1243, x1244, c1245, h1386, rfl⟩
                  cases n with
                  | zero => cases h1386
                  | succ n =>
                    rw [m96_L2] at h1386
                    have hh := brn_some h1386; clear h1386; rcases hh with ⟨h1246, h1386⟩ | ⟨h1246, h1386⟩
                    · have hh := grd_some h1386; clear h1386; obtain ⟨⟨g1247, g1248⟩, h1386⟩ := hh
                      have hh := grd_some h1386; clear h1386; obtain ⟨g1249, h1386⟩ := hh
                      have hh := getI_some h1386; clear h1386; obtain ⟨x1251, h1250, h1386⟩ := hh
                      have hh := grd_some h1386; clear h1386; obtain ⟨g1252, h1386⟩ := hh
                      have hh := grd_some h1386; clear h1386; obtain ⟨g1253, h1386⟩ := hh
                      have hh := getI_some h1386; clear h1386; obtain ⟨x1255, h1254, h1386⟩ := hh
                      have hh := brn_some h1386; clear h1386; rcases hh with ⟨h1256, h1386⟩ | ⟨h1256, h1386⟩
                      · have hh := grd_some h1386; clear h1386; obtain ⟨g1257, h1386⟩ := hh
                        have hh := getI_some h1386; clear h1386; obtain ⟨x1259, h1258, h1386⟩ := hh
                        have hh := bnd'_some h1386; clear h1386; obtain ⟨p1260, h1261, h1386⟩ := hh
                        (try dsimp only at h1386)
                        refine W_sound tab_ok mixed 31 _ _ _ ?_
                        simp -implicitDefEqProofs only [go_sem, ne_eq, not_false_eq_true, Nat.reduceBEq, Nat.reduceAdd, Nat.reduceSub, Nat.reduceMul, Nat.reduceLT, Nat.reduceLeDiff, Int.reduceLE, Int.reduceLT, Int.reduceToNat, Int.reduceBEq, Int.reduceBNe, Int.le_refl, Nat.le_refl, decide_true, decide_false, Int.cast_ofNat_Int, ↓reduceIte, h993, h998, h1199, h1200, g1201, g1202, g1203, h1204, h1246, g1247, g1248, g1249, h1250, g1252, g1253, h1254, h1256, g1257, h1258]
                        repeat with_reducible refine And.intro (by first | kernel_rfl | decide) ?_
                        refine Wp_callD [0] (c85_2 N _ _ _ _ h1261) rfl rfl rfl (by first | rfl | (simp only [go_sem, ne_eq, not_false_eq_true, Nat.reduceBEq, Nat.reduceAdd, Nat.reduceSub, Nat.reduceMul, Nat.reduceLT, Nat.reduceLeDiff, Int.reduceLE, Int.reduceLT, Int.reduceToNat, Int.reduceBEq, Int.reduceBNe, Int.le_refl, Nat.le_refl, decide_true, decide_false, Int.cast_ofNat_Int, ↓reduceIte, h993, h998, h1199, h1200, g1201, g1202, g1203, h1204, h1246, g1247, g1248, g1249, h1250, g1252, g1253, h1254, h1256, g1257, h1258] <;> rfl)) rfl (by kernel_rfl) ?_
                        have hh := getB_some h1386; clear h1386; obtain ⟨b1263, h1262, h1386⟩ := hh
                        have hh := brn_some h1386; clear h1386; rcases hh with ⟨h1264, h1386⟩ | ⟨h1264, h1386⟩
                        · have hh := brn_some h1386; clear h1386; rcases hh with ⟨h1265, h1386⟩ | ⟨h1265, h1386⟩
                          · have hh := bnd'_some h1386; clear h1386; obtain ⟨p1266, h1267, h1386⟩ := hh
                            (try dsimp only at h1386)
                            refine W_sound tab_ok mixed 23 _ _ _ ?_
                            simp -implicitDefEqProofs only [go_sem, ne_eq, not_false_eq_true, Nat.reduceBEq, Nat.reduceAdd, Nat.reduceSub, Nat.reduceMul, Nat.reduceLT, Nat.reduceLeDiff, Int.reduceLE, Int.reduceLT, Int.reduceToNat, Int.reduceBEq, Int.reduceBNe, Int.le_refl, Nat.le_refl, decide_true, decide_false, Int.cast_ofNat_Int, ↓reduceIte, h993, h998, h1199, h1200, g1201, g1202, g1203, h1204, h1246, g1247, g1248, g1249, h1250, g1252, g1253, h1254, h1256, g1257, h1258, h1262, h1264, h1265]
                            repeat with_reducible refine And.intro (by first | kernel_rfl | decide) ?_
                            refine Wp_callD [0] (c85_2 N _ _ _ _ h1267) rfl rfl rfl (by first | rfl | (simp only [go_sem, ne_eq, not_false_eq_true, Nat.reduceBEq, Nat.reduceAdd, Nat.reduceSub, Nat.reduceMul, Nat.reduceLT, Nat.reduceLeDiff, Int.reduceLE, Int.reduceLT, Int.reduceToNat, Int.reduceBEq, Int.reduceBNe, Int.le_refl, Nat.le_refl, decide_true, decide_false, Int.cast_ofNat_Int, ↓reduceIte, h993, h998, h1199, h1200, g1201, g1202, g1203, h1204, h1246, g1247, g1248, g1249, h1250, g1252, g1253, h1254, h1256, g1257, h1258, h1262, h1264, h1265] <;> rfl)) rfl (by kernel_rfl) ?_
                            have hh := getB_some h1386; clear h1386; obtain ⟨b1269, h1268, h1386⟩ := hh
                            have hh := brn_some h1386; clear h1386; rcases hh with ⟨h1270, h1386⟩ | ⟨h1270, h1386⟩
                            · refine W_sound tab_ok mixed 11 _ _ _ ?_
                              simp -implicitDefEqProofs only [go_sem, ne_eq, not_false_eq_true, Nat.reduceBEq, Nat.reduceAdd, Nat.reduceSub, Nat.reduceMul, Nat.reduceLT, Nat.reduceLeDiff, Int.reduceLE, Int.reduceLT, Int.reduceToNat, Int.reduceBEq, Int.reduceBNe, Int.le_refl, Nat.le_refl, decide_true, decide_false, Int.cast_ofNat_Int, ↓reduceIte, h993, h998, h1199, h1200, g1201, g1202, g1203, h1204, h1246, g1247, g1248, g1249, h1250, g1252, g1253, h1254, h1256, g1257, h1258, h1262, h1264, h1265, h1268, h1270]
                              repeat with_reducible refine And.intro (by first | kernel_rfl | decide) ?_
                              exact cutQ _ ((Wk_le (.cons _ _ _ _ _ (.refl _) (.cons _ _ _ _ _ (.refl _) (.cons _ _ _ _ _ (.refl _) (.cons _ _ _ _ _ (.refl _) (.cons _ _ _ _ _ (.refl _) (.cons _ _ _ _ _ (.refl _) (.cons _ _ _ _ _ (.refl _) (.cons _ _ _ _ _ (.refl _) (.cons _ _ _ _ _ (.refl _) (.cons _ _ _ _ _ (.refl _) (.cons _ _ _ _ _ (.refl _) (.cons _ _ _ _ _ (.dead _) (.cons _ _ _ _ _ (.dead _) (.cons _ _ _ _ _ (.dead _) (.cons _ _ _ _ _ (.refl _) .nil))))))))))))))) (OLe.refl _)).trans (cmpS_ok (st' := ⟨[], [(0, .v (.int .i64 x991)), (1, .v (.lst false n994 c995)), (4, .dead), (5, .v (.int .i64 x996)), (6, .v (.int .i64 x997)), (7, .sl false 0 0 n1243 1), (8, .v (.bool (decide (x1205 ≥ x997)))), (9, .v (.int .i64 x1197)), (10, .v (.int .i64 (IntKind.i64.wrap (x1244 + 1)))), (13, .dead), (21, .dead), (36, .dead), (58, .dead), (86, .dead), (95, .dead)], [(0, .p c1245)], 1, []⟩) (by kernel_rfl))) ⟨n, Nat.lt_succ_self n, _, _, _, h1386, rfl⟩
                            · have hh := grd_some h1386; clear h1386; obtain ⟨g1271, h1386⟩ := hh
                              have hh := grd_some h1386; clear h1386; obtain ⟨g1272, h1386⟩ := hh
                              refine W_sound tab_ok mixed 21 _ _ _ ?_
                              simp -implicitDefEqProofs only [go_sem, ne_eq, not_false_eq_true, Nat.reduceBEq, Nat.reduceAdd, Nat.reduceSub, Nat.reduceMul, Nat.reduceLT, Nat.reduceLeDiff, Int.reduceLE, Int.reduceLT, Int.reduceToNat, Int.reduceBEq, Int.reduceBNe, Int.le_refl, Nat.le_refl, decide_true, decide_false, Int.cast_ofNat_Int, ↓reduceIte, h993, h998, h1199, h1200, g1201, g1202, g1203, h1204, h1246, g1247, g1248, g1249, h1250, g1252, g1253, h1254, h1256, g1257, h1258, h1262, h1264, h1265, h1268, h1270, g1271, g1272]
                              repeat with_reducible refine And.intro (by first | kernel_rfl | decide) ?_
                              exact cutQ _ ((Wk_le (.cons _ _ _ _ _ (.refl _) (.cons _ _ _ _ _ (.refl _) (.cons _ _ _ _ _ (.refl _) (.cons _ _ _ _ _ (.refl _) (.cons _ _ _ _ _ (.refl _) (.cons _ _ _ _ _ (.refl _) (.cons _ _ _ _ _ (.refl _) (.cons _ _ _ _ _ (.refl _) (.cons _ _ _ _ _ (.refl _) (.cons _ _ _ _ _ (.refl _) (.cons _ _ _ _ _ (.refl _) (.cons _ _ _ _ _ (.dead _) (.cons _ _ _ _ _ (.dead _) (.cons _ _ _ _ _ (.dead _) (.cons _ _ _ _ _ (.refl _) .nil))))))))))))))) (OLe.refl _)).trans (cmpS_ok (st' := ⟨[], [(0, .v (.int .i64 x991)), (1, .v (.lst false n994 c995)), (4, .dead), (5, .v (.int .i64 x996)), (6, .v (.int .i64 x997)), (7, .sl false 0 0 (n1243 + 1) 1), (8, .v (.bool (decide (x1205 ≥ x997)))), (9, .v (.int .i64 x1197)), (10, .v (.int .i64 (IntKind.i64.wrap (x1244 + 1)))), (13, .dead), (21, .dead), (36, .dead), (58, .dead), (86, .dead), (95, .dead)], [(0, .p (c1245 ++ [(.int .i64 x1251)]))], 1, []⟩) (by kernel_rfl))) ⟨n, Nat.lt_succ_self n, _, _, _, h1386, rfl⟩
                          · refine W_sound tab_ok mixed 35 _ _ _ ?_
                            simp -implicitDefEqProofs only [go_sem, ne_eq, not_false_eq_true, Nat.reduceBEq, Nat.reduceAdd, Nat.reduceSub, Nat.reduceMul, Nat.reduceLT, Nat.reduceLeDiff, Int.reduceLE, Int.reduceLT, Int.reduceToNat, Int.reduceBEq, Int.reduceBNe, Int.le_refl, Nat.le_refl, decide_true, decide_false, Int.cast_ofNat_Int, ↓reduceIte, h993, h998, h1199, h1200, g1201, g1202, g1203, h1204, h1246, g1247, g1248, g1249, h1250, g1252, g1253, h1254, h1256, g1257, h1258, h1262, h1264, h1265]
                            repeat with_reducible refine And.intro (by first | kernel_rfl | decide) ?_
                            exact cutQ _ ((Wk_le (.cons _ _ _ _ _ (.refl _) (.cons _ _ _ _ _ (.refl _) (.cons _ _ _ _ _ (.refl _) (.cons _ _ _ _ _ (.refl _) (.cons _ _ _ _ _ (.refl _) (.cons _ _ _ _ _ (.refl _) (.cons _ _ _ _ _ (.refl _) (.cons _ _ _ _ _ (.refl _) (.cons _ _ _ _ _ (.refl _) (.cons _ _ _ _ _ (.refl _) (.cons _ _ _ _ _ (.refl _) (.cons _ _ _ _ _ (.dead _) (.cons _ _ _ _ _ (.dead _) (.cons _ _ _ _ _ (.dead _) (.cons _ _ _ _ _ (.refl _) .nil))))))))))))))) (OLe.refl _)).trans (cmpS_ok (st' := ⟨[], [(0, .v (.int .i64 x991)), (1, .v (.lst false n994 c995)), (4, .dead), (5, .v (.int .i64 x996)), (6, .v (.int .i64 x997)), (7, .sl false 0 0 n1243 1), (8, .v (.bool (decide (x1205 ≥ x997)))), (9, .v (.int .i64 x1197)), (10, .v (.int .i64 (IntKind.i64.wrap (x1244 + 1)))), (13, .dead), (21, .dead), (36, .dead), (58, .dead), (86, .dead), (95, .dead)], [(0, .p c1245)], 1, []⟩) (by kernel_rfl))) ⟨n, Nat.lt_succ_self n, _, _, _, h1386, rfl⟩
                        · have hh := grd_some h1386; clear h1386; obtain ⟨g1273, h1386⟩ := hh
                          have hh := grd_some h1386; clear h1386; obtain ⟨g1274, h1386⟩ := hh
                          refine W_sound tab_ok mixed 21 _ _ _ ?_
                          simp -implicitDefEqProofs only [go_sem, ne_eq, not_false_eq_true, Nat.reduceBEq, Nat.reduceAdd, Nat.reduceSub, Nat.reduceMul, Nat.reduceLT, Nat.reduceLeDiff, Int.reduceLE, Int.reduceLT, Int.reduceToNat, Int.reduceBEq, Int.reduceBNe, Int.le_refl, Nat.le_refl, decide_true, decide_false, Int.cast_ofNat_Int, ↓reduceIte, h993, h998, h1199, h1200, g1201, g1202, g1203, h1204, h1246, g1247, g1248, g1249, h1250, g1252, g1253, h1254, h1256, g1257, h1258, h1262, h1264, g1273, g1274]
                          repeat with_reducible refine And.intro (by first | kernel_rfl | decide) ?_
                          exact cutQ _ ((Wk_le (.cons _ _ _ _ _ (.refl _) (.cons _ _ _ _ _ (.refl _) (.cons _ _ _ _ _ (.refl _) (.cons _ _ _ _ _ (.refl _) (.cons _ _ _ _ _ (.refl _) (.cons _ _ _ _ _ (.refl _) (.cons _ _ _ _ _ (.refl _) (.cons _ _ _ _ _ (.refl _) (.cons _ _ _ _ _ (.refl _) (.cons _ _ _ _ _ (.refl _) (.cons _ _ _ _ _ (.refl _) (.cons _ _ _ _ _ (.dead _) (.cons _ _ _ _ _ (.dead _) (.cons _ _ _ _ _ (.refl _) (.cons _ _ _ _ _ (.refl _) .nil))))))))))))))) (OLe.refl _)).trans (cmpS_ok (st' := ⟨[], [(0, .v (.int .i64 x991)), (1, .v (.lst false n994 c995)), (4, .dead), (5, .v (.int .i64 x996)), (6, .v (.int .i64 x997)), (7, .sl false 0 0 (n1243 + 1) 1), (8, .v (.bool (decide (x1205 ≥ x997)))), (9, .v (.int .i64 x1197)), (10, .v (.int .i64 (IntKind.i64.wrap (x1244 + 1)))), (13, .dead), (21, .dead), (36, .dead), (58, .dead), (86, .dead), (95, .dead)], [(0, .p (c1245 ++ [(.int .i64 x1259)]))], 1, []⟩) (by kernel_rfl))) ⟨n, Nat.lt_succ_self n, _, _, _, h1386, rfl⟩
                      · have hh := grd_some h1386; clear h1386; obtain ⟨g1275, h1386⟩ := hh
                        have hh := getI_some h1386; clear h1386; obtain ⟨x1277, h1276, h1386⟩ := hh
                        have hh := brn_some h1386; clear h1386; rcases hh with ⟨h1278, h1386⟩ | ⟨h1278, h1386⟩
                        · have hh := bnd'_some h1386; clear h1386; obtain ⟨p1279, h1280, h1386⟩ := hh
                          (try dsimp only at h1386)
                          refine W_sound tab_ok mixed 55 _ _ _ ?_
                          simp -implicitDefEqProofs only [go_sem, ne_eq, not_false_eq_true, Nat.reduceBEq, Nat.reduceAdd, Nat.reduceSub, Nat.reduceMul, Nat.reduceLT, Nat.reduceLeDiff, Int.reduceLE, Int.reduceLT, Int.reduceToNat, Int.reduceBEq, Int.reduceBNe, Int.le_refl, Nat.le_refl, decide_true, decide_false, Int.cast_ofNat_Int, ↓reduceIte, h993, h998, h1199, h1200, g1201, g1202, g1203, h1204, h1246, g1247, g1248, g1249, h1250, g1252, g1253, h1254, h1256, g1275, h1276, h1278]
                          repeat with_reducible refine And.intro (by first | kernel_rfl | decide) ?_
                          refine Wp_callD [0] (c85_2 N _ _ _ _ h1280) rfl rfl rfl (by first | rfl | (simp only [go_sem, ne_eq, not_false_eq_true, Nat.reduceBEq, Nat.reduceAdd, Nat.reduceSub, Nat.reduceMul, Nat.reduceLT, Nat.reduceLeDiff, Int.reduceLE, Int.reduceLT, Int.reduceToNat, Int.reduceBEq, Int.reduceBNe, Int.le_refl, Nat.le_refl, decide_true, decide_false, Int.cast_ofNat_Int, ↓reduceIte, h993, h998, h1199, h1200, g1201, g1202, g1203, h1204, h1246, g1247, g1248, g1249, h1250, g1252, g1253, h1254, h1256, g1275, h1276, h1278] <;> rfl)) rfl (by kernel_rfl) ?_
                          have hh := getB_some h1386; clear h1386; obtain ⟨b1282, h1281, h1386⟩ := hh
                          have hh := brn_some h1386; clear h1386; rcases hh with ⟨h1283, h1386⟩ | ⟨h1283, h1386⟩
                          · refine W_sound tab_ok mixed 11 _ _ _ ?_
                            simp -implicitDefEqProofs only [go_sem, ne_eq, not_false_eq_true, Nat.reduceBEq, Nat.reduceAdd, Nat.reduceSub, Nat.reduceMul, Nat.reduceLT, Nat.reduceLeDiff, Int.reduceLE, Int.reduceLT, Int.reduceToNat, Int.reduceBEq, Int.reduceBNe, Int.le_refl, Nat.le_refl, decide_true, decide_false, Int.cast_ofNat_Int, ↓reduceIte, h993, h998, h1199, h1200, g1201, g1202, g1203, h1204, h1246, g1247, g1248, g1249, h1250, g1252, g1253, h1254, h1256, g1275, h1276, h1278, h1281, h1283]
                            repeat with_reducible refine And.intro (by first | kernel_rfl | decide) ?_
                            exact cutQ _ ((Wk_le (.cons _ _ _ _ _ (.refl _) (.cons _ _ _ _ _ (.refl _) (.cons _ _ _ _ _ (.refl _) (.cons _ _ _ _ _ (.refl _) (.cons _ _ _ _ _ (.refl _) (.cons _ _ _ _ _ (.refl _) (.cons _ _ _ _ _ (.refl _) (.cons _ _ _ _ _ (.refl _) (.cons _ _ _ _ _ (.refl _) (.cons _ _ _ _ _ (.refl _) (.cons _ _ _ _ _ (.refl _) (.cons _ _ _ _ _ (.dead _) (.cons _ _ _ _ _ (.dead _) (.cons _ _ _ _ _ (.dead _) (.cons _ _ _ _ _ (.refl _) .nil))))))))))))))) (OLe.refl _)).trans (cmpS_ok (st' := ⟨[], [(0, .v (.int .i64 x991)), (1, .v (.lst false n994 c995)), (4, .dead), (5, .v (.int .i64 x996)), (6, .v (.int .i64 x997)), (7, .sl false 0 0 n1243 1), (8, .v (.bool (decide (x1205 ≥ x997)))), (9, .v (.int .i64 x1197)), (10, .v (.int .i64 (IntKind.i64.wrap (x1244 + 1)))), (13, .dead), (21, .dead), (36, .dead), (58, .dead), (86, .dead), (95, .dead)], [(0, .p c1245)], 1, []⟩) (by kernel_rfl))) ⟨n, Nat.lt_succ_self n, _, _, _, h1386, rfl⟩
                          · have hh := grd_some h1386; clear h1386; obtain ⟨g1284, h1386⟩ := hh
                            have hh := grd_some h1386; clear h1386; obtain ⟨g1285, h1386⟩ := hh
                            refine W_sound tab_ok mixed 21 _ _ _ ?_
                            simp -implicitDefEqProofs only [go_sem, ne_eq, not_false_eq_true, Nat.reduceBEq, Nat.reduceAdd, Nat.reduceSub, Nat.reduceMul, Nat.reduceLT, Nat.reduceLeDiff, Int.reduceLE, Int.reduceLT, Int.reduceToNat, Int.reduceBEq, Int.reduceBNe, Int.le_refl, Nat.le_refl, decide_true, decide_false, Int.cast_ofNat_Int, ↓reduceIte, h993, h998, h1199, h1200, g1201, g1202, g1203, h1204, h1246, g1247, g1248, g1249, h1250, g1252, g1253, h1254, h1256, g1275, h1276, h1278, h1281, h1283, g1284, g1285]
                            repeat with_reducible refine And.intro (by first | kernel_rfl | decide) ?_
                            exact cutQ _ ((Wk_le (.cons _ _ _ _ _ (.refl _) (.cons _ _ _ _ _ (.refl _) (.cons _ _ _ _ _ (.refl _) (.cons _ _ _ _ _ (.refl _) (.cons _ _ _ _ _ (.refl _) (.cons _ _ _ _ _ (.refl _) (.cons _ _ _ _ _ (.refl _) (.cons _ _ _ _ _ (.refl _) (.cons _ _ _ _ _ (.refl _) (.cons _ _ _ _ _ (.refl _) (.cons _ _ _ _ _ (.refl _) (.cons _ _ _ _ _ (.dead _) (.cons _ _ _ _ _ (.dead _) (.cons _ _ _ _ _ (.dead _) (.cons _ _ _ _ _ (.refl _) .nil))))))))))))))) (OLe.refl _)).trans (cmpS_ok (st' := ⟨[], [(0, .v (.int .i64 x991)), (1, .v (.lst false n994 c995)), (4, .dead), (5, .v (.int .i64 x996)), (6, .v (.int .i64 x997)), (7, .sl false 0 0 (n1243 + 1) 1), (8, .v (.bool (decide (x1205 ≥ x997)))), (9, .v (.int .i64 x1197)), (10, .v (.int .i64 (IntKind.i64.wrap (x1244 + 1)))), (13, .dead), (21, .dead), (36, .dead), (58, .dead), (86, .dead), (95, .dead)], [(0, .p (c1245 ++ [(.int .i64 x1251)]))], 1, []⟩) (by kernel_rfl))) ⟨n, Nat.lt_succ_self n, _, _, _, h1386, rfl⟩
                        · refine W_sound tab_ok mixed 67 _ _ _ ?_
                          simp -implicitDefEqProofs only [go_sem, ne_eq, not_false_eq_true, Nat.reduceBEq, Nat.reduceAdd, Nat.reduceSub, Nat.reduceMul, Nat.reduceLT, Nat.reduceLeDiff, Int.reduceLE, Int.reduceLT, Int.reduceToNat, Int.reduceBEq, Int.reduceBNe, Int.le_refl, Nat.le_refl, decide_true, decide_false, Int.cast_ofNat_Int, ↓reduceIte, h993, h998, h1199, h1200, g1201, g1202, g1203, h1204, h1246, g1247, g1248, g1249, h1250, g1252, g1253, h1254, h1256, g1275, h1276, h1278]
                          repeat with_reducible refine And.intro (by first | kernel_rfl | decide) ?_
                          exact cutQ _ ((Wk_le (.cons _ _ _ _ _ (.refl _) (.cons _ _ _ _ _ (.refl _) (.cons _ _ _ _ _ (.refl _) (.cons _ _ _ _ _ (.refl _) (.cons _ _ _ _ _ (.refl _) (.cons _ _ _ _ _ (.refl _) (.cons _ _ _ _ _ (.refl _) (.cons _ _ _ _ _ (.refl _) (.cons _ _ _ _ _ (.refl _) (.cons _ _ _ _ _ (.refl _) (.cons _ _ _ _ _ (.refl _) (.cons _ _ _ _ _ (.dead _) (.cons _ _ _ _ _ (.dead _) (.cons _ _ _ _ _ (.dead _) (.cons _ _ _ _ _ (.refl _) .nil))))))))))))))) (OLe.refl _)).trans (cmpS_ok (st' := ⟨[], [(0, .v (.int .i64 x991)), (1, .v (.lst false n994 c995)), (4, .dead), (5, .v (.int .i64 x996)), (6, .v (.int .i64 x997)), (7, .sl false 0 0 n1243 1), (8, .v (.bool (decide (x1205 ≥ x997)))), (9, .v (.int .i64 x1197)), (10, .v (.int .i64 (IntKind.i64.wrap (x1244 + 1)))), (13, .dead), (21, .dead), (36, .dead), (58, .dead), (86, .dead), (95, .dead)], [(0, .p c1245)], 1, []⟩) (by kernel_rfl))) ⟨n, Nat.lt_succ_self n, _, _, _, h1386, rfl⟩
                    · refine W_sound tab_ok mixed 10 _ _ _ ?_
                      simp -implicitDefEqProofs only [go_sem, ne_eq, not_false_eq_true, Nat.reduceBEq, Nat.reduceAdd, Nat.reduceSub, Nat.reduceMul, Nat.reduceLT, Nat.reduceLeDiff, Int.reduceLE, Int.reduceLT, Int.reduceToNat, Int.reduceBEq, Int.reduceBNe, Int.le_refl, Nat.le_refl, decide_true, decide_false, Int.cast_ofNat_Int, ↓reduceIte, h993, h998, h1199, h1200, g1201, g1202, g1203, h1204, h1246]
                      repeat with_reducible refine And.intro (by first | kernel_rfl | decide) ?_
                      obtain rfl := Option.some.inj h1386
                      exact cutQ _ ((Wk_le (.cons _ _ _ _ _ (.refl _) (.cons _ _ _ _ _ (.refl _) (.cons _ _ _ _ _ (.refl _) (.cons _ _ _ _ _ (.refl _) (.cons _ _ _ _ _ (.refl _) (.cons _ _ _ _ _ (.refl _) (.cons _ _ _ _ _ (.refl _) (.cons _ _ _ _ _ (.refl _) (.cons _ _ _ _ _ (.dead _) (.cons _ _ _ _ _ (.refl _) (.cons _ _ _ _ _ (.refl _) (.cons _ _ _ _ _ (.dead _) (.cons _ _ _ _ _ (.refl _) (.cons _ _ _ _ _ (.refl _) (.cons _ _ _ _ _ (.refl _) .nil))))))))))))))) (OLe.refl _)).trans (cmpS_ok (st' := ⟨[], [(0, .v (.int .i64 x991)), (1, .v (.lst false n994 c995)), (4, .dead), (5, .v (.int .i64 x996)), (6, .v (.int .i64 x997)), (7, .sl false 0 0 n1243 1), (8, .v (.bool (decide (x1205 ≥ x997)))), (9, .v (.int .i64 x1197)), (10, .dead), (13, .dead), (21, .dead), (36, .dead), (58, .dead), (86, .dead), (95, .dead)], [(0, .p c1245)], 1, []⟩) (by kernel_rfl))) ⟨_, _, rfl, rfl⟩
                · rintro _ ⟨n1286, c1287, rfl, rfl⟩
                  (try dsimp only at h1387)
                  refine W_sound tab_ok mixed 6 _ _ _ ?_
                  simp -implicitDefEqProofs only [go_sem, ne_eq, not_false_eq_true, Nat.reduceBEq, Nat.reduceAdd, Nat.reduceSub, Nat.reduceMul, Nat.reduceLT, Nat.reduceLeDiff, Int.reduceLE, Int.reduceLT, Int.reduceToNat, Int.reduceBEq, Int.reduceBNe, Int.le_refl, Nat.le_refl, decide_true, decide_false, Int.cast_ofNat_Int, ↓reduceIte, h993, h998, h1199, h1200, g1201, g1202, g1203, h1204]
                  repeat with_reducible refine And.intro (by first | kernel_rfl | decide) ?_
                  exact cutQ _ ((Wk_le (.cons _ _ _ _ _ (.refl _) (.cons _ _ _ _ _ (.refl _) (.cons _ _ _ _ _ (.refl _) (.cons _ _ _ _ _ (.refl _) (.cons _ _ _ _ _ (.refl _) (.cons _ _ _ _ _ (.refl _) (.cons _ _ _ _ _ (.refl _) (.cons _ _ _ _ _ (.refl _) (.cons _ _ _ _ _ (.refl _) (.cons _ _ _ _ _ (.refl _) (.cons _ _ _ _ _ (.refl _) (.cons _ _ _ _ _ (.refl _) (.cons _ _ _ _ _ (.refl _) (.cons _ _ _ _ _ (.refl _) (.cons _ _ _ _ _ (.refl _) .nil))))))))))))))) (OLe.refl _)).trans (cmpS_ok (st' := ⟨[], [(0, .v (.int .i64 x991)), (1, .v (.lst false n994 c995)), (4, .dead), (5, .v (.int .i64 x996)), (6, .v (.int .i64 x997)), (7, .sl false 0 0 n1286 1), (8, .v (.bool (decide (x1205 ≥ x997)))), (9, .v (.int .i64 (IntKind.i64.wrap (x1197 + 1)))), (10, .dead), (13, .dead), (21, .dead), (36, .dead), (58, .dead), (86, .dead), (95, .dead)], [(0, .p c1287)], 1, []⟩) (by kernel_rfl))) ⟨n, Nat.lt_succ_self n, _, _, _, _, h1387, rfl⟩
              · refine W_sound tab_ok mixed 29 _ _ _ ?_
                simp -implicitDefEqProofs only [go_sem, ne_eq, not_false_eq_true, Nat.reduceBEq, Nat.reduceAdd, Nat.reduceSub, Nat.reduceMul, Nat.reduceLT, Nat.reduceLeDiff, Int.reduceLE, Int.reduceLT, Int.reduceToNat, Int.reduceBEq, Int.reduceBNe, Int.le_refl, Nat.le_refl, decide_true, decide_false, Int.cast_ofNat_Int, ↓reduceIte, h993, h998, h1199, h1200]
                repeat with_reducible refine And.intro (by first | kernel_rfl | decide) ?_
                have hh := bnd'_some h1383; clear h1383; obtain ⟨o1388, h1389, h1390⟩ := hh
                refine Wp_cut (fun s => ∃ n1374, ∃ c1375, (n1374, c1375) = o1388 ∧ s = ⟨[], [(0, .v (.int .i64 x991)), (1, .v (.lst false n994 c995)), (4, .dead), (5, .v (.int .i64 x996)), (6, .v (.int .i64 x997)), (7, .sl false 0 0 n1374 1), (8, .v (.bool false)), (9, .v (.int .i64 x1197)), (10, .dead), (13, .dead), (21, .dead), (36, .dead), (58, .dead), (86, .dead), (95, .dead)], [(0, .p c1375)], 1, []⟩) ?_ ?_
                · refine Wp_block ?_
                  refine Wp_loopG (fun n s => ∃ n1330, ∃ x1331, ∃ c1332, m96_L3 N x991 n994 c995 x996 x997 x1197 n n1330 x1331 c1332 = some o1388 ∧ s = ⟨[], [(0, .v (.int .i64 x991)), (1, .v (.lst false n994 c995)), (4, .dead), (5, .v (.int .i64 x996)), (6, .v (.int .i64 x997)), (7, .sl false 0 0 n1330 1), (8, .v (.bool false)), (9, .v (.int .i64 x1197)), (10, .v (.int .i64 x1331)), (13, .dead), (21, .dead), (36, .dead), (58, .dead), (86, .dead), (95, .dead)], [(0, .p c1332)], 1, []⟩) N _ ((Wk_le (.cons _ _ _ _ _ (.refl _) (.cons _ _ _ _ _ (.refl _) (.cons _ _ _ _ _ (.refl _) (.cons _ _ _ _ _ (.refl _) (.cons _ _ _ _ _ (.refl _) (.cons _ _ _ _ _ (.refl _) (.cons _ _ _ _ _ (.refl _) (.cons _ _ _ _ _ (.refl _) (.cons _ _ _ _ _ (.refl _) (.cons _ _ _ _ _ (.refl _) (.cons _ _ _ _ _ (.dead _) (.cons _ _ _ _ _ (.refl _) (.cons _ _ _ _ _ (.refl _) (.cons _ _ _ _ _ (.refl _) (.cons _ _ _ _ _ (.refl _) .nil))))))))))))))) (OLe.refl _)).trans (cmpS_ok (st' := ⟨[], [(0, .v (.int .i64 x991)), (1, .v (.lst false n994 c995)), (4, .dead), (5, .v (.int .i64 x996)), (6, .v (.int .i64 x997)), (7, .sl false 0 0 n1195 1), (8, .v (.bool false)), (9, .v (.int .i64 x1197)), (10, .v (.int .i64 0)), (13, .dead), (21, .dead), (36, .dead), (58, .dead), (86, .dead), (95, .dead)], [(0, .p c1198)], 1, []⟩) (by kernel_rfl))) ⟨_, _, _, h1389, rfl⟩ ?_
                  clear h1389
                  rintro n _ ⟨n1330, x1331, c1332, h1389, rfl⟩
                  cases n with
                  | zero => cases h1389
                  | succ n =>
                    rw [m96_L3] at h1389
                    have hh := brn_some h1389; clear h1389; rcases hh with ⟨h1333, h1389⟩ | ⟨h1333, h1389⟩
                    · have hh := grd_some h1389; clear h1389; obtain ⟨⟨g1334, g1335⟩, h1389⟩ := hh
                      have hh := grd_some h1389; clear h1389; obtain ⟨g1336, h1389⟩ := hh
                      have hh := getI_some h1389; clear h1389; obtain ⟨x1338, h1337, h1389⟩ := hh
                      have hh := grd_some h1389; clear h1389; obtain ⟨⟨g1339, g1340⟩, h1389⟩ := hh
                      have hh := grd_some h1389; clear h1389; obtain ⟨g1341, h1389⟩ := hh
                      have hh := getI_some h1389; clear h1389; obtain ⟨x1343, h1342, h1389⟩ := hh
                      have hh := brn_some h1389; clear h1389; rcases hh with ⟨h1344, h1389⟩ | ⟨h1344, h1389⟩
                      · have hh := grd_some h1389; clear h1389; obtain ⟨g1345, h1389⟩ := hh
                        have hh := getI_some h1389; clear h1389; obtain ⟨x1347, h1346, h1389⟩ := hh
                        have hh := bnd'_some h1389; clear h1389; obtain ⟨p1348, h1349, h1389⟩ := hh
                        (try dsimp only at h1389)
                        refine W_sound tab_ok mixed 31 _ _ _ ?_
                        simp -implicitDefEqProofs only [go_sem, ne_eq, not_false_eq_true, Nat.reduceBEq, Nat.reduceAdd, Nat.reduceSub, Nat.reduceMul, Nat.reduceLT, Nat.reduceLeDiff, Int.reduceLE, Int.reduceLT, Int.reduceToNat, Int.reduceBEq, Int.reduceBNe, Int.le_refl, Nat.le_refl, decide_true, decide_false, Int.cast_ofNat_Int, ↓reduceIte, h993, h998, h1199, h1200, h1333, g1334, g1335, g1336, h1337, g1339, g1340, g1341, h1342, h1344, g1345, h1346]
                        repeat with_reducible refine And.intro (by first | kernel_rfl | decide) ?_
                        refine Wp_callD [0] (c85_2 N _ _ _ _ h1349) rfl rfl rfl (by first | rfl | (simp only [go_sem, ne_eq, not_false_eq_true, Nat.reduceBEq, Nat.reduceAdd, Nat.reduceSub, Nat.reduceMul, Nat.reduceLT, Nat.reduceLeDiff, Int.reduceLE, Int.reduceLT, Int.reduceToNat, Int.reduceBEq, Int.reduceBNe, Int.le_refl, Nat.le_refl, decide_true, decide_false, Int.cast_ofNat_Int, ↓reduceIte, h993, h998, h1199, h1200, h1333, g1334, g1335, g1336, h1337, g1339, g1340, g1341, h1342, h1344, g1345, h1346] <;> rfl)) rfl (by kernel_rfl) ?_
                        have hh := getB_some h1389; clear h1389; obtain ⟨b1351, h1350, h1389⟩ := hh
                        have hh := brn_some h1389; clear h1389; rcases hh with ⟨h1352, h1389⟩ | ⟨h1352, h1389⟩
                        · have hh := brn_some h1389; clear h1389; rcases hh with ⟨h1353, h1389⟩ | ⟨h1353, h1389⟩
                          · have hh := bnd'_some h1389; clear h1389; obtain ⟨p1354, h1355, h1389⟩ := hh
                            (try dsimp only at h1389)
                            refine W_sound tab_ok mixed 23 _ _ _ ?_
                            simp -implicitDefEqProofs only [go_sem, ne_eq, not_false_eq_true, Nat.reduceBEq, Nat.reduceAdd, Nat.reduceSub, Nat.reduceMul, Nat.reduceLT, Nat.reduceLeDiff, Int.reduceLE, Int.reduceLT, Int.reduceToNat, Int.reduceBEq, Int.reduceBNe, Int.le_refl, Nat.le_refl, decide_true, decide_false, Int.cast_ofNat_Int, ↓reduceIte, h993, h998, h1199, h1200, h1333, g1334, g1335, g1336, h1337, g1339, g1340, g1341, h1342, h1344, g1345, h1346, h1350, h1352, h1353]
                            repeat with_reducible refine And.intro (by first | kernel_rfl | decide) ?_
                            refine Wp_callD [0] (c85_2 N _ _ _ _ h1355) rfl rfl rfl (by first | rfl | (simp only [go_sem, ne_eq, not_false_eq_true, Nat.reduceBEq, Nat.reduceAdd, Nat.reduceSub, Nat.reduceMul, Nat.reduceLT, Nat.reduceLeDiff, Int.reduceLE, Int.reduceLT, Int.reduceToNat, Int.reduceBEq, Int.reduceBNe, Int.le_refl, Nat.le_refl, decide_true, decide_false, Int.cast_ofNat_Int, ↓reduceIte, h993, h998, h1199, h1200, h1333, g1334, g1335, g1336, h1337, g1339, g1340, g1341, h1342, h1344, g1345, h1346, h1350, h1352, h1353] <;> rfl)) rfl (by kernel_rfl) ?_
                            have hh := getB_some h1389; clear h1389; obtain ⟨b1357, h1356, h1389⟩ := hh
                            have hh := brn_some h1389; clear h1389; rcases hh with ⟨h1358, h1389⟩ | ⟨h1358, h1389⟩
                            · refine W_sound tab_ok mixed 11 _ _ _ ?_
                              simp -implicitDefEqProofs only [go_sem, ne_eq, not_false_eq_true, Nat.reduceBEq, Nat.reduceAdd, Nat.reduceSub, Nat.reduceMul, Nat.reduceLT, Nat.reduceLeDiff, Int.reduceLE, Int.reduceLT, Int.reduceToNat, Int.reduceBEq, Int.reduceBNe, Int.le_refl, Nat.le_refl, decide_true, decide_false, Int.cast_ofNat_Int, ↓reduceIte, h993, h998, h1199, h1200, h1333, g1334, g1335, g1336, h1337, g1339, g1340, g1341, h1342, h1344, g1345, h1346, h1350, h1352, h1353, h1356, h1358]
                              repeat with_reducible refine And.intro (by first | kernel_rfl | decide) ?_
                              exact cutQ _ ((Wk_le (.cons _ _ _ _ _ (.refl _) (.cons _ _ _ _ _ (.refl _) (.cons _ _ _ _ _ (.refl _) (.cons _ _ _ _ _ (.refl _) (.cons _ _ _ _ _ (.refl _) (.cons _ _ _ _ _ (.refl _) (.cons _ _ _ _ _ (.refl _) (.cons _ _ _ _ _ (.refl _) (.cons _ _ _ _ _ (.refl _) (.cons _ _ _ _ _ (.refl _) (.cons _ _ _ _ _ (.refl _) (.cons _ _ _ _ _ (.dead _) (.cons _ _ _ _ _ (.dead _) (.cons _ _ _ _ _ (.dead _) (.cons _ _ _ _ _ (.refl _) .nil))))))))))))))) (OLe.refl _)).trans (cmpS_ok (st' := ⟨[], [(0, .v (.int .i64 x991)), (1, .v (.lst false n994 c995)), (4, .dead), (5, .v (.int .i64 x996)), (6, .v (.int .i64 x997)), (7, .sl false 0 0 n1330 1), (8, .v (.bool false)), (9, .v (.int .i64 x1197)), (10, .v (.int .i64 (IntKind.i64.wrap (x1331 + 1)))), (13, .dead), (21, .dead), (36, .dead), (58, .dead), (86, .dead), (95, .dead)], [(0, .p c1332)], 1, []⟩) (by kernel_rfl))) ⟨n, Nat.lt_succ_self n, _, _, _, h1389, rfl⟩
                            · have hh := grd_some h1389; clear h1389; obtain ⟨g1359, h1389⟩ := hh
                              have hh := grd_some h1389; clear h1389; obtain ⟨g1360, h1389⟩ := hh
                              refine W_sound tab_ok mixed 21 _ _ _ ?_
                              simp -implicitDefEqProofs only [go_sem, ne_eq, not_false_eq_true, Nat.reduceBEq, Nat.reduceAdd, Nat.reduceSub, Nat.reduceMul, Nat.reduceLT, Nat.reduceLeDiff, Int.reduceLE, Int.reduceLT, Int.reduceToNat, Int.reduceBEq, Int.reduceBNe, Int.le_refl, Nat.le_refl, decide_true, decide_false, Int.cast_ofNat_Int, ↓reduceIte, h993, h998, h1199, h1200, h1333, g1334, g1335, g1336, h1337, g1339, g1340, g1341, h1342, h1344, g1345, h1346, h1350, h1352, h1353, h1356, h1358, g1359, g1360]
                              repeat with_reducible refine And.intro (by first | kernel_rfl | decide) ?_
                              exact cutQ _ ((Wk_le (.cons _ _ _ _ _ (.refl _) (.cons _ _ _ _ _ (.refl _) (.cons _ _ _ _ _ (.refl _) (.cons _ _ _ _ _ (.refl _) (.cons _ _ _ _ _ (.refl _) (.cons _ _ _ _ _ (.refl _) (.cons _ _ _ _ _ (.refl _) (.cons _ _ _ _ _ (.refl _) (.cons _ _ _ _ _ (.refl _) (.cons _ _ _ _ _ (.refl _) (.cons _ _ _ _ _ (.refl _) (.cons _ _ _ _ _ (.dead _) (.cons _ _ _ _ _ (.dead _) (.cons _ _ _ _ _ (.dead _) (.cons _ _ _ _ _ (.refl _) .nil))))))))))))))) (OLe.refl _)).trans (cmpS_ok (st' := ⟨[], [(0, .v (.int .i64 x991)), (1, .v (.lst false n994 c995)), (4, .dead), (5, .v (.int .i64 x996)), (6, .v (.int .i64 x997)), (7, .sl false 0 0 (n1330 + 1) 1), (8, .v (.bool false)), (9, .v (.int .i64 x1197)), (10, .v (.int .i64 (IntKind.i64.wrap (x1331 + 1)))), (13, .dead), (21, .dead), (36, .dead), (58, .dead), (86, .dead), (95, .dead)], [(0, .p (c1332 ++ [(.int .i64 x1338)]))], 1, []⟩) (by kernel_rfl))) ⟨n, Nat.lt_succ_self n, _, _, _, h1389, rfl⟩
                          · refine W_sound tab_ok mixed 35 _ _ _ ?_
                            simp -implicitDefEqProofs only [go_sem, ne_eq, not_false_eq_true, Nat.reduceBEq, Nat.reduceAdd, Nat.reduceSub, Nat.reduceMul, Nat.reduceLT, Nat.reduceLeDiff, Int.reduceLE, Int.reduceLT, Int.reduceToNat, Int.reduceBEq, Int.reduceBNe, Int.le_refl, Nat.le_refl, decide_true, decide_false, Int.cast_ofNat_Int, ↓reduceIte, h993, h998, h1199, h1200, h1333, g1334, g1335, g1336, h1337, g1339, g1340, g1341, h1342, h1344, g1345, h1346, h1350, h1352, h1353]
                            repeat with_reducible refine And.intro (by first | kernel_rfl | decide) ?_
                            exact cutQ _ ((Wk_le (.cons _ _ _ _ _ (.refl _) (.cons _ _ _ _ _ (.refl _) (.cons _ _ _ _ _ (.refl _) (.cons _ _ _ _ _ (.refl _) (.cons _ _ _ _ _ (.refl _) (.cons _ _ _ _ _ (.refl _) (.cons _ _ _ _ _ (.refl _) (.cons _ _ _ _ _ (.refl _) (.cons _ _ _ _ _ (.refl _) (.cons _ _ _ _ _ (.refl _) (.cons _ _ _ _ _ (.refl _) (.cons _ _ _ _ _ (.dead _) (.cons _ _ _ _ _ (.dead _) (.cons _ _ _ _ _ (.dead _) (.cons _ _ _ _ _ (.refl _) .nil))))))))))))))) (OLe.refl _)).trans (cmpS_ok (st' := ⟨[], [(0, .v (.int .i64 x991)), (1, .v (.lst false n994 c995)), (4, .dead), (5, .v (.int .i64 x996)), (6, .v (.int .i64 x997)), (7, .sl false 0 0 n1330 1), (8, .v (.bool false)), (9, .v (.int .i64 x1197)), (10, .v (.int .i64 (IntKind.i64.wrap (x1331 + 1)))), (13, .dead), (21, .dead), (36, .dead), (58, .dead), (86, .dead), (95, .dead)], [(0, .p c1332)], 1, []⟩) (by kernel_rfl))) ⟨n, Nat.lt_succ_self n, _, _, _, h1389, rfl⟩
                        · have hh := grd_some h1389; clear h1389; obtain ⟨g1361, h1389⟩ := hh
                          have hh := grd_some h1389; clear h1389; obtain ⟨g1362, h1389⟩ := hh
                          refine W_sound tab_ok mixed 21 _ _ _ ?_
                          simp -implicitDefEqProofs only [go_sem, ne_eq, not_false_eq_true, Nat.reduceBEq, Nat.reduceAdd, Nat.reduceSub, Nat.reduceMul, Nat.reduceLT, Nat.reduceLeDiff, Int.reduceLE, Int.reduceLT, Int.reduceToNat, Int.reduceBEq, Int.reduceBNe, Int.le_refl, Nat.le_refl, decide_true, decide_false, Int.cast_ofNat_Int, ↓reduceIte, h993, h998, h1199, h1200, h1333, g1334, g1335, g1336, h1337, g1339, g1340, g1341, h1342, h1344, g1345, h1346, h1350, h1352, g1361, g1362]
                          repeat with_reducible refine And.intro (by first | kernel_rfl | decide) ?_
                          exact cutQ _ ((Wk_le (.cons _ _ _ _ _ (.refl _) (.cons _ _ _ _ _ (.refl _) (.cons _ _ _ _ _ (.refl _) (.cons _ _ _ _ _ (.refl _) (.cons _ _ _ _ _ (.refl _) (.cons _ _ _ _ _ (.refl _) (.cons _ _ _ _ _ (.refl _) (.cons _ _ _ _ _ (.refl _) (.cons _ _ _ _ _ (.refl _) (.cons _ _ _ _ _ (.refl _) (.cons _ _ _ _ _ (.refl _) (.cons _ _ _ _ _ (.dead _) (.cons _ _ _ _ _ (.dead _) (.cons _ _ _ _ _ (.refl _) (.cons _ _ _ _ _ (.refl _) .nil))))))))))))))) (OLe.refl _)).trans (cmpS_ok (st' := ⟨[], [(0, .v (.int .i64 x991)), (1, .v (.lst false n994 c995)), (4, .dead), (5, .v (.int .i64 x996)), (6, .v (.int .i64 x997)), (7, .sl false 0 0 (n1330 + 1) 1), (8, .v (.bool false)), (9, .v (.int .i64 x1197)), (10, .v (.int .i64 (IntKind.i64.wrap (x1331 + 1)))), (13, .dead), (21, .dead), (36, .dead), (58, .dead), (86, .dead), (95, .dead)], [(0, .p (c1332 ++ [(.int .i64 x1347)]))], 1, []⟩) (by kernel_rfl))) ⟨n, Nat.lt_succ_self n, _, _, _, h1389, rfl⟩
                      · have hh := grd_some h1389; clear h1389; obtain ⟨g1363, h1389⟩ := hh
                        have hh := getI_some h1389; clear h1389; obtain ⟨x1365, h1364, h1389⟩ := hh
                        have hh := brn_some h1389; clear h1389; rcases hh with ⟨h1366, h1389⟩ | ⟨h1366, h1389⟩
                        · have hh := bnd'_some h1389; clear h1389; obtain ⟨p1367, h1368, h1389⟩ := hh
                          (try dsimp only at h1389)
                          refine W_sound tab_ok mixed 55 _ _ _ ?_
                          simp -implicitDefEqProofs only [go_sem, ne_eq, not_false_eq_true, Nat.reduceBEq, Nat.reduceAdd, Nat.reduceSub, Nat.reduceMul, Nat.reduceLT, Nat.reduceLeDiff, Int.reduceLE, Int.reduceLT, Int.reduceToNat, Int.reduceBEq, Int.reduceBNe, Int.le_refl, Nat.le_refl, decide_true, decide_false, Int.cast_ofNat_Int, ↓reduceIte, h993, h998, h1199, h1200, h1333, g1334, g1335, g1336, h1337, g1339, g1340, g1341, h1342, h1344, g1363, h1364, h1366]
                          repeat with_reducible refine And.intro (by first | kernel_rfl | decide) ?_
                          refine Wp_callD [0] (c85_2 N _ _ _ _ h1368) rfl rfl rfl (by first | rfl | (simp only [go_sem, ne_eq, not_false_eq_true, Nat.reduceBEq, Nat.reduceAdd, Nat.reduceSub, Nat.reduceMul, Nat.reduceLT, Nat.reduceLeDiff, Int.reduceLE, Int.reduceLT, Int.reduceToNat, Int.reduceBEq, Int.reduceBNe, Int.le_refl, Nat.le_refl, decide_true, decide_false, Int.cast_ofNat_Int, ↓reduceIte, h993, h998, h1199, h1200, h1333, g1334, g1335, g1336, h1337, g1339, g1340, g1341, h1342, h1344, g1363, h1364, h1366] <;> rfl)) rfl (by kernel_rfl) ?_
                          have hh := getB_some h1389; clear h1389; obtain ⟨b1370, h1369, h1389⟩ := hh
                          have hh := brn_some h1389; clear h1389; rcases hh with ⟨h1371, h1389⟩ | ⟨h1371, h1389⟩
                          · refine W_sound tab_ok mixed 11 _ _ _ ?_
                            simp -implicitDefEqProofs only [go_sem, ne_eq, not_false_eq_true, Nat.reduceBEq, Nat.reduceAdd, Nat.reduceSub, Nat.reduceMul, Nat.reduceLT, Nat.reduceLeDiff, Int.reduceLE, Int.reduceLT, Int.reduceToNat, Int.reduceBEq, Int.reduceBNe, Int.le_refl, Nat.le_refl, decide_true, decide_false, Int.cast_ofNat_Int, ↓reduceIte, h993, h998, h1199, h1200, h1333, g1334, g1335, g1336, h1337, g1339, g1340, g1341, h1342, h1344, g1363, h1364, h1366, h1369, h1371]
                            repeat with_reducible refine And.intro (by first | kernel_rfl | decide) ?_
                            exact cutQ _ ((Wk_le (.cons _ _ _ _ _ (.refl _) (.cons _ _ _ _ _ (.refl _) (.cons _ _ _ _ _ (.refl _) (.cons _ _ _ _ _ (.refl _) (.cons _ _ _ _ _ (.refl _) (.cons _ _ _ _ _ (.refl _) (.cons _ _ _ _ _ (.refl _) (.cons _ _ _ _ _ (.refl _) (.cons _ _ _ _ _ (.refl _) (.cons _ _ _ _ _ (.refl _) (.cons _ _ _ _ _ (.refl _) (.cons _ _ _ _ _ (.dead _) (.cons _ _ _ _ _ (.dead _) (.cons _ _ _ _ _ (.dead _) (.cons _ _ _ _ _ (.refl _) .nil))))))))))))))) (OLe.refl _)).trans (cmpS_ok (st' := ⟨[], [(0, .v (.int .i64 x991)), (1, .v (.lst false n994 c995)), (4, .dead), (5, .v (.int .i64 x996)), (6, .v (.int .i64 x997)), (7, .sl false 0 0 n1330 1), (8, .v (.bool false)), (9, .v (.int .i64 x1197)), (10, .v (.int .i64 (IntKind.i64.wrap (x1331 + 1)))), (13, .dead), (21, .dead), (36, .dead), (58, .dead), (86, .dead), (95, .dead)], [(0, .p c1332)], 1, []⟩) (by kernel_rfl))) ⟨n, Nat.lt_succ_self n, _, _, _, h1389, rfl⟩
                          · have hh := grd_some h1389; clear h1389; obtain ⟨g1372, h1389⟩ := hh
                            have hh := grd_some h1389; clear h1389; obtain ⟨g1373, h1389⟩ := hh
                            refine W_sound tab_ok mixed 21 _ _ _ ?_
                            simp -implicitDefEqProofs only [go_sem, ne_eq, not_false_eq_true, Nat.reduceBEq, Nat.reduceAdd, Nat.reduceSub, Nat.reduceMul, Nat.reduceLT, Nat.reduceLeDiff, Int.reduceLE, Int.reduceLT, Int.reduceToNat, Int.reduceBEq, Int.reduceBNe, Int.le_refl, Nat.le_refl, decide_true, decide_false, Int.cast_ofNat_Int, ↓reduceIte, h993, h998, h1199, h1200, h1333, g1334, g1335, g1336, h1337, g1339, g1340, g1341, h1342, h1344, g1363, h1364, h1366, h1369, h1371, g1372, g1373]
                            repeat with_reducible refine And.intro (by first | kernel_rfl | decide) ?_
                            exact cutQ _ ((Wk_le (.cons _ _ _ _ _ (.refl _) (.cons _ _ _ _ _ (.refl _) (.cons _ _ _ _ _ (.refl _) (.cons _ _ _ _ _ (.refl _) (.cons _ _ _ _ _ (.refl _) (.cons _ _ _ _ _ (.refl _) (.cons _ _ _ _ _ (.refl _) (.cons _ _ _ _ _ (.refl _) (.cons _ _ _ _ _ (.refl _) (.cons _ _ _ _ _ (.refl _) (.cons _ _ _ _ _ (.refl _) (.cons _ _ _ _ _ (.dead _) (.cons _ _ _ _ _ (.dead _) (.cons _ _ _ _ _ (.dead _) (.cons _ _ _ _ _ (.refl _) .nil))))))))))))))) (OLe.refl _)).trans (cmpS_ok (st' := ⟨[], [(0, .v (.int .i64 x991)), (1, .v (.lst false n994 c995)), (4, .dead), (5, .v (.int .i64 x996)), (6, .v (.int .i64 x997)), (7, .sl false 0 0 (n1330 + 1) 1), (8, .v (.bool false)), (9, .v (.int .i64 x1197)), (10, .v (.int .i64 (IntKind.i64.wrap (x1331 + 1)))), (13, .dead), (21, .dead), (36, .dead), (58, .dead), (86, .dead), (95, .dead)], [(0, .p (c1332 ++ [(.int .i64 x1338)]))], 1, []⟩) (by kernel_rfl))) ⟨n, Nat.lt_succ_self n, _, _, _, h1389, rfl⟩
                        · refine W_sound tab_ok mixed 67 _ _ _ ?_
                          simp -implicitDefEqProofs only [go_sem, ne_eq, not_false_eq_true, Nat.reduceBEq, Nat.reduceAdd, Nat.reduceSub, Nat.reduceMul, Nat.reduceLT, Nat.reduceLeDiff, Int.reduceLE, Int.reduceLT, Int.reduceToNat, Int.reduceBEq, Int.reduceBNe, Int.le_refl, Nat.le_refl, decide_true, decide_false, Int.cast_ofNat_Int, ↓reduceIte, h993, h998, h1199, h1200, h1333, g1334, g1335, g1336, h1337, g1339, g1340, g1341, h1342, h1344, g1363, h1364, h1366]
                          repeat with_reducible refine And.intro (by first | kernel_rfl | decide) ?_
                          exact cutQ _ ((Wk_le (.cons _ _ _ _ _ (.refl _) (.cons _ _ _ _ _ (.refl _) (.cons _ _ _ _ _ (.refl _) (.cons _ _ _ _ _ (.refl _) (.cons _ _ _ _ _ (.refl _) (.cons _ _ _ _ _ (.refl _) (.cons _ _ _ _ _ (.refl _) (.cons _ _ _ _ _ (.refl _) (.cons _ _ _ _ _ (.refl _) (.cons _ _ _ _ _ (.refl _) (.cons _ _ _ _ _ (.refl _) (.cons _ _ _ _ _ (.dead _) (.cons _ _ _ _ _ (.dead _) (.cons _ _ _ _ _ (.dead _) (.cons _ _ _ _ _ (.refl _) .nil))))))))))))))) (OLe.refl _)).trans (cmpS_ok (st' := ⟨[], [(0, .v (.int .i64 x991)), (1, .v (.lst false n994 c995)), (4, .dead), (5, .v (.int .i64 x996)), (6, .v (.int .i64 x997)), (7, .sl false 0 0 n1330 1), (8, .v (.bool false)), (9, .v (.int .i64 x1197)), (10, .v (.int .i64 (IntKind.i64.wrap (x1331 + 1)))), (13, .dead), (21, .dead), (36, .dead), (58, .dead), (86, .dead), (95, .dead)], [(0, .p c1332)], 1, []⟩) (by kernel_rfl))) ⟨n, Nat.lt_succ_self n, _, _, _, h1389, rfl⟩
                    · refine W_sound tab_ok mixed 10 _ _ _ ?_
                      simp -implicitDefEqProofs only [go_sem, ne_eq, not_false_eq_true, Nat.reduceBEq, Nat.reduceAdd, Nat.reduceSub, Nat.reduceMul, Nat.reduceLT, Nat.reduceLeDiff, Int.reduceLE, Int.reduceLT, Int.reduceToNat, Int.reduceBEq, Int.reduceBNe, Int.le_refl, Nat.le_refl, decide_true, decide_false, Int.cast_ofNat_Int, ↓reduceIte, h993, h998, h1199, h1200, h1333]
                      repeat with_reducible refine And.intro (by first | kernel_rfl | decide) ?_
                      obtain rfl := Option.some.inj h1389
                      exact cutQ _ ((Wk_le (.cons _ _ _ _ _ (.refl _) (.cons _ _ _ _ _ (.refl _) (.cons _ _ _ _ _ (.refl _) (.cons _ _ _ _ _ (.refl _) (.cons _ _ _ _ _ (.refl _) (.cons _ _ _ _ _ (.refl _) (.cons _ _ _ _ _ (.refl _) (.cons _ _ _ _ _ (.refl _) (.cons _ _ _ _ _ (.dead _) (.cons _ _ _ _ _ (.refl _) (.cons _ _ _ _ _ (.refl _) (.cons _ _ _ _ _ (.dead _) (.cons _ _ _ _ _ (.refl _) (.cons _ _ _ _ _ (.refl _) (.cons _ _ _ _ _ (.refl _) .nil))))))))))))))) (OLe.refl _)).trans (cmpS_ok (st' := ⟨[], [(0, .v (.int .i64 x991)), (1, .v (.lst false n994 c995)), (4, .dead), (5, .v (.int .i64 x996)), (6, .v (.int .i64 x997)), (7, .sl false 0 0 n1330 1), (8, .v (.bool false)), (9, .v (.int .i64 x1197)), (10, .dead), (13, .dead), (21, .dead), (36, .dead), (58, .dead), (86, .dead), (95, .dead)], [(0, .p c1332)], 1, []⟩) (by kernel_rfl))) ⟨_, _, rfl, rfl⟩
                · rintro _ ⟨n1374, c1375, rfl, rfl⟩
                  (try dsimp only at h1390)
                  refine W_sound tab_ok mixed 6 _ _ _ ?_
                  simp -implicitDefEqProofs only [go_sem, ne_eq, not_false_eq_true, Nat.reduceBEq, Nat.reduceAdd, Nat.reduceSub, Nat.reduceMul, Nat.reduceLT, Nat.reduceLeDiff, Int.reduceLE, Int.reduceLT, Int.reduceToNat, Int.reduceBEq, Int.reduceBNe, Int.le_refl, Nat.le_refl, decide_true, decide_false, Int.cast_ofNat_Int, ↓reduceIte, h993, h998, h1199, h1200]
                  repeat with_reducible refine And.intro (by first | kernel_rfl | decide) ?_
                  exact cutQ _ ((Wk_le (.cons _ _ _ _ _ (.refl _) (.cons _ _ _ _ _ (.refl _) (.cons _ _ _ _ _ (.refl _) (.cons _ _ _ _ _ (.refl _) (.cons _ _ _ _ _ (.refl _) (.cons _ _ _ _ _ (.refl _) (.cons _ _ _ _ _ (.refl _) (.cons _ _ _ _ _ (.refl _) (.cons _ _ _ _ _ (.refl _) (.cons _ _ _ _ _ (.refl _) (.cons _ _ _ _ _ (.refl _) (.cons _ _ _ _ _ (.refl _) (.cons _ _ _ _ _ (.refl _) (.cons _ _ _ _ _ (.refl _) (.cons _ _ _ _ _ (.refl _) .nil))))))))))))))) (OLe.refl _)).trans (cmpS_ok (st' := ⟨[], [(0, .v (.int .i64 x991)), (1, .v (.lst false n994 c995)), (4, .dead), (5, .v (.int .i64 x996)), (6, .v (.int .i64 x997)), (7, .sl false 0 0 n1374 1), (8, .v (.bool false)), (9, .v (.int .i64 (IntKind.i64.wrap (x1197 + 1)))), (10, .dead), (13, .dead), (21, .dead), (36, .dead), (58, .dead), (86, .dead), (95, .dead)], [(0, .p c1375)], 1, []⟩) (by kernel_rfl))) ⟨n, Nat.lt_succ_self n, _, _, _, _, h1390, rfl⟩
            · refine W_sound tab_ok mixed 10 _ _ _ ?_
              simp -implicitDefEqProofs only [go_sem, ne_eq, not_false_eq_true, Nat.reduceBEq, Nat.reduceAdd, Nat.reduceSub, Nat.reduceMul, Nat.reduceLT, Nat.reduceLeDiff, Int.reduceLE, Int.reduceLT, Int.reduceToNat, Int.reduceBEq, Int.reduceBNe, Int.le_refl, Nat.le_refl, decide_true, decide_false, Int.cast_ofNat_Int, ↓reduceIte, h993, h998, h1199]
              repeat with_reducible refine And.intro (by first | kernel_rfl | decide) ?_
              obtain rfl := Option.some.inj h1383
              exact cutQ _ ((Wk_le (.cons _ _ _ _ _ (.refl _) (.cons _ _ _ _ _ (.refl _) (.cons _ _ _ _ _ (.refl _) (.cons _ _ _ _ _ (.refl _) (.cons _ _ _ _ _ (.refl _) (.cons _ _ _ _ _ (.dead _) (.cons _ _ _ _ _ (.refl _) (.cons _ _ _ _ _ (.dead _) (.cons _ _ _ _ _ (.refl _) (.cons _ _ _ _ _ (.refl _) (.cons _ _ _ _ _ (.dead _) (.cons _ _ _ _ _ (.refl _) (.cons _ _ _ _ _ (.refl _) (.cons _ _ _ _ _ (.refl _) (.cons _ _ _ _ _ (.refl _) .nil))))))))))))))) (OLe.refl _)).trans (cmpS_ok (st' := ⟨[], [(0, .v (.int .i64 x991)), (1, .v (.lst false n994 c995)), (4, .dead), (5, .v (.int .i64 x996)), (6, .v (.int .i64 x997)), (7, .dead), (8, .v (.bool b1196)), (9, .dead), (10, .dead), (13, .dead), (21, .dead), (36, .dead), (58, .dead), (86, .dead), (95, .dead)], [], 0, []⟩) (by kernel_rfl))) ⟨_, rfl, rfl⟩
        · rintro _ ⟨b1376, rfl, rfl⟩
          have hh := brn_some h1384; clear h1384; rcases hh with ⟨h1377, h1384⟩ | ⟨h1377, h1384⟩
          · refine W_sound tab_ok mixed 16 _ _ _ ?_
            simp -implicitDefEqProofs only [go_sem, ne_eq, not_false_eq_true, Nat.reduceBEq, Nat.reduceAdd, Nat.reduceSub, Nat.reduceMul, Nat.reduceLT, Nat.reduceLeDiff, Int.reduceLE, Int.reduceLT, Int.reduceToNat, Int.reduceBEq, Int.reduceBNe, Int.le_refl, Nat.le_refl, decide_true, decide_false, Int.cast_ofNat_Int, ↓reduceIte, h993, h998, h1377]
            repeat with_reducible refine And.intro (by first | kernel_rfl | decide) ?_
            exact cutQ _ ((Wk_le (.cons _ _ _ _ _ (.refl _) (.cons _ _ _ _ _ (.refl _) (.cons _ _ _ _ _ (.refl _) (.cons _ _ _ _ _ (.refl _) (.cons _ _ _ _ _ (.refl _) (.cons _ _ _ _ _ (.refl _) (.cons _ _ _ _ _ (.dead _) (.cons _ _ _ _ _ (.refl _) (.cons _ _ _ _ _ (.refl _) (.cons _ _ _ _ _ (.refl _) (.cons _ _ _ _ _ (.refl _) (.cons _ _ _ _ _ (.refl _) (.cons _ _ _ _ _ (.refl _) (.cons _ _ _ _ _ (.refl _) (.cons _ _ _ _ _ (.dead _) .nil))))))))))))))) (OLe.refl _)).trans (cmpS_ok (st' := ⟨[], [(0, .v (.int .i64 x991)), (1, .v (.lst false n994 c995)), (4, .dead), (5, .v (.int .i64 (IntKind.i64.wrap (x996 + 1)))), (6, .v (.int .i64 (IntKind.i64.wrap (x997 + 1)))), (7, .dead), (8, .dead), (9, .dead), (10, .dead), (13, .dead), (21, .dead), (36, .dead), (58, .dead), (86, .dead), (95, .dead)], [], 0, []⟩) (by kernel_rfl))) ⟨n, Nat.lt_succ_self n, _, _, h1384, rfl⟩
          · refine W_sound tab_ok mixed 12 _ _ _ ?_
            simp -implicitDefEqProofs only [go_sem, ne_eq, not_false_eq_true, Nat.reduceBEq, Nat.reduceAdd, Nat.reduceSub, Nat.reduceMul, Nat.reduceLT, Nat.reduceLeDiff, Int.reduceLE, Int.reduceLT, Int.reduceToNat, Int.reduceBEq, Int.reduceBNe, Int.le_refl, Nat.le_refl, decide_true, decide_false, Int.cast_ofNat_Int, ↓reduceIte, h993, h998, h1377]
            repeat with_reducible refine And.intro (by first | kernel_rfl | decide) ?_
            exact cutQ _ ((Wk_le (.cons _ _ _ _ _ (.refl _) (.cons _ _ _ _ _ (.refl _) (.cons _ _ _ _ _ (.refl _) (.cons _ _ _ _ _ (.refl _) (.cons _ _ _ _ _ (.refl _) (.cons _ _ _ _ _ (.refl _) (.cons _ _ _ _ _ (.dead _) (.cons _ _ _ _ _ (.refl _) (.cons _ _ _ _ _ (.refl _) (.cons _ _ _ _ _ (.refl _) (.cons _ _ _ _ _ (.refl _) (.cons _ _ _ _ _ (.refl _) (.cons _ _ _ _ _ (.refl _) (.cons _ _ _ _ _ (.refl _) (.cons _ _ _ _ _ (.dead _) .nil))))))))))))))) (OLe.refl _)).trans (cmpS_ok (st' := ⟨[], [(0, .v (.int .i64 x991)), (1, .v (.lst false n994 c995)), (4, .dead), (5, .v (.int .i64 x996)), (6, .v (.int .i64 (IntKind.i64.wrap (x997 + 1)))), (7, .dead), (8, .dead), (9, .dead), (10, .dead), (13, .dead), (21, .dead), (36, .dead), (58, .dead), (86, .dead), (95, .dead)], [], 0, []⟩) (by kernel_rfl))) ⟨n, Nat.lt_succ_self n, _, _, h1384, rfl⟩
      · refine W_sound tab_ok mixed 9 _ _ _ ?_
        simp -implicitDefEqProofs only [go_sem, ne_eq, not_false_eq_true, Nat.reduceBEq, Nat.reduceAdd, Nat.reduceSub, Nat.reduceMul, Nat.reduceLT, Nat.reduceLeDiff, Int.reduceLE, Int.reduceLT, Int.reduceToNat, Int.reduceBEq, Int.reduceBNe, Int.le_refl, Nat.le_refl, decide_true, decide_false, Int.cast_ofNat_Int, ↓reduceIte, h993, h998]
        repeat with_reducible refine And.intro (by first | kernel_rfl | decide) ?_
        obtain rfl := Option.some.inj h1380
        exact cutQ _ ((Wk_le (.cons _ _ _ _ _ (.dead _) (.cons _ _ _ _ _ (.dead _) (.cons _ _ _ _ _ (.refl _) (.cons _ _ _ _ _ (.refl _) (.cons _ _ _ _ _ (.dead _) (.cons _ _ _ _ _ (.refl _) (.cons _ _ _ _ _ (.refl _) (.cons _ _ _ _ _ (.refl _) (.cons _ _ _ _ _ (.refl _) (.cons _ _ _ _ _ (.dead _) (.cons _ _ _ _ _ (.refl _) (.cons _ _ _ _ _ (.refl _) (.cons _ _ _ _ _ (.refl _) (.cons _ _ _ _ _ (.refl _) (.cons _ _ _ _ _ (.refl _) .nil))))))))))))))) (OLe.refl _)).trans (cmpS_ok (st' := ⟨[], [(0, .dead), (1, .dead), (4, .dead), (5, .v (.int .i64 x996)), (6, .dead), (7, .dead), (8, .dead), (9, .dead), (10, .dead), (13, .dead), (21, .dead), (36, .dead), (58, .dead), (86, .dead), (95, .dead)], [], 0, []⟩) (by kernel_rfl))) ⟨_, rfl, rfl⟩
  · rintro _ ⟨x1378, rfl, rfl⟩
    refine W_sound tab_ok mixed 7 _ _ _ ?_
    simp -implicitDefEqProofs only [go_sem, ne_eq, not_false_eq_true, Nat.reduceBEq, Nat.reduceAdd, Nat.reduceSub, Nat.reduceMul, Nat.reduceLT, Nat.reduceLeDiff, Int.reduceLE, Int.reduceLT, Int.reduceToNat, Int.reduceBEq, Int.reduceBNe, Int.le_refl, Nat.le_refl, decide_true, decide_false, Int.cast_ofNat_Int, ↓reduceIte, h993]
    repeat with_reducible refine And.intro (by first | kernel_rfl | decide) ?_
    obtain rfl := Option.some.inj h1381
    exact finC [(4, .v (.int .i64 x1378))] [(4, .v (.int .i64 x1378))] (by simp [leE, lk_cons]) (.cons _ _ _ _ _ (.v _ _ (.refl _)) .nil) (by rfl) (by simp [leE, lk_cons]) (by decide) (by decide) rfl (by simp only [go_sem, ne_eq, not_false_eq_true, Nat.reduceBEq, Nat.reduceAdd, Nat.reduceSub, Nat.reduceMul, Nat.reduceLT, Nat.reduceLeDiff, Int.reduceLE, Int.reduceLT, Int.reduceToNat, Int.reduceBEq, Int.reduceBNe, Int.le_refl, Nat.le_refl, decide_true, decide_false, Int.cast_ofNat_Int, ↓reduceIte, resQ_tmp, resQ_cell, resQ_nil, retD_one, retD_two, retD_three, retD_none]; try simp [R.val, retD_one, retD_two, retD_three, retD_none])

def m74 (N : Nat) (x1947 : Int) (p1948 : PV) : Option (PV) :=
  getL p1948 fun n1950 c1951 =>
  bnd' (m96 N x1947 (.lst false n1950 c1951)) fun p1952 =>
  getI .i64 p1952 fun x1955 =>
  some (.bool (x1955 == (IntKind.i64.wrap (x1947 - ((n1950 : Nat) : Int)))))
theorem c74 (N : Nat) (x1947 : Int) (p1948 : PV) (r : PV)  (h : m74 N x1947 p1948 = some r) : FnP Tryd.prog 74 [(.int .i64 x1947), p1948] r := by
  unfold m74 at h
  refine Fn_of (sz := 13) tab_ok [0, 1, 4] [.tmp 4] Tryd.func74 rfl rfl rfl (by simp) ?_
  simp only [initSt, initEnv, List.map_cons, List.map_nil, List.getD_cons_zero, List.getD_cons_succ, List.getD_nil]
  have hh := getL_some h; clear h; obtain ⟨n1950, c1951, h1949, h⟩ := hh
  have hh := bnd'_some h; clear h; obtain ⟨p1952, h1953, h⟩ := hh
  refine W_sound tab_ok mixed 8 _ _ _ ?_
  simp -implicitDefEqProofs only [go_sem, ne_eq, not_false_eq_true, Nat.reduceBEq, Nat.reduceAdd, Nat.reduceSub, Nat.reduceMul, Nat.reduceLT, Nat.reduceLeDiff, Int.reduceLE, Int.reduceLT, Int.reduceToNat, Int.reduceBEq, Int.reduceBNe, Int.le_refl, Nat.le_refl, decide_true, decide_false, Int.cast_ofNat_Int, ↓reduceIte, h1949]
  repeat with_reducible refine And.intro (by first | kernel_rfl | decide) ?_
  refine Wp_callP (c96 N _ _ _ h1953) (by kernel_rfl) rfl rfl rfl rfl (by decide) ?_
  have hh := getI_some h; clear h; obtain ⟨x1955, h1954, h⟩ := hh
  refine W_sound tab_ok mixed 9 _ _ _ ?_
  simp -implicitDefEqProofs only [go_sem, ne_eq, not_false_eq_true, Nat.reduceBEq, Nat.reduceAdd, Nat.reduceSub, Nat.reduceMul, Nat.reduceLT, Nat.reduceLeDiff, Int.reduceLE, Int.reduceLT, Int.reduceToNat, Int.reduceBEq, Int.reduceBNe, Int.le_refl, Nat.le_refl, decide_true, decide_false, Int.cast_ofNat_Int, ↓reduceIte, h1949, h1954]
  repeat with_reducible refine And.intro (by first | kernel_rfl | decide) ?_
  obtain rfl := Option.some.inj h
  exact finC [(4, .v (.bool (x1955 == (IntKind.i64.wrap (x1947 - ((n1950 : Nat) : Int))))))] [(4, .v (.bool (x1955 == (IntKind.i64.wrap (x1947 - ((n1950 : Nat) : Int))))))] (by simp [leE, lk_cons]) (.cons _ _ _ _ _ (.v _ _ (.refl _)) .nil) (by rfl) (by simp [leE, lk_cons]) (by decide) (by decide) rfl (by simp only [go_sem, ne_eq, not_false_eq_true, Nat.reduceBEq, Nat.reduceAdd, Nat.reduceSub, Nat.reduceMul, Nat.reduceLT, Nat.reduceLeDiff, Int.reduceLE, Int.reduceLT, Int.reduceToNat, Int.reduceBEq, Int.reduceBNe, Int.le_refl, Nat.le_refl, decide_true, decide_false, Int.cast_ofNat_Int, ↓reduceIte, resQ_tmp, resQ_cell, resQ_nil, retD_one, retD_two, retD_three, retD_none]; try simp [R.val, retD_one, retD_two, retD_three, retD_none])

end Go.Proofs.YtnponojgpkbagaaDoor
