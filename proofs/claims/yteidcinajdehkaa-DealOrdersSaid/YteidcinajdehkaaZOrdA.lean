/-
  Models and laws.
-/
import Derived.Test.YteidcinajdehkaaB
import Derived.Test.YteidcinajdehkaaK
import Derived.Test.YteidcinajdehkaaV30
namespace Go.Proofs.Yteidcinajdehkaa
open Go.V
set_option maxRecDepth 100000
set_option maxHeartbeats 4000000
set_option linter.unusedSimpArgs false
set_option linter.unusedVariables false
attribute [local go_sem] tl1 tl2 tl3 tl4 tl5 tl9 tl17 tl21 tl22 tl23 tl24 tl25 tl26 tl27 tl28 tl29 tl30 tl32 tl33 tl35 tl36 tl37 tl38 tl39 tl40 tl41 tl42 tl43 tl44 tl46 tl48 tl50 tl51 tl52 tl53 tl54 tl56 tl58 tl59 tl60 tl61 tl62 tl63 tl64 tl65 tl66 tl67 tl68 tl69 tl70 tl72 tl74 tl75 tl76 tl77 tl78 tl79 tl80 tl81 tl82 tl83 tl84 tl85 tl86 tl87 tl88 tl89 tl90 tl91 tl92 tl93 tl94 tl95 tl96 tl97 tl98 tl99 tl100 tl101 tl102 tl103 tl104 tl105 tl106 tl107 tl108 tl109 tl110 tl111 tl112 tl113 tl114 tl115 tl116 tl117 tl118 tl119 tl120 tl121 tl122 tl128 tl129 tl133

def m15_L0 (N : Nat) (n3 : Nat) (c4 : List PV) : Nat → Int → Option ((PV ⊕ Unit))
  | 0, _ => none
  | n + 1, x6 =>
    brn (decide (x6 < ((n3 : Nat) : Int))) (
      grd (0 ≤ x6 ∧ x6 < ((n3 : Nat) : Int)) <|
      grd (0 < List.length (List.drop (Int.toNat x6) c4)) <|
      getL (gp c4 (Int.toNat x6)) fun n12 c13 =>
      brn (decide (((n12 : Nat) : Int) > 20)) (
        some (.inl (.bool true))) (
        m15_L0 N n3 c4 n (IntKind.i64.wrap (x6 + 1)))) (
      some (.inr ()))
def m15 (N : Nat) (p1 : PV) : Option (PV) :=
  getL p1 fun n3 c4 =>
  brn (decide (((n3 : Nat) : Int) > 20)) (
    some (.bool true)) (
    bnd' (m15_L0 N n3 c4 N 0) fun o =>
    match o with
    | .inl p15 =>
      some p15
    | .inr () =>
      some (.bool false))
theorem c15 (N : Nat) (p1 : PV) (r : PV)  (h : m15 N p1 = some r) : FnP Try.prog 15 [p1] r := by
  unfold m15 at h
  refine Fn_of (sz := 19) tab_ok [0, 2, 3, 6, 10, 18] [.tmp 2] Try.func15 rfl rfl rfl (by simp) ?_
  simp only [initSt, initEnv, List.map_cons, List.map_nil, List.getD_cons_zero, List.getD_cons_succ, List.getD_nil]
  have hh := getL_some h; clear h; obtain ⟨n3, c4, h2, h⟩ := hh
  have hh := brn_some h; clear h; rcases hh with ⟨h5, h⟩ | ⟨h5, h⟩
  · refine W_sound tab_ok mixed 18 _ _ _ ?_
    simp -implicitDefEqProofs only [go_sem, ne_eq, not_false_eq_true, Nat.reduceBEq, Nat.reduceAdd, Nat.reduceSub, Nat.reduceMul, Nat.reduceLT, Nat.reduceLeDiff, Int.reduceLE, Int.reduceLT, Int.reduceToNat, Int.reduceBEq, Int.reduceBNe, Int.le_refl, Nat.le_refl, decide_true, decide_false, Int.cast_ofNat_Int, ↓reduceIte, h2, h5]
    repeat with_reducible refine And.intro (by first | kernel_rfl | decide) ?_
    obtain rfl := Option.some.inj h
    exact finC [(2, .v (.bool true))] [(2, .v (.bool true))] (by simp [leE, lk_cons]) (.cons _ _ _ _ _ (.v _ _ (.refl _)) .nil) (by rfl) (by simp [leE, lk_cons]) (by decide) (by decide) rfl (by simp only [go_sem, ne_eq, not_false_eq_true, Nat.reduceBEq, Nat.reduceAdd, Nat.reduceSub, Nat.reduceMul, Nat.reduceLT, Nat.reduceLeDiff, Int.reduceLE, Int.reduceLT, Int.reduceToNat, Int.reduceBEq, Int.reduceBNe, Int.le_refl, Nat.le_refl, decide_true, decide_false, Int.cast_ofNat_Int, ↓reduceIte, resQ_tmp, resQ_cell, resQ_nil, retD_one, retD_two, retD_three, retD_none]; try simp [R.val, retD_one, retD_two, retD_three, retD_none])
  · refine W_sound tab_ok mixed 18 _ _ _ ?_
    simp -implicitDefEqProofs only [go_sem, ne_eq, not_false_eq_true, Nat.reduceBEq, Nat.reduceAdd, Nat.reduceSub, Nat.reduceMul, Nat.reduceLT, Nat.reduceLeDiff, Int.reduceLE, Int.reduceLT, Int.reduceToNat, Int.reduceBEq, Int.reduceBNe, Int.le_refl, Nat.le_refl, decide_true, decide_false, Int.cast_ofNat_Int, ↓reduceIte, h2, h5]
    repeat with_reducible refine And.intro (by first | kernel_rfl | decide) ?_
    have hh := bnd'_some h; clear h; obtain ⟨o16, h17, h18⟩ := hh
    refine Wp_cut (fun s => (.inr ()) = o16 ∧ s = ⟨[], [(0, .dead), (2, .dead), (3, .dead), (6, .dead), (10, .dead), (18, .dead)], [], 0, []⟩) ?_ ?_
    · refine Wp_block ?_
      refine Wp_loopG (fun n s => ∃ x6, m15_L0 N n3 c4 n x6 = some o16 ∧ s = ⟨[], [(0, .v (.lst false n3 c4)), (2, .dead), (3, .v (.int .i64 x6)), (6, .dead), (10, .dead), (18, .dead)], [], 0, []⟩) N _ ((Wk_le (.cons _ _ _ _ _ (.refl _) (.cons _ _ _ _ _ (.dead _) (.cons _ _ _ _ _ (.refl _) (.cons _ _ _ _ _ (.dead _) (.cons _ _ _ _ _ (.refl _) (.cons _ _ _ _ _ (.refl _) .nil)))))) (OLe.refl _)).trans (cmpS_ok rfl)) ⟨_, h17, rfl⟩ ?_
      clear h17
      rintro n _ ⟨x6, h17, rfl⟩
      cases n with
      | zero => cases h17
      | succ n =>
        rw [m15_L0] at h17
        have hh := brn_some h17; clear h17; rcases hh with ⟨h7, h17⟩ | ⟨h7, h17⟩
        · have hh := grd_some h17; clear h17; obtain ⟨⟨g8, g9⟩, h17⟩ := hh
          have hh := grd_some h17; clear h17; obtain ⟨g10, h17⟩ := hh
          have hh := getL_some h17; clear h17; obtain ⟨n12, c13, h11, h17⟩ := hh
          have hh := brn_some h17; clear h17; rcases hh with ⟨h14, h17⟩ | ⟨h14, h17⟩
          · refine W_sound tab_ok mixed 28 _ _ _ ?_
            simp -implicitDefEqProofs only [go_sem, ne_eq, not_false_eq_true, Nat.reduceBEq, Nat.reduceAdd, Nat.reduceSub, Nat.reduceMul, Nat.reduceLT, Nat.reduceLeDiff, Int.reduceLE, Int.reduceLT, Int.reduceToNat, Int.reduceBEq, Int.reduceBNe, Int.le_refl, Nat.le_refl, decide_true, decide_false, Int.cast_ofNat_Int, ↓reduceIte, h2, h5, h7, g8, g9, g10, h11, h14]
            repeat with_reducible refine And.intro (by first | kernel_rfl | decide) ?_
            obtain rfl := Option.some.inj h17
            (try dsimp only at h18)
            obtain rfl := Option.some.inj h18
            exact finC [(2, .v (.bool true))] [(2, .v (.bool true))] (by simp [leE, lk_cons]) (.cons _ _ _ _ _ (.v _ _ (.refl _)) .nil) (by rfl) (by simp [leE, lk_cons]) (by decide) (by decide) rfl (by simp only [go_sem, ne_eq, not_false_eq_true, Nat.reduceBEq, Nat.reduceAdd, Nat.reduceSub, Nat.reduceMul, Nat.reduceLT, Nat.reduceLeDiff, Int.reduceLE, Int.reduceLT, Int.reduceToNat, Int.reduceBEq, Int.reduceBNe, Int.le_refl, Nat.le_refl, decide_true, decide_false, Int.cast_ofNat_Int, ↓reduceIte, resQ_tmp, resQ_cell, resQ_nil, retD_one, retD_two, retD_three, retD_none]; try simp [R.val, retD_one, retD_two, retD_three, retD_none])
          · refine W_sound tab_ok mixed 29 _ _ _ ?_
            simp -implicitDefEqProofs only [go_sem, ne_eq, not_false_eq_true, Nat.reduceBEq, Nat.reduceAdd, Nat.reduceSub, Nat.reduceMul, Nat.reduceLT, Nat.reduceLeDiff, Int.reduceLE, Int.reduceLT, Int.reduceToNat, Int.reduceBEq, Int.reduceBNe, Int.le_refl, Nat.le_refl, decide_true, decide_false, Int.cast_ofNat_Int, ↓reduceIte, h2, h5, h7, g8, g9, g10, h11, h14]
            repeat with_reducible refine And.intro (by first | kernel_rfl | decide) ?_
            exact cutQ _ ((Wk_le (.cons _ _ _ _ _ (.refl _) (.cons _ _ _ _ _ (.refl _) (.cons _ _ _ _ _ (.refl _) (.cons _ _ _ _ _ (.refl _) (.cons _ _ _ _ _ (.dead _) (.cons _ _ _ _ _ (.dead _) .nil)))))) (OLe.refl _)).trans (cmpS_ok rfl)) ⟨n, Nat.lt_succ_self n, _, h17, rfl⟩
        · refine W_sound tab_ok mixed 10 _ _ _ ?_
          simp -implicitDefEqProofs only [go_sem, ne_eq, not_false_eq_true, Nat.reduceBEq, Nat.reduceAdd, Nat.reduceSub, Nat.reduceMul, Nat.reduceLT, Nat.reduceLeDiff, Int.reduceLE, Int.reduceLT, Int.reduceToNat, Int.reduceBEq, Int.reduceBNe, Int.le_refl, Nat.le_refl, decide_true, decide_false, Int.cast_ofNat_Int, ↓reduceIte, h2, h5, h7]
          repeat with_reducible refine And.intro (by first | kernel_rfl | decide) ?_
          obtain rfl := Option.some.inj h17
          exact cutQ _ ((Wk_le (.cons _ _ _ _ _ (.dead _) (.cons _ _ _ _ _ (.refl _) (.cons _ _ _ _ _ (.dead _) (.cons _ _ _ _ _ (.refl _) (.cons _ _ _ _ _ (.dead _) (.cons _ _ _ _ _ (.refl _) .nil)))))) (OLe.refl _)).trans (cmpS_ok rfl)) ⟨rfl, rfl⟩
    · rintro _ ⟨rfl, rfl⟩
      (try dsimp only at h18)
      refine W_sound tab_ok mixed 6 _ _ _ ?_
      simp -implicitDefEqProofs only [go_sem, ne_eq, not_false_eq_true, Nat.reduceBEq, Nat.reduceAdd, Nat.reduceSub, Nat.reduceMul, Nat.reduceLT, Nat.reduceLeDiff, Int.reduceLE, Int.reduceLT, Int.reduceToNat, Int.reduceBEq, Int.reduceBNe, Int.le_refl, Nat.le_refl, decide_true, decide_false, Int.cast_ofNat_Int, ↓reduceIte, h2, h5]
      repeat with_reducible refine And.intro (by first | kernel_rfl | decide) ?_
      obtain rfl := Option.some.inj h18
      exact finC [(2, .v (.bool false))] [(2, .v (.bool false))] (by simp [leE, lk_cons]) (.cons _ _ _ _ _ (.v _ _ (.refl _)) .nil) (by rfl) (by simp [leE, lk_cons]) (by decide) (by decide) rfl (by simp only [go_sem, ne_eq, not_false_eq_true, Nat.reduceBEq, Nat.reduceAdd, Nat.reduceSub, Nat.reduceMul, Nat.reduceLT, Nat.reduceLeDiff, Int.reduceLE, Int.reduceLT, Int.reduceToNat, Int.reduceBEq, Int.reduceBNe, Int.le_refl, Nat.le_refl, decide_true, decide_false, Int.cast_ofNat_Int, ↓reduceIte, resQ_tmp, resQ_cell, resQ_nil, retD_one, retD_two, retD_three, retD_none]; try simp [R.val, retD_one, retD_two, retD_three, retD_none])

def m17 (N : Nat) : Option PV := some (.bool true)
theorem c17 (N : Nat) (r : PV) (h : m17 N = some r) : FnP Try.prog 17 [] r := by
  obtain rfl := Option.some.inj h
  exact k25

def m93 (N : Nat) (x70 : Int) (x71 : Int) (x72 : Int) : Option (PV) :=
  brn (decide (x70 < x71)) (
    some (.bool true)) (
    some (.bool (decide (x70 > x72))))
theorem c93 (N : Nat) (x70 : Int) (x71 : Int) (x72 : Int) (r : PV)  (h : m93 N x70 x71 x72 = some r) : FnP Try.prog 93 [(.int .i64 x70), (.ipt [(.int .i64 x71)]), (.ipt [(.int .i64 x72)])] r := by
  unfold m93 at h
  refine Fn_of (sz := 13) tab_ok [0, 1, 2, 4] [.tmp 4] Try.func93 rfl rfl rfl (by simp) ?_
  simp only [initSt, initEnv, List.map_cons, List.map_nil, List.getD_cons_zero, List.getD_cons_succ, List.getD_nil]
  have hh := brn_some h; clear h; rcases hh with ⟨h73, h⟩ | ⟨h73, h⟩
  · refine W_sound tab_ok mixed 18 _ _ _ ?_
    simp -implicitDefEqProofs only [go_sem, ne_eq, not_false_eq_true, Nat.reduceBEq, Nat.reduceAdd, Nat.reduceSub, Nat.reduceMul, Nat.reduceLT, Nat.reduceLeDiff, Int.reduceLE, Int.reduceLT, Int.reduceToNat, Int.reduceBEq, Int.reduceBNe, Int.le_refl, Nat.le_refl, decide_true, decide_false, Int.cast_ofNat_Int, ↓reduceIte, h73]
    repeat with_reducible refine And.intro (by first | kernel_rfl | decide) ?_
    obtain rfl := Option.some.inj h
    exact finC [(4, .v (.bool true))] [(4, .v (.bool true))] (by simp [leE, lk_cons]) (.cons _ _ _ _ _ (.v _ _ (.refl _)) .nil) (by rfl) (by simp [leE, lk_cons]) (by decide) (by decide) rfl (by simp only [go_sem, ne_eq, not_false_eq_true, Nat.reduceBEq, Nat.reduceAdd, Nat.reduceSub, Nat.reduceMul, Nat.reduceLT, Nat.reduceLeDiff, Int.reduceLE, Int.reduceLT, Int.reduceToNat, Int.reduceBEq, Int.reduceBNe, Int.le_refl, Nat.le_refl, decide_true, decide_false, Int.cast_ofNat_Int, ↓reduceIte, resQ_tmp, resQ_cell, resQ_nil, retD_one, retD_two, retD_three, retD_none]; try simp [R.val, retD_one, retD_two, retD_three, retD_none])
  · refine W_sound tab_ok mixed 18 _ _ _ ?_
    simp -implicitDefEqProofs only [go_sem, ne_eq, not_false_eq_true, Nat.reduceBEq, Nat.reduceAdd, Nat.reduceSub, Nat.reduceMul, Nat.reduceLT, Nat.reduceLeDiff, Int.reduceLE, Int.reduceLT, Int.reduceToNat, Int.reduceBEq, Int.reduceBNe, Int.le_refl, Nat.le_refl, decide_true, decide_false, Int.cast_ofNat_Int, ↓reduceIte, h73]
    repeat with_reducible refine And.intro (by first | kernel_rfl | decide) ?_
    obtain rfl := Option.some.inj h
    exact finC [(4, .v (.bool (decide (x70 > x72))))] [(4, .v (.bool (decide (x70 > x72))))] (by simp [leE, lk_cons]) (.cons _ _ _ _ _ (.v _ _ (.refl _)) .nil) (by rfl) (by simp [leE, lk_cons]) (by decide) (by decide) rfl (by simp only [go_sem, ne_eq, not_false_eq_true, Nat.reduceBEq, Nat.reduceAdd, Nat.reduceSub, Nat.reduceMul, Nat.reduceLT, Nat.reduceLeDiff, Int.reduceLE, Int.reduceLT, Int.reduceToNat, Int.reduceBEq, Int.reduceBNe, Int.le_refl, Nat.le_refl, decide_true, decide_false, Int.cast_ofNat_Int, ↓reduceIte, resQ_tmp, resQ_cell, resQ_nil, retD_one, retD_two, retD_three, retD_none]; try simp [R.val, retD_one, retD_two, retD_three, retD_none])

def m103_L0 (N : Nat) (x58 : Int) (x59 : Int) (n61 : Nat) (c62 : List PV) : Nat → Int → Option ((PV ⊕ Unit))
  | 0, _ => none
  | n + 1, x63 =>
    brn (decide (x63 < ((n61 : Nat) : Int))) (
      grd (0 ≤ x63 ∧ x63 < ((n61 : Nat) : Int)) <|
      grd (0 < List.length (List.drop (Int.toNat x63) c62)) <|
      getI .i64 (gp c62 (Int.toNat x63)) fun x69 =>
      bnd' (m93 N x69 x58 x59) fun p74 =>
      getB p74 fun b77 =>
      brn b77 (
        some (.inl (.int .i64 x63))) (
        m103_L0 N x58 x59 n61 c62 n (IntKind.i64.wrap (x63 + 1)))) (
      some (.inr ()))
def m103 (N : Nat) (p57 : PV) (x58 : Int) (x59 : Int) : Option (PV) :=
  getL p57 fun n61 c62 =>
  bnd' (m103_L0 N x58 x59 n61 c62 N 0) fun o =>
  match o with
  | .inl p79 =>
    some p79
  | .inr () =>
    some (.int .i64 (-1))
theorem c103 (N : Nat) (p57 : PV) (x58 : Int) (x59 : Int) (r : PV)  (h : m103 N p57 x58 x59 = some r) : FnP Try.prog 103 [p57, (.fn 93 [(.ipt [(.int .i64 x58)]), (.ipt [(.int .i64 x59)])])] r := by
  unfold m103 at h
  refine Fn_of (sz := 19) tab_ok [0, 1, 4, 5, 7, 8, 9, 16] [.tmp 4] Try.func103 rfl rfl rfl (by simp) ?_
  simp only [initSt, initEnv, List.map_cons, List.map_nil, List.getD_cons_zero, List.getD_cons_succ, List.getD_nil]
  have hh := getL_some h; clear h; obtain ⟨n61, c62, h60, h⟩ := hh
  refine W_sound tab_ok mixed 11 _ _ _ ?_
  simp -implicitDefEqProofs only [go_sem, ne_eq, not_false_eq_true, Nat.reduceBEq, Nat.reduceAdd, Nat.reduceSub, Nat.reduceMul, Nat.reduceLT, Nat.reduceLeDiff, Int.reduceLE, Int.reduceLT, Int.reduceToNat, Int.reduceBEq, Int.reduceBNe, Int.le_refl, Nat.le_refl, decide_true, decide_false, Int.cast_ofNat_Int, ↓reduceIte, h60]
  repeat with_reducible refine And.intro (by first | kernel_rfl | decide) ?_
  have hh := bnd'_some h; clear h; obtain ⟨o80, h81, h82⟩ := hh
  refine Wp_cut (fun s => (.inr ()) = o80 ∧ s = ⟨[], [(0, .dead), (1, .dead), (4, .dead), (5, .dead), (7, .dead), (8, .dead), (9, .dead), (16, .dead)], [], 0, []⟩) ?_ ?_
  · refine Wp_block ?_
    refine Wp_loopG (fun n s => ∃ x63, m103_L0 N x58 x59 n61 c62 n x63 = some o80 ∧ s = ⟨[], [(0, .v (.lst false n61 c62)), (1, .v (.fn 93 [(.ipt [(.int .i64 x58)]), (.ipt [(.int .i64 x59)])])), (4, .dead), (5, .dead), (7, .v (.int .i64 ((n61 : Nat) : Int))), (8, .v (.int .i64 x63)), (9, .dead), (16, .dead)], [], 0, []⟩) N _ ((Wk_le (.cons _ _ _ _ _ (.refl _) (.cons _ _ _ _ _ (.refl _) (.cons _ _ _ _ _ (.dead _) (.cons _ _ _ _ _ (.refl _) (.cons _ _ _ _ _ (.refl _) (.cons _ _ _ _ _ (.refl _) (.cons _ _ _ _ _ (.refl _) (.cons _ _ _ _ _ (.refl _) .nil)))))))) (OLe.refl _)).trans (cmpS_ok rfl)) ⟨_, h81, rfl⟩ ?_
    clear h81
    rintro n _ ⟨x63, h81, rfl⟩
    cases n with
    | zero => cases h81
    | succ n =>
      rw [m103_L0] at h81
      have hh := brn_some h81; clear h81; rcases hh with ⟨h64, h81⟩ | ⟨h64, h81⟩
      · have hh := grd_some h81; clear h81; obtain ⟨⟨g65, g66⟩, h81⟩ := hh
        have hh := grd_some h81; clear h81; obtain ⟨g67, h81⟩ := hh
        have hh := getI_some h81; clear h81; obtain ⟨x69, h68, h81⟩ := hh
        have hh := bnd'_some h81; clear h81; obtain ⟨p74, h75, h81⟩ := hh
        refine W_sound tab_ok mixed 21 _ _ _ ?_
        simp -implicitDefEqProofs only [go_sem, ne_eq, not_false_eq_true, Nat.reduceBEq, Nat.reduceAdd, Nat.reduceSub, Nat.reduceMul, Nat.reduceLT, Nat.reduceLeDiff, Int.reduceLE, Int.reduceLT, Int.reduceToNat, Int.reduceBEq, Int.reduceBNe, Int.le_refl, Nat.le_refl, decide_true, decide_false, Int.cast_ofNat_Int, ↓reduceIte, h60, h64, g65, g66, g67, h68]
        repeat with_reducible refine And.intro (by first | kernel_rfl | decide) ?_
        refine Wp_callP (c93 N _ _ _ _ h75) (by kernel_rfl) rfl rfl rfl rfl (by decide) ?_
        have hh := getB_some h81; clear h81; obtain ⟨b77, h76, h81⟩ := hh
        have hh := brn_some h81; clear h81; rcases hh with ⟨h78, h81⟩ | ⟨h78, h81⟩
        · refine W_sound tab_ok mixed 9 _ _ _ ?_
          simp -implicitDefEqProofs only [go_sem, ne_eq, not_false_eq_true, Nat.reduceBEq, Nat.reduceAdd, Nat.reduceSub, Nat.reduceMul, Nat.reduceLT, Nat.reduceLeDiff, Int.reduceLE, Int.reduceLT, Int.reduceToNat, Int.reduceBEq, Int.reduceBNe, Int.le_refl, Nat.le_refl, decide_true, decide_false, Int.cast_ofNat_Int, ↓reduceIte, h60, h64, g65, g66, g67, h68, h76, h78]
          repeat with_reducible refine And.intro (by first | kernel_rfl | decide) ?_
          obtain rfl := Option.some.inj h81
          (try dsimp only at h82)
          obtain rfl := Option.some.inj h82
          exact finC [(4, .v (.int .i64 x63))] [(4, .v (.int .i64 x63))] (by simp [leE, lk_cons]) (.cons _ _ _ _ _ (.v _ _ (.refl _)) .nil) (by rfl) (by simp [leE, lk_cons]) (by decide) (by decide) rfl (by simp only [go_sem, ne_eq, not_false_eq_true, Nat.reduceBEq, Nat.reduceAdd, Nat.reduceSub, Nat.reduceMul, Nat.reduceLT, Nat.reduceLeDiff, Int.reduceLE, Int.reduceLT, Int.reduceToNat, Int.reduceBEq, Int.reduceBNe, Int.le_refl, Nat.le_refl, decide_true, decide_false, Int.cast_ofNat_Int, ↓reduceIte, resQ_tmp, resQ_cell, resQ_nil, retD_one, retD_two, retD_three, retD_none]; try simp [R.val, retD_one, retD_two, retD_three, retD_none])
        · refine W_sound tab_ok mixed 8 _ _ _ ?_
          simp -implicitDefEqProofs only [go_sem, ne_eq, not_false_eq_true, Nat.reduceBEq, Nat.reduceAdd, Nat.reduceSub, Nat.reduceMul, Nat.reduceLT, Nat.reduceLeDiff, Int.reduceLE, Int.reduceLT, Int.reduceToNat, Int.reduceBEq, Int.reduceBNe, Int.le_refl, Nat.le_refl, decide_true, decide_false, Int.cast_ofNat_Int, ↓reduceIte, h60, h64, g65, g66, g67, h68, h76, h78]
          repeat with_reducible refine And.intro (by first | kernel_rfl | decide) ?_
          exact cutQ _ ((Wk_le (.cons _ _ _ _ _ (.refl _) (.cons _ _ _ _ _ (.refl _) (.cons _ _ _ _ _ (.refl _) (.cons _ _ _ _ _ (.dead _) (.cons _ _ _ _ _ (.refl _) (.cons _ _ _ _ _ (.refl _) (.cons _ _ _ _ _ (.dead _) (.cons _ _ _ _ _ (.dead _) .nil)))))))) (OLe.refl _)).trans (cmpS_ok rfl)) ⟨n, Nat.lt_succ_self n, _, h81, rfl⟩
      · refine W_sound tab_ok mixed 7 _ _ _ ?_
        simp -implicitDefEqProofs only [go_sem, ne_eq, not_false_eq_true, Nat.reduceBEq, Nat.reduceAdd, Nat.reduceSub, Nat.reduceMul, Nat.reduceLT, Nat.reduceLeDiff, Int.reduceLE, Int.reduceLT, Int.reduceToNat, Int.reduceBEq, Int.reduceBNe, Int.le_refl, Nat.le_refl, decide_true, decide_false, Int.cast_ofNat_Int, ↓reduceIte, h60, h64]
        repeat with_reducible refine And.intro (by first | kernel_rfl | decide) ?_
        obtain rfl := Option.some.inj h81
        exact cutQ _ ((Wk_le (.cons _ _ _ _ _ (.dead _) (.cons _ _ _ _ _ (.dead _) (.cons _ _ _ _ _ (.refl _) (.cons _ _ _ _ _ (.refl _) (.cons _ _ _ _ _ (.dead _) (.cons _ _ _ _ _ (.dead _) (.cons _ _ _ _ _ (.dead _) (.cons _ _ _ _ _ (.refl _) .nil)))))))) (OLe.refl _)).trans (cmpS_ok rfl)) ⟨rfl, rfl⟩
  · rintro _ ⟨rfl, rfl⟩
    (try dsimp only at h82)
    refine W_sound tab_ok mixed 6 _ _ _ ?_
    simp -implicitDefEqProofs only [go_sem, ne_eq, not_false_eq_true, Nat.reduceBEq, Nat.reduceAdd, Nat.reduceSub, Nat.reduceMul, Nat.reduceLT, Nat.reduceLeDiff, Int.reduceLE, Int.reduceLT, Int.reduceToNat, Int.reduceBEq, Int.reduceBNe, Int.le_refl, Nat.le_refl, decide_true, decide_false, Int.cast_ofNat_Int, ↓reduceIte, h60]
    repeat with_reducible refine And.intro (by first | kernel_rfl | decide) ?_
    obtain rfl := Option.some.inj h82
    exact finC [(4, .v (.int .i64 (-1)))] [(4, .v (.int .i64 (-1)))] (by simp [leE, lk_cons]) (.cons _ _ _ _ _ (.v _ _ (.refl _)) .nil) (by rfl) (by simp [leE, lk_cons]) (by decide) (by decide) rfl (by simp only [go_sem, ne_eq, not_false_eq_true, Nat.reduceBEq, Nat.reduceAdd, Nat.reduceSub, Nat.reduceMul, Nat.reduceLT, Nat.reduceLeDiff, Int.reduceLE, Int.reduceLT, Int.reduceToNat, Int.reduceBEq, Int.reduceBNe, Int.le_refl, Nat.le_refl, decide_true, decide_false, Int.cast_ofNat_Int, ↓reduceIte, resQ_tmp, resQ_cell, resQ_nil, retD_one, retD_two, retD_three, retD_none]; try simp [R.val, retD_one, retD_two, retD_three, retD_none])

def m92 (N : Nat) (p51 : PV) (x52 : Int) (x53 : Int) : Option (PV) :=
  getL p51 fun n55 c56 =>
  bnd' (m103 N (.lst false n55 c56) x52 x53) fun p83 =>
  getI .i64 p83 fun x86 =>
  some (.bool (decide (x86 ≥ 0)))
theorem c92 (N : Nat) (p51 : PV) (x52 : Int) (x53 : Int) (r : PV)  (h : m92 N p51 x52 x53 = some r) : FnP Try.prog 92 [p51, (.fn 93 [(.ipt [(.int .i64 x52)]), (.ipt [(.int .i64 x53)])])] r := by
  unfold m92 at h
  refine Fn_of (sz := 9) tab_ok [0, 1, 4] [.tmp 4] Try.func92 rfl rfl rfl (by simp) ?_
  simp only [initSt, initEnv, List.map_cons, List.map_nil, List.getD_cons_zero, List.getD_cons_succ, List.getD_nil]
  have hh := getL_some h; clear h; obtain ⟨n55, c56, h54, h⟩ := hh
  have hh := bnd'_some h; clear h; obtain ⟨p83, h84, h⟩ := hh
  refine W_sound tab_ok mixed 8 _ _ _ ?_
  simp -implicitDefEqProofs only [go_sem, ne_eq, not_false_eq_true, Nat.reduceBEq, Nat.reduceAdd, Nat.reduceSub, Nat.reduceMul, Nat.reduceLT, Nat.reduceLeDiff, Int.reduceLE, Int.reduceLT, Int.reduceToNat, Int.reduceBEq, Int.reduceBNe, Int.le_refl, Nat.le_refl, decide_true, decide_false, Int.cast_ofNat_Int, ↓reduceIte, h54]
  repeat with_reducible refine And.intro (by first | kernel_rfl | decide) ?_
  refine Wp_callP (c103 N _ _ _ _ h84) (by kernel_rfl) rfl rfl rfl rfl (by decide) ?_
  have hh := getI_some h; clear h; obtain ⟨x86, h85, h⟩ := hh
  refine W_sound tab_ok mixed 5 _ _ _ ?_
  simp -implicitDefEqProofs only [go_sem, ne_eq, not_false_eq_true, Nat.reduceBEq, Nat.reduceAdd, Nat.reduceSub, Nat.reduceMul, Nat.reduceLT, Nat.reduceLeDiff, Int.reduceLE, Int.reduceLT, Int.reduceToNat, Int.reduceBEq, Int.reduceBNe, Int.le_refl, Nat.le_refl, decide_true, decide_false, Int.cast_ofNat_Int, ↓reduceIte, h54, h85]
  repeat with_reducible refine And.intro (by first | kernel_rfl | decide) ?_
  obtain rfl := Option.some.inj h
  exact finC [(4, .v (.bool (decide (x86 ≥ 0))))] [(4, .v (.bool (decide (x86 ≥ 0))))] (by simp [leE, lk_cons]) (.cons _ _ _ _ _ (.v _ _ (.refl _)) .nil) (by rfl) (by simp [leE, lk_cons]) (by decide) (by decide) rfl (by simp only [go_sem, ne_eq, not_false_eq_true, Nat.reduceBEq, Nat.reduceAdd, Nat.reduceSub, Nat.reduceMul, Nat.reduceLT, Nat.reduceLeDiff, Int.reduceLE, Int.reduceLT, Int.reduceToNat, Int.reduceBEq, Int.reduceBNe, Int.le_refl, Nat.le_refl, decide_true, decide_false, Int.cast_ofNat_Int, ↓reduceIte, resQ_tmp, resQ_cell, resQ_nil, retD_one, retD_two, retD_three, retD_none]; try simp [R.val, retD_one, retD_two, retD_three, retD_none])

def m68 (N : Nat) (p45 : PV) (x46 : Int) (x47 : Int) : Option (PV) :=
  getL p45 fun n49 c50 =>
  bnd' (m92 N (.lst false n49 c50) x46 x47) fun p87 =>
  getB p87 fun b90 =>
  some (.bool b90)
theorem c68 (N : Nat) (p45 : PV) (x46 : Int) (x47 : Int) (r : PV)  (h : m68 N p45 x46 x47 = some r) : FnP Try.prog 68 [p45, (.int .i64 x46), (.int .i64 x47)] r := by
  unfold m68 at h
  refine Fn_of (sz := 10) tab_ok [0, 1, 2, 4, 5, 6] [.tmp 6] Try.func68 rfl rfl rfl (by simp) ?_
  simp only [initSt, initEnv, List.map_cons, List.map_nil, List.getD_cons_zero, List.getD_cons_succ, List.getD_nil]
  have hh := getL_some h; clear h; obtain ⟨n49, c50, h48, h⟩ := hh
  refine W_sound tab_ok mixed 7 _ _ _ ?_
  simp -implicitDefEqProofs only [go_sem, ne_eq, not_false_eq_true, Nat.reduceBEq, Nat.reduceAdd, Nat.reduceSub, Nat.reduceMul, Nat.reduceLT, Nat.reduceLeDiff, Int.reduceLE, Int.reduceLT, Int.reduceToNat, Int.reduceBEq, Int.reduceBNe, Int.le_refl, Nat.le_refl, decide_true, decide_false, Int.cast_ofNat_Int, ↓reduceIte, h48]
  repeat with_reducible refine And.intro (by first | kernel_rfl | decide) ?_
  refine Wp_wkK (Wk_freeze 4 [(.int .i64 x46)] (by rfl) (by decide) (by decide)) rfl ?_
  simp -implicitDefEqProofs only [go_sem, ne_eq, not_false_eq_true, Nat.reduceBEq, Nat.reduceAdd, Nat.reduceSub, Nat.reduceMul, Nat.reduceLT, Nat.reduceLeDiff, Int.reduceLE, Int.reduceLT, Int.reduceToNat, Int.reduceBEq, Int.reduceBNe, Int.le_refl, Nat.le_refl, decide_true, decide_false, Int.cast_ofNat_Int, ↓reduceIte, h48]
  refine Wp_wkK (Wk_freeze 5 [(.int .i64 x47)] (by rfl) (by decide) (by decide)) rfl ?_
  simp -implicitDefEqProofs only [go_sem, ne_eq, not_false_eq_true, Nat.reduceBEq, Nat.reduceAdd, Nat.reduceSub, Nat.reduceMul, Nat.reduceLT, Nat.reduceLeDiff, Int.reduceLE, Int.reduceLT, Int.reduceToNat, Int.reduceBEq, Int.reduceBNe, Int.le_refl, Nat.le_refl, decide_true, decide_false, Int.cast_ofNat_Int, ↓reduceIte, h48]
  have hh := bnd'_some h; clear h; obtain ⟨p87, h88, h⟩ := hh
  refine W_sound tab_ok mixed 3 _ _ _ ?_
  simp -implicitDefEqProofs only [go_sem, ne_eq, not_false_eq_true, Nat.reduceBEq, Nat.reduceAdd, Nat.reduceSub, Nat.reduceMul, Nat.reduceLT, Nat.reduceLeDiff, Int.reduceLE, Int.reduceLT, Int.reduceToNat, Int.reduceBEq, Int.reduceBNe, Int.le_refl, Nat.le_refl, decide_true, decide_false, Int.cast_ofNat_Int, ↓reduceIte, h48]
  repeat with_reducible refine And.intro (by first | kernel_rfl | decide) ?_
  refine Wp_callP (c92 N _ _ _ _ h88) (by kernel_rfl) rfl rfl rfl rfl (by decide) ?_
  have hh := getB_some h; clear h; obtain ⟨b90, h89, h⟩ := hh
  refine W_sound tab_ok mixed 4 _ _ _ ?_
  simp -implicitDefEqProofs only [go_sem, ne_eq, not_false_eq_true, Nat.reduceBEq, Nat.reduceAdd, Nat.reduceSub, Nat.reduceMul, Nat.reduceLT, Nat.reduceLeDiff, Int.reduceLE, Int.reduceLT, Int.reduceToNat, Int.reduceBEq, Int.reduceBNe, Int.le_refl, Nat.le_refl, decide_true, decide_false, Int.cast_ofNat_Int, ↓reduceIte, h48, h89]
  repeat with_reducible refine And.intro (by first | kernel_rfl | decide) ?_
  obtain rfl := Option.some.inj h
  exact finC [(6, .v (.bool b90))] [(6, .v (.bool b90))] (by simp [leE, lk_cons]) (.cons _ _ _ _ _ (.v _ _ (.refl _)) .nil) (by rfl) (by simp [leE, lk_cons]) (by decide) (by decide) rfl (by simp only [go_sem, ne_eq, not_false_eq_true, Nat.reduceBEq, Nat.reduceAdd, Nat.reduceSub, Nat.reduceMul, Nat.reduceLT, Nat.reduceLeDiff, Int.reduceLE, Int.reduceLT, Int.reduceToNat, Int.reduceBEq, Int.reduceBNe, Int.le_refl, Nat.le_refl, decide_true, decide_false, Int.cast_ofNat_Int, ↓reduceIte, resQ_tmp, resQ_cell, resQ_nil, retD_one, retD_two, retD_three, retD_none]; try simp [R.val, retD_one, retD_two, retD_three, retD_none])

def m23_L0 (N : Nat) (n25 : Nat) (c26 : List PV) (n31 : Nat) : Nat → Int → Option ((PV ⊕ Unit))
  | 0, _ => none
  | n + 1, x36 =>
    brn (decide (x36 < ((n25 : Nat) : Int))) (
      grd (0 ≤ x36 ∧ x36 < ((n25 : Nat) : Int)) <|
      grd (0 < List.length (List.drop (Int.toNat x36) c26)) <|
      getL (gp c26 (Int.toNat x36)) fun n42 c43 =>
      brn (((n42 : Nat) : Int) != ((n31 : Nat) : Int)) (
        some (.inl (.int .i64 5))) (
        bnd' (m68 N (.lst false n42 c43) 0 20) fun p91 =>
        getB p91 fun b94 =>
        brn b94 (
          some (.inl (.int .i64 1))) (
          m23_L0 N n25 c26 n31 n (IntKind.i64.wrap (x36 + 1))))) (
      some (.inr ()))
def m23 (N : Nat) (p23 : PV) : Option (PV) :=
  getL p23 fun n25 c26 =>
  brn (((n25 : Nat) : Int) == 0) (
    some (.int .i64 4)) (
    grd (0 < ((n25 : Nat) : Int)) <|
    grd (0 < List.length c26) <|
    getL (gp c26 0) fun n31 c32 =>
    brn (((n31 : Nat) : Int) == 0) (
      some (.int .i64 4)) (
      brn (decide (((n25 : Nat) : Int) > 3)) (
        some (.int .i64 3)) (
        brn (decide (((n31 : Nat) : Int) > 4)) (
          some (.int .i64 3)) (
          bnd' (m23_L0 N n25 c26 n31 N 0) fun o =>
          match o with
          | .inl p96 =>
            some p96
          | .inr () =>
            some (.int .i64 0)))))
theorem c23 (N : Nat) (p23 : PV) (r : PV)  (h : m23 N p23 = some r) : FnP Try.prog 23 [p23] r := by
  unfold m23 at h
  refine Fn_of (sz := 45) tab_ok [0, 2, 4, 5, 16, 27, 28, 29, 30, 33, 41] [.tmp 2] Try.func23 rfl rfl rfl (by simp) ?_
  simp only [initSt, initEnv, List.map_cons, List.map_nil, List.getD_cons_zero, List.getD_cons_succ, List.getD_nil]
  have hh := getL_some h; clear h; obtain ⟨n25, c26, h24, h⟩ := hh
  have hh := brn_some h; clear h; rcases hh with ⟨h27, h⟩ | ⟨h27, h⟩
  · refine W_sound tab_ok mixed 27 _ _ _ ?_
    simp -implicitDefEqProofs only [go_sem, ne_eq, not_false_eq_true, Nat.reduceBEq, Nat.reduceAdd, Nat.reduceSub, Nat.reduceMul, Nat.reduceLT, Nat.reduceLeDiff, Int.reduceLE, Int.reduceLT, Int.reduceToNat, Int.reduceBEq, Int.reduceBNe, Int.le_refl, Nat.le_refl, decide_true, decide_false, Int.cast_ofNat_Int, ↓reduceIte, h24, h27]
    repeat with_reducible refine And.intro (by first | kernel_rfl | decide) ?_
    obtain rfl := Option.some.inj h
    exact finC [(2, .v (.int .i64 4))] [(2, .v (.int .i64 4))] (by simp [leE, lk_cons]) (.cons _ _ _ _ _ (.v _ _ (.refl _)) .nil) (by rfl) (by simp [leE, lk_cons]) (by decide) (by decide) rfl (by simp only [go_sem, ne_eq, not_false_eq_true, Nat.reduceBEq, Nat.reduceAdd, Nat.reduceSub, Nat.reduceMul, Nat.reduceLT, Nat.reduceLeDiff, Int.reduceLE, Int.reduceLT, Int.reduceToNat, Int.reduceBEq, Int.reduceBNe, Int.le_refl, Nat.le_refl, decide_true, decide_false, Int.cast_ofNat_Int, ↓reduceIte, resQ_tmp, resQ_cell, resQ_nil, retD_one, retD_two, retD_three, retD_none]; try simp [R.val, retD_one, retD_two, retD_three, retD_none])
  · have hh := grd_some h; clear h; obtain ⟨g28, h⟩ := hh
    have hh := grd_some h; clear h; obtain ⟨g29, h⟩ := hh
    have hh := getL_some h; clear h; obtain ⟨n31, c32, h30, h⟩ := hh
    have hh := brn_some h; clear h; rcases hh with ⟨h33, h⟩ | ⟨h33, h⟩
    · refine W_sound tab_ok mixed 27 _ _ _ ?_
      simp -implicitDefEqProofs only [go_sem, ne_eq, not_false_eq_true, Nat.reduceBEq, Nat.reduceAdd, Nat.reduceSub, Nat.reduceMul, Nat.reduceLT, Nat.reduceLeDiff, Int.reduceLE, Int.reduceLT, Int.reduceToNat, Int.reduceBEq, Int.reduceBNe, Int.le_refl, Nat.le_refl, decide_true, decide_false, Int.cast_ofNat_Int, ↓reduceIte, h24, h27, g28, g29, h30, h33]
      repeat with_reducible refine And.intro (by first | kernel_rfl | decide) ?_
      obtain rfl := Option.some.inj h
      exact finC [(2, .v (.int .i64 4))] [(2, .v (.int .i64 4))] (by simp [leE, lk_cons]) (.cons _ _ _ _ _ (.v _ _ (.refl _)) .nil) (by rfl) (by simp [leE, lk_cons]) (by decide) (by decide) rfl (by simp only [go_sem, ne_eq, not_false_eq_true, Nat.reduceBEq, Nat.reduceAdd, Nat.reduceSub, Nat.reduceMul, Nat.reduceLT, Nat.reduceLeDiff, Int.reduceLE, Int.reduceLT, Int.reduceToNat, Int.reduceBEq, Int.reduceBNe, Int.le_refl, Nat.le_refl, decide_true, decide_false, Int.cast_ofNat_Int, ↓reduceIte, resQ_tmp, resQ_cell, resQ_nil, retD_one, retD_two, retD_three, retD_none]; try simp [R.val, retD_one, retD_two, retD_three, retD_none])
    · have hh := brn_some h; clear h; rcases hh with ⟨h34, h⟩ | ⟨h34, h⟩
      · refine W_sound tab_ok mixed 42 _ _ _ ?_
        simp -implicitDefEqProofs only [go_sem, ne_eq, not_false_eq_true, Nat.reduceBEq, Nat.reduceAdd, Nat.reduceSub, Nat.reduceMul, Nat.reduceLT, Nat.reduceLeDiff, Int.reduceLE, Int.reduceLT, Int.reduceToNat, Int.reduceBEq, Int.reduceBNe, Int.le_refl, Nat.le_refl, decide_true, decide_false, Int.cast_ofNat_Int, ↓reduceIte, h24, h27, g28, g29, h30, h33, h34]
        repeat with_reducible refine And.intro (by first | kernel_rfl | decide) ?_
        obtain rfl := Option.some.inj h
        exact finC [(2, .v (.int .i64 3))] [(2, .v (.int .i64 3))] (by simp [leE, lk_cons]) (.cons _ _ _ _ _ (.v _ _ (.refl _)) .nil) (by rfl) (by simp [leE, lk_cons]) (by decide) (by decide) rfl (by simp only [go_sem, ne_eq, not_false_eq_true, Nat.reduceBEq, Nat.reduceAdd, Nat.reduceSub, Nat.reduceMul, Nat.reduceLT, Nat.reduceLeDiff, Int.reduceLE, Int.reduceLT, Int.reduceToNat, Int.reduceBEq, Int.reduceBNe, Int.le_refl, Nat.le_refl, decide_true, decide_false, Int.cast_ofNat_Int, ↓reduceIte, resQ_tmp, resQ_cell, resQ_nil, retD_one, retD_two, retD_three, retD_none]; try simp [R.val, retD_one, retD_two, retD_three, retD_none])
      · have hh := brn_some h; clear h; rcases hh with ⟨h35, h⟩ | ⟨h35, h⟩
        · refine W_sound tab_ok mixed 42 _ _ _ ?_
          simp -implicitDefEqProofs only [go_sem, ne_eq, not_false_eq_true, Nat.reduceBEq, Nat.reduceAdd, Nat.reduceSub, Nat.reduceMul, Nat.reduceLT, Nat.reduceLeDiff, Int.reduceLE, Int.reduceLT, Int.reduceToNat, Int.reduceBEq, Int.reduceBNe, Int.le_refl, Nat.le_refl, decide_true, decide_false, Int.cast_ofNat_Int, ↓reduceIte, h24, h27, g28, g29, h30, h33, h34, h35]
          repeat with_reducible refine And.intro (by first | kernel_rfl | decide) ?_
          obtain rfl := Option.some.inj h
          exact finC [(2, .v (.int .i64 3))] [(2, .v (.int .i64 3))] (by simp [leE, lk_cons]) (.cons _ _ _ _ _ (.v _ _ (.refl _)) .nil) (by rfl) (by simp [leE, lk_cons]) (by decide) (by decide) rfl (by simp only [go_sem, ne_eq, not_false_eq_true, Nat.reduceBEq, Nat.reduceAdd, Nat.reduceSub, Nat.reduceMul, Nat.reduceLT, Nat.reduceLeDiff, Int.reduceLE, Int.reduceLT, Int.reduceToNat, Int.reduceBEq, Int.reduceBNe, Int.le_refl, Nat.le_refl, decide_true, decide_false, Int.cast_ofNat_Int, ↓reduceIte, resQ_tmp, resQ_cell, resQ_nil, retD_one, retD_two, retD_three, retD_none]; try simp [R.val, retD_one, retD_two, retD_three, retD_none])
        · refine W_sound tab_ok mixed 45 _ _ _ ?_
          simp -implicitDefEqProofs only [go_sem, ne_eq, not_false_eq_true, Nat.reduceBEq, Nat.reduceAdd, Nat.reduceSub, Nat.reduceMul, Nat.reduceLT, Nat.reduceLeDiff, Int.reduceLE, Int.reduceLT, Int.reduceToNat, Int.reduceBEq, Int.reduceBNe, Int.le_refl, Nat.le_refl, decide_true, decide_false, Int.cast_ofNat_Int, ↓reduceIte, h24, h27, g28, g29, h30, h33, h34, h35]
          repeat with_reducible refine And.intro (by first | kernel_rfl | decide) ?_
          have hh := bnd'_some h; clear h; obtain ⟨o97, h98, h99⟩ := hh
          refine Wp_cut (fun s => (.inr ()) = o97 ∧ s = ⟨[], [(0, .dead), (2, .dead), (4, .dead), (5, .dead), (16, .dead), (27, .dead), (28, .dead), (29, .dead), (30, .dead), (33, .dead), (41, .dead)], [], 0, []⟩) ?_ ?_
          · refine Wp_block ?_
            refine Wp_loopG (fun n s => ∃ x36, m23_L0 N n25 c26 n31 n x36 = some o97 ∧ s = ⟨[], [(0, .v (.lst false n25 c26)), (2, .dead), (4, .dead), (5, .dead), (16, .dead), (27, .v (.lst false n25 c26)), (28, .v (.int .i64 ((n25 : Nat) : Int))), (29, .v (.int .i64 x36)), (30, .dead), (33, .dead), (41, .dead)], [], 0, []⟩) N _ ((Wk_le (.cons _ _ _ _ _ (.refl _) (.cons _ _ _ _ _ (.dead _) (.cons _ _ _ _ _ (.refl _) (.cons _ _ _ _ _ (.dead _) (.cons _ _ _ _ _ (.dead _) (.cons _ _ _ _ _ (.refl _) (.cons _ _ _ _ _ (.refl _) (.cons _ _ _ _ _ (.refl _) (.cons _ _ _ _ _ (.refl _) (.cons _ _ _ _ _ (.refl _) (.cons _ _ _ _ _ (.refl _) .nil))))))))))) (OLe.refl _)).trans (cmpS_ok (st' := ⟨[], [(0, .v (.lst false n25 c26)), (2, .dead), (4, .dead), (5, .dead), (16, .dead), (27, .v (.lst false n25 c26)), (28, .v (.int .i64 ((n25 : Nat) : Int))), (29, .v (.int .i64 0)), (30, .dead), (33, .dead), (41, .dead)], [], 0, []⟩) (by kernel_rfl))) ⟨_, h98, rfl⟩ ?_
            clear h98
            rintro n _ ⟨x36, h98, rfl⟩
            cases n with
            | zero => cases h98
            | succ n =>
              rw [m23_L0] at h98
              have hh := brn_some h98; clear h98; rcases hh with ⟨h37, h98⟩ | ⟨h37, h98⟩
              · have hh := grd_some h98; clear h98; obtain ⟨⟨g38, g39⟩, h98⟩ := hh
                have hh := grd_some h98; clear h98; obtain ⟨g40, h98⟩ := hh
                have hh := getL_some h98; clear h98; obtain ⟨n42, c43, h41, h98⟩ := hh
                have hh := brn_some h98; clear h98; rcases hh with ⟨h44, h98⟩ | ⟨h44, h98⟩
                · refine W_sound tab_ok mixed 34 _ _ _ ?_
                  simp -implicitDefEqProofs only [go_sem, ne_eq, not_false_eq_true, Nat.reduceBEq, Nat.reduceAdd, Nat.reduceSub, Nat.reduceMul, Nat.reduceLT, Nat.reduceLeDiff, Int.reduceLE, Int.reduceLT, Int.reduceToNat, Int.reduceBEq, Int.reduceBNe, Int.le_refl, Nat.le_refl, decide_true, decide_false, Int.cast_ofNat_Int, ↓reduceIte, h24, h27, g28, g29, h30, h33, h34, h35, h37, g38, g39, g40, h41, h44]
                  repeat with_reducible refine And.intro (by first | kernel_rfl | decide) ?_
                  obtain rfl := Option.some.inj h98
                  (try dsimp only at h99)
                  obtain rfl := Option.some.inj h99
                  exact finC [(2, .v (.int .i64 5))] [(2, .v (.int .i64 5))] (by simp [leE, lk_cons]) (.cons _ _ _ _ _ (.v _ _ (.refl _)) .nil) (by rfl) (by simp [leE, lk_cons]) (by decide) (by decide) rfl (by simp only [go_sem, ne_eq, not_false_eq_true, Nat.reduceBEq, Nat.reduceAdd, Nat.reduceSub, Nat.reduceMul, Nat.reduceLT, Nat.reduceLeDiff, Int.reduceLE, Int.reduceLT, Int.reduceToNat, Int.reduceBEq, Int.reduceBNe, Int.le_refl, Nat.le_refl, decide_true, decide_false, Int.cast_ofNat_Int, ↓reduceIte, resQ_tmp, resQ_cell, resQ_nil, retD_one, retD_two, retD_three, retD_none]; try simp [R.val, retD_one, retD_two, retD_three, retD_none])
                · have hh := bnd'_some h98; clear h98; obtain ⟨p91, h92, h98⟩ := hh
                  refine W_sound tab_ok mixed 31 _ _ _ ?_
                  simp -implicitDefEqProofs only [go_sem, ne_eq, not_false_eq_true, Nat.reduceBEq, Nat.reduceAdd, Nat.reduceSub, Nat.reduceMul, Nat.reduceLT, Nat.reduceLeDiff, Int.reduceLE, Int.reduceLT, Int.reduceToNat, Int.reduceBEq, Int.reduceBNe, Int.le_refl, Nat.le_refl, decide_true, decide_false, Int.cast_ofNat_Int, ↓reduceIte, h24, h27, g28, g29, h30, h33, h34, h35, h37, g38, g39, g40, h41, h44]
                  repeat with_reducible refine And.intro (by first | kernel_rfl | decide) ?_
                  refine Wp_callP (c68 N _ _ _ _ h92) (by kernel_rfl) rfl rfl rfl rfl (by decide) ?_
                  have hh := getB_some h98; clear h98; obtain ⟨b94, h93, h98⟩ := hh
                  have hh := brn_some h98; clear h98; rcases hh with ⟨h95, h98⟩ | ⟨h95, h98⟩
                  · refine W_sound tab_ok mixed 9 _ _ _ ?_
                    simp -implicitDefEqProofs only [go_sem, ne_eq, not_false_eq_true, Nat.reduceBEq, Nat.reduceAdd, Nat.reduceSub, Nat.reduceMul, Nat.reduceLT, Nat.reduceLeDiff, Int.reduceLE, Int.reduceLT, Int.reduceToNat, Int.reduceBEq, Int.reduceBNe, Int.le_refl, Nat.le_refl, decide_true, decide_false, Int.cast_ofNat_Int, ↓reduceIte, h24, h27, g28, g29, h30, h33, h34, h35, h37, g38, g39, g40, h41, h44, h93, h95]
                    repeat with_reducible refine And.intro (by first | kernel_rfl | decide) ?_
                    obtain rfl := Option.some.inj h98
                    (try dsimp only at h99)
                    obtain rfl := Option.some.inj h99
                    exact finC [(2, .v (.int .i64 1))] [(2, .v (.int .i64 1))] (by simp [leE, lk_cons]) (.cons _ _ _ _ _ (.v _ _ (.refl _)) .nil) (by rfl) (by simp [leE, lk_cons]) (by decide) (by decide) rfl (by simp only [go_sem, ne_eq, not_false_eq_true, Nat.reduceBEq, Nat.reduceAdd, Nat.reduceSub, Nat.reduceMul, Nat.reduceLT, Nat.reduceLeDiff, Int.reduceLE, Int.reduceLT, Int.reduceToNat, Int.reduceBEq, Int.reduceBNe, Int.le_refl, Nat.le_refl, decide_true, decide_false, Int.cast_ofNat_Int, ↓reduceIte, resQ_tmp, resQ_cell, resQ_nil, retD_one, retD_two, retD_three, retD_none]; try simp [R.val, retD_one, retD_two, retD_three, retD_none])
                  · refine W_sound tab_ok mixed 10 _ _ _ ?_
                    simp -implicitDefEqProofs only [go_sem, ne_eq, not_false_eq_true, Nat.reduceBEq, Nat.reduceAdd, Nat.reduceSub, Nat.reduceMul, Nat.reduceLT, Nat.reduceLeDiff, Int.reduceLE, Int.reduceLT, Int.reduceToNat, Int.reduceBEq, Int.reduceBNe, Int.le_refl, Nat.le_refl, decide_true, decide_false, Int.cast_ofNat_Int, ↓reduceIte, h24, h27, g28, g29, h30, h33, h34, h35, h37, g38, g39, g40, h41, h44, h93, h95]
                    repeat with_reducible refine And.intro (by first | kernel_rfl | decide) ?_
                    exact cutQ _ ((Wk_le (.cons _ _ _ _ _ (.refl _) (.cons _ _ _ _ _ (.refl _) (.cons _ _ _ _ _ (.dead _) (.cons _ _ _ _ _ (.refl _) (.cons _ _ _ _ _ (.refl _) (.cons _ _ _ _ _ (.refl _) (.cons _ _ _ _ _ (.refl _) (.cons _ _ _ _ _ (.refl _) (.cons _ _ _ _ _ (.dead _) (.cons _ _ _ _ _ (.dead _) (.cons _ _ _ _ _ (.dead _) .nil))))))))))) (OLe.refl _)).trans (cmpS_ok (st' := ⟨[], [(0, .v (.lst false n25 c26)), (2, .dead), (4, .dead), (5, .dead), (16, .dead), (27, .v (.lst false n25 c26)), (28, .v (.int .i64 ((n25 : Nat) : Int))), (29, .v (.int .i64 (IntKind.i64.wrap (x36 + 1)))), (30, .dead), (33, .dead), (41, .dead)], [], 0, []⟩) (by kernel_rfl))) ⟨n, Nat.lt_succ_self n, _, h98, rfl⟩
              · refine W_sound tab_ok mixed 7 _ _ _ ?_
                simp -implicitDefEqProofs only [go_sem, ne_eq, not_false_eq_true, Nat.reduceBEq, Nat.reduceAdd, Nat.reduceSub, Nat.reduceMul, Nat.reduceLT, Nat.reduceLeDiff, Int.reduceLE, Int.reduceLT, Int.reduceToNat, Int.reduceBEq, Int.reduceBNe, Int.le_refl, Nat.le_refl, decide_true, decide_false, Int.cast_ofNat_Int, ↓reduceIte, h24, h27, g28, g29, h30, h33, h34, h35, h37]
                repeat with_reducible refine And.intro (by first | kernel_rfl | decide) ?_
                obtain rfl := Option.some.inj h98
                exact cutQ _ ((Wk_le (.cons _ _ _ _ _ (.dead _) (.cons _ _ _ _ _ (.refl _) (.cons _ _ _ _ _ (.refl _) (.cons _ _ _ _ _ (.refl _) (.cons _ _ _ _ _ (.refl _) (.cons _ _ _ _ _ (.dead _) (.cons _ _ _ _ _ (.dead _) (.cons _ _ _ _ _ (.dead _) (.cons _ _ _ _ _ (.dead _) (.cons _ _ _ _ _ (.refl _) (.cons _ _ _ _ _ (.refl _) .nil))))))))))) (OLe.refl _)).trans (cmpS_ok (st' := ⟨[], [(0, .dead), (2, .dead), (4, .dead), (5, .dead), (16, .dead), (27, .dead), (28, .dead), (29, .dead), (30, .dead), (33, .dead), (41, .dead)], [], 0, []⟩) (by kernel_rfl))) ⟨rfl, rfl⟩
          · rintro _ ⟨rfl, rfl⟩
            (try dsimp only at h99)
            refine W_sound tab_ok mixed 6 _ _ _ ?_
            simp -implicitDefEqProofs only [go_sem, ne_eq, not_false_eq_true, Nat.reduceBEq, Nat.reduceAdd, Nat.reduceSub, Nat.reduceMul, Nat.reduceLT, Nat.reduceLeDiff, Int.reduceLE, Int.reduceLT, Int.reduceToNat, Int.reduceBEq, Int.reduceBNe, Int.le_refl, Nat.le_refl, decide_true, decide_false, Int.cast_ofNat_Int, ↓reduceIte, h24, h27, g28, g29, h30, h33, h34, h35]
            repeat with_reducible refine And.intro (by first | kernel_rfl | decide) ?_
            obtain rfl := Option.some.inj h99
            exact finC [(2, .v (.int .i64 0))] [(2, .v (.int .i64 0))] (by simp [leE, lk_cons]) (.cons _ _ _ _ _ (.v _ _ (.refl _)) .nil) (by rfl) (by simp [leE, lk_cons]) (by decide) (by decide) rfl (by simp only [go_sem, ne_eq, not_false_eq_true, Nat.reduceBEq, Nat.reduceAdd, Nat.reduceSub, Nat.reduceMul, Nat.reduceLT, Nat.reduceLeDiff, Int.reduceLE, Int.reduceLT, Int.reduceToNat, Int.reduceBEq, Int.reduceBNe, Int.le_refl, Nat.le_refl, decide_true, decide_false, Int.cast_ofNat_Int, ↓reduceIte, resQ_tmp, resQ_cell, resQ_nil, retD_one, retD_two, retD_three, retD_none]; try simp [R.val, retD_one, retD_two, retD_three, retD_none])

def m77_L0 (N : Nat) (x105 : Int) : Nat → Int → List PV → Option (List PV)
  | 0, _, _ => none
  | n + 1, x114, c115 =>
    brn (decide (x114 < (((Int.toNat x105) : Nat) : Int))) (
      grd (0 ≤ x114 ∧ x114 < (((Int.toNat x105) : Nat) : Int)) <|
      grd (((Int.toNat x114) + 1) ≤ List.length c115) <|
      m77_L0 N x105 n (IntKind.i64.wrap (x114 + 1)) (List.set c115 (Int.toNat x114) (.int .i64 x114))) (
      some c115)
def m77 (N : Nat) (x105 : Int) : Option (PV) :=
  grd (0 ≤ x105 ∧ x105 ≤ x105 ∧ x105 ≤ 1099511627776) <|
  bnd' (m77_L0 N x105 N 0 (List.replicate (Int.toNat x105) (.int .i64 0))) fun c120 =>
  grd (List.length c120 = (Int.toNat x105)) <|
  some (.lst false (Int.toNat x105) c120)
theorem c77 (N : Nat) (x105 : Int) (r : PV)  (h : m77 N x105 = some r) : FnP Try.prog 77 [(.int .i64 x105)] r := by
  unfold m77 at h
  refine Fn_of (sz := 18) tab_ok [0, 2, 3, 4, 8, 9, 10] [.tmp 2] Try.func77 rfl rfl rfl (by simp) ?_
  simp only [initSt, initEnv, List.map_cons, List.map_nil, List.getD_cons_zero, List.getD_cons_succ, List.getD_nil]
  have hh := grd_some h; clear h; obtain ⟨⟨g106, g107, g108⟩, h⟩ := hh
  refine W_sound tab_ok mixed 17 _ _ _ ?_
  simp -implicitDefEqProofs only [go_sem, ne_eq, not_false_eq_true, Nat.reduceBEq, Nat.reduceAdd, Nat.reduceSub, Nat.reduceMul, Nat.reduceLT, Nat.reduceLeDiff, Int.reduceLE, Int.reduceLT, Int.reduceToNat, Int.reduceBEq, Int.reduceBNe, Int.le_refl, Nat.le_refl, decide_true, decide_false, Int.cast_ofNat_Int, ↓reduceIte, g106, g107, g108]
  repeat with_reducible refine And.intro (by first | kernel_rfl | decide) ?_
  have hh := bnd'_some h; clear h; obtain ⟨o122, h123, h124⟩ := hh
  refine Wp_cut (fun s => ∃ c120, c120 = o122 ∧ s = ⟨[], [(0, .dead), (2, .dead), (3, .sl false 0 0 (Int.toNat x105) 1), (4, .dead), (8, .dead), (9, .dead), (10, .dead)], [(0, .p c120)], 1, []⟩) ?_ ?_
  · refine Wp_block ?_
    refine Wp_loopG (fun n s => ∃ x114, ∃ c115, m77_L0 N x105 n x114 c115 = some o122 ∧ s = ⟨[], [(0, .dead), (2, .dead), (3, .sl false 0 0 (Int.toNat x105) 1), (4, .dead), (8, .v (.int .i64 (((Int.toNat x105) : Nat) : Int))), (9, .v (.int .i64 x114)), (10, .dead)], [(0, .p c115)], 1, []⟩) N _ ((Wk_le (.cons _ _ _ _ _ (.dead _) (.cons _ _ _ _ _ (.dead _) (.cons _ _ _ _ _ (.refl _) (.cons _ _ _ _ _ (.refl _) (.cons _ _ _ _ _ (.refl _) (.cons _ _ _ _ _ (.refl _) (.cons _ _ _ _ _ (.refl _) .nil))))))) (OLe.refl _)).trans (cmpS_ok rfl)) ⟨_, _, h123, rfl⟩ ?_
    clear h123
    rintro n _ ⟨x114, c115, h123, rfl⟩
    cases n with
    | zero => cases h123
    | succ n =>
      rw [m77_L0] at h123
      have hh := brn_some h123; clear h123; rcases hh with ⟨h116, h123⟩ | ⟨h116, h123⟩
      · have hh := grd_some h123; clear h123; obtain ⟨⟨g117, g118⟩, h123⟩ := hh
        have hh := grd_some h123; clear h123; obtain ⟨g119, h123⟩ := hh
        refine W_sound tab_ok mixed 26 _ _ _ ?_
        simp -implicitDefEqProofs only [go_sem, ne_eq, not_false_eq_true, Nat.reduceBEq, Nat.reduceAdd, Nat.reduceSub, Nat.reduceMul, Nat.reduceLT, Nat.reduceLeDiff, Int.reduceLE, Int.reduceLT, Int.reduceToNat, Int.reduceBEq, Int.reduceBNe, Int.le_refl, Nat.le_refl, decide_true, decide_false, Int.cast_ofNat_Int, ↓reduceIte, g106, g107, g108, h116, g117, g118, g119]
        repeat with_reducible refine And.intro (by first | kernel_rfl | decide) ?_
        exact cutQ _ ((Wk_le (.cons _ _ _ _ _ (.refl _) (.cons _ _ _ _ _ (.refl _) (.cons _ _ _ _ _ (.refl _) (.cons _ _ _ _ _ (.dead _) (.cons _ _ _ _ _ (.refl _) (.cons _ _ _ _ _ (.refl _) (.cons _ _ _ _ _ (.dead _) .nil))))))) (OLe.refl _)).trans (cmpS_ok rfl)) ⟨n, Nat.lt_succ_self n, _, _, h123, rfl⟩
      · refine W_sound tab_ok mixed 7 _ _ _ ?_
        simp -implicitDefEqProofs only [go_sem, ne_eq, not_false_eq_true, Nat.reduceBEq, Nat.reduceAdd, Nat.reduceSub, Nat.reduceMul, Nat.reduceLT, Nat.reduceLeDiff, Int.reduceLE, Int.reduceLT, Int.reduceToNat, Int.reduceBEq, Int.reduceBNe, Int.le_refl, Nat.le_refl, decide_true, decide_false, Int.cast_ofNat_Int, ↓reduceIte, g106, g107, g108, h116]
        repeat with_reducible refine And.intro (by first | kernel_rfl | decide) ?_
        obtain rfl := Option.some.inj h123
        exact cutQ _ ((Wk_le (.cons _ _ _ _ _ (.refl _) (.cons _ _ _ _ _ (.refl _) (.cons _ _ _ _ _ (.refl _) (.cons _ _ _ _ _ (.refl _) (.cons _ _ _ _ _ (.dead _) (.cons _ _ _ _ _ (.dead _) (.cons _ _ _ _ _ (.dead _) .nil))))))) (OLe.refl _)).trans (cmpS_ok rfl)) ⟨_, rfl, rfl⟩
  · rintro _ ⟨c120, rfl, rfl⟩
    refine W_sound tab_ok mixed 7 _ _ _ ?_
    simp -implicitDefEqProofs only [go_sem, ne_eq, not_false_eq_true, Nat.reduceBEq, Nat.reduceAdd, Nat.reduceSub, Nat.reduceMul, Nat.reduceLT, Nat.reduceLeDiff, Int.reduceLE, Int.reduceLT, Int.reduceToNat, Int.reduceBEq, Int.reduceBNe, Int.le_refl, Nat.le_refl, decide_true, decide_false, Int.cast_ofNat_Int, ↓reduceIte, g106, g107, g108]
    repeat with_reducible refine And.intro (by first | kernel_rfl | decide) ?_
    have hh := grd_some h124; clear h124; obtain ⟨g121, h124⟩ := hh
    refine FinQ_wk (Wk_freeze 0 c120 (by rfl) (by decide) (by decide)) ?_
    simp -implicitDefEqProofs only [go_sem, ne_eq, not_false_eq_true, Nat.reduceBEq, Nat.reduceAdd, Nat.reduceSub, Nat.reduceMul, Nat.reduceLT, Nat.reduceLeDiff, Int.reduceLE, Int.reduceLT, Int.reduceToNat, Int.reduceBEq, Int.reduceBNe, Int.le_refl, Nat.le_refl, decide_true, decide_false, Int.cast_ofNat_Int, ↓reduceIte, g106, g107, g108, g121]
    obtain rfl := Option.some.inj h124
    exact finC [(2, .v (.lst false (Int.toNat x105) c120))] [(2, .v (.lst false (Int.toNat x105) c120))] (by simp [leE, lk_cons]) (.cons _ _ _ _ _ (.v _ _ (.refl _)) .nil) (by rfl) (by simp [leE, lk_cons]) (by decide) (by decide) rfl (by simp only [go_sem, ne_eq, not_false_eq_true, Nat.reduceBEq, Nat.reduceAdd, Nat.reduceSub, Nat.reduceMul, Nat.reduceLT, Nat.reduceLeDiff, Int.reduceLE, Int.reduceLT, Int.reduceToNat, Int.reduceBEq, Int.reduceBNe, Int.le_refl, Nat.le_refl, decide_true, decide_false, Int.cast_ofNat_Int, ↓reduceIte, resQ_tmp, resQ_cell, resQ_nil, retD_one, retD_two, retD_three, retD_none]; try simp [R.val, retD_one, retD_two, retD_three, retD_none])

def m76_L1 (N : Nat) (n144 : Nat) (c145 : List PV) (n147 : Nat) (c148 : List PV) (n150 : Nat) (c151 : List PV) (x152 : Int) (n163 : Nat) (c164 : List PV) (n174 : Nat) (c175 : List PV) : Nat → Int → Option ((PV ⊕ Unit))
  | 0, _ => none
  | n + 1, x176 =>
    brn (decide (x176 < ((n150 : Nat) : Int))) (
      grd (0 ≤ (IntKind.i64.wrap (x176 - 1)) ∧ (IntKind.i64.wrap (x176 - 1)) < ((n150 : Nat) : Int)) <|
      grd (0 < List.length (List.drop (Int.toNat (IntKind.i64.wrap (x176 - 1))) c151)) <|
      getI .i64 (gp c151 (Int.toNat (IntKind.i64.wrap (x176 - 1)))) fun x182 =>
      grd (0 ≤ x176 ∧ x176 < ((n150 : Nat) : Int)) <|
      grd (0 < List.length (List.drop (Int.toNat x176) c151)) <|
      getI .i64 (gp c151 (Int.toNat x176)) fun x187 =>
      grd (0 ≤ x182 ∧ x182 < ((n163 : Nat) : Int)) <|
      grd (0 < List.length (List.drop (Int.toNat x182) c164)) <|
      getI .i64 (gp c164 (Int.toNat x182)) fun x192 =>
      grd (0 ≤ x187 ∧ x187 < ((n174 : Nat) : Int)) <|
      grd (0 < List.length (List.drop (Int.toNat x187) c175)) <|
      getI .i64 (gp c175 (Int.toNat x187)) fun x197 =>
      grd (x187 < ((n163 : Nat) : Int)) <|
      grd (0 < List.length (List.drop (Int.toNat x187) c164)) <|
      getI .i64 (gp c164 (Int.toNat x187)) fun x201 =>
      grd (x182 < ((n174 : Nat) : Int)) <|
      grd (0 < List.length (List.drop (Int.toNat x182) c175)) <|
      getI .i64 (gp c175 (Int.toNat x182)) fun x205 =>
      brn (decide ((IntKind.i64.wrap (x192 + x197)) > (IntKind.i64.wrap (x201 + x205)))) (
        some (.inl (.bool false))) (
        m76_L1 N n144 c145 n147 c148 n150 c151 x152 n163 c164 n174 c175 n (IntKind.i64.wrap (x176 + 1)))) (
      some (.inr ()))
def m76_L0 (N : Nat) (n144 : Nat) (c145 : List PV) (n147 : Nat) (c148 : List PV) (n150 : Nat) (c151 : List PV) : Nat → Int → Option ((PV ⊕ Unit))
  | 0, _ => none
  | n + 1, x152 =>
    brn (decide (x152 < ((n147 : Nat) : Int))) (
      grd (0 ≤ (IntKind.i64.wrap (x152 - 1)) ∧ (IntKind.i64.wrap (x152 - 1)) < ((n147 : Nat) : Int)) <|
      grd (0 < List.length (List.drop (Int.toNat (IntKind.i64.wrap (x152 - 1))) c148)) <|
      getI .i64 (gp c148 (Int.toNat (IntKind.i64.wrap (x152 - 1)))) fun x158 =>
      grd (0 ≤ x158 ∧ x158 < ((n144 : Nat) : Int)) <|
      grd (0 < List.length (List.drop (Int.toNat x158) c145)) <|
      getL (gp c145 (Int.toNat x158)) fun n163 c164 =>
      grd (0 ≤ x152 ∧ x152 < ((n147 : Nat) : Int)) <|
      grd (0 < List.length (List.drop (Int.toNat x152) c148)) <|
      getI .i64 (gp c148 (Int.toNat x152)) fun x169 =>
      grd (0 ≤ x169 ∧ x169 < ((n144 : Nat) : Int)) <|
      grd (0 < List.length (List.drop (Int.toNat x169) c145)) <|
      getL (gp c145 (Int.toNat x169)) fun n174 c175 =>
      bnd' (m76_L1 N n144 c145 n147 c148 n150 c151 x152 n163 c164 n174 c175 N 1) fun o =>
      match o with
      | .inl p207 =>
        some (.inl p207)
      | .inr () =>
        m76_L0 N n144 c145 n147 c148 n150 c151 n (IntKind.i64.wrap (x152 + 1))) (
      some (.inr ()))
def m76 (N : Nat) (p140 : PV) (p141 : PV) (p142 : PV) : Option (PV) :=
  getL p140 fun n144 c145 =>
  getL p141 fun n147 c148 =>
  getL p142 fun n150 c151 =>
  bnd' (m76_L0 N n144 c145 n147 c148 n150 c151 N 1) fun o =>
  match o with
  | .inl p208 =>
    some p208
  | .inr () =>
    some (.bool true)
theorem c76 (N : Nat) (p140 : PV) (p141 : PV) (p142 : PV) (r : PV)  (h : m76 N p140 p141 p142 = some r) : FnP Try.prog 76 [p140, p141, p142] r := by
  unfold m76 at h
  refine Fn_of (sz := 68) tab_ok [0, 1, 2, 6, 7, 8, 9, 10, 11, 12, 16, 37, 67] [.tmp 6] Try.func76 rfl rfl rfl (by simp) ?_
  simp only [initSt, initEnv, List.map_cons, List.map_nil, List.getD_cons_zero, List.getD_cons_succ, List.getD_nil]
  have hh := getL_some h; clear h; obtain ⟨n144, c145, h143, h⟩ := hh
  have hh := getL_some h; clear h; obtain ⟨n147, c148, h146, h⟩ := hh
  have hh := getL_some h; clear h; obtain ⟨n150, c151, h149, h⟩ := hh
  refine W_sound tab_ok mixed 9 _ _ _ ?_
  simp -implicitDefEqProofs only [go_sem, ne_eq, not_false_eq_true, Nat.reduceBEq, Nat.reduceAdd, Nat.reduceSub, Nat.reduceMul, Nat.reduceLT, Nat.reduceLeDiff, Int.reduceLE, Int.reduceLT, Int.reduceToNat, Int.reduceBEq, Int.reduceBNe, Int.le_refl, Nat.le_refl, decide_true, decide_false, Int.cast_ofNat_Int, ↓reduceIte, h143, h146, h149]
  repeat with_reducible refine And.intro (by first | kernel_rfl | decide) ?_
  have hh := bnd'_some h; clear h; obtain ⟨o209, h210, h211⟩ := hh
  refine Wp_cut (fun s => (.inr ()) = o209 ∧ s = ⟨[], [(0, .dead), (1, .dead), (2, .dead), (6, .dead), (7, .dead), (8, .dead), (9, .dead), (10, .dead), (11, .dead), (12, .dead), (16, .dead), (37, .dead), (67, .dead)], [], 0, []⟩) ?_ ?_
  · refine Wp_block ?_
    refine Wp_loopG (fun n s => ∃ x152, m76_L0 N n144 c145 n147 c148 n150 c151 n x152 = some o209 ∧ s = ⟨[], [(0, .v (.lst false n144 c145)), (1, .v (.lst false n147 c148)), (2, .v (.lst false n150 c151)), (6, .dead), (7, .v (.int .i64 x152)), (8, .dead), (9, .dead), (10, .dead), (11, .dead), (12, .dead), (16, .dead), (37, .dead), (67, .dead)], [], 0, []⟩) N _ ((Wk_le (.cons _ _ _ _ _ (.refl _) (.cons _ _ _ _ _ (.refl _) (.cons _ _ _ _ _ (.refl _) (.cons _ _ _ _ _ (.dead _) (.cons _ _ _ _ _ (.refl _) (.cons _ _ _ _ _ (.refl _) (.cons _ _ _ _ _ (.refl _) (.cons _ _ _ _ _ (.refl _) (.cons _ _ _ _ _ (.refl _) (.cons _ _ _ _ _ (.refl _) (.cons _ _ _ _ _ (.refl _) (.cons _ _ _ _ _ (.refl _) (.cons _ _ _ _ _ (.refl _) .nil))))))))))))) (OLe.refl _)).trans (cmpS_ok (st' := ⟨[], [(0, .v (.lst false n144 c145)), (1, .v (.lst false n147 c148)), (2, .v (.lst false n150 c151)), (6, .dead), (7, .v (.int .i64 1)), (8, .dead), (9, .dead), (10, .dead), (11, .dead), (12, .dead), (16, .dead), (37, .dead), (67, .dead)], [], 0, []⟩) (by kernel_rfl))) ⟨_, h210, rfl⟩ ?_
    clear h210
    rintro n _ ⟨x152, h210, rfl⟩
    cases n with
    | zero => cases h210
    | succ n =>
      rw [m76_L0] at h210
      have hh := brn_some h210; clear h210; rcases hh with ⟨h153, h210⟩ | ⟨h153, h210⟩
      · have hh := grd_some h210; clear h210; obtain ⟨⟨g154, g155⟩, h210⟩ := hh
        have hh := grd_some h210; clear h210; obtain ⟨g156, h210⟩ := hh
        have hh := getI_some h210; clear h210; obtain ⟨x158, h157, h210⟩ := hh
        have hh := grd_some h210; clear h210; obtain ⟨⟨g159, g160⟩, h210⟩ := hh
        have hh := grd_some h210; clear h210; obtain ⟨g161, h210⟩ := hh
        have hh := getL_some h210; clear h210; obtain ⟨n163, c164, h162, h210⟩ := hh
        have hh := grd_some h210; clear h210; obtain ⟨⟨g165, g166⟩, h210⟩ := hh
        have hh := grd_some h210; clear h210; obtain ⟨g167, h210⟩ := hh
        have hh := getI_some h210; clear h210; obtain ⟨x169, h168, h210⟩ := hh
        have hh := grd_some h210; clear h210; obtain ⟨⟨g170, g171⟩, h210⟩ := hh
        have hh := grd_some h210; clear h210; obtain ⟨g172, h210⟩ := hh
        have hh := getL_some h210; clear h210; obtain ⟨n174, c175, h173, h210⟩ := hh
        refine W_sound tab_ok mixed 36 _ _ _ ?_
        simp -implicitDefEqProofs only [go_sem, ne_eq, not_false_eq_true, Nat.reduceBEq, Nat.reduceAdd, Nat.reduceSub, Nat.reduceMul, Nat.reduceLT, Nat.reduceLeDiff, Int.reduceLE, Int.reduceLT, Int.reduceToNat, Int.reduceBEq, Int.reduceBNe, Int.le_refl, Nat.le_refl, decide_true, decide_false, Int.cast_ofNat_Int, ↓reduceIte, h143, h146, h149, h153, g154, g155, g156, h157, g159, g160, g161, h162, g165, g166, g167, h168, g170, g171, g172, h173]
        repeat with_reducible refine And.intro (by first | kernel_rfl | decide) ?_
        have hh := bnd'_some h210; clear h210; obtain ⟨o212, h213, h214⟩ := hh
        refine Wp_cut (fun s => (.inr ()) = o212 ∧ s = ⟨[], [(0, .v (.lst false n144 c145)), (1, .v (.lst false n147 c148)), (2, .v (.lst false n150 c151)), (6, .dead), (7, .v (.int .i64 x152)), (8, .dead), (9, .dead), (10, .dead), (11, .dead), (12, .dead), (16, .dead), (37, .dead), (67, .dead)], [], 0, []⟩) ?_ ?_
        · refine Wp_block ?_
          refine Wp_loopG (fun n s => ∃ x176, m76_L1 N n144 c145 n147 c148 n150 c151 x152 n163 c164 n174 c175 n x176 = some o212 ∧ s = ⟨[], [(0, .v (.lst false n144 c145)), (1, .v (.lst false n147 c148)), (2, .v (.lst false n150 c151)), (6, .dead), (7, .v (.int .i64 x152)), (8, .v (.lst false n163 c164)), (9, .v (.lst false n174 c175)), (10, .v (.int .i64 x176)), (11, .dead), (12, .dead), (16, .dead), (37, .dead), (67, .dead)], [], 0, []⟩) N _ ((Wk_le (.cons _ _ _ _ _ (.refl _) (.cons _ _ _ _ _ (.refl _) (.cons _ _ _ _ _ (.refl _) (.cons _ _ _ _ _ (.refl _) (.cons _ _ _ _ _ (.refl _) (.cons _ _ _ _ _ (.refl _) (.cons _ _ _ _ _ (.refl _) (.cons _ _ _ _ _ (.refl _) (.cons _ _ _ _ _ (.refl _) (.cons _ _ _ _ _ (.refl _) (.cons _ _ _ _ _ (.dead _) (.cons _ _ _ _ _ (.refl _) (.cons _ _ _ _ _ (.refl _) .nil))))))))))))) (OLe.refl _)).trans (cmpS_ok (st' := ⟨[], [(0, .v (.lst false n144 c145)), (1, .v (.lst false n147 c148)), (2, .v (.lst false n150 c151)), (6, .dead), (7, .v (.int .i64 x152)), (8, .v (.lst false n163 c164)), (9, .v (.lst false n174 c175)), (10, .v (.int .i64 1)), (11, .dead), (12, .dead), (16, .dead), (37, .dead), (67, .dead)], [], 0, []⟩) (by kernel_rfl))) ⟨_, h213, rfl⟩ ?_
          clear h213
          rintro n _ ⟨x176, h213, rfl⟩
          cases n with
          | zero => cases h213
          | succ n =>
            rw [m76_L1] at h213
            have hh := brn_some h213; clear h213; rcases hh with ⟨h177, h213⟩ | ⟨h177, h213⟩
            · have hh := grd_some h213; clear h213; obtain ⟨⟨g178, g179⟩, h213⟩ := hh
              have hh := grd_some h213; clear h213; obtain ⟨g180, h213⟩ := hh
              have hh := getI_some h213; clear h213; obtain ⟨x182, h181, h213⟩ := hh
              have hh := grd_some h213; clear h213; obtain ⟨⟨g183, g184⟩, h213⟩ := hh
              have hh := grd_some h213; clear h213; obtain ⟨g185, h213⟩ := hh
              have hh := getI_some h213; clear h213; obtain ⟨x187, h186, h213⟩ := hh
              have hh := grd_some h213; clear h213; obtain ⟨⟨g188, g189⟩, h213⟩ := hh
              have hh := grd_some h213; clear h213; obtain ⟨g190, h213⟩ := hh
              have hh := getI_some h213; clear h213; obtain ⟨x192, h191, h213⟩ := hh
              have hh := grd_some h213; clear h213; obtain ⟨⟨g193, g194⟩, h213⟩ := hh
              have hh := grd_some h213; clear h213; obtain ⟨g195, h213⟩ := hh
              have hh := getI_some h213; clear h213; obtain ⟨x197, h196, h213⟩ := hh
              have hh := grd_some h213; clear h213; obtain ⟨g198, h213⟩ := hh
              have hh := grd_some h213; clear h213; obtain ⟨g199, h213⟩ := hh
              have hh := getI_some h213; clear h213; obtain ⟨x201, h200, h213⟩ := hh
              have hh := grd_some h213; clear h213; obtain ⟨g202, h213⟩ := hh
              have hh := grd_some h213; clear h213; obtain ⟨g203, h213⟩ := hh
              have hh := getI_some h213; clear h213; obtain ⟨x205, h204, h213⟩ := hh
              have hh := brn_some h213; clear h213; rcases hh with ⟨h206, h213⟩ | ⟨h206, h213⟩
              · refine W_sound tab_ok mixed 55 _ _ _ ?_
                simp -implicitDefEqProofs only [go_sem, ne_eq, not_false_eq_true, Nat.reduceBEq, Nat.reduceAdd, Nat.reduceSub, Nat.reduceMul, Nat.reduceLT, Nat.reduceLeDiff, Int.reduceLE, Int.reduceLT, Int.reduceToNat, Int.reduceBEq, Int.reduceBNe, Int.le_refl, Nat.le_refl, decide_true, decide_false, Int.cast_ofNat_Int, ↓reduceIte, h143, h146, h149, h153, g154, g155, g156, h157, g159, g160, g161, h162, g165, g166, g167, h168, g170, g171, g172, h173, h177, g178, g179, g180, h181, g183, g184, g185, h186, g188, g189, g190, h191, g193, g194, g195, h196, g198, g199, h200, g202, g203, h204, h206]
                repeat with_reducible refine And.intro (by first | kernel_rfl | decide) ?_
                obtain rfl := Option.some.inj h213
                (try dsimp only at h214)
                obtain rfl := Option.some.inj h214
                (try dsimp only at h211)
                obtain rfl := Option.some.inj h211
                exact finC [(6, .v (.bool false))] [(6, .v (.bool false))] (by simp [leE, lk_cons]) (.cons _ _ _ _ _ (.v _ _ (.refl _)) .nil) (by rfl) (by simp [leE, lk_cons]) (by decide) (by decide) rfl (by simp only [go_sem, ne_eq, not_false_eq_true, Nat.reduceBEq, Nat.reduceAdd, Nat.reduceSub, Nat.reduceMul, Nat.reduceLT, Nat.reduceLeDiff, Int.reduceLE, Int.reduceLT, Int.reduceToNat, Int.reduceBEq, Int.reduceBNe, Int.le_refl, Nat.le_refl, decide_true, decide_false, Int.cast_ofNat_Int, ↓reduceIte, resQ_tmp, resQ_cell, resQ_nil, retD_one, retD_two, retD_three, retD_none]; try simp [R.val, retD_one, retD_two, retD_three, retD_none])
              · refine W_sound tab_ok mixed 56 _ _ _ ?_
                simp -implicitDefEqProofs only [go_sem, ne_eq, not_false_eq_true, Nat.reduceBEq, Nat.reduceAdd, Nat.reduceSub, Nat.reduceMul, Nat.reduceLT, Nat.reduceLeDiff, Int.reduceLE, Int.reduceLT, Int.reduceToNat, Int.reduceBEq, Int.reduceBNe, Int.le_refl, Nat.le_refl, decide_true, decide_false, Int.cast_ofNat_Int, ↓reduceIte, h143, h146, h149, h153, g154, g155, g156, h157, g159, g160, g161, h162, g165, g166, g167, h168, g170, g171, g172, h173, h177, g178, g179, g180, h181, g183, g184, g185, h186, g188, g189, g190, h191, g193, g194, g195, h196, g198, g199, h200, g202, g203, h204, h206]
                repeat with_reducible refine And.intro (by first | kernel_rfl | decide) ?_
                exact cutQ _ ((Wk_le (.cons _ _ _ _ _ (.refl _) (.cons _ _ _ _ _ (.refl _) (.cons _ _ _ _ _ (.refl _) (.cons _ _ _ _ _ (.refl _) (.cons _ _ _ _ _ (.refl _) (.cons _ _ _ _ _ (.refl _) (.cons _ _ _ _ _ (.refl _) (.cons _ _ _ _ _ (.refl _) (.cons _ _ _ _ _ (.dead _) (.cons _ _ _ _ _ (.dead _) (.cons _ _ _ _ _ (.refl _) (.cons _ _ _ _ _ (.dead _) (.cons _ _ _ _ _ (.dead _) .nil))))))))))))) (OLe.refl _)).trans (cmpS_ok (st' := ⟨[], [(0, .v (.lst false n144 c145)), (1, .v (.lst false n147 c148)), (2, .v (.lst false n150 c151)), (6, .dead), (7, .v (.int .i64 x152)), (8, .v (.lst false n163 c164)), (9, .v (.lst false n174 c175)), (10, .v (.int .i64 (IntKind.i64.wrap (x176 + 1)))), (11, .dead), (12, .dead), (16, .dead), (37, .dead), (67, .dead)], [], 0, []⟩) (by kernel_rfl))) ⟨n, Nat.lt_succ_self n, _, h213, rfl⟩
            · refine W_sound tab_ok mixed 10 _ _ _ ?_
              simp -implicitDefEqProofs only [go_sem, ne_eq, not_false_eq_true, Nat.reduceBEq, Nat.reduceAdd, Nat.reduceSub, Nat.reduceMul, Nat.reduceLT, Nat.reduceLeDiff, Int.reduceLE, Int.reduceLT, Int.reduceToNat, Int.reduceBEq, Int.reduceBNe, Int.le_refl, Nat.le_refl, decide_true, decide_false, Int.cast_ofNat_Int, ↓reduceIte, h143, h146, h149, h153, g154, g155, g156, h157, g159, g160, g161, h162, g165, g166, g167, h168, g170, g171, g172, h173, h177]
              repeat with_reducible refine And.intro (by first | kernel_rfl | decide) ?_
              obtain rfl := Option.some.inj h213
              exact cutQ _ ((Wk_le (.cons _ _ _ _ _ (.refl _) (.cons _ _ _ _ _ (.refl _) (.cons _ _ _ _ _ (.refl _) (.cons _ _ _ _ _ (.refl _) (.cons _ _ _ _ _ (.refl _) (.cons _ _ _ _ _ (.dead _) (.cons _ _ _ _ _ (.dead _) (.cons _ _ _ _ _ (.dead _) (.cons _ _ _ _ _ (.refl _) (.cons _ _ _ _ _ (.refl _) (.cons _ _ _ _ _ (.refl _) (.cons _ _ _ _ _ (.dead _) (.cons _ _ _ _ _ (.refl _) .nil))))))))))))) (OLe.refl _)).trans (cmpS_ok (st' := ⟨[], [(0, .v (.lst false n144 c145)), (1, .v (.lst false n147 c148)), (2, .v (.lst false n150 c151)), (6, .dead), (7, .v (.int .i64 x152)), (8, .dead), (9, .dead), (10, .dead), (11, .dead), (12, .dead), (16, .dead), (37, .dead), (67, .dead)], [], 0, []⟩) (by kernel_rfl))) ⟨rfl, rfl⟩
        · rintro _ ⟨rfl, rfl⟩
          (try dsimp only at h214)
          refine W_sound tab_ok mixed 6 _ _ _ ?_
          simp -implicitDefEqProofs only [go_sem, ne_eq, not_false_eq_true, Nat.reduceBEq, Nat.reduceAdd, Nat.reduceSub, Nat.reduceMul, Nat.reduceLT, Nat.reduceLeDiff, Int.reduceLE, Int.reduceLT, Int.reduceToNat, Int.reduceBEq, Int.reduceBNe, Int.le_refl, Nat.le_refl, decide_true, decide_false, Int.cast_ofNat_Int, ↓reduceIte, h143, h146, h149, h153, g154, g155, g156, h157, g159, g160, g161, h162, g165, g166, g167, h168, g170, g171, g172, h173]
          repeat with_reducible refine And.intro (by first | kernel_rfl | decide) ?_
          exact cutQ _ ((Wk_le (.cons _ _ _ _ _ (.refl _) (.cons _ _ _ _ _ (.refl _) (.cons _ _ _ _ _ (.refl _) (.cons _ _ _ _ _ (.refl _) (.cons _ _ _ _ _ (.refl _) (.cons _ _ _ _ _ (.refl _) (.cons _ _ _ _ _ (.refl _) (.cons _ _ _ _ _ (.refl _) (.cons _ _ _ _ _ (.refl _) (.cons _ _ _ _ _ (.refl _) (.cons _ _ _ _ _ (.refl _) (.cons _ _ _ _ _ (.refl _) (.cons _ _ _ _ _ (.refl _) .nil))))))))))))) (OLe.refl _)).trans (cmpS_ok (st' := ⟨[], [(0, .v (.lst false n144 c145)), (1, .v (.lst false n147 c148)), (2, .v (.lst false n150 c151)), (6, .dead), (7, .v (.int .i64 (IntKind.i64.wrap (x152 + 1)))), (8, .dead), (9, .dead), (10, .dead), (11, .dead), (12, .dead), (16, .dead), (37, .dead), (67, .dead)], [], 0, []⟩) (by kernel_rfl))) ⟨n, Nat.lt_succ_self n, _, h214, rfl⟩
      · refine W_sound tab_ok mixed 10 _ _ _ ?_
        simp -implicitDefEqProofs only [go_sem, ne_eq, not_false_eq_true, Nat.reduceBEq, Nat.reduceAdd, Nat.reduceSub, Nat.reduceMul, Nat.reduceLT, Nat.reduceLeDiff, Int.reduceLE, Int.reduceLT, Int.reduceToNat, Int.reduceBEq, Int.reduceBNe, Int.le_refl, Nat.le_refl, decide_true, decide_false, Int.cast_ofNat_Int, ↓reduceIte, h143, h146, h149, h153]
        repeat with_reducible refine And.intro (by first | kernel_rfl | decide) ?_
        obtain rfl := Option.some.inj h210
        exact cutQ _ ((Wk_le (.cons _ _ _ _ _ (.dead _) (.cons _ _ _ _ _ (.dead _) (.cons _ _ _ _ _ (.dead _) (.cons _ _ _ _ _ (.refl _) (.cons _ _ _ _ _ (.dead _) (.cons _ _ _ _ _ (.refl _) (.cons _ _ _ _ _ (.refl _) (.cons _ _ _ _ _ (.refl _) (.cons _ _ _ _ _ (.refl _) (.cons _ _ _ _ _ (.refl _) (.cons _ _ _ _ _ (.dead _) (.cons _ _ _ _ _ (.refl _) (.cons _ _ _ _ _ (.refl _) .nil))))))))))))) (OLe.refl _)).trans (cmpS_ok (st' := ⟨[], [(0, .dead), (1, .dead), (2, .dead), (6, .dead), (7, .dead), (8, .dead), (9, .dead), (10, .dead), (11, .dead), (12, .dead), (16, .dead), (37, .dead), (67, .dead)], [], 0, []⟩) (by kernel_rfl))) ⟨rfl, rfl⟩
  · rintro _ ⟨rfl, rfl⟩
    (try dsimp only at h211)
    refine W_sound tab_ok mixed 6 _ _ _ ?_
    simp -implicitDefEqProofs only [go_sem, ne_eq, not_false_eq_true, Nat.reduceBEq, Nat.reduceAdd, Nat.reduceSub, Nat.reduceMul, Nat.reduceLT, Nat.reduceLeDiff, Int.reduceLE, Int.reduceLT, Int.reduceToNat, Int.reduceBEq, Int.reduceBNe, Int.le_refl, Nat.le_refl, decide_true, decide_false, Int.cast_ofNat_Int, ↓reduceIte, h143, h146, h149]
    repeat with_reducible refine And.intro (by first | kernel_rfl | decide) ?_
    obtain rfl := Option.some.inj h211
    exact finC [(6, .v (.bool true))] [(6, .v (.bool true))] (by simp [leE, lk_cons]) (.cons _ _ _ _ _ (.v _ _ (.refl _)) .nil) (by rfl) (by simp [leE, lk_cons]) (by decide) (by decide) rfl (by simp only [go_sem, ne_eq, not_false_eq_true, Nat.reduceBEq, Nat.reduceAdd, Nat.reduceSub, Nat.reduceMul, Nat.reduceLT, Nat.reduceLeDiff, Int.reduceLE, Int.reduceLT, Int.reduceToNat, Int.reduceBEq, Int.reduceBNe, Int.le_refl, Nat.le_refl, decide_true, decide_false, Int.cast_ofNat_Int, ↓reduceIte, resQ_tmp, resQ_cell, resQ_nil, retD_one, retD_two, retD_three, retD_none]; try simp [R.val, retD_one, retD_two, retD_three, retD_none])

def m31 (N : Nat) (p19 : PV) : Option (PV) :=
  getL p19 fun n21 c22 =>
  bnd' (m23 N (.lst false n21 c22)) fun p100 =>
  getI .i64 p100 fun x103 =>
  brn (x103 != 0) (
    some (.tup [(.bool false), (.int .i64 x103)])) (
    bnd' (m77 N ((n21 : Nat) : Int)) fun p125 =>
    getL p125 fun n128 c129 =>
    grd (0 < ((n21 : Nat) : Int)) <|
    grd (0 < List.length c22) <|
    getL (gp c22 0) fun n133 c134 =>
    bnd' (m77 N ((n133 : Nat) : Int)) fun p135 =>
    getL p135 fun n138 c139 =>
    bnd' (m76 N (.lst false n21 c22) (.lst false n128 c129) (.lst false n138 c139)) fun p215 =>
    getB p215 fun b218 =>
    some (.tup [(.bool b218), (.int .i64 0)]))
theorem c31 (N : Nat) (p19 : PV) (r : PV)  (h : m31 N p19 = some r) : FnP Try.prog 31 [p19] r := by
  unfold m31 at h
  refine Fn_of (sz := 20) tab_ok [0, 2, 3, 4, 8] [.tmp 2, .tmp 3] Try.func31 rfl rfl rfl (by simp) ?_
  simp only [initSt, initEnv, List.map_cons, List.map_nil, List.getD_cons_zero, List.getD_cons_succ, List.getD_nil]
  have hh := getL_some h; clear h; obtain ⟨n21, c22, h20, h⟩ := hh
  have hh := bnd'_some h; clear h; obtain ⟨p100, h101, h⟩ := hh
  refine W_sound tab_ok mixed 9 _ _ _ ?_
  simp -implicitDefEqProofs only [go_sem, ne_eq, not_false_eq_true, Nat.reduceBEq, Nat.reduceAdd, Nat.reduceSub, Nat.reduceMul, Nat.reduceLT, Nat.reduceLeDiff, Int.reduceLE, Int.reduceLT, Int.reduceToNat, Int.reduceBEq, Int.reduceBNe, Int.le_refl, Nat.le_refl, decide_true, decide_false, Int.cast_ofNat_Int, ↓reduceIte, h20]
  repeat with_reducible refine And.intro (by first | kernel_rfl | decide) ?_
  refine Wp_callP (c23 N _ _ h101) (by kernel_rfl) rfl rfl rfl rfl (by decide) ?_
  have hh := getI_some h; clear h; obtain ⟨x103, h102, h⟩ := hh
  have hh := brn_some h; clear h; rcases hh with ⟨h104, h⟩ | ⟨h104, h⟩
  · refine W_sound tab_ok mixed 16 _ _ _ ?_
    simp -implicitDefEqProofs only [go_sem, ne_eq, not_false_eq_true, Nat.reduceBEq, Nat.reduceAdd, Nat.reduceSub, Nat.reduceMul, Nat.reduceLT, Nat.reduceLeDiff, Int.reduceLE, Int.reduceLT, Int.reduceToNat, Int.reduceBEq, Int.reduceBNe, Int.le_refl, Nat.le_refl, decide_true, decide_false, Int.cast_ofNat_Int, ↓reduceIte, h20, h102, h104]
    repeat with_reducible refine And.intro (by first | kernel_rfl | decide) ?_
    obtain rfl := Option.some.inj h
    exact finC [(2, .v (.bool false)), (3, .v (.int .i64 x103))] [(2, .v (.bool false)), (3, .v (.int .i64 x103))] (by simp [leE, lk_cons]) (.cons _ _ _ _ _ (.v _ _ (.refl _)) (.cons _ _ _ _ _ (.v _ _ (.refl _)) .nil)) (by rfl) (by simp [leE, lk_cons]) (by decide) (by decide) rfl (by simp only [go_sem, ne_eq, not_false_eq_true, Nat.reduceBEq, Nat.reduceAdd, Nat.reduceSub, Nat.reduceMul, Nat.reduceLT, Nat.reduceLeDiff, Int.reduceLE, Int.reduceLT, Int.reduceToNat, Int.reduceBEq, Int.reduceBNe, Int.le_refl, Nat.le_refl, decide_true, decide_false, Int.cast_ofNat_Int, ↓reduceIte, resQ_tmp, resQ_cell, resQ_nil, retD_one, retD_two, retD_three, retD_none]; try simp [R.val, retD_one, retD_two, retD_three, retD_none])
  · have hh := bnd'_some h; clear h; obtain ⟨p125, h126, h⟩ := hh
    refine W_sound tab_ok mixed 14 _ _ _ ?_
    simp -implicitDefEqProofs only [go_sem, ne_eq, not_false_eq_true, Nat.reduceBEq, Nat.reduceAdd, Nat.reduceSub, Nat.reduceMul, Nat.reduceLT, Nat.reduceLeDiff, Int.reduceLE, Int.reduceLT, Int.reduceToNat, Int.reduceBEq, Int.reduceBNe, Int.le_refl, Nat.le_refl, decide_true, decide_false, Int.cast_ofNat_Int, ↓reduceIte, h20, h102, h104]
    repeat with_reducible refine And.intro (by first | kernel_rfl | decide) ?_
    refine Wp_callP (c77 N _ _ h126) (by kernel_rfl) rfl rfl rfl rfl (by decide) ?_
    have hh := getL_some h; clear h; obtain ⟨n128, c129, h127, h⟩ := hh
    have hh := grd_some h; clear h; obtain ⟨g130, h⟩ := hh
    have hh := grd_some h; clear h; obtain ⟨g131, h⟩ := hh
    have hh := getL_some h; clear h; obtain ⟨n133, c134, h132, h⟩ := hh
    have hh := bnd'_some h; clear h; obtain ⟨p135, h136, h⟩ := hh
    refine W_sound tab_ok mixed 4 _ _ _ ?_
    simp -implicitDefEqProofs only [go_sem, ne_eq, not_false_eq_true, Nat.reduceBEq, Nat.reduceAdd, Nat.reduceSub, Nat.reduceMul, Nat.reduceLT, Nat.reduceLeDiff, Int.reduceLE, Int.reduceLT, Int.reduceToNat, Int.reduceBEq, Int.reduceBNe, Int.le_refl, Nat.le_refl, decide_true, decide_false, Int.cast_ofNat_Int, ↓reduceIte, h20, h102, h104, h127, g130, g131, h132]
    repeat with_reducible refine And.intro (by first | kernel_rfl | decide) ?_
    refine Wp_callP (c77 N _ _ h136) (by kernel_rfl) rfl rfl rfl rfl (by decide) ?_
    have hh := getL_some h; clear h; obtain ⟨n138, c139, h137, h⟩ := hh
    have hh := bnd'_some h; clear h; obtain ⟨p215, h216, h⟩ := hh
    (try simp -implicitDefEqProofs only [go_sem, ne_eq, not_false_eq_true, Nat.reduceBEq, Nat.reduceAdd, Nat.reduceSub, Nat.reduceMul, Nat.reduceLT, Nat.reduceLeDiff, Int.reduceLE, Int.reduceLT, Int.reduceToNat, Int.reduceBEq, Int.reduceBNe, Int.le_refl, Nat.le_refl, decide_true, decide_false, Int.cast_ofNat_Int, ↓reduceIte, h20, h102, h104, h127, g130, g131, h132, h137])
    refine Wp_callP (c76 N _ _ _ _ h216) (by kernel_rfl) rfl rfl rfl rfl (by decide) ?_
    have hh := getB_some h; clear h; obtain ⟨b218, h217, h⟩ := hh
    refine W_sound tab_ok mixed 5 _ _ _ ?_
    simp -implicitDefEqProofs only [go_sem, ne_eq, not_false_eq_true, Nat.reduceBEq, Nat.reduceAdd, Nat.reduceSub, Nat.reduceMul, Nat.reduceLT, Nat.reduceLeDiff, Int.reduceLE, Int.reduceLT, Int.reduceToNat, Int.reduceBEq, Int.reduceBNe, Int.le_refl, Nat.le_refl, decide_true, decide_false, Int.cast_ofNat_Int, ↓reduceIte, h20, h102, h104, h127, g130, g131, h132, h137, h217]
    repeat with_reducible refine And.intro (by first | kernel_rfl | decide) ?_
    obtain rfl := Option.some.inj h
    exact finC [(2, .v (.bool b218)), (3, .v (.int .i64 0))] [(2, .v (.bool b218)), (3, .v (.int .i64 0))] (by simp [leE, lk_cons]) (.cons _ _ _ _ _ (.v _ _ (.refl _)) (.cons _ _ _ _ _ (.v _ _ (.refl _)) .nil)) (by rfl) (by simp [leE, lk_cons]) (by decide) (by decide) rfl (by simp only [go_sem, ne_eq, not_false_eq_true, Nat.reduceBEq, Nat.reduceAdd, Nat.reduceSub, Nat.reduceMul, Nat.reduceLT, Nat.reduceLeDiff, Int.reduceLE, Int.reduceLT, Int.reduceToNat, Int.reduceBEq, Int.reduceBNe, Int.le_refl, Nat.le_refl, decide_true, decide_false, Int.cast_ofNat_Int, ↓reduceIte, resQ_tmp, resQ_cell, resQ_nil, retD_one, retD_two, retD_three, retD_none]; try simp [R.val, retD_one, retD_two, retD_three, retD_none])

def m33_L3 (N : Nat) (n221 : Nat) (c222 : List PV) (x228 : Int) (x230 : Int) (n235 : Nat) (x237 : Int) : Nat → Int → Option ((PV ⊕ Unit))
  | 0, _ => none
  | n + 1, x239 =>
    brn (decide (x239 < ((n235 : Nat) : Int))) (
      bnd' (m76 N (.lst false n221 c222) (.lst false 2 [(.int .i64 x228), (.int .i64 x230)]) (.lst false 2 [(.int .i64 x237), (.int .i64 x239)])) fun p241 =>
      getB p241 fun b244 =>
      brn b244 (
        m33_L3 N n221 c222 x228 x230 n235 x237 n (IntKind.i64.wrap (x239 + 1))) (
        some (.inl (.tup [(.lst false 4 [(.int .i64 x228), (.int .i64 x230), (.int .i64 x237), (.int .i64 x239)]), (.int .i64 0)])))) (
      some (.inr ()))
def m33_L2 (N : Nat) (n221 : Nat) (c222 : List PV) (x228 : Int) (x230 : Int) (n235 : Nat) : Nat → Int → Option ((PV ⊕ Unit))
  | 0, _ => none
  | n + 1, x237 =>
    brn (decide (x237 < ((n235 : Nat) : Int))) (
      bnd' (m33_L3 N n221 c222 x228 x230 n235 x237 N (IntKind.i64.wrap (x237 + 1))) fun o =>
      match o with
      | .inl p246 =>
        some (.inl p246)
      | .inr () =>
        m33_L2 N n221 c222 x228 x230 n235 n (IntKind.i64.wrap (x237 + 1))) (
      some (.inr ()))
def m33_L1 (N : Nat) (n221 : Nat) (c222 : List PV) (x228 : Int) : Nat → Int → Option ((PV ⊕ Unit))
  | 0, _ => none
  | n + 1, x230 =>
    brn (decide (x230 < ((n221 : Nat) : Int))) (
      grd (0 < ((n221 : Nat) : Int)) <|
      grd (0 < List.length c222) <|
      getL (gp c222 0) fun n235 c236 =>
      bnd' (m33_L2 N n221 c222 x228 x230 n235 N 0) fun o =>
      match o with
      | .inl p247 =>
        some (.inl p247)
      | .inr () =>
        m33_L1 N n221 c222 x228 n (IntKind.i64.wrap (x230 + 1))) (
      some (.inr ()))
def m33_L0 (N : Nat) (n221 : Nat) (c222 : List PV) : Nat → Int → Option ((PV ⊕ Unit))
  | 0, _ => none
  | n + 1, x228 =>
    brn (decide (x228 < ((n221 : Nat) : Int))) (
      bnd' (m33_L1 N n221 c222 x228 N (IntKind.i64.wrap (x228 + 1))) fun o =>
      match o with
      | .inl p248 =>
        some (.inl p248)
      | .inr () =>
        m33_L0 N n221 c222 n (IntKind.i64.wrap (x228 + 1))) (
      some (.inr ()))
def m33 (N : Nat) (p219 : PV) : Option (PV) :=
  getL p219 fun n221 c222 =>
  bnd' (m23 N (.lst false n221 c222)) fun p223 =>
  getI .i64 p223 fun x226 =>
  brn (x226 != 0) (
    some (.tup [(.lst false 0 []), (.int .i64 x226)])) (
    bnd' (m33_L0 N n221 c222 N 0) fun o =>
    match o with
    | .inl p249 =>
      some p249
    | .inr () =>
      some (.tup [(.lst false 0 []), (.int .i64 13)]))
theorem c33 (N : Nat) (p219 : PV) (r : PV)  (h : m33 N p219 = some r) : FnP Try.prog 33 [p219] r := by
  unfold m33 at h
  refine Fn_of (sz := 60) tab_ok [0, 2, 3, 4, 5, 6, 7, 8, 12, 15, 16, 17, 24, 30, 31, 32, 41, 52] [.tmp 2, .tmp 3] Try.func33 rfl rfl rfl (by simp) ?_
  simp only [initSt, initEnv, List.map_cons, List.map_nil, List.getD_cons_zero, List.getD_cons_succ, List.getD_nil]
  have hh := getL_some h; clear h; obtain ⟨n221, c222, h220, h⟩ := hh
  have hh := bnd'_some h; clear h; obtain ⟨p223, h224, h⟩ := hh
  refine W_sound tab_ok mixed 9 _ _ _ ?_
  simp -implicitDefEqProofs only [go_sem, ne_eq, not_false_eq_true, Nat.reduceBEq, Nat.reduceAdd, Nat.reduceSub, Nat.reduceMul, Nat.reduceLT, Nat.reduceLeDiff, Int.reduceLE, Int.reduceLT, Int.reduceToNat, Int.reduceBEq, Int.reduceBNe, Int.le_refl, Nat.le_refl, decide_true, decide_false, Int.cast_ofNat_Int, ↓reduceIte, h220]
  repeat with_reducible refine And.intro (by first | kernel_rfl | decide) ?_
  refine Wp_callP (c23 N _ _ h224) (by kernel_rfl) rfl rfl rfl rfl (by decide) ?_
  have hh := getI_some h; clear h; obtain ⟨x226, h225, h⟩ := hh
  have hh := brn_some h; clear h; rcases hh with ⟨h227, h⟩ | ⟨h227, h⟩
  · refine W_sound tab_ok mixed 16 _ _ _ ?_
    simp -implicitDefEqProofs only [go_sem, ne_eq, not_false_eq_true, Nat.reduceBEq, Nat.reduceAdd, Nat.reduceSub, Nat.reduceMul, Nat.reduceLT, Nat.reduceLeDiff, Int.reduceLE, Int.reduceLT, Int.reduceToNat, Int.reduceBEq, Int.reduceBNe, Int.le_refl, Nat.le_refl, decide_true, decide_false, Int.cast_ofNat_Int, ↓reduceIte, h220, h225, h227]
    repeat with_reducible refine And.intro (by first | kernel_rfl | decide) ?_
    obtain rfl := Option.some.inj h
    exact finC [(2, .v .nl), (3, .v (.int .i64 x226))] [(2, .v (.lst false 0 [])), (3, .v (.int .i64 x226))] (by simp [leE, lk_cons]) (.cons _ _ _ _ _ (.v _ _ (.nl false)) (.cons _ _ _ _ _ (.v _ _ (.refl _)) .nil)) (by rfl) (by simp [leE, lk_cons]) (by decide) (by decide) rfl (by simp only [go_sem, ne_eq, not_false_eq_true, Nat.reduceBEq, Nat.reduceAdd, Nat.reduceSub, Nat.reduceMul, Nat.reduceLT, Nat.reduceLeDiff, Int.reduceLE, Int.reduceLT, Int.reduceToNat, Int.reduceBEq, Int.reduceBNe, Int.le_refl, Nat.le_refl, decide_true, decide_false, Int.cast_ofNat_Int, ↓reduceIte, resQ_tmp, resQ_cell, resQ_nil, retD_one, retD_two, retD_three, retD_none]; try simp [R.val, retD_one, retD_two, retD_three, retD_none])
  · refine W_sound tab_ok mixed 16 _ _ _ ?_
    simp -implicitDefEqProofs only [go_sem, ne_eq, not_false_eq_true, Nat.reduceBEq, Nat.reduceAdd, Nat.reduceSub, Nat.reduceMul, Nat.reduceLT, Nat.reduceLeDiff, Int.reduceLE, Int.reduceLT, Int.reduceToNat, Int.reduceBEq, Int.reduceBNe, Int.le_refl, Nat.le_refl, decide_true, decide_false, Int.cast_ofNat_Int, ↓reduceIte, h220, h225, h227]
    repeat with_reducible refine And.intro (by first | kernel_rfl | decide) ?_
    have hh := bnd'_some h; clear h; obtain ⟨o250, h251, h252⟩ := hh
    refine Wp_cut (fun s => (.inr ()) = o250 ∧ s = ⟨[], [(0, .dead), (2, .dead), (3, .dead), (4, .dead), (5, .dead), (6, .dead), (7, .dead), (8, .dead), (12, .dead), (15, .dead), (16, .dead), (17, .dead), (24, .dead), (30, .dead), (31, .dead), (32, .dead), (41, .dead), (52, .dead)], [], 0, []⟩) ?_ ?_
    · refine Wp_block ?_
      refine Wp_loopG (fun n s => ∃ x228, m33_L0 N n221 c222 n x228 = some o250 ∧ s = ⟨[], [(0, .v (.lst false n221 c222)), (2, .dead), (3, .dead), (4, .dead), (5, .dead), (6, .dead), (7, .dead), (8, .dead), (12, .dead), (15, .v (.int .i64 ((n221 : Nat) : Int))), (16, .v (.int .i64 x228)), (17, .dead), (24, .dead), (30, .dead), (31, .dead), (32, .dead), (41, .dead), (52, .dead)], [], 0, []⟩) N _ ((Wk_le (.cons _ _ _ _ _ (.refl _) (.cons _ _ _ _ _ (.dead _) (.cons _ _ _ _ _ (.dead _) (.cons _ _ _ _ _ (.dead _) (.cons _ _ _ _ _ (.refl _) (.cons _ _ _ _ _ (.refl _) (.cons _ _ _ _ _ (.refl _) (.cons _ _ _ _ _ (.refl _) (.cons _ _ _ _ _ (.dead _) (.cons _ _ _ _ _ (.refl _) (.cons _ _ _ _ _ (.refl _) (.cons _ _ _ _ _ (.refl _) (.cons _ _ _ _ _ (.refl _) (.cons _ _ _ _ _ (.refl _) (.cons _ _ _ _ _ (.refl _) (.cons _ _ _ _ _ (.refl _) (.cons _ _ _ _ _ (.refl _) (.cons _ _ _ _ _ (.refl _) .nil)))))))))))))))))) (OLe.refl _)).trans (cmpS_ok (st' := ⟨[], [(0, .v (.lst false n221 c222)), (2, .dead), (3, .dead), (4, .dead), (5, .dead), (6, .dead), (7, .dead), (8, .dead), (12, .dead), (15, .v (.int .i64 ((n221 : Nat) : Int))), (16, .v (.int .i64 0)), (17, .dead), (24, .dead), (30, .dead), (31, .dead), (32, .dead), (41, .dead), (52, .dead)], [], 0, []⟩) (by kernel_rfl))) ⟨_, h251, rfl⟩ ?_
      clear h251
      rintro n _ ⟨x228, h251, rfl⟩
      cases n with
      | zero => cases h251
      | succ n =>
        rw [m33_L0] at h251
        have hh := brn_some h251; clear h251; rcases hh with ⟨h229, h251⟩ | ⟨h229, h251⟩
        · refine W_sound tab_ok mixed 20 _ _ _ ?_
          simp -implicitDefEqProofs only [go_sem, ne_eq, not_false_eq_true, Nat.reduceBEq, Nat.reduceAdd, Nat.reduceSub, Nat.reduceMul, Nat.reduceLT, Nat.reduceLeDiff, Int.reduceLE, Int.reduceLT, Int.reduceToNat, Int.reduceBEq, Int.reduceBNe, Int.le_refl, Nat.le_refl, decide_true, decide_false, Int.cast_ofNat_Int, ↓reduceIte, h220, h225, h227, h229]
          repeat with_reducible refine And.intro (by first | kernel_rfl | decide) ?_
          have hh := bnd'_some h251; clear h251; obtain ⟨o253, h254, h255⟩ := hh
          refine Wp_cut (fun s => (.inr ()) = o253 ∧ s = ⟨[], [(0, .v (.lst false n221 c222)), (2, .dead), (3, .dead), (4, .dead), (5, .dead), (6, .dead), (7, .dead), (8, .dead), (12, .dead), (15, .v (.int .i64 ((n221 : Nat) : Int))), (16, .v (.int .i64 x228)), (17, .dead), (24, .dead), (30, .dead), (31, .dead), (32, .dead), (41, .dead), (52, .dead)], [], 0, []⟩) ?_ ?_
          · refine Wp_block ?_
            refine Wp_loopG (fun n s => ∃ x230, m33_L1 N n221 c222 x228 n x230 = some o253 ∧ s = ⟨[], [(0, .v (.lst false n221 c222)), (2, .dead), (3, .dead), (4, .dead), (5, .v (.int .i64 x228)), (6, .v (.int .i64 x230)), (7, .dead), (8, .dead), (12, .dead), (15, .v (.int .i64 ((n221 : Nat) : Int))), (16, .v (.int .i64 x228)), (17, .dead), (24, .dead), (30, .dead), (31, .dead), (32, .dead), (41, .dead), (52, .dead)], [], 0, []⟩) N _ ((Wk_le (.cons _ _ _ _ _ (.refl _) (.cons _ _ _ _ _ (.refl _) (.cons _ _ _ _ _ (.refl _) (.cons _ _ _ _ _ (.refl _) (.cons _ _ _ _ _ (.refl _) (.cons _ _ _ _ _ (.refl _) (.cons _ _ _ _ _ (.refl _) (.cons _ _ _ _ _ (.refl _) (.cons _ _ _ _ _ (.refl _) (.cons _ _ _ _ _ (.refl _) (.cons _ _ _ _ _ (.refl _) (.cons _ _ _ _ _ (.dead _) (.cons _ _ _ _ _ (.refl _) (.cons _ _ _ _ _ (.refl _) (.cons _ _ _ _ _ (.refl _) (.cons _ _ _ _ _ (.refl _) (.cons _ _ _ _ _ (.refl _) (.cons _ _ _ _ _ (.refl _) .nil)))))))))))))))))) (OLe.refl _)).trans (cmpS_ok (st' := ⟨[], [(0, .v (.lst false n221 c222)), (2, .dead), (3, .dead), (4, .dead), (5, .v (.int .i64 x228)), (6, .v (.int .i64 (IntKind.i64.wrap (x228 + 1)))), (7, .dead), (8, .dead), (12, .dead), (15, .v (.int .i64 ((n221 : Nat) : Int))), (16, .v (.int .i64 x228)), (17, .dead), (24, .dead), (30, .dead), (31, .dead), (32, .dead), (41, .dead), (52, .dead)], [], 0, []⟩) (by kernel_rfl))) ⟨_, h254, rfl⟩ ?_
            clear h254
            rintro n _ ⟨x230, h254, rfl⟩
            cases n with
            | zero => cases h254
            | succ n =>
              rw [m33_L1] at h254
              have hh := brn_some h254; clear h254; rcases hh with ⟨h231, h254⟩ | ⟨h231, h254⟩
              · have hh := grd_some h254; clear h254; obtain ⟨g232, h254⟩ := hh
                have hh := grd_some h254; clear h254; obtain ⟨g233, h254⟩ := hh
                have hh := getL_some h254; clear h254; obtain ⟨n235, c236, h234, h254⟩ := hh
                refine W_sound tab_ok mixed 20 _ _ _ ?_
                simp -implicitDefEqProofs only [go_sem, ne_eq, not_false_eq_true, Nat.reduceBEq, Nat.reduceAdd, Nat.reduceSub, Nat.reduceMul, Nat.reduceLT, Nat.reduceLeDiff, Int.reduceLE, Int.reduceLT, Int.reduceToNat, Int.reduceBEq, Int.reduceBNe, Int.le_refl, Nat.le_refl, decide_true, decide_false, Int.cast_ofNat_Int, ↓reduceIte, h220, h225, h227, h229, h231, g232, g233, h234]
                repeat with_reducible refine And.intro (by first | kernel_rfl | decide) ?_
                have hh := bnd'_some h254; clear h254; obtain ⟨o256, h257, h258⟩ := hh
                refine Wp_cut (fun s => (.inr ()) = o256 ∧ s = ⟨[], [(0, .v (.lst false n221 c222)), (2, .dead), (3, .dead), (4, .dead), (5, .v (.int .i64 x228)), (6, .v (.int .i64 x230)), (7, .dead), (8, .dead), (12, .dead), (15, .v (.int .i64 ((n221 : Nat) : Int))), (16, .v (.int .i64 x228)), (17, .dead), (24, .dead), (30, .dead), (31, .dead), (32, .dead), (41, .dead), (52, .dead)], [], 0, []⟩) ?_ ?_
                · refine Wp_block ?_
                  refine Wp_loopG (fun n s => ∃ x237, m33_L2 N n221 c222 x228 x230 n235 n x237 = some o256 ∧ s = ⟨[], [(0, .v (.lst false n221 c222)), (2, .dead), (3, .dead), (4, .dead), (5, .v (.int .i64 x228)), (6, .v (.int .i64 x230)), (7, .dead), (8, .dead), (12, .dead), (15, .v (.int .i64 ((n221 : Nat) : Int))), (16, .v (.int .i64 x228)), (17, .dead), (24, .dead), (30, .v (.int .i64 ((n235 : Nat) : Int))), (31, .v (.int .i64 x237)), (32, .dead), (41, .dead), (52, .dead)], [], 0, []⟩) N _ ((Wk_le (.cons _ _ _ _ _ (.refl _) (.cons _ _ _ _ _ (.refl _) (.cons _ _ _ _ _ (.refl _) (.cons _ _ _ _ _ (.refl _) (.cons _ _ _ _ _ (.refl _) (.cons _ _ _ _ _ (.refl _) (.cons _ _ _ _ _ (.refl _) (.cons _ _ _ _ _ (.refl _) (.cons _ _ _ _ _ (.refl _) (.cons _ _ _ _ _ (.refl _) (.cons _ _ _ _ _ (.refl _) (.cons _ _ _ _ _ (.refl _) (.cons _ _ _ _ _ (.dead _) (.cons _ _ _ _ _ (.refl _) (.cons _ _ _ _ _ (.refl _) (.cons _ _ _ _ _ (.refl _) (.cons _ _ _ _ _ (.refl _) (.cons _ _ _ _ _ (.refl _) .nil)))))))))))))))))) (OLe.refl _)).trans (cmpS_ok (st' := ⟨[], [(0, .v (.lst false n221 c222)), (2, .dead), (3, .dead), (4, .dead), (5, .v (.int .i64 x228)), (6, .v (.int .i64 x230)), (7, .dead), (8, .dead), (12, .dead), (15, .v (.int .i64 ((n221 : Nat) : Int))), (16, .v (.int .i64 x228)), (17, .dead), (24, .dead), (30, .v (.int .i64 ((n235 : Nat) : Int))), (31, .v (.int .i64 0)), (32, .dead), (41, .dead), (52, .dead)], [], 0, []⟩) (by kernel_rfl))) ⟨_, h257, rfl⟩ ?_
                  clear h257
                  rintro n _ ⟨x237, h257, rfl⟩
                  cases n with
                  | zero => cases h257
                  | succ n =>
                    rw [m33_L2] at h257
                    have hh := brn_some h257; clear h257; rcases hh with ⟨h238, h257⟩ | ⟨h238, h257⟩
                    · refine W_sound tab_ok mixed 20 _ _ _ ?_
                      simp -implicitDefEqProofs only [go_sem, ne_eq, not_false_eq_true, Nat.reduceBEq, Nat.reduceAdd, Nat.reduceSub, Nat.reduceMul, Nat.reduceLT, Nat.reduceLeDiff, Int.reduceLE, Int.reduceLT, Int.reduceToNat, Int.reduceBEq, Int.reduceBNe, Int.le_refl, Nat.le_refl, decide_true, decide_false, Int.cast_ofNat_Int, ↓reduceIte, h220, h225, h227, h229, h231, g232, g233, h234, h238]
                      repeat with_reducible refine And.intro (by first | kernel_rfl | decide) ?_
                      have hh := bnd'_some h257; clear h257; obtain ⟨o259, h260, h261⟩ := hh
                      refine Wp_cut (fun s => (.inr ()) = o259 ∧ s = ⟨[], [(0, .v (.lst false n221 c222)), (2, .dead), (3, .dead), (4, .dead), (5, .v (.int .i64 x228)), (6, .v (.int .i64 x230)), (7, .dead), (8, .dead), (12, .dead), (15, .v (.int .i64 ((n221 : Nat) : Int))), (16, .v (.int .i64 x228)), (17, .dead), (24, .dead), (30, .v (.int .i64 ((n235 : Nat) : Int))), (31, .v (.int .i64 x237)), (32, .dead), (41, .dead), (52, .dead)], [], 0, []⟩) ?_ ?_
                      · refine Wp_block ?_
                        refine Wp_loopG (fun n s => ∃ x239, m33_L3 N n221 c222 x228 x230 n235 x237 n x239 = some o259 ∧ s = ⟨[], [(0, .v (.lst false n221 c222)), (2, .dead), (3, .dead), (4, .dead), (5, .v (.int .i64 x228)), (6, .v (.int .i64 x230)), (7, .v (.int .i64 x237)), (8, .v (.int .i64 x239)), (12, .dead), (15, .v (.int .i64 ((n221 : Nat) : Int))), (16, .v (.int .i64 x228)), (17, .dead), (24, .dead), (30, .v (.int .i64 ((n235 : Nat) : Int))), (31, .v (.int .i64 x237)), (32, .dead), (41, .dead), (52, .dead)], [], 0, []⟩) N _ ((Wk_le (.cons _ _ _ _ _ (.refl _) (.cons _ _ _ _ _ (.refl _) (.cons _ _ _ _ _ (.refl _) (.cons _ _ _ _ _ (.refl _) (.cons _ _ _ _ _ (.refl _) (.cons _ _ _ _ _ (.refl _) (.cons _ _ _ _ _ (.refl _) (.cons _ _ _ _ _ (.refl _) (.cons _ _ _ _ _ (.refl _) (.cons _ _ _ _ _ (.refl _) (.cons _ _ _ _ _ (.refl _) (.cons _ _ _ _ _ (.refl _) (.cons _ _ _ _ _ (.refl _) (.cons _ _ _ _ _ (.refl _) (.cons _ _ _ _ _ (.refl _) (.cons _ _ _ _ _ (.dead _) (.cons _ _ _ _ _ (.refl _) (.cons _ _ _ _ _ (.refl _) .nil)))))))))))))))))) (OLe.refl _)).trans (cmpS_ok (st' := ⟨[], [(0, .v (.lst false n221 c222)), (2, .dead), (3, .dead), (4, .dead), (5, .v (.int .i64 x228)), (6, .v (.int .i64 x230)), (7, .v (.int .i64 x237)), (8, .v (.int .i64 (IntKind.i64.wrap (x237 + 1)))), (12, .dead), (15, .v (.int .i64 ((n221 : Nat) : Int))), (16, .v (.int .i64 x228)), (17, .dead), (24, .dead), (30, .v (.int .i64 ((n235 : Nat) : Int))), (31, .v (.int .i64 x237)), (32, .dead), (41, .dead), (52, .dead)], [], 0, []⟩) (by kernel_rfl))) ⟨_, h260, rfl⟩ ?_
                        clear h260
                        rintro n _ ⟨x239, h260, rfl⟩
                        cases n with
                        | zero => cases h260
                        | succ n =>
                          rw [m33_L3] at h260
                          have hh := brn_some h260; clear h260; rcases hh with ⟨h240, h260⟩ | ⟨h240, h260⟩
                          · have hh := bnd'_some h260; clear h260; obtain ⟨p241, h242, h260⟩ := hh
                            refine W_sound tab_ok mixed 23 _ _ _ ?_
                            simp -implicitDefEqProofs only [go_sem, ne_eq, not_false_eq_true, Nat.reduceBEq, Nat.reduceAdd, Nat.reduceSub, Nat.reduceMul, Nat.reduceLT, Nat.reduceLeDiff, Int.reduceLE, Int.reduceLT, Int.reduceToNat, Int.reduceBEq, Int.reduceBNe, Int.le_refl, Nat.le_refl, decide_true, decide_false, Int.cast_ofNat_Int, ↓reduceIte, h220, h225, h227, h229, h231, g232, g233, h234, h238, h240]
                            repeat with_reducible refine And.intro (by first | kernel_rfl | decide) ?_
                            refine Wp_callF [(47, [(.int .i64 x228), (.int .i64 x230)]), (50, [(.int .i64 x237), (.int .i64 x239)])] (FnP_le (c76 N _ _ _ _ h242) (.cons _ _ _ _ (.refl _) (.cons _ _ _ _ (.lst true false _ _ _ (fun h => by first | exact h | cases h) (PLes.refl _)) (.cons _ _ _ _ (.lst true false _ _ _ (fun h => by first | exact h | cases h) (PLes.refl _)) .nil))) (.refl _)) (by kernel_rfl) rfl rfl rfl (by simp only [go_sem, ne_eq, not_false_eq_true, Nat.reduceBEq, Nat.reduceAdd, Nat.reduceSub, Nat.reduceMul, Nat.reduceLT, Nat.reduceLeDiff, Int.reduceLE, Int.reduceLT, Int.reduceToNat, Int.reduceBEq, Int.reduceBNe, Int.le_refl, Nat.le_refl, decide_true, decide_false, Int.cast_ofNat_Int, ↓reduceIte, h220, h225, h227, h229, h231, g232, g233, h234, h238, h240] <;> rfl) (by decide) rfl (by simp [roF, obL]) rfl ?_
                            have hh := getB_some h260; clear h260; obtain ⟨b244, h243, h260⟩ := hh
                            have hh := brn_some h260; clear h260; rcases hh with ⟨h245, h260⟩ | ⟨h245, h260⟩
                            · refine W_sound tab_ok mixed 10 _ _ _ ?_
                              simp -implicitDefEqProofs only [go_sem, ne_eq, not_false_eq_true, Nat.reduceBEq, Nat.reduceAdd, Nat.reduceSub, Nat.reduceMul, Nat.reduceLT, Nat.reduceLeDiff, Int.reduceLE, Int.reduceLT, Int.reduceToNat, Int.reduceBEq, Int.reduceBNe, Int.le_refl, Nat.le_refl, decide_true, decide_false, Int.cast_ofNat_Int, ↓reduceIte, h220, h225, h227, h229, h231, g232, g233, h234, h238, h240, h243, h245]
                              repeat with_reducible refine And.intro (by first | kernel_rfl | decide) ?_
                              exact cutQ _ ((Wk_le (.cons _ _ _ _ _ (.refl _) (.cons _ _ _ _ _ (.refl _) (.cons _ _ _ _ _ (.refl _) (.cons _ _ _ _ _ (.refl _) (.cons _ _ _ _ _ (.refl _) (.cons _ _ _ _ _ (.refl _) (.cons _ _ _ _ _ (.refl _) (.cons _ _ _ _ _ (.refl _) (.cons _ _ _ _ _ (.refl _) (.cons _ _ _ _ _ (.refl _) (.cons _ _ _ _ _ (.refl _) (.cons _ _ _ _ _ (.refl _) (.cons _ _ _ _ _ (.refl _) (.cons _ _ _ _ _ (.refl _) (.cons _ _ _ _ _ (.refl _) (.cons _ _ _ _ _ (.refl _) (.cons _ _ _ _ _ (.dead _) (.cons _ _ _ _ _ (.dead _) .nil)))))))))))))))))) (OLe.refl _)).trans (cmpS_ok (st' := ⟨[], [(0, .v (.lst false n221 c222)), (2, .dead), (3, .dead), (4, .dead), (5, .v (.int .i64 x228)), (6, .v (.int .i64 x230)), (7, .v (.int .i64 x237)), (8, .v (.int .i64 (IntKind.i64.wrap (x239 + 1)))), (12, .dead), (15, .v (.int .i64 ((n221 : Nat) : Int))), (16, .v (.int .i64 x228)), (17, .dead), (24, .dead), (30, .v (.int .i64 ((n235 : Nat) : Int))), (31, .v (.int .i64 x237)), (32, .dead), (41, .dead), (52, .dead)], [], 0, []⟩) (by kernel_rfl))) ⟨n, Nat.lt_succ_self n, _, h260, rfl⟩
                            · refine W_sound tab_ok mixed 15 _ _ _ ?_
                              simp -implicitDefEqProofs only [go_sem, ne_eq, not_false_eq_true, Nat.reduceBEq, Nat.reduceAdd, Nat.reduceSub, Nat.reduceMul, Nat.reduceLT, Nat.reduceLeDiff, Int.reduceLE, Int.reduceLT, Int.reduceToNat, Int.reduceBEq, Int.reduceBNe, Int.le_refl, Nat.le_refl, decide_true, decide_false, Int.cast_ofNat_Int, ↓reduceIte, h220, h225, h227, h229, h231, g232, g233, h234, h238, h240, h243, h245]
                              repeat with_reducible refine And.intro (by first | kernel_rfl | decide) ?_
                              refine FinQ_wk (Wk_freeze 108 [(.int .i64 x228), (.int .i64 x230), (.int .i64 x237), (.int .i64 x239)] (by rfl) (by decide) (by decide)) ?_
                              simp -implicitDefEqProofs only [go_sem, ne_eq, not_false_eq_true, Nat.reduceBEq, Nat.reduceAdd, Nat.reduceSub, Nat.reduceMul, Nat.reduceLT, Nat.reduceLeDiff, Int.reduceLE, Int.reduceLT, Int.reduceToNat, Int.reduceBEq, Int.reduceBNe, Int.le_refl, Nat.le_refl, decide_true, decide_false, Int.cast_ofNat_Int, ↓reduceIte, h220, h225, h227, h229, h231, g232, g233, h234, h238, h240, h243, h245]
                              obtain rfl := Option.some.inj h260
                              (try dsimp only at h261)
                              obtain rfl := Option.some.inj h261
                              (try dsimp only at h258)
                              obtain rfl := Option.some.inj h258
                              (try dsimp only at h255)
                              obtain rfl := Option.some.inj h255
                              (try dsimp only at h252)
                              obtain rfl := Option.some.inj h252
                              exact finC [(2, .v (.lst true 4 [(.int .i64 x228), (.int .i64 x230), (.int .i64 x237), (.int .i64 x239)])), (3, .v (.int .i64 0))] [(2, .v (.lst false 4 [(.int .i64 x228), (.int .i64 x230), (.int .i64 x237), (.int .i64 x239)])), (3, .v (.int .i64 0))] (by simp [leE, lk_cons]) (.cons _ _ _ _ _ (.v _ _ (.lst true false _ _ _ (fun h => by first | exact h | cases h) (PLes.refl _))) (.cons _ _ _ _ _ (.v _ _ (.refl _)) .nil)) (by rfl) (by simp [leE, lk_cons]) (by decide) (by decide) rfl (by simp only [go_sem, ne_eq, not_false_eq_true, Nat.reduceBEq, Nat.reduceAdd, Nat.reduceSub, Nat.reduceMul, Nat.reduceLT, Nat.reduceLeDiff, Int.reduceLE, Int.reduceLT, Int.reduceToNat, Int.reduceBEq, Int.reduceBNe, Int.le_refl, Nat.le_refl, decide_true, decide_false, Int.cast_ofNat_Int, ↓reduceIte, resQ_tmp, resQ_cell, resQ_nil, retD_one, retD_two, retD_three, retD_none]; try simp [R.val, retD_one, retD_two, retD_three, retD_none])
                          · refine W_sound tab_ok mixed 12 _ _ _ ?_
                            simp -implicitDefEqProofs only [go_sem, ne_eq, not_false_eq_true, Nat.reduceBEq, Nat.reduceAdd, Nat.reduceSub, Nat.reduceMul, Nat.reduceLT, Nat.reduceLeDiff, Int.reduceLE, Int.reduceLT, Int.reduceToNat, Int.reduceBEq, Int.reduceBNe, Int.le_refl, Nat.le_refl, decide_true, decide_false, Int.cast_ofNat_Int, ↓reduceIte, h220, h225, h227, h229, h231, g232, g233, h234, h238, h240]
                            repeat with_reducible refine And.intro (by first | kernel_rfl | decide) ?_
                            obtain rfl := Option.some.inj h260
                            exact cutQ _ ((Wk_le (.cons _ _ _ _ _ (.refl _) (.cons _ _ _ _ _ (.refl _) (.cons _ _ _ _ _ (.refl _) (.cons _ _ _ _ _ (.refl _) (.cons _ _ _ _ _ (.refl _) (.cons _ _ _ _ _ (.refl _) (.cons _ _ _ _ _ (.dead _) (.cons _ _ _ _ _ (.dead _) (.cons _ _ _ _ _ (.refl _) (.cons _ _ _ _ _ (.refl _) (.cons _ _ _ _ _ (.refl _) (.cons _ _ _ _ _ (.refl _) (.cons _ _ _ _ _ (.refl _) (.cons _ _ _ _ _ (.refl _) (.cons _ _ _ _ _ (.refl _) (.cons _ _ _ _ _ (.refl _) (.cons _ _ _ _ _ (.dead _) (.cons _ _ _ _ _ (.refl _) .nil)))))))))))))))))) (OLe.refl _)).trans (cmpS_ok (st' := ⟨[], [(0, .v (.lst false n221 c222)), (2, .dead), (3, .dead), (4, .dead), (5, .v (.int .i64 x228)), (6, .v (.int .i64 x230)), (7, .dead), (8, .dead), (12, .dead), (15, .v (.int .i64 ((n221 : Nat) : Int))), (16, .v (.int .i64 x228)), (17, .dead), (24, .dead), (30, .v (.int .i64 ((n235 : Nat) : Int))), (31, .v (.int .i64 x237)), (32, .dead), (41, .dead), (52, .dead)], [], 0, []⟩) (by kernel_rfl))) ⟨rfl, rfl⟩
                      · rintro _ ⟨rfl, rfl⟩
                        (try dsimp only at h261)
                        refine W_sound tab_ok mixed 5 _ _ _ ?_
                        simp -implicitDefEqProofs only [go_sem, ne_eq, not_false_eq_true, Nat.reduceBEq, Nat.reduceAdd, Nat.reduceSub, Nat.reduceMul, Nat.reduceLT, Nat.reduceLeDiff, Int.reduceLE, Int.reduceLT, Int.reduceToNat, Int.reduceBEq, Int.reduceBNe, Int.le_refl, Nat.le_refl, decide_true, decide_false, Int.cast_ofNat_Int, ↓reduceIte, h220, h225, h227, h229, h231, g232, g233, h234, h238]
                        repeat with_reducible refine And.intro (by first | kernel_rfl | decide) ?_
                        exact cutQ _ ((Wk_le (.cons _ _ _ _ _ (.refl _) (.cons _ _ _ _ _ (.refl _) (.cons _ _ _ _ _ (.refl _) (.cons _ _ _ _ _ (.refl _) (.cons _ _ _ _ _ (.refl _) (.cons _ _ _ _ _ (.refl _) (.cons _ _ _ _ _ (.refl _) (.cons _ _ _ _ _ (.refl _) (.cons _ _ _ _ _ (.refl _) (.cons _ _ _ _ _ (.refl _) (.cons _ _ _ _ _ (.refl _) (.cons _ _ _ _ _ (.refl _) (.cons _ _ _ _ _ (.refl _) (.cons _ _ _ _ _ (.refl _) (.cons _ _ _ _ _ (.refl _) (.cons _ _ _ _ _ (.refl _) (.cons _ _ _ _ _ (.refl _) (.cons _ _ _ _ _ (.refl _) .nil)))))))))))))))))) (OLe.refl _)).trans (cmpS_ok (st' := ⟨[], [(0, .v (.lst false n221 c222)), (2, .dead), (3, .dead), (4, .dead), (5, .v (.int .i64 x228)), (6, .v (.int .i64 x230)), (7, .dead), (8, .dead), (12, .dead), (15, .v (.int .i64 ((n221 : Nat) : Int))), (16, .v (.int .i64 x228)), (17, .dead), (24, .dead), (30, .v (.int .i64 ((n235 : Nat) : Int))), (31, .v (.int .i64 (IntKind.i64.wrap (x237 + 1)))), (32, .dead), (41, .dead), (52, .dead)], [], 0, []⟩) (by kernel_rfl))) ⟨n, Nat.lt_succ_self n, _, h261, rfl⟩
                    · refine W_sound tab_ok mixed 7 _ _ _ ?_
                      simp -implicitDefEqProofs only [go_sem, ne_eq, not_false_eq_true, Nat.reduceBEq, Nat.reduceAdd, Nat.reduceSub, Nat.reduceMul, Nat.reduceLT, Nat.reduceLeDiff, Int.reduceLE, Int.reduceLT, Int.reduceToNat, Int.reduceBEq, Int.reduceBNe, Int.le_refl, Nat.le_refl, decide_true, decide_false, Int.cast_ofNat_Int, ↓reduceIte, h220, h225, h227, h229, h231, g232, g233, h234, h238]
                      repeat with_reducible refine And.intro (by first | kernel_rfl | decide) ?_
                      obtain rfl := Option.some.inj h257
                      exact cutQ _ ((Wk_le (.cons _ _ _ _ _ (.refl _) (.cons _ _ _ _ _ (.refl _) (.cons _ _ _ _ _ (.refl _) (.cons _ _ _ _ _ (.refl _) (.cons _ _ _ _ _ (.refl _) (.cons _ _ _ _ _ (.refl _) (.cons _ _ _ _ _ (.refl _) (.cons _ _ _ _ _ (.refl _) (.cons _ _ _ _ _ (.refl _) (.cons _ _ _ _ _ (.refl _) (.cons _ _ _ _ _ (.refl _) (.cons _ _ _ _ _ (.refl _) (.cons _ _ _ _ _ (.refl _) (.cons _ _ _ _ _ (.dead _) (.cons _ _ _ _ _ (.dead _) (.cons _ _ _ _ _ (.dead _) (.cons _ _ _ _ _ (.refl _) (.cons _ _ _ _ _ (.refl _) .nil)))))))))))))))))) (OLe.refl _)).trans (cmpS_ok (st' := ⟨[], [(0, .v (.lst false n221 c222)), (2, .dead), (3, .dead), (4, .dead), (5, .v (.int .i64 x228)), (6, .v (.int .i64 x230)), (7, .dead), (8, .dead), (12, .dead), (15, .v (.int .i64 ((n221 : Nat) : Int))), (16, .v (.int .i64 x228)), (17, .dead), (24, .dead), (30, .dead), (31, .dead), (32, .dead), (41, .dead), (52, .dead)], [], 0, []⟩) (by kernel_rfl))) ⟨rfl, rfl⟩
                · rintro _ ⟨rfl, rfl⟩
                  (try dsimp only at h258)
                  refine W_sound tab_ok mixed 6 _ _ _ ?_
                  simp -implicitDefEqProofs only [go_sem, ne_eq, not_false_eq_true, Nat.reduceBEq, Nat.reduceAdd, Nat.reduceSub, Nat.reduceMul, Nat.reduceLT, Nat.reduceLeDiff, Int.reduceLE, Int.reduceLT, Int.reduceToNat, Int.reduceBEq, Int.reduceBNe, Int.le_refl, Nat.le_refl, decide_true, decide_false, Int.cast_ofNat_Int, ↓reduceIte, h220, h225, h227, h229, h231, g232, g233, h234]
                  repeat with_reducible refine And.intro (by first | kernel_rfl | decide) ?_
                  exact cutQ _ ((Wk_le (.cons _ _ _ _ _ (.refl _) (.cons _ _ _ _ _ (.refl _) (.cons _ _ _ _ _ (.refl _) (.cons _ _ _ _ _ (.refl _) (.cons _ _ _ _ _ (.refl _) (.cons _ _ _ _ _ (.refl _) (.cons _ _ _ _ _ (.refl _) (.cons _ _ _ _ _ (.refl _) (.cons _ _ _ _ _ (.refl _) (.cons _ _ _ _ _ (.refl _) (.cons _ _ _ _ _ (.refl _) (.cons _ _ _ _ _ (.refl _) (.cons _ _ _ _ _ (.refl _) (.cons _ _ _ _ _ (.refl _) (.cons _ _ _ _ _ (.refl _) (.cons _ _ _ _ _ (.refl _) (.cons _ _ _ _ _ (.refl _) (.cons _ _ _ _ _ (.refl _) .nil)))))))))))))))))) (OLe.refl _)).trans (cmpS_ok (st' := ⟨[], [(0, .v (.lst false n221 c222)), (2, .dead), (3, .dead), (4, .dead), (5, .v (.int .i64 x228)), (6, .v (.int .i64 (IntKind.i64.wrap (x230 + 1)))), (7, .dead), (8, .dead), (12, .dead), (15, .v (.int .i64 ((n221 : Nat) : Int))), (16, .v (.int .i64 x228)), (17, .dead), (24, .dead), (30, .dead), (31, .dead), (32, .dead), (41, .dead), (52, .dead)], [], 0, []⟩) (by kernel_rfl))) ⟨n, Nat.lt_succ_self n, _, h258, rfl⟩
              · refine W_sound tab_ok mixed 10 _ _ _ ?_
                simp -implicitDefEqProofs only [go_sem, ne_eq, not_false_eq_true, Nat.reduceBEq, Nat.reduceAdd, Nat.reduceSub, Nat.reduceMul, Nat.reduceLT, Nat.reduceLeDiff, Int.reduceLE, Int.reduceLT, Int.reduceToNat, Int.reduceBEq, Int.reduceBNe, Int.le_refl, Nat.le_refl, decide_true, decide_false, Int.cast_ofNat_Int, ↓reduceIte, h220, h225, h227, h229, h231]
                repeat with_reducible refine And.intro (by first | kernel_rfl | decide) ?_
                obtain rfl := Option.some.inj h254
                exact cutQ _ ((Wk_le (.cons _ _ _ _ _ (.refl _) (.cons _ _ _ _ _ (.refl _) (.cons _ _ _ _ _ (.refl _) (.cons _ _ _ _ _ (.refl _) (.cons _ _ _ _ _ (.dead _) (.cons _ _ _ _ _ (.dead _) (.cons _ _ _ _ _ (.refl _) (.cons _ _ _ _ _ (.refl _) (.cons _ _ _ _ _ (.refl _) (.cons _ _ _ _ _ (.refl _) (.cons _ _ _ _ _ (.refl _) (.cons _ _ _ _ _ (.refl _) (.cons _ _ _ _ _ (.dead _) (.cons _ _ _ _ _ (.refl _) (.cons _ _ _ _ _ (.refl _) (.cons _ _ _ _ _ (.refl _) (.cons _ _ _ _ _ (.refl _) (.cons _ _ _ _ _ (.refl _) .nil)))))))))))))))))) (OLe.refl _)).trans (cmpS_ok (st' := ⟨[], [(0, .v (.lst false n221 c222)), (2, .dead), (3, .dead), (4, .dead), (5, .dead), (6, .dead), (7, .dead), (8, .dead), (12, .dead), (15, .v (.int .i64 ((n221 : Nat) : Int))), (16, .v (.int .i64 x228)), (17, .dead), (24, .dead), (30, .dead), (31, .dead), (32, .dead), (41, .dead), (52, .dead)], [], 0, []⟩) (by kernel_rfl))) ⟨rfl, rfl⟩
          · rintro _ ⟨rfl, rfl⟩
            (try dsimp only at h255)
            refine W_sound tab_ok mixed 5 _ _ _ ?_
            simp -implicitDefEqProofs only [go_sem, ne_eq, not_false_eq_true, Nat.reduceBEq, Nat.reduceAdd, Nat.reduceSub, Nat.reduceMul, Nat.reduceLT, Nat.reduceLeDiff, Int.reduceLE, Int.reduceLT, Int.reduceToNat, Int.reduceBEq, Int.reduceBNe, Int.le_refl, Nat.le_refl, decide_true, decide_false, Int.cast_ofNat_Int, ↓reduceIte, h220, h225, h227, h229]
            repeat with_reducible refine And.intro (by first | kernel_rfl | decide) ?_
            exact cutQ _ ((Wk_le (.cons _ _ _ _ _ (.refl _) (.cons _ _ _ _ _ (.refl _) (.cons _ _ _ _ _ (.refl _) (.cons _ _ _ _ _ (.refl _) (.cons _ _ _ _ _ (.refl _) (.cons _ _ _ _ _ (.refl _) (.cons _ _ _ _ _ (.refl _) (.cons _ _ _ _ _ (.refl _) (.cons _ _ _ _ _ (.refl _) (.cons _ _ _ _ _ (.refl _) (.cons _ _ _ _ _ (.refl _) (.cons _ _ _ _ _ (.refl _) (.cons _ _ _ _ _ (.refl _) (.cons _ _ _ _ _ (.refl _) (.cons _ _ _ _ _ (.refl _) (.cons _ _ _ _ _ (.refl _) (.cons _ _ _ _ _ (.refl _) (.cons _ _ _ _ _ (.refl _) .nil)))))))))))))))))) (OLe.refl _)).trans (cmpS_ok (st' := ⟨[], [(0, .v (.lst false n221 c222)), (2, .dead), (3, .dead), (4, .dead), (5, .dead), (6, .dead), (7, .dead), (8, .dead), (12, .dead), (15, .v (.int .i64 ((n221 : Nat) : Int))), (16, .v (.int .i64 (IntKind.i64.wrap (x228 + 1)))), (17, .dead), (24, .dead), (30, .dead), (31, .dead), (32, .dead), (41, .dead), (52, .dead)], [], 0, []⟩) (by kernel_rfl))) ⟨n, Nat.lt_succ_self n, _, h255, rfl⟩
        · refine W_sound tab_ok mixed 7 _ _ _ ?_
          simp -implicitDefEqProofs only [go_sem, ne_eq, not_false_eq_true, Nat.reduceBEq, Nat.reduceAdd, Nat.reduceSub, Nat.reduceMul, Nat.reduceLT, Nat.reduceLeDiff, Int.reduceLE, Int.reduceLT, Int.reduceToNat, Int.reduceBEq, Int.reduceBNe, Int.le_refl, Nat.le_refl, decide_true, decide_false, Int.cast_ofNat_Int, ↓reduceIte, h220, h225, h227, h229]
          repeat with_reducible refine And.intro (by first | kernel_rfl | decide) ?_
          obtain rfl := Option.some.inj h251
          exact cutQ _ ((Wk_le (.cons _ _ _ _ _ (.dead _) (.cons _ _ _ _ _ (.refl _) (.cons _ _ _ _ _ (.refl _) (.cons _ _ _ _ _ (.refl _) (.cons _ _ _ _ _ (.refl _) (.cons _ _ _ _ _ (.refl _) (.cons _ _ _ _ _ (.refl _) (.cons _ _ _ _ _ (.refl _) (.cons _ _ _ _ _ (.refl _) (.cons _ _ _ _ _ (.dead _) (.cons _ _ _ _ _ (.dead _) (.cons _ _ _ _ _ (.dead _) (.cons _ _ _ _ _ (.refl _) (.cons _ _ _ _ _ (.refl _) (.cons _ _ _ _ _ (.refl _) (.cons _ _ _ _ _ (.refl _) (.cons _ _ _ _ _ (.refl _) (.cons _ _ _ _ _ (.refl _) .nil)))))))))))))))))) (OLe.refl _)).trans (cmpS_ok (st' := ⟨[], [(0, .dead), (2, .dead), (3, .dead), (4, .dead), (5, .dead), (6, .dead), (7, .dead), (8, .dead), (12, .dead), (15, .dead), (16, .dead), (17, .dead), (24, .dead), (30, .dead), (31, .dead), (32, .dead), (41, .dead), (52, .dead)], [], 0, []⟩) (by kernel_rfl))) ⟨rfl, rfl⟩
    · rintro _ ⟨rfl, rfl⟩
      (try dsimp only at h252)
      refine W_sound tab_ok mixed 7 _ _ _ ?_
      simp -implicitDefEqProofs only [go_sem, ne_eq, not_false_eq_true, Nat.reduceBEq, Nat.reduceAdd, Nat.reduceSub, Nat.reduceMul, Nat.reduceLT, Nat.reduceLeDiff, Int.reduceLE, Int.reduceLT, Int.reduceToNat, Int.reduceBEq, Int.reduceBNe, Int.le_refl, Nat.le_refl, decide_true, decide_false, Int.cast_ofNat_Int, ↓reduceIte, h220, h225, h227]
      repeat with_reducible refine And.intro (by first | kernel_rfl | decide) ?_
      obtain rfl := Option.some.inj h252
      exact finC [(2, .v .nl), (3, .v (.int .i64 13))] [(2, .v (.lst false 0 [])), (3, .v (.int .i64 13))] (by simp [leE, lk_cons]) (.cons _ _ _ _ _ (.v _ _ (.nl false)) (.cons _ _ _ _ _ (.v _ _ (.refl _)) .nil)) (by rfl) (by simp [leE, lk_cons]) (by decide) (by decide) rfl (by simp only [go_sem, ne_eq, not_false_eq_true, Nat.reduceBEq, Nat.reduceAdd, Nat.reduceSub, Nat.reduceMul, Nat.reduceLT, Nat.reduceLeDiff, Int.reduceLE, Int.reduceLT, Int.reduceToNat, Int.reduceBEq, Int.reduceBNe, Int.le_refl, Nat.le_refl, decide_true, decide_false, Int.cast_ofNat_Int, ↓reduceIte, resQ_tmp, resQ_cell, resQ_nil, retD_one, retD_two, retD_three, retD_none]; try simp [R.val, retD_one, retD_two, retD_three, retD_none])

def m94 (N : Nat) (x301 : Int) (x302 : Int) (x303 : Int) : Option (PV) :=
  brn (decide (x301 ≥ x302)) (
    some (.bool (decide (x301 ≤ x303)))) (
    some (.bool false))
theorem c94 (N : Nat) (x301 : Int) (x302 : Int) (x303 : Int) (r : PV)  (h : m94 N x301 x302 x303 = some r) : FnP Try.prog 94 [(.int .i64 x301), (.int .i64 x302), (.int .i64 x303)] r := by
  unfold m94 at h
  refine Fn_of (sz := 15) tab_ok [0, 1, 2, 6] [.tmp 6] Try.func94 rfl rfl rfl (by simp) ?_
  simp only [initSt, initEnv, List.map_cons, List.map_nil, List.getD_cons_zero, List.getD_cons_succ, List.getD_nil]
  have hh := brn_some h; clear h; rcases hh with ⟨h304, h⟩ | ⟨h304, h⟩
  · refine W_sound tab_ok mixed 18 _ _ _ ?_
    simp -implicitDefEqProofs only [go_sem, ne_eq, not_false_eq_true, Nat.reduceBEq, Nat.reduceAdd, Nat.reduceSub, Nat.reduceMul, Nat.reduceLT, Nat.reduceLeDiff, Int.reduceLE, Int.reduceLT, Int.reduceToNat, Int.reduceBEq, Int.reduceBNe, Int.le_refl, Nat.le_refl, decide_true, decide_false, Int.cast_ofNat_Int, ↓reduceIte, h304]
    repeat with_reducible refine And.intro (by first | kernel_rfl | decide) ?_
    obtain rfl := Option.some.inj h
    exact finC [(6, .v (.bool (decide (x301 ≤ x303))))] [(6, .v (.bool (decide (x301 ≤ x303))))] (by simp [leE, lk_cons]) (.cons _ _ _ _ _ (.v _ _ (.refl _)) .nil) (by rfl) (by simp [leE, lk_cons]) (by decide) (by decide) rfl (by simp only [go_sem, ne_eq, not_false_eq_true, Nat.reduceBEq, Nat.reduceAdd, Nat.reduceSub, Nat.reduceMul, Nat.reduceLT, Nat.reduceLeDiff, Int.reduceLE, Int.reduceLT, Int.reduceToNat, Int.reduceBEq, Int.reduceBNe, Int.le_refl, Nat.le_refl, decide_true, decide_false, Int.cast_ofNat_Int, ↓reduceIte, resQ_tmp, resQ_cell, resQ_nil, retD_one, retD_two, retD_three, retD_none]; try simp [R.val, retD_one, retD_two, retD_three, retD_none])
  · refine W_sound tab_ok mixed 18 _ _ _ ?_
    simp -implicitDefEqProofs only [go_sem, ne_eq, not_false_eq_true, Nat.reduceBEq, Nat.reduceAdd, Nat.reduceSub, Nat.reduceMul, Nat.reduceLT, Nat.reduceLeDiff, Int.reduceLE, Int.reduceLT, Int.reduceToNat, Int.reduceBEq, Int.reduceBNe, Int.le_refl, Nat.le_refl, decide_true, decide_false, Int.cast_ofNat_Int, ↓reduceIte, h304]
    repeat with_reducible refine And.intro (by first | kernel_rfl | decide) ?_
    obtain rfl := Option.some.inj h
    exact finC [(6, .v (.bool false))] [(6, .v (.bool false))] (by simp [leE, lk_cons]) (.cons _ _ _ _ _ (.v _ _ (.refl _)) .nil) (by rfl) (by simp [leE, lk_cons]) (by decide) (by decide) rfl (by simp only [go_sem, ne_eq, not_false_eq_true, Nat.reduceBEq, Nat.reduceAdd, Nat.reduceSub, Nat.reduceMul, Nat.reduceLT, Nat.reduceLeDiff, Int.reduceLE, Int.reduceLT, Int.reduceToNat, Int.reduceBEq, Int.reduceBNe, Int.le_refl, Nat.le_refl, decide_true, decide_false, Int.cast_ofNat_Int, ↓reduceIte, resQ_tmp, resQ_cell, resQ_nil, retD_one, retD_two, retD_three, retD_none]; try simp [R.val, retD_one, retD_two, retD_three, retD_none])

def m70_L0 (N : Nat) (x289 : Int) (x290 : Int) (n292 : Nat) (c293 : List PV) : Nat → Int → Option ((PV ⊕ Unit))
  | 0, _ => none
  | n + 1, x294 =>
    brn (decide (x294 < ((n292 : Nat) : Int))) (
      grd (0 ≤ x294 ∧ x294 < ((n292 : Nat) : Int)) <|
      grd (0 < List.length (List.drop (Int.toNat x294) c293)) <|
      getI .i64 (gp c293 (Int.toNat x294)) fun x300 =>
      bnd' (m94 N x300 x289 x290) fun p305 =>
      getB p305 fun b308 =>
      brn b308 (
        m70_L0 N x289 x290 n292 c293 n (IntKind.i64.wrap (x294 + 1))) (
        some (.inl (.bool false)))) (
      some (.inr ()))
def m70 (N : Nat) (p288 : PV) (x289 : Int) (x290 : Int) : Option (PV) :=
  getL p288 fun n292 c293 =>
  bnd' (m70_L0 N x289 x290 n292 c293 N 0) fun o =>
  match o with
  | .inl p310 =>
    some p310
  | .inr () =>
    some (.bool true)
theorem c70 (N : Nat) (p288 : PV) (x289 : Int) (x290 : Int) (r : PV)  (h : m70 N p288 x289 x290 = some r) : FnP Try.prog 70 [p288, (.int .i64 x289), (.int .i64 x290)] r := by
  unfold m70 at h
  refine Fn_of (sz := 22) tab_ok [0, 1, 2, 6, 7, 11, 21] [.tmp 6] Try.func70 rfl rfl rfl (by simp) ?_
  simp only [initSt, initEnv, List.map_cons, List.map_nil, List.getD_cons_zero, List.getD_cons_succ, List.getD_nil]
  have hh := getL_some h; clear h; obtain ⟨n292, c293, h291, h⟩ := hh
  refine W_sound tab_ok mixed 9 _ _ _ ?_
  simp -implicitDefEqProofs only [go_sem, ne_eq, not_false_eq_true, Nat.reduceBEq, Nat.reduceAdd, Nat.reduceSub, Nat.reduceMul, Nat.reduceLT, Nat.reduceLeDiff, Int.reduceLE, Int.reduceLT, Int.reduceToNat, Int.reduceBEq, Int.reduceBNe, Int.le_refl, Nat.le_refl, decide_true, decide_false, Int.cast_ofNat_Int, ↓reduceIte, h291]
  repeat with_reducible refine And.intro (by first | kernel_rfl | decide) ?_
  have hh := bnd'_some h; clear h; obtain ⟨o311, h312, h313⟩ := hh
  refine Wp_cut (fun s => (.inr ()) = o311 ∧ s = ⟨[], [(0, .dead), (1, .dead), (2, .dead), (6, .dead), (7, .dead), (11, .dead), (21, .dead)], [], 0, []⟩) ?_ ?_
  · refine Wp_block ?_
    refine Wp_loopG (fun n s => ∃ x294, m70_L0 N x289 x290 n292 c293 n x294 = some o311 ∧ s = ⟨[], [(0, .v (.lst false n292 c293)), (1, .v (.int .i64 x289)), (2, .v (.int .i64 x290)), (6, .dead), (7, .v (.int .i64 x294)), (11, .dead), (21, .dead)], [], 0, []⟩) N _ ((Wk_le (.cons _ _ _ _ _ (.refl _) (.cons _ _ _ _ _ (.refl _) (.cons _ _ _ _ _ (.refl _) (.cons _ _ _ _ _ (.dead _) (.cons _ _ _ _ _ (.refl _) (.cons _ _ _ _ _ (.refl _) (.cons _ _ _ _ _ (.refl _) .nil))))))) (OLe.refl _)).trans (cmpS_ok rfl)) ⟨_, h312, rfl⟩ ?_
    clear h312
    rintro n _ ⟨x294, h312, rfl⟩
    cases n with
    | zero => cases h312
    | succ n =>
      rw [m70_L0] at h312
      have hh := brn_some h312; clear h312; rcases hh with ⟨h295, h312⟩ | ⟨h295, h312⟩
      · have hh := grd_some h312; clear h312; obtain ⟨⟨g296, g297⟩, h312⟩ := hh
        have hh := grd_some h312; clear h312; obtain ⟨g298, h312⟩ := hh
        have hh := getI_some h312; clear h312; obtain ⟨x300, h299, h312⟩ := hh
        have hh := bnd'_some h312; clear h312; obtain ⟨p305, h306, h312⟩ := hh
        refine W_sound tab_ok mixed 20 _ _ _ ?_
        simp -implicitDefEqProofs only [go_sem, ne_eq, not_false_eq_true, Nat.reduceBEq, Nat.reduceAdd, Nat.reduceSub, Nat.reduceMul, Nat.reduceLT, Nat.reduceLeDiff, Int.reduceLE, Int.reduceLT, Int.reduceToNat, Int.reduceBEq, Int.reduceBNe, Int.le_refl, Nat.le_refl, decide_true, decide_false, Int.cast_ofNat_Int, ↓reduceIte, h291, h295, g296, g297, g298, h299]
        repeat with_reducible refine And.intro (by first | kernel_rfl | decide) ?_
        refine Wp_callP (c94 N _ _ _ _ h306) (by kernel_rfl) rfl rfl rfl rfl (by decide) ?_
        have hh := getB_some h312; clear h312; obtain ⟨b308, h307, h312⟩ := hh
        have hh := brn_some h312; clear h312; rcases hh with ⟨h309, h312⟩ | ⟨h309, h312⟩
        · refine W_sound tab_ok mixed 10 _ _ _ ?_
          simp -implicitDefEqProofs only [go_sem, ne_eq, not_false_eq_true, Nat.reduceBEq, Nat.reduceAdd, Nat.reduceSub, Nat.reduceMul, Nat.reduceLT, Nat.reduceLeDiff, Int.reduceLE, Int.reduceLT, Int.reduceToNat, Int.reduceBEq, Int.reduceBNe, Int.le_refl, Nat.le_refl, decide_true, decide_false, Int.cast_ofNat_Int, ↓reduceIte, h291, h295, g296, g297, g298, h299, h307, h309]
          repeat with_reducible refine And.intro (by first | kernel_rfl | decide) ?_
          exact cutQ _ ((Wk_le (.cons _ _ _ _ _ (.refl _) (.cons _ _ _ _ _ (.refl _) (.cons _ _ _ _ _ (.refl _) (.cons _ _ _ _ _ (.refl _) (.cons _ _ _ _ _ (.refl _) (.cons _ _ _ _ _ (.dead _) (.cons _ _ _ _ _ (.dead _) .nil))))))) (OLe.refl _)).trans (cmpS_ok rfl)) ⟨n, Nat.lt_succ_self n, _, h312, rfl⟩
        · refine W_sound tab_ok mixed 9 _ _ _ ?_
          simp -implicitDefEqProofs only [go_sem, ne_eq, not_false_eq_true, Nat.reduceBEq, Nat.reduceAdd, Nat.reduceSub, Nat.reduceMul, Nat.reduceLT, Nat.reduceLeDiff, Int.reduceLE, Int.reduceLT, Int.reduceToNat, Int.reduceBEq, Int.reduceBNe, Int.le_refl, Nat.le_refl, decide_true, decide_false, Int.cast_ofNat_Int, ↓reduceIte, h291, h295, g296, g297, g298, h299, h307, h309]
          repeat with_reducible refine And.intro (by first | kernel_rfl | decide) ?_
          obtain rfl := Option.some.inj h312
          (try dsimp only at h313)
          obtain rfl := Option.some.inj h313
          exact finC [(6, .v (.bool false))] [(6, .v (.bool false))] (by simp [leE, lk_cons]) (.cons _ _ _ _ _ (.v _ _ (.refl _)) .nil) (by rfl) (by simp [leE, lk_cons]) (by decide) (by decide) rfl (by simp only [go_sem, ne_eq, not_false_eq_true, Nat.reduceBEq, Nat.reduceAdd, Nat.reduceSub, Nat.reduceMul, Nat.reduceLT, Nat.reduceLeDiff, Int.reduceLE, Int.reduceLT, Int.reduceToNat, Int.reduceBEq, Int.reduceBNe, Int.le_refl, Nat.le_refl, decide_true, decide_false, Int.cast_ofNat_Int, ↓reduceIte, resQ_tmp, resQ_cell, resQ_nil, retD_one, retD_two, retD_three, retD_none]; try simp [R.val, retD_one, retD_two, retD_three, retD_none])
      · refine W_sound tab_ok mixed 10 _ _ _ ?_
        simp -implicitDefEqProofs only [go_sem, ne_eq, not_false_eq_true, Nat.reduceBEq, Nat.reduceAdd, Nat.reduceSub, Nat.reduceMul, Nat.reduceLT, Nat.reduceLeDiff, Int.reduceLE, Int.reduceLT, Int.reduceToNat, Int.reduceBEq, Int.reduceBNe, Int.le_refl, Nat.le_refl, decide_true, decide_false, Int.cast_ofNat_Int, ↓reduceIte, h291, h295]
        repeat with_reducible refine And.intro (by first | kernel_rfl | decide) ?_
        obtain rfl := Option.some.inj h312
        exact cutQ _ ((Wk_le (.cons _ _ _ _ _ (.dead _) (.cons _ _ _ _ _ (.dead _) (.cons _ _ _ _ _ (.dead _) (.cons _ _ _ _ _ (.refl _) (.cons _ _ _ _ _ (.dead _) (.cons _ _ _ _ _ (.dead _) (.cons _ _ _ _ _ (.refl _) .nil))))))) (OLe.refl _)).trans (cmpS_ok rfl)) ⟨rfl, rfl⟩
  · rintro _ ⟨rfl, rfl⟩
    (try dsimp only at h313)
    refine W_sound tab_ok mixed 6 _ _ _ ?_
    simp -implicitDefEqProofs only [go_sem, ne_eq, not_false_eq_true, Nat.reduceBEq, Nat.reduceAdd, Nat.reduceSub, Nat.reduceMul, Nat.reduceLT, Nat.reduceLeDiff, Int.reduceLE, Int.reduceLT, Int.reduceToNat, Int.reduceBEq, Int.reduceBNe, Int.le_refl, Nat.le_refl, decide_true, decide_false, Int.cast_ofNat_Int, ↓reduceIte, h291]
    repeat with_reducible refine And.intro (by first | kernel_rfl | decide) ?_
    obtain rfl := Option.some.inj h313
    exact finC [(6, .v (.bool true))] [(6, .v (.bool true))] (by simp [leE, lk_cons]) (.cons _ _ _ _ _ (.v _ _ (.refl _)) .nil) (by rfl) (by simp [leE, lk_cons]) (by decide) (by decide) rfl (by simp only [go_sem, ne_eq, not_false_eq_true, Nat.reduceBEq, Nat.reduceAdd, Nat.reduceSub, Nat.reduceMul, Nat.reduceLT, Nat.reduceLeDiff, Int.reduceLE, Int.reduceLT, Int.reduceToNat, Int.reduceBEq, Int.reduceBNe, Int.le_refl, Nat.le_refl, decide_true, decide_false, Int.cast_ofNat_Int, ↓reduceIte, resQ_tmp, resQ_cell, resQ_nil, retD_one, retD_two, retD_three, retD_none]; try simp [R.val, retD_one, retD_two, retD_three, retD_none])

def m24_L0 (N : Nat) (n268 : Nat) (c269 : List PV) (n274 : Nat) : Nat → Int → Option ((PV ⊕ Unit))
  | 0, _ => none
  | n + 1, x279 =>
    brn (decide (x279 < ((n268 : Nat) : Int))) (
      grd (0 ≤ x279 ∧ x279 < ((n268 : Nat) : Int)) <|
      grd (0 < List.length (List.drop (Int.toNat x279) c269)) <|
      getL (gp c269 (Int.toNat x279)) fun n285 c286 =>
      brn (((n285 : Nat) : Int) != ((n274 : Nat) : Int)) (
        some (.inl (.int .i64 5))) (
        bnd' (m70 N (.lst false n285 c286) 0 20) fun p314 =>
        getB p314 fun b317 =>
        brn b317 (
          m24_L0 N n268 c269 n274 n (IntKind.i64.wrap (x279 + 1))) (
          some (.inl (.int .i64 1))))) (
      some (.inr ()))
def m24 (N : Nat) (p266 : PV) : Option (PV) :=
  getL p266 fun n268 c269 =>
  brn (((n268 : Nat) : Int) == 0) (
    some (.int .i64 4)) (
    grd (0 < ((n268 : Nat) : Int)) <|
    grd (0 < List.length c269) <|
    getL (gp c269 0) fun n274 c275 =>
    brn (((n274 : Nat) : Int) == 0) (
      some (.int .i64 4)) (
      brn (decide (((n268 : Nat) : Int) > 3)) (
        some (.int .i64 3)) (
        brn (decide (((n274 : Nat) : Int) > 4)) (
          some (.int .i64 3)) (
          bnd' (m24_L0 N n268 c269 n274 N 0) fun o =>
          match o with
          | .inl p319 =>
            some p319
          | .inr () =>
            some (.int .i64 0)))))
theorem c24 (N : Nat) (p266 : PV) (r : PV)  (h : m24 N p266 = some r) : FnP Try.prog 24 [p266] r := by
  unfold m24 at h
  refine Fn_of (sz := 46) tab_ok [0, 2, 3, 13, 23, 27, 39, 45] [.tmp 2] Try.func24 rfl rfl rfl (by simp) ?_
  simp only [initSt, initEnv, List.map_cons, List.map_nil, List.getD_cons_zero, List.getD_cons_succ, List.getD_nil]
  have hh := getL_some h; clear h; obtain ⟨n268, c269, h267, h⟩ := hh
  have hh := brn_some h; clear h; rcases hh with ⟨h270, h⟩ | ⟨h270, h⟩
  · refine W_sound tab_ok mixed 25 _ _ _ ?_
    simp -implicitDefEqProofs only [go_sem, ne_eq, not_false_eq_true, Nat.reduceBEq, Nat.reduceAdd, Nat.reduceSub, Nat.reduceMul, Nat.reduceLT, Nat.reduceLeDiff, Int.reduceLE, Int.reduceLT, Int.reduceToNat, Int.reduceBEq, Int.reduceBNe, Int.le_refl, Nat.le_refl, decide_true, decide_false, Int.cast_ofNat_Int, ↓reduceIte, h267, h270]
    repeat with_reducible refine And.intro (by first | kernel_rfl | decide) ?_
    obtain rfl := Option.some.inj h
    exact finC [(2, .v (.int .i64 4))] [(2, .v (.int .i64 4))] (by simp [leE, lk_cons]) (.cons _ _ _ _ _ (.v _ _ (.refl _)) .nil) (by rfl) (by simp [leE, lk_cons]) (by decide) (by decide) rfl (by simp only [go_sem, ne_eq, not_false_eq_true, Nat.reduceBEq, Nat.reduceAdd, Nat.reduceSub, Nat.reduceMul, Nat.reduceLT, Nat.reduceLeDiff, Int.reduceLE, Int.reduceLT, Int.reduceToNat, Int.reduceBEq, Int.reduceBNe, Int.le_refl, Nat.le_refl, decide_true, decide_false, Int.cast_ofNat_Int, ↓reduceIte, resQ_tmp, resQ_cell, resQ_nil, retD_one, retD_two, retD_three, retD_none]; try simp [R.val, retD_one, retD_two, retD_three, retD_none])
  · have hh := grd_some h; clear h; obtain ⟨g271, h⟩ := hh
    have hh := grd_some h; clear h; obtain ⟨g272, h⟩ := hh
    have hh := getL_some h; clear h; obtain ⟨n274, c275, h273, h⟩ := hh
    have hh := brn_some h; clear h; rcases hh with ⟨h276, h⟩ | ⟨h276, h⟩
    · refine W_sound tab_ok mixed 25 _ _ _ ?_
      simp -implicitDefEqProofs only [go_sem, ne_eq, not_false_eq_true, Nat.reduceBEq, Nat.reduceAdd, Nat.reduceSub, Nat.reduceMul, Nat.reduceLT, Nat.reduceLeDiff, Int.reduceLE, Int.reduceLT, Int.reduceToNat, Int.reduceBEq, Int.reduceBNe, Int.le_refl, Nat.le_refl, decide_true, decide_false, Int.cast_ofNat_Int, ↓reduceIte, h267, h270, g271, g272, h273, h276]
      repeat with_reducible refine And.intro (by first | kernel_rfl | decide) ?_
      obtain rfl := Option.some.inj h
      exact finC [(2, .v (.int .i64 4))] [(2, .v (.int .i64 4))] (by simp [leE, lk_cons]) (.cons _ _ _ _ _ (.v _ _ (.refl _)) .nil) (by rfl) (by simp [leE, lk_cons]) (by decide) (by decide) rfl (by simp only [go_sem, ne_eq, not_false_eq_true, Nat.reduceBEq, Nat.reduceAdd, Nat.reduceSub, Nat.reduceMul, Nat.reduceLT, Nat.reduceLeDiff, Int.reduceLE, Int.reduceLT, Int.reduceToNat, Int.reduceBEq, Int.reduceBNe, Int.le_refl, Nat.le_refl, decide_true, decide_false, Int.cast_ofNat_Int, ↓reduceIte, resQ_tmp, resQ_cell, resQ_nil, retD_one, retD_two, retD_three, retD_none]; try simp [R.val, retD_one, retD_two, retD_three, retD_none])
    · have hh := brn_some h; clear h; rcases hh with ⟨h277, h⟩ | ⟨h277, h⟩
      · refine W_sound tab_ok mixed 41 _ _ _ ?_
        simp -implicitDefEqProofs only [go_sem, ne_eq, not_false_eq_true, Nat.reduceBEq, Nat.reduceAdd, Nat.reduceSub, Nat.reduceMul, Nat.reduceLT, Nat.reduceLeDiff, Int.reduceLE, Int.reduceLT, Int.reduceToNat, Int.reduceBEq, Int.reduceBNe, Int.le_refl, Nat.le_refl, decide_true, decide_false, Int.cast_ofNat_Int, ↓reduceIte, h267, h270, g271, g272, h273, h276, h277]
        repeat with_reducible refine And.intro (by first | kernel_rfl | decide) ?_
        obtain rfl := Option.some.inj h
        exact finC [(2, .v (.int .i64 3))] [(2, .v (.int .i64 3))] (by simp [leE, lk_cons]) (.cons _ _ _ _ _ (.v _ _ (.refl _)) .nil) (by rfl) (by simp [leE, lk_cons]) (by decide) (by decide) rfl (by simp only [go_sem, ne_eq, not_false_eq_true, Nat.reduceBEq, Nat.reduceAdd, Nat.reduceSub, Nat.reduceMul, Nat.reduceLT, Nat.reduceLeDiff, Int.reduceLE, Int.reduceLT, Int.reduceToNat, Int.reduceBEq, Int.reduceBNe, Int.le_refl, Nat.le_refl, decide_true, decide_false, Int.cast_ofNat_Int, ↓reduceIte, resQ_tmp, resQ_cell, resQ_nil, retD_one, retD_two, retD_three, retD_none]; try simp [R.val, retD_one, retD_two, retD_three, retD_none])
      · have hh := brn_some h; clear h; rcases hh with ⟨h278, h⟩ | ⟨h278, h⟩
        · refine W_sound tab_ok mixed 41 _ _ _ ?_
          simp -implicitDefEqProofs only [go_sem, ne_eq, not_false_eq_true, Nat.reduceBEq, Nat.reduceAdd, Nat.reduceSub, Nat.reduceMul, Nat.reduceLT, Nat.reduceLeDiff, Int.reduceLE, Int.reduceLT, Int.reduceToNat, Int.reduceBEq, Int.reduceBNe, Int.le_refl, Nat.le_refl, decide_true, decide_false, Int.cast_ofNat_Int, ↓reduceIte, h267, h270, g271, g272, h273, h276, h277, h278]
          repeat with_reducible refine And.intro (by first | kernel_rfl | decide) ?_
          obtain rfl := Option.some.inj h
          exact finC [(2, .v (.int .i64 3))] [(2, .v (.int .i64 3))] (by simp [leE, lk_cons]) (.cons _ _ _ _ _ (.v _ _ (.refl _)) .nil) (by rfl) (by simp [leE, lk_cons]) (by decide) (by decide) rfl (by simp only [go_sem, ne_eq, not_false_eq_true, Nat.reduceBEq, Nat.reduceAdd, Nat.reduceSub, Nat.reduceMul, Nat.reduceLT, Nat.reduceLeDiff, Int.reduceLE, Int.reduceLT, Int.reduceToNat, Int.reduceBEq, Int.reduceBNe, Int.le_refl, Nat.le_refl, decide_true, decide_false, Int.cast_ofNat_Int, ↓reduceIte, resQ_tmp, resQ_cell, resQ_nil, retD_one, retD_two, retD_three, retD_none]; try simp [R.val, retD_one, retD_two, retD_three, retD_none])
        · refine W_sound tab_ok mixed 41 _ _ _ ?_
          simp -implicitDefEqProofs only [go_sem, ne_eq, not_false_eq_true, Nat.reduceBEq, Nat.reduceAdd, Nat.reduceSub, Nat.reduceMul, Nat.reduceLT, Nat.reduceLeDiff, Int.reduceLE, Int.reduceLT, Int.reduceToNat, Int.reduceBEq, Int.reduceBNe, Int.le_refl, Nat.le_refl, decide_true, decide_false, Int.cast_ofNat_Int, ↓reduceIte, h267, h270, g271, g272, h273, h276, h277, h278]
          repeat with_reducible refine And.intro (by first | kernel_rfl | decide) ?_
          have hh := bnd'_some h; clear h; obtain ⟨o320, h321, h322⟩ := hh
          refine Wp_cut (fun s => (.inr ()) = o320 ∧ s = ⟨[], [(0, .dead), (2, .dead), (3, .dead), (13, .dead), (23, .dead), (27, .dead), (39, .dead), (45, .dead)], [], 0, []⟩) ?_ ?_
          · refine Wp_block ?_
            refine Wp_loopG (fun n s => ∃ x279, m24_L0 N n268 c269 n274 n x279 = some o320 ∧ s = ⟨[], [(0, .v (.lst false n268 c269)), (2, .dead), (3, .v (.int .i64 x279)), (13, .dead), (23, .dead), (27, .dead), (39, .dead), (45, .dead)], [], 0, []⟩) N _ ((Wk_le (.cons _ _ _ _ _ (.refl _) (.cons _ _ _ _ _ (.dead _) (.cons _ _ _ _ _ (.refl _) (.cons _ _ _ _ _ (.dead _) (.cons _ _ _ _ _ (.dead _) (.cons _ _ _ _ _ (.refl _) (.cons _ _ _ _ _ (.refl _) (.cons _ _ _ _ _ (.refl _) .nil)))))))) (OLe.refl _)).trans (cmpS_ok rfl)) ⟨_, h321, rfl⟩ ?_
            clear h321
            rintro n _ ⟨x279, h321, rfl⟩
            cases n with
            | zero => cases h321
            | succ n =>
              rw [m24_L0] at h321
              have hh := brn_some h321; clear h321; rcases hh with ⟨h280, h321⟩ | ⟨h280, h321⟩
              · have hh := grd_some h321; clear h321; obtain ⟨⟨g281, g282⟩, h321⟩ := hh
                have hh := grd_some h321; clear h321; obtain ⟨g283, h321⟩ := hh
                have hh := getL_some h321; clear h321; obtain ⟨n285, c286, h284, h321⟩ := hh
                have hh := brn_some h321; clear h321; rcases hh with ⟨h287, h321⟩ | ⟨h287, h321⟩
                · refine W_sound tab_ok mixed 33 _ _ _ ?_
                  simp -implicitDefEqProofs only [go_sem, ne_eq, not_false_eq_true, Nat.reduceBEq, Nat.reduceAdd, Nat.reduceSub, Nat.reduceMul, Nat.reduceLT, Nat.reduceLeDiff, Int.reduceLE, Int.reduceLT, Int.reduceToNat, Int.reduceBEq, Int.reduceBNe, Int.le_refl, Nat.le_refl, decide_true, decide_false, Int.cast_ofNat_Int, ↓reduceIte, h267, h270, g271, g272, h273, h276, h277, h278, h280, g281, g282, g283, h284, h287]
                  repeat with_reducible refine And.intro (by first | kernel_rfl | decide) ?_
                  obtain rfl := Option.some.inj h321
                  (try dsimp only at h322)
                  obtain rfl := Option.some.inj h322
                  exact finC [(2, .v (.int .i64 5))] [(2, .v (.int .i64 5))] (by simp [leE, lk_cons]) (.cons _ _ _ _ _ (.v _ _ (.refl _)) .nil) (by rfl) (by simp [leE, lk_cons]) (by decide) (by decide) rfl (by simp only [go_sem, ne_eq, not_false_eq_true, Nat.reduceBEq, Nat.reduceAdd, Nat.reduceSub, Nat.reduceMul, Nat.reduceLT, Nat.reduceLeDiff, Int.reduceLE, Int.reduceLT, Int.reduceToNat, Int.reduceBEq, Int.reduceBNe, Int.le_refl, Nat.le_refl, decide_true, decide_false, Int.cast_ofNat_Int, ↓reduceIte, resQ_tmp, resQ_cell, resQ_nil, retD_one, retD_two, retD_three, retD_none]; try simp [R.val, retD_one, retD_two, retD_three, retD_none])
                · have hh := bnd'_some h321; clear h321; obtain ⟨p314, h315, h321⟩ := hh
                  refine W_sound tab_ok mixed 34 _ _ _ ?_
                  simp -implicitDefEqProofs only [go_sem, ne_eq, not_false_eq_true, Nat.reduceBEq, Nat.reduceAdd, Nat.reduceSub, Nat.reduceMul, Nat.reduceLT, Nat.reduceLeDiff, Int.reduceLE, Int.reduceLT, Int.reduceToNat, Int.reduceBEq, Int.reduceBNe, Int.le_refl, Nat.le_refl, decide_true, decide_false, Int.cast_ofNat_Int, ↓reduceIte, h267, h270, g271, g272, h273, h276, h277, h278, h280, g281, g282, g283, h284, h287]
                  repeat with_reducible refine And.intro (by first | kernel_rfl | decide) ?_
                  refine Wp_callP (c70 N _ _ _ _ h315) (by kernel_rfl) rfl rfl rfl rfl (by decide) ?_
                  have hh := getB_some h321; clear h321; obtain ⟨b317, h316, h321⟩ := hh
                  have hh := brn_some h321; clear h321; rcases hh with ⟨h318, h321⟩ | ⟨h318, h321⟩
                  · refine W_sound tab_ok mixed 10 _ _ _ ?_
                    simp -implicitDefEqProofs only [go_sem, ne_eq, not_false_eq_true, Nat.reduceBEq, Nat.reduceAdd, Nat.reduceSub, Nat.reduceMul, Nat.reduceLT, Nat.reduceLeDiff, Int.reduceLE, Int.reduceLT, Int.reduceToNat, Int.reduceBEq, Int.reduceBNe, Int.le_refl, Nat.le_refl, decide_true, decide_false, Int.cast_ofNat_Int, ↓reduceIte, h267, h270, g271, g272, h273, h276, h277, h278, h280, g281, g282, g283, h284, h287, h316, h318]
                    repeat with_reducible refine And.intro (by first | kernel_rfl | decide) ?_
                    exact cutQ _ ((Wk_le (.cons _ _ _ _ _ (.refl _) (.cons _ _ _ _ _ (.refl _) (.cons _ _ _ _ _ (.refl _) (.cons _ _ _ _ _ (.refl _) (.cons _ _ _ _ _ (.refl _) (.cons _ _ _ _ _ (.dead _) (.cons _ _ _ _ _ (.dead _) (.cons _ _ _ _ _ (.dead _) .nil)))))))) (OLe.refl _)).trans (cmpS_ok rfl)) ⟨n, Nat.lt_succ_self n, _, h321, rfl⟩
                  · refine W_sound tab_ok mixed 9 _ _ _ ?_
                    simp -implicitDefEqProofs only [go_sem, ne_eq, not_false_eq_true, Nat.reduceBEq, Nat.reduceAdd, Nat.reduceSub, Nat.reduceMul, Nat.reduceLT, Nat.reduceLeDiff, Int.reduceLE, Int.reduceLT, Int.reduceToNat, Int.reduceBEq, Int.reduceBNe, Int.le_refl, Nat.le_refl, decide_true, decide_false, Int.cast_ofNat_Int, ↓reduceIte, h267, h270, g271, g272, h273, h276, h277, h278, h280, g281, g282, g283, h284, h287, h316, h318]
                    repeat with_reducible refine And.intro (by first | kernel_rfl | decide) ?_
                    obtain rfl := Option.some.inj h321
                    (try dsimp only at h322)
                    obtain rfl := Option.some.inj h322
                    exact finC [(2, .v (.int .i64 1))] [(2, .v (.int .i64 1))] (by simp [leE, lk_cons]) (.cons _ _ _ _ _ (.v _ _ (.refl _)) .nil) (by rfl) (by simp [leE, lk_cons]) (by decide) (by decide) rfl (by simp only [go_sem, ne_eq, not_false_eq_true, Nat.reduceBEq, Nat.reduceAdd, Nat.reduceSub, Nat.reduceMul, Nat.reduceLT, Nat.reduceLeDiff, Int.reduceLE, Int.reduceLT, Int.reduceToNat, Int.reduceBEq, Int.reduceBNe, Int.le_refl, Nat.le_refl, decide_true, decide_false, Int.cast_ofNat_Int, ↓reduceIte, resQ_tmp, resQ_cell, resQ_nil, retD_one, retD_two, retD_three, retD_none]; try simp [R.val, retD_one, retD_two, retD_three, retD_none])
              · refine W_sound tab_ok mixed 10 _ _ _ ?_
                simp -implicitDefEqProofs only [go_sem, ne_eq, not_false_eq_true, Nat.reduceBEq, Nat.reduceAdd, Nat.reduceSub, Nat.reduceMul, Nat.reduceLT, Nat.reduceLeDiff, Int.reduceLE, Int.reduceLT, Int.reduceToNat, Int.reduceBEq, Int.reduceBNe, Int.le_refl, Nat.le_refl, decide_true, decide_false, Int.cast_ofNat_Int, ↓reduceIte, h267, h270, g271, g272, h273, h276, h277, h278, h280]
                repeat with_reducible refine And.intro (by first | kernel_rfl | decide) ?_
                obtain rfl := Option.some.inj h321
                exact cutQ _ ((Wk_le (.cons _ _ _ _ _ (.dead _) (.cons _ _ _ _ _ (.refl _) (.cons _ _ _ _ _ (.dead _) (.cons _ _ _ _ _ (.refl _) (.cons _ _ _ _ _ (.refl _) (.cons _ _ _ _ _ (.dead _) (.cons _ _ _ _ _ (.refl _) (.cons _ _ _ _ _ (.refl _) .nil)))))))) (OLe.refl _)).trans (cmpS_ok rfl)) ⟨rfl, rfl⟩
          · rintro _ ⟨rfl, rfl⟩
            (try dsimp only at h322)
            refine W_sound tab_ok mixed 6 _ _ _ ?_
            simp -implicitDefEqProofs only [go_sem, ne_eq, not_false_eq_true, Nat.reduceBEq, Nat.reduceAdd, Nat.reduceSub, Nat.reduceMul, Nat.reduceLT, Nat.reduceLeDiff, Int.reduceLE, Int.reduceLT, Int.reduceToNat, Int.reduceBEq, Int.reduceBNe, Int.le_refl, Nat.le_refl, decide_true, decide_false, Int.cast_ofNat_Int, ↓reduceIte, h267, h270, g271, g272, h273, h276, h277, h278]
            repeat with_reducible refine And.intro (by first | kernel_rfl | decide) ?_
            obtain rfl := Option.some.inj h322
            exact finC [(2, .v (.int .i64 0))] [(2, .v (.int .i64 0))] (by simp [leE, lk_cons]) (.cons _ _ _ _ _ (.v _ _ (.refl _)) .nil) (by rfl) (by simp [leE, lk_cons]) (by decide) (by decide) rfl (by simp only [go_sem, ne_eq, not_false_eq_true, Nat.reduceBEq, Nat.reduceAdd, Nat.reduceSub, Nat.reduceMul, Nat.reduceLT, Nat.reduceLeDiff, Int.reduceLE, Int.reduceLT, Int.reduceToNat, Int.reduceBEq, Int.reduceBNe, Int.le_refl, Nat.le_refl, decide_true, decide_false, Int.cast_ofNat_Int, ↓reduceIte, resQ_tmp, resQ_cell, resQ_nil, retD_one, retD_two, retD_three, retD_none]; try simp [R.val, retD_one, retD_two, retD_three, retD_none])

def m78_L3 (N : Nat) (n330 : Nat) (c331 : List PV) (x332 : Int) (x334 : Int) (x336 : Int) (n340 : Nat) : Nat → Int → Option ((PV ⊕ Unit))
  | 0, _ => none
  | n + 1, x343 =>
    brn (decide (x343 < ((n340 : Nat) : Int))) (
      grd (0 ≤ x332 ∧ x332 < ((n330 : Nat) : Int)) <|
      grd (0 < List.length (List.drop (Int.toNat x332) c331)) <|
      getL (gp c331 (Int.toNat x332)) fun n349 c350 =>
      grd (0 ≤ x336 ∧ x336 < ((n349 : Nat) : Int)) <|
      grd (0 < List.length (List.drop (Int.toNat x336) c350)) <|
      getI .i64 (gp c350 (Int.toNat x336)) fun x355 =>
      grd (0 ≤ x334 ∧ x334 < ((n330 : Nat) : Int)) <|
      grd (0 < List.length (List.drop (Int.toNat x334) c331)) <|
      getL (gp c331 (Int.toNat x334)) fun n360 c361 =>
      grd (0 ≤ x343 ∧ x343 < ((n360 : Nat) : Int)) <|
      grd (0 < List.length (List.drop (Int.toNat x343) c361)) <|
      getI .i64 (gp c361 (Int.toNat x343)) fun x366 =>
      grd (x343 < ((n349 : Nat) : Int)) <|
      grd (0 < List.length (List.drop (Int.toNat x343) c350)) <|
      getI .i64 (gp c350 (Int.toNat x343)) fun x370 =>
      grd (x336 < ((n360 : Nat) : Int)) <|
      grd (0 < List.length (List.drop (Int.toNat x336) c361)) <|
      getI .i64 (gp c361 (Int.toNat x336)) fun x374 =>
      brn (decide ((IntKind.i64.wrap (x355 + x366)) > (IntKind.i64.wrap (x370 + x374)))) (
        some (.inl (.lst false 4 [(.int .i64 x332), (.int .i64 x334), (.int .i64 x336), (.int .i64 x343)]))) (
        m78_L3 N n330 c331 x332 x334 x336 n340 n (IntKind.i64.wrap (x343 + 1)))) (
      some (.inr ()))
def m78_L2 (N : Nat) (n330 : Nat) (c331 : List PV) (x332 : Int) (x334 : Int) : Nat → Int → Option ((PV ⊕ Unit))
  | 0, _ => none
  | n + 1, x336 =>
    grd (0 < ((n330 : Nat) : Int)) <|
    grd (0 < List.length c331) <|
    getL (gp c331 0) fun n340 c341 =>
    brn (decide (x336 < ((n340 : Nat) : Int))) (
      bnd' (m78_L3 N n330 c331 x332 x334 x336 n340 N (IntKind.i64.wrap (x336 + 1))) fun o =>
      match o with
      | .inl p376 =>
        some (.inl p376)
      | .inr () =>
        m78_L2 N n330 c331 x332 x334 n (IntKind.i64.wrap (x336 + 1))) (
      some (.inr ()))
def m78_L1 (N : Nat) (n330 : Nat) (c331 : List PV) (x332 : Int) : Nat → Int → Option ((PV ⊕ Unit))
  | 0, _ => none
  | n + 1, x334 =>
    brn (decide (x334 < ((n330 : Nat) : Int))) (
      bnd' (m78_L2 N n330 c331 x332 x334 N 0) fun o =>
      match o with
      | .inl p377 =>
        some (.inl p377)
      | .inr () =>
        m78_L1 N n330 c331 x332 n (IntKind.i64.wrap (x334 + 1))) (
      some (.inr ()))
def m78_L0 (N : Nat) (n330 : Nat) (c331 : List PV) : Nat → Int → Option ((PV ⊕ Unit))
  | 0, _ => none
  | n + 1, x332 =>
    brn (decide (x332 < ((n330 : Nat) : Int))) (
      bnd' (m78_L1 N n330 c331 x332 N (IntKind.i64.wrap (x332 + 1))) fun o =>
      match o with
      | .inl p378 =>
        some (.inl p378)
      | .inr () =>
        m78_L0 N n330 c331 n (IntKind.i64.wrap (x332 + 1))) (
      some (.inr ()))
def m78 (N : Nat) (p328 : PV) : Option (PV) :=
  getL p328 fun n330 c331 =>
  bnd' (m78_L0 N n330 c331 N 0) fun o =>
  match o with
  | .inl p379 =>
    some p379
  | .inr () =>
    some (.lst false 0 [])
theorem c78 (N : Nat) (p328 : PV) (r : PV)  (h : m78 N p328 = some r) : FnP Try.prog 78 [p328] r := by
  unfold m78 at h
  refine Fn_of (sz := 75) tab_ok [0, 2, 3, 4, 5, 6, 10, 18, 26, 36, 69] [.tmp 2] Try.func78 rfl rfl rfl (by simp) ?_
  simp only [initSt, initEnv, List.map_cons, List.map_nil, List.getD_cons_zero, List.getD_cons_succ, List.getD_nil]
  have hh := getL_some h; clear h; obtain ⟨n330, c331, h329, h⟩ := hh
  refine W_sound tab_ok mixed 9 _ _ _ ?_
  simp -implicitDefEqProofs only [go_sem, ne_eq, not_false_eq_true, Nat.reduceBEq, Nat.reduceAdd, Nat.reduceSub, Nat.reduceMul, Nat.reduceLT, Nat.reduceLeDiff, Int.reduceLE, Int.reduceLT, Int.reduceToNat, Int.reduceBEq, Int.reduceBNe, Int.le_refl, Nat.le_refl, decide_true, decide_false, Int.cast_ofNat_Int, ↓reduceIte, h329]
  repeat with_reducible refine And.intro (by first | kernel_rfl | decide) ?_
  have hh := bnd'_some h; clear h; obtain ⟨o380, h381, h382⟩ := hh
  refine Wp_cut (fun s => (.inr ()) = o380 ∧ s = ⟨[], [(0, .dead), (2, .dead), (3, .dead), (4, .dead), (5, .dead), (6, .dead), (10, .dead), (18, .dead), (26, .dead), (36, .dead), (69, .dead)], [], 0, []⟩) ?_ ?_
  · refine Wp_block ?_
    refine Wp_loopG (fun n s => ∃ x332, m78_L0 N n330 c331 n x332 = some o380 ∧ s = ⟨[], [(0, .v (.lst false n330 c331)), (2, .dead), (3, .v (.int .i64 x332)), (4, .dead), (5, .dead), (6, .dead), (10, .dead), (18, .dead), (26, .dead), (36, .dead), (69, .dead)], [], 0, []⟩) N _ ((Wk_le (.cons _ _ _ _ _ (.refl _) (.cons _ _ _ _ _ (.dead _) (.cons _ _ _ _ _ (.refl _) (.cons _ _ _ _ _ (.refl _) (.cons _ _ _ _ _ (.refl _) (.cons _ _ _ _ _ (.refl _) (.cons _ _ _ _ _ (.refl _) (.cons _ _ _ _ _ (.refl _) (.cons _ _ _ _ _ (.refl _) (.cons _ _ _ _ _ (.refl _) (.cons _ _ _ _ _ (.refl _) .nil))))))))))) (OLe.refl _)).trans (cmpS_ok (st' := ⟨[], [(0, .v (.lst false n330 c331)), (2, .dead), (3, .v (.int .i64 0)), (4, .dead), (5, .dead), (6, .dead), (10, .dead), (18, .dead), (26, .dead), (36, .dead), (69, .dead)], [], 0, []⟩) (by kernel_rfl))) ⟨_, h381, rfl⟩ ?_
    clear h381
    rintro n _ ⟨x332, h381, rfl⟩
    cases n with
    | zero => cases h381
    | succ n =>
      rw [m78_L0] at h381
      have hh := brn_some h381; clear h381; rcases hh with ⟨h333, h381⟩ | ⟨h333, h381⟩
      · refine W_sound tab_ok mixed 18 _ _ _ ?_
        simp -implicitDefEqProofs only [go_sem, ne_eq, not_false_eq_true, Nat.reduceBEq, Nat.reduceAdd, Nat.reduceSub, Nat.reduceMul, Nat.reduceLT, Nat.reduceLeDiff, Int.reduceLE, Int.reduceLT, Int.reduceToNat, Int.reduceBEq, Int.reduceBNe, Int.le_refl, Nat.le_refl, decide_true, decide_false, Int.cast_ofNat_Int, ↓reduceIte, h329, h333]
        repeat with_reducible refine And.intro (by first | kernel_rfl | decide) ?_
        have hh := bnd'_some h381; clear h381; obtain ⟨o383, h384, h385⟩ := hh
        refine Wp_cut (fun s => (.inr ()) = o383 ∧ s = ⟨[], [(0, .v (.lst false n330 c331)), (2, .dead), (3, .v (.int .i64 x332)), (4, .dead), (5, .dead), (6, .dead), (10, .dead), (18, .dead), (26, .dead), (36, .dead), (69, .dead)], [], 0, []⟩) ?_ ?_
        · refine Wp_block ?_
          refine Wp_loopG (fun n s => ∃ x334, m78_L1 N n330 c331 x332 n x334 = some o383 ∧ s = ⟨[], [(0, .v (.lst false n330 c331)), (2, .dead), (3, .v (.int .i64 x332)), (4, .v (.int .i64 x334)), (5, .dead), (6, .dead), (10, .dead), (18, .dead), (26, .dead), (36, .dead), (69, .dead)], [], 0, []⟩) N _ ((Wk_le (.cons _ _ _ _ _ (.refl _) (.cons _ _ _ _ _ (.refl _) (.cons _ _ _ _ _ (.refl _) (.cons _ _ _ _ _ (.refl _) (.cons _ _ _ _ _ (.refl _) (.cons _ _ _ _ _ (.refl _) (.cons _ _ _ _ _ (.dead _) (.cons _ _ _ _ _ (.refl _) (.cons _ _ _ _ _ (.refl _) (.cons _ _ _ _ _ (.refl _) (.cons _ _ _ _ _ (.refl _) .nil))))))))))) (OLe.refl _)).trans (cmpS_ok (st' := ⟨[], [(0, .v (.lst false n330 c331)), (2, .dead), (3, .v (.int .i64 x332)), (4, .v (.int .i64 (IntKind.i64.wrap (x332 + 1)))), (5, .dead), (6, .dead), (10, .dead), (18, .dead), (26, .dead), (36, .dead), (69, .dead)], [], 0, []⟩) (by kernel_rfl))) ⟨_, h384, rfl⟩ ?_
          clear h384
          rintro n _ ⟨x334, h384, rfl⟩
          cases n with
          | zero => cases h384
          | succ n =>
            rw [m78_L1] at h384
            have hh := brn_some h384; clear h384; rcases hh with ⟨h335, h384⟩ | ⟨h335, h384⟩
            · refine W_sound tab_ok mixed 16 _ _ _ ?_
              simp -implicitDefEqProofs only [go_sem, ne_eq, not_false_eq_true, Nat.reduceBEq, Nat.reduceAdd, Nat.reduceSub, Nat.reduceMul, Nat.reduceLT, Nat.reduceLeDiff, Int.reduceLE, Int.reduceLT, Int.reduceToNat, Int.reduceBEq, Int.reduceBNe, Int.le_refl, Nat.le_refl, decide_true, decide_false, Int.cast_ofNat_Int, ↓reduceIte, h329, h333, h335]
              repeat with_reducible refine And.intro (by first | kernel_rfl | decide) ?_
              have hh := bnd'_some h384; clear h384; obtain ⟨o386, h387, h388⟩ := hh
              refine Wp_cut (fun s => (.inr ()) = o386 ∧ s = ⟨[], [(0, .v (.lst false n330 c331)), (2, .dead), (3, .v (.int .i64 x332)), (4, .v (.int .i64 x334)), (5, .dead), (6, .dead), (10, .dead), (18, .dead), (26, .dead), (36, .dead), (69, .dead)], [], 0, []⟩) ?_ ?_
              · refine Wp_block ?_
                refine Wp_loopG (fun n s => ∃ x336, m78_L2 N n330 c331 x332 x334 n x336 = some o386 ∧ s = ⟨[], [(0, .v (.lst false n330 c331)), (2, .dead), (3, .v (.int .i64 x332)), (4, .v (.int .i64 x334)), (5, .v (.int .i64 x336)), (6, .dead), (10, .dead), (18, .dead), (26, .dead), (36, .dead), (69, .dead)], [], 0, []⟩) N _ ((Wk_le (.cons _ _ _ _ _ (.refl _) (.cons _ _ _ _ _ (.refl _) (.cons _ _ _ _ _ (.refl _) (.cons _ _ _ _ _ (.refl _) (.cons _ _ _ _ _ (.refl _) (.cons _ _ _ _ _ (.refl _) (.cons _ _ _ _ _ (.refl _) (.cons _ _ _ _ _ (.dead _) (.cons _ _ _ _ _ (.refl _) (.cons _ _ _ _ _ (.refl _) (.cons _ _ _ _ _ (.refl _) .nil))))))))))) (OLe.refl _)).trans (cmpS_ok (st' := ⟨[], [(0, .v (.lst false n330 c331)), (2, .dead), (3, .v (.int .i64 x332)), (4, .v (.int .i64 x334)), (5, .v (.int .i64 0)), (6, .dead), (10, .dead), (18, .dead), (26, .dead), (36, .dead), (69, .dead)], [], 0, []⟩) (by kernel_rfl))) ⟨_, h387, rfl⟩ ?_
                clear h387
                rintro n _ ⟨x336, h387, rfl⟩
                cases n with
                | zero => cases h387
                | succ n =>
                  rw [m78_L2] at h387
                  have hh := grd_some h387; clear h387; obtain ⟨g337, h387⟩ := hh
                  have hh := grd_some h387; clear h387; obtain ⟨g338, h387⟩ := hh
                  have hh := getL_some h387; clear h387; obtain ⟨n340, c341, h339, h387⟩ := hh
                  have hh := brn_some h387; clear h387; rcases hh with ⟨h342, h387⟩ | ⟨h342, h387⟩
                  · refine W_sound tab_ok mixed 20 _ _ _ ?_
                    simp -implicitDefEqProofs only [go_sem, ne_eq, not_false_eq_true, Nat.reduceBEq, Nat.reduceAdd, Nat.reduceSub, Nat.reduceMul, Nat.reduceLT, Nat.reduceLeDiff, Int.reduceLE, Int.reduceLT, Int.reduceToNat, Int.reduceBEq, Int.reduceBNe, Int.le_refl, Nat.le_refl, decide_true, decide_false, Int.cast_ofNat_Int, ↓reduceIte, h329, h333, h335, g337, g338, h339, h342]
                    repeat with_reducible refine And.intro (by first | kernel_rfl | decide) ?_
                    have hh := bnd'_some h387; clear h387; obtain ⟨o389, h390, h391⟩ := hh
                    refine Wp_cut (fun s => (.inr ()) = o389 ∧ s = ⟨[], [(0, .v (.lst false n330 c331)), (2, .dead), (3, .v (.int .i64 x332)), (4, .v (.int .i64 x334)), (5, .v (.int .i64 x336)), (6, .dead), (10, .dead), (18, .dead), (26, .dead), (36, .dead), (69, .dead)], [], 0, []⟩) ?_ ?_
                    · refine Wp_block ?_
                      refine Wp_loopG (fun n s => ∃ x343, m78_L3 N n330 c331 x332 x334 x336 n340 n x343 = some o389 ∧ s = ⟨[], [(0, .v (.lst false n330 c331)), (2, .dead), (3, .v (.int .i64 x332)), (4, .v (.int .i64 x334)), (5, .v (.int .i64 x336)), (6, .v (.int .i64 x343)), (10, .dead), (18, .dead), (26, .dead), (36, .dead), (69, .dead)], [], 0, []⟩) N _ ((Wk_le (.cons _ _ _ _ _ (.refl _) (.cons _ _ _ _ _ (.refl _) (.cons _ _ _ _ _ (.refl _) (.cons _ _ _ _ _ (.refl _) (.cons _ _ _ _ _ (.refl _) (.cons _ _ _ _ _ (.refl _) (.cons _ _ _ _ _ (.refl _) (.cons _ _ _ _ _ (.refl _) (.cons _ _ _ _ _ (.dead _) (.cons _ _ _ _ _ (.refl _) (.cons _ _ _ _ _ (.refl _) .nil))))))))))) (OLe.refl _)).trans (cmpS_ok (st' := ⟨[], [(0, .v (.lst false n330 c331)), (2, .dead), (3, .v (.int .i64 x332)), (4, .v (.int .i64 x334)), (5, .v (.int .i64 x336)), (6, .v (.int .i64 (IntKind.i64.wrap (x336 + 1)))), (10, .dead), (18, .dead), (26, .dead), (36, .dead), (69, .dead)], [], 0, []⟩) (by kernel_rfl))) ⟨_, h390, rfl⟩ ?_
                      clear h390
                      rintro n _ ⟨x343, h390, rfl⟩
                      cases n with
                      | zero => cases h390
                      | succ n =>
                        rw [m78_L3] at h390
                        have hh := brn_some h390; clear h390; rcases hh with ⟨h344, h390⟩ | ⟨h344, h390⟩
                        · have hh := grd_some h390; clear h390; obtain ⟨⟨g345, g346⟩, h390⟩ := hh
                          have hh := grd_some h390; clear h390; obtain ⟨g347, h390⟩ := hh
                          have hh := getL_some h390; clear h390; obtain ⟨n349, c350, h348, h390⟩ := hh
                          have hh := grd_some h390; clear h390; obtain ⟨⟨g351, g352⟩, h390⟩ := hh
                          have hh := grd_some h390; clear h390; obtain ⟨g353, h390⟩ := hh
                          have hh := getI_some h390; clear h390; obtain ⟨x355, h354, h390⟩ := hh
                          have hh := grd_some h390; clear h390; obtain ⟨⟨g356, g357⟩, h390⟩ := hh
                          have hh := grd_some h390; clear h390; obtain ⟨g358, h390⟩ := hh
                          have hh := getL_some h390; clear h390; obtain ⟨n360, c361, h359, h390⟩ := hh
                          have hh := grd_some h390; clear h390; obtain ⟨⟨g362, g363⟩, h390⟩ := hh
                          have hh := grd_some h390; clear h390; obtain ⟨g364, h390⟩ := hh
                          have hh := getI_some h390; clear h390; obtain ⟨x366, h365, h390⟩ := hh
                          have hh := grd_some h390; clear h390; obtain ⟨g367, h390⟩ := hh
                          have hh := grd_some h390; clear h390; obtain ⟨g368, h390⟩ := hh
                          have hh := getI_some h390; clear h390; obtain ⟨x370, h369, h390⟩ := hh
                          have hh := grd_some h390; clear h390; obtain ⟨g371, h390⟩ := hh
                          have hh := grd_some h390; clear h390; obtain ⟨g372, h390⟩ := hh
                          have hh := getI_some h390; clear h390; obtain ⟨x374, h373, h390⟩ := hh
                          have hh := brn_some h390; clear h390; rcases hh with ⟨h375, h390⟩ | ⟨h375, h390⟩
                          · refine W_sound tab_ok mixed 60 _ _ _ ?_
                            simp -implicitDefEqProofs only [go_sem, ne_eq, not_false_eq_true, Nat.reduceBEq, Nat.reduceAdd, Nat.reduceSub, Nat.reduceMul, Nat.reduceLT, Nat.reduceLeDiff, Int.reduceLE, Int.reduceLT, Int.reduceToNat, Int.reduceBEq, Int.reduceBNe, Int.le_refl, Nat.le_refl, decide_true, decide_false, Int.cast_ofNat_Int, ↓reduceIte, h329, h333, h335, g337, g338, h339, h342, h344, g345, g346, g347, h348, g351, g352, g353, h354, g356, g357, g358, h359, g362, g363, g364, h365, g367, g368, h369, g371, g372, h373, h375]
                            repeat with_reducible refine And.intro (by first | kernel_rfl | decide) ?_
                            refine FinQ_wk (Wk_freeze 74 [(.int .i64 x332), (.int .i64 x334), (.int .i64 x336), (.int .i64 x343)] (by rfl) (by decide) (by decide)) ?_
                            simp -implicitDefEqProofs only [go_sem, ne_eq, not_false_eq_true, Nat.reduceBEq, Nat.reduceAdd, Nat.reduceSub, Nat.reduceMul, Nat.reduceLT, Nat.reduceLeDiff, Int.reduceLE, Int.reduceLT, Int.reduceToNat, Int.reduceBEq, Int.reduceBNe, Int.le_refl, Nat.le_refl, decide_true, decide_false, Int.cast_ofNat_Int, ↓reduceIte, h329, h333, h335, g337, g338, h339, h342, h344, g345, g346, g347, h348, g351, g352, g353, h354, g356, g357, g358, h359, g362, g363, g364, h365, g367, g368, h369, g371, g372, h373, h375]
                            obtain rfl := Option.some.inj h390
                            (try dsimp only at h391)
                            obtain rfl := Option.some.inj h391
                            (try dsimp only at h388)
                            obtain rfl := Option.some.inj h388
                            (try dsimp only at h385)
                            obtain rfl := Option.some.inj h385
                            (try dsimp only at h382)
                            obtain rfl := Option.some.inj h382
                            exact finC [(2, .v (.lst true 4 [(.int .i64 x332), (.int .i64 x334), (.int .i64 x336), (.int .i64 x343)]))] [(2, .v (.lst false 4 [(.int .i64 x332), (.int .i64 x334), (.int .i64 x336), (.int .i64 x343)]))] (by simp [leE, lk_cons]) (.cons _ _ _ _ _ (.v _ _ (.lst true false _ _ _ (fun h => by first | exact h | cases h) (PLes.refl _))) .nil) (by rfl) (by simp [leE, lk_cons]) (by decide) (by decide) rfl (by simp only [go_sem, ne_eq, not_false_eq_true, Nat.reduceBEq, Nat.reduceAdd, Nat.reduceSub, Nat.reduceMul, Nat.reduceLT, Nat.reduceLeDiff, Int.reduceLE, Int.reduceLT, Int.reduceToNat, Int.reduceBEq, Int.reduceBNe, Int.le_refl, Nat.le_refl, decide_true, decide_false, Int.cast_ofNat_Int, ↓reduceIte, resQ_tmp, resQ_cell, resQ_nil, retD_one, retD_two, retD_three, retD_none]; try simp [R.val, retD_one, retD_two, retD_three, retD_none])
                          · refine W_sound tab_ok mixed 56 _ _ _ ?_
                            simp -implicitDefEqProofs only [go_sem, ne_eq, not_false_eq_true, Nat.reduceBEq, Nat.reduceAdd, Nat.reduceSub, Nat.reduceMul, Nat.reduceLT, Nat.reduceLeDiff, Int.reduceLE, Int.reduceLT, Int.reduceToNat, Int.reduceBEq, Int.reduceBNe, Int.le_refl, Nat.le_refl, decide_true, decide_false, Int.cast_ofNat_Int, ↓reduceIte, h329, h333, h335, g337, g338, h339, h342, h344, g345, g346, g347, h348, g351, g352, g353, h354, g356, g357, g358, h359, g362, g363, g364, h365, g367, g368, h369, g371, g372, h373, h375]
                            repeat with_reducible refine And.intro (by first | kernel_rfl | decide) ?_
                            exact cutQ _ ((Wk_le (.cons _ _ _ _ _ (.refl _) (.cons _ _ _ _ _ (.refl _) (.cons _ _ _ _ _ (.refl _) (.cons _ _ _ _ _ (.refl _) (.cons _ _ _ _ _ (.refl _) (.cons _ _ _ _ _ (.refl _) (.cons _ _ _ _ _ (.refl _) (.cons _ _ _ _ _ (.refl _) (.cons _ _ _ _ _ (.refl _) (.cons _ _ _ _ _ (.dead _) (.cons _ _ _ _ _ (.dead _) .nil))))))))))) (OLe.refl _)).trans (cmpS_ok (st' := ⟨[], [(0, .v (.lst false n330 c331)), (2, .dead), (3, .v (.int .i64 x332)), (4, .v (.int .i64 x334)), (5, .v (.int .i64 x336)), (6, .v (.int .i64 (IntKind.i64.wrap (x343 + 1)))), (10, .dead), (18, .dead), (26, .dead), (36, .dead), (69, .dead)], [], 0, []⟩) (by kernel_rfl))) ⟨n, Nat.lt_succ_self n, _, h390, rfl⟩
                        · refine W_sound tab_ok mixed 12 _ _ _ ?_
                          simp -implicitDefEqProofs only [go_sem, ne_eq, not_false_eq_true, Nat.reduceBEq, Nat.reduceAdd, Nat.reduceSub, Nat.reduceMul, Nat.reduceLT, Nat.reduceLeDiff, Int.reduceLE, Int.reduceLT, Int.reduceToNat, Int.reduceBEq, Int.reduceBNe, Int.le_refl, Nat.le_refl, decide_true, decide_false, Int.cast_ofNat_Int, ↓reduceIte, h329, h333, h335, g337, g338, h339, h342, h344]
                          repeat with_reducible refine And.intro (by first | kernel_rfl | decide) ?_
                          obtain rfl := Option.some.inj h390
                          exact cutQ _ ((Wk_le (.cons _ _ _ _ _ (.refl _) (.cons _ _ _ _ _ (.refl _) (.cons _ _ _ _ _ (.refl _) (.cons _ _ _ _ _ (.refl _) (.cons _ _ _ _ _ (.refl _) (.cons _ _ _ _ _ (.dead _) (.cons _ _ _ _ _ (.refl _) (.cons _ _ _ _ _ (.refl _) (.cons _ _ _ _ _ (.refl _) (.cons _ _ _ _ _ (.dead _) (.cons _ _ _ _ _ (.refl _) .nil))))))))))) (OLe.refl _)).trans (cmpS_ok (st' := ⟨[], [(0, .v (.lst false n330 c331)), (2, .dead), (3, .v (.int .i64 x332)), (4, .v (.int .i64 x334)), (5, .v (.int .i64 x336)), (6, .dead), (10, .dead), (18, .dead), (26, .dead), (36, .dead), (69, .dead)], [], 0, []⟩) (by kernel_rfl))) ⟨rfl, rfl⟩
                    · rintro _ ⟨rfl, rfl⟩
                      (try dsimp only at h391)
                      refine W_sound tab_ok mixed 6 _ _ _ ?_
                      simp -implicitDefEqProofs only [go_sem, ne_eq, not_false_eq_true, Nat.reduceBEq, Nat.reduceAdd, Nat.reduceSub, Nat.reduceMul, Nat.reduceLT, Nat.reduceLeDiff, Int.reduceLE, Int.reduceLT, Int.reduceToNat, Int.reduceBEq, Int.reduceBNe, Int.le_refl, Nat.le_refl, decide_true, decide_false, Int.cast_ofNat_Int, ↓reduceIte, h329, h333, h335, g337, g338, h339, h342]
                      repeat with_reducible refine And.intro (by first | kernel_rfl | decide) ?_
                      exact cutQ _ ((Wk_le (.cons _ _ _ _ _ (.refl _) (.cons _ _ _ _ _ (.refl _) (.cons _ _ _ _ _ (.refl _) (.cons _ _ _ _ _ (.refl _) (.cons _ _ _ _ _ (.refl _) (.cons _ _ _ _ _ (.refl _) (.cons _ _ _ _ _ (.refl _) (.cons _ _ _ _ _ (.refl _) (.cons _ _ _ _ _ (.refl _) (.cons _ _ _ _ _ (.refl _) (.cons _ _ _ _ _ (.refl _) .nil))))))))))) (OLe.refl _)).trans (cmpS_ok (st' := ⟨[], [(0, .v (.lst false n330 c331)), (2, .dead), (3, .v (.int .i64 x332)), (4, .v (.int .i64 x334)), (5, .v (.int .i64 (IntKind.i64.wrap (x336 + 1)))), (6, .dead), (10, .dead), (18, .dead), (26, .dead), (36, .dead), (69, .dead)], [], 0, []⟩) (by kernel_rfl))) ⟨n, Nat.lt_succ_self n, _, h391, rfl⟩
                  · refine W_sound tab_ok mixed 12 _ _ _ ?_
                    simp -implicitDefEqProofs only [go_sem, ne_eq, not_false_eq_true, Nat.reduceBEq, Nat.reduceAdd, Nat.reduceSub, Nat.reduceMul, Nat.reduceLT, Nat.reduceLeDiff, Int.reduceLE, Int.reduceLT, Int.reduceToNat, Int.reduceBEq, Int.reduceBNe, Int.le_refl, Nat.le_refl, decide_true, decide_false, Int.cast_ofNat_Int, ↓reduceIte, h329, h333, h335, g337, g338, h339, h342]
                    repeat with_reducible refine And.intro (by first | kernel_rfl | decide) ?_
                    obtain rfl := Option.some.inj h387
                    exact cutQ _ ((Wk_le (.cons _ _ _ _ _ (.refl _) (.cons _ _ _ _ _ (.refl _) (.cons _ _ _ _ _ (.refl _) (.cons _ _ _ _ _ (.refl _) (.cons _ _ _ _ _ (.dead _) (.cons _ _ _ _ _ (.refl _) (.cons _ _ _ _ _ (.refl _) (.cons _ _ _ _ _ (.refl _) (.cons _ _ _ _ _ (.dead _) (.cons _ _ _ _ _ (.refl _) (.cons _ _ _ _ _ (.refl _) .nil))))))))))) (OLe.refl _)).trans (cmpS_ok (st' := ⟨[], [(0, .v (.lst false n330 c331)), (2, .dead), (3, .v (.int .i64 x332)), (4, .v (.int .i64 x334)), (5, .dead), (6, .dead), (10, .dead), (18, .dead), (26, .dead), (36, .dead), (69, .dead)], [], 0, []⟩) (by kernel_rfl))) ⟨rfl, rfl⟩
              · rintro _ ⟨rfl, rfl⟩
                (try dsimp only at h388)
                refine W_sound tab_ok mixed 6 _ _ _ ?_
                simp -implicitDefEqProofs only [go_sem, ne_eq, not_false_eq_true, Nat.reduceBEq, Nat.reduceAdd, Nat.reduceSub, Nat.reduceMul, Nat.reduceLT, Nat.reduceLeDiff, Int.reduceLE, Int.reduceLT, Int.reduceToNat, Int.reduceBEq, Int.reduceBNe, Int.le_refl, Nat.le_refl, decide_true, decide_false, Int.cast_ofNat_Int, ↓reduceIte, h329, h333, h335]
                repeat with_reducible refine And.intro (by first | kernel_rfl | decide) ?_
                exact cutQ _ ((Wk_le (.cons _ _ _ _ _ (.refl _) (.cons _ _ _ _ _ (.refl _) (.cons _ _ _ _ _ (.refl _) (.cons _ _ _ _ _ (.refl _) (.cons _ _ _ _ _ (.refl _) (.cons _ _ _ _ _ (.refl _) (.cons _ _ _ _ _ (.refl _) (.cons _ _ _ _ _ (.refl _) (.cons _ _ _ _ _ (.refl _) (.cons _ _ _ _ _ (.refl _) (.cons _ _ _ _ _ (.refl _) .nil))))))))))) (OLe.refl _)).trans (cmpS_ok (st' := ⟨[], [(0, .v (.lst false n330 c331)), (2, .dead), (3, .v (.int .i64 x332)), (4, .v (.int .i64 (IntKind.i64.wrap (x334 + 1)))), (5, .dead), (6, .dead), (10, .dead), (18, .dead), (26, .dead), (36, .dead), (69, .dead)], [], 0, []⟩) (by kernel_rfl))) ⟨n, Nat.lt_succ_self n, _, h388, rfl⟩
            · refine W_sound tab_ok mixed 10 _ _ _ ?_
              simp -implicitDefEqProofs only [go_sem, ne_eq, not_false_eq_true, Nat.reduceBEq, Nat.reduceAdd, Nat.reduceSub, Nat.reduceMul, Nat.reduceLT, Nat.reduceLeDiff, Int.reduceLE, Int.reduceLT, Int.reduceToNat, Int.reduceBEq, Int.reduceBNe, Int.le_refl, Nat.le_refl, decide_true, decide_false, Int.cast_ofNat_Int, ↓reduceIte, h329, h333, h335]
              repeat with_reducible refine And.intro (by first | kernel_rfl | decide) ?_
              obtain rfl := Option.some.inj h384
              exact cutQ _ ((Wk_le (.cons _ _ _ _ _ (.refl _) (.cons _ _ _ _ _ (.refl _) (.cons _ _ _ _ _ (.refl _) (.cons _ _ _ _ _ (.dead _) (.cons _ _ _ _ _ (.refl _) (.cons _ _ _ _ _ (.refl _) (.cons _ _ _ _ _ (.refl _) (.cons _ _ _ _ _ (.dead _) (.cons _ _ _ _ _ (.refl _) (.cons _ _ _ _ _ (.refl _) (.cons _ _ _ _ _ (.refl _) .nil))))))))))) (OLe.refl _)).trans (cmpS_ok (st' := ⟨[], [(0, .v (.lst false n330 c331)), (2, .dead), (3, .v (.int .i64 x332)), (4, .dead), (5, .dead), (6, .dead), (10, .dead), (18, .dead), (26, .dead), (36, .dead), (69, .dead)], [], 0, []⟩) (by kernel_rfl))) ⟨rfl, rfl⟩
        · rintro _ ⟨rfl, rfl⟩
          (try dsimp only at h385)
          refine W_sound tab_ok mixed 6 _ _ _ ?_
          simp -implicitDefEqProofs only [go_sem, ne_eq, not_false_eq_true, Nat.reduceBEq, Nat.reduceAdd, Nat.reduceSub, Nat.reduceMul, Nat.reduceLT, Nat.reduceLeDiff, Int.reduceLE, Int.reduceLT, Int.reduceToNat, Int.reduceBEq, Int.reduceBNe, Int.le_refl, Nat.le_refl, decide_true, decide_false, Int.cast_ofNat_Int, ↓reduceIte, h329, h333]
          repeat with_reducible refine And.intro (by first | kernel_rfl | decide) ?_
          exact cutQ _ ((Wk_le (.cons _ _ _ _ _ (.refl _) (.cons _ _ _ _ _ (.refl _) (.cons _ _ _ _ _ (.refl _) (.cons _ _ _ _ _ (.refl _) (.cons _ _ _ _ _ (.refl _) (.cons _ _ _ _ _ (.refl _) (.cons _ _ _ _ _ (.refl _) (.cons _ _ _ _ _ (.refl _) (.cons _ _ _ _ _ (.refl _) (.cons _ _ _ _ _ (.refl _) (.cons _ _ _ _ _ (.refl _) .nil))))))))))) (OLe.refl _)).trans (cmpS_ok (st' := ⟨[], [(0, .v (.lst false n330 c331)), (2, .dead), (3, .v (.int .i64 (IntKind.i64.wrap (x332 + 1)))), (4, .dead), (5, .dead), (6, .dead), (10, .dead), (18, .dead), (26, .dead), (36, .dead), (69, .dead)], [], 0, []⟩) (by kernel_rfl))) ⟨n, Nat.lt_succ_self n, _, h385, rfl⟩
      · refine W_sound tab_ok mixed 10 _ _ _ ?_
        simp -implicitDefEqProofs only [go_sem, ne_eq, not_false_eq_true, Nat.reduceBEq, Nat.reduceAdd, Nat.reduceSub, Nat.reduceMul, Nat.reduceLT, Nat.reduceLeDiff, Int.reduceLE, Int.reduceLT, Int.reduceToNat, Int.reduceBEq, Int.reduceBNe, Int.le_refl, Nat.le_refl, decide_true, decide_false, Int.cast_ofNat_Int, ↓reduceIte, h329, h333]
        repeat with_reducible refine And.intro (by first | kernel_rfl | decide) ?_
        obtain rfl := Option.some.inj h381
        exact cutQ _ ((Wk_le (.cons _ _ _ _ _ (.dead _) (.cons _ _ _ _ _ (.refl _) (.cons _ _ _ _ _ (.dead _) (.cons _ _ _ _ _ (.refl _) (.cons _ _ _ _ _ (.refl _) (.cons _ _ _ _ _ (.refl _) (.cons _ _ _ _ _ (.dead _) (.cons _ _ _ _ _ (.refl _) (.cons _ _ _ _ _ (.refl _) (.cons _ _ _ _ _ (.refl _) (.cons _ _ _ _ _ (.refl _) .nil))))))))))) (OLe.refl _)).trans (cmpS_ok (st' := ⟨[], [(0, .dead), (2, .dead), (3, .dead), (4, .dead), (5, .dead), (6, .dead), (10, .dead), (18, .dead), (26, .dead), (36, .dead), (69, .dead)], [], 0, []⟩) (by kernel_rfl))) ⟨rfl, rfl⟩
  · rintro _ ⟨rfl, rfl⟩
    (try dsimp only at h382)
    refine W_sound tab_ok mixed 6 _ _ _ ?_
    simp -implicitDefEqProofs only [go_sem, ne_eq, not_false_eq_true, Nat.reduceBEq, Nat.reduceAdd, Nat.reduceSub, Nat.reduceMul, Nat.reduceLT, Nat.reduceLeDiff, Int.reduceLE, Int.reduceLT, Int.reduceToNat, Int.reduceBEq, Int.reduceBNe, Int.le_refl, Nat.le_refl, decide_true, decide_false, Int.cast_ofNat_Int, ↓reduceIte, h329]
    repeat with_reducible refine And.intro (by first | kernel_rfl | decide) ?_
    obtain rfl := Option.some.inj h382
    exact finC [(2, .v .nl)] [(2, .v (.lst false 0 []))] (by simp [leE, lk_cons]) (.cons _ _ _ _ _ (.v _ _ (.nl false)) .nil) (by rfl) (by simp [leE, lk_cons]) (by decide) (by decide) rfl (by simp only [go_sem, ne_eq, not_false_eq_true, Nat.reduceBEq, Nat.reduceAdd, Nat.reduceSub, Nat.reduceMul, Nat.reduceLT, Nat.reduceLeDiff, Int.reduceLE, Int.reduceLT, Int.reduceToNat, Int.reduceBEq, Int.reduceBNe, Int.le_refl, Nat.le_refl, decide_true, decide_false, Int.cast_ofNat_Int, ↓reduceIte, resQ_tmp, resQ_cell, resQ_nil, retD_one, retD_two, retD_three, retD_none]; try simp [R.val, retD_one, retD_two, retD_three, retD_none])

def m32 (N : Nat) (p262 : PV) : Option (PV) :=
  getL p262 fun n264 c265 =>
  bnd' (m24 N (.lst false n264 c265)) fun p323 =>
  getI .i64 p323 fun x326 =>
  brn (x326 != 0) (
    some (.tup [(.bool false), (.int .i64 x326)])) (
    bnd' (m78 N (.lst false n264 c265)) fun p392 =>
    getL p392 fun n395 c396 =>
    some (.tup [(.bool (((n395 : Nat) : Int) == 0)), (.int .i64 0)]))
theorem c32 (N : Nat) (p262 : PV) (r : PV)  (h : m32 N p262 = some r) : FnP Try.prog 32 [p262] r := by
  unfold m32 at h
  refine Fn_of (sz := 14) tab_ok [0, 2, 3, 4, 8] [.tmp 2, .tmp 3] Try.func32 rfl rfl rfl (by simp) ?_
  simp only [initSt, initEnv, List.map_cons, List.map_nil, List.getD_cons_zero, List.getD_cons_succ, List.getD_nil]
  have hh := getL_some h; clear h; obtain ⟨n264, c265, h263, h⟩ := hh
  have hh := bnd'_some h; clear h; obtain ⟨p323, h324, h⟩ := hh
  refine W_sound tab_ok mixed 8 _ _ _ ?_
  simp -implicitDefEqProofs only [go_sem, ne_eq, not_false_eq_true, Nat.reduceBEq, Nat.reduceAdd, Nat.reduceSub, Nat.reduceMul, Nat.reduceLT, Nat.reduceLeDiff, Int.reduceLE, Int.reduceLT, Int.reduceToNat, Int.reduceBEq, Int.reduceBNe, Int.le_refl, Nat.le_refl, decide_true, decide_false, Int.cast_ofNat_Int, ↓reduceIte, h263]
  repeat with_reducible refine And.intro (by first | kernel_rfl | decide) ?_
  refine Wp_callP (c24 N _ _ h324) (by kernel_rfl) rfl rfl rfl rfl (by decide) ?_
  have hh := getI_some h; clear h; obtain ⟨x326, h325, h⟩ := hh
  have hh := brn_some h; clear h; rcases hh with ⟨h327, h⟩ | ⟨h327, h⟩
  · refine W_sound tab_ok mixed 17 _ _ _ ?_
    simp -implicitDefEqProofs only [go_sem, ne_eq, not_false_eq_true, Nat.reduceBEq, Nat.reduceAdd, Nat.reduceSub, Nat.reduceMul, Nat.reduceLT, Nat.reduceLeDiff, Int.reduceLE, Int.reduceLT, Int.reduceToNat, Int.reduceBEq, Int.reduceBNe, Int.le_refl, Nat.le_refl, decide_true, decide_false, Int.cast_ofNat_Int, ↓reduceIte, h263, h325, h327]
    repeat with_reducible refine And.intro (by first | kernel_rfl | decide) ?_
    obtain rfl := Option.some.inj h
    exact finC [(2, .v (.bool false)), (3, .v (.int .i64 x326))] [(2, .v (.bool false)), (3, .v (.int .i64 x326))] (by simp [leE, lk_cons]) (.cons _ _ _ _ _ (.v _ _ (.refl _)) (.cons _ _ _ _ _ (.v _ _ (.refl _)) .nil)) (by rfl) (by simp [leE, lk_cons]) (by decide) (by decide) rfl (by simp only [go_sem, ne_eq, not_false_eq_true, Nat.reduceBEq, Nat.reduceAdd, Nat.reduceSub, Nat.reduceMul, Nat.reduceLT, Nat.reduceLeDiff, Int.reduceLE, Int.reduceLT, Int.reduceToNat, Int.reduceBEq, Int.reduceBNe, Int.le_refl, Nat.le_refl, decide_true, decide_false, Int.cast_ofNat_Int, ↓reduceIte, resQ_tmp, resQ_cell, resQ_nil, retD_one, retD_two, retD_three, retD_none]; try simp [R.val, retD_one, retD_two, retD_three, retD_none])
  · have hh := bnd'_some h; clear h; obtain ⟨p392, h393, h⟩ := hh
    refine W_sound tab_ok mixed 13 _ _ _ ?_
    simp -implicitDefEqProofs only [go_sem, ne_eq, not_false_eq_true, Nat.reduceBEq, Nat.reduceAdd, Nat.reduceSub, Nat.reduceMul, Nat.reduceLT, Nat.reduceLeDiff, Int.reduceLE, Int.reduceLT, Int.reduceToNat, Int.reduceBEq, Int.reduceBNe, Int.le_refl, Nat.le_refl, decide_true, decide_false, Int.cast_ofNat_Int, ↓reduceIte, h263, h325, h327]
    repeat with_reducible refine And.intro (by first | kernel_rfl | decide) ?_
    refine Wp_callP (c78 N _ _ h393) (by kernel_rfl) rfl rfl rfl rfl (by decide) ?_
    have hh := getL_some h; clear h; obtain ⟨n395, c396, h394, h⟩ := hh
    refine W_sound tab_ok mixed 7 _ _ _ ?_
    simp -implicitDefEqProofs only [go_sem, ne_eq, not_false_eq_true, Nat.reduceBEq, Nat.reduceAdd, Nat.reduceSub, Nat.reduceMul, Nat.reduceLT, Nat.reduceLeDiff, Int.reduceLE, Int.reduceLT, Int.reduceToNat, Int.reduceBEq, Int.reduceBNe, Int.le_refl, Nat.le_refl, decide_true, decide_false, Int.cast_ofNat_Int, ↓reduceIte, h263, h325, h327, h394]
    repeat with_reducible refine And.intro (by first | kernel_rfl | decide) ?_
    obtain rfl := Option.some.inj h
    exact finC [(2, .v (.bool (((n395 : Nat) : Int) == 0))), (3, .v (.int .i64 0))] [(2, .v (.bool (((n395 : Nat) : Int) == 0))), (3, .v (.int .i64 0))] (by simp [leE, lk_cons]) (.cons _ _ _ _ _ (.v _ _ (.refl _)) (.cons _ _ _ _ _ (.v _ _ (.refl _)) .nil)) (by rfl) (by simp [leE, lk_cons]) (by decide) (by decide) rfl (by simp only [go_sem, ne_eq, not_false_eq_true, Nat.reduceBEq, Nat.reduceAdd, Nat.reduceSub, Nat.reduceMul, Nat.reduceLT, Nat.reduceLeDiff, Int.reduceLE, Int.reduceLT, Int.reduceToNat, Int.reduceBEq, Int.reduceBNe, Int.le_refl, Nat.le_refl, decide_true, decide_false, Int.cast_ofNat_Int, ↓reduceIte, resQ_tmp, resQ_cell, resQ_nil, retD_one, retD_two, retD_three, retD_none]; try simp [R.val, retD_one, retD_two, retD_three, retD_none])

def m34 (N : Nat) (p397 : PV) : Option (PV) :=
  getL p397 fun n399 c400 =>
  bnd' (m24 N (.lst false n399 c400)) fun p401 =>
  getI .i64 p401 fun x404 =>
  brn (x404 != 0) (
    some (.tup [(.lst false 0 []), (.int .i64 x404)])) (
    bnd' (m78 N (.lst false n399 c400)) fun p406 =>
    getL p406 fun n409 c410 =>
    brn (((n409 : Nat) : Int) == 0) (
      some (.tup [(.lst false 0 []), (.int .i64 13)])) (
      some (.tup [(.lst false n409 c410), (.int .i64 0)])))
theorem c34 (N : Nat) (p397 : PV) (r : PV)  (h : m34 N p397 = some r) : FnP Try.prog 34 [p397] r := by
  unfold m34 at h
  refine Fn_of (sz := 17) tab_ok [0, 2, 3, 4, 5, 9, 15] [.tmp 2, .tmp 3] Try.func34 rfl rfl rfl (by simp) ?_
  simp only [initSt, initEnv, List.map_cons, List.map_nil, List.getD_cons_zero, List.getD_cons_succ, List.getD_nil]
  have hh := getL_some h; clear h; obtain ⟨n399, c400, h398, h⟩ := hh
  have hh := bnd'_some h; clear h; obtain ⟨p401, h402, h⟩ := hh
  refine W_sound tab_ok mixed 8 _ _ _ ?_
  simp -implicitDefEqProofs only [go_sem, ne_eq, not_false_eq_true, Nat.reduceBEq, Nat.reduceAdd, Nat.reduceSub, Nat.reduceMul, Nat.reduceLT, Nat.reduceLeDiff, Int.reduceLE, Int.reduceLT, Int.reduceToNat, Int.reduceBEq, Int.reduceBNe, Int.le_refl, Nat.le_refl, decide_true, decide_false, Int.cast_ofNat_Int, ↓reduceIte, h398]
  repeat with_reducible refine And.intro (by first | kernel_rfl | decide) ?_
  refine Wp_callP (c24 N _ _ h402) (by kernel_rfl) rfl rfl rfl rfl (by decide) ?_
  have hh := getI_some h; clear h; obtain ⟨x404, h403, h⟩ := hh
  have hh := brn_some h; clear h; rcases hh with ⟨h405, h⟩ | ⟨h405, h⟩
  · refine W_sound tab_ok mixed 17 _ _ _ ?_
    simp -implicitDefEqProofs only [go_sem, ne_eq, not_false_eq_true, Nat.reduceBEq, Nat.reduceAdd, Nat.reduceSub, Nat.reduceMul, Nat.reduceLT, Nat.reduceLeDiff, Int.reduceLE, Int.reduceLT, Int.reduceToNat, Int.reduceBEq, Int.reduceBNe, Int.le_refl, Nat.le_refl, decide_true, decide_false, Int.cast_ofNat_Int, ↓reduceIte, h398, h403, h405]
    repeat with_reducible refine And.intro (by first | kernel_rfl | decide) ?_
    obtain rfl := Option.some.inj h
    exact finC [(2, .v .nl), (3, .v (.int .i64 x404))] [(2, .v (.lst false 0 [])), (3, .v (.int .i64 x404))] (by simp [leE, lk_cons]) (.cons _ _ _ _ _ (.v _ _ (.nl false)) (.cons _ _ _ _ _ (.v _ _ (.refl _)) .nil)) (by rfl) (by simp [leE, lk_cons]) (by decide) (by decide) rfl (by simp only [go_sem, ne_eq, not_false_eq_true, Nat.reduceBEq, Nat.reduceAdd, Nat.reduceSub, Nat.reduceMul, Nat.reduceLT, Nat.reduceLeDiff, Int.reduceLE, Int.reduceLT, Int.reduceToNat, Int.reduceBEq, Int.reduceBNe, Int.le_refl, Nat.le_refl, decide_true, decide_false, Int.cast_ofNat_Int, ↓reduceIte, resQ_tmp, resQ_cell, resQ_nil, retD_one, retD_two, retD_three, retD_none]; try simp [R.val, retD_one, retD_two, retD_three, retD_none])
  · have hh := bnd'_some h; clear h; obtain ⟨p406, h407, h⟩ := hh
    refine W_sound tab_ok mixed 13 _ _ _ ?_
    simp -implicitDefEqProofs only [go_sem, ne_eq, not_false_eq_true, Nat.reduceBEq, Nat.reduceAdd, Nat.reduceSub, Nat.reduceMul, Nat.reduceLT, Nat.reduceLeDiff, Int.reduceLE, Int.reduceLT, Int.reduceToNat, Int.reduceBEq, Int.reduceBNe, Int.le_refl, Nat.le_refl, decide_true, decide_false, Int.cast_ofNat_Int, ↓reduceIte, h398, h403, h405]
    repeat with_reducible refine And.intro (by first | kernel_rfl | decide) ?_
    refine Wp_callP (c78 N _ _ h407) (by kernel_rfl) rfl rfl rfl rfl (by decide) ?_
    have hh := getL_some h; clear h; obtain ⟨n409, c410, h408, h⟩ := hh
    have hh := brn_some h; clear h; rcases hh with ⟨h411, h⟩ | ⟨h411, h⟩
    · refine W_sound tab_ok mixed 17 _ _ _ ?_
      simp -implicitDefEqProofs only [go_sem, ne_eq, not_false_eq_true, Nat.reduceBEq, Nat.reduceAdd, Nat.reduceSub, Nat.reduceMul, Nat.reduceLT, Nat.reduceLeDiff, Int.reduceLE, Int.reduceLT, Int.reduceToNat, Int.reduceBEq, Int.reduceBNe, Int.le_refl, Nat.le_refl, decide_true, decide_false, Int.cast_ofNat_Int, ↓reduceIte, h398, h403, h405, h408, h411]
      repeat with_reducible refine And.intro (by first | kernel_rfl | decide) ?_
      obtain rfl := Option.some.inj h
      exact finC [(2, .v .nl), (3, .v (.int .i64 13))] [(2, .v (.lst false 0 [])), (3, .v (.int .i64 13))] (by simp [leE, lk_cons]) (.cons _ _ _ _ _ (.v _ _ (.nl false)) (.cons _ _ _ _ _ (.v _ _ (.refl _)) .nil)) (by rfl) (by simp [leE, lk_cons]) (by decide) (by decide) rfl (by simp only [go_sem, ne_eq, not_false_eq_true, Nat.reduceBEq, Nat.reduceAdd, Nat.reduceSub, Nat.reduceMul, Nat.reduceLT, Nat.reduceLeDiff, Int.reduceLE, Int.reduceLT, Int.reduceToNat, Int.reduceBEq, Int.reduceBNe, Int.le_refl, Nat.le_refl, decide_true, decide_false, Int.cast_ofNat_Int, ↓reduceIte, resQ_tmp, resQ_cell, resQ_nil, retD_one, retD_two, retD_three, retD_none]; try simp [R.val, retD_one, retD_two, retD_three, retD_none])
    · refine W_sound tab_ok mixed 19 _ _ _ ?_
      simp -implicitDefEqProofs only [go_sem, ne_eq, not_false_eq_true, Nat.reduceBEq, Nat.reduceAdd, Nat.reduceSub, Nat.reduceMul, Nat.reduceLT, Nat.reduceLeDiff, Int.reduceLE, Int.reduceLT, Int.reduceToNat, Int.reduceBEq, Int.reduceBNe, Int.le_refl, Nat.le_refl, decide_true, decide_false, Int.cast_ofNat_Int, ↓reduceIte, h398, h403, h405, h408, h411]
      repeat with_reducible refine And.intro (by first | kernel_rfl | decide) ?_
      obtain rfl := Option.some.inj h
      exact finC [(2, .v (.lst false n409 c410)), (3, .v (.int .i64 0))] [(2, .v (.lst false n409 c410)), (3, .v (.int .i64 0))] (by simp [leE, lk_cons]) (.cons _ _ _ _ _ (.v _ _ (.refl _)) (.cons _ _ _ _ _ (.v _ _ (.refl _)) .nil)) (by rfl) (by simp [leE, lk_cons]) (by decide) (by decide) rfl (by simp only [go_sem, ne_eq, not_false_eq_true, Nat.reduceBEq, Nat.reduceAdd, Nat.reduceSub, Nat.reduceMul, Nat.reduceLT, Nat.reduceLeDiff, Int.reduceLE, Int.reduceLT, Int.reduceToNat, Int.reduceBEq, Int.reduceBNe, Int.le_refl, Nat.le_refl, decide_true, decide_false, Int.cast_ofNat_Int, ↓reduceIte, resQ_tmp, resQ_cell, resQ_nil, retD_one, retD_two, retD_three, retD_none]; try simp [R.val, retD_one, retD_two, retD_three, retD_none])

def m37_L0 (N : Nat) (n415 : Nat) (c416 : List PV) (n418 : Nat) (c419 : List PV) : Nat → Int → Option ((PV ⊕ Unit))
  | 0, _ => none
  | n + 1, x421 =>
    brn (decide (x421 < ((n415 : Nat) : Int))) (
      grd (0 ≤ x421 ∧ x421 < ((n415 : Nat) : Int)) <|
      grd (0 < List.length (List.drop (Int.toNat x421) c416)) <|
      getI .i64 (gp c416 (Int.toNat x421)) fun x427 =>
      grd (x421 < ((n418 : Nat) : Int)) <|
      grd (0 < List.length (List.drop (Int.toNat x421) c419)) <|
      getI .i64 (gp c419 (Int.toNat x421)) fun x431 =>
      brn (x427 != x431) (
        some (.inl (.bool false))) (
        m37_L0 N n415 c416 n418 c419 n (IntKind.i64.wrap (x421 + 1)))) (
      some (.inr ()))
def m37 (N : Nat) (p412 : PV) (p413 : PV) : Option (PV) :=
  getL p412 fun n415 c416 =>
  getL p413 fun n418 c419 =>
  brn (((n415 : Nat) : Int) != ((n418 : Nat) : Int)) (
    some (.bool false)) (
    bnd' (m37_L0 N n415 c416 n418 c419 N 0) fun o =>
    match o with
    | .inl p433 =>
      some p433
    | .inr () =>
      some (.bool true))
theorem c37 (N : Nat) (p412 : PV) (p413 : PV) (r : PV)  (h : m37 N p412 p413 = some r) : FnP Try.prog 37 [p412, p413] r := by
  unfold m37 at h
  refine Fn_of (sz := 26) tab_ok [0, 1, 4, 5, 10, 14, 25] [.tmp 4] Try.func37 rfl rfl rfl (by simp) ?_
  simp only [initSt, initEnv, List.map_cons, List.map_nil, List.getD_cons_zero, List.getD_cons_succ, List.getD_nil]
  have hh := getL_some h; clear h; obtain ⟨n415, c416, h414, h⟩ := hh
  have hh := getL_some h; clear h; obtain ⟨n418, c419, h417, h⟩ := hh
  have hh := brn_some h; clear h; rcases hh with ⟨h420, h⟩ | ⟨h420, h⟩
  · refine W_sound tab_ok mixed 20 _ _ _ ?_
    simp -implicitDefEqProofs only [go_sem, ne_eq, not_false_eq_true, Nat.reduceBEq, Nat.reduceAdd, Nat.reduceSub, Nat.reduceMul, Nat.reduceLT, Nat.reduceLeDiff, Int.reduceLE, Int.reduceLT, Int.reduceToNat, Int.reduceBEq, Int.reduceBNe, Int.le_refl, Nat.le_refl, decide_true, decide_false, Int.cast_ofNat_Int, ↓reduceIte, h414, h417, h420]
    repeat with_reducible refine And.intro (by first | kernel_rfl | decide) ?_
    obtain rfl := Option.some.inj h
    exact finC [(4, .v (.bool false))] [(4, .v (.bool false))] (by simp [leE, lk_cons]) (.cons _ _ _ _ _ (.v _ _ (.refl _)) .nil) (by rfl) (by simp [leE, lk_cons]) (by decide) (by decide) rfl (by simp only [go_sem, ne_eq, not_false_eq_true, Nat.reduceBEq, Nat.reduceAdd, Nat.reduceSub, Nat.reduceMul, Nat.reduceLT, Nat.reduceLeDiff, Int.reduceLE, Int.reduceLT, Int.reduceToNat, Int.reduceBEq, Int.reduceBNe, Int.le_refl, Nat.le_refl, decide_true, decide_false, Int.cast_ofNat_Int, ↓reduceIte, resQ_tmp, resQ_cell, resQ_nil, retD_one, retD_two, retD_three, retD_none]; try simp [R.val, retD_one, retD_two, retD_three, retD_none])
  · refine W_sound tab_ok mixed 20 _ _ _ ?_
    simp -implicitDefEqProofs only [go_sem, ne_eq, not_false_eq_true, Nat.reduceBEq, Nat.reduceAdd, Nat.reduceSub, Nat.reduceMul, Nat.reduceLT, Nat.reduceLeDiff, Int.reduceLE, Int.reduceLT, Int.reduceToNat, Int.reduceBEq, Int.reduceBNe, Int.le_refl, Nat.le_refl, decide_true, decide_false, Int.cast_ofNat_Int, ↓reduceIte, h414, h417, h420]
    repeat with_reducible refine And.intro (by first | kernel_rfl | decide) ?_
    have hh := bnd'_some h; clear h; obtain ⟨o434, h435, h436⟩ := hh
    refine Wp_cut (fun s => (.inr ()) = o434 ∧ s = ⟨[], [(0, .dead), (1, .dead), (4, .dead), (5, .dead), (10, .dead), (14, .dead), (25, .dead)], [], 0, []⟩) ?_ ?_
    · refine Wp_block ?_
      refine Wp_loopG (fun n s => ∃ x421, m37_L0 N n415 c416 n418 c419 n x421 = some o434 ∧ s = ⟨[], [(0, .v (.lst false n415 c416)), (1, .v (.lst false n418 c419)), (4, .dead), (5, .v (.int .i64 x421)), (10, .dead), (14, .dead), (25, .dead)], [], 0, []⟩) N _ ((Wk_le (.cons _ _ _ _ _ (.refl _) (.cons _ _ _ _ _ (.refl _) (.cons _ _ _ _ _ (.dead _) (.cons _ _ _ _ _ (.refl _) (.cons _ _ _ _ _ (.dead _) (.cons _ _ _ _ _ (.refl _) (.cons _ _ _ _ _ (.refl _) .nil))))))) (OLe.refl _)).trans (cmpS_ok rfl)) ⟨_, h435, rfl⟩ ?_
      clear h435
      rintro n _ ⟨x421, h435, rfl⟩
      cases n with
      | zero => cases h435
      | succ n =>
        rw [m37_L0] at h435
        have hh := brn_some h435; clear h435; rcases hh with ⟨h422, h435⟩ | ⟨h422, h435⟩
        · have hh := grd_some h435; clear h435; obtain ⟨⟨g423, g424⟩, h435⟩ := hh
          have hh := grd_some h435; clear h435; obtain ⟨g425, h435⟩ := hh
          have hh := getI_some h435; clear h435; obtain ⟨x427, h426, h435⟩ := hh
          have hh := grd_some h435; clear h435; obtain ⟨g428, h435⟩ := hh
          have hh := grd_some h435; clear h435; obtain ⟨g429, h435⟩ := hh
          have hh := getI_some h435; clear h435; obtain ⟨x431, h430, h435⟩ := hh
          have hh := brn_some h435; clear h435; rcases hh with ⟨h432, h435⟩ | ⟨h432, h435⟩
          · refine W_sound tab_ok mixed 31 _ _ _ ?_
            simp -implicitDefEqProofs only [go_sem, ne_eq, not_false_eq_true, Nat.reduceBEq, Nat.reduceAdd, Nat.reduceSub, Nat.reduceMul, Nat.reduceLT, Nat.reduceLeDiff, Int.reduceLE, Int.reduceLT, Int.reduceToNat, Int.reduceBEq, Int.reduceBNe, Int.le_refl, Nat.le_refl, decide_true, decide_false, Int.cast_ofNat_Int, ↓reduceIte, h414, h417, h420, h422, g423, g424, g425, h426, g428, g429, h430, h432]
            repeat with_reducible refine And.intro (by first | kernel_rfl | decide) ?_
            obtain rfl := Option.some.inj h435
            (try dsimp only at h436)
            obtain rfl := Option.some.inj h436
            exact finC [(4, .v (.bool false))] [(4, .v (.bool false))] (by simp [leE, lk_cons]) (.cons _ _ _ _ _ (.v _ _ (.refl _)) .nil) (by rfl) (by simp [leE, lk_cons]) (by decide) (by decide) rfl (by simp only [go_sem, ne_eq, not_false_eq_true, Nat.reduceBEq, Nat.reduceAdd, Nat.reduceSub, Nat.reduceMul, Nat.reduceLT, Nat.reduceLeDiff, Int.reduceLE, Int.reduceLT, Int.reduceToNat, Int.reduceBEq, Int.reduceBNe, Int.le_refl, Nat.le_refl, decide_true, decide_false, Int.cast_ofNat_Int, ↓reduceIte, resQ_tmp, resQ_cell, resQ_nil, retD_one, retD_two, retD_three, retD_none]; try simp [R.val, retD_one, retD_two, retD_three, retD_none])
          · refine W_sound tab_ok mixed 32 _ _ _ ?_
            simp -implicitDefEqProofs only [go_sem, ne_eq, not_false_eq_true, Nat.reduceBEq, Nat.reduceAdd, Nat.reduceSub, Nat.reduceMul, Nat.reduceLT, Nat.reduceLeDiff, Int.reduceLE, Int.reduceLT, Int.reduceToNat, Int.reduceBEq, Int.reduceBNe, Int.le_refl, Nat.le_refl, decide_true, decide_false, Int.cast_ofNat_Int, ↓reduceIte, h414, h417, h420, h422, g423, g424, g425, h426, g428, g429, h430, h432]
            repeat with_reducible refine And.intro (by first | kernel_rfl | decide) ?_
            exact cutQ _ ((Wk_le (.cons _ _ _ _ _ (.refl _) (.cons _ _ _ _ _ (.refl _) (.cons _ _ _ _ _ (.refl _) (.cons _ _ _ _ _ (.refl _) (.cons _ _ _ _ _ (.refl _) (.cons _ _ _ _ _ (.dead _) (.cons _ _ _ _ _ (.dead _) .nil))))))) (OLe.refl _)).trans (cmpS_ok rfl)) ⟨n, Nat.lt_succ_self n, _, h435, rfl⟩
        · refine W_sound tab_ok mixed 10 _ _ _ ?_
          simp -implicitDefEqProofs only [go_sem, ne_eq, not_false_eq_true, Nat.reduceBEq, Nat.reduceAdd, Nat.reduceSub, Nat.reduceMul, Nat.reduceLT, Nat.reduceLeDiff, Int.reduceLE, Int.reduceLT, Int.reduceToNat, Int.reduceBEq, Int.reduceBNe, Int.le_refl, Nat.le_refl, decide_true, decide_false, Int.cast_ofNat_Int, ↓reduceIte, h414, h417, h420, h422]
          repeat with_reducible refine And.intro (by first | kernel_rfl | decide) ?_
          obtain rfl := Option.some.inj h435
          exact cutQ _ ((Wk_le (.cons _ _ _ _ _ (.dead _) (.cons _ _ _ _ _ (.dead _) (.cons _ _ _ _ _ (.refl _) (.cons _ _ _ _ _ (.dead _) (.cons _ _ _ _ _ (.refl _) (.cons _ _ _ _ _ (.dead _) (.cons _ _ _ _ _ (.refl _) .nil))))))) (OLe.refl _)).trans (cmpS_ok rfl)) ⟨rfl, rfl⟩
    · rintro _ ⟨rfl, rfl⟩
      (try dsimp only at h436)
      refine W_sound tab_ok mixed 6 _ _ _ ?_
      simp -implicitDefEqProofs only [go_sem, ne_eq, not_false_eq_true, Nat.reduceBEq, Nat.reduceAdd, Nat.reduceSub, Nat.reduceMul, Nat.reduceLT, Nat.reduceLeDiff, Int.reduceLE, Int.reduceLT, Int.reduceToNat, Int.reduceBEq, Int.reduceBNe, Int.le_refl, Nat.le_refl, decide_true, decide_false, Int.cast_ofNat_Int, ↓reduceIte, h414, h417, h420]
      repeat with_reducible refine And.intro (by first | kernel_rfl | decide) ?_
      obtain rfl := Option.some.inj h436
      exact finC [(4, .v (.bool true))] [(4, .v (.bool true))] (by simp [leE, lk_cons]) (.cons _ _ _ _ _ (.v _ _ (.refl _)) .nil) (by rfl) (by simp [leE, lk_cons]) (by decide) (by decide) rfl (by simp only [go_sem, ne_eq, not_false_eq_true, Nat.reduceBEq, Nat.reduceAdd, Nat.reduceSub, Nat.reduceMul, Nat.reduceLT, Nat.reduceLeDiff, Int.reduceLE, Int.reduceLT, Int.reduceToNat, Int.reduceBEq, Int.reduceBNe, Int.le_refl, Nat.le_refl, decide_true, decide_false, Int.cast_ofNat_Int, ↓reduceIte, resQ_tmp, resQ_cell, resQ_nil, retD_one, retD_two, retD_three, retD_none]; try simp [R.val, retD_one, retD_two, retD_three, retD_none])
end Go.Proofs.Yteidcinajdehkaa
