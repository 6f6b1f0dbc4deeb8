/-
  TurnWorths: what the functions compute answers as the law says.
  TurnWorths: what the functions compute answers as the law says, at every argument of its types.
  Fractions in lowest terms, and the prices at which contracts are worth the same.
  TurnBest: what the functions compute answers as the law says.
  TurnBest: what the functions compute answers as the law says, at every argument of its types.
  The prices of the reference, and TurnCovers: what the functions compute answers as the law says.
-/
import Derived.Test.YtgnphlpoofaojaaB
import Derived.Test.YtgnphlpoofaojaaV30
import Derived.Test.YtgnphlpoofaojaaK
import Derived.Test.YtgnphlpoofaojaaV32
namespace Go.Proofs.Ytgnphlpoofaojaa
open Go.V
set_option maxRecDepth 100000
set_option linter.unusedSimpArgs false
set_option linter.unusedVariables false
attribute [local go_sem] tl1 tl2 tl3 tl4 tl5 tl9 tl17 tl21 tl22 tl23 tl24 tl25 tl26 tl27 tl28 tl29 tl31 tl33 tl34 tl36 tl37 tl38 tl39 tl40 tl41 tl42 tl43 tl44 tl46 tl47 tl49 tl50 tl52 tl53 tl54 tl55 tl56 tl57 tl58 tl60 tl62 tl63 tl64 tl65 tl66 tl67 tl68 tl69 tl70 tl71 tl72 tl74 tl75 tl76 tl77 tl78 tl79 tl80 tl81 tl82 tl83 tl84 tl85 tl86 tl87 tl88 tl89 tl90 tl91 tl92 tl93 tl94 tl95 tl96 tl97 tl98 tl99 tl100 tl102 tl103 tl104 tl105 tl106 tl107 tl108 tl109 tl110 tl111 tl112 tl113 tl114 tl115 tl116 tl117 tl118 tl119 tl120 tl121 tl122 tl123 tl124 tl125 tl126 tl127 tl128 tl129 tl130 tl131 tl132 tl133 tl134 tl140 tl141 tl145

def m15 (N : Nat) : Option PV := some (.bool true)
theorem c15 (N : Nat) (r : PV) (h : m15 N = some r) : FnP Try.prog 15 [] r := by
  obtain rfl := Option.some.inj h
  exact k31

def m63 (N : Nat) (x89 : Int) (x90 : Int) : Option (PV) :=
  brn (decide ((IntKind.i64.wrap (0 - x90)) ≤ x89)) (
    some (.bool (decide (x89 ≤ x90)))) (
    some (.bool false))
theorem c63 (N : Nat) (x89 : Int) (x90 : Int) (r : PV)  (h : m63 N x89 x90 = some r) : FnP Try.prog 63 [(.int .i64 x89), (.int .i64 x90)] r := by
  unfold m63 at h
  refine Fn_of (sz := 14) tab_ok [0, 1, 4] [.tmp 4] Try.func63 rfl rfl rfl (by simp) ?_
  simp only [initSt, initEnv, List.map_cons, List.map_nil, List.getD_cons_zero, List.getD_cons_succ, List.getD_nil]
  have hh := brn_some h; clear h; rcases hh with ⟨h91, h⟩ | ⟨h91, h⟩
  · refine W_sound tab_ok mixed 18 _ _ _ ?_
    simp only [go_sem, ne_eq, not_false_eq_true, Nat.reduceBEq, Nat.reduceAdd, Nat.reduceSub, Nat.reduceMul, Nat.reduceLT, Nat.reduceLeDiff, Int.reduceLE, Int.reduceLT, Int.reduceToNat, Int.cast_ofNat_Int, ↓reduceIte, h91]
    repeat with_reducible refine And.intro (by kernel_rfl) ?_
    obtain rfl := Option.some.inj h
    exact finC [(4, .v (.bool (decide (x89 ≤ x90))))] [(4, .v (.bool (decide (x89 ≤ x90))))] (by simp [leE, lk_cons]) (.cons _ _ _ _ _ (.v _ _ (.refl _)) .nil) (by rfl) (by simp [leE, lk_cons]) (by decide) (by decide) rfl (by simp only [go_sem, ne_eq, not_false_eq_true, Nat.reduceBEq, Nat.reduceAdd, Nat.reduceSub, Nat.reduceMul, Nat.reduceLT, Nat.reduceLeDiff, Int.reduceLE, Int.reduceLT, Int.reduceToNat, Int.cast_ofNat_Int, ↓reduceIte, resQ_tmp, resQ_cell, resQ_nil, retD_one, retD_two, retD_three, retD_none]; try simp [R.val, retD_one, retD_two, retD_three, retD_none])
  · refine W_sound tab_ok mixed 18 _ _ _ ?_
    simp only [go_sem, ne_eq, not_false_eq_true, Nat.reduceBEq, Nat.reduceAdd, Nat.reduceSub, Nat.reduceMul, Nat.reduceLT, Nat.reduceLeDiff, Int.reduceLE, Int.reduceLT, Int.reduceToNat, Int.cast_ofNat_Int, ↓reduceIte, h91]
    repeat with_reducible refine And.intro (by kernel_rfl) ?_
    obtain rfl := Option.some.inj h
    exact finC [(4, .v (.bool false))] [(4, .v (.bool false))] (by simp [leE, lk_cons]) (.cons _ _ _ _ _ (.v _ _ (.refl _)) .nil) (by rfl) (by simp [leE, lk_cons]) (by decide) (by decide) rfl (by simp only [go_sem, ne_eq, not_false_eq_true, Nat.reduceBEq, Nat.reduceAdd, Nat.reduceSub, Nat.reduceMul, Nat.reduceLT, Nat.reduceLeDiff, Int.reduceLE, Int.reduceLT, Int.reduceToNat, Int.cast_ofNat_Int, ↓reduceIte, resQ_tmp, resQ_cell, resQ_nil, retD_one, retD_two, retD_three, retD_none]; try simp [R.val, retD_one, retD_two, retD_three, retD_none])

def m22_L0 (N : Nat) (n75 : Nat) (c76 : List PV) : Nat → Int → Option ((PV ⊕ Unit))
  | 0, _ => none
  | n + 1, x79 =>
    brn (decide (x79 < ((n75 : Nat) : Int))) (
      grd (0 ≤ x79 ∧ x79 < ((n75 : Nat) : Int)) <|
      grd (2 ≤ List.length (List.drop ((Int.toNat x79) * 2) c76)) <|
      getA2 (.agg (List.take 2 (List.drop ((Int.toNat x79) * 2) c76))) fun p85 p86 =>
      getI .i64 p85 fun x88 =>
      bnd' (m63 N x88 100) fun p92 =>
      getB p92 fun b95 =>
      brn b95 (
        getI .i64 p86 fun x98 =>
        bnd' (m63 N x98 10) fun p99 =>
        getB p99 fun b102 =>
        brn b102 (
          m22_L0 N n75 c76 n (IntKind.i64.wrap (x79 + 1))) (
          some (.inl (.int .i64 1)))) (
        some (.inl (.int .i64 1)))) (
      some (.inr ()))
def m22 (N : Nat) (p73 : PV) : Option (PV) :=
  getL p73 fun n75 c76 =>
  brn (((n75 : Nat) : Int) == 0) (
    some (.int .i64 4)) (
    brn (decide (((n75 : Nat) : Int) > 8)) (
      some (.int .i64 3)) (
      bnd' (m22_L0 N n75 c76 N 0) fun o =>
      match o with
      | .inl p104 =>
        some p104
      | .inr () =>
        some (.int .i64 0)))
theorem c22 (N : Nat) (p73 : PV) (r : PV)  (h : m22 N p73 = some r) : FnP Try.prog 22 [p73] r := by
  unfold m22 at h
  refine Fn_of (sz := 30) tab_ok [0, 2, 4, 5, 9, 13, 14, 15, 16, 28] [.tmp 2] Try.func22 rfl rfl rfl (by simp) ?_
  simp only [initSt, initEnv, List.map_cons, List.map_nil, List.getD_cons_zero, List.getD_cons_succ, List.getD_nil]
  have hh := getL_some h; clear h; obtain ⟨n75, c76, h74, h⟩ := hh
  have hh := brn_some h; clear h; rcases hh with ⟨h77, h⟩ | ⟨h77, h⟩
  · refine W_sound tab_ok mixed 19 _ _ _ ?_
    simp only [go_sem, ne_eq, not_false_eq_true, Nat.reduceBEq, Nat.reduceAdd, Nat.reduceSub, Nat.reduceMul, Nat.reduceLT, Nat.reduceLeDiff, Int.reduceLE, Int.reduceLT, Int.reduceToNat, Int.cast_ofNat_Int, ↓reduceIte, h74, h77]
    repeat with_reducible refine And.intro (by kernel_rfl) ?_
    obtain rfl := Option.some.inj h
    exact finC [(2, .v (.int .i64 4))] [(2, .v (.int .i64 4))] (by simp [leE, lk_cons]) (.cons _ _ _ _ _ (.v _ _ (.refl _)) .nil) (by rfl) (by simp [leE, lk_cons]) (by decide) (by decide) rfl (by simp only [go_sem, ne_eq, not_false_eq_true, Nat.reduceBEq, Nat.reduceAdd, Nat.reduceSub, Nat.reduceMul, Nat.reduceLT, Nat.reduceLeDiff, Int.reduceLE, Int.reduceLT, Int.reduceToNat, Int.cast_ofNat_Int, ↓reduceIte, resQ_tmp, resQ_cell, resQ_nil, retD_one, retD_two, retD_three, retD_none]; try simp [R.val, retD_one, retD_two, retD_three, retD_none])
  · have hh := brn_some h; clear h; rcases hh with ⟨h78, h⟩ | ⟨h78, h⟩
    · refine W_sound tab_ok mixed 27 _ _ _ ?_
      simp only [go_sem, ne_eq, not_false_eq_true, Nat.reduceBEq, Nat.reduceAdd, Nat.reduceSub, Nat.reduceMul, Nat.reduceLT, Nat.reduceLeDiff, Int.reduceLE, Int.reduceLT, Int.reduceToNat, Int.cast_ofNat_Int, ↓reduceIte, h74, h77, h78]
      repeat with_reducible refine And.intro (by kernel_rfl) ?_
      obtain rfl := Option.some.inj h
      exact finC [(2, .v (.int .i64 3))] [(2, .v (.int .i64 3))] (by simp [leE, lk_cons]) (.cons _ _ _ _ _ (.v _ _ (.refl _)) .nil) (by rfl) (by simp [leE, lk_cons]) (by decide) (by decide) rfl (by simp only [go_sem, ne_eq, not_false_eq_true, Nat.reduceBEq, Nat.reduceAdd, Nat.reduceSub, Nat.reduceMul, Nat.reduceLT, Nat.reduceLeDiff, Int.reduceLE, Int.reduceLT, Int.reduceToNat, Int.cast_ofNat_Int, ↓reduceIte, resQ_tmp, resQ_cell, resQ_nil, retD_one, retD_two, retD_three, retD_none]; try simp [R.val, retD_one, retD_two, retD_three, retD_none])
    · refine W_sound tab_ok mixed 31 _ _ _ ?_
      simp only [go_sem, ne_eq, not_false_eq_true, Nat.reduceBEq, Nat.reduceAdd, Nat.reduceSub, Nat.reduceMul, Nat.reduceLT, Nat.reduceLeDiff, Int.reduceLE, Int.reduceLT, Int.reduceToNat, Int.cast_ofNat_Int, ↓reduceIte, h74, h77, h78]
      repeat with_reducible refine And.intro (by kernel_rfl) ?_
      have hh := bnd'_some h; clear h; obtain ⟨o105, h106, h107⟩ := hh
      refine Wp_cut (fun s => (.inr ()) = o105 ∧ s = ⟨[], [(0, .dead), (2, .dead), (4, .dead), (5, .dead), (9, .dead), (13, .dead), (14, .dead), (15, .dead), (16, .dead), (28, .dead)], [], 0, []⟩) ?_ ?_
      · refine Wp_block ?_
        refine Wp_loopG (fun n s => ∃ x79, m22_L0 N n75 c76 n x79 = some o105 ∧ s = ⟨[], [(0, .dead), (2, .dead), (4, .dead), (5, .dead), (9, .dead), (13, .v (.lst false n75 c76)), (14, .v (.int .i64 ((n75 : Nat) : Int))), (15, .v (.int .i64 x79)), (16, .dead), (28, .dead)], [], 0, []⟩) N _ ((Wk_le (.cons _ _ _ _ _ (.dead _) (.cons _ _ _ _ _ (.dead _) (.cons _ _ _ _ _ (.refl _) (.cons _ _ _ _ _ (.dead _) (.cons _ _ _ _ _ (.dead _) (.cons _ _ _ _ _ (.refl _) (.cons _ _ _ _ _ (.refl _) (.cons _ _ _ _ _ (.refl _) (.cons _ _ _ _ _ (.refl _) (.cons _ _ _ _ _ (.refl _) .nil)))))))))) (OLe.refl _)).trans (cmpS_ok rfl)) ⟨_, h106, rfl⟩ ?_
        clear h106
        rintro n _ ⟨x79, h106, rfl⟩
        cases n with
        | zero => cases h106
        | succ n =>
          rw [m22_L0] at h106
          have hh := brn_some h106; clear h106; rcases hh with ⟨h80, h106⟩ | ⟨h80, h106⟩
          · have hh := grd_some h106; clear h106; obtain ⟨⟨g81, g82⟩, h106⟩ := hh
            have hh := grd_some h106; clear h106; obtain ⟨g83, h106⟩ := hh
            have hh := getA2_some h106; clear h106; obtain ⟨p85, p86, h84, h106⟩ := hh
            injection h84 with h84
            have hh := getI_some h106; clear h106; obtain ⟨x88, h87, h106⟩ := hh
            have hh := bnd'_some h106; clear h106; obtain ⟨p92, h93, h106⟩ := hh
            refine W_sound tab_ok mixed 20 _ _ _ ?_
            simp only [go_sem, ne_eq, not_false_eq_true, Nat.reduceBEq, Nat.reduceAdd, Nat.reduceSub, Nat.reduceMul, Nat.reduceLT, Nat.reduceLeDiff, Int.reduceLE, Int.reduceLT, Int.reduceToNat, Int.cast_ofNat_Int, ↓reduceIte, h74, h77, h78, h80, g81, g82, g83, h84, h87]
            repeat with_reducible refine And.intro (by kernel_rfl) ?_
            refine Wp_callP (c63 N _ _ _ h93) (by kernel_rfl) rfl rfl rfl rfl (by decide) ?_
            have hh := getB_some h106; clear h106; obtain ⟨b95, h94, h106⟩ := hh
            have hh := brn_some h106; clear h106; rcases hh with ⟨h96, h106⟩ | ⟨h96, h106⟩
            · have hh := getI_some h106; clear h106; obtain ⟨x98, h97, h106⟩ := hh
              have hh := bnd'_some h106; clear h106; obtain ⟨p99, h100, h106⟩ := hh
              refine W_sound tab_ok mixed 4 _ _ _ ?_
              simp only [go_sem, ne_eq, not_false_eq_true, Nat.reduceBEq, Nat.reduceAdd, Nat.reduceSub, Nat.reduceMul, Nat.reduceLT, Nat.reduceLeDiff, Int.reduceLE, Int.reduceLT, Int.reduceToNat, Int.cast_ofNat_Int, ↓reduceIte, h74, h77, h78, h80, g81, g82, g83, h84, h87, h94, h96, h97]
              repeat with_reducible refine And.intro (by kernel_rfl) ?_
              refine Wp_callP (c63 N _ _ _ h100) (by kernel_rfl) rfl rfl rfl rfl (by decide) ?_
              have hh := getB_some h106; clear h106; obtain ⟨b102, h101, h106⟩ := hh
              have hh := brn_some h106; clear h106; rcases hh with ⟨h103, h106⟩ | ⟨h103, h106⟩
              · refine W_sound tab_ok mixed 10 _ _ _ ?_
                simp only [go_sem, ne_eq, not_false_eq_true, Nat.reduceBEq, Nat.reduceAdd, Nat.reduceSub, Nat.reduceMul, Nat.reduceLT, Nat.reduceLeDiff, Int.reduceLE, Int.reduceLT, Int.reduceToNat, Int.cast_ofNat_Int, ↓reduceIte, h74, h77, h78, h80, g81, g82, g83, h84, h87, h94, h96, h97, h101, h103]
                repeat with_reducible refine And.intro (by kernel_rfl) ?_
                exact cutQ _ ((Wk_le (.cons _ _ _ _ _ (.refl _) (.cons _ _ _ _ _ (.refl _) (.cons _ _ _ _ _ (.dead _) (.cons _ _ _ _ _ (.refl _) (.cons _ _ _ _ _ (.refl _) (.cons _ _ _ _ _ (.refl _) (.cons _ _ _ _ _ (.refl _) (.cons _ _ _ _ _ (.refl _) (.cons _ _ _ _ _ (.dead _) (.cons _ _ _ _ _ (.dead _) .nil)))))))))) (OLe.refl _)).trans (cmpS_ok rfl)) ⟨n, Nat.lt_succ_self n, _, h106, rfl⟩
              · refine W_sound tab_ok mixed 9 _ _ _ ?_
                simp only [go_sem, ne_eq, not_false_eq_true, Nat.reduceBEq, Nat.reduceAdd, Nat.reduceSub, Nat.reduceMul, Nat.reduceLT, Nat.reduceLeDiff, Int.reduceLE, Int.reduceLT, Int.reduceToNat, Int.cast_ofNat_Int, ↓reduceIte, h74, h77, h78, h80, g81, g82, g83, h84, h87, h94, h96, h97, h101, h103]
                repeat with_reducible refine And.intro (by kernel_rfl) ?_
                obtain rfl := Option.some.inj h106
                (try dsimp only at h107)
                obtain rfl := Option.some.inj h107
                exact finC [(2, .v (.int .i64 1))] [(2, .v (.int .i64 1))] (by simp [leE, lk_cons]) (.cons _ _ _ _ _ (.v _ _ (.refl _)) .nil) (by rfl) (by simp [leE, lk_cons]) (by decide) (by decide) rfl (by simp only [go_sem, ne_eq, not_false_eq_true, Nat.reduceBEq, Nat.reduceAdd, Nat.reduceSub, Nat.reduceMul, Nat.reduceLT, Nat.reduceLeDiff, Int.reduceLE, Int.reduceLT, Int.reduceToNat, Int.cast_ofNat_Int, ↓reduceIte, resQ_tmp, resQ_cell, resQ_nil, retD_one, retD_two, retD_three, retD_none]; try simp [R.val, retD_one, retD_two, retD_three, retD_none])
            · refine W_sound tab_ok mixed 14 _ _ _ ?_
              simp only [go_sem, ne_eq, not_false_eq_true, Nat.reduceBEq, Nat.reduceAdd, Nat.reduceSub, Nat.reduceMul, Nat.reduceLT, Nat.reduceLeDiff, Int.reduceLE, Int.reduceLT, Int.reduceToNat, Int.cast_ofNat_Int, ↓reduceIte, h74, h77, h78, h80, g81, g82, g83, h84, h87, h94, h96]
              repeat with_reducible refine And.intro (by kernel_rfl) ?_
              obtain rfl := Option.some.inj h106
              (try dsimp only at h107)
              obtain rfl := Option.some.inj h107
              exact finC [(2, .v (.int .i64 1))] [(2, .v (.int .i64 1))] (by simp [leE, lk_cons]) (.cons _ _ _ _ _ (.v _ _ (.refl _)) .nil) (by rfl) (by simp [leE, lk_cons]) (by decide) (by decide) rfl (by simp only [go_sem, ne_eq, not_false_eq_true, Nat.reduceBEq, Nat.reduceAdd, Nat.reduceSub, Nat.reduceMul, Nat.reduceLT, Nat.reduceLeDiff, Int.reduceLE, Int.reduceLT, Int.reduceToNat, Int.cast_ofNat_Int, ↓reduceIte, resQ_tmp, resQ_cell, resQ_nil, retD_one, retD_two, retD_three, retD_none]; try simp [R.val, retD_one, retD_two, retD_three, retD_none])
          · refine W_sound tab_ok mixed 7 _ _ _ ?_
            simp only [go_sem, ne_eq, not_false_eq_true, Nat.reduceBEq, Nat.reduceAdd, Nat.reduceSub, Nat.reduceMul, Nat.reduceLT, Nat.reduceLeDiff, Int.reduceLE, Int.reduceLT, Int.reduceToNat, Int.cast_ofNat_Int, ↓reduceIte, h74, h77, h78, h80]
            repeat with_reducible refine And.intro (by kernel_rfl) ?_
            obtain rfl := Option.some.inj h106
            exact cutQ _ ((Wk_le (.cons _ _ _ _ _ (.refl _) (.cons _ _ _ _ _ (.refl _) (.cons _ _ _ _ _ (.refl _) (.cons _ _ _ _ _ (.refl _) (.cons _ _ _ _ _ (.refl _) (.cons _ _ _ _ _ (.dead _) (.cons _ _ _ _ _ (.dead _) (.cons _ _ _ _ _ (.dead _) (.cons _ _ _ _ _ (.dead _) (.cons _ _ _ _ _ (.refl _) .nil)))))))))) (OLe.refl _)).trans (cmpS_ok rfl)) ⟨rfl, rfl⟩
      · rintro _ ⟨rfl, rfl⟩
        (try dsimp only at h107)
        refine W_sound tab_ok mixed 5 _ _ _ ?_
        simp only [go_sem, ne_eq, not_false_eq_true, Nat.reduceBEq, Nat.reduceAdd, Nat.reduceSub, Nat.reduceMul, Nat.reduceLT, Nat.reduceLeDiff, Int.reduceLE, Int.reduceLT, Int.reduceToNat, Int.cast_ofNat_Int, ↓reduceIte, h74, h77, h78]
        repeat with_reducible refine And.intro (by kernel_rfl) ?_
        obtain rfl := Option.some.inj h107
        exact finC [(2, .v (.int .i64 0))] [(2, .v (.int .i64 0))] (by simp [leE, lk_cons]) (.cons _ _ _ _ _ (.v _ _ (.refl _)) .nil) (by rfl) (by simp [leE, lk_cons]) (by decide) (by decide) rfl (by simp only [go_sem, ne_eq, not_false_eq_true, Nat.reduceBEq, Nat.reduceAdd, Nat.reduceSub, Nat.reduceMul, Nat.reduceLT, Nat.reduceLeDiff, Int.reduceLE, Int.reduceLT, Int.reduceToNat, Int.cast_ofNat_Int, ↓reduceIte, resQ_tmp, resQ_cell, resQ_nil, retD_one, retD_two, retD_three, retD_none]; try simp [R.val, retD_one, retD_two, retD_three, retD_none])

def m80 (N : Nat) : Nat → Int → Int → Option (PV)
  | 0, _, _ => none
  | fu + 1, x219, x220 =>
    brn (x220 == 0) (
      some (.int .i64 x219)) (
      grd (x220 ≠ 0) <|
      bnd' ((m80 N fu) x220 (Int.tmod x219 x220)) fun p223 =>
      getI .i64 p223 fun x226 =>
      some (.int .i64 x226))
theorem c80 (N : Nat) : ∀ (fu : Nat) (x219 : Int) (x220 : Int) (r : PV)  (h : m80 N fu x219 x220 = some r), FnP Try.prog 80 [(.int .i64 x219), (.int .i64 x220)] r := by
  intro fu
  induction fu with
  | zero => intro x219 x220 r h; cases h
  | succ fu ih =>
    intro x219 x220 r h
    rw [m80] at h
    refine Fn_of (sz := 13) tab_ok [0, 1, 4, 6] [.tmp 4] Try.func80 rfl rfl rfl (by simp) ?_
    simp only [initSt, initEnv, List.map_cons, List.map_nil, List.getD_cons_zero, List.getD_cons_succ, List.getD_nil]
    have hh := brn_some h; clear h; rcases hh with ⟨h221, h⟩ | ⟨h221, h⟩
    · refine W_sound tab_ok mixed 17 _ _ _ ?_
      simp only [go_sem, ne_eq, not_false_eq_true, Nat.reduceBEq, Nat.reduceAdd, Nat.reduceSub, Nat.reduceMul, Nat.reduceLT, Nat.reduceLeDiff, Int.reduceLE, Int.reduceLT, Int.reduceToNat, Int.cast_ofNat_Int, ↓reduceIte, h221]
      repeat with_reducible refine And.intro (by kernel_rfl) ?_
      obtain rfl := Option.some.inj h
      exact finC [(4, .v (.int .i64 x219))] [(4, .v (.int .i64 x219))] (by simp [leE, lk_cons]) (.cons _ _ _ _ _ (.v _ _ (.refl _)) .nil) (by rfl) (by simp [leE, lk_cons]) (by decide) (by decide) rfl (by simp only [go_sem, ne_eq, not_false_eq_true, Nat.reduceBEq, Nat.reduceAdd, Nat.reduceSub, Nat.reduceMul, Nat.reduceLT, Nat.reduceLeDiff, Int.reduceLE, Int.reduceLT, Int.reduceToNat, Int.cast_ofNat_Int, ↓reduceIte, resQ_tmp, resQ_cell, resQ_nil, retD_one, retD_two, retD_three, retD_none]; try simp [R.val, retD_one, retD_two, retD_three, retD_none])
    · have hh := grd_some h; clear h; obtain ⟨g222, h⟩ := hh
      have hh := bnd'_some h; clear h; obtain ⟨p223, h224, h⟩ := hh
      refine W_sound tab_ok mixed 18 _ _ _ ?_
      simp only [go_sem, ne_eq, not_false_eq_true, Nat.reduceBEq, Nat.reduceAdd, Nat.reduceSub, Nat.reduceMul, Nat.reduceLT, Nat.reduceLeDiff, Int.reduceLE, Int.reduceLT, Int.reduceToNat, Int.cast_ofNat_Int, ↓reduceIte, h221, g222]
      repeat with_reducible refine And.intro (by kernel_rfl) ?_
      refine Wp_callP (ih _ _ _ h224) (by kernel_rfl) rfl rfl rfl rfl (by decide) ?_
      have hh := getI_some h; clear h; obtain ⟨x226, h225, h⟩ := hh
      refine W_sound tab_ok mixed 3 _ _ _ ?_
      simp only [go_sem, ne_eq, not_false_eq_true, Nat.reduceBEq, Nat.reduceAdd, Nat.reduceSub, Nat.reduceMul, Nat.reduceLT, Nat.reduceLeDiff, Int.reduceLE, Int.reduceLT, Int.reduceToNat, Int.cast_ofNat_Int, ↓reduceIte, h221, g222, h225]
      repeat with_reducible refine And.intro (by kernel_rfl) ?_
      obtain rfl := Option.some.inj h
      exact finC [(4, .v (.int .i64 x226))] [(4, .v (.int .i64 x226))] (by simp [leE, lk_cons]) (.cons _ _ _ _ _ (.v _ _ (.refl _)) .nil) (by rfl) (by simp [leE, lk_cons]) (by decide) (by decide) rfl (by simp only [go_sem, ne_eq, not_false_eq_true, Nat.reduceBEq, Nat.reduceAdd, Nat.reduceSub, Nat.reduceMul, Nat.reduceLT, Nat.reduceLeDiff, Int.reduceLE, Int.reduceLT, Int.reduceToNat, Int.cast_ofNat_Int, ↓reduceIte, resQ_tmp, resQ_cell, resQ_nil, retD_one, retD_two, retD_three, retD_none]; try simp [R.val, retD_one, retD_two, retD_three, retD_none])

def m58 (N : Nat) (x216 : Int) (x217 : Int) : Option (PV) :=
  brn (decide (x217 < 0)) (
    bnd' (m80 N N (maxI (IntKind.i64.wrap (0 - x216)) (IntKind.i64.wrap (0 - (IntKind.i64.wrap (0 - x216))))) (IntKind.i64.wrap (0 - x217))) fun p227 =>
    getI .i64 p227 fun x230 =>
    grd (x230 ≠ 0) <|
    some (.agg [(.int .i64 (IntKind.i64.wrap (Int.tdiv (IntKind.i64.wrap (0 - x216)) x230))), (.int .i64 (IntKind.i64.wrap (Int.tdiv (IntKind.i64.wrap (0 - x217)) x230)))])) (
    bnd' (m80 N N (maxI x216 (IntKind.i64.wrap (0 - x216))) x217) fun p232 =>
    getI .i64 p232 fun x235 =>
    grd (x235 ≠ 0) <|
    some (.agg [(.int .i64 (IntKind.i64.wrap (Int.tdiv x216 x235))), (.int .i64 (IntKind.i64.wrap (Int.tdiv x217 x235)))]))
theorem c58 (N : Nat) (x216 : Int) (x217 : Int) (r : PV)  (h : m58 N x216 x217 = some r) : FnP Try.prog 58 [(.int .i64 x216), (.int .i64 x217)] r := by
  unfold m58 at h
  refine Fn_of (sz := 25) tab_ok [0, 1, 4, 5, 7] [.cell 4 24] Try.func58 rfl rfl rfl (by simp) ?_
  simp only [initSt, initEnv, List.map_cons, List.map_nil, List.getD_cons_zero, List.getD_cons_succ, List.getD_nil]
  have hh := brn_some h; clear h; rcases hh with ⟨h218, h⟩ | ⟨h218, h⟩
  · have hh := bnd'_some h; clear h; obtain ⟨p227, h228, h⟩ := hh
    refine W_sound tab_ok mixed 26 _ _ _ ?_
    simp only [go_sem, ne_eq, not_false_eq_true, Nat.reduceBEq, Nat.reduceAdd, Nat.reduceSub, Nat.reduceMul, Nat.reduceLT, Nat.reduceLeDiff, Int.reduceLE, Int.reduceLT, Int.reduceToNat, Int.cast_ofNat_Int, ↓reduceIte, h218]
    repeat with_reducible refine And.intro (by kernel_rfl) ?_
    refine Wp_callP (c80 N N _ _ _ h228) (by kernel_rfl) rfl rfl rfl rfl (by decide) ?_
    have hh := getI_some h; clear h; obtain ⟨x230, h229, h⟩ := hh
    have hh := grd_some h; clear h; obtain ⟨g231, h⟩ := hh
    refine W_sound tab_ok mixed 14 _ _ _ ?_
    simp only [go_sem, ne_eq, not_false_eq_true, Nat.reduceBEq, Nat.reduceAdd, Nat.reduceSub, Nat.reduceMul, Nat.reduceLT, Nat.reduceLeDiff, Int.reduceLE, Int.reduceLT, Int.reduceToNat, Int.cast_ofNat_Int, ↓reduceIte, h218, h229, g231]
    repeat with_reducible refine And.intro (by kernel_rfl) ?_
    refine FinQ_wk (Wk_freeze 4 [(.int .i64 (IntKind.i64.wrap (Int.tdiv (IntKind.i64.wrap (0 - x216)) x230))), (.int .i64 (IntKind.i64.wrap (Int.tdiv (IntKind.i64.wrap (0 - x217)) x230)))] (by rfl) (by decide) (by decide)) ?_
    simp only [go_sem, ne_eq, not_false_eq_true, Nat.reduceBEq, Nat.reduceAdd, Nat.reduceSub, Nat.reduceMul, Nat.reduceLT, Nat.reduceLeDiff, Int.reduceLE, Int.reduceLT, Int.reduceToNat, Int.cast_ofNat_Int, ↓reduceIte, h218, h229, g231]
    obtain rfl := Option.some.inj h
    exact finC [(4, .v (.ipt [(.int .i64 (IntKind.i64.wrap (Int.tdiv (IntKind.i64.wrap (0 - x216)) x230))), (.int .i64 (IntKind.i64.wrap (Int.tdiv (IntKind.i64.wrap (0 - x217)) x230)))]))] [(4, .v (.ipt [(.int .i64 (IntKind.i64.wrap (Int.tdiv (IntKind.i64.wrap (0 - x216)) x230))), (.int .i64 (IntKind.i64.wrap (Int.tdiv (IntKind.i64.wrap (0 - x217)) x230)))]))] (by simp [leE, lk_cons]) (.cons _ _ _ _ _ (.v _ _ (.refl _)) .nil) (by rfl) (by simp [leE, lk_cons]) (by decide) (by decide) rfl (by simp only [go_sem, ne_eq, not_false_eq_true, Nat.reduceBEq, Nat.reduceAdd, Nat.reduceSub, Nat.reduceMul, Nat.reduceLT, Nat.reduceLeDiff, Int.reduceLE, Int.reduceLT, Int.reduceToNat, Int.cast_ofNat_Int, ↓reduceIte, resQ_tmp, resQ_cell, resQ_nil, retD_one, retD_two, retD_three, retD_none]; try simp [R.val, retD_one, retD_two, retD_three, retD_none])
  · have hh := bnd'_some h; clear h; obtain ⟨p232, h233, h⟩ := hh
    refine W_sound tab_ok mixed 19 _ _ _ ?_
    simp only [go_sem, ne_eq, not_false_eq_true, Nat.reduceBEq, Nat.reduceAdd, Nat.reduceSub, Nat.reduceMul, Nat.reduceLT, Nat.reduceLeDiff, Int.reduceLE, Int.reduceLT, Int.reduceToNat, Int.cast_ofNat_Int, ↓reduceIte, h218]
    repeat with_reducible refine And.intro (by kernel_rfl) ?_
    refine Wp_callP (c80 N N _ _ _ h233) (by kernel_rfl) rfl rfl rfl rfl (by decide) ?_
    have hh := getI_some h; clear h; obtain ⟨x235, h234, h⟩ := hh
    have hh := grd_some h; clear h; obtain ⟨g236, h⟩ := hh
    refine W_sound tab_ok mixed 14 _ _ _ ?_
    simp only [go_sem, ne_eq, not_false_eq_true, Nat.reduceBEq, Nat.reduceAdd, Nat.reduceSub, Nat.reduceMul, Nat.reduceLT, Nat.reduceLeDiff, Int.reduceLE, Int.reduceLT, Int.reduceToNat, Int.cast_ofNat_Int, ↓reduceIte, h218, h234, g236]
    repeat with_reducible refine And.intro (by kernel_rfl) ?_
    refine FinQ_wk (Wk_freeze 4 [(.int .i64 (IntKind.i64.wrap (Int.tdiv x216 x235))), (.int .i64 (IntKind.i64.wrap (Int.tdiv x217 x235)))] (by rfl) (by decide) (by decide)) ?_
    simp only [go_sem, ne_eq, not_false_eq_true, Nat.reduceBEq, Nat.reduceAdd, Nat.reduceSub, Nat.reduceMul, Nat.reduceLT, Nat.reduceLeDiff, Int.reduceLE, Int.reduceLT, Int.reduceToNat, Int.cast_ofNat_Int, ↓reduceIte, h218, h234, g236]
    obtain rfl := Option.some.inj h
    exact finC [(4, .v (.ipt [(.int .i64 (IntKind.i64.wrap (Int.tdiv x216 x235))), (.int .i64 (IntKind.i64.wrap (Int.tdiv x217 x235)))]))] [(4, .v (.ipt [(.int .i64 (IntKind.i64.wrap (Int.tdiv x216 x235))), (.int .i64 (IntKind.i64.wrap (Int.tdiv x217 x235)))]))] (by simp [leE, lk_cons]) (.cons _ _ _ _ _ (.v _ _ (.refl _)) .nil) (by rfl) (by simp [leE, lk_cons]) (by decide) (by decide) rfl (by simp only [go_sem, ne_eq, not_false_eq_true, Nat.reduceBEq, Nat.reduceAdd, Nat.reduceSub, Nat.reduceMul, Nat.reduceLT, Nat.reduceLeDiff, Int.reduceLE, Int.reduceLT, Int.reduceToNat, Int.cast_ofNat_Int, ↓reduceIte, resQ_tmp, resQ_cell, resQ_nil, retD_one, retD_two, retD_three, retD_none]; try simp [R.val, retD_one, retD_two, retD_three, retD_none])

def m60_L0 (N : Nat) (x382 : Int) (x383 : Int) : Nat → Int → Int → Option (Int)
  | 0, _, _ => none
  | n + 1, x385, x386 =>
    brn (decide (x386 > 0)) (
      grd (x386 ≠ 0) <|
      m60_L0 N x382 x383 n x386 (Int.tmod x385 x386)) (
      some x385)
def m60_L1 (N : Nat) (x382 : Int) (x383 : Int) : Nat → Int → Int → Option (Int)
  | 0, _, _ => none
  | n + 1, x391, x392 =>
    brn (decide (x392 > 0)) (
      grd (x392 ≠ 0) <|
      m60_L1 N x382 x383 n x392 (Int.tmod x391 x392)) (
      some x391)
def m60 (N : Nat) (x382 : Int) (x383 : Int) : Option (PV) :=
  brn (decide (x383 < 0)) (
    bnd' (m60_L0 N x382 x383 N (maxI (IntKind.i64.wrap (0 - x382)) (IntKind.i64.wrap (0 - (IntKind.i64.wrap (0 - x382))))) (IntKind.i64.wrap (0 - x383))) fun x389 =>
    grd (x389 ≠ 0) <|
    some (.agg [(.int .i64 (IntKind.i64.wrap (Int.tdiv (IntKind.i64.wrap (0 - x382)) x389))), (.int .i64 (IntKind.i64.wrap (Int.tdiv (IntKind.i64.wrap (0 - x383)) x389)))])) (
    bnd' (m60_L1 N x382 x383 N (maxI x382 (IntKind.i64.wrap (0 - x382))) x383) fun x395 =>
    grd (x395 ≠ 0) <|
    some (.agg [(.int .i64 (IntKind.i64.wrap (Int.tdiv x382 x395))), (.int .i64 (IntKind.i64.wrap (Int.tdiv x383 x395)))]))
end Go.Proofs.Ytgnphlpoofaojaa

namespace Go.Proofs.Ytgnphlpoofaojaa
open Go.V

def cellsC (l : List (Int × Int)) : List PV := l.flatMap fun p => [.int .i64 p.1, .int .i64 p.2]
theorem cellsC_len : ∀ (l : List (Int × Int)), (cellsC l).length = l.length * 2
  | [] => rfl
  | p :: l => by
    have := cellsC_len l
    simp only [cellsC, List.flatMap_cons, List.length_append, List.length_cons, List.length_nil] at this ⊢
    omega
theorem cellsC_app (a b : List (Int × Int)) : cellsC (a ++ b) = cellsC a ++ cellsC b := by simp [cellsC]
theorem cellsC_drop (a b : List (Int × Int)) : (cellsC (a ++ b)).drop (a.length * 2) = cellsC b := by
  rw [cellsC_app, ← cellsC_len, List.drop_left]
theorem cellsC_take (a : List (Int × Int)) (p : Int × Int) (b : List (Int × Int)) : ((cellsC (a ++ p :: b)).drop (a.length * 2)).take 2 = [.int .i64 p.1, .int .i64 p.2] := by
  rw [cellsC_drop]; rfl
theorem cellsC_two (a : List (Int × Int)) (p : Int × Int) (b : List (Int × Int)) : 2 ≤ ((cellsC (a ++ p :: b)).drop (a.length * 2)).length := by
  rw [cellsC_drop, cellsC_len]; simp; omega
theorem wrapN {n : Nat} (h : n ≤ 1000) : IntKind.i64.wrap ((n : Int) + 1) = ((n + 1 : Nat) : Int) := by
  rw [wrap64 (by omega) (by omega)]; omega
theorem brn_t {α : Type} {b : Bool} {x y : Option α} (h : b = true) : brn b x y = x := by subst h; rfl
theorem brn_f {α : Type} {b : Bool} {x y : Option α} (h : b = false) : brn b x y = y := by subst h; rfl
theorem grd_t {α : Type} {p : Prop} [Decidable p] {k : Option α} (h : p) : grd p k = k := by simp [grd, h]

def okC (p : Int × Int) : Bool := decide (-100 ≤ p.1 ∧ p.1 ≤ 100 ∧ -10 ≤ p.2 ∧ p.2 ≤ 10)
theorem within_ok (N : Nat) (x k : Int) (hk : IntKind.i64.wrap (0 - k) = -k) : m63 N x k = some (.bool (decide (-k ≤ x ∧ x ≤ k))) := by
  unfold m63
  rw [hk]
  by_cases h : -k ≤ x
  · rw [brn_t (by simpa using h)]; simp [h]
  · rw [brn_f (by simpa using h)]; simp [h]
theorem cellsC_gp1 (a : List (Int × Int)) (p : Int × Int) (b : List (Int × Int)) : gp (cellsC (a ++ p :: b)) (a.length * 2 + 1) = .int .i64 p.2 := by
  have := gp_drop (l := cellsC (a ++ p :: b)) (k := a.length * 2) (i := 1)
  rw [cellsC_drop] at this
  rw [← this]; rfl

theorem chk_L (N : Nat) (L : List (Int × Int)) (hL : L.length ≤ 40) : ∀ (rest done : List (Int × Int)) (fuel : Nat), L = done ++ rest → rest.length < fuel →
    m22_L0 N L.length (cellsC L) fuel (done.length : Int) = some (if rest.all okC then .inr () else .inl (.int .i64 1))
  | [], done, 0, _, h => by simp at h
  | [], done, f + 1, e, _ => by
    subst e
    rw [m22_L0, brn_f (by simp)]; simp
  | p :: rest, done, 0, _, h => by simp at h
  | p :: rest, done, f + 1, e, h => by
    have ih := chk_L N L hL rest (done ++ [p]) f (by simp [e]) (by simp at h; omega)
    have hd : done.length < L.length := by rw [e]; simp
    have ht : (Int.toNat (done.length : Int)) = done.length := by omega
    rw [m22_L0, brn_t (by simpa using hd), grd_t ⟨by omega, by omega⟩, ht, grd_t (by rw [e]; exact cellsC_two done p rest)]
    have h2 : ((cellsC L).drop (done.length * 2)).take 2 = [.int .i64 p.1, .int .i64 p.2] := by rw [e]; exact cellsC_take done p rest
    rw [h2]
    simp only [getA2, getI, if_true, within_ok N p.1 100 (by decide), within_ok N p.2 10 (by decide), bnd', getB]
    have ih2 : m22_L0 N L.length (cellsC L) f (IntKind.i64.wrap ((done.length : Int) + 1)) = some (if rest.all okC then .inr () else .inl (.int .i64 1)) := by
      rw [wrapN (by omega)]; simpa using ih
    by_cases h1 : -100 ≤ p.1 ∧ p.1 ≤ 100
    · rw [brn_t (by simpa using h1)]
      by_cases h3 : -10 ≤ p.2 ∧ p.2 ≤ 10
      · rw [brn_t (by simpa using h3), ih2]
        have : okC p = true := by simp [okC]; omega
        rw [List.all_cons, this, Bool.true_and]
      · rw [brn_f (by simpa using h3)]
        have : okC p = false := by simp [okC]; omega
        simp [this]
    · rw [brn_f (by simpa using h1)]
      have : okC p = false := by simp [okC]; omega
      simp [this]
def Chk (L : List (Int × Int)) : Int := if L.length = 0 then 4 else if 8 < L.length then 3 else if L.all okC then 0 else 1
theorem check_ok (N : Nat) (L : List (Int × Int)) (hL : L.length ≤ 40) (hN : 100 ≤ N) : m22 N (.lst false L.length (cellsC L)) = some (.int .i64 (Chk L)) := by
  simp only [m22, getL, Chk]
  by_cases h0 : L.length = 0
  · rw [brn_t (by simp [h0])]; simp [h0]
  · rw [brn_f (by simpa using h0)]
    by_cases h8 : 8 < L.length
    · rw [brn_t (by simp; omega)]; simp [h0, h8]
    · rw [brn_f (by simp; omega)]
      have := chk_L N L hL L [] N rfl (by omega)
      simp only [List.length_nil] at this
      rw [show m22_L0 N L.length (cellsC L) N 0 = _ from this]
      simp only [bnd', h0, h8, if_false]
      by_cases ha : L.all okC = true
      · simp [ha]
      · simp [ha]
def Wt (num den : Int) (p : Int × Int) : Int := IntKind.i64.wrap (IntKind.i64.wrap (p.1 * den) + IntKind.i64.wrap (p.2 * num))
theorem set_mid {α : Type} (a : List α) (x v : α) (b : List α) : (a ++ x :: b).set a.length v = a ++ v :: b := by
  induction a with
  | nil => rfl
  | cons y a ih => simp [ih]
def mx (m : Int) (X : List Int) : Int := X.foldl maxI m
def okP (num den : Int) : Prop := -1000 ≤ num ∧ num ≤ 1000 ∧ 1 ≤ den ∧ den ≤ 1000
instance (num den : Int) : Decidable (okP num den) := by unfold okP; infer_instance
theorem Chk_zero {L : List (Int × Int)} (h : Chk L = 0) : ∃ p l, L = p :: l ∧ L.all okC = true := by
  cases L with
  | nil => simp [Chk] at h
  | cons p l =>
    refine ⟨p, l, rfl, ?_⟩
    unfold Chk at h
    by_cases h8 : 8 < (p :: l).length
    · rw [if_neg (by simp), if_pos h8] at h
      exact absurd h (by decide)
    · by_cases ha : (p :: l).all okC = true
      · exact ha
      · simp only [h8, ha, if_false] at h
        simp at h
end Go.Proofs.Ytgnphlpoofaojaa

namespace Go.Proofs.Ytgnphlpoofaojaa
open Go.V

end Go.Proofs.Ytgnphlpoofaojaa

namespace Go.Proofs.Ytgnphlpoofaojaa
open Go.V
def lowP (x d : Int) : Int × Int := if d < 0 then (-x / (Int.gcd x d : Int), -d / (Int.gcd x d : Int)) else (x / (Int.gcd x d : Int), d / (Int.gcd x d : Int))
structure LowQ (x d u v : Int) : Prop where
  pos : 0 < v
  eq : u * d = x * v
  cop : Int.gcd u v = 1
theorem gcdP {x d : Int} (hd : d ≠ 0) : 0 < (Int.gcd x d : Int) := by
  have := Int.gcd_pos_of_ne_zero_right x hd
  omega
theorem low_sp (x d : Int) (hd : d ≠ 0) : ∃ u v : Int, lowP x d = (u, v) ∧ LowQ x d u v ∧ (u * (Int.gcd x d : Int) = x ∧ v * (Int.gcd x d : Int) = d ∧ 0 < d ∨ u * (Int.gcd x d : Int) = -x ∧ v * (Int.gcd x d : Int) = -d ∧ d < 0) := by
  have hg := gcdP (x := x) hd
  have h1 : (Int.gcd x d : Int) ∣ x := Int.gcd_dvd_left x d
  have h2 : (Int.gcd x d : Int) ∣ d := Int.gcd_dvd_right x d
  generalize hG : (Int.gcd x d : Int) = g at *
  obtain ⟨a, ha⟩ := h1
  obtain ⟨b, hb⟩ := h2
  have q1 : x / g = a := by rw [ha]; exact Int.mul_ediv_cancel_left a (by omega)
  have q2 : d / g = b := by rw [hb]; exact Int.mul_ediv_cancel_left b (by omega)
  have q3 : -x / g = -a := by rw [ha, ← Int.mul_neg]; exact Int.mul_ediv_cancel_left (-a) (by omega)
  have q4 : -d / g = -b := by rw [hb, ← Int.mul_neg]; exact Int.mul_ediv_cancel_left (-b) (by omega)
  have hc : Int.gcd a b = 1 := by
    have e : Int.gcd x d = g.natAbs * Int.gcd a b := by rw [ha, hb]; exact Int.gcd_mul_left g a b
    have e2 : Int.gcd x d = g.natAbs := by omega
    have e3 : g.natAbs * Int.gcd a b = g.natAbs * 1 := by omega
    exact Nat.eq_of_mul_eq_mul_left (by omega) e3
  by_cases h : d < 0
  · refine ⟨-a, -b, by simp only [lowP, h, if_true, hG, q3, q4], ⟨?_, ?_, ?_⟩, .inr ⟨?_, ?_, h⟩⟩
    · rcases Int.lt_or_le 0 (-b) with h3 | h3
      · exact h3
      · have := Int.mul_nonneg (a := g) (b := b) (by omega) (by omega)
        omega
    · rw [ha, hb]; grind
    · simpa [Int.gcd_neg, Int.neg_gcd] using hc
    · rw [ha]; grind
    · rw [hb]; grind
  · refine ⟨a, b, by simp only [lowP, h, if_false, hG, q1, q2], ⟨?_, ?_, hc⟩, .inl ⟨?_, ?_, by omega⟩⟩
    · rcases Int.lt_or_le 0 b with h3 | h3
      · exact h3
      · have := Int.mul_nonneg (a := g) (b := -b) (by omega) (by omega)
        have : g * -b = - (g * b) := by grind
        omega
    · rw [ha, hb]; grind
    · rw [ha]; grind
    · rw [hb]; grind
theorem cop_dvd {u v w : Int} (hc : Int.gcd u v = 1) (h : v ∣ u * w) : v ∣ w := by
  have h1 : v.natAbs ∣ u.natAbs * w.natAbs := by rw [← Int.natAbs_mul]; exact Int.natAbs_dvd_natAbs.2 h
  have h2 : Nat.Coprime v.natAbs u.natAbs := by rw [Nat.coprime_comm]; exact hc
  exact Int.natAbs_dvd_natAbs.1 (h2.dvd_of_dvd_mul_left h1)
theorem cop_uniq {u v u' v' : Int} (hv : 0 < v) (hv' : 0 < v') (hc : Int.gcd u v = 1) (hc' : Int.gcd u' v' = 1) (h : u * v' = u' * v) : u = u' ∧ v = v' := by
  have d1 : v ∣ v' := cop_dvd hc ⟨u', by grind⟩
  have d2 : v' ∣ v := cop_dvd hc' ⟨u, by grind⟩
  have e : v = v' := Int.le_antisymm (Int.le_of_dvd hv' d1) (Int.le_of_dvd hv d2)
  subst e
  exact ⟨Int.eq_of_mul_eq_mul_right (by omega) h, rfl⟩
theorem abs_of_mul {u g x : Int} (hg : 0 < g) (h : u * g = x) : u.natAbs ≤ x.natAbs := by
  rw [← h, Int.natAbs_mul]
  exact Nat.le_mul_of_pos_right _ (by omega)
theorem low_bd {x d u v : Int} (hd : d ≠ 0) (h : lowP x d = (u, v)) : u.natAbs ≤ x.natAbs ∧ v.natAbs ≤ d.natAbs := by
  obtain ⟨u', v', e, _, hh⟩ := low_sp x d hd
  rw [e] at h
  obtain ⟨rfl, rfl⟩ := Prod.mk.inj h
  have hg := gcdP (x := x) hd
  rcases hh with ⟨h1, h2, _⟩ | ⟨h1, h2, _⟩
  · exact ⟨abs_of_mul hg h1, abs_of_mul hg h2⟩
  · have := abs_of_mul hg h1; have := abs_of_mul hg h2
    omega
theorem tmodN (a b : Nat) : Int.tmod (a : Int) (b : Int) = ((a % b : Nat) : Int) := (Int.ofNat_tmod a b).symm
theorem gcd80 (N : Nat) : ∀ (k a b : Nat), b ≤ k → ∀ fu, k < fu → m80 N fu a b = some (.int .i64 (Nat.gcd a b : Nat))
  | k, a, b, hk, 0, hf => by omega
  | k, a, b, hk, fu + 1, hf => by
    rw [m80]
    by_cases h0 : b = 0
    · subst h0; rw [brn_t (by simp)]; simp
    · rw [brn_f (by simpa using h0), grd_t (by omega), tmodN]
      match k, hk with
      | 0, hk => omega
      | k + 1, hk =>
        have hm : a % b < b := Nat.mod_lt _ (by omega)
        rw [gcd80 N k b (a % b) (by omega) fu (by omega)]
        simp only [bnd', getI, if_true]
        rw [Nat.gcd_comm a b, Nat.gcd_rec b a, Nat.gcd_comm (a % b) b]
theorem gcd60 (N : Nat) (x y : Int) : ∀ (k a b : Nat), b ≤ k → ∀ fu, k < fu → m60_L0 N x y fu a b = some ((Nat.gcd a b : Nat) : Int) ∧ m60_L1 N x y fu a b = some ((Nat.gcd a b : Nat) : Int)
  | k, a, b, hk, 0, hf => by omega
  | k, a, b, hk, fu + 1, hf => by
    rw [m60_L0, m60_L1]
    by_cases h0 : b = 0
    · subst h0; rw [brn_f (by simp), brn_f (by simp)]; simp
    · rw [brn_t (by simp; omega), brn_t (by simp; omega), grd_t (by omega), grd_t (by omega), tmodN]
      match k, hk with
      | 0, hk => omega
      | k + 1, hk =>
        have hm : a % b < b := Nat.mod_lt _ (by omega)
        rw [Nat.gcd_comm a b, Nat.gcd_rec b a, Nat.gcd_comm (a % b) b]
        exact gcd60 N x y k b (a % b) (by omega) fu (by omega)
def Sm (x : Int) : Prop := -1000000000000 ≤ x ∧ x ≤ 1000000000000
theorem maxA {x : Int} (h : Sm x) : maxI x (IntKind.i64.wrap (0 - x)) = (x.natAbs : Int) := by
  obtain ⟨h1, h2⟩ := h
  rw [wrap64 (by omega) (by omega)]
  unfold maxI; split <;> omega
theorem tdivE {x g : Int} (hg : 0 < g) (h : g ∣ x) : Int.tdiv x g = x / g := by
  obtain ⟨a, rfl⟩ := h
  rw [Int.mul_tdiv_cancel_left a (by omega), Int.mul_ediv_cancel_left a (by omega)]
def frP (p : Int × Int) : PV := .agg [.int .i64 p.1, .int .i64 p.2]
theorem low_m (N : Nat) (x d : Int) (hx : Sm x) (hd : d ≠ 0) (hd2 : Sm d) (hN : d.natAbs < N) : m58 N x d = some (frP (lowP x d)) ∧ m60 N x d = some (frP (lowP x d)) := by
  obtain ⟨u, v, e, _, hh⟩ := low_sp x d hd
  have hb := low_bd hd e
  have hg := gcdP (x := x) hd
  have hG : ((Nat.gcd x.natAbs d.natAbs : Nat) : Int) = (Int.gcd x d : Int) := rfl
  have dx : (Int.gcd x d : Int) ∣ x := Int.gcd_dvd_left x d
  have dd : (Int.gcd x d : Int) ∣ d := Int.gcd_dvd_right x d
  have hl : lowP x d = (if d < 0 then (-x / (Int.gcd x d : Int), -d / (Int.gcd x d : Int)) else (x / (Int.gcd x d : Int), d / (Int.gcd x d : Int))) := rfl
  obtain ⟨x1, x2⟩ := hx
  obtain ⟨d1, d2⟩ := hd2
  by_cases h : d < 0
  · rw [if_pos h, e] at hl
    obtain ⟨l1, l2⟩ := Prod.mk.inj hl
    have wx : IntKind.i64.wrap (0 - x) = -x := by rw [wrap64 (by omega) (by omega)]; omega
    have wd : IntKind.i64.wrap (0 - d) = -d := by rw [wrap64 (by omega) (by omega)]; omega
    have hm : maxI (IntKind.i64.wrap (0 - x)) (IntKind.i64.wrap (0 - (IntKind.i64.wrap (0 - x)))) = (x.natAbs : Int) := by
      rw [wx, maxA ⟨by omega, by omega⟩, Int.natAbs_neg]
    have hn : IntKind.i64.wrap (0 - d) = (d.natAbs : Int) := by rw [wd]; omega
    have t1 : Int.tdiv (-x) (Int.gcd x d : Int) = u := by rw [tdivE hg ((Int.dvd_neg).2 dx), l1]
    have t2 : Int.tdiv (d.natAbs : Int) (Int.gcd x d : Int) = v := by rw [← hn, wd, tdivE hg ((Int.dvd_neg).2 dd), l2]
    constructor
    · unfold m58
      rw [brn_t (by simpa using h), hm, hn, gcd80 N d.natAbs x.natAbs d.natAbs (Nat.le_refl _) N hN]
      simp only [bnd', getI, if_true, hG]
      rw [grd_t (by omega), wx, t1, t2, wrap64 (by omega) (by omega), wrap64 (by omega) (by omega), e]
      rfl
    · unfold m60
      rw [brn_t (by simpa using h), hm, hn, (gcd60 N x d d.natAbs x.natAbs d.natAbs (Nat.le_refl _) N hN).1]
      simp only [bnd', hG]
      rw [grd_t (by omega), wx, t1, t2, wrap64 (by omega) (by omega), wrap64 (by omega) (by omega), e]
      rfl
  · rw [if_neg h, e] at hl
    obtain ⟨l1, l2⟩ := Prod.mk.inj hl
    have hn : d = (d.natAbs : Int) := by omega
    have t1 : Int.tdiv x (Int.gcd x d : Int) = u := by rw [tdivE hg dx, l1]
    have t2 : Int.tdiv d (Int.gcd x d : Int) = v := by rw [tdivE hg dd, l2]
    constructor
    · unfold m58
      rw [brn_f (by simpa using h), maxA ⟨x1, x2⟩]
      have := gcd80 N d.natAbs x.natAbs d.natAbs (Nat.le_refl _) N hN
      rw [← hn] at this
      rw [this]
      simp only [bnd', getI, if_true, hG]
      rw [grd_t (by omega), t1, t2, wrap64 (by omega) (by omega), wrap64 (by omega) (by omega), e]
      rfl
    · unfold m60
      rw [brn_f (by simpa using h), maxA ⟨x1, x2⟩]
      have := (gcd60 N x d d.natAbs x.natAbs d.natAbs (Nat.le_refl _) N hN).2
      rw [← hn] at this
      rw [this]
      simp only [bnd', hG]
      rw [grd_t (by omega), t1, t2, wrap64 (by omega) (by omega), wrap64 (by omega) (by omega), e]
      rfl
def lessP (a b : Int × Int) : Prop := a.1 * b.2 < b.1 * a.2
instance (a b : Int × Int) : Decidable (lessP a b) := by unfold lessP; infer_instance
def crossP (a b : Int × Int) : Int × Int := lowP (a.1 - b.1) (b.2 - a.2)
theorem less_trans {a b c : Int × Int} (ha : 0 < a.2) (hb : 0 < b.2) (hc : 0 < c.2) (h1 : lessP a b) (h2 : lessP b c) : lessP a c := by
  unfold lessP at *
  have e1 : 0 < (b.1 * a.2 - a.1 * b.2) * c.2 := Int.mul_pos (by omega) hc
  have e2 : 0 < (c.1 * b.2 - b.1 * c.2) * a.2 := Int.mul_pos (by omega) ha
  rcases Int.lt_or_le (a.1 * c.2) (c.1 * a.2) with h | h
  · exact h
  · have e3 : 0 ≤ (a.1 * c.2 - c.1 * a.2) * b.2 := Int.mul_nonneg (by omega) (by omega)
    grind
/-- a fraction in lowest terms -/
def Red (p : Int × Int) : Prop := 0 < p.2 ∧ Int.gcd p.1 p.2 = 1
theorem red_uniq {p q : Int × Int} (hp : Red p) (hq : Red q) (h1 : ¬ lessP p q) (h2 : ¬ lessP q p) : p = q := by
  obtain ⟨a, b⟩ := p
  obtain ⟨c, d⟩ := q
  unfold lessP at h1 h2
  simp only at h1 h2
  obtain ⟨rfl, rfl⟩ := cop_uniq hp.1 hq.1 hp.2 hq.2 (by simp only; omega)
  rfl
theorem low_red (x d : Int) (hd : d ≠ 0) : Red (lowP x d) := by
  obtain ⟨u, v, e, ⟨p, _, c⟩, _⟩ := low_sp x d hd
  rw [e]; exact ⟨p, c⟩
end Go.Proofs.Ytgnphlpoofaojaa

namespace Go.Proofs.Ytgnphlpoofaojaa
open Go.V
set_option maxRecDepth 100000
set_option maxHeartbeats 4000000
set_option linter.unusedSimpArgs false
set_option linter.unusedVariables false
attribute [local go_sem] tl1 tl2 tl3 tl4 tl5 tl9 tl17 tl21 tl22 tl23 tl24 tl25 tl26 tl27 tl28 tl29 tl31 tl33 tl34 tl36 tl37 tl38 tl39 tl40 tl41 tl42 tl43 tl44 tl46 tl47 tl49 tl50 tl52 tl53 tl54 tl55 tl56 tl57 tl58 tl60 tl62 tl63 tl64 tl65 tl66 tl67 tl68 tl69 tl70 tl71 tl72 tl74 tl75 tl76 tl77 tl78 tl79 tl80 tl81 tl82 tl83 tl84 tl85 tl86 tl87 tl88 tl89 tl90 tl91 tl92 tl93 tl94 tl95 tl96 tl97 tl98 tl99 tl100 tl102 tl103 tl104 tl105 tl106 tl107 tl108 tl109 tl110 tl111 tl112 tl113 tl114 tl115 tl116 tl117 tl118 tl119 tl120 tl121 tl122 tl123 tl124 tl125 tl126 tl127 tl128 tl129 tl130 tl131 tl132 tl133 tl134 tl140 tl141 tl145

def m36_L0 (N : Nat) (x622 : Int) (x623 : Int) (c625 : List PV) (x628 : Int) : Nat → Nat → Int → List PV → Option ((Nat × List PV))
  | 0, _, _, _ => none
  | n + 1, n654, x655, c656 =>
    brn (decide (x655 < (IntKind.i64.wrap (1 + (Int.tmod (IntKind.i64.wrap x628) 8))))) (
      grd (0 ≤ x655 ∧ x655 < 8) <|
      grd ((1 + (Int.toNat x655)) < List.length c625) <|
      getI .i8 (gp c625 (1 + (Int.toNat x655))) fun x662 =>
      grd ((IntKind.i64.wrap (x622 + 1)) ≠ 0) <|
      grd ((9 + (Int.toNat x655)) < List.length c625) <|
      getI .i8 (gp c625 (9 + (Int.toNat x655))) fun x666 =>
      grd ((IntKind.i64.wrap (x623 + 1)) ≠ 0) <|
      grd ((n654 + 1) ≤ 1099511627776) <|
      grd (List.length c656 = (n654 * 2)) <|
      m36_L0 N x622 x623 c625 x628 n (n654 + 1) (IntKind.i64.wrap (x655 + 1)) (c656 ++ [(.int .i64 (Int.tmod (IntKind.i64.wrap x662) (IntKind.i64.wrap (x622 + 1)))), (.int .i64 (Int.tmod (IntKind.i64.wrap x666) (IntKind.i64.wrap (x623 + 1))))])) (
      some (n654, c656))
def m36 (N : Nat) (p621 : PV) (x622 : Int) (x623 : Int) : Option (PV) :=
  getA p621 fun c625 =>
  grd (0 < List.length c625) <|
  getI .u8 (gp c625 0) fun x628 =>
  grd (8 ≠ 0) <|
  bnd' (m36_L0 N x622 x623 c625 x628 N 0 0 []) fun o =>
  match o with
  | (n670, c671) =>
    grd (List.length c671 = (n670 * 2)) <|
    some (.lst false n670 c671)
theorem c36 (N : Nat) (p621 : PV) (x622 : Int) (x623 : Int) (r : PV)  (h : m36 N p621 x622 x623 = some r) : FnP Try.prog 36 [p621, (.int .i64 x622), (.int .i64 x623)] r := by
  unfold m36 at h
  refine Fn_of (sz := 39) tab_ok [0, 1, 2, 3, 6, 7, 8, 13, 14, 15] [.tmp 6] Try.func36 rfl rfl rfl (by simp) ?_
  simp only [initSt, initEnv, List.map_cons, List.map_nil, List.getD_cons_zero, List.getD_cons_succ, List.getD_nil]
  have hh := getA_some h; clear h; obtain ⟨c625, h624, h⟩ := hh
  have hh := grd_some h; clear h; obtain ⟨g626, h⟩ := hh
  have hh := getI_some h; clear h; obtain ⟨x628, h627, h⟩ := hh
  have hh := grd_some h; clear h; obtain ⟨g629, h⟩ := hh
  refine W_sound tab_ok mixed 19 _ _ _ ?_
  simp -implicitDefEqProofs only [go_sem, ne_eq, not_false_eq_true, Nat.reduceBEq, Nat.reduceAdd, Nat.reduceSub, Nat.reduceMul, Nat.reduceLT, Nat.reduceLeDiff, Int.reduceLE, Int.reduceLT, Int.reduceToNat, Int.reduceBEq, Int.reduceBNe, decide_true, decide_false, Int.cast_ofNat_Int, ↓reduceIte, h624, g626, h627, g629]
  repeat with_reducible refine And.intro (by first | kernel_rfl | decide) ?_
  refine Wp_weaken (Wk_ownS 7 2 rfl (by decide) (by decide)) ?_
  simp -implicitDefEqProofs only [go_sem, ne_eq, not_false_eq_true, Nat.reduceBEq, Nat.reduceAdd, Nat.reduceSub, Nat.reduceMul, Nat.reduceLT, Nat.reduceLeDiff, Int.reduceLE, Int.reduceLT, Int.reduceToNat, Int.reduceBEq, Int.reduceBNe, decide_true, decide_false, Int.cast_ofNat_Int, ↓reduceIte, h624, g626, h627, g629]
  have hh := bnd'_some h; clear h; obtain ⟨o673, h674, h675⟩ := hh
  refine Wp_cut (fun s => ∃ n670, ∃ c671, (n670, c671) = o673 ∧ s = ⟨[], [(0, .dead), (1, .dead), (2, .dead), (3, .dead), (6, .dead), (7, .sl false 0 0 n670 2), (8, .dead), (13, .dead), (14, .dead), (15, .dead)], [(0, .p c671)], 1, []⟩) ?_ ?_
  · refine Wp_block ?_
    refine Wp_loopG (fun n s => ∃ n654, ∃ x655, ∃ c656, m36_L0 N x622 x623 c625 x628 n n654 x655 c656 = some o673 ∧ s = ⟨[], [(0, .dead), (1, .v (.int .i64 x622)), (2, .v (.int .i64 x623)), (3, .ptr 0 0), (6, .dead), (7, .sl false 1 0 n654 2), (8, .dead), (13, .v (.int .i64 (IntKind.i64.wrap (1 + (Int.tmod (IntKind.i64.wrap x628) 8))))), (14, .v (.int .i64 x655)), (15, .dead)], [(0, .p c625), (1, .p c656)], 2, []⟩) N _ ((Wk_le (.cons _ _ _ _ _ (.dead _) (.cons _ _ _ _ _ (.refl _) (.cons _ _ _ _ _ (.refl _) (.cons _ _ _ _ _ (.refl _) (.cons _ _ _ _ _ (.dead _) (.cons _ _ _ _ _ (.refl _) (.cons _ _ _ _ _ (.refl _) (.cons _ _ _ _ _ (.refl _) (.cons _ _ _ _ _ (.refl _) (.cons _ _ _ _ _ (.refl _) .nil)))))))))) (OLe.refl _)).trans (cmpS_ok rfl)) ⟨_, _, _, h674, rfl⟩ ?_
    clear h674
    rintro n _ ⟨n654, x655, c656, h674, rfl⟩
    cases n with
    | zero => cases h674
    | succ n =>
      rw [m36_L0] at h674
      have hh := brn_some h674; clear h674; rcases hh with ⟨h657, h674⟩ | ⟨h657, h674⟩
      · have hh := grd_some h674; clear h674; obtain ⟨⟨g658, g659⟩, h674⟩ := hh
        have hh := grd_some h674; clear h674; obtain ⟨g660, h674⟩ := hh
        have hh := getI_some h674; clear h674; obtain ⟨x662, h661, h674⟩ := hh
        have hh := grd_some h674; clear h674; obtain ⟨g663, h674⟩ := hh
        have hh := grd_some h674; clear h674; obtain ⟨g664, h674⟩ := hh
        have hh := getI_some h674; clear h674; obtain ⟨x666, h665, h674⟩ := hh
        have hh := grd_some h674; clear h674; obtain ⟨g667, h674⟩ := hh
        have hh := grd_some h674; clear h674; obtain ⟨g668, h674⟩ := hh
        have hh := grd_some h674; clear h674; obtain ⟨g669, h674⟩ := hh
        refine W_sound tab_ok mixed 42 _ _ _ ?_
        simp -implicitDefEqProofs only [go_sem, ne_eq, not_false_eq_true, Nat.reduceBEq, Nat.reduceAdd, Nat.reduceSub, Nat.reduceMul, Nat.reduceLT, Nat.reduceLeDiff, Int.reduceLE, Int.reduceLT, Int.reduceToNat, Int.reduceBEq, Int.reduceBNe, decide_true, decide_false, Int.cast_ofNat_Int, ↓reduceIte, h624, g626, h627, g629, h657, g658, g659, g660, h661, g663, g664, h665, g667, g668, g669]
        repeat with_reducible refine And.intro (by first | kernel_rfl | decide) ?_
        exact cutQ _ ((Wk_le (.cons _ _ _ _ _ (.refl _) (.cons _ _ _ _ _ (.refl _) (.cons _ _ _ _ _ (.refl _) (.cons _ _ _ _ _ (.refl _) (.cons _ _ _ _ _ (.refl _) (.cons _ _ _ _ _ (.refl _) (.cons _ _ _ _ _ (.dead _) (.cons _ _ _ _ _ (.refl _) (.cons _ _ _ _ _ (.refl _) (.cons _ _ _ _ _ (.dead _) .nil)))))))))) (OLe.refl _)).trans (cmpS_ok rfl)) ⟨n, Nat.lt_succ_self n, _, _, _, h674, rfl⟩
      · refine W_sound tab_ok mixed 7 _ _ _ ?_
        simp -implicitDefEqProofs only [go_sem, ne_eq, not_false_eq_true, Nat.reduceBEq, Nat.reduceAdd, Nat.reduceSub, Nat.reduceMul, Nat.reduceLT, Nat.reduceLeDiff, Int.reduceLE, Int.reduceLT, Int.reduceToNat, Int.reduceBEq, Int.reduceBNe, decide_true, decide_false, Int.cast_ofNat_Int, ↓reduceIte, h624, g626, h627, g629, h657]
        repeat with_reducible refine And.intro (by first | kernel_rfl | decide) ?_
        obtain rfl := Option.some.inj h674
        exact cutQ _ ((Wk_le (.cons _ _ _ _ _ (.refl _) (.cons _ _ _ _ _ (.dead _) (.cons _ _ _ _ _ (.dead _) (.cons _ _ _ _ _ (.dead _) (.cons _ _ _ _ _ (.refl _) (.cons _ _ _ _ _ (.refl _) (.cons _ _ _ _ _ (.refl _) (.cons _ _ _ _ _ (.dead _) (.cons _ _ _ _ _ (.dead _) (.cons _ _ _ _ _ (.dead _) .nil)))))))))) (OLe.refl _)).trans (cmpS_ok rfl)) ⟨_, _, rfl, rfl⟩
  · rintro _ ⟨n670, c671, rfl, rfl⟩
    (try dsimp only at h675)
    refine W_sound tab_ok mixed 6 _ _ _ ?_
    simp -implicitDefEqProofs only [go_sem, ne_eq, not_false_eq_true, Nat.reduceBEq, Nat.reduceAdd, Nat.reduceSub, Nat.reduceMul, Nat.reduceLT, Nat.reduceLeDiff, Int.reduceLE, Int.reduceLT, Int.reduceToNat, Int.reduceBEq, Int.reduceBNe, decide_true, decide_false, Int.cast_ofNat_Int, ↓reduceIte, h624, g626, h627, g629]
    repeat with_reducible refine And.intro (by first | kernel_rfl | decide) ?_
    have hh := grd_some h675; clear h675; obtain ⟨g672, h675⟩ := hh
    refine FinQ_wk (Wk_freeze 0 c671 (by rfl) (by decide) (by decide)) ?_
    simp -implicitDefEqProofs only [go_sem, ne_eq, not_false_eq_true, Nat.reduceBEq, Nat.reduceAdd, Nat.reduceSub, Nat.reduceMul, Nat.reduceLT, Nat.reduceLeDiff, Int.reduceLE, Int.reduceLT, Int.reduceToNat, Int.reduceBEq, Int.reduceBNe, decide_true, decide_false, Int.cast_ofNat_Int, ↓reduceIte, h624, g626, h627, g629, g672]
    obtain rfl := Option.some.inj h675
    exact finC [(6, .v (.lst false n670 c671))] [(6, .v (.lst false n670 c671))] (by simp [leE, lk_cons]) (.cons _ _ _ _ _ (.v _ _ (.refl _)) .nil) (by rfl) (by simp [leE, lk_cons]) (by decide) (by decide) rfl (by simp only [go_sem, ne_eq, not_false_eq_true, Nat.reduceBEq, Nat.reduceAdd, Nat.reduceSub, Nat.reduceMul, Nat.reduceLT, Nat.reduceLeDiff, Int.reduceLE, Int.reduceLT, Int.reduceToNat, Int.reduceBEq, Int.reduceBNe, decide_true, decide_false, Int.cast_ofNat_Int, ↓reduceIte, resQ_tmp, resQ_cell, resQ_nil, retD_one, retD_two, retD_three, retD_none]; try simp [R.val, retD_one, retD_two, retD_three, retD_none])

def m41 (N : Nat) (p689 : PV) (p690 : PV) : Option (PV) :=
  getA2 p689 fun p692 p693 =>
  getA2 p690 fun p695 p696 =>
  getI .i64 p692 fun x698 =>
  getI .i64 p696 fun x700 =>
  getI .i64 p693 fun x702 =>
  getI .i64 p695 fun x704 =>
  some (.int .i64 (IntKind.i64.wrap ((IntKind.i64.wrap (x698 * x700)) + (IntKind.i64.wrap (x702 * x704)))))
theorem c41 (N : Nat) (p689 : PV) (p690 : PV) (r : PV)  (h : m41 N p689 p690 = some r) : FnP Try.prog 41 [p689, p690] r := by
  unfold m41 at h
  refine Fn_of (sz := 16) tab_ok [0, 1, 2, 3, 4] [.tmp 4] Try.func41 rfl rfl rfl (by simp) ?_
  simp only [initSt, initEnv, List.map_cons, List.map_nil, List.getD_cons_zero, List.getD_cons_succ, List.getD_nil]
  have hh := getA2_some h; clear h; obtain ⟨p692, p693, h691, h⟩ := hh
  have hh := getA2_some h; clear h; obtain ⟨p695, p696, h694, h⟩ := hh
  have hh := getI_some h; clear h; obtain ⟨x698, h697, h⟩ := hh
  have hh := getI_some h; clear h; obtain ⟨x700, h699, h⟩ := hh
  have hh := getI_some h; clear h; obtain ⟨x702, h701, h⟩ := hh
  have hh := getI_some h; clear h; obtain ⟨x704, h703, h⟩ := hh
  refine W_sound tab_ok mixed 22 _ _ _ ?_
  simp -implicitDefEqProofs only [go_sem, ne_eq, not_false_eq_true, Nat.reduceBEq, Nat.reduceAdd, Nat.reduceSub, Nat.reduceMul, Nat.reduceLT, Nat.reduceLeDiff, Int.reduceLE, Int.reduceLT, Int.reduceToNat, Int.reduceBEq, Int.reduceBNe, decide_true, decide_false, Int.cast_ofNat_Int, ↓reduceIte, h691, h694, h697, h699, h701, h703]
  repeat with_reducible refine And.intro (by first | kernel_rfl | decide) ?_
  obtain rfl := Option.some.inj h
  exact finC [(4, .v (.int .i64 (IntKind.i64.wrap ((IntKind.i64.wrap (x698 * x700)) + (IntKind.i64.wrap (x702 * x704))))))] [(4, .v (.int .i64 (IntKind.i64.wrap ((IntKind.i64.wrap (x698 * x700)) + (IntKind.i64.wrap (x702 * x704))))))] (by simp [leE, lk_cons]) (.cons _ _ _ _ _ (.v _ _ (.refl _)) .nil) (by rfl) (by simp [leE, lk_cons]) (by decide) (by decide) rfl (by simp only [go_sem, ne_eq, not_false_eq_true, Nat.reduceBEq, Nat.reduceAdd, Nat.reduceSub, Nat.reduceMul, Nat.reduceLT, Nat.reduceLeDiff, Int.reduceLE, Int.reduceLT, Int.reduceToNat, Int.reduceBEq, Int.reduceBNe, decide_true, decide_false, Int.cast_ofNat_Int, ↓reduceIte, resQ_tmp, resQ_cell, resQ_nil, retD_one, retD_two, retD_three, retD_none]; try simp [R.val, retD_one, retD_two, retD_three, retD_none])

def m39_L0 (N : Nat) (n679 : Nat) (c680 : List PV) (p682 : PV) (p683 : PV) : Nat → Int → Int → Option (Int)
  | 0, _, _ => none
  | n + 1, x709, x710 =>
    brn (decide (x710 < ((n679 : Nat) : Int))) (
      grd (0 ≤ x710 ∧ x710 < ((n679 : Nat) : Int)) <|
      grd (2 ≤ List.length (List.drop ((Int.toNat x710) * 2) c680)) <|
      getA2 (.agg (List.take 2 (List.drop ((Int.toNat x710) * 2) c680))) fun p716 p717 =>
      bnd' (m41 N (.agg [p716, p717]) (.agg [p682, p683])) fun p718 =>
      getI .i64 p718 fun x721 =>
      m39_L0 N n679 c680 p682 p683 n (maxI x709 x721) (IntKind.i64.wrap (x710 + 1))) (
      some x709)
def m39 (N : Nat) (p676 : PV) (p677 : PV) : Option (PV) :=
  getL p676 fun n679 c680 =>
  getA2 p677 fun p682 p683 =>
  grd (0 < ((n679 : Nat) : Int)) <|
  grd (2 ≤ List.length c680) <|
  getA2 (.agg (List.take 2 c680)) fun p687 p688 =>
  bnd' (m41 N (.agg [p687, p688]) (.agg [p682, p683])) fun p705 =>
  getI .i64 p705 fun x708 =>
  bnd' (m39_L0 N n679 c680 p682 p683 N x708 0) fun x722 =>
  some (.int .i64 x722)
theorem c39 (N : Nat) (p676 : PV) (p677 : PV) (r : PV)  (h : m39 N p676 p677 = some r) : FnP Try.prog 39 [p676, p677] r := by
  unfold m39 at h
  refine Fn_of (sz := 26) tab_ok [0, 1, 3, 4, 5, 7, 13, 14, 15, 16] [.tmp 4] Try.func39 rfl rfl rfl (by simp) ?_
  simp only [initSt, initEnv, List.map_cons, List.map_nil, List.getD_cons_zero, List.getD_cons_succ, List.getD_nil]
  have hh := getL_some h; clear h; obtain ⟨n679, c680, h678, h⟩ := hh
  have hh := getA2_some h; clear h; obtain ⟨p682, p683, h681, h⟩ := hh
  have hh := grd_some h; clear h; obtain ⟨g684, h⟩ := hh
  have hh := grd_some h; clear h; obtain ⟨g685, h⟩ := hh
  have hh := getA2_some h; clear h; obtain ⟨p687, p688, h686, h⟩ := hh
  injection h686 with h686
  have hh := bnd'_some h; clear h; obtain ⟨p705, h706, h⟩ := hh
  refine W_sound tab_ok mixed 11 _ _ _ ?_
  simp -implicitDefEqProofs only [go_sem, ne_eq, not_false_eq_true, Nat.reduceBEq, Nat.reduceAdd, Nat.reduceSub, Nat.reduceMul, Nat.reduceLT, Nat.reduceLeDiff, Int.reduceLE, Int.reduceLT, Int.reduceToNat, Int.reduceBEq, Int.reduceBNe, decide_true, decide_false, Int.cast_ofNat_Int, ↓reduceIte, h678, h681, g684, g685, h686]
  repeat with_reducible refine And.intro (by first | kernel_rfl | decide) ?_
  refine Wp_callP (c41 N _ _ _ h706) (by kernel_rfl) rfl rfl rfl rfl (by decide) ?_
  have hh := getI_some h; clear h; obtain ⟨x708, h707, h⟩ := hh
  refine W_sound tab_ok mixed 9 _ _ _ ?_
  simp -implicitDefEqProofs only [go_sem, ne_eq, not_false_eq_true, Nat.reduceBEq, Nat.reduceAdd, Nat.reduceSub, Nat.reduceMul, Nat.reduceLT, Nat.reduceLeDiff, Int.reduceLE, Int.reduceLT, Int.reduceToNat, Int.reduceBEq, Int.reduceBNe, decide_true, decide_false, Int.cast_ofNat_Int, ↓reduceIte, h678, h681, g684, g685, h686, h707]
  repeat with_reducible refine And.intro (by first | kernel_rfl | decide) ?_
  have hh := bnd'_some h; clear h; obtain ⟨o723, h724, h725⟩ := hh
  refine Wp_cut (fun s => ∃ x722, x722 = o723 ∧ s = ⟨[], [(0, .dead), (1, .dead), (3, .dead), (4, .dead), (5, .v (.int .i64 x722)), (7, .dead), (13, .dead), (14, .dead), (15, .dead), (16, .dead)], [], 0, []⟩) ?_ ?_
  · refine Wp_block ?_
    refine Wp_loopG (fun n s => ∃ x709, ∃ x710, m39_L0 N n679 c680 p682 p683 n x709 x710 = some o723 ∧ s = ⟨[], [(0, .dead), (1, .dead), (3, .ptr 0 0), (4, .dead), (5, .v (.int .i64 x709)), (7, .dead), (13, .v (.lst false n679 c680)), (14, .v (.int .i64 ((n679 : Nat) : Int))), (15, .v (.int .i64 x710)), (16, .dead)], [(0, .p [p682, p683])], 1, []⟩) N _ ((Wk_le (.cons _ _ _ _ _ (.dead _) (.cons _ _ _ _ _ (.dead _) (.cons _ _ _ _ _ (.refl _) (.cons _ _ _ _ _ (.dead _) (.cons _ _ _ _ _ (.refl _) (.cons _ _ _ _ _ (.refl _) (.cons _ _ _ _ _ (.refl _) (.cons _ _ _ _ _ (.refl _) (.cons _ _ _ _ _ (.refl _) (.cons _ _ _ _ _ (.refl _) .nil)))))))))) (OLe.refl _)).trans (cmpS_ok rfl)) ⟨_, _, h724, rfl⟩ ?_
    clear h724
    rintro n _ ⟨x709, x710, h724, rfl⟩
    cases n with
    | zero => cases h724
    | succ n =>
      rw [m39_L0] at h724
      have hh := brn_some h724; clear h724; rcases hh with ⟨h711, h724⟩ | ⟨h711, h724⟩
      · have hh := grd_some h724; clear h724; obtain ⟨⟨g712, g713⟩, h724⟩ := hh
        have hh := grd_some h724; clear h724; obtain ⟨g714, h724⟩ := hh
        have hh := getA2_some h724; clear h724; obtain ⟨p716, p717, h715, h724⟩ := hh
        injection h715 with h715
        have hh := bnd'_some h724; clear h724; obtain ⟨p718, h719, h724⟩ := hh
        refine W_sound tab_ok mixed 20 _ _ _ ?_
        simp -implicitDefEqProofs only [go_sem, ne_eq, not_false_eq_true, Nat.reduceBEq, Nat.reduceAdd, Nat.reduceSub, Nat.reduceMul, Nat.reduceLT, Nat.reduceLeDiff, Int.reduceLE, Int.reduceLT, Int.reduceToNat, Int.reduceBEq, Int.reduceBNe, decide_true, decide_false, Int.cast_ofNat_Int, ↓reduceIte, h678, h681, g684, g685, h686, h707, h711, g712, g713, g714, h715]
        repeat with_reducible refine And.intro (by first | kernel_rfl | decide) ?_
        refine Wp_callP (c41 N _ _ _ h719) (by kernel_rfl) rfl rfl rfl rfl (by decide) ?_
        have hh := getI_some h724; clear h724; obtain ⟨x721, h720, h724⟩ := hh
        refine W_sound tab_ok mixed 8 _ _ _ ?_
        simp -implicitDefEqProofs only [go_sem, ne_eq, not_false_eq_true, Nat.reduceBEq, Nat.reduceAdd, Nat.reduceSub, Nat.reduceMul, Nat.reduceLT, Nat.reduceLeDiff, Int.reduceLE, Int.reduceLT, Int.reduceToNat, Int.reduceBEq, Int.reduceBNe, decide_true, decide_false, Int.cast_ofNat_Int, ↓reduceIte, h678, h681, g684, g685, h686, h707, h711, g712, g713, g714, h715, h720]
        repeat with_reducible refine And.intro (by first | kernel_rfl | decide) ?_
        exact cutQ _ ((Wk_le (.cons _ _ _ _ _ (.refl _) (.cons _ _ _ _ _ (.refl _) (.cons _ _ _ _ _ (.refl _) (.cons _ _ _ _ _ (.refl _) (.cons _ _ _ _ _ (.refl _) (.cons _ _ _ _ _ (.dead _) (.cons _ _ _ _ _ (.refl _) (.cons _ _ _ _ _ (.refl _) (.cons _ _ _ _ _ (.refl _) (.cons _ _ _ _ _ (.dead _) .nil)))))))))) (OLe.refl _)).trans (cmpS_ok rfl)) ⟨n, Nat.lt_succ_self n, _, _, h724, rfl⟩
      · refine W_sound tab_ok mixed 7 _ _ _ ?_
        simp -implicitDefEqProofs only [go_sem, ne_eq, not_false_eq_true, Nat.reduceBEq, Nat.reduceAdd, Nat.reduceSub, Nat.reduceMul, Nat.reduceLT, Nat.reduceLeDiff, Int.reduceLE, Int.reduceLT, Int.reduceToNat, Int.reduceBEq, Int.reduceBNe, decide_true, decide_false, Int.cast_ofNat_Int, ↓reduceIte, h678, h681, g684, g685, h686, h707, h711]
        repeat with_reducible refine And.intro (by first | kernel_rfl | decide) ?_
        obtain rfl := Option.some.inj h724
        exact cutQ _ ((Wk_le (.cons _ _ _ _ _ (.refl _) (.cons _ _ _ _ _ (.refl _) (.cons _ _ _ _ _ (.dead _) (.cons _ _ _ _ _ (.refl _) (.cons _ _ _ _ _ (.refl _) (.cons _ _ _ _ _ (.refl _) (.cons _ _ _ _ _ (.dead _) (.cons _ _ _ _ _ (.dead _) (.cons _ _ _ _ _ (.dead _) (.cons _ _ _ _ _ (.dead _) .nil)))))))))) (OLe.refl _)).trans (cmpS_ok rfl)) ⟨_, rfl, rfl⟩
  · rintro _ ⟨x722, rfl, rfl⟩
    refine W_sound tab_ok mixed 6 _ _ _ ?_
    simp -implicitDefEqProofs only [go_sem, ne_eq, not_false_eq_true, Nat.reduceBEq, Nat.reduceAdd, Nat.reduceSub, Nat.reduceMul, Nat.reduceLT, Nat.reduceLeDiff, Int.reduceLE, Int.reduceLT, Int.reduceToNat, Int.reduceBEq, Int.reduceBNe, decide_true, decide_false, Int.cast_ofNat_Int, ↓reduceIte, h678, h681, g684, g685, h686, h707]
    repeat with_reducible refine And.intro (by first | kernel_rfl | decide) ?_
    obtain rfl := Option.some.inj h725
    exact finC [(4, .v (.int .i64 x722))] [(4, .v (.int .i64 x722))] (by simp [leE, lk_cons]) (.cons _ _ _ _ _ (.v _ _ (.refl _)) .nil) (by rfl) (by simp [leE, lk_cons]) (by decide) (by decide) rfl (by simp only [go_sem, ne_eq, not_false_eq_true, Nat.reduceBEq, Nat.reduceAdd, Nat.reduceSub, Nat.reduceMul, Nat.reduceLT, Nat.reduceLeDiff, Int.reduceLE, Int.reduceLT, Int.reduceToNat, Int.reduceBEq, Int.reduceBNe, decide_true, decide_false, Int.cast_ofNat_Int, ↓reduceIte, resQ_tmp, resQ_cell, resQ_nil, retD_one, retD_two, retD_three, retD_none]; try simp [R.val, retD_one, retD_two, retD_three, retD_none])

def m40 (N : Nat) (x726 : Int) (x727 : Int) : Option (PV) :=
  some (.agg [(.int .i64 x726), (.int .i64 x727)])
theorem c40 (N : Nat) (x726 : Int) (x727 : Int) (r : PV)  (h : m40 N x726 x727 = some r) : FnP Try.prog 40 [(.int .i64 x726), (.int .i64 x727)] r := by
  unfold m40 at h
  refine Fn_of (sz := 8) tab_ok [0, 1, 4] [.cell 4 24] Try.func40 rfl rfl rfl (by simp) ?_
  simp only [initSt, initEnv, List.map_cons, List.map_nil, List.getD_cons_zero, List.getD_cons_succ, List.getD_nil]
  refine W_sound tab_ok mixed 12 _ _ _ ?_
  simp -implicitDefEqProofs only [go_sem, ne_eq, not_false_eq_true, Nat.reduceBEq, Nat.reduceAdd, Nat.reduceSub, Nat.reduceMul, Nat.reduceLT, Nat.reduceLeDiff, Int.reduceLE, Int.reduceLT, Int.reduceToNat, Int.reduceBEq, Int.reduceBNe, decide_true, decide_false, Int.cast_ofNat_Int, ↓reduceIte]
  repeat with_reducible refine And.intro (by first | kernel_rfl | decide) ?_
  refine FinQ_wk (Wk_freeze 4 [(.int .i64 x726), (.int .i64 x727)] (by rfl) (by decide) (by decide)) ?_
  simp -implicitDefEqProofs only [go_sem, ne_eq, not_false_eq_true, Nat.reduceBEq, Nat.reduceAdd, Nat.reduceSub, Nat.reduceMul, Nat.reduceLT, Nat.reduceLeDiff, Int.reduceLE, Int.reduceLT, Int.reduceToNat, Int.reduceBEq, Int.reduceBNe, decide_true, decide_false, Int.cast_ofNat_Int, ↓reduceIte]
  obtain rfl := Option.some.inj h
  exact finC [(4, .v (.ipt [(.int .i64 x726), (.int .i64 x727)]))] [(4, .v (.ipt [(.int .i64 x726), (.int .i64 x727)]))] (by simp [leE, lk_cons]) (.cons _ _ _ _ _ (.v _ _ (.refl _)) .nil) (by rfl) (by simp [leE, lk_cons]) (by decide) (by decide) rfl (by simp only [go_sem, ne_eq, not_false_eq_true, Nat.reduceBEq, Nat.reduceAdd, Nat.reduceSub, Nat.reduceMul, Nat.reduceLT, Nat.reduceLeDiff, Int.reduceLE, Int.reduceLT, Int.reduceToNat, Int.reduceBEq, Int.reduceBNe, decide_true, decide_false, Int.cast_ofNat_Int, ↓reduceIte, resQ_tmp, resQ_cell, resQ_nil, retD_one, retD_two, retD_three, retD_none]; try simp [R.val, retD_one, retD_two, retD_three, retD_none])

def m37_L0 (N : Nat) (x733 : Int) (x737 : Int) : Nat → Int → Option ((PV ⊕ Unit))
  | 0, _ => none
  | n + 1, x740 =>
    brn (decide (x740 ≤ x733)) (
      grd (x740 ≠ 0) <|
      brn ((Int.tmod x737 x740) == 0) (
        brn ((Int.tmod x733 x740) == 0) (
          some (.inl (.bool false))) (
          m37_L0 N x733 x737 n (IntKind.i64.wrap (x740 + 1)))) (
        m37_L0 N x733 x737 n (IntKind.i64.wrap (x740 + 1)))) (
      some (.inr ()))
def m37 (N : Nat) (p728 : PV) : Option (PV) :=
  getA2 p728 fun p730 p731 =>
  getI .i64 p731 fun x733 =>
  brn (decide (x733 < 1)) (
    some (.bool false)) (
    brn (decide (x733 > 1000)) (
      some (.bool false)) (
      getI .i64 p730 fun x737 =>
      brn (decide (x737 > 200000)) (
        some (.bool false)) (
        brn (decide (x737 < (-200000))) (
          some (.bool false)) (
          bnd' (m37_L0 N x733 x737 N 2) fun o =>
          match o with
          | .inl p745 =>
            some p745
          | .inr () =>
            some (.bool true)))))
theorem c37 (N : Nat) (p728 : PV) (r : PV)  (h : m37 N p728 = some r) : FnP Try.prog 37 [p728] r := by
  unfold m37 at h
  refine Fn_of (sz := 40) tab_ok [0, 1, 2, 3, 21, 25, 39] [.tmp 2] Try.func37 rfl rfl rfl (by simp) ?_
  simp only [initSt, initEnv, List.map_cons, List.map_nil, List.getD_cons_zero, List.getD_cons_succ, List.getD_nil]
  have hh := getA2_some h; clear h; obtain ⟨p730, p731, h729, h⟩ := hh
  have hh := getI_some h; clear h; obtain ⟨x733, h732, h⟩ := hh
  have hh := brn_some h; clear h; rcases hh with ⟨h734, h⟩ | ⟨h734, h⟩
  · refine W_sound tab_ok mixed 33 _ _ _ ?_
    simp -implicitDefEqProofs only [go_sem, ne_eq, not_false_eq_true, Nat.reduceBEq, Nat.reduceAdd, Nat.reduceSub, Nat.reduceMul, Nat.reduceLT, Nat.reduceLeDiff, Int.reduceLE, Int.reduceLT, Int.reduceToNat, Int.reduceBEq, Int.reduceBNe, decide_true, decide_false, Int.cast_ofNat_Int, ↓reduceIte, h729, h732, h734]
    repeat with_reducible refine And.intro (by first | kernel_rfl | decide) ?_
    obtain rfl := Option.some.inj h
    exact finC [(2, .v (.bool false))] [(2, .v (.bool false))] (by simp [leE, lk_cons]) (.cons _ _ _ _ _ (.v _ _ (.refl _)) .nil) (by rfl) (by simp [leE, lk_cons]) (by decide) (by decide) rfl (by simp only [go_sem, ne_eq, not_false_eq_true, Nat.reduceBEq, Nat.reduceAdd, Nat.reduceSub, Nat.reduceMul, Nat.reduceLT, Nat.reduceLeDiff, Int.reduceLE, Int.reduceLT, Int.reduceToNat, Int.reduceBEq, Int.reduceBNe, decide_true, decide_false, Int.cast_ofNat_Int, ↓reduceIte, resQ_tmp, resQ_cell, resQ_nil, retD_one, retD_two, retD_three, retD_none]; try simp [R.val, retD_one, retD_two, retD_three, retD_none])
  · have hh := brn_some h; clear h; rcases hh with ⟨h735, h⟩ | ⟨h735, h⟩
    · refine W_sound tab_ok mixed 33 _ _ _ ?_
      simp -implicitDefEqProofs only [go_sem, ne_eq, not_false_eq_true, Nat.reduceBEq, Nat.reduceAdd, Nat.reduceSub, Nat.reduceMul, Nat.reduceLT, Nat.reduceLeDiff, Int.reduceLE, Int.reduceLT, Int.reduceToNat, Int.reduceBEq, Int.reduceBNe, decide_true, decide_false, Int.cast_ofNat_Int, ↓reduceIte, h729, h732, h734, h735]
      repeat with_reducible refine And.intro (by first | kernel_rfl | decide) ?_
      obtain rfl := Option.some.inj h
      exact finC [(2, .v (.bool false))] [(2, .v (.bool false))] (by simp [leE, lk_cons]) (.cons _ _ _ _ _ (.v _ _ (.refl _)) .nil) (by rfl) (by simp [leE, lk_cons]) (by decide) (by decide) rfl (by simp only [go_sem, ne_eq, not_false_eq_true, Nat.reduceBEq, Nat.reduceAdd, Nat.reduceSub, Nat.reduceMul, Nat.reduceLT, Nat.reduceLeDiff, Int.reduceLE, Int.reduceLT, Int.reduceToNat, Int.reduceBEq, Int.reduceBNe, decide_true, decide_false, Int.cast_ofNat_Int, ↓reduceIte, resQ_tmp, resQ_cell, resQ_nil, retD_one, retD_two, retD_three, retD_none]; try simp [R.val, retD_one, retD_two, retD_three, retD_none])
    · have hh := getI_some h; clear h; obtain ⟨x737, h736, h⟩ := hh
      have hh := brn_some h; clear h; rcases hh with ⟨h738, h⟩ | ⟨h738, h⟩
      · refine W_sound tab_ok mixed 33 _ _ _ ?_
        simp -implicitDefEqProofs only [go_sem, ne_eq, not_false_eq_true, Nat.reduceBEq, Nat.reduceAdd, Nat.reduceSub, Nat.reduceMul, Nat.reduceLT, Nat.reduceLeDiff, Int.reduceLE, Int.reduceLT, Int.reduceToNat, Int.reduceBEq, Int.reduceBNe, decide_true, decide_false, Int.cast_ofNat_Int, ↓reduceIte, h729, h732, h734, h735, h736, h738]
        repeat with_reducible refine And.intro (by first | kernel_rfl | decide) ?_
        obtain rfl := Option.some.inj h
        exact finC [(2, .v (.bool false))] [(2, .v (.bool false))] (by simp [leE, lk_cons]) (.cons _ _ _ _ _ (.v _ _ (.refl _)) .nil) (by rfl) (by simp [leE, lk_cons]) (by decide) (by decide) rfl (by simp only [go_sem, ne_eq, not_false_eq_true, Nat.reduceBEq, Nat.reduceAdd, Nat.reduceSub, Nat.reduceMul, Nat.reduceLT, Nat.reduceLeDiff, Int.reduceLE, Int.reduceLT, Int.reduceToNat, Int.reduceBEq, Int.reduceBNe, decide_true, decide_false, Int.cast_ofNat_Int, ↓reduceIte, resQ_tmp, resQ_cell, resQ_nil, retD_one, retD_two, retD_three, retD_none]; try simp [R.val, retD_one, retD_two, retD_three, retD_none])
      · have hh := brn_some h; clear h; rcases hh with ⟨h739, h⟩ | ⟨h739, h⟩
        · refine W_sound tab_ok mixed 33 _ _ _ ?_
          simp -implicitDefEqProofs only [go_sem, ne_eq, not_false_eq_true, Nat.reduceBEq, Nat.reduceAdd, Nat.reduceSub, Nat.reduceMul, Nat.reduceLT, Nat.reduceLeDiff, Int.reduceLE, Int.reduceLT, Int.reduceToNat, Int.reduceBEq, Int.reduceBNe, decide_true, decide_false, Int.cast_ofNat_Int, ↓reduceIte, h729, h732, h734, h735, h736, h738, h739]
          repeat with_reducible refine And.intro (by first | kernel_rfl | decide) ?_
          obtain rfl := Option.some.inj h
          exact finC [(2, .v (.bool false))] [(2, .v (.bool false))] (by simp [leE, lk_cons]) (.cons _ _ _ _ _ (.v _ _ (.refl _)) .nil) (by rfl) (by simp [leE, lk_cons]) (by decide) (by decide) rfl (by simp only [go_sem, ne_eq, not_false_eq_true, Nat.reduceBEq, Nat.reduceAdd, Nat.reduceSub, Nat.reduceMul, Nat.reduceLT, Nat.reduceLeDiff, Int.reduceLE, Int.reduceLT, Int.reduceToNat, Int.reduceBEq, Int.reduceBNe, decide_true, decide_false, Int.cast_ofNat_Int, ↓reduceIte, resQ_tmp, resQ_cell, resQ_nil, retD_one, retD_two, retD_three, retD_none]; try simp [R.val, retD_one, retD_two, retD_three, retD_none])
        · refine W_sound tab_ok mixed 34 _ _ _ ?_
          simp -implicitDefEqProofs only [go_sem, ne_eq, not_false_eq_true, Nat.reduceBEq, Nat.reduceAdd, Nat.reduceSub, Nat.reduceMul, Nat.reduceLT, Nat.reduceLeDiff, Int.reduceLE, Int.reduceLT, Int.reduceToNat, Int.reduceBEq, Int.reduceBNe, decide_true, decide_false, Int.cast_ofNat_Int, ↓reduceIte, h729, h732, h734, h735, h736, h738, h739]
          repeat with_reducible refine And.intro (by first | kernel_rfl | decide) ?_
          have hh := bnd'_some h; clear h; obtain ⟨o746, h747, h748⟩ := hh
          refine Wp_cut (fun s => (.inr ()) = o746 ∧ s = ⟨[], [(0, .dead), (1, .dead), (2, .dead), (3, .dead), (21, .dead), (25, .dead), (39, .dead)], [], 0, []⟩) ?_ ?_
          · refine Wp_block ?_
            refine Wp_loopG (fun n s => ∃ x740, m37_L0 N x733 x737 n x740 = some o746 ∧ s = ⟨[], [(0, .dead), (1, .ptr 0 0), (2, .dead), (3, .v (.int .i64 x740)), (21, .dead), (25, .dead), (39, .dead)], [(0, .p [(.int .i64 x737), (.int .i64 x733)])], 1, []⟩) N _ ((Wk_le (.cons _ _ _ _ _ (.dead _) (.cons _ _ _ _ _ (.refl _) (.cons _ _ _ _ _ (.dead _) (.cons _ _ _ _ _ (.refl _) (.cons _ _ _ _ _ (.dead _) (.cons _ _ _ _ _ (.refl _) (.cons _ _ _ _ _ (.refl _) .nil))))))) (OLe.refl _)).trans (cmpS_ok rfl)) ⟨_, h747, rfl⟩ ?_
            clear h747
            rintro n _ ⟨x740, h747, rfl⟩
            cases n with
            | zero => cases h747
            | succ n =>
              rw [m37_L0] at h747
              have hh := brn_some h747; clear h747; rcases hh with ⟨h741, h747⟩ | ⟨h741, h747⟩
              · have hh := grd_some h747; clear h747; obtain ⟨g742, h747⟩ := hh
                have hh := brn_some h747; clear h747; rcases hh with ⟨h743, h747⟩ | ⟨h743, h747⟩
                · have hh := brn_some h747; clear h747; rcases hh with ⟨h744, h747⟩ | ⟨h744, h747⟩
                  · refine W_sound tab_ok mixed 33 _ _ _ ?_
                    simp -implicitDefEqProofs only [go_sem, ne_eq, not_false_eq_true, Nat.reduceBEq, Nat.reduceAdd, Nat.reduceSub, Nat.reduceMul, Nat.reduceLT, Nat.reduceLeDiff, Int.reduceLE, Int.reduceLT, Int.reduceToNat, Int.reduceBEq, Int.reduceBNe, decide_true, decide_false, Int.cast_ofNat_Int, ↓reduceIte, h729, h732, h734, h735, h736, h738, h739, h741, g742, h743, h744]
                    repeat with_reducible refine And.intro (by first | kernel_rfl | decide) ?_
                    obtain rfl := Option.some.inj h747
                    (try dsimp only at h748)
                    obtain rfl := Option.some.inj h748
                    exact finC [(2, .v (.bool false))] [(2, .v (.bool false))] (by simp [leE, lk_cons]) (.cons _ _ _ _ _ (.v _ _ (.refl _)) .nil) (by rfl) (by simp [leE, lk_cons]) (by decide) (by decide) rfl (by simp only [go_sem, ne_eq, not_false_eq_true, Nat.reduceBEq, Nat.reduceAdd, Nat.reduceSub, Nat.reduceMul, Nat.reduceLT, Nat.reduceLeDiff, Int.reduceLE, Int.reduceLT, Int.reduceToNat, Int.reduceBEq, Int.reduceBNe, decide_true, decide_false, Int.cast_ofNat_Int, ↓reduceIte, resQ_tmp, resQ_cell, resQ_nil, retD_one, retD_two, retD_three, retD_none]; try simp [R.val, retD_one, retD_two, retD_three, retD_none])
                  · refine W_sound tab_ok mixed 35 _ _ _ ?_
                    simp -implicitDefEqProofs only [go_sem, ne_eq, not_false_eq_true, Nat.reduceBEq, Nat.reduceAdd, Nat.reduceSub, Nat.reduceMul, Nat.reduceLT, Nat.reduceLeDiff, Int.reduceLE, Int.reduceLT, Int.reduceToNat, Int.reduceBEq, Int.reduceBNe, decide_true, decide_false, Int.cast_ofNat_Int, ↓reduceIte, h729, h732, h734, h735, h736, h738, h739, h741, g742, h743, h744]
                    repeat with_reducible refine And.intro (by first | kernel_rfl | decide) ?_
                    exact cutQ _ ((Wk_le (.cons _ _ _ _ _ (.refl _) (.cons _ _ _ _ _ (.refl _) (.cons _ _ _ _ _ (.refl _) (.cons _ _ _ _ _ (.refl _) (.cons _ _ _ _ _ (.refl _) (.cons _ _ _ _ _ (.dead _) (.cons _ _ _ _ _ (.dead _) .nil))))))) (OLe.refl _)).trans (cmpS_ok rfl)) ⟨n, Nat.lt_succ_self n, _, h747, rfl⟩
                · refine W_sound tab_ok mixed 35 _ _ _ ?_
                  simp -implicitDefEqProofs only [go_sem, ne_eq, not_false_eq_true, Nat.reduceBEq, Nat.reduceAdd, Nat.reduceSub, Nat.reduceMul, Nat.reduceLT, Nat.reduceLeDiff, Int.reduceLE, Int.reduceLT, Int.reduceToNat, Int.reduceBEq, Int.reduceBNe, decide_true, decide_false, Int.cast_ofNat_Int, ↓reduceIte, h729, h732, h734, h735, h736, h738, h739, h741, g742, h743]
                  repeat with_reducible refine And.intro (by first | kernel_rfl | decide) ?_
                  exact cutQ _ ((Wk_le (.cons _ _ _ _ _ (.refl _) (.cons _ _ _ _ _ (.refl _) (.cons _ _ _ _ _ (.refl _) (.cons _ _ _ _ _ (.refl _) (.cons _ _ _ _ _ (.refl _) (.cons _ _ _ _ _ (.dead _) (.cons _ _ _ _ _ (.dead _) .nil))))))) (OLe.refl _)).trans (cmpS_ok rfl)) ⟨n, Nat.lt_succ_self n, _, h747, rfl⟩
              · refine W_sound tab_ok mixed 10 _ _ _ ?_
                simp -implicitDefEqProofs only [go_sem, ne_eq, not_false_eq_true, Nat.reduceBEq, Nat.reduceAdd, Nat.reduceSub, Nat.reduceMul, Nat.reduceLT, Nat.reduceLeDiff, Int.reduceLE, Int.reduceLT, Int.reduceToNat, Int.reduceBEq, Int.reduceBNe, decide_true, decide_false, Int.cast_ofNat_Int, ↓reduceIte, h729, h732, h734, h735, h736, h738, h739, h741]
                repeat with_reducible refine And.intro (by first | kernel_rfl | decide) ?_
                obtain rfl := Option.some.inj h747
                exact cutQ _ ((Wk_le (.cons _ _ _ _ _ (.refl _) (.cons _ _ _ _ _ (.dead _) (.cons _ _ _ _ _ (.refl _) (.cons _ _ _ _ _ (.dead _) (.cons _ _ _ _ _ (.refl _) (.cons _ _ _ _ _ (.dead _) (.cons _ _ _ _ _ (.refl _) .nil))))))) (OLe.refl _)).trans (cmpS_ok rfl)) ⟨rfl, rfl⟩
          · rintro _ ⟨rfl, rfl⟩
            (try dsimp only at h748)
            refine W_sound tab_ok mixed 5 _ _ _ ?_
            simp -implicitDefEqProofs only [go_sem, ne_eq, not_false_eq_true, Nat.reduceBEq, Nat.reduceAdd, Nat.reduceSub, Nat.reduceMul, Nat.reduceLT, Nat.reduceLeDiff, Int.reduceLE, Int.reduceLT, Int.reduceToNat, Int.reduceBEq, Int.reduceBNe, decide_true, decide_false, Int.cast_ofNat_Int, ↓reduceIte, h729, h732, h734, h735, h736, h738, h739]
            repeat with_reducible refine And.intro (by first | kernel_rfl | decide) ?_
            obtain rfl := Option.some.inj h748
            exact finC [(2, .v (.bool true))] [(2, .v (.bool true))] (by simp [leE, lk_cons]) (.cons _ _ _ _ _ (.v _ _ (.refl _)) .nil) (by rfl) (by simp [leE, lk_cons]) (by decide) (by decide) rfl (by simp only [go_sem, ne_eq, not_false_eq_true, Nat.reduceBEq, Nat.reduceAdd, Nat.reduceSub, Nat.reduceMul, Nat.reduceLT, Nat.reduceLeDiff, Int.reduceLE, Int.reduceLT, Int.reduceToNat, Int.reduceBEq, Int.reduceBNe, decide_true, decide_false, Int.cast_ofNat_Int, ↓reduceIte, resQ_tmp, resQ_cell, resQ_nil, retD_one, retD_two, retD_three, retD_none]; try simp [R.val, retD_one, retD_two, retD_three, retD_none])

end Go.Proofs.Ytgnphlpoofaojaa

namespace Go.Proofs.Ytgnphlpoofaojaa
open Go.V

theorem gp_mid (a : List PV) (x : PV) (b : List PV) : gp (a ++ x :: b) a.length = x := by
  have := gp_drop (l := a ++ x :: b) (k := a.length) (i := 0)
  rw [Nat.add_zero] at this
  rw [← this, List.drop_left]; rfl

def deskC (many : Int) (Z : List (Int × Int)) : List PV := .int .u8 many :: (Z.map (fun z => PV.int .i8 z.1) ++ Z.map (fun z => PV.int .i8 z.2))
def mkP (mf mr : Int) (z : Int × Int) : Int × Int := (z.1.tmod (mf + 1), z.2.tmod (mr + 1))
def mkL (mf mr : Int) (n : Nat) (Z : List (Int × Int)) : List (Int × Int) := (Z.take n).map (mkP mf mr)
def byteZ (Z : List (Int × Int)) : Prop := Z.length = 8 ∧ ∀ z ∈ Z, -128 ≤ z.1 ∧ z.1 ≤ 127 ∧ -128 ≤ z.2 ∧ z.2 ≤ 127
theorem deskC_len {many : Int} {Z : List (Int × Int)} (h : Z.length = 8) : (deskC many Z).length = 17 := by simp [deskC, h]
theorem desk_f (many : Int) (done : List (Int × Int)) (z : Int × Int) (rest : List (Int × Int)) : gp (deskC many (done ++ z :: rest)) (1 + done.length) = .int .i8 z.1 := by
  have := gp_mid (PV.int .u8 many :: done.map (fun z => PV.int .i8 z.1)) (.int .i8 z.1) (rest.map (fun z => PV.int .i8 z.1) ++ (done ++ z :: rest).map (fun z => PV.int .i8 z.2))
  simp only [List.length_cons, List.length_map] at this
  rw [Nat.add_comm, ← this]
  simp [deskC]
theorem desk_r (many : Int) (done : List (Int × Int)) (z : Int × Int) (rest : List (Int × Int)) (h : (done ++ z :: rest).length = 8) : gp (deskC many (done ++ z :: rest)) (9 + done.length) = .int .i8 z.2 := by
  have := gp_mid (PV.int .u8 many :: ((done ++ z :: rest).map (fun z => PV.int .i8 z.1) ++ done.map (fun z => PV.int .i8 z.2))) (.int .i8 z.2) (rest.map (fun z => PV.int .i8 z.2))
  simp only [List.length_cons, List.length_map, List.length_append] at this h
  rw [show 9 + done.length = done.length + (rest.length + 1) + done.length + 1 by omega, ← this]
  simp [deskC]
theorem made_L (N : Nat) (mf mr many : Int) (Z : List (Int × Int)) (hZ : byteZ Z) (K : Nat) (hK : IntKind.i64.wrap (1 + (Int.tmod (IntKind.i64.wrap many) 8)) = (K : Int)) (hK8 : K ≤ 8)
    (wf : IntKind.i64.wrap (mf + 1) = mf + 1) (wr : IntKind.i64.wrap (mr + 1) = mr + 1) (pf : 0 ≤ mf) (pr : 0 ≤ mr) : ∀ (rest done : List (Int × Int)) (fuel : Nat), Z = done ++ rest → done.length ≤ K → rest.length < fuel →
    m36_L0 N mf mr (deskC many Z) many fuel done.length (done.length : Int) (cellsC (done.map (mkP mf mr))) = some (K, cellsC (mkL mf mr K Z))
  | rest, done, 0, _, _, h => by simp at h
  | rest, done, f + 1, e, hk, h => by
    rw [m36_L0, hK]
    by_cases hd : done.length = K
    · rw [brn_f (by simp; omega)]
      have : Z.take K = done := by rw [e, ← hd, List.take_left]
      simp [mkL, this, hd]
    · rw [brn_t (by simp; omega)]
      match rest, e, h with
      | [], e, _ =>
        have := hZ.1
        rw [e] at this
        simp at this
        omega
      | z :: rest, e, h =>
        have hz := hZ.2 z (by rw [e]; simp)
        have hl := hZ.1
        have ht : (Int.toNat (done.length : Int)) = done.length := by omega
        have hlen : (deskC many Z).length = 17 := deskC_len hZ.1
        have gf : gp (deskC many Z) (1 + done.length) = .int .i8 z.1 := by rw [e]; exact desk_f _ _ _ _
        have gr : gp (deskC many Z) (9 + done.length) = .int .i8 z.2 := by rw [e]; exact desk_r _ _ _ _ (by rw [← e]; exact hl)
        have w1 : IntKind.i64.wrap z.1 = z.1 := wrap64 (by omega) (by omega)
        have w2 : IntKind.i64.wrap z.2 = z.2 := wrap64 (by omega) (by omega)
        rw [grd_t ⟨by omega, by omega⟩, ht, grd_t (by omega), gf]
        simp only [getI, if_true, wf, wr]
        rw [grd_t (by omega), grd_t (by omega), gr]
        simp only [if_true]
        rw [grd_t (by omega), grd_t (by omega), grd_t (by rw [cellsC_len]; simp), w1, w2, wrapN (by omega)]
        have ih := made_L N mf mr many Z hZ K hK hK8 wf wr pf pr rest (done ++ [z]) f (by simp [e]) (by simp; omega) (by simp at h; omega)
        have e2 : cellsC ((done ++ [z]).map (mkP mf mr)) = cellsC (done.map (mkP mf mr)) ++ [.int .i64 (z.1.tmod (mf + 1)), .int .i64 (z.2.tmod (mr + 1))] := by
          rw [List.map_append, cellsC_app]; rfl
        rw [e2] at ih
        simpa using ih
def howMany (many : Int) : Nat := (1 + many % 8).toNat
theorem made_ok (N : Nat) (hN : 100 ≤ N) (mf mr many : Int) (Z : List (Int × Int)) (hZ : byteZ Z) (h0 : 0 ≤ many) (h1 : many ≤ 255)
    (wf : IntKind.i64.wrap (mf + 1) = mf + 1) (wr : IntKind.i64.wrap (mr + 1) = mr + 1) (pf : 0 ≤ mf) (pr : 0 ≤ mr) :
    m36 N (.agg (deskC many Z)) mf mr = some (.lst false (howMany many) (cellsC (mkL mf mr (howMany many) Z))) := by
  have hlen : (deskC many Z).length = 17 := deskC_len hZ.1
  have hK : IntKind.i64.wrap (1 + (Int.tmod (IntKind.i64.wrap many) 8)) = ((howMany many : Nat) : Int) := by
    rw [wrap64 (n := many) (by omega) (by omega), Int.tmod_eq_emod_of_nonneg h0, wrap64 (by omega) (by omega)]
    unfold howMany; omega
  have hK8 : howMany many ≤ 8 := by unfold howMany; omega
  simp only [m36, getA]
  rw [grd_t (by omega), show gp (deskC many Z) 0 = .int .u8 many from rfl]
  simp only [getI, if_true]
  rw [grd_t (by omega)]
  have := made_L N mf mr many Z hZ (howMany many) hK hK8 wf wr pf pr Z [] N rfl (by simp) (by rw [hZ.1]; omega)
  simp only [List.length_nil, List.map_nil] at this
  rw [show m36_L0 N mf mr (deskC many Z) many N 0 0 [] = _ from this]
  simp only [bnd']
  rw [grd_t (by rw [cellsC_len]; simp [mkL, hZ.1]; omega)]
theorem tmod_bd (x m : Int) (hm : 0 ≤ m) : -m ≤ x.tmod (m + 1) ∧ x.tmod (m + 1) ≤ m := by
  have h1 := Int.tmod_lt_of_pos x (show 0 < m + 1 by omega)
  have h2 := Int.lt_tmod_of_pos x (show 0 < m + 1 by omega)
  omega
theorem mkL_len {mf mr : Int} {Z : List (Int × Int)} (hZ : byteZ Z) (many : Int) (h0 : 0 ≤ many) : (mkL mf mr (howMany many) Z).length = howMany many ∧ 1 ≤ howMany many ∧ howMany many ≤ 8 := by
  have : howMany many ≤ 8 := by unfold howMany; omega
  have : 1 ≤ howMany many := by unfold howMany; omega
  simp [mkL, hZ.1]; omega
theorem mkL_mem {mf mr : Int} {Z : List (Int × Int)} {n : Nat} (hf : 0 ≤ mf) (hr : 0 ≤ mr) {p : Int × Int} (h : p ∈ mkL mf mr n Z) : -mf ≤ p.1 ∧ p.1 ≤ mf ∧ -mr ≤ p.2 ∧ p.2 ≤ mr := by
  obtain ⟨z, _, rfl⟩ := List.mem_map.1 h
  have h1 := tmod_bd z.1 mf hf
  have h2 := tmod_bd z.2 mr hr
  exact ⟨h1.1, h1.2, h2.1, h2.2⟩
theorem Chk_of {L : List (Int × Int)} (h1 : 1 ≤ L.length) (h8 : L.length ≤ 8) (h : ∀ p ∈ L, okC p = true) : Chk L = 0 := by
  unfold Chk
  rw [if_neg (by omega), if_neg (by omega), if_pos (List.all_eq_true.2 h)]

theorem at41_ok (N : Nat) (p : Int × Int) (num den : Int) : m41 N (.agg [.int .i64 p.1, .int .i64 p.2]) (.agg [.int .i64 num, .int .i64 den]) = some (.int .i64 (Wt num den p)) := by
  simp [m41, getA2, getI, Wt]
theorem mosta_L (N : Nat) (L : List (Int × Int)) (hL : L.length ≤ 40) (num den : Int) : ∀ (rest done : List (Int × Int)) (fuel : Nat) (m : Int), L = done ++ rest → rest.length < fuel →
    m39_L0 N L.length (cellsC L) (.int .i64 num) (.int .i64 den) fuel m (done.length : Int) = some (mx m (rest.map (Wt num den)))
  | [], done, 0, _, _, h => by simp at h
  | [], done, f + 1, m, e, _ => by
    subst e
    rw [m39_L0, brn_f (by simp)]; simp [mx]
  | p :: rest, done, 0, _, _, h => by simp at h
  | p :: rest, done, f + 1, m, e, h => by
    have ih := mosta_L N L hL num den rest (done ++ [p]) f (maxI m (Wt num den p)) (by simp [e]) (by simp at h; omega)
    have hd : done.length < L.length := by rw [e]; simp
    have ht : (Int.toNat (done.length : Int)) = done.length := by omega
    rw [m39_L0, brn_t (by simpa using hd), grd_t ⟨by omega, by omega⟩, ht, grd_t (by rw [e]; exact cellsC_two done p rest)]
    have h2 : ((cellsC L).drop (done.length * 2)).take 2 = [.int .i64 p.1, .int .i64 p.2] := by rw [e]; exact cellsC_take done p rest
    rw [h2]
    simp only [getA2, at41_ok, bnd', getI, if_true]
    rw [wrapN (by omega)]
    simpa [mx] using ih
theorem maxI_self (m : Int) : maxI m m = m := by unfold maxI; split <;> rfl
theorem mosta_ok (N : Nat) (p : Int × Int) (L : List (Int × Int)) (hL : (p :: L).length ≤ 40) (hN : 100 ≤ N) (num den : Int) :
    m39 N (.lst false (p :: L).length (cellsC (p :: L))) (.agg [.int .i64 num, .int .i64 den]) = some (.int .i64 (mx (Wt num den p) (L.map (Wt num den)))) := by
  simp only [m39, getL, getA2]
  rw [grd_t (by simp), grd_t (by rw [cellsC_len]; simp; omega)]
  have h2 : (cellsC (p :: L)).take 2 = [.int .i64 p.1, .int .i64 p.2] := rfl
  rw [h2]
  simp only [at41_ok, bnd', getI, if_true]
  have := mosta_L N (p :: L) hL num den (p :: L) [] N (Wt num den p) rfl (by simp at hL ⊢; omega)
  rw [show m39_L0 N (p :: L).length (cellsC (p :: L)) (.int .i64 num) (.int .i64 den) N (Wt num den p) 0 = some (mx (Wt num den p) ((p :: L).map (Wt num den))) from this]
  simp [mx, maxI_self]

theorem proper_L (N : Nat) (u v : Int) (hv : v ≤ 1000) (hc : Int.gcd u v = 1) : ∀ (k : Nat) (d : Int) (fuel : Nat), 2 ≤ d → v + 1 - d ≤ k → k < fuel →
    m37_L0 N v u fuel d = some (.inr ())
  | k, d, 0, _, _, h => by omega
  | k, d, f + 1, h2, hk, hf => by
    rw [m37_L0]
    by_cases hd : d ≤ v
    · have hw : IntKind.i64.wrap (d + 1) = d + 1 := wrap64 (by omega) (by omega)
      rw [brn_t (by simpa using hd), grd_t (by omega), hw]
      match k, hk with
      | 0, hk => omega
      | k + 1, hk =>
        have ih := proper_L N u v hv hc k (d + 1) f (by omega) (by omega) (by omega)
        by_cases a : u.tmod d = 0
        · rw [brn_t (by simpa using a)]
          by_cases b : v.tmod d = 0
          · exfalso
            have d1 : d ∣ u := Int.dvd_of_tmod_eq_zero a
            have d2 : d ∣ v := Int.dvd_of_tmod_eq_zero b
            have d3 : d ∣ (Int.gcd u v : Int) := Int.dvd_coe_gcd d1 d2
            rw [hc] at d3
            have := Int.le_of_dvd (by decide) d3
            omega
          · rw [brn_f (by simpa using b), ih]
        · rw [brn_f (by simpa using a), ih]
    · rw [brn_f (by simpa using hd)]
theorem proper_ok (N : Nat) (hN : 2000 ≤ N) (p : Int × Int) (hr : Red p) (hv : p.2 ≤ 1000) (hu : -200000 ≤ p.1 ∧ p.1 ≤ 200000) : m37 N (frP p) = some (.bool true) := by
  obtain ⟨h1, h2⟩ := hr
  simp only [m37, frP, getA2, getI, if_true]
  rw [brn_f (by simp; omega), brn_f (by simp; omega), brn_f (by simp; omega), brn_f (by simp; omega), proper_L N p.1 p.2 hv h2 1000 2 N (by omega) (by omega) (by omega)]
  rfl
end Go.Proofs.Ytgnphlpoofaojaa

namespace Go.Proofs.Ytgnphlpoofaojaa
open Go.V

theorem bytes_of {qs : List PV} (h : PT tab 68 qs) : ∃ X : List Int, X.length = 8 ∧ qs = X.map (PV.int .i8) ∧ ∀ x ∈ X, -128 ≤ x ∧ x ≤ 127 := by
  obtain ⟨xs, rfl, hl, hx⟩ := h.arr' tl68 rfl
  obtain ⟨X, h1, h2, h3⟩ := opened (fun x : Int => [PV.int .i8 x]) (fun x => PT tab 67 x) (fun x => -128 ≤ x ∧ x ≤ 127)
    (fun x hx => by
      obtain ⟨n, e, b1, b2⟩ := hx.int' tl67 rfl
      exact ⟨n, e, by simpa [IntKind.min, IntKind.max, IntKind.signed, IntKind.bits] using And.intro b1 b2⟩) xs hx
  refine ⟨X, by omega, ?_, h3⟩
  rw [h2]
  clear h1 h2 h3
  induction X with
  | nil => rfl
  | cons a X ih => simpa using ih
theorem zip_of : ∀ {X Y : List Int}, X.length = Y.length → ∃ Z : List (Int × Int), Z.length = X.length ∧ X = Z.map Prod.fst ∧ Y = Z.map Prod.snd
  | [], [], _ => ⟨[], rfl, rfl, rfl⟩
  | x :: X, y :: Y, h => by
    obtain ⟨Z, h1, h2, h3⟩ := zip_of (X := X) (Y := Y) (by simpa using h)
    exact ⟨(x, y) :: Z, by simp [h1], by simp [← h2], by simp [← h3]⟩
  | [], _ :: _, h => by simp at h
  | _ :: _, [], h => by simp at h
theorem desk_of {qs : List PV} (h : PT tab 70 qs) : ∃ (many : Int) (Z : List (Int × Int)), qs = deskC many Z ∧ byteZ Z ∧ 0 ≤ many ∧ many ≤ 255 := by
  obtain ⟨x, rs, rfl, hx, h⟩ := (h.structs tl70 rfl).cons'
  obtain ⟨y, rs, rfl, hy, h⟩ := h.cons'
  obtain ⟨z, rs, rfl, hz, h⟩ := h.cons'
  obtain rfl := h.nil'
  obtain ⟨m, rfl, b1, b2⟩ := hx.int' tl5 rfl
  obtain ⟨X, x1, rfl, x3⟩ := bytes_of hy
  obtain ⟨Y, y1, rfl, y3⟩ := bytes_of hz
  obtain ⟨Z, z1, rfl, rfl⟩ := zip_of (x1.trans y1.symm)
  refine ⟨m, Z, by simp [deskC]; rfl, ⟨by omega, fun z hz => ?_⟩, by simpa [IntKind.min, IntKind.signed] using b1, by simpa [IntKind.max, IntKind.signed, IntKind.bits] using b2⟩
  have h1 := x3 z.1 (List.mem_map.2 ⟨z, hz, rfl⟩)
  have h2 := y3 z.2 (List.mem_map.2 ⟨z, hz, rfl⟩)
  omega
end Go.Proofs.Ytgnphlpoofaojaa

namespace Go.Proofs.Ytgnphlpoofaojaa
open Go.V
set_option maxRecDepth 100000
set_option maxHeartbeats 4000000
set_option linter.unusedSimpArgs false
set_option linter.unusedVariables false
attribute [local go_sem] tl1 tl2 tl3 tl4 tl5 tl9 tl17 tl21 tl22 tl23 tl24 tl25 tl26 tl27 tl28 tl29 tl31 tl33 tl34 tl36 tl37 tl38 tl39 tl40 tl41 tl42 tl43 tl44 tl46 tl47 tl49 tl50 tl52 tl53 tl54 tl55 tl56 tl57 tl58 tl60 tl62 tl63 tl64 tl65 tl66 tl67 tl68 tl69 tl70 tl71 tl72 tl74 tl75 tl76 tl77 tl78 tl79 tl80 tl81 tl82 tl83 tl84 tl85 tl86 tl87 tl88 tl89 tl90 tl91 tl92 tl93 tl94 tl95 tl96 tl97 tl98 tl99 tl100 tl102 tl103 tl104 tl105 tl106 tl107 tl108 tl109 tl110 tl111 tl112 tl113 tl114 tl115 tl116 tl117 tl118 tl119 tl120 tl121 tl122 tl123 tl124 tl125 tl126 tl127 tl128 tl129 tl130 tl131 tl132 tl133 tl134 tl140 tl141 tl145

def m86 (N : Nat) (p621 : PV) (p622 : PV) (p623 : PV) : Option (PV) :=
  getA2 p621 fun p625 p626 =>
  getA2 p622 fun p628 p629 =>
  getA2 p623 fun p631 p632 =>
  getI .i64 p628 fun x634 =>
  getI .i64 p625 fun x636 =>
  getI .i64 p632 fun x638 =>
  getI .i64 p629 fun x640 =>
  getI .i64 p631 fun x642 =>
  getI .i64 p626 fun x644 =>
  some (.bool (decide ((IntKind.i64.wrap ((IntKind.i64.wrap (x634 - x636)) * (IntKind.i64.wrap (x638 - x640)))) > (IntKind.i64.wrap ((IntKind.i64.wrap (x642 - x634)) * (IntKind.i64.wrap (x640 - x644)))))))
theorem c86 (N : Nat) (p621 : PV) (p622 : PV) (p623 : PV) (r : PV)  (h : m86 N p621 p622 p623 = some r) : FnP Try.prog 86 [p621, p622, p623] r := by
  unfold m86 at h
  refine Fn_of (sz := 30) tab_ok [0, 1, 2, 3, 4, 5, 6] [.tmp 6] Try.func86 rfl rfl rfl (by simp) ?_
  simp only [initSt, initEnv, List.map_cons, List.map_nil, List.getD_cons_zero, List.getD_cons_succ, List.getD_nil]
  have hh := getA2_some h; clear h; obtain ⟨p625, p626, h624, h⟩ := hh
  have hh := getA2_some h; clear h; obtain ⟨p628, p629, h627, h⟩ := hh
  have hh := getA2_some h; clear h; obtain ⟨p631, p632, h630, h⟩ := hh
  have hh := getI_some h; clear h; obtain ⟨x634, h633, h⟩ := hh
  have hh := getI_some h; clear h; obtain ⟨x636, h635, h⟩ := hh
  have hh := getI_some h; clear h; obtain ⟨x638, h637, h⟩ := hh
  have hh := getI_some h; clear h; obtain ⟨x640, h639, h⟩ := hh
  have hh := getI_some h; clear h; obtain ⟨x642, h641, h⟩ := hh
  have hh := getI_some h; clear h; obtain ⟨x644, h643, h⟩ := hh
  refine W_sound tab_ok mixed 35 _ _ _ ?_
  simp -implicitDefEqProofs only [go_sem, ne_eq, not_false_eq_true, Nat.reduceBEq, Nat.reduceAdd, Nat.reduceSub, Nat.reduceMul, Nat.reduceLT, Nat.reduceLeDiff, Int.reduceLE, Int.reduceLT, Int.reduceToNat, Int.reduceBEq, Int.reduceBNe, Int.le_refl, Nat.le_refl, decide_true, decide_false, Int.cast_ofNat_Int, ↓reduceIte, h624, h627, h630, h633, h635, h637, h639, h641, h643]
  repeat with_reducible refine And.intro (by first | kernel_rfl | decide) ?_
  obtain rfl := Option.some.inj h
  exact finC [(6, .v (.bool (decide ((IntKind.i64.wrap ((IntKind.i64.wrap (x634 - x636)) * (IntKind.i64.wrap (x638 - x640)))) > (IntKind.i64.wrap ((IntKind.i64.wrap (x642 - x634)) * (IntKind.i64.wrap (x640 - x644))))))))] [(6, .v (.bool (decide ((IntKind.i64.wrap ((IntKind.i64.wrap (x634 - x636)) * (IntKind.i64.wrap (x638 - x640)))) > (IntKind.i64.wrap ((IntKind.i64.wrap (x642 - x634)) * (IntKind.i64.wrap (x640 - x644))))))))] (by simp [leE, lk_cons]) (.cons _ _ _ _ _ (.v _ _ (.refl _)) .nil) (by rfl) (by simp [leE, lk_cons]) (by decide) (by decide) rfl (by simp only [go_sem, ne_eq, not_false_eq_true, Nat.reduceBEq, Nat.reduceAdd, Nat.reduceSub, Nat.reduceMul, Nat.reduceLT, Nat.reduceLeDiff, Int.reduceLE, Int.reduceLT, Int.reduceToNat, Int.reduceBEq, Int.reduceBNe, Int.le_refl, Nat.le_refl, decide_true, decide_false, Int.cast_ofNat_Int, ↓reduceIte, resQ_tmp, resQ_cell, resQ_nil, retD_one, retD_two, retD_three, retD_none]; try simp [R.val, retD_one, retD_two, retD_three, retD_none])

end Go.Proofs.Ytgnphlpoofaojaa

namespace Go.Proofs.Ytgnphlpoofaojaa
open Go.V
def CtP (p : Int × Int) (a : Int × Int) : Int := a.1 * p.2 + a.2 * p.1
theorem cross_sp {a b : Int × Int} (h : a.2 ≠ b.2) : 0 < (crossP a b).2 ∧ (crossP a b).1 * (b.2 - a.2) = (a.1 - b.1) * (crossP a b).2 := by
  obtain ⟨u, v, e, ⟨q1, q2, _⟩, _⟩ := low_sp (a.1 - b.1) (b.2 - a.2) (by omega)
  unfold crossP
  rw [e]
  exact ⟨q1, q2⟩
theorem mul_pos_of {x y : Int} (hy : 0 < y) (h : 0 < x * y) : 0 < x := by
  rcases Int.lt_or_le 0 x with h1 | h1
  · exact h1
  · have := Int.mul_nonneg (a := -x) (b := y) (by omega) (by omega)
    have : -x * y = -(x * y) := by grind
    omega
theorem cross_above {a b p : Int × Int} (h : a.2 < b.2) (hl : lessP (crossP a b) p) : CtP p a < CtP p b := by
  obtain ⟨h1, h2⟩ := cross_sp (a := a) (b := b) (by omega)
  generalize crossP a b = q at *
  unfold lessP at hl
  have e1 : 0 < (p.1 * q.2 - q.1 * p.2) * (b.2 - a.2) := Int.mul_pos (by omega) (by omega)
  have e2 : 0 < (CtP p b - CtP p a) * q.2 := by
    have : (CtP p b - CtP p a) * q.2 = (p.1 * q.2 - q.1 * p.2) * (b.2 - a.2) := by unfold CtP; clear e1 hl; grind
    omega
  have := mul_pos_of h1 e2
  omega
theorem cross_below {a b p : Int × Int} (h : a.2 < b.2) (hl : lessP p (crossP a b)) : CtP p b < CtP p a := by
  obtain ⟨h1, h2⟩ := cross_sp (a := a) (b := b) (by omega)
  generalize crossP a b = q at *
  unfold lessP at hl
  have e1 : 0 < (q.1 * p.2 - p.1 * q.2) * (b.2 - a.2) := Int.mul_pos (by omega) (by omega)
  have e2 : 0 < (CtP p a - CtP p b) * q.2 := by
    have : (CtP p a - CtP p b) * q.2 = (q.1 * p.2 - p.1 * q.2) * (b.2 - a.2) := by unfold CtP; clear e1 hl; grind
    omega
  have := mul_pos_of h1 e2
  omega
def aboveG (a b c : Int × Int) : Bool := decide ((b.1 - a.1) * (c.2 - b.2) > (c.1 - b.1) * (b.2 - a.2))
def covG1 (a b c : Int × Int) : Bool :=
  if a.2 = b.2 then (decide (c.2 = a.2) && decide (c.1 ≤ maxI a.1 b.1))
  else if c.2 < a.2 ∨ b.2 < c.2 then false
  else if c.2 = a.2 then decide (c.1 ≤ a.1)
  else if c.2 = b.2 then decide (c.1 ≤ b.1)
  else !aboveG a c b
theorem le_maxI {x y z : Int} : z ≤ maxI x y ↔ z ≤ x ∨ z ≤ y := by unfold maxI; split <;> omega
theorem covG1_sound {a b c p : Int × Int} (hab : a.2 ≤ b.2) (hp : 0 < p.2) (h : covG1 a b c = true) : ¬ (CtP p a < CtP p c ∧ CtP p b < CtP p c) := by
  rintro ⟨h1, h2⟩
  unfold covG1 at h
  unfold CtP at h1 h2
  have mono : ∀ x y : Int, x ≤ y → x * p.2 ≤ y * p.2 := fun x y hxy => Int.mul_le_mul_of_nonneg_right hxy (by omega)
  split at h
  · rename_i e
    rw [Bool.and_eq_true, decide_eq_true_eq, decide_eq_true_eq] at h
    obtain ⟨e2, h⟩ := h
    rw [← e] at h2
    rw [e2] at h1 h2
    rcases le_maxI.1 h with h | h
    · have := mono _ _ h; omega
    · have := mono _ _ h; omega
  · split at h
    · simp at h
    · split at h
      · rename_i e
        have := mono _ _ (of_decide_eq_true h)
        rw [e] at h1; omega
      · split at h
        · rename_i e
          have := mono _ _ (of_decide_eq_true h)
          rw [e] at h2; omega
        · rename_i n1 n2 n3 n4
          simp only [aboveG, Bool.not_eq_true', decide_eq_false_iff_not] at h
          have e1 : 0 < ((c.1 - a.1) * p.2 + (c.2 - a.2) * p.1) * (b.2 - c.2) := Int.mul_pos (by grind) (by omega)
          have e2 : 0 < ((c.1 - b.1) * p.2 - (b.2 - c.2) * p.1) * (c.2 - a.2) := Int.mul_pos (by grind) (by omega)
          have e3 : 0 ≤ ((b.1 - c.1) * (c.2 - a.2) - (c.1 - a.1) * (b.2 - c.2)) * p.2 := Int.mul_nonneg (by omega) (by omega)
          grind
def bdC (p : Int × Int) : Prop := -200 ≤ p.1 ∧ p.1 ≤ 200 ∧ -20 ≤ p.2 ∧ p.2 ≤ 20
def bdQ (q : Int × Int) : Prop := -400 ≤ q.1 ∧ q.1 ≤ 400 ∧ 1 ≤ q.2 ∧ q.2 ≤ 40
theorem bdC_ok {p : Int × Int} (h : okC p = true) : bdC p := by
  simp [okC] at h; unfold bdC; omega
theorem cross_bd {a b : Int × Int} (ha : bdC a) (hb : bdC b) (h : a.2 ≠ b.2) : bdQ (crossP a b) := by
  obtain ⟨u, v, e, ⟨q1, _, _⟩, _⟩ := low_sp (a.1 - b.1) (b.2 - a.2) (by omega)
  obtain ⟨b1, b2⟩ := low_bd (by omega) e
  unfold crossP bdQ; rw [e]
  unfold bdC at ha hb
  simp only; omega
theorem mulQ {x y A B : Int} (hx : -A ≤ x ∧ x ≤ A) (hy : -B ≤ y ∧ y ≤ B) : -(A * B) ≤ x * y ∧ x * y ≤ A * B := by
  have h := Int.natAbs_mul x y
  have h1 : x.natAbs ≤ A.natAbs := by omega
  have h2 : y.natAbs ≤ B.natAbs := by omega
  have h3 := Nat.mul_le_mul h1 h2
  have h4 := Int.natAbs_mul A B
  have h5 : 0 ≤ A * B := Int.mul_nonneg (by omega) (by omega)
  omega
theorem cellsC_dropN (l : List (Int × Int)) (k : Nat) : (cellsC l).drop (k * 2) = cellsC (l.drop k) := by
  rcases Nat.lt_or_ge k l.length with h | h
  · have e : l = l.take k ++ l.drop k := (List.take_append_drop k l).symm
    have hl : (cellsC (l.take k)).length = k * 2 := by rw [cellsC_len, List.length_take, Nat.min_eq_left (by omega)]
    conv => lhs; rw [e]
    rw [cellsC_app, ← hl, List.drop_left]
  · rw [List.drop_of_length_le (by rw [cellsC_len]; omega), List.drop_of_length_le h]; rfl
def bdP (p : Int × Int) : Prop := -40000 ≤ p.1 ∧ p.1 ≤ 40000 ∧ 1 ≤ p.2 ∧ p.2 ≤ 4000
theorem Wt_P {p q : Int × Int} (hp : bdP p) (hq : bdC q) : Wt p.1 p.2 q = CtP p q := by
  unfold bdP at hp
  unfold bdC at hq
  have h1 := mulQ (x := q.1) (y := p.2) (A := 200) (B := 4000) (by omega) (by omega)
  have h2 := mulQ (x := q.2) (y := p.1) (A := 20) (B := 40000) (by omega) (by omega)
  unfold Wt CtP
  rw [wrap64 (n := q.1 * p.2) (by omega) (by omega), wrap64 (n := q.2 * p.1) (by omega) (by omega), wrap64 (by omega) (by omega)]
theorem cellsC_at {L : List (Int × Int)} {k : Nat} {x : Int × Int} (h : L[k]? = some x) : ((cellsC L).drop (k * 2)).take 2 = [.int .i64 x.1, .int .i64 x.2] := by
  rw [cellsC_dropN]
  obtain ⟨hk, hx⟩ := List.getElem?_eq_some_iff.1 h
  rw [List.drop_eq_getElem_cons hk, hx]; rfl
theorem above_ok (N : Nat) {a b c : Int × Int} (ha : bdC a) (hb : bdC b) (hc : bdC c) : m86 N (.agg [.int .i64 a.1, .int .i64 a.2]) (.agg [.int .i64 b.1, .int .i64 b.2]) (.agg [.int .i64 c.1, .int .i64 c.2]) = some (.bool (aboveG a b c)) := by
  unfold bdC at ha hb hc
  have h1 := mulQ (x := b.1 - a.1) (y := c.2 - b.2) (A := 400) (B := 40) (by omega) (by omega)
  have h2 := mulQ (x := c.1 - b.1) (y := b.2 - a.2) (A := 400) (B := 40) (by omega) (by omega)
  simp only [m86, getA2, getI, if_true]
  rw [wrap64 (n := b.1 - a.1) (by omega) (by omega), wrap64 (n := c.2 - b.2) (by omega) (by omega), wrap64 (n := c.1 - b.1) (by omega) (by omega), wrap64 (n := b.2 - a.2) (by omega) (by omega),
    wrap64 (n := (b.1 - a.1) * (c.2 - b.2)) (by omega) (by omega), wrap64 (n := (c.1 - b.1) * (b.2 - a.2)) (by omega) (by omega)]
  rfl
theorem Chk_len8 {L : List (Int × Int)} (h : Chk L = 0) : 1 ≤ L.length ∧ L.length ≤ 8 ∧ ∀ q ∈ L, bdC q := by
  obtain ⟨p, l, rfl, ha⟩ := Chk_zero h
  refine ⟨by simp, ?_, fun q hq => bdC_ok (List.all_eq_true.1 ha q hq)⟩
  unfold Chk at h
  by_cases h8 : 8 < (p :: l).length
  · rw [if_neg (by simp), if_pos h8] at h
    exact absurd h (by decide)
  · omega
end Go.Proofs.Ytgnphlpoofaojaa
