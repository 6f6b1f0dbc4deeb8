import Derived.Test.YtgnphlpoofaojaaB
import Derived.Test.YtgnphlpoofaojaaV30
import Derived.Test.YtgnphlpoofaojaaK
namespace Go.Proofs.Ytgnphlpoofaojaa
open Go.V
set_option maxRecDepth 100000
set_option linter.unusedSimpArgs false
set_option linter.unusedVariables false
attribute [local go_sem] tl1 tl2 tl3 tl4 tl5 tl9 tl17 tl21 tl22 tl23 tl24 tl25 tl26 tl27 tl28 tl29 tl31 tl33 tl34 tl36 tl37 tl38 tl39 tl40 tl41 tl42 tl43 tl44 tl46 tl47 tl49 tl50 tl52 tl53 tl54 tl55 tl56 tl57 tl58 tl60 tl62 tl63 tl64 tl65 tl66 tl67 tl68 tl69 tl70 tl71 tl72 tl74 tl75 tl76 tl77 tl78 tl79 tl80 tl81 tl82 tl83 tl84 tl85 tl86 tl87 tl88 tl89 tl90 tl91 tl92 tl93 tl94 tl95 tl96 tl97 tl98 tl99 tl100 tl102 tl103 tl104 tl105 tl106 tl107 tl108 tl109 tl110 tl111 tl112 tl113 tl114 tl115 tl116 tl117 tl118 tl119 tl120 tl121 tl122 tl123 tl124 tl125 tl126 tl127 tl128 tl129 tl130 tl131 tl132 tl133 tl134 tl140 tl141 tl145

def m15 (N : Nat) : Option PV := some (.bool true)
theorem c15 (N : Nat) (r : PV) (h : m15 N = some r) : FnP Try.prog 15 [] r := by
  obtain rfl := Option.some.inj h
  exact k31

def m63 (N : Nat) (x89 : Int) (x90 : Int) : Option (PV) :=
  brn (decide ((IntKind.i64.wrap (0 - x90)) ≤ x89)) (
    some (.bool (decide (x89 ≤ x90)))) (
    some (.bool false))
theorem c63 (N : Nat) (x89 : Int) (x90 : Int) (r : PV)  (h : m63 N x89 x90 = some r) : FnP Try.prog 63 [(.int .i64 x89), (.int .i64 x90)] r := by
  unfold m63 at h
  refine Fn_of (sz := 14) tab_ok [0, 1, 4] [.tmp 4] Try.func63 rfl rfl rfl (by simp) ?_
  simp only [initSt, initEnv, List.map_cons, List.map_nil, List.getD_cons_zero, List.getD_cons_succ, List.getD_nil]
  have hh := brn_some h; clear h; rcases hh with ⟨h91, h⟩ | ⟨h91, h⟩
  · refine W_sound tab_ok mixed 18 _ _ _ ?_
    simp only [go_sem, ne_eq, not_false_eq_true, Nat.reduceBEq, Nat.reduceAdd, Nat.reduceSub, Nat.reduceMul, Nat.reduceLT, Nat.reduceLeDiff, Int.reduceLE, Int.reduceLT, Int.reduceToNat, Int.cast_ofNat_Int, ↓reduceIte, h91]
    repeat with_reducible refine And.intro (by kernel_rfl) ?_
    obtain rfl := Option.some.inj h
    exact finC [(4, .v (.bool (decide (x89 ≤ x90))))] [(4, .v (.bool (decide (x89 ≤ x90))))] (by simp [leE, lk_cons]) (.cons _ _ _ _ _ (.v _ _ (.refl _)) .nil) (by rfl) (by simp [leE, lk_cons]) (by decide) (by decide) rfl (by simp only [go_sem, ne_eq, not_false_eq_true, Nat.reduceBEq, Nat.reduceAdd, Nat.reduceSub, Nat.reduceMul, Nat.reduceLT, Nat.reduceLeDiff, Int.reduceLE, Int.reduceLT, Int.reduceToNat, Int.cast_ofNat_Int, ↓reduceIte, resQ_tmp, resQ_cell, resQ_nil, retD_one, retD_two, retD_three, retD_none]; try simp [R.val, retD_one, retD_two, retD_three, retD_none])
  · refine W_sound tab_ok mixed 18 _ _ _ ?_
    simp only [go_sem, ne_eq, not_false_eq_true, Nat.reduceBEq, Nat.reduceAdd, Nat.reduceSub, Nat.reduceMul, Nat.reduceLT, Nat.reduceLeDiff, Int.reduceLE, Int.reduceLT, Int.reduceToNat, Int.cast_ofNat_Int, ↓reduceIte, h91]
    repeat with_reducible refine And.intro (by kernel_rfl) ?_
    obtain rfl := Option.some.inj h
    exact finC [(4, .v (.bool false))] [(4, .v (.bool false))] (by simp [leE, lk_cons]) (.cons _ _ _ _ _ (.v _ _ (.refl _)) .nil) (by rfl) (by simp [leE, lk_cons]) (by decide) (by decide) rfl (by simp only [go_sem, ne_eq, not_false_eq_true, Nat.reduceBEq, Nat.reduceAdd, Nat.reduceSub, Nat.reduceMul, Nat.reduceLT, Nat.reduceLeDiff, Int.reduceLE, Int.reduceLT, Int.reduceToNat, Int.cast_ofNat_Int, ↓reduceIte, resQ_tmp, resQ_cell, resQ_nil, retD_one, retD_two, retD_three, retD_none]; try simp [R.val, retD_one, retD_two, retD_three, retD_none])

def m22_L0 (N : Nat) (n75 : Nat) (c76 : List PV) : Nat → Int → Option ((PV ⊕ Unit))
  | 0, _ => none
  | n + 1, x79 =>
    brn (decide (x79 < ((n75 : Nat) : Int))) (
      grd (0 ≤ x79 ∧ x79 < ((n75 : Nat) : Int)) <|
      grd (2 ≤ List.length (List.drop ((Int.toNat x79) * 2) c76)) <|
      getA2 (.agg (List.take 2 (List.drop ((Int.toNat x79) * 2) c76))) fun p85 p86 =>
      getI .i64 p85 fun x88 =>
      bnd' (m63 N x88 100) fun p92 =>
      getB p92 fun b95 =>
      brn b95 (
        getI .i64 p86 fun x98 =>
        bnd' (m63 N x98 10) fun p99 =>
        getB p99 fun b102 =>
        brn b102 (
          m22_L0 N n75 c76 n (IntKind.i64.wrap (x79 + 1))) (
          some (.inl (.int .i64 1)))) (
        some (.inl (.int .i64 1)))) (
      some (.inr ()))
def m22 (N : Nat) (p73 : PV) : Option (PV) :=
  getL p73 fun n75 c76 =>
  brn (((n75 : Nat) : Int) == 0) (
    some (.int .i64 4)) (
    brn (decide (((n75 : Nat) : Int) > 8)) (
      some (.int .i64 3)) (
      bnd' (m22_L0 N n75 c76 N 0) fun o =>
      match o with
      | .inl p104 =>
        some p104
      | .inr () =>
        some (.int .i64 0)))
theorem c22 (N : Nat) (p73 : PV) (r : PV)  (h : m22 N p73 = some r) : FnP Try.prog 22 [p73] r := by
  unfold m22 at h
  refine Fn_of (sz := 30) tab_ok [0, 2, 4, 5, 9, 13, 14, 15, 16, 28] [.tmp 2] Try.func22 rfl rfl rfl (by simp) ?_
  simp only [initSt, initEnv, List.map_cons, List.map_nil, List.getD_cons_zero, List.getD_cons_succ, List.getD_nil]
  have hh := getL_some h; clear h; obtain ⟨n75, c76, h74, h⟩ := hh
  have hh := brn_some h; clear h; rcases hh with ⟨h77, h⟩ | ⟨h77, h⟩
  · refine W_sound tab_ok mixed 19 _ _ _ ?_
    simp only [go_sem, ne_eq, not_false_eq_true, Nat.reduceBEq, Nat.reduceAdd, Nat.reduceSub, Nat.reduceMul, Nat.reduceLT, Nat.reduceLeDiff, Int.reduceLE, Int.reduceLT, Int.reduceToNat, Int.cast_ofNat_Int, ↓reduceIte, h74, h77]
    repeat with_reducible refine And.intro (by kernel_rfl) ?_
    obtain rfl := Option.some.inj h
    exact finC [(2, .v (.int .i64 4))] [(2, .v (.int .i64 4))] (by simp [leE, lk_cons]) (.cons _ _ _ _ _ (.v _ _ (.refl _)) .nil) (by rfl) (by simp [leE, lk_cons]) (by decide) (by decide) rfl (by simp only [go_sem, ne_eq, not_false_eq_true, Nat.reduceBEq, Nat.reduceAdd, Nat.reduceSub, Nat.reduceMul, Nat.reduceLT, Nat.reduceLeDiff, Int.reduceLE, Int.reduceLT, Int.reduceToNat, Int.cast_ofNat_Int, ↓reduceIte, resQ_tmp, resQ_cell, resQ_nil, retD_one, retD_two, retD_three, retD_none]; try simp [R.val, retD_one, retD_two, retD_three, retD_none])
  · have hh := brn_some h; clear h; rcases hh with ⟨h78, h⟩ | ⟨h78, h⟩
    · refine W_sound tab_ok mixed 27 _ _ _ ?_
      simp only [go_sem, ne_eq, not_false_eq_true, Nat.reduceBEq, Nat.reduceAdd, Nat.reduceSub, Nat.reduceMul, Nat.reduceLT, Nat.reduceLeDiff, Int.reduceLE, Int.reduceLT, Int.reduceToNat, Int.cast_ofNat_Int, ↓reduceIte, h74, h77, h78]
      repeat with_reducible refine And.intro (by kernel_rfl) ?_
      obtain rfl := Option.some.inj h
      exact finC [(2, .v (.int .i64 3))] [(2, .v (.int .i64 3))] (by simp [leE, lk_cons]) (.cons _ _ _ _ _ (.v _ _ (.refl _)) .nil) (by rfl) (by simp [leE, lk_cons]) (by decide) (by decide) rfl (by simp only [go_sem, ne_eq, not_false_eq_true, Nat.reduceBEq, Nat.reduceAdd, Nat.reduceSub, Nat.reduceMul, Nat.reduceLT, Nat.reduceLeDiff, Int.reduceLE, Int.reduceLT, Int.reduceToNat, Int.cast_ofNat_Int, ↓reduceIte, resQ_tmp, resQ_cell, resQ_nil, retD_one, retD_two, retD_three, retD_none]; try simp [R.val, retD_one, retD_two, retD_three, retD_none])
    · refine W_sound tab_ok mixed 31 _ _ _ ?_
      simp only [go_sem, ne_eq, not_false_eq_true, Nat.reduceBEq, Nat.reduceAdd, Nat.reduceSub, Nat.reduceMul, Nat.reduceLT, Nat.reduceLeDiff, Int.reduceLE, Int.reduceLT, Int.reduceToNat, Int.cast_ofNat_Int, ↓reduceIte, h74, h77, h78]
      repeat with_reducible refine And.intro (by kernel_rfl) ?_
      have hh := bnd'_some h; clear h; obtain ⟨o105, h106, h107⟩ := hh
      refine Wp_cut (fun s => (.inr ()) = o105 ∧ s = ⟨[], [(0, .dead), (2, .dead), (4, .dead), (5, .dead), (9, .dead), (13, .dead), (14, .dead), (15, .dead), (16, .dead), (28, .dead)], [], 0, []⟩) ?_ ?_
      · refine Wp_block ?_
        refine Wp_loopG (fun n s => ∃ x79, m22_L0 N n75 c76 n x79 = some o105 ∧ s = ⟨[], [(0, .dead), (2, .dead), (4, .dead), (5, .dead), (9, .dead), (13, .v (.lst false n75 c76)), (14, .v (.int .i64 ((n75 : Nat) : Int))), (15, .v (.int .i64 x79)), (16, .dead), (28, .dead)], [], 0, []⟩) N _ ((Wk_le (.cons _ _ _ _ _ (.dead _) (.cons _ _ _ _ _ (.dead _) (.cons _ _ _ _ _ (.refl _) (.cons _ _ _ _ _ (.dead _) (.cons _ _ _ _ _ (.dead _) (.cons _ _ _ _ _ (.refl _) (.cons _ _ _ _ _ (.refl _) (.cons _ _ _ _ _ (.refl _) (.cons _ _ _ _ _ (.refl _) (.cons _ _ _ _ _ (.refl _) .nil)))))))))) (OLe.refl _)).trans (cmpS_ok rfl)) ⟨_, h106, rfl⟩ ?_
        clear h106
        rintro n _ ⟨x79, h106, rfl⟩
        cases n with
        | zero => cases h106
        | succ n =>
          rw [m22_L0] at h106
          have hh := brn_some h106; clear h106; rcases hh with ⟨h80, h106⟩ | ⟨h80, h106⟩
          · have hh := grd_some h106; clear h106; obtain ⟨⟨g81, g82⟩, h106⟩ := hh
            have hh := grd_some h106; clear h106; obtain ⟨g83, h106⟩ := hh
            have hh := getA2_some h106; clear h106; obtain ⟨p85, p86, h84, h106⟩ := hh
            injection h84 with h84
            have hh := getI_some h106; clear h106; obtain ⟨x88, h87, h106⟩ := hh
            have hh := bnd'_some h106; clear h106; obtain ⟨p92, h93, h106⟩ := hh
            refine W_sound tab_ok mixed 20 _ _ _ ?_
            simp only [go_sem, ne_eq, not_false_eq_true, Nat.reduceBEq, Nat.reduceAdd, Nat.reduceSub, Nat.reduceMul, Nat.reduceLT, Nat.reduceLeDiff, Int.reduceLE, Int.reduceLT, Int.reduceToNat, Int.cast_ofNat_Int, ↓reduceIte, h74, h77, h78, h80, g81, g82, g83, h84, h87]
            repeat with_reducible refine And.intro (by kernel_rfl) ?_
            refine Wp_callP (c63 N _ _ _ h93) (by kernel_rfl) rfl rfl rfl rfl (by decide) ?_
            have hh := getB_some h106; clear h106; obtain ⟨b95, h94, h106⟩ := hh
            have hh := brn_some h106; clear h106; rcases hh with ⟨h96, h106⟩ | ⟨h96, h106⟩
            · have hh := getI_some h106; clear h106; obtain ⟨x98, h97, h106⟩ := hh
              have hh := bnd'_some h106; clear h106; obtain ⟨p99, h100, h106⟩ := hh
              refine W_sound tab_ok mixed 4 _ _ _ ?_
              simp only [go_sem, ne_eq, not_false_eq_true, Nat.reduceBEq, Nat.reduceAdd, Nat.reduceSub, Nat.reduceMul, Nat.reduceLT, Nat.reduceLeDiff, Int.reduceLE, Int.reduceLT, Int.reduceToNat, Int.cast_ofNat_Int, ↓reduceIte, h74, h77, h78, h80, g81, g82, g83, h84, h87, h94, h96, h97]
              repeat with_reducible refine And.intro (by kernel_rfl) ?_
              refine Wp_callP (c63 N _ _ _ h100) (by kernel_rfl) rfl rfl rfl rfl (by decide) ?_
              have hh := getB_some h106; clear h106; obtain ⟨b102, h101, h106⟩ := hh
              have hh := brn_some h106; clear h106; rcases hh with ⟨h103, h106⟩ | ⟨h103, h106⟩
              · refine W_sound tab_ok mixed 10 _ _ _ ?_
                simp only [go_sem, ne_eq, not_false_eq_true, Nat.reduceBEq, Nat.reduceAdd, Nat.reduceSub, Nat.reduceMul, Nat.reduceLT, Nat.reduceLeDiff, Int.reduceLE, Int.reduceLT, Int.reduceToNat, Int.cast_ofNat_Int, ↓reduceIte, h74, h77, h78, h80, g81, g82, g83, h84, h87, h94, h96, h97, h101, h103]
                repeat with_reducible refine And.intro (by kernel_rfl) ?_
                exact cutQ _ ((Wk_le (.cons _ _ _ _ _ (.refl _) (.cons _ _ _ _ _ (.refl _) (.cons _ _ _ _ _ (.dead _) (.cons _ _ _ _ _ (.refl _) (.cons _ _ _ _ _ (.refl _) (.cons _ _ _ _ _ (.refl _) (.cons _ _ _ _ _ (.refl _) (.cons _ _ _ _ _ (.refl _) (.cons _ _ _ _ _ (.dead _) (.cons _ _ _ _ _ (.dead _) .nil)))))))))) (OLe.refl _)).trans (cmpS_ok rfl)) ⟨n, Nat.lt_succ_self n, _, h106, rfl⟩
              · refine W_sound tab_ok mixed 9 _ _ _ ?_
                simp only [go_sem, ne_eq, not_false_eq_true, Nat.reduceBEq, Nat.reduceAdd, Nat.reduceSub, Nat.reduceMul, Nat.reduceLT, Nat.reduceLeDiff, Int.reduceLE, Int.reduceLT, Int.reduceToNat, Int.cast_ofNat_Int, ↓reduceIte, h74, h77, h78, h80, g81, g82, g83, h84, h87, h94, h96, h97, h101, h103]
                repeat with_reducible refine And.intro (by kernel_rfl) ?_
                obtain rfl := Option.some.inj h106
                (try dsimp only at h107)
                obtain rfl := Option.some.inj h107
                exact finC [(2, .v (.int .i64 1))] [(2, .v (.int .i64 1))] (by simp [leE, lk_cons]) (.cons _ _ _ _ _ (.v _ _ (.refl _)) .nil) (by rfl) (by simp [leE, lk_cons]) (by decide) (by decide) rfl (by simp only [go_sem, ne_eq, not_false_eq_true, Nat.reduceBEq, Nat.reduceAdd, Nat.reduceSub, Nat.reduceMul, Nat.reduceLT, Nat.reduceLeDiff, Int.reduceLE, Int.reduceLT, Int.reduceToNat, Int.cast_ofNat_Int, ↓reduceIte, resQ_tmp, resQ_cell, resQ_nil, retD_one, retD_two, retD_three, retD_none]; try simp [R.val, retD_one, retD_two, retD_three, retD_none])
            · refine W_sound tab_ok mixed 14 _ _ _ ?_
              simp only [go_sem, ne_eq, not_false_eq_true, Nat.reduceBEq, Nat.reduceAdd, Nat.reduceSub, Nat.reduceMul, Nat.reduceLT, Nat.reduceLeDiff, Int.reduceLE, Int.reduceLT, Int.reduceToNat, Int.cast_ofNat_Int, ↓reduceIte, h74, h77, h78, h80, g81, g82, g83, h84, h87, h94, h96]
              repeat with_reducible refine And.intro (by kernel_rfl) ?_
              obtain rfl := Option.some.inj h106
              (try dsimp only at h107)
              obtain rfl := Option.some.inj h107
              exact finC [(2, .v (.int .i64 1))] [(2, .v (.int .i64 1))] (by simp [leE, lk_cons]) (.cons _ _ _ _ _ (.v _ _ (.refl _)) .nil) (by rfl) (by simp [leE, lk_cons]) (by decide) (by decide) rfl (by simp only [go_sem, ne_eq, not_false_eq_true, Nat.reduceBEq, Nat.reduceAdd, Nat.reduceSub, Nat.reduceMul, Nat.reduceLT, Nat.reduceLeDiff, Int.reduceLE, Int.reduceLT, Int.reduceToNat, Int.cast_ofNat_Int, ↓reduceIte, resQ_tmp, resQ_cell, resQ_nil, retD_one, retD_two, retD_three, retD_none]; try simp [R.val, retD_one, retD_two, retD_three, retD_none])
          · refine W_sound tab_ok mixed 7 _ _ _ ?_
            simp only [go_sem, ne_eq, not_false_eq_true, Nat.reduceBEq, Nat.reduceAdd, Nat.reduceSub, Nat.reduceMul, Nat.reduceLT, Nat.reduceLeDiff, Int.reduceLE, Int.reduceLT, Int.reduceToNat, Int.cast_ofNat_Int, ↓reduceIte, h74, h77, h78, h80]
            repeat with_reducible refine And.intro (by kernel_rfl) ?_
            obtain rfl := Option.some.inj h106
            exact cutQ _ ((Wk_le (.cons _ _ _ _ _ (.refl _) (.cons _ _ _ _ _ (.refl _) (.cons _ _ _ _ _ (.refl _) (.cons _ _ _ _ _ (.refl _) (.cons _ _ _ _ _ (.refl _) (.cons _ _ _ _ _ (.dead _) (.cons _ _ _ _ _ (.dead _) (.cons _ _ _ _ _ (.dead _) (.cons _ _ _ _ _ (.dead _) (.cons _ _ _ _ _ (.refl _) .nil)))))))))) (OLe.refl _)).trans (cmpS_ok rfl)) ⟨rfl, rfl⟩
      · rintro _ ⟨rfl, rfl⟩
        (try dsimp only at h107)
        refine W_sound tab_ok mixed 5 _ _ _ ?_
        simp only [go_sem, ne_eq, not_false_eq_true, Nat.reduceBEq, Nat.reduceAdd, Nat.reduceSub, Nat.reduceMul, Nat.reduceLT, Nat.reduceLeDiff, Int.reduceLE, Int.reduceLT, Int.reduceToNat, Int.cast_ofNat_Int, ↓reduceIte, h74, h77, h78]
        repeat with_reducible refine And.intro (by kernel_rfl) ?_
        obtain rfl := Option.some.inj h107
        exact finC [(2, .v (.int .i64 0))] [(2, .v (.int .i64 0))] (by simp [leE, lk_cons]) (.cons _ _ _ _ _ (.v _ _ (.refl _)) .nil) (by rfl) (by simp [leE, lk_cons]) (by decide) (by decide) rfl (by simp only [go_sem, ne_eq, not_false_eq_true, Nat.reduceBEq, Nat.reduceAdd, Nat.reduceSub, Nat.reduceMul, Nat.reduceLT, Nat.reduceLeDiff, Int.reduceLE, Int.reduceLT, Int.reduceToNat, Int.cast_ofNat_Int, ↓reduceIte, resQ_tmp, resQ_cell, resQ_nil, retD_one, retD_two, retD_three, retD_none]; try simp [R.val, retD_one, retD_two, retD_three, retD_none])

end Go.Proofs.Ytgnphlpoofaojaa
