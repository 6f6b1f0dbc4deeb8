import Derived.Test.YtgnphlpoofaojaaB
import Derived.Test.YtgnphlpoofaojaaV30
import Derived.Test.YtgnphlpoofaojaaK
namespace Go.Proofs.Ytgnphlpoofaojaa
open Go.V
set_option maxRecDepth 100000
set_option linter.unusedSimpArgs false
set_option linter.unusedVariables false
attribute [local go_sem] tl1 tl2 tl3 tl4 tl5 tl9 tl17 tl21 tl22 tl23 tl24 tl25 tl26 tl27 tl28 tl29 tl31 tl33 tl34 tl36 tl37 tl38 tl39 tl40 tl41 tl42 tl43 tl44 tl46 tl47 tl49 tl50 tl52 tl53 tl54 tl55 tl56 tl57 tl58 tl60 tl62 tl63 tl64 tl65 tl66 tl67 tl68 tl69 tl70 tl71 tl72 tl74 tl75 tl76 tl77 tl78 tl79 tl80 tl81 tl82 tl83 tl84 tl85 tl86 tl87 tl88 tl89 tl90 tl91 tl92 tl93 tl94 tl95 tl96 tl97 tl98 tl99 tl100 tl102 tl103 tl104 tl105 tl106 tl107 tl108 tl109 tl110 tl111 tl112 tl113 tl114 tl115 tl116 tl117 tl118 tl119 tl120 tl121 tl122 tl123 tl124 tl125 tl126 tl127 tl128 tl129 tl130 tl131 tl132 tl133 tl134 tl140 tl141 tl145

def m15 (N : Nat) : Option PV := some (.bool true)
theorem c15 (N : Nat) (r : PV) (h : m15 N = some r) : FnP Try.prog 15 [] r := by
  obtain rfl := Option.some.inj h
  exact k31

def m63 (N : Nat) (x89 : Int) (x90 : Int) : Option (PV) :=
  brn (decide ((IntKind.i64.wrap (0 - x90)) ≤ x89)) (
    some (.bool (decide (x89 ≤ x90)))) (
    some (.bool false))
theorem c63 (N : Nat) (x89 : Int) (x90 : Int) (r : PV)  (h : m63 N x89 x90 = some r) : FnP Try.prog 63 [(.int .i64 x89), (.int .i64 x90)] r := by
  unfold m63 at h
  refine Fn_of (sz := 14) tab_ok [0, 1, 4] [.tmp 4] Try.func63 rfl rfl rfl (by simp) ?_
  simp only [initSt, initEnv, List.map_cons, List.map_nil, List.getD_cons_zero, List.getD_cons_succ, List.getD_nil]
  have hh := brn_some h; clear h; rcases hh with ⟨h91, h⟩ | ⟨h91, h⟩
  · refine W_sound tab_ok mixed 18 _ _ _ ?_
    simp only [go_sem, ne_eq, not_false_eq_true, Nat.reduceBEq, Nat.reduceAdd, Nat.reduceSub, Nat.reduceMul, Nat.reduceLT, Nat.reduceLeDiff, Int.reduceLE, Int.reduceLT, Int.reduceToNat, Int.cast_ofNat_Int, ↓reduceIte, h91]
    repeat with_reducible refine And.intro (by kernel_rfl) ?_
    obtain rfl := Option.some.inj h
    exact finC [(4, .v (.bool (decide (x89 ≤ x90))))] [(4, .v (.bool (decide (x89 ≤ x90))))] (by simp [leE, lk_cons]) (.cons _ _ _ _ _ (.v _ _ (.refl _)) .nil) (by rfl) (by simp [leE, lk_cons]) (by decide) (by decide) rfl (by simp only [go_sem, ne_eq, not_false_eq_true, Nat.reduceBEq, Nat.reduceAdd, Nat.reduceSub, Nat.reduceMul, Nat.reduceLT, Nat.reduceLeDiff, Int.reduceLE, Int.reduceLT, Int.reduceToNat, Int.cast_ofNat_Int, ↓reduceIte, resQ_tmp, resQ_cell, resQ_nil, retD_one, retD_two, retD_three, retD_none]; try simp [R.val, retD_one, retD_two, retD_three, retD_none])
  · refine W_sound tab_ok mixed 18 _ _ _ ?_
    simp only [go_sem, ne_eq, not_false_eq_true, Nat.reduceBEq, Nat.reduceAdd, Nat.reduceSub, Nat.reduceMul, Nat.reduceLT, Nat.reduceLeDiff, Int.reduceLE, Int.reduceLT, Int.reduceToNat, Int.cast_ofNat_Int, ↓reduceIte, h91]
    repeat with_reducible refine And.intro (by kernel_rfl) ?_
    obtain rfl := Option.some.inj h
    exact finC [(4, .v (.bool false))] [(4, .v (.bool false))] (by simp [leE, lk_cons]) (.cons _ _ _ _ _ (.v _ _ (.refl _)) .nil) (by rfl) (by simp [leE, lk_cons]) (by decide) (by decide) rfl (by simp only [go_sem, ne_eq, not_false_eq_true, Nat.reduceBEq, Nat.reduceAdd, Nat.reduceSub, Nat.reduceMul, Nat.reduceLT, Nat.reduceLeDiff, Int.reduceLE, Int.reduceLT, Int.reduceToNat, Int.cast_ofNat_Int, ↓reduceIte, resQ_tmp, resQ_cell, resQ_nil, retD_one, retD_two, retD_three, retD_none]; try simp [R.val, retD_one, retD_two, retD_three, retD_none])

def m22_L0 (N : Nat) (n75 : Nat) (c76 : List PV) : Nat → Int → Option ((PV ⊕ Unit))
  | 0, _ => none
  | n + 1, x79 =>
    brn (decide (x79 < ((n75 : Nat) : Int))) (
      grd (0 ≤ x79 ∧ x79 < ((n75 : Nat) : Int)) <|
      grd (2 ≤ List.length (List.drop ((Int.toNat x79) * 2) c76)) <|
      getA2 (.agg (List.take 2 (List.drop ((Int.toNat x79) * 2) c76))) fun p85 p86 =>
      getI .i64 p85 fun x88 =>
      bnd' (m63 N x88 100) fun p92 =>
      getB p92 fun b95 =>
      brn b95 (
        getI .i64 p86 fun x98 =>
        bnd' (m63 N x98 10) fun p99 =>
        getB p99 fun b102 =>
        brn b102 (
          m22_L0 N n75 c76 n (IntKind.i64.wrap (x79 + 1))) (
          some (.inl (.int .i64 1)))) (
        some (.inl (.int .i64 1)))) (
      some (.inr ()))
def m22 (N : Nat) (p73 : PV) : Option (PV) :=
  getL p73 fun n75 c76 =>
  brn (((n75 : Nat) : Int) == 0) (
    some (.int .i64 4)) (
    brn (decide (((n75 : Nat) : Int) > 8)) (
      some (.int .i64 3)) (
      bnd' (m22_L0 N n75 c76 N 0) fun o =>
      match o with
      | .inl p104 =>
        some p104
      | .inr () =>
        some (.int .i64 0)))
theorem c22 (N : Nat) (p73 : PV) (r : PV)  (h : m22 N p73 = some r) : FnP Try.prog 22 [p73] r := by
  unfold m22 at h
  refine Fn_of (sz := 30) tab_ok [0, 2, 4, 5, 9, 13, 14, 15, 16, 28] [.tmp 2] Try.func22 rfl rfl rfl (by simp) ?_
  simp only [initSt, initEnv, List.map_cons, List.map_nil, List.getD_cons_zero, List.getD_cons_succ, List.getD_nil]
  have hh := getL_some h; clear h; obtain ⟨n75, c76, h74, h⟩ := hh
  have hh := brn_some h; clear h; rcases hh with ⟨h77, h⟩ | ⟨h77, h⟩
  · refine W_sound tab_ok mixed 19 _ _ _ ?_
    simp only [go_sem, ne_eq, not_false_eq_true, Nat.reduceBEq, Nat.reduceAdd, Nat.reduceSub, Nat.reduceMul, Nat.reduceLT, Nat.reduceLeDiff, Int.reduceLE, Int.reduceLT, Int.reduceToNat, Int.cast_ofNat_Int, ↓reduceIte, h74, h77]
    repeat with_reducible refine And.intro (by kernel_rfl) ?_
    obtain rfl := Option.some.inj h
    exact finC [(2, .v (.int .i64 4))] [(2, .v (.int .i64 4))] (by simp [leE, lk_cons]) (.cons _ _ _ _ _ (.v _ _ (.refl _)) .nil) (by rfl) (by simp [leE, lk_cons]) (by decide) (by decide) rfl (by simp only [go_sem, ne_eq, not_false_eq_true, Nat.reduceBEq, Nat.reduceAdd, Nat.reduceSub, Nat.reduceMul, Nat.reduceLT, Nat.reduceLeDiff, Int.reduceLE, Int.reduceLT, Int.reduceToNat, Int.cast_ofNat_Int, ↓reduceIte, resQ_tmp, resQ_cell, resQ_nil, retD_one, retD_two, retD_three, retD_none]; try simp [R.val, retD_one, retD_two, retD_three, retD_none])
  · have hh := brn_some h; clear h; rcases hh with ⟨h78, h⟩ | ⟨h78, h⟩
    · refine W_sound tab_ok mixed 27 _ _ _ ?_
      simp only [go_sem, ne_eq, not_false_eq_true, Nat.reduceBEq, Nat.reduceAdd, Nat.reduceSub, Nat.reduceMul, Nat.reduceLT, Nat.reduceLeDiff, Int.reduceLE, Int.reduceLT, Int.reduceToNat, Int.cast_ofNat_Int, ↓reduceIte, h74, h77, h78]
      repeat with_reducible refine And.intro (by kernel_rfl) ?_
      obtain rfl := Option.some.inj h
      exact finC [(2, .v (.int .i64 3))] [(2, .v (.int .i64 3))] (by simp [leE, lk_cons]) (.cons _ _ _ _ _ (.v _ _ (.refl _)) .nil) (by rfl) (by simp [leE, lk_cons]) (by decide) (by decide) rfl (by simp only [go_sem, ne_eq, not_false_eq_true, Nat.reduceBEq, Nat.reduceAdd, Nat.reduceSub, Nat.reduceMul, Nat.reduceLT, Nat.reduceLeDiff, Int.reduceLE, Int.reduceLT, Int.reduceToNat, Int.cast_ofNat_Int, ↓reduceIte, resQ_tmp, resQ_cell, resQ_nil, retD_one, retD_two, retD_three, retD_none]; try simp [R.val, retD_one, retD_two, retD_three, retD_none])
    · refine W_sound tab_ok mixed 31 _ _ _ ?_
      simp only [go_sem, ne_eq, not_false_eq_true, Nat.reduceBEq, Nat.reduceAdd, Nat.reduceSub, Nat.reduceMul, Nat.reduceLT, Nat.reduceLeDiff, Int.reduceLE, Int.reduceLT, Int.reduceToNat, Int.cast_ofNat_Int, ↓reduceIte, h74, h77, h78]
      repeat with_reducible refine And.intro (by kernel_rfl) ?_
      have hh := bnd'_some h; clear h; obtain ⟨o105, h106, h107⟩ := hh
      refine Wp_cut (fun s => (.inr ()) = o105 ∧ s = ⟨[], [(0, .dead), (2, .dead), (4, .dead), (5, .dead), (9, .dead), (13, .dead), (14, .dead), (15, .dead), (16, .dead), (28, .dead)], [], 0, []⟩) ?_ ?_
      · refine Wp_block ?_
        refine Wp_loopG (fun n s => ∃ x79, m22_L0 N n75 c76 n x79 = some o105 ∧ s = ⟨[], [(0, .dead), (2, .dead), (4, .dead), (5, .dead), (9, .dead), (13, .v (.lst false n75 c76)), (14, .v (.int .i64 ((n75 : Nat) : Int))), (15, .v (.int .i64 x79)), (16, .dead), (28, .dead)], [], 0, []⟩) N _ ((Wk_le (.cons _ _ _ _ _ (.dead _) (.cons _ _ _ _ _ (.dead _) (.cons _ _ _ _ _ (.refl _) (.cons _ _ _ _ _ (.dead _) (.cons _ _ _ _ _ (.dead _) (.cons _ _ _ _ _ (.refl _) (.cons _ _ _ _ _ (.refl _) (.cons _ _ _ _ _ (.refl _) (.cons _ _ _ _ _ (.refl _) (.cons _ _ _ _ _ (.refl _) .nil)))))))))) (OLe.refl _)).trans (cmpS_ok rfl)) ⟨_, h106, rfl⟩ ?_
        clear h106
        rintro n _ ⟨x79, h106, rfl⟩
        cases n with
        | zero => cases h106
        | succ n =>
          rw [m22_L0] at h106
          have hh := brn_some h106; clear h106; rcases hh with ⟨h80, h106⟩ | ⟨h80, h106⟩
          · have hh := grd_some h106; clear h106; obtain ⟨⟨g81, g82⟩, h106⟩ := hh
            have hh := grd_some h106; clear h106; obtain ⟨g83, h106⟩ := hh
            have hh := getA2_some h106; clear h106; obtain ⟨p85, p86, h84, h106⟩ := hh
            injection h84 with h84
            have hh := getI_some h106; clear h106; obtain ⟨x88, h87, h106⟩ := hh
            have hh := bnd'_some h106; clear h106; obtain ⟨p92, h93, h106⟩ := hh
            refine W_sound tab_ok mixed 20 _ _ _ ?_
            simp only [go_sem, ne_eq, not_false_eq_true, Nat.reduceBEq, Nat.reduceAdd, Nat.reduceSub, Nat.reduceMul, Nat.reduceLT, Nat.reduceLeDiff, Int.reduceLE, Int.reduceLT, Int.reduceToNat, Int.cast_ofNat_Int, ↓reduceIte, h74, h77, h78, h80, g81, g82, g83, h84, h87]
            repeat with_reducible refine And.intro (by kernel_rfl) ?_
            refine Wp_callP (c63 N _ _ _ h93) (by kernel_rfl) rfl rfl rfl rfl (by decide) ?_
            have hh := getB_some h106; clear h106; obtain ⟨b95, h94, h106⟩ := hh
            have hh := brn_some h106; clear h106; rcases hh with ⟨h96, h106⟩ | ⟨h96, h106⟩
            · have hh := getI_some h106; clear h106; obtain ⟨x98, h97, h106⟩ := hh
              have hh := bnd'_some h106; clear h106; obtain ⟨p99, h100, h106⟩ := hh
              refine W_sound tab_ok mixed 4 _ _ _ ?_
              simp only [go_sem, ne_eq, not_false_eq_true, Nat.reduceBEq, Nat.reduceAdd, Nat.reduceSub, Nat.reduceMul, Nat.reduceLT, Nat.reduceLeDiff, Int.reduceLE, Int.reduceLT, Int.reduceToNat, Int.cast_ofNat_Int, ↓reduceIte, h74, h77, h78, h80, g81, g82, g83, h84, h87, h94, h96, h97]
              repeat with_reducible refine And.intro (by kernel_rfl) ?_
              refine Wp_callP (c63 N _ _ _ h100) (by kernel_rfl) rfl rfl rfl rfl (by decide) ?_
              have hh := getB_some h106; clear h106; obtain ⟨b102, h101, h106⟩ := hh
              have hh := brn_some h106; clear h106; rcases hh with ⟨h103, h106⟩ | ⟨h103, h106⟩
              · refine W_sound tab_ok mixed 10 _ _ _ ?_
                simp only [go_sem, ne_eq, not_false_eq_true, Nat.reduceBEq, Nat.reduceAdd, Nat.reduceSub, Nat.reduceMul, Nat.reduceLT, Nat.reduceLeDiff, Int.reduceLE, Int.reduceLT, Int.reduceToNat, Int.cast_ofNat_Int, ↓reduceIte, h74, h77, h78, h80, g81, g82, g83, h84, h87, h94, h96, h97, h101, h103]
                repeat with_reducible refine And.intro (by kernel_rfl) ?_
                exact cutQ _ ((Wk_le (.cons _ _ _ _ _ (.refl _) (.cons _ _ _ _ _ (.refl _) (.cons _ _ _ _ _ (.dead _) (.cons _ _ _ _ _ (.refl _) (.cons _ _ _ _ _ (.refl _) (.cons _ _ _ _ _ (.refl _) (.cons _ _ _ _ _ (.refl _) (.cons _ _ _ _ _ (.refl _) (.cons _ _ _ _ _ (.dead _) (.cons _ _ _ _ _ (.dead _) .nil)))))))))) (OLe.refl _)).trans (cmpS_ok rfl)) ⟨n, Nat.lt_succ_self n, _, h106, rfl⟩
              · refine W_sound tab_ok mixed 9 _ _ _ ?_
                simp only [go_sem, ne_eq, not_false_eq_true, Nat.reduceBEq, Nat.reduceAdd, Nat.reduceSub, Nat.reduceMul, Nat.reduceLT, Nat.reduceLeDiff, Int.reduceLE, Int.reduceLT, Int.reduceToNat, Int.cast_ofNat_Int, ↓reduceIte, h74, h77, h78, h80, g81, g82, g83, h84, h87, h94, h96, h97, h101, h103]
                repeat with_reducible refine And.intro (by kernel_rfl) ?_
                obtain rfl := Option.some.inj h106
                (try dsimp only at h107)
                obtain rfl := Option.some.inj h107
                exact finC [(2, .v (.int .i64 1))] [(2, .v (.int .i64 1))] (by simp [leE, lk_cons]) (.cons _ _ _ _ _ (.v _ _ (.refl _)) .nil) (by rfl) (by simp [leE, lk_cons]) (by decide) (by decide) rfl (by simp only [go_sem, ne_eq, not_false_eq_true, Nat.reduceBEq, Nat.reduceAdd, Nat.reduceSub, Nat.reduceMul, Nat.reduceLT, Nat.reduceLeDiff, Int.reduceLE, Int.reduceLT, Int.reduceToNat, Int.cast_ofNat_Int, ↓reduceIte, resQ_tmp, resQ_cell, resQ_nil, retD_one, retD_two, retD_three, retD_none]; try simp [R.val, retD_one, retD_two, retD_three, retD_none])
            · refine W_sound tab_ok mixed 14 _ _ _ ?_
              simp only [go_sem, ne_eq, not_false_eq_true, Nat.reduceBEq, Nat.reduceAdd, Nat.reduceSub, Nat.reduceMul, Nat.reduceLT, Nat.reduceLeDiff, Int.reduceLE, Int.reduceLT, Int.reduceToNat, Int.cast_ofNat_Int, ↓reduceIte, h74, h77, h78, h80, g81, g82, g83, h84, h87, h94, h96]
              repeat with_reducible refine And.intro (by kernel_rfl) ?_
              obtain rfl := Option.some.inj h106
              (try dsimp only at h107)
              obtain rfl := Option.some.inj h107
              exact finC [(2, .v (.int .i64 1))] [(2, .v (.int .i64 1))] (by simp [leE, lk_cons]) (.cons _ _ _ _ _ (.v _ _ (.refl _)) .nil) (by rfl) (by simp [leE, lk_cons]) (by decide) (by decide) rfl (by simp only [go_sem, ne_eq, not_false_eq_true, Nat.reduceBEq, Nat.reduceAdd, Nat.reduceSub, Nat.reduceMul, Nat.reduceLT, Nat.reduceLeDiff, Int.reduceLE, Int.reduceLT, Int.reduceToNat, Int.cast_ofNat_Int, ↓reduceIte, resQ_tmp, resQ_cell, resQ_nil, retD_one, retD_two, retD_three, retD_none]; try simp [R.val, retD_one, retD_two, retD_three, retD_none])
          · refine W_sound tab_ok mixed 7 _ _ _ ?_
            simp only [go_sem, ne_eq, not_false_eq_true, Nat.reduceBEq, Nat.reduceAdd, Nat.reduceSub, Nat.reduceMul, Nat.reduceLT, Nat.reduceLeDiff, Int.reduceLE, Int.reduceLT, Int.reduceToNat, Int.cast_ofNat_Int, ↓reduceIte, h74, h77, h78, h80]
            repeat with_reducible refine And.intro (by kernel_rfl) ?_
            obtain rfl := Option.some.inj h106
            exact cutQ _ ((Wk_le (.cons _ _ _ _ _ (.refl _) (.cons _ _ _ _ _ (.refl _) (.cons _ _ _ _ _ (.refl _) (.cons _ _ _ _ _ (.refl _) (.cons _ _ _ _ _ (.refl _) (.cons _ _ _ _ _ (.dead _) (.cons _ _ _ _ _ (.dead _) (.cons _ _ _ _ _ (.dead _) (.cons _ _ _ _ _ (.dead _) (.cons _ _ _ _ _ (.refl _) .nil)))))))))) (OLe.refl _)).trans (cmpS_ok rfl)) ⟨rfl, rfl⟩
      · rintro _ ⟨rfl, rfl⟩
        (try dsimp only at h107)
        refine W_sound tab_ok mixed 5 _ _ _ ?_
        simp only [go_sem, ne_eq, not_false_eq_true, Nat.reduceBEq, Nat.reduceAdd, Nat.reduceSub, Nat.reduceMul, Nat.reduceLT, Nat.reduceLeDiff, Int.reduceLE, Int.reduceLT, Int.reduceToNat, Int.cast_ofNat_Int, ↓reduceIte, h74, h77, h78]
        repeat with_reducible refine And.intro (by kernel_rfl) ?_
        obtain rfl := Option.some.inj h107
        exact finC [(2, .v (.int .i64 0))] [(2, .v (.int .i64 0))] (by simp [leE, lk_cons]) (.cons _ _ _ _ _ (.v _ _ (.refl _)) .nil) (by rfl) (by simp [leE, lk_cons]) (by decide) (by decide) rfl (by simp only [go_sem, ne_eq, not_false_eq_true, Nat.reduceBEq, Nat.reduceAdd, Nat.reduceSub, Nat.reduceMul, Nat.reduceLT, Nat.reduceLeDiff, Int.reduceLE, Int.reduceLT, Int.reduceToNat, Int.cast_ofNat_Int, ↓reduceIte, resQ_tmp, resQ_cell, resQ_nil, retD_one, retD_two, retD_three, retD_none]; try simp [R.val, retD_one, retD_two, retD_three, retD_none])

def m78 (N : Nat) (p135 : PV) (p136 : PV) : Option (PV) :=
  getA2 p135 fun p138 p139 =>
  getA2 p136 fun p141 p142 =>
  getI .i64 p138 fun x144 =>
  getI .i64 p142 fun x146 =>
  getI .i64 p139 fun x148 =>
  getI .i64 p141 fun x150 =>
  some (.int .i64 (IntKind.i64.wrap ((IntKind.i64.wrap (x144 * x146)) + (IntKind.i64.wrap (x148 * x150)))))
theorem c78 (N : Nat) (p135 : PV) (p136 : PV) (r : PV)  (h : m78 N p135 p136 = some r) : FnP Try.prog 78 [p135, p136] r := by
  unfold m78 at h
  refine Fn_of (sz := 16) tab_ok [0, 1, 2, 3, 4] [.tmp 4] Try.func78 rfl rfl rfl (by simp) ?_
  simp only [initSt, initEnv, List.map_cons, List.map_nil, List.getD_cons_zero, List.getD_cons_succ, List.getD_nil]
  have hh := getA2_some h; clear h; obtain ⟨p138, p139, h137, h⟩ := hh
  have hh := getA2_some h; clear h; obtain ⟨p141, p142, h140, h⟩ := hh
  have hh := getI_some h; clear h; obtain ⟨x144, h143, h⟩ := hh
  have hh := getI_some h; clear h; obtain ⟨x146, h145, h⟩ := hh
  have hh := getI_some h; clear h; obtain ⟨x148, h147, h⟩ := hh
  have hh := getI_some h; clear h; obtain ⟨x150, h149, h⟩ := hh
  refine W_sound tab_ok mixed 22 _ _ _ ?_
  simp only [go_sem, ne_eq, not_false_eq_true, Nat.reduceBEq, Nat.reduceAdd, Nat.reduceSub, Nat.reduceMul, Nat.reduceLT, Nat.reduceLeDiff, Int.reduceLE, Int.reduceLT, Int.reduceToNat, Int.cast_ofNat_Int, ↓reduceIte, h137, h140, h143, h145, h147, h149]
  repeat with_reducible refine And.intro (by kernel_rfl) ?_
  obtain rfl := Option.some.inj h
  exact finC [(4, .v (.int .i64 (IntKind.i64.wrap ((IntKind.i64.wrap (x144 * x146)) + (IntKind.i64.wrap (x148 * x150))))))] [(4, .v (.int .i64 (IntKind.i64.wrap ((IntKind.i64.wrap (x144 * x146)) + (IntKind.i64.wrap (x148 * x150))))))] (by simp [leE, lk_cons]) (.cons _ _ _ _ _ (.v _ _ (.refl _)) .nil) (by rfl) (by simp [leE, lk_cons]) (by decide) (by decide) rfl (by simp only [go_sem, ne_eq, not_false_eq_true, Nat.reduceBEq, Nat.reduceAdd, Nat.reduceSub, Nat.reduceMul, Nat.reduceLT, Nat.reduceLeDiff, Int.reduceLE, Int.reduceLT, Int.reduceToNat, Int.cast_ofNat_Int, ↓reduceIte, resQ_tmp, resQ_cell, resQ_nil, retD_one, retD_two, retD_three, retD_none]; try simp [R.val, retD_one, retD_two, retD_three, retD_none])

def m79_L0 (N : Nat) (n174 : Nat) (c175 : List PV) : Nat → Int → Int → Option (Int)
  | 0, _, _ => none
  | n + 1, x181, x182 =>
    brn (decide (x182 < ((n174 : Nat) : Int))) (
      grd (0 ≤ x182 ∧ x182 < ((n174 : Nat) : Int)) <|
      grd (0 < List.length (List.drop (Int.toNat x182) c175)) <|
      getI .i64 (gp c175 (Int.toNat x182)) fun x188 =>
      m79_L0 N n174 c175 n (maxI x181 x188) (IntKind.i64.wrap (x182 + 1))) (
      some x181)
def m79 (N : Nat) (p172 : PV) : Option (PV) :=
  getL p172 fun n174 c175 =>
  brn (decide (((n174 : Nat) : Int) < 1)) (
    none) (
    grd (0 < ((n174 : Nat) : Int)) <|
    grd (0 < List.length c175) <|
    getI .i64 (gp c175 0) fun x180 =>
    bnd' (m79_L0 N n174 c175 N x180 1) fun x189 =>
    some (.int .i64 x189))
theorem c79 (N : Nat) (p172 : PV) (r : PV)  (h : m79 N p172 = some r) : FnP Try.prog 79 [p172] r := by
  unfold m79 at h
  refine Fn_of (sz := 25) tab_ok [0, 2, 3, 4, 7, 15] [.tmp 2] Try.func79 rfl rfl rfl (by simp) ?_
  simp only [initSt, initEnv, List.map_cons, List.map_nil, List.getD_cons_zero, List.getD_cons_succ, List.getD_nil]
  have hh := getL_some h; clear h; obtain ⟨n174, c175, h173, h⟩ := hh
  have hh := brn_some h; clear h; rcases hh with ⟨h176, h⟩ | ⟨h176, h⟩
  · cases h
  · have hh := grd_some h; clear h; obtain ⟨g177, h⟩ := hh
    have hh := grd_some h; clear h; obtain ⟨g178, h⟩ := hh
    have hh := getI_some h; clear h; obtain ⟨x180, h179, h⟩ := hh
    refine W_sound tab_ok mixed 25 _ _ _ ?_
    simp only [go_sem, ne_eq, not_false_eq_true, Nat.reduceBEq, Nat.reduceAdd, Nat.reduceSub, Nat.reduceMul, Nat.reduceLT, Nat.reduceLeDiff, Int.reduceLE, Int.reduceLT, Int.reduceToNat, Int.cast_ofNat_Int, ↓reduceIte, h173, h176, g177, g178, h179]
    repeat with_reducible refine And.intro (by kernel_rfl) ?_
    have hh := bnd'_some h; clear h; obtain ⟨o190, h191, h192⟩ := hh
    refine Wp_cut (fun s => ∃ x189, x189 = o190 ∧ s = ⟨[], [(0, .dead), (2, .dead), (3, .v (.int .i64 x189)), (4, .dead), (7, .dead), (15, .dead)], [], 0, []⟩) ?_ ?_
    · refine Wp_block ?_
      refine Wp_loopG (fun n s => ∃ x181, ∃ x182, m79_L0 N n174 c175 n x181 x182 = some o190 ∧ s = ⟨[], [(0, .v (.lst false n174 c175)), (2, .dead), (3, .v (.int .i64 x181)), (4, .v (.int .i64 x182)), (7, .dead), (15, .dead)], [], 0, []⟩) N _ ((Wk_le (.cons _ _ _ _ _ (.refl _) (.cons _ _ _ _ _ (.dead _) (.cons _ _ _ _ _ (.refl _) (.cons _ _ _ _ _ (.refl _) (.cons _ _ _ _ _ (.dead _) (.cons _ _ _ _ _ (.refl _) .nil)))))) (OLe.refl _)).trans (cmpS_ok rfl)) ⟨_, _, h191, rfl⟩ ?_
      clear h191
      rintro n _ ⟨x181, x182, h191, rfl⟩
      cases n with
      | zero => cases h191
      | succ n =>
        rw [m79_L0] at h191
        have hh := brn_some h191; clear h191; rcases hh with ⟨h183, h191⟩ | ⟨h183, h191⟩
        · have hh := grd_some h191; clear h191; obtain ⟨⟨g184, g185⟩, h191⟩ := hh
          have hh := grd_some h191; clear h191; obtain ⟨g186, h191⟩ := hh
          have hh := getI_some h191; clear h191; obtain ⟨x188, h187, h191⟩ := hh
          refine W_sound tab_ok mixed 27 _ _ _ ?_
          simp only [go_sem, ne_eq, not_false_eq_true, Nat.reduceBEq, Nat.reduceAdd, Nat.reduceSub, Nat.reduceMul, Nat.reduceLT, Nat.reduceLeDiff, Int.reduceLE, Int.reduceLT, Int.reduceToNat, Int.cast_ofNat_Int, ↓reduceIte, h173, h176, g177, g178, h179, h183, g184, g185, g186, h187]
          repeat with_reducible refine And.intro (by kernel_rfl) ?_
          exact cutQ _ ((Wk_le (.cons _ _ _ _ _ (.refl _) (.cons _ _ _ _ _ (.refl _) (.cons _ _ _ _ _ (.refl _) (.cons _ _ _ _ _ (.refl _) (.cons _ _ _ _ _ (.refl _) (.cons _ _ _ _ _ (.dead _) .nil)))))) (OLe.refl _)).trans (cmpS_ok rfl)) ⟨n, Nat.lt_succ_self n, _, _, h191, rfl⟩
        · refine W_sound tab_ok mixed 10 _ _ _ ?_
          simp only [go_sem, ne_eq, not_false_eq_true, Nat.reduceBEq, Nat.reduceAdd, Nat.reduceSub, Nat.reduceMul, Nat.reduceLT, Nat.reduceLeDiff, Int.reduceLE, Int.reduceLT, Int.reduceToNat, Int.cast_ofNat_Int, ↓reduceIte, h173, h176, g177, g178, h179, h183]
          repeat with_reducible refine And.intro (by kernel_rfl) ?_
          obtain rfl := Option.some.inj h191
          exact cutQ _ ((Wk_le (.cons _ _ _ _ _ (.dead _) (.cons _ _ _ _ _ (.refl _) (.cons _ _ _ _ _ (.refl _) (.cons _ _ _ _ _ (.dead _) (.cons _ _ _ _ _ (.refl _) (.cons _ _ _ _ _ (.dead _) .nil)))))) (OLe.refl _)).trans (cmpS_ok rfl)) ⟨_, rfl, rfl⟩
    · rintro _ ⟨x189, rfl, rfl⟩
      refine W_sound tab_ok mixed 6 _ _ _ ?_
      simp only [go_sem, ne_eq, not_false_eq_true, Nat.reduceBEq, Nat.reduceAdd, Nat.reduceSub, Nat.reduceMul, Nat.reduceLT, Nat.reduceLeDiff, Int.reduceLE, Int.reduceLT, Int.reduceToNat, Int.cast_ofNat_Int, ↓reduceIte, h173, h176, g177, g178, h179]
      repeat with_reducible refine And.intro (by kernel_rfl) ?_
      obtain rfl := Option.some.inj h192
      exact finC [(2, .v (.int .i64 x189))] [(2, .v (.int .i64 x189))] (by simp [leE, lk_cons]) (.cons _ _ _ _ _ (.v _ _ (.refl _)) .nil) (by rfl) (by simp [leE, lk_cons]) (by decide) (by decide) rfl (by simp only [go_sem, ne_eq, not_false_eq_true, Nat.reduceBEq, Nat.reduceAdd, Nat.reduceSub, Nat.reduceMul, Nat.reduceLT, Nat.reduceLeDiff, Int.reduceLE, Int.reduceLT, Int.reduceToNat, Int.cast_ofNat_Int, ↓reduceIte, resQ_tmp, resQ_cell, resQ_nil, retD_one, retD_two, retD_three, retD_none]; try simp [R.val, retD_one, retD_two, retD_three, retD_none])

def m57_L0 (N : Nat) (n68 : Nat) (c69 : List PV) (x114 : Int) (x121 : Int) : Nat → Int → List PV → Option (List PV)
  | 0, _, _ => none
  | n + 1, x156, c157 =>
    brn (decide (x156 < ((n68 : Nat) : Int))) (
      grd (0 ≤ x156 ∧ x156 < ((n68 : Nat) : Int)) <|
      grd (2 ≤ List.length (List.drop ((Int.toNat x156) * 2) c69)) <|
      getA2 (.agg (List.take 2 (List.drop ((Int.toNat x156) * 2) c69))) fun p163 p164 =>
      bnd' (m78 N (.agg [p163, p164]) (.agg [(.int .i64 x114), (.int .i64 x121)])) fun p165 =>
      getI .i64 p165 fun x168 =>
      grd (((Int.toNat x156) + 1) ≤ List.length c157) <|
      m57_L0 N n68 c69 x114 x121 n (IntKind.i64.wrap (x156 + 1)) (List.set c157 (Int.toNat x156) (.int .i64 x168))) (
      some c157)
def m57 (N : Nat) (p65 : PV) (p66 : PV) : Option (PV) :=
  getL p65 fun n68 c69 =>
  getA2 p66 fun p71 p72 =>
  bnd' (m22 N (.lst false n68 c69)) fun p108 =>
  getI .i64 p108 fun x111 =>
  brn (x111 != 0) (
    some (.tup [(.lst false 0 []), (.int .i64 0), (.int .i64 x111)])) (
    getI .i64 p71 fun x114 =>
    bnd' (m63 N x114 1000) fun p115 =>
    getB p115 fun b118 =>
    brn b118 (
      getI .i64 p72 fun x121 =>
      brn (decide (x121 < 1)) (
        some (.tup [(.lst false 0 []), (.int .i64 0), (.int .i64 1)])) (
        brn (decide (x121 > 1000)) (
          some (.tup [(.lst false 0 []), (.int .i64 0), (.int .i64 1)])) (
          grd (0 ≤ ((n68 : Nat) : Int) ∧ ((n68 : Nat) : Int) ≤ ((n68 : Nat) : Int) ∧ ((n68 : Nat) : Int) ≤ 1099511627776) <|
          bnd' (m57_L0 N n68 c69 x114 x121 N 0 (List.replicate n68 (.int .i64 0))) fun c170 =>
          grd (List.length c170 = n68) <|
          bnd' (m79 N (.lst false n68 c170)) fun p193 =>
          getI .i64 p193 fun x196 =>
          some (.tup [(.lst false n68 c170), (.int .i64 x196), (.int .i64 0)])))) (
      some (.tup [(.lst false 0 []), (.int .i64 0), (.int .i64 1)])))
theorem c57 (N : Nat) (p65 : PV) (p66 : PV) (r : PV)  (h : m57 N p65 p66 = some r) : FnP Try.prog 57 [p65, p66] r := by
  unfold m57 at h
  refine Fn_of (sz := 52) tab_ok [0, 1, 3, 4, 5, 6, 7, 8, 9, 12, 16, 35, 36, 37] [.tmp 4, .tmp 5, .tmp 6] Try.func57 rfl rfl rfl (by simp) ?_
  simp only [initSt, initEnv, List.map_cons, List.map_nil, List.getD_cons_zero, List.getD_cons_succ, List.getD_nil]
  have hh := getL_some h; clear h; obtain ⟨n68, c69, h67, h⟩ := hh
  have hh := getA2_some h; clear h; obtain ⟨p71, p72, h70, h⟩ := hh
  have hh := bnd'_some h; clear h; obtain ⟨p108, h109, h⟩ := hh
  refine W_sound tab_ok mixed 10 _ _ _ ?_
  simp only [go_sem, ne_eq, not_false_eq_true, Nat.reduceBEq, Nat.reduceAdd, Nat.reduceSub, Nat.reduceMul, Nat.reduceLT, Nat.reduceLeDiff, Int.reduceLE, Int.reduceLT, Int.reduceToNat, Int.cast_ofNat_Int, ↓reduceIte, h67, h70]
  repeat with_reducible refine And.intro (by kernel_rfl) ?_
  refine Wp_callP (c22 N _ _ h109) (by kernel_rfl) rfl rfl rfl rfl (by decide) ?_
  have hh := getI_some h; clear h; obtain ⟨x111, h110, h⟩ := hh
  have hh := brn_some h; clear h; rcases hh with ⟨h112, h⟩ | ⟨h112, h⟩
  · refine W_sound tab_ok mixed 19 _ _ _ ?_
    simp only [go_sem, ne_eq, not_false_eq_true, Nat.reduceBEq, Nat.reduceAdd, Nat.reduceSub, Nat.reduceMul, Nat.reduceLT, Nat.reduceLeDiff, Int.reduceLE, Int.reduceLT, Int.reduceToNat, Int.cast_ofNat_Int, ↓reduceIte, h67, h70, h110, h112]
    repeat with_reducible refine And.intro (by kernel_rfl) ?_
    obtain rfl := Option.some.inj h
    exact finC [(4, .v .nl), (5, .v (.int .i64 0)), (6, .v (.int .i64 x111))] [(4, .v (.lst false 0 [])), (5, .v (.int .i64 0)), (6, .v (.int .i64 x111))] (by simp [leE, lk_cons]) (.cons _ _ _ _ _ (.v _ _ (.nl false)) (.cons _ _ _ _ _ (.v _ _ (.refl _)) (.cons _ _ _ _ _ (.v _ _ (.refl _)) .nil))) (by rfl) (by simp [leE, lk_cons]) (by decide) (by decide) rfl (by simp only [go_sem, ne_eq, not_false_eq_true, Nat.reduceBEq, Nat.reduceAdd, Nat.reduceSub, Nat.reduceMul, Nat.reduceLT, Nat.reduceLeDiff, Int.reduceLE, Int.reduceLT, Int.reduceToNat, Int.cast_ofNat_Int, ↓reduceIte, resQ_tmp, resQ_cell, resQ_nil, retD_one, retD_two, retD_three, retD_none]; try simp [R.val, retD_one, retD_two, retD_three, retD_none])
  · have hh := getI_some h; clear h; obtain ⟨x114, h113, h⟩ := hh
    have hh := bnd'_some h; clear h; obtain ⟨p115, h116, h⟩ := hh
    refine W_sound tab_ok mixed 15 _ _ _ ?_
    simp only [go_sem, ne_eq, not_false_eq_true, Nat.reduceBEq, Nat.reduceAdd, Nat.reduceSub, Nat.reduceMul, Nat.reduceLT, Nat.reduceLeDiff, Int.reduceLE, Int.reduceLT, Int.reduceToNat, Int.cast_ofNat_Int, ↓reduceIte, h67, h70, h110, h112, h113]
    repeat with_reducible refine And.intro (by kernel_rfl) ?_
    refine Wp_callP (c63 N _ _ _ h116) (by kernel_rfl) rfl rfl rfl rfl (by decide) ?_
    have hh := getB_some h; clear h; obtain ⟨b118, h117, h⟩ := hh
    have hh := brn_some h; clear h; rcases hh with ⟨h119, h⟩ | ⟨h119, h⟩
    · have hh := getI_some h; clear h; obtain ⟨x121, h120, h⟩ := hh
      have hh := brn_some h; clear h; rcases hh with ⟨h122, h⟩ | ⟨h122, h⟩
      · refine W_sound tab_ok mixed 21 _ _ _ ?_
        simp only [go_sem, ne_eq, not_false_eq_true, Nat.reduceBEq, Nat.reduceAdd, Nat.reduceSub, Nat.reduceMul, Nat.reduceLT, Nat.reduceLeDiff, Int.reduceLE, Int.reduceLT, Int.reduceToNat, Int.cast_ofNat_Int, ↓reduceIte, h67, h70, h110, h112, h113, h117, h119, h120, h122]
        repeat with_reducible refine And.intro (by kernel_rfl) ?_
        obtain rfl := Option.some.inj h
        exact finC [(4, .v .nl), (5, .v (.int .i64 0)), (6, .v (.int .i64 1))] [(4, .v (.lst false 0 [])), (5, .v (.int .i64 0)), (6, .v (.int .i64 1))] (by simp [leE, lk_cons]) (.cons _ _ _ _ _ (.v _ _ (.nl false)) (.cons _ _ _ _ _ (.v _ _ (.refl _)) (.cons _ _ _ _ _ (.v _ _ (.refl _)) .nil))) (by rfl) (by simp [leE, lk_cons]) (by decide) (by decide) rfl (by simp only [go_sem, ne_eq, not_false_eq_true, Nat.reduceBEq, Nat.reduceAdd, Nat.reduceSub, Nat.reduceMul, Nat.reduceLT, Nat.reduceLeDiff, Int.reduceLE, Int.reduceLT, Int.reduceToNat, Int.cast_ofNat_Int, ↓reduceIte, resQ_tmp, resQ_cell, resQ_nil, retD_one, retD_two, retD_three, retD_none]; try simp [R.val, retD_one, retD_two, retD_three, retD_none])
      · have hh := brn_some h; clear h; rcases hh with ⟨h123, h⟩ | ⟨h123, h⟩
        · refine W_sound tab_ok mixed 21 _ _ _ ?_
          simp only [go_sem, ne_eq, not_false_eq_true, Nat.reduceBEq, Nat.reduceAdd, Nat.reduceSub, Nat.reduceMul, Nat.reduceLT, Nat.reduceLeDiff, Int.reduceLE, Int.reduceLT, Int.reduceToNat, Int.cast_ofNat_Int, ↓reduceIte, h67, h70, h110, h112, h113, h117, h119, h120, h122, h123]
          repeat with_reducible refine And.intro (by kernel_rfl) ?_
          obtain rfl := Option.some.inj h
          exact finC [(4, .v .nl), (5, .v (.int .i64 0)), (6, .v (.int .i64 1))] [(4, .v (.lst false 0 [])), (5, .v (.int .i64 0)), (6, .v (.int .i64 1))] (by simp [leE, lk_cons]) (.cons _ _ _ _ _ (.v _ _ (.nl false)) (.cons _ _ _ _ _ (.v _ _ (.refl _)) (.cons _ _ _ _ _ (.v _ _ (.refl _)) .nil))) (by rfl) (by simp [leE, lk_cons]) (by decide) (by decide) rfl (by simp only [go_sem, ne_eq, not_false_eq_true, Nat.reduceBEq, Nat.reduceAdd, Nat.reduceSub, Nat.reduceMul, Nat.reduceLT, Nat.reduceLeDiff, Int.reduceLE, Int.reduceLT, Int.reduceToNat, Int.cast_ofNat_Int, ↓reduceIte, resQ_tmp, resQ_cell, resQ_nil, retD_one, retD_two, retD_three, retD_none]; try simp [R.val, retD_one, retD_two, retD_three, retD_none])
        · have hh := grd_some h; clear h; obtain ⟨⟨g124, g125, g126⟩, h⟩ := hh
          refine W_sound tab_ok mixed 30 _ _ _ ?_
          simp only [go_sem, ne_eq, not_false_eq_true, Nat.reduceBEq, Nat.reduceAdd, Nat.reduceSub, Nat.reduceMul, Nat.reduceLT, Nat.reduceLeDiff, Int.reduceLE, Int.reduceLT, Int.reduceToNat, Int.cast_ofNat_Int, ↓reduceIte, h67, h70, h110, h112, h113, h117, h119, h120, h122, h123, g124, g125, g126]
          repeat with_reducible refine And.intro (by kernel_rfl) ?_
          have hh := bnd'_some h; clear h; obtain ⟨o197, h198, h199⟩ := hh
          refine Wp_cut (fun s => ∃ c170, c170 = o197 ∧ s = ⟨[], [(0, .dead), (1, .dead), (3, .dead), (4, .dead), (5, .dead), (6, .dead), (7, .dead), (8, .sl false 0 0 n68 1), (9, .dead), (12, .dead), (16, .dead), (35, .dead), (36, .dead), (37, .dead)], [(0, .p c170)], 1, []⟩) ?_ ?_
          · refine Wp_block ?_
            refine Wp_loopG (fun n s => ∃ x156, ∃ c157, m57_L0 N n68 c69 x114 x121 n x156 c157 = some o197 ∧ s = ⟨[], [(0, .v (.lst false n68 c69)), (1, .dead), (3, .ptr 0 0), (4, .dead), (5, .dead), (6, .dead), (7, .dead), (8, .sl false 1 0 n68 1), (9, .dead), (12, .dead), (16, .dead), (35, .v (.int .i64 ((n68 : Nat) : Int))), (36, .v (.int .i64 x156)), (37, .dead)], [(0, .p [(.int .i64 x114), (.int .i64 x121)]), (1, .p c157)], 2, []⟩) N _ ((Wk_le (.cons _ _ _ _ _ (.refl _) (.cons _ _ _ _ _ (.dead _) (.cons _ _ _ _ _ (.refl _) (.cons _ _ _ _ _ (.dead _) (.cons _ _ _ _ _ (.dead _) (.cons _ _ _ _ _ (.dead _) (.cons _ _ _ _ _ (.dead _) (.cons _ _ _ _ _ (.refl _) (.cons _ _ _ _ _ (.refl _) (.cons _ _ _ _ _ (.dead _) (.cons _ _ _ _ _ (.dead _) (.cons _ _ _ _ _ (.refl _) (.cons _ _ _ _ _ (.refl _) (.cons _ _ _ _ _ (.refl _) .nil)))))))))))))) (OLe.refl _)).trans (cmpS_ok rfl)) ⟨_, _, h198, rfl⟩ ?_
            clear h198
            rintro n _ ⟨x156, c157, h198, rfl⟩
            cases n with
            | zero => cases h198
            | succ n =>
              rw [m57_L0] at h198
              have hh := brn_some h198; clear h198; rcases hh with ⟨h158, h198⟩ | ⟨h158, h198⟩
              · have hh := grd_some h198; clear h198; obtain ⟨⟨g159, g160⟩, h198⟩ := hh
                have hh := grd_some h198; clear h198; obtain ⟨g161, h198⟩ := hh
                have hh := getA2_some h198; clear h198; obtain ⟨p163, p164, h162, h198⟩ := hh
                injection h162 with h162
                have hh := bnd'_some h198; clear h198; obtain ⟨p165, h166, h198⟩ := hh
                refine W_sound tab_ok mixed 22 _ _ _ ?_
                simp only [go_sem, ne_eq, not_false_eq_true, Nat.reduceBEq, Nat.reduceAdd, Nat.reduceSub, Nat.reduceMul, Nat.reduceLT, Nat.reduceLeDiff, Int.reduceLE, Int.reduceLT, Int.reduceToNat, Int.cast_ofNat_Int, ↓reduceIte, h67, h70, h110, h112, h113, h117, h119, h120, h122, h123, g124, g125, g126, h158, g159, g160, g161, h162]
                repeat with_reducible refine And.intro (by kernel_rfl) ?_
                refine Wp_callP (c78 N _ _ _ h166) (by kernel_rfl) rfl rfl rfl rfl (by decide) ?_
                have hh := getI_some h198; clear h198; obtain ⟨x168, h167, h198⟩ := hh
                have hh := grd_some h198; clear h198; obtain ⟨g169, h198⟩ := hh
                refine W_sound tab_ok mixed 8 _ _ _ ?_
                simp only [go_sem, ne_eq, not_false_eq_true, Nat.reduceBEq, Nat.reduceAdd, Nat.reduceSub, Nat.reduceMul, Nat.reduceLT, Nat.reduceLeDiff, Int.reduceLE, Int.reduceLT, Int.reduceToNat, Int.cast_ofNat_Int, ↓reduceIte, h67, h70, h110, h112, h113, h117, h119, h120, h122, h123, g124, g125, g126, h158, g159, g160, g161, h162, h167, g169]
                repeat with_reducible refine And.intro (by kernel_rfl) ?_
                exact cutQ _ ((Wk_le (.cons _ _ _ _ _ (.refl _) (.cons _ _ _ _ _ (.refl _) (.cons _ _ _ _ _ (.refl _) (.cons _ _ _ _ _ (.refl _) (.cons _ _ _ _ _ (.refl _) (.cons _ _ _ _ _ (.refl _) (.cons _ _ _ _ _ (.refl _) (.cons _ _ _ _ _ (.refl _) (.cons _ _ _ _ _ (.dead _) (.cons _ _ _ _ _ (.refl _) (.cons _ _ _ _ _ (.refl _) (.cons _ _ _ _ _ (.refl _) (.cons _ _ _ _ _ (.refl _) (.cons _ _ _ _ _ (.dead _) .nil)))))))))))))) (OLe.refl _)).trans (cmpS_ok rfl)) ⟨n, Nat.lt_succ_self n, _, _, h198, rfl⟩
              · refine W_sound tab_ok mixed 7 _ _ _ ?_
                simp only [go_sem, ne_eq, not_false_eq_true, Nat.reduceBEq, Nat.reduceAdd, Nat.reduceSub, Nat.reduceMul, Nat.reduceLT, Nat.reduceLeDiff, Int.reduceLE, Int.reduceLT, Int.reduceToNat, Int.cast_ofNat_Int, ↓reduceIte, h67, h70, h110, h112, h113, h117, h119, h120, h122, h123, g124, g125, g126, h158]
                repeat with_reducible refine And.intro (by kernel_rfl) ?_
                obtain rfl := Option.some.inj h198
                exact cutQ _ ((Wk_le (.cons _ _ _ _ _ (.dead _) (.cons _ _ _ _ _ (.refl _) (.cons _ _ _ _ _ (.dead _) (.cons _ _ _ _ _ (.refl _) (.cons _ _ _ _ _ (.refl _) (.cons _ _ _ _ _ (.refl _) (.cons _ _ _ _ _ (.refl _) (.cons _ _ _ _ _ (.refl _) (.cons _ _ _ _ _ (.refl _) (.cons _ _ _ _ _ (.refl _) (.cons _ _ _ _ _ (.refl _) (.cons _ _ _ _ _ (.dead _) (.cons _ _ _ _ _ (.dead _) (.cons _ _ _ _ _ (.dead _) .nil)))))))))))))) (OLe.refl _)).trans (cmpS_ok rfl)) ⟨_, rfl, rfl⟩
          · rintro _ ⟨c170, rfl, rfl⟩
            refine W_sound tab_ok mixed 1 _ _ _ ?_
            simp only [go_sem, ne_eq, not_false_eq_true, Nat.reduceBEq, Nat.reduceAdd, Nat.reduceSub, Nat.reduceMul, Nat.reduceLT, Nat.reduceLeDiff, Int.reduceLE, Int.reduceLT, Int.reduceToNat, Int.cast_ofNat_Int, ↓reduceIte, h67, h70, h110, h112, h113, h117, h119, h120, h122, h123, g124, g125, g126]
            repeat with_reducible refine And.intro (by kernel_rfl) ?_
            have hh := grd_some h199; clear h199; obtain ⟨g171, h199⟩ := hh
            refine Wp_wkK (Wk_freeze 0 c170 (by rfl) (by decide) (by decide)) rfl ?_
            simp only [go_sem, ne_eq, not_false_eq_true, Nat.reduceBEq, Nat.reduceAdd, Nat.reduceSub, Nat.reduceMul, Nat.reduceLT, Nat.reduceLeDiff, Int.reduceLE, Int.reduceLT, Int.reduceToNat, Int.cast_ofNat_Int, ↓reduceIte, h67, h70, h110, h112, h113, h117, h119, h120, h122, h123, g124, g125, g126, g171]
            have hh := bnd'_some h199; clear h199; obtain ⟨p193, h194, h199⟩ := hh
            refine W_sound tab_ok mixed 3 _ _ _ ?_
            simp only [go_sem, ne_eq, not_false_eq_true, Nat.reduceBEq, Nat.reduceAdd, Nat.reduceSub, Nat.reduceMul, Nat.reduceLT, Nat.reduceLeDiff, Int.reduceLE, Int.reduceLT, Int.reduceToNat, Int.cast_ofNat_Int, ↓reduceIte, h67, h70, h110, h112, h113, h117, h119, h120, h122, h123, g124, g125, g126, g171]
            repeat with_reducible refine And.intro (by kernel_rfl) ?_
            refine Wp_callP (c79 N _ _ h194) (by kernel_rfl) rfl rfl rfl rfl (by decide) ?_
            have hh := getI_some h199; clear h199; obtain ⟨x196, h195, h199⟩ := hh
            refine W_sound tab_ok mixed 5 _ _ _ ?_
            simp only [go_sem, ne_eq, not_false_eq_true, Nat.reduceBEq, Nat.reduceAdd, Nat.reduceSub, Nat.reduceMul, Nat.reduceLT, Nat.reduceLeDiff, Int.reduceLE, Int.reduceLT, Int.reduceToNat, Int.cast_ofNat_Int, ↓reduceIte, h67, h70, h110, h112, h113, h117, h119, h120, h122, h123, g124, g125, g126, g171, h195]
            repeat with_reducible refine And.intro (by kernel_rfl) ?_
            obtain rfl := Option.some.inj h199
            exact finC [(4, .v (.lst false n68 c170)), (5, .v (.int .i64 x196)), (6, .v (.int .i64 0))] [(4, .v (.lst false n68 c170)), (5, .v (.int .i64 x196)), (6, .v (.int .i64 0))] (by simp [leE, lk_cons]) (.cons _ _ _ _ _ (.v _ _ (.refl _)) (.cons _ _ _ _ _ (.v _ _ (.refl _)) (.cons _ _ _ _ _ (.v _ _ (.refl _)) .nil))) (by rfl) (by simp [leE, lk_cons]) (by decide) (by decide) rfl (by simp only [go_sem, ne_eq, not_false_eq_true, Nat.reduceBEq, Nat.reduceAdd, Nat.reduceSub, Nat.reduceMul, Nat.reduceLT, Nat.reduceLeDiff, Int.reduceLE, Int.reduceLT, Int.reduceToNat, Int.cast_ofNat_Int, ↓reduceIte, resQ_tmp, resQ_cell, resQ_nil, retD_one, retD_two, retD_three, retD_none]; try simp [R.val, retD_one, retD_two, retD_three, retD_none])
    · refine W_sound tab_ok mixed 21 _ _ _ ?_
      simp only [go_sem, ne_eq, not_false_eq_true, Nat.reduceBEq, Nat.reduceAdd, Nat.reduceSub, Nat.reduceMul, Nat.reduceLT, Nat.reduceLeDiff, Int.reduceLE, Int.reduceLT, Int.reduceToNat, Int.cast_ofNat_Int, ↓reduceIte, h67, h70, h110, h112, h113, h117, h119]
      repeat with_reducible refine And.intro (by kernel_rfl) ?_
      obtain rfl := Option.some.inj h
      exact finC [(4, .v .nl), (5, .v (.int .i64 0)), (6, .v (.int .i64 1))] [(4, .v (.lst false 0 [])), (5, .v (.int .i64 0)), (6, .v (.int .i64 1))] (by simp [leE, lk_cons]) (.cons _ _ _ _ _ (.v _ _ (.nl false)) (.cons _ _ _ _ _ (.v _ _ (.refl _)) (.cons _ _ _ _ _ (.v _ _ (.refl _)) .nil))) (by rfl) (by simp [leE, lk_cons]) (by decide) (by decide) rfl (by simp only [go_sem, ne_eq, not_false_eq_true, Nat.reduceBEq, Nat.reduceAdd, Nat.reduceSub, Nat.reduceMul, Nat.reduceLT, Nat.reduceLeDiff, Int.reduceLE, Int.reduceLT, Int.reduceToNat, Int.cast_ofNat_Int, ↓reduceIte, resQ_tmp, resQ_cell, resQ_nil, retD_one, retD_two, retD_three, retD_none]; try simp [R.val, retD_one, retD_two, retD_three, retD_none])

def m80 (N : Nat) : Nat → Int → Int → Option (PV)
  | 0, _, _ => none
  | fu + 1, x219, x220 =>
    brn (x220 == 0) (
      some (.int .i64 x219)) (
      grd (x220 ≠ 0) <|
      bnd' ((m80 N fu) x220 (Int.tmod x219 x220)) fun p223 =>
      getI .i64 p223 fun x226 =>
      some (.int .i64 x226))
theorem c80 (N : Nat) : ∀ (fu : Nat) (x219 : Int) (x220 : Int) (r : PV)  (h : m80 N fu x219 x220 = some r), FnP Try.prog 80 [(.int .i64 x219), (.int .i64 x220)] r := by
  intro fu
  induction fu with
  | zero => intro x219 x220 r h; cases h
  | succ fu ih =>
    intro x219 x220 r h
    rw [m80] at h
    refine Fn_of (sz := 13) tab_ok [0, 1, 4, 6] [.tmp 4] Try.func80 rfl rfl rfl (by simp) ?_
    simp only [initSt, initEnv, List.map_cons, List.map_nil, List.getD_cons_zero, List.getD_cons_succ, List.getD_nil]
    have hh := brn_some h; clear h; rcases hh with ⟨h221, h⟩ | ⟨h221, h⟩
    · refine W_sound tab_ok mixed 17 _ _ _ ?_
      simp only [go_sem, ne_eq, not_false_eq_true, Nat.reduceBEq, Nat.reduceAdd, Nat.reduceSub, Nat.reduceMul, Nat.reduceLT, Nat.reduceLeDiff, Int.reduceLE, Int.reduceLT, Int.reduceToNat, Int.cast_ofNat_Int, ↓reduceIte, h221]
      repeat with_reducible refine And.intro (by kernel_rfl) ?_
      obtain rfl := Option.some.inj h
      exact finC [(4, .v (.int .i64 x219))] [(4, .v (.int .i64 x219))] (by simp [leE, lk_cons]) (.cons _ _ _ _ _ (.v _ _ (.refl _)) .nil) (by rfl) (by simp [leE, lk_cons]) (by decide) (by decide) rfl (by simp only [go_sem, ne_eq, not_false_eq_true, Nat.reduceBEq, Nat.reduceAdd, Nat.reduceSub, Nat.reduceMul, Nat.reduceLT, Nat.reduceLeDiff, Int.reduceLE, Int.reduceLT, Int.reduceToNat, Int.cast_ofNat_Int, ↓reduceIte, resQ_tmp, resQ_cell, resQ_nil, retD_one, retD_two, retD_three, retD_none]; try simp [R.val, retD_one, retD_two, retD_three, retD_none])
    · have hh := grd_some h; clear h; obtain ⟨g222, h⟩ := hh
      have hh := bnd'_some h; clear h; obtain ⟨p223, h224, h⟩ := hh
      refine W_sound tab_ok mixed 18 _ _ _ ?_
      simp only [go_sem, ne_eq, not_false_eq_true, Nat.reduceBEq, Nat.reduceAdd, Nat.reduceSub, Nat.reduceMul, Nat.reduceLT, Nat.reduceLeDiff, Int.reduceLE, Int.reduceLT, Int.reduceToNat, Int.cast_ofNat_Int, ↓reduceIte, h221, g222]
      repeat with_reducible refine And.intro (by kernel_rfl) ?_
      refine Wp_callP (ih _ _ _ h224) (by kernel_rfl) rfl rfl rfl rfl (by decide) ?_
      have hh := getI_some h; clear h; obtain ⟨x226, h225, h⟩ := hh
      refine W_sound tab_ok mixed 3 _ _ _ ?_
      simp only [go_sem, ne_eq, not_false_eq_true, Nat.reduceBEq, Nat.reduceAdd, Nat.reduceSub, Nat.reduceMul, Nat.reduceLT, Nat.reduceLeDiff, Int.reduceLE, Int.reduceLT, Int.reduceToNat, Int.cast_ofNat_Int, ↓reduceIte, h221, g222, h225]
      repeat with_reducible refine And.intro (by kernel_rfl) ?_
      obtain rfl := Option.some.inj h
      exact finC [(4, .v (.int .i64 x226))] [(4, .v (.int .i64 x226))] (by simp [leE, lk_cons]) (.cons _ _ _ _ _ (.v _ _ (.refl _)) .nil) (by rfl) (by simp [leE, lk_cons]) (by decide) (by decide) rfl (by simp only [go_sem, ne_eq, not_false_eq_true, Nat.reduceBEq, Nat.reduceAdd, Nat.reduceSub, Nat.reduceMul, Nat.reduceLT, Nat.reduceLeDiff, Int.reduceLE, Int.reduceLT, Int.reduceToNat, Int.cast_ofNat_Int, ↓reduceIte, resQ_tmp, resQ_cell, resQ_nil, retD_one, retD_two, retD_three, retD_none]; try simp [R.val, retD_one, retD_two, retD_three, retD_none])

def m58 (N : Nat) (x216 : Int) (x217 : Int) : Option (PV) :=
  brn (decide (x217 < 0)) (
    bnd' (m80 N N (maxI (IntKind.i64.wrap (0 - x216)) (IntKind.i64.wrap (0 - (IntKind.i64.wrap (0 - x216))))) (IntKind.i64.wrap (0 - x217))) fun p227 =>
    getI .i64 p227 fun x230 =>
    grd (x230 ≠ 0) <|
    some (.agg [(.int .i64 (IntKind.i64.wrap (Int.tdiv (IntKind.i64.wrap (0 - x216)) x230))), (.int .i64 (IntKind.i64.wrap (Int.tdiv (IntKind.i64.wrap (0 - x217)) x230)))])) (
    bnd' (m80 N N (maxI x216 (IntKind.i64.wrap (0 - x216))) x217) fun p232 =>
    getI .i64 p232 fun x235 =>
    grd (x235 ≠ 0) <|
    some (.agg [(.int .i64 (IntKind.i64.wrap (Int.tdiv x216 x235))), (.int .i64 (IntKind.i64.wrap (Int.tdiv x217 x235)))]))
theorem c58 (N : Nat) (x216 : Int) (x217 : Int) (r : PV)  (h : m58 N x216 x217 = some r) : FnP Try.prog 58 [(.int .i64 x216), (.int .i64 x217)] r := by
  unfold m58 at h
  refine Fn_of (sz := 25) tab_ok [0, 1, 4, 5, 7] [.cell 4 24] Try.func58 rfl rfl rfl (by simp) ?_
  simp only [initSt, initEnv, List.map_cons, List.map_nil, List.getD_cons_zero, List.getD_cons_succ, List.getD_nil]
  have hh := brn_some h; clear h; rcases hh with ⟨h218, h⟩ | ⟨h218, h⟩
  · have hh := bnd'_some h; clear h; obtain ⟨p227, h228, h⟩ := hh
    refine W_sound tab_ok mixed 26 _ _ _ ?_
    simp only [go_sem, ne_eq, not_false_eq_true, Nat.reduceBEq, Nat.reduceAdd, Nat.reduceSub, Nat.reduceMul, Nat.reduceLT, Nat.reduceLeDiff, Int.reduceLE, Int.reduceLT, Int.reduceToNat, Int.cast_ofNat_Int, ↓reduceIte, h218]
    repeat with_reducible refine And.intro (by kernel_rfl) ?_
    refine Wp_callP (c80 N N _ _ _ h228) (by kernel_rfl) rfl rfl rfl rfl (by decide) ?_
    have hh := getI_some h; clear h; obtain ⟨x230, h229, h⟩ := hh
    have hh := grd_some h; clear h; obtain ⟨g231, h⟩ := hh
    refine W_sound tab_ok mixed 14 _ _ _ ?_
    simp only [go_sem, ne_eq, not_false_eq_true, Nat.reduceBEq, Nat.reduceAdd, Nat.reduceSub, Nat.reduceMul, Nat.reduceLT, Nat.reduceLeDiff, Int.reduceLE, Int.reduceLT, Int.reduceToNat, Int.cast_ofNat_Int, ↓reduceIte, h218, h229, g231]
    repeat with_reducible refine And.intro (by kernel_rfl) ?_
    refine FinQ_wk (Wk_freeze 4 [(.int .i64 (IntKind.i64.wrap (Int.tdiv (IntKind.i64.wrap (0 - x216)) x230))), (.int .i64 (IntKind.i64.wrap (Int.tdiv (IntKind.i64.wrap (0 - x217)) x230)))] (by rfl) (by decide) (by decide)) ?_
    simp only [go_sem, ne_eq, not_false_eq_true, Nat.reduceBEq, Nat.reduceAdd, Nat.reduceSub, Nat.reduceMul, Nat.reduceLT, Nat.reduceLeDiff, Int.reduceLE, Int.reduceLT, Int.reduceToNat, Int.cast_ofNat_Int, ↓reduceIte, h218, h229, g231]
    obtain rfl := Option.some.inj h
    exact finC [(4, .v (.ipt [(.int .i64 (IntKind.i64.wrap (Int.tdiv (IntKind.i64.wrap (0 - x216)) x230))), (.int .i64 (IntKind.i64.wrap (Int.tdiv (IntKind.i64.wrap (0 - x217)) x230)))]))] [(4, .v (.ipt [(.int .i64 (IntKind.i64.wrap (Int.tdiv (IntKind.i64.wrap (0 - x216)) x230))), (.int .i64 (IntKind.i64.wrap (Int.tdiv (IntKind.i64.wrap (0 - x217)) x230)))]))] (by simp [leE, lk_cons]) (.cons _ _ _ _ _ (.v _ _ (.refl _)) .nil) (by rfl) (by simp [leE, lk_cons]) (by decide) (by decide) rfl (by simp only [go_sem, ne_eq, not_false_eq_true, Nat.reduceBEq, Nat.reduceAdd, Nat.reduceSub, Nat.reduceMul, Nat.reduceLT, Nat.reduceLeDiff, Int.reduceLE, Int.reduceLT, Int.reduceToNat, Int.cast_ofNat_Int, ↓reduceIte, resQ_tmp, resQ_cell, resQ_nil, retD_one, retD_two, retD_three, retD_none]; try simp [R.val, retD_one, retD_two, retD_three, retD_none])
  · have hh := bnd'_some h; clear h; obtain ⟨p232, h233, h⟩ := hh
    refine W_sound tab_ok mixed 19 _ _ _ ?_
    simp only [go_sem, ne_eq, not_false_eq_true, Nat.reduceBEq, Nat.reduceAdd, Nat.reduceSub, Nat.reduceMul, Nat.reduceLT, Nat.reduceLeDiff, Int.reduceLE, Int.reduceLT, Int.reduceToNat, Int.cast_ofNat_Int, ↓reduceIte, h218]
    repeat with_reducible refine And.intro (by kernel_rfl) ?_
    refine Wp_callP (c80 N N _ _ _ h233) (by kernel_rfl) rfl rfl rfl rfl (by decide) ?_
    have hh := getI_some h; clear h; obtain ⟨x235, h234, h⟩ := hh
    have hh := grd_some h; clear h; obtain ⟨g236, h⟩ := hh
    refine W_sound tab_ok mixed 14 _ _ _ ?_
    simp only [go_sem, ne_eq, not_false_eq_true, Nat.reduceBEq, Nat.reduceAdd, Nat.reduceSub, Nat.reduceMul, Nat.reduceLT, Nat.reduceLeDiff, Int.reduceLE, Int.reduceLT, Int.reduceToNat, Int.cast_ofNat_Int, ↓reduceIte, h218, h234, g236]
    repeat with_reducible refine And.intro (by kernel_rfl) ?_
    refine FinQ_wk (Wk_freeze 4 [(.int .i64 (IntKind.i64.wrap (Int.tdiv x216 x235))), (.int .i64 (IntKind.i64.wrap (Int.tdiv x217 x235)))] (by rfl) (by decide) (by decide)) ?_
    simp only [go_sem, ne_eq, not_false_eq_true, Nat.reduceBEq, Nat.reduceAdd, Nat.reduceSub, Nat.reduceMul, Nat.reduceLT, Nat.reduceLeDiff, Int.reduceLE, Int.reduceLT, Int.reduceToNat, Int.cast_ofNat_Int, ↓reduceIte, h218, h234, g236]
    obtain rfl := Option.some.inj h
    exact finC [(4, .v (.ipt [(.int .i64 (IntKind.i64.wrap (Int.tdiv x216 x235))), (.int .i64 (IntKind.i64.wrap (Int.tdiv x217 x235)))]))] [(4, .v (.ipt [(.int .i64 (IntKind.i64.wrap (Int.tdiv x216 x235))), (.int .i64 (IntKind.i64.wrap (Int.tdiv x217 x235)))]))] (by simp [leE, lk_cons]) (.cons _ _ _ _ _ (.v _ _ (.refl _)) .nil) (by rfl) (by simp [leE, lk_cons]) (by decide) (by decide) rfl (by simp only [go_sem, ne_eq, not_false_eq_true, Nat.reduceBEq, Nat.reduceAdd, Nat.reduceSub, Nat.reduceMul, Nat.reduceLT, Nat.reduceLeDiff, Int.reduceLE, Int.reduceLT, Int.reduceToNat, Int.cast_ofNat_Int, ↓reduceIte, resQ_tmp, resQ_cell, resQ_nil, retD_one, retD_two, retD_three, retD_none]; try simp [R.val, retD_one, retD_two, retD_three, retD_none])

def m17 (N : Nat) (p57 : PV) (p58 : PV) : Option (PV) :=
  getL p57 fun n60 c61 =>
  getA2 p58 fun p63 p64 =>
  bnd' (m57 N (.lst false n60 c61) (.agg [p63, p64])) fun p200 =>
  getT3 p200 fun p203 p204 p205 =>
  getL p203 fun n207 c208 =>
  getI .i64 p204 fun x210 =>
  getI .i64 p205 fun x212 =>
  brn (x212 != 0) (
    some (.tup [(.agg [(.int .i64 0), (.int .i64 0)]), (.int .i64 x212)])) (
    getI .i64 p64 fun x215 =>
    bnd' (m58 N x210 x215) fun p237 =>
    getA2 p237 fun p240 p241 =>
    some (.tup [(.agg [p240, p241]), (.int .i64 0)]))
theorem c17 (N : Nat) (p57 : PV) (p58 : PV) (r : PV)  (h : m17 N p57 p58 = some r) : FnP Try.prog 17 [p57, p58] r := by
  unfold m17 at h
  refine Fn_of (sz := 24) tab_ok [0, 1, 3, 4, 5, 7, 8, 17] [.cell 4 24, .tmp 5] Try.func17 rfl rfl rfl (by simp) ?_
  simp only [initSt, initEnv, List.map_cons, List.map_nil, List.getD_cons_zero, List.getD_cons_succ, List.getD_nil]
  have hh := getL_some h; clear h; obtain ⟨n60, c61, h59, h⟩ := hh
  have hh := getA2_some h; clear h; obtain ⟨p63, p64, h62, h⟩ := hh
  have hh := bnd'_some h; clear h; obtain ⟨p200, h201, h⟩ := hh
  refine W_sound tab_ok mixed 10 _ _ _ ?_
  simp only [go_sem, ne_eq, not_false_eq_true, Nat.reduceBEq, Nat.reduceAdd, Nat.reduceSub, Nat.reduceMul, Nat.reduceLT, Nat.reduceLeDiff, Int.reduceLE, Int.reduceLT, Int.reduceToNat, Int.cast_ofNat_Int, ↓reduceIte, h59, h62]
  repeat with_reducible refine And.intro (by kernel_rfl) ?_
  refine Wp_callP (c57 N _ _ _ h201) (by kernel_rfl) rfl rfl rfl rfl (by decide) ?_
  have hh := getT3_some h; clear h; obtain ⟨p203, p204, p205, h202, h⟩ := hh
  have hh := getL_some h; clear h; obtain ⟨n207, c208, h206, h⟩ := hh
  have hh := getI_some h; clear h; obtain ⟨x210, h209, h⟩ := hh
  have hh := getI_some h; clear h; obtain ⟨x212, h211, h⟩ := hh
  have hh := brn_some h; clear h; rcases hh with ⟨h213, h⟩ | ⟨h213, h⟩
  · refine W_sound tab_ok mixed 23 _ _ _ ?_
    simp only [go_sem, ne_eq, not_false_eq_true, Nat.reduceBEq, Nat.reduceAdd, Nat.reduceSub, Nat.reduceMul, Nat.reduceLT, Nat.reduceLeDiff, Int.reduceLE, Int.reduceLT, Int.reduceToNat, Int.cast_ofNat_Int, ↓reduceIte, h59, h62, h202, h206, h209, h211, h213]
    repeat with_reducible refine And.intro (by kernel_rfl) ?_
    refine FinQ_wk (Wk_freeze 4 [(.int .i64 0), (.int .i64 0)] (by rfl) (by decide) (by decide)) ?_
    simp only [go_sem, ne_eq, not_false_eq_true, Nat.reduceBEq, Nat.reduceAdd, Nat.reduceSub, Nat.reduceMul, Nat.reduceLT, Nat.reduceLeDiff, Int.reduceLE, Int.reduceLT, Int.reduceToNat, Int.cast_ofNat_Int, ↓reduceIte, h59, h62, h202, h206, h209, h211, h213]
    obtain rfl := Option.some.inj h
    exact finC [(4, .v (.ipt [(.int .i64 0), (.int .i64 0)])), (5, .v (.int .i64 x212))] [(4, .v (.ipt [(.int .i64 0), (.int .i64 0)])), (5, .v (.int .i64 x212))] (by simp [leE, lk_cons]) (.cons _ _ _ _ _ (.v _ _ (.refl _)) (.cons _ _ _ _ _ (.v _ _ (.refl _)) .nil)) (by rfl) (by simp [leE, lk_cons]) (by decide) (by decide) rfl (by simp only [go_sem, ne_eq, not_false_eq_true, Nat.reduceBEq, Nat.reduceAdd, Nat.reduceSub, Nat.reduceMul, Nat.reduceLT, Nat.reduceLeDiff, Int.reduceLE, Int.reduceLT, Int.reduceToNat, Int.cast_ofNat_Int, ↓reduceIte, resQ_tmp, resQ_cell, resQ_nil, retD_one, retD_two, retD_three, retD_none]; try simp [R.val, retD_one, retD_two, retD_three, retD_none])
  · have hh := getI_some h; clear h; obtain ⟨x215, h214, h⟩ := hh
    have hh := bnd'_some h; clear h; obtain ⟨p237, h238, h⟩ := hh
    refine W_sound tab_ok mixed 21 _ _ _ ?_
    simp only [go_sem, ne_eq, not_false_eq_true, Nat.reduceBEq, Nat.reduceAdd, Nat.reduceSub, Nat.reduceMul, Nat.reduceLT, Nat.reduceLeDiff, Int.reduceLE, Int.reduceLT, Int.reduceToNat, Int.cast_ofNat_Int, ↓reduceIte, h59, h62, h202, h206, h209, h211, h213, h214]
    repeat with_reducible refine And.intro (by kernel_rfl) ?_
    refine Wp_callP (c58 N _ _ _ h238) (by kernel_rfl) rfl rfl rfl rfl (by decide) ?_
    have hh := getA2_some h; clear h; obtain ⟨p240, p241, h239, h⟩ := hh
    refine W_sound tab_ok mixed 4 _ _ _ ?_
    simp only [go_sem, ne_eq, not_false_eq_true, Nat.reduceBEq, Nat.reduceAdd, Nat.reduceSub, Nat.reduceMul, Nat.reduceLT, Nat.reduceLeDiff, Int.reduceLE, Int.reduceLT, Int.reduceToNat, Int.cast_ofNat_Int, ↓reduceIte, h59, h62, h202, h206, h209, h211, h213, h214, h239]
    repeat with_reducible refine And.intro (by kernel_rfl) ?_
    refine FinQ_wk (Wk_freeze 4 [p240, p241] (by rfl) (by decide) (by decide)) ?_
    simp only [go_sem, ne_eq, not_false_eq_true, Nat.reduceBEq, Nat.reduceAdd, Nat.reduceSub, Nat.reduceMul, Nat.reduceLT, Nat.reduceLeDiff, Int.reduceLE, Int.reduceLT, Int.reduceToNat, Int.cast_ofNat_Int, ↓reduceIte, h59, h62, h202, h206, h209, h211, h213, h214, h239]
    obtain rfl := Option.some.inj h
    exact finC [(4, .v (.ipt [p240, p241])), (5, .v (.int .i64 0))] [(4, .v (.ipt [p240, p241])), (5, .v (.int .i64 0))] (by simp [leE, lk_cons]) (.cons _ _ _ _ _ (.v _ _ (.refl _)) (.cons _ _ _ _ _ (.v _ _ (.refl _)) .nil)) (by rfl) (by simp [leE, lk_cons]) (by decide) (by decide) rfl (by simp only [go_sem, ne_eq, not_false_eq_true, Nat.reduceBEq, Nat.reduceAdd, Nat.reduceSub, Nat.reduceMul, Nat.reduceLT, Nat.reduceLeDiff, Int.reduceLE, Int.reduceLT, Int.reduceToNat, Int.cast_ofNat_Int, ↓reduceIte, resQ_tmp, resQ_cell, resQ_nil, retD_one, retD_two, retD_three, retD_none]; try simp [R.val, retD_one, retD_two, retD_three, retD_none])

def m60_L0 (N : Nat) (x382 : Int) (x383 : Int) : Nat → Int → Int → Option (Int)
  | 0, _, _ => none
  | n + 1, x385, x386 =>
    brn (decide (x386 > 0)) (
      grd (x386 ≠ 0) <|
      m60_L0 N x382 x383 n x386 (Int.tmod x385 x386)) (
      some x385)
def m60_L1 (N : Nat) (x382 : Int) (x383 : Int) : Nat → Int → Int → Option (Int)
  | 0, _, _ => none
  | n + 1, x391, x392 =>
    brn (decide (x392 > 0)) (
      grd (x392 ≠ 0) <|
      m60_L1 N x382 x383 n x392 (Int.tmod x391 x392)) (
      some x391)
def m60 (N : Nat) (x382 : Int) (x383 : Int) : Option (PV) :=
  brn (decide (x383 < 0)) (
    bnd' (m60_L0 N x382 x383 N (maxI (IntKind.i64.wrap (0 - x382)) (IntKind.i64.wrap (0 - (IntKind.i64.wrap (0 - x382))))) (IntKind.i64.wrap (0 - x383))) fun x389 =>
    grd (x389 ≠ 0) <|
    some (.agg [(.int .i64 (IntKind.i64.wrap (Int.tdiv (IntKind.i64.wrap (0 - x382)) x389))), (.int .i64 (IntKind.i64.wrap (Int.tdiv (IntKind.i64.wrap (0 - x383)) x389)))])) (
    bnd' (m60_L1 N x382 x383 N (maxI x382 (IntKind.i64.wrap (0 - x382))) x383) fun x395 =>
    grd (x395 ≠ 0) <|
    some (.agg [(.int .i64 (IntKind.i64.wrap (Int.tdiv x382 x395))), (.int .i64 (IntKind.i64.wrap (Int.tdiv x383 x395)))]))
def m21_L0 (N : Nat) (n580 : Nat) (c581 : List PV) (n583 : Nat) (c584 : List PV) : Nat → Int → Option ((PV ⊕ Unit))
  | 0, _ => none
  | n + 1, x586 =>
    brn (decide (x586 < ((n580 : Nat) : Int))) (
      grd (0 ≤ x586 ∧ x586 < ((n580 : Nat) : Int)) <|
      grd (0 < List.length (List.drop (Int.toNat x586) c581)) <|
      getI .i64 (gp c581 (Int.toNat x586)) fun x592 =>
      grd (x586 < ((n583 : Nat) : Int)) <|
      grd (0 < List.length (List.drop (Int.toNat x586) c584)) <|
      getI .i64 (gp c584 (Int.toNat x586)) fun x596 =>
      brn (x592 != x596) (
        some (.inl (.bool false))) (
        m21_L0 N n580 c581 n583 c584 n (IntKind.i64.wrap (x586 + 1)))) (
      some (.inr ()))
def m21 (N : Nat) (p577 : PV) (p578 : PV) : Option (PV) :=
  getL p577 fun n580 c581 =>
  getL p578 fun n583 c584 =>
  brn (((n580 : Nat) : Int) != ((n583 : Nat) : Int)) (
    some (.bool false)) (
    bnd' (m21_L0 N n580 c581 n583 c584 N 0) fun o =>
    match o with
    | .inl p598 =>
      some p598
    | .inr () =>
      some (.bool true))
theorem c21 (N : Nat) (p577 : PV) (p578 : PV) (r : PV)  (h : m21 N p577 p578 = some r) : FnP Try.prog 21 [p577, p578] r := by
  unfold m21 at h
  refine Fn_of (sz := 26) tab_ok [0, 1, 4, 5, 10, 14, 25] [.tmp 4] Try.func21 rfl rfl rfl (by simp) ?_
  simp only [initSt, initEnv, List.map_cons, List.map_nil, List.getD_cons_zero, List.getD_cons_succ, List.getD_nil]
  have hh := getL_some h; clear h; obtain ⟨n580, c581, h579, h⟩ := hh
  have hh := getL_some h; clear h; obtain ⟨n583, c584, h582, h⟩ := hh
  have hh := brn_some h; clear h; rcases hh with ⟨h585, h⟩ | ⟨h585, h⟩
  · refine W_sound tab_ok mixed 19 _ _ _ ?_
    simp only [go_sem, ne_eq, not_false_eq_true, Nat.reduceBEq, Nat.reduceAdd, Nat.reduceSub, Nat.reduceMul, Nat.reduceLT, Nat.reduceLeDiff, Int.reduceLE, Int.reduceLT, Int.reduceToNat, Int.cast_ofNat_Int, ↓reduceIte, h579, h582, h585]
    repeat with_reducible refine And.intro (by kernel_rfl) ?_
    obtain rfl := Option.some.inj h
    exact finC [(4, .v (.bool false))] [(4, .v (.bool false))] (by simp [leE, lk_cons]) (.cons _ _ _ _ _ (.v _ _ (.refl _)) .nil) (by rfl) (by simp [leE, lk_cons]) (by decide) (by decide) rfl (by simp only [go_sem, ne_eq, not_false_eq_true, Nat.reduceBEq, Nat.reduceAdd, Nat.reduceSub, Nat.reduceMul, Nat.reduceLT, Nat.reduceLeDiff, Int.reduceLE, Int.reduceLT, Int.reduceToNat, Int.cast_ofNat_Int, ↓reduceIte, resQ_tmp, resQ_cell, resQ_nil, retD_one, retD_two, retD_three, retD_none]; try simp [R.val, retD_one, retD_two, retD_three, retD_none])
  · refine W_sound tab_ok mixed 20 _ _ _ ?_
    simp only [go_sem, ne_eq, not_false_eq_true, Nat.reduceBEq, Nat.reduceAdd, Nat.reduceSub, Nat.reduceMul, Nat.reduceLT, Nat.reduceLeDiff, Int.reduceLE, Int.reduceLT, Int.reduceToNat, Int.cast_ofNat_Int, ↓reduceIte, h579, h582, h585]
    repeat with_reducible refine And.intro (by kernel_rfl) ?_
    have hh := bnd'_some h; clear h; obtain ⟨o599, h600, h601⟩ := hh
    refine Wp_cut (fun s => (.inr ()) = o599 ∧ s = ⟨[], [(0, .dead), (1, .dead), (4, .dead), (5, .dead), (10, .dead), (14, .dead), (25, .dead)], [], 0, []⟩) ?_ ?_
    · refine Wp_block ?_
      refine Wp_loopG (fun n s => ∃ x586, m21_L0 N n580 c581 n583 c584 n x586 = some o599 ∧ s = ⟨[], [(0, .v (.lst false n580 c581)), (1, .v (.lst false n583 c584)), (4, .dead), (5, .v (.int .i64 x586)), (10, .dead), (14, .dead), (25, .dead)], [], 0, []⟩) N _ ((Wk_le (.cons _ _ _ _ _ (.refl _) (.cons _ _ _ _ _ (.refl _) (.cons _ _ _ _ _ (.dead _) (.cons _ _ _ _ _ (.refl _) (.cons _ _ _ _ _ (.dead _) (.cons _ _ _ _ _ (.refl _) (.cons _ _ _ _ _ (.refl _) .nil))))))) (OLe.refl _)).trans (cmpS_ok rfl)) ⟨_, h600, rfl⟩ ?_
      clear h600
      rintro n _ ⟨x586, h600, rfl⟩
      cases n with
      | zero => cases h600
      | succ n =>
        rw [m21_L0] at h600
        have hh := brn_some h600; clear h600; rcases hh with ⟨h587, h600⟩ | ⟨h587, h600⟩
        · have hh := grd_some h600; clear h600; obtain ⟨⟨g588, g589⟩, h600⟩ := hh
          have hh := grd_some h600; clear h600; obtain ⟨g590, h600⟩ := hh
          have hh := getI_some h600; clear h600; obtain ⟨x592, h591, h600⟩ := hh
          have hh := grd_some h600; clear h600; obtain ⟨g593, h600⟩ := hh
          have hh := grd_some h600; clear h600; obtain ⟨g594, h600⟩ := hh
          have hh := getI_some h600; clear h600; obtain ⟨x596, h595, h600⟩ := hh
          have hh := brn_some h600; clear h600; rcases hh with ⟨h597, h600⟩ | ⟨h597, h600⟩
          · refine W_sound tab_ok mixed 30 _ _ _ ?_
            simp only [go_sem, ne_eq, not_false_eq_true, Nat.reduceBEq, Nat.reduceAdd, Nat.reduceSub, Nat.reduceMul, Nat.reduceLT, Nat.reduceLeDiff, Int.reduceLE, Int.reduceLT, Int.reduceToNat, Int.cast_ofNat_Int, ↓reduceIte, h579, h582, h585, h587, g588, g589, g590, h591, g593, g594, h595, h597]
            repeat with_reducible refine And.intro (by kernel_rfl) ?_
            obtain rfl := Option.some.inj h600
            (try dsimp only at h601)
            obtain rfl := Option.some.inj h601
            exact finC [(4, .v (.bool false))] [(4, .v (.bool false))] (by simp [leE, lk_cons]) (.cons _ _ _ _ _ (.v _ _ (.refl _)) .nil) (by rfl) (by simp [leE, lk_cons]) (by decide) (by decide) rfl (by simp only [go_sem, ne_eq, not_false_eq_true, Nat.reduceBEq, Nat.reduceAdd, Nat.reduceSub, Nat.reduceMul, Nat.reduceLT, Nat.reduceLeDiff, Int.reduceLE, Int.reduceLT, Int.reduceToNat, Int.cast_ofNat_Int, ↓reduceIte, resQ_tmp, resQ_cell, resQ_nil, retD_one, retD_two, retD_three, retD_none]; try simp [R.val, retD_one, retD_two, retD_three, retD_none])
          · refine W_sound tab_ok mixed 32 _ _ _ ?_
            simp only [go_sem, ne_eq, not_false_eq_true, Nat.reduceBEq, Nat.reduceAdd, Nat.reduceSub, Nat.reduceMul, Nat.reduceLT, Nat.reduceLeDiff, Int.reduceLE, Int.reduceLT, Int.reduceToNat, Int.cast_ofNat_Int, ↓reduceIte, h579, h582, h585, h587, g588, g589, g590, h591, g593, g594, h595, h597]
            repeat with_reducible refine And.intro (by kernel_rfl) ?_
            exact cutQ _ ((Wk_le (.cons _ _ _ _ _ (.refl _) (.cons _ _ _ _ _ (.refl _) (.cons _ _ _ _ _ (.refl _) (.cons _ _ _ _ _ (.refl _) (.cons _ _ _ _ _ (.refl _) (.cons _ _ _ _ _ (.dead _) (.cons _ _ _ _ _ (.dead _) .nil))))))) (OLe.refl _)).trans (cmpS_ok rfl)) ⟨n, Nat.lt_succ_self n, _, h600, rfl⟩
        · refine W_sound tab_ok mixed 10 _ _ _ ?_
          simp only [go_sem, ne_eq, not_false_eq_true, Nat.reduceBEq, Nat.reduceAdd, Nat.reduceSub, Nat.reduceMul, Nat.reduceLT, Nat.reduceLeDiff, Int.reduceLE, Int.reduceLT, Int.reduceToNat, Int.cast_ofNat_Int, ↓reduceIte, h579, h582, h585, h587]
          repeat with_reducible refine And.intro (by kernel_rfl) ?_
          obtain rfl := Option.some.inj h600
          exact cutQ _ ((Wk_le (.cons _ _ _ _ _ (.dead _) (.cons _ _ _ _ _ (.dead _) (.cons _ _ _ _ _ (.refl _) (.cons _ _ _ _ _ (.dead _) (.cons _ _ _ _ _ (.refl _) (.cons _ _ _ _ _ (.dead _) (.cons _ _ _ _ _ (.refl _) .nil))))))) (OLe.refl _)).trans (cmpS_ok rfl)) ⟨rfl, rfl⟩
    · rintro _ ⟨rfl, rfl⟩
      (try dsimp only at h601)
      refine W_sound tab_ok mixed 5 _ _ _ ?_
      simp only [go_sem, ne_eq, not_false_eq_true, Nat.reduceBEq, Nat.reduceAdd, Nat.reduceSub, Nat.reduceMul, Nat.reduceLT, Nat.reduceLeDiff, Int.reduceLE, Int.reduceLT, Int.reduceToNat, Int.cast_ofNat_Int, ↓reduceIte, h579, h582, h585]
      repeat with_reducible refine And.intro (by kernel_rfl) ?_
      obtain rfl := Option.some.inj h601
      exact finC [(4, .v (.bool true))] [(4, .v (.bool true))] (by simp [leE, lk_cons]) (.cons _ _ _ _ _ (.v _ _ (.refl _)) .nil) (by rfl) (by simp [leE, lk_cons]) (by decide) (by decide) rfl (by simp only [go_sem, ne_eq, not_false_eq_true, Nat.reduceBEq, Nat.reduceAdd, Nat.reduceSub, Nat.reduceMul, Nat.reduceLT, Nat.reduceLeDiff, Int.reduceLE, Int.reduceLT, Int.reduceToNat, Int.cast_ofNat_Int, ↓reduceIte, resQ_tmp, resQ_cell, resQ_nil, retD_one, retD_two, retD_three, retD_none]; try simp [R.val, retD_one, retD_two, retD_three, retD_none])

end Go.Proofs.Ytgnphlpoofaojaa
