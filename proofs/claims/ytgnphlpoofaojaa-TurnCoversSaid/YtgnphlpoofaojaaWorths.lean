import Derived.Test.YtgnphlpoofaojaaB
import Derived.Test.YtgnphlpoofaojaaV30
import Derived.Test.YtgnphlpoofaojaaK
namespace Go.Proofs.Ytgnphlpoofaojaa
open Go.V
set_option maxRecDepth 100000
set_option linter.unusedSimpArgs false
set_option linter.unusedVariables false
attribute [local go_sem] tl1 tl2 tl3 tl4 tl5 tl9 tl17 tl21 tl22 tl23 tl24 tl25 tl26 tl27 tl28 tl29 tl31 tl33 tl34 tl36 tl37 tl38 tl39 tl40 tl41 tl42 tl43 tl44 tl46 tl47 tl49 tl50 tl52 tl53 tl54 tl55 tl56 tl57 tl58 tl60 tl62 tl63 tl64 tl65 tl66 tl67 tl68 tl69 tl70 tl71 tl72 tl74 tl75 tl76 tl77 tl78 tl79 tl80 tl81 tl82 tl83 tl84 tl85 tl86 tl87 tl88 tl89 tl90 tl91 tl92 tl93 tl94 tl95 tl96 tl97 tl98 tl99 tl100 tl102 tl103 tl104 tl105 tl106 tl107 tl108 tl109 tl110 tl111 tl112 tl113 tl114 tl115 tl116 tl117 tl118 tl119 tl120 tl121 tl122 tl123 tl124 tl125 tl126 tl127 tl128 tl129 tl130 tl131 tl132 tl133 tl134 tl140 tl141 tl145

/-! breeze/breezelaw12.works -/
def m15 (N : Nat) : Option PV := some (.bool true)
theorem c15 (N : Nat) (r : PV) (h : m15 N = some r) : FnP Try.prog 15 [] r := by
  obtain rfl := Option.some.inj h
  exact k31

/-! breeze/breezelaw12.inner -/
def m16_L0 (N : Nat) (n16 : Nat) (c17 : List PV) : Nat → Nat → Int → List PV → Option ((Nat × List PV))
  | 0, _, _, _ => none
  | n + 1, n34, x35, c36 =>
    brn (decide (x35 < ((n16 : Nat) : Int))) (
      grd (0 ≤ x35 ∧ x35 < ((n16 : Nat) : Int)) <|
      grd (2 ≤ List.length (List.drop ((Int.toNat x35) * 2) c17)) <|
      getA2 (.agg (List.take 2 (List.drop ((Int.toNat x35) * 2) c17))) fun p42 p43 =>
      grd ((n34 + 1) ≤ 1099511627776) <|
      grd (List.length c36 = (n34 * 2)) <|
      m16_L0 N n16 c17 n (n34 + 1) (IntKind.i64.wrap (x35 + 1)) (c36 ++ [p42, p43])) (
      some (n34, c36))
def m16 (N : Nat) (p14 : PV) : Option (PV) :=
  getL p14 fun n16 c17 =>
  bnd' (m16_L0 N n16 c17 N 0 0 []) fun o =>
  match o with
  | (n46, c47) =>
    grd (List.length c47 = (n46 * 2)) <|
    some (.lst false n46 c47)
theorem c16 (N : Nat) (p14 : PV) (r : PV)  (h : m16 N p14 = some r) : FnP Try.prog 16 [p14] r := by
  unfold m16 at h
  refine Fn_of (sz := 19) tab_ok [0, 2, 3, 4, 8] [.tmp 2] Try.func16 rfl rfl rfl (by simp) ?_
  simp only [initSt, initEnv, List.map_cons, List.map_nil, List.getD_cons_zero, List.getD_cons_succ, List.getD_nil]
  have hh := getL_some h; clear h; obtain ⟨n16, c17, h15, h⟩ := hh
  refine W_sound tab_ok mixed 13 _ _ _ ?_
  simp only [go_sem, ne_eq, not_false_eq_true, Nat.reduceBEq, Nat.reduceAdd, Nat.reduceSub, Nat.reduceMul, Nat.reduceLT, Nat.reduceLeDiff, Int.reduceLE, Int.reduceLT, Int.reduceToNat, Int.cast_ofNat_Int, ↓reduceIte, h15]
  repeat with_reducible refine And.intro (by kernel_rfl) ?_
  refine Wp_weaken (Wk_ownS 3 2 rfl (by decide) (by decide)) ?_
  simp only [go_sem, ne_eq, not_false_eq_true, Nat.reduceBEq, Nat.reduceAdd, Nat.reduceSub, Nat.reduceMul, Nat.reduceLT, Nat.reduceLeDiff, Int.reduceLE, Int.reduceLT, Int.reduceToNat, Int.cast_ofNat_Int, ↓reduceIte, h15]
  have hh := bnd'_some h; clear h; obtain ⟨o49, h50, h51⟩ := hh
  refine Wp_cut (fun s => ∃ n46, ∃ c47, (n46, c47) = o49 ∧ s = ⟨[], [(0, .dead), (2, .dead), (3, .sl false 0 0 n46 2), (4, .dead), (8, .dead)], [(0, .p c47)], 1, []⟩) ?_ ?_
  · refine Wp_block ?_
    refine Wp_loopG (fun n s => ∃ n34, ∃ x35, ∃ c36, m16_L0 N n16 c17 n n34 x35 c36 = some o49 ∧ s = ⟨[], [(0, .v (.lst false n16 c17)), (2, .dead), (3, .sl false 0 0 n34 2), (4, .v (.int .i64 x35)), (8, .dead)], [(0, .p c36)], 1, []⟩) N _ ((Wk_le (.cons _ _ _ _ _ (.refl _) (.cons _ _ _ _ _ (.dead _) (.cons _ _ _ _ _ (.refl _) (.cons _ _ _ _ _ (.refl _) (.cons _ _ _ _ _ (.refl _) .nil))))) (OLe.refl _)).trans (cmpS_ok rfl)) ⟨_, _, _, h50, rfl⟩ ?_
    clear h50
    rintro n _ ⟨n34, x35, c36, h50, rfl⟩
    cases n with
    | zero => cases h50
    | succ n =>
      rw [m16_L0] at h50
      have hh := brn_some h50; clear h50; rcases hh with ⟨h37, h50⟩ | ⟨h37, h50⟩
      · have hh := grd_some h50; clear h50; obtain ⟨⟨g38, g39⟩, h50⟩ := hh
        have hh := grd_some h50; clear h50; obtain ⟨g40, h50⟩ := hh
        have hh := getA2_some h50; clear h50; obtain ⟨p42, p43, h41, h50⟩ := hh
        injection h41 with h41
        have hh := grd_some h50; clear h50; obtain ⟨g44, h50⟩ := hh
        have hh := grd_some h50; clear h50; obtain ⟨g45, h50⟩ := hh
        refine W_sound tab_ok mixed 28 _ _ _ ?_
        simp only [go_sem, ne_eq, not_false_eq_true, Nat.reduceBEq, Nat.reduceAdd, Nat.reduceSub, Nat.reduceMul, Nat.reduceLT, Nat.reduceLeDiff, Int.reduceLE, Int.reduceLT, Int.reduceToNat, Int.cast_ofNat_Int, ↓reduceIte, h15, h37, g38, g39, g40, h41, g44, g45]
        repeat with_reducible refine And.intro (by kernel_rfl) ?_
        exact cutQ _ ((Wk_le (.cons _ _ _ _ _ (.refl _) (.cons _ _ _ _ _ (.refl _) (.cons _ _ _ _ _ (.refl _) (.cons _ _ _ _ _ (.refl _) (.cons _ _ _ _ _ (.dead _) .nil))))) (OLe.refl _)).trans (cmpS_ok rfl)) ⟨n, Nat.lt_succ_self n, _, _, _, h50, rfl⟩
      · refine W_sound tab_ok mixed 10 _ _ _ ?_
        simp only [go_sem, ne_eq, not_false_eq_true, Nat.reduceBEq, Nat.reduceAdd, Nat.reduceSub, Nat.reduceMul, Nat.reduceLT, Nat.reduceLeDiff, Int.reduceLE, Int.reduceLT, Int.reduceToNat, Int.cast_ofNat_Int, ↓reduceIte, h15, h37]
        repeat with_reducible refine And.intro (by kernel_rfl) ?_
        obtain rfl := Option.some.inj h50
        exact cutQ _ ((Wk_le (.cons _ _ _ _ _ (.dead _) (.cons _ _ _ _ _ (.refl _) (.cons _ _ _ _ _ (.refl _) (.cons _ _ _ _ _ (.dead _) (.cons _ _ _ _ _ (.dead _) .nil))))) (OLe.refl _)).trans (cmpS_ok rfl)) ⟨_, _, rfl, rfl⟩
  · rintro _ ⟨n46, c47, rfl, rfl⟩
    (try dsimp only at h51)
    refine W_sound tab_ok mixed 6 _ _ _ ?_
    simp only [go_sem, ne_eq, not_false_eq_true, Nat.reduceBEq, Nat.reduceAdd, Nat.reduceSub, Nat.reduceMul, Nat.reduceLT, Nat.reduceLeDiff, Int.reduceLE, Int.reduceLT, Int.reduceToNat, Int.cast_ofNat_Int, ↓reduceIte, h15]
    repeat with_reducible refine And.intro (by kernel_rfl) ?_
    have hh := grd_some h51; clear h51; obtain ⟨g48, h51⟩ := hh
    refine FinQ_wk (Wk_freeze 0 c47 (by rfl) (by decide) (by decide)) ?_
    simp only [go_sem, ne_eq, not_false_eq_true, Nat.reduceBEq, Nat.reduceAdd, Nat.reduceSub, Nat.reduceMul, Nat.reduceLT, Nat.reduceLeDiff, Int.reduceLE, Int.reduceLT, Int.reduceToNat, Int.cast_ofNat_Int, ↓reduceIte, h15, g48]
    obtain rfl := Option.some.inj h51
    exact finC [(2, .v (.lst false n46 c47))] [(2, .v (.lst false n46 c47))] (by simp [leE, lk_cons]) (.cons _ _ _ _ _ (.v _ _ (.refl _)) .nil) (by rfl) (by simp [leE, lk_cons]) (by decide) (by decide) rfl (by simp only [go_sem, ne_eq, not_false_eq_true, Nat.reduceBEq, Nat.reduceAdd, Nat.reduceSub, Nat.reduceMul, Nat.reduceLT, Nat.reduceLeDiff, Int.reduceLE, Int.reduceLT, Int.reduceToNat, Int.cast_ofNat_Int, ↓reduceIte, resQ_tmp, resQ_cell, resQ_nil, retD_one, retD_two, retD_three, retD_none]; try simp [R.val, retD_one, retD_two, retD_three, retD_none])

/-! breeze/turn.within -/
def m63 (N : Nat) (x89 : Int) (x90 : Int) : Option (PV) :=
  brn (decide ((IntKind.i64.wrap (0 - x90)) ≤ x89)) (
    some (.bool (decide (x89 ≤ x90)))) (
    some (.bool false))
theorem c63 (N : Nat) (x89 : Int) (x90 : Int) (r : PV)  (h : m63 N x89 x90 = some r) : FnP Try.prog 63 [(.int .i64 x89), (.int .i64 x90)] r := by
  unfold m63 at h
  refine Fn_of (sz := 14) tab_ok [0, 1, 4] [.tmp 4] Try.func63 rfl rfl rfl (by simp) ?_
  simp only [initSt, initEnv, List.map_cons, List.map_nil, List.getD_cons_zero, List.getD_cons_succ, List.getD_nil]
  have hh := brn_some h; clear h; rcases hh with ⟨h91, h⟩ | ⟨h91, h⟩
  · refine W_sound tab_ok mixed 18 _ _ _ ?_
    simp only [go_sem, ne_eq, not_false_eq_true, Nat.reduceBEq, Nat.reduceAdd, Nat.reduceSub, Nat.reduceMul, Nat.reduceLT, Nat.reduceLeDiff, Int.reduceLE, Int.reduceLT, Int.reduceToNat, Int.cast_ofNat_Int, ↓reduceIte, h91]
    repeat with_reducible refine And.intro (by kernel_rfl) ?_
    obtain rfl := Option.some.inj h
    exact finC [(4, .v (.bool (decide (x89 ≤ x90))))] [(4, .v (.bool (decide (x89 ≤ x90))))] (by simp [leE, lk_cons]) (.cons _ _ _ _ _ (.v _ _ (.refl _)) .nil) (by rfl) (by simp [leE, lk_cons]) (by decide) (by decide) rfl (by simp only [go_sem, ne_eq, not_false_eq_true, Nat.reduceBEq, Nat.reduceAdd, Nat.reduceSub, Nat.reduceMul, Nat.reduceLT, Nat.reduceLeDiff, Int.reduceLE, Int.reduceLT, Int.reduceToNat, Int.cast_ofNat_Int, ↓reduceIte, resQ_tmp, resQ_cell, resQ_nil, retD_one, retD_two, retD_three, retD_none]; try simp [R.val, retD_one, retD_two, retD_three, retD_none])
  · refine W_sound tab_ok mixed 18 _ _ _ ?_
    simp only [go_sem, ne_eq, not_false_eq_true, Nat.reduceBEq, Nat.reduceAdd, Nat.reduceSub, Nat.reduceMul, Nat.reduceLT, Nat.reduceLeDiff, Int.reduceLE, Int.reduceLT, Int.reduceToNat, Int.cast_ofNat_Int, ↓reduceIte, h91]
    repeat with_reducible refine And.intro (by kernel_rfl) ?_
    obtain rfl := Option.some.inj h
    exact finC [(4, .v (.bool false))] [(4, .v (.bool false))] (by simp [leE, lk_cons]) (.cons _ _ _ _ _ (.v _ _ (.refl _)) .nil) (by rfl) (by simp [leE, lk_cons]) (by decide) (by decide) rfl (by simp only [go_sem, ne_eq, not_false_eq_true, Nat.reduceBEq, Nat.reduceAdd, Nat.reduceSub, Nat.reduceMul, Nat.reduceLT, Nat.reduceLeDiff, Int.reduceLE, Int.reduceLT, Int.reduceToNat, Int.cast_ofNat_Int, ↓reduceIte, resQ_tmp, resQ_cell, resQ_nil, retD_one, retD_two, retD_three, retD_none]; try simp [R.val, retD_one, retD_two, retD_three, retD_none])

/-! breeze/turn.Check -/
def m22_L0 (N : Nat) (n75 : Nat) (c76 : List PV) : Nat → Int → Option ((PV ⊕ Unit))
  | 0, _ => none
  | n + 1, x79 =>
    brn (decide (x79 < ((n75 : Nat) : Int))) (
      grd (0 ≤ x79 ∧ x79 < ((n75 : Nat) : Int)) <|
      grd (2 ≤ List.length (List.drop ((Int.toNat x79) * 2) c76)) <|
      getA2 (.agg (List.take 2 (List.drop ((Int.toNat x79) * 2) c76))) fun p85 p86 =>
      getI .i64 p85 fun x88 =>
      bnd' (m63 N x88 100) fun p92 =>
      getB p92 fun b95 =>
      brn b95 (
        getI .i64 p86 fun x98 =>
        bnd' (m63 N x98 10) fun p99 =>
        getB p99 fun b102 =>
        brn b102 (
          m22_L0 N n75 c76 n (IntKind.i64.wrap (x79 + 1))) (
          some (.inl (.int .i64 1)))) (
        some (.inl (.int .i64 1)))) (
      some (.inr ()))
def m22 (N : Nat) (p73 : PV) : Option (PV) :=
  getL p73 fun n75 c76 =>
  brn (((n75 : Nat) : Int) == 0) (
    some (.int .i64 4)) (
    brn (decide (((n75 : Nat) : Int) > 8)) (
      some (.int .i64 3)) (
      bnd' (m22_L0 N n75 c76 N 0) fun o =>
      match o with
      | .inl p104 =>
        some p104
      | .inr () =>
        some (.int .i64 0)))
theorem c22 (N : Nat) (p73 : PV) (r : PV)  (h : m22 N p73 = some r) : FnP Try.prog 22 [p73] r := by
  unfold m22 at h
  refine Fn_of (sz := 30) tab_ok [0, 2, 4, 5, 9, 13, 14, 15, 16, 28] [.tmp 2] Try.func22 rfl rfl rfl (by simp) ?_
  simp only [initSt, initEnv, List.map_cons, List.map_nil, List.getD_cons_zero, List.getD_cons_succ, List.getD_nil]
  have hh := getL_some h; clear h; obtain ⟨n75, c76, h74, h⟩ := hh
  have hh := brn_some h; clear h; rcases hh with ⟨h77, h⟩ | ⟨h77, h⟩
  · refine W_sound tab_ok mixed 19 _ _ _ ?_
    simp only [go_sem, ne_eq, not_false_eq_true, Nat.reduceBEq, Nat.reduceAdd, Nat.reduceSub, Nat.reduceMul, Nat.reduceLT, Nat.reduceLeDiff, Int.reduceLE, Int.reduceLT, Int.reduceToNat, Int.cast_ofNat_Int, ↓reduceIte, h74, h77]
    repeat with_reducible refine And.intro (by kernel_rfl) ?_
    obtain rfl := Option.some.inj h
    exact finC [(2, .v (.int .i64 4))] [(2, .v (.int .i64 4))] (by simp [leE, lk_cons]) (.cons _ _ _ _ _ (.v _ _ (.refl _)) .nil) (by rfl) (by simp [leE, lk_cons]) (by decide) (by decide) rfl (by simp only [go_sem, ne_eq, not_false_eq_true, Nat.reduceBEq, Nat.reduceAdd, Nat.reduceSub, Nat.reduceMul, Nat.reduceLT, Nat.reduceLeDiff, Int.reduceLE, Int.reduceLT, Int.reduceToNat, Int.cast_ofNat_Int, ↓reduceIte, resQ_tmp, resQ_cell, resQ_nil, retD_one, retD_two, retD_three, retD_none]; try simp [R.val, retD_one, retD_two, retD_three, retD_none])
  · have hh := brn_some h; clear h; rcases hh with ⟨h78, h⟩ | ⟨h78, h⟩
    · refine W_sound tab_ok mixed 27 _ _ _ ?_
      simp only [go_sem, ne_eq, not_false_eq_true, Nat.reduceBEq, Nat.reduceAdd, Nat.reduceSub, Nat.reduceMul, Nat.reduceLT, Nat.reduceLeDiff, Int.reduceLE, Int.reduceLT, Int.reduceToNat, Int.cast_ofNat_Int, ↓reduceIte, h74, h77, h78]
      repeat with_reducible refine And.intro (by kernel_rfl) ?_
      obtain rfl := Option.some.inj h
      exact finC [(2, .v (.int .i64 3))] [(2, .v (.int .i64 3))] (by simp [leE, lk_cons]) (.cons _ _ _ _ _ (.v _ _ (.refl _)) .nil) (by rfl) (by simp [leE, lk_cons]) (by decide) (by decide) rfl (by simp only [go_sem, ne_eq, not_false_eq_true, Nat.reduceBEq, Nat.reduceAdd, Nat.reduceSub, Nat.reduceMul, Nat.reduceLT, Nat.reduceLeDiff, Int.reduceLE, Int.reduceLT, Int.reduceToNat, Int.cast_ofNat_Int, ↓reduceIte, resQ_tmp, resQ_cell, resQ_nil, retD_one, retD_two, retD_three, retD_none]; try simp [R.val, retD_one, retD_two, retD_three, retD_none])
    · refine W_sound tab_ok mixed 31 _ _ _ ?_
      simp only [go_sem, ne_eq, not_false_eq_true, Nat.reduceBEq, Nat.reduceAdd, Nat.reduceSub, Nat.reduceMul, Nat.reduceLT, Nat.reduceLeDiff, Int.reduceLE, Int.reduceLT, Int.reduceToNat, Int.cast_ofNat_Int, ↓reduceIte, h74, h77, h78]
      repeat with_reducible refine And.intro (by kernel_rfl) ?_
      have hh := bnd'_some h; clear h; obtain ⟨o105, h106, h107⟩ := hh
      refine Wp_cut (fun s => (.inr ()) = o105 ∧ s = ⟨[], [(0, .dead), (2, .dead), (4, .dead), (5, .dead), (9, .dead), (13, .dead), (14, .dead), (15, .dead), (16, .dead), (28, .dead)], [], 0, []⟩) ?_ ?_
      · refine Wp_block ?_
        refine Wp_loopG (fun n s => ∃ x79, m22_L0 N n75 c76 n x79 = some o105 ∧ s = ⟨[], [(0, .dead), (2, .dead), (4, .dead), (5, .dead), (9, .dead), (13, .v (.lst false n75 c76)), (14, .v (.int .i64 ((n75 : Nat) : Int))), (15, .v (.int .i64 x79)), (16, .dead), (28, .dead)], [], 0, []⟩) N _ ((Wk_le (.cons _ _ _ _ _ (.dead _) (.cons _ _ _ _ _ (.dead _) (.cons _ _ _ _ _ (.refl _) (.cons _ _ _ _ _ (.dead _) (.cons _ _ _ _ _ (.dead _) (.cons _ _ _ _ _ (.refl _) (.cons _ _ _ _ _ (.refl _) (.cons _ _ _ _ _ (.refl _) (.cons _ _ _ _ _ (.refl _) (.cons _ _ _ _ _ (.refl _) .nil)))))))))) (OLe.refl _)).trans (cmpS_ok rfl)) ⟨_, h106, rfl⟩ ?_
        clear h106
        rintro n _ ⟨x79, h106, rfl⟩
        cases n with
        | zero => cases h106
        | succ n =>
          rw [m22_L0] at h106
          have hh := brn_some h106; clear h106; rcases hh with ⟨h80, h106⟩ | ⟨h80, h106⟩
          · have hh := grd_some h106; clear h106; obtain ⟨⟨g81, g82⟩, h106⟩ := hh
            have hh := grd_some h106; clear h106; obtain ⟨g83, h106⟩ := hh
            have hh := getA2_some h106; clear h106; obtain ⟨p85, p86, h84, h106⟩ := hh
            injection h84 with h84
            have hh := getI_some h106; clear h106; obtain ⟨x88, h87, h106⟩ := hh
            have hh := bnd'_some h106; clear h106; obtain ⟨p92, h93, h106⟩ := hh
            refine W_sound tab_ok mixed 20 _ _ _ ?_
            simp only [go_sem, ne_eq, not_false_eq_true, Nat.reduceBEq, Nat.reduceAdd, Nat.reduceSub, Nat.reduceMul, Nat.reduceLT, Nat.reduceLeDiff, Int.reduceLE, Int.reduceLT, Int.reduceToNat, Int.cast_ofNat_Int, ↓reduceIte, h74, h77, h78, h80, g81, g82, g83, h84, h87]
            repeat with_reducible refine And.intro (by kernel_rfl) ?_
            refine Wp_callP (c63 N _ _ _ h93) (by kernel_rfl) rfl rfl rfl rfl (by decide) ?_
            have hh := getB_some h106; clear h106; obtain ⟨b95, h94, h106⟩ := hh
            have hh := brn_some h106; clear h106; rcases hh with ⟨h96, h106⟩ | ⟨h96, h106⟩
            · have hh := getI_some h106; clear h106; obtain ⟨x98, h97, h106⟩ := hh
              have hh := bnd'_some h106; clear h106; obtain ⟨p99, h100, h106⟩ := hh
              refine W_sound tab_ok mixed 4 _ _ _ ?_
              simp only [go_sem, ne_eq, not_false_eq_true, Nat.reduceBEq, Nat.reduceAdd, Nat.reduceSub, Nat.reduceMul, Nat.reduceLT, Nat.reduceLeDiff, Int.reduceLE, Int.reduceLT, Int.reduceToNat, Int.cast_ofNat_Int, ↓reduceIte, h74, h77, h78, h80, g81, g82, g83, h84, h87, h94, h96, h97]
              repeat with_reducible refine And.intro (by kernel_rfl) ?_
              refine Wp_callP (c63 N _ _ _ h100) (by kernel_rfl) rfl rfl rfl rfl (by decide) ?_
              have hh := getB_some h106; clear h106; obtain ⟨b102, h101, h106⟩ := hh
              have hh := brn_some h106; clear h106; rcases hh with ⟨h103, h106⟩ | ⟨h103, h106⟩
              · refine W_sound tab_ok mixed 10 _ _ _ ?_
                simp only [go_sem, ne_eq, not_false_eq_true, Nat.reduceBEq, Nat.reduceAdd, Nat.reduceSub, Nat.reduceMul, Nat.reduceLT, Nat.reduceLeDiff, Int.reduceLE, Int.reduceLT, Int.reduceToNat, Int.cast_ofNat_Int, ↓reduceIte, h74, h77, h78, h80, g81, g82, g83, h84, h87, h94, h96, h97, h101, h103]
                repeat with_reducible refine And.intro (by kernel_rfl) ?_
                exact cutQ _ ((Wk_le (.cons _ _ _ _ _ (.refl _) (.cons _ _ _ _ _ (.refl _) (.cons _ _ _ _ _ (.dead _) (.cons _ _ _ _ _ (.refl _) (.cons _ _ _ _ _ (.refl _) (.cons _ _ _ _ _ (.refl _) (.cons _ _ _ _ _ (.refl _) (.cons _ _ _ _ _ (.refl _) (.cons _ _ _ _ _ (.dead _) (.cons _ _ _ _ _ (.dead _) .nil)))))))))) (OLe.refl _)).trans (cmpS_ok rfl)) ⟨n, Nat.lt_succ_self n, _, h106, rfl⟩
              · refine W_sound tab_ok mixed 9 _ _ _ ?_
                simp only [go_sem, ne_eq, not_false_eq_true, Nat.reduceBEq, Nat.reduceAdd, Nat.reduceSub, Nat.reduceMul, Nat.reduceLT, Nat.reduceLeDiff, Int.reduceLE, Int.reduceLT, Int.reduceToNat, Int.cast_ofNat_Int, ↓reduceIte, h74, h77, h78, h80, g81, g82, g83, h84, h87, h94, h96, h97, h101, h103]
                repeat with_reducible refine And.intro (by kernel_rfl) ?_
                obtain rfl := Option.some.inj h106
                (try dsimp only at h107)
                obtain rfl := Option.some.inj h107
                exact finC [(2, .v (.int .i64 1))] [(2, .v (.int .i64 1))] (by simp [leE, lk_cons]) (.cons _ _ _ _ _ (.v _ _ (.refl _)) .nil) (by rfl) (by simp [leE, lk_cons]) (by decide) (by decide) rfl (by simp only [go_sem, ne_eq, not_false_eq_true, Nat.reduceBEq, Nat.reduceAdd, Nat.reduceSub, Nat.reduceMul, Nat.reduceLT, Nat.reduceLeDiff, Int.reduceLE, Int.reduceLT, Int.reduceToNat, Int.cast_ofNat_Int, ↓reduceIte, resQ_tmp, resQ_cell, resQ_nil, retD_one, retD_two, retD_three, retD_none]; try simp [R.val, retD_one, retD_two, retD_three, retD_none])
            · refine W_sound tab_ok mixed 14 _ _ _ ?_
              simp only [go_sem, ne_eq, not_false_eq_true, Nat.reduceBEq, Nat.reduceAdd, Nat.reduceSub, Nat.reduceMul, Nat.reduceLT, Nat.reduceLeDiff, Int.reduceLE, Int.reduceLT, Int.reduceToNat, Int.cast_ofNat_Int, ↓reduceIte, h74, h77, h78, h80, g81, g82, g83, h84, h87, h94, h96]
              repeat with_reducible refine And.intro (by kernel_rfl) ?_
              obtain rfl := Option.some.inj h106
              (try dsimp only at h107)
              obtain rfl := Option.some.inj h107
              exact finC [(2, .v (.int .i64 1))] [(2, .v (.int .i64 1))] (by simp [leE, lk_cons]) (.cons _ _ _ _ _ (.v _ _ (.refl _)) .nil) (by rfl) (by simp [leE, lk_cons]) (by decide) (by decide) rfl (by simp only [go_sem, ne_eq, not_false_eq_true, Nat.reduceBEq, Nat.reduceAdd, Nat.reduceSub, Nat.reduceMul, Nat.reduceLT, Nat.reduceLeDiff, Int.reduceLE, Int.reduceLT, Int.reduceToNat, Int.cast_ofNat_Int, ↓reduceIte, resQ_tmp, resQ_cell, resQ_nil, retD_one, retD_two, retD_three, retD_none]; try simp [R.val, retD_one, retD_two, retD_three, retD_none])
          · refine W_sound tab_ok mixed 7 _ _ _ ?_
            simp only [go_sem, ne_eq, not_false_eq_true, Nat.reduceBEq, Nat.reduceAdd, Nat.reduceSub, Nat.reduceMul, Nat.reduceLT, Nat.reduceLeDiff, Int.reduceLE, Int.reduceLT, Int.reduceToNat, Int.cast_ofNat_Int, ↓reduceIte, h74, h77, h78, h80]
            repeat with_reducible refine And.intro (by kernel_rfl) ?_
            obtain rfl := Option.some.inj h106
            exact cutQ _ ((Wk_le (.cons _ _ _ _ _ (.refl _) (.cons _ _ _ _ _ (.refl _) (.cons _ _ _ _ _ (.refl _) (.cons _ _ _ _ _ (.refl _) (.cons _ _ _ _ _ (.refl _) (.cons _ _ _ _ _ (.dead _) (.cons _ _ _ _ _ (.dead _) (.cons _ _ _ _ _ (.dead _) (.cons _ _ _ _ _ (.dead _) (.cons _ _ _ _ _ (.refl _) .nil)))))))))) (OLe.refl _)).trans (cmpS_ok rfl)) ⟨rfl, rfl⟩
      · rintro _ ⟨rfl, rfl⟩
        (try dsimp only at h107)
        refine W_sound tab_ok mixed 5 _ _ _ ?_
        simp only [go_sem, ne_eq, not_false_eq_true, Nat.reduceBEq, Nat.reduceAdd, Nat.reduceSub, Nat.reduceMul, Nat.reduceLT, Nat.reduceLeDiff, Int.reduceLE, Int.reduceLT, Int.reduceToNat, Int.cast_ofNat_Int, ↓reduceIte, h74, h77, h78]
        repeat with_reducible refine And.intro (by kernel_rfl) ?_
        obtain rfl := Option.some.inj h107
        exact finC [(2, .v (.int .i64 0))] [(2, .v (.int .i64 0))] (by simp [leE, lk_cons]) (.cons _ _ _ _ _ (.v _ _ (.refl _)) .nil) (by rfl) (by simp [leE, lk_cons]) (by decide) (by decide) rfl (by simp only [go_sem, ne_eq, not_false_eq_true, Nat.reduceBEq, Nat.reduceAdd, Nat.reduceSub, Nat.reduceMul, Nat.reduceLT, Nat.reduceLeDiff, Int.reduceLE, Int.reduceLT, Int.reduceToNat, Int.cast_ofNat_Int, ↓reduceIte, resQ_tmp, resQ_cell, resQ_nil, retD_one, retD_two, retD_three, retD_none]; try simp [R.val, retD_one, retD_two, retD_three, retD_none])

/-! (breeze/turn.Contract).at -/
def m78 (N : Nat) (p135 : PV) (p136 : PV) : Option (PV) :=
  getA2 p135 fun p138 p139 =>
  getA2 p136 fun p141 p142 =>
  getI .i64 p138 fun x144 =>
  getI .i64 p142 fun x146 =>
  getI .i64 p139 fun x148 =>
  getI .i64 p141 fun x150 =>
  some (.int .i64 (IntKind.i64.wrap ((IntKind.i64.wrap (x144 * x146)) + (IntKind.i64.wrap (x148 * x150)))))
theorem c78 (N : Nat) (p135 : PV) (p136 : PV) (r : PV)  (h : m78 N p135 p136 = some r) : FnP Try.prog 78 [p135, p136] r := by
  unfold m78 at h
  refine Fn_of (sz := 16) tab_ok [0, 1, 2, 3, 4] [.tmp 4] Try.func78 rfl rfl rfl (by simp) ?_
  simp only [initSt, initEnv, List.map_cons, List.map_nil, List.getD_cons_zero, List.getD_cons_succ, List.getD_nil]
  have hh := getA2_some h; clear h; obtain ⟨p138, p139, h137, h⟩ := hh
  have hh := getA2_some h; clear h; obtain ⟨p141, p142, h140, h⟩ := hh
  have hh := getI_some h; clear h; obtain ⟨x144, h143, h⟩ := hh
  have hh := getI_some h; clear h; obtain ⟨x146, h145, h⟩ := hh
  have hh := getI_some h; clear h; obtain ⟨x148, h147, h⟩ := hh
  have hh := getI_some h; clear h; obtain ⟨x150, h149, h⟩ := hh
  refine W_sound tab_ok mixed 22 _ _ _ ?_
  simp only [go_sem, ne_eq, not_false_eq_true, Nat.reduceBEq, Nat.reduceAdd, Nat.reduceSub, Nat.reduceMul, Nat.reduceLT, Nat.reduceLeDiff, Int.reduceLE, Int.reduceLT, Int.reduceToNat, Int.cast_ofNat_Int, ↓reduceIte, h137, h140, h143, h145, h147, h149]
  repeat with_reducible refine And.intro (by kernel_rfl) ?_
  obtain rfl := Option.some.inj h
  exact finC [(4, .v (.int .i64 (IntKind.i64.wrap ((IntKind.i64.wrap (x144 * x146)) + (IntKind.i64.wrap (x148 * x150))))))] [(4, .v (.int .i64 (IntKind.i64.wrap ((IntKind.i64.wrap (x144 * x146)) + (IntKind.i64.wrap (x148 * x150))))))] (by simp [leE, lk_cons]) (.cons _ _ _ _ _ (.v _ _ (.refl _)) .nil) (by rfl) (by simp [leE, lk_cons]) (by decide) (by decide) rfl (by simp only [go_sem, ne_eq, not_false_eq_true, Nat.reduceBEq, Nat.reduceAdd, Nat.reduceSub, Nat.reduceMul, Nat.reduceLT, Nat.reduceLeDiff, Int.reduceLE, Int.reduceLT, Int.reduceToNat, Int.cast_ofNat_Int, ↓reduceIte, resQ_tmp, resQ_cell, resQ_nil, retD_one, retD_two, retD_three, retD_none]; try simp [R.val, retD_one, retD_two, retD_three, retD_none])

/-! slices.Max[[]int,int] -/
def m79_L0 (N : Nat) (n174 : Nat) (c175 : List PV) : Nat → Int → Int → Option (Int)
  | 0, _, _ => none
  | n + 1, x181, x182 =>
    brn (decide (x182 < ((n174 : Nat) : Int))) (
      grd (0 ≤ x182 ∧ x182 < ((n174 : Nat) : Int)) <|
      grd (0 < List.length (List.drop (Int.toNat x182) c175)) <|
      getI .i64 (gp c175 (Int.toNat x182)) fun x188 =>
      m79_L0 N n174 c175 n (maxI x181 x188) (IntKind.i64.wrap (x182 + 1))) (
      some x181)
def m79 (N : Nat) (p172 : PV) : Option (PV) :=
  getL p172 fun n174 c175 =>
  brn (decide (((n174 : Nat) : Int) < 1)) (
    none) (
    grd (0 < ((n174 : Nat) : Int)) <|
    grd (0 < List.length c175) <|
    getI .i64 (gp c175 0) fun x180 =>
    bnd' (m79_L0 N n174 c175 N x180 1) fun x189 =>
    some (.int .i64 x189))
theorem c79 (N : Nat) (p172 : PV) (r : PV)  (h : m79 N p172 = some r) : FnP Try.prog 79 [p172] r := by
  unfold m79 at h
  refine Fn_of (sz := 25) tab_ok [0, 2, 3, 4, 7, 15] [.tmp 2] Try.func79 rfl rfl rfl (by simp) ?_
  simp only [initSt, initEnv, List.map_cons, List.map_nil, List.getD_cons_zero, List.getD_cons_succ, List.getD_nil]
  have hh := getL_some h; clear h; obtain ⟨n174, c175, h173, h⟩ := hh
  have hh := brn_some h; clear h; rcases hh with ⟨h176, h⟩ | ⟨h176, h⟩
  · cases h
  · have hh := grd_some h; clear h; obtain ⟨g177, h⟩ := hh
    have hh := grd_some h; clear h; obtain ⟨g178, h⟩ := hh
    have hh := getI_some h; clear h; obtain ⟨x180, h179, h⟩ := hh
    refine W_sound tab_ok mixed 25 _ _ _ ?_
    simp only [go_sem, ne_eq, not_false_eq_true, Nat.reduceBEq, Nat.reduceAdd, Nat.reduceSub, Nat.reduceMul, Nat.reduceLT, Nat.reduceLeDiff, Int.reduceLE, Int.reduceLT, Int.reduceToNat, Int.cast_ofNat_Int, ↓reduceIte, h173, h176, g177, g178, h179]
    repeat with_reducible refine And.intro (by kernel_rfl) ?_
    have hh := bnd'_some h; clear h; obtain ⟨o190, h191, h192⟩ := hh
    refine Wp_cut (fun s => ∃ x189, x189 = o190 ∧ s = ⟨[], [(0, .dead), (2, .dead), (3, .v (.int .i64 x189)), (4, .dead), (7, .dead), (15, .dead)], [], 0, []⟩) ?_ ?_
    · refine Wp_block ?_
      refine Wp_loopG (fun n s => ∃ x181, ∃ x182, m79_L0 N n174 c175 n x181 x182 = some o190 ∧ s = ⟨[], [(0, .v (.lst false n174 c175)), (2, .dead), (3, .v (.int .i64 x181)), (4, .v (.int .i64 x182)), (7, .dead), (15, .dead)], [], 0, []⟩) N _ ((Wk_le (.cons _ _ _ _ _ (.refl _) (.cons _ _ _ _ _ (.dead _) (.cons _ _ _ _ _ (.refl _) (.cons _ _ _ _ _ (.refl _) (.cons _ _ _ _ _ (.dead _) (.cons _ _ _ _ _ (.refl _) .nil)))))) (OLe.refl _)).trans (cmpS_ok rfl)) ⟨_, _, h191, rfl⟩ ?_
      clear h191
      rintro n _ ⟨x181, x182, h191, rfl⟩
      cases n with
      | zero => cases h191
      | succ n =>
        rw [m79_L0] at h191
        have hh := brn_some h191; clear h191; rcases hh with ⟨h183, h191⟩ | ⟨h183, h191⟩
        · have hh := grd_some h191; clear h191; obtain ⟨⟨g184, g185⟩, h191⟩ := hh
          have hh := grd_some h191; clear h191; obtain ⟨g186, h191⟩ := hh
          have hh := getI_some h191; clear h191; obtain ⟨x188, h187, h191⟩ := hh
          refine W_sound tab_ok mixed 27 _ _ _ ?_
          simp only [go_sem, ne_eq, not_false_eq_true, Nat.reduceBEq, Nat.reduceAdd, Nat.reduceSub, Nat.reduceMul, Nat.reduceLT, Nat.reduceLeDiff, Int.reduceLE, Int.reduceLT, Int.reduceToNat, Int.cast_ofNat_Int, ↓reduceIte, h173, h176, g177, g178, h179, h183, g184, g185, g186, h187]
          repeat with_reducible refine And.intro (by kernel_rfl) ?_
          exact cutQ _ ((Wk_le (.cons _ _ _ _ _ (.refl _) (.cons _ _ _ _ _ (.refl _) (.cons _ _ _ _ _ (.refl _) (.cons _ _ _ _ _ (.refl _) (.cons _ _ _ _ _ (.refl _) (.cons _ _ _ _ _ (.dead _) .nil)))))) (OLe.refl _)).trans (cmpS_ok rfl)) ⟨n, Nat.lt_succ_self n, _, _, h191, rfl⟩
        · refine W_sound tab_ok mixed 10 _ _ _ ?_
          simp only [go_sem, ne_eq, not_false_eq_true, Nat.reduceBEq, Nat.reduceAdd, Nat.reduceSub, Nat.reduceMul, Nat.reduceLT, Nat.reduceLeDiff, Int.reduceLE, Int.reduceLT, Int.reduceToNat, Int.cast_ofNat_Int, ↓reduceIte, h173, h176, g177, g178, h179, h183]
          repeat with_reducible refine And.intro (by kernel_rfl) ?_
          obtain rfl := Option.some.inj h191
          exact cutQ _ ((Wk_le (.cons _ _ _ _ _ (.dead _) (.cons _ _ _ _ _ (.refl _) (.cons _ _ _ _ _ (.refl _) (.cons _ _ _ _ _ (.dead _) (.cons _ _ _ _ _ (.refl _) (.cons _ _ _ _ _ (.dead _) .nil)))))) (OLe.refl _)).trans (cmpS_ok rfl)) ⟨_, rfl, rfl⟩
    · rintro _ ⟨x189, rfl, rfl⟩
      refine W_sound tab_ok mixed 6 _ _ _ ?_
      simp only [go_sem, ne_eq, not_false_eq_true, Nat.reduceBEq, Nat.reduceAdd, Nat.reduceSub, Nat.reduceMul, Nat.reduceLT, Nat.reduceLeDiff, Int.reduceLE, Int.reduceLT, Int.reduceToNat, Int.cast_ofNat_Int, ↓reduceIte, h173, h176, g177, g178, h179]
      repeat with_reducible refine And.intro (by kernel_rfl) ?_
      obtain rfl := Option.some.inj h192
      exact finC [(2, .v (.int .i64 x189))] [(2, .v (.int .i64 x189))] (by simp [leE, lk_cons]) (.cons _ _ _ _ _ (.v _ _ (.refl _)) .nil) (by rfl) (by simp [leE, lk_cons]) (by decide) (by decide) rfl (by simp only [go_sem, ne_eq, not_false_eq_true, Nat.reduceBEq, Nat.reduceAdd, Nat.reduceSub, Nat.reduceMul, Nat.reduceLT, Nat.reduceLeDiff, Int.reduceLE, Int.reduceLT, Int.reduceToNat, Int.cast_ofNat_Int, ↓reduceIte, resQ_tmp, resQ_cell, resQ_nil, retD_one, retD_two, retD_three, retD_none]; try simp [R.val, retD_one, retD_two, retD_three, retD_none])

/-! breeze/turn.asked -/
def m57_L0 (N : Nat) (n68 : Nat) (c69 : List PV) (x114 : Int) (x121 : Int) : Nat → Int → List PV → Option (List PV)
  | 0, _, _ => none
  | n + 1, x156, c157 =>
    brn (decide (x156 < ((n68 : Nat) : Int))) (
      grd (0 ≤ x156 ∧ x156 < ((n68 : Nat) : Int)) <|
      grd (2 ≤ List.length (List.drop ((Int.toNat x156) * 2) c69)) <|
      getA2 (.agg (List.take 2 (List.drop ((Int.toNat x156) * 2) c69))) fun p163 p164 =>
      bnd' (m78 N (.agg [p163, p164]) (.agg [(.int .i64 x114), (.int .i64 x121)])) fun p165 =>
      getI .i64 p165 fun x168 =>
      grd (((Int.toNat x156) + 1) ≤ List.length c157) <|
      m57_L0 N n68 c69 x114 x121 n (IntKind.i64.wrap (x156 + 1)) (List.set c157 (Int.toNat x156) (.int .i64 x168))) (
      some c157)
def m57 (N : Nat) (p65 : PV) (p66 : PV) : Option (PV) :=
  getL p65 fun n68 c69 =>
  getA2 p66 fun p71 p72 =>
  bnd' (m22 N (.lst false n68 c69)) fun p108 =>
  getI .i64 p108 fun x111 =>
  brn (x111 != 0) (
    some (.tup [(.lst false 0 []), (.int .i64 0), (.int .i64 x111)])) (
    getI .i64 p71 fun x114 =>
    bnd' (m63 N x114 1000) fun p115 =>
    getB p115 fun b118 =>
    brn b118 (
      getI .i64 p72 fun x121 =>
      brn (decide (x121 < 1)) (
        some (.tup [(.lst false 0 []), (.int .i64 0), (.int .i64 1)])) (
        brn (decide (x121 > 1000)) (
          some (.tup [(.lst false 0 []), (.int .i64 0), (.int .i64 1)])) (
          grd (0 ≤ ((n68 : Nat) : Int) ∧ ((n68 : Nat) : Int) ≤ ((n68 : Nat) : Int) ∧ ((n68 : Nat) : Int) ≤ 1099511627776) <|
          bnd' (m57_L0 N n68 c69 x114 x121 N 0 (List.replicate n68 (.int .i64 0))) fun c170 =>
          grd (List.length c170 = n68) <|
          bnd' (m79 N (.lst false n68 c170)) fun p193 =>
          getI .i64 p193 fun x196 =>
          some (.tup [(.lst false n68 c170), (.int .i64 x196), (.int .i64 0)])))) (
      some (.tup [(.lst false 0 []), (.int .i64 0), (.int .i64 1)])))
theorem c57 (N : Nat) (p65 : PV) (p66 : PV) (r : PV)  (h : m57 N p65 p66 = some r) : FnP Try.prog 57 [p65, p66] r := by
  unfold m57 at h
  refine Fn_of (sz := 52) tab_ok [0, 1, 3, 4, 5, 6, 7, 8, 9, 12, 16, 35, 36, 37] [.tmp 4, .tmp 5, .tmp 6] Try.func57 rfl rfl rfl (by simp) ?_
  simp only [initSt, initEnv, List.map_cons, List.map_nil, List.getD_cons_zero, List.getD_cons_succ, List.getD_nil]
  have hh := getL_some h; clear h; obtain ⟨n68, c69, h67, h⟩ := hh
  have hh := getA2_some h; clear h; obtain ⟨p71, p72, h70, h⟩ := hh
  have hh := bnd'_some h; clear h; obtain ⟨p108, h109, h⟩ := hh
  refine W_sound tab_ok mixed 10 _ _ _ ?_
  simp only [go_sem, ne_eq, not_false_eq_true, Nat.reduceBEq, Nat.reduceAdd, Nat.reduceSub, Nat.reduceMul, Nat.reduceLT, Nat.reduceLeDiff, Int.reduceLE, Int.reduceLT, Int.reduceToNat, Int.cast_ofNat_Int, ↓reduceIte, h67, h70]
  repeat with_reducible refine And.intro (by kernel_rfl) ?_
  refine Wp_callP (c22 N _ _ h109) (by kernel_rfl) rfl rfl rfl rfl (by decide) ?_
  have hh := getI_some h; clear h; obtain ⟨x111, h110, h⟩ := hh
  have hh := brn_some h; clear h; rcases hh with ⟨h112, h⟩ | ⟨h112, h⟩
  · refine W_sound tab_ok mixed 19 _ _ _ ?_
    simp only [go_sem, ne_eq, not_false_eq_true, Nat.reduceBEq, Nat.reduceAdd, Nat.reduceSub, Nat.reduceMul, Nat.reduceLT, Nat.reduceLeDiff, Int.reduceLE, Int.reduceLT, Int.reduceToNat, Int.cast_ofNat_Int, ↓reduceIte, h67, h70, h110, h112]
    repeat with_reducible refine And.intro (by kernel_rfl) ?_
    obtain rfl := Option.some.inj h
    exact finC [(4, .v .nl), (5, .v (.int .i64 0)), (6, .v (.int .i64 x111))] [(4, .v (.lst false 0 [])), (5, .v (.int .i64 0)), (6, .v (.int .i64 x111))] (by simp [leE, lk_cons]) (.cons _ _ _ _ _ (.v _ _ (.nl false)) (.cons _ _ _ _ _ (.v _ _ (.refl _)) (.cons _ _ _ _ _ (.v _ _ (.refl _)) .nil))) (by rfl) (by simp [leE, lk_cons]) (by decide) (by decide) rfl (by simp only [go_sem, ne_eq, not_false_eq_true, Nat.reduceBEq, Nat.reduceAdd, Nat.reduceSub, Nat.reduceMul, Nat.reduceLT, Nat.reduceLeDiff, Int.reduceLE, Int.reduceLT, Int.reduceToNat, Int.cast_ofNat_Int, ↓reduceIte, resQ_tmp, resQ_cell, resQ_nil, retD_one, retD_two, retD_three, retD_none]; try simp [R.val, retD_one, retD_two, retD_three, retD_none])
  · have hh := getI_some h; clear h; obtain ⟨x114, h113, h⟩ := hh
    have hh := bnd'_some h; clear h; obtain ⟨p115, h116, h⟩ := hh
    refine W_sound tab_ok mixed 15 _ _ _ ?_
    simp only [go_sem, ne_eq, not_false_eq_true, Nat.reduceBEq, Nat.reduceAdd, Nat.reduceSub, Nat.reduceMul, Nat.reduceLT, Nat.reduceLeDiff, Int.reduceLE, Int.reduceLT, Int.reduceToNat, Int.cast_ofNat_Int, ↓reduceIte, h67, h70, h110, h112, h113]
    repeat with_reducible refine And.intro (by kernel_rfl) ?_
    refine Wp_callP (c63 N _ _ _ h116) (by kernel_rfl) rfl rfl rfl rfl (by decide) ?_
    have hh := getB_some h; clear h; obtain ⟨b118, h117, h⟩ := hh
    have hh := brn_some h; clear h; rcases hh with ⟨h119, h⟩ | ⟨h119, h⟩
    · have hh := getI_some h; clear h; obtain ⟨x121, h120, h⟩ := hh
      have hh := brn_some h; clear h; rcases hh with ⟨h122, h⟩ | ⟨h122, h⟩
      · refine W_sound tab_ok mixed 21 _ _ _ ?_
        simp only [go_sem, ne_eq, not_false_eq_true, Nat.reduceBEq, Nat.reduceAdd, Nat.reduceSub, Nat.reduceMul, Nat.reduceLT, Nat.reduceLeDiff, Int.reduceLE, Int.reduceLT, Int.reduceToNat, Int.cast_ofNat_Int, ↓reduceIte, h67, h70, h110, h112, h113, h117, h119, h120, h122]
        repeat with_reducible refine And.intro (by kernel_rfl) ?_
        obtain rfl := Option.some.inj h
        exact finC [(4, .v .nl), (5, .v (.int .i64 0)), (6, .v (.int .i64 1))] [(4, .v (.lst false 0 [])), (5, .v (.int .i64 0)), (6, .v (.int .i64 1))] (by simp [leE, lk_cons]) (.cons _ _ _ _ _ (.v _ _ (.nl false)) (.cons _ _ _ _ _ (.v _ _ (.refl _)) (.cons _ _ _ _ _ (.v _ _ (.refl _)) .nil))) (by rfl) (by simp [leE, lk_cons]) (by decide) (by decide) rfl (by simp only [go_sem, ne_eq, not_false_eq_true, Nat.reduceBEq, Nat.reduceAdd, Nat.reduceSub, Nat.reduceMul, Nat.reduceLT, Nat.reduceLeDiff, Int.reduceLE, Int.reduceLT, Int.reduceToNat, Int.cast_ofNat_Int, ↓reduceIte, resQ_tmp, resQ_cell, resQ_nil, retD_one, retD_two, retD_three, retD_none]; try simp [R.val, retD_one, retD_two, retD_three, retD_none])
      · have hh := brn_some h; clear h; rcases hh with ⟨h123, h⟩ | ⟨h123, h⟩
        · refine W_sound tab_ok mixed 21 _ _ _ ?_
          simp only [go_sem, ne_eq, not_false_eq_true, Nat.reduceBEq, Nat.reduceAdd, Nat.reduceSub, Nat.reduceMul, Nat.reduceLT, Nat.reduceLeDiff, Int.reduceLE, Int.reduceLT, Int.reduceToNat, Int.cast_ofNat_Int, ↓reduceIte, h67, h70, h110, h112, h113, h117, h119, h120, h122, h123]
          repeat with_reducible refine And.intro (by kernel_rfl) ?_
          obtain rfl := Option.some.inj h
          exact finC [(4, .v .nl), (5, .v (.int .i64 0)), (6, .v (.int .i64 1))] [(4, .v (.lst false 0 [])), (5, .v (.int .i64 0)), (6, .v (.int .i64 1))] (by simp [leE, lk_cons]) (.cons _ _ _ _ _ (.v _ _ (.nl false)) (.cons _ _ _ _ _ (.v _ _ (.refl _)) (.cons _ _ _ _ _ (.v _ _ (.refl _)) .nil))) (by rfl) (by simp [leE, lk_cons]) (by decide) (by decide) rfl (by simp only [go_sem, ne_eq, not_false_eq_true, Nat.reduceBEq, Nat.reduceAdd, Nat.reduceSub, Nat.reduceMul, Nat.reduceLT, Nat.reduceLeDiff, Int.reduceLE, Int.reduceLT, Int.reduceToNat, Int.cast_ofNat_Int, ↓reduceIte, resQ_tmp, resQ_cell, resQ_nil, retD_one, retD_two, retD_three, retD_none]; try simp [R.val, retD_one, retD_two, retD_three, retD_none])
        · have hh := grd_some h; clear h; obtain ⟨⟨g124, g125, g126⟩, h⟩ := hh
          refine W_sound tab_ok mixed 30 _ _ _ ?_
          simp only [go_sem, ne_eq, not_false_eq_true, Nat.reduceBEq, Nat.reduceAdd, Nat.reduceSub, Nat.reduceMul, Nat.reduceLT, Nat.reduceLeDiff, Int.reduceLE, Int.reduceLT, Int.reduceToNat, Int.cast_ofNat_Int, ↓reduceIte, h67, h70, h110, h112, h113, h117, h119, h120, h122, h123, g124, g125, g126]
          repeat with_reducible refine And.intro (by kernel_rfl) ?_
          have hh := bnd'_some h; clear h; obtain ⟨o197, h198, h199⟩ := hh
          refine Wp_cut (fun s => ∃ c170, c170 = o197 ∧ s = ⟨[], [(0, .dead), (1, .dead), (3, .dead), (4, .dead), (5, .dead), (6, .dead), (7, .dead), (8, .sl false 0 0 n68 1), (9, .dead), (12, .dead), (16, .dead), (35, .dead), (36, .dead), (37, .dead)], [(0, .p c170)], 1, []⟩) ?_ ?_
          · refine Wp_block ?_
            refine Wp_loopG (fun n s => ∃ x156, ∃ c157, m57_L0 N n68 c69 x114 x121 n x156 c157 = some o197 ∧ s = ⟨[], [(0, .v (.lst false n68 c69)), (1, .dead), (3, .ptr 0 0), (4, .dead), (5, .dead), (6, .dead), (7, .dead), (8, .sl false 1 0 n68 1), (9, .dead), (12, .dead), (16, .dead), (35, .v (.int .i64 ((n68 : Nat) : Int))), (36, .v (.int .i64 x156)), (37, .dead)], [(0, .p [(.int .i64 x114), (.int .i64 x121)]), (1, .p c157)], 2, []⟩) N _ ((Wk_le (.cons _ _ _ _ _ (.refl _) (.cons _ _ _ _ _ (.dead _) (.cons _ _ _ _ _ (.refl _) (.cons _ _ _ _ _ (.dead _) (.cons _ _ _ _ _ (.dead _) (.cons _ _ _ _ _ (.dead _) (.cons _ _ _ _ _ (.dead _) (.cons _ _ _ _ _ (.refl _) (.cons _ _ _ _ _ (.refl _) (.cons _ _ _ _ _ (.dead _) (.cons _ _ _ _ _ (.dead _) (.cons _ _ _ _ _ (.refl _) (.cons _ _ _ _ _ (.refl _) (.cons _ _ _ _ _ (.refl _) .nil)))))))))))))) (OLe.refl _)).trans (cmpS_ok rfl)) ⟨_, _, h198, rfl⟩ ?_
            clear h198
            rintro n _ ⟨x156, c157, h198, rfl⟩
            cases n with
            | zero => cases h198
            | succ n =>
              rw [m57_L0] at h198
              have hh := brn_some h198; clear h198; rcases hh with ⟨h158, h198⟩ | ⟨h158, h198⟩
              · have hh := grd_some h198; clear h198; obtain ⟨⟨g159, g160⟩, h198⟩ := hh
                have hh := grd_some h198; clear h198; obtain ⟨g161, h198⟩ := hh
                have hh := getA2_some h198; clear h198; obtain ⟨p163, p164, h162, h198⟩ := hh
                injection h162 with h162
                have hh := bnd'_some h198; clear h198; obtain ⟨p165, h166, h198⟩ := hh
                refine W_sound tab_ok mixed 22 _ _ _ ?_
                simp only [go_sem, ne_eq, not_false_eq_true, Nat.reduceBEq, Nat.reduceAdd, Nat.reduceSub, Nat.reduceMul, Nat.reduceLT, Nat.reduceLeDiff, Int.reduceLE, Int.reduceLT, Int.reduceToNat, Int.cast_ofNat_Int, ↓reduceIte, h67, h70, h110, h112, h113, h117, h119, h120, h122, h123, g124, g125, g126, h158, g159, g160, g161, h162]
                repeat with_reducible refine And.intro (by kernel_rfl) ?_
                refine Wp_callP (c78 N _ _ _ h166) (by kernel_rfl) rfl rfl rfl rfl (by decide) ?_
                have hh := getI_some h198; clear h198; obtain ⟨x168, h167, h198⟩ := hh
                have hh := grd_some h198; clear h198; obtain ⟨g169, h198⟩ := hh
                refine W_sound tab_ok mixed 8 _ _ _ ?_
                simp only [go_sem, ne_eq, not_false_eq_true, Nat.reduceBEq, Nat.reduceAdd, Nat.reduceSub, Nat.reduceMul, Nat.reduceLT, Nat.reduceLeDiff, Int.reduceLE, Int.reduceLT, Int.reduceToNat, Int.cast_ofNat_Int, ↓reduceIte, h67, h70, h110, h112, h113, h117, h119, h120, h122, h123, g124, g125, g126, h158, g159, g160, g161, h162, h167, g169]
                repeat with_reducible refine And.intro (by kernel_rfl) ?_
                exact cutQ _ ((Wk_le (.cons _ _ _ _ _ (.refl _) (.cons _ _ _ _ _ (.refl _) (.cons _ _ _ _ _ (.refl _) (.cons _ _ _ _ _ (.refl _) (.cons _ _ _ _ _ (.refl _) (.cons _ _ _ _ _ (.refl _) (.cons _ _ _ _ _ (.refl _) (.cons _ _ _ _ _ (.refl _) (.cons _ _ _ _ _ (.dead _) (.cons _ _ _ _ _ (.refl _) (.cons _ _ _ _ _ (.refl _) (.cons _ _ _ _ _ (.refl _) (.cons _ _ _ _ _ (.refl _) (.cons _ _ _ _ _ (.dead _) .nil)))))))))))))) (OLe.refl _)).trans (cmpS_ok rfl)) ⟨n, Nat.lt_succ_self n, _, _, h198, rfl⟩
              · refine W_sound tab_ok mixed 7 _ _ _ ?_
                simp only [go_sem, ne_eq, not_false_eq_true, Nat.reduceBEq, Nat.reduceAdd, Nat.reduceSub, Nat.reduceMul, Nat.reduceLT, Nat.reduceLeDiff, Int.reduceLE, Int.reduceLT, Int.reduceToNat, Int.cast_ofNat_Int, ↓reduceIte, h67, h70, h110, h112, h113, h117, h119, h120, h122, h123, g124, g125, g126, h158]
                repeat with_reducible refine And.intro (by kernel_rfl) ?_
                obtain rfl := Option.some.inj h198
                exact cutQ _ ((Wk_le (.cons _ _ _ _ _ (.dead _) (.cons _ _ _ _ _ (.refl _) (.cons _ _ _ _ _ (.dead _) (.cons _ _ _ _ _ (.refl _) (.cons _ _ _ _ _ (.refl _) (.cons _ _ _ _ _ (.refl _) (.cons _ _ _ _ _ (.refl _) (.cons _ _ _ _ _ (.refl _) (.cons _ _ _ _ _ (.refl _) (.cons _ _ _ _ _ (.refl _) (.cons _ _ _ _ _ (.refl _) (.cons _ _ _ _ _ (.dead _) (.cons _ _ _ _ _ (.dead _) (.cons _ _ _ _ _ (.dead _) .nil)))))))))))))) (OLe.refl _)).trans (cmpS_ok rfl)) ⟨_, rfl, rfl⟩
          · rintro _ ⟨c170, rfl, rfl⟩
            refine W_sound tab_ok mixed 1 _ _ _ ?_
            simp only [go_sem, ne_eq, not_false_eq_true, Nat.reduceBEq, Nat.reduceAdd, Nat.reduceSub, Nat.reduceMul, Nat.reduceLT, Nat.reduceLeDiff, Int.reduceLE, Int.reduceLT, Int.reduceToNat, Int.cast_ofNat_Int, ↓reduceIte, h67, h70, h110, h112, h113, h117, h119, h120, h122, h123, g124, g125, g126]
            repeat with_reducible refine And.intro (by kernel_rfl) ?_
            have hh := grd_some h199; clear h199; obtain ⟨g171, h199⟩ := hh
            refine Wp_wkK (Wk_freeze 0 c170 (by rfl) (by decide) (by decide)) rfl ?_
            simp only [go_sem, ne_eq, not_false_eq_true, Nat.reduceBEq, Nat.reduceAdd, Nat.reduceSub, Nat.reduceMul, Nat.reduceLT, Nat.reduceLeDiff, Int.reduceLE, Int.reduceLT, Int.reduceToNat, Int.cast_ofNat_Int, ↓reduceIte, h67, h70, h110, h112, h113, h117, h119, h120, h122, h123, g124, g125, g126, g171]
            have hh := bnd'_some h199; clear h199; obtain ⟨p193, h194, h199⟩ := hh
            refine W_sound tab_ok mixed 3 _ _ _ ?_
            simp only [go_sem, ne_eq, not_false_eq_true, Nat.reduceBEq, Nat.reduceAdd, Nat.reduceSub, Nat.reduceMul, Nat.reduceLT, Nat.reduceLeDiff, Int.reduceLE, Int.reduceLT, Int.reduceToNat, Int.cast_ofNat_Int, ↓reduceIte, h67, h70, h110, h112, h113, h117, h119, h120, h122, h123, g124, g125, g126, g171]
            repeat with_reducible refine And.intro (by kernel_rfl) ?_
            refine Wp_callP (c79 N _ _ h194) (by kernel_rfl) rfl rfl rfl rfl (by decide) ?_
            have hh := getI_some h199; clear h199; obtain ⟨x196, h195, h199⟩ := hh
            refine W_sound tab_ok mixed 5 _ _ _ ?_
            simp only [go_sem, ne_eq, not_false_eq_true, Nat.reduceBEq, Nat.reduceAdd, Nat.reduceSub, Nat.reduceMul, Nat.reduceLT, Nat.reduceLeDiff, Int.reduceLE, Int.reduceLT, Int.reduceToNat, Int.cast_ofNat_Int, ↓reduceIte, h67, h70, h110, h112, h113, h117, h119, h120, h122, h123, g124, g125, g126, g171, h195]
            repeat with_reducible refine And.intro (by kernel_rfl) ?_
            obtain rfl := Option.some.inj h199
            exact finC [(4, .v (.lst false n68 c170)), (5, .v (.int .i64 x196)), (6, .v (.int .i64 0))] [(4, .v (.lst false n68 c170)), (5, .v (.int .i64 x196)), (6, .v (.int .i64 0))] (by simp [leE, lk_cons]) (.cons _ _ _ _ _ (.v _ _ (.refl _)) (.cons _ _ _ _ _ (.v _ _ (.refl _)) (.cons _ _ _ _ _ (.v _ _ (.refl _)) .nil))) (by rfl) (by simp [leE, lk_cons]) (by decide) (by decide) rfl (by simp only [go_sem, ne_eq, not_false_eq_true, Nat.reduceBEq, Nat.reduceAdd, Nat.reduceSub, Nat.reduceMul, Nat.reduceLT, Nat.reduceLeDiff, Int.reduceLE, Int.reduceLT, Int.reduceToNat, Int.cast_ofNat_Int, ↓reduceIte, resQ_tmp, resQ_cell, resQ_nil, retD_one, retD_two, retD_three, retD_none]; try simp [R.val, retD_one, retD_two, retD_three, retD_none])
    · refine W_sound tab_ok mixed 21 _ _ _ ?_
      simp only [go_sem, ne_eq, not_false_eq_true, Nat.reduceBEq, Nat.reduceAdd, Nat.reduceSub, Nat.reduceMul, Nat.reduceLT, Nat.reduceLeDiff, Int.reduceLE, Int.reduceLT, Int.reduceToNat, Int.cast_ofNat_Int, ↓reduceIte, h67, h70, h110, h112, h113, h117, h119]
      repeat with_reducible refine And.intro (by kernel_rfl) ?_
      obtain rfl := Option.some.inj h
      exact finC [(4, .v .nl), (5, .v (.int .i64 0)), (6, .v (.int .i64 1))] [(4, .v (.lst false 0 [])), (5, .v (.int .i64 0)), (6, .v (.int .i64 1))] (by simp [leE, lk_cons]) (.cons _ _ _ _ _ (.v _ _ (.nl false)) (.cons _ _ _ _ _ (.v _ _ (.refl _)) (.cons _ _ _ _ _ (.v _ _ (.refl _)) .nil))) (by rfl) (by simp [leE, lk_cons]) (by decide) (by decide) rfl (by simp only [go_sem, ne_eq, not_false_eq_true, Nat.reduceBEq, Nat.reduceAdd, Nat.reduceSub, Nat.reduceMul, Nat.reduceLT, Nat.reduceLeDiff, Int.reduceLE, Int.reduceLT, Int.reduceToNat, Int.cast_ofNat_Int, ↓reduceIte, resQ_tmp, resQ_cell, resQ_nil, retD_one, retD_two, retD_three, retD_none]; try simp [R.val, retD_one, retD_two, retD_three, retD_none])

/-! breeze/turn.divisor -/
def m80 (N : Nat) : Nat → Int → Int → Option (PV)
  | 0, _, _ => none
  | fu + 1, x219, x220 =>
    brn (x220 == 0) (
      some (.int .i64 x219)) (
      grd (x220 ≠ 0) <|
      bnd' ((m80 N fu) x220 (Int.tmod x219 x220)) fun p223 =>
      getI .i64 p223 fun x226 =>
      some (.int .i64 x226))
theorem c80 (N : Nat) : ∀ (fu : Nat) (x219 : Int) (x220 : Int) (r : PV)  (h : m80 N fu x219 x220 = some r), FnP Try.prog 80 [(.int .i64 x219), (.int .i64 x220)] r := by
  intro fu
  induction fu with
  | zero => intro x219 x220 r h; cases h
  | succ fu ih =>
    intro x219 x220 r h
    rw [m80] at h
    refine Fn_of (sz := 13) tab_ok [0, 1, 4, 6] [.tmp 4] Try.func80 rfl rfl rfl (by simp) ?_
    simp only [initSt, initEnv, List.map_cons, List.map_nil, List.getD_cons_zero, List.getD_cons_succ, List.getD_nil]
    have hh := brn_some h; clear h; rcases hh with ⟨h221, h⟩ | ⟨h221, h⟩
    · refine W_sound tab_ok mixed 17 _ _ _ ?_
      simp only [go_sem, ne_eq, not_false_eq_true, Nat.reduceBEq, Nat.reduceAdd, Nat.reduceSub, Nat.reduceMul, Nat.reduceLT, Nat.reduceLeDiff, Int.reduceLE, Int.reduceLT, Int.reduceToNat, Int.cast_ofNat_Int, ↓reduceIte, h221]
      repeat with_reducible refine And.intro (by kernel_rfl) ?_
      obtain rfl := Option.some.inj h
      exact finC [(4, .v (.int .i64 x219))] [(4, .v (.int .i64 x219))] (by simp [leE, lk_cons]) (.cons _ _ _ _ _ (.v _ _ (.refl _)) .nil) (by rfl) (by simp [leE, lk_cons]) (by decide) (by decide) rfl (by simp only [go_sem, ne_eq, not_false_eq_true, Nat.reduceBEq, Nat.reduceAdd, Nat.reduceSub, Nat.reduceMul, Nat.reduceLT, Nat.reduceLeDiff, Int.reduceLE, Int.reduceLT, Int.reduceToNat, Int.cast_ofNat_Int, ↓reduceIte, resQ_tmp, resQ_cell, resQ_nil, retD_one, retD_two, retD_three, retD_none]; try simp [R.val, retD_one, retD_two, retD_three, retD_none])
    · have hh := grd_some h; clear h; obtain ⟨g222, h⟩ := hh
      have hh := bnd'_some h; clear h; obtain ⟨p223, h224, h⟩ := hh
      refine W_sound tab_ok mixed 18 _ _ _ ?_
      simp only [go_sem, ne_eq, not_false_eq_true, Nat.reduceBEq, Nat.reduceAdd, Nat.reduceSub, Nat.reduceMul, Nat.reduceLT, Nat.reduceLeDiff, Int.reduceLE, Int.reduceLT, Int.reduceToNat, Int.cast_ofNat_Int, ↓reduceIte, h221, g222]
      repeat with_reducible refine And.intro (by kernel_rfl) ?_
      refine Wp_callP (ih _ _ _ h224) (by kernel_rfl) rfl rfl rfl rfl (by decide) ?_
      have hh := getI_some h; clear h; obtain ⟨x226, h225, h⟩ := hh
      refine W_sound tab_ok mixed 3 _ _ _ ?_
      simp only [go_sem, ne_eq, not_false_eq_true, Nat.reduceBEq, Nat.reduceAdd, Nat.reduceSub, Nat.reduceMul, Nat.reduceLT, Nat.reduceLeDiff, Int.reduceLE, Int.reduceLT, Int.reduceToNat, Int.cast_ofNat_Int, ↓reduceIte, h221, g222, h225]
      repeat with_reducible refine And.intro (by kernel_rfl) ?_
      obtain rfl := Option.some.inj h
      exact finC [(4, .v (.int .i64 x226))] [(4, .v (.int .i64 x226))] (by simp [leE, lk_cons]) (.cons _ _ _ _ _ (.v _ _ (.refl _)) .nil) (by rfl) (by simp [leE, lk_cons]) (by decide) (by decide) rfl (by simp only [go_sem, ne_eq, not_false_eq_true, Nat.reduceBEq, Nat.reduceAdd, Nat.reduceSub, Nat.reduceMul, Nat.reduceLT, Nat.reduceLeDiff, Int.reduceLE, Int.reduceLT, Int.reduceToNat, Int.cast_ofNat_Int, ↓reduceIte, resQ_tmp, resQ_cell, resQ_nil, retD_one, retD_two, retD_three, retD_none]; try simp [R.val, retD_one, retD_two, retD_three, retD_none])

/-! breeze/turn.reduced -/
def m58 (N : Nat) (x216 : Int) (x217 : Int) : Option (PV) :=
  brn (decide (x217 < 0)) (
    bnd' (m80 N N (maxI (IntKind.i64.wrap (0 - x216)) (IntKind.i64.wrap (0 - (IntKind.i64.wrap (0 - x216))))) (IntKind.i64.wrap (0 - x217))) fun p227 =>
    getI .i64 p227 fun x230 =>
    grd (x230 ≠ 0) <|
    some (.agg [(.int .i64 (IntKind.i64.wrap (Int.tdiv (IntKind.i64.wrap (0 - x216)) x230))), (.int .i64 (IntKind.i64.wrap (Int.tdiv (IntKind.i64.wrap (0 - x217)) x230)))])) (
    bnd' (m80 N N (maxI x216 (IntKind.i64.wrap (0 - x216))) x217) fun p232 =>
    getI .i64 p232 fun x235 =>
    grd (x235 ≠ 0) <|
    some (.agg [(.int .i64 (IntKind.i64.wrap (Int.tdiv x216 x235))), (.int .i64 (IntKind.i64.wrap (Int.tdiv x217 x235)))]))
theorem c58 (N : Nat) (x216 : Int) (x217 : Int) (r : PV)  (h : m58 N x216 x217 = some r) : FnP Try.prog 58 [(.int .i64 x216), (.int .i64 x217)] r := by
  unfold m58 at h
  refine Fn_of (sz := 25) tab_ok [0, 1, 4, 5, 7] [.cell 4 24] Try.func58 rfl rfl rfl (by simp) ?_
  simp only [initSt, initEnv, List.map_cons, List.map_nil, List.getD_cons_zero, List.getD_cons_succ, List.getD_nil]
  have hh := brn_some h; clear h; rcases hh with ⟨h218, h⟩ | ⟨h218, h⟩
  · have hh := bnd'_some h; clear h; obtain ⟨p227, h228, h⟩ := hh
    refine W_sound tab_ok mixed 26 _ _ _ ?_
    simp only [go_sem, ne_eq, not_false_eq_true, Nat.reduceBEq, Nat.reduceAdd, Nat.reduceSub, Nat.reduceMul, Nat.reduceLT, Nat.reduceLeDiff, Int.reduceLE, Int.reduceLT, Int.reduceToNat, Int.cast_ofNat_Int, ↓reduceIte, h218]
    repeat with_reducible refine And.intro (by kernel_rfl) ?_
    refine Wp_callP (c80 N N _ _ _ h228) (by kernel_rfl) rfl rfl rfl rfl (by decide) ?_
    have hh := getI_some h; clear h; obtain ⟨x230, h229, h⟩ := hh
    have hh := grd_some h; clear h; obtain ⟨g231, h⟩ := hh
    refine W_sound tab_ok mixed 14 _ _ _ ?_
    simp only [go_sem, ne_eq, not_false_eq_true, Nat.reduceBEq, Nat.reduceAdd, Nat.reduceSub, Nat.reduceMul, Nat.reduceLT, Nat.reduceLeDiff, Int.reduceLE, Int.reduceLT, Int.reduceToNat, Int.cast_ofNat_Int, ↓reduceIte, h218, h229, g231]
    repeat with_reducible refine And.intro (by kernel_rfl) ?_
    refine FinQ_wk (Wk_freeze 4 [(.int .i64 (IntKind.i64.wrap (Int.tdiv (IntKind.i64.wrap (0 - x216)) x230))), (.int .i64 (IntKind.i64.wrap (Int.tdiv (IntKind.i64.wrap (0 - x217)) x230)))] (by rfl) (by decide) (by decide)) ?_
    simp only [go_sem, ne_eq, not_false_eq_true, Nat.reduceBEq, Nat.reduceAdd, Nat.reduceSub, Nat.reduceMul, Nat.reduceLT, Nat.reduceLeDiff, Int.reduceLE, Int.reduceLT, Int.reduceToNat, Int.cast_ofNat_Int, ↓reduceIte, h218, h229, g231]
    obtain rfl := Option.some.inj h
    exact finC [(4, .v (.ipt [(.int .i64 (IntKind.i64.wrap (Int.tdiv (IntKind.i64.wrap (0 - x216)) x230))), (.int .i64 (IntKind.i64.wrap (Int.tdiv (IntKind.i64.wrap (0 - x217)) x230)))]))] [(4, .v (.ipt [(.int .i64 (IntKind.i64.wrap (Int.tdiv (IntKind.i64.wrap (0 - x216)) x230))), (.int .i64 (IntKind.i64.wrap (Int.tdiv (IntKind.i64.wrap (0 - x217)) x230)))]))] (by simp [leE, lk_cons]) (.cons _ _ _ _ _ (.v _ _ (.refl _)) .nil) (by rfl) (by simp [leE, lk_cons]) (by decide) (by decide) rfl (by simp only [go_sem, ne_eq, not_false_eq_true, Nat.reduceBEq, Nat.reduceAdd, Nat.reduceSub, Nat.reduceMul, Nat.reduceLT, Nat.reduceLeDiff, Int.reduceLE, Int.reduceLT, Int.reduceToNat, Int.cast_ofNat_Int, ↓reduceIte, resQ_tmp, resQ_cell, resQ_nil, retD_one, retD_two, retD_three, retD_none]; try simp [R.val, retD_one, retD_two, retD_three, retD_none])
  · have hh := bnd'_some h; clear h; obtain ⟨p232, h233, h⟩ := hh
    refine W_sound tab_ok mixed 19 _ _ _ ?_
    simp only [go_sem, ne_eq, not_false_eq_true, Nat.reduceBEq, Nat.reduceAdd, Nat.reduceSub, Nat.reduceMul, Nat.reduceLT, Nat.reduceLeDiff, Int.reduceLE, Int.reduceLT, Int.reduceToNat, Int.cast_ofNat_Int, ↓reduceIte, h218]
    repeat with_reducible refine And.intro (by kernel_rfl) ?_
    refine Wp_callP (c80 N N _ _ _ h233) (by kernel_rfl) rfl rfl rfl rfl (by decide) ?_
    have hh := getI_some h; clear h; obtain ⟨x235, h234, h⟩ := hh
    have hh := grd_some h; clear h; obtain ⟨g236, h⟩ := hh
    refine W_sound tab_ok mixed 14 _ _ _ ?_
    simp only [go_sem, ne_eq, not_false_eq_true, Nat.reduceBEq, Nat.reduceAdd, Nat.reduceSub, Nat.reduceMul, Nat.reduceLT, Nat.reduceLeDiff, Int.reduceLE, Int.reduceLT, Int.reduceToNat, Int.cast_ofNat_Int, ↓reduceIte, h218, h234, g236]
    repeat with_reducible refine And.intro (by kernel_rfl) ?_
    refine FinQ_wk (Wk_freeze 4 [(.int .i64 (IntKind.i64.wrap (Int.tdiv x216 x235))), (.int .i64 (IntKind.i64.wrap (Int.tdiv x217 x235)))] (by rfl) (by decide) (by decide)) ?_
    simp only [go_sem, ne_eq, not_false_eq_true, Nat.reduceBEq, Nat.reduceAdd, Nat.reduceSub, Nat.reduceMul, Nat.reduceLT, Nat.reduceLeDiff, Int.reduceLE, Int.reduceLT, Int.reduceToNat, Int.cast_ofNat_Int, ↓reduceIte, h218, h234, g236]
    obtain rfl := Option.some.inj h
    exact finC [(4, .v (.ipt [(.int .i64 (IntKind.i64.wrap (Int.tdiv x216 x235))), (.int .i64 (IntKind.i64.wrap (Int.tdiv x217 x235)))]))] [(4, .v (.ipt [(.int .i64 (IntKind.i64.wrap (Int.tdiv x216 x235))), (.int .i64 (IntKind.i64.wrap (Int.tdiv x217 x235)))]))] (by simp [leE, lk_cons]) (.cons _ _ _ _ _ (.v _ _ (.refl _)) .nil) (by rfl) (by simp [leE, lk_cons]) (by decide) (by decide) rfl (by simp only [go_sem, ne_eq, not_false_eq_true, Nat.reduceBEq, Nat.reduceAdd, Nat.reduceSub, Nat.reduceMul, Nat.reduceLT, Nat.reduceLeDiff, Int.reduceLE, Int.reduceLT, Int.reduceToNat, Int.cast_ofNat_Int, ↓reduceIte, resQ_tmp, resQ_cell, resQ_nil, retD_one, retD_two, retD_three, retD_none]; try simp [R.val, retD_one, retD_two, retD_three, retD_none])

/-! breeze/turn.Worth -/
def m17 (N : Nat) (p57 : PV) (p58 : PV) : Option (PV) :=
  getL p57 fun n60 c61 =>
  getA2 p58 fun p63 p64 =>
  bnd' (m57 N (.lst false n60 c61) (.agg [p63, p64])) fun p200 =>
  getT3 p200 fun p203 p204 p205 =>
  getL p203 fun n207 c208 =>
  getI .i64 p204 fun x210 =>
  getI .i64 p205 fun x212 =>
  brn (x212 != 0) (
    some (.tup [(.agg [(.int .i64 0), (.int .i64 0)]), (.int .i64 x212)])) (
    getI .i64 p64 fun x215 =>
    bnd' (m58 N x210 x215) fun p237 =>
    getA2 p237 fun p240 p241 =>
    some (.tup [(.agg [p240, p241]), (.int .i64 0)]))
theorem c17 (N : Nat) (p57 : PV) (p58 : PV) (r : PV)  (h : m17 N p57 p58 = some r) : FnP Try.prog 17 [p57, p58] r := by
  unfold m17 at h
  refine Fn_of (sz := 24) tab_ok [0, 1, 3, 4, 5, 7, 8, 17] [.cell 4 24, .tmp 5] Try.func17 rfl rfl rfl (by simp) ?_
  simp only [initSt, initEnv, List.map_cons, List.map_nil, List.getD_cons_zero, List.getD_cons_succ, List.getD_nil]
  have hh := getL_some h; clear h; obtain ⟨n60, c61, h59, h⟩ := hh
  have hh := getA2_some h; clear h; obtain ⟨p63, p64, h62, h⟩ := hh
  have hh := bnd'_some h; clear h; obtain ⟨p200, h201, h⟩ := hh
  refine W_sound tab_ok mixed 10 _ _ _ ?_
  simp only [go_sem, ne_eq, not_false_eq_true, Nat.reduceBEq, Nat.reduceAdd, Nat.reduceSub, Nat.reduceMul, Nat.reduceLT, Nat.reduceLeDiff, Int.reduceLE, Int.reduceLT, Int.reduceToNat, Int.cast_ofNat_Int, ↓reduceIte, h59, h62]
  repeat with_reducible refine And.intro (by kernel_rfl) ?_
  refine Wp_callP (c57 N _ _ _ h201) (by kernel_rfl) rfl rfl rfl rfl (by decide) ?_
  have hh := getT3_some h; clear h; obtain ⟨p203, p204, p205, h202, h⟩ := hh
  have hh := getL_some h; clear h; obtain ⟨n207, c208, h206, h⟩ := hh
  have hh := getI_some h; clear h; obtain ⟨x210, h209, h⟩ := hh
  have hh := getI_some h; clear h; obtain ⟨x212, h211, h⟩ := hh
  have hh := brn_some h; clear h; rcases hh with ⟨h213, h⟩ | ⟨h213, h⟩
  · refine W_sound tab_ok mixed 23 _ _ _ ?_
    simp only [go_sem, ne_eq, not_false_eq_true, Nat.reduceBEq, Nat.reduceAdd, Nat.reduceSub, Nat.reduceMul, Nat.reduceLT, Nat.reduceLeDiff, Int.reduceLE, Int.reduceLT, Int.reduceToNat, Int.cast_ofNat_Int, ↓reduceIte, h59, h62, h202, h206, h209, h211, h213]
    repeat with_reducible refine And.intro (by kernel_rfl) ?_
    refine FinQ_wk (Wk_freeze 4 [(.int .i64 0), (.int .i64 0)] (by rfl) (by decide) (by decide)) ?_
    simp only [go_sem, ne_eq, not_false_eq_true, Nat.reduceBEq, Nat.reduceAdd, Nat.reduceSub, Nat.reduceMul, Nat.reduceLT, Nat.reduceLeDiff, Int.reduceLE, Int.reduceLT, Int.reduceToNat, Int.cast_ofNat_Int, ↓reduceIte, h59, h62, h202, h206, h209, h211, h213]
    obtain rfl := Option.some.inj h
    exact finC [(4, .v (.ipt [(.int .i64 0), (.int .i64 0)])), (5, .v (.int .i64 x212))] [(4, .v (.ipt [(.int .i64 0), (.int .i64 0)])), (5, .v (.int .i64 x212))] (by simp [leE, lk_cons]) (.cons _ _ _ _ _ (.v _ _ (.refl _)) (.cons _ _ _ _ _ (.v _ _ (.refl _)) .nil)) (by rfl) (by simp [leE, lk_cons]) (by decide) (by decide) rfl (by simp only [go_sem, ne_eq, not_false_eq_true, Nat.reduceBEq, Nat.reduceAdd, Nat.reduceSub, Nat.reduceMul, Nat.reduceLT, Nat.reduceLeDiff, Int.reduceLE, Int.reduceLT, Int.reduceToNat, Int.cast_ofNat_Int, ↓reduceIte, resQ_tmp, resQ_cell, resQ_nil, retD_one, retD_two, retD_three, retD_none]; try simp [R.val, retD_one, retD_two, retD_three, retD_none])
  · have hh := getI_some h; clear h; obtain ⟨x215, h214, h⟩ := hh
    have hh := bnd'_some h; clear h; obtain ⟨p237, h238, h⟩ := hh
    refine W_sound tab_ok mixed 21 _ _ _ ?_
    simp only [go_sem, ne_eq, not_false_eq_true, Nat.reduceBEq, Nat.reduceAdd, Nat.reduceSub, Nat.reduceMul, Nat.reduceLT, Nat.reduceLeDiff, Int.reduceLE, Int.reduceLT, Int.reduceToNat, Int.cast_ofNat_Int, ↓reduceIte, h59, h62, h202, h206, h209, h211, h213, h214]
    repeat with_reducible refine And.intro (by kernel_rfl) ?_
    refine Wp_callP (c58 N _ _ _ h238) (by kernel_rfl) rfl rfl rfl rfl (by decide) ?_
    have hh := getA2_some h; clear h; obtain ⟨p240, p241, h239, h⟩ := hh
    refine W_sound tab_ok mixed 4 _ _ _ ?_
    simp only [go_sem, ne_eq, not_false_eq_true, Nat.reduceBEq, Nat.reduceAdd, Nat.reduceSub, Nat.reduceMul, Nat.reduceLT, Nat.reduceLeDiff, Int.reduceLE, Int.reduceLT, Int.reduceToNat, Int.cast_ofNat_Int, ↓reduceIte, h59, h62, h202, h206, h209, h211, h213, h214, h239]
    repeat with_reducible refine And.intro (by kernel_rfl) ?_
    refine FinQ_wk (Wk_freeze 4 [p240, p241] (by rfl) (by decide) (by decide)) ?_
    simp only [go_sem, ne_eq, not_false_eq_true, Nat.reduceBEq, Nat.reduceAdd, Nat.reduceSub, Nat.reduceMul, Nat.reduceLT, Nat.reduceLeDiff, Int.reduceLE, Int.reduceLT, Int.reduceToNat, Int.cast_ofNat_Int, ↓reduceIte, h59, h62, h202, h206, h209, h211, h213, h214, h239]
    obtain rfl := Option.some.inj h
    exact finC [(4, .v (.ipt [p240, p241])), (5, .v (.int .i64 0))] [(4, .v (.ipt [p240, p241])), (5, .v (.int .i64 0))] (by simp [leE, lk_cons]) (.cons _ _ _ _ _ (.v _ _ (.refl _)) (.cons _ _ _ _ _ (.v _ _ (.refl _)) .nil)) (by rfl) (by simp [leE, lk_cons]) (by decide) (by decide) rfl (by simp only [go_sem, ne_eq, not_false_eq_true, Nat.reduceBEq, Nat.reduceAdd, Nat.reduceSub, Nat.reduceMul, Nat.reduceLT, Nat.reduceLeDiff, Int.reduceLE, Int.reduceLT, Int.reduceToNat, Int.cast_ofNat_Int, ↓reduceIte, resQ_tmp, resQ_cell, resQ_nil, retD_one, retD_two, retD_three, retD_none]; try simp [R.val, retD_one, retD_two, retD_three, retD_none])

/-! breeze/breezeref12.in -/
def m64 (N : Nat) (x281 : Int) (x282 : Int) (x283 : Int) : Option (PV) :=
  brn (decide (x281 ≥ x282)) (
    some (.bool (decide (x281 ≤ x283)))) (
    some (.bool false))
theorem c64 (N : Nat) (x281 : Int) (x282 : Int) (x283 : Int) (r : PV)  (h : m64 N x281 x282 x283 = some r) : FnP Try.prog 64 [(.int .i64 x281), (.int .i64 x282), (.int .i64 x283)] r := by
  unfold m64 at h
  refine Fn_of (sz := 15) tab_ok [0, 1, 2, 6] [.tmp 6] Try.func64 rfl rfl rfl (by simp) ?_
  simp only [initSt, initEnv, List.map_cons, List.map_nil, List.getD_cons_zero, List.getD_cons_succ, List.getD_nil]
  have hh := brn_some h; clear h; rcases hh with ⟨h284, h⟩ | ⟨h284, h⟩
  · refine W_sound tab_ok mixed 17 _ _ _ ?_
    simp only [go_sem, ne_eq, not_false_eq_true, Nat.reduceBEq, Nat.reduceAdd, Nat.reduceSub, Nat.reduceMul, Nat.reduceLT, Nat.reduceLeDiff, Int.reduceLE, Int.reduceLT, Int.reduceToNat, Int.cast_ofNat_Int, ↓reduceIte, h284]
    repeat with_reducible refine And.intro (by kernel_rfl) ?_
    obtain rfl := Option.some.inj h
    exact finC [(6, .v (.bool (decide (x281 ≤ x283))))] [(6, .v (.bool (decide (x281 ≤ x283))))] (by simp [leE, lk_cons]) (.cons _ _ _ _ _ (.v _ _ (.refl _)) .nil) (by rfl) (by simp [leE, lk_cons]) (by decide) (by decide) rfl (by simp only [go_sem, ne_eq, not_false_eq_true, Nat.reduceBEq, Nat.reduceAdd, Nat.reduceSub, Nat.reduceMul, Nat.reduceLT, Nat.reduceLeDiff, Int.reduceLE, Int.reduceLT, Int.reduceToNat, Int.cast_ofNat_Int, ↓reduceIte, resQ_tmp, resQ_cell, resQ_nil, retD_one, retD_two, retD_three, retD_none]; try simp [R.val, retD_one, retD_two, retD_three, retD_none])
  · refine W_sound tab_ok mixed 17 _ _ _ ?_
    simp only [go_sem, ne_eq, not_false_eq_true, Nat.reduceBEq, Nat.reduceAdd, Nat.reduceSub, Nat.reduceMul, Nat.reduceLT, Nat.reduceLeDiff, Int.reduceLE, Int.reduceLT, Int.reduceToNat, Int.cast_ofNat_Int, ↓reduceIte, h284]
    repeat with_reducible refine And.intro (by kernel_rfl) ?_
    obtain rfl := Option.some.inj h
    exact finC [(6, .v (.bool false))] [(6, .v (.bool false))] (by simp [leE, lk_cons]) (.cons _ _ _ _ _ (.v _ _ (.refl _)) .nil) (by rfl) (by simp [leE, lk_cons]) (by decide) (by decide) rfl (by simp only [go_sem, ne_eq, not_false_eq_true, Nat.reduceBEq, Nat.reduceAdd, Nat.reduceSub, Nat.reduceMul, Nat.reduceLT, Nat.reduceLeDiff, Int.reduceLE, Int.reduceLT, Int.reduceToNat, Int.cast_ofNat_Int, ↓reduceIte, resQ_tmp, resQ_cell, resQ_nil, retD_one, retD_two, retD_three, retD_none]; try simp [R.val, retD_one, retD_two, retD_three, retD_none])

/-! breeze/breezeref12.Check -/
def m23_L0 (N : Nat) (n270 : Nat) (c271 : List PV) : Nat → Int → Option ((PV ⊕ Unit))
  | 0, _ => none
  | n + 1, x274 =>
    brn (decide (x274 < ((n270 : Nat) : Int))) (
      grd (0 ≤ x274 ∧ x274 < ((n270 : Nat) : Int)) <|
      grd (0 < List.length (List.drop ((Int.toNat x274) * 2) c271)) <|
      getI .i64 (gp c271 ((Int.toNat x274) * 2)) fun x280 =>
      bnd' (m64 N x280 (-100) 100) fun p285 =>
      getB p285 fun b288 =>
      brn b288 (
        grd (0 < List.length (List.drop 1 (List.drop ((Int.toNat x274) * 2) c271))) <|
        getI .i64 (gp c271 (((Int.toNat x274) * 2) + 1)) fun x292 =>
        bnd' (m64 N x292 (-10) 10) fun p293 =>
        getB p293 fun b296 =>
        brn b296 (
          m23_L0 N n270 c271 n (IntKind.i64.wrap (x274 + 1))) (
          some (.inl (.int .i64 1)))) (
        some (.inl (.int .i64 1)))) (
      some (.inr ()))
def m23 (N : Nat) (p268 : PV) : Option (PV) :=
  getL p268 fun n270 c271 =>
  brn (((n270 : Nat) : Int) == 0) (
    some (.int .i64 4)) (
    brn (decide (((n270 : Nat) : Int) > 8)) (
      some (.int .i64 3)) (
      bnd' (m23_L0 N n270 c271 N 0) fun o =>
      match o with
      | .inl p298 =>
        some p298
      | .inr () =>
        some (.int .i64 0)))
theorem c23 (N : Nat) (p268 : PV) (r : PV)  (h : m23 N p268 = some r) : FnP Try.prog 23 [p268] r := by
  unfold m23 at h
  refine Fn_of (sz := 32) tab_ok [0, 2, 3, 6, 9, 13, 31] [.tmp 2] Try.func23 rfl rfl rfl (by simp) ?_
  simp only [initSt, initEnv, List.map_cons, List.map_nil, List.getD_cons_zero, List.getD_cons_succ, List.getD_nil]
  have hh := getL_some h; clear h; obtain ⟨n270, c271, h269, h⟩ := hh
  have hh := brn_some h; clear h; rcases hh with ⟨h272, h⟩ | ⟨h272, h⟩
  · refine W_sound tab_ok mixed 17 _ _ _ ?_
    simp only [go_sem, ne_eq, not_false_eq_true, Nat.reduceBEq, Nat.reduceAdd, Nat.reduceSub, Nat.reduceMul, Nat.reduceLT, Nat.reduceLeDiff, Int.reduceLE, Int.reduceLT, Int.reduceToNat, Int.cast_ofNat_Int, ↓reduceIte, h269, h272]
    repeat with_reducible refine And.intro (by kernel_rfl) ?_
    obtain rfl := Option.some.inj h
    exact finC [(2, .v (.int .i64 4))] [(2, .v (.int .i64 4))] (by simp [leE, lk_cons]) (.cons _ _ _ _ _ (.v _ _ (.refl _)) .nil) (by rfl) (by simp [leE, lk_cons]) (by decide) (by decide) rfl (by simp only [go_sem, ne_eq, not_false_eq_true, Nat.reduceBEq, Nat.reduceAdd, Nat.reduceSub, Nat.reduceMul, Nat.reduceLT, Nat.reduceLeDiff, Int.reduceLE, Int.reduceLT, Int.reduceToNat, Int.cast_ofNat_Int, ↓reduceIte, resQ_tmp, resQ_cell, resQ_nil, retD_one, retD_two, retD_three, retD_none]; try simp [R.val, retD_one, retD_two, retD_three, retD_none])
  · have hh := brn_some h; clear h; rcases hh with ⟨h273, h⟩ | ⟨h273, h⟩
    · refine W_sound tab_ok mixed 26 _ _ _ ?_
      simp only [go_sem, ne_eq, not_false_eq_true, Nat.reduceBEq, Nat.reduceAdd, Nat.reduceSub, Nat.reduceMul, Nat.reduceLT, Nat.reduceLeDiff, Int.reduceLE, Int.reduceLT, Int.reduceToNat, Int.cast_ofNat_Int, ↓reduceIte, h269, h272, h273]
      repeat with_reducible refine And.intro (by kernel_rfl) ?_
      obtain rfl := Option.some.inj h
      exact finC [(2, .v (.int .i64 3))] [(2, .v (.int .i64 3))] (by simp [leE, lk_cons]) (.cons _ _ _ _ _ (.v _ _ (.refl _)) .nil) (by rfl) (by simp [leE, lk_cons]) (by decide) (by decide) rfl (by simp only [go_sem, ne_eq, not_false_eq_true, Nat.reduceBEq, Nat.reduceAdd, Nat.reduceSub, Nat.reduceMul, Nat.reduceLT, Nat.reduceLeDiff, Int.reduceLE, Int.reduceLT, Int.reduceToNat, Int.cast_ofNat_Int, ↓reduceIte, resQ_tmp, resQ_cell, resQ_nil, retD_one, retD_two, retD_three, retD_none]; try simp [R.val, retD_one, retD_two, retD_three, retD_none])
    · refine W_sound tab_ok mixed 27 _ _ _ ?_
      simp only [go_sem, ne_eq, not_false_eq_true, Nat.reduceBEq, Nat.reduceAdd, Nat.reduceSub, Nat.reduceMul, Nat.reduceLT, Nat.reduceLeDiff, Int.reduceLE, Int.reduceLT, Int.reduceToNat, Int.cast_ofNat_Int, ↓reduceIte, h269, h272, h273]
      repeat with_reducible refine And.intro (by kernel_rfl) ?_
      have hh := bnd'_some h; clear h; obtain ⟨o299, h300, h301⟩ := hh
      refine Wp_cut (fun s => (.inr ()) = o299 ∧ s = ⟨[], [(0, .dead), (2, .dead), (3, .dead), (6, .dead), (9, .dead), (13, .dead), (31, .dead)], [], 0, []⟩) ?_ ?_
      · refine Wp_block ?_
        refine Wp_loopG (fun n s => ∃ x274, m23_L0 N n270 c271 n x274 = some o299 ∧ s = ⟨[], [(0, .v (.lst false n270 c271)), (2, .dead), (3, .v (.int .i64 x274)), (6, .dead), (9, .dead), (13, .dead), (31, .dead)], [], 0, []⟩) N _ ((Wk_le (.cons _ _ _ _ _ (.refl _) (.cons _ _ _ _ _ (.dead _) (.cons _ _ _ _ _ (.refl _) (.cons _ _ _ _ _ (.dead _) (.cons _ _ _ _ _ (.dead _) (.cons _ _ _ _ _ (.refl _) (.cons _ _ _ _ _ (.refl _) .nil))))))) (OLe.refl _)).trans (cmpS_ok rfl)) ⟨_, h300, rfl⟩ ?_
        clear h300
        rintro n _ ⟨x274, h300, rfl⟩
        cases n with
        | zero => cases h300
        | succ n =>
          rw [m23_L0] at h300
          have hh := brn_some h300; clear h300; rcases hh with ⟨h275, h300⟩ | ⟨h275, h300⟩
          · have hh := grd_some h300; clear h300; obtain ⟨⟨g276, g277⟩, h300⟩ := hh
            have hh := grd_some h300; clear h300; obtain ⟨g278, h300⟩ := hh
            have hh := getI_some h300; clear h300; obtain ⟨x280, h279, h300⟩ := hh
            have hh := bnd'_some h300; clear h300; obtain ⟨p285, h286, h300⟩ := hh
            refine W_sound tab_ok mixed 19 _ _ _ ?_
            simp only [go_sem, ne_eq, not_false_eq_true, Nat.reduceBEq, Nat.reduceAdd, Nat.reduceSub, Nat.reduceMul, Nat.reduceLT, Nat.reduceLeDiff, Int.reduceLE, Int.reduceLT, Int.reduceToNat, Int.cast_ofNat_Int, ↓reduceIte, h269, h272, h273, h275, g276, g277, g278, h279]
            repeat with_reducible refine And.intro (by kernel_rfl) ?_
            refine Wp_callP (c64 N _ _ _ _ h286) (by kernel_rfl) rfl rfl rfl rfl (by decide) ?_
            have hh := getB_some h300; clear h300; obtain ⟨b288, h287, h300⟩ := hh
            have hh := brn_some h300; clear h300; rcases hh with ⟨h289, h300⟩ | ⟨h289, h300⟩
            · have hh := grd_some h300; clear h300; obtain ⟨g290, h300⟩ := hh
              have hh := getI_some h300; clear h300; obtain ⟨x292, h291, h300⟩ := hh
              have hh := bnd'_some h300; clear h300; obtain ⟨p293, h294, h300⟩ := hh
              refine W_sound tab_ok mixed 7 _ _ _ ?_
              simp only [go_sem, ne_eq, not_false_eq_true, Nat.reduceBEq, Nat.reduceAdd, Nat.reduceSub, Nat.reduceMul, Nat.reduceLT, Nat.reduceLeDiff, Int.reduceLE, Int.reduceLT, Int.reduceToNat, Int.cast_ofNat_Int, ↓reduceIte, h269, h272, h273, h275, g276, g277, g278, h279, h287, h289, g290, h291]
              repeat with_reducible refine And.intro (by kernel_rfl) ?_
              refine Wp_callP (c64 N _ _ _ _ h294) (by kernel_rfl) rfl rfl rfl rfl (by decide) ?_
              have hh := getB_some h300; clear h300; obtain ⟨b296, h295, h300⟩ := hh
              have hh := brn_some h300; clear h300; rcases hh with ⟨h297, h300⟩ | ⟨h297, h300⟩
              · refine W_sound tab_ok mixed 11 _ _ _ ?_
                simp only [go_sem, ne_eq, not_false_eq_true, Nat.reduceBEq, Nat.reduceAdd, Nat.reduceSub, Nat.reduceMul, Nat.reduceLT, Nat.reduceLeDiff, Int.reduceLE, Int.reduceLT, Int.reduceToNat, Int.cast_ofNat_Int, ↓reduceIte, h269, h272, h273, h275, g276, g277, g278, h279, h287, h289, g290, h291, h295, h297]
                repeat with_reducible refine And.intro (by kernel_rfl) ?_
                exact cutQ _ ((Wk_le (.cons _ _ _ _ _ (.refl _) (.cons _ _ _ _ _ (.refl _) (.cons _ _ _ _ _ (.refl _) (.cons _ _ _ _ _ (.refl _) (.cons _ _ _ _ _ (.refl _) (.cons _ _ _ _ _ (.dead _) (.cons _ _ _ _ _ (.dead _) .nil))))))) (OLe.refl _)).trans (cmpS_ok rfl)) ⟨n, Nat.lt_succ_self n, _, h300, rfl⟩
              · refine W_sound tab_ok mixed 9 _ _ _ ?_
                simp only [go_sem, ne_eq, not_false_eq_true, Nat.reduceBEq, Nat.reduceAdd, Nat.reduceSub, Nat.reduceMul, Nat.reduceLT, Nat.reduceLeDiff, Int.reduceLE, Int.reduceLT, Int.reduceToNat, Int.cast_ofNat_Int, ↓reduceIte, h269, h272, h273, h275, g276, g277, g278, h279, h287, h289, g290, h291, h295, h297]
                repeat with_reducible refine And.intro (by kernel_rfl) ?_
                obtain rfl := Option.some.inj h300
                (try dsimp only at h301)
                obtain rfl := Option.some.inj h301
                exact finC [(2, .v (.int .i64 1))] [(2, .v (.int .i64 1))] (by simp [leE, lk_cons]) (.cons _ _ _ _ _ (.v _ _ (.refl _)) .nil) (by rfl) (by simp [leE, lk_cons]) (by decide) (by decide) rfl (by simp only [go_sem, ne_eq, not_false_eq_true, Nat.reduceBEq, Nat.reduceAdd, Nat.reduceSub, Nat.reduceMul, Nat.reduceLT, Nat.reduceLeDiff, Int.reduceLE, Int.reduceLT, Int.reduceToNat, Int.cast_ofNat_Int, ↓reduceIte, resQ_tmp, resQ_cell, resQ_nil, retD_one, retD_two, retD_three, retD_none]; try simp [R.val, retD_one, retD_two, retD_three, retD_none])
            · refine W_sound tab_ok mixed 17 _ _ _ ?_
              simp only [go_sem, ne_eq, not_false_eq_true, Nat.reduceBEq, Nat.reduceAdd, Nat.reduceSub, Nat.reduceMul, Nat.reduceLT, Nat.reduceLeDiff, Int.reduceLE, Int.reduceLT, Int.reduceToNat, Int.cast_ofNat_Int, ↓reduceIte, h269, h272, h273, h275, g276, g277, g278, h279, h287, h289]
              repeat with_reducible refine And.intro (by kernel_rfl) ?_
              obtain rfl := Option.some.inj h300
              (try dsimp only at h301)
              obtain rfl := Option.some.inj h301
              exact finC [(2, .v (.int .i64 1))] [(2, .v (.int .i64 1))] (by simp [leE, lk_cons]) (.cons _ _ _ _ _ (.v _ _ (.refl _)) .nil) (by rfl) (by simp [leE, lk_cons]) (by decide) (by decide) rfl (by simp only [go_sem, ne_eq, not_false_eq_true, Nat.reduceBEq, Nat.reduceAdd, Nat.reduceSub, Nat.reduceMul, Nat.reduceLT, Nat.reduceLeDiff, Int.reduceLE, Int.reduceLT, Int.reduceToNat, Int.cast_ofNat_Int, ↓reduceIte, resQ_tmp, resQ_cell, resQ_nil, retD_one, retD_two, retD_three, retD_none]; try simp [R.val, retD_one, retD_two, retD_three, retD_none])
          · refine W_sound tab_ok mixed 10 _ _ _ ?_
            simp only [go_sem, ne_eq, not_false_eq_true, Nat.reduceBEq, Nat.reduceAdd, Nat.reduceSub, Nat.reduceMul, Nat.reduceLT, Nat.reduceLeDiff, Int.reduceLE, Int.reduceLT, Int.reduceToNat, Int.cast_ofNat_Int, ↓reduceIte, h269, h272, h273, h275]
            repeat with_reducible refine And.intro (by kernel_rfl) ?_
            obtain rfl := Option.some.inj h300
            exact cutQ _ ((Wk_le (.cons _ _ _ _ _ (.dead _) (.cons _ _ _ _ _ (.refl _) (.cons _ _ _ _ _ (.dead _) (.cons _ _ _ _ _ (.refl _) (.cons _ _ _ _ _ (.refl _) (.cons _ _ _ _ _ (.dead _) (.cons _ _ _ _ _ (.refl _) .nil))))))) (OLe.refl _)).trans (cmpS_ok rfl)) ⟨rfl, rfl⟩
      · rintro _ ⟨rfl, rfl⟩
        (try dsimp only at h301)
        refine W_sound tab_ok mixed 5 _ _ _ ?_
        simp only [go_sem, ne_eq, not_false_eq_true, Nat.reduceBEq, Nat.reduceAdd, Nat.reduceSub, Nat.reduceMul, Nat.reduceLT, Nat.reduceLeDiff, Int.reduceLE, Int.reduceLT, Int.reduceToNat, Int.cast_ofNat_Int, ↓reduceIte, h269, h272, h273]
        repeat with_reducible refine And.intro (by kernel_rfl) ?_
        obtain rfl := Option.some.inj h301
        exact finC [(2, .v (.int .i64 0))] [(2, .v (.int .i64 0))] (by simp [leE, lk_cons]) (.cons _ _ _ _ _ (.v _ _ (.refl _)) .nil) (by rfl) (by simp [leE, lk_cons]) (by decide) (by decide) rfl (by simp only [go_sem, ne_eq, not_false_eq_true, Nat.reduceBEq, Nat.reduceAdd, Nat.reduceSub, Nat.reduceMul, Nat.reduceLT, Nat.reduceLeDiff, Int.reduceLE, Int.reduceLT, Int.reduceToNat, Int.cast_ofNat_Int, ↓reduceIte, resQ_tmp, resQ_cell, resQ_nil, retD_one, retD_two, retD_three, retD_none]; try simp [R.val, retD_one, retD_two, retD_three, retD_none])

/-! breeze/breezeref12.priced -/
def m59 (N : Nat) (p260 : PV) (p261 : PV) : Option (PV) :=
  getL p260 fun n263 c264 =>
  getA2 p261 fun p266 p267 =>
  bnd' (m23 N (.lst false n263 c264)) fun p302 =>
  getI .i64 p302 fun x305 =>
  brn (x305 == 0) (
    getI .i64 p266 fun x308 =>
    bnd' (m64 N x308 (-1000) 1000) fun p309 =>
    getB p309 fun b312 =>
    brn b312 (
      getI .i64 p267 fun x315 =>
      bnd' (m64 N x315 1 1000) fun p316 =>
      getB p316 fun b319 =>
      brn b319 (
        some (.int .i64 x305)) (
        some (.int .i64 1))) (
      some (.int .i64 1))) (
    some (.int .i64 x305))
theorem c59 (N : Nat) (p260 : PV) (p261 : PV) (r : PV)  (h : m59 N p260 p261 = some r) : FnP Try.prog 59 [p260, p261] r := by
  unfold m59 at h
  refine Fn_of (sz := 23) tab_ok [0, 1, 3, 4, 5, 21] [.tmp 4] Try.func59 rfl rfl rfl (by simp) ?_
  simp only [initSt, initEnv, List.map_cons, List.map_nil, List.getD_cons_zero, List.getD_cons_succ, List.getD_nil]
  have hh := getL_some h; clear h; obtain ⟨n263, c264, h262, h⟩ := hh
  have hh := getA2_some h; clear h; obtain ⟨p266, p267, h265, h⟩ := hh
  have hh := bnd'_some h; clear h; obtain ⟨p302, h303, h⟩ := hh
  refine W_sound tab_ok mixed 8 _ _ _ ?_
  simp only [go_sem, ne_eq, not_false_eq_true, Nat.reduceBEq, Nat.reduceAdd, Nat.reduceSub, Nat.reduceMul, Nat.reduceLT, Nat.reduceLeDiff, Int.reduceLE, Int.reduceLT, Int.reduceToNat, Int.cast_ofNat_Int, ↓reduceIte, h262, h265]
  repeat with_reducible refine And.intro (by kernel_rfl) ?_
  refine Wp_callP (c23 N _ _ h303) (by kernel_rfl) rfl rfl rfl rfl (by decide) ?_
  have hh := getI_some h; clear h; obtain ⟨x305, h304, h⟩ := hh
  have hh := brn_some h; clear h; rcases hh with ⟨h306, h⟩ | ⟨h306, h⟩
  · have hh := getI_some h; clear h; obtain ⟨x308, h307, h⟩ := hh
    have hh := bnd'_some h; clear h; obtain ⟨p309, h310, h⟩ := hh
    refine W_sound tab_ok mixed 10 _ _ _ ?_
    simp only [go_sem, ne_eq, not_false_eq_true, Nat.reduceBEq, Nat.reduceAdd, Nat.reduceSub, Nat.reduceMul, Nat.reduceLT, Nat.reduceLeDiff, Int.reduceLE, Int.reduceLT, Int.reduceToNat, Int.cast_ofNat_Int, ↓reduceIte, h262, h265, h304, h306, h307]
    repeat with_reducible refine And.intro (by kernel_rfl) ?_
    refine Wp_callP (c64 N _ _ _ _ h310) (by kernel_rfl) rfl rfl rfl rfl (by decide) ?_
    have hh := getB_some h; clear h; obtain ⟨b312, h311, h⟩ := hh
    have hh := brn_some h; clear h; rcases hh with ⟨h313, h⟩ | ⟨h313, h⟩
    · have hh := getI_some h; clear h; obtain ⟨x315, h314, h⟩ := hh
      have hh := bnd'_some h; clear h; obtain ⟨p316, h317, h⟩ := hh
      refine W_sound tab_ok mixed 4 _ _ _ ?_
      simp only [go_sem, ne_eq, not_false_eq_true, Nat.reduceBEq, Nat.reduceAdd, Nat.reduceSub, Nat.reduceMul, Nat.reduceLT, Nat.reduceLeDiff, Int.reduceLE, Int.reduceLT, Int.reduceToNat, Int.cast_ofNat_Int, ↓reduceIte, h262, h265, h304, h306, h307, h311, h313, h314]
      repeat with_reducible refine And.intro (by kernel_rfl) ?_
      refine Wp_callP (c64 N _ _ _ _ h317) (by kernel_rfl) rfl rfl rfl rfl (by decide) ?_
      have hh := getB_some h; clear h; obtain ⟨b319, h318, h⟩ := hh
      have hh := brn_some h; clear h; rcases hh with ⟨h320, h⟩ | ⟨h320, h⟩
      · refine W_sound tab_ok mixed 12 _ _ _ ?_
        simp only [go_sem, ne_eq, not_false_eq_true, Nat.reduceBEq, Nat.reduceAdd, Nat.reduceSub, Nat.reduceMul, Nat.reduceLT, Nat.reduceLeDiff, Int.reduceLE, Int.reduceLT, Int.reduceToNat, Int.cast_ofNat_Int, ↓reduceIte, h262, h265, h304, h306, h307, h311, h313, h314, h318, h320]
        repeat with_reducible refine And.intro (by kernel_rfl) ?_
        obtain rfl := Option.some.inj h
        exact finC [(4, .v (.int .i64 x305))] [(4, .v (.int .i64 x305))] (by simp [leE, lk_cons]) (.cons _ _ _ _ _ (.v _ _ (.refl _)) .nil) (by rfl) (by simp [leE, lk_cons]) (by decide) (by decide) rfl (by simp only [go_sem, ne_eq, not_false_eq_true, Nat.reduceBEq, Nat.reduceAdd, Nat.reduceSub, Nat.reduceMul, Nat.reduceLT, Nat.reduceLeDiff, Int.reduceLE, Int.reduceLT, Int.reduceToNat, Int.cast_ofNat_Int, ↓reduceIte, resQ_tmp, resQ_cell, resQ_nil, retD_one, retD_two, retD_three, retD_none]; try simp [R.val, retD_one, retD_two, retD_three, retD_none])
      · refine W_sound tab_ok mixed 14 _ _ _ ?_
        simp only [go_sem, ne_eq, not_false_eq_true, Nat.reduceBEq, Nat.reduceAdd, Nat.reduceSub, Nat.reduceMul, Nat.reduceLT, Nat.reduceLeDiff, Int.reduceLE, Int.reduceLT, Int.reduceToNat, Int.cast_ofNat_Int, ↓reduceIte, h262, h265, h304, h306, h307, h311, h313, h314, h318, h320]
        repeat with_reducible refine And.intro (by kernel_rfl) ?_
        obtain rfl := Option.some.inj h
        exact finC [(4, .v (.int .i64 1))] [(4, .v (.int .i64 1))] (by simp [leE, lk_cons]) (.cons _ _ _ _ _ (.v _ _ (.refl _)) .nil) (by rfl) (by simp [leE, lk_cons]) (by decide) (by decide) rfl (by simp only [go_sem, ne_eq, not_false_eq_true, Nat.reduceBEq, Nat.reduceAdd, Nat.reduceSub, Nat.reduceMul, Nat.reduceLT, Nat.reduceLeDiff, Int.reduceLE, Int.reduceLT, Int.reduceToNat, Int.cast_ofNat_Int, ↓reduceIte, resQ_tmp, resQ_cell, resQ_nil, retD_one, retD_two, retD_three, retD_none]; try simp [R.val, retD_one, retD_two, retD_three, retD_none])
    · refine W_sound tab_ok mixed 19 _ _ _ ?_
      simp only [go_sem, ne_eq, not_false_eq_true, Nat.reduceBEq, Nat.reduceAdd, Nat.reduceSub, Nat.reduceMul, Nat.reduceLT, Nat.reduceLeDiff, Int.reduceLE, Int.reduceLT, Int.reduceToNat, Int.cast_ofNat_Int, ↓reduceIte, h262, h265, h304, h306, h307, h311, h313]
      repeat with_reducible refine And.intro (by kernel_rfl) ?_
      obtain rfl := Option.some.inj h
      exact finC [(4, .v (.int .i64 1))] [(4, .v (.int .i64 1))] (by simp [leE, lk_cons]) (.cons _ _ _ _ _ (.v _ _ (.refl _)) .nil) (by rfl) (by simp [leE, lk_cons]) (by decide) (by decide) rfl (by simp only [go_sem, ne_eq, not_false_eq_true, Nat.reduceBEq, Nat.reduceAdd, Nat.reduceSub, Nat.reduceMul, Nat.reduceLT, Nat.reduceLeDiff, Int.reduceLE, Int.reduceLT, Int.reduceToNat, Int.cast_ofNat_Int, ↓reduceIte, resQ_tmp, resQ_cell, resQ_nil, retD_one, retD_two, retD_three, retD_none]; try simp [R.val, retD_one, retD_two, retD_three, retD_none])
  · refine W_sound tab_ok mixed 28 _ _ _ ?_
    simp only [go_sem, ne_eq, not_false_eq_true, Nat.reduceBEq, Nat.reduceAdd, Nat.reduceSub, Nat.reduceMul, Nat.reduceLT, Nat.reduceLeDiff, Int.reduceLE, Int.reduceLT, Int.reduceToNat, Int.cast_ofNat_Int, ↓reduceIte, h262, h265, h304, h306]
    repeat with_reducible refine And.intro (by kernel_rfl) ?_
    obtain rfl := Option.some.inj h
    exact finC [(4, .v (.int .i64 x305))] [(4, .v (.int .i64 x305))] (by simp [leE, lk_cons]) (.cons _ _ _ _ _ (.v _ _ (.refl _)) .nil) (by rfl) (by simp [leE, lk_cons]) (by decide) (by decide) rfl (by simp only [go_sem, ne_eq, not_false_eq_true, Nat.reduceBEq, Nat.reduceAdd, Nat.reduceSub, Nat.reduceMul, Nat.reduceLT, Nat.reduceLeDiff, Int.reduceLE, Int.reduceLT, Int.reduceToNat, Int.cast_ofNat_Int, ↓reduceIte, resQ_tmp, resQ_cell, resQ_nil, retD_one, retD_two, retD_three, retD_none]; try simp [R.val, retD_one, retD_two, retD_three, retD_none])

/-! breeze/breezeref12.worth -/
def m62 (N : Nat) (p339 : PV) (p340 : PV) : Option (PV) :=
  getA2 p339 fun p342 p343 =>
  getA2 p340 fun p345 p346 =>
  getI .i64 p342 fun x348 =>
  getI .i64 p346 fun x350 =>
  getI .i64 p343 fun x352 =>
  getI .i64 p345 fun x354 =>
  some (.int .i64 (IntKind.i64.wrap ((IntKind.i64.wrap (x348 * x350)) + (IntKind.i64.wrap (x352 * x354)))))
theorem c62 (N : Nat) (p339 : PV) (p340 : PV) (r : PV)  (h : m62 N p339 p340 = some r) : FnP Try.prog 62 [p339, p340] r := by
  unfold m62 at h
  refine Fn_of (sz := 16) tab_ok [0, 1, 2, 3, 4] [.tmp 4] Try.func62 rfl rfl rfl (by simp) ?_
  simp only [initSt, initEnv, List.map_cons, List.map_nil, List.getD_cons_zero, List.getD_cons_succ, List.getD_nil]
  have hh := getA2_some h; clear h; obtain ⟨p342, p343, h341, h⟩ := hh
  have hh := getA2_some h; clear h; obtain ⟨p345, p346, h344, h⟩ := hh
  have hh := getI_some h; clear h; obtain ⟨x348, h347, h⟩ := hh
  have hh := getI_some h; clear h; obtain ⟨x350, h349, h⟩ := hh
  have hh := getI_some h; clear h; obtain ⟨x352, h351, h⟩ := hh
  have hh := getI_some h; clear h; obtain ⟨x354, h353, h⟩ := hh
  refine W_sound tab_ok mixed 22 _ _ _ ?_
  simp only [go_sem, ne_eq, not_false_eq_true, Nat.reduceBEq, Nat.reduceAdd, Nat.reduceSub, Nat.reduceMul, Nat.reduceLT, Nat.reduceLeDiff, Int.reduceLE, Int.reduceLT, Int.reduceToNat, Int.cast_ofNat_Int, ↓reduceIte, h341, h344, h347, h349, h351, h353]
  repeat with_reducible refine And.intro (by kernel_rfl) ?_
  obtain rfl := Option.some.inj h
  exact finC [(4, .v (.int .i64 (IntKind.i64.wrap ((IntKind.i64.wrap (x348 * x350)) + (IntKind.i64.wrap (x352 * x354))))))] [(4, .v (.int .i64 (IntKind.i64.wrap ((IntKind.i64.wrap (x348 * x350)) + (IntKind.i64.wrap (x352 * x354))))))] (by simp [leE, lk_cons]) (.cons _ _ _ _ _ (.v _ _ (.refl _)) .nil) (by rfl) (by simp [leE, lk_cons]) (by decide) (by decide) rfl (by simp only [go_sem, ne_eq, not_false_eq_true, Nat.reduceBEq, Nat.reduceAdd, Nat.reduceSub, Nat.reduceMul, Nat.reduceLT, Nat.reduceLeDiff, Int.reduceLE, Int.reduceLT, Int.reduceToNat, Int.cast_ofNat_Int, ↓reduceIte, resQ_tmp, resQ_cell, resQ_nil, retD_one, retD_two, retD_three, retD_none]; try simp [R.val, retD_one, retD_two, retD_three, retD_none])

/-! breeze/breezeref12.most -/
def m61_L0 (N : Nat) (n329 : Nat) (c330 : List PV) (p332 : PV) (p333 : PV) : Nat → Int → Int → Option (Int)
  | 0, _, _ => none
  | n + 1, x359, x360 =>
    brn (decide (x360 < ((n329 : Nat) : Int))) (
      grd (0 ≤ x360 ∧ x360 < ((n329 : Nat) : Int)) <|
      grd (2 ≤ List.length (List.drop ((Int.toNat x360) * 2) c330)) <|
      getA2 (.agg (List.take 2 (List.drop ((Int.toNat x360) * 2) c330))) fun p366 p367 =>
      bnd' (m62 N (.agg [p366, p367]) (.agg [p332, p333])) fun p368 =>
      getI .i64 p368 fun x371 =>
      m61_L0 N n329 c330 p332 p333 n (maxI x359 x371) (IntKind.i64.wrap (x360 + 1))) (
      some x359)
def m61 (N : Nat) (p326 : PV) (p327 : PV) : Option (PV) :=
  getL p326 fun n329 c330 =>
  getA2 p327 fun p332 p333 =>
  grd (0 < ((n329 : Nat) : Int)) <|
  grd (2 ≤ List.length c330) <|
  getA2 (.agg (List.take 2 c330)) fun p337 p338 =>
  bnd' (m62 N (.agg [p337, p338]) (.agg [p332, p333])) fun p355 =>
  getI .i64 p355 fun x358 =>
  bnd' (m61_L0 N n329 c330 p332 p333 N x358 1) fun x372 =>
  some (.int .i64 x372)
theorem c61 (N : Nat) (p326 : PV) (p327 : PV) (r : PV)  (h : m61 N p326 p327 = some r) : FnP Try.prog 61 [p326, p327] r := by
  unfold m61 at h
  refine Fn_of (sz := 27) tab_ok [0, 1, 3, 4, 5, 6, 15] [.tmp 4] Try.func61 rfl rfl rfl (by simp) ?_
  simp only [initSt, initEnv, List.map_cons, List.map_nil, List.getD_cons_zero, List.getD_cons_succ, List.getD_nil]
  have hh := getL_some h; clear h; obtain ⟨n329, c330, h328, h⟩ := hh
  have hh := getA2_some h; clear h; obtain ⟨p332, p333, h331, h⟩ := hh
  have hh := grd_some h; clear h; obtain ⟨g334, h⟩ := hh
  have hh := grd_some h; clear h; obtain ⟨g335, h⟩ := hh
  have hh := getA2_some h; clear h; obtain ⟨p337, p338, h336, h⟩ := hh
  injection h336 with h336
  have hh := bnd'_some h; clear h; obtain ⟨p355, h356, h⟩ := hh
  refine W_sound tab_ok mixed 11 _ _ _ ?_
  simp only [go_sem, ne_eq, not_false_eq_true, Nat.reduceBEq, Nat.reduceAdd, Nat.reduceSub, Nat.reduceMul, Nat.reduceLT, Nat.reduceLeDiff, Int.reduceLE, Int.reduceLT, Int.reduceToNat, Int.cast_ofNat_Int, ↓reduceIte, h328, h331, g334, g335, h336]
  repeat with_reducible refine And.intro (by kernel_rfl) ?_
  refine Wp_callP (c62 N _ _ _ h356) (by kernel_rfl) rfl rfl rfl rfl (by decide) ?_
  have hh := getI_some h; clear h; obtain ⟨x358, h357, h⟩ := hh
  refine W_sound tab_ok mixed 7 _ _ _ ?_
  simp only [go_sem, ne_eq, not_false_eq_true, Nat.reduceBEq, Nat.reduceAdd, Nat.reduceSub, Nat.reduceMul, Nat.reduceLT, Nat.reduceLeDiff, Int.reduceLE, Int.reduceLT, Int.reduceToNat, Int.cast_ofNat_Int, ↓reduceIte, h328, h331, g334, g335, h336, h357]
  repeat with_reducible refine And.intro (by kernel_rfl) ?_
  have hh := bnd'_some h; clear h; obtain ⟨o373, h374, h375⟩ := hh
  refine Wp_cut (fun s => ∃ x372, x372 = o373 ∧ s = ⟨[], [(0, .dead), (1, .dead), (3, .dead), (4, .dead), (5, .v (.int .i64 x372)), (6, .dead), (15, .dead)], [], 0, []⟩) ?_ ?_
  · refine Wp_block ?_
    refine Wp_loopG (fun n s => ∃ x359, ∃ x360, m61_L0 N n329 c330 p332 p333 n x359 x360 = some o373 ∧ s = ⟨[], [(0, .v (.lst false n329 c330)), (1, .dead), (3, .ptr 0 0), (4, .dead), (5, .v (.int .i64 x359)), (6, .v (.int .i64 x360)), (15, .dead)], [(0, .p [p332, p333])], 1, []⟩) N _ ((Wk_le (.cons _ _ _ _ _ (.refl _) (.cons _ _ _ _ _ (.dead _) (.cons _ _ _ _ _ (.refl _) (.cons _ _ _ _ _ (.dead _) (.cons _ _ _ _ _ (.refl _) (.cons _ _ _ _ _ (.refl _) (.cons _ _ _ _ _ (.refl _) .nil))))))) (OLe.refl _)).trans (cmpS_ok rfl)) ⟨_, _, h374, rfl⟩ ?_
    clear h374
    rintro n _ ⟨x359, x360, h374, rfl⟩
    cases n with
    | zero => cases h374
    | succ n =>
      rw [m61_L0] at h374
      have hh := brn_some h374; clear h374; rcases hh with ⟨h361, h374⟩ | ⟨h361, h374⟩
      · have hh := grd_some h374; clear h374; obtain ⟨⟨g362, g363⟩, h374⟩ := hh
        have hh := grd_some h374; clear h374; obtain ⟨g364, h374⟩ := hh
        have hh := getA2_some h374; clear h374; obtain ⟨p366, p367, h365, h374⟩ := hh
        injection h365 with h365
        have hh := bnd'_some h374; clear h374; obtain ⟨p368, h369, h374⟩ := hh
        refine W_sound tab_ok mixed 19 _ _ _ ?_
        simp only [go_sem, ne_eq, not_false_eq_true, Nat.reduceBEq, Nat.reduceAdd, Nat.reduceSub, Nat.reduceMul, Nat.reduceLT, Nat.reduceLeDiff, Int.reduceLE, Int.reduceLT, Int.reduceToNat, Int.cast_ofNat_Int, ↓reduceIte, h328, h331, g334, g335, h336, h357, h361, g362, g363, g364, h365]
        repeat with_reducible refine And.intro (by kernel_rfl) ?_
        refine Wp_callP (c62 N _ _ _ h369) (by kernel_rfl) rfl rfl rfl rfl (by decide) ?_
        have hh := getI_some h374; clear h374; obtain ⟨x371, h370, h374⟩ := hh
        refine W_sound tab_ok mixed 9 _ _ _ ?_
        simp only [go_sem, ne_eq, not_false_eq_true, Nat.reduceBEq, Nat.reduceAdd, Nat.reduceSub, Nat.reduceMul, Nat.reduceLT, Nat.reduceLeDiff, Int.reduceLE, Int.reduceLT, Int.reduceToNat, Int.cast_ofNat_Int, ↓reduceIte, h328, h331, g334, g335, h336, h357, h361, g362, g363, g364, h365, h370]
        repeat with_reducible refine And.intro (by kernel_rfl) ?_
        exact cutQ _ ((Wk_le (.cons _ _ _ _ _ (.refl _) (.cons _ _ _ _ _ (.refl _) (.cons _ _ _ _ _ (.refl _) (.cons _ _ _ _ _ (.refl _) (.cons _ _ _ _ _ (.refl _) (.cons _ _ _ _ _ (.refl _) (.cons _ _ _ _ _ (.dead _) .nil))))))) (OLe.refl _)).trans (cmpS_ok rfl)) ⟨n, Nat.lt_succ_self n, _, _, h374, rfl⟩
      · refine W_sound tab_ok mixed 10 _ _ _ ?_
        simp only [go_sem, ne_eq, not_false_eq_true, Nat.reduceBEq, Nat.reduceAdd, Nat.reduceSub, Nat.reduceMul, Nat.reduceLT, Nat.reduceLeDiff, Int.reduceLE, Int.reduceLT, Int.reduceToNat, Int.cast_ofNat_Int, ↓reduceIte, h328, h331, g334, g335, h336, h357, h361]
        repeat with_reducible refine And.intro (by kernel_rfl) ?_
        obtain rfl := Option.some.inj h374
        exact cutQ _ ((Wk_le (.cons _ _ _ _ _ (.dead _) (.cons _ _ _ _ _ (.refl _) (.cons _ _ _ _ _ (.dead _) (.cons _ _ _ _ _ (.refl _) (.cons _ _ _ _ _ (.refl _) (.cons _ _ _ _ _ (.dead _) (.cons _ _ _ _ _ (.dead _) .nil))))))) (OLe.refl _)).trans (cmpS_ok rfl)) ⟨_, rfl, rfl⟩
  · rintro _ ⟨x372, rfl, rfl⟩
    refine W_sound tab_ok mixed 6 _ _ _ ?_
    simp only [go_sem, ne_eq, not_false_eq_true, Nat.reduceBEq, Nat.reduceAdd, Nat.reduceSub, Nat.reduceMul, Nat.reduceLT, Nat.reduceLeDiff, Int.reduceLE, Int.reduceLT, Int.reduceToNat, Int.cast_ofNat_Int, ↓reduceIte, h328, h331, g334, g335, h336, h357]
    repeat with_reducible refine And.intro (by kernel_rfl) ?_
    obtain rfl := Option.some.inj h375
    exact finC [(4, .v (.int .i64 x372))] [(4, .v (.int .i64 x372))] (by simp [leE, lk_cons]) (.cons _ _ _ _ _ (.v _ _ (.refl _)) .nil) (by rfl) (by simp [leE, lk_cons]) (by decide) (by decide) rfl (by simp only [go_sem, ne_eq, not_false_eq_true, Nat.reduceBEq, Nat.reduceAdd, Nat.reduceSub, Nat.reduceMul, Nat.reduceLT, Nat.reduceLeDiff, Int.reduceLE, Int.reduceLT, Int.reduceToNat, Int.cast_ofNat_Int, ↓reduceIte, resQ_tmp, resQ_cell, resQ_nil, retD_one, retD_two, retD_three, retD_none]; try simp [R.val, retD_one, retD_two, retD_three, retD_none])

/-! breeze/breezeref12.lowest -/
def m60_L0 (N : Nat) (x382 : Int) (x383 : Int) : Nat → Int → Int → Option (Int)
  | 0, _, _ => none
  | n + 1, x385, x386 =>
    brn (decide (x386 > 0)) (
      grd (x386 ≠ 0) <|
      m60_L0 N x382 x383 n x386 (Int.tmod x385 x386)) (
      some x385)
def m60_L1 (N : Nat) (x382 : Int) (x383 : Int) : Nat → Int → Int → Option (Int)
  | 0, _, _ => none
  | n + 1, x391, x392 =>
    brn (decide (x392 > 0)) (
      grd (x392 ≠ 0) <|
      m60_L1 N x382 x383 n x392 (Int.tmod x391 x392)) (
      some x391)
def m60 (N : Nat) (x382 : Int) (x383 : Int) : Option (PV) :=
  brn (decide (x383 < 0)) (
    bnd' (m60_L0 N x382 x383 N (maxI (IntKind.i64.wrap (0 - x382)) (IntKind.i64.wrap (0 - (IntKind.i64.wrap (0 - x382))))) (IntKind.i64.wrap (0 - x383))) fun x389 =>
    grd (x389 ≠ 0) <|
    some (.agg [(.int .i64 (IntKind.i64.wrap (Int.tdiv (IntKind.i64.wrap (0 - x382)) x389))), (.int .i64 (IntKind.i64.wrap (Int.tdiv (IntKind.i64.wrap (0 - x383)) x389)))])) (
    bnd' (m60_L1 N x382 x383 N (maxI x382 (IntKind.i64.wrap (0 - x382))) x383) fun x395 =>
    grd (x395 ≠ 0) <|
    some (.agg [(.int .i64 (IntKind.i64.wrap (Int.tdiv x382 x395))), (.int .i64 (IntKind.i64.wrap (Int.tdiv x383 x395)))]))
theorem c60 (N : Nat) (x382 : Int) (x383 : Int) (r : PV)  (h : m60 N x382 x383 = some r) : FnP Try.prog 60 [(.int .i64 x382), (.int .i64 x383)] r := by
  unfold m60 at h
  refine Fn_of (sz := 31) tab_ok [0, 1, 4, 5, 6, 8, 19] [.cell 4 28] Try.func60 rfl rfl rfl (by simp) ?_
  simp only [initSt, initEnv, List.map_cons, List.map_nil, List.getD_cons_zero, List.getD_cons_succ, List.getD_nil]
  have hh := brn_some h; clear h; rcases hh with ⟨h384, h⟩ | ⟨h384, h⟩
  · refine W_sound tab_ok mixed 30 _ _ _ ?_
    simp only [go_sem, ne_eq, not_false_eq_true, Nat.reduceBEq, Nat.reduceAdd, Nat.reduceSub, Nat.reduceMul, Nat.reduceLT, Nat.reduceLeDiff, Int.reduceLE, Int.reduceLT, Int.reduceToNat, Int.cast_ofNat_Int, ↓reduceIte, h384]
    repeat with_reducible refine And.intro (by kernel_rfl) ?_
    have hh := bnd'_some h; clear h; obtain ⟨o397, h398, h399⟩ := hh
    refine Wp_cut (fun s => ∃ x389, x389 = o397 ∧ s = ⟨[], [(0, .v (.int .i64 (IntKind.i64.wrap (0 - x382)))), (1, .v (.int .i64 (IntKind.i64.wrap (0 - x383)))), (4, .ptr 0 0), (5, .v (.int .i64 x389)), (6, .dead), (8, .dead), (19, .dead)], [(0, .p [(.int .i64 0), (.int .i64 0)])], 1, []⟩) ?_ ?_
    · refine Wp_block ?_
      refine Wp_loopG (fun n s => ∃ x385, ∃ x386, m60_L0 N x382 x383 n x385 x386 = some o397 ∧ s = ⟨[], [(0, .v (.int .i64 (IntKind.i64.wrap (0 - x382)))), (1, .v (.int .i64 (IntKind.i64.wrap (0 - x383)))), (4, .ptr 0 0), (5, .v (.int .i64 x385)), (6, .v (.int .i64 x386)), (8, .dead), (19, .dead)], [(0, .p [(.int .i64 0), (.int .i64 0)])], 1, []⟩) N _ ((Wk_le (.cons _ _ _ _ _ (.refl _) (.cons _ _ _ _ _ (.refl _) (.cons _ _ _ _ _ (.refl _) (.cons _ _ _ _ _ (.refl _) (.cons _ _ _ _ _ (.refl _) (.cons _ _ _ _ _ (.dead _) (.cons _ _ _ _ _ (.refl _) .nil))))))) (OLe.refl _)).trans (cmpS_ok rfl)) ⟨_, _, h398, rfl⟩ ?_
      clear h398
      rintro n _ ⟨x385, x386, h398, rfl⟩
      cases n with
      | zero => cases h398
      | succ n =>
        rw [m60_L0] at h398
        have hh := brn_some h398; clear h398; rcases hh with ⟨h387, h398⟩ | ⟨h387, h398⟩
        · have hh := grd_some h398; clear h398; obtain ⟨g388, h398⟩ := hh
          refine W_sound tab_ok mixed 18 _ _ _ ?_
          simp only [go_sem, ne_eq, not_false_eq_true, Nat.reduceBEq, Nat.reduceAdd, Nat.reduceSub, Nat.reduceMul, Nat.reduceLT, Nat.reduceLeDiff, Int.reduceLE, Int.reduceLT, Int.reduceToNat, Int.cast_ofNat_Int, ↓reduceIte, h384, h387, g388]
          repeat with_reducible refine And.intro (by kernel_rfl) ?_
          exact cutQ _ ((Wk_le (.cons _ _ _ _ _ (.refl _) (.cons _ _ _ _ _ (.refl _) (.cons _ _ _ _ _ (.refl _) (.cons _ _ _ _ _ (.refl _) (.cons _ _ _ _ _ (.refl _) (.cons _ _ _ _ _ (.refl _) (.cons _ _ _ _ _ (.dead _) .nil))))))) (OLe.refl _)).trans (cmpS_ok rfl)) ⟨n, Nat.lt_succ_self n, _, _, h398, rfl⟩
        · refine W_sound tab_ok mixed 8 _ _ _ ?_
          simp only [go_sem, ne_eq, not_false_eq_true, Nat.reduceBEq, Nat.reduceAdd, Nat.reduceSub, Nat.reduceMul, Nat.reduceLT, Nat.reduceLeDiff, Int.reduceLE, Int.reduceLT, Int.reduceToNat, Int.cast_ofNat_Int, ↓reduceIte, h384, h387]
          repeat with_reducible refine And.intro (by kernel_rfl) ?_
          obtain rfl := Option.some.inj h398
          exact cutQ _ ((Wk_le (.cons _ _ _ _ _ (.refl _) (.cons _ _ _ _ _ (.refl _) (.cons _ _ _ _ _ (.refl _) (.cons _ _ _ _ _ (.refl _) (.cons _ _ _ _ _ (.dead _) (.cons _ _ _ _ _ (.refl _) (.cons _ _ _ _ _ (.dead _) .nil))))))) (OLe.refl _)).trans (cmpS_ok rfl)) ⟨_, rfl, rfl⟩
    · rintro _ ⟨x389, rfl, rfl⟩
      have hh := grd_some h399; clear h399; obtain ⟨g390, h399⟩ := hh
      refine W_sound tab_ok mixed 12 _ _ _ ?_
      simp only [go_sem, ne_eq, not_false_eq_true, Nat.reduceBEq, Nat.reduceAdd, Nat.reduceSub, Nat.reduceMul, Nat.reduceLT, Nat.reduceLeDiff, Int.reduceLE, Int.reduceLT, Int.reduceToNat, Int.cast_ofNat_Int, ↓reduceIte, h384, g390]
      repeat with_reducible refine And.intro (by kernel_rfl) ?_
      refine FinQ_wk (Wk_freeze 0 [(.int .i64 (IntKind.i64.wrap (Int.tdiv (IntKind.i64.wrap (0 - x382)) x389))), (.int .i64 (IntKind.i64.wrap (Int.tdiv (IntKind.i64.wrap (0 - x383)) x389)))] (by rfl) (by decide) (by decide)) ?_
      simp only [go_sem, ne_eq, not_false_eq_true, Nat.reduceBEq, Nat.reduceAdd, Nat.reduceSub, Nat.reduceMul, Nat.reduceLT, Nat.reduceLeDiff, Int.reduceLE, Int.reduceLT, Int.reduceToNat, Int.cast_ofNat_Int, ↓reduceIte, h384, g390]
      obtain rfl := Option.some.inj h399
      exact finC [(4, .v (.ipt [(.int .i64 (IntKind.i64.wrap (Int.tdiv (IntKind.i64.wrap (0 - x382)) x389))), (.int .i64 (IntKind.i64.wrap (Int.tdiv (IntKind.i64.wrap (0 - x383)) x389)))]))] [(4, .v (.ipt [(.int .i64 (IntKind.i64.wrap (Int.tdiv (IntKind.i64.wrap (0 - x382)) x389))), (.int .i64 (IntKind.i64.wrap (Int.tdiv (IntKind.i64.wrap (0 - x383)) x389)))]))] (by simp [leE, lk_cons]) (.cons _ _ _ _ _ (.v _ _ (.refl _)) .nil) (by rfl) (by simp [leE, lk_cons]) (by decide) (by decide) rfl (by simp only [go_sem, ne_eq, not_false_eq_true, Nat.reduceBEq, Nat.reduceAdd, Nat.reduceSub, Nat.reduceMul, Nat.reduceLT, Nat.reduceLeDiff, Int.reduceLE, Int.reduceLT, Int.reduceToNat, Int.cast_ofNat_Int, ↓reduceIte, resQ_tmp, resQ_cell, resQ_nil, retD_one, retD_two, retD_three, retD_none]; try simp [R.val, retD_one, retD_two, retD_three, retD_none])
  · refine W_sound tab_ok mixed 23 _ _ _ ?_
    simp only [go_sem, ne_eq, not_false_eq_true, Nat.reduceBEq, Nat.reduceAdd, Nat.reduceSub, Nat.reduceMul, Nat.reduceLT, Nat.reduceLeDiff, Int.reduceLE, Int.reduceLT, Int.reduceToNat, Int.cast_ofNat_Int, ↓reduceIte, h384]
    repeat with_reducible refine And.intro (by kernel_rfl) ?_
    have hh := bnd'_some h; clear h; obtain ⟨o400, h401, h402⟩ := hh
    refine Wp_cut (fun s => ∃ x395, x395 = o400 ∧ s = ⟨[], [(0, .v (.int .i64 x382)), (1, .v (.int .i64 x383)), (4, .ptr 0 0), (5, .v (.int .i64 x395)), (6, .dead), (8, .dead), (19, .dead)], [(0, .p [(.int .i64 0), (.int .i64 0)])], 1, []⟩) ?_ ?_
    · refine Wp_block ?_
      refine Wp_loopG (fun n s => ∃ x391, ∃ x392, m60_L1 N x382 x383 n x391 x392 = some o400 ∧ s = ⟨[], [(0, .v (.int .i64 x382)), (1, .v (.int .i64 x383)), (4, .ptr 0 0), (5, .v (.int .i64 x391)), (6, .v (.int .i64 x392)), (8, .dead), (19, .dead)], [(0, .p [(.int .i64 0), (.int .i64 0)])], 1, []⟩) N _ ((Wk_le (.cons _ _ _ _ _ (.refl _) (.cons _ _ _ _ _ (.refl _) (.cons _ _ _ _ _ (.refl _) (.cons _ _ _ _ _ (.refl _) (.cons _ _ _ _ _ (.refl _) (.cons _ _ _ _ _ (.dead _) (.cons _ _ _ _ _ (.refl _) .nil))))))) (OLe.refl _)).trans (cmpS_ok rfl)) ⟨_, _, h401, rfl⟩ ?_
      clear h401
      rintro n _ ⟨x391, x392, h401, rfl⟩
      cases n with
      | zero => cases h401
      | succ n =>
        rw [m60_L1] at h401
        have hh := brn_some h401; clear h401; rcases hh with ⟨h393, h401⟩ | ⟨h393, h401⟩
        · have hh := grd_some h401; clear h401; obtain ⟨g394, h401⟩ := hh
          refine W_sound tab_ok mixed 18 _ _ _ ?_
          simp only [go_sem, ne_eq, not_false_eq_true, Nat.reduceBEq, Nat.reduceAdd, Nat.reduceSub, Nat.reduceMul, Nat.reduceLT, Nat.reduceLeDiff, Int.reduceLE, Int.reduceLT, Int.reduceToNat, Int.cast_ofNat_Int, ↓reduceIte, h384, h393, g394]
          repeat with_reducible refine And.intro (by kernel_rfl) ?_
          exact cutQ _ ((Wk_le (.cons _ _ _ _ _ (.refl _) (.cons _ _ _ _ _ (.refl _) (.cons _ _ _ _ _ (.refl _) (.cons _ _ _ _ _ (.refl _) (.cons _ _ _ _ _ (.refl _) (.cons _ _ _ _ _ (.refl _) (.cons _ _ _ _ _ (.dead _) .nil))))))) (OLe.refl _)).trans (cmpS_ok rfl)) ⟨n, Nat.lt_succ_self n, _, _, h401, rfl⟩
        · refine W_sound tab_ok mixed 8 _ _ _ ?_
          simp only [go_sem, ne_eq, not_false_eq_true, Nat.reduceBEq, Nat.reduceAdd, Nat.reduceSub, Nat.reduceMul, Nat.reduceLT, Nat.reduceLeDiff, Int.reduceLE, Int.reduceLT, Int.reduceToNat, Int.cast_ofNat_Int, ↓reduceIte, h384, h393]
          repeat with_reducible refine And.intro (by kernel_rfl) ?_
          obtain rfl := Option.some.inj h401
          exact cutQ _ ((Wk_le (.cons _ _ _ _ _ (.refl _) (.cons _ _ _ _ _ (.refl _) (.cons _ _ _ _ _ (.refl _) (.cons _ _ _ _ _ (.refl _) (.cons _ _ _ _ _ (.dead _) (.cons _ _ _ _ _ (.refl _) (.cons _ _ _ _ _ (.dead _) .nil))))))) (OLe.refl _)).trans (cmpS_ok rfl)) ⟨_, rfl, rfl⟩
    · rintro _ ⟨x395, rfl, rfl⟩
      have hh := grd_some h402; clear h402; obtain ⟨g396, h402⟩ := hh
      refine W_sound tab_ok mixed 12 _ _ _ ?_
      simp only [go_sem, ne_eq, not_false_eq_true, Nat.reduceBEq, Nat.reduceAdd, Nat.reduceSub, Nat.reduceMul, Nat.reduceLT, Nat.reduceLeDiff, Int.reduceLE, Int.reduceLT, Int.reduceToNat, Int.cast_ofNat_Int, ↓reduceIte, h384, g396]
      repeat with_reducible refine And.intro (by kernel_rfl) ?_
      refine FinQ_wk (Wk_freeze 0 [(.int .i64 (IntKind.i64.wrap (Int.tdiv x382 x395))), (.int .i64 (IntKind.i64.wrap (Int.tdiv x383 x395)))] (by rfl) (by decide) (by decide)) ?_
      simp only [go_sem, ne_eq, not_false_eq_true, Nat.reduceBEq, Nat.reduceAdd, Nat.reduceSub, Nat.reduceMul, Nat.reduceLT, Nat.reduceLeDiff, Int.reduceLE, Int.reduceLT, Int.reduceToNat, Int.cast_ofNat_Int, ↓reduceIte, h384, g396]
      obtain rfl := Option.some.inj h402
      exact finC [(4, .v (.ipt [(.int .i64 (IntKind.i64.wrap (Int.tdiv x382 x395))), (.int .i64 (IntKind.i64.wrap (Int.tdiv x383 x395)))]))] [(4, .v (.ipt [(.int .i64 (IntKind.i64.wrap (Int.tdiv x382 x395))), (.int .i64 (IntKind.i64.wrap (Int.tdiv x383 x395)))]))] (by simp [leE, lk_cons]) (.cons _ _ _ _ _ (.v _ _ (.refl _)) .nil) (by rfl) (by simp [leE, lk_cons]) (by decide) (by decide) rfl (by simp only [go_sem, ne_eq, not_false_eq_true, Nat.reduceBEq, Nat.reduceAdd, Nat.reduceSub, Nat.reduceMul, Nat.reduceLT, Nat.reduceLeDiff, Int.reduceLE, Int.reduceLT, Int.reduceToNat, Int.cast_ofNat_Int, ↓reduceIte, resQ_tmp, resQ_cell, resQ_nil, retD_one, retD_two, retD_three, retD_none]; try simp [R.val, retD_one, retD_two, retD_three, retD_none])

/-! breeze/breezeref12.Worth -/
def m18 (N : Nat) (p252 : PV) (p253 : PV) : Option (PV) :=
  getL p252 fun n255 c256 =>
  getA2 p253 fun p258 p259 =>
  bnd' (m59 N (.lst false n255 c256) (.agg [p258, p259])) fun p321 =>
  getI .i64 p321 fun x324 =>
  brn (x324 != 0) (
    some (.tup [(.agg [(.int .i64 0), (.int .i64 0)]), (.int .i64 x324)])) (
    bnd' (m61 N (.lst false n255 c256) (.agg [p258, p259])) fun p376 =>
    getI .i64 p376 fun x379 =>
    getI .i64 p259 fun x381 =>
    bnd' (m60 N x379 x381) fun p403 =>
    getA2 p403 fun p406 p407 =>
    some (.tup [(.agg [p406, p407]), (.int .i64 0)]))
theorem c18 (N : Nat) (p252 : PV) (p253 : PV) (r : PV)  (h : m18 N p252 p253 = some r) : FnP Try.prog 18 [p252, p253] r := by
  unfold m18 at h
  refine Fn_of (sz := 20) tab_ok [0, 1, 3, 4, 5, 6, 11] [.cell 4 28, .tmp 5] Try.func18 rfl rfl rfl (by simp) ?_
  simp only [initSt, initEnv, List.map_cons, List.map_nil, List.getD_cons_zero, List.getD_cons_succ, List.getD_nil]
  have hh := getL_some h; clear h; obtain ⟨n255, c256, h254, h⟩ := hh
  have hh := getA2_some h; clear h; obtain ⟨p258, p259, h257, h⟩ := hh
  have hh := bnd'_some h; clear h; obtain ⟨p321, h322, h⟩ := hh
  refine W_sound tab_ok mixed 10 _ _ _ ?_
  simp only [go_sem, ne_eq, not_false_eq_true, Nat.reduceBEq, Nat.reduceAdd, Nat.reduceSub, Nat.reduceMul, Nat.reduceLT, Nat.reduceLeDiff, Int.reduceLE, Int.reduceLT, Int.reduceToNat, Int.cast_ofNat_Int, ↓reduceIte, h254, h257]
  repeat with_reducible refine And.intro (by kernel_rfl) ?_
  refine Wp_callP (c59 N _ _ _ h322) (by kernel_rfl) rfl rfl rfl rfl (by decide) ?_
  have hh := getI_some h; clear h; obtain ⟨x324, h323, h⟩ := hh
  have hh := brn_some h; clear h; rcases hh with ⟨h325, h⟩ | ⟨h325, h⟩
  · refine W_sound tab_ok mixed 17 _ _ _ ?_
    simp only [go_sem, ne_eq, not_false_eq_true, Nat.reduceBEq, Nat.reduceAdd, Nat.reduceSub, Nat.reduceMul, Nat.reduceLT, Nat.reduceLeDiff, Int.reduceLE, Int.reduceLT, Int.reduceToNat, Int.cast_ofNat_Int, ↓reduceIte, h254, h257, h323, h325]
    repeat with_reducible refine And.intro (by kernel_rfl) ?_
    refine FinQ_wk (Wk_freeze 4 [(.int .i64 0), (.int .i64 0)] (by rfl) (by decide) (by decide)) ?_
    simp only [go_sem, ne_eq, not_false_eq_true, Nat.reduceBEq, Nat.reduceAdd, Nat.reduceSub, Nat.reduceMul, Nat.reduceLT, Nat.reduceLeDiff, Int.reduceLE, Int.reduceLT, Int.reduceToNat, Int.cast_ofNat_Int, ↓reduceIte, h254, h257, h323, h325]
    obtain rfl := Option.some.inj h
    exact finC [(4, .v (.ipt [(.int .i64 0), (.int .i64 0)])), (5, .v (.int .i64 x324))] [(4, .v (.ipt [(.int .i64 0), (.int .i64 0)])), (5, .v (.int .i64 x324))] (by simp [leE, lk_cons]) (.cons _ _ _ _ _ (.v _ _ (.refl _)) (.cons _ _ _ _ _ (.v _ _ (.refl _)) .nil)) (by rfl) (by simp [leE, lk_cons]) (by decide) (by decide) rfl (by simp only [go_sem, ne_eq, not_false_eq_true, Nat.reduceBEq, Nat.reduceAdd, Nat.reduceSub, Nat.reduceMul, Nat.reduceLT, Nat.reduceLeDiff, Int.reduceLE, Int.reduceLT, Int.reduceToNat, Int.cast_ofNat_Int, ↓reduceIte, resQ_tmp, resQ_cell, resQ_nil, retD_one, retD_two, retD_three, retD_none]; try simp [R.val, retD_one, retD_two, retD_three, retD_none])
  · have hh := bnd'_some h; clear h; obtain ⟨p376, h377, h⟩ := hh
    refine W_sound tab_ok mixed 14 _ _ _ ?_
    simp only [go_sem, ne_eq, not_false_eq_true, Nat.reduceBEq, Nat.reduceAdd, Nat.reduceSub, Nat.reduceMul, Nat.reduceLT, Nat.reduceLeDiff, Int.reduceLE, Int.reduceLT, Int.reduceToNat, Int.cast_ofNat_Int, ↓reduceIte, h254, h257, h323, h325]
    repeat with_reducible refine And.intro (by kernel_rfl) ?_
    refine Wp_callP (c61 N _ _ _ h377) (by kernel_rfl) rfl rfl rfl rfl (by decide) ?_
    have hh := getI_some h; clear h; obtain ⟨x379, h378, h⟩ := hh
    have hh := getI_some h; clear h; obtain ⟨x381, h380, h⟩ := hh
    have hh := bnd'_some h; clear h; obtain ⟨p403, h404, h⟩ := hh
    refine W_sound tab_ok mixed 2 _ _ _ ?_
    simp only [go_sem, ne_eq, not_false_eq_true, Nat.reduceBEq, Nat.reduceAdd, Nat.reduceSub, Nat.reduceMul, Nat.reduceLT, Nat.reduceLeDiff, Int.reduceLE, Int.reduceLT, Int.reduceToNat, Int.cast_ofNat_Int, ↓reduceIte, h254, h257, h323, h325, h378, h380]
    repeat with_reducible refine And.intro (by kernel_rfl) ?_
    refine Wp_callP (c60 N _ _ _ h404) (by kernel_rfl) rfl rfl rfl rfl (by decide) ?_
    have hh := getA2_some h; clear h; obtain ⟨p406, p407, h405, h⟩ := hh
    refine W_sound tab_ok mixed 4 _ _ _ ?_
    simp only [go_sem, ne_eq, not_false_eq_true, Nat.reduceBEq, Nat.reduceAdd, Nat.reduceSub, Nat.reduceMul, Nat.reduceLT, Nat.reduceLeDiff, Int.reduceLE, Int.reduceLT, Int.reduceToNat, Int.cast_ofNat_Int, ↓reduceIte, h254, h257, h323, h325, h378, h380, h405]
    repeat with_reducible refine And.intro (by kernel_rfl) ?_
    refine FinQ_wk (Wk_freeze 4 [p406, p407] (by rfl) (by decide) (by decide)) ?_
    simp only [go_sem, ne_eq, not_false_eq_true, Nat.reduceBEq, Nat.reduceAdd, Nat.reduceSub, Nat.reduceMul, Nat.reduceLT, Nat.reduceLeDiff, Int.reduceLE, Int.reduceLT, Int.reduceToNat, Int.cast_ofNat_Int, ↓reduceIte, h254, h257, h323, h325, h378, h380, h405]
    obtain rfl := Option.some.inj h
    exact finC [(4, .v (.ipt [p406, p407])), (5, .v (.int .i64 0))] [(4, .v (.ipt [p406, p407])), (5, .v (.int .i64 0))] (by simp [leE, lk_cons]) (.cons _ _ _ _ _ (.v _ _ (.refl _)) (.cons _ _ _ _ _ (.v _ _ (.refl _)) .nil)) (by rfl) (by simp [leE, lk_cons]) (by decide) (by decide) rfl (by simp only [go_sem, ne_eq, not_false_eq_true, Nat.reduceBEq, Nat.reduceAdd, Nat.reduceSub, Nat.reduceMul, Nat.reduceLT, Nat.reduceLeDiff, Int.reduceLE, Int.reduceLT, Int.reduceToNat, Int.cast_ofNat_Int, ↓reduceIte, resQ_tmp, resQ_cell, resQ_nil, retD_one, retD_two, retD_three, retD_none]; try simp [R.val, retD_one, retD_two, retD_three, retD_none])

/-! breeze/turn.Best -/
def m19_L0 (N : Nat) (n433 : Nat) (c434 : List PV) (x436 : Int) (x438 : Int) : Nat → Nat → Int → List PV → Option ((Nat × List PV))
  | 0, _, _, _ => none
  | n + 1, n455, x456, c457 =>
    brn (decide (x456 < ((n433 : Nat) : Int))) (
      grd (0 ≤ x456 ∧ x456 < ((n433 : Nat) : Int)) <|
      grd (0 < List.length (List.drop (Int.toNat x456) c434)) <|
      getI .i64 (gp c434 (Int.toNat x456)) fun x463 =>
      brn (x463 == x436) (
        grd ((n455 + 1) ≤ 1099511627776) <|
        grd (List.length c457 = n455) <|
        m19_L0 N n433 c434 x436 x438 n (n455 + 1) (IntKind.i64.wrap (x456 + 1)) (c457 ++ [(.int .i64 x456)])) (
        m19_L0 N n433 c434 x436 x438 n n455 (IntKind.i64.wrap (x456 + 1)) c457)) (
      some (n455, c457))
def m19 (N : Nat) (p418 : PV) (p419 : PV) : Option (PV) :=
  getL p418 fun n421 c422 =>
  getA2 p419 fun p424 p425 =>
  bnd' (m57 N (.lst false n421 c422) (.agg [p424, p425])) fun p426 =>
  getT3 p426 fun p429 p430 p431 =>
  getL p429 fun n433 c434 =>
  getI .i64 p430 fun x436 =>
  getI .i64 p431 fun x438 =>
  bnd' (m19_L0 N n433 c434 x436 x438 N 0 0 []) fun o =>
  match o with
  | (n467, c468) =>
    grd (List.length c468 = n467) <|
    some (.tup [(.lst false n467 c468), (.int .i64 x438)])
theorem c19 (N : Nat) (p418 : PV) (p419 : PV) (r : PV)  (h : m19 N p418 p419 = some r) : FnP Try.prog 19 [p418, p419] r := by
  unfold m19 at h
  refine Fn_of (sz := 36) tab_ok [0, 1, 3, 4, 5, 6, 7, 8, 9, 10, 11, 19, 20, 21, 22, 28] [.tmp 4, .tmp 5] Try.func19 rfl rfl rfl (by simp) ?_
  simp only [initSt, initEnv, List.map_cons, List.map_nil, List.getD_cons_zero, List.getD_cons_succ, List.getD_nil]
  have hh := getL_some h; clear h; obtain ⟨n421, c422, h420, h⟩ := hh
  have hh := getA2_some h; clear h; obtain ⟨p424, p425, h423, h⟩ := hh
  have hh := bnd'_some h; clear h; obtain ⟨p426, h427, h⟩ := hh
  refine W_sound tab_ok mixed 10 _ _ _ ?_
  simp only [go_sem, ne_eq, not_false_eq_true, Nat.reduceBEq, Nat.reduceAdd, Nat.reduceSub, Nat.reduceMul, Nat.reduceLT, Nat.reduceLeDiff, Int.reduceLE, Int.reduceLT, Int.reduceToNat, Int.cast_ofNat_Int, ↓reduceIte, h420, h423]
  repeat with_reducible refine And.intro (by kernel_rfl) ?_
  refine Wp_callP (c57 N _ _ _ h427) (by kernel_rfl) rfl rfl rfl rfl (by decide) ?_
  have hh := getT3_some h; clear h; obtain ⟨p429, p430, p431, h428, h⟩ := hh
  have hh := getL_some h; clear h; obtain ⟨n433, c434, h432, h⟩ := hh
  have hh := getI_some h; clear h; obtain ⟨x436, h435, h⟩ := hh
  have hh := getI_some h; clear h; obtain ⟨x438, h437, h⟩ := hh
  refine W_sound tab_ok mixed 19 _ _ _ ?_
  simp only [go_sem, ne_eq, not_false_eq_true, Nat.reduceBEq, Nat.reduceAdd, Nat.reduceSub, Nat.reduceMul, Nat.reduceLT, Nat.reduceLeDiff, Int.reduceLE, Int.reduceLT, Int.reduceToNat, Int.cast_ofNat_Int, ↓reduceIte, h420, h423, h428, h432, h435, h437]
  repeat with_reducible refine And.intro (by kernel_rfl) ?_
  refine Wp_weaken (Wk_ownS 9 1 rfl (by decide) (by decide)) ?_
  simp only [go_sem, ne_eq, not_false_eq_true, Nat.reduceBEq, Nat.reduceAdd, Nat.reduceSub, Nat.reduceMul, Nat.reduceLT, Nat.reduceLeDiff, Int.reduceLE, Int.reduceLT, Int.reduceToNat, Int.cast_ofNat_Int, ↓reduceIte, h420, h423, h428, h432, h435, h437]
  have hh := bnd'_some h; clear h; obtain ⟨o470, h471, h472⟩ := hh
  refine Wp_cut (fun s => ∃ n467, ∃ c468, (n467, c468) = o470 ∧ s = ⟨[], [(0, .dead), (1, .dead), (3, .dead), (4, .dead), (5, .dead), (6, .dead), (7, .dead), (8, .v (.int .i64 x438)), (9, .sl false 0 0 n467 1), (10, .dead), (11, .dead), (19, .dead), (20, .dead), (21, .dead), (22, .dead), (28, .dead)], [(0, .p c468)], 1, []⟩) ?_ ?_
  · refine Wp_block ?_
    refine Wp_loopG (fun n s => ∃ n455, ∃ x456, ∃ c457, m19_L0 N n433 c434 x436 x438 n n455 x456 c457 = some o470 ∧ s = ⟨[], [(0, .dead), (1, .dead), (3, .dead), (4, .dead), (5, .dead), (6, .dead), (7, .v (.int .i64 x436)), (8, .v (.int .i64 x438)), (9, .sl false 0 0 n455 1), (10, .dead), (11, .dead), (19, .v (.lst false n433 c434)), (20, .v (.int .i64 ((n433 : Nat) : Int))), (21, .v (.int .i64 x456)), (22, .dead), (28, .dead)], [(0, .p c457)], 1, []⟩) N _ ((Wk_le (.cons _ _ _ _ _ (.dead _) (.cons _ _ _ _ _ (.dead _) (.cons _ _ _ _ _ (.dead _) (.cons _ _ _ _ _ (.dead _) (.cons _ _ _ _ _ (.dead _) (.cons _ _ _ _ _ (.dead _) (.cons _ _ _ _ _ (.refl _) (.cons _ _ _ _ _ (.refl _) (.cons _ _ _ _ _ (.refl _) (.cons _ _ _ _ _ (.refl _) (.cons _ _ _ _ _ (.refl _) (.cons _ _ _ _ _ (.refl _) (.cons _ _ _ _ _ (.refl _) (.cons _ _ _ _ _ (.refl _) (.cons _ _ _ _ _ (.refl _) (.cons _ _ _ _ _ (.refl _) .nil)))))))))))))))) (OLe.refl _)).trans (cmpS_ok rfl)) ⟨_, _, _, h471, rfl⟩ ?_
    clear h471
    rintro n _ ⟨n455, x456, c457, h471, rfl⟩
    cases n with
    | zero => cases h471
    | succ n =>
      rw [m19_L0] at h471
      have hh := brn_some h471; clear h471; rcases hh with ⟨h458, h471⟩ | ⟨h458, h471⟩
      · have hh := grd_some h471; clear h471; obtain ⟨⟨g459, g460⟩, h471⟩ := hh
        have hh := grd_some h471; clear h471; obtain ⟨g461, h471⟩ := hh
        have hh := getI_some h471; clear h471; obtain ⟨x463, h462, h471⟩ := hh
        have hh := brn_some h471; clear h471; rcases hh with ⟨h464, h471⟩ | ⟨h464, h471⟩
        · have hh := grd_some h471; clear h471; obtain ⟨g465, h471⟩ := hh
          have hh := grd_some h471; clear h471; obtain ⟨g466, h471⟩ := hh
          refine W_sound tab_ok mixed 36 _ _ _ ?_
          simp only [go_sem, ne_eq, not_false_eq_true, Nat.reduceBEq, Nat.reduceAdd, Nat.reduceSub, Nat.reduceMul, Nat.reduceLT, Nat.reduceLeDiff, Int.reduceLE, Int.reduceLT, Int.reduceToNat, Int.cast_ofNat_Int, ↓reduceIte, h420, h423, h428, h432, h435, h437, h458, g459, g460, g461, h462, h464, g465, g466]
          repeat with_reducible refine And.intro (by kernel_rfl) ?_
          exact cutQ _ ((Wk_le (.cons _ _ _ _ _ (.refl _) (.cons _ _ _ _ _ (.refl _) (.cons _ _ _ _ _ (.refl _) (.cons _ _ _ _ _ (.refl _) (.cons _ _ _ _ _ (.refl _) (.cons _ _ _ _ _ (.refl _) (.cons _ _ _ _ _ (.refl _) (.cons _ _ _ _ _ (.refl _) (.cons _ _ _ _ _ (.refl _) (.cons _ _ _ _ _ (.dead _) (.cons _ _ _ _ _ (.dead _) (.cons _ _ _ _ _ (.refl _) (.cons _ _ _ _ _ (.refl _) (.cons _ _ _ _ _ (.refl _) (.cons _ _ _ _ _ (.dead _) (.cons _ _ _ _ _ (.dead _) .nil)))))))))))))))) (OLe.refl _)).trans (cmpS_ok rfl)) ⟨n, Nat.lt_succ_self n, _, _, _, h471, rfl⟩
        · refine W_sound tab_ok mixed 30 _ _ _ ?_
          simp only [go_sem, ne_eq, not_false_eq_true, Nat.reduceBEq, Nat.reduceAdd, Nat.reduceSub, Nat.reduceMul, Nat.reduceLT, Nat.reduceLeDiff, Int.reduceLE, Int.reduceLT, Int.reduceToNat, Int.cast_ofNat_Int, ↓reduceIte, h420, h423, h428, h432, h435, h437, h458, g459, g460, g461, h462, h464]
          repeat with_reducible refine And.intro (by kernel_rfl) ?_
          exact cutQ _ ((Wk_le (.cons _ _ _ _ _ (.refl _) (.cons _ _ _ _ _ (.refl _) (.cons _ _ _ _ _ (.refl _) (.cons _ _ _ _ _ (.refl _) (.cons _ _ _ _ _ (.refl _) (.cons _ _ _ _ _ (.refl _) (.cons _ _ _ _ _ (.refl _) (.cons _ _ _ _ _ (.refl _) (.cons _ _ _ _ _ (.refl _) (.cons _ _ _ _ _ (.dead _) (.cons _ _ _ _ _ (.dead _) (.cons _ _ _ _ _ (.refl _) (.cons _ _ _ _ _ (.refl _) (.cons _ _ _ _ _ (.refl _) (.cons _ _ _ _ _ (.dead _) (.cons _ _ _ _ _ (.dead _) .nil)))))))))))))))) (OLe.refl _)).trans (cmpS_ok rfl)) ⟨n, Nat.lt_succ_self n, _, _, _, h471, rfl⟩
      · refine W_sound tab_ok mixed 7 _ _ _ ?_
        simp only [go_sem, ne_eq, not_false_eq_true, Nat.reduceBEq, Nat.reduceAdd, Nat.reduceSub, Nat.reduceMul, Nat.reduceLT, Nat.reduceLeDiff, Int.reduceLE, Int.reduceLT, Int.reduceToNat, Int.cast_ofNat_Int, ↓reduceIte, h420, h423, h428, h432, h435, h437, h458]
        repeat with_reducible refine And.intro (by kernel_rfl) ?_
        obtain rfl := Option.some.inj h471
        exact cutQ _ ((Wk_le (.cons _ _ _ _ _ (.refl _) (.cons _ _ _ _ _ (.refl _) (.cons _ _ _ _ _ (.refl _) (.cons _ _ _ _ _ (.refl _) (.cons _ _ _ _ _ (.refl _) (.cons _ _ _ _ _ (.refl _) (.cons _ _ _ _ _ (.dead _) (.cons _ _ _ _ _ (.refl _) (.cons _ _ _ _ _ (.refl _) (.cons _ _ _ _ _ (.refl _) (.cons _ _ _ _ _ (.refl _) (.cons _ _ _ _ _ (.dead _) (.cons _ _ _ _ _ (.dead _) (.cons _ _ _ _ _ (.dead _) (.cons _ _ _ _ _ (.dead _) (.cons _ _ _ _ _ (.refl _) .nil)))))))))))))))) (OLe.refl _)).trans (cmpS_ok rfl)) ⟨_, _, rfl, rfl⟩
  · rintro _ ⟨n467, c468, rfl, rfl⟩
    (try dsimp only at h472)
    refine W_sound tab_ok mixed 8 _ _ _ ?_
    simp only [go_sem, ne_eq, not_false_eq_true, Nat.reduceBEq, Nat.reduceAdd, Nat.reduceSub, Nat.reduceMul, Nat.reduceLT, Nat.reduceLeDiff, Int.reduceLE, Int.reduceLT, Int.reduceToNat, Int.cast_ofNat_Int, ↓reduceIte, h420, h423, h428, h432, h435, h437]
    repeat with_reducible refine And.intro (by kernel_rfl) ?_
    have hh := grd_some h472; clear h472; obtain ⟨g469, h472⟩ := hh
    refine FinQ_wk (Wk_freeze 0 c468 (by rfl) (by decide) (by decide)) ?_
    simp only [go_sem, ne_eq, not_false_eq_true, Nat.reduceBEq, Nat.reduceAdd, Nat.reduceSub, Nat.reduceMul, Nat.reduceLT, Nat.reduceLeDiff, Int.reduceLE, Int.reduceLT, Int.reduceToNat, Int.cast_ofNat_Int, ↓reduceIte, h420, h423, h428, h432, h435, h437, g469]
    obtain rfl := Option.some.inj h472
    exact finC [(4, .v (.lst false n467 c468)), (5, .v (.int .i64 x438))] [(4, .v (.lst false n467 c468)), (5, .v (.int .i64 x438))] (by simp [leE, lk_cons]) (.cons _ _ _ _ _ (.v _ _ (.refl _)) (.cons _ _ _ _ _ (.v _ _ (.refl _)) .nil)) (by rfl) (by simp [leE, lk_cons]) (by decide) (by decide) rfl (by simp only [go_sem, ne_eq, not_false_eq_true, Nat.reduceBEq, Nat.reduceAdd, Nat.reduceSub, Nat.reduceMul, Nat.reduceLT, Nat.reduceLeDiff, Int.reduceLE, Int.reduceLT, Int.reduceToNat, Int.cast_ofNat_Int, ↓reduceIte, resQ_tmp, resQ_cell, resQ_nil, retD_one, retD_two, retD_three, retD_none]; try simp [R.val, retD_one, retD_two, retD_three, retD_none])

/-! breeze/breezeref12.Best -/
def m20_L0 (N : Nat) (n486 : Nat) (c487 : List PV) (p489 : PV) (p490 : PV) : Nat → Nat → Int → List PV → Option ((Nat × List PV))
  | 0, _, _, _ => none
  | n + 1, n530, x531, c532 =>
    brn (decide (x531 < ((n486 : Nat) : Int))) (
      grd (0 ≤ x531 ∧ x531 < ((n486 : Nat) : Int)) <|
      grd (2 ≤ List.length (List.drop ((Int.toNat x531) * 2) c487)) <|
      getA2 (.agg (List.take 2 (List.drop ((Int.toNat x531) * 2) c487))) fun p538 p539 =>
      bnd' (m62 N (.agg [p538, p539]) (.agg [p489, p490])) fun p540 =>
      getI .i64 p540 fun x543 =>
      bnd' (m61 N (.lst false n486 c487) (.agg [p489, p490])) fun p544 =>
      getI .i64 p544 fun x547 =>
      brn (x543 == x547) (
        grd ((n530 + 1) ≤ 1099511627776) <|
        grd (List.length c532 = n530) <|
        m20_L0 N n486 c487 p489 p490 n (n530 + 1) (IntKind.i64.wrap (x531 + 1)) (c532 ++ [(.int .i64 x531)])) (
        m20_L0 N n486 c487 p489 p490 n n530 (IntKind.i64.wrap (x531 + 1)) c532)) (
      some (n530, c532))
def m20 (N : Nat) (p483 : PV) (p484 : PV) : Option (PV) :=
  getL p483 fun n486 c487 =>
  getA2 p484 fun p489 p490 =>
  bnd' (m59 N (.lst false n486 c487) (.agg [p489, p490])) fun p491 =>
  getI .i64 p491 fun x494 =>
  brn (x494 != 0) (
    some (.tup [(.lst false 0 []), (.int .i64 x494)])) (
    bnd' (m20_L0 N n486 c487 p489 p490 N 0 0 []) fun o =>
    match o with
    | (n551, c552) =>
      grd (List.length c552 = n551) <|
      some (.tup [(.lst false n551 c552), (.int .i64 0)]))
theorem c20 (N : Nat) (p483 : PV) (p484 : PV) (r : PV)  (h : m20 N p483 p484 = some r) : FnP Try.prog 20 [p483, p484] r := by
  unfold m20 at h
  refine Fn_of (sz := 36) tab_ok [0, 1, 3, 4, 5, 6, 7, 8, 13, 18, 30] [.tmp 4, .tmp 5] Try.func20 rfl rfl rfl (by simp) ?_
  simp only [initSt, initEnv, List.map_cons, List.map_nil, List.getD_cons_zero, List.getD_cons_succ, List.getD_nil]
  have hh := getL_some h; clear h; obtain ⟨n486, c487, h485, h⟩ := hh
  have hh := getA2_some h; clear h; obtain ⟨p489, p490, h488, h⟩ := hh
  have hh := bnd'_some h; clear h; obtain ⟨p491, h492, h⟩ := hh
  refine W_sound tab_ok mixed 10 _ _ _ ?_
  simp only [go_sem, ne_eq, not_false_eq_true, Nat.reduceBEq, Nat.reduceAdd, Nat.reduceSub, Nat.reduceMul, Nat.reduceLT, Nat.reduceLeDiff, Int.reduceLE, Int.reduceLT, Int.reduceToNat, Int.cast_ofNat_Int, ↓reduceIte, h485, h488]
  repeat with_reducible refine And.intro (by kernel_rfl) ?_
  refine Wp_callP (c59 N _ _ _ h492) (by kernel_rfl) rfl rfl rfl rfl (by decide) ?_
  have hh := getI_some h; clear h; obtain ⟨x494, h493, h⟩ := hh
  have hh := brn_some h; clear h; rcases hh with ⟨h495, h⟩ | ⟨h495, h⟩
  · refine W_sound tab_ok mixed 16 _ _ _ ?_
    simp only [go_sem, ne_eq, not_false_eq_true, Nat.reduceBEq, Nat.reduceAdd, Nat.reduceSub, Nat.reduceMul, Nat.reduceLT, Nat.reduceLeDiff, Int.reduceLE, Int.reduceLT, Int.reduceToNat, Int.cast_ofNat_Int, ↓reduceIte, h485, h488, h493, h495]
    repeat with_reducible refine And.intro (by kernel_rfl) ?_
    obtain rfl := Option.some.inj h
    exact finC [(4, .v .nl), (5, .v (.int .i64 x494))] [(4, .v (.lst false 0 [])), (5, .v (.int .i64 x494))] (by simp [leE, lk_cons]) (.cons _ _ _ _ _ (.v _ _ (.nl false)) (.cons _ _ _ _ _ (.v _ _ (.refl _)) .nil)) (by rfl) (by simp [leE, lk_cons]) (by decide) (by decide) rfl (by simp only [go_sem, ne_eq, not_false_eq_true, Nat.reduceBEq, Nat.reduceAdd, Nat.reduceSub, Nat.reduceMul, Nat.reduceLT, Nat.reduceLeDiff, Int.reduceLE, Int.reduceLT, Int.reduceToNat, Int.cast_ofNat_Int, ↓reduceIte, resQ_tmp, resQ_cell, resQ_nil, retD_one, retD_two, retD_three, retD_none]; try simp [R.val, retD_one, retD_two, retD_three, retD_none])
  · refine W_sound tab_ok mixed 19 _ _ _ ?_
    simp only [go_sem, ne_eq, not_false_eq_true, Nat.reduceBEq, Nat.reduceAdd, Nat.reduceSub, Nat.reduceMul, Nat.reduceLT, Nat.reduceLeDiff, Int.reduceLE, Int.reduceLT, Int.reduceToNat, Int.cast_ofNat_Int, ↓reduceIte, h485, h488, h493, h495]
    repeat with_reducible refine And.intro (by kernel_rfl) ?_
    refine Wp_weaken (Wk_ownS 7 1 rfl (by decide) (by decide)) ?_
    simp only [go_sem, ne_eq, not_false_eq_true, Nat.reduceBEq, Nat.reduceAdd, Nat.reduceSub, Nat.reduceMul, Nat.reduceLT, Nat.reduceLeDiff, Int.reduceLE, Int.reduceLT, Int.reduceToNat, Int.cast_ofNat_Int, ↓reduceIte, h485, h488, h493, h495]
    have hh := bnd'_some h; clear h; obtain ⟨o554, h555, h556⟩ := hh
    refine Wp_cut (fun s => ∃ n551, ∃ c552, (n551, c552) = o554 ∧ s = ⟨[], [(0, .dead), (1, .dead), (3, .dead), (4, .dead), (5, .dead), (6, .dead), (7, .sl false 0 0 n551 1), (8, .dead), (13, .dead), (18, .dead), (30, .dead)], [(0, .p c552)], 1, []⟩) ?_ ?_
    · refine Wp_block ?_
      refine Wp_loopG (fun n s => ∃ n530, ∃ x531, ∃ c532, m20_L0 N n486 c487 p489 p490 n n530 x531 c532 = some o554 ∧ s = ⟨[], [(0, .v (.lst false n486 c487)), (1, .dead), (3, .ptr 0 0), (4, .dead), (5, .dead), (6, .dead), (7, .sl false 1 0 n530 1), (8, .v (.int .i64 x531)), (13, .dead), (18, .dead), (30, .dead)], [(0, .p [p489, p490]), (1, .p c532)], 2, []⟩) N _ ((Wk_le (.cons _ _ _ _ _ (.refl _) (.cons _ _ _ _ _ (.dead _) (.cons _ _ _ _ _ (.refl _) (.cons _ _ _ _ _ (.dead _) (.cons _ _ _ _ _ (.dead _) (.cons _ _ _ _ _ (.dead _) (.cons _ _ _ _ _ (.refl _) (.cons _ _ _ _ _ (.refl _) (.cons _ _ _ _ _ (.dead _) (.cons _ _ _ _ _ (.refl _) (.cons _ _ _ _ _ (.refl _) .nil))))))))))) (OLe.refl _)).trans (cmpS_ok rfl)) ⟨_, _, _, h555, rfl⟩ ?_
      clear h555
      rintro n _ ⟨n530, x531, c532, h555, rfl⟩
      cases n with
      | zero => cases h555
      | succ n =>
        rw [m20_L0] at h555
        have hh := brn_some h555; clear h555; rcases hh with ⟨h533, h555⟩ | ⟨h533, h555⟩
        · have hh := grd_some h555; clear h555; obtain ⟨⟨g534, g535⟩, h555⟩ := hh
          have hh := grd_some h555; clear h555; obtain ⟨g536, h555⟩ := hh
          have hh := getA2_some h555; clear h555; obtain ⟨p538, p539, h537, h555⟩ := hh
          injection h537 with h537
          have hh := bnd'_some h555; clear h555; obtain ⟨p540, h541, h555⟩ := hh
          refine W_sound tab_ok mixed 19 _ _ _ ?_
          simp only [go_sem, ne_eq, not_false_eq_true, Nat.reduceBEq, Nat.reduceAdd, Nat.reduceSub, Nat.reduceMul, Nat.reduceLT, Nat.reduceLeDiff, Int.reduceLE, Int.reduceLT, Int.reduceToNat, Int.cast_ofNat_Int, ↓reduceIte, h485, h488, h493, h495, h533, g534, g535, g536, h537]
          repeat with_reducible refine And.intro (by kernel_rfl) ?_
          refine Wp_callP (c62 N _ _ _ h541) (by kernel_rfl) rfl rfl rfl rfl (by decide) ?_
          have hh := getI_some h555; clear h555; obtain ⟨x543, h542, h555⟩ := hh
          have hh := bnd'_some h555; clear h555; obtain ⟨p544, h545, h555⟩ := hh
          refine W_sound tab_ok mixed 2 _ _ _ ?_
          simp only [go_sem, ne_eq, not_false_eq_true, Nat.reduceBEq, Nat.reduceAdd, Nat.reduceSub, Nat.reduceMul, Nat.reduceLT, Nat.reduceLeDiff, Int.reduceLE, Int.reduceLT, Int.reduceToNat, Int.cast_ofNat_Int, ↓reduceIte, h485, h488, h493, h495, h533, g534, g535, g536, h537, h542]
          repeat with_reducible refine And.intro (by kernel_rfl) ?_
          refine Wp_callP (c61 N _ _ _ h545) (by kernel_rfl) rfl rfl rfl rfl (by decide) ?_
          have hh := getI_some h555; clear h555; obtain ⟨x547, h546, h555⟩ := hh
          have hh := brn_some h555; clear h555; rcases hh with ⟨h548, h555⟩ | ⟨h548, h555⟩
          · have hh := grd_some h555; clear h555; obtain ⟨g549, h555⟩ := hh
            have hh := grd_some h555; clear h555; obtain ⟨g550, h555⟩ := hh
            refine W_sound tab_ok mixed 16 _ _ _ ?_
            simp only [go_sem, ne_eq, not_false_eq_true, Nat.reduceBEq, Nat.reduceAdd, Nat.reduceSub, Nat.reduceMul, Nat.reduceLT, Nat.reduceLeDiff, Int.reduceLE, Int.reduceLT, Int.reduceToNat, Int.cast_ofNat_Int, ↓reduceIte, h485, h488, h493, h495, h533, g534, g535, g536, h537, h542, h546, h548, g549, g550]
            repeat with_reducible refine And.intro (by kernel_rfl) ?_
            exact cutQ _ ((Wk_le (.cons _ _ _ _ _ (.refl _) (.cons _ _ _ _ _ (.refl _) (.cons _ _ _ _ _ (.refl _) (.cons _ _ _ _ _ (.refl _) (.cons _ _ _ _ _ (.refl _) (.cons _ _ _ _ _ (.refl _) (.cons _ _ _ _ _ (.refl _) (.cons _ _ _ _ _ (.refl _) (.cons _ _ _ _ _ (.refl _) (.cons _ _ _ _ _ (.dead _) (.cons _ _ _ _ _ (.dead _) .nil))))))))))) (OLe.refl _)).trans (cmpS_ok rfl)) ⟨n, Nat.lt_succ_self n, _, _, _, h555, rfl⟩
          · refine W_sound tab_ok mixed 10 _ _ _ ?_
            simp only [go_sem, ne_eq, not_false_eq_true, Nat.reduceBEq, Nat.reduceAdd, Nat.reduceSub, Nat.reduceMul, Nat.reduceLT, Nat.reduceLeDiff, Int.reduceLE, Int.reduceLT, Int.reduceToNat, Int.cast_ofNat_Int, ↓reduceIte, h485, h488, h493, h495, h533, g534, g535, g536, h537, h542, h546, h548]
            repeat with_reducible refine And.intro (by kernel_rfl) ?_
            exact cutQ _ ((Wk_le (.cons _ _ _ _ _ (.refl _) (.cons _ _ _ _ _ (.refl _) (.cons _ _ _ _ _ (.refl _) (.cons _ _ _ _ _ (.refl _) (.cons _ _ _ _ _ (.refl _) (.cons _ _ _ _ _ (.refl _) (.cons _ _ _ _ _ (.refl _) (.cons _ _ _ _ _ (.refl _) (.cons _ _ _ _ _ (.refl _) (.cons _ _ _ _ _ (.dead _) (.cons _ _ _ _ _ (.dead _) .nil))))))))))) (OLe.refl _)).trans (cmpS_ok rfl)) ⟨n, Nat.lt_succ_self n, _, _, _, h555, rfl⟩
        · refine W_sound tab_ok mixed 10 _ _ _ ?_
          simp only [go_sem, ne_eq, not_false_eq_true, Nat.reduceBEq, Nat.reduceAdd, Nat.reduceSub, Nat.reduceMul, Nat.reduceLT, Nat.reduceLeDiff, Int.reduceLE, Int.reduceLT, Int.reduceToNat, Int.cast_ofNat_Int, ↓reduceIte, h485, h488, h493, h495, h533]
          repeat with_reducible refine And.intro (by kernel_rfl) ?_
          obtain rfl := Option.some.inj h555
          exact cutQ _ ((Wk_le (.cons _ _ _ _ _ (.dead _) (.cons _ _ _ _ _ (.refl _) (.cons _ _ _ _ _ (.dead _) (.cons _ _ _ _ _ (.refl _) (.cons _ _ _ _ _ (.refl _) (.cons _ _ _ _ _ (.refl _) (.cons _ _ _ _ _ (.refl _) (.cons _ _ _ _ _ (.dead _) (.cons _ _ _ _ _ (.refl _) (.cons _ _ _ _ _ (.dead _) (.cons _ _ _ _ _ (.refl _) .nil))))))))))) (OLe.refl _)).trans (cmpS_ok rfl)) ⟨_, _, rfl, rfl⟩
    · rintro _ ⟨n551, c552, rfl, rfl⟩
      (try dsimp only at h556)
      refine W_sound tab_ok mixed 7 _ _ _ ?_
      simp only [go_sem, ne_eq, not_false_eq_true, Nat.reduceBEq, Nat.reduceAdd, Nat.reduceSub, Nat.reduceMul, Nat.reduceLT, Nat.reduceLeDiff, Int.reduceLE, Int.reduceLT, Int.reduceToNat, Int.cast_ofNat_Int, ↓reduceIte, h485, h488, h493, h495]
      repeat with_reducible refine And.intro (by kernel_rfl) ?_
      have hh := grd_some h556; clear h556; obtain ⟨g553, h556⟩ := hh
      refine FinQ_wk (Wk_freeze 0 c552 (by rfl) (by decide) (by decide)) ?_
      simp only [go_sem, ne_eq, not_false_eq_true, Nat.reduceBEq, Nat.reduceAdd, Nat.reduceSub, Nat.reduceMul, Nat.reduceLT, Nat.reduceLeDiff, Int.reduceLE, Int.reduceLT, Int.reduceToNat, Int.cast_ofNat_Int, ↓reduceIte, h485, h488, h493, h495, g553]
      obtain rfl := Option.some.inj h556
      exact finC [(4, .v (.lst false n551 c552)), (5, .v (.int .i64 0))] [(4, .v (.lst false n551 c552)), (5, .v (.int .i64 0))] (by simp [leE, lk_cons]) (.cons _ _ _ _ _ (.v _ _ (.refl _)) (.cons _ _ _ _ _ (.v _ _ (.refl _)) .nil)) (by rfl) (by simp [leE, lk_cons]) (by decide) (by decide) rfl (by simp only [go_sem, ne_eq, not_false_eq_true, Nat.reduceBEq, Nat.reduceAdd, Nat.reduceSub, Nat.reduceMul, Nat.reduceLT, Nat.reduceLeDiff, Int.reduceLE, Int.reduceLT, Int.reduceToNat, Int.cast_ofNat_Int, ↓reduceIte, resQ_tmp, resQ_cell, resQ_nil, retD_one, retD_two, retD_three, retD_none]; try simp [R.val, retD_one, retD_two, retD_three, retD_none])

/-! breeze/breezelaw12.same -/
def m21_L0 (N : Nat) (n580 : Nat) (c581 : List PV) (n583 : Nat) (c584 : List PV) : Nat → Int → Option ((PV ⊕ Unit))
  | 0, _ => none
  | n + 1, x586 =>
    brn (decide (x586 < ((n580 : Nat) : Int))) (
      grd (0 ≤ x586 ∧ x586 < ((n580 : Nat) : Int)) <|
      grd (0 < List.length (List.drop (Int.toNat x586) c581)) <|
      getI .i64 (gp c581 (Int.toNat x586)) fun x592 =>
      grd (x586 < ((n583 : Nat) : Int)) <|
      grd (0 < List.length (List.drop (Int.toNat x586) c584)) <|
      getI .i64 (gp c584 (Int.toNat x586)) fun x596 =>
      brn (x592 != x596) (
        some (.inl (.bool false))) (
        m21_L0 N n580 c581 n583 c584 n (IntKind.i64.wrap (x586 + 1)))) (
      some (.inr ()))
def m21 (N : Nat) (p577 : PV) (p578 : PV) : Option (PV) :=
  getL p577 fun n580 c581 =>
  getL p578 fun n583 c584 =>
  brn (((n580 : Nat) : Int) != ((n583 : Nat) : Int)) (
    some (.bool false)) (
    bnd' (m21_L0 N n580 c581 n583 c584 N 0) fun o =>
    match o with
    | .inl p598 =>
      some p598
    | .inr () =>
      some (.bool true))
theorem c21 (N : Nat) (p577 : PV) (p578 : PV) (r : PV)  (h : m21 N p577 p578 = some r) : FnP Try.prog 21 [p577, p578] r := by
  unfold m21 at h
  refine Fn_of (sz := 26) tab_ok [0, 1, 4, 5, 10, 14, 25] [.tmp 4] Try.func21 rfl rfl rfl (by simp) ?_
  simp only [initSt, initEnv, List.map_cons, List.map_nil, List.getD_cons_zero, List.getD_cons_succ, List.getD_nil]
  have hh := getL_some h; clear h; obtain ⟨n580, c581, h579, h⟩ := hh
  have hh := getL_some h; clear h; obtain ⟨n583, c584, h582, h⟩ := hh
  have hh := brn_some h; clear h; rcases hh with ⟨h585, h⟩ | ⟨h585, h⟩
  · refine W_sound tab_ok mixed 19 _ _ _ ?_
    simp only [go_sem, ne_eq, not_false_eq_true, Nat.reduceBEq, Nat.reduceAdd, Nat.reduceSub, Nat.reduceMul, Nat.reduceLT, Nat.reduceLeDiff, Int.reduceLE, Int.reduceLT, Int.reduceToNat, Int.cast_ofNat_Int, ↓reduceIte, h579, h582, h585]
    repeat with_reducible refine And.intro (by kernel_rfl) ?_
    obtain rfl := Option.some.inj h
    exact finC [(4, .v (.bool false))] [(4, .v (.bool false))] (by simp [leE, lk_cons]) (.cons _ _ _ _ _ (.v _ _ (.refl _)) .nil) (by rfl) (by simp [leE, lk_cons]) (by decide) (by decide) rfl (by simp only [go_sem, ne_eq, not_false_eq_true, Nat.reduceBEq, Nat.reduceAdd, Nat.reduceSub, Nat.reduceMul, Nat.reduceLT, Nat.reduceLeDiff, Int.reduceLE, Int.reduceLT, Int.reduceToNat, Int.cast_ofNat_Int, ↓reduceIte, resQ_tmp, resQ_cell, resQ_nil, retD_one, retD_two, retD_three, retD_none]; try simp [R.val, retD_one, retD_two, retD_three, retD_none])
  · refine W_sound tab_ok mixed 20 _ _ _ ?_
    simp only [go_sem, ne_eq, not_false_eq_true, Nat.reduceBEq, Nat.reduceAdd, Nat.reduceSub, Nat.reduceMul, Nat.reduceLT, Nat.reduceLeDiff, Int.reduceLE, Int.reduceLT, Int.reduceToNat, Int.cast_ofNat_Int, ↓reduceIte, h579, h582, h585]
    repeat with_reducible refine And.intro (by kernel_rfl) ?_
    have hh := bnd'_some h; clear h; obtain ⟨o599, h600, h601⟩ := hh
    refine Wp_cut (fun s => (.inr ()) = o599 ∧ s = ⟨[], [(0, .dead), (1, .dead), (4, .dead), (5, .dead), (10, .dead), (14, .dead), (25, .dead)], [], 0, []⟩) ?_ ?_
    · refine Wp_block ?_
      refine Wp_loopG (fun n s => ∃ x586, m21_L0 N n580 c581 n583 c584 n x586 = some o599 ∧ s = ⟨[], [(0, .v (.lst false n580 c581)), (1, .v (.lst false n583 c584)), (4, .dead), (5, .v (.int .i64 x586)), (10, .dead), (14, .dead), (25, .dead)], [], 0, []⟩) N _ ((Wk_le (.cons _ _ _ _ _ (.refl _) (.cons _ _ _ _ _ (.refl _) (.cons _ _ _ _ _ (.dead _) (.cons _ _ _ _ _ (.refl _) (.cons _ _ _ _ _ (.dead _) (.cons _ _ _ _ _ (.refl _) (.cons _ _ _ _ _ (.refl _) .nil))))))) (OLe.refl _)).trans (cmpS_ok rfl)) ⟨_, h600, rfl⟩ ?_
      clear h600
      rintro n _ ⟨x586, h600, rfl⟩
      cases n with
      | zero => cases h600
      | succ n =>
        rw [m21_L0] at h600
        have hh := brn_some h600; clear h600; rcases hh with ⟨h587, h600⟩ | ⟨h587, h600⟩
        · have hh := grd_some h600; clear h600; obtain ⟨⟨g588, g589⟩, h600⟩ := hh
          have hh := grd_some h600; clear h600; obtain ⟨g590, h600⟩ := hh
          have hh := getI_some h600; clear h600; obtain ⟨x592, h591, h600⟩ := hh
          have hh := grd_some h600; clear h600; obtain ⟨g593, h600⟩ := hh
          have hh := grd_some h600; clear h600; obtain ⟨g594, h600⟩ := hh
          have hh := getI_some h600; clear h600; obtain ⟨x596, h595, h600⟩ := hh
          have hh := brn_some h600; clear h600; rcases hh with ⟨h597, h600⟩ | ⟨h597, h600⟩
          · refine W_sound tab_ok mixed 30 _ _ _ ?_
            simp only [go_sem, ne_eq, not_false_eq_true, Nat.reduceBEq, Nat.reduceAdd, Nat.reduceSub, Nat.reduceMul, Nat.reduceLT, Nat.reduceLeDiff, Int.reduceLE, Int.reduceLT, Int.reduceToNat, Int.cast_ofNat_Int, ↓reduceIte, h579, h582, h585, h587, g588, g589, g590, h591, g593, g594, h595, h597]
            repeat with_reducible refine And.intro (by kernel_rfl) ?_
            obtain rfl := Option.some.inj h600
            (try dsimp only at h601)
            obtain rfl := Option.some.inj h601
            exact finC [(4, .v (.bool false))] [(4, .v (.bool false))] (by simp [leE, lk_cons]) (.cons _ _ _ _ _ (.v _ _ (.refl _)) .nil) (by rfl) (by simp [leE, lk_cons]) (by decide) (by decide) rfl (by simp only [go_sem, ne_eq, not_false_eq_true, Nat.reduceBEq, Nat.reduceAdd, Nat.reduceSub, Nat.reduceMul, Nat.reduceLT, Nat.reduceLeDiff, Int.reduceLE, Int.reduceLT, Int.reduceToNat, Int.cast_ofNat_Int, ↓reduceIte, resQ_tmp, resQ_cell, resQ_nil, retD_one, retD_two, retD_three, retD_none]; try simp [R.val, retD_one, retD_two, retD_three, retD_none])
          · refine W_sound tab_ok mixed 32 _ _ _ ?_
            simp only [go_sem, ne_eq, not_false_eq_true, Nat.reduceBEq, Nat.reduceAdd, Nat.reduceSub, Nat.reduceMul, Nat.reduceLT, Nat.reduceLeDiff, Int.reduceLE, Int.reduceLT, Int.reduceToNat, Int.cast_ofNat_Int, ↓reduceIte, h579, h582, h585, h587, g588, g589, g590, h591, g593, g594, h595, h597]
            repeat with_reducible refine And.intro (by kernel_rfl) ?_
            exact cutQ _ ((Wk_le (.cons _ _ _ _ _ (.refl _) (.cons _ _ _ _ _ (.refl _) (.cons _ _ _ _ _ (.refl _) (.cons _ _ _ _ _ (.refl _) (.cons _ _ _ _ _ (.refl _) (.cons _ _ _ _ _ (.dead _) (.cons _ _ _ _ _ (.dead _) .nil))))))) (OLe.refl _)).trans (cmpS_ok rfl)) ⟨n, Nat.lt_succ_self n, _, h600, rfl⟩
        · refine W_sound tab_ok mixed 10 _ _ _ ?_
          simp only [go_sem, ne_eq, not_false_eq_true, Nat.reduceBEq, Nat.reduceAdd, Nat.reduceSub, Nat.reduceMul, Nat.reduceLT, Nat.reduceLeDiff, Int.reduceLE, Int.reduceLT, Int.reduceToNat, Int.cast_ofNat_Int, ↓reduceIte, h579, h582, h585, h587]
          repeat with_reducible refine And.intro (by kernel_rfl) ?_
          obtain rfl := Option.some.inj h600
          exact cutQ _ ((Wk_le (.cons _ _ _ _ _ (.dead _) (.cons _ _ _ _ _ (.dead _) (.cons _ _ _ _ _ (.refl _) (.cons _ _ _ _ _ (.dead _) (.cons _ _ _ _ _ (.refl _) (.cons _ _ _ _ _ (.dead _) (.cons _ _ _ _ _ (.refl _) .nil))))))) (OLe.refl _)).trans (cmpS_ok rfl)) ⟨rfl, rfl⟩
    · rintro _ ⟨rfl, rfl⟩
      (try dsimp only at h601)
      refine W_sound tab_ok mixed 5 _ _ _ ?_
      simp only [go_sem, ne_eq, not_false_eq_true, Nat.reduceBEq, Nat.reduceAdd, Nat.reduceSub, Nat.reduceMul, Nat.reduceLT, Nat.reduceLeDiff, Int.reduceLE, Int.reduceLT, Int.reduceToNat, Int.cast_ofNat_Int, ↓reduceIte, h579, h582, h585]
      repeat with_reducible refine And.intro (by kernel_rfl) ?_
      obtain rfl := Option.some.inj h601
      exact finC [(4, .v (.bool true))] [(4, .v (.bool true))] (by simp [leE, lk_cons]) (.cons _ _ _ _ _ (.v _ _ (.refl _)) .nil) (by rfl) (by simp [leE, lk_cons]) (by decide) (by decide) rfl (by simp only [go_sem, ne_eq, not_false_eq_true, Nat.reduceBEq, Nat.reduceAdd, Nat.reduceSub, Nat.reduceMul, Nat.reduceLT, Nat.reduceLeDiff, Int.reduceLE, Int.reduceLT, Int.reduceToNat, Int.cast_ofNat_Int, ↓reduceIte, resQ_tmp, resQ_cell, resQ_nil, retD_one, retD_two, retD_three, retD_none]; try simp [R.val, retD_one, retD_two, retD_three, retD_none])

/-! breeze/breezelaw12.TurnWorths -/
def m3 (N : Nat) (p1 : PV) (p2 : PV) : Option (PV) :=
  getL p1 fun n4 c5 =>
  getA2 p2 fun p7 p8 =>
  brn (decide (((n4 : Nat) : Int) > 40)) (
    bnd' (m15 N ) fun p10 =>
    getB p10 fun b13 =>
    some (.bool b13)) (
    bnd' (m16 N (.lst false n4 c5)) fun p52 =>
    getL p52 fun n55 c56 =>
    bnd' (m17 N (.lst false n4 c5) (.agg [p7, p8])) fun p242 =>
    getT2 p242 fun p245 p246 =>
    getA2 p245 fun p248 p249 =>
    getI .i64 p246 fun x251 =>
    bnd' (m18 N (.lst false n55 c56) (.agg [p7, p8])) fun p408 =>
    getT2 p408 fun p411 p412 =>
    getA2 p411 fun p414 p415 =>
    getI .i64 p412 fun x417 =>
    bnd' (m19 N (.lst false n4 c5) (.agg [p7, p8])) fun p473 =>
    getT2 p473 fun p476 p477 =>
    getL p476 fun n479 c480 =>
    getI .i64 p477 fun x482 =>
    bnd' (m20 N (.lst false n55 c56) (.agg [p7, p8])) fun p557 =>
    getT2 p557 fun p560 p561 =>
    getL p560 fun n563 c564 =>
    getI .i64 p561 fun x566 =>
    getI .i64 p249 fun x568 =>
    getI .i64 p415 fun x570 =>
    getI .i64 p248 fun x572 =>
    getI .i64 p414 fun x574 =>
    brn ((x572 == x574) && (x568 == x570)) (
      brn (x251 == x417) (
        bnd' (m21 N (.lst false n479 c480) (.lst false n563 c564)) fun p602 =>
        getB p602 fun b605 =>
        brn b605 (
          brn (x482 == x566) (
            bnd' (m22 N (.lst false n4 c5)) fun p608 =>
            getI .i64 p608 fun x611 =>
            bnd' (m23 N (.lst false n55 c56)) fun p612 =>
            getI .i64 p612 fun x615 =>
            brn (x611 == x615) (
              bnd' (m15 N ) fun p617 =>
              getB p617 fun b620 =>
              some (.bool b620)) (
              some (.bool false))) (
            some (.bool false))) (
          some (.bool false))) (
        some (.bool false))) (
      some (.bool false)))
theorem c3 (N : Nat) (p1 : PV) (p2 : PV) (r : PV)  (h : m3 N p1 p2 = some r) : FnP Try.prog 3 [p1, p2] r := by
  unfold m3 at h
  refine Fn_of (sz := 74) tab_ok [0, 1, 3, 4, 5, 6, 7, 8, 9, 10, 11, 12, 13, 14, 17] [.tmp 4] Try.func3 rfl rfl rfl (by simp) ?_
  simp only [initSt, initEnv, List.map_cons, List.map_nil, List.getD_cons_zero, List.getD_cons_succ, List.getD_nil]
  have hh := getL_some h; clear h; obtain ⟨n4, c5, h3, h⟩ := hh
  have hh := getA2_some h; clear h; obtain ⟨p7, p8, h6, h⟩ := hh
  have hh := brn_some h; clear h; rcases hh with ⟨h9, h⟩ | ⟨h9, h⟩
  · have hh := bnd'_some h; clear h; obtain ⟨p10, h11, h⟩ := hh
    refine W_sound tab_ok mixed 15 _ _ _ ?_
    simp only [go_sem, ne_eq, not_false_eq_true, Nat.reduceBEq, Nat.reduceAdd, Nat.reduceSub, Nat.reduceMul, Nat.reduceLT, Nat.reduceLeDiff, Int.reduceLE, Int.reduceLT, Int.reduceToNat, Int.cast_ofNat_Int, ↓reduceIte, h3, h6, h9]
    repeat with_reducible refine And.intro (by kernel_rfl) ?_
    refine Wp_callP (c15 N  _ h11) (by kernel_rfl) rfl rfl rfl rfl (by decide) ?_
    have hh := getB_some h; clear h; obtain ⟨b13, h12, h⟩ := hh
    refine W_sound tab_ok mixed 3 _ _ _ ?_
    simp only [go_sem, ne_eq, not_false_eq_true, Nat.reduceBEq, Nat.reduceAdd, Nat.reduceSub, Nat.reduceMul, Nat.reduceLT, Nat.reduceLeDiff, Int.reduceLE, Int.reduceLT, Int.reduceToNat, Int.cast_ofNat_Int, ↓reduceIte, h3, h6, h9, h12]
    repeat with_reducible refine And.intro (by kernel_rfl) ?_
    obtain rfl := Option.some.inj h
    exact finC [(4, .v (.bool b13))] [(4, .v (.bool b13))] (by simp [leE, lk_cons]) (.cons _ _ _ _ _ (.v _ _ (.refl _)) .nil) (by rfl) (by simp [leE, lk_cons]) (by decide) (by decide) rfl (by simp only [go_sem, ne_eq, not_false_eq_true, Nat.reduceBEq, Nat.reduceAdd, Nat.reduceSub, Nat.reduceMul, Nat.reduceLT, Nat.reduceLeDiff, Int.reduceLE, Int.reduceLT, Int.reduceToNat, Int.cast_ofNat_Int, ↓reduceIte, resQ_tmp, resQ_cell, resQ_nil, retD_one, retD_two, retD_three, retD_none]; try simp [R.val, retD_one, retD_two, retD_three, retD_none])
  · have hh := bnd'_some h; clear h; obtain ⟨p52, h53, h⟩ := hh
    refine W_sound tab_ok mixed 17 _ _ _ ?_
    simp only [go_sem, ne_eq, not_false_eq_true, Nat.reduceBEq, Nat.reduceAdd, Nat.reduceSub, Nat.reduceMul, Nat.reduceLT, Nat.reduceLeDiff, Int.reduceLE, Int.reduceLT, Int.reduceToNat, Int.cast_ofNat_Int, ↓reduceIte, h3, h6, h9]
    repeat with_reducible refine And.intro (by kernel_rfl) ?_
    refine Wp_callP (c16 N _ _ h53) (by kernel_rfl) rfl rfl rfl rfl (by decide) ?_
    have hh := getL_some h; clear h; obtain ⟨n55, c56, h54, h⟩ := hh
    have hh := bnd'_some h; clear h; obtain ⟨p242, h243, h⟩ := hh
    refine W_sound tab_ok mixed 9 _ _ _ ?_
    simp only [go_sem, ne_eq, not_false_eq_true, Nat.reduceBEq, Nat.reduceAdd, Nat.reduceSub, Nat.reduceMul, Nat.reduceLT, Nat.reduceLeDiff, Int.reduceLE, Int.reduceLT, Int.reduceToNat, Int.cast_ofNat_Int, ↓reduceIte, h3, h6, h9, h54]
    repeat with_reducible refine And.intro (by kernel_rfl) ?_
    refine Wp_callP (c17 N _ _ _ h243) (by kernel_rfl) rfl rfl rfl rfl (by decide) ?_
    have hh := getT2_some h; clear h; obtain ⟨p245, p246, h244, h⟩ := hh
    have hh := getA2_some h; clear h; obtain ⟨p248, p249, h247, h⟩ := hh
    have hh := getI_some h; clear h; obtain ⟨x251, h250, h⟩ := hh
    have hh := bnd'_some h; clear h; obtain ⟨p408, h409, h⟩ := hh
    refine W_sound tab_ok mixed 11 _ _ _ ?_
    simp only [go_sem, ne_eq, not_false_eq_true, Nat.reduceBEq, Nat.reduceAdd, Nat.reduceSub, Nat.reduceMul, Nat.reduceLT, Nat.reduceLeDiff, Int.reduceLE, Int.reduceLT, Int.reduceToNat, Int.cast_ofNat_Int, ↓reduceIte, h3, h6, h9, h54, h244, h247, h250]
    repeat with_reducible refine And.intro (by kernel_rfl) ?_
    refine Wp_callP (c18 N _ _ _ h409) (by kernel_rfl) rfl rfl rfl rfl (by decide) ?_
    have hh := getT2_some h; clear h; obtain ⟨p411, p412, h410, h⟩ := hh
    have hh := getA2_some h; clear h; obtain ⟨p414, p415, h413, h⟩ := hh
    have hh := getI_some h; clear h; obtain ⟨x417, h416, h⟩ := hh
    have hh := bnd'_some h; clear h; obtain ⟨p473, h474, h⟩ := hh
    refine W_sound tab_ok mixed 11 _ _ _ ?_
    simp only [go_sem, ne_eq, not_false_eq_true, Nat.reduceBEq, Nat.reduceAdd, Nat.reduceSub, Nat.reduceMul, Nat.reduceLT, Nat.reduceLeDiff, Int.reduceLE, Int.reduceLT, Int.reduceToNat, Int.cast_ofNat_Int, ↓reduceIte, h3, h6, h9, h54, h244, h247, h250, h410, h413, h416]
    repeat with_reducible refine And.intro (by kernel_rfl) ?_
    refine Wp_callP (c19 N _ _ _ h474) (by kernel_rfl) rfl rfl rfl rfl (by decide) ?_
    have hh := getT2_some h; clear h; obtain ⟨p476, p477, h475, h⟩ := hh
    have hh := getL_some h; clear h; obtain ⟨n479, c480, h478, h⟩ := hh
    have hh := getI_some h; clear h; obtain ⟨x482, h481, h⟩ := hh
    have hh := bnd'_some h; clear h; obtain ⟨p557, h558, h⟩ := hh
    refine W_sound tab_ok mixed 10 _ _ _ ?_
    simp only [go_sem, ne_eq, not_false_eq_true, Nat.reduceBEq, Nat.reduceAdd, Nat.reduceSub, Nat.reduceMul, Nat.reduceLT, Nat.reduceLeDiff, Int.reduceLE, Int.reduceLT, Int.reduceToNat, Int.cast_ofNat_Int, ↓reduceIte, h3, h6, h9, h54, h244, h247, h250, h410, h413, h416, h475, h478, h481]
    repeat with_reducible refine And.intro (by kernel_rfl) ?_
    refine Wp_callP (c20 N _ _ _ h558) (by kernel_rfl) rfl rfl rfl rfl (by decide) ?_
    have hh := getT2_some h; clear h; obtain ⟨p560, p561, h559, h⟩ := hh
    have hh := getL_some h; clear h; obtain ⟨n563, c564, h562, h⟩ := hh
    have hh := getI_some h; clear h; obtain ⟨x566, h565, h⟩ := hh
    have hh := getI_some h; clear h; obtain ⟨x568, h567, h⟩ := hh
    have hh := getI_some h; clear h; obtain ⟨x570, h569, h⟩ := hh
    have hh := getI_some h; clear h; obtain ⟨x572, h571, h⟩ := hh
    have hh := getI_some h; clear h; obtain ⟨x574, h573, h⟩ := hh
    have hh := brn_some h; clear h; rcases hh with ⟨h575, h⟩ | ⟨h575, h⟩
    · have hh := brn_some h; clear h; rcases hh with ⟨h576, h⟩ | ⟨h576, h⟩
      · have hh := bnd'_some h; clear h; obtain ⟨p602, h603, h⟩ := hh
        refine W_sound tab_ok mixed 19 _ _ _ ?_
        simp only [go_sem, ne_eq, not_false_eq_true, Nat.reduceBEq, Nat.reduceAdd, Nat.reduceSub, Nat.reduceMul, Nat.reduceLT, Nat.reduceLeDiff, Int.reduceLE, Int.reduceLT, Int.reduceToNat, Int.cast_ofNat_Int, ↓reduceIte, h3, h6, h9, h54, h244, h247, h250, h410, h413, h416, h475, h478, h481, h559, h562, h565, h567, h569, h571, h573, h575, h576]
        repeat with_reducible refine And.intro (by kernel_rfl) ?_
        refine Wp_callP (c21 N _ _ _ h603) (by kernel_rfl) rfl rfl rfl rfl (by decide) ?_
        have hh := getB_some h; clear h; obtain ⟨b605, h604, h⟩ := hh
        have hh := brn_some h; clear h; rcases hh with ⟨h606, h⟩ | ⟨h606, h⟩
        · have hh := brn_some h; clear h; rcases hh with ⟨h607, h⟩ | ⟨h607, h⟩
          · have hh := bnd'_some h; clear h; obtain ⟨p608, h609, h⟩ := hh
            refine W_sound tab_ok mixed 8 _ _ _ ?_
            simp only [go_sem, ne_eq, not_false_eq_true, Nat.reduceBEq, Nat.reduceAdd, Nat.reduceSub, Nat.reduceMul, Nat.reduceLT, Nat.reduceLeDiff, Int.reduceLE, Int.reduceLT, Int.reduceToNat, Int.cast_ofNat_Int, ↓reduceIte, h3, h6, h9, h54, h244, h247, h250, h410, h413, h416, h475, h478, h481, h559, h562, h565, h567, h569, h571, h573, h575, h576, h604, h606, h607]
            repeat with_reducible refine And.intro (by kernel_rfl) ?_
            refine Wp_callP (c22 N _ _ h609) (by kernel_rfl) rfl rfl rfl rfl (by decide) ?_
            have hh := getI_some h; clear h; obtain ⟨x611, h610, h⟩ := hh
            have hh := bnd'_some h; clear h; obtain ⟨p612, h613, h⟩ := hh
            refine W_sound tab_ok mixed 1 _ _ _ ?_
            simp only [go_sem, ne_eq, not_false_eq_true, Nat.reduceBEq, Nat.reduceAdd, Nat.reduceSub, Nat.reduceMul, Nat.reduceLT, Nat.reduceLeDiff, Int.reduceLE, Int.reduceLT, Int.reduceToNat, Int.cast_ofNat_Int, ↓reduceIte, h3, h6, h9, h54, h244, h247, h250, h410, h413, h416, h475, h478, h481, h559, h562, h565, h567, h569, h571, h573, h575, h576, h604, h606, h607, h610]
            repeat with_reducible refine And.intro (by kernel_rfl) ?_
            refine Wp_callP (c23 N _ _ h613) (by kernel_rfl) rfl rfl rfl rfl (by decide) ?_
            have hh := getI_some h; clear h; obtain ⟨x615, h614, h⟩ := hh
            have hh := brn_some h; clear h; rcases hh with ⟨h616, h⟩ | ⟨h616, h⟩
            · have hh := bnd'_some h; clear h; obtain ⟨p617, h618, h⟩ := hh
              refine W_sound tab_ok mixed 3 _ _ _ ?_
              simp only [go_sem, ne_eq, not_false_eq_true, Nat.reduceBEq, Nat.reduceAdd, Nat.reduceSub, Nat.reduceMul, Nat.reduceLT, Nat.reduceLeDiff, Int.reduceLE, Int.reduceLT, Int.reduceToNat, Int.cast_ofNat_Int, ↓reduceIte, h3, h6, h9, h54, h244, h247, h250, h410, h413, h416, h475, h478, h481, h559, h562, h565, h567, h569, h571, h573, h575, h576, h604, h606, h607, h610, h614, h616]
              repeat with_reducible refine And.intro (by kernel_rfl) ?_
              refine Wp_callP (c15 N  _ h618) (by kernel_rfl) rfl rfl rfl rfl (by decide) ?_
              have hh := getB_some h; clear h; obtain ⟨b620, h619, h⟩ := hh
              refine W_sound tab_ok mixed 4 _ _ _ ?_
              simp only [go_sem, ne_eq, not_false_eq_true, Nat.reduceBEq, Nat.reduceAdd, Nat.reduceSub, Nat.reduceMul, Nat.reduceLT, Nat.reduceLeDiff, Int.reduceLE, Int.reduceLT, Int.reduceToNat, Int.cast_ofNat_Int, ↓reduceIte, h3, h6, h9, h54, h244, h247, h250, h410, h413, h416, h475, h478, h481, h559, h562, h565, h567, h569, h571, h573, h575, h576, h604, h606, h607, h610, h614, h616, h619]
              repeat with_reducible refine And.intro (by kernel_rfl) ?_
              obtain rfl := Option.some.inj h
              exact finC [(4, .v (.bool b620))] [(4, .v (.bool b620))] (by simp [leE, lk_cons]) (.cons _ _ _ _ _ (.v _ _ (.refl _)) .nil) (by rfl) (by simp [leE, lk_cons]) (by decide) (by decide) rfl (by simp only [go_sem, ne_eq, not_false_eq_true, Nat.reduceBEq, Nat.reduceAdd, Nat.reduceSub, Nat.reduceMul, Nat.reduceLT, Nat.reduceLeDiff, Int.reduceLE, Int.reduceLT, Int.reduceToNat, Int.cast_ofNat_Int, ↓reduceIte, resQ_tmp, resQ_cell, resQ_nil, retD_one, retD_two, retD_three, retD_none]; try simp [R.val, retD_one, retD_two, retD_three, retD_none])
            · refine W_sound tab_ok mixed 8 _ _ _ ?_
              simp only [go_sem, ne_eq, not_false_eq_true, Nat.reduceBEq, Nat.reduceAdd, Nat.reduceSub, Nat.reduceMul, Nat.reduceLT, Nat.reduceLeDiff, Int.reduceLE, Int.reduceLT, Int.reduceToNat, Int.cast_ofNat_Int, ↓reduceIte, h3, h6, h9, h54, h244, h247, h250, h410, h413, h416, h475, h478, h481, h559, h562, h565, h567, h569, h571, h573, h575, h576, h604, h606, h607, h610, h614, h616]
              repeat with_reducible refine And.intro (by kernel_rfl) ?_
              obtain rfl := Option.some.inj h
              exact finC [(4, .v (.bool false))] [(4, .v (.bool false))] (by simp [leE, lk_cons]) (.cons _ _ _ _ _ (.v _ _ (.refl _)) .nil) (by rfl) (by simp [leE, lk_cons]) (by decide) (by decide) rfl (by simp only [go_sem, ne_eq, not_false_eq_true, Nat.reduceBEq, Nat.reduceAdd, Nat.reduceSub, Nat.reduceMul, Nat.reduceLT, Nat.reduceLeDiff, Int.reduceLE, Int.reduceLT, Int.reduceToNat, Int.cast_ofNat_Int, ↓reduceIte, resQ_tmp, resQ_cell, resQ_nil, retD_one, retD_two, retD_three, retD_none]; try simp [R.val, retD_one, retD_two, retD_three, retD_none])
          · refine W_sound tab_ok mixed 19 _ _ _ ?_
            simp only [go_sem, ne_eq, not_false_eq_true, Nat.reduceBEq, Nat.reduceAdd, Nat.reduceSub, Nat.reduceMul, Nat.reduceLT, Nat.reduceLeDiff, Int.reduceLE, Int.reduceLT, Int.reduceToNat, Int.cast_ofNat_Int, ↓reduceIte, h3, h6, h9, h54, h244, h247, h250, h410, h413, h416, h475, h478, h481, h559, h562, h565, h567, h569, h571, h573, h575, h576, h604, h606, h607]
            repeat with_reducible refine And.intro (by kernel_rfl) ?_
            obtain rfl := Option.some.inj h
            exact finC [(4, .v (.bool false))] [(4, .v (.bool false))] (by simp [leE, lk_cons]) (.cons _ _ _ _ _ (.v _ _ (.refl _)) .nil) (by rfl) (by simp [leE, lk_cons]) (by decide) (by decide) rfl (by simp only [go_sem, ne_eq, not_false_eq_true, Nat.reduceBEq, Nat.reduceAdd, Nat.reduceSub, Nat.reduceMul, Nat.reduceLT, Nat.reduceLeDiff, Int.reduceLE, Int.reduceLT, Int.reduceToNat, Int.cast_ofNat_Int, ↓reduceIte, resQ_tmp, resQ_cell, resQ_nil, retD_one, retD_two, retD_three, retD_none]; try simp [R.val, retD_one, retD_two, retD_three, retD_none])
        · refine W_sound tab_ok mixed 19 _ _ _ ?_
          simp only [go_sem, ne_eq, not_false_eq_true, Nat.reduceBEq, Nat.reduceAdd, Nat.reduceSub, Nat.reduceMul, Nat.reduceLT, Nat.reduceLeDiff, Int.reduceLE, Int.reduceLT, Int.reduceToNat, Int.cast_ofNat_Int, ↓reduceIte, h3, h6, h9, h54, h244, h247, h250, h410, h413, h416, h475, h478, h481, h559, h562, h565, h567, h569, h571, h573, h575, h576, h604, h606]
          repeat with_reducible refine And.intro (by kernel_rfl) ?_
          obtain rfl := Option.some.inj h
          exact finC [(4, .v (.bool false))] [(4, .v (.bool false))] (by simp [leE, lk_cons]) (.cons _ _ _ _ _ (.v _ _ (.refl _)) .nil) (by rfl) (by simp [leE, lk_cons]) (by decide) (by decide) rfl (by simp only [go_sem, ne_eq, not_false_eq_true, Nat.reduceBEq, Nat.reduceAdd, Nat.reduceSub, Nat.reduceMul, Nat.reduceLT, Nat.reduceLeDiff, Int.reduceLE, Int.reduceLT, Int.reduceToNat, Int.cast_ofNat_Int, ↓reduceIte, resQ_tmp, resQ_cell, resQ_nil, retD_one, retD_two, retD_three, retD_none]; try simp [R.val, retD_one, retD_two, retD_three, retD_none])
      · refine W_sound tab_ok mixed 39 _ _ _ ?_
        simp only [go_sem, ne_eq, not_false_eq_true, Nat.reduceBEq, Nat.reduceAdd, Nat.reduceSub, Nat.reduceMul, Nat.reduceLT, Nat.reduceLeDiff, Int.reduceLE, Int.reduceLT, Int.reduceToNat, Int.cast_ofNat_Int, ↓reduceIte, h3, h6, h9, h54, h244, h247, h250, h410, h413, h416, h475, h478, h481, h559, h562, h565, h567, h569, h571, h573, h575, h576]
        repeat with_reducible refine And.intro (by kernel_rfl) ?_
        obtain rfl := Option.some.inj h
        exact finC [(4, .v (.bool false))] [(4, .v (.bool false))] (by simp [leE, lk_cons]) (.cons _ _ _ _ _ (.v _ _ (.refl _)) .nil) (by rfl) (by simp [leE, lk_cons]) (by decide) (by decide) rfl (by simp only [go_sem, ne_eq, not_false_eq_true, Nat.reduceBEq, Nat.reduceAdd, Nat.reduceSub, Nat.reduceMul, Nat.reduceLT, Nat.reduceLeDiff, Int.reduceLE, Int.reduceLT, Int.reduceToNat, Int.cast_ofNat_Int, ↓reduceIte, resQ_tmp, resQ_cell, resQ_nil, retD_one, retD_two, retD_three, retD_none]; try simp [R.val, retD_one, retD_two, retD_three, retD_none])
    · refine W_sound tab_ok mixed 39 _ _ _ ?_
      simp only [go_sem, ne_eq, not_false_eq_true, Nat.reduceBEq, Nat.reduceAdd, Nat.reduceSub, Nat.reduceMul, Nat.reduceLT, Nat.reduceLeDiff, Int.reduceLE, Int.reduceLT, Int.reduceToNat, Int.cast_ofNat_Int, ↓reduceIte, h3, h6, h9, h54, h244, h247, h250, h410, h413, h416, h475, h478, h481, h559, h562, h565, h567, h569, h571, h573, h575]
      repeat with_reducible refine And.intro (by kernel_rfl) ?_
      obtain rfl := Option.some.inj h
      exact finC [(4, .v (.bool false))] [(4, .v (.bool false))] (by simp [leE, lk_cons]) (.cons _ _ _ _ _ (.v _ _ (.refl _)) .nil) (by rfl) (by simp [leE, lk_cons]) (by decide) (by decide) rfl (by simp only [go_sem, ne_eq, not_false_eq_true, Nat.reduceBEq, Nat.reduceAdd, Nat.reduceSub, Nat.reduceMul, Nat.reduceLT, Nat.reduceLeDiff, Int.reduceLE, Int.reduceLT, Int.reduceToNat, Int.cast_ofNat_Int, ↓reduceIte, resQ_tmp, resQ_cell, resQ_nil, retD_one, retD_two, retD_three, retD_none]; try simp [R.val, retD_one, retD_two, retD_three, retD_none])
end Go.Proofs.Ytgnphlpoofaojaa
