import Derived.Test.YtgnphlpoofaojaaB
import Derived.Test.YtgnphlpoofaojaaV30
import Derived.Test.YtgnphlpoofaojaaK
namespace Go.Proofs.Ytgnphlpoofaojaa
open Go.V
set_option maxRecDepth 100000
set_option linter.unusedSimpArgs false
set_option linter.unusedVariables false
attribute [local go_sem] tl1 tl2 tl3 tl4 tl5 tl9 tl17 tl21 tl22 tl23 tl24 tl25 tl26 tl27 tl28 tl29 tl31 tl33 tl34 tl36 tl37 tl38 tl39 tl40 tl41 tl42 tl43 tl44 tl46 tl47 tl49 tl50 tl52 tl53 tl54 tl55 tl56 tl57 tl58 tl60 tl62 tl63 tl64 tl65 tl66 tl67 tl68 tl69 tl70 tl71 tl72 tl74 tl75 tl76 tl77 tl78 tl79 tl80 tl81 tl82 tl83 tl84 tl85 tl86 tl87 tl88 tl89 tl90 tl91 tl92 tl93 tl94 tl95 tl96 tl97 tl98 tl99 tl100 tl102 tl103 tl104 tl105 tl106 tl107 tl108 tl109 tl110 tl111 tl112 tl113 tl114 tl115 tl116 tl117 tl118 tl119 tl120 tl121 tl122 tl123 tl124 tl125 tl126 tl127 tl128 tl129 tl130 tl131 tl132 tl133 tl134 tl140 tl141 tl145

def m15 (N : Nat) : Option PV := some (.bool true)
theorem c15 (N : Nat) (r : PV) (h : m15 N = some r) : FnP Try.prog 15 [] r := by
  obtain rfl := Option.some.inj h
  exact k31

def m16_L0 (N : Nat) (n16 : Nat) (c17 : List PV) : Nat → Nat → Int → List PV → Option ((Nat × List PV))
  | 0, _, _, _ => none
  | n + 1, n34, x35, c36 =>
    brn (decide (x35 < ((n16 : Nat) : Int))) (
      grd (0 ≤ x35 ∧ x35 < ((n16 : Nat) : Int)) <|
      grd (2 ≤ List.length (List.drop ((Int.toNat x35) * 2) c17)) <|
      getA2 (.agg (List.take 2 (List.drop ((Int.toNat x35) * 2) c17))) fun p42 p43 =>
      grd ((n34 + 1) ≤ 1099511627776) <|
      grd (List.length c36 = (n34 * 2)) <|
      m16_L0 N n16 c17 n (n34 + 1) (IntKind.i64.wrap (x35 + 1)) (c36 ++ [p42, p43])) (
      some (n34, c36))
def m16 (N : Nat) (p14 : PV) : Option (PV) :=
  getL p14 fun n16 c17 =>
  bnd' (m16_L0 N n16 c17 N 0 0 []) fun o =>
  match o with
  | (n46, c47) =>
    grd (List.length c47 = (n46 * 2)) <|
    some (.lst false n46 c47)
theorem c16 (N : Nat) (p14 : PV) (r : PV)  (h : m16 N p14 = some r) : FnP Try.prog 16 [p14] r := by
  unfold m16 at h
  refine Fn_of (sz := 19) tab_ok [0, 2, 3, 4, 8] [.tmp 2] Try.func16 rfl rfl rfl (by simp) ?_
  simp only [initSt, initEnv, List.map_cons, List.map_nil, List.getD_cons_zero, List.getD_cons_succ, List.getD_nil]
  have hh := getL_some h; clear h; obtain ⟨n16, c17, h15, h⟩ := hh
  refine W_sound tab_ok mixed 13 _ _ _ ?_
  simp only [go_sem, ne_eq, not_false_eq_true, Nat.reduceBEq, Nat.reduceAdd, Nat.reduceSub, Nat.reduceMul, Nat.reduceLT, Nat.reduceLeDiff, Int.reduceLE, Int.reduceLT, Int.reduceToNat, Int.cast_ofNat_Int, ↓reduceIte, h15]
  repeat with_reducible refine And.intro (by kernel_rfl) ?_
  refine Wp_weaken (Wk_ownS 3 2 rfl (by decide) (by decide)) ?_
  simp only [go_sem, ne_eq, not_false_eq_true, Nat.reduceBEq, Nat.reduceAdd, Nat.reduceSub, Nat.reduceMul, Nat.reduceLT, Nat.reduceLeDiff, Int.reduceLE, Int.reduceLT, Int.reduceToNat, Int.cast_ofNat_Int, ↓reduceIte, h15]
  have hh := bnd'_some h; clear h; obtain ⟨o49, h50, h51⟩ := hh
  refine Wp_cut (fun s => ∃ n46, ∃ c47, (n46, c47) = o49 ∧ s = ⟨[], [(0, .dead), (2, .dead), (3, .sl false 0 0 n46 2), (4, .dead), (8, .dead)], [(0, .p c47)], 1, []⟩) ?_ ?_
  · refine Wp_block ?_
    refine Wp_loopG (fun n s => ∃ n34, ∃ x35, ∃ c36, m16_L0 N n16 c17 n n34 x35 c36 = some o49 ∧ s = ⟨[], [(0, .v (.lst false n16 c17)), (2, .dead), (3, .sl false 0 0 n34 2), (4, .v (.int .i64 x35)), (8, .dead)], [(0, .p c36)], 1, []⟩) N _ ((Wk_le (.cons _ _ _ _ _ (.refl _) (.cons _ _ _ _ _ (.dead _) (.cons _ _ _ _ _ (.refl _) (.cons _ _ _ _ _ (.refl _) (.cons _ _ _ _ _ (.refl _) .nil))))) (OLe.refl _)).trans (cmpS_ok rfl)) ⟨_, _, _, h50, rfl⟩ ?_
    clear h50
    rintro n _ ⟨n34, x35, c36, h50, rfl⟩
    cases n with
    | zero => cases h50
    | succ n =>
      rw [m16_L0] at h50
      have hh := brn_some h50; clear h50; rcases hh with ⟨h37, h50⟩ | ⟨h37, h50⟩
      · have hh := grd_some h50; clear h50; obtain ⟨⟨g38, g39⟩, h50⟩ := hh
        have hh := grd_some h50; clear h50; obtain ⟨g40, h50⟩ := hh
        have hh := getA2_some h50; clear h50; obtain ⟨p42, p43, h41, h50⟩ := hh
        injection h41 with h41
        have hh := grd_some h50; clear h50; obtain ⟨g44, h50⟩ := hh
        have hh := grd_some h50; clear h50; obtain ⟨g45, h50⟩ := hh
        refine W_sound tab_ok mixed 28 _ _ _ ?_
        simp only [go_sem, ne_eq, not_false_eq_true, Nat.reduceBEq, Nat.reduceAdd, Nat.reduceSub, Nat.reduceMul, Nat.reduceLT, Nat.reduceLeDiff, Int.reduceLE, Int.reduceLT, Int.reduceToNat, Int.cast_ofNat_Int, ↓reduceIte, h15, h37, g38, g39, g40, h41, g44, g45]
        repeat with_reducible refine And.intro (by kernel_rfl) ?_
        exact cutQ _ ((Wk_le (.cons _ _ _ _ _ (.refl _) (.cons _ _ _ _ _ (.refl _) (.cons _ _ _ _ _ (.refl _) (.cons _ _ _ _ _ (.refl _) (.cons _ _ _ _ _ (.dead _) .nil))))) (OLe.refl _)).trans (cmpS_ok rfl)) ⟨n, Nat.lt_succ_self n, _, _, _, h50, rfl⟩
      · refine W_sound tab_ok mixed 10 _ _ _ ?_
        simp only [go_sem, ne_eq, not_false_eq_true, Nat.reduceBEq, Nat.reduceAdd, Nat.reduceSub, Nat.reduceMul, Nat.reduceLT, Nat.reduceLeDiff, Int.reduceLE, Int.reduceLT, Int.reduceToNat, Int.cast_ofNat_Int, ↓reduceIte, h15, h37]
        repeat with_reducible refine And.intro (by kernel_rfl) ?_
        obtain rfl := Option.some.inj h50
        exact cutQ _ ((Wk_le (.cons _ _ _ _ _ (.dead _) (.cons _ _ _ _ _ (.refl _) (.cons _ _ _ _ _ (.refl _) (.cons _ _ _ _ _ (.dead _) (.cons _ _ _ _ _ (.dead _) .nil))))) (OLe.refl _)).trans (cmpS_ok rfl)) ⟨_, _, rfl, rfl⟩
  · rintro _ ⟨n46, c47, rfl, rfl⟩
    (try dsimp only at h51)
    refine W_sound tab_ok mixed 6 _ _ _ ?_
    simp only [go_sem, ne_eq, not_false_eq_true, Nat.reduceBEq, Nat.reduceAdd, Nat.reduceSub, Nat.reduceMul, Nat.reduceLT, Nat.reduceLeDiff, Int.reduceLE, Int.reduceLT, Int.reduceToNat, Int.cast_ofNat_Int, ↓reduceIte, h15]
    repeat with_reducible refine And.intro (by kernel_rfl) ?_
    have hh := grd_some h51; clear h51; obtain ⟨g48, h51⟩ := hh
    refine FinQ_wk (Wk_freeze 0 c47 (by rfl) (by decide) (by decide)) ?_
    simp only [go_sem, ne_eq, not_false_eq_true, Nat.reduceBEq, Nat.reduceAdd, Nat.reduceSub, Nat.reduceMul, Nat.reduceLT, Nat.reduceLeDiff, Int.reduceLE, Int.reduceLT, Int.reduceToNat, Int.cast_ofNat_Int, ↓reduceIte, h15, g48]
    obtain rfl := Option.some.inj h51
    exact finC [(2, .v (.lst false n46 c47))] [(2, .v (.lst false n46 c47))] (by simp [leE, lk_cons]) (.cons _ _ _ _ _ (.v _ _ (.refl _)) .nil) (by rfl) (by simp [leE, lk_cons]) (by decide) (by decide) rfl (by simp only [go_sem, ne_eq, not_false_eq_true, Nat.reduceBEq, Nat.reduceAdd, Nat.reduceSub, Nat.reduceMul, Nat.reduceLT, Nat.reduceLeDiff, Int.reduceLE, Int.reduceLT, Int.reduceToNat, Int.cast_ofNat_Int, ↓reduceIte, resQ_tmp, resQ_cell, resQ_nil, retD_one, retD_two, retD_three, retD_none]; try simp [R.val, retD_one, retD_two, retD_three, retD_none])

def m63 (N : Nat) (x89 : Int) (x90 : Int) : Option (PV) :=
  brn (decide ((IntKind.i64.wrap (0 - x90)) ≤ x89)) (
    some (.bool (decide (x89 ≤ x90)))) (
    some (.bool false))
theorem c63 (N : Nat) (x89 : Int) (x90 : Int) (r : PV)  (h : m63 N x89 x90 = some r) : FnP Try.prog 63 [(.int .i64 x89), (.int .i64 x90)] r := by
  unfold m63 at h
  refine Fn_of (sz := 14) tab_ok [0, 1, 4] [.tmp 4] Try.func63 rfl rfl rfl (by simp) ?_
  simp only [initSt, initEnv, List.map_cons, List.map_nil, List.getD_cons_zero, List.getD_cons_succ, List.getD_nil]
  have hh := brn_some h; clear h; rcases hh with ⟨h91, h⟩ | ⟨h91, h⟩
  · refine W_sound tab_ok mixed 18 _ _ _ ?_
    simp only [go_sem, ne_eq, not_false_eq_true, Nat.reduceBEq, Nat.reduceAdd, Nat.reduceSub, Nat.reduceMul, Nat.reduceLT, Nat.reduceLeDiff, Int.reduceLE, Int.reduceLT, Int.reduceToNat, Int.cast_ofNat_Int, ↓reduceIte, h91]
    repeat with_reducible refine And.intro (by kernel_rfl) ?_
    obtain rfl := Option.some.inj h
    exact finC [(4, .v (.bool (decide (x89 ≤ x90))))] [(4, .v (.bool (decide (x89 ≤ x90))))] (by simp [leE, lk_cons]) (.cons _ _ _ _ _ (.v _ _ (.refl _)) .nil) (by rfl) (by simp [leE, lk_cons]) (by decide) (by decide) rfl (by simp only [go_sem, ne_eq, not_false_eq_true, Nat.reduceBEq, Nat.reduceAdd, Nat.reduceSub, Nat.reduceMul, Nat.reduceLT, Nat.reduceLeDiff, Int.reduceLE, Int.reduceLT, Int.reduceToNat, Int.cast_ofNat_Int, ↓reduceIte, resQ_tmp, resQ_cell, resQ_nil, retD_one, retD_two, retD_three, retD_none]; try simp [R.val, retD_one, retD_two, retD_three, retD_none])
  · refine W_sound tab_ok mixed 18 _ _ _ ?_
    simp only [go_sem, ne_eq, not_false_eq_true, Nat.reduceBEq, Nat.reduceAdd, Nat.reduceSub, Nat.reduceMul, Nat.reduceLT, Nat.reduceLeDiff, Int.reduceLE, Int.reduceLT, Int.reduceToNat, Int.cast_ofNat_Int, ↓reduceIte, h91]
    repeat with_reducible refine And.intro (by kernel_rfl) ?_
    obtain rfl := Option.some.inj h
    exact finC [(4, .v (.bool false))] [(4, .v (.bool false))] (by simp [leE, lk_cons]) (.cons _ _ _ _ _ (.v _ _ (.refl _)) .nil) (by rfl) (by simp [leE, lk_cons]) (by decide) (by decide) rfl (by simp only [go_sem, ne_eq, not_false_eq_true, Nat.reduceBEq, Nat.reduceAdd, Nat.reduceSub, Nat.reduceMul, Nat.reduceLT, Nat.reduceLeDiff, Int.reduceLE, Int.reduceLT, Int.reduceToNat, Int.cast_ofNat_Int, ↓reduceIte, resQ_tmp, resQ_cell, resQ_nil, retD_one, retD_two, retD_three, retD_none]; try simp [R.val, retD_one, retD_two, retD_three, retD_none])

def m22_L0 (N : Nat) (n75 : Nat) (c76 : List PV) : Nat → Int → Option ((PV ⊕ Unit))
  | 0, _ => none
  | n + 1, x79 =>
    brn (decide (x79 < ((n75 : Nat) : Int))) (
      grd (0 ≤ x79 ∧ x79 < ((n75 : Nat) : Int)) <|
      grd (2 ≤ List.length (List.drop ((Int.toNat x79) * 2) c76)) <|
      getA2 (.agg (List.take 2 (List.drop ((Int.toNat x79) * 2) c76))) fun p85 p86 =>
      getI .i64 p85 fun x88 =>
      bnd' (m63 N x88 100) fun p92 =>
      getB p92 fun b95 =>
      brn b95 (
        getI .i64 p86 fun x98 =>
        bnd' (m63 N x98 10) fun p99 =>
        getB p99 fun b102 =>
        brn b102 (
          m22_L0 N n75 c76 n (IntKind.i64.wrap (x79 + 1))) (
          some (.inl (.int .i64 1)))) (
        some (.inl (.int .i64 1)))) (
      some (.inr ()))
def m22 (N : Nat) (p73 : PV) : Option (PV) :=
  getL p73 fun n75 c76 =>
  brn (((n75 : Nat) : Int) == 0) (
    some (.int .i64 4)) (
    brn (decide (((n75 : Nat) : Int) > 8)) (
      some (.int .i64 3)) (
      bnd' (m22_L0 N n75 c76 N 0) fun o =>
      match o with
      | .inl p104 =>
        some p104
      | .inr () =>
        some (.int .i64 0)))
theorem c22 (N : Nat) (p73 : PV) (r : PV)  (h : m22 N p73 = some r) : FnP Try.prog 22 [p73] r := by
  unfold m22 at h
  refine Fn_of (sz := 30) tab_ok [0, 2, 4, 5, 9, 13, 14, 15, 16, 28] [.tmp 2] Try.func22 rfl rfl rfl (by simp) ?_
  simp only [initSt, initEnv, List.map_cons, List.map_nil, List.getD_cons_zero, List.getD_cons_succ, List.getD_nil]
  have hh := getL_some h; clear h; obtain ⟨n75, c76, h74, h⟩ := hh
  have hh := brn_some h; clear h; rcases hh with ⟨h77, h⟩ | ⟨h77, h⟩
  · refine W_sound tab_ok mixed 19 _ _ _ ?_
    simp only [go_sem, ne_eq, not_false_eq_true, Nat.reduceBEq, Nat.reduceAdd, Nat.reduceSub, Nat.reduceMul, Nat.reduceLT, Nat.reduceLeDiff, Int.reduceLE, Int.reduceLT, Int.reduceToNat, Int.cast_ofNat_Int, ↓reduceIte, h74, h77]
    repeat with_reducible refine And.intro (by kernel_rfl) ?_
    obtain rfl := Option.some.inj h
    exact finC [(2, .v (.int .i64 4))] [(2, .v (.int .i64 4))] (by simp [leE, lk_cons]) (.cons _ _ _ _ _ (.v _ _ (.refl _)) .nil) (by rfl) (by simp [leE, lk_cons]) (by decide) (by decide) rfl (by simp only [go_sem, ne_eq, not_false_eq_true, Nat.reduceBEq, Nat.reduceAdd, Nat.reduceSub, Nat.reduceMul, Nat.reduceLT, Nat.reduceLeDiff, Int.reduceLE, Int.reduceLT, Int.reduceToNat, Int.cast_ofNat_Int, ↓reduceIte, resQ_tmp, resQ_cell, resQ_nil, retD_one, retD_two, retD_three, retD_none]; try simp [R.val, retD_one, retD_two, retD_three, retD_none])
  · have hh := brn_some h; clear h; rcases hh with ⟨h78, h⟩ | ⟨h78, h⟩
    · refine W_sound tab_ok mixed 27 _ _ _ ?_
      simp only [go_sem, ne_eq, not_false_eq_true, Nat.reduceBEq, Nat.reduceAdd, Nat.reduceSub, Nat.reduceMul, Nat.reduceLT, Nat.reduceLeDiff, Int.reduceLE, Int.reduceLT, Int.reduceToNat, Int.cast_ofNat_Int, ↓reduceIte, h74, h77, h78]
      repeat with_reducible refine And.intro (by kernel_rfl) ?_
      obtain rfl := Option.some.inj h
      exact finC [(2, .v (.int .i64 3))] [(2, .v (.int .i64 3))] (by simp [leE, lk_cons]) (.cons _ _ _ _ _ (.v _ _ (.refl _)) .nil) (by rfl) (by simp [leE, lk_cons]) (by decide) (by decide) rfl (by simp only [go_sem, ne_eq, not_false_eq_true, Nat.reduceBEq, Nat.reduceAdd, Nat.reduceSub, Nat.reduceMul, Nat.reduceLT, Nat.reduceLeDiff, Int.reduceLE, Int.reduceLT, Int.reduceToNat, Int.cast_ofNat_Int, ↓reduceIte, resQ_tmp, resQ_cell, resQ_nil, retD_one, retD_two, retD_three, retD_none]; try simp [R.val, retD_one, retD_two, retD_three, retD_none])
    · refine W_sound tab_ok mixed 31 _ _ _ ?_
      simp only [go_sem, ne_eq, not_false_eq_true, Nat.reduceBEq, Nat.reduceAdd, Nat.reduceSub, Nat.reduceMul, Nat.reduceLT, Nat.reduceLeDiff, Int.reduceLE, Int.reduceLT, Int.reduceToNat, Int.cast_ofNat_Int, ↓reduceIte, h74, h77, h78]
      repeat with_reducible refine And.intro (by kernel_rfl) ?_
      have hh := bnd'_some h; clear h; obtain ⟨o105, h106, h107⟩ := hh
      refine Wp_cut (fun s => (.inr ()) = o105 ∧ s = ⟨[], [(0, .dead), (2, .dead), (4, .dead), (5, .dead), (9, .dead), (13, .dead), (14, .dead), (15, .dead), (16, .dead), (28, .dead)], [], 0, []⟩) ?_ ?_
      · refine Wp_block ?_
        refine Wp_loopG (fun n s => ∃ x79, m22_L0 N n75 c76 n x79 = some o105 ∧ s = ⟨[], [(0, .dead), (2, .dead), (4, .dead), (5, .dead), (9, .dead), (13, .v (.lst false n75 c76)), (14, .v (.int .i64 ((n75 : Nat) : Int))), (15, .v (.int .i64 x79)), (16, .dead), (28, .dead)], [], 0, []⟩) N _ ((Wk_le (.cons _ _ _ _ _ (.dead _) (.cons _ _ _ _ _ (.dead _) (.cons _ _ _ _ _ (.refl _) (.cons _ _ _ _ _ (.dead _) (.cons _ _ _ _ _ (.dead _) (.cons _ _ _ _ _ (.refl _) (.cons _ _ _ _ _ (.refl _) (.cons _ _ _ _ _ (.refl _) (.cons _ _ _ _ _ (.refl _) (.cons _ _ _ _ _ (.refl _) .nil)))))))))) (OLe.refl _)).trans (cmpS_ok rfl)) ⟨_, h106, rfl⟩ ?_
        clear h106
        rintro n _ ⟨x79, h106, rfl⟩
        cases n with
        | zero => cases h106
        | succ n =>
          rw [m22_L0] at h106
          have hh := brn_some h106; clear h106; rcases hh with ⟨h80, h106⟩ | ⟨h80, h106⟩
          · have hh := grd_some h106; clear h106; obtain ⟨⟨g81, g82⟩, h106⟩ := hh
            have hh := grd_some h106; clear h106; obtain ⟨g83, h106⟩ := hh
            have hh := getA2_some h106; clear h106; obtain ⟨p85, p86, h84, h106⟩ := hh
            injection h84 with h84
            have hh := getI_some h106; clear h106; obtain ⟨x88, h87, h106⟩ := hh
            have hh := bnd'_some h106; clear h106; obtain ⟨p92, h93, h106⟩ := hh
            refine W_sound tab_ok mixed 20 _ _ _ ?_
            simp only [go_sem, ne_eq, not_false_eq_true, Nat.reduceBEq, Nat.reduceAdd, Nat.reduceSub, Nat.reduceMul, Nat.reduceLT, Nat.reduceLeDiff, Int.reduceLE, Int.reduceLT, Int.reduceToNat, Int.cast_ofNat_Int, ↓reduceIte, h74, h77, h78, h80, g81, g82, g83, h84, h87]
            repeat with_reducible refine And.intro (by kernel_rfl) ?_
            refine Wp_callP (c63 N _ _ _ h93) (by kernel_rfl) rfl rfl rfl rfl (by decide) ?_
            have hh := getB_some h106; clear h106; obtain ⟨b95, h94, h106⟩ := hh
            have hh := brn_some h106; clear h106; rcases hh with ⟨h96, h106⟩ | ⟨h96, h106⟩
            · have hh := getI_some h106; clear h106; obtain ⟨x98, h97, h106⟩ := hh
              have hh := bnd'_some h106; clear h106; obtain ⟨p99, h100, h106⟩ := hh
              refine W_sound tab_ok mixed 4 _ _ _ ?_
              simp only [go_sem, ne_eq, not_false_eq_true, Nat.reduceBEq, Nat.reduceAdd, Nat.reduceSub, Nat.reduceMul, Nat.reduceLT, Nat.reduceLeDiff, Int.reduceLE, Int.reduceLT, Int.reduceToNat, Int.cast_ofNat_Int, ↓reduceIte, h74, h77, h78, h80, g81, g82, g83, h84, h87, h94, h96, h97]
              repeat with_reducible refine And.intro (by kernel_rfl) ?_
              refine Wp_callP (c63 N _ _ _ h100) (by kernel_rfl) rfl rfl rfl rfl (by decide) ?_
              have hh := getB_some h106; clear h106; obtain ⟨b102, h101, h106⟩ := hh
              have hh := brn_some h106; clear h106; rcases hh with ⟨h103, h106⟩ | ⟨h103, h106⟩
              · refine W_sound tab_ok mixed 10 _ _ _ ?_
                simp only [go_sem, ne_eq, not_false_eq_true, Nat.reduceBEq, Nat.reduceAdd, Nat.reduceSub, Nat.reduceMul, Nat.reduceLT, Nat.reduceLeDiff, Int.reduceLE, Int.reduceLT, Int.reduceToNat, Int.cast_ofNat_Int, ↓reduceIte, h74, h77, h78, h80, g81, g82, g83, h84, h87, h94, h96, h97, h101, h103]
                repeat with_reducible refine And.intro (by kernel_rfl) ?_
                exact cutQ _ ((Wk_le (.cons _ _ _ _ _ (.refl _) (.cons _ _ _ _ _ (.refl _) (.cons _ _ _ _ _ (.dead _) (.cons _ _ _ _ _ (.refl _) (.cons _ _ _ _ _ (.refl _) (.cons _ _ _ _ _ (.refl _) (.cons _ _ _ _ _ (.refl _) (.cons _ _ _ _ _ (.refl _) (.cons _ _ _ _ _ (.dead _) (.cons _ _ _ _ _ (.dead _) .nil)))))))))) (OLe.refl _)).trans (cmpS_ok rfl)) ⟨n, Nat.lt_succ_self n, _, h106, rfl⟩
              · refine W_sound tab_ok mixed 9 _ _ _ ?_
                simp only [go_sem, ne_eq, not_false_eq_true, Nat.reduceBEq, Nat.reduceAdd, Nat.reduceSub, Nat.reduceMul, Nat.reduceLT, Nat.reduceLeDiff, Int.reduceLE, Int.reduceLT, Int.reduceToNat, Int.cast_ofNat_Int, ↓reduceIte, h74, h77, h78, h80, g81, g82, g83, h84, h87, h94, h96, h97, h101, h103]
                repeat with_reducible refine And.intro (by kernel_rfl) ?_
                obtain rfl := Option.some.inj h106
                (try dsimp only at h107)
                obtain rfl := Option.some.inj h107
                exact finC [(2, .v (.int .i64 1))] [(2, .v (.int .i64 1))] (by simp [leE, lk_cons]) (.cons _ _ _ _ _ (.v _ _ (.refl _)) .nil) (by rfl) (by simp [leE, lk_cons]) (by decide) (by decide) rfl (by simp only [go_sem, ne_eq, not_false_eq_true, Nat.reduceBEq, Nat.reduceAdd, Nat.reduceSub, Nat.reduceMul, Nat.reduceLT, Nat.reduceLeDiff, Int.reduceLE, Int.reduceLT, Int.reduceToNat, Int.cast_ofNat_Int, ↓reduceIte, resQ_tmp, resQ_cell, resQ_nil, retD_one, retD_two, retD_three, retD_none]; try simp [R.val, retD_one, retD_two, retD_three, retD_none])
            · refine W_sound tab_ok mixed 14 _ _ _ ?_
              simp only [go_sem, ne_eq, not_false_eq_true, Nat.reduceBEq, Nat.reduceAdd, Nat.reduceSub, Nat.reduceMul, Nat.reduceLT, Nat.reduceLeDiff, Int.reduceLE, Int.reduceLT, Int.reduceToNat, Int.cast_ofNat_Int, ↓reduceIte, h74, h77, h78, h80, g81, g82, g83, h84, h87, h94, h96]
              repeat with_reducible refine And.intro (by kernel_rfl) ?_
              obtain rfl := Option.some.inj h106
              (try dsimp only at h107)
              obtain rfl := Option.some.inj h107
              exact finC [(2, .v (.int .i64 1))] [(2, .v (.int .i64 1))] (by simp [leE, lk_cons]) (.cons _ _ _ _ _ (.v _ _ (.refl _)) .nil) (by rfl) (by simp [leE, lk_cons]) (by decide) (by decide) rfl (by simp only [go_sem, ne_eq, not_false_eq_true, Nat.reduceBEq, Nat.reduceAdd, Nat.reduceSub, Nat.reduceMul, Nat.reduceLT, Nat.reduceLeDiff, Int.reduceLE, Int.reduceLT, Int.reduceToNat, Int.cast_ofNat_Int, ↓reduceIte, resQ_tmp, resQ_cell, resQ_nil, retD_one, retD_two, retD_three, retD_none]; try simp [R.val, retD_one, retD_two, retD_three, retD_none])
          · refine W_sound tab_ok mixed 7 _ _ _ ?_
            simp only [go_sem, ne_eq, not_false_eq_true, Nat.reduceBEq, Nat.reduceAdd, Nat.reduceSub, Nat.reduceMul, Nat.reduceLT, Nat.reduceLeDiff, Int.reduceLE, Int.reduceLT, Int.reduceToNat, Int.cast_ofNat_Int, ↓reduceIte, h74, h77, h78, h80]
            repeat with_reducible refine And.intro (by kernel_rfl) ?_
            obtain rfl := Option.some.inj h106
            exact cutQ _ ((Wk_le (.cons _ _ _ _ _ (.refl _) (.cons _ _ _ _ _ (.refl _) (.cons _ _ _ _ _ (.refl _) (.cons _ _ _ _ _ (.refl _) (.cons _ _ _ _ _ (.refl _) (.cons _ _ _ _ _ (.dead _) (.cons _ _ _ _ _ (.dead _) (.cons _ _ _ _ _ (.dead _) (.cons _ _ _ _ _ (.dead _) (.cons _ _ _ _ _ (.refl _) .nil)))))))))) (OLe.refl _)).trans (cmpS_ok rfl)) ⟨rfl, rfl⟩
      · rintro _ ⟨rfl, rfl⟩
        (try dsimp only at h107)
        refine W_sound tab_ok mixed 5 _ _ _ ?_
        simp only [go_sem, ne_eq, not_false_eq_true, Nat.reduceBEq, Nat.reduceAdd, Nat.reduceSub, Nat.reduceMul, Nat.reduceLT, Nat.reduceLeDiff, Int.reduceLE, Int.reduceLT, Int.reduceToNat, Int.cast_ofNat_Int, ↓reduceIte, h74, h77, h78]
        repeat with_reducible refine And.intro (by kernel_rfl) ?_
        obtain rfl := Option.some.inj h107
        exact finC [(2, .v (.int .i64 0))] [(2, .v (.int .i64 0))] (by simp [leE, lk_cons]) (.cons _ _ _ _ _ (.v _ _ (.refl _)) .nil) (by rfl) (by simp [leE, lk_cons]) (by decide) (by decide) rfl (by simp only [go_sem, ne_eq, not_false_eq_true, Nat.reduceBEq, Nat.reduceAdd, Nat.reduceSub, Nat.reduceMul, Nat.reduceLT, Nat.reduceLeDiff, Int.reduceLE, Int.reduceLT, Int.reduceToNat, Int.cast_ofNat_Int, ↓reduceIte, resQ_tmp, resQ_cell, resQ_nil, retD_one, retD_two, retD_three, retD_none]; try simp [R.val, retD_one, retD_two, retD_three, retD_none])

def m80 (N : Nat) : Nat → Int → Int → Option (PV)
  | 0, _, _ => none
  | fu + 1, x219, x220 =>
    brn (x220 == 0) (
      some (.int .i64 x219)) (
      grd (x220 ≠ 0) <|
      bnd' ((m80 N fu) x220 (Int.tmod x219 x220)) fun p223 =>
      getI .i64 p223 fun x226 =>
      some (.int .i64 x226))
theorem c80 (N : Nat) : ∀ (fu : Nat) (x219 : Int) (x220 : Int) (r : PV)  (h : m80 N fu x219 x220 = some r), FnP Try.prog 80 [(.int .i64 x219), (.int .i64 x220)] r := by
  intro fu
  induction fu with
  | zero => intro x219 x220 r h; cases h
  | succ fu ih =>
    intro x219 x220 r h
    rw [m80] at h
    refine Fn_of (sz := 13) tab_ok [0, 1, 4, 6] [.tmp 4] Try.func80 rfl rfl rfl (by simp) ?_
    simp only [initSt, initEnv, List.map_cons, List.map_nil, List.getD_cons_zero, List.getD_cons_succ, List.getD_nil]
    have hh := brn_some h; clear h; rcases hh with ⟨h221, h⟩ | ⟨h221, h⟩
    · refine W_sound tab_ok mixed 17 _ _ _ ?_
      simp only [go_sem, ne_eq, not_false_eq_true, Nat.reduceBEq, Nat.reduceAdd, Nat.reduceSub, Nat.reduceMul, Nat.reduceLT, Nat.reduceLeDiff, Int.reduceLE, Int.reduceLT, Int.reduceToNat, Int.cast_ofNat_Int, ↓reduceIte, h221]
      repeat with_reducible refine And.intro (by kernel_rfl) ?_
      obtain rfl := Option.some.inj h
      exact finC [(4, .v (.int .i64 x219))] [(4, .v (.int .i64 x219))] (by simp [leE, lk_cons]) (.cons _ _ _ _ _ (.v _ _ (.refl _)) .nil) (by rfl) (by simp [leE, lk_cons]) (by decide) (by decide) rfl (by simp only [go_sem, ne_eq, not_false_eq_true, Nat.reduceBEq, Nat.reduceAdd, Nat.reduceSub, Nat.reduceMul, Nat.reduceLT, Nat.reduceLeDiff, Int.reduceLE, Int.reduceLT, Int.reduceToNat, Int.cast_ofNat_Int, ↓reduceIte, resQ_tmp, resQ_cell, resQ_nil, retD_one, retD_two, retD_three, retD_none]; try simp [R.val, retD_one, retD_two, retD_three, retD_none])
    · have hh := grd_some h; clear h; obtain ⟨g222, h⟩ := hh
      have hh := bnd'_some h; clear h; obtain ⟨p223, h224, h⟩ := hh
      refine W_sound tab_ok mixed 18 _ _ _ ?_
      simp only [go_sem, ne_eq, not_false_eq_true, Nat.reduceBEq, Nat.reduceAdd, Nat.reduceSub, Nat.reduceMul, Nat.reduceLT, Nat.reduceLeDiff, Int.reduceLE, Int.reduceLT, Int.reduceToNat, Int.cast_ofNat_Int, ↓reduceIte, h221, g222]
      repeat with_reducible refine And.intro (by kernel_rfl) ?_
      refine Wp_callP (ih _ _ _ h224) (by kernel_rfl) rfl rfl rfl rfl (by decide) ?_
      have hh := getI_some h; clear h; obtain ⟨x226, h225, h⟩ := hh
      refine W_sound tab_ok mixed 3 _ _ _ ?_
      simp only [go_sem, ne_eq, not_false_eq_true, Nat.reduceBEq, Nat.reduceAdd, Nat.reduceSub, Nat.reduceMul, Nat.reduceLT, Nat.reduceLeDiff, Int.reduceLE, Int.reduceLT, Int.reduceToNat, Int.cast_ofNat_Int, ↓reduceIte, h221, g222, h225]
      repeat with_reducible refine And.intro (by kernel_rfl) ?_
      obtain rfl := Option.some.inj h
      exact finC [(4, .v (.int .i64 x226))] [(4, .v (.int .i64 x226))] (by simp [leE, lk_cons]) (.cons _ _ _ _ _ (.v _ _ (.refl _)) .nil) (by rfl) (by simp [leE, lk_cons]) (by decide) (by decide) rfl (by simp only [go_sem, ne_eq, not_false_eq_true, Nat.reduceBEq, Nat.reduceAdd, Nat.reduceSub, Nat.reduceMul, Nat.reduceLT, Nat.reduceLeDiff, Int.reduceLE, Int.reduceLT, Int.reduceToNat, Int.cast_ofNat_Int, ↓reduceIte, resQ_tmp, resQ_cell, resQ_nil, retD_one, retD_two, retD_three, retD_none]; try simp [R.val, retD_one, retD_two, retD_three, retD_none])

def m58 (N : Nat) (x216 : Int) (x217 : Int) : Option (PV) :=
  brn (decide (x217 < 0)) (
    bnd' (m80 N N (maxI (IntKind.i64.wrap (0 - x216)) (IntKind.i64.wrap (0 - (IntKind.i64.wrap (0 - x216))))) (IntKind.i64.wrap (0 - x217))) fun p227 =>
    getI .i64 p227 fun x230 =>
    grd (x230 ≠ 0) <|
    some (.agg [(.int .i64 (IntKind.i64.wrap (Int.tdiv (IntKind.i64.wrap (0 - x216)) x230))), (.int .i64 (IntKind.i64.wrap (Int.tdiv (IntKind.i64.wrap (0 - x217)) x230)))])) (
    bnd' (m80 N N (maxI x216 (IntKind.i64.wrap (0 - x216))) x217) fun p232 =>
    getI .i64 p232 fun x235 =>
    grd (x235 ≠ 0) <|
    some (.agg [(.int .i64 (IntKind.i64.wrap (Int.tdiv x216 x235))), (.int .i64 (IntKind.i64.wrap (Int.tdiv x217 x235)))]))
theorem c58 (N : Nat) (x216 : Int) (x217 : Int) (r : PV)  (h : m58 N x216 x217 = some r) : FnP Try.prog 58 [(.int .i64 x216), (.int .i64 x217)] r := by
  unfold m58 at h
  refine Fn_of (sz := 25) tab_ok [0, 1, 4, 5, 7] [.cell 4 24] Try.func58 rfl rfl rfl (by simp) ?_
  simp only [initSt, initEnv, List.map_cons, List.map_nil, List.getD_cons_zero, List.getD_cons_succ, List.getD_nil]
  have hh := brn_some h; clear h; rcases hh with ⟨h218, h⟩ | ⟨h218, h⟩
  · have hh := bnd'_some h; clear h; obtain ⟨p227, h228, h⟩ := hh
    refine W_sound tab_ok mixed 26 _ _ _ ?_
    simp only [go_sem, ne_eq, not_false_eq_true, Nat.reduceBEq, Nat.reduceAdd, Nat.reduceSub, Nat.reduceMul, Nat.reduceLT, Nat.reduceLeDiff, Int.reduceLE, Int.reduceLT, Int.reduceToNat, Int.cast_ofNat_Int, ↓reduceIte, h218]
    repeat with_reducible refine And.intro (by kernel_rfl) ?_
    refine Wp_callP (c80 N N _ _ _ h228) (by kernel_rfl) rfl rfl rfl rfl (by decide) ?_
    have hh := getI_some h; clear h; obtain ⟨x230, h229, h⟩ := hh
    have hh := grd_some h; clear h; obtain ⟨g231, h⟩ := hh
    refine W_sound tab_ok mixed 14 _ _ _ ?_
    simp only [go_sem, ne_eq, not_false_eq_true, Nat.reduceBEq, Nat.reduceAdd, Nat.reduceSub, Nat.reduceMul, Nat.reduceLT, Nat.reduceLeDiff, Int.reduceLE, Int.reduceLT, Int.reduceToNat, Int.cast_ofNat_Int, ↓reduceIte, h218, h229, g231]
    repeat with_reducible refine And.intro (by kernel_rfl) ?_
    refine FinQ_wk (Wk_freeze 4 [(.int .i64 (IntKind.i64.wrap (Int.tdiv (IntKind.i64.wrap (0 - x216)) x230))), (.int .i64 (IntKind.i64.wrap (Int.tdiv (IntKind.i64.wrap (0 - x217)) x230)))] (by rfl) (by decide) (by decide)) ?_
    simp only [go_sem, ne_eq, not_false_eq_true, Nat.reduceBEq, Nat.reduceAdd, Nat.reduceSub, Nat.reduceMul, Nat.reduceLT, Nat.reduceLeDiff, Int.reduceLE, Int.reduceLT, Int.reduceToNat, Int.cast_ofNat_Int, ↓reduceIte, h218, h229, g231]
    obtain rfl := Option.some.inj h
    exact finC [(4, .v (.ipt [(.int .i64 (IntKind.i64.wrap (Int.tdiv (IntKind.i64.wrap (0 - x216)) x230))), (.int .i64 (IntKind.i64.wrap (Int.tdiv (IntKind.i64.wrap (0 - x217)) x230)))]))] [(4, .v (.ipt [(.int .i64 (IntKind.i64.wrap (Int.tdiv (IntKind.i64.wrap (0 - x216)) x230))), (.int .i64 (IntKind.i64.wrap (Int.tdiv (IntKind.i64.wrap (0 - x217)) x230)))]))] (by simp [leE, lk_cons]) (.cons _ _ _ _ _ (.v _ _ (.refl _)) .nil) (by rfl) (by simp [leE, lk_cons]) (by decide) (by decide) rfl (by simp only [go_sem, ne_eq, not_false_eq_true, Nat.reduceBEq, Nat.reduceAdd, Nat.reduceSub, Nat.reduceMul, Nat.reduceLT, Nat.reduceLeDiff, Int.reduceLE, Int.reduceLT, Int.reduceToNat, Int.cast_ofNat_Int, ↓reduceIte, resQ_tmp, resQ_cell, resQ_nil, retD_one, retD_two, retD_three, retD_none]; try simp [R.val, retD_one, retD_two, retD_three, retD_none])
  · have hh := bnd'_some h; clear h; obtain ⟨p232, h233, h⟩ := hh
    refine W_sound tab_ok mixed 19 _ _ _ ?_
    simp only [go_sem, ne_eq, not_false_eq_true, Nat.reduceBEq, Nat.reduceAdd, Nat.reduceSub, Nat.reduceMul, Nat.reduceLT, Nat.reduceLeDiff, Int.reduceLE, Int.reduceLT, Int.reduceToNat, Int.cast_ofNat_Int, ↓reduceIte, h218]
    repeat with_reducible refine And.intro (by kernel_rfl) ?_
    refine Wp_callP (c80 N N _ _ _ h233) (by kernel_rfl) rfl rfl rfl rfl (by decide) ?_
    have hh := getI_some h; clear h; obtain ⟨x235, h234, h⟩ := hh
    have hh := grd_some h; clear h; obtain ⟨g236, h⟩ := hh
    refine W_sound tab_ok mixed 14 _ _ _ ?_
    simp only [go_sem, ne_eq, not_false_eq_true, Nat.reduceBEq, Nat.reduceAdd, Nat.reduceSub, Nat.reduceMul, Nat.reduceLT, Nat.reduceLeDiff, Int.reduceLE, Int.reduceLT, Int.reduceToNat, Int.cast_ofNat_Int, ↓reduceIte, h218, h234, g236]
    repeat with_reducible refine And.intro (by kernel_rfl) ?_
    refine FinQ_wk (Wk_freeze 4 [(.int .i64 (IntKind.i64.wrap (Int.tdiv x216 x235))), (.int .i64 (IntKind.i64.wrap (Int.tdiv x217 x235)))] (by rfl) (by decide) (by decide)) ?_
    simp only [go_sem, ne_eq, not_false_eq_true, Nat.reduceBEq, Nat.reduceAdd, Nat.reduceSub, Nat.reduceMul, Nat.reduceLT, Nat.reduceLeDiff, Int.reduceLE, Int.reduceLT, Int.reduceToNat, Int.cast_ofNat_Int, ↓reduceIte, h218, h234, g236]
    obtain rfl := Option.some.inj h
    exact finC [(4, .v (.ipt [(.int .i64 (IntKind.i64.wrap (Int.tdiv x216 x235))), (.int .i64 (IntKind.i64.wrap (Int.tdiv x217 x235)))]))] [(4, .v (.ipt [(.int .i64 (IntKind.i64.wrap (Int.tdiv x216 x235))), (.int .i64 (IntKind.i64.wrap (Int.tdiv x217 x235)))]))] (by simp [leE, lk_cons]) (.cons _ _ _ _ _ (.v _ _ (.refl _)) .nil) (by rfl) (by simp [leE, lk_cons]) (by decide) (by decide) rfl (by simp only [go_sem, ne_eq, not_false_eq_true, Nat.reduceBEq, Nat.reduceAdd, Nat.reduceSub, Nat.reduceMul, Nat.reduceLT, Nat.reduceLeDiff, Int.reduceLE, Int.reduceLT, Int.reduceToNat, Int.cast_ofNat_Int, ↓reduceIte, resQ_tmp, resQ_cell, resQ_nil, retD_one, retD_two, retD_three, retD_none]; try simp [R.val, retD_one, retD_two, retD_three, retD_none])

def m64 (N : Nat) (x281 : Int) (x282 : Int) (x283 : Int) : Option (PV) :=
  brn (decide (x281 ≥ x282)) (
    some (.bool (decide (x281 ≤ x283)))) (
    some (.bool false))
theorem c64 (N : Nat) (x281 : Int) (x282 : Int) (x283 : Int) (r : PV)  (h : m64 N x281 x282 x283 = some r) : FnP Try.prog 64 [(.int .i64 x281), (.int .i64 x282), (.int .i64 x283)] r := by
  unfold m64 at h
  refine Fn_of (sz := 15) tab_ok [0, 1, 2, 6] [.tmp 6] Try.func64 rfl rfl rfl (by simp) ?_
  simp only [initSt, initEnv, List.map_cons, List.map_nil, List.getD_cons_zero, List.getD_cons_succ, List.getD_nil]
  have hh := brn_some h; clear h; rcases hh with ⟨h284, h⟩ | ⟨h284, h⟩
  · refine W_sound tab_ok mixed 17 _ _ _ ?_
    simp only [go_sem, ne_eq, not_false_eq_true, Nat.reduceBEq, Nat.reduceAdd, Nat.reduceSub, Nat.reduceMul, Nat.reduceLT, Nat.reduceLeDiff, Int.reduceLE, Int.reduceLT, Int.reduceToNat, Int.cast_ofNat_Int, ↓reduceIte, h284]
    repeat with_reducible refine And.intro (by kernel_rfl) ?_
    obtain rfl := Option.some.inj h
    exact finC [(6, .v (.bool (decide (x281 ≤ x283))))] [(6, .v (.bool (decide (x281 ≤ x283))))] (by simp [leE, lk_cons]) (.cons _ _ _ _ _ (.v _ _ (.refl _)) .nil) (by rfl) (by simp [leE, lk_cons]) (by decide) (by decide) rfl (by simp only [go_sem, ne_eq, not_false_eq_true, Nat.reduceBEq, Nat.reduceAdd, Nat.reduceSub, Nat.reduceMul, Nat.reduceLT, Nat.reduceLeDiff, Int.reduceLE, Int.reduceLT, Int.reduceToNat, Int.cast_ofNat_Int, ↓reduceIte, resQ_tmp, resQ_cell, resQ_nil, retD_one, retD_two, retD_three, retD_none]; try simp [R.val, retD_one, retD_two, retD_three, retD_none])
  · refine W_sound tab_ok mixed 17 _ _ _ ?_
    simp only [go_sem, ne_eq, not_false_eq_true, Nat.reduceBEq, Nat.reduceAdd, Nat.reduceSub, Nat.reduceMul, Nat.reduceLT, Nat.reduceLeDiff, Int.reduceLE, Int.reduceLT, Int.reduceToNat, Int.cast_ofNat_Int, ↓reduceIte, h284]
    repeat with_reducible refine And.intro (by kernel_rfl) ?_
    obtain rfl := Option.some.inj h
    exact finC [(6, .v (.bool false))] [(6, .v (.bool false))] (by simp [leE, lk_cons]) (.cons _ _ _ _ _ (.v _ _ (.refl _)) .nil) (by rfl) (by simp [leE, lk_cons]) (by decide) (by decide) rfl (by simp only [go_sem, ne_eq, not_false_eq_true, Nat.reduceBEq, Nat.reduceAdd, Nat.reduceSub, Nat.reduceMul, Nat.reduceLT, Nat.reduceLeDiff, Int.reduceLE, Int.reduceLT, Int.reduceToNat, Int.cast_ofNat_Int, ↓reduceIte, resQ_tmp, resQ_cell, resQ_nil, retD_one, retD_two, retD_three, retD_none]; try simp [R.val, retD_one, retD_two, retD_three, retD_none])

def m23_L0 (N : Nat) (n270 : Nat) (c271 : List PV) : Nat → Int → Option ((PV ⊕ Unit))
  | 0, _ => none
  | n + 1, x274 =>
    brn (decide (x274 < ((n270 : Nat) : Int))) (
      grd (0 ≤ x274 ∧ x274 < ((n270 : Nat) : Int)) <|
      grd (0 < List.length (List.drop ((Int.toNat x274) * 2) c271)) <|
      getI .i64 (gp c271 ((Int.toNat x274) * 2)) fun x280 =>
      bnd' (m64 N x280 (-100) 100) fun p285 =>
      getB p285 fun b288 =>
      brn b288 (
        grd (0 < List.length (List.drop 1 (List.drop ((Int.toNat x274) * 2) c271))) <|
        getI .i64 (gp c271 (((Int.toNat x274) * 2) + 1)) fun x292 =>
        bnd' (m64 N x292 (-10) 10) fun p293 =>
        getB p293 fun b296 =>
        brn b296 (
          m23_L0 N n270 c271 n (IntKind.i64.wrap (x274 + 1))) (
          some (.inl (.int .i64 1)))) (
        some (.inl (.int .i64 1)))) (
      some (.inr ()))
def m23 (N : Nat) (p268 : PV) : Option (PV) :=
  getL p268 fun n270 c271 =>
  brn (((n270 : Nat) : Int) == 0) (
    some (.int .i64 4)) (
    brn (decide (((n270 : Nat) : Int) > 8)) (
      some (.int .i64 3)) (
      bnd' (m23_L0 N n270 c271 N 0) fun o =>
      match o with
      | .inl p298 =>
        some p298
      | .inr () =>
        some (.int .i64 0)))
theorem c23 (N : Nat) (p268 : PV) (r : PV)  (h : m23 N p268 = some r) : FnP Try.prog 23 [p268] r := by
  unfold m23 at h
  refine Fn_of (sz := 32) tab_ok [0, 2, 3, 6, 9, 13, 31] [.tmp 2] Try.func23 rfl rfl rfl (by simp) ?_
  simp only [initSt, initEnv, List.map_cons, List.map_nil, List.getD_cons_zero, List.getD_cons_succ, List.getD_nil]
  have hh := getL_some h; clear h; obtain ⟨n270, c271, h269, h⟩ := hh
  have hh := brn_some h; clear h; rcases hh with ⟨h272, h⟩ | ⟨h272, h⟩
  · refine W_sound tab_ok mixed 17 _ _ _ ?_
    simp only [go_sem, ne_eq, not_false_eq_true, Nat.reduceBEq, Nat.reduceAdd, Nat.reduceSub, Nat.reduceMul, Nat.reduceLT, Nat.reduceLeDiff, Int.reduceLE, Int.reduceLT, Int.reduceToNat, Int.cast_ofNat_Int, ↓reduceIte, h269, h272]
    repeat with_reducible refine And.intro (by kernel_rfl) ?_
    obtain rfl := Option.some.inj h
    exact finC [(2, .v (.int .i64 4))] [(2, .v (.int .i64 4))] (by simp [leE, lk_cons]) (.cons _ _ _ _ _ (.v _ _ (.refl _)) .nil) (by rfl) (by simp [leE, lk_cons]) (by decide) (by decide) rfl (by simp only [go_sem, ne_eq, not_false_eq_true, Nat.reduceBEq, Nat.reduceAdd, Nat.reduceSub, Nat.reduceMul, Nat.reduceLT, Nat.reduceLeDiff, Int.reduceLE, Int.reduceLT, Int.reduceToNat, Int.cast_ofNat_Int, ↓reduceIte, resQ_tmp, resQ_cell, resQ_nil, retD_one, retD_two, retD_three, retD_none]; try simp [R.val, retD_one, retD_two, retD_three, retD_none])
  · have hh := brn_some h; clear h; rcases hh with ⟨h273, h⟩ | ⟨h273, h⟩
    · refine W_sound tab_ok mixed 26 _ _ _ ?_
      simp only [go_sem, ne_eq, not_false_eq_true, Nat.reduceBEq, Nat.reduceAdd, Nat.reduceSub, Nat.reduceMul, Nat.reduceLT, Nat.reduceLeDiff, Int.reduceLE, Int.reduceLT, Int.reduceToNat, Int.cast_ofNat_Int, ↓reduceIte, h269, h272, h273]
      repeat with_reducible refine And.intro (by kernel_rfl) ?_
      obtain rfl := Option.some.inj h
      exact finC [(2, .v (.int .i64 3))] [(2, .v (.int .i64 3))] (by simp [leE, lk_cons]) (.cons _ _ _ _ _ (.v _ _ (.refl _)) .nil) (by rfl) (by simp [leE, lk_cons]) (by decide) (by decide) rfl (by simp only [go_sem, ne_eq, not_false_eq_true, Nat.reduceBEq, Nat.reduceAdd, Nat.reduceSub, Nat.reduceMul, Nat.reduceLT, Nat.reduceLeDiff, Int.reduceLE, Int.reduceLT, Int.reduceToNat, Int.cast_ofNat_Int, ↓reduceIte, resQ_tmp, resQ_cell, resQ_nil, retD_one, retD_two, retD_three, retD_none]; try simp [R.val, retD_one, retD_two, retD_three, retD_none])
    · refine W_sound tab_ok mixed 27 _ _ _ ?_
      simp only [go_sem, ne_eq, not_false_eq_true, Nat.reduceBEq, Nat.reduceAdd, Nat.reduceSub, Nat.reduceMul, Nat.reduceLT, Nat.reduceLeDiff, Int.reduceLE, Int.reduceLT, Int.reduceToNat, Int.cast_ofNat_Int, ↓reduceIte, h269, h272, h273]
      repeat with_reducible refine And.intro (by kernel_rfl) ?_
      have hh := bnd'_some h; clear h; obtain ⟨o299, h300, h301⟩ := hh
      refine Wp_cut (fun s => (.inr ()) = o299 ∧ s = ⟨[], [(0, .dead), (2, .dead), (3, .dead), (6, .dead), (9, .dead), (13, .dead), (31, .dead)], [], 0, []⟩) ?_ ?_
      · refine Wp_block ?_
        refine Wp_loopG (fun n s => ∃ x274, m23_L0 N n270 c271 n x274 = some o299 ∧ s = ⟨[], [(0, .v (.lst false n270 c271)), (2, .dead), (3, .v (.int .i64 x274)), (6, .dead), (9, .dead), (13, .dead), (31, .dead)], [], 0, []⟩) N _ ((Wk_le (.cons _ _ _ _ _ (.refl _) (.cons _ _ _ _ _ (.dead _) (.cons _ _ _ _ _ (.refl _) (.cons _ _ _ _ _ (.dead _) (.cons _ _ _ _ _ (.dead _) (.cons _ _ _ _ _ (.refl _) (.cons _ _ _ _ _ (.refl _) .nil))))))) (OLe.refl _)).trans (cmpS_ok rfl)) ⟨_, h300, rfl⟩ ?_
        clear h300
        rintro n _ ⟨x274, h300, rfl⟩
        cases n with
        | zero => cases h300
        | succ n =>
          rw [m23_L0] at h300
          have hh := brn_some h300; clear h300; rcases hh with ⟨h275, h300⟩ | ⟨h275, h300⟩
          · have hh := grd_some h300; clear h300; obtain ⟨⟨g276, g277⟩, h300⟩ := hh
            have hh := grd_some h300; clear h300; obtain ⟨g278, h300⟩ := hh
            have hh := getI_some h300; clear h300; obtain ⟨x280, h279, h300⟩ := hh
            have hh := bnd'_some h300; clear h300; obtain ⟨p285, h286, h300⟩ := hh
            refine W_sound tab_ok mixed 19 _ _ _ ?_
            simp only [go_sem, ne_eq, not_false_eq_true, Nat.reduceBEq, Nat.reduceAdd, Nat.reduceSub, Nat.reduceMul, Nat.reduceLT, Nat.reduceLeDiff, Int.reduceLE, Int.reduceLT, Int.reduceToNat, Int.cast_ofNat_Int, ↓reduceIte, h269, h272, h273, h275, g276, g277, g278, h279]
            repeat with_reducible refine And.intro (by kernel_rfl) ?_
            refine Wp_callP (c64 N _ _ _ _ h286) (by kernel_rfl) rfl rfl rfl rfl (by decide) ?_
            have hh := getB_some h300; clear h300; obtain ⟨b288, h287, h300⟩ := hh
            have hh := brn_some h300; clear h300; rcases hh with ⟨h289, h300⟩ | ⟨h289, h300⟩
            · have hh := grd_some h300; clear h300; obtain ⟨g290, h300⟩ := hh
              have hh := getI_some h300; clear h300; obtain ⟨x292, h291, h300⟩ := hh
              have hh := bnd'_some h300; clear h300; obtain ⟨p293, h294, h300⟩ := hh
              refine W_sound tab_ok mixed 7 _ _ _ ?_
              simp only [go_sem, ne_eq, not_false_eq_true, Nat.reduceBEq, Nat.reduceAdd, Nat.reduceSub, Nat.reduceMul, Nat.reduceLT, Nat.reduceLeDiff, Int.reduceLE, Int.reduceLT, Int.reduceToNat, Int.cast_ofNat_Int, ↓reduceIte, h269, h272, h273, h275, g276, g277, g278, h279, h287, h289, g290, h291]
              repeat with_reducible refine And.intro (by kernel_rfl) ?_
              refine Wp_callP (c64 N _ _ _ _ h294) (by kernel_rfl) rfl rfl rfl rfl (by decide) ?_
              have hh := getB_some h300; clear h300; obtain ⟨b296, h295, h300⟩ := hh
              have hh := brn_some h300; clear h300; rcases hh with ⟨h297, h300⟩ | ⟨h297, h300⟩
              · refine W_sound tab_ok mixed 11 _ _ _ ?_
                simp only [go_sem, ne_eq, not_false_eq_true, Nat.reduceBEq, Nat.reduceAdd, Nat.reduceSub, Nat.reduceMul, Nat.reduceLT, Nat.reduceLeDiff, Int.reduceLE, Int.reduceLT, Int.reduceToNat, Int.cast_ofNat_Int, ↓reduceIte, h269, h272, h273, h275, g276, g277, g278, h279, h287, h289, g290, h291, h295, h297]
                repeat with_reducible refine And.intro (by kernel_rfl) ?_
                exact cutQ _ ((Wk_le (.cons _ _ _ _ _ (.refl _) (.cons _ _ _ _ _ (.refl _) (.cons _ _ _ _ _ (.refl _) (.cons _ _ _ _ _ (.refl _) (.cons _ _ _ _ _ (.refl _) (.cons _ _ _ _ _ (.dead _) (.cons _ _ _ _ _ (.dead _) .nil))))))) (OLe.refl _)).trans (cmpS_ok rfl)) ⟨n, Nat.lt_succ_self n, _, h300, rfl⟩
              · refine W_sound tab_ok mixed 9 _ _ _ ?_
                simp only [go_sem, ne_eq, not_false_eq_true, Nat.reduceBEq, Nat.reduceAdd, Nat.reduceSub, Nat.reduceMul, Nat.reduceLT, Nat.reduceLeDiff, Int.reduceLE, Int.reduceLT, Int.reduceToNat, Int.cast_ofNat_Int, ↓reduceIte, h269, h272, h273, h275, g276, g277, g278, h279, h287, h289, g290, h291, h295, h297]
                repeat with_reducible refine And.intro (by kernel_rfl) ?_
                obtain rfl := Option.some.inj h300
                (try dsimp only at h301)
                obtain rfl := Option.some.inj h301
                exact finC [(2, .v (.int .i64 1))] [(2, .v (.int .i64 1))] (by simp [leE, lk_cons]) (.cons _ _ _ _ _ (.v _ _ (.refl _)) .nil) (by rfl) (by simp [leE, lk_cons]) (by decide) (by decide) rfl (by simp only [go_sem, ne_eq, not_false_eq_true, Nat.reduceBEq, Nat.reduceAdd, Nat.reduceSub, Nat.reduceMul, Nat.reduceLT, Nat.reduceLeDiff, Int.reduceLE, Int.reduceLT, Int.reduceToNat, Int.cast_ofNat_Int, ↓reduceIte, resQ_tmp, resQ_cell, resQ_nil, retD_one, retD_two, retD_three, retD_none]; try simp [R.val, retD_one, retD_two, retD_three, retD_none])
            · refine W_sound tab_ok mixed 17 _ _ _ ?_
              simp only [go_sem, ne_eq, not_false_eq_true, Nat.reduceBEq, Nat.reduceAdd, Nat.reduceSub, Nat.reduceMul, Nat.reduceLT, Nat.reduceLeDiff, Int.reduceLE, Int.reduceLT, Int.reduceToNat, Int.cast_ofNat_Int, ↓reduceIte, h269, h272, h273, h275, g276, g277, g278, h279, h287, h289]
              repeat with_reducible refine And.intro (by kernel_rfl) ?_
              obtain rfl := Option.some.inj h300
              (try dsimp only at h301)
              obtain rfl := Option.some.inj h301
              exact finC [(2, .v (.int .i64 1))] [(2, .v (.int .i64 1))] (by simp [leE, lk_cons]) (.cons _ _ _ _ _ (.v _ _ (.refl _)) .nil) (by rfl) (by simp [leE, lk_cons]) (by decide) (by decide) rfl (by simp only [go_sem, ne_eq, not_false_eq_true, Nat.reduceBEq, Nat.reduceAdd, Nat.reduceSub, Nat.reduceMul, Nat.reduceLT, Nat.reduceLeDiff, Int.reduceLE, Int.reduceLT, Int.reduceToNat, Int.cast_ofNat_Int, ↓reduceIte, resQ_tmp, resQ_cell, resQ_nil, retD_one, retD_two, retD_three, retD_none]; try simp [R.val, retD_one, retD_two, retD_three, retD_none])
          · refine W_sound tab_ok mixed 10 _ _ _ ?_
            simp only [go_sem, ne_eq, not_false_eq_true, Nat.reduceBEq, Nat.reduceAdd, Nat.reduceSub, Nat.reduceMul, Nat.reduceLT, Nat.reduceLeDiff, Int.reduceLE, Int.reduceLT, Int.reduceToNat, Int.cast_ofNat_Int, ↓reduceIte, h269, h272, h273, h275]
            repeat with_reducible refine And.intro (by kernel_rfl) ?_
            obtain rfl := Option.some.inj h300
            exact cutQ _ ((Wk_le (.cons _ _ _ _ _ (.dead _) (.cons _ _ _ _ _ (.refl _) (.cons _ _ _ _ _ (.dead _) (.cons _ _ _ _ _ (.refl _) (.cons _ _ _ _ _ (.refl _) (.cons _ _ _ _ _ (.dead _) (.cons _ _ _ _ _ (.refl _) .nil))))))) (OLe.refl _)).trans (cmpS_ok rfl)) ⟨rfl, rfl⟩
      · rintro _ ⟨rfl, rfl⟩
        (try dsimp only at h301)
        refine W_sound tab_ok mixed 5 _ _ _ ?_
        simp only [go_sem, ne_eq, not_false_eq_true, Nat.reduceBEq, Nat.reduceAdd, Nat.reduceSub, Nat.reduceMul, Nat.reduceLT, Nat.reduceLeDiff, Int.reduceLE, Int.reduceLT, Int.reduceToNat, Int.cast_ofNat_Int, ↓reduceIte, h269, h272, h273]
        repeat with_reducible refine And.intro (by kernel_rfl) ?_
        obtain rfl := Option.some.inj h301
        exact finC [(2, .v (.int .i64 0))] [(2, .v (.int .i64 0))] (by simp [leE, lk_cons]) (.cons _ _ _ _ _ (.v _ _ (.refl _)) .nil) (by rfl) (by simp [leE, lk_cons]) (by decide) (by decide) rfl (by simp only [go_sem, ne_eq, not_false_eq_true, Nat.reduceBEq, Nat.reduceAdd, Nat.reduceSub, Nat.reduceMul, Nat.reduceLT, Nat.reduceLeDiff, Int.reduceLE, Int.reduceLT, Int.reduceToNat, Int.cast_ofNat_Int, ↓reduceIte, resQ_tmp, resQ_cell, resQ_nil, retD_one, retD_two, retD_three, retD_none]; try simp [R.val, retD_one, retD_two, retD_three, retD_none])

def m62 (N : Nat) (p339 : PV) (p340 : PV) : Option (PV) :=
  getA2 p339 fun p342 p343 =>
  getA2 p340 fun p345 p346 =>
  getI .i64 p342 fun x348 =>
  getI .i64 p346 fun x350 =>
  getI .i64 p343 fun x352 =>
  getI .i64 p345 fun x354 =>
  some (.int .i64 (IntKind.i64.wrap ((IntKind.i64.wrap (x348 * x350)) + (IntKind.i64.wrap (x352 * x354)))))
theorem c62 (N : Nat) (p339 : PV) (p340 : PV) (r : PV)  (h : m62 N p339 p340 = some r) : FnP Try.prog 62 [p339, p340] r := by
  unfold m62 at h
  refine Fn_of (sz := 16) tab_ok [0, 1, 2, 3, 4] [.tmp 4] Try.func62 rfl rfl rfl (by simp) ?_
  simp only [initSt, initEnv, List.map_cons, List.map_nil, List.getD_cons_zero, List.getD_cons_succ, List.getD_nil]
  have hh := getA2_some h; clear h; obtain ⟨p342, p343, h341, h⟩ := hh
  have hh := getA2_some h; clear h; obtain ⟨p345, p346, h344, h⟩ := hh
  have hh := getI_some h; clear h; obtain ⟨x348, h347, h⟩ := hh
  have hh := getI_some h; clear h; obtain ⟨x350, h349, h⟩ := hh
  have hh := getI_some h; clear h; obtain ⟨x352, h351, h⟩ := hh
  have hh := getI_some h; clear h; obtain ⟨x354, h353, h⟩ := hh
  refine W_sound tab_ok mixed 22 _ _ _ ?_
  simp only [go_sem, ne_eq, not_false_eq_true, Nat.reduceBEq, Nat.reduceAdd, Nat.reduceSub, Nat.reduceMul, Nat.reduceLT, Nat.reduceLeDiff, Int.reduceLE, Int.reduceLT, Int.reduceToNat, Int.cast_ofNat_Int, ↓reduceIte, h341, h344, h347, h349, h351, h353]
  repeat with_reducible refine And.intro (by kernel_rfl) ?_
  obtain rfl := Option.some.inj h
  exact finC [(4, .v (.int .i64 (IntKind.i64.wrap ((IntKind.i64.wrap (x348 * x350)) + (IntKind.i64.wrap (x352 * x354))))))] [(4, .v (.int .i64 (IntKind.i64.wrap ((IntKind.i64.wrap (x348 * x350)) + (IntKind.i64.wrap (x352 * x354))))))] (by simp [leE, lk_cons]) (.cons _ _ _ _ _ (.v _ _ (.refl _)) .nil) (by rfl) (by simp [leE, lk_cons]) (by decide) (by decide) rfl (by simp only [go_sem, ne_eq, not_false_eq_true, Nat.reduceBEq, Nat.reduceAdd, Nat.reduceSub, Nat.reduceMul, Nat.reduceLT, Nat.reduceLeDiff, Int.reduceLE, Int.reduceLT, Int.reduceToNat, Int.cast_ofNat_Int, ↓reduceIte, resQ_tmp, resQ_cell, resQ_nil, retD_one, retD_two, retD_three, retD_none]; try simp [R.val, retD_one, retD_two, retD_three, retD_none])

def m61_L0 (N : Nat) (n329 : Nat) (c330 : List PV) (p332 : PV) (p333 : PV) : Nat → Int → Int → Option (Int)
  | 0, _, _ => none
  | n + 1, x359, x360 =>
    brn (decide (x360 < ((n329 : Nat) : Int))) (
      grd (0 ≤ x360 ∧ x360 < ((n329 : Nat) : Int)) <|
      grd (2 ≤ List.length (List.drop ((Int.toNat x360) * 2) c330)) <|
      getA2 (.agg (List.take 2 (List.drop ((Int.toNat x360) * 2) c330))) fun p366 p367 =>
      bnd' (m62 N (.agg [p366, p367]) (.agg [p332, p333])) fun p368 =>
      getI .i64 p368 fun x371 =>
      m61_L0 N n329 c330 p332 p333 n (maxI x359 x371) (IntKind.i64.wrap (x360 + 1))) (
      some x359)
def m61 (N : Nat) (p326 : PV) (p327 : PV) : Option (PV) :=
  getL p326 fun n329 c330 =>
  getA2 p327 fun p332 p333 =>
  grd (0 < ((n329 : Nat) : Int)) <|
  grd (2 ≤ List.length c330) <|
  getA2 (.agg (List.take 2 c330)) fun p337 p338 =>
  bnd' (m62 N (.agg [p337, p338]) (.agg [p332, p333])) fun p355 =>
  getI .i64 p355 fun x358 =>
  bnd' (m61_L0 N n329 c330 p332 p333 N x358 1) fun x372 =>
  some (.int .i64 x372)
theorem c61 (N : Nat) (p326 : PV) (p327 : PV) (r : PV)  (h : m61 N p326 p327 = some r) : FnP Try.prog 61 [p326, p327] r := by
  unfold m61 at h
  refine Fn_of (sz := 27) tab_ok [0, 1, 3, 4, 5, 6, 15] [.tmp 4] Try.func61 rfl rfl rfl (by simp) ?_
  simp only [initSt, initEnv, List.map_cons, List.map_nil, List.getD_cons_zero, List.getD_cons_succ, List.getD_nil]
  have hh := getL_some h; clear h; obtain ⟨n329, c330, h328, h⟩ := hh
  have hh := getA2_some h; clear h; obtain ⟨p332, p333, h331, h⟩ := hh
  have hh := grd_some h; clear h; obtain ⟨g334, h⟩ := hh
  have hh := grd_some h; clear h; obtain ⟨g335, h⟩ := hh
  have hh := getA2_some h; clear h; obtain ⟨p337, p338, h336, h⟩ := hh
  injection h336 with h336
  have hh := bnd'_some h; clear h; obtain ⟨p355, h356, h⟩ := hh
  refine W_sound tab_ok mixed 11 _ _ _ ?_
  simp only [go_sem, ne_eq, not_false_eq_true, Nat.reduceBEq, Nat.reduceAdd, Nat.reduceSub, Nat.reduceMul, Nat.reduceLT, Nat.reduceLeDiff, Int.reduceLE, Int.reduceLT, Int.reduceToNat, Int.cast_ofNat_Int, ↓reduceIte, h328, h331, g334, g335, h336]
  repeat with_reducible refine And.intro (by kernel_rfl) ?_
  refine Wp_callP (c62 N _ _ _ h356) (by kernel_rfl) rfl rfl rfl rfl (by decide) ?_
  have hh := getI_some h; clear h; obtain ⟨x358, h357, h⟩ := hh
  refine W_sound tab_ok mixed 7 _ _ _ ?_
  simp only [go_sem, ne_eq, not_false_eq_true, Nat.reduceBEq, Nat.reduceAdd, Nat.reduceSub, Nat.reduceMul, Nat.reduceLT, Nat.reduceLeDiff, Int.reduceLE, Int.reduceLT, Int.reduceToNat, Int.cast_ofNat_Int, ↓reduceIte, h328, h331, g334, g335, h336, h357]
  repeat with_reducible refine And.intro (by kernel_rfl) ?_
  have hh := bnd'_some h; clear h; obtain ⟨o373, h374, h375⟩ := hh
  refine Wp_cut (fun s => ∃ x372, x372 = o373 ∧ s = ⟨[], [(0, .dead), (1, .dead), (3, .dead), (4, .dead), (5, .v (.int .i64 x372)), (6, .dead), (15, .dead)], [], 0, []⟩) ?_ ?_
  · refine Wp_block ?_
    refine Wp_loopG (fun n s => ∃ x359, ∃ x360, m61_L0 N n329 c330 p332 p333 n x359 x360 = some o373 ∧ s = ⟨[], [(0, .v (.lst false n329 c330)), (1, .dead), (3, .ptr 0 0), (4, .dead), (5, .v (.int .i64 x359)), (6, .v (.int .i64 x360)), (15, .dead)], [(0, .p [p332, p333])], 1, []⟩) N _ ((Wk_le (.cons _ _ _ _ _ (.refl _) (.cons _ _ _ _ _ (.dead _) (.cons _ _ _ _ _ (.refl _) (.cons _ _ _ _ _ (.dead _) (.cons _ _ _ _ _ (.refl _) (.cons _ _ _ _ _ (.refl _) (.cons _ _ _ _ _ (.refl _) .nil))))))) (OLe.refl _)).trans (cmpS_ok rfl)) ⟨_, _, h374, rfl⟩ ?_
    clear h374
    rintro n _ ⟨x359, x360, h374, rfl⟩
    cases n with
    | zero => cases h374
    | succ n =>
      rw [m61_L0] at h374
      have hh := brn_some h374; clear h374; rcases hh with ⟨h361, h374⟩ | ⟨h361, h374⟩
      · have hh := grd_some h374; clear h374; obtain ⟨⟨g362, g363⟩, h374⟩ := hh
        have hh := grd_some h374; clear h374; obtain ⟨g364, h374⟩ := hh
        have hh := getA2_some h374; clear h374; obtain ⟨p366, p367, h365, h374⟩ := hh
        injection h365 with h365
        have hh := bnd'_some h374; clear h374; obtain ⟨p368, h369, h374⟩ := hh
        refine W_sound tab_ok mixed 19 _ _ _ ?_
        simp only [go_sem, ne_eq, not_false_eq_true, Nat.reduceBEq, Nat.reduceAdd, Nat.reduceSub, Nat.reduceMul, Nat.reduceLT, Nat.reduceLeDiff, Int.reduceLE, Int.reduceLT, Int.reduceToNat, Int.cast_ofNat_Int, ↓reduceIte, h328, h331, g334, g335, h336, h357, h361, g362, g363, g364, h365]
        repeat with_reducible refine And.intro (by kernel_rfl) ?_
        refine Wp_callP (c62 N _ _ _ h369) (by kernel_rfl) rfl rfl rfl rfl (by decide) ?_
        have hh := getI_some h374; clear h374; obtain ⟨x371, h370, h374⟩ := hh
        refine W_sound tab_ok mixed 9 _ _ _ ?_
        simp only [go_sem, ne_eq, not_false_eq_true, Nat.reduceBEq, Nat.reduceAdd, Nat.reduceSub, Nat.reduceMul, Nat.reduceLT, Nat.reduceLeDiff, Int.reduceLE, Int.reduceLT, Int.reduceToNat, Int.cast_ofNat_Int, ↓reduceIte, h328, h331, g334, g335, h336, h357, h361, g362, g363, g364, h365, h370]
        repeat with_reducible refine And.intro (by kernel_rfl) ?_
        exact cutQ _ ((Wk_le (.cons _ _ _ _ _ (.refl _) (.cons _ _ _ _ _ (.refl _) (.cons _ _ _ _ _ (.refl _) (.cons _ _ _ _ _ (.refl _) (.cons _ _ _ _ _ (.refl _) (.cons _ _ _ _ _ (.refl _) (.cons _ _ _ _ _ (.dead _) .nil))))))) (OLe.refl _)).trans (cmpS_ok rfl)) ⟨n, Nat.lt_succ_self n, _, _, h374, rfl⟩
      · refine W_sound tab_ok mixed 10 _ _ _ ?_
        simp only [go_sem, ne_eq, not_false_eq_true, Nat.reduceBEq, Nat.reduceAdd, Nat.reduceSub, Nat.reduceMul, Nat.reduceLT, Nat.reduceLeDiff, Int.reduceLE, Int.reduceLT, Int.reduceToNat, Int.cast_ofNat_Int, ↓reduceIte, h328, h331, g334, g335, h336, h357, h361]
        repeat with_reducible refine And.intro (by kernel_rfl) ?_
        obtain rfl := Option.some.inj h374
        exact cutQ _ ((Wk_le (.cons _ _ _ _ _ (.dead _) (.cons _ _ _ _ _ (.refl _) (.cons _ _ _ _ _ (.dead _) (.cons _ _ _ _ _ (.refl _) (.cons _ _ _ _ _ (.refl _) (.cons _ _ _ _ _ (.dead _) (.cons _ _ _ _ _ (.dead _) .nil))))))) (OLe.refl _)).trans (cmpS_ok rfl)) ⟨_, rfl, rfl⟩
  · rintro _ ⟨x372, rfl, rfl⟩
    refine W_sound tab_ok mixed 6 _ _ _ ?_
    simp only [go_sem, ne_eq, not_false_eq_true, Nat.reduceBEq, Nat.reduceAdd, Nat.reduceSub, Nat.reduceMul, Nat.reduceLT, Nat.reduceLeDiff, Int.reduceLE, Int.reduceLT, Int.reduceToNat, Int.cast_ofNat_Int, ↓reduceIte, h328, h331, g334, g335, h336, h357]
    repeat with_reducible refine And.intro (by kernel_rfl) ?_
    obtain rfl := Option.some.inj h375
    exact finC [(4, .v (.int .i64 x372))] [(4, .v (.int .i64 x372))] (by simp [leE, lk_cons]) (.cons _ _ _ _ _ (.v _ _ (.refl _)) .nil) (by rfl) (by simp [leE, lk_cons]) (by decide) (by decide) rfl (by simp only [go_sem, ne_eq, not_false_eq_true, Nat.reduceBEq, Nat.reduceAdd, Nat.reduceSub, Nat.reduceMul, Nat.reduceLT, Nat.reduceLeDiff, Int.reduceLE, Int.reduceLT, Int.reduceToNat, Int.cast_ofNat_Int, ↓reduceIte, resQ_tmp, resQ_cell, resQ_nil, retD_one, retD_two, retD_three, retD_none]; try simp [R.val, retD_one, retD_two, retD_three, retD_none])

def m60_L0 (N : Nat) (x382 : Int) (x383 : Int) : Nat → Int → Int → Option (Int)
  | 0, _, _ => none
  | n + 1, x385, x386 =>
    brn (decide (x386 > 0)) (
      grd (x386 ≠ 0) <|
      m60_L0 N x382 x383 n x386 (Int.tmod x385 x386)) (
      some x385)
def m60_L1 (N : Nat) (x382 : Int) (x383 : Int) : Nat → Int → Int → Option (Int)
  | 0, _, _ => none
  | n + 1, x391, x392 =>
    brn (decide (x392 > 0)) (
      grd (x392 ≠ 0) <|
      m60_L1 N x382 x383 n x392 (Int.tmod x391 x392)) (
      some x391)
def m60 (N : Nat) (x382 : Int) (x383 : Int) : Option (PV) :=
  brn (decide (x383 < 0)) (
    bnd' (m60_L0 N x382 x383 N (maxI (IntKind.i64.wrap (0 - x382)) (IntKind.i64.wrap (0 - (IntKind.i64.wrap (0 - x382))))) (IntKind.i64.wrap (0 - x383))) fun x389 =>
    grd (x389 ≠ 0) <|
    some (.agg [(.int .i64 (IntKind.i64.wrap (Int.tdiv (IntKind.i64.wrap (0 - x382)) x389))), (.int .i64 (IntKind.i64.wrap (Int.tdiv (IntKind.i64.wrap (0 - x383)) x389)))])) (
    bnd' (m60_L1 N x382 x383 N (maxI x382 (IntKind.i64.wrap (0 - x382))) x383) fun x395 =>
    grd (x395 ≠ 0) <|
    some (.agg [(.int .i64 (IntKind.i64.wrap (Int.tdiv x382 x395))), (.int .i64 (IntKind.i64.wrap (Int.tdiv x383 x395)))]))
theorem c60 (N : Nat) (x382 : Int) (x383 : Int) (r : PV)  (h : m60 N x382 x383 = some r) : FnP Try.prog 60 [(.int .i64 x382), (.int .i64 x383)] r := by
  unfold m60 at h
  refine Fn_of (sz := 31) tab_ok [0, 1, 4, 5, 6, 8, 19] [.cell 4 28] Try.func60 rfl rfl rfl (by simp) ?_
  simp only [initSt, initEnv, List.map_cons, List.map_nil, List.getD_cons_zero, List.getD_cons_succ, List.getD_nil]
  have hh := brn_some h; clear h; rcases hh with ⟨h384, h⟩ | ⟨h384, h⟩
  · refine W_sound tab_ok mixed 30 _ _ _ ?_
    simp only [go_sem, ne_eq, not_false_eq_true, Nat.reduceBEq, Nat.reduceAdd, Nat.reduceSub, Nat.reduceMul, Nat.reduceLT, Nat.reduceLeDiff, Int.reduceLE, Int.reduceLT, Int.reduceToNat, Int.cast_ofNat_Int, ↓reduceIte, h384]
    repeat with_reducible refine And.intro (by kernel_rfl) ?_
    have hh := bnd'_some h; clear h; obtain ⟨o397, h398, h399⟩ := hh
    refine Wp_cut (fun s => ∃ x389, x389 = o397 ∧ s = ⟨[], [(0, .v (.int .i64 (IntKind.i64.wrap (0 - x382)))), (1, .v (.int .i64 (IntKind.i64.wrap (0 - x383)))), (4, .ptr 0 0), (5, .v (.int .i64 x389)), (6, .dead), (8, .dead), (19, .dead)], [(0, .p [(.int .i64 0), (.int .i64 0)])], 1, []⟩) ?_ ?_
    · refine Wp_block ?_
      refine Wp_loopG (fun n s => ∃ x385, ∃ x386, m60_L0 N x382 x383 n x385 x386 = some o397 ∧ s = ⟨[], [(0, .v (.int .i64 (IntKind.i64.wrap (0 - x382)))), (1, .v (.int .i64 (IntKind.i64.wrap (0 - x383)))), (4, .ptr 0 0), (5, .v (.int .i64 x385)), (6, .v (.int .i64 x386)), (8, .dead), (19, .dead)], [(0, .p [(.int .i64 0), (.int .i64 0)])], 1, []⟩) N _ ((Wk_le (.cons _ _ _ _ _ (.refl _) (.cons _ _ _ _ _ (.refl _) (.cons _ _ _ _ _ (.refl _) (.cons _ _ _ _ _ (.refl _) (.cons _ _ _ _ _ (.refl _) (.cons _ _ _ _ _ (.dead _) (.cons _ _ _ _ _ (.refl _) .nil))))))) (OLe.refl _)).trans (cmpS_ok rfl)) ⟨_, _, h398, rfl⟩ ?_
      clear h398
      rintro n _ ⟨x385, x386, h398, rfl⟩
      cases n with
      | zero => cases h398
      | succ n =>
        rw [m60_L0] at h398
        have hh := brn_some h398; clear h398; rcases hh with ⟨h387, h398⟩ | ⟨h387, h398⟩
        · have hh := grd_some h398; clear h398; obtain ⟨g388, h398⟩ := hh
          refine W_sound tab_ok mixed 18 _ _ _ ?_
          simp only [go_sem, ne_eq, not_false_eq_true, Nat.reduceBEq, Nat.reduceAdd, Nat.reduceSub, Nat.reduceMul, Nat.reduceLT, Nat.reduceLeDiff, Int.reduceLE, Int.reduceLT, Int.reduceToNat, Int.cast_ofNat_Int, ↓reduceIte, h384, h387, g388]
          repeat with_reducible refine And.intro (by kernel_rfl) ?_
          exact cutQ _ ((Wk_le (.cons _ _ _ _ _ (.refl _) (.cons _ _ _ _ _ (.refl _) (.cons _ _ _ _ _ (.refl _) (.cons _ _ _ _ _ (.refl _) (.cons _ _ _ _ _ (.refl _) (.cons _ _ _ _ _ (.refl _) (.cons _ _ _ _ _ (.dead _) .nil))))))) (OLe.refl _)).trans (cmpS_ok rfl)) ⟨n, Nat.lt_succ_self n, _, _, h398, rfl⟩
        · refine W_sound tab_ok mixed 8 _ _ _ ?_
          simp only [go_sem, ne_eq, not_false_eq_true, Nat.reduceBEq, Nat.reduceAdd, Nat.reduceSub, Nat.reduceMul, Nat.reduceLT, Nat.reduceLeDiff, Int.reduceLE, Int.reduceLT, Int.reduceToNat, Int.cast_ofNat_Int, ↓reduceIte, h384, h387]
          repeat with_reducible refine And.intro (by kernel_rfl) ?_
          obtain rfl := Option.some.inj h398
          exact cutQ _ ((Wk_le (.cons _ _ _ _ _ (.refl _) (.cons _ _ _ _ _ (.refl _) (.cons _ _ _ _ _ (.refl _) (.cons _ _ _ _ _ (.refl _) (.cons _ _ _ _ _ (.dead _) (.cons _ _ _ _ _ (.refl _) (.cons _ _ _ _ _ (.dead _) .nil))))))) (OLe.refl _)).trans (cmpS_ok rfl)) ⟨_, rfl, rfl⟩
    · rintro _ ⟨x389, rfl, rfl⟩
      have hh := grd_some h399; clear h399; obtain ⟨g390, h399⟩ := hh
      refine W_sound tab_ok mixed 12 _ _ _ ?_
      simp only [go_sem, ne_eq, not_false_eq_true, Nat.reduceBEq, Nat.reduceAdd, Nat.reduceSub, Nat.reduceMul, Nat.reduceLT, Nat.reduceLeDiff, Int.reduceLE, Int.reduceLT, Int.reduceToNat, Int.cast_ofNat_Int, ↓reduceIte, h384, g390]
      repeat with_reducible refine And.intro (by kernel_rfl) ?_
      refine FinQ_wk (Wk_freeze 0 [(.int .i64 (IntKind.i64.wrap (Int.tdiv (IntKind.i64.wrap (0 - x382)) x389))), (.int .i64 (IntKind.i64.wrap (Int.tdiv (IntKind.i64.wrap (0 - x383)) x389)))] (by rfl) (by decide) (by decide)) ?_
      simp only [go_sem, ne_eq, not_false_eq_true, Nat.reduceBEq, Nat.reduceAdd, Nat.reduceSub, Nat.reduceMul, Nat.reduceLT, Nat.reduceLeDiff, Int.reduceLE, Int.reduceLT, Int.reduceToNat, Int.cast_ofNat_Int, ↓reduceIte, h384, g390]
      obtain rfl := Option.some.inj h399
      exact finC [(4, .v (.ipt [(.int .i64 (IntKind.i64.wrap (Int.tdiv (IntKind.i64.wrap (0 - x382)) x389))), (.int .i64 (IntKind.i64.wrap (Int.tdiv (IntKind.i64.wrap (0 - x383)) x389)))]))] [(4, .v (.ipt [(.int .i64 (IntKind.i64.wrap (Int.tdiv (IntKind.i64.wrap (0 - x382)) x389))), (.int .i64 (IntKind.i64.wrap (Int.tdiv (IntKind.i64.wrap (0 - x383)) x389)))]))] (by simp [leE, lk_cons]) (.cons _ _ _ _ _ (.v _ _ (.refl _)) .nil) (by rfl) (by simp [leE, lk_cons]) (by decide) (by decide) rfl (by simp only [go_sem, ne_eq, not_false_eq_true, Nat.reduceBEq, Nat.reduceAdd, Nat.reduceSub, Nat.reduceMul, Nat.reduceLT, Nat.reduceLeDiff, Int.reduceLE, Int.reduceLT, Int.reduceToNat, Int.cast_ofNat_Int, ↓reduceIte, resQ_tmp, resQ_cell, resQ_nil, retD_one, retD_two, retD_three, retD_none]; try simp [R.val, retD_one, retD_two, retD_three, retD_none])
  · refine W_sound tab_ok mixed 23 _ _ _ ?_
    simp only [go_sem, ne_eq, not_false_eq_true, Nat.reduceBEq, Nat.reduceAdd, Nat.reduceSub, Nat.reduceMul, Nat.reduceLT, Nat.reduceLeDiff, Int.reduceLE, Int.reduceLT, Int.reduceToNat, Int.cast_ofNat_Int, ↓reduceIte, h384]
    repeat with_reducible refine And.intro (by kernel_rfl) ?_
    have hh := bnd'_some h; clear h; obtain ⟨o400, h401, h402⟩ := hh
    refine Wp_cut (fun s => ∃ x395, x395 = o400 ∧ s = ⟨[], [(0, .v (.int .i64 x382)), (1, .v (.int .i64 x383)), (4, .ptr 0 0), (5, .v (.int .i64 x395)), (6, .dead), (8, .dead), (19, .dead)], [(0, .p [(.int .i64 0), (.int .i64 0)])], 1, []⟩) ?_ ?_
    · refine Wp_block ?_
      refine Wp_loopG (fun n s => ∃ x391, ∃ x392, m60_L1 N x382 x383 n x391 x392 = some o400 ∧ s = ⟨[], [(0, .v (.int .i64 x382)), (1, .v (.int .i64 x383)), (4, .ptr 0 0), (5, .v (.int .i64 x391)), (6, .v (.int .i64 x392)), (8, .dead), (19, .dead)], [(0, .p [(.int .i64 0), (.int .i64 0)])], 1, []⟩) N _ ((Wk_le (.cons _ _ _ _ _ (.refl _) (.cons _ _ _ _ _ (.refl _) (.cons _ _ _ _ _ (.refl _) (.cons _ _ _ _ _ (.refl _) (.cons _ _ _ _ _ (.refl _) (.cons _ _ _ _ _ (.dead _) (.cons _ _ _ _ _ (.refl _) .nil))))))) (OLe.refl _)).trans (cmpS_ok rfl)) ⟨_, _, h401, rfl⟩ ?_
      clear h401
      rintro n _ ⟨x391, x392, h401, rfl⟩
      cases n with
      | zero => cases h401
      | succ n =>
        rw [m60_L1] at h401
        have hh := brn_some h401; clear h401; rcases hh with ⟨h393, h401⟩ | ⟨h393, h401⟩
        · have hh := grd_some h401; clear h401; obtain ⟨g394, h401⟩ := hh
          refine W_sound tab_ok mixed 18 _ _ _ ?_
          simp only [go_sem, ne_eq, not_false_eq_true, Nat.reduceBEq, Nat.reduceAdd, Nat.reduceSub, Nat.reduceMul, Nat.reduceLT, Nat.reduceLeDiff, Int.reduceLE, Int.reduceLT, Int.reduceToNat, Int.cast_ofNat_Int, ↓reduceIte, h384, h393, g394]
          repeat with_reducible refine And.intro (by kernel_rfl) ?_
          exact cutQ _ ((Wk_le (.cons _ _ _ _ _ (.refl _) (.cons _ _ _ _ _ (.refl _) (.cons _ _ _ _ _ (.refl _) (.cons _ _ _ _ _ (.refl _) (.cons _ _ _ _ _ (.refl _) (.cons _ _ _ _ _ (.refl _) (.cons _ _ _ _ _ (.dead _) .nil))))))) (OLe.refl _)).trans (cmpS_ok rfl)) ⟨n, Nat.lt_succ_self n, _, _, h401, rfl⟩
        · refine W_sound tab_ok mixed 8 _ _ _ ?_
          simp only [go_sem, ne_eq, not_false_eq_true, Nat.reduceBEq, Nat.reduceAdd, Nat.reduceSub, Nat.reduceMul, Nat.reduceLT, Nat.reduceLeDiff, Int.reduceLE, Int.reduceLT, Int.reduceToNat, Int.cast_ofNat_Int, ↓reduceIte, h384, h393]
          repeat with_reducible refine And.intro (by kernel_rfl) ?_
          obtain rfl := Option.some.inj h401
          exact cutQ _ ((Wk_le (.cons _ _ _ _ _ (.refl _) (.cons _ _ _ _ _ (.refl _) (.cons _ _ _ _ _ (.refl _) (.cons _ _ _ _ _ (.refl _) (.cons _ _ _ _ _ (.dead _) (.cons _ _ _ _ _ (.refl _) (.cons _ _ _ _ _ (.dead _) .nil))))))) (OLe.refl _)).trans (cmpS_ok rfl)) ⟨_, rfl, rfl⟩
    · rintro _ ⟨x395, rfl, rfl⟩
      have hh := grd_some h402; clear h402; obtain ⟨g396, h402⟩ := hh
      refine W_sound tab_ok mixed 12 _ _ _ ?_
      simp only [go_sem, ne_eq, not_false_eq_true, Nat.reduceBEq, Nat.reduceAdd, Nat.reduceSub, Nat.reduceMul, Nat.reduceLT, Nat.reduceLeDiff, Int.reduceLE, Int.reduceLT, Int.reduceToNat, Int.cast_ofNat_Int, ↓reduceIte, h384, g396]
      repeat with_reducible refine And.intro (by kernel_rfl) ?_
      refine FinQ_wk (Wk_freeze 0 [(.int .i64 (IntKind.i64.wrap (Int.tdiv x382 x395))), (.int .i64 (IntKind.i64.wrap (Int.tdiv x383 x395)))] (by rfl) (by decide) (by decide)) ?_
      simp only [go_sem, ne_eq, not_false_eq_true, Nat.reduceBEq, Nat.reduceAdd, Nat.reduceSub, Nat.reduceMul, Nat.reduceLT, Nat.reduceLeDiff, Int.reduceLE, Int.reduceLT, Int.reduceToNat, Int.cast_ofNat_Int, ↓reduceIte, h384, g396]
      obtain rfl := Option.some.inj h402
      exact finC [(4, .v (.ipt [(.int .i64 (IntKind.i64.wrap (Int.tdiv x382 x395))), (.int .i64 (IntKind.i64.wrap (Int.tdiv x383 x395)))]))] [(4, .v (.ipt [(.int .i64 (IntKind.i64.wrap (Int.tdiv x382 x395))), (.int .i64 (IntKind.i64.wrap (Int.tdiv x383 x395)))]))] (by simp [leE, lk_cons]) (.cons _ _ _ _ _ (.v _ _ (.refl _)) .nil) (by rfl) (by simp [leE, lk_cons]) (by decide) (by decide) rfl (by simp only [go_sem, ne_eq, not_false_eq_true, Nat.reduceBEq, Nat.reduceAdd, Nat.reduceSub, Nat.reduceMul, Nat.reduceLT, Nat.reduceLeDiff, Int.reduceLE, Int.reduceLT, Int.reduceToNat, Int.cast_ofNat_Int, ↓reduceIte, resQ_tmp, resQ_cell, resQ_nil, retD_one, retD_two, retD_three, retD_none]; try simp [R.val, retD_one, retD_two, retD_three, retD_none])

end Go.Proofs.Ytgnphlpoofaojaa
