/-
  Models and laws.
-/
import Derived.Test.YtcaecfofgdogbaaDoorRK3
import Derived.Test.YtcaecfofgdogbaaDoorRV39
import Derived.Test.YtcaecfofgdogbaaDoorRV36
set_option linter.unusedSimpArgs false
set_option linter.unusedVariables false
namespace Go.Proofs.YtcaecfofgdogbaaDoor
open Go.V
open Nat renaming reduceBEq → qa, reduceAdd → qb, reduceSub → qc, reduceMul → qd, reduceLT → qe, reduceLeDiff → qf
open Int renaming reduceLE → qg, reduceLT → qh, reduceToNat → qi, reduceBEq → qj, reduceBNe → qk
set_option maxRecDepth 100000
set_option maxHeartbeats 4000000
set_option linter.unusedSimpArgs false
set_option linter.unusedVariables false
attribute [local go_sem] tl1 tl2 tl3 tl4 tl5 tl9 tl17 tl21 tl22 tl23 tl24 tl25 tl27 tl28 tl30 tl31 tl32 tl33 tl35 tl36 tl37 tl38 tl39 tl40 tl42 tl43 tl44 tl45 tl46 tl47 tl48 tl49 tl50 tl51 tl52 tl53 tl54 tl55 tl56 tl57 tl58 tl59 tl61 tl62 tl63 tl64 tl65 tl66 tl67 tl68 tl69 tl70 tl71 tl72 tl73 tl74 tl75 tl76 tl77 tl78 tl79 tl80 tl81 tl82 tl83 tl84 tl85 tl87 tl89 tl90 tl91 tl92 tl93 tl94 tl96 tl97 tl98 tl99 tl100 tl101 tl102 tl103 tl104 tl105 tl106 tl107 tl108 tl109 tl115 tl119
def gv1 : List PV := (glk Gv 1).getD []
@[local go_sem] theorem ev_gv1 (get : Nat → D) : evG get (.global 1) = .v (.ipt gv1) := rfl
def m15_L0 (N : Nat) (n3 : Nat) (c4 : List PV) : Nat → Int → Option ((PV ⊕ Unit))
  | 0, _ => none
  | n + 1, x6 =>
    brn (decide (x6 < ((n3 : Nat) : Int))) (
      grd (0 ≤ x6 ∧ x6 < ((n3 : Nat) : Int)) <|
      grd (0 < List.length (List.drop (Int.toNat x6) c4)) <|
      getL (gp c4 (Int.toNat x6)) fun n12 c13 =>
      brn (decide (((n12 : Nat) : Int) > 30)) (
        some (.inl (.bool true))) (
        m15_L0 N n3 c4 n (IntKind.i64.wrap (x6 + 1)))) (
      some (.inr ()))
def m15 (N : Nat) (p1 : PV) : Option (PV) :=
  getL p1 fun n3 c4 =>
  brn (decide (((n3 : Nat) : Int) > 30)) (
    some (.bool true)) (
    bnd' (m15_L0 N n3 c4 N 0) fun o =>
    match o with
    | .inl p15 =>
      some p15
    | .inr () =>
      some (.bool false))
theorem c15 (N : Nat) (p1 : PV) (r : PV)  (h : m15 N p1 = some r) : FnP Tryd.prog 15 [p1] r := by
  unfold m15 at h
  refine Fn_of (sz := 19) tab_ok [0, 2, 3, 6, 10, 18] [.tmp 2] Tryd.func15 rfl rfl rfl (by simp) ?_
  simp only [initSt, initEnv, List.map_cons, List.map_nil, List.getD_cons_zero, List.getD_cons_succ, List.getD_nil]
  have hh := getL_some h; clear h; obtain ⟨n3, c4, h2, h⟩ := hh
  have hh := brn_some h; clear h; rcases hh with ⟨h5, h⟩ | ⟨h5, h⟩
  · refine W_sound tab_ok mixed 18 _ _ _ ?_
    simp -implicitDefEqProofs only [go_sem, qa, qb, qc, qd, qe, qf, qg, qh, qi, qj, qk, ↓reduceIte, h2, h5]
    repeat with_reducible refine ⟨by first | kernel_rfl | decide, ?_⟩
    obtain rfl := Option.some.inj h
    exact finC [(2, .v (.bool true))] [(2, .v (.bool true))] (by simp [leE, lk_cons]) (.cons _ _ _ _ _ (.v _ _ (.refl _)) .nil) (by rfl) (by simp [leE, lk_cons]) (by decide) (by decide) rfl (by simp only [go_sem, qa, qb, qc, qd, qe, qf, qg, qh, qi, qj, qk, ↓reduceIte, resQ_tmp, resQ_cell, resQ_nil, retD_one, retD_two, retD_three, retD_none]; try simp [R.val, retD_one, retD_two, retD_three, retD_none])
  · refine W_sound tab_ok mixed 18 _ _ _ ?_
    simp -implicitDefEqProofs only [go_sem, qa, qb, qc, qd, qe, qf, qg, qh, qi, qj, qk, ↓reduceIte, h2, h5]
    repeat with_reducible refine ⟨by first | kernel_rfl | decide, ?_⟩
    have hh := bnd'_some h; clear h; obtain ⟨o16, h17, h18⟩ := hh
    refine Wp_cut (fun s => (.inr ()) = o16 ∧ s = ⟨[], [(0, .dead), (2, .dead), (3, .dead), (6, .dead), (10, .dead), (18, .dead)], [], 0, []⟩) ?_ ?_
    · refine Wp_block ?_
      refine Wp_loopG (fun n s => ∃ x6, m15_L0 N n3 c4 n x6 = some o16 ∧ s = ⟨[], [(0, .v (.lst false n3 c4)), (2, .dead), (3, .v (.int .i64 x6)), (6, .dead), (10, .dead), (18, .dead)], [], 0, []⟩) N _ ((Wk_le (.r (.k (.r (.k (.r (.r .nil)))))) (OLe.refl _)).trans (cmpS_ok rfl)) ⟨_, h17, rfl⟩ ?_
      clear h17
      rintro n _ ⟨x6, h17, rfl⟩
      cases n with
      | zero => cases h17
      | succ n =>
        rw [m15_L0] at h17
        have hh := brn_some h17; clear h17; rcases hh with ⟨h7, h17⟩ | ⟨h7, h17⟩
        · have hh := grd_some h17; clear h17; obtain ⟨⟨g8, g9⟩, h17⟩ := hh
          have hh := grd_some h17; clear h17; obtain ⟨g10, h17⟩ := hh
          have hh := getL_some h17; clear h17; obtain ⟨n12, c13, h11, h17⟩ := hh
          have hh := brn_some h17; clear h17; rcases hh with ⟨h14, h17⟩ | ⟨h14, h17⟩
          · refine W_sound tab_ok mixed 28 _ _ _ ?_
            simp -implicitDefEqProofs only [go_sem, qa, qb, qc, qd, qe, qf, qg, qh, qi, qj, qk, ↓reduceIte, h2, h5, h7, g8, g9, g10, h11, h14]
            repeat with_reducible refine ⟨by first | kernel_rfl | decide, ?_⟩
            obtain rfl := Option.some.inj h17
            (try dsimp only at h18)
            obtain rfl := Option.some.inj h18
            exact finC [(2, .v (.bool true))] [(2, .v (.bool true))] (by simp [leE, lk_cons]) (.cons _ _ _ _ _ (.v _ _ (.refl _)) .nil) (by rfl) (by simp [leE, lk_cons]) (by decide) (by decide) rfl (by simp only [go_sem, qa, qb, qc, qd, qe, qf, qg, qh, qi, qj, qk, ↓reduceIte, resQ_tmp, resQ_cell, resQ_nil, retD_one, retD_two, retD_three, retD_none]; try simp [R.val, retD_one, retD_two, retD_three, retD_none])
          · refine W_sound tab_ok mixed 29 _ _ _ ?_
            simp -implicitDefEqProofs only [go_sem, qa, qb, qc, qd, qe, qf, qg, qh, qi, qj, qk, ↓reduceIte, h2, h5, h7, g8, g9, g10, h11, h14]
            repeat with_reducible refine ⟨by first | kernel_rfl | decide, ?_⟩
            exact cutQ _ ((Wk_le (.r (.r (.r (.r (.k (.k .nil)))))) (OLe.refl _)).trans (cmpS_ok rfl)) ⟨n, Nat.lt_succ_self n, _, h17, rfl⟩
        · refine W_sound tab_ok mixed 10 _ _ _ ?_
          simp -implicitDefEqProofs only [go_sem, qa, qb, qc, qd, qe, qf, qg, qh, qi, qj, qk, ↓reduceIte, h2, h5, h7]
          repeat with_reducible refine ⟨by first | kernel_rfl | decide, ?_⟩
          obtain rfl := Option.some.inj h17
          exact cutQ _ ((Wk_le (.k (.r (.k (.r (.k (.r .nil)))))) (OLe.refl _)).trans (cmpS_ok rfl)) ⟨rfl, rfl⟩
    · rintro _ ⟨rfl, rfl⟩
      (try dsimp only at h18)
      refine W_sound tab_ok mixed 6 _ _ _ ?_
      simp -implicitDefEqProofs only [go_sem, qa, qb, qc, qd, qe, qf, qg, qh, qi, qj, qk, ↓reduceIte, h2, h5]
      repeat with_reducible refine ⟨by first | kernel_rfl | decide, ?_⟩
      obtain rfl := Option.some.inj h18
      exact finC [(2, .v (.bool false))] [(2, .v (.bool false))] (by simp [leE, lk_cons]) (.cons _ _ _ _ _ (.v _ _ (.refl _)) .nil) (by rfl) (by simp [leE, lk_cons]) (by decide) (by decide) rfl (by simp only [go_sem, qa, qb, qc, qd, qe, qf, qg, qh, qi, qj, qk, ↓reduceIte, resQ_tmp, resQ_cell, resQ_nil, retD_one, retD_two, retD_three, retD_none]; try simp [R.val, retD_one, retD_two, retD_three, retD_none])
def m22_L0 (N : Nat) (n44 : Nat) (c45 : List PV) (n47 : Nat) (c48 : List PV) : Nat → Int → Option ((PV ⊕ Unit))
  | 0, _ => none
  | n + 1, x50 =>
    brn (decide (x50 < ((n44 : Nat) : Int))) (
      grd (0 ≤ x50 ∧ x50 < ((n44 : Nat) : Int)) <|
      grd (0 < List.length (List.drop (Int.toNat x50) c45)) <|
      getI .i64 (gp c45 (Int.toNat x50)) fun x56 =>
      grd (x50 < ((n47 : Nat) : Int)) <|
      grd (0 < List.length (List.drop (Int.toNat x50) c48)) <|
      getI .i64 (gp c48 (Int.toNat x50)) fun x60 =>
      brn (x56 != x60) (
        some (.inl (.bool false))) (
        m22_L0 N n44 c45 n47 c48 n (IntKind.i64.wrap (x50 + 1)))) (
      some (.inr ()))
def m22 (N : Nat) (p41 : PV) (p42 : PV) : Option (PV) :=
  getL p41 fun n44 c45 =>
  getL p42 fun n47 c48 =>
  brn (((n44 : Nat) : Int) != ((n47 : Nat) : Int)) (
    some (.bool false)) (
    bnd' (m22_L0 N n44 c45 n47 c48 N 0) fun o =>
    match o with
    | .inl p62 =>
      some p62
    | .inr () =>
      some (.bool true))
theorem c22 (N : Nat) (p41 : PV) (p42 : PV) (r : PV)  (h : m22 N p41 p42 = some r) : FnP Tryd.prog 22 [p41, p42] r := by
  unfold m22 at h
  refine Fn_of (sz := 26) tab_ok [0, 1, 4, 5, 10, 14, 25] [.tmp 4] Tryd.func22 rfl rfl rfl (by simp) ?_
  simp only [initSt, initEnv, List.map_cons, List.map_nil, List.getD_cons_zero, List.getD_cons_succ, List.getD_nil]
  have hh := getL_some h; clear h; obtain ⟨n44, c45, h43, h⟩ := hh
  have hh := getL_some h; clear h; obtain ⟨n47, c48, h46, h⟩ := hh
  have hh := brn_some h; clear h; rcases hh with ⟨h49, h⟩ | ⟨h49, h⟩
  · refine W_sound tab_ok mixed 20 _ _ _ ?_
    simp -implicitDefEqProofs only [go_sem, qa, qb, qc, qd, qe, qf, qg, qh, qi, qj, qk, ↓reduceIte, h43, h46, h49]
    repeat with_reducible refine ⟨by first | kernel_rfl | decide, ?_⟩
    obtain rfl := Option.some.inj h
    exact finC [(4, .v (.bool false))] [(4, .v (.bool false))] (by simp [leE, lk_cons]) (.cons _ _ _ _ _ (.v _ _ (.refl _)) .nil) (by rfl) (by simp [leE, lk_cons]) (by decide) (by decide) rfl (by simp only [go_sem, qa, qb, qc, qd, qe, qf, qg, qh, qi, qj, qk, ↓reduceIte, resQ_tmp, resQ_cell, resQ_nil, retD_one, retD_two, retD_three, retD_none]; try simp [R.val, retD_one, retD_two, retD_three, retD_none])
  · refine W_sound tab_ok mixed 20 _ _ _ ?_
    simp -implicitDefEqProofs only [go_sem, qa, qb, qc, qd, qe, qf, qg, qh, qi, qj, qk, ↓reduceIte, h43, h46, h49]
    repeat with_reducible refine ⟨by first | kernel_rfl | decide, ?_⟩
    have hh := bnd'_some h; clear h; obtain ⟨o63, h64, h65⟩ := hh
    refine Wp_cut (fun s => (.inr ()) = o63 ∧ s = ⟨[], [(0, .dead), (1, .dead), (4, .dead), (5, .dead), (10, .dead), (14, .dead), (25, .dead)], [], 0, []⟩) ?_ ?_
    · refine Wp_block ?_
      refine Wp_loopG (fun n s => ∃ x50, m22_L0 N n44 c45 n47 c48 n x50 = some o63 ∧ s = ⟨[], [(0, .v (.lst false n44 c45)), (1, .v (.lst false n47 c48)), (4, .dead), (5, .v (.int .i64 x50)), (10, .dead), (14, .dead), (25, .dead)], [], 0, []⟩) N _ ((Wk_le (.r (.r (.k (.r (.k (.r (.r .nil))))))) (OLe.refl _)).trans (cmpS_ok (st' := ⟨[], [(0, .v (.lst false n44 c45)), (1, .v (.lst false n47 c48)), (4, .dead), (5, .v (.int .i64 0)), (10, .dead), (14, .dead), (25, .dead)], [], 0, []⟩) (by kernel_rfl))) ⟨_, h64, rfl⟩ ?_
      clear h64
      rintro n _ ⟨x50, h64, rfl⟩
      cases n with
      | zero => cases h64
      | succ n =>
        rw [m22_L0] at h64
        have hh := brn_some h64; clear h64; rcases hh with ⟨h51, h64⟩ | ⟨h51, h64⟩
        · have hh := grd_some h64; clear h64; obtain ⟨⟨g52, g53⟩, h64⟩ := hh
          have hh := grd_some h64; clear h64; obtain ⟨g54, h64⟩ := hh
          have hh := getI_some h64; clear h64; obtain ⟨x56, h55, h64⟩ := hh
          have hh := grd_some h64; clear h64; obtain ⟨g57, h64⟩ := hh
          have hh := grd_some h64; clear h64; obtain ⟨g58, h64⟩ := hh
          have hh := getI_some h64; clear h64; obtain ⟨x60, h59, h64⟩ := hh
          have hh := brn_some h64; clear h64; rcases hh with ⟨h61, h64⟩ | ⟨h61, h64⟩
          · refine W_sound tab_ok mixed 31 _ _ _ ?_
            simp -implicitDefEqProofs only [go_sem, qa, qb, qc, qd, qe, qf, qg, qh, qi, qj, qk, ↓reduceIte, h43, h46, h49, h51, g52, g53, g54, h55, g57, g58, h59, h61]
            repeat with_reducible refine ⟨by first | kernel_rfl | decide, ?_⟩
            obtain rfl := Option.some.inj h64
            (try dsimp only at h65)
            obtain rfl := Option.some.inj h65
            exact finC [(4, .v (.bool false))] [(4, .v (.bool false))] (by simp [leE, lk_cons]) (.cons _ _ _ _ _ (.v _ _ (.refl _)) .nil) (by rfl) (by simp [leE, lk_cons]) (by decide) (by decide) rfl (by simp only [go_sem, qa, qb, qc, qd, qe, qf, qg, qh, qi, qj, qk, ↓reduceIte, resQ_tmp, resQ_cell, resQ_nil, retD_one, retD_two, retD_three, retD_none]; try simp [R.val, retD_one, retD_two, retD_three, retD_none])
          · refine W_sound tab_ok mixed 32 _ _ _ ?_
            simp -implicitDefEqProofs only [go_sem, qa, qb, qc, qd, qe, qf, qg, qh, qi, qj, qk, ↓reduceIte, h43, h46, h49, h51, g52, g53, g54, h55, g57, g58, h59, h61]
            repeat with_reducible refine ⟨by first | kernel_rfl | decide, ?_⟩
            exact cutQ _ ((Wk_le (.r (.r (.r (.r (.r (.k (.k .nil))))))) (OLe.refl _)).trans (cmpS_ok (st' := ⟨[], [(0, .v (.lst false n44 c45)), (1, .v (.lst false n47 c48)), (4, .dead), (5, .v (.int .i64 (IntKind.i64.wrap (x50 + 1)))), (10, .dead), (14, .dead), (25, .dead)], [], 0, []⟩) (by kernel_rfl))) ⟨n, Nat.lt_succ_self n, _, h64, rfl⟩
        · refine W_sound tab_ok mixed 10 _ _ _ ?_
          simp -implicitDefEqProofs only [go_sem, qa, qb, qc, qd, qe, qf, qg, qh, qi, qj, qk, ↓reduceIte, h43, h46, h49, h51]
          repeat with_reducible refine ⟨by first | kernel_rfl | decide, ?_⟩
          obtain rfl := Option.some.inj h64
          exact cutQ _ ((Wk_le (.k (.k (.r (.k (.r (.k (.r .nil))))))) (OLe.refl _)).trans (cmpS_ok (st' := ⟨[], [(0, .dead), (1, .dead), (4, .dead), (5, .dead), (10, .dead), (14, .dead), (25, .dead)], [], 0, []⟩) (by kernel_rfl))) ⟨rfl, rfl⟩
    · rintro _ ⟨rfl, rfl⟩
      (try dsimp only at h65)
      refine W_sound tab_ok mixed 6 _ _ _ ?_
      simp -implicitDefEqProofs only [go_sem, qa, qb, qc, qd, qe, qf, qg, qh, qi, qj, qk, ↓reduceIte, h43, h46, h49]
      repeat with_reducible refine ⟨by first | kernel_rfl | decide, ?_⟩
      obtain rfl := Option.some.inj h65
      exact finC [(4, .v (.bool true))] [(4, .v (.bool true))] (by simp [leE, lk_cons]) (.cons _ _ _ _ _ (.v _ _ (.refl _)) .nil) (by rfl) (by simp [leE, lk_cons]) (by decide) (by decide) rfl (by simp only [go_sem, qa, qb, qc, qd, qe, qf, qg, qh, qi, qj, qk, ↓reduceIte, resQ_tmp, resQ_cell, resQ_nil, retD_one, retD_two, retD_three, retD_none]; try simp [R.val, retD_one, retD_two, retD_three, retD_none])
def m21_L0 (N : Nat) (n22 : Nat) (c23 : List PV) (n25 : Nat) (c26 : List PV) : Nat → Int → Option ((PV ⊕ Unit))
  | 0, _ => none
  | n + 1, x28 =>
    brn (decide (x28 < ((n22 : Nat) : Int))) (
      grd (0 ≤ x28 ∧ x28 < ((n22 : Nat) : Int)) <|
      grd (0 < List.length (List.drop (Int.toNat x28) c23)) <|
      getL (gp c23 (Int.toNat x28)) fun n34 c35 =>
      grd (x28 < ((n25 : Nat) : Int)) <|
      grd (0 < List.length (List.drop (Int.toNat x28) c26)) <|
      getL (gp c26 (Int.toNat x28)) fun n39 c40 =>
      bnd' (m22 N (.lst false n34 c35) (.lst false n39 c40)) fun p66 =>
      getB p66 fun b69 =>
      brn b69 (
        m21_L0 N n22 c23 n25 c26 n (IntKind.i64.wrap (x28 + 1))) (
        some (.inl (.bool false)))) (
      some (.inr ()))
def m21 (N : Nat) (p19 : PV) (p20 : PV) : Option (PV) :=
  getL p19 fun n22 c23 =>
  getL p20 fun n25 c26 =>
  brn (((n22 : Nat) : Int) != ((n25 : Nat) : Int)) (
    some (.bool false)) (
    bnd' (m21_L0 N n22 c23 n25 c26 N 0) fun o =>
    match o with
    | .inl p71 =>
      some p71
    | .inr () =>
      some (.bool true))
theorem c21 (N : Nat) (p19 : PV) (p20 : PV) (r : PV)  (h : m21 N p19 p20 = some r) : FnP Tryd.prog 21 [p19, p20] r := by
  unfold m21 at h
  refine Fn_of (sz := 27) tab_ok [0, 1, 4, 5, 10, 14, 26] [.tmp 4] Tryd.func21 rfl rfl rfl (by simp) ?_
  simp only [initSt, initEnv, List.map_cons, List.map_nil, List.getD_cons_zero, List.getD_cons_succ, List.getD_nil]
  have hh := getL_some h; clear h; obtain ⟨n22, c23, h21, h⟩ := hh
  have hh := getL_some h; clear h; obtain ⟨n25, c26, h24, h⟩ := hh
  have hh := brn_some h; clear h; rcases hh with ⟨h27, h⟩ | ⟨h27, h⟩
  · refine W_sound tab_ok mixed 20 _ _ _ ?_
    simp -implicitDefEqProofs only [go_sem, qa, qb, qc, qd, qe, qf, qg, qh, qi, qj, qk, ↓reduceIte, h21, h24, h27]
    repeat with_reducible refine ⟨by first | kernel_rfl | decide, ?_⟩
    obtain rfl := Option.some.inj h
    exact finC [(4, .v (.bool false))] [(4, .v (.bool false))] (by simp [leE, lk_cons]) (.cons _ _ _ _ _ (.v _ _ (.refl _)) .nil) (by rfl) (by simp [leE, lk_cons]) (by decide) (by decide) rfl (by simp only [go_sem, qa, qb, qc, qd, qe, qf, qg, qh, qi, qj, qk, ↓reduceIte, resQ_tmp, resQ_cell, resQ_nil, retD_one, retD_two, retD_three, retD_none]; try simp [R.val, retD_one, retD_two, retD_three, retD_none])
  · refine W_sound tab_ok mixed 20 _ _ _ ?_
    simp -implicitDefEqProofs only [go_sem, qa, qb, qc, qd, qe, qf, qg, qh, qi, qj, qk, ↓reduceIte, h21, h24, h27]
    repeat with_reducible refine ⟨by first | kernel_rfl | decide, ?_⟩
    have hh := bnd'_some h; clear h; obtain ⟨o72, h73, h74⟩ := hh
    refine Wp_cut (fun s => (.inr ()) = o72 ∧ s = ⟨[], [(0, .dead), (1, .dead), (4, .dead), (5, .dead), (10, .dead), (14, .dead), (26, .dead)], [], 0, []⟩) ?_ ?_
    · refine Wp_block ?_
      refine Wp_loopG (fun n s => ∃ x28, m21_L0 N n22 c23 n25 c26 n x28 = some o72 ∧ s = ⟨[], [(0, .v (.lst false n22 c23)), (1, .v (.lst false n25 c26)), (4, .dead), (5, .v (.int .i64 x28)), (10, .dead), (14, .dead), (26, .dead)], [], 0, []⟩) N _ ((Wk_le (.r (.r (.k (.r (.k (.r (.r .nil))))))) (OLe.refl _)).trans (cmpS_ok (st' := ⟨[], [(0, .v (.lst false n22 c23)), (1, .v (.lst false n25 c26)), (4, .dead), (5, .v (.int .i64 0)), (10, .dead), (14, .dead), (26, .dead)], [], 0, []⟩) (by kernel_rfl))) ⟨_, h73, rfl⟩ ?_
      clear h73
      rintro n _ ⟨x28, h73, rfl⟩
      cases n with
      | zero => cases h73
      | succ n =>
        rw [m21_L0] at h73
        have hh := brn_some h73; clear h73; rcases hh with ⟨h29, h73⟩ | ⟨h29, h73⟩
        · have hh := grd_some h73; clear h73; obtain ⟨⟨g30, g31⟩, h73⟩ := hh
          have hh := grd_some h73; clear h73; obtain ⟨g32, h73⟩ := hh
          have hh := getL_some h73; clear h73; obtain ⟨n34, c35, h33, h73⟩ := hh
          have hh := grd_some h73; clear h73; obtain ⟨g36, h73⟩ := hh
          have hh := grd_some h73; clear h73; obtain ⟨g37, h73⟩ := hh
          have hh := getL_some h73; clear h73; obtain ⟨n39, c40, h38, h73⟩ := hh
          have hh := bnd'_some h73; clear h73; obtain ⟨p66, h67, h73⟩ := hh
          refine W_sound tab_ok mixed 22 _ _ _ ?_
          simp -implicitDefEqProofs only [go_sem, qa, qb, qc, qd, qe, qf, qg, qh, qi, qj, qk, ↓reduceIte, h21, h24, h27, h29, g30, g31, g32, h33, g36, g37, h38]
          repeat with_reducible refine ⟨by first | kernel_rfl | decide, ?_⟩
          refine Wp_callP (c22 N _ _ _ h67) (by kernel_rfl) rfl rfl rfl rfl (by decide) ?_
          have hh := getB_some h73; clear h73; obtain ⟨b69, h68, h73⟩ := hh
          have hh := brn_some h73; clear h73; rcases hh with ⟨h70, h73⟩ | ⟨h70, h73⟩
          · refine W_sound tab_ok mixed 10 _ _ _ ?_
            simp -implicitDefEqProofs only [go_sem, qa, qb, qc, qd, qe, qf, qg, qh, qi, qj, qk, ↓reduceIte, h21, h24, h27, h29, g30, g31, g32, h33, g36, g37, h38, h68, h70]
            repeat with_reducible refine ⟨by first | kernel_rfl | decide, ?_⟩
            exact cutQ _ ((Wk_le (.r (.r (.r (.r (.r (.k (.k .nil))))))) (OLe.refl _)).trans (cmpS_ok (st' := ⟨[], [(0, .v (.lst false n22 c23)), (1, .v (.lst false n25 c26)), (4, .dead), (5, .v (.int .i64 (IntKind.i64.wrap (x28 + 1)))), (10, .dead), (14, .dead), (26, .dead)], [], 0, []⟩) (by kernel_rfl))) ⟨n, Nat.lt_succ_self n, _, h73, rfl⟩
          · refine W_sound tab_ok mixed 9 _ _ _ ?_
            simp -implicitDefEqProofs only [go_sem, qa, qb, qc, qd, qe, qf, qg, qh, qi, qj, qk, ↓reduceIte, h21, h24, h27, h29, g30, g31, g32, h33, g36, g37, h38, h68, h70]
            repeat with_reducible refine ⟨by first | kernel_rfl | decide, ?_⟩
            obtain rfl := Option.some.inj h73
            (try dsimp only at h74)
            obtain rfl := Option.some.inj h74
            exact finC [(4, .v (.bool false))] [(4, .v (.bool false))] (by simp [leE, lk_cons]) (.cons _ _ _ _ _ (.v _ _ (.refl _)) .nil) (by rfl) (by simp [leE, lk_cons]) (by decide) (by decide) rfl (by simp only [go_sem, qa, qb, qc, qd, qe, qf, qg, qh, qi, qj, qk, ↓reduceIte, resQ_tmp, resQ_cell, resQ_nil, retD_one, retD_two, retD_three, retD_none]; try simp [R.val, retD_one, retD_two, retD_three, retD_none])
        · refine W_sound tab_ok mixed 10 _ _ _ ?_
          simp -implicitDefEqProofs only [go_sem, qa, qb, qc, qd, qe, qf, qg, qh, qi, qj, qk, ↓reduceIte, h21, h24, h27, h29]
          repeat with_reducible refine ⟨by first | kernel_rfl | decide, ?_⟩
          obtain rfl := Option.some.inj h73
          exact cutQ _ ((Wk_le (.k (.k (.r (.k (.r (.k (.r .nil))))))) (OLe.refl _)).trans (cmpS_ok (st' := ⟨[], [(0, .dead), (1, .dead), (4, .dead), (5, .dead), (10, .dead), (14, .dead), (26, .dead)], [], 0, []⟩) (by kernel_rfl))) ⟨rfl, rfl⟩
    · rintro _ ⟨rfl, rfl⟩
      (try dsimp only at h74)
      refine W_sound tab_ok mixed 6 _ _ _ ?_
      simp -implicitDefEqProofs only [go_sem, qa, qb, qc, qd, qe, qf, qg, qh, qi, qj, qk, ↓reduceIte, h21, h24, h27]
      repeat with_reducible refine ⟨by first | kernel_rfl | decide, ?_⟩
      obtain rfl := Option.some.inj h74
      exact finC [(4, .v (.bool true))] [(4, .v (.bool true))] (by simp [leE, lk_cons]) (.cons _ _ _ _ _ (.v _ _ (.refl _)) .nil) (by rfl) (by simp [leE, lk_cons]) (by decide) (by decide) rfl (by simp only [go_sem, qa, qb, qc, qd, qe, qf, qg, qh, qi, qj, qk, ↓reduceIte, resQ_tmp, resQ_cell, resQ_nil, retD_one, retD_two, retD_three, retD_none]; try simp [R.val, retD_one, retD_two, retD_three, retD_none])
def m71_L1 (N : Nat) (x111 : Int) : Nat → Int → List PV → Option (List PV)
  | 0, _, _ => none
  | n + 1, x121, c122 =>
    brn (decide (x121 < 5)) (
      grd (0 ≤ x111 ∧ x111 < 5) <|
      grd (0 ≤ x121 ∧ x121 < 5) <|
      grd ((((1 + ((Int.toNat x111) * 5)) + (Int.toNat x121)) + 1) ≤ List.length c122) <|
      m71_L1 N x111 n (IntKind.i64.wrap (x121 + 1)) (List.set c122 ((1 + ((Int.toNat x111) * 5)) + (Int.toNat x121)) (.int .i64 (-1)))) (
      some c122)
def m71_L0 (N : Nat)  : Nat → Int → List PV → Option (List PV)
  | 0, _, _ => none
  | n + 1, x111, c112 =>
    brn (decide (x111 < 5)) (
      bnd' (m71_L1 N x111 N 0 c112) fun c129 =>
      m71_L0 N  n (IntKind.i64.wrap (x111 + 1)) c129) (
      some c112)
def m71 (N : Nat) (x92 : Int) : Option (List PV) :=
  bnd' (m71_L0 N  N 0 [(.int .i64 x92), (.int .i64 0), (.int .i64 0), (.int .i64 0), (.int .i64 0), (.int .i64 0), (.int .i64 0), (.int .i64 0), (.int .i64 0), (.int .i64 0), (.int .i64 0), (.int .i64 0), (.int .i64 0), (.int .i64 0), (.int .i64 0), (.int .i64 0), (.int .i64 0), (.int .i64 0), (.int .i64 0), (.int .i64 0), (.int .i64 0), (.int .i64 0), (.int .i64 0), (.int .i64 0), (.int .i64 0), (.int .i64 0), (.int .u64 0), (.int .u64 0), (.int .u64 0), (.int .u64 0), (.int .u64 0), (.int .u64 0), (.int .u64 0), (.int .u64 0), (.int .u64 0), (.int .u64 0)]) fun c130 =>
  some c130
theorem c71 (N : Nat) (x92 : Int) (r : List PV)  (h : m71 N x92 = some r) : V.Fn Tryd.prog 71 0 [.v (.int .i64 x92)] [] (fun d ob' => match (generalizing := false) r with | c131 => d = .ptr 0 0 ∧ ob' = [(0, .p c131)]) := by
  unfold m71 at h
  refine Fn_of (sz := 25) tab_ok [0, 2, 3, 4, 5, 9, 10, 12, 13] [.tmp 2] Tryd.func71 rfl rfl rfl (by simp) ?_
  simp only [initSt, initEnv, List.map_cons, List.map_nil, List.getD_cons_zero, List.getD_cons_succ, List.getD_nil]
  refine W_sound tab_ok mixed 16 _ _ _ ?_
  simp -implicitDefEqProofs only [go_sem, qa, qb, qc, qd, qe, qf, qg, qh, qi, qj, qk, ↓reduceIte]
  repeat with_reducible refine ⟨by first | kernel_rfl | decide, ?_⟩
  have hh := bnd'_some h; clear h; obtain ⟨o132, h133, h134⟩ := hh
  refine Wp_cut (fun s => ∃ c130, c130 = o132 ∧ s = ⟨[], [(0, .dead), (2, .dead), (3, .ptr 0 0), (4, .dead), (5, .dead), (9, .dead), (10, .dead), (12, .dead), (13, .dead)], [(0, .p c130)], 1, []⟩) ?_ ?_
  · refine Wp_block ?_
    refine Wp_loopG (fun n s => ∃ x111, ∃ c112, m71_L0 N  n x111 c112 = some o132 ∧ s = ⟨[], [(0, .dead), (2, .dead), (3, .ptr 0 0), (4, .dead), (5, .dead), (9, .v (.int .i64 x111)), (10, .dead), (12, .dead), (13, .dead)], [(0, .p c112)], 1, []⟩) N _ ((Wk_le (.k (.k (.r (.r (.r (.r (.r (.r (.r .nil))))))))) (OLe.refl _)).trans (cmpS_ok (st' := ⟨[], [(0, .dead), (2, .dead), (3, .ptr 0 0), (4, .dead), (5, .dead), (9, .v (.int .i64 0)), (10, .dead), (12, .dead), (13, .dead)], [(0, .p [(.int .i64 x92), (.int .i64 0), (.int .i64 0), (.int .i64 0), (.int .i64 0), (.int .i64 0), (.int .i64 0), (.int .i64 0), (.int .i64 0), (.int .i64 0), (.int .i64 0), (.int .i64 0), (.int .i64 0), (.int .i64 0), (.int .i64 0), (.int .i64 0), (.int .i64 0), (.int .i64 0), (.int .i64 0), (.int .i64 0), (.int .i64 0), (.int .i64 0), (.int .i64 0), (.int .i64 0), (.int .i64 0), (.int .i64 0), (.int .u64 0), (.int .u64 0), (.int .u64 0), (.int .u64 0), (.int .u64 0), (.int .u64 0), (.int .u64 0), (.int .u64 0), (.int .u64 0), (.int .u64 0)])], 1, []⟩) (by kernel_rfl))) ⟨_, _, h133, rfl⟩ ?_
    clear h133
    rintro n _ ⟨x111, c112, h133, rfl⟩
    cases n with
    | zero => cases h133
    | succ n =>
      rw [m71_L0] at h133
      have hh := brn_some h133; clear h133; rcases hh with ⟨h113, h133⟩ | ⟨h113, h133⟩
      · refine W_sound tab_ok mixed 18 _ _ _ ?_
        simp -implicitDefEqProofs only [go_sem, qa, qb, qc, qd, qe, qf, qg, qh, qi, qj, qk, ↓reduceIte, h113]
        repeat with_reducible refine ⟨by first | kernel_rfl | decide, ?_⟩
        have hh := bnd'_some h133; clear h133; obtain ⟨o135, h136, h137⟩ := hh
        refine Wp_cut (fun s => ∃ c129, c129 = o135 ∧ s = ⟨[], [(0, .dead), (2, .dead), (3, .ptr 0 0), (4, .dead), (5, .dead), (9, .v (.int .i64 x111)), (10, .dead), (12, .dead), (13, .dead)], [(0, .p c129)], 1, []⟩) ?_ ?_
        · refine Wp_block ?_
          refine Wp_loopG (fun n s => ∃ x121, ∃ c122, m71_L1 N x111 n x121 c122 = some o135 ∧ s = ⟨[], [(0, .dead), (2, .dead), (3, .ptr 0 0), (4, .v (.int .i64 x111)), (5, .dead), (9, .v (.int .i64 x111)), (10, .dead), (12, .v (.int .i64 x121)), (13, .dead)], [(0, .p c122)], 1, []⟩) N _ ((Wk_le (.r (.r (.r (.r (.r (.r (.k (.r (.r .nil))))))))) (OLe.refl _)).trans (cmpS_ok (st' := ⟨[], [(0, .dead), (2, .dead), (3, .ptr 0 0), (4, .v (.int .i64 x111)), (5, .dead), (9, .v (.int .i64 x111)), (10, .dead), (12, .v (.int .i64 0)), (13, .dead)], [(0, .p c112)], 1, []⟩) (by kernel_rfl))) ⟨_, _, h136, rfl⟩ ?_
          clear h136
          rintro n _ ⟨x121, c122, h136, rfl⟩
          cases n with
          | zero => cases h136
          | succ n =>
            rw [m71_L1] at h136
            have hh := brn_some h136; clear h136; rcases hh with ⟨h123, h136⟩ | ⟨h123, h136⟩
            · have hh := grd_some h136; clear h136; obtain ⟨⟨g124, g125⟩, h136⟩ := hh
              have hh := grd_some h136; clear h136; obtain ⟨⟨g126, g127⟩, h136⟩ := hh
              have hh := grd_some h136; clear h136; obtain ⟨g128, h136⟩ := hh
              refine W_sound tab_ok mixed 29 _ _ _ ?_
              simp -implicitDefEqProofs only [go_sem, qa, qb, qc, qd, qe, qf, qg, qh, qi, qj, qk, ↓reduceIte, h113, h123, g124, g125, g126, g127, g128]
              repeat with_reducible refine ⟨by first | kernel_rfl | decide, ?_⟩
              exact cutQ _ ((Wk_le (.r (.r (.r (.r (.k (.r (.r (.r (.k .nil))))))))) (OLe.refl _)).trans (cmpS_ok (st' := ⟨[], [(0, .dead), (2, .dead), (3, .ptr 0 0), (4, .v (.int .i64 x111)), (5, .dead), (9, .v (.int .i64 x111)), (10, .dead), (12, .v (.int .i64 (IntKind.i64.wrap (x121 + 1)))), (13, .dead)], [(0, .p (List.set c122 ((1 + ((Int.toNat x111) * 5)) + (Int.toNat x121)) (.int .i64 (-1))))], 1, []⟩) (by kernel_rfl))) ⟨n, Nat.lt_succ_self n, _, _, h136, rfl⟩
            · refine W_sound tab_ok mixed 7 _ _ _ ?_
              simp -implicitDefEqProofs only [go_sem, qa, qb, qc, qd, qe, qf, qg, qh, qi, qj, qk, ↓reduceIte, h113, h123]
              repeat with_reducible refine ⟨by first | kernel_rfl | decide, ?_⟩
              obtain rfl := Option.some.inj h136
              exact cutQ _ ((Wk_le (.r (.r (.r (.k (.r (.r (.r (.k (.k .nil))))))))) (OLe.refl _)).trans (cmpS_ok (st' := ⟨[], [(0, .dead), (2, .dead), (3, .ptr 0 0), (4, .dead), (5, .dead), (9, .v (.int .i64 x111)), (10, .dead), (12, .dead), (13, .dead)], [(0, .p c122)], 1, []⟩) (by kernel_rfl))) ⟨_, rfl, rfl⟩
        · rintro _ ⟨c129, rfl, rfl⟩
          refine W_sound tab_ok mixed 5 _ _ _ ?_
          simp -implicitDefEqProofs only [go_sem, qa, qb, qc, qd, qe, qf, qg, qh, qi, qj, qk, ↓reduceIte, h113]
          repeat with_reducible refine ⟨by first | kernel_rfl | decide, ?_⟩
          exact cutQ _ ((Wk_le (.r (.r (.r (.r (.r (.r (.r (.r (.r .nil))))))))) (OLe.refl _)).trans (cmpS_ok (st' := ⟨[], [(0, .dead), (2, .dead), (3, .ptr 0 0), (4, .dead), (5, .dead), (9, .v (.int .i64 (IntKind.i64.wrap (x111 + 1)))), (10, .dead), (12, .dead), (13, .dead)], [(0, .p c129)], 1, []⟩) (by kernel_rfl))) ⟨n, Nat.lt_succ_self n, _, _, h137, rfl⟩
      · refine W_sound tab_ok mixed 7 _ _ _ ?_
        simp -implicitDefEqProofs only [go_sem, qa, qb, qc, qd, qe, qf, qg, qh, qi, qj, qk, ↓reduceIte, h113]
        repeat with_reducible refine ⟨by first | kernel_rfl | decide, ?_⟩
        obtain rfl := Option.some.inj h133
        exact cutQ _ ((Wk_le (.r (.r (.r (.r (.r (.k (.k (.r (.r .nil))))))))) (OLe.refl _)).trans (cmpS_ok (st' := ⟨[], [(0, .dead), (2, .dead), (3, .ptr 0 0), (4, .dead), (5, .dead), (9, .dead), (10, .dead), (12, .dead), (13, .dead)], [(0, .p c112)], 1, []⟩) (by kernel_rfl))) ⟨_, rfl, rfl⟩
  · rintro _ ⟨c130, rfl, rfl⟩
    refine W_sound tab_ok mixed 7 _ _ _ ?_
    simp -implicitDefEqProofs only [go_sem, qa, qb, qc, qd, qe, qf, qg, qh, qi, qj, qk, ↓reduceIte]
    repeat with_reducible refine ⟨by first | kernel_rfl | decide, ?_⟩
    obtain rfl := Option.some.inj h134
    exact finD (e2 := [(0, .dead), (2, .ptr 0 0), (3, .dead), (4, .dead), (5, .dead), (9, .dead), (10, .dead), (12, .dead), (13, .dead)]) (ob2 := [(0, .p c130)]) (st' := ⟨[], [(0, .dead), (2, .ptr 0 0), (3, .dead), (4, .dead), (5, .dead), (9, .dead), (10, .dead), (12, .dead), (13, .dead)], [(0, .p c130)], 1, []⟩) (.r (.r (.k (.r (.r (.r (.r (.r (.r .nil))))))))) (.cons _ _ _ _ _ (DLes.refl _) .nil) (by kernel_rfl) (by simp only [go_sem, qa, qb, qc, qd, qe, qf, qg, qh, qi, qj, qk, ↓reduceIte, resQ_tmp, resQ_cell, resQ_nil, retD_one, retD_two, retD_three, retD_none] <;> first | rfl | exact ⟨rfl, rfl⟩ | (try simp [R.val, retD_one, retD_two, retD_three, retD_none]))
theorem c71_a (N : Nat) (x92 : Int) (c131 : List PV) (h : m71 N x92 = some c131) : V.Fn Tryd.prog 71 0 [.v (.int .i64 x92)] [] (fun d ob' => d = .ptr 0 0 ∧ ob' = [(0, .p c131)]) := c71 N x92 _ h
def m72 (N : Nat) (x195 : Int) (x196 : Int) (x197 : Int) (c198 : List PV) : Option ((PV × List PV)) :=
  grd (0 ≤ x195 ∧ x195 < 5) <|
  grd (0 ≤ x196 ∧ x196 < 5) <|
  grd ((((1 + ((Int.toNat x195) * 5)) + (Int.toNat x196)) + 1) ≤ List.length c198) <|
  grd ((26 + (Int.toNat x195)) < List.length c198) <|
  getI .u64 (gp (List.set c198 ((1 + ((Int.toNat x195) * 5)) + (Int.toNat x196)) (.int .i64 x197)) (26 + (Int.toNat x195))) fun x207 =>
  grd (0 ≤ x197) <|
  grd (((26 + (Int.toNat x195)) + 1) ≤ List.length c198) <|
  grd ((31 + (Int.toNat x196)) < List.length c198) <|
  getI .u64 (gp (List.set (List.set c198 ((1 + ((Int.toNat x195) * 5)) + (Int.toNat x196)) (.int .i64 x197)) (26 + (Int.toNat x195)) (.int .u64 (bitsI .or .u64 x207 (IntKind.u64.wrap (1 * 2 ^ (min (Int.toNat x197) 64)))))) (31 + (Int.toNat x196))) fun x212 =>
  grd (((31 + (Int.toNat x196)) + 1) ≤ List.length c198) <|
  some ((.tup []), (List.set (List.set (List.set c198 ((1 + ((Int.toNat x195) * 5)) + (Int.toNat x196)) (.int .i64 x197)) (26 + (Int.toNat x195)) (.int .u64 (bitsI .or .u64 x207 (IntKind.u64.wrap (1 * 2 ^ (min (Int.toNat x197) 64)))))) (31 + (Int.toNat x196)) (.int .u64 (bitsI .or .u64 x212 (IntKind.u64.wrap (1 * 2 ^ (min (Int.toNat x197) 64)))))))
theorem c72 (N : Nat) (x195 : Int) (x196 : Int) (x197 : Int) (c198 : List PV) (r : PV) (c215 : List PV) (h : m72 N x195 x196 x197 c198 = some (r, c215)) : V.Fn Tryd.prog 72 1 [.ptr 0 0, .v (.int .i64 x195), .v (.int .i64 x196), .v (.int .i64 x197)] [(0, .p c198)] (fun d ob' => d = .v r ∧ ob' = [(0, .p c215)]) := by
  unfold m72 at h
  refine Fn_of (sz := 40) tab_ok [0, 1, 2, 3] [] Tryd.func72 rfl rfl rfl (by simp) ?_
  simp only [initSt, initEnv, List.map_cons, List.map_nil, List.getD_cons_zero, List.getD_cons_succ, List.getD_nil]
  have hh := grd_some h; clear h; obtain ⟨⟨g200, g201⟩, h⟩ := hh
  have hh := grd_some h; clear h; obtain ⟨⟨g202, g203⟩, h⟩ := hh
  have hh := grd_some h; clear h; obtain ⟨g204, h⟩ := hh
  have hh := grd_some h; clear h; obtain ⟨g205, h⟩ := hh
  have hh := getI_some h; clear h; obtain ⟨x207, h206, h⟩ := hh
  have hh := grd_some h; clear h; obtain ⟨g208, h⟩ := hh
  have hh := grd_some h; clear h; obtain ⟨g209, h⟩ := hh
  have hh := grd_some h; clear h; obtain ⟨g210, h⟩ := hh
  have hh := getI_some h; clear h; obtain ⟨x212, h211, h⟩ := hh
  have hh := grd_some h; clear h; obtain ⟨g213, h⟩ := hh
  refine W_sound tab_ok mixed 44 _ _ _ ?_
  simp -implicitDefEqProofs only [go_sem, qa, qb, qc, qd, qe, qf, qg, qh, qi, qj, qk, ↓reduceIte, g200, g201, g202, g203, g204, g205, h206, g208, g209, g210, h211, g213]
  repeat with_reducible refine ⟨by first | kernel_rfl | decide, ?_⟩
  simp only [Option.some.injEq, Prod.mk.injEq] at h; obtain ⟨rfl, rfl⟩ := h
  exact finD (e2 := [(0, .dead), (1, .dead), (2, .dead), (3, .dead)]) (ob2 := [(0, .p (List.set (List.set (List.set c198 ((1 + ((Int.toNat x195) * 5)) + (Int.toNat x196)) (.int .i64 x197)) (26 + (Int.toNat x195)) (.int .u64 (bitsI .or .u64 x207 (IntKind.u64.wrap (1 * 2 ^ (min (Int.toNat x197) 64)))))) (31 + (Int.toNat x196)) (.int .u64 (bitsI .or .u64 x212 (IntKind.u64.wrap (1 * 2 ^ (min (Int.toNat x197) 64)))))))]) (st' := ⟨[], [(0, .dead), (1, .dead), (2, .dead), (3, .dead)], [(0, .p (List.set (List.set (List.set c198 ((1 + ((Int.toNat x195) * 5)) + (Int.toNat x196)) (.int .i64 x197)) (26 + (Int.toNat x195)) (.int .u64 (bitsI .or .u64 x207 (IntKind.u64.wrap (1 * 2 ^ (min (Int.toNat x197) 64)))))) (31 + (Int.toNat x196)) (.int .u64 (bitsI .or .u64 x212 (IntKind.u64.wrap (1 * 2 ^ (min (Int.toNat x197) 64)))))))], 1, []⟩) (.k (.k (.k (.k .nil)))) (.cons _ _ _ _ _ (DLes.refl _) .nil) (by kernel_rfl) (by simp only [go_sem, qa, qb, qc, qd, qe, qf, qg, qh, qi, qj, qk, ↓reduceIte, resQ_tmp, resQ_cell, resQ_nil, retD_one, retD_two, retD_three, retD_none]; try simp [R.val, retD_one, retD_two, retD_three, retD_none])
def m61_L1 (N : Nat) (x80 : Int) (x82 : Int) (n84 : Nat) (c85 : List PV) (x251 : Int) (n258 : Nat) (c259 : List PV) : Nat → Int → List PV → Option (((Int ⊕ (Int × List PV)) ⊕ List PV))
  | 0, _, _ => none
  | n + 1, x292, c293 =>
    brn (decide (x292 < ((n258 : Nat) : Int))) (
      grd (0 ≤ x292 ∧ x292 < ((n258 : Nat) : Int)) <|
      grd (0 < List.length (List.drop (Int.toNat x292) c259)) <|
      getI .i64 (gp c259 (Int.toNat x292)) fun x299 =>
      brn (decide (x299 < 0)) (
        some (.inl (.inl 2))) (
        brn (decide (x299 ≥ x80)) (
          some (.inl (.inl 2))) (
          grd (x251 < 5) <|
          grd ((26 + (Int.toNat x251)) < List.length c293) <|
          getI .u64 (gp c293 (26 + (Int.toNat x251))) fun x307 =>
          grd (0 ≤ x299) <|
          brn ((bitsI .and .u64 (Int.fdiv x307 (2 ^ (min (Int.toNat x299) 64))) 1) == 1) (
            some (.inl (.inl 6))) (
            grd (x292 < 5) <|
            grd ((31 + (Int.toNat x292)) < List.length c293) <|
            getI .u64 (gp c293 (31 + (Int.toNat x292))) fun x314 =>
            brn ((bitsI .and .u64 (Int.fdiv x314 (2 ^ (min (Int.toNat x299) 64))) 1) == 1) (
              some (.inl (.inl 13))) (
              bnd' (m72 N x251 x292 x299 c293) fun (p317, c319) =>
              getT0 p317 <|
              m61_L1 N x80 x82 n84 c85 x251 n258 c259 n (IntKind.i64.wrap (x292 + 1)) c319))))) (
      some (.inr c293))
def m61_L0 (N : Nat) (x80 : Int) (x82 : Int) (n84 : Nat) (c85 : List PV) : Nat → Int → List PV → Option (((Int ⊕ (Int × List PV)) ⊕ List PV))
  | 0, _, _ => none
  | n + 1, x251, c252 =>
    brn (decide (x251 < ((n84 : Nat) : Int))) (
      grd (0 ≤ x251 ∧ x251 < ((n84 : Nat) : Int)) <|
      grd (0 < List.length (List.drop (Int.toNat x251) c85)) <|
      getL (gp c85 (Int.toNat x251)) fun n258 c259 =>
      brn (((n258 : Nat) : Int) != x82) (
        some (.inl (.inl 5))) (
        brn (decide (x82 > x80)) (
          some (.inl (.inl 5))) (
          bnd' (m61_L1 N x80 x82 n84 c85 x251 n258 c259 N 0 c252) fun o =>
          match o with
          | .inl p321 =>
            some (.inl p321)
          | .inr c322 =>
            m61_L0 N x80 x82 n84 c85 n (IntKind.i64.wrap (x251 + 1)) c322))) (
      some (.inr c252))
def m61 (N : Nat) (x80 : Int) (p81 : PV) (x82 : Int) : Option ((Int ⊕ (Int × List PV))) :=
  getL p81 fun n84 c85 =>
  brn (decide (x80 < 1)) (
    some (.inl 1)) (
    brn (decide (x80 > 5)) (
      some (.inl 1)) (
      brn (decide (((n84 : Nat) : Int) > x80)) (
        some (.inl 3)) (
        bnd' (m71 N x80) fun o =>
        match o with
        | c139 =>
          bnd' (m61_L0 N x80 x82 n84 c85 N 0 c139) fun o =>
          match o with
          | .inl p323 =>
            some p323
          | .inr c324 =>
            some (.inr (0, c324)))))
theorem c61 (N : Nat) (x80 : Int) (p81 : PV) (x82 : Int) (r : (Int ⊕ (Int × List PV)))  (h : m61 N x80 p81 x82 = some r) : V.Fn Tryd.prog 61 0 [.v (.int .i64 x80), .v p81, .v (.int .i64 x82)] [] (fun d ob' => match (generalizing := false) r with | .inl x87 => d = .v (.tup [(.fn 999999 [.bool true]), (.int .i64 x87)]) ∧ ob' = [] | .inr (x325, c326) => d = .tup [.ptr 0 0, .v (.int .i64 x325)] ∧ ob' = [(0, .p c326)]) := by
  unfold m61 at h
  refine Fn_of (sz := 88) tab_ok [0, 1, 2, 6, 7, 8, 9, 10, 11, 12, 13, 20, 27, 28, 29, 30, 42, 43, 44, 45, 46, 50, 58, 69] [.tmp 6, .tmp 7] Tryd.func61 rfl rfl rfl (by simp) ?_
  simp only [initSt, initEnv, List.map_cons, List.map_nil, List.getD_cons_zero, List.getD_cons_succ, List.getD_nil]
  have hh := getL_some h; clear h; obtain ⟨n84, c85, h83, h⟩ := hh
  have hh := brn_some h; clear h; rcases hh with ⟨h86, h⟩ | ⟨h86, h⟩
  · refine W_sound tab_ok mixed 25 _ _ _ ?_
    simp -implicitDefEqProofs only [go_sem, qa, qb, qc, qd, qe, qf, qg, qh, qi, qj, qk, ↓reduceIte, h83, h86]
    repeat with_reducible refine ⟨by first | kernel_rfl | decide, ?_⟩
    obtain rfl := Option.some.inj h
    exact finD (e2 := [(0, .dead), (1, .dead), (2, .dead), (6, .v (.fn 999999 [.bool true])), (7, .v (.int .i64 1)), (8, .dead), (9, .dead), (10, .dead), (11, .dead), (12, .dead), (13, .dead), (20, .dead), (27, .dead), (28, .dead), (29, .dead), (30, .dead), (42, .dead), (43, .dead), (44, .dead), (45, .dead), (46, .dead), (50, .dead), (58, .dead), (69, .dead)]) (ob2 := []) (st' := ⟨[], [(0, .dead), (1, .dead), (2, .dead), (6, .v (.fn 999999 [.bool true])), (7, .v (.int .i64 1)), (8, .dead), (9, .dead), (10, .dead), (11, .dead), (12, .dead), (13, .dead), (20, .dead), (27, .dead), (28, .dead), (29, .dead), (30, .dead), (42, .dead), (43, .dead), (44, .dead), (45, .dead), (46, .dead), (50, .dead), (58, .dead), (69, .dead)], [], 0, []⟩) (.k (.k (.k (.r (.r (.r (.r (.r (.r (.r (.k (.r (.r (.r (.r (.r (.r (.r (.r (.r (.r (.r (.r (.r .nil)))))))))))))))))))))))) .nil (by kernel_rfl) (by simp only [go_sem, qa, qb, qc, qd, qe, qf, qg, qh, qi, qj, qk, ↓reduceIte, resQ_tmp, resQ_cell, resQ_nil, retD_one, retD_two, retD_three, retD_none] <;> first | rfl | exact ⟨rfl, rfl⟩ | (try simp [R.val, retD_one, retD_two, retD_three, retD_none]))
  · have hh := brn_some h; clear h; rcases hh with ⟨h88, h⟩ | ⟨h88, h⟩
    · refine W_sound tab_ok mixed 25 _ _ _ ?_
      simp -implicitDefEqProofs only [go_sem, qa, qb, qc, qd, qe, qf, qg, qh, qi, qj, qk, ↓reduceIte, h83, h86, h88]
      repeat with_reducible refine ⟨by first | kernel_rfl | decide, ?_⟩
      obtain rfl := Option.some.inj h
      exact finD (e2 := [(0, .dead), (1, .dead), (2, .dead), (6, .v (.fn 999999 [.bool true])), (7, .v (.int .i64 1)), (8, .dead), (9, .dead), (10, .dead), (11, .dead), (12, .dead), (13, .dead), (20, .dead), (27, .dead), (28, .dead), (29, .dead), (30, .dead), (42, .dead), (43, .dead), (44, .dead), (45, .dead), (46, .dead), (50, .dead), (58, .dead), (69, .dead)]) (ob2 := []) (st' := ⟨[], [(0, .dead), (1, .dead), (2, .dead), (6, .v (.fn 999999 [.bool true])), (7, .v (.int .i64 1)), (8, .dead), (9, .dead), (10, .dead), (11, .dead), (12, .dead), (13, .dead), (20, .dead), (27, .dead), (28, .dead), (29, .dead), (30, .dead), (42, .dead), (43, .dead), (44, .dead), (45, .dead), (46, .dead), (50, .dead), (58, .dead), (69, .dead)], [], 0, []⟩) (.k (.k (.k (.r (.r (.r (.r (.r (.r (.r (.k (.r (.r (.r (.r (.r (.r (.r (.r (.r (.r (.r (.r (.r .nil)))))))))))))))))))))))) .nil (by kernel_rfl) (by simp only [go_sem, qa, qb, qc, qd, qe, qf, qg, qh, qi, qj, qk, ↓reduceIte, resQ_tmp, resQ_cell, resQ_nil, retD_one, retD_two, retD_three, retD_none] <;> first | rfl | exact ⟨rfl, rfl⟩ | (try simp [R.val, retD_one, retD_two, retD_three, retD_none]))
    · have hh := brn_some h; clear h; rcases hh with ⟨h90, h⟩ | ⟨h90, h⟩
      · refine W_sound tab_ok mixed 34 _ _ _ ?_
        simp -implicitDefEqProofs only [go_sem, qa, qb, qc, qd, qe, qf, qg, qh, qi, qj, qk, ↓reduceIte, h83, h86, h88, h90]
        repeat with_reducible refine ⟨by first | kernel_rfl | decide, ?_⟩
        obtain rfl := Option.some.inj h
        exact finD (e2 := [(0, .dead), (1, .dead), (2, .dead), (6, .v (.fn 999999 [.bool true])), (7, .v (.int .i64 3)), (8, .dead), (9, .dead), (10, .dead), (11, .dead), (12, .dead), (13, .dead), (20, .dead), (27, .dead), (28, .dead), (29, .dead), (30, .dead), (42, .dead), (43, .dead), (44, .dead), (45, .dead), (46, .dead), (50, .dead), (58, .dead), (69, .dead)]) (ob2 := []) (st' := ⟨[], [(0, .dead), (1, .dead), (2, .dead), (6, .v (.fn 999999 [.bool true])), (7, .v (.int .i64 3)), (8, .dead), (9, .dead), (10, .dead), (11, .dead), (12, .dead), (13, .dead), (20, .dead), (27, .dead), (28, .dead), (29, .dead), (30, .dead), (42, .dead), (43, .dead), (44, .dead), (45, .dead), (46, .dead), (50, .dead), (58, .dead), (69, .dead)], [], 0, []⟩) (.k (.k (.k (.r (.r (.r (.r (.r (.r (.r (.k (.k (.r (.r (.r (.r (.r (.r (.r (.r (.r (.r (.r (.r .nil)))))))))))))))))))))))) .nil (by kernel_rfl) (by simp only [go_sem, qa, qb, qc, qd, qe, qf, qg, qh, qi, qj, qk, ↓reduceIte, resQ_tmp, resQ_cell, resQ_nil, retD_one, retD_two, retD_three, retD_none] <;> first | rfl | exact ⟨rfl, rfl⟩ | (try simp [R.val, retD_one, retD_two, retD_three, retD_none]))
      · have hh := bnd'_some h; clear h; obtain ⟨c139, h138, h⟩ := hh
        (try dsimp only at h)
        refine W_sound tab_ok mixed 32 _ _ _ ?_
        simp -implicitDefEqProofs only [go_sem, qa, qb, qc, qd, qe, qf, qg, qh, qi, qj, qk, ↓reduceIte, h83, h86, h88, h90]
        repeat with_reducible refine ⟨by first | kernel_rfl | decide, ?_⟩
        refine Wp_callD [] (c71_a N _ _ h138) rfl rfl rfl (by first | rfl | (simp only [go_sem, qa, qb, qc, qd, qe, qf, qg, qh, qi, qj, qk, ↓reduceIte, h83, h86, h88, h90] <;> rfl)) rfl (by kernel_rfl) ?_
        refine W_sound tab_ok mixed 9 _ _ _ ?_
        simp -implicitDefEqProofs only [go_sem, qa, qb, qc, qd, qe, qf, qg, qh, qi, qj, qk, ↓reduceIte, h83, h86, h88, h90]
        repeat with_reducible refine ⟨by first | kernel_rfl | decide, ?_⟩
        have hh := bnd'_some h; clear h; obtain ⟨o327, h328, h329⟩ := hh
        refine Wp_cut (fun s => ∃ c324, (.inr c324) = o327 ∧ s = ⟨[], [(0, .dead), (1, .dead), (2, .dead), (6, .dead), (7, .dead), (8, .ptr 0 0), (9, .dead), (10, .dead), (11, .dead), (12, .dead), (13, .dead), (20, .dead), (27, .dead), (28, .dead), (29, .dead), (30, .dead), (42, .dead), (43, .dead), (44, .dead), (45, .dead), (46, .dead), (50, .dead), (58, .dead), (69, .dead)], [(0, .p c324)], 1, []⟩) ?_ ?_
        · refine Wp_block ?_
          refine Wp_loopG (fun n s => ∃ x251, ∃ c252, m61_L0 N x80 x82 n84 c85 n x251 c252 = some o327 ∧ s = ⟨[], [(0, .v (.int .i64 x80)), (1, .dead), (2, .v (.int .i64 x82)), (6, .dead), (7, .dead), (8, .ptr 0 0), (9, .dead), (10, .dead), (11, .dead), (12, .dead), (13, .dead), (20, .dead), (27, .v (.lst false n84 c85)), (28, .v (.int .i64 ((n84 : Nat) : Int))), (29, .v (.int .i64 x251)), (30, .dead), (42, .dead), (43, .dead), (44, .dead), (45, .dead), (46, .dead), (50, .dead), (58, .dead), (69, .dead)], [(0, .p c252)], 1, []⟩) N _ ((Wk_le (.r (.k (.r (.k (.k (.r (.r (.r (.r (.r (.k (.k (.r (.r (.r (.r (.r (.r (.r (.r (.r (.r (.r (.r .nil)))))))))))))))))))))))) (OLe.refl _)).trans (cmpS_ok (st' := ⟨[], [(0, .v (.int .i64 x80)), (1, .dead), (2, .v (.int .i64 x82)), (6, .dead), (7, .dead), (8, .ptr 0 0), (9, .dead), (10, .dead), (11, .dead), (12, .dead), (13, .dead), (20, .dead), (27, .v (.lst false n84 c85)), (28, .v (.int .i64 ((n84 : Nat) : Int))), (29, .v (.int .i64 0)), (30, .dead), (42, .dead), (43, .dead), (44, .dead), (45, .dead), (46, .dead), (50, .dead), (58, .dead), (69, .dead)], [(0, .p c139)], 1, []⟩) (by kernel_rfl))) ⟨_, _, h328, rfl⟩ ?_
          clear h328
          rintro n _ ⟨x251, c252, h328, rfl⟩
          cases n with
          | zero => cases h328
          | succ n =>
            rw [m61_L0] at h328
            have hh := brn_some h328; clear h328; rcases hh with ⟨h253, h328⟩ | ⟨h253, h328⟩
            · have hh := grd_some h328; clear h328; obtain ⟨⟨g254, g255⟩, h328⟩ := hh
              have hh := grd_some h328; clear h328; obtain ⟨g256, h328⟩ := hh
              have hh := getL_some h328; clear h328; obtain ⟨n258, c259, h257, h328⟩ := hh
              have hh := brn_some h328; clear h328; rcases hh with ⟨h260, h328⟩ | ⟨h260, h328⟩
              · refine W_sound tab_ok mixed 38 _ _ _ ?_
                simp -implicitDefEqProofs only [go_sem, qa, qb, qc, qd, qe, qf, qg, qh, qi, qj, qk, ↓reduceIte, h83, h86, h88, h90, h253, g254, g255, g256, h257, h260]
                repeat with_reducible refine ⟨by first | kernel_rfl | decide, ?_⟩
                obtain rfl := Option.some.inj h328
                (try dsimp only at h329)
                obtain rfl := Option.some.inj h329
                exact finD (e2 := [(0, .dead), (1, .dead), (2, .dead), (6, .v (.fn 999999 [.bool true])), (7, .v (.int .i64 5)), (8, .dead), (9, .dead), (10, .dead), (11, .dead), (12, .dead), (13, .dead), (20, .dead), (27, .dead), (28, .dead), (29, .dead), (30, .dead), (42, .dead), (43, .dead), (44, .dead), (45, .dead), (46, .dead), (50, .dead), (58, .dead), (69, .dead)]) (ob2 := [(0, .p c252)]) (st' := ⟨[], [(0, .dead), (1, .dead), (2, .dead), (6, .v (.fn 999999 [.bool true])), (7, .v (.int .i64 5)), (8, .dead), (9, .dead), (10, .dead), (11, .dead), (12, .dead), (13, .dead), (20, .dead), (27, .dead), (28, .dead), (29, .dead), (30, .dead), (42, .dead), (43, .dead), (44, .dead), (45, .dead), (46, .dead), (50, .dead), (58, .dead), (69, .dead)], [], 0, []⟩) (.k (.r (.k (.r (.r (.k (.k (.k (.r (.r (.r (.r (.k (.k (.k (.k (.k (.r (.r (.r (.r (.r (.r (.r .nil)))))))))))))))))))))))) (.cons _ _ _ _ _ (DLes.refl _) .nil) (by kernel_rfl) (by simp only [go_sem, qa, qb, qc, qd, qe, qf, qg, qh, qi, qj, qk, ↓reduceIte, resQ_tmp, resQ_cell, resQ_nil, retD_one, retD_two, retD_three, retD_none] <;> first | rfl | exact ⟨rfl, rfl⟩ | (try simp [R.val, retD_one, retD_two, retD_three, retD_none]))
              · have hh := brn_some h328; clear h328; rcases hh with ⟨h262, h328⟩ | ⟨h262, h328⟩
                · refine W_sound tab_ok mixed 38 _ _ _ ?_
                  simp -implicitDefEqProofs only [go_sem, qa, qb, qc, qd, qe, qf, qg, qh, qi, qj, qk, ↓reduceIte, h83, h86, h88, h90, h253, g254, g255, g256, h257, h260, h262]
                  repeat with_reducible refine ⟨by first | kernel_rfl | decide, ?_⟩
                  obtain rfl := Option.some.inj h328
                  (try dsimp only at h329)
                  obtain rfl := Option.some.inj h329
                  exact finD (e2 := [(0, .dead), (1, .dead), (2, .dead), (6, .v (.fn 999999 [.bool true])), (7, .v (.int .i64 5)), (8, .dead), (9, .dead), (10, .dead), (11, .dead), (12, .dead), (13, .dead), (20, .dead), (27, .dead), (28, .dead), (29, .dead), (30, .dead), (42, .dead), (43, .dead), (44, .dead), (45, .dead), (46, .dead), (50, .dead), (58, .dead), (69, .dead)]) (ob2 := [(0, .p c252)]) (st' := ⟨[], [(0, .dead), (1, .dead), (2, .dead), (6, .v (.fn 999999 [.bool true])), (7, .v (.int .i64 5)), (8, .dead), (9, .dead), (10, .dead), (11, .dead), (12, .dead), (13, .dead), (20, .dead), (27, .dead), (28, .dead), (29, .dead), (30, .dead), (42, .dead), (43, .dead), (44, .dead), (45, .dead), (46, .dead), (50, .dead), (58, .dead), (69, .dead)], [], 0, []⟩) (.k (.r (.k (.r (.r (.k (.k (.k (.r (.r (.r (.r (.k (.k (.k (.k (.k (.r (.r (.r (.r (.r (.r (.r .nil)))))))))))))))))))))))) (.cons _ _ _ _ _ (DLes.refl _) .nil) (by kernel_rfl) (by simp only [go_sem, qa, qb, qc, qd, qe, qf, qg, qh, qi, qj, qk, ↓reduceIte, resQ_tmp, resQ_cell, resQ_nil, retD_one, retD_two, retD_three, retD_none] <;> first | rfl | exact ⟨rfl, rfl⟩ | (try simp [R.val, retD_one, retD_two, retD_three, retD_none]))
                · refine W_sound tab_ok mixed 38 _ _ _ ?_
                  simp -implicitDefEqProofs only [go_sem, qa, qb, qc, qd, qe, qf, qg, qh, qi, qj, qk, ↓reduceIte, h83, h86, h88, h90, h253, g254, g255, g256, h257, h260, h262]
                  repeat with_reducible refine ⟨by first | kernel_rfl | decide, ?_⟩
                  have hh := bnd'_some h328; clear h328; obtain ⟨o330, h331, h332⟩ := hh
                  refine Wp_cut (fun s => ∃ c322, (.inr c322) = o330 ∧ s = ⟨[], [(0, .v (.int .i64 x80)), (1, .dead), (2, .v (.int .i64 x82)), (6, .dead), (7, .dead), (8, .ptr 0 0), (9, .dead), (10, .dead), (11, .dead), (12, .dead), (13, .dead), (20, .dead), (27, .v (.lst false n84 c85)), (28, .v (.int .i64 ((n84 : Nat) : Int))), (29, .v (.int .i64 x251)), (30, .dead), (42, .dead), (43, .dead), (44, .dead), (45, .dead), (46, .dead), (50, .dead), (58, .dead), (69, .dead)], [(0, .p c322)], 1, []⟩) ?_ ?_
                  · refine Wp_block ?_
                    refine Wp_loopG (fun n s => ∃ x292, ∃ c293, m61_L1 N x80 x82 n84 c85 x251 n258 c259 n x292 c293 = some o330 ∧ s = ⟨[], [(0, .v (.int .i64 x80)), (1, .dead), (2, .v (.int .i64 x82)), (6, .dead), (7, .dead), (8, .ptr 0 0), (9, .v (.int .i64 x251)), (10, .dead), (11, .dead), (12, .dead), (13, .dead), (20, .dead), (27, .v (.lst false n84 c85)), (28, .v (.int .i64 ((n84 : Nat) : Int))), (29, .v (.int .i64 x251)), (30, .dead), (42, .dead), (43, .v (.lst false n258 c259)), (44, .v (.int .i64 ((n258 : Nat) : Int))), (45, .v (.int .i64 x292)), (46, .dead), (50, .dead), (58, .dead), (69, .dead)], [(0, .p c293)], 1, []⟩) N _ ((Wk_le (.r (.r (.r (.r (.r (.r (.r (.k (.r (.r (.r (.r (.r (.r (.r (.k (.k (.r (.r (.r (.r (.r (.r (.r .nil)))))))))))))))))))))))) (OLe.refl _)).trans (cmpS_ok (st' := ⟨[], [(0, .v (.int .i64 x80)), (1, .dead), (2, .v (.int .i64 x82)), (6, .dead), (7, .dead), (8, .ptr 0 0), (9, .v (.int .i64 x251)), (10, .dead), (11, .dead), (12, .dead), (13, .dead), (20, .dead), (27, .v (.lst false n84 c85)), (28, .v (.int .i64 ((n84 : Nat) : Int))), (29, .v (.int .i64 x251)), (30, .dead), (42, .dead), (43, .v (.lst false n258 c259)), (44, .v (.int .i64 ((n258 : Nat) : Int))), (45, .v (.int .i64 0)), (46, .dead), (50, .dead), (58, .dead), (69, .dead)], [(0, .p c252)], 1, []⟩) (by kernel_rfl))) ⟨_, _, h331, rfl⟩ ?_
                    clear h331
                    rintro n _ ⟨x292, c293, h331, rfl⟩
                    cases n with
                    | zero => cases h331
                    | succ n =>
                      rw [m61_L1] at h331
                      have hh := brn_some h331; clear h331; rcases hh with ⟨h294, h331⟩ | ⟨h294, h331⟩
                      · have hh := grd_some h331; clear h331; obtain ⟨⟨g295, g296⟩, h331⟩ := hh
                        have hh := grd_some h331; clear h331; obtain ⟨g297, h331⟩ := hh
                        have hh := getI_some h331; clear h331; obtain ⟨x299, h298, h331⟩ := hh
                        have hh := brn_some h331; clear h331; rcases hh with ⟨h300, h331⟩ | ⟨h300, h331⟩
                        · refine W_sound tab_ok mixed 38 _ _ _ ?_
                          simp -implicitDefEqProofs only [go_sem, qa, qb, qc, qd, qe, qf, qg, qh, qi, qj, qk, ↓reduceIte, h83, h86, h88, h90, h253, g254, g255, g256, h257, h260, h262, h294, g295, g296, g297, h298, h300]
                          repeat with_reducible refine ⟨by first | kernel_rfl | decide, ?_⟩
                          obtain rfl := Option.some.inj h331
                          (try dsimp only at h332)
                          obtain rfl := Option.some.inj h332
                          (try dsimp only at h329)
                          obtain rfl := Option.some.inj h329
                          exact finD (e2 := [(0, .dead), (1, .dead), (2, .dead), (6, .v (.fn 999999 [.bool true])), (7, .v (.int .i64 2)), (8, .dead), (9, .dead), (10, .dead), (11, .dead), (12, .dead), (13, .dead), (20, .dead), (27, .dead), (28, .dead), (29, .dead), (30, .dead), (42, .dead), (43, .dead), (44, .dead), (45, .dead), (46, .dead), (50, .dead), (58, .dead), (69, .dead)]) (ob2 := [(0, .p c293)]) (st' := ⟨[], [(0, .dead), (1, .dead), (2, .dead), (6, .v (.fn 999999 [.bool true])), (7, .v (.int .i64 2)), (8, .dead), (9, .dead), (10, .dead), (11, .dead), (12, .dead), (13, .dead), (20, .dead), (27, .dead), (28, .dead), (29, .dead), (30, .dead), (42, .dead), (43, .dead), (44, .dead), (45, .dead), (46, .dead), (50, .dead), (58, .dead), (69, .dead)], [], 0, []⟩) (.k (.r (.k (.r (.r (.k (.k (.r (.k (.k (.r (.r (.k (.k (.k (.r (.r (.k (.k (.k (.k (.k (.r (.r .nil)))))))))))))))))))))))) (.cons _ _ _ _ _ (DLes.refl _) .nil) (by kernel_rfl) (by simp only [go_sem, qa, qb, qc, qd, qe, qf, qg, qh, qi, qj, qk, ↓reduceIte, resQ_tmp, resQ_cell, resQ_nil, retD_one, retD_two, retD_three, retD_none] <;> first | rfl | exact ⟨rfl, rfl⟩ | (try simp [R.val, retD_one, retD_two, retD_three, retD_none]))
                        · have hh := brn_some h331; clear h331; rcases hh with ⟨h302, h331⟩ | ⟨h302, h331⟩
                          · refine W_sound tab_ok mixed 38 _ _ _ ?_
                            simp -implicitDefEqProofs only [go_sem, qa, qb, qc, qd, qe, qf, qg, qh, qi, qj, qk, ↓reduceIte, h83, h86, h88, h90, h253, g254, g255, g256, h257, h260, h262, h294, g295, g296, g297, h298, h300, h302]
                            repeat with_reducible refine ⟨by first | kernel_rfl | decide, ?_⟩
                            obtain rfl := Option.some.inj h331
                            (try dsimp only at h332)
                            obtain rfl := Option.some.inj h332
                            (try dsimp only at h329)
                            obtain rfl := Option.some.inj h329
                            exact finD (e2 := [(0, .dead), (1, .dead), (2, .dead), (6, .v (.fn 999999 [.bool true])), (7, .v (.int .i64 2)), (8, .dead), (9, .dead), (10, .dead), (11, .dead), (12, .dead), (13, .dead), (20, .dead), (27, .dead), (28, .dead), (29, .dead), (30, .dead), (42, .dead), (43, .dead), (44, .dead), (45, .dead), (46, .dead), (50, .dead), (58, .dead), (69, .dead)]) (ob2 := [(0, .p c293)]) (st' := ⟨[], [(0, .dead), (1, .dead), (2, .dead), (6, .v (.fn 999999 [.bool true])), (7, .v (.int .i64 2)), (8, .dead), (9, .dead), (10, .dead), (11, .dead), (12, .dead), (13, .dead), (20, .dead), (27, .dead), (28, .dead), (29, .dead), (30, .dead), (42, .dead), (43, .dead), (44, .dead), (45, .dead), (46, .dead), (50, .dead), (58, .dead), (69, .dead)], [], 0, []⟩) (.k (.r (.k (.r (.r (.k (.k (.r (.k (.k (.r (.r (.k (.k (.k (.r (.r (.k (.k (.k (.k (.k (.r (.r .nil)))))))))))))))))))))))) (.cons _ _ _ _ _ (DLes.refl _) .nil) (by kernel_rfl) (by simp only [go_sem, qa, qb, qc, qd, qe, qf, qg, qh, qi, qj, qk, ↓reduceIte, resQ_tmp, resQ_cell, resQ_nil, retD_one, retD_two, retD_three, retD_none] <;> first | rfl | exact ⟨rfl, rfl⟩ | (try simp [R.val, retD_one, retD_two, retD_three, retD_none]))
                          · have hh := grd_some h331; clear h331; obtain ⟨g304, h331⟩ := hh
                            have hh := grd_some h331; clear h331; obtain ⟨g305, h331⟩ := hh
                            have hh := getI_some h331; clear h331; obtain ⟨x307, h306, h331⟩ := hh
                            have hh := grd_some h331; clear h331; obtain ⟨g308, h331⟩ := hh
                            have hh := brn_some h331; clear h331; rcases hh with ⟨h309, h331⟩ | ⟨h309, h331⟩
                            · refine W_sound tab_ok mixed 53 _ _ _ ?_
                              simp -implicitDefEqProofs only [go_sem, qa, qb, qc, qd, qe, qf, qg, qh, qi, qj, qk, ↓reduceIte, h83, h86, h88, h90, h253, g254, g255, g256, h257, h260, h262, h294, g295, g296, g297, h298, h300, h302, g304, g305, h306, g308, h309]
                              repeat with_reducible refine ⟨by first | kernel_rfl | decide, ?_⟩
                              obtain rfl := Option.some.inj h331
                              (try dsimp only at h332)
                              obtain rfl := Option.some.inj h332
                              (try dsimp only at h329)
                              obtain rfl := Option.some.inj h329
                              exact finD (e2 := [(0, .dead), (1, .dead), (2, .dead), (6, .v (.fn 999999 [.bool true])), (7, .v (.int .i64 6)), (8, .dead), (9, .dead), (10, .dead), (11, .dead), (12, .dead), (13, .dead), (20, .dead), (27, .dead), (28, .dead), (29, .dead), (30, .dead), (42, .dead), (43, .dead), (44, .dead), (45, .dead), (46, .dead), (50, .dead), (58, .dead), (69, .dead)]) (ob2 := [(0, .p c293)]) (st' := ⟨[], [(0, .dead), (1, .dead), (2, .dead), (6, .v (.fn 999999 [.bool true])), (7, .v (.int .i64 6)), (8, .dead), (9, .dead), (10, .dead), (11, .dead), (12, .dead), (13, .dead), (20, .dead), (27, .dead), (28, .dead), (29, .dead), (30, .dead), (42, .dead), (43, .dead), (44, .dead), (45, .dead), (46, .dead), (50, .dead), (58, .dead), (69, .dead)], [], 0, []⟩) (.k (.r (.k (.r (.r (.k (.k (.r (.k (.k (.r (.r (.k (.k (.k (.r (.r (.k (.k (.k (.k (.k (.k (.r .nil)))))))))))))))))))))))) (.cons _ _ _ _ _ (DLes.refl _) .nil) (by kernel_rfl) (by simp only [go_sem, qa, qb, qc, qd, qe, qf, qg, qh, qi, qj, qk, ↓reduceIte, resQ_tmp, resQ_cell, resQ_nil, retD_one, retD_two, retD_three, retD_none] <;> first | rfl | exact ⟨rfl, rfl⟩ | (try simp [R.val, retD_one, retD_two, retD_three, retD_none]))
                            · have hh := grd_some h331; clear h331; obtain ⟨g311, h331⟩ := hh
                              have hh := grd_some h331; clear h331; obtain ⟨g312, h331⟩ := hh
                              have hh := getI_some h331; clear h331; obtain ⟨x314, h313, h331⟩ := hh
                              have hh := brn_some h331; clear h331; rcases hh with ⟨h315, h331⟩ | ⟨h315, h331⟩
                              · refine W_sound tab_ok mixed 68 _ _ _ ?_
                                simp -implicitDefEqProofs only [go_sem, qa, qb, qc, qd, qe, qf, qg, qh, qi, qj, qk, ↓reduceIte, h83, h86, h88, h90, h253, g254, g255, g256, h257, h260, h262, h294, g295, g296, g297, h298, h300, h302, g304, g305, h306, g308, h309, g311, g312, h313, h315]
                                repeat with_reducible refine ⟨by first | kernel_rfl | decide, ?_⟩
                                obtain rfl := Option.some.inj h331
                                (try dsimp only at h332)
                                obtain rfl := Option.some.inj h332
                                (try dsimp only at h329)
                                obtain rfl := Option.some.inj h329
                                exact finD (e2 := [(0, .dead), (1, .dead), (2, .dead), (6, .v (.fn 999999 [.bool true])), (7, .v (.int .i64 13)), (8, .dead), (9, .dead), (10, .dead), (11, .dead), (12, .dead), (13, .dead), (20, .dead), (27, .dead), (28, .dead), (29, .dead), (30, .dead), (42, .dead), (43, .dead), (44, .dead), (45, .dead), (46, .dead), (50, .dead), (58, .dead), (69, .dead)]) (ob2 := [(0, .p c293)]) (st' := ⟨[], [(0, .dead), (1, .dead), (2, .dead), (6, .v (.fn 999999 [.bool true])), (7, .v (.int .i64 13)), (8, .dead), (9, .dead), (10, .dead), (11, .dead), (12, .dead), (13, .dead), (20, .dead), (27, .dead), (28, .dead), (29, .dead), (30, .dead), (42, .dead), (43, .dead), (44, .dead), (45, .dead), (46, .dead), (50, .dead), (58, .dead), (69, .dead)], [], 0, []⟩) (.k (.r (.k (.r (.r (.k (.k (.r (.k (.k (.r (.r (.k (.k (.k (.r (.r (.k (.k (.k (.k (.k (.k (.k .nil)))))))))))))))))))))))) (.cons _ _ _ _ _ (DLes.refl _) .nil) (by kernel_rfl) (by simp only [go_sem, qa, qb, qc, qd, qe, qf, qg, qh, qi, qj, qk, ↓reduceIte, resQ_tmp, resQ_cell, resQ_nil, retD_one, retD_two, retD_three, retD_none] <;> first | rfl | exact ⟨rfl, rfl⟩ | (try simp [R.val, retD_one, retD_two, retD_three, retD_none]))
                              · have hh := bnd'_some h331; clear h331; obtain ⟨⟨p317, c319⟩, h318, h331⟩ := hh
                                (try dsimp only at h331)
                                refine W_sound tab_ok mixed 68 _ _ _ ?_
                                simp -implicitDefEqProofs only [go_sem, qa, qb, qc, qd, qe, qf, qg, qh, qi, qj, qk, ↓reduceIte, h83, h86, h88, h90, h253, g254, g255, g256, h257, h260, h262, h294, g295, g296, g297, h298, h300, h302, g304, g305, h306, g308, h309, g311, g312, h313, h315]
                                repeat with_reducible refine ⟨by first | kernel_rfl | decide, ?_⟩
                                refine Wp_callD [0] (c72 N _ _ _ _ _ _ h318) rfl rfl rfl (by first | rfl | (simp only [go_sem, qa, qb, qc, qd, qe, qf, qg, qh, qi, qj, qk, ↓reduceIte, h83, h86, h88, h90, h253, g254, g255, g256, h257, h260, h262, h294, g295, g296, g297, h298, h300, h302, g304, g305, h306, g308, h309, g311, g312, h313, h315] <;> rfl)) rfl (by kernel_rfl) ?_
                                have hh := getT0_some h331; clear h331; obtain ⟨h320, h331⟩ := hh
                                refine W_sound tab_ok mixed 6 _ _ _ ?_
                                simp -implicitDefEqProofs only [go_sem, qa, qb, qc, qd, qe, qf, qg, qh, qi, qj, qk, ↓reduceIte, h83, h86, h88, h90, h253, g254, g255, g256, h257, h260, h262, h294, g295, g296, g297, h298, h300, h302, g304, g305, h306, g308, h309, g311, g312, h313, h315, h320]
                                repeat with_reducible refine ⟨by first | kernel_rfl | decide, ?_⟩
                                exact cutQ _ ((Wk_le (.r (.r (.r (.r (.r (.r (.r (.r (.k (.k (.r (.r (.r (.r (.r (.r (.r (.r (.r (.r (.k (.k (.k (.k .nil)))))))))))))))))))))))) (OLe.refl _)).trans (cmpS_ok (st' := ⟨[], [(0, .v (.int .i64 x80)), (1, .dead), (2, .v (.int .i64 x82)), (6, .dead), (7, .dead), (8, .ptr 0 0), (9, .v (.int .i64 x251)), (10, .dead), (11, .dead), (12, .dead), (13, .dead), (20, .dead), (27, .v (.lst false n84 c85)), (28, .v (.int .i64 ((n84 : Nat) : Int))), (29, .v (.int .i64 x251)), (30, .dead), (42, .dead), (43, .v (.lst false n258 c259)), (44, .v (.int .i64 ((n258 : Nat) : Int))), (45, .v (.int .i64 (IntKind.i64.wrap (x292 + 1)))), (46, .dead), (50, .dead), (58, .dead), (69, .dead)], [(0, .p c319)], 1, []⟩) (by kernel_rfl))) ⟨n, Nat.lt_succ_self n, _, _, h331, rfl⟩
                      · refine W_sound tab_ok mixed 7 _ _ _ ?_
                        simp -implicitDefEqProofs only [go_sem, qa, qb, qc, qd, qe, qf, qg, qh, qi, qj, qk, ↓reduceIte, h83, h86, h88, h90, h253, g254, g255, g256, h257, h260, h262, h294]
                        repeat with_reducible refine ⟨by first | kernel_rfl | decide, ?_⟩
                        obtain rfl := Option.some.inj h331
                        exact cutQ _ ((Wk_le (.r (.r (.r (.r (.r (.r (.k (.r (.r (.r (.r (.r (.r (.r (.r (.r (.r (.k (.k (.k (.k (.r (.r (.r .nil)))))))))))))))))))))))) (OLe.refl _)).trans (cmpS_ok (st' := ⟨[], [(0, .v (.int .i64 x80)), (1, .dead), (2, .v (.int .i64 x82)), (6, .dead), (7, .dead), (8, .ptr 0 0), (9, .dead), (10, .dead), (11, .dead), (12, .dead), (13, .dead), (20, .dead), (27, .v (.lst false n84 c85)), (28, .v (.int .i64 ((n84 : Nat) : Int))), (29, .v (.int .i64 x251)), (30, .dead), (42, .dead), (43, .dead), (44, .dead), (45, .dead), (46, .dead), (50, .dead), (58, .dead), (69, .dead)], [(0, .p c293)], 1, []⟩) (by kernel_rfl))) ⟨_, rfl, rfl⟩
                  · rintro _ ⟨c322, rfl, rfl⟩
                    (try dsimp only at h332)
                    refine W_sound tab_ok mixed 5 _ _ _ ?_
                    simp -implicitDefEqProofs only [go_sem, qa, qb, qc, qd, qe, qf, qg, qh, qi, qj, qk, ↓reduceIte, h83, h86, h88, h90, h253, g254, g255, g256, h257, h260, h262]
                    repeat with_reducible refine ⟨by first | kernel_rfl | decide, ?_⟩
                    exact cutQ _ ((Wk_le (.r (.r (.r (.r (.r (.r (.r (.r (.r (.r (.r (.r (.r (.r (.r (.r (.r (.r (.r (.r (.r (.r (.r (.r .nil)))))))))))))))))))))))) (OLe.refl _)).trans (cmpS_ok (st' := ⟨[], [(0, .v (.int .i64 x80)), (1, .dead), (2, .v (.int .i64 x82)), (6, .dead), (7, .dead), (8, .ptr 0 0), (9, .dead), (10, .dead), (11, .dead), (12, .dead), (13, .dead), (20, .dead), (27, .v (.lst false n84 c85)), (28, .v (.int .i64 ((n84 : Nat) : Int))), (29, .v (.int .i64 (IntKind.i64.wrap (x251 + 1)))), (30, .dead), (42, .dead), (43, .dead), (44, .dead), (45, .dead), (46, .dead), (50, .dead), (58, .dead), (69, .dead)], [(0, .p c322)], 1, []⟩) (by kernel_rfl))) ⟨n, Nat.lt_succ_self n, _, _, h332, rfl⟩
            · refine W_sound tab_ok mixed 7 _ _ _ ?_
              simp -implicitDefEqProofs only [go_sem, qa, qb, qc, qd, qe, qf, qg, qh, qi, qj, qk, ↓reduceIte, h83, h86, h88, h90, h253]
              repeat with_reducible refine ⟨by first | kernel_rfl | decide, ?_⟩
              obtain rfl := Option.some.inj h328
              exact cutQ _ ((Wk_le (.k (.r (.k (.r (.r (.r (.r (.r (.r (.r (.r (.r (.k (.k (.k (.k (.r (.r (.r (.r (.r (.r (.r (.r .nil)))))))))))))))))))))))) (OLe.refl _)).trans (cmpS_ok (st' := ⟨[], [(0, .dead), (1, .dead), (2, .dead), (6, .dead), (7, .dead), (8, .ptr 0 0), (9, .dead), (10, .dead), (11, .dead), (12, .dead), (13, .dead), (20, .dead), (27, .dead), (28, .dead), (29, .dead), (30, .dead), (42, .dead), (43, .dead), (44, .dead), (45, .dead), (46, .dead), (50, .dead), (58, .dead), (69, .dead)], [(0, .p c252)], 1, []⟩) (by kernel_rfl))) ⟨_, rfl, rfl⟩
        · rintro _ ⟨c324, rfl, rfl⟩
          (try dsimp only at h329)
          refine W_sound tab_ok mixed 8 _ _ _ ?_
          simp -implicitDefEqProofs only [go_sem, qa, qb, qc, qd, qe, qf, qg, qh, qi, qj, qk, ↓reduceIte, h83, h86, h88, h90]
          repeat with_reducible refine ⟨by first | kernel_rfl | decide, ?_⟩
          obtain rfl := Option.some.inj h329
          exact finD (e2 := [(0, .dead), (1, .dead), (2, .dead), (6, .ptr 0 0), (7, .v (.int .i64 0)), (8, .dead), (9, .dead), (10, .dead), (11, .dead), (12, .dead), (13, .dead), (20, .dead), (27, .dead), (28, .dead), (29, .dead), (30, .dead), (42, .dead), (43, .dead), (44, .dead), (45, .dead), (46, .dead), (50, .dead), (58, .dead), (69, .dead)]) (ob2 := [(0, .p c324)]) (st' := ⟨[], [(0, .dead), (1, .dead), (2, .dead), (6, .ptr 0 0), (7, .v (.int .i64 0)), (8, .dead), (9, .dead), (10, .dead), (11, .dead), (12, .dead), (13, .dead), (20, .dead), (27, .dead), (28, .dead), (29, .dead), (30, .dead), (42, .dead), (43, .dead), (44, .dead), (45, .dead), (46, .dead), (50, .dead), (58, .dead), (69, .dead)], [(0, .p c324)], 1, []⟩) (.r (.r (.r (.r (.r (.k (.r (.r (.r (.r (.r (.r (.r (.r (.r (.r (.r (.r (.r (.r (.r (.r (.r (.r .nil)))))))))))))))))))))))) (.cons _ _ _ _ _ (DLes.refl _) .nil) (by kernel_rfl) (by simp only [go_sem, qa, qb, qc, qd, qe, qf, qg, qh, qi, qj, qk, ↓reduceIte, resQ_tmp, resQ_cell, resQ_nil, retD_one, retD_two, retD_three, retD_none] <;> first | rfl | exact ⟨rfl, rfl⟩ | (try simp [R.val, retD_one, retD_two, retD_three, retD_none]))
theorem c61_a (N : Nat) (x80 : Int) (p81 : PV) (x82 : Int) (x87 : Int) (h : m61 N x80 p81 x82 = some (.inl x87)) : V.Fn Tryd.prog 61 0 [.v (.int .i64 x80), .v p81, .v (.int .i64 x82)] [] (fun d ob' => d = .v (.tup [(.fn 999999 [.bool true]), (.int .i64 x87)]) ∧ ob' = []) := c61 N x80 p81 x82 _ h
theorem c61_b (N : Nat) (x80 : Int) (p81 : PV) (x82 : Int) (x325 : Int) (c326 : List PV) (h : m61 N x80 p81 x82 = some (.inr (x325, c326))) : V.Fn Tryd.prog 61 0 [.v (.int .i64 x80), .v p81, .v (.int .i64 x82)] [] (fun d ob' => d = .tup [.ptr 0 0, .v (.int .i64 x325)] ∧ ob' = [(0, .p c326)]) := c61 N x80 p81 x82 _ h
def m23 (N : Nat) (x75 : Int) (p76 : PV) : Option (PV) :=
  getL p76 fun n78 c79 =>
  bnd' (m61 N x75 (.lst false n78 c79) x75) fun o =>
  match o with
  | .inl x334 =>
    some (.int .i64 x334)
  | .inr (x335, c336) =>
    some (.int .i64 x335)
theorem c23 (N : Nat) (x75 : Int) (p76 : PV) (r : PV)  (h : m23 N x75 p76 = some r) : FnP Tryd.prog 23 [(.int .i64 x75), p76] r := by
  unfold m23 at h
  refine Fn_of (sz := 15) tab_ok [0, 1, 4, 6] [.tmp 4] Tryd.func23 rfl rfl rfl (by simp) ?_
  simp only [initSt, initEnv, List.map_cons, List.map_nil, List.getD_cons_zero, List.getD_cons_succ, List.getD_nil]
  have hh := getL_some h; clear h; obtain ⟨n78, c79, h77, h⟩ := hh
  have hh := bnd'_some h; clear h; obtain ⟨oo, h333, h⟩ := hh
  rcases oo with x334 | ⟨x335, c336⟩
  · (try dsimp only at h)
    refine W_sound tab_ok mixed 9 _ _ _ ?_
    simp -implicitDefEqProofs only [go_sem, qa, qb, qc, qd, qe, qf, qg, qh, qi, qj, qk, ↓reduceIte, h77]
    repeat with_reducible refine ⟨by first | kernel_rfl | decide, ?_⟩
    refine Wp_callD [] (c61_a N _ _ _ _ h333) rfl rfl rfl (by first | rfl | (simp only [go_sem, qa, qb, qc, qd, qe, qf, qg, qh, qi, qj, qk, ↓reduceIte, h77] <;> rfl)) rfl (by kernel_rfl) ?_
    refine W_sound tab_ok mixed 13 _ _ _ ?_
    simp -implicitDefEqProofs only [go_sem, qa, qb, qc, qd, qe, qf, qg, qh, qi, qj, qk, ↓reduceIte, h77]
    repeat with_reducible refine ⟨by first | kernel_rfl | decide, ?_⟩
    obtain rfl := Option.some.inj h
    exact finC [(4, .v (.int .i64 x334))] [(4, .v (.int .i64 x334))] (by simp [leE, lk_cons]) (.cons _ _ _ _ _ (.v _ _ (.refl _)) .nil) (by rfl) (by simp [leE, lk_cons]) (by decide) (by decide) rfl (by simp only [go_sem, qa, qb, qc, qd, qe, qf, qg, qh, qi, qj, qk, ↓reduceIte, resQ_tmp, resQ_cell, resQ_nil, retD_one, retD_two, retD_three, retD_none]; try simp [R.val, retD_one, retD_two, retD_three, retD_none])
  · (try dsimp only at h)
    refine W_sound tab_ok mixed 9 _ _ _ ?_
    simp -implicitDefEqProofs only [go_sem, qa, qb, qc, qd, qe, qf, qg, qh, qi, qj, qk, ↓reduceIte, h77]
    repeat with_reducible refine ⟨by first | kernel_rfl | decide, ?_⟩
    refine Wp_callD [] (c61_b N _ _ _ _ _ h333) rfl rfl rfl (by first | rfl | (simp only [go_sem, qa, qb, qc, qd, qe, qf, qg, qh, qi, qj, qk, ↓reduceIte, h77] <;> rfl)) rfl (by kernel_rfl) ?_
    refine W_sound tab_ok mixed 13 _ _ _ ?_
    simp -implicitDefEqProofs only [go_sem, qa, qb, qc, qd, qe, qf, qg, qh, qi, qj, qk, ↓reduceIte, h77]
    repeat with_reducible refine ⟨by first | kernel_rfl | decide, ?_⟩
    obtain rfl := Option.some.inj h
    exact finC [(4, .v (.int .i64 x335))] [(4, .v (.int .i64 x335))] (by simp [leE, lk_cons]) (.cons _ _ _ _ _ (.v _ _ (.refl _)) .nil) (by rfl) (by simp [leE, lk_cons]) (by decide) (by decide) rfl (by simp only [go_sem, qa, qb, qc, qd, qe, qf, qg, qh, qi, qj, qk, ↓reduceIte, resQ_tmp, resQ_cell, resQ_nil, retD_one, retD_two, retD_three, retD_none]; try simp [R.val, retD_one, retD_two, retD_three, retD_none])
def m96 (N : Nat) (x363 : Int) : Option (PV) :=
  brn (x363 == 0) (
    some (.int .i64 64)) (
    grd (0 ≤ (Int.fdiv (IntKind.u64.wrap ((bitsI .and .u64 x363 (IntKind.u64.wrap (0 - x363))) * 285870213051353865)) (2 ^ (min 58 64))) ∧ (Int.fdiv (IntKind.u64.wrap ((bitsI .and .u64 x363 (IntKind.u64.wrap (0 - x363))) * 285870213051353865)) (2 ^ (min 58 64))) < 64) <|
    grd (0 < List.length (List.drop (Int.toNat (Int.fdiv (IntKind.u64.wrap ((bitsI .and .u64 x363 (IntKind.u64.wrap (0 - x363))) * 285870213051353865)) (2 ^ (min 58 64)))) gv1)) <|
    getI .u8 (gp gv1 (Int.toNat (Int.fdiv (IntKind.u64.wrap ((bitsI .and .u64 x363 (IntKind.u64.wrap (0 - x363))) * 285870213051353865)) (2 ^ (min 58 64))))) fun x369 =>
    some (.int .i64 (IntKind.i64.wrap x369)))
theorem c96 (N : Nat) (x363 : Int) (r : PV)  (h : m96 N x363 = some r) : FnP Tryd.prog 96 [(.int .u64 x363)] r := by
  unfold m96 at h
  refine Fn_of (sz := 14) tab_ok [0, 2, 4] [.tmp 2] Tryd.func96 rfl rfl rfl (by simp) ?_
  simp only [initSt, initEnv, List.map_cons, List.map_nil, List.getD_cons_zero, List.getD_cons_succ, List.getD_nil]
  have hh := brn_some h; clear h; rcases hh with ⟨h364, h⟩ | ⟨h364, h⟩
  · refine W_sound tab_ok mixed 17 _ _ _ ?_
    simp -implicitDefEqProofs only [go_sem, qa, qb, qc, qd, qe, qf, qg, qh, qi, qj, qk, ↓reduceIte, h364]
    repeat with_reducible refine ⟨by first | kernel_rfl | decide, ?_⟩
    obtain rfl := Option.some.inj h
    exact finC [(2, .v (.int .i64 64))] [(2, .v (.int .i64 64))] (by simp [leE, lk_cons]) (.cons _ _ _ _ _ (.v _ _ (.refl _)) .nil) (by rfl) (by simp [leE, lk_cons]) (by decide) (by decide) rfl (by simp only [go_sem, qa, qb, qc, qd, qe, qf, qg, qh, qi, qj, qk, ↓reduceIte, resQ_tmp, resQ_cell, resQ_nil, retD_one, retD_two, retD_three, retD_none]; try simp [R.val, retD_one, retD_two, retD_three, retD_none])
  · have hh := grd_some h; clear h; obtain ⟨⟨g365, g366⟩, h⟩ := hh
    have hh := grd_some h; clear h; obtain ⟨g367, h⟩ := hh
    have hh := getI_some h; clear h; obtain ⟨x369, h368, h⟩ := hh
    refine W_sound tab_ok mixed 27 _ _ _ ?_
    simp -implicitDefEqProofs only [go_sem, qa, qb, qc, qd, qe, qf, qg, qh, qi, qj, qk, ↓reduceIte, h364, g365, g366, g367, h368]
    repeat with_reducible refine ⟨by first | kernel_rfl | decide, ?_⟩
    obtain rfl := Option.some.inj h
    exact finC [(2, .v (.int .i64 (IntKind.i64.wrap x369)))] [(2, .v (.int .i64 (IntKind.i64.wrap x369)))] (by simp [leE, lk_cons]) (.cons _ _ _ _ _ (.v _ _ (.refl _)) .nil) (by rfl) (by simp [leE, lk_cons]) (by decide) (by decide) rfl (by simp only [go_sem, qa, qb, qc, qd, qe, qf, qg, qh, qi, qj, qk, ↓reduceIte, resQ_tmp, resQ_cell, resQ_nil, retD_one, retD_two, retD_three, retD_none]; try simp [R.val, retD_one, retD_two, retD_three, retD_none])
def m87 (N : Nat) (x362 : Int) : Option (PV) :=
  bnd' (m96 N x362) fun p370 =>
  getI .i64 p370 fun x373 =>
  some (.int .i64 x373)
theorem c87 (N : Nat) (x362 : Int) (r : PV)  (h : m87 N x362 = some r) : FnP Tryd.prog 87 [(.int .u64 x362)] r := by
  unfold m87 at h
  refine Fn_of (sz := 8) tab_ok [0, 2] [.tmp 2] Tryd.func87 rfl rfl rfl (by simp) ?_
  simp only [initSt, initEnv, List.map_cons, List.map_nil, List.getD_cons_zero, List.getD_cons_succ, List.getD_nil]
  have hh := bnd'_some h; clear h; obtain ⟨p370, h371, h⟩ := hh
  refine W_sound tab_ok mixed 10 _ _ _ ?_
  simp -implicitDefEqProofs only [go_sem, qa, qb, qc, qd, qe, qf, qg, qh, qi, qj, qk, ↓reduceIte]
  repeat with_reducible refine ⟨by first | kernel_rfl | decide, ?_⟩
  refine Wp_callP (c96 N _ _ h371) (by kernel_rfl) rfl rfl rfl rfl (by decide) ?_
  have hh := getI_some h; clear h; obtain ⟨x373, h372, h⟩ := hh
  refine W_sound tab_ok mixed 4 _ _ _ ?_
  simp -implicitDefEqProofs only [go_sem, qa, qb, qc, qd, qe, qf, qg, qh, qi, qj, qk, ↓reduceIte, h372]
  repeat with_reducible refine ⟨by first | kernel_rfl | decide, ?_⟩
  obtain rfl := Option.some.inj h
  exact finC [(2, .v (.int .i64 x373))] [(2, .v (.int .i64 x373))] (by simp [leE, lk_cons]) (.cons _ _ _ _ _ (.v _ _ (.refl _)) .nil) (by rfl) (by simp [leE, lk_cons]) (by decide) (by decide) rfl (by simp only [go_sem, qa, qb, qc, qd, qe, qf, qg, qh, qi, qj, qk, ↓reduceIte, resQ_tmp, resQ_cell, resQ_nil, retD_one, retD_two, retD_three, retD_none]; try simp [R.val, retD_one, retD_two, retD_three, retD_none])
def m62_L0 (N : Nat)  : Nat → Int → Nat → List PV → Option ((Nat × List PV))
  | 0, _, _, _ => none
  | n + 1, x384, n385, c386 =>
    brn (x384 != 0) (
      bnd' (m87 N x384) fun p388 =>
      getI .i64 p388 fun x391 =>
      grd ((n385 + 1) ≤ 1099511627776) <|
      grd (List.length c386 = n385) <|
      m62_L0 N  n (bitsI .and .u64 x384 (IntKind.u64.wrap (x384 - 1))) (n385 + 1) (c386 ++ [(.int .i64 x391)])) (
      some (n385, c386))
def m62 (N : Nat) (x359 : Int) : Option (PV) :=
  bnd' (m62_L0 N  N x359 0 []) fun o =>
  match o with
  | (n394, c395) =>
    grd (List.length c395 = n394) <|
    some (.lst false n394 c395)
theorem c62 (N : Nat) (x359 : Int) (r : PV)  (h : m62 N x359 = some r) : FnP Tryd.prog 62 [(.int .u64 x359)] r := by
  unfold m62 at h
  refine Fn_of (sz := 16) tab_ok [0, 2, 3, 5] [.tmp 2] Tryd.func62 rfl rfl rfl (by simp) ?_
  simp only [initSt, initEnv, List.map_cons, List.map_nil, List.getD_cons_zero, List.getD_cons_succ, List.getD_nil]
  refine W_sound tab_ok mixed 9 _ _ _ ?_
  simp -implicitDefEqProofs only [go_sem, qa, qb, qc, qd, qe, qf, qg, qh, qi, qj, qk, ↓reduceIte]
  repeat with_reducible refine ⟨by first | kernel_rfl | decide, ?_⟩
  refine Wp_weaken (Wk_ownS 3 1 rfl (by decide) (by decide)) ?_
  simp -implicitDefEqProofs only [go_sem, qa, qb, qc, qd, qe, qf, qg, qh, qi, qj, qk, ↓reduceIte]
  have hh := bnd'_some h; clear h; obtain ⟨o397, h398, h399⟩ := hh
  refine Wp_cut (fun s => ∃ n394, ∃ c395, (n394, c395) = o397 ∧ s = ⟨[], [(0, .dead), (2, .dead), (3, .sl false 0 0 n394 1), (5, .dead)], [(0, .p c395)], 1, []⟩) ?_ ?_
  · refine Wp_block ?_
    refine Wp_loopG (fun n s => ∃ x384, ∃ n385, ∃ c386, m62_L0 N  n x384 n385 c386 = some o397 ∧ s = ⟨[], [(0, .v (.int .u64 x384)), (2, .dead), (3, .sl false 0 0 n385 1), (5, .dead)], [(0, .p c386)], 1, []⟩) N _ ((Wk_le (.r (.k (.r (.r .nil)))) (OLe.refl _)).trans (cmpS_ok rfl)) ⟨_, _, _, h398, rfl⟩ ?_
    clear h398
    rintro n _ ⟨x384, n385, c386, h398, rfl⟩
    cases n with
    | zero => cases h398
    | succ n =>
      rw [m62_L0] at h398
      have hh := brn_some h398; clear h398; rcases hh with ⟨h387, h398⟩ | ⟨h387, h398⟩
      · have hh := bnd'_some h398; clear h398; obtain ⟨p388, h389, h398⟩ := hh
        refine W_sound tab_ok mixed 13 _ _ _ ?_
        simp -implicitDefEqProofs only [go_sem, qa, qb, qc, qd, qe, qf, qg, qh, qi, qj, qk, ↓reduceIte, h387]
        repeat with_reducible refine ⟨by first | kernel_rfl | decide, ?_⟩
        refine Wp_callP (c87 N _ _ h389) (by kernel_rfl) rfl rfl rfl rfl (by decide) ?_
        have hh := getI_some h398; clear h398; obtain ⟨x391, h390, h398⟩ := hh
        have hh := grd_some h398; clear h398; obtain ⟨g392, h398⟩ := hh
        have hh := grd_some h398; clear h398; obtain ⟨g393, h398⟩ := hh
        refine W_sound tab_ok mixed 12 _ _ _ ?_
        simp -implicitDefEqProofs only [go_sem, qa, qb, qc, qd, qe, qf, qg, qh, qi, qj, qk, ↓reduceIte, h387, h390, g392, g393]
        repeat with_reducible refine ⟨by first | kernel_rfl | decide, ?_⟩
        exact cutQ _ ((Wk_le (.r (.r (.r (.k .nil)))) (OLe.refl _)).trans (cmpS_ok rfl)) ⟨n, Nat.lt_succ_self n, _, _, _, h398, rfl⟩
      · refine W_sound tab_ok mixed 8 _ _ _ ?_
        simp -implicitDefEqProofs only [go_sem, qa, qb, qc, qd, qe, qf, qg, qh, qi, qj, qk, ↓reduceIte, h387]
        repeat with_reducible refine ⟨by first | kernel_rfl | decide, ?_⟩
        obtain rfl := Option.some.inj h398
        exact cutQ _ ((Wk_le (.k (.r (.r (.k .nil)))) (OLe.refl _)).trans (cmpS_ok rfl)) ⟨_, _, rfl, rfl⟩
  · rintro _ ⟨n394, c395, rfl, rfl⟩
    (try dsimp only at h399)
    refine W_sound tab_ok mixed 7 _ _ _ ?_
    simp -implicitDefEqProofs only [go_sem, qa, qb, qc, qd, qe, qf, qg, qh, qi, qj, qk, ↓reduceIte]
    repeat with_reducible refine ⟨by first | kernel_rfl | decide, ?_⟩
    have hh := grd_some h399; clear h399; obtain ⟨g396, h399⟩ := hh
    refine FinQ_wk (Wk_freeze 0 c395 (by rfl) (by decide) (by decide)) ?_
    simp -implicitDefEqProofs only [go_sem, qa, qb, qc, qd, qe, qf, qg, qh, qi, qj, qk, ↓reduceIte, g396]
    obtain rfl := Option.some.inj h399
    exact finC [(2, .v (.lst false n394 c395))] [(2, .v (.lst false n394 c395))] (by simp [leE, lk_cons]) (.cons _ _ _ _ _ (.v _ _ (.refl _)) .nil) (by rfl) (by simp [leE, lk_cons]) (by decide) (by decide) rfl (by simp only [go_sem, qa, qb, qc, qd, qe, qf, qg, qh, qi, qj, qk, ↓reduceIte, resQ_tmp, resQ_cell, resQ_nil, retD_one, retD_two, retD_three, retD_none]; try simp [R.val, retD_one, retD_two, retD_three, retD_none])
def m17_L0 (N : Nat) (x337 : Int) : Nat → Int → Option (Unit)
  | 0, _ => none
  | n + 1, x345 =>
    brn (decide (x345 < x337)) (
      grd (0 ≤ x337) <|
      none) (
      some ())
def m17_L1 (N : Nat) (x337 : Int) (c349 : List PV) : Nat → Nat → Int → List PV → Option ((Nat × List PV))
  | 0, _, _, _ => none
  | n + 1, n418, x419, c420 =>
    brn (decide (x419 < x337)) (
      grd (0 ≤ x337) <|
      grd (0 ≤ x419 ∧ x419 < 5) <|
      grd ((31 + (Int.toNat x419)) < List.length c349) <|
      getI .u64 (gp c349 (31 + (Int.toNat x419))) fun x427 =>
      bnd' (m62 N (bitsI .andNot .u64 (IntKind.u64.wrap ((IntKind.u64.wrap (1 * 2 ^ (min (Int.toNat x337) 64))) - 1)) x427)) fun p428 =>
      getL p428 fun n431 c432 =>
      grd ((n418 + 1) ≤ 1099511627776) <|
      grd (List.length c420 = n418) <|
      m17_L1 N x337 c349 n (n418 + 1) (IntKind.i64.wrap (x419 + 1)) (c420 ++ [(.lst false n431 c432)])) (
      some (n418, c420))
def m17 (N : Nat) (x337 : Int) (p338 : PV) : Option (PV) :=
  getL p338 fun n340 c341 =>
  bnd' (m61 N x337 (.lst false n340 c341) x337) fun o =>
  match o with
  | .inl x343 =>
    brn (x343 != 0) (
      some (.tup [(.lst false 0 []), (.int .i64 x343)])) (
      bnd' (m17_L0 N x337 N 0) fun _ =>
      some (.tup [(.lst false 0 []), (.int .i64 0)]))
  | .inr (x348, c349) =>
    brn (x348 != 0) (
      some (.tup [(.lst false 0 []), (.int .i64 x348)])) (
      bnd' (m17_L1 N x337 c349 N 0 0 []) fun o =>
      match o with
      | (n435, c436) =>
        grd (List.length c436 = n435) <|
        some (.tup [(.lst false n435 c436), (.int .i64 0)]))
theorem c17 (N : Nat) (x337 : Int) (p338 : PV) (r : PV)  (h : m17 N x337 p338 = some r) : FnP Tryd.prog 17 [(.int .i64 x337), p338] r := by
  unfold m17 at h
  refine Fn_of (sz := 40) tab_ok [0, 1, 4, 5, 6, 7, 8, 9, 18, 20, 21, 22] [.tmp 4, .tmp 5] Tryd.func17 rfl rfl rfl (by simp) ?_
  simp only [initSt, initEnv, List.map_cons, List.map_nil, List.getD_cons_zero, List.getD_cons_succ, List.getD_nil]
  have hh := getL_some h; clear h; obtain ⟨n340, c341, h339, h⟩ := hh
  have hh := bnd'_some h; clear h; obtain ⟨oo, h342, h⟩ := hh
  rcases oo with x343 | ⟨x348, c349⟩
  · (try dsimp only at h)
    refine W_sound tab_ok mixed 10 _ _ _ ?_
    simp -implicitDefEqProofs only [go_sem, qa, qb, qc, qd, qe, qf, qg, qh, qi, qj, qk, ↓reduceIte, h339]
    repeat with_reducible refine ⟨by first | kernel_rfl | decide, ?_⟩
    refine Wp_callD [] (c61_a N _ _ _ _ h342) rfl rfl rfl (by first | rfl | (simp only [go_sem, qa, qb, qc, qd, qe, qf, qg, qh, qi, qj, qk, ↓reduceIte, h339] <;> rfl)) rfl (by kernel_rfl) ?_
    have hh := brn_some h; clear h; rcases hh with ⟨h344, h⟩ | ⟨h344, h⟩
    · refine W_sound tab_ok mixed 21 _ _ _ ?_
      simp -implicitDefEqProofs only [go_sem, qa, qb, qc, qd, qe, qf, qg, qh, qi, qj, qk, ↓reduceIte, h339, h344]
      repeat with_reducible refine ⟨by first | kernel_rfl | decide, ?_⟩
      obtain rfl := Option.some.inj h
      exact finC [(4, .v .nl), (5, .v (.int .i64 x343))] [(4, .v (.lst false 0 [])), (5, .v (.int .i64 x343))] (by simp [leE, lk_cons]) (.cons _ _ _ _ _ (.v _ _ (.nl false)) (.cons _ _ _ _ _ (.v _ _ (.refl _)) .nil)) (by rfl) (by simp [leE, lk_cons]) (by decide) (by decide) rfl (by simp only [go_sem, qa, qb, qc, qd, qe, qf, qg, qh, qi, qj, qk, ↓reduceIte, resQ_tmp, resQ_cell, resQ_nil, retD_one, retD_two, retD_three, retD_none]; try simp [R.val, retD_one, retD_two, retD_three, retD_none])
    · refine W_sound tab_ok mixed 24 _ _ _ ?_
      simp -implicitDefEqProofs only [go_sem, qa, qb, qc, qd, qe, qf, qg, qh, qi, qj, qk, ↓reduceIte, h339, h344]
      repeat with_reducible refine ⟨by first | kernel_rfl | decide, ?_⟩
      have hh := bnd'_some h; clear h; obtain ⟨o438, h439, h440⟩ := hh
      refine Wp_cut (fun s => () = o438 ∧ s = ⟨[], [(0, .dead), (1, .dead), (4, .dead), (5, .dead), (6, .dead), (7, .dead), (8, .v .nl), (9, .dead), (18, .dead), (20, .dead), (21, .dead), (22, .dead)], [], 0, []⟩) ?_ ?_
      · refine Wp_block ?_
        refine Wp_loopG (fun n s => ∃ x345, m17_L0 N x337 n x345 = some o438 ∧ s = ⟨[], [(0, .v (.int .i64 x337)), (1, .dead), (4, .dead), (5, .dead), (6, .v (.fn 999999 [.bool true])), (7, .dead), (8, .v .nl), (9, .dead), (18, .dead), (20, .v (.int .i64 x337)), (21, .v (.int .i64 x345)), (22, .dead)], [], 0, []⟩) N _ ((Wk_le (.r (.k (.k (.k (.r (.k (.r (.r (.k (.r (.r (.r .nil)))))))))))) (OLe.refl _)).trans (cmpS_ok (st' := ⟨[], [(0, .v (.int .i64 x337)), (1, .dead), (4, .dead), (5, .dead), (6, .v (.fn 999999 [.bool true])), (7, .dead), (8, .v .nl), (9, .dead), (18, .dead), (20, .v (.int .i64 x337)), (21, .v (.int .i64 0)), (22, .dead)], [], 0, []⟩) (by kernel_rfl))) ⟨_, h439, rfl⟩ ?_
        clear h439
        rintro n _ ⟨x345, h439, rfl⟩
        cases n with
        | zero => cases h439
        | succ n =>
          rw [m17_L0] at h439
          have hh := brn_some h439; clear h439; rcases hh with ⟨h346, h439⟩ | ⟨h346, h439⟩
          · have hh := grd_some h439; clear h439; obtain ⟨g347, h439⟩ := hh
            cases h439
          · refine W_sound tab_ok mixed 7 _ _ _ ?_
            simp -implicitDefEqProofs only [go_sem, qa, qb, qc, qd, qe, qf, qg, qh, qi, qj, qk, ↓reduceIte, h339, h344, h346]
            repeat with_reducible refine ⟨by first | kernel_rfl | decide, ?_⟩
            obtain rfl := Option.some.inj h439
            exact cutQ _ ((Wk_le (.k (.r (.r (.r (.k (.r (.r (.r (.r (.k (.k (.k .nil)))))))))))) (OLe.refl _)).trans (cmpS_ok (st' := ⟨[], [(0, .dead), (1, .dead), (4, .dead), (5, .dead), (6, .dead), (7, .dead), (8, .v .nl), (9, .dead), (18, .dead), (20, .dead), (21, .dead), (22, .dead)], [], 0, []⟩) (by kernel_rfl))) (by first | exact ⟨rfl, rfl⟩ | exact rfl)
      · rintro _ ⟨rfl, rfl⟩
        (try dsimp only at h440)
        refine W_sound tab_ok mixed 8 _ _ _ ?_
        simp -implicitDefEqProofs only [go_sem, qa, qb, qc, qd, qe, qf, qg, qh, qi, qj, qk, ↓reduceIte, h339, h344]
        repeat with_reducible refine ⟨by first | kernel_rfl | decide, ?_⟩
        obtain rfl := Option.some.inj h440
        exact finC [(4, .v .nl), (5, .v (.int .i64 0))] [(4, .v (.lst false 0 [])), (5, .v (.int .i64 0))] (by simp [leE, lk_cons]) (.cons _ _ _ _ _ (.v _ _ (.nl false)) (.cons _ _ _ _ _ (.v _ _ (.refl _)) .nil)) (by rfl) (by simp [leE, lk_cons]) (by decide) (by decide) rfl (by simp only [go_sem, qa, qb, qc, qd, qe, qf, qg, qh, qi, qj, qk, ↓reduceIte, resQ_tmp, resQ_cell, resQ_nil, retD_one, retD_two, retD_three, retD_none]; try simp [R.val, retD_one, retD_two, retD_three, retD_none])
  · (try dsimp only at h)
    refine W_sound tab_ok mixed 10 _ _ _ ?_
    simp -implicitDefEqProofs only [go_sem, qa, qb, qc, qd, qe, qf, qg, qh, qi, qj, qk, ↓reduceIte, h339]
    repeat with_reducible refine ⟨by first | kernel_rfl | decide, ?_⟩
    refine Wp_callD [] (c61_b N _ _ _ _ _ h342) rfl rfl rfl (by first | rfl | (simp only [go_sem, qa, qb, qc, qd, qe, qf, qg, qh, qi, qj, qk, ↓reduceIte, h339] <;> rfl)) rfl (by kernel_rfl) ?_
    have hh := brn_some h; clear h; rcases hh with ⟨h350, h⟩ | ⟨h350, h⟩
    · refine W_sound tab_ok mixed 21 _ _ _ ?_
      simp -implicitDefEqProofs only [go_sem, qa, qb, qc, qd, qe, qf, qg, qh, qi, qj, qk, ↓reduceIte, h339, h350]
      repeat with_reducible refine ⟨by first | kernel_rfl | decide, ?_⟩
      obtain rfl := Option.some.inj h
      exact finC [(4, .v .nl), (5, .v (.int .i64 x348))] [(4, .v (.lst false 0 [])), (5, .v (.int .i64 x348))] (by simp [leE, lk_cons]) (.cons _ _ _ _ _ (.v _ _ (.nl false)) (.cons _ _ _ _ _ (.v _ _ (.refl _)) .nil)) (by rfl) (by simp [leE, lk_cons]) (by decide) (by decide) rfl (by simp only [go_sem, qa, qb, qc, qd, qe, qf, qg, qh, qi, qj, qk, ↓reduceIte, resQ_tmp, resQ_cell, resQ_nil, retD_one, retD_two, retD_three, retD_none]; try simp [R.val, retD_one, retD_two, retD_three, retD_none])
    · refine W_sound tab_ok mixed 24 _ _ _ ?_
      simp -implicitDefEqProofs only [go_sem, qa, qb, qc, qd, qe, qf, qg, qh, qi, qj, qk, ↓reduceIte, h339, h350]
      repeat with_reducible refine ⟨by first | kernel_rfl | decide, ?_⟩
      refine Wp_weaken (Wk_ownS 8 1 rfl (by decide) (by decide)) ?_
      simp -implicitDefEqProofs only [go_sem, qa, qb, qc, qd, qe, qf, qg, qh, qi, qj, qk, ↓reduceIte, h339, h350]
      have hh := bnd'_some h; clear h; obtain ⟨o441, h442, h443⟩ := hh
      refine Wp_cut (fun s => ∃ n435, ∃ c436, (n435, c436) = o441 ∧ s = ⟨[], [(0, .dead), (1, .dead), (4, .dead), (5, .dead), (6, .dead), (7, .dead), (8, .sl false 0 0 n435 1), (9, .dead), (18, .dead), (20, .dead), (21, .dead), (22, .dead)], [(0, .p c436)], 1, []⟩) ?_ ?_
      · refine Wp_block ?_
        refine Wp_loopG (fun n s => ∃ n418, ∃ x419, ∃ c420, m17_L1 N x337 c349 n n418 x419 c420 = some o441 ∧ s = ⟨[], [(0, .v (.int .i64 x337)), (1, .dead), (4, .dead), (5, .dead), (6, .ptr 0 0), (7, .dead), (8, .sl false 1 0 n418 1), (9, .dead), (18, .dead), (20, .v (.int .i64 x337)), (21, .v (.int .i64 x419)), (22, .dead)], [(0, .p c349), (1, .p c420)], 2, []⟩) N _ ((Wk_le (.r (.k (.k (.k (.r (.k (.r (.r (.k (.r (.r (.r .nil)))))))))))) (OLe.refl _)).trans (cmpS_ok (st' := ⟨[], [(0, .v (.int .i64 x337)), (1, .dead), (4, .dead), (5, .dead), (6, .ptr 0 0), (7, .dead), (8, .sl false 1 0 0 1), (9, .dead), (18, .dead), (20, .v (.int .i64 x337)), (21, .v (.int .i64 0)), (22, .dead)], [(0, .p c349), (1, .p [])], 2, []⟩) (by kernel_rfl))) ⟨_, _, _, h442, rfl⟩ ?_
        clear h442
        rintro n _ ⟨n418, x419, c420, h442, rfl⟩
        cases n with
        | zero => cases h442
        | succ n =>
          rw [m17_L1] at h442
          have hh := brn_some h442; clear h442; rcases hh with ⟨h421, h442⟩ | ⟨h421, h442⟩
          · have hh := grd_some h442; clear h442; obtain ⟨g422, h442⟩ := hh
            have hh := grd_some h442; clear h442; obtain ⟨⟨g423, g424⟩, h442⟩ := hh
            have hh := grd_some h442; clear h442; obtain ⟨g425, h442⟩ := hh
            have hh := getI_some h442; clear h442; obtain ⟨x427, h426, h442⟩ := hh
            have hh := bnd'_some h442; clear h442; obtain ⟨p428, h429, h442⟩ := hh
            refine W_sound tab_ok mixed 26 _ _ _ ?_
            simp -implicitDefEqProofs only [go_sem, qa, qb, qc, qd, qe, qf, qg, qh, qi, qj, qk, ↓reduceIte, h339, h350, h421, g422, g423, g424, g425, h426]
            repeat with_reducible refine ⟨by first | kernel_rfl | decide, ?_⟩
            refine Wp_callP (c62 N _ _ h429) (by kernel_rfl) rfl rfl rfl rfl (by decide) ?_
            have hh := getL_some h442; clear h442; obtain ⟨n431, c432, h430, h442⟩ := hh
            have hh := grd_some h442; clear h442; obtain ⟨g433, h442⟩ := hh
            have hh := grd_some h442; clear h442; obtain ⟨g434, h442⟩ := hh
            refine W_sound tab_ok mixed 9 _ _ _ ?_
            simp -implicitDefEqProofs only [go_sem, qa, qb, qc, qd, qe, qf, qg, qh, qi, qj, qk, ↓reduceIte, h339, h350, h421, g422, g423, g424, g425, h426, h430, g433, g434]
            repeat with_reducible refine ⟨by first | kernel_rfl | decide, ?_⟩
            exact cutQ _ ((Wk_le (.r (.r (.r (.r (.r (.r (.r (.k (.r (.r (.r (.k .nil)))))))))))) (OLe.refl _)).trans (cmpS_ok (st' := ⟨[], [(0, .v (.int .i64 x337)), (1, .dead), (4, .dead), (5, .dead), (6, .ptr 0 0), (7, .dead), (8, .sl false 1 0 (n418 + 1) 1), (9, .dead), (18, .dead), (20, .v (.int .i64 x337)), (21, .v (.int .i64 (IntKind.i64.wrap (x419 + 1)))), (22, .dead)], [(0, .p c349), (1, .p (c420 ++ [(.lst false n431 c432)]))], 2, []⟩) (by kernel_rfl))) ⟨n, Nat.lt_succ_self n, _, _, _, h442, rfl⟩
          · refine W_sound tab_ok mixed 7 _ _ _ ?_
            simp -implicitDefEqProofs only [go_sem, qa, qb, qc, qd, qe, qf, qg, qh, qi, qj, qk, ↓reduceIte, h339, h350, h421]
            repeat with_reducible refine ⟨by first | kernel_rfl | decide, ?_⟩
            obtain rfl := Option.some.inj h442
            exact cutQ _ ((Wk_le (.k (.r (.r (.r (.k (.r (.r (.r (.r (.k (.k (.k .nil)))))))))))) (OLe.refl _)).trans (cmpS_ok (st' := ⟨[], [(0, .dead), (1, .dead), (4, .dead), (5, .dead), (6, .dead), (7, .dead), (8, .sl false 0 0 n418 1), (9, .dead), (18, .dead), (20, .dead), (21, .dead), (22, .dead)], [(0, .p c420)], 1, []⟩) (by kernel_rfl))) ⟨_, _, rfl, rfl⟩
      · rintro _ ⟨n435, c436, rfl, rfl⟩
        (try dsimp only at h443)
        refine W_sound tab_ok mixed 8 _ _ _ ?_
        simp -implicitDefEqProofs only [go_sem, qa, qb, qc, qd, qe, qf, qg, qh, qi, qj, qk, ↓reduceIte, h339, h350]
        repeat with_reducible refine ⟨by first | kernel_rfl | decide, ?_⟩
        have hh := grd_some h443; clear h443; obtain ⟨g437, h443⟩ := hh
        refine FinQ_wk (Wk_freeze 0 c436 (by rfl) (by decide) (by decide)) ?_
        simp -implicitDefEqProofs only [go_sem, qa, qb, qc, qd, qe, qf, qg, qh, qi, qj, qk, ↓reduceIte, h339, h350, g437]
        obtain rfl := Option.some.inj h443
        exact finC [(4, .v (.lst false n435 c436)), (5, .v (.int .i64 0))] [(4, .v (.lst false n435 c436)), (5, .v (.int .i64 0))] (by simp [leE, lk_cons]) (.cons _ _ _ _ _ (.v _ _ (.refl _)) (.cons _ _ _ _ _ (.v _ _ (.refl _)) .nil)) (by rfl) (by simp [leE, lk_cons]) (by decide) (by decide) rfl (by simp only [go_sem, qa, qb, qc, qd, qe, qf, qg, qh, qi, qj, qk, ↓reduceIte, resQ_tmp, resQ_cell, resQ_nil, retD_one, retD_two, retD_three, retD_none]; try simp [R.val, retD_one, retD_two, retD_three, retD_none])
def m112 (N : Nat) (c459 : List PV) : Option (PV) :=
  grd (0 < List.length c459) <|
  getI .i64 (gp c459 0) fun x462 =>
  grd (1 < List.length c459) <|
  getI .i64 (gp c459 1) fun x465 =>
  some (.tup [(.int .i64 x462), (.int .i64 x465)])
theorem c112 (N : Nat) (c459 : List PV) (r : PV)  (h : m112 N c459 = some r) : V.Fn Tryd.prog 112 1 [.ptr 0 0] [(0, .p c459)] (fun d ob' => d = .v r ∧ ob' = [(0, .p c459)]) := by
  unfold m112 at h
  refine Fn_of (sz := 12) tab_ok [0, 2, 3] [.tmp 2, .tmp 3] Tryd.func112 rfl rfl rfl (by simp) ?_
  simp only [initSt, initEnv, List.map_cons, List.map_nil, List.getD_cons_zero, List.getD_cons_succ, List.getD_nil]
  have hh := grd_some h; clear h; obtain ⟨g460, h⟩ := hh
  have hh := getI_some h; clear h; obtain ⟨x462, h461, h⟩ := hh
  have hh := grd_some h; clear h; obtain ⟨g463, h⟩ := hh
  have hh := getI_some h; clear h; obtain ⟨x465, h464, h⟩ := hh
  refine W_sound tab_ok mixed 20 _ _ _ ?_
  simp -implicitDefEqProofs only [go_sem, qa, qb, qc, qd, qe, qf, qg, qh, qi, qj, qk, ↓reduceIte, g460, h461, g463, h464]
  repeat with_reducible refine ⟨by first | kernel_rfl | decide, ?_⟩
  obtain rfl := Option.some.inj h
  exact finD (e2 := [(0, .dead), (2, .v (.int .i64 x462)), (3, .v (.int .i64 x465))]) (ob2 := [(0, .p c459)]) (st' := ⟨[], [(0, .dead), (2, .v (.int .i64 x462)), (3, .v (.int .i64 x465))], [(0, .p c459)], 1, []⟩) (.k (.r (.r .nil))) (.cons _ _ _ _ _ (DLes.refl _) .nil) (by kernel_rfl) (by simp only [go_sem, qa, qb, qc, qd, qe, qf, qg, qh, qi, qj, qk, ↓reduceIte, resQ_tmp, resQ_cell, resQ_nil, retD_one, retD_two, retD_three, retD_none]; try simp [R.val, retD_one, retD_two, retD_three, retD_none])
def m113 (N : Nat) (c487 : List PV) (c488 : List PV) : Option ((PV × List PV)) :=
  grd (26 ≤ List.length c488) <|
  grd (List.length (List.take 25 (List.drop 1 c488)) = 25 ∧ 28 ≤ List.length c487) <|
  grd (3 ≤ List.length c487) <|
  some ((.bool true), (List.set (putP c487 3 (List.take 25 (List.drop 1 c488))) 2 (.bool true)))
theorem c113 (N : Nat) (c487 : List PV) (c488 : List PV) (r : PV) (c494 : List PV) (h : m113 N c487 c488 = some (r, c494)) : V.Fn Tryd.prog 113 2 [.ptr 0 0, .ptr 1 0] [(0, .p c487), (1, .p c488)] (fun d ob' => d = .v r ∧ ob' = [(0, .p c494), (1, .p c488)]) := by
  unfold m113 at h
  refine Fn_of (sz := 15) tab_ok [0, 1, 4] [.tmp 4] Tryd.func113 rfl rfl rfl (by simp) ?_
  simp only [initSt, initEnv, List.map_cons, List.map_nil, List.getD_cons_zero, List.getD_cons_succ, List.getD_nil]
  have hh := grd_some h; clear h; obtain ⟨g490, h⟩ := hh
  have hh := grd_some h; clear h; obtain ⟨⟨g491, g492⟩, h⟩ := hh
  have hh := grd_some h; clear h; obtain ⟨g493, h⟩ := hh
  refine W_sound tab_ok mixed 25 _ _ _ ?_
  simp -implicitDefEqProofs only [go_sem, qa, qb, qc, qd, qe, qf, qg, qh, qi, qj, qk, ↓reduceIte, g490, g491, g492, g493]
  repeat with_reducible refine ⟨by first | kernel_rfl | decide, ?_⟩
  simp only [Option.some.injEq, Prod.mk.injEq] at h; obtain ⟨rfl, rfl⟩ := h
  exact finD (e2 := [(0, .dead), (1, .dead), (4, .v (.bool true))]) (ob2 := [(0, .p (List.set (putP c487 3 (List.take 25 (List.drop 1 c488))) 2 (.bool true))), (1, .p c488)]) (st' := ⟨[], [(0, .dead), (1, .dead), (4, .v (.bool true))], [(0, .p (List.set (putP c487 3 (List.take 25 (List.drop 1 c488))) 2 (.bool true))), (1, .p c488)], 2, []⟩) (.k (.k (.r .nil))) (.cons _ _ _ _ _ (DLes.refl _) (.cons _ _ _ _ _ (DLes.refl _) .nil)) (by kernel_rfl) (by simp only [go_sem, qa, qb, qc, qd, qe, qf, qg, qh, qi, qj, qk, ↓reduceIte, resQ_tmp, resQ_cell, resQ_nil, retD_one, retD_two, retD_three, retD_none]; try simp [R.val, retD_one, retD_two, retD_three, retD_none])
def m89 (N : Nat) (x520 : Int) (x521 : Int) (c522 : List PV) : Option (PV) :=
  grd (0 < List.length c522) <|
  getI .i64 (gp c522 0) fun x525 =>
  grd (0 ≤ x525) <|
  grd (0 ≤ x520 ∧ x520 < 5) <|
  grd ((26 + (Int.toNat x520)) < List.length c522) <|
  getI .u64 (gp c522 (26 + (Int.toNat x520))) fun x531 =>
  grd (0 ≤ x521 ∧ x521 < 5) <|
  grd ((31 + (Int.toNat x521)) < List.length c522) <|
  getI .u64 (gp c522 (31 + (Int.toNat x521))) fun x536 =>
  some (.int .u64 (bitsI .andNot .u64 (bitsI .andNot .u64 (IntKind.u64.wrap ((IntKind.u64.wrap (1 * 2 ^ (min (Int.toNat x525) 64))) - 1)) x531) x536))
theorem c89 (N : Nat) (x520 : Int) (x521 : Int) (c522 : List PV) (r : PV)  (h : m89 N x520 x521 c522 = some r) : V.Fn Tryd.prog 89 1 [.ptr 0 0, .v (.int .i64 x520), .v (.int .i64 x521)] [(0, .p c522)] (fun d ob' => d = .v r ∧ ob' = [(0, .p c522)]) := by
  unfold m89 at h
  refine Fn_of (sz := 27) tab_ok [0, 1, 2, 6] [.tmp 6] Tryd.func89 rfl rfl rfl (by simp) ?_
  simp only [initSt, initEnv, List.map_cons, List.map_nil, List.getD_cons_zero, List.getD_cons_succ, List.getD_nil]
  have hh := grd_some h; clear h; obtain ⟨g523, h⟩ := hh
  have hh := getI_some h; clear h; obtain ⟨x525, h524, h⟩ := hh
  have hh := grd_some h; clear h; obtain ⟨g526, h⟩ := hh
  have hh := grd_some h; clear h; obtain ⟨⟨g527, g528⟩, h⟩ := hh
  have hh := grd_some h; clear h; obtain ⟨g529, h⟩ := hh
  have hh := getI_some h; clear h; obtain ⟨x531, h530, h⟩ := hh
  have hh := grd_some h; clear h; obtain ⟨⟨g532, g533⟩, h⟩ := hh
  have hh := grd_some h; clear h; obtain ⟨g534, h⟩ := hh
  have hh := getI_some h; clear h; obtain ⟨x536, h535, h⟩ := hh
  refine W_sound tab_ok mixed 30 _ _ _ ?_
  simp -implicitDefEqProofs only [go_sem, qa, qb, qc, qd, qe, qf, qg, qh, qi, qj, qk, ↓reduceIte, g523, h524, g526, g527, g528, g529, h530, g532, g533, g534, h535]
  repeat with_reducible refine ⟨by first | kernel_rfl | decide, ?_⟩
  obtain rfl := Option.some.inj h
  exact finD (e2 := [(0, .dead), (1, .dead), (2, .dead), (6, .v (.int .u64 (bitsI .andNot .u64 (bitsI .andNot .u64 (IntKind.u64.wrap ((IntKind.u64.wrap (1 * 2 ^ (min (Int.toNat x525) 64))) - 1)) x531) x536)))]) (ob2 := [(0, .p c522)]) (st' := ⟨[], [(0, .dead), (1, .dead), (2, .dead), (6, .v (.int .u64 (bitsI .andNot .u64 (bitsI .andNot .u64 (IntKind.u64.wrap ((IntKind.u64.wrap (1 * 2 ^ (min (Int.toNat x525) 64))) - 1)) x531) x536)))], [(0, .p c522)], 1, []⟩) (.k (.k (.k (.r .nil)))) (.cons _ _ _ _ _ (DLes.refl _) .nil) (by kernel_rfl) (by simp only [go_sem, qa, qb, qc, qd, qe, qf, qg, qh, qi, qj, qk, ↓reduceIte, resQ_tmp, resQ_cell, resQ_nil, retD_one, retD_two, retD_three, retD_none]; try simp [R.val, retD_one, retD_two, retD_three, retD_none])
def m90 (N : Nat) (x577 : Int) (x578 : Int) (c579 : List PV) : Option ((PV × List PV)) :=
  grd (0 ≤ x577 ∧ x577 < 5) <|
  grd (0 ≤ x578 ∧ x578 < 5) <|
  grd (((1 + ((Int.toNat x577) * 5)) + (Int.toNat x578)) < List.length c579) <|
  getI .i64 (gp c579 ((1 + ((Int.toNat x577) * 5)) + (Int.toNat x578))) fun x587 =>
  grd ((((1 + ((Int.toNat x577) * 5)) + (Int.toNat x578)) + 1) ≤ List.length c579) <|
  grd ((26 + (Int.toNat x577)) < List.length c579) <|
  getI .u64 (gp (List.set c579 ((1 + ((Int.toNat x577) * 5)) + (Int.toNat x578)) (.int .i64 (-1))) (26 + (Int.toNat x577))) fun x591 =>
  grd (0 ≤ x587) <|
  grd (((26 + (Int.toNat x577)) + 1) ≤ List.length c579) <|
  grd ((31 + (Int.toNat x578)) < List.length c579) <|
  getI .u64 (gp (List.set (List.set c579 ((1 + ((Int.toNat x577) * 5)) + (Int.toNat x578)) (.int .i64 (-1))) (26 + (Int.toNat x577)) (.int .u64 (bitsI .andNot .u64 x591 (IntKind.u64.wrap (1 * 2 ^ (min (Int.toNat x587) 64)))))) (31 + (Int.toNat x578))) fun x596 =>
  grd (((31 + (Int.toNat x578)) + 1) ≤ List.length c579) <|
  some ((.tup []), (List.set (List.set (List.set c579 ((1 + ((Int.toNat x577) * 5)) + (Int.toNat x578)) (.int .i64 (-1))) (26 + (Int.toNat x577)) (.int .u64 (bitsI .andNot .u64 x591 (IntKind.u64.wrap (1 * 2 ^ (min (Int.toNat x587) 64)))))) (31 + (Int.toNat x578)) (.int .u64 (bitsI .andNot .u64 x596 (IntKind.u64.wrap (1 * 2 ^ (min (Int.toNat x587) 64)))))))
theorem c90 (N : Nat) (x577 : Int) (x578 : Int) (c579 : List PV) (r : PV) (c599 : List PV) (h : m90 N x577 x578 c579 = some (r, c599)) : V.Fn Tryd.prog 90 1 [.ptr 0 0, .v (.int .i64 x577), .v (.int .i64 x578)] [(0, .p c579)] (fun d ob' => d = .v r ∧ ob' = [(0, .p c599)]) := by
  unfold m90 at h
  refine Fn_of (sz := 46) tab_ok [0, 1, 2, 6] [] Tryd.func90 rfl rfl rfl (by simp) ?_
  simp only [initSt, initEnv, List.map_cons, List.map_nil, List.getD_cons_zero, List.getD_cons_succ, List.getD_nil]
  have hh := grd_some h; clear h; obtain ⟨⟨g581, g582⟩, h⟩ := hh
  have hh := grd_some h; clear h; obtain ⟨⟨g583, g584⟩, h⟩ := hh
  have hh := grd_some h; clear h; obtain ⟨g585, h⟩ := hh
  have hh := getI_some h; clear h; obtain ⟨x587, h586, h⟩ := hh
  have hh := grd_some h; clear h; obtain ⟨g588, h⟩ := hh
  have hh := grd_some h; clear h; obtain ⟨g589, h⟩ := hh
  have hh := getI_some h; clear h; obtain ⟨x591, h590, h⟩ := hh
  have hh := grd_some h; clear h; obtain ⟨g592, h⟩ := hh
  have hh := grd_some h; clear h; obtain ⟨g593, h⟩ := hh
  have hh := grd_some h; clear h; obtain ⟨g594, h⟩ := hh
  have hh := getI_some h; clear h; obtain ⟨x596, h595, h⟩ := hh
  have hh := grd_some h; clear h; obtain ⟨g597, h⟩ := hh
  refine W_sound tab_ok mixed 55 _ _ _ ?_
  simp -implicitDefEqProofs only [go_sem, qa, qb, qc, qd, qe, qf, qg, qh, qi, qj, qk, ↓reduceIte, g581, g582, g583, g584, g585, h586, g588, g589, h590, g592, g593, g594, h595, g597]
  repeat with_reducible refine ⟨by first | kernel_rfl | decide, ?_⟩
  simp only [Option.some.injEq, Prod.mk.injEq] at h; obtain ⟨rfl, rfl⟩ := h
  exact finD (e2 := [(0, .dead), (1, .dead), (2, .dead), (6, .dead)]) (ob2 := [(0, .p (List.set (List.set (List.set c579 ((1 + ((Int.toNat x577) * 5)) + (Int.toNat x578)) (.int .i64 (-1))) (26 + (Int.toNat x577)) (.int .u64 (bitsI .andNot .u64 x591 (IntKind.u64.wrap (1 * 2 ^ (min (Int.toNat x587) 64)))))) (31 + (Int.toNat x578)) (.int .u64 (bitsI .andNot .u64 x596 (IntKind.u64.wrap (1 * 2 ^ (min (Int.toNat x587) 64)))))))]) (st' := ⟨[], [(0, .dead), (1, .dead), (2, .dead), (6, .dead)], [(0, .p (List.set (List.set (List.set c579 ((1 + ((Int.toNat x577) * 5)) + (Int.toNat x578)) (.int .i64 (-1))) (26 + (Int.toNat x577)) (.int .u64 (bitsI .andNot .u64 x591 (IntKind.u64.wrap (1 * 2 ^ (min (Int.toNat x587) 64)))))) (31 + (Int.toNat x578)) (.int .u64 (bitsI .andNot .u64 x596 (IntKind.u64.wrap (1 * 2 ^ (min (Int.toNat x587) 64)))))))], 1, []⟩) (.k (.k (.k (.k .nil)))) (.cons _ _ _ _ _ (DLes.refl _) .nil) (by kernel_rfl) (by simp only [go_sem, qa, qb, qc, qd, qe, qf, qg, qh, qi, qj, qk, ↓reduceIte, resQ_tmp, resQ_cell, resQ_nil, retD_one, retD_two, retD_three, retD_none]; try simp [R.val, retD_one, retD_two, retD_three, retD_none])
def m88_L0 (N : Nat) (rec : Int → Int → Int → List PV → List PV → Option ((PV × List PV × List PV))) (x628 : Int) (x629 : Int) (x630 : Int) : Nat → Int → List PV → List PV → Option (((PV × List PV × List PV) ⊕ (List PV × List PV)))
  | 0, _, _, _ => none
  | n + 1, x690, c691, c692 =>
    brn (x690 != 0) (
      bnd' (m87 N x690) fun p694 =>
      getI .i64 p694 fun x697 =>
      bnd' (m72 N x628 x629 x697 c692) fun (p698, c700) =>
      getT0 p698 <|
      bnd' (rec x628 (IntKind.i64.wrap (x629 + 1)) x630 c691 c700) fun (p702, c704, c705) =>
      getB p702 fun b707 =>
      brn b707 (
        some (.inl ((.bool true), c704, c705))) (
        bnd' (m90 N x628 x629 c705) fun (p709, c711) =>
        getT0 p709 <|
        m88_L0 N rec x628 x629 x630 n (bitsI .and .u64 x690 (IntKind.u64.wrap (x690 - 1))) c704 c711)) (
      some (.inr (c691, c692)))
def m88 (N : Nat) : Nat → Int → Int → Int → List PV → List PV → Option ((PV × List PV × List PV))
  | 0, _, _, _, _, _ => none
  | fu + 1, x628, x629, x630, c631, c632 =>
    brn (x628 == x630) (
      bnd' (m113 N c631 c632) fun (p636, c638) =>
      getB p636 fun b640 =>
      some ((.bool b640), c638, c632)) (
      grd (0 < List.length c632) <|
      getI .i64 (gp c632 0) fun x643 =>
      brn (x629 == x643) (
        bnd' ((m88 N fu) (IntKind.i64.wrap (x628 + 1)) 0 x630 c631 c632) fun (p645, c647, c648) =>
        getB p645 fun b650 =>
        some ((.bool b650), c647, c648)) (
        grd (0 ≤ x628 ∧ x628 < 5) <|
        grd (0 ≤ x629 ∧ x629 < 5) <|
        grd (((1 + ((Int.toNat x628) * 5)) + (Int.toNat x629)) < List.length c632) <|
        getI .i64 (gp c632 ((1 + ((Int.toNat x628) * 5)) + (Int.toNat x629))) fun x657 =>
        brn (decide (x657 ≥ 0)) (
          bnd' ((m88 N fu) x628 (IntKind.i64.wrap (x629 + 1)) x630 c631 c632) fun (p659, c661, c662) =>
          getB p659 fun b664 =>
          some ((.bool b664), c661, c662)) (
          bnd' (m89 N x628 x629 c632) fun p665 =>
          getI .u64 p665 fun x668 =>
          bnd' (m88_L0 N (m88 N fu) x628 x629 x630 N x668 c631 c632) fun o =>
          match o with
          | .inl p713 =>
            some p713
          | .inr (c714, c715) =>
            some ((.bool false), c714, c715))))
theorem c88 (N : Nat) : ∀ (fu : Nat) (x628 : Int) (x629 : Int) (x630 : Int) (c631 : List PV) (c632 : List PV) (r : PV) (c718 : List PV) (c719 : List PV) (h : m88 N fu x628 x629 x630 c631 c632 = some (r, c718, c719)), V.Fn Tryd.prog 88 6 [.v (.int .i64 x628), .v (.int .i64 x629), .ptr 0 0, .ptr 1 0, .ptr 3 0, .ptr 5 0] [(0, .p [(.int .i64 x630)]), (1, .r [.fn 1000070 [.ptr 2 0]]), (2, .p c631), (3, .r [.ptr 4 0]), (4, .p c632), (5, .r [.fn 88 [.ptr 0 0, .ptr 1 0, .ptr 3 0, .ptr 5 0]])] (fun d ob' => d = .v r ∧ ob' = [(0, .p [(.int .i64 x630)]), (1, .r [.fn 1000070 [.ptr 2 0]]), (2, .p c718), (3, .r [.ptr 4 0]), (4, .p c719), (5, .r [.fn 88 [.ptr 0 0, .ptr 1 0, .ptr 3 0, .ptr 5 0]])]) := by
  intro fu
  induction fu with
  | zero => intro x628 x629 x630 c631 c632 r c718 c719 h; cases h
  | succ fu ih =>
    intro x628 x629 x630 c631 c632 r c718 c719 h
    rw [m88] at h
    refine Fn_of (sz := 68) tab_ok [0, 1, 2, 3, 4, 5, 8, 9, 10, 17, 28, 48, 63] [.tmp 8] Tryd.func88 rfl rfl rfl (by simp) ?_
    simp only [initSt, initEnv, List.map_cons, List.map_nil, List.getD_cons_zero, List.getD_cons_succ, List.getD_nil]
    have hh := brn_some h; clear h; rcases hh with ⟨h635, h⟩ | ⟨h635, h⟩
    · have hh := bnd'_some h; clear h; obtain ⟨⟨p636, c638⟩, h637, h⟩ := hh
      (try dsimp only at h)
      refine W_sound tab_ok mixed 18 _ _ _ ?_
      simp -implicitDefEqProofs only [go_sem, qa, qb, qc, qd, qe, qf, qg, qh, qi, qj, qk, ↓reduceIte, h635]
      repeat with_reducible refine ⟨by first | kernel_rfl | decide, ?_⟩
      refine Wp_callDG (ds := [.ptr 2 0, .ptr 4 0]) [2, 4] (c113 N _ _ _ _ h637) (by kernel_rfl) rfl (by first | rfl | (simp only [go_sem, qa, qb, qc, qd, qe, qf, qg, qh, qi, qj, qk, ↓reduceIte, h635] <;> rfl)) rfl (by kernel_rfl) ?_
      have hh := getB_some h; clear h; obtain ⟨b640, h639, h⟩ := hh
      refine W_sound tab_ok mixed 4 _ _ _ ?_
      simp -implicitDefEqProofs only [go_sem, qa, qb, qc, qd, qe, qf, qg, qh, qi, qj, qk, ↓reduceIte, h635, h639]
      repeat with_reducible refine ⟨by first | kernel_rfl | decide, ?_⟩
      simp only [Option.some.injEq, Prod.mk.injEq] at h; obtain ⟨rfl, rfl, rfl⟩ := h
      exact finD (e2 := [(0, .dead), (1, .dead), (2, .dead), (3, .dead), (4, .dead), (5, .dead), (8, .v (.bool b640)), (9, .dead), (10, .dead), (17, .dead), (28, .dead), (48, .dead), (63, .dead)]) (ob2 := [(0, .p [(.int .i64 x630)]), (1, .r [.fn 1000070 [.ptr 2 0]]), (3, .r [.ptr 4 0]), (5, .r [.fn 88 [.ptr 0 0, .ptr 1 0, .ptr 3 0, .ptr 5 0]]), (4, .p c632), (2, .p c638)]) (st' := ⟨[], [(0, .dead), (1, .dead), (2, .dead), (3, .dead), (4, .dead), (5, .dead), (8, .v (.bool b640)), (9, .dead), (10, .dead), (17, .dead), (28, .dead), (48, .dead), (63, .dead)], [(0, .p [(.int .i64 x630)]), (1, .r [.fn 1000070 [.ptr 2 0]]), (2, .p c638), (3, .r [.ptr 4 0]), (4, .p c632), (5, .r [.fn 88 [.ptr 0 0, .ptr 1 0, .ptr 3 0, .ptr 5 0]])], 6, []⟩) (.k (.k (.k (.k (.k (.k (.r (.r (.k (.r (.r (.r (.r .nil))))))))))))) (.cons _ _ _ _ _ (DLes.refl _) (.cons _ _ _ _ _ (DLes.refl _) (.cons _ _ _ _ _ (DLes.refl _) (.cons _ _ _ _ _ (DLes.refl _) (.cons _ _ _ _ _ (DLes.refl _) (.cons _ _ _ _ _ (DLes.refl _) .nil)))))) (by kernel_rfl) (by simp only [go_sem, qa, qb, qc, qd, qe, qf, qg, qh, qi, qj, qk, ↓reduceIte, resQ_tmp, resQ_cell, resQ_nil, retD_one, retD_two, retD_three, retD_none]; try simp [R.val, retD_one, retD_two, retD_three, retD_none])
    · have hh := grd_some h; clear h; obtain ⟨g641, h⟩ := hh
      have hh := getI_some h; clear h; obtain ⟨x643, h642, h⟩ := hh
      have hh := brn_some h; clear h; rcases hh with ⟨h644, h⟩ | ⟨h644, h⟩
      · have hh := bnd'_some h; clear h; obtain ⟨⟨p645, c647, c648⟩, h646, h⟩ := hh
        (try dsimp only at h)
        refine W_sound tab_ok mixed 30 _ _ _ ?_
        simp -implicitDefEqProofs only [go_sem, qa, qb, qc, qd, qe, qf, qg, qh, qi, qj, qk, ↓reduceIte, h635, g641, h642, h644]
        repeat with_reducible refine ⟨by first | kernel_rfl | decide, ?_⟩
        refine Wp_callD [0, 1, 2, 3, 4, 5] (ih _ _ _ _ _ _ _ _ h646) rfl rfl rfl (by first | rfl | (simp only [go_sem, qa, qb, qc, qd, qe, qf, qg, qh, qi, qj, qk, ↓reduceIte, h635, g641, h642, h644] <;> rfl)) rfl (by kernel_rfl) ?_
        have hh := getB_some h; clear h; obtain ⟨b650, h649, h⟩ := hh
        refine W_sound tab_ok mixed 4 _ _ _ ?_
        simp -implicitDefEqProofs only [go_sem, qa, qb, qc, qd, qe, qf, qg, qh, qi, qj, qk, ↓reduceIte, h635, g641, h642, h644, h649]
        repeat with_reducible refine ⟨by first | kernel_rfl | decide, ?_⟩
        simp only [Option.some.injEq, Prod.mk.injEq] at h; obtain ⟨rfl, rfl, rfl⟩ := h
        exact finD (e2 := [(0, .dead), (1, .dead), (2, .dead), (3, .dead), (4, .dead), (5, .dead), (8, .v (.bool b650)), (9, .dead), (10, .dead), (17, .dead), (28, .dead), (48, .dead), (63, .dead)]) (ob2 := [(5, .r [.fn 88 [.ptr 0 0, .ptr 1 0, .ptr 3 0, .ptr 5 0]]), (4, .p c648), (3, .r [.ptr 4 0]), (2, .p c647), (1, .r [.fn 1000070 [.ptr 2 0]]), (0, .p [(.int .i64 x630)])]) (st' := ⟨[], [(0, .dead), (1, .dead), (2, .dead), (3, .dead), (4, .dead), (5, .dead), (8, .v (.bool b650)), (9, .dead), (10, .dead), (17, .dead), (28, .dead), (48, .dead), (63, .dead)], [(0, .p [(.int .i64 x630)]), (1, .r [.fn 1000070 [.ptr 2 0]]), (2, .p c647), (3, .r [.ptr 4 0]), (4, .p c648), (5, .r [.fn 88 [.ptr 0 0, .ptr 1 0, .ptr 3 0, .ptr 5 0]])], 6, []⟩) (.k (.k (.k (.k (.k (.k (.r (.r (.k (.k (.r (.r (.r .nil))))))))))))) (.cons _ _ _ _ _ (DLes.refl _) (.cons _ _ _ _ _ (DLes.refl _) (.cons _ _ _ _ _ (DLes.refl _) (.cons _ _ _ _ _ (DLes.refl _) (.cons _ _ _ _ _ (DLes.refl _) (.cons _ _ _ _ _ (DLes.refl _) .nil)))))) (by kernel_rfl) (by simp only [go_sem, qa, qb, qc, qd, qe, qf, qg, qh, qi, qj, qk, ↓reduceIte, resQ_tmp, resQ_cell, resQ_nil, retD_one, retD_two, retD_three, retD_none]; try simp [R.val, retD_one, retD_two, retD_three, retD_none])
      · have hh := grd_some h; clear h; obtain ⟨⟨g651, g652⟩, h⟩ := hh
        have hh := grd_some h; clear h; obtain ⟨⟨g653, g654⟩, h⟩ := hh
        have hh := grd_some h; clear h; obtain ⟨g655, h⟩ := hh
        have hh := getI_some h; clear h; obtain ⟨x657, h656, h⟩ := hh
        have hh := brn_some h; clear h; rcases hh with ⟨h658, h⟩ | ⟨h658, h⟩
        · have hh := bnd'_some h; clear h; obtain ⟨⟨p659, c661, c662⟩, h660, h⟩ := hh
          (try dsimp only at h)
          refine W_sound tab_ok mixed 45 _ _ _ ?_
          simp -implicitDefEqProofs only [go_sem, qa, qb, qc, qd, qe, qf, qg, qh, qi, qj, qk, ↓reduceIte, h635, g641, h642, h644, g651, g652, g653, g654, g655, h656, h658]
          repeat with_reducible refine ⟨by first | kernel_rfl | decide, ?_⟩
          refine Wp_callD [0, 1, 2, 3, 4, 5] (ih _ _ _ _ _ _ _ _ h660) rfl rfl rfl (by first | rfl | (simp only [go_sem, qa, qb, qc, qd, qe, qf, qg, qh, qi, qj, qk, ↓reduceIte, h635, g641, h642, h644, g651, g652, g653, g654, g655, h656, h658] <;> rfl)) rfl (by kernel_rfl) ?_
          have hh := getB_some h; clear h; obtain ⟨b664, h663, h⟩ := hh
          refine W_sound tab_ok mixed 4 _ _ _ ?_
          simp -implicitDefEqProofs only [go_sem, qa, qb, qc, qd, qe, qf, qg, qh, qi, qj, qk, ↓reduceIte, h635, g641, h642, h644, g651, g652, g653, g654, g655, h656, h658, h663]
          repeat with_reducible refine ⟨by first | kernel_rfl | decide, ?_⟩
          simp only [Option.some.injEq, Prod.mk.injEq] at h; obtain ⟨rfl, rfl, rfl⟩ := h
          exact finD (e2 := [(0, .dead), (1, .dead), (2, .dead), (3, .dead), (4, .dead), (5, .dead), (8, .v (.bool b664)), (9, .dead), (10, .dead), (17, .dead), (28, .dead), (48, .dead), (63, .dead)]) (ob2 := [(5, .r [.fn 88 [.ptr 0 0, .ptr 1 0, .ptr 3 0, .ptr 5 0]]), (4, .p c662), (3, .r [.ptr 4 0]), (2, .p c661), (1, .r [.fn 1000070 [.ptr 2 0]]), (0, .p [(.int .i64 x630)])]) (st' := ⟨[], [(0, .dead), (1, .dead), (2, .dead), (3, .dead), (4, .dead), (5, .dead), (8, .v (.bool b664)), (9, .dead), (10, .dead), (17, .dead), (28, .dead), (48, .dead), (63, .dead)], [(0, .p [(.int .i64 x630)]), (1, .r [.fn 1000070 [.ptr 2 0]]), (2, .p c661), (3, .r [.ptr 4 0]), (4, .p c662), (5, .r [.fn 88 [.ptr 0 0, .ptr 1 0, .ptr 3 0, .ptr 5 0]])], 6, []⟩) (.k (.k (.k (.k (.k (.k (.r (.r (.k (.k (.k (.r (.r .nil))))))))))))) (.cons _ _ _ _ _ (DLes.refl _) (.cons _ _ _ _ _ (DLes.refl _) (.cons _ _ _ _ _ (DLes.refl _) (.cons _ _ _ _ _ (DLes.refl _) (.cons _ _ _ _ _ (DLes.refl _) (.cons _ _ _ _ _ (DLes.refl _) .nil)))))) (by kernel_rfl) (by simp only [go_sem, qa, qb, qc, qd, qe, qf, qg, qh, qi, qj, qk, ↓reduceIte, resQ_tmp, resQ_cell, resQ_nil, retD_one, retD_two, retD_three, retD_none]; try simp [R.val, retD_one, retD_two, retD_three, retD_none])
        · have hh := bnd'_some h; clear h; obtain ⟨p665, h666, h⟩ := hh
          (try dsimp only at h)
          refine W_sound tab_ok mixed 47 _ _ _ ?_
          simp -implicitDefEqProofs only [go_sem, qa, qb, qc, qd, qe, qf, qg, qh, qi, qj, qk, ↓reduceIte, h635, g641, h642, h644, g651, g652, g653, g654, g655, h656, h658]
          repeat with_reducible refine ⟨by first | kernel_rfl | decide, ?_⟩
          refine Wp_callD [4] (c89 N _ _ _ _ h666) rfl rfl rfl (by first | rfl | (simp only [go_sem, qa, qb, qc, qd, qe, qf, qg, qh, qi, qj, qk, ↓reduceIte, h635, g641, h642, h644, g651, g652, g653, g654, g655, h656, h658] <;> rfl)) rfl (by kernel_rfl) ?_
          have hh := getI_some h; clear h; obtain ⟨x668, h667, h⟩ := hh
          refine W_sound tab_ok mixed 2 _ _ _ ?_
          simp -implicitDefEqProofs only [go_sem, qa, qb, qc, qd, qe, qf, qg, qh, qi, qj, qk, ↓reduceIte, h635, g641, h642, h644, g651, g652, g653, g654, g655, h656, h658, h667]
          repeat with_reducible refine ⟨by first | kernel_rfl | decide, ?_⟩
          have hh := bnd'_some h; clear h; obtain ⟨o720, h721, h722⟩ := hh
          refine Wp_cut (fun s => ∃ c714, ∃ c715, (.inr (c714, c715)) = o720 ∧ s = ⟨[], [(0, .dead), (1, .dead), (2, .dead), (3, .dead), (4, .dead), (5, .dead), (8, .dead), (9, .dead), (10, .dead), (17, .dead), (28, .dead), (48, .dead), (63, .dead)], [(0, .p [(.int .i64 x630)]), (1, .r [.fn 1000070 [.ptr 2 0]]), (2, .p c714), (3, .r [.ptr 4 0]), (4, .p c715), (5, .r [.fn 88 [.ptr 0 0, .ptr 1 0, .ptr 3 0, .ptr 5 0]])], 6, []⟩) ?_ ?_
          · refine Wp_block ?_
            refine Wp_loopG (fun n s => ∃ x690, ∃ c691, ∃ c692, m88_L0 N (m88 N fu) x628 x629 x630 n x690 c691 c692 = some o720 ∧ s = ⟨[], [(0, .v (.int .i64 x628)), (1, .v (.int .i64 x629)), (2, .dead), (3, .dead), (4, .ptr 3 0), (5, .ptr 5 0), (8, .dead), (9, .v (.int .u64 x690)), (10, .dead), (17, .dead), (28, .dead), (48, .dead), (63, .dead)], [(0, .p [(.int .i64 x630)]), (1, .r [.fn 1000070 [.ptr 2 0]]), (2, .p c691), (3, .r [.ptr 4 0]), (4, .p c692), (5, .r [.fn 88 [.ptr 0 0, .ptr 1 0, .ptr 3 0, .ptr 5 0]])], 6, []⟩) N _ ((Wk_le (.r (.r (.k (.k (.r (.r (.k (.r (.k (.k (.k (.r (.r .nil))))))))))))) (OLe.refl _)).trans (cmpS_ok (st' := ⟨[], [(0, .v (.int .i64 x628)), (1, .v (.int .i64 x629)), (2, .dead), (3, .dead), (4, .ptr 3 0), (5, .ptr 5 0), (8, .dead), (9, .v (.int .u64 x668)), (10, .dead), (17, .dead), (28, .dead), (48, .dead), (63, .dead)], [(0, .p [(.int .i64 x630)]), (1, .r [.fn 1000070 [.ptr 2 0]]), (2, .p c631), (3, .r [.ptr 4 0]), (4, .p c632), (5, .r [.fn 88 [.ptr 0 0, .ptr 1 0, .ptr 3 0, .ptr 5 0]])], 6, []⟩) (by kernel_rfl))) ⟨_, _, _, h721, rfl⟩ ?_
            clear h721
            rintro n _ ⟨x690, c691, c692, h721, rfl⟩
            cases n with
            | zero => cases h721
            | succ n =>
              rw [m88_L0] at h721
              have hh := brn_some h721; clear h721; rcases hh with ⟨h693, h721⟩ | ⟨h693, h721⟩
              · have hh := bnd'_some h721; clear h721; obtain ⟨p694, h695, h721⟩ := hh
                refine W_sound tab_ok mixed 16 _ _ _ ?_
                simp -implicitDefEqProofs only [go_sem, qa, qb, qc, qd, qe, qf, qg, qh, qi, qj, qk, ↓reduceIte, h635, g641, h642, h644, g651, g652, g653, g654, g655, h656, h658, h667, h693]
                repeat with_reducible refine ⟨by first | kernel_rfl | decide, ?_⟩
                refine Wp_callP (c87 N _ _ h695) (by kernel_rfl) rfl rfl rfl rfl (by decide) ?_
                have hh := getI_some h721; clear h721; obtain ⟨x697, h696, h721⟩ := hh
                have hh := bnd'_some h721; clear h721; obtain ⟨⟨p698, c700⟩, h699, h721⟩ := hh
                (try dsimp only at h721)
                (try simp -implicitDefEqProofs only [go_sem, qa, qb, qc, qd, qe, qf, qg, qh, qi, qj, qk, ↓reduceIte, h635, g641, h642, h644, g651, g652, g653, g654, g655, h656, h658, h667, h693, h696])
                refine Wp_callD [4] (c72 N _ _ _ _ _ _ h699) rfl rfl rfl (by first | rfl | (simp only [go_sem, qa, qb, qc, qd, qe, qf, qg, qh, qi, qj, qk, ↓reduceIte, h635, g641, h642, h644, g651, g652, g653, g654, g655, h656, h658, h667, h693, h696] <;> rfl)) rfl (by kernel_rfl) ?_
                have hh := getT0_some h721; clear h721; obtain ⟨h701, h721⟩ := hh
                have hh := bnd'_some h721; clear h721; obtain ⟨⟨p702, c704, c705⟩, h703, h721⟩ := hh
                (try dsimp only at h721)
                refine W_sound tab_ok mixed 8 _ _ _ ?_
                simp -implicitDefEqProofs only [go_sem, qa, qb, qc, qd, qe, qf, qg, qh, qi, qj, qk, ↓reduceIte, h635, g641, h642, h644, g651, g652, g653, g654, g655, h656, h658, h667, h693, h696, h701]
                repeat with_reducible refine ⟨by first | kernel_rfl | decide, ?_⟩
                refine Wp_callD [0, 1, 2, 3, 4, 5] (ih _ _ _ _ _ _ _ _ h703) rfl rfl rfl (by first | rfl | (simp only [go_sem, qa, qb, qc, qd, qe, qf, qg, qh, qi, qj, qk, ↓reduceIte, h635, g641, h642, h644, g651, g652, g653, g654, g655, h656, h658, h667, h693, h696, h701] <;> rfl)) rfl (by kernel_rfl) ?_
                have hh := getB_some h721; clear h721; obtain ⟨b707, h706, h721⟩ := hh
                have hh := brn_some h721; clear h721; rcases hh with ⟨h708, h721⟩ | ⟨h708, h721⟩
                · refine W_sound tab_ok mixed 8 _ _ _ ?_
                  simp -implicitDefEqProofs only [go_sem, qa, qb, qc, qd, qe, qf, qg, qh, qi, qj, qk, ↓reduceIte, h635, g641, h642, h644, g651, g652, g653, g654, g655, h656, h658, h667, h693, h696, h701, h706, h708]
                  repeat with_reducible refine ⟨by first | kernel_rfl | decide, ?_⟩
                  obtain rfl := Option.some.inj h721
                  (try dsimp only at h722)
                  simp only [Option.some.injEq, Prod.mk.injEq] at h722; obtain ⟨rfl, rfl, rfl⟩ := h722
                  exact finD (e2 := [(0, .dead), (1, .dead), (2, .dead), (3, .dead), (4, .dead), (5, .dead), (8, .v (.bool true)), (9, .dead), (10, .dead), (17, .dead), (28, .dead), (48, .dead), (63, .dead)]) (ob2 := [(5, .r [.fn 88 [.ptr 0 0, .ptr 1 0, .ptr 3 0, .ptr 5 0]]), (4, .p c705), (3, .r [.ptr 4 0]), (2, .p c704), (1, .r [.fn 1000070 [.ptr 2 0]]), (0, .p [(.int .i64 x630)])]) (st' := ⟨[], [(0, .dead), (1, .dead), (2, .dead), (3, .dead), (4, .dead), (5, .dead), (8, .v (.bool true)), (9, .dead), (10, .dead), (17, .dead), (28, .dead), (48, .dead), (63, .dead)], [(0, .p [(.int .i64 x630)]), (1, .r [.fn 1000070 [.ptr 2 0]]), (2, .p c704), (3, .r [.ptr 4 0]), (4, .p c705), (5, .r [.fn 88 [.ptr 0 0, .ptr 1 0, .ptr 3 0, .ptr 5 0]])], 6, []⟩) (.k (.k (.r (.r (.k (.k (.r (.k (.r (.r (.r (.k (.k .nil))))))))))))) (.cons _ _ _ _ _ (DLes.refl _) (.cons _ _ _ _ _ (DLes.refl _) (.cons _ _ _ _ _ (DLes.refl _) (.cons _ _ _ _ _ (DLes.refl _) (.cons _ _ _ _ _ (DLes.refl _) (.cons _ _ _ _ _ (DLes.refl _) .nil)))))) (by kernel_rfl) (by simp only [go_sem, qa, qb, qc, qd, qe, qf, qg, qh, qi, qj, qk, ↓reduceIte, resQ_tmp, resQ_cell, resQ_nil, retD_one, retD_two, retD_three, retD_none]; try simp [R.val, retD_one, retD_two, retD_three, retD_none])
                · have hh := bnd'_some h721; clear h721; obtain ⟨⟨p709, c711⟩, h710, h721⟩ := hh
                  (try dsimp only at h721)
                  refine W_sound tab_ok mixed 7 _ _ _ ?_
                  simp -implicitDefEqProofs only [go_sem, qa, qb, qc, qd, qe, qf, qg, qh, qi, qj, qk, ↓reduceIte, h635, g641, h642, h644, g651, g652, g653, g654, g655, h656, h658, h667, h693, h696, h701, h706, h708]
                  repeat with_reducible refine ⟨by first | kernel_rfl | decide, ?_⟩
                  refine Wp_callD [4] (c90 N _ _ _ _ _ h710) rfl rfl rfl (by first | rfl | (simp only [go_sem, qa, qb, qc, qd, qe, qf, qg, qh, qi, qj, qk, ↓reduceIte, h635, g641, h642, h644, g651, g652, g653, g654, g655, h656, h658, h667, h693, h696, h701, h706, h708] <;> rfl)) rfl (by kernel_rfl) ?_
                  have hh := getT0_some h721; clear h721; obtain ⟨h712, h721⟩ := hh
                  refine W_sound tab_ok mixed 9 _ _ _ ?_
                  simp -implicitDefEqProofs only [go_sem, qa, qb, qc, qd, qe, qf, qg, qh, qi, qj, qk, ↓reduceIte, h635, g641, h642, h644, g651, g652, g653, g654, g655, h656, h658, h667, h693, h696, h701, h706, h708, h712]
                  repeat with_reducible refine ⟨by first | kernel_rfl | decide, ?_⟩
                  exact cutQ _ ((Wk_le (.r (.r (.r (.r (.r (.r (.r (.r (.r (.r (.r (.k (.k .nil))))))))))))) (OLe.refl _)).trans (cmpS_ok (st' := ⟨[], [(0, .v (.int .i64 x628)), (1, .v (.int .i64 x629)), (2, .dead), (3, .dead), (4, .ptr 3 0), (5, .ptr 5 0), (8, .dead), (9, .v (.int .u64 (bitsI .and .u64 x690 (IntKind.u64.wrap (x690 - 1))))), (10, .dead), (17, .dead), (28, .dead), (48, .dead), (63, .dead)], [(0, .p [(.int .i64 x630)]), (1, .r [.fn 1000070 [.ptr 2 0]]), (2, .p c704), (3, .r [.ptr 4 0]), (4, .p c711), (5, .r [.fn 88 [.ptr 0 0, .ptr 1 0, .ptr 3 0, .ptr 5 0]])], 6, []⟩) (by kernel_rfl))) ⟨n, Nat.lt_succ_self n, _, _, _, h721, rfl⟩
              · refine W_sound tab_ok mixed 8 _ _ _ ?_
                simp -implicitDefEqProofs only [go_sem, qa, qb, qc, qd, qe, qf, qg, qh, qi, qj, qk, ↓reduceIte, h635, g641, h642, h644, g651, g652, g653, g654, g655, h656, h658, h667, h693]
                repeat with_reducible refine ⟨by first | kernel_rfl | decide, ?_⟩
                obtain rfl := Option.some.inj h721
                exact cutQ _ ((Wk_le (.k (.k (.r (.r (.k (.k (.r (.k (.r (.r (.r (.k (.r .nil))))))))))))) (OLe.refl _)).trans (cmpS_ok (st' := ⟨[], [(0, .dead), (1, .dead), (2, .dead), (3, .dead), (4, .dead), (5, .dead), (8, .dead), (9, .dead), (10, .dead), (17, .dead), (28, .dead), (48, .dead), (63, .dead)], [(0, .p [(.int .i64 x630)]), (1, .r [.fn 1000070 [.ptr 2 0]]), (2, .p c691), (3, .r [.ptr 4 0]), (4, .p c692), (5, .r [.fn 88 [.ptr 0 0, .ptr 1 0, .ptr 3 0, .ptr 5 0]])], 6, []⟩) (by kernel_rfl))) ⟨_, _, rfl, rfl⟩
          · rintro _ ⟨c714, c715, rfl, rfl⟩
            (try dsimp only at h722)
            refine W_sound tab_ok mixed 6 _ _ _ ?_
            simp -implicitDefEqProofs only [go_sem, qa, qb, qc, qd, qe, qf, qg, qh, qi, qj, qk, ↓reduceIte, h635, g641, h642, h644, g651, g652, g653, g654, g655, h656, h658, h667]
            repeat with_reducible refine ⟨by first | kernel_rfl | decide, ?_⟩
            simp only [Option.some.injEq, Prod.mk.injEq] at h722; obtain ⟨rfl, rfl, rfl⟩ := h722
            exact finD (e2 := [(0, .dead), (1, .dead), (2, .dead), (3, .dead), (4, .dead), (5, .dead), (8, .v (.bool false)), (9, .dead), (10, .dead), (17, .dead), (28, .dead), (48, .dead), (63, .dead)]) (ob2 := [(0, .p [(.int .i64 x630)]), (1, .r [.fn 1000070 [.ptr 2 0]]), (2, .p c714), (3, .r [.ptr 4 0]), (4, .p c715), (5, .r [.fn 88 [.ptr 0 0, .ptr 1 0, .ptr 3 0, .ptr 5 0]])]) (st' := ⟨[], [(0, .dead), (1, .dead), (2, .dead), (3, .dead), (4, .dead), (5, .dead), (8, .v (.bool false)), (9, .dead), (10, .dead), (17, .dead), (28, .dead), (48, .dead), (63, .dead)], [(0, .p [(.int .i64 x630)]), (1, .r [.fn 1000070 [.ptr 2 0]]), (2, .p c714), (3, .r [.ptr 4 0]), (4, .p c715), (5, .r [.fn 88 [.ptr 0 0, .ptr 1 0, .ptr 3 0, .ptr 5 0]])], 6, []⟩) (.r (.r (.r (.r (.r (.r (.r (.r (.r (.r (.r (.r (.r .nil))))))))))))) (.cons _ _ _ _ _ (DLes.refl _) (.cons _ _ _ _ _ (DLes.refl _) (.cons _ _ _ _ _ (DLes.refl _) (.cons _ _ _ _ _ (DLes.refl _) (.cons _ _ _ _ _ (DLes.refl _) (.cons _ _ _ _ _ (DLes.refl _) .nil)))))) (by kernel_rfl) (by simp only [go_sem, qa, qb, qc, qd, qe, qf, qg, qh, qi, qj, qk, ↓reduceIte, resQ_tmp, resQ_cell, resQ_nil, retD_one, retD_two, retD_three, retD_none]; try simp [R.val, retD_one, retD_two, retD_three, retD_none])
def m64 (N : Nat) (c731 : List PV) (c732 : List PV) : Option ((PV × List PV × List PV)) :=
  bnd' (m112 N c732) fun p735 =>
  getT2 p735 fun p738 p739 =>
  getI .i64 p738 fun x741 =>
  getI .i64 p739 fun x743 =>
  bnd' (m88 N N x741 0 x743 c732 c731) fun (p744, c746, c747) =>
  getB p744 fun b749 =>
  some ((.tup []), c747, c746)
theorem c64 (N : Nat) (c731 : List PV) (c732 : List PV) (r : PV) (c752 : List PV) (c753 : List PV) (h : m64 N c731 c732 = some (r, c752, c753)) : V.Fn Tryd.prog 64 2 [.ptr 0 0, .fn 1000070 [.ptr 1 0]] [(0, .p c731), (1, .p c732)] (fun d ob' => d = .v r ∧ ob' = [(0, .p c752), (1, .p c753)]) := by
  unfold m64 at h
  refine Fn_of (sz := 16) tab_ok [0, 1, 2, 3, 4, 5, 6] [] Tryd.func64 rfl rfl rfl (by simp) ?_
  simp only [initSt, initEnv, List.map_cons, List.map_nil, List.getD_cons_zero, List.getD_cons_succ, List.getD_nil]
  have hh := bnd'_some h; clear h; obtain ⟨p735, h736, h⟩ := hh
  (try dsimp only at h)
  refine W_sound tab_ok mixed 8 _ _ _ ?_
  simp -implicitDefEqProofs only [go_sem, qa, qb, qc, qd, qe, qf, qg, qh, qi, qj, qk, ↓reduceIte]
  repeat with_reducible refine ⟨by first | kernel_rfl | decide, ?_⟩
  refine Wp_callDG (ds := [.ptr 1 0]) [1] (c112 N _ _ h736) (by kernel_rfl) rfl (by first | rfl | (simp only [go_sem, qa, qb, qc, qd, qe, qf, qg, qh, qi, qj, qk, ↓reduceIte] <;> rfl)) rfl (by kernel_rfl) ?_
  have hh := getT2_some h; clear h; obtain ⟨p738, p739, h737, h⟩ := hh
  have hh := getI_some h; clear h; obtain ⟨x741, h740, h⟩ := hh
  have hh := getI_some h; clear h; obtain ⟨x743, h742, h⟩ := hh
  have hh := bnd'_some h; clear h; obtain ⟨⟨p744, c746, c747⟩, h745, h⟩ := hh
  (try dsimp only at h)
  refine W_sound tab_ok mixed 19 _ _ _ ?_
  simp -implicitDefEqProofs only [go_sem, qa, qb, qc, qd, qe, qf, qg, qh, qi, qj, qk, ↓reduceIte, h737, h740, h742]
  repeat with_reducible refine ⟨by first | kernel_rfl | decide, ?_⟩
  refine Wp_callD [11, 5, 1, 4, 0, 18] (c88 N N _ _ _ _ _ _ _ _ h745) rfl rfl rfl (by first | rfl | (simp only [go_sem, qa, qb, qc, qd, qe, qf, qg, qh, qi, qj, qk, ↓reduceIte, h737, h740, h742] <;> rfl)) rfl (by kernel_rfl) ?_
  have hh := getB_some h; clear h; obtain ⟨b749, h748, h⟩ := hh
  refine W_sound tab_ok mixed 2 _ _ _ ?_
  simp -implicitDefEqProofs only [go_sem, qa, qb, qc, qd, qe, qf, qg, qh, qi, qj, qk, ↓reduceIte, h737, h740, h742, h748]
  repeat with_reducible refine ⟨by first | kernel_rfl | decide, ?_⟩
  simp only [Option.some.injEq, Prod.mk.injEq] at h; obtain ⟨rfl, rfl, rfl⟩ := h
  exact finD (e2 := [(0, .dead), (1, .dead), (2, .dead), (3, .dead), (4, .dead), (5, .dead), (6, .dead)]) (ob2 := [(18, .r [.fn 88 [.ptr 11 0, .ptr 5 0, .ptr 4 0, .ptr 18 0]]), (0, .p c747), (4, .r [.ptr 0 0]), (1, .p c746), (5, .r [.fn 1000070 [.ptr 1 0]]), (11, .p [(.int .i64 x743)])]) (st' := ⟨[], [(0, .dead), (1, .dead), (2, .dead), (3, .dead), (4, .dead), (5, .dead), (6, .dead)], [(0, .p c747), (1, .p c746)], 2, []⟩) (.k (.k (.k (.k (.k (.k (.k .nil))))))) (.cons _ _ _ _ _ (DLes.refl _) (.cons _ _ _ _ _ (DLes.refl _) (.cons _ _ _ _ _ (DLes.refl _) (.cons _ _ _ _ _ (DLes.refl _) (.cons _ _ _ _ _ (DLes.refl _) (.cons _ _ _ _ _ (DLes.refl _) .nil)))))) (by kernel_rfl) (by simp only [go_sem, qa, qb, qc, qd, qe, qf, qg, qh, qi, qj, qk, ↓reduceIte, resQ_tmp, resQ_cell, resQ_nil, retD_one, retD_two, retD_three, retD_none]; try simp [R.val, retD_one, retD_two, retD_three, retD_none])
def m56 (N : Nat) (p770 : PV) : Option (PV) :=
  getL p770 fun n772 c773 =>
  grd (0 < n772) <|
  grd (List.length c773 = n772) <|
  grd (n772 ≤ 1099511627776) <|
  some (.lst false n772 c773)
theorem c56 (N : Nat) (p770 : PV) (r : PV)  (h : m56 N p770 = some r) : FnP Tryd.prog 56 [p770] r := by
  unfold m56 at h
  refine Fn_of (sz := 8) tab_ok [0, 2, 4] [.tmp 2] Tryd.func56 rfl rfl rfl (by simp) ?_
  simp only [initSt, initEnv, List.map_cons, List.map_nil, List.getD_cons_zero, List.getD_cons_succ, List.getD_nil]
  have hh := getL_some h; clear h; obtain ⟨n772, c773, h771, h⟩ := hh
  have hh := grd_some h; clear h; obtain ⟨g774, h⟩ := hh
  have hh := grd_some h; clear h; obtain ⟨g775, h⟩ := hh
  have hh := grd_some h; clear h; obtain ⟨g776, h⟩ := hh
  refine W_sound tab_ok mixed 21 _ _ _ ?_
  simp -implicitDefEqProofs only [go_sem, qa, qb, qc, qd, qe, qf, qg, qh, qi, qj, qk, ↓reduceIte, h771, g774, g775, g776]
  repeat with_reducible refine ⟨by first | kernel_rfl | decide, ?_⟩
  refine FinQ_wk (Wk_freeze 7 c773 (by rfl) (by decide) (by decide)) ?_
  simp -implicitDefEqProofs only [go_sem, qa, qb, qc, qd, qe, qf, qg, qh, qi, qj, qk, ↓reduceIte, h771, g774, g775, g776]
  obtain rfl := Option.some.inj h
  exact finC [(2, .v (.lst false n772 c773))] [(2, .v (.lst false n772 c773))] (by simp [leE, lk_cons]) (.cons _ _ _ _ _ (.v _ _ (.refl _)) .nil) (by rfl) (by simp [leE, lk_cons]) (by decide) (by decide) rfl (by simp only [go_sem, qa, qb, qc, qd, qe, qf, qg, qh, qi, qj, qk, ↓reduceIte, resQ_tmp, resQ_cell, resQ_nil, retD_one, retD_two, retD_three, retD_none]; try simp [R.val, retD_one, retD_two, retD_three, retD_none])
def m65_L0 (N : Nat) (x761 : Int) (c763 : List PV) : Nat → Nat → Int → List PV → Option ((Nat × List PV))
  | 0, _, _, _ => none
  | n + 1, n815, x816, c817 =>
    brn (decide (x816 < x761)) (
      grd (0 ≤ x816 ∧ x816 < 5) <|
      grd (0 ≤ x761 ∧ x761 ≤ 5) <|
      bnd' (m56 N (.lst false (Int.toNat x761) (List.take (Int.toNat x761) (List.drop ((Int.toNat x816) * 5) c763)))) fun p823 =>
      getL p823 fun n826 c827 =>
      grd ((n815 + 1) ≤ 1099511627776) <|
      grd (List.length c817 = n815) <|
      m65_L0 N x761 c763 n (n815 + 1) (IntKind.i64.wrap (x816 + 1)) (c817 ++ [(.lst false n826 c827)])) (
      some (n815, c817))
def m65 (N : Nat) (p760 : PV) (x761 : Int) : Option (PV) :=
  getA p760 fun c763 =>
  bnd' (m65_L0 N x761 c763 N 0 0 []) fun o =>
  match o with
  | (n830, c831) =>
    grd (List.length c831 = n830) <|
    some (.lst false n830 c831)
theorem c65 (N : Nat) (p760 : PV) (x761 : Int) (r : PV)  (h : m65 N p760 x761 = some r) : FnP Tryd.prog 65 [p760, (.int .i64 x761)] r := by
  unfold m65 at h
  refine Fn_of (sz := 21) tab_ok [0, 1, 2, 4, 5, 6, 7, 8, 9] [.tmp 4] Tryd.func65 rfl rfl rfl (by simp) ?_
  simp only [initSt, initEnv, List.map_cons, List.map_nil, List.getD_cons_zero, List.getD_cons_succ, List.getD_nil]
  have hh := getA_some h; clear h; obtain ⟨c763, h762, h⟩ := hh
  refine W_sound tab_ok mixed 15 _ _ _ ?_
  simp -implicitDefEqProofs only [go_sem, qa, qb, qc, qd, qe, qf, qg, qh, qi, qj, qk, ↓reduceIte, h762]
  repeat with_reducible refine ⟨by first | kernel_rfl | decide, ?_⟩
  refine Wp_wkK (Wk_freeze 2 c763 (by rfl) (by decide) (by decide)) rfl ?_
  simp -implicitDefEqProofs only [go_sem, qa, qb, qc, qd, qe, qf, qg, qh, qi, qj, qk, ↓reduceIte, h762]
  (try simp -implicitDefEqProofs only [go_sem, qa, qb, qc, qd, qe, qf, qg, qh, qi, qj, qk, ↓reduceIte, h762])
  refine Wp_weaken (Wk_ownS 5 1 rfl (by decide) (by decide)) ?_
  simp -implicitDefEqProofs only [go_sem, qa, qb, qc, qd, qe, qf, qg, qh, qi, qj, qk, ↓reduceIte, h762]
  have hh := bnd'_some h; clear h; obtain ⟨o833, h834, h835⟩ := hh
  refine Wp_cut (fun s => ∃ n830, ∃ c831, (n830, c831) = o833 ∧ s = ⟨[], [(0, .dead), (1, .dead), (2, .dead), (4, .dead), (5, .sl false 0 0 n830 1), (6, .dead), (7, .dead), (8, .dead), (9, .dead)], [(0, .p c831)], 1, []⟩) ?_ ?_
  · refine Wp_block ?_
    refine Wp_loopG (fun n s => ∃ n815, ∃ x816, ∃ c817, m65_L0 N x761 c763 n n815 x816 c817 = some o833 ∧ s = ⟨[], [(0, .dead), (1, .v (.int .i64 x761)), (2, .v (.ipt c763)), (4, .dead), (5, .sl false 0 0 n815 1), (6, .dead), (7, .v (.int .i64 x761)), (8, .v (.int .i64 x816)), (9, .dead)], [(0, .p c817)], 1, []⟩) N _ ((Wk_le (.k (.r (.r (.k (.r (.r (.r (.r (.r .nil))))))))) (OLe.refl _)).trans (cmpS_ok (st' := ⟨[], [(0, .dead), (1, .v (.int .i64 x761)), (2, .v (.ipt c763)), (4, .dead), (5, .sl false 0 0 0 1), (6, .dead), (7, .v (.int .i64 x761)), (8, .v (.int .i64 0)), (9, .dead)], [(0, .p [])], 1, []⟩) (by kernel_rfl))) ⟨_, _, _, h834, rfl⟩ ?_
    clear h834
    rintro n _ ⟨n815, x816, c817, h834, rfl⟩
    cases n with
    | zero => cases h834
    | succ n =>
      rw [m65_L0] at h834
      have hh := brn_some h834; clear h834; rcases hh with ⟨h818, h834⟩ | ⟨h818, h834⟩
      · have hh := grd_some h834; clear h834; obtain ⟨⟨g819, g820⟩, h834⟩ := hh
        have hh := grd_some h834; clear h834; obtain ⟨⟨g821, g822⟩, h834⟩ := hh
        have hh := bnd'_some h834; clear h834; obtain ⟨p823, h824, h834⟩ := hh
        refine W_sound tab_ok mixed 20 _ _ _ ?_
        simp -implicitDefEqProofs only [go_sem, qa, qb, qc, qd, qe, qf, qg, qh, qi, qj, qk, ↓reduceIte, h762, h818, g819, g820, g821, g822]
        repeat with_reducible refine ⟨by first | kernel_rfl | decide, ?_⟩
        refine Wp_callP (c56 N _ _ h824) (by kernel_rfl) rfl rfl rfl rfl (by decide) ?_
        have hh := getL_some h834; clear h834; obtain ⟨n826, c827, h825, h834⟩ := hh
        have hh := grd_some h834; clear h834; obtain ⟨g828, h834⟩ := hh
        have hh := grd_some h834; clear h834; obtain ⟨g829, h834⟩ := hh
        refine W_sound tab_ok mixed 9 _ _ _ ?_
        simp -implicitDefEqProofs only [go_sem, qa, qb, qc, qd, qe, qf, qg, qh, qi, qj, qk, ↓reduceIte, h762, h818, g819, g820, g821, g822, h825, g828, g829]
        repeat with_reducible refine ⟨by first | kernel_rfl | decide, ?_⟩
        exact cutQ _ ((Wk_le (.r (.r (.r (.r (.r (.k (.r (.r (.k .nil))))))))) (OLe.refl _)).trans (cmpS_ok (st' := ⟨[], [(0, .dead), (1, .v (.int .i64 x761)), (2, .v (.ipt c763)), (4, .dead), (5, .sl false 0 0 (n815 + 1) 1), (6, .dead), (7, .v (.int .i64 x761)), (8, .v (.int .i64 (IntKind.i64.wrap (x816 + 1)))), (9, .dead)], [(0, .p (c817 ++ [(.lst false n826 c827)]))], 1, []⟩) (by kernel_rfl))) ⟨n, Nat.lt_succ_self n, _, _, _, h834, rfl⟩
      · refine W_sound tab_ok mixed 7 _ _ _ ?_
        simp -implicitDefEqProofs only [go_sem, qa, qb, qc, qd, qe, qf, qg, qh, qi, qj, qk, ↓reduceIte, h762, h818]
        repeat with_reducible refine ⟨by first | kernel_rfl | decide, ?_⟩
        obtain rfl := Option.some.inj h834
        exact cutQ _ ((Wk_le (.r (.k (.k (.r (.r (.r (.k (.k (.k .nil))))))))) (OLe.refl _)).trans (cmpS_ok (st' := ⟨[], [(0, .dead), (1, .dead), (2, .dead), (4, .dead), (5, .sl false 0 0 n815 1), (6, .dead), (7, .dead), (8, .dead), (9, .dead)], [(0, .p c817)], 1, []⟩) (by kernel_rfl))) ⟨_, _, rfl, rfl⟩
  · rintro _ ⟨n830, c831, rfl, rfl⟩
    (try dsimp only at h835)
    refine W_sound tab_ok mixed 7 _ _ _ ?_
    simp -implicitDefEqProofs only [go_sem, qa, qb, qc, qd, qe, qf, qg, qh, qi, qj, qk, ↓reduceIte, h762]
    repeat with_reducible refine ⟨by first | kernel_rfl | decide, ?_⟩
    have hh := grd_some h835; clear h835; obtain ⟨g832, h835⟩ := hh
    refine FinQ_wk (Wk_freeze 0 c831 (by rfl) (by decide) (by decide)) ?_
    simp -implicitDefEqProofs only [go_sem, qa, qb, qc, qd, qe, qf, qg, qh, qi, qj, qk, ↓reduceIte, h762, g832]
    obtain rfl := Option.some.inj h835
    exact finC [(4, .v (.lst false n830 c831))] [(4, .v (.lst false n830 c831))] (by simp [leE, lk_cons]) (.cons _ _ _ _ _ (.v _ _ (.refl _)) .nil) (by rfl) (by simp [leE, lk_cons]) (by decide) (by decide) rfl (by simp only [go_sem, qa, qb, qc, qd, qe, qf, qg, qh, qi, qj, qk, ↓reduceIte, resQ_tmp, resQ_cell, resQ_nil, retD_one, retD_two, retD_three, retD_none]; try simp [R.val, retD_one, retD_two, retD_three, retD_none])
def m19 (N : Nat) (x444 : Int) (p445 : PV) : Option (PV) :=
  getL p445 fun n447 c448 =>
  bnd' (m61 N x444 (.lst false n447 c448) x444) fun o =>
  match o with
  | .inl x450 =>
    brn (x450 != 0) (
      some (.tup [(.lst false 0 []), (.int .i64 x450)])) (
      brn (((n447 : Nat) : Int) == x444) (
        some (.tup [(.lst false 0 []), (.int .i64 16)])) (
        none))
  | .inr (x453, c454) =>
    brn (x453 != 0) (
      some (.tup [(.lst false 0 []), (.int .i64 x453)])) (
      brn (((n447 : Nat) : Int) == x444) (
        some (.tup [(.lst false 0 []), (.int .i64 16)])) (
        bnd' (m64 N c454 [(.int .i64 ((n447 : Nat) : Int)), (.int .i64 (IntKind.i64.wrap (((n447 : Nat) : Int) + 1))), (.bool false), (.int .i64 0), (.int .i64 0), (.int .i64 0), (.int .i64 0), (.int .i64 0), (.int .i64 0), (.int .i64 0), (.int .i64 0), (.int .i64 0), (.int .i64 0), (.int .i64 0), (.int .i64 0), (.int .i64 0), (.int .i64 0), (.int .i64 0), (.int .i64 0), (.int .i64 0), (.int .i64 0), (.int .i64 0), (.int .i64 0), (.int .i64 0), (.int .i64 0), (.int .i64 0), (.int .i64 0), (.int .i64 0)]) fun (p754, c756, c757) =>
        getT0 p754 <|
        grd (28 ≤ List.length c757) <|
        bnd' (m65 N (.agg (List.take 25 (List.drop 3 c757))) x444) fun p836 =>
        getL p836 fun n839 c840 =>
        grd (0 ≤ ((n447 : Nat) : Int) ∧ ((n447 : Nat) : Int) < ((n839 : Nat) : Int)) <|
        grd (0 < List.length (List.drop n447 c840)) <|
        getL (gp c840 n447) fun n845 c846 =>
        some (.tup [(.lst false n845 c846), (.int .i64 0)])))
theorem c19 (N : Nat) (x444 : Int) (p445 : PV) (r : PV)  (h : m19 N x444 p445 = some r) : FnP Tryd.prog 19 [(.int .i64 x444), p445] r := by
  unfold m19 at h
  refine Fn_of (sz := 46) tab_ok [0, 1, 4, 5, 6, 7, 8, 16, 20] [.tmp 4, .tmp 5] Tryd.func19 rfl rfl rfl (by simp) ?_
  simp only [initSt, initEnv, List.map_cons, List.map_nil, List.getD_cons_zero, List.getD_cons_succ, List.getD_nil]
  have hh := getL_some h; clear h; obtain ⟨n447, c448, h446, h⟩ := hh
  have hh := bnd'_some h; clear h; obtain ⟨oo, h449, h⟩ := hh
  rcases oo with x450 | ⟨x453, c454⟩
  · (try dsimp only at h)
    refine W_sound tab_ok mixed 10 _ _ _ ?_
    simp -implicitDefEqProofs only [go_sem, qa, qb, qc, qd, qe, qf, qg, qh, qi, qj, qk, ↓reduceIte, h446]
    repeat with_reducible refine ⟨by first | kernel_rfl | decide, ?_⟩
    refine Wp_callD [] (c61_a N _ _ _ _ h449) rfl rfl rfl (by first | rfl | (simp only [go_sem, qa, qb, qc, qd, qe, qf, qg, qh, qi, qj, qk, ↓reduceIte, h446] <;> rfl)) rfl (by kernel_rfl) ?_
    have hh := brn_some h; clear h; rcases hh with ⟨h451, h⟩ | ⟨h451, h⟩
    · refine W_sound tab_ok mixed 23 _ _ _ ?_
      simp -implicitDefEqProofs only [go_sem, qa, qb, qc, qd, qe, qf, qg, qh, qi, qj, qk, ↓reduceIte, h446, h451]
      repeat with_reducible refine ⟨by first | kernel_rfl | decide, ?_⟩
      obtain rfl := Option.some.inj h
      exact finC [(4, .v .nl), (5, .v (.int .i64 x450))] [(4, .v (.lst false 0 [])), (5, .v (.int .i64 x450))] (by simp [leE, lk_cons]) (.cons _ _ _ _ _ (.v _ _ (.nl false)) (.cons _ _ _ _ _ (.v _ _ (.refl _)) .nil)) (by rfl) (by simp [leE, lk_cons]) (by decide) (by decide) rfl (by simp only [go_sem, qa, qb, qc, qd, qe, qf, qg, qh, qi, qj, qk, ↓reduceIte, resQ_tmp, resQ_cell, resQ_nil, retD_one, retD_two, retD_three, retD_none]; try simp [R.val, retD_one, retD_two, retD_three, retD_none])
    · have hh := brn_some h; clear h; rcases hh with ⟨h452, h⟩ | ⟨h452, h⟩
      · refine W_sound tab_ok mixed 31 _ _ _ ?_
        simp -implicitDefEqProofs only [go_sem, qa, qb, qc, qd, qe, qf, qg, qh, qi, qj, qk, ↓reduceIte, h446, h451, h452]
        repeat with_reducible refine ⟨by first | kernel_rfl | decide, ?_⟩
        obtain rfl := Option.some.inj h
        exact finC [(4, .v .nl), (5, .v (.int .i64 16))] [(4, .v (.lst false 0 [])), (5, .v (.int .i64 16))] (by simp [leE, lk_cons]) (.cons _ _ _ _ _ (.v _ _ (.nl false)) (.cons _ _ _ _ _ (.v _ _ (.refl _)) .nil)) (by rfl) (by simp [leE, lk_cons]) (by decide) (by decide) rfl (by simp only [go_sem, qa, qb, qc, qd, qe, qf, qg, qh, qi, qj, qk, ↓reduceIte, resQ_tmp, resQ_cell, resQ_nil, retD_one, retD_two, retD_three, retD_none]; try simp [R.val, retD_one, retD_two, retD_three, retD_none])
      · cases h
  · (try dsimp only at h)
    refine W_sound tab_ok mixed 10 _ _ _ ?_
    simp -implicitDefEqProofs only [go_sem, qa, qb, qc, qd, qe, qf, qg, qh, qi, qj, qk, ↓reduceIte, h446]
    repeat with_reducible refine ⟨by first | kernel_rfl | decide, ?_⟩
    refine Wp_callD [] (c61_b N _ _ _ _ _ h449) rfl rfl rfl (by first | rfl | (simp only [go_sem, qa, qb, qc, qd, qe, qf, qg, qh, qi, qj, qk, ↓reduceIte, h446] <;> rfl)) rfl (by kernel_rfl) ?_
    have hh := brn_some h; clear h; rcases hh with ⟨h455, h⟩ | ⟨h455, h⟩
    · refine W_sound tab_ok mixed 23 _ _ _ ?_
      simp -implicitDefEqProofs only [go_sem, qa, qb, qc, qd, qe, qf, qg, qh, qi, qj, qk, ↓reduceIte, h446, h455]
      repeat with_reducible refine ⟨by first | kernel_rfl | decide, ?_⟩
      obtain rfl := Option.some.inj h
      exact finC [(4, .v .nl), (5, .v (.int .i64 x453))] [(4, .v (.lst false 0 [])), (5, .v (.int .i64 x453))] (by simp [leE, lk_cons]) (.cons _ _ _ _ _ (.v _ _ (.nl false)) (.cons _ _ _ _ _ (.v _ _ (.refl _)) .nil)) (by rfl) (by simp [leE, lk_cons]) (by decide) (by decide) rfl (by simp only [go_sem, qa, qb, qc, qd, qe, qf, qg, qh, qi, qj, qk, ↓reduceIte, resQ_tmp, resQ_cell, resQ_nil, retD_one, retD_two, retD_three, retD_none]; try simp [R.val, retD_one, retD_two, retD_three, retD_none])
    · have hh := brn_some h; clear h; rcases hh with ⟨h456, h⟩ | ⟨h456, h⟩
      · refine W_sound tab_ok mixed 31 _ _ _ ?_
        simp -implicitDefEqProofs only [go_sem, qa, qb, qc, qd, qe, qf, qg, qh, qi, qj, qk, ↓reduceIte, h446, h455, h456]
        repeat with_reducible refine ⟨by first | kernel_rfl | decide, ?_⟩
        obtain rfl := Option.some.inj h
        exact finC [(4, .v .nl), (5, .v (.int .i64 16))] [(4, .v (.lst false 0 [])), (5, .v (.int .i64 16))] (by simp [leE, lk_cons]) (.cons _ _ _ _ _ (.v _ _ (.nl false)) (.cons _ _ _ _ _ (.v _ _ (.refl _)) .nil)) (by rfl) (by simp [leE, lk_cons]) (by decide) (by decide) rfl (by simp only [go_sem, qa, qb, qc, qd, qe, qf, qg, qh, qi, qj, qk, ↓reduceIte, resQ_tmp, resQ_cell, resQ_nil, retD_one, retD_two, retD_three, retD_none]; try simp [R.val, retD_one, retD_two, retD_three, retD_none])
      · have hh := bnd'_some h; clear h; obtain ⟨⟨p754, c756, c757⟩, h755, h⟩ := hh
        (try dsimp only at h)
        refine W_sound tab_ok mixed 42 _ _ _ ?_
        simp -implicitDefEqProofs only [go_sem, qa, qb, qc, qd, qe, qf, qg, qh, qi, qj, qk, ↓reduceIte, h446, h455, h456]
        repeat with_reducible refine ⟨by first | kernel_rfl | decide, ?_⟩
        refine Wp_callD [13, 45] (c64 N _ _ _ _ _ h755) rfl rfl rfl (by first | rfl | (simp only [go_sem, qa, qb, qc, qd, qe, qf, qg, qh, qi, qj, qk, ↓reduceIte, h446, h455, h456] <;> rfl)) rfl (by kernel_rfl) ?_
        have hh := getT0_some h; clear h; obtain ⟨h758, h⟩ := hh
        have hh := grd_some h; clear h; obtain ⟨g759, h⟩ := hh
        have hh := bnd'_some h; clear h; obtain ⟨p836, h837, h⟩ := hh
        refine W_sound tab_ok mixed 8 _ _ _ ?_
        simp -implicitDefEqProofs only [go_sem, qa, qb, qc, qd, qe, qf, qg, qh, qi, qj, qk, ↓reduceIte, h446, h455, h456, h758, g759]
        repeat with_reducible refine ⟨by first | kernel_rfl | decide, ?_⟩
        refine Wp_callP (c65 N _ _ _ h837) (by kernel_rfl) rfl rfl rfl rfl (by decide) ?_
        have hh := getL_some h; clear h; obtain ⟨n839, c840, h838, h⟩ := hh
        have hh := grd_some h; clear h; obtain ⟨⟨g841, g842⟩, h⟩ := hh
        have hh := grd_some h; clear h; obtain ⟨g843, h⟩ := hh
        have hh := getL_some h; clear h; obtain ⟨n845, c846, h844, h⟩ := hh
        refine W_sound tab_ok mixed 9 _ _ _ ?_
        simp -implicitDefEqProofs only [go_sem, qa, qb, qc, qd, qe, qf, qg, qh, qi, qj, qk, ↓reduceIte, h446, h455, h456, h758, g759, h838, g841, g842, g843, h844]
        repeat with_reducible refine ⟨by first | kernel_rfl | decide, ?_⟩
        obtain rfl := Option.some.inj h
        exact finC [(4, .v (.lst false n845 c846)), (5, .v (.int .i64 0))] [(4, .v (.lst false n845 c846)), (5, .v (.int .i64 0))] (by simp [leE, lk_cons]) (.cons _ _ _ _ _ (.v _ _ (.refl _)) (.cons _ _ _ _ _ (.v _ _ (.refl _)) .nil)) (by rfl) (by simp [leE, lk_cons]) (by decide) (by decide) rfl (by simp only [go_sem, qa, qb, qc, qd, qe, qf, qg, qh, qi, qj, qk, ↓reduceIte, resQ_tmp, resQ_cell, resQ_nil, retD_one, retD_two, retD_three, retD_none]; try simp [R.val, retD_one, retD_two, retD_three, retD_none])
def m114 (N : Nat) (x863 : Int) (x864 : Int) : Option (PV) :=
  some (.tup [(.int .i64 x863), (.int .i64 (IntKind.i64.wrap (x863 + 1)))])
theorem c114 (N : Nat) (x863 : Int) (x864 : Int) (r : PV)  (h : m114 N x863 x864 = some r) : V.Fn Tryd.prog 114 1 [.ptr 0 0] [(0, .p [(.int .i64 x863), (.int .i64 x864)])] (fun d ob' => d = .v r ∧ ob' = [(0, .p [(.int .i64 x863), (.int .i64 x864)])]) := by
  unfold m114 at h
  refine Fn_of (sz := 13) tab_ok [0, 2, 3] [.tmp 2, .tmp 3] Tryd.func114 rfl rfl rfl (by simp) ?_
  simp only [initSt, initEnv, List.map_cons, List.map_nil, List.getD_cons_zero, List.getD_cons_succ, List.getD_nil]
  refine W_sound tab_ok mixed 21 _ _ _ ?_
  simp -implicitDefEqProofs only [go_sem, qa, qb, qc, qd, qe, qf, qg, qh, qi, qj, qk, ↓reduceIte]
  repeat with_reducible refine ⟨by first | kernel_rfl | decide, ?_⟩
  obtain rfl := Option.some.inj h
  exact finD (e2 := [(0, .dead), (2, .v (.int .i64 x863)), (3, .v (.int .i64 (IntKind.i64.wrap (x863 + 1))))]) (ob2 := [(0, .p [(.int .i64 x863), (.int .i64 x864)])]) (st' := ⟨[], [(0, .dead), (2, .v (.int .i64 x863)), (3, .v (.int .i64 (IntKind.i64.wrap (x863 + 1))))], [(0, .p [(.int .i64 x863), (.int .i64 x864)])], 1, []⟩) (.k (.r (.r .nil))) (.cons _ _ _ _ _ (DLes.refl _) .nil) (by kernel_rfl) (by simp only [go_sem, qa, qb, qc, qd, qe, qf, qg, qh, qi, qj, qk, ↓reduceIte, resQ_tmp, resQ_cell, resQ_nil, retD_one, retD_two, retD_three, retD_none]; try simp [R.val, retD_one, retD_two, retD_three, retD_none])
def m115 (N : Nat) (x884 : Int) (x885 : Int) (c886 : List PV) : Option ((PV × Int)) :=
  some ((.bool false), (IntKind.i64.wrap (x885 + 1)))
theorem c115 (N : Nat) (x884 : Int) (x885 : Int) (c886 : List PV) (r : PV) (x888 : Int) (h : m115 N x884 x885 c886 = some (r, x888)) : V.Fn Tryd.prog 115 2 [.ptr 0 0, .ptr 1 0] [(0, .p [(.int .i64 x884), (.int .i64 x885)]), (1, .p c886)] (fun d ob' => d = .v r ∧ ob' = [(0, .p [(.int .i64 x884), (.int .i64 x888)]), (1, .p c886)]) := by
  unfold m115 at h
  refine Fn_of (sz := 12) tab_ok [0, 1, 4] [.tmp 4] Tryd.func115 rfl rfl rfl (by simp) ?_
  simp only [initSt, initEnv, List.map_cons, List.map_nil, List.getD_cons_zero, List.getD_cons_succ, List.getD_nil]
  refine W_sound tab_ok mixed 21 _ _ _ ?_
  simp -implicitDefEqProofs only [go_sem, qa, qb, qc, qd, qe, qf, qg, qh, qi, qj, qk, ↓reduceIte]
  repeat with_reducible refine ⟨by first | kernel_rfl | decide, ?_⟩
  simp only [Option.some.injEq, Prod.mk.injEq] at h; obtain ⟨rfl, rfl⟩ := h
  exact finD (e2 := [(0, .dead), (1, .dead), (4, .v (.bool false))]) (ob2 := [(0, .p [(.int .i64 x884), (.int .i64 (IntKind.i64.wrap (x885 + 1)))]), (1, .p c886)]) (st' := ⟨[], [(0, .dead), (1, .dead), (4, .v (.bool false))], [(0, .p [(.int .i64 x884), (.int .i64 (IntKind.i64.wrap (x885 + 1)))]), (1, .p c886)], 2, []⟩) (.k (.k (.r .nil))) (.cons _ _ _ _ _ (DLes.refl _) (.cons _ _ _ _ _ (DLes.refl _) .nil)) (by kernel_rfl) (by simp only [go_sem, qa, qb, qc, qd, qe, qf, qg, qh, qi, qj, qk, ↓reduceIte, resQ_tmp, resQ_cell, resQ_nil, retD_one, retD_two, retD_three, retD_none]; try simp [R.val, retD_one, retD_two, retD_three, retD_none])
def m88_2_L0 (N : Nat) (rec : Int → Int → Int → Int → Int → List PV → Option ((PV × Int × List PV))) (x961 : Int) (x962 : Int) (x963 : Int) (x964 : Int) : Nat → Int → Int → List PV → Option (((PV × Int × List PV) ⊕ (Int × List PV)))
  | 0, _, _, _ => none
  | n + 1, x1024, x1025, c1026 =>
    brn (x1024 != 0) (
      bnd' (m87 N x1024) fun p1028 =>
      getI .i64 p1028 fun x1031 =>
      bnd' (m72 N x961 x962 x1031 c1026) fun (p1032, c1034) =>
      getT0 p1032 <|
      bnd' (rec x961 (IntKind.i64.wrap (x962 + 1)) x963 x964 x1025 c1034) fun (p1036, x1038, c1039) =>
      getB p1036 fun b1041 =>
      brn b1041 (
        some (.inl ((.bool true), x1038, c1039))) (
        bnd' (m90 N x961 x962 c1039) fun (p1043, c1045) =>
        getT0 p1043 <|
        m88_2_L0 N rec x961 x962 x963 x964 n (bitsI .and .u64 x1024 (IntKind.u64.wrap (x1024 - 1))) x1038 c1045)) (
      some (.inr (x1025, c1026)))
def m88_2 (N : Nat) : Nat → Int → Int → Int → Int → Int → List PV → Option ((PV × Int × List PV))
  | 0, _, _, _, _, _, _ => none
  | fu + 1, x961, x962, x963, x964, x965, c966 =>
    brn (x961 == x963) (
      bnd' (m115 N x964 x965 c966) fun (p970, x972) =>
      getB p970 fun b974 =>
      some ((.bool b974), x972, c966)) (
      grd (0 < List.length c966) <|
      getI .i64 (gp c966 0) fun x977 =>
      brn (x962 == x977) (
        bnd' ((m88_2 N fu) (IntKind.i64.wrap (x961 + 1)) 0 x963 x964 x965 c966) fun (p979, x981, c982) =>
        getB p979 fun b984 =>
        some ((.bool b984), x981, c982)) (
        grd (0 ≤ x961 ∧ x961 < 5) <|
        grd (0 ≤ x962 ∧ x962 < 5) <|
        grd (((1 + ((Int.toNat x961) * 5)) + (Int.toNat x962)) < List.length c966) <|
        getI .i64 (gp c966 ((1 + ((Int.toNat x961) * 5)) + (Int.toNat x962))) fun x991 =>
        brn (decide (x991 ≥ 0)) (
          bnd' ((m88_2 N fu) x961 (IntKind.i64.wrap (x962 + 1)) x963 x964 x965 c966) fun (p993, x995, c996) =>
          getB p993 fun b998 =>
          some ((.bool b998), x995, c996)) (
          bnd' (m89 N x961 x962 c966) fun p999 =>
          getI .u64 p999 fun x1002 =>
          bnd' (m88_2_L0 N (m88_2 N fu) x961 x962 x963 x964 N x1002 x965 c966) fun o =>
          match o with
          | .inl p1047 =>
            some p1047
          | .inr (x1048, c1049) =>
            some ((.bool false), x1048, c1049))))
theorem c88_2 (N : Nat) : ∀ (fu : Nat) (x961 : Int) (x962 : Int) (x963 : Int) (x964 : Int) (x965 : Int) (c966 : List PV) (r : PV) (x1052 : Int) (c1053 : List PV) (h : m88_2 N fu x961 x962 x963 x964 x965 c966 = some (r, x1052, c1053)), V.Fn Tryd.prog 88 6 [.v (.int .i64 x961), .v (.int .i64 x962), .ptr 0 0, .ptr 1 0, .ptr 3 0, .ptr 5 0] [(0, .p [(.int .i64 x963)]), (1, .r [.fn 1000075 [.ptr 2 0]]), (2, .p [(.int .i64 x964), (.int .i64 x965)]), (3, .r [.ptr 4 0]), (4, .p c966), (5, .r [.fn 88 [.ptr 0 0, .ptr 1 0, .ptr 3 0, .ptr 5 0]])] (fun d ob' => d = .v r ∧ ob' = [(0, .p [(.int .i64 x963)]), (1, .r [.fn 1000075 [.ptr 2 0]]), (2, .p [(.int .i64 x964), (.int .i64 x1052)]), (3, .r [.ptr 4 0]), (4, .p c1053), (5, .r [.fn 88 [.ptr 0 0, .ptr 1 0, .ptr 3 0, .ptr 5 0]])]) := by
  intro fu
  induction fu with
  | zero => intro x961 x962 x963 x964 x965 c966 r x1052 c1053 h; cases h
  | succ fu ih =>
    intro x961 x962 x963 x964 x965 c966 r x1052 c1053 h
    rw [m88_2] at h
    refine Fn_of (sz := 68) tab_ok [0, 1, 2, 3, 4, 5, 8, 9, 10, 17, 28, 48, 63] [.tmp 8] Tryd.func88 rfl rfl rfl (by simp) ?_
    simp only [initSt, initEnv, List.map_cons, List.map_nil, List.getD_cons_zero, List.getD_cons_succ, List.getD_nil]
    have hh := brn_some h; clear h; rcases hh with ⟨h969, h⟩ | ⟨h969, h⟩
    · have hh := bnd'_some h; clear h; obtain ⟨⟨p970, x972⟩, h971, h⟩ := hh
      (try dsimp only at h)
      refine W_sound tab_ok mixed 18 _ _ _ ?_
      simp -implicitDefEqProofs only [go_sem, qa, qb, qc, qd, qe, qf, qg, qh, qi, qj, qk, ↓reduceIte, h969]
      repeat with_reducible refine ⟨by first | kernel_rfl | decide, ?_⟩
      refine Wp_callDG (ds := [.ptr 2 0, .ptr 4 0]) [2, 4] (c115 N _ _ _ _ _ h971) (by kernel_rfl) rfl (by first | rfl | (simp only [go_sem, qa, qb, qc, qd, qe, qf, qg, qh, qi, qj, qk, ↓reduceIte, h969] <;> rfl)) rfl (by kernel_rfl) ?_
      have hh := getB_some h; clear h; obtain ⟨b974, h973, h⟩ := hh
      refine W_sound tab_ok mixed 4 _ _ _ ?_
      simp -implicitDefEqProofs only [go_sem, qa, qb, qc, qd, qe, qf, qg, qh, qi, qj, qk, ↓reduceIte, h969, h973]
      repeat with_reducible refine ⟨by first | kernel_rfl | decide, ?_⟩
      simp only [Option.some.injEq, Prod.mk.injEq] at h; obtain ⟨rfl, rfl, rfl⟩ := h
      exact finD (e2 := [(0, .dead), (1, .dead), (2, .dead), (3, .dead), (4, .dead), (5, .dead), (8, .v (.bool b974)), (9, .dead), (10, .dead), (17, .dead), (28, .dead), (48, .dead), (63, .dead)]) (ob2 := [(0, .p [(.int .i64 x963)]), (1, .r [.fn 1000075 [.ptr 2 0]]), (3, .r [.ptr 4 0]), (5, .r [.fn 88 [.ptr 0 0, .ptr 1 0, .ptr 3 0, .ptr 5 0]]), (4, .p c966), (2, .p [(.int .i64 x964), (.int .i64 x972)])]) (st' := ⟨[], [(0, .dead), (1, .dead), (2, .dead), (3, .dead), (4, .dead), (5, .dead), (8, .v (.bool b974)), (9, .dead), (10, .dead), (17, .dead), (28, .dead), (48, .dead), (63, .dead)], [(0, .p [(.int .i64 x963)]), (1, .r [.fn 1000075 [.ptr 2 0]]), (2, .p [(.int .i64 x964), (.int .i64 x972)]), (3, .r [.ptr 4 0]), (4, .p c966), (5, .r [.fn 88 [.ptr 0 0, .ptr 1 0, .ptr 3 0, .ptr 5 0]])], 6, []⟩) (.k (.k (.k (.k (.k (.k (.r (.r (.k (.r (.r (.r (.r .nil))))))))))))) (.cons _ _ _ _ _ (DLes.refl _) (.cons _ _ _ _ _ (DLes.refl _) (.cons _ _ _ _ _ (DLes.refl _) (.cons _ _ _ _ _ (DLes.refl _) (.cons _ _ _ _ _ (DLes.refl _) (.cons _ _ _ _ _ (DLes.refl _) .nil)))))) (by kernel_rfl) (by simp only [go_sem, qa, qb, qc, qd, qe, qf, qg, qh, qi, qj, qk, ↓reduceIte, resQ_tmp, resQ_cell, resQ_nil, retD_one, retD_two, retD_three, retD_none]; try simp [R.val, retD_one, retD_two, retD_three, retD_none])
    · have hh := grd_some h; clear h; obtain ⟨g975, h⟩ := hh
      have hh := getI_some h; clear h; obtain ⟨x977, h976, h⟩ := hh
      have hh := brn_some h; clear h; rcases hh with ⟨h978, h⟩ | ⟨h978, h⟩
      · have hh := bnd'_some h; clear h; obtain ⟨⟨p979, x981, c982⟩, h980, h⟩ := hh
        (try dsimp only at h)
        refine W_sound tab_ok mixed 30 _ _ _ ?_
        simp -implicitDefEqProofs only [go_sem, qa, qb, qc, qd, qe, qf, qg, qh, qi, qj, qk, ↓reduceIte, h969, g975, h976, h978]
        repeat with_reducible refine ⟨by first | kernel_rfl | decide, ?_⟩
        refine Wp_callD [0, 1, 2, 3, 4, 5] (ih _ _ _ _ _ _ _ _ _ h980) rfl rfl rfl (by first | rfl | (simp only [go_sem, qa, qb, qc, qd, qe, qf, qg, qh, qi, qj, qk, ↓reduceIte, h969, g975, h976, h978] <;> rfl)) rfl (by kernel_rfl) ?_
        have hh := getB_some h; clear h; obtain ⟨b984, h983, h⟩ := hh
        refine W_sound tab_ok mixed 4 _ _ _ ?_
        simp -implicitDefEqProofs only [go_sem, qa, qb, qc, qd, qe, qf, qg, qh, qi, qj, qk, ↓reduceIte, h969, g975, h976, h978, h983]
        repeat with_reducible refine ⟨by first | kernel_rfl | decide, ?_⟩
        simp only [Option.some.injEq, Prod.mk.injEq] at h; obtain ⟨rfl, rfl, rfl⟩ := h
        exact finD (e2 := [(0, .dead), (1, .dead), (2, .dead), (3, .dead), (4, .dead), (5, .dead), (8, .v (.bool b984)), (9, .dead), (10, .dead), (17, .dead), (28, .dead), (48, .dead), (63, .dead)]) (ob2 := [(5, .r [.fn 88 [.ptr 0 0, .ptr 1 0, .ptr 3 0, .ptr 5 0]]), (4, .p c982), (3, .r [.ptr 4 0]), (2, .p [(.int .i64 x964), (.int .i64 x981)]), (1, .r [.fn 1000075 [.ptr 2 0]]), (0, .p [(.int .i64 x963)])]) (st' := ⟨[], [(0, .dead), (1, .dead), (2, .dead), (3, .dead), (4, .dead), (5, .dead), (8, .v (.bool b984)), (9, .dead), (10, .dead), (17, .dead), (28, .dead), (48, .dead), (63, .dead)], [(0, .p [(.int .i64 x963)]), (1, .r [.fn 1000075 [.ptr 2 0]]), (2, .p [(.int .i64 x964), (.int .i64 x981)]), (3, .r [.ptr 4 0]), (4, .p c982), (5, .r [.fn 88 [.ptr 0 0, .ptr 1 0, .ptr 3 0, .ptr 5 0]])], 6, []⟩) (.k (.k (.k (.k (.k (.k (.r (.r (.k (.k (.r (.r (.r .nil))))))))))))) (.cons _ _ _ _ _ (DLes.refl _) (.cons _ _ _ _ _ (DLes.refl _) (.cons _ _ _ _ _ (DLes.refl _) (.cons _ _ _ _ _ (DLes.refl _) (.cons _ _ _ _ _ (DLes.refl _) (.cons _ _ _ _ _ (DLes.refl _) .nil)))))) (by kernel_rfl) (by simp only [go_sem, qa, qb, qc, qd, qe, qf, qg, qh, qi, qj, qk, ↓reduceIte, resQ_tmp, resQ_cell, resQ_nil, retD_one, retD_two, retD_three, retD_none]; try simp [R.val, retD_one, retD_two, retD_three, retD_none])
      · have hh := grd_some h; clear h; obtain ⟨⟨g985, g986⟩, h⟩ := hh
        have hh := grd_some h; clear h; obtain ⟨⟨g987, g988⟩, h⟩ := hh
        have hh := grd_some h; clear h; obtain ⟨g989, h⟩ := hh
        have hh := getI_some h; clear h; obtain ⟨x991, h990, h⟩ := hh
        have hh := brn_some h; clear h; rcases hh with ⟨h992, h⟩ | ⟨h992, h⟩
        · have hh := bnd'_some h; clear h; obtain ⟨⟨p993, x995, c996⟩, h994, h⟩ := hh
          (try dsimp only at h)
          refine W_sound tab_ok mixed 45 _ _ _ ?_
          simp -implicitDefEqProofs only [go_sem, qa, qb, qc, qd, qe, qf, qg, qh, qi, qj, qk, ↓reduceIte, h969, g975, h976, h978, g985, g986, g987, g988, g989, h990, h992]
          repeat with_reducible refine ⟨by first | kernel_rfl | decide, ?_⟩
          refine Wp_callD [0, 1, 2, 3, 4, 5] (ih _ _ _ _ _ _ _ _ _ h994) rfl rfl rfl (by first | rfl | (simp only [go_sem, qa, qb, qc, qd, qe, qf, qg, qh, qi, qj, qk, ↓reduceIte, h969, g975, h976, h978, g985, g986, g987, g988, g989, h990, h992] <;> rfl)) rfl (by kernel_rfl) ?_
          have hh := getB_some h; clear h; obtain ⟨b998, h997, h⟩ := hh
          refine W_sound tab_ok mixed 4 _ _ _ ?_
          simp -implicitDefEqProofs only [go_sem, qa, qb, qc, qd, qe, qf, qg, qh, qi, qj, qk, ↓reduceIte, h969, g975, h976, h978, g985, g986, g987, g988, g989, h990, h992, h997]
          repeat with_reducible refine ⟨by first | kernel_rfl | decide, ?_⟩
          simp only [Option.some.injEq, Prod.mk.injEq] at h; obtain ⟨rfl, rfl, rfl⟩ := h
          exact finD (e2 := [(0, .dead), (1, .dead), (2, .dead), (3, .dead), (4, .dead), (5, .dead), (8, .v (.bool b998)), (9, .dead), (10, .dead), (17, .dead), (28, .dead), (48, .dead), (63, .dead)]) (ob2 := [(5, .r [.fn 88 [.ptr 0 0, .ptr 1 0, .ptr 3 0, .ptr 5 0]]), (4, .p c996), (3, .r [.ptr 4 0]), (2, .p [(.int .i64 x964), (.int .i64 x995)]), (1, .r [.fn 1000075 [.ptr 2 0]]), (0, .p [(.int .i64 x963)])]) (st' := ⟨[], [(0, .dead), (1, .dead), (2, .dead), (3, .dead), (4, .dead), (5, .dead), (8, .v (.bool b998)), (9, .dead), (10, .dead), (17, .dead), (28, .dead), (48, .dead), (63, .dead)], [(0, .p [(.int .i64 x963)]), (1, .r [.fn 1000075 [.ptr 2 0]]), (2, .p [(.int .i64 x964), (.int .i64 x995)]), (3, .r [.ptr 4 0]), (4, .p c996), (5, .r [.fn 88 [.ptr 0 0, .ptr 1 0, .ptr 3 0, .ptr 5 0]])], 6, []⟩) (.k (.k (.k (.k (.k (.k (.r (.r (.k (.k (.k (.r (.r .nil))))))))))))) (.cons _ _ _ _ _ (DLes.refl _) (.cons _ _ _ _ _ (DLes.refl _) (.cons _ _ _ _ _ (DLes.refl _) (.cons _ _ _ _ _ (DLes.refl _) (.cons _ _ _ _ _ (DLes.refl _) (.cons _ _ _ _ _ (DLes.refl _) .nil)))))) (by kernel_rfl) (by simp only [go_sem, qa, qb, qc, qd, qe, qf, qg, qh, qi, qj, qk, ↓reduceIte, resQ_tmp, resQ_cell, resQ_nil, retD_one, retD_two, retD_three, retD_none]; try simp [R.val, retD_one, retD_two, retD_three, retD_none])
        · have hh := bnd'_some h; clear h; obtain ⟨p999, h1000, h⟩ := hh
          (try dsimp only at h)
          refine W_sound tab_ok mixed 47 _ _ _ ?_
          simp -implicitDefEqProofs only [go_sem, qa, qb, qc, qd, qe, qf, qg, qh, qi, qj, qk, ↓reduceIte, h969, g975, h976, h978, g985, g986, g987, g988, g989, h990, h992]
          repeat with_reducible refine ⟨by first | kernel_rfl | decide, ?_⟩
          refine Wp_callD [4] (c89 N _ _ _ _ h1000) rfl rfl rfl (by first | rfl | (simp only [go_sem, qa, qb, qc, qd, qe, qf, qg, qh, qi, qj, qk, ↓reduceIte, h969, g975, h976, h978, g985, g986, g987, g988, g989, h990, h992] <;> rfl)) rfl (by kernel_rfl) ?_
          have hh := getI_some h; clear h; obtain ⟨x1002, h1001, h⟩ := hh
          refine W_sound tab_ok mixed 2 _ _ _ ?_
          simp -implicitDefEqProofs only [go_sem, qa, qb, qc, qd, qe, qf, qg, qh, qi, qj, qk, ↓reduceIte, h969, g975, h976, h978, g985, g986, g987, g988, g989, h990, h992, h1001]
          repeat with_reducible refine ⟨by first | kernel_rfl | decide, ?_⟩
          have hh := bnd'_some h; clear h; obtain ⟨o1054, h1055, h1056⟩ := hh
          refine Wp_cut (fun s => ∃ x1048, ∃ c1049, (.inr (x1048, c1049)) = o1054 ∧ s = ⟨[], [(0, .dead), (1, .dead), (2, .dead), (3, .dead), (4, .dead), (5, .dead), (8, .dead), (9, .dead), (10, .dead), (17, .dead), (28, .dead), (48, .dead), (63, .dead)], [(0, .p [(.int .i64 x963)]), (1, .r [.fn 1000075 [.ptr 2 0]]), (2, .p [(.int .i64 x964), (.int .i64 x1048)]), (3, .r [.ptr 4 0]), (4, .p c1049), (5, .r [.fn 88 [.ptr 0 0, .ptr 1 0, .ptr 3 0, .ptr 5 0]])], 6, []⟩) ?_ ?_
          · refine Wp_block ?_
            refine Wp_loopG (fun n s => ∃ x1024, ∃ x1025, ∃ c1026, m88_2_L0 N (m88_2 N fu) x961 x962 x963 x964 n x1024 x1025 c1026 = some o1054 ∧ s = ⟨[], [(0, .v (.int .i64 x961)), (1, .v (.int .i64 x962)), (2, .dead), (3, .dead), (4, .ptr 3 0), (5, .ptr 5 0), (8, .dead), (9, .v (.int .u64 x1024)), (10, .dead), (17, .dead), (28, .dead), (48, .dead), (63, .dead)], [(0, .p [(.int .i64 x963)]), (1, .r [.fn 1000075 [.ptr 2 0]]), (2, .p [(.int .i64 x964), (.int .i64 x1025)]), (3, .r [.ptr 4 0]), (4, .p c1026), (5, .r [.fn 88 [.ptr 0 0, .ptr 1 0, .ptr 3 0, .ptr 5 0]])], 6, []⟩) N _ ((Wk_le (.r (.r (.k (.k (.r (.r (.k (.r (.k (.k (.k (.r (.r .nil))))))))))))) (OLe.refl _)).trans (cmpS_ok (st' := ⟨[], [(0, .v (.int .i64 x961)), (1, .v (.int .i64 x962)), (2, .dead), (3, .dead), (4, .ptr 3 0), (5, .ptr 5 0), (8, .dead), (9, .v (.int .u64 x1002)), (10, .dead), (17, .dead), (28, .dead), (48, .dead), (63, .dead)], [(0, .p [(.int .i64 x963)]), (1, .r [.fn 1000075 [.ptr 2 0]]), (2, .p [(.int .i64 x964), (.int .i64 x965)]), (3, .r [.ptr 4 0]), (4, .p c966), (5, .r [.fn 88 [.ptr 0 0, .ptr 1 0, .ptr 3 0, .ptr 5 0]])], 6, []⟩) (by kernel_rfl))) ⟨_, _, _, h1055, rfl⟩ ?_
            clear h1055
            rintro n _ ⟨x1024, x1025, c1026, h1055, rfl⟩
            cases n with
            | zero => cases h1055
            | succ n =>
              rw [m88_2_L0] at h1055
              have hh := brn_some h1055; clear h1055; rcases hh with ⟨h1027, h1055⟩ | ⟨h1027, h1055⟩
              · have hh := bnd'_some h1055; clear h1055; obtain ⟨p1028, h1029, h1055⟩ := hh
                refine W_sound tab_ok mixed 16 _ _ _ ?_
                simp -implicitDefEqProofs only [go_sem, qa, qb, qc, qd, qe, qf, qg, qh, qi, qj, qk, ↓reduceIte, h969, g975, h976, h978, g985, g986, g987, g988, g989, h990, h992, h1001, h1027]
                repeat with_reducible refine ⟨by first | kernel_rfl | decide, ?_⟩
                refine Wp_callP (c87 N _ _ h1029) (by kernel_rfl) rfl rfl rfl rfl (by decide) ?_
                have hh := getI_some h1055; clear h1055; obtain ⟨x1031, h1030, h1055⟩ := hh
                have hh := bnd'_some h1055; clear h1055; obtain ⟨⟨p1032, c1034⟩, h1033, h1055⟩ := hh
                (try dsimp only at h1055)
                (try simp -implicitDefEqProofs only [go_sem, qa, qb, qc, qd, qe, qf, qg, qh, qi, qj, qk, ↓reduceIte, h969, g975, h976, h978, g985, g986, g987, g988, g989, h990, h992, h1001, h1027, h1030])
                refine Wp_callD [4] (c72 N _ _ _ _ _ _ h1033) rfl rfl rfl (by first | rfl | (simp only [go_sem, qa, qb, qc, qd, qe, qf, qg, qh, qi, qj, qk, ↓reduceIte, h969, g975, h976, h978, g985, g986, g987, g988, g989, h990, h992, h1001, h1027, h1030] <;> rfl)) rfl (by kernel_rfl) ?_
                have hh := getT0_some h1055; clear h1055; obtain ⟨h1035, h1055⟩ := hh
                have hh := bnd'_some h1055; clear h1055; obtain ⟨⟨p1036, x1038, c1039⟩, h1037, h1055⟩ := hh
                (try dsimp only at h1055)
                refine W_sound tab_ok mixed 8 _ _ _ ?_
                simp -implicitDefEqProofs only [go_sem, qa, qb, qc, qd, qe, qf, qg, qh, qi, qj, qk, ↓reduceIte, h969, g975, h976, h978, g985, g986, g987, g988, g989, h990, h992, h1001, h1027, h1030, h1035]
                repeat with_reducible refine ⟨by first | kernel_rfl | decide, ?_⟩
                refine Wp_callD [0, 1, 2, 3, 4, 5] (ih _ _ _ _ _ _ _ _ _ h1037) rfl rfl rfl (by first | rfl | (simp only [go_sem, qa, qb, qc, qd, qe, qf, qg, qh, qi, qj, qk, ↓reduceIte, h969, g975, h976, h978, g985, g986, g987, g988, g989, h990, h992, h1001, h1027, h1030, h1035] <;> rfl)) rfl (by kernel_rfl) ?_
                have hh := getB_some h1055; clear h1055; obtain ⟨b1041, h1040, h1055⟩ := hh
                have hh := brn_some h1055; clear h1055; rcases hh with ⟨h1042, h1055⟩ | ⟨h1042, h1055⟩
                · refine W_sound tab_ok mixed 8 _ _ _ ?_
                  simp -implicitDefEqProofs only [go_sem, qa, qb, qc, qd, qe, qf, qg, qh, qi, qj, qk, ↓reduceIte, h969, g975, h976, h978, g985, g986, g987, g988, g989, h990, h992, h1001, h1027, h1030, h1035, h1040, h1042]
                  repeat with_reducible refine ⟨by first | kernel_rfl | decide, ?_⟩
                  obtain rfl := Option.some.inj h1055
                  (try dsimp only at h1056)
                  simp only [Option.some.injEq, Prod.mk.injEq] at h1056; obtain ⟨rfl, rfl, rfl⟩ := h1056
                  exact finD (e2 := [(0, .dead), (1, .dead), (2, .dead), (3, .dead), (4, .dead), (5, .dead), (8, .v (.bool true)), (9, .dead), (10, .dead), (17, .dead), (28, .dead), (48, .dead), (63, .dead)]) (ob2 := [(5, .r [.fn 88 [.ptr 0 0, .ptr 1 0, .ptr 3 0, .ptr 5 0]]), (4, .p c1039), (3, .r [.ptr 4 0]), (2, .p [(.int .i64 x964), (.int .i64 x1038)]), (1, .r [.fn 1000075 [.ptr 2 0]]), (0, .p [(.int .i64 x963)])]) (st' := ⟨[], [(0, .dead), (1, .dead), (2, .dead), (3, .dead), (4, .dead), (5, .dead), (8, .v (.bool true)), (9, .dead), (10, .dead), (17, .dead), (28, .dead), (48, .dead), (63, .dead)], [(0, .p [(.int .i64 x963)]), (1, .r [.fn 1000075 [.ptr 2 0]]), (2, .p [(.int .i64 x964), (.int .i64 x1038)]), (3, .r [.ptr 4 0]), (4, .p c1039), (5, .r [.fn 88 [.ptr 0 0, .ptr 1 0, .ptr 3 0, .ptr 5 0]])], 6, []⟩) (.k (.k (.r (.r (.k (.k (.r (.k (.r (.r (.r (.k (.k .nil))))))))))))) (.cons _ _ _ _ _ (DLes.refl _) (.cons _ _ _ _ _ (DLes.refl _) (.cons _ _ _ _ _ (DLes.refl _) (.cons _ _ _ _ _ (DLes.refl _) (.cons _ _ _ _ _ (DLes.refl _) (.cons _ _ _ _ _ (DLes.refl _) .nil)))))) (by kernel_rfl) (by simp only [go_sem, qa, qb, qc, qd, qe, qf, qg, qh, qi, qj, qk, ↓reduceIte, resQ_tmp, resQ_cell, resQ_nil, retD_one, retD_two, retD_three, retD_none]; try simp [R.val, retD_one, retD_two, retD_three, retD_none])
                · have hh := bnd'_some h1055; clear h1055; obtain ⟨⟨p1043, c1045⟩, h1044, h1055⟩ := hh
                  (try dsimp only at h1055)
                  refine W_sound tab_ok mixed 7 _ _ _ ?_
                  simp -implicitDefEqProofs only [go_sem, qa, qb, qc, qd, qe, qf, qg, qh, qi, qj, qk, ↓reduceIte, h969, g975, h976, h978, g985, g986, g987, g988, g989, h990, h992, h1001, h1027, h1030, h1035, h1040, h1042]
                  repeat with_reducible refine ⟨by first | kernel_rfl | decide, ?_⟩
                  refine Wp_callD [4] (c90 N _ _ _ _ _ h1044) rfl rfl rfl (by first | rfl | (simp only [go_sem, qa, qb, qc, qd, qe, qf, qg, qh, qi, qj, qk, ↓reduceIte, h969, g975, h976, h978, g985, g986, g987, g988, g989, h990, h992, h1001, h1027, h1030, h1035, h1040, h1042] <;> rfl)) rfl (by kernel_rfl) ?_
                  have hh := getT0_some h1055; clear h1055; obtain ⟨h1046, h1055⟩ := hh
                  refine W_sound tab_ok mixed 9 _ _ _ ?_
                  simp -implicitDefEqProofs only [go_sem, qa, qb, qc, qd, qe, qf, qg, qh, qi, qj, qk, ↓reduceIte, h969, g975, h976, h978, g985, g986, g987, g988, g989, h990, h992, h1001, h1027, h1030, h1035, h1040, h1042, h1046]
                  repeat with_reducible refine ⟨by first | kernel_rfl | decide, ?_⟩
                  exact cutQ _ ((Wk_le (.r (.r (.r (.r (.r (.r (.r (.r (.r (.r (.r (.k (.k .nil))))))))))))) (OLe.refl _)).trans (cmpS_ok (st' := ⟨[], [(0, .v (.int .i64 x961)), (1, .v (.int .i64 x962)), (2, .dead), (3, .dead), (4, .ptr 3 0), (5, .ptr 5 0), (8, .dead), (9, .v (.int .u64 (bitsI .and .u64 x1024 (IntKind.u64.wrap (x1024 - 1))))), (10, .dead), (17, .dead), (28, .dead), (48, .dead), (63, .dead)], [(0, .p [(.int .i64 x963)]), (1, .r [.fn 1000075 [.ptr 2 0]]), (2, .p [(.int .i64 x964), (.int .i64 x1038)]), (3, .r [.ptr 4 0]), (4, .p c1045), (5, .r [.fn 88 [.ptr 0 0, .ptr 1 0, .ptr 3 0, .ptr 5 0]])], 6, []⟩) (by kernel_rfl))) ⟨n, Nat.lt_succ_self n, _, _, _, h1055, rfl⟩
              · refine W_sound tab_ok mixed 8 _ _ _ ?_
                simp -implicitDefEqProofs only [go_sem, qa, qb, qc, qd, qe, qf, qg, qh, qi, qj, qk, ↓reduceIte, h969, g975, h976, h978, g985, g986, g987, g988, g989, h990, h992, h1001, h1027]
                repeat with_reducible refine ⟨by first | kernel_rfl | decide, ?_⟩
                obtain rfl := Option.some.inj h1055
                exact cutQ _ ((Wk_le (.k (.k (.r (.r (.k (.k (.r (.k (.r (.r (.r (.k (.r .nil))))))))))))) (OLe.refl _)).trans (cmpS_ok (st' := ⟨[], [(0, .dead), (1, .dead), (2, .dead), (3, .dead), (4, .dead), (5, .dead), (8, .dead), (9, .dead), (10, .dead), (17, .dead), (28, .dead), (48, .dead), (63, .dead)], [(0, .p [(.int .i64 x963)]), (1, .r [.fn 1000075 [.ptr 2 0]]), (2, .p [(.int .i64 x964), (.int .i64 x1025)]), (3, .r [.ptr 4 0]), (4, .p c1026), (5, .r [.fn 88 [.ptr 0 0, .ptr 1 0, .ptr 3 0, .ptr 5 0]])], 6, []⟩) (by kernel_rfl))) ⟨_, _, rfl, rfl⟩
          · rintro _ ⟨x1048, c1049, rfl, rfl⟩
            (try dsimp only at h1056)
            refine W_sound tab_ok mixed 6 _ _ _ ?_
            simp -implicitDefEqProofs only [go_sem, qa, qb, qc, qd, qe, qf, qg, qh, qi, qj, qk, ↓reduceIte, h969, g975, h976, h978, g985, g986, g987, g988, g989, h990, h992, h1001]
            repeat with_reducible refine ⟨by first | kernel_rfl | decide, ?_⟩
            simp only [Option.some.injEq, Prod.mk.injEq] at h1056; obtain ⟨rfl, rfl, rfl⟩ := h1056
            exact finD (e2 := [(0, .dead), (1, .dead), (2, .dead), (3, .dead), (4, .dead), (5, .dead), (8, .v (.bool false)), (9, .dead), (10, .dead), (17, .dead), (28, .dead), (48, .dead), (63, .dead)]) (ob2 := [(0, .p [(.int .i64 x963)]), (1, .r [.fn 1000075 [.ptr 2 0]]), (2, .p [(.int .i64 x964), (.int .i64 x1048)]), (3, .r [.ptr 4 0]), (4, .p c1049), (5, .r [.fn 88 [.ptr 0 0, .ptr 1 0, .ptr 3 0, .ptr 5 0]])]) (st' := ⟨[], [(0, .dead), (1, .dead), (2, .dead), (3, .dead), (4, .dead), (5, .dead), (8, .v (.bool false)), (9, .dead), (10, .dead), (17, .dead), (28, .dead), (48, .dead), (63, .dead)], [(0, .p [(.int .i64 x963)]), (1, .r [.fn 1000075 [.ptr 2 0]]), (2, .p [(.int .i64 x964), (.int .i64 x1048)]), (3, .r [.ptr 4 0]), (4, .p c1049), (5, .r [.fn 88 [.ptr 0 0, .ptr 1 0, .ptr 3 0, .ptr 5 0]])], 6, []⟩) (.r (.r (.r (.r (.r (.r (.r (.r (.r (.r (.r (.r (.r .nil))))))))))))) (.cons _ _ _ _ _ (DLes.refl _) (.cons _ _ _ _ _ (DLes.refl _) (.cons _ _ _ _ _ (DLes.refl _) (.cons _ _ _ _ _ (DLes.refl _) (.cons _ _ _ _ _ (DLes.refl _) (.cons _ _ _ _ _ (DLes.refl _) .nil)))))) (by kernel_rfl) (by simp only [go_sem, qa, qb, qc, qd, qe, qf, qg, qh, qi, qj, qk, ↓reduceIte, resQ_tmp, resQ_cell, resQ_nil, retD_one, retD_two, retD_three, retD_none]; try simp [R.val, retD_one, retD_two, retD_three, retD_none])
def m64_2 (N : Nat) (c1065 : List PV) (x1066 : Int) (x1067 : Int) : Option ((PV × List PV × Int)) :=
  bnd' (m114 N x1066 x1067) fun p1070 =>
  getT2 p1070 fun p1073 p1074 =>
  getI .i64 p1073 fun x1076 =>
  getI .i64 p1074 fun x1078 =>
  bnd' (m88_2 N N x1076 0 x1078 x1066 x1067 c1065) fun (p1079, x1081, c1082) =>
  getB p1079 fun b1084 =>
  some ((.tup []), c1082, x1081)
theorem c64_2 (N : Nat) (c1065 : List PV) (x1066 : Int) (x1067 : Int) (r : PV) (c1087 : List PV) (x1088 : Int) (h : m64_2 N c1065 x1066 x1067 = some (r, c1087, x1088)) : V.Fn Tryd.prog 64 2 [.ptr 0 0, .fn 1000075 [.ptr 1 0]] [(0, .p c1065), (1, .p [(.int .i64 x1066), (.int .i64 x1067)])] (fun d ob' => d = .v r ∧ ob' = [(0, .p c1087), (1, .p [(.int .i64 x1066), (.int .i64 x1088)])]) := by
  unfold m64_2 at h
  refine Fn_of (sz := 16) tab_ok [0, 1, 2, 3, 4, 5, 6] [] Tryd.func64 rfl rfl rfl (by simp) ?_
  simp only [initSt, initEnv, List.map_cons, List.map_nil, List.getD_cons_zero, List.getD_cons_succ, List.getD_nil]
  have hh := bnd'_some h; clear h; obtain ⟨p1070, h1071, h⟩ := hh
  (try dsimp only at h)
  refine W_sound tab_ok mixed 8 _ _ _ ?_
  simp -implicitDefEqProofs only [go_sem, qa, qb, qc, qd, qe, qf, qg, qh, qi, qj, qk, ↓reduceIte]
  repeat with_reducible refine ⟨by first | kernel_rfl | decide, ?_⟩
  refine Wp_callDG (ds := [.ptr 1 0]) [1] (c114 N _ _ _ h1071) (by kernel_rfl) rfl (by first | rfl | (simp only [go_sem, qa, qb, qc, qd, qe, qf, qg, qh, qi, qj, qk, ↓reduceIte] <;> rfl)) rfl (by kernel_rfl) ?_
  have hh := getT2_some h; clear h; obtain ⟨p1073, p1074, h1072, h⟩ := hh
  have hh := getI_some h; clear h; obtain ⟨x1076, h1075, h⟩ := hh
  have hh := getI_some h; clear h; obtain ⟨x1078, h1077, h⟩ := hh
  have hh := bnd'_some h; clear h; obtain ⟨⟨p1079, x1081, c1082⟩, h1080, h⟩ := hh
  (try dsimp only at h)
  refine W_sound tab_ok mixed 19 _ _ _ ?_
  simp -implicitDefEqProofs only [go_sem, qa, qb, qc, qd, qe, qf, qg, qh, qi, qj, qk, ↓reduceIte, h1072, h1075, h1077]
  repeat with_reducible refine ⟨by first | kernel_rfl | decide, ?_⟩
  refine Wp_callD [11, 5, 1, 4, 0, 18] (c88_2 N N _ _ _ _ _ _ _ _ _ h1080) rfl rfl rfl (by first | rfl | (simp only [go_sem, qa, qb, qc, qd, qe, qf, qg, qh, qi, qj, qk, ↓reduceIte, h1072, h1075, h1077] <;> rfl)) rfl (by kernel_rfl) ?_
  have hh := getB_some h; clear h; obtain ⟨b1084, h1083, h⟩ := hh
  refine W_sound tab_ok mixed 2 _ _ _ ?_
  simp -implicitDefEqProofs only [go_sem, qa, qb, qc, qd, qe, qf, qg, qh, qi, qj, qk, ↓reduceIte, h1072, h1075, h1077, h1083]
  repeat with_reducible refine ⟨by first | kernel_rfl | decide, ?_⟩
  simp only [Option.some.injEq, Prod.mk.injEq] at h; obtain ⟨rfl, rfl, rfl⟩ := h
  exact finD (e2 := [(0, .dead), (1, .dead), (2, .dead), (3, .dead), (4, .dead), (5, .dead), (6, .dead)]) (ob2 := [(18, .r [.fn 88 [.ptr 11 0, .ptr 5 0, .ptr 4 0, .ptr 18 0]]), (0, .p c1082), (4, .r [.ptr 0 0]), (1, .p [(.int .i64 x1066), (.int .i64 x1081)]), (5, .r [.fn 1000075 [.ptr 1 0]]), (11, .p [(.int .i64 x1078)])]) (st' := ⟨[], [(0, .dead), (1, .dead), (2, .dead), (3, .dead), (4, .dead), (5, .dead), (6, .dead)], [(0, .p c1082), (1, .p [(.int .i64 x1066), (.int .i64 x1081)])], 2, []⟩) (.k (.k (.k (.k (.k (.k (.k .nil))))))) (.cons _ _ _ _ _ (DLes.refl _) (.cons _ _ _ _ _ (DLes.refl _) (.cons _ _ _ _ _ (DLes.refl _) (.cons _ _ _ _ _ (DLes.refl _) (.cons _ _ _ _ _ (DLes.refl _) (.cons _ _ _ _ _ (DLes.refl _) .nil)))))) (by kernel_rfl) (by simp only [go_sem, qa, qb, qc, qd, qe, qf, qg, qh, qi, qj, qk, ↓reduceIte, resQ_tmp, resQ_cell, resQ_nil, retD_one, retD_two, retD_three, retD_none]; try simp [R.val, retD_one, retD_two, retD_three, retD_none])
def m69 (N : Nat) (x1094 : Int) (x1095 : Int) : Option (PV) :=
  some (.int .i64 x1095)
theorem c69 (N : Nat) (x1094 : Int) (x1095 : Int) (r : PV)  (h : m69 N x1094 x1095 = some r) : FnP Tryd.prog 69 [(.fn 1000075 [(.ipt [(.int .i64 x1094), (.int .i64 x1095)])])] r := by
  unfold m69 at h
  refine Fn_of (sz := 20) tab_ok [0, 2, 3, 4, 5, 7, 8, 14, 15, 19] [.tmp 2] Tryd.func69 rfl rfl rfl (by simp) ?_
  simp only [initSt, initEnv, List.map_cons, List.map_nil, List.getD_cons_zero, List.getD_cons_succ, List.getD_nil]
  refine W_sound tab_ok mixed 31 _ _ _ ?_
  simp -implicitDefEqProofs only [go_sem, qa, qb, qc, qd, qe, qf, qg, qh, qi, qj, qk, ↓reduceIte]
  repeat with_reducible refine ⟨by first | kernel_rfl | decide, ?_⟩
  obtain rfl := Option.some.inj h
  exact finC [(2, .v (.int .i64 x1095))] [(2, .v (.int .i64 x1095))] (by simp [leE, lk_cons]) (.cons _ _ _ _ _ (.v _ _ (.refl _)) .nil) (by rfl) (by simp [leE, lk_cons]) (by decide) (by decide) rfl (by simp only [go_sem, qa, qb, qc, qd, qe, qf, qg, qh, qi, qj, qk, ↓reduceIte, resQ_tmp, resQ_cell, resQ_nil, retD_one, retD_two, retD_three, retD_none]; try simp [R.val, retD_one, retD_two, retD_three, retD_none])
def m25 (N : Nat) (x847 : Int) (p848 : PV) : Option (PV) :=
  getL p848 fun n850 c851 =>
  bnd' (m61 N x847 (.lst false n850 c851) x847) fun o =>
  match o with
  | .inl x853 =>
    brn (x853 != 0) (
      some (.tup [(.int .i64 0), (.int .i64 x853)])) (
      brn (((n850 : Nat) : Int) == x847) (
        some (.tup [(.int .i64 0), (.int .i64 16)])) (
        none))
  | .inr (x856, c857) =>
    brn (x856 != 0) (
      some (.tup [(.int .i64 0), (.int .i64 x856)])) (
      brn (((n850 : Nat) : Int) == x847) (
        some (.tup [(.int .i64 0), (.int .i64 16)])) (
        bnd' (m64_2 N c857 ((n850 : Nat) : Int) 0) fun (p1089, c1091, x1092) =>
        getT0 p1089 <|
        bnd' (m69 N ((n850 : Nat) : Int) x1092) fun p1096 =>
        getI .i64 p1096 fun x1099 =>
        some (.tup [(.int .i64 x1099), (.int .i64 0)])))
theorem c25 (N : Nat) (x847 : Int) (p848 : PV) (r : PV)  (h : m25 N x847 p848 = some r) : FnP Tryd.prog 25 [(.int .i64 x847), p848] r := by
  unfold m25 at h
  refine Fn_of (sz := 36) tab_ok [0, 1, 4, 5, 6, 7, 8, 16, 20] [.tmp 4, .tmp 5] Tryd.func25 rfl rfl rfl (by simp) ?_
  simp only [initSt, initEnv, List.map_cons, List.map_nil, List.getD_cons_zero, List.getD_cons_succ, List.getD_nil]
  have hh := getL_some h; clear h; obtain ⟨n850, c851, h849, h⟩ := hh
  have hh := bnd'_some h; clear h; obtain ⟨oo, h852, h⟩ := hh
  rcases oo with x853 | ⟨x856, c857⟩
  · (try dsimp only at h)
    refine W_sound tab_ok mixed 10 _ _ _ ?_
    simp -implicitDefEqProofs only [go_sem, qa, qb, qc, qd, qe, qf, qg, qh, qi, qj, qk, ↓reduceIte, h849]
    repeat with_reducible refine ⟨by first | kernel_rfl | decide, ?_⟩
    refine Wp_callD [] (c61_a N _ _ _ _ h852) rfl rfl rfl (by first | rfl | (simp only [go_sem, qa, qb, qc, qd, qe, qf, qg, qh, qi, qj, qk, ↓reduceIte, h849] <;> rfl)) rfl (by kernel_rfl) ?_
    have hh := brn_some h; clear h; rcases hh with ⟨h854, h⟩ | ⟨h854, h⟩
    · refine W_sound tab_ok mixed 23 _ _ _ ?_
      simp -implicitDefEqProofs only [go_sem, qa, qb, qc, qd, qe, qf, qg, qh, qi, qj, qk, ↓reduceIte, h849, h854]
      repeat with_reducible refine ⟨by first | kernel_rfl | decide, ?_⟩
      obtain rfl := Option.some.inj h
      exact finC [(4, .v (.int .i64 0)), (5, .v (.int .i64 x853))] [(4, .v (.int .i64 0)), (5, .v (.int .i64 x853))] (by simp [leE, lk_cons]) (.cons _ _ _ _ _ (.v _ _ (.refl _)) (.cons _ _ _ _ _ (.v _ _ (.refl _)) .nil)) (by rfl) (by simp [leE, lk_cons]) (by decide) (by decide) rfl (by simp only [go_sem, qa, qb, qc, qd, qe, qf, qg, qh, qi, qj, qk, ↓reduceIte, resQ_tmp, resQ_cell, resQ_nil, retD_one, retD_two, retD_three, retD_none]; try simp [R.val, retD_one, retD_two, retD_three, retD_none])
    · have hh := brn_some h; clear h; rcases hh with ⟨h855, h⟩ | ⟨h855, h⟩
      · refine W_sound tab_ok mixed 31 _ _ _ ?_
        simp -implicitDefEqProofs only [go_sem, qa, qb, qc, qd, qe, qf, qg, qh, qi, qj, qk, ↓reduceIte, h849, h854, h855]
        repeat with_reducible refine ⟨by first | kernel_rfl | decide, ?_⟩
        obtain rfl := Option.some.inj h
        exact finC [(4, .v (.int .i64 0)), (5, .v (.int .i64 16))] [(4, .v (.int .i64 0)), (5, .v (.int .i64 16))] (by simp [leE, lk_cons]) (.cons _ _ _ _ _ (.v _ _ (.refl _)) (.cons _ _ _ _ _ (.v _ _ (.refl _)) .nil)) (by rfl) (by simp [leE, lk_cons]) (by decide) (by decide) rfl (by simp only [go_sem, qa, qb, qc, qd, qe, qf, qg, qh, qi, qj, qk, ↓reduceIte, resQ_tmp, resQ_cell, resQ_nil, retD_one, retD_two, retD_three, retD_none]; try simp [R.val, retD_one, retD_two, retD_three, retD_none])
      · cases h
  · (try dsimp only at h)
    refine W_sound tab_ok mixed 10 _ _ _ ?_
    simp -implicitDefEqProofs only [go_sem, qa, qb, qc, qd, qe, qf, qg, qh, qi, qj, qk, ↓reduceIte, h849]
    repeat with_reducible refine ⟨by first | kernel_rfl | decide, ?_⟩
    refine Wp_callD [] (c61_b N _ _ _ _ _ h852) rfl rfl rfl (by first | rfl | (simp only [go_sem, qa, qb, qc, qd, qe, qf, qg, qh, qi, qj, qk, ↓reduceIte, h849] <;> rfl)) rfl (by kernel_rfl) ?_
    have hh := brn_some h; clear h; rcases hh with ⟨h858, h⟩ | ⟨h858, h⟩
    · refine W_sound tab_ok mixed 23 _ _ _ ?_
      simp -implicitDefEqProofs only [go_sem, qa, qb, qc, qd, qe, qf, qg, qh, qi, qj, qk, ↓reduceIte, h849, h858]
      repeat with_reducible refine ⟨by first | kernel_rfl | decide, ?_⟩
      obtain rfl := Option.some.inj h
      exact finC [(4, .v (.int .i64 0)), (5, .v (.int .i64 x856))] [(4, .v (.int .i64 0)), (5, .v (.int .i64 x856))] (by simp [leE, lk_cons]) (.cons _ _ _ _ _ (.v _ _ (.refl _)) (.cons _ _ _ _ _ (.v _ _ (.refl _)) .nil)) (by rfl) (by simp [leE, lk_cons]) (by decide) (by decide) rfl (by simp only [go_sem, qa, qb, qc, qd, qe, qf, qg, qh, qi, qj, qk, ↓reduceIte, resQ_tmp, resQ_cell, resQ_nil, retD_one, retD_two, retD_three, retD_none]; try simp [R.val, retD_one, retD_two, retD_three, retD_none])
    · have hh := brn_some h; clear h; rcases hh with ⟨h859, h⟩ | ⟨h859, h⟩
      · refine W_sound tab_ok mixed 31 _ _ _ ?_
        simp -implicitDefEqProofs only [go_sem, qa, qb, qc, qd, qe, qf, qg, qh, qi, qj, qk, ↓reduceIte, h849, h858, h859]
        repeat with_reducible refine ⟨by first | kernel_rfl | decide, ?_⟩
        obtain rfl := Option.some.inj h
        exact finC [(4, .v (.int .i64 0)), (5, .v (.int .i64 16))] [(4, .v (.int .i64 0)), (5, .v (.int .i64 16))] (by simp [leE, lk_cons]) (.cons _ _ _ _ _ (.v _ _ (.refl _)) (.cons _ _ _ _ _ (.v _ _ (.refl _)) .nil)) (by rfl) (by simp [leE, lk_cons]) (by decide) (by decide) rfl (by simp only [go_sem, qa, qb, qc, qd, qe, qf, qg, qh, qi, qj, qk, ↓reduceIte, resQ_tmp, resQ_cell, resQ_nil, retD_one, retD_two, retD_three, retD_none]; try simp [R.val, retD_one, retD_two, retD_three, retD_none])
      · have hh := bnd'_some h; clear h; obtain ⟨⟨p1089, c1091, x1092⟩, h1090, h⟩ := hh
        (try dsimp only at h)
        refine W_sound tab_ok mixed 39 _ _ _ ?_
        simp -implicitDefEqProofs only [go_sem, qa, qb, qc, qd, qe, qf, qg, qh, qi, qj, qk, ↓reduceIte, h849, h858, h859]
        repeat with_reducible refine ⟨by first | kernel_rfl | decide, ?_⟩
        refine Wp_callD [13, 42] (c64_2 N _ _ _ _ _ _ h1090) rfl rfl rfl (by first | rfl | (simp only [go_sem, qa, qb, qc, qd, qe, qf, qg, qh, qi, qj, qk, ↓reduceIte, h849, h858, h859] <;> rfl)) rfl (by kernel_rfl) ?_
        have hh := getT0_some h; clear h; obtain ⟨h1093, h⟩ := hh
        refine W_sound tab_ok mixed 2 _ _ _ ?_
        simp -implicitDefEqProofs only [go_sem, qa, qb, qc, qd, qe, qf, qg, qh, qi, qj, qk, ↓reduceIte, h849, h858, h859, h1093]
        repeat with_reducible refine ⟨by first | kernel_rfl | decide, ?_⟩
        refine Wp_wkK (Wk_freeze 42 [(.int .i64 ((n850 : Nat) : Int)), (.int .i64 x1092)] (by rfl) (by decide) (by decide)) rfl ?_
        simp -implicitDefEqProofs only [go_sem, qa, qb, qc, qd, qe, qf, qg, qh, qi, qj, qk, ↓reduceIte, h849, h858, h859, h1093]
        have hh := bnd'_some h; clear h; obtain ⟨p1096, h1097, h⟩ := hh
        refine W_sound tab_ok mixed 3 _ _ _ ?_
        simp -implicitDefEqProofs only [go_sem, qa, qb, qc, qd, qe, qf, qg, qh, qi, qj, qk, ↓reduceIte, h849, h858, h859, h1093]
        repeat with_reducible refine ⟨by first | kernel_rfl | decide, ?_⟩
        refine Wp_callP (c69 N _ _ _ h1097) (by kernel_rfl) rfl rfl rfl rfl (by decide) ?_
        have hh := getI_some h; clear h; obtain ⟨x1099, h1098, h⟩ := hh
        refine W_sound tab_ok mixed 5 _ _ _ ?_
        simp -implicitDefEqProofs only [go_sem, qa, qb, qc, qd, qe, qf, qg, qh, qi, qj, qk, ↓reduceIte, h849, h858, h859, h1093, h1098]
        repeat with_reducible refine ⟨by first | kernel_rfl | decide, ?_⟩
        obtain rfl := Option.some.inj h
        exact finC [(4, .v (.int .i64 x1099)), (5, .v (.int .i64 0))] [(4, .v (.int .i64 x1099)), (5, .v (.int .i64 0))] (by simp [leE, lk_cons]) (.cons _ _ _ _ _ (.v _ _ (.refl _)) (.cons _ _ _ _ _ (.v _ _ (.refl _)) .nil)) (by rfl) (by simp [leE, lk_cons]) (by decide) (by decide) rfl (by simp only [go_sem, qa, qb, qc, qd, qe, qf, qg, qh, qi, qj, qk, ↓reduceIte, resQ_tmp, resQ_cell, resQ_nil, retD_one, retD_two, retD_three, retD_none]; try simp [R.val, retD_one, retD_two, retD_three, retD_none])
def m27_L1 (N : Nat) (x1100 : Int) (n1103 : Nat) (c1104 : List PV) (n1178 : Nat) (x1179 : Int) (c1180 : List PV) (n1186 : Nat) (c1187 : List PV) : Nat → Int → List PV → Option (List PV)
  | 0, _, _ => none
  | n + 1, x1201, c1202 =>
    brn (decide (x1201 < ((n1186 : Nat) : Int))) (
      grd (0 ≤ x1201 ∧ x1201 < ((n1186 : Nat) : Int)) <|
      grd (0 < List.length (List.drop (Int.toNat x1201) c1187)) <|
      getI .i64 (gp c1187 (Int.toNat x1201)) fun x1208 =>
      grd (0 ≤ x1208 ∧ x1208 < (((Int.toNat x1100) : Nat) : Int)) <|
      grd (((Int.toNat x1208) + 1) ≤ List.length c1202) <|
      m27_L1 N x1100 n1103 c1104 n1178 x1179 c1180 n1186 c1187 n (IntKind.i64.wrap (x1201 + 1)) (List.set c1202 (Int.toNat x1208) (.int .i64 x1201))) (
      some c1202)
def m27_L0 (N : Nat) (x1100 : Int) (n1103 : Nat) (c1104 : List PV) : Nat → Nat → Int → List PV → Option ((Nat × List PV))
  | 0, _, _, _ => none
  | n + 1, n1178, x1179, c1180 =>
    brn (decide (x1179 < ((n1103 : Nat) : Int))) (
      grd (0 ≤ x1179 ∧ x1179 < ((n1103 : Nat) : Int)) <|
      grd (0 < List.length (List.drop (Int.toNat x1179) c1104)) <|
      getL (gp c1104 (Int.toNat x1179)) fun n1186 c1187 =>
      grd (0 ≤ x1100 ∧ x1100 ≤ x1100 ∧ x1100 ≤ 1099511627776) <|
      bnd' (m27_L1 N x1100 n1103 c1104 n1178 x1179 c1180 n1186 c1187 N 0 (List.replicate (Int.toNat x1100) (.int .i64 0))) fun c1212 =>
      grd ((n1178 + 1) ≤ 1099511627776) <|
      grd (List.length c1180 = n1178) <|
      grd (List.length c1212 = (Int.toNat x1100)) <|
      m27_L0 N x1100 n1103 c1104 n (n1178 + 1) (IntKind.i64.wrap (x1179 + 1)) (c1180 ++ [(.lst false (Int.toNat x1100) c1212)])) (
      some (n1178, c1180))
def m27 (N : Nat) (x1100 : Int) (p1101 : PV) : Option (PV) :=
  getL p1101 fun n1103 c1104 =>
  bnd' (m23 N x1100 (.lst false n1103 c1104)) fun p1105 =>
  getI .i64 p1105 fun x1108 =>
  brn (x1108 != 0) (
    some (.tup [(.lst false 0 []), (.int .i64 x1108)])) (
    bnd' (m27_L0 N x1100 n1103 c1104 N 0 0 []) fun o =>
    match o with
    | (n1216, c1217) =>
      grd (List.length c1217 = n1216) <|
      some (.tup [(.lst false n1216 c1217), (.int .i64 0)]))
theorem c27 (N : Nat) (x1100 : Int) (p1101 : PV) (r : PV)  (h : m27 N x1100 p1101 = some r) : FnP Tryd.prog 27 [(.int .i64 x1100), p1101] r := by
  unfold m27 at h
  refine Fn_of (sz := 45) tab_ok [0, 1, 4, 5, 6, 7, 9, 10, 11, 12, 17, 19, 20, 21, 22, 27, 28, 29, 30] [.tmp 4, .tmp 5] Tryd.func27 rfl rfl rfl (by simp) ?_
  simp only [initSt, initEnv, List.map_cons, List.map_nil, List.getD_cons_zero, List.getD_cons_succ, List.getD_nil]
  have hh := getL_some h; clear h; obtain ⟨n1103, c1104, h1102, h⟩ := hh
  have hh := bnd'_some h; clear h; obtain ⟨p1105, h1106, h⟩ := hh
  refine W_sound tab_ok mixed 10 _ _ _ ?_
  simp -implicitDefEqProofs only [go_sem, qa, qb, qc, qd, qe, qf, qg, qh, qi, qj, qk, ↓reduceIte, h1102]
  repeat with_reducible refine ⟨by first | kernel_rfl | decide, ?_⟩
  refine Wp_callP (c23 N _ _ _ h1106) (by kernel_rfl) rfl rfl rfl rfl (by decide) ?_
  have hh := getI_some h; clear h; obtain ⟨x1108, h1107, h⟩ := hh
  have hh := brn_some h; clear h; rcases hh with ⟨h1109, h⟩ | ⟨h1109, h⟩
  · refine W_sound tab_ok mixed 16 _ _ _ ?_
    simp -implicitDefEqProofs only [go_sem, qa, qb, qc, qd, qe, qf, qg, qh, qi, qj, qk, ↓reduceIte, h1102, h1107, h1109]
    repeat with_reducible refine ⟨by first | kernel_rfl | decide, ?_⟩
    obtain rfl := Option.some.inj h
    exact finC [(4, .v .nl), (5, .v (.int .i64 x1108))] [(4, .v (.lst false 0 [])), (5, .v (.int .i64 x1108))] (by simp [leE, lk_cons]) (.cons _ _ _ _ _ (.v _ _ (.nl false)) (.cons _ _ _ _ _ (.v _ _ (.refl _)) .nil)) (by rfl) (by simp [leE, lk_cons]) (by decide) (by decide) rfl (by simp only [go_sem, qa, qb, qc, qd, qe, qf, qg, qh, qi, qj, qk, ↓reduceIte, resQ_tmp, resQ_cell, resQ_nil, retD_one, retD_two, retD_three, retD_none]; try simp [R.val, retD_one, retD_two, retD_three, retD_none])
  · refine W_sound tab_ok mixed 20 _ _ _ ?_
    simp -implicitDefEqProofs only [go_sem, qa, qb, qc, qd, qe, qf, qg, qh, qi, qj, qk, ↓reduceIte, h1102, h1107, h1109]
    repeat with_reducible refine ⟨by first | kernel_rfl | decide, ?_⟩
    refine Wp_weaken (Wk_ownS 7 1 rfl (by decide) (by decide)) ?_
    simp -implicitDefEqProofs only [go_sem, qa, qb, qc, qd, qe, qf, qg, qh, qi, qj, qk, ↓reduceIte, h1102, h1107, h1109]
    have hh := bnd'_some h; clear h; obtain ⟨o1219, h1220, h1221⟩ := hh
    refine Wp_cut (fun s => ∃ n1216, ∃ c1217, (n1216, c1217) = o1219 ∧ s = ⟨[], [(0, .dead), (1, .dead), (4, .dead), (5, .dead), (6, .dead), (7, .sl false 0 0 n1216 1), (9, .dead), (10, .dead), (11, .dead), (12, .dead), (17, .dead), (19, .dead), (20, .dead), (21, .dead), (22, .dead), (27, .dead), (28, .dead), (29, .dead), (30, .dead)], [(0, .p c1217)], 1, []⟩) ?_ ?_
    · refine Wp_block ?_
      refine Wp_loopG (fun n s => ∃ n1178, ∃ x1179, ∃ c1180, m27_L0 N x1100 n1103 c1104 n n1178 x1179 c1180 = some o1219 ∧ s = ⟨[], [(0, .v (.int .i64 x1100)), (1, .dead), (4, .dead), (5, .dead), (6, .dead), (7, .sl false 0 0 n1178 1), (9, .dead), (10, .dead), (11, .dead), (12, .dead), (17, .dead), (19, .v (.lst false n1103 c1104)), (20, .v (.int .i64 ((n1103 : Nat) : Int))), (21, .v (.int .i64 x1179)), (22, .dead), (27, .dead), (28, .dead), (29, .dead), (30, .dead)], [(0, .p c1180)], 1, []⟩) N _ ((Wk_le (.r (.k (.k (.k (.k (.r (.r (.r (.r (.r (.k (.r (.r (.r (.r (.r (.r (.r (.r .nil))))))))))))))))))) (OLe.refl _)).trans (cmpS_ok (st' := ⟨[], [(0, .v (.int .i64 x1100)), (1, .dead), (4, .dead), (5, .dead), (6, .dead), (7, .sl false 0 0 0 1), (9, .dead), (10, .dead), (11, .dead), (12, .dead), (17, .dead), (19, .v (.lst false n1103 c1104)), (20, .v (.int .i64 ((n1103 : Nat) : Int))), (21, .v (.int .i64 0)), (22, .dead), (27, .dead), (28, .dead), (29, .dead), (30, .dead)], [(0, .p [])], 1, []⟩) (by kernel_rfl))) ⟨_, _, _, h1220, rfl⟩ ?_
      clear h1220
      rintro n _ ⟨n1178, x1179, c1180, h1220, rfl⟩
      cases n with
      | zero => cases h1220
      | succ n =>
        rw [m27_L0] at h1220
        have hh := brn_some h1220; clear h1220; rcases hh with ⟨h1181, h1220⟩ | ⟨h1181, h1220⟩
        · have hh := grd_some h1220; clear h1220; obtain ⟨⟨g1182, g1183⟩, h1220⟩ := hh
          have hh := grd_some h1220; clear h1220; obtain ⟨g1184, h1220⟩ := hh
          have hh := getL_some h1220; clear h1220; obtain ⟨n1186, c1187, h1185, h1220⟩ := hh
          have hh := grd_some h1220; clear h1220; obtain ⟨⟨g1188, g1189, g1190⟩, h1220⟩ := hh
          refine W_sound tab_ok mixed 28 _ _ _ ?_
          simp -implicitDefEqProofs only [go_sem, qa, qb, qc, qd, qe, qf, qg, qh, qi, qj, qk, ↓reduceIte, h1102, h1107, h1109, h1181, g1182, g1183, g1184, h1185, g1188, g1189, g1190]
          repeat with_reducible refine ⟨by first | kernel_rfl | decide, ?_⟩
          have hh := bnd'_some h1220; clear h1220; obtain ⟨o1222, h1223, h1224⟩ := hh
          refine Wp_cut (fun s => ∃ c1212, c1212 = o1222 ∧ s = ⟨[], [(0, .v (.int .i64 x1100)), (1, .dead), (4, .dead), (5, .dead), (6, .dead), (7, .sl false 0 0 n1178 1), (9, .dead), (10, .sl false 1 0 (Int.toNat x1100) 1), (11, .dead), (12, .dead), (17, .dead), (19, .v (.lst false n1103 c1104)), (20, .v (.int .i64 ((n1103 : Nat) : Int))), (21, .v (.int .i64 x1179)), (22, .dead), (27, .dead), (28, .dead), (29, .dead), (30, .dead)], [(0, .p c1180), (1, .p c1212)], 2, []⟩) ?_ ?_
          · refine Wp_block ?_
            refine Wp_loopG (fun n s => ∃ x1201, ∃ c1202, m27_L1 N x1100 n1103 c1104 n1178 x1179 c1180 n1186 c1187 n x1201 c1202 = some o1222 ∧ s = ⟨[], [(0, .v (.int .i64 x1100)), (1, .dead), (4, .dead), (5, .dead), (6, .dead), (7, .sl false 0 0 n1178 1), (9, .dead), (10, .sl false 1 0 (Int.toNat x1100) 1), (11, .dead), (12, .dead), (17, .dead), (19, .v (.lst false n1103 c1104)), (20, .v (.int .i64 ((n1103 : Nat) : Int))), (21, .v (.int .i64 x1179)), (22, .dead), (27, .v (.lst false n1186 c1187)), (28, .v (.int .i64 ((n1186 : Nat) : Int))), (29, .v (.int .i64 x1201)), (30, .dead)], [(0, .p c1180), (1, .p c1202)], 2, []⟩) N _ ((Wk_le (.r (.r (.r (.r (.r (.r (.k (.r (.r (.r (.r (.r (.r (.r (.k (.r (.r (.r (.r .nil))))))))))))))))))) (OLe.refl _)).trans (cmpS_ok (st' := ⟨[], [(0, .v (.int .i64 x1100)), (1, .dead), (4, .dead), (5, .dead), (6, .dead), (7, .sl false 0 0 n1178 1), (9, .dead), (10, .sl false 1 0 (Int.toNat x1100) 1), (11, .dead), (12, .dead), (17, .dead), (19, .v (.lst false n1103 c1104)), (20, .v (.int .i64 ((n1103 : Nat) : Int))), (21, .v (.int .i64 x1179)), (22, .dead), (27, .v (.lst false n1186 c1187)), (28, .v (.int .i64 ((n1186 : Nat) : Int))), (29, .v (.int .i64 0)), (30, .dead)], [(0, .p c1180), (1, .p (List.replicate (Int.toNat x1100) (.int .i64 0)))], 2, []⟩) (by kernel_rfl))) ⟨_, _, h1223, rfl⟩ ?_
            clear h1223
            rintro n _ ⟨x1201, c1202, h1223, rfl⟩
            cases n with
            | zero => cases h1223
            | succ n =>
              rw [m27_L1] at h1223
              have hh := brn_some h1223; clear h1223; rcases hh with ⟨h1203, h1223⟩ | ⟨h1203, h1223⟩
              · have hh := grd_some h1223; clear h1223; obtain ⟨⟨g1204, g1205⟩, h1223⟩ := hh
                have hh := grd_some h1223; clear h1223; obtain ⟨g1206, h1223⟩ := hh
                have hh := getI_some h1223; clear h1223; obtain ⟨x1208, h1207, h1223⟩ := hh
                have hh := grd_some h1223; clear h1223; obtain ⟨⟨g1209, g1210⟩, h1223⟩ := hh
                have hh := grd_some h1223; clear h1223; obtain ⟨g1211, h1223⟩ := hh
                refine W_sound tab_ok mixed 29 _ _ _ ?_
                simp -implicitDefEqProofs only [go_sem, qa, qb, qc, qd, qe, qf, qg, qh, qi, qj, qk, ↓reduceIte, h1102, h1107, h1109, h1181, g1182, g1183, g1184, h1185, g1188, g1189, g1190, h1203, g1204, g1205, g1206, h1207, g1209, g1210, g1211]
                repeat with_reducible refine ⟨by first | kernel_rfl | decide, ?_⟩
                exact cutQ _ ((Wk_le (.r (.r (.r (.r (.r (.r (.r (.r (.k (.k (.r (.r (.r (.r (.r (.r (.r (.r (.k .nil))))))))))))))))))) (OLe.refl _)).trans (cmpS_ok (st' := ⟨[], [(0, .v (.int .i64 x1100)), (1, .dead), (4, .dead), (5, .dead), (6, .dead), (7, .sl false 0 0 n1178 1), (9, .dead), (10, .sl false 1 0 (Int.toNat x1100) 1), (11, .dead), (12, .dead), (17, .dead), (19, .v (.lst false n1103 c1104)), (20, .v (.int .i64 ((n1103 : Nat) : Int))), (21, .v (.int .i64 x1179)), (22, .dead), (27, .v (.lst false n1186 c1187)), (28, .v (.int .i64 ((n1186 : Nat) : Int))), (29, .v (.int .i64 (IntKind.i64.wrap (x1201 + 1)))), (30, .dead)], [(0, .p c1180), (1, .p (List.set c1202 (Int.toNat x1208) (.int .i64 x1201)))], 2, []⟩) (by kernel_rfl))) ⟨n, Nat.lt_succ_self n, _, _, h1223, rfl⟩
              · refine W_sound tab_ok mixed 7 _ _ _ ?_
                simp -implicitDefEqProofs only [go_sem, qa, qb, qc, qd, qe, qf, qg, qh, qi, qj, qk, ↓reduceIte, h1102, h1107, h1109, h1181, g1182, g1183, g1184, h1185, g1188, g1189, g1190, h1203]
                repeat with_reducible refine ⟨by first | kernel_rfl | decide, ?_⟩
                obtain rfl := Option.some.inj h1223
                exact cutQ _ ((Wk_le (.r (.r (.r (.r (.r (.r (.r (.r (.r (.r (.r (.r (.r (.r (.r (.k (.k (.k (.k .nil))))))))))))))))))) (OLe.refl _)).trans (cmpS_ok (st' := ⟨[], [(0, .v (.int .i64 x1100)), (1, .dead), (4, .dead), (5, .dead), (6, .dead), (7, .sl false 0 0 n1178 1), (9, .dead), (10, .sl false 1 0 (Int.toNat x1100) 1), (11, .dead), (12, .dead), (17, .dead), (19, .v (.lst false n1103 c1104)), (20, .v (.int .i64 ((n1103 : Nat) : Int))), (21, .v (.int .i64 x1179)), (22, .dead), (27, .dead), (28, .dead), (29, .dead), (30, .dead)], [(0, .p c1180), (1, .p c1202)], 2, []⟩) (by kernel_rfl))) ⟨_, rfl, rfl⟩
          · rintro _ ⟨c1212, rfl, rfl⟩
            have hh := grd_some h1224; clear h1224; obtain ⟨g1213, h1224⟩ := hh
            have hh := grd_some h1224; clear h1224; obtain ⟨g1214, h1224⟩ := hh
            refine W_sound tab_ok mixed 7 _ _ _ ?_
            simp -implicitDefEqProofs only [go_sem, qa, qb, qc, qd, qe, qf, qg, qh, qi, qj, qk, ↓reduceIte, h1102, h1107, h1109, h1181, g1182, g1183, g1184, h1185, g1188, g1189, g1190, g1213, g1214]
            repeat with_reducible refine ⟨by first | kernel_rfl | decide, ?_⟩
            have hh := grd_some h1224; clear h1224; obtain ⟨g1215, h1224⟩ := hh
            refine Wp_wkK (Wk_freeze 1 c1212 (by rfl) (by decide) (by decide)) rfl ?_
            simp -implicitDefEqProofs only [go_sem, qa, qb, qc, qd, qe, qf, qg, qh, qi, qj, qk, ↓reduceIte, h1102, h1107, h1109, h1181, g1182, g1183, g1184, h1185, g1188, g1189, g1190, g1213, g1214, g1215]
            refine W_sound tab_ok mixed 5 _ _ _ ?_
            simp -implicitDefEqProofs only [go_sem, qa, qb, qc, qd, qe, qf, qg, qh, qi, qj, qk, ↓reduceIte, h1102, h1107, h1109, h1181, g1182, g1183, g1184, h1185, g1188, g1189, g1190, g1213, g1214, g1215]
            repeat with_reducible refine ⟨by first | kernel_rfl | decide, ?_⟩
            exact cutQ _ ((Wk_le (.r (.r (.r (.r (.r (.r (.r (.k (.r (.r (.r (.r (.r (.r (.r (.r (.r (.r (.r .nil))))))))))))))))))) (OLe.refl _)).trans (cmpS_ok (st' := ⟨[], [(0, .v (.int .i64 x1100)), (1, .dead), (4, .dead), (5, .dead), (6, .dead), (7, .sl false 0 0 (n1178 + 1) 1), (9, .dead), (10, .dead), (11, .dead), (12, .dead), (17, .dead), (19, .v (.lst false n1103 c1104)), (20, .v (.int .i64 ((n1103 : Nat) : Int))), (21, .v (.int .i64 (IntKind.i64.wrap (x1179 + 1)))), (22, .dead), (27, .dead), (28, .dead), (29, .dead), (30, .dead)], [(0, .p (c1180 ++ [(.lst false (Int.toNat x1100) c1212)]))], 1, []⟩) (by kernel_rfl))) ⟨n, Nat.lt_succ_self n, _, _, _, h1224, rfl⟩
        · refine W_sound tab_ok mixed 7 _ _ _ ?_
          simp -implicitDefEqProofs only [go_sem, qa, qb, qc, qd, qe, qf, qg, qh, qi, qj, qk, ↓reduceIte, h1102, h1107, h1109, h1181]
          repeat with_reducible refine ⟨by first | kernel_rfl | decide, ?_⟩
          obtain rfl := Option.some.inj h1220
          exact cutQ _ ((Wk_le (.k (.r (.r (.r (.r (.r (.r (.r (.r (.r (.r (.k (.k (.k (.k (.r (.r (.r (.r .nil))))))))))))))))))) (OLe.refl _)).trans (cmpS_ok (st' := ⟨[], [(0, .dead), (1, .dead), (4, .dead), (5, .dead), (6, .dead), (7, .sl false 0 0 n1178 1), (9, .dead), (10, .dead), (11, .dead), (12, .dead), (17, .dead), (19, .dead), (20, .dead), (21, .dead), (22, .dead), (27, .dead), (28, .dead), (29, .dead), (30, .dead)], [(0, .p c1180)], 1, []⟩) (by kernel_rfl))) ⟨_, _, rfl, rfl⟩
    · rintro _ ⟨n1216, c1217, rfl, rfl⟩
      (try dsimp only at h1221)
      refine W_sound tab_ok mixed 8 _ _ _ ?_
      simp -implicitDefEqProofs only [go_sem, qa, qb, qc, qd, qe, qf, qg, qh, qi, qj, qk, ↓reduceIte, h1102, h1107, h1109]
      repeat with_reducible refine ⟨by first | kernel_rfl | decide, ?_⟩
      have hh := grd_some h1221; clear h1221; obtain ⟨g1218, h1221⟩ := hh
      refine FinQ_wk (Wk_freeze 0 c1217 (by rfl) (by decide) (by decide)) ?_
      simp -implicitDefEqProofs only [go_sem, qa, qb, qc, qd, qe, qf, qg, qh, qi, qj, qk, ↓reduceIte, h1102, h1107, h1109, g1218]
      obtain rfl := Option.some.inj h1221
      exact finC [(4, .v (.lst false n1216 c1217)), (5, .v (.int .i64 0))] [(4, .v (.lst false n1216 c1217)), (5, .v (.int .i64 0))] (by simp [leE, lk_cons]) (.cons _ _ _ _ _ (.v _ _ (.refl _)) (.cons _ _ _ _ _ (.v _ _ (.refl _)) .nil)) (by rfl) (by simp [leE, lk_cons]) (by decide) (by decide) rfl (by simp only [go_sem, qa, qb, qc, qd, qe, qf, qg, qh, qi, qj, qk, ↓reduceIte, resQ_tmp, resQ_cell, resQ_nil, retD_one, retD_two, retD_three, retD_none]; try simp [R.val, retD_one, retD_two, retD_three, retD_none])
end Go.Proofs.YtcaecfofgdogbaaDoor
