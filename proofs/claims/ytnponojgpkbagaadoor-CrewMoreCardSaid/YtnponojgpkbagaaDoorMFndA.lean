/-
  Models and laws.
-/
import Derived.Test.YtnponojgpkbagaaDoorB
import Derived.Test.YtnponojgpkbagaaDoorV35
import Derived.Test.YtnponojgpkbagaaDoorK
import Derived.Test.YtnponojgpkbagaaDoorV36
namespace Go.Proofs.YtnponojgpkbagaaDoor
open Go.V
open Nat renaming reduceBEq → qa, reduceAdd → qb, reduceSub → qc, reduceMul → qd, reduceLT → qe, reduceLeDiff → qf
open Int renaming reduceLE → qg, reduceLT → qh, reduceToNat → qi, reduceBEq → qj, reduceBNe → qk
set_option maxRecDepth 100000
set_option maxHeartbeats 4000000
set_option linter.unusedSimpArgs false
set_option linter.unusedVariables false
attribute [local go_sem] tl1 tl2 tl3 tl4 tl5 tl9 tl17 tl21 tl22 tl23 tl24 tl25 tl26 tl27 tl28 tl29 tl31 tl32 tl34 tl35 tl36 tl37 tl38 tl39 tl40 tl41 tl42 tl43 tl44 tl45 tl47 tl48 tl49 tl50 tl51 tl52 tl53 tl54 tl55 tl56 tl57 tl58 tl59 tl60 tl61 tl62 tl63 tl64 tl65 tl66 tl67 tl68 tl69 tl70 tl71 tl72 tl73 tl74 tl75 tl76 tl77 tl78 tl79 tl80 tl81 tl82 tl83 tl84 tl85 tl86 tl87 tl88 tl89 tl90 tl92 tl94 tl95 tl96 tl97 tl98 tl99 tl100 tl101 tl102 tl103 tl104 tl105 tl106 tl107 tl108 tl109 tl110 tl111 tl112 tl113 tl114 tl115 tl116 tl118 tl119 tl121 tl122 tl123 tl124 tl125 tl126 tl127 tl128 tl129 tl131 tl133 tl134 tl135 tl136 tl142 tl146
def getA5 {α : Type} (p : PV) (k : PV → PV → PV → PV → PV → Option α) : Option α := match p with | .agg [a0, a1, a2, a3, a4] => k a0 a1 a2 a3 a4 | _ => none
theorem getA5_some {α : Type} {p : PV} {k : PV → PV → PV → PV → PV → Option α} {r : α} (h : getA5 p k = some r) : ∃ a0 a1 a2 a3 a4, p = .agg [a0, a1, a2, a3, a4] ∧ k a0 a1 a2 a3 a4 = some r := by
  unfold getA5 at h; split at h
  · exact ⟨_, _, _, _, _, rfl, h⟩
  · cases h

def m93_L0 (N : Nat) (n66 : Nat) (c67 : List PV) : Nat → Int → PV → PV → Option ((PV ⊕ Unit))
  | 0, _, _, _ => none
  | n + 1, x88, p89, p90 =>
    brn (decide (x88 < ((n66 : Nat) : Int))) (
      grd (0 ≤ x88 ∧ x88 < ((n66 : Nat) : Int)) <|
      grd (2 ≤ List.length (List.drop ((Int.toNat x88) * 2) c67)) <|
      getA2 (.agg (List.take 2 (List.drop ((Int.toNat x88) * 2) c67))) fun p96 p97 =>
      getI .i64 p90 fun x99 =>
      getI .i64 p97 fun x101 =>
      getI .i64 p89 fun x103 =>
      getI .i64 p96 fun x105 =>
      brn ((x103 == x105) && (x99 == x101)) (
        some (.inl (.int .i64 x88))) (
        m93_L0 N n66 c67 n (IntKind.i64.wrap (x88 + 1)) (.int .i64 x103) (.int .i64 x99))) (
      some (.inr ()))
def m93 (N : Nat) (p63 : PV) (p64 : PV) : Option (PV) :=
  getL p63 fun n66 c67 =>
  getA2 p64 fun p69 p70 =>
  bnd' (m93_L0 N n66 c67 N 0 p69 p70) fun o =>
  match o with
  | .inl p107 =>
    some p107
  | .inr () =>
    some (.int .i64 (-1))
theorem c93 (N : Nat) (p63 : PV) (p64 : PV) (r : PV)  (h : m93 N p63 p64 = some r) : FnP Tryd.prog 93 [p63, p64] r := by
  unfold m93 at h
  refine Fn_of (sz := 19) tab_ok [0, 1, 3, 4, 5, 7, 8, 9, 16] [.tmp 4] Tryd.func93 rfl rfl rfl (by simp) ?_
  simp only [initSt, initEnv, List.map_cons, List.map_nil, List.getD_cons_zero, List.getD_cons_succ, List.getD_nil]
  have hh := getL_some h; clear h; obtain ⟨n66, c67, h65, h⟩ := hh
  have hh := getA2_some h; clear h; obtain ⟨p69, p70, h68, h⟩ := hh
  refine W_sound tab_ok mixed 12 _ _ _ ?_
  simp -implicitDefEqProofs only [go_sem, qa, qb, qc, qd, qe, qf, qg, qh, qi, qj, qk, ↓reduceIte, h65, h68]
  repeat with_reducible refine And.intro (by first | kernel_rfl | decide) ?_
  have hh := bnd'_some h; clear h; obtain ⟨o108, h109, h110⟩ := hh
  refine Wp_cut (fun s => (.inr ()) = o108 ∧ s = ⟨[], [(0, .dead), (1, .dead), (3, .dead), (4, .dead), (5, .dead), (7, .dead), (8, .dead), (9, .dead), (16, .dead)], [], 0, []⟩) ?_ ?_
  · refine Wp_block ?_
    refine Wp_loopG (fun n s => ∃ x88, ∃ p89, ∃ p90, m93_L0 N n66 c67 n x88 p89 p90 = some o108 ∧ s = ⟨[], [(0, .v (.lst false n66 c67)), (1, .dead), (3, .ptr 0 0), (4, .dead), (5, .dead), (7, .v (.int .i64 ((n66 : Nat) : Int))), (8, .v (.int .i64 x88)), (9, .dead), (16, .dead)], [(0, .p [p89, p90])], 1, []⟩) N _ ((Wk_le (.r (.k (.r (.k (.r (.r (.r (.r (.r .nil))))))))) (OLe.refl _)).trans (cmpS_ok rfl)) ⟨_, _, _, h109, rfl⟩ ?_
    clear h109
    rintro n _ ⟨x88, p89, p90, h109, rfl⟩
    cases n with
    | zero => cases h109
    | succ n =>
      rw [m93_L0] at h109
      have hh := brn_some h109; clear h109; rcases hh with ⟨h91, h109⟩ | ⟨h91, h109⟩
      · have hh := grd_some h109; clear h109; obtain ⟨⟨g92, g93⟩, h109⟩ := hh
        have hh := grd_some h109; clear h109; obtain ⟨g94, h109⟩ := hh
        have hh := getA2_some h109; clear h109; obtain ⟨p96, p97, h95, h109⟩ := hh
        injection h95 with h95
        have hh := getI_some h109; clear h109; obtain ⟨x99, h98, h109⟩ := hh
        have hh := getI_some h109; clear h109; obtain ⟨x101, h100, h109⟩ := hh
        have hh := getI_some h109; clear h109; obtain ⟨x103, h102, h109⟩ := hh
        have hh := getI_some h109; clear h109; obtain ⟨x105, h104, h109⟩ := hh
        have hh := brn_some h109; clear h109; rcases hh with ⟨h106, h109⟩ | ⟨h106, h109⟩
        · refine W_sound tab_ok mixed 31 _ _ _ ?_
          simp -implicitDefEqProofs only [go_sem, qa, qb, qc, qd, qe, qf, qg, qh, qi, qj, qk, ↓reduceIte, h65, h68, h91, g92, g93, g94, h95, h98, h100, h102, h104, h106]
          repeat with_reducible refine And.intro (by first | kernel_rfl | decide) ?_
          obtain rfl := Option.some.inj h109
          (try dsimp only at h110)
          obtain rfl := Option.some.inj h110
          exact finC [(4, .v (.int .i64 x88))] [(4, .v (.int .i64 x88))] (by simp [leE, lk_cons]) (.cons _ _ _ _ _ (.v _ _ (.refl _)) .nil) (by rfl) (by simp [leE, lk_cons]) (by decide) (by decide) rfl (by simp only [go_sem, qa, qb, qc, qd, qe, qf, qg, qh, qi, qj, qk, ↓reduceIte, resQ_tmp, resQ_cell, resQ_nil, retD_one, retD_two, retD_three, retD_none]; try simp [R.val, retD_one, retD_two, retD_three, retD_none])
        · refine W_sound tab_ok mixed 30 _ _ _ ?_
          simp -implicitDefEqProofs only [go_sem, qa, qb, qc, qd, qe, qf, qg, qh, qi, qj, qk, ↓reduceIte, h65, h68, h91, g92, g93, g94, h95, h98, h100, h102, h104, h106]
          repeat with_reducible refine And.intro (by first | kernel_rfl | decide) ?_
          exact cutQ _ ((Wk_le (.r (.r (.r (.r (.k (.r (.r (.k (.k .nil))))))))) (OLe.refl _)).trans (cmpS_ok rfl)) ⟨n, Nat.lt_succ_self n, _, _, _, h109, rfl⟩
      · refine W_sound tab_ok mixed 7 _ _ _ ?_
        simp -implicitDefEqProofs only [go_sem, qa, qb, qc, qd, qe, qf, qg, qh, qi, qj, qk, ↓reduceIte, h65, h68, h91]
        repeat with_reducible refine And.intro (by first | kernel_rfl | decide) ?_
        obtain rfl := Option.some.inj h109
        exact cutQ _ ((Wk_le (.k (.r (.k (.r (.r (.k (.k (.k (.r .nil))))))))) (OLe.refl _)).trans (cmpS_ok rfl)) ⟨rfl, rfl⟩
  · rintro _ ⟨rfl, rfl⟩
    (try dsimp only at h110)
    refine W_sound tab_ok mixed 6 _ _ _ ?_
    simp -implicitDefEqProofs only [go_sem, qa, qb, qc, qd, qe, qf, qg, qh, qi, qj, qk, ↓reduceIte, h65, h68]
    repeat with_reducible refine And.intro (by first | kernel_rfl | decide) ?_
    obtain rfl := Option.some.inj h110
    exact finC [(4, .v (.int .i64 (-1)))] [(4, .v (.int .i64 (-1)))] (by simp [leE, lk_cons]) (.cons _ _ _ _ _ (.v _ _ (.refl _)) .nil) (by rfl) (by simp [leE, lk_cons]) (by decide) (by decide) rfl (by simp only [go_sem, qa, qb, qc, qd, qe, qf, qg, qh, qi, qj, qk, ↓reduceIte, resQ_tmp, resQ_cell, resQ_nil, retD_one, retD_two, retD_three, retD_none]; try simp [R.val, retD_one, retD_two, retD_three, retD_none])

def m51 (N : Nat) (p55 : PV) (p56 : PV) : Option (PV) :=
  getL p55 fun n58 c59 =>
  getA2 p56 fun p61 p62 =>
  bnd' (m93 N (.lst false n58 c59) (.agg [p61, p62])) fun p111 =>
  getI .i64 p111 fun x114 =>
  some (.bool (decide (x114 ≥ 0)))
theorem c51 (N : Nat) (p55 : PV) (p56 : PV) (r : PV)  (h : m51 N p55 p56 = some r) : FnP Tryd.prog 51 [p55, p56] r := by
  unfold m51 at h
  refine Fn_of (sz := 9) tab_ok [0, 1, 3, 4] [.tmp 4] Tryd.func51 rfl rfl rfl (by simp) ?_
  simp only [initSt, initEnv, List.map_cons, List.map_nil, List.getD_cons_zero, List.getD_cons_succ, List.getD_nil]
  have hh := getL_some h; clear h; obtain ⟨n58, c59, h57, h⟩ := hh
  have hh := getA2_some h; clear h; obtain ⟨p61, p62, h60, h⟩ := hh
  have hh := bnd'_some h; clear h; obtain ⟨p111, h112, h⟩ := hh
  refine W_sound tab_ok mixed 9 _ _ _ ?_
  simp -implicitDefEqProofs only [go_sem, qa, qb, qc, qd, qe, qf, qg, qh, qi, qj, qk, ↓reduceIte, h57, h60]
  repeat with_reducible refine And.intro (by first | kernel_rfl | decide) ?_
  refine Wp_callP (c93 N _ _ _ h112) (by kernel_rfl) rfl rfl rfl rfl (by decide) ?_
  have hh := getI_some h; clear h; obtain ⟨x114, h113, h⟩ := hh
  refine W_sound tab_ok mixed 5 _ _ _ ?_
  simp -implicitDefEqProofs only [go_sem, qa, qb, qc, qd, qe, qf, qg, qh, qi, qj, qk, ↓reduceIte, h57, h60, h113]
  repeat with_reducible refine And.intro (by first | kernel_rfl | decide) ?_
  obtain rfl := Option.some.inj h
  exact finC [(4, .v (.bool (decide (x114 ≥ 0))))] [(4, .v (.bool (decide (x114 ≥ 0))))] (by simp [leE, lk_cons]) (.cons _ _ _ _ _ (.v _ _ (.refl _)) .nil) (by rfl) (by simp [leE, lk_cons]) (by decide) (by decide) rfl (by simp only [go_sem, qa, qb, qc, qd, qe, qf, qg, qh, qi, qj, qk, ↓reduceIte, resQ_tmp, resQ_cell, resQ_nil, retD_one, retD_two, retD_three, retD_none]; try simp [R.val, retD_one, retD_two, retD_three, retD_none])

def m22_L1 (N : Nat) (x22 : Int) (n26 : Nat) (c27 : List PV) (x29 : Int) (n35 : Nat) (c36 : List PV) : Nat → Int → Option ((PV ⊕ Unit))
  | 0, _ => none
  | n + 1, x38 =>
    brn (decide (x38 < ((n35 : Nat) : Int))) (
      grd (0 ≤ x38 ∧ x38 < ((n35 : Nat) : Int)) <|
      grd (2 ≤ List.length (List.drop ((Int.toNat x38) * 2) c36)) <|
      getA2 (.agg (List.take 2 (List.drop ((Int.toNat x38) * 2) c36))) fun p44 p45 =>
      getI .i64 p44 fun x47 =>
      getI .i64 p45 fun x49 =>
      brn (decide ((minI x47 x49) < 0)) (
        some (.inl (.int .i64 2))) (
        brn (decide ((maxI x47 x49) ≥ x22)) (
          some (.inl (.int .i64 2))) (
          brn (decide (x47 ≥ x49)) (
            some (.inl (.int .i64 7))) (
            grd (x38 ≤ ((n35 : Nat) : Int)) <|
            grd (List.length c36 = (n35 * 2)) <|
            bnd' (m51 N (.lst false (Int.toNat x38) (List.take ((Int.toNat x38) * 2) c36)) (.agg [(.int .i64 x47), (.int .i64 x49)])) fun p115 =>
            getB p115 fun b118 =>
            brn b118 (
              some (.inl (.int .i64 6))) (
              m22_L1 N x22 n26 c27 x29 n35 c36 n (IntKind.i64.wrap (x38 + 1))))))) (
      some (.inr ()))
def m22_L0 (N : Nat) (x22 : Int) (n26 : Nat) (c27 : List PV) : Nat → Int → Option ((PV ⊕ Unit))
  | 0, _ => none
  | n + 1, x29 =>
    brn (decide (x29 < ((n26 : Nat) : Int))) (
      grd (0 ≤ x29 ∧ x29 < ((n26 : Nat) : Int)) <|
      grd (0 < List.length (List.drop (Int.toNat x29) c27)) <|
      getL (gp c27 (Int.toNat x29)) fun n35 c36 =>
      brn (decide (((n35 : Nat) : Int) > 6)) (
        some (.inl (.int .i64 3))) (
        bnd' (m22_L1 N x22 n26 c27 x29 n35 c36 N 0) fun o =>
        match o with
        | .inl p120 =>
          some (.inl p120)
        | .inr () =>
          m22_L0 N x22 n26 c27 n (IntKind.i64.wrap (x29 + 1)))) (
      some (.inr ()))
def m22 (N : Nat) (p17 : PV) : Option (PV) :=
  getA2 p17 fun p19 p20 =>
  getI .i64 p19 fun x22 =>
  brn (decide (x22 < 1)) (
    some (.int .i64 1)) (
    brn (decide (x22 > 5)) (
      some (.int .i64 1)) (
      getL p20 fun n26 c27 =>
      brn (decide (((n26 : Nat) : Int) > 5)) (
        some (.int .i64 3)) (
        bnd' (m22_L0 N x22 n26 c27 N 0) fun o =>
        match o with
        | .inl p121 =>
          some p121
        | .inr () =>
          some (.int .i64 0))))
theorem c22 (N : Nat) (p17 : PV) (r : PV)  (h : m22 N p17 = some r) : FnP Tryd.prog 22 [p17] r := by
  unfold m22 at h
  refine Fn_of (sz := 69) tab_ok [0, 1, 2, 4, 5, 6, 7, 16, 22, 23, 24, 25, 30, 31, 32, 33, 34, 38, 55, 61] [.tmp 2] Tryd.func22 rfl rfl rfl (by simp) ?_
  simp only [initSt, initEnv, List.map_cons, List.map_nil, List.getD_cons_zero, List.getD_cons_succ, List.getD_nil]
  have hh := getA2_some h; clear h; obtain ⟨p19, p20, h18, h⟩ := hh
  have hh := getI_some h; clear h; obtain ⟨x22, h21, h⟩ := hh
  have hh := brn_some h; clear h; rcases hh with ⟨h23, h⟩ | ⟨h23, h⟩
  · refine W_sound tab_ok mixed 26 _ _ _ ?_
    simp -implicitDefEqProofs only [go_sem, qa, qb, qc, qd, qe, qf, qg, qh, qi, qj, qk, ↓reduceIte, h18, h21, h23]
    repeat with_reducible refine And.intro (by first | kernel_rfl | decide) ?_
    obtain rfl := Option.some.inj h
    exact finC [(2, .v (.int .i64 1))] [(2, .v (.int .i64 1))] (by simp [leE, lk_cons]) (.cons _ _ _ _ _ (.v _ _ (.refl _)) .nil) (by rfl) (by simp [leE, lk_cons]) (by decide) (by decide) rfl (by simp only [go_sem, qa, qb, qc, qd, qe, qf, qg, qh, qi, qj, qk, ↓reduceIte, resQ_tmp, resQ_cell, resQ_nil, retD_one, retD_two, retD_three, retD_none]; try simp [R.val, retD_one, retD_two, retD_three, retD_none])
  · have hh := brn_some h; clear h; rcases hh with ⟨h24, h⟩ | ⟨h24, h⟩
    · refine W_sound tab_ok mixed 26 _ _ _ ?_
      simp -implicitDefEqProofs only [go_sem, qa, qb, qc, qd, qe, qf, qg, qh, qi, qj, qk, ↓reduceIte, h18, h21, h23, h24]
      repeat with_reducible refine And.intro (by first | kernel_rfl | decide) ?_
      obtain rfl := Option.some.inj h
      exact finC [(2, .v (.int .i64 1))] [(2, .v (.int .i64 1))] (by simp [leE, lk_cons]) (.cons _ _ _ _ _ (.v _ _ (.refl _)) .nil) (by rfl) (by simp [leE, lk_cons]) (by decide) (by decide) rfl (by simp only [go_sem, qa, qb, qc, qd, qe, qf, qg, qh, qi, qj, qk, ↓reduceIte, resQ_tmp, resQ_cell, resQ_nil, retD_one, retD_two, retD_three, retD_none]; try simp [R.val, retD_one, retD_two, retD_three, retD_none])
    · have hh := getL_some h; clear h; obtain ⟨n26, c27, h25, h⟩ := hh
      have hh := brn_some h; clear h; rcases hh with ⟨h28, h⟩ | ⟨h28, h⟩
      · refine W_sound tab_ok mixed 35 _ _ _ ?_
        simp -implicitDefEqProofs only [go_sem, qa, qb, qc, qd, qe, qf, qg, qh, qi, qj, qk, ↓reduceIte, h18, h21, h23, h24, h25, h28]
        repeat with_reducible refine And.intro (by first | kernel_rfl | decide) ?_
        obtain rfl := Option.some.inj h
        exact finC [(2, .v (.int .i64 3))] [(2, .v (.int .i64 3))] (by simp [leE, lk_cons]) (.cons _ _ _ _ _ (.v _ _ (.refl _)) .nil) (by rfl) (by simp [leE, lk_cons]) (by decide) (by decide) rfl (by simp only [go_sem, qa, qb, qc, qd, qe, qf, qg, qh, qi, qj, qk, ↓reduceIte, resQ_tmp, resQ_cell, resQ_nil, retD_one, retD_two, retD_three, retD_none]; try simp [R.val, retD_one, retD_two, retD_three, retD_none])
      · refine W_sound tab_ok mixed 39 _ _ _ ?_
        simp -implicitDefEqProofs only [go_sem, qa, qb, qc, qd, qe, qf, qg, qh, qi, qj, qk, ↓reduceIte, h18, h21, h23, h24, h25, h28]
        repeat with_reducible refine And.intro (by first | kernel_rfl | decide) ?_
        have hh := bnd'_some h; clear h; obtain ⟨o122, h123, h124⟩ := hh
        refine Wp_cut (fun s => (.inr ()) = o122 ∧ s = ⟨[], [(0, .dead), (1, .dead), (2, .dead), (4, .dead), (5, .dead), (6, .dead), (7, .dead), (16, .dead), (22, .dead), (23, .dead), (24, .dead), (25, .dead), (30, .dead), (31, .dead), (32, .dead), (33, .dead), (34, .dead), (38, .dead), (55, .dead), (61, .dead)], [], 0, []⟩) ?_ ?_
        · refine Wp_block ?_
          refine Wp_loopG (fun n s => ∃ x29, m22_L0 N x22 n26 c27 n x29 = some o122 ∧ s = ⟨[], [(0, .dead), (1, .ptr 0 0), (2, .dead), (4, .dead), (5, .dead), (6, .dead), (7, .dead), (16, .dead), (22, .v (.lst false n26 c27)), (23, .v (.int .i64 ((n26 : Nat) : Int))), (24, .v (.int .i64 x29)), (25, .dead), (30, .dead), (31, .dead), (32, .dead), (33, .dead), (34, .dead), (38, .dead), (55, .dead), (61, .dead)], [(0, .p [(.int .i64 x22), (.lst false n26 c27)])], 1, []⟩) N _ ((Wk_le (.k (.r (.k (.r (.r (.r (.k (.k (.r (.r (.r (.r (.r (.r (.r (.r (.r (.r (.r (.r .nil)))))))))))))))))))) (OLe.refl _)).trans (cmpS_ok (st' := ⟨[], [(0, .dead), (1, .ptr 0 0), (2, .dead), (4, .dead), (5, .dead), (6, .dead), (7, .dead), (16, .dead), (22, .v (.lst false n26 c27)), (23, .v (.int .i64 ((n26 : Nat) : Int))), (24, .v (.int .i64 0)), (25, .dead), (30, .dead), (31, .dead), (32, .dead), (33, .dead), (34, .dead), (38, .dead), (55, .dead), (61, .dead)], [(0, .p [(.int .i64 x22), (.lst false n26 c27)])], 1, []⟩) (by kernel_rfl))) ⟨_, h123, rfl⟩ ?_
          clear h123
          rintro n _ ⟨x29, h123, rfl⟩
          cases n with
          | zero => cases h123
          | succ n =>
            rw [m22_L0] at h123
            have hh := brn_some h123; clear h123; rcases hh with ⟨h30, h123⟩ | ⟨h30, h123⟩
            · have hh := grd_some h123; clear h123; obtain ⟨⟨g31, g32⟩, h123⟩ := hh
              have hh := grd_some h123; clear h123; obtain ⟨g33, h123⟩ := hh
              have hh := getL_some h123; clear h123; obtain ⟨n35, c36, h34, h123⟩ := hh
              have hh := brn_some h123; clear h123; rcases hh with ⟨h37, h123⟩ | ⟨h37, h123⟩
              · refine W_sound tab_ok mixed 29 _ _ _ ?_
                simp -implicitDefEqProofs only [go_sem, qa, qb, qc, qd, qe, qf, qg, qh, qi, qj, qk, ↓reduceIte, h18, h21, h23, h24, h25, h28, h30, g31, g32, g33, h34, h37]
                repeat with_reducible refine And.intro (by first | kernel_rfl | decide) ?_
                obtain rfl := Option.some.inj h123
                (try dsimp only at h124)
                obtain rfl := Option.some.inj h124
                exact finC [(2, .v (.int .i64 3))] [(2, .v (.int .i64 3))] (by simp [leE, lk_cons]) (.cons _ _ _ _ _ (.v _ _ (.refl _)) .nil) (by rfl) (by simp [leE, lk_cons]) (by decide) (by decide) rfl (by simp only [go_sem, qa, qb, qc, qd, qe, qf, qg, qh, qi, qj, qk, ↓reduceIte, resQ_tmp, resQ_cell, resQ_nil, retD_one, retD_two, retD_three, retD_none]; try simp [R.val, retD_one, retD_two, retD_three, retD_none])
              · refine W_sound tab_ok mixed 30 _ _ _ ?_
                simp -implicitDefEqProofs only [go_sem, qa, qb, qc, qd, qe, qf, qg, qh, qi, qj, qk, ↓reduceIte, h18, h21, h23, h24, h25, h28, h30, g31, g32, g33, h34, h37]
                repeat with_reducible refine And.intro (by first | kernel_rfl | decide) ?_
                have hh := bnd'_some h123; clear h123; obtain ⟨o125, h126, h127⟩ := hh
                refine Wp_cut (fun s => (.inr ()) = o125 ∧ s = ⟨[], [(0, .dead), (1, .ptr 0 0), (2, .dead), (4, .dead), (5, .dead), (6, .dead), (7, .dead), (16, .dead), (22, .v (.lst false n26 c27)), (23, .v (.int .i64 ((n26 : Nat) : Int))), (24, .v (.int .i64 x29)), (25, .dead), (30, .dead), (31, .dead), (32, .dead), (33, .dead), (34, .dead), (38, .dead), (55, .dead), (61, .dead)], [(0, .p [(.int .i64 x22), (.lst false n26 c27)])], 1, []⟩) ?_ ?_
                · refine Wp_block ?_
                  refine Wp_loopG (fun n s => ∃ x38, m22_L1 N x22 n26 c27 x29 n35 c36 n x38 = some o125 ∧ s = ⟨[], [(0, .dead), (1, .ptr 0 0), (2, .dead), (4, .v (.lst false n35 c36)), (5, .dead), (6, .dead), (7, .dead), (16, .dead), (22, .v (.lst false n26 c27)), (23, .v (.int .i64 ((n26 : Nat) : Int))), (24, .v (.int .i64 x29)), (25, .dead), (30, .dead), (31, .v (.lst false n35 c36)), (32, .v (.int .i64 ((n35 : Nat) : Int))), (33, .v (.int .i64 x38)), (34, .dead), (38, .dead), (55, .dead), (61, .dead)], [(0, .p [(.int .i64 x22), (.lst false n26 c27)])], 1, []⟩) N _ ((Wk_le (.r (.r (.r (.r (.r (.r (.r (.r (.r (.r (.r (.k (.k (.r (.r (.r (.r (.r (.r (.r .nil)))))))))))))))))))) (OLe.refl _)).trans (cmpS_ok (st' := ⟨[], [(0, .dead), (1, .ptr 0 0), (2, .dead), (4, .v (.lst false n35 c36)), (5, .dead), (6, .dead), (7, .dead), (16, .dead), (22, .v (.lst false n26 c27)), (23, .v (.int .i64 ((n26 : Nat) : Int))), (24, .v (.int .i64 x29)), (25, .dead), (30, .dead), (31, .v (.lst false n35 c36)), (32, .v (.int .i64 ((n35 : Nat) : Int))), (33, .v (.int .i64 0)), (34, .dead), (38, .dead), (55, .dead), (61, .dead)], [(0, .p [(.int .i64 x22), (.lst false n26 c27)])], 1, []⟩) (by kernel_rfl))) ⟨_, h126, rfl⟩ ?_
                  clear h126
                  rintro n _ ⟨x38, h126, rfl⟩
                  cases n with
                  | zero => cases h126
                  | succ n =>
                    rw [m22_L1] at h126
                    have hh := brn_some h126; clear h126; rcases hh with ⟨h39, h126⟩ | ⟨h39, h126⟩
                    · have hh := grd_some h126; clear h126; obtain ⟨⟨g40, g41⟩, h126⟩ := hh
                      have hh := grd_some h126; clear h126; obtain ⟨g42, h126⟩ := hh
                      have hh := getA2_some h126; clear h126; obtain ⟨p44, p45, h43, h126⟩ := hh
                      injection h43 with h43
                      have hh := getI_some h126; clear h126; obtain ⟨x47, h46, h126⟩ := hh
                      have hh := getI_some h126; clear h126; obtain ⟨x49, h48, h126⟩ := hh
                      have hh := brn_some h126; clear h126; rcases hh with ⟨h50, h126⟩ | ⟨h50, h126⟩
                      · refine W_sound tab_ok mixed 46 _ _ _ ?_
                        simp -implicitDefEqProofs only [go_sem, qa, qb, qc, qd, qe, qf, qg, qh, qi, qj, qk, ↓reduceIte, h18, h21, h23, h24, h25, h28, h30, g31, g32, g33, h34, h37, h39, g40, g41, g42, h43, h46, h48, h50]
                        repeat with_reducible refine And.intro (by first | kernel_rfl | decide) ?_
                        obtain rfl := Option.some.inj h126
                        (try dsimp only at h127)
                        obtain rfl := Option.some.inj h127
                        (try dsimp only at h124)
                        obtain rfl := Option.some.inj h124
                        exact finC [(2, .v (.int .i64 2))] [(2, .v (.int .i64 2))] (by simp [leE, lk_cons]) (.cons _ _ _ _ _ (.v _ _ (.refl _)) .nil) (by rfl) (by simp [leE, lk_cons]) (by decide) (by decide) rfl (by simp only [go_sem, qa, qb, qc, qd, qe, qf, qg, qh, qi, qj, qk, ↓reduceIte, resQ_tmp, resQ_cell, resQ_nil, retD_one, retD_two, retD_three, retD_none]; try simp [R.val, retD_one, retD_two, retD_three, retD_none])
                      · have hh := brn_some h126; clear h126; rcases hh with ⟨h51, h126⟩ | ⟨h51, h126⟩
                        · refine W_sound tab_ok mixed 46 _ _ _ ?_
                          simp -implicitDefEqProofs only [go_sem, qa, qb, qc, qd, qe, qf, qg, qh, qi, qj, qk, ↓reduceIte, h18, h21, h23, h24, h25, h28, h30, g31, g32, g33, h34, h37, h39, g40, g41, g42, h43, h46, h48, h50, h51]
                          repeat with_reducible refine And.intro (by first | kernel_rfl | decide) ?_
                          obtain rfl := Option.some.inj h126
                          (try dsimp only at h127)
                          obtain rfl := Option.some.inj h127
                          (try dsimp only at h124)
                          obtain rfl := Option.some.inj h124
                          exact finC [(2, .v (.int .i64 2))] [(2, .v (.int .i64 2))] (by simp [leE, lk_cons]) (.cons _ _ _ _ _ (.v _ _ (.refl _)) .nil) (by rfl) (by simp [leE, lk_cons]) (by decide) (by decide) rfl (by simp only [go_sem, qa, qb, qc, qd, qe, qf, qg, qh, qi, qj, qk, ↓reduceIte, resQ_tmp, resQ_cell, resQ_nil, retD_one, retD_two, retD_three, retD_none]; try simp [R.val, retD_one, retD_two, retD_three, retD_none])
                        · have hh := brn_some h126; clear h126; rcases hh with ⟨h52, h126⟩ | ⟨h52, h126⟩
                          · refine W_sound tab_ok mixed 56 _ _ _ ?_
                            simp -implicitDefEqProofs only [go_sem, qa, qb, qc, qd, qe, qf, qg, qh, qi, qj, qk, ↓reduceIte, h18, h21, h23, h24, h25, h28, h30, g31, g32, g33, h34, h37, h39, g40, g41, g42, h43, h46, h48, h50, h51, h52]
                            repeat with_reducible refine And.intro (by first | kernel_rfl | decide) ?_
                            obtain rfl := Option.some.inj h126
                            (try dsimp only at h127)
                            obtain rfl := Option.some.inj h127
                            (try dsimp only at h124)
                            obtain rfl := Option.some.inj h124
                            exact finC [(2, .v (.int .i64 7))] [(2, .v (.int .i64 7))] (by simp [leE, lk_cons]) (.cons _ _ _ _ _ (.v _ _ (.refl _)) .nil) (by rfl) (by simp [leE, lk_cons]) (by decide) (by decide) rfl (by simp only [go_sem, qa, qb, qc, qd, qe, qf, qg, qh, qi, qj, qk, ↓reduceIte, resQ_tmp, resQ_cell, resQ_nil, retD_one, retD_two, retD_three, retD_none]; try simp [R.val, retD_one, retD_two, retD_three, retD_none])
                          · have hh := grd_some h126; clear h126; obtain ⟨g53, h126⟩ := hh
                            have hh := grd_some h126; clear h126; obtain ⟨g54, h126⟩ := hh
                            have hh := bnd'_some h126; clear h126; obtain ⟨p115, h116, h126⟩ := hh
                            refine W_sound tab_ok mixed 56 _ _ _ ?_
                            simp -implicitDefEqProofs only [go_sem, qa, qb, qc, qd, qe, qf, qg, qh, qi, qj, qk, ↓reduceIte, h18, h21, h23, h24, h25, h28, h30, g31, g32, g33, h34, h37, h39, g40, g41, g42, h43, h46, h48, h50, h51, h52, g53, g54]
                            repeat with_reducible refine And.intro (by first | kernel_rfl | decide) ?_
                            refine Wp_callP (c51 N _ _ _ h116) (by kernel_rfl) rfl rfl rfl rfl (by decide) ?_
                            have hh := getB_some h126; clear h126; obtain ⟨b118, h117, h126⟩ := hh
                            have hh := brn_some h126; clear h126; rcases hh with ⟨h119, h126⟩ | ⟨h119, h126⟩
                            · refine W_sound tab_ok mixed 9 _ _ _ ?_
                              simp -implicitDefEqProofs only [go_sem, qa, qb, qc, qd, qe, qf, qg, qh, qi, qj, qk, ↓reduceIte, h18, h21, h23, h24, h25, h28, h30, g31, g32, g33, h34, h37, h39, g40, g41, g42, h43, h46, h48, h50, h51, h52, g53, g54, h117, h119]
                              repeat with_reducible refine And.intro (by first | kernel_rfl | decide) ?_
                              obtain rfl := Option.some.inj h126
                              (try dsimp only at h127)
                              obtain rfl := Option.some.inj h127
                              (try dsimp only at h124)
                              obtain rfl := Option.some.inj h124
                              exact finC [(2, .v (.int .i64 6))] [(2, .v (.int .i64 6))] (by simp [leE, lk_cons]) (.cons _ _ _ _ _ (.v _ _ (.refl _)) .nil) (by rfl) (by simp [leE, lk_cons]) (by decide) (by decide) rfl (by simp only [go_sem, qa, qb, qc, qd, qe, qf, qg, qh, qi, qj, qk, ↓reduceIte, resQ_tmp, resQ_cell, resQ_nil, retD_one, retD_two, retD_three, retD_none]; try simp [R.val, retD_one, retD_two, retD_three, retD_none])
                            · refine W_sound tab_ok mixed 10 _ _ _ ?_
                              simp -implicitDefEqProofs only [go_sem, qa, qb, qc, qd, qe, qf, qg, qh, qi, qj, qk, ↓reduceIte, h18, h21, h23, h24, h25, h28, h30, g31, g32, g33, h34, h37, h39, g40, g41, g42, h43, h46, h48, h50, h51, h52, g53, g54, h117, h119]
                              repeat with_reducible refine And.intro (by first | kernel_rfl | decide) ?_
                              exact cutQ _ ((Wk_le (.r (.r (.r (.r (.k (.k (.r (.r (.r (.r (.r (.r (.r (.r (.r (.r (.k (.k (.k (.k .nil)))))))))))))))))))) (OLe.refl _)).trans (cmpS_ok (st' := ⟨[], [(0, .dead), (1, .ptr 0 0), (2, .dead), (4, .v (.lst false n35 c36)), (5, .dead), (6, .dead), (7, .dead), (16, .dead), (22, .v (.lst false n26 c27)), (23, .v (.int .i64 ((n26 : Nat) : Int))), (24, .v (.int .i64 x29)), (25, .dead), (30, .dead), (31, .v (.lst false n35 c36)), (32, .v (.int .i64 ((n35 : Nat) : Int))), (33, .v (.int .i64 (IntKind.i64.wrap (x38 + 1)))), (34, .dead), (38, .dead), (55, .dead), (61, .dead)], [(0, .p [(.int .i64 x22), (.lst false n26 c27)])], 1, []⟩) (by kernel_rfl))) ⟨n, Nat.lt_succ_self n, _, h126, rfl⟩
                    · refine W_sound tab_ok mixed 7 _ _ _ ?_
                      simp -implicitDefEqProofs only [go_sem, qa, qb, qc, qd, qe, qf, qg, qh, qi, qj, qk, ↓reduceIte, h18, h21, h23, h24, h25, h28, h30, g31, g32, g33, h34, h37, h39]
                      repeat with_reducible refine And.intro (by first | kernel_rfl | decide) ?_
                      obtain rfl := Option.some.inj h126
                      exact cutQ _ ((Wk_le (.r (.r (.r (.k (.r (.r (.r (.r (.r (.r (.r (.r (.r (.k (.k (.k (.k (.r (.r (.r .nil)))))))))))))))))))) (OLe.refl _)).trans (cmpS_ok (st' := ⟨[], [(0, .dead), (1, .ptr 0 0), (2, .dead), (4, .dead), (5, .dead), (6, .dead), (7, .dead), (16, .dead), (22, .v (.lst false n26 c27)), (23, .v (.int .i64 ((n26 : Nat) : Int))), (24, .v (.int .i64 x29)), (25, .dead), (30, .dead), (31, .dead), (32, .dead), (33, .dead), (34, .dead), (38, .dead), (55, .dead), (61, .dead)], [(0, .p [(.int .i64 x22), (.lst false n26 c27)])], 1, []⟩) (by kernel_rfl))) ⟨rfl, rfl⟩
                · rintro _ ⟨rfl, rfl⟩
                  (try dsimp only at h127)
                  refine W_sound tab_ok mixed 5 _ _ _ ?_
                  simp -implicitDefEqProofs only [go_sem, qa, qb, qc, qd, qe, qf, qg, qh, qi, qj, qk, ↓reduceIte, h18, h21, h23, h24, h25, h28, h30, g31, g32, g33, h34, h37]
                  repeat with_reducible refine And.intro (by first | kernel_rfl | decide) ?_
                  exact cutQ _ ((Wk_le (.r (.r (.r (.r (.r (.r (.r (.r (.r (.r (.r (.r (.r (.r (.r (.r (.r (.r (.r (.r .nil)))))))))))))))))))) (OLe.refl _)).trans (cmpS_ok (st' := ⟨[], [(0, .dead), (1, .ptr 0 0), (2, .dead), (4, .dead), (5, .dead), (6, .dead), (7, .dead), (16, .dead), (22, .v (.lst false n26 c27)), (23, .v (.int .i64 ((n26 : Nat) : Int))), (24, .v (.int .i64 (IntKind.i64.wrap (x29 + 1)))), (25, .dead), (30, .dead), (31, .dead), (32, .dead), (33, .dead), (34, .dead), (38, .dead), (55, .dead), (61, .dead)], [(0, .p [(.int .i64 x22), (.lst false n26 c27)])], 1, []⟩) (by kernel_rfl))) ⟨n, Nat.lt_succ_self n, _, h127, rfl⟩
            · refine W_sound tab_ok mixed 7 _ _ _ ?_
              simp -implicitDefEqProofs only [go_sem, qa, qb, qc, qd, qe, qf, qg, qh, qi, qj, qk, ↓reduceIte, h18, h21, h23, h24, h25, h28, h30]
              repeat with_reducible refine And.intro (by first | kernel_rfl | decide) ?_
              obtain rfl := Option.some.inj h123
              exact cutQ _ ((Wk_le (.r (.k (.r (.r (.r (.r (.r (.r (.k (.k (.k (.k (.r (.r (.r (.r (.r (.r (.r (.r .nil)))))))))))))))))))) (OLe.refl _)).trans (cmpS_ok (st' := ⟨[], [(0, .dead), (1, .dead), (2, .dead), (4, .dead), (5, .dead), (6, .dead), (7, .dead), (16, .dead), (22, .dead), (23, .dead), (24, .dead), (25, .dead), (30, .dead), (31, .dead), (32, .dead), (33, .dead), (34, .dead), (38, .dead), (55, .dead), (61, .dead)], [], 0, []⟩) (by kernel_rfl))) ⟨rfl, rfl⟩
        · rintro _ ⟨rfl, rfl⟩
          (try dsimp only at h124)
          refine W_sound tab_ok mixed 6 _ _ _ ?_
          simp -implicitDefEqProofs only [go_sem, qa, qb, qc, qd, qe, qf, qg, qh, qi, qj, qk, ↓reduceIte, h18, h21, h23, h24, h25, h28]
          repeat with_reducible refine And.intro (by first | kernel_rfl | decide) ?_
          obtain rfl := Option.some.inj h124
          exact finC [(2, .v (.int .i64 0))] [(2, .v (.int .i64 0))] (by simp [leE, lk_cons]) (.cons _ _ _ _ _ (.v _ _ (.refl _)) .nil) (by rfl) (by simp [leE, lk_cons]) (by decide) (by decide) rfl (by simp only [go_sem, qa, qb, qc, qd, qe, qf, qg, qh, qi, qj, qk, ↓reduceIte, resQ_tmp, resQ_cell, resQ_nil, retD_one, retD_two, retD_three, retD_none]; try simp [R.val, retD_one, retD_two, retD_three, retD_none])

def m63_L0 (N : Nat) (p12 : PV) (n15 : Nat) (c16 : List PV) : Nat → Int → Int → PV → Option ((PV ⊕ Unit))
  | 0, _, _, _ => none
  | n + 1, x147, x148, p149 =>
    brn (decide (x148 < ((n15 : Nat) : Int))) (
      grd (0 ≤ x148 ∧ x148 < ((n15 : Nat) : Int)) <|
      grd (0 < List.length (List.drop (Int.toNat x148) c16)) <|
      getI .i64 (gp c16 (Int.toNat x148)) fun x155 =>
      brn (decide (x155 < 0)) (
        some (.inl (.int .i64 2))) (
        getL p149 fun n158 c159 =>
        brn (decide (x155 ≥ ((n158 : Nat) : Int))) (
          some (.inl (.int .i64 2))) (
          brn (decide (x155 ≤ x147)) (
            some (.inl (.int .i64 7))) (
            m63_L0 N p12 n15 c16 n x155 (IntKind.i64.wrap (x148 + 1)) (.lst false n158 c159))))) (
      some (.inr ()))
def m63 (N : Nat) (p9 : PV) (p10 : PV) : Option (PV) :=
  getA2 p9 fun p12 p13 =>
  getL p10 fun n15 c16 =>
  bnd' (m22 N (.agg [p12, p13])) fun p128 =>
  getI .i64 p128 fun x131 =>
  brn (x131 != 0) (
    some (.int .i64 x131)) (
    bnd' (m63_L0 N p12 n15 c16 N (-1) 0 p13) fun o =>
    match o with
    | .inl p162 =>
      some p162
    | .inr () =>
      some (.int .i64 0))
theorem c63 (N : Nat) (p9 : PV) (p10 : PV) (r : PV)  (h : m63 N p9 p10 = some r) : FnP Tryd.prog 63 [p9, p10] r := by
  unfold m63 at h
  refine Fn_of (sz := 36) tab_ok [0, 1, 2, 4, 5, 6, 8, 12, 14, 15, 16, 17, 20, 30] [.tmp 4] Tryd.func63 rfl rfl rfl (by simp) ?_
  simp only [initSt, initEnv, List.map_cons, List.map_nil, List.getD_cons_zero, List.getD_cons_succ, List.getD_nil]
  have hh := getA2_some h; clear h; obtain ⟨p12, p13, h11, h⟩ := hh
  have hh := getL_some h; clear h; obtain ⟨n15, c16, h14, h⟩ := hh
  have hh := bnd'_some h; clear h; obtain ⟨p128, h129, h⟩ := hh
  refine W_sound tab_ok mixed 9 _ _ _ ?_
  simp -implicitDefEqProofs only [go_sem, qa, qb, qc, qd, qe, qf, qg, qh, qi, qj, qk, ↓reduceIte, h11, h14]
  repeat with_reducible refine And.intro (by first | kernel_rfl | decide) ?_
  refine Wp_callP (c22 N _ _ h129) (by kernel_rfl) rfl rfl rfl rfl (by decide) ?_
  have hh := getI_some h; clear h; obtain ⟨x131, h130, h⟩ := hh
  have hh := brn_some h; clear h; rcases hh with ⟨h132, h⟩ | ⟨h132, h⟩
  · refine W_sound tab_ok mixed 15 _ _ _ ?_
    simp -implicitDefEqProofs only [go_sem, qa, qb, qc, qd, qe, qf, qg, qh, qi, qj, qk, ↓reduceIte, h11, h14, h130, h132]
    repeat with_reducible refine And.intro (by first | kernel_rfl | decide) ?_
    obtain rfl := Option.some.inj h
    exact finC [(4, .v (.int .i64 x131))] [(4, .v (.int .i64 x131))] (by simp [leE, lk_cons]) (.cons _ _ _ _ _ (.v _ _ (.refl _)) .nil) (by rfl) (by simp [leE, lk_cons]) (by decide) (by decide) rfl (by simp only [go_sem, qa, qb, qc, qd, qe, qf, qg, qh, qi, qj, qk, ↓reduceIte, resQ_tmp, resQ_cell, resQ_nil, retD_one, retD_two, retD_three, retD_none]; try simp [R.val, retD_one, retD_two, retD_three, retD_none])
  · refine W_sound tab_ok mixed 20 _ _ _ ?_
    simp -implicitDefEqProofs only [go_sem, qa, qb, qc, qd, qe, qf, qg, qh, qi, qj, qk, ↓reduceIte, h11, h14, h130, h132]
    repeat with_reducible refine And.intro (by first | kernel_rfl | decide) ?_
    have hh := bnd'_some h; clear h; obtain ⟨o163, h164, h165⟩ := hh
    refine Wp_cut (fun s => (.inr ()) = o163 ∧ s = ⟨[], [(0, .dead), (1, .dead), (2, .dead), (4, .dead), (5, .dead), (6, .dead), (8, .dead), (12, .dead), (14, .dead), (15, .dead), (16, .dead), (17, .dead), (20, .dead), (30, .dead)], [], 0, []⟩) ?_ ?_
    · refine Wp_block ?_
      refine Wp_loopG (fun n s => ∃ x147, ∃ x148, ∃ p149, m63_L0 N p12 n15 c16 n x147 x148 p149 = some o163 ∧ s = ⟨[], [(0, .dead), (1, .dead), (2, .ptr 0 0), (4, .dead), (5, .dead), (6, .v (.int .i64 x147)), (8, .dead), (12, .dead), (14, .v (.lst false n15 c16)), (15, .v (.int .i64 ((n15 : Nat) : Int))), (16, .v (.int .i64 x148)), (17, .dead), (20, .dead), (30, .dead)], [(0, .p [p12, p149])], 1, []⟩) N _ ((Wk_le (.k (.k (.r (.k (.k (.r (.r (.k (.r (.r (.r (.r (.r (.r .nil)))))))))))))) (OLe.refl _)).trans (cmpS_ok (st' := ⟨[], [(0, .dead), (1, .dead), (2, .ptr 0 0), (4, .dead), (5, .dead), (6, .v (.int .i64 (-1))), (8, .dead), (12, .dead), (14, .v (.lst false n15 c16)), (15, .v (.int .i64 ((n15 : Nat) : Int))), (16, .v (.int .i64 0)), (17, .dead), (20, .dead), (30, .dead)], [(0, .p [p12, p13])], 1, []⟩) (by kernel_rfl))) ⟨_, _, _, h164, rfl⟩ ?_
      clear h164
      rintro n _ ⟨x147, x148, p149, h164, rfl⟩
      cases n with
      | zero => cases h164
      | succ n =>
        rw [m63_L0] at h164
        have hh := brn_some h164; clear h164; rcases hh with ⟨h150, h164⟩ | ⟨h150, h164⟩
        · have hh := grd_some h164; clear h164; obtain ⟨⟨g151, g152⟩, h164⟩ := hh
          have hh := grd_some h164; clear h164; obtain ⟨g153, h164⟩ := hh
          have hh := getI_some h164; clear h164; obtain ⟨x155, h154, h164⟩ := hh
          have hh := brn_some h164; clear h164; rcases hh with ⟨h156, h164⟩ | ⟨h156, h164⟩
          · refine W_sound tab_ok mixed 37 _ _ _ ?_
            simp -implicitDefEqProofs only [go_sem, qa, qb, qc, qd, qe, qf, qg, qh, qi, qj, qk, ↓reduceIte, h11, h14, h130, h132, h150, g151, g152, g153, h154, h156]
            repeat with_reducible refine And.intro (by first | kernel_rfl | decide) ?_
            obtain rfl := Option.some.inj h164
            (try dsimp only at h165)
            obtain rfl := Option.some.inj h165
            exact finC [(4, .v (.int .i64 2))] [(4, .v (.int .i64 2))] (by simp [leE, lk_cons]) (.cons _ _ _ _ _ (.v _ _ (.refl _)) .nil) (by rfl) (by simp [leE, lk_cons]) (by decide) (by decide) rfl (by simp only [go_sem, qa, qb, qc, qd, qe, qf, qg, qh, qi, qj, qk, ↓reduceIte, resQ_tmp, resQ_cell, resQ_nil, retD_one, retD_two, retD_three, retD_none]; try simp [R.val, retD_one, retD_two, retD_three, retD_none])
          · have hh := getL_some h164; clear h164; obtain ⟨n158, c159, h157, h164⟩ := hh
            have hh := brn_some h164; clear h164; rcases hh with ⟨h160, h164⟩ | ⟨h160, h164⟩
            · refine W_sound tab_ok mixed 37 _ _ _ ?_
              simp -implicitDefEqProofs only [go_sem, qa, qb, qc, qd, qe, qf, qg, qh, qi, qj, qk, ↓reduceIte, h11, h14, h130, h132, h150, g151, g152, g153, h154, h156, h157, h160]
              repeat with_reducible refine And.intro (by first | kernel_rfl | decide) ?_
              obtain rfl := Option.some.inj h164
              (try dsimp only at h165)
              obtain rfl := Option.some.inj h165
              exact finC [(4, .v (.int .i64 2))] [(4, .v (.int .i64 2))] (by simp [leE, lk_cons]) (.cons _ _ _ _ _ (.v _ _ (.refl _)) .nil) (by rfl) (by simp [leE, lk_cons]) (by decide) (by decide) rfl (by simp only [go_sem, qa, qb, qc, qd, qe, qf, qg, qh, qi, qj, qk, ↓reduceIte, resQ_tmp, resQ_cell, resQ_nil, retD_one, retD_two, retD_three, retD_none]; try simp [R.val, retD_one, retD_two, retD_three, retD_none])
            · have hh := brn_some h164; clear h164; rcases hh with ⟨h161, h164⟩ | ⟨h161, h164⟩
              · refine W_sound tab_ok mixed 45 _ _ _ ?_
                simp -implicitDefEqProofs only [go_sem, qa, qb, qc, qd, qe, qf, qg, qh, qi, qj, qk, ↓reduceIte, h11, h14, h130, h132, h150, g151, g152, g153, h154, h156, h157, h160, h161]
                repeat with_reducible refine And.intro (by first | kernel_rfl | decide) ?_
                obtain rfl := Option.some.inj h164
                (try dsimp only at h165)
                obtain rfl := Option.some.inj h165
                exact finC [(4, .v (.int .i64 7))] [(4, .v (.int .i64 7))] (by simp [leE, lk_cons]) (.cons _ _ _ _ _ (.v _ _ (.refl _)) .nil) (by rfl) (by simp [leE, lk_cons]) (by decide) (by decide) rfl (by simp only [go_sem, qa, qb, qc, qd, qe, qf, qg, qh, qi, qj, qk, ↓reduceIte, resQ_tmp, resQ_cell, resQ_nil, retD_one, retD_two, retD_three, retD_none]; try simp [R.val, retD_one, retD_two, retD_three, retD_none])
              · refine W_sound tab_ok mixed 50 _ _ _ ?_
                simp -implicitDefEqProofs only [go_sem, qa, qb, qc, qd, qe, qf, qg, qh, qi, qj, qk, ↓reduceIte, h11, h14, h130, h132, h150, g151, g152, g153, h154, h156, h157, h160, h161]
                repeat with_reducible refine And.intro (by first | kernel_rfl | decide) ?_
                exact cutQ _ ((Wk_le (.r (.r (.r (.r (.r (.r (.k (.r (.r (.r (.r (.k (.k (.k .nil)))))))))))))) (OLe.refl _)).trans (cmpS_ok (st' := ⟨[], [(0, .dead), (1, .dead), (2, .ptr 0 0), (4, .dead), (5, .dead), (6, .v (.int .i64 x155)), (8, .dead), (12, .dead), (14, .v (.lst false n15 c16)), (15, .v (.int .i64 ((n15 : Nat) : Int))), (16, .v (.int .i64 (IntKind.i64.wrap (x148 + 1)))), (17, .dead), (20, .dead), (30, .dead)], [(0, .p [p12, (.lst false n158 c159)])], 1, []⟩) (by kernel_rfl))) ⟨n, Nat.lt_succ_self n, _, _, _, h164, rfl⟩
        · refine W_sound tab_ok mixed 7 _ _ _ ?_
          simp -implicitDefEqProofs only [go_sem, qa, qb, qc, qd, qe, qf, qg, qh, qi, qj, qk, ↓reduceIte, h11, h14, h130, h132, h150]
          repeat with_reducible refine And.intro (by first | kernel_rfl | decide) ?_
          obtain rfl := Option.some.inj h164
          exact cutQ _ ((Wk_le (.r (.r (.k (.r (.r (.k (.r (.r (.k (.k (.k (.k (.r (.r .nil)))))))))))))) (OLe.refl _)).trans (cmpS_ok (st' := ⟨[], [(0, .dead), (1, .dead), (2, .dead), (4, .dead), (5, .dead), (6, .dead), (8, .dead), (12, .dead), (14, .dead), (15, .dead), (16, .dead), (17, .dead), (20, .dead), (30, .dead)], [], 0, []⟩) (by kernel_rfl))) ⟨rfl, rfl⟩
    · rintro _ ⟨rfl, rfl⟩
      (try dsimp only at h165)
      refine W_sound tab_ok mixed 6 _ _ _ ?_
      simp -implicitDefEqProofs only [go_sem, qa, qb, qc, qd, qe, qf, qg, qh, qi, qj, qk, ↓reduceIte, h11, h14, h130, h132]
      repeat with_reducible refine And.intro (by first | kernel_rfl | decide) ?_
      obtain rfl := Option.some.inj h165
      exact finC [(4, .v (.int .i64 0))] [(4, .v (.int .i64 0))] (by simp [leE, lk_cons]) (.cons _ _ _ _ _ (.v _ _ (.refl _)) .nil) (by rfl) (by simp [leE, lk_cons]) (by decide) (by decide) rfl (by simp only [go_sem, qa, qb, qc, qd, qe, qf, qg, qh, qi, qj, qk, ↓reduceIte, resQ_tmp, resQ_cell, resQ_nil, retD_one, retD_two, retD_three, retD_none]; try simp [R.val, retD_one, retD_two, retD_three, retD_none])

def m97_L0 (N : Nat)  : Nat → Int → List PV → Option (List PV)
  | 0, _, _ => none
  | n + 1, x249, c250 =>
    brn (decide (x249 < 5)) (
      grd (0 ≤ x249 ∧ x249 < 5) <|
      grd (((Int.toNat x249) + 1) ≤ List.length c250) <|
      m97_L0 N  n (IntKind.i64.wrap (x249 + 1)) (List.set c250 (Int.toNat x249) (.int .i64 x249))) (
      some c250)
def m97 (N : Nat)  : Option (PV) :=
  bnd' (m97_L0 N  N 0 [(.int .i64 0), (.int .i64 0), (.int .i64 0), (.int .i64 0), (.int .i64 0)]) fun c255 =>
  grd (5 ≤ List.length c255) <|
  getA5 (.agg (List.take 5 c255)) fun p258 p259 p260 p261 p262 =>
  some (.agg [p258, p259, p260, p261, p262])
theorem c97 (N : Nat)  (r : PV)  (h : m97 N  = some r) : FnP Tryd.prog 97 [] r := by
  unfold m97 at h
  refine Fn_of (sz := 11) tab_ok [0, 1, 2, 3, 4] [.cell 0 98] Tryd.func97 rfl rfl rfl (by simp) ?_
  simp only [initSt, initEnv, List.map_cons, List.map_nil, List.getD_cons_zero, List.getD_cons_succ, List.getD_nil]
  refine W_sound tab_ok mixed 13 _ _ _ ?_
  simp -implicitDefEqProofs only [go_sem, qa, qb, qc, qd, qe, qf, qg, qh, qi, qj, qk, ↓reduceIte]
  repeat with_reducible refine And.intro (by first | kernel_rfl | decide) ?_
  have hh := bnd'_some h; clear h; obtain ⟨o263, h264, h265⟩ := hh
  refine Wp_cut (fun s => ∃ c255, c255 = o263 ∧ s = ⟨[], [(0, .ptr 0 0), (1, .ptr 1 0), (2, .dead), (3, .dead), (4, .dead)], [(0, .p [(.int .i64 0), (.int .i64 0), (.int .i64 0), (.int .i64 0), (.int .i64 0)]), (1, .p c255)], 2, []⟩) ?_ ?_
  · refine Wp_block ?_
    refine Wp_loopG (fun n s => ∃ x249, ∃ c250, m97_L0 N  n x249 c250 = some o263 ∧ s = ⟨[], [(0, .ptr 0 0), (1, .ptr 1 0), (2, .dead), (3, .v (.int .i64 x249)), (4, .dead)], [(0, .p [(.int .i64 0), (.int .i64 0), (.int .i64 0), (.int .i64 0), (.int .i64 0)]), (1, .p c250)], 2, []⟩) N _ ((Wk_le (.r (.r (.r (.r (.r .nil))))) (OLe.refl _)).trans (cmpS_ok rfl)) ⟨_, _, h264, rfl⟩ ?_
    clear h264
    rintro n _ ⟨x249, c250, h264, rfl⟩
    cases n with
    | zero => cases h264
    | succ n =>
      rw [m97_L0] at h264
      have hh := brn_some h264; clear h264; rcases hh with ⟨h251, h264⟩ | ⟨h251, h264⟩
      · have hh := grd_some h264; clear h264; obtain ⟨⟨g252, g253⟩, h264⟩ := hh
        have hh := grd_some h264; clear h264; obtain ⟨g254, h264⟩ := hh
        refine W_sound tab_ok mixed 25 _ _ _ ?_
        simp -implicitDefEqProofs only [go_sem, qa, qb, qc, qd, qe, qf, qg, qh, qi, qj, qk, ↓reduceIte, h251, g252, g253, g254]
        repeat with_reducible refine And.intro (by first | kernel_rfl | decide) ?_
        exact cutQ _ ((Wk_le (.r (.r (.k (.r (.k .nil))))) (OLe.refl _)).trans (cmpS_ok rfl)) ⟨n, Nat.lt_succ_self n, _, _, h264, rfl⟩
      · refine W_sound tab_ok mixed 7 _ _ _ ?_
        simp -implicitDefEqProofs only [go_sem, qa, qb, qc, qd, qe, qf, qg, qh, qi, qj, qk, ↓reduceIte, h251]
        repeat with_reducible refine And.intro (by first | kernel_rfl | decide) ?_
        obtain rfl := Option.some.inj h264
        exact cutQ _ ((Wk_le (.r (.r (.r (.k (.k .nil))))) (OLe.refl _)).trans (cmpS_ok rfl)) ⟨_, rfl, rfl⟩
  · rintro _ ⟨c255, rfl, rfl⟩
    have hh := grd_some h265; clear h265; obtain ⟨g256, h265⟩ := hh
    have hh := getA5_some h265; clear h265; obtain ⟨p258, p259, p260, p261, p262, h257, h265⟩ := hh
    injection h257 with h257
    refine W_sound tab_ok mixed 7 _ _ _ ?_
    simp -implicitDefEqProofs only [go_sem, qa, qb, qc, qd, qe, qf, qg, qh, qi, qj, qk, ↓reduceIte, g256, h257]
    repeat with_reducible refine And.intro (by first | kernel_rfl | decide) ?_
    refine FinQ_wk (Wk_freeze 0 [p258, p259, p260, p261, p262] (by rfl) (by decide) (by decide)) ?_
    simp -implicitDefEqProofs only [go_sem, qa, qb, qc, qd, qe, qf, qg, qh, qi, qj, qk, ↓reduceIte, g256, h257]
    obtain rfl := Option.some.inj h265
    exact finC [(0, .v (.ipt [p258, p259, p260, p261, p262]))] [(0, .v (.ipt [p258, p259, p260, p261, p262]))] (by simp [leE, lk_cons]) (.cons _ _ _ _ _ (.v _ _ (.refl _)) .nil) (by rfl) (by simp [leE, lk_cons]) (by decide) (by decide) rfl (by simp only [go_sem, qa, qb, qc, qd, qe, qf, qg, qh, qi, qj, qk, ↓reduceIte, resQ_tmp, resQ_cell, resQ_nil, retD_one, retD_two, retD_three, retD_none]; try simp [R.val, retD_one, retD_two, retD_three, retD_none])

def m71 (N : Nat) (p283 : PV) (p284 : PV) : Option (PV) :=
  getA5 p283 fun p286 p287 p288 p289 p290 =>
  getA2 p284 fun p292 p293 =>
  getI .i64 p292 fun x295 =>
  grd (0 ≤ x295 ∧ x295 < 5) <|
  grd ((Int.toNat x295) < 5) <|
  getI .i64 (gp [p286, p287, p288, p289, p290] (Int.toNat x295)) fun x300 =>
  getI .i64 p293 fun x302 =>
  grd (0 ≤ x302 ∧ x302 < 5) <|
  grd ((Int.toNat x302) < 5) <|
  getI .i64 (gp [p286, p287, p288, p289, p290] (Int.toNat x302)) fun x307 =>
  some (.bool (x300 == x307))
theorem c71 (N : Nat) (p283 : PV) (p284 : PV) (r : PV)  (h : m71 N p283 p284 = some r) : FnP Tryd.prog 71 [p283, p284] r := by
  unfold m71 at h
  refine Fn_of (sz := 14) tab_ok [0, 1, 2, 3, 4] [.tmp 4] Tryd.func71 rfl rfl rfl (by simp) ?_
  simp only [initSt, initEnv, List.map_cons, List.map_nil, List.getD_cons_zero, List.getD_cons_succ, List.getD_nil]
  have hh := getA5_some h; clear h; obtain ⟨p286, p287, p288, p289, p290, h285, h⟩ := hh
  have hh := getA2_some h; clear h; obtain ⟨p292, p293, h291, h⟩ := hh
  have hh := getI_some h; clear h; obtain ⟨x295, h294, h⟩ := hh
  have hh := grd_some h; clear h; obtain ⟨⟨g296, g297⟩, h⟩ := hh
  have hh := grd_some h; clear h; obtain ⟨g298, h⟩ := hh
  have hh := getI_some h; clear h; obtain ⟨x300, h299, h⟩ := hh
  have hh := getI_some h; clear h; obtain ⟨x302, h301, h⟩ := hh
  have hh := grd_some h; clear h; obtain ⟨⟨g303, g304⟩, h⟩ := hh
  have hh := grd_some h; clear h; obtain ⟨g305, h⟩ := hh
  have hh := getI_some h; clear h; obtain ⟨x307, h306, h⟩ := hh
  refine W_sound tab_ok mixed 21 _ _ _ ?_
  simp -implicitDefEqProofs only [go_sem, qa, qb, qc, qd, qe, qf, qg, qh, qi, qj, qk, ↓reduceIte, h285, h291, h294, g296, g297, g298, h299, h301, g303, g304, g305, h306]
  repeat with_reducible refine And.intro (by first | kernel_rfl | decide) ?_
  obtain rfl := Option.some.inj h
  exact finC [(4, .v (.bool (x300 == x307)))] [(4, .v (.bool (x300 == x307)))] (by simp [leE, lk_cons]) (.cons _ _ _ _ _ (.v _ _ (.refl _)) .nil) (by rfl) (by simp [leE, lk_cons]) (by decide) (by decide) rfl (by simp only [go_sem, qa, qb, qc, qd, qe, qf, qg, qh, qi, qj, qk, ↓reduceIte, resQ_tmp, resQ_cell, resQ_nil, retD_one, retD_two, retD_three, retD_none]; try simp [R.val, retD_one, retD_two, retD_three, retD_none])

def m98_L0 (N : Nat) (p316 : PV) (p317 : PV) (p318 : PV) (p319 : PV) (p320 : PV) (x330 : Int) (x337 : Int) : Nat → Int → List PV → Option (List PV)
  | 0, _, _ => none
  | n + 1, x346, c347 =>
    brn (decide (x346 < 5)) (
      grd (0 ≤ x346 ∧ x346 < 5) <|
      getI .i64 (gp [p316, p317, p318, p319, p320] (Int.toNat x346)) fun x352 =>
      brn (x352 == (maxI x330 x337)) (
        grd (((Int.toNat x346) + 1) ≤ List.length c347) <|
        m98_L0 N p316 p317 p318 p319 p320 x330 x337 n (IntKind.i64.wrap (x346 + 1)) (List.set c347 (Int.toNat x346) (.int .i64 (minI x330 x337)))) (
        m98_L0 N p316 p317 p318 p319 p320 x330 x337 n (IntKind.i64.wrap (x346 + 1)) c347)) (
      some c347)
def m98 (N : Nat) (p313 : PV) (p314 : PV) : Option (PV) :=
  getA5 p313 fun p316 p317 p318 p319 p320 =>
  getA2 p314 fun p322 p323 =>
  getI .i64 p322 fun x325 =>
  grd (0 ≤ x325 ∧ x325 < 5) <|
  grd ((Int.toNat x325) < 5) <|
  getI .i64 (gp [p316, p317, p318, p319, p320] (Int.toNat x325)) fun x330 =>
  getI .i64 p323 fun x332 =>
  grd (0 ≤ x332 ∧ x332 < 5) <|
  grd ((Int.toNat x332) < 5) <|
  getI .i64 (gp [p316, p317, p318, p319, p320] (Int.toNat x332)) fun x337 =>
  bnd' (m98_L0 N p316 p317 p318 p319 p320 x330 x337 N 0 [p316, p317, p318, p319, p320]) fun c355 =>
  grd (5 ≤ List.length c355) <|
  getA5 (.agg (List.take 5 c355)) fun p358 p359 p360 p361 p362 =>
  some (.agg [p358, p359, p360, p361, p362])
theorem c98 (N : Nat) (p313 : PV) (p314 : PV) (r : PV)  (h : m98 N p313 p314 = some r) : FnP Tryd.prog 98 [p313, p314] r := by
  unfold m98 at h
  refine Fn_of (sz := 40) tab_ok [0, 1, 2, 3, 4, 5, 6, 7, 8, 27, 28, 29, 34] [.cell 4 98] Tryd.func98 rfl rfl rfl (by simp) ?_
  simp only [initSt, initEnv, List.map_cons, List.map_nil, List.getD_cons_zero, List.getD_cons_succ, List.getD_nil]
  have hh := getA5_some h; clear h; obtain ⟨p316, p317, p318, p319, p320, h315, h⟩ := hh
  have hh := getA2_some h; clear h; obtain ⟨p322, p323, h321, h⟩ := hh
  have hh := getI_some h; clear h; obtain ⟨x325, h324, h⟩ := hh
  have hh := grd_some h; clear h; obtain ⟨⟨g326, g327⟩, h⟩ := hh
  have hh := grd_some h; clear h; obtain ⟨g328, h⟩ := hh
  have hh := getI_some h; clear h; obtain ⟨x330, h329, h⟩ := hh
  have hh := getI_some h; clear h; obtain ⟨x332, h331, h⟩ := hh
  have hh := grd_some h; clear h; obtain ⟨⟨g333, g334⟩, h⟩ := hh
  have hh := grd_some h; clear h; obtain ⟨g335, h⟩ := hh
  have hh := getI_some h; clear h; obtain ⟨x337, h336, h⟩ := hh
  refine W_sound tab_ok mixed 35 _ _ _ ?_
  simp -implicitDefEqProofs only [go_sem, qa, qb, qc, qd, qe, qf, qg, qh, qi, qj, qk, ↓reduceIte, h315, h321, h324, g326, g327, g328, h329, h331, g333, g334, g335, h336]
  repeat with_reducible refine And.intro (by first | kernel_rfl | decide) ?_
  have hh := bnd'_some h; clear h; obtain ⟨o363, h364, h365⟩ := hh
  refine Wp_cut (fun s => ∃ c355, c355 = o363 ∧ s = ⟨[], [(0, .dead), (1, .dead), (2, .ptr 0 0), (3, .dead), (4, .ptr 1 0), (5, .dead), (6, .dead), (7, .dead), (8, .dead), (27, .dead), (28, .dead), (29, .dead), (34, .dead)], [(0, .p c355), (1, .p [(.int .i64 0), (.int .i64 0), (.int .i64 0), (.int .i64 0), (.int .i64 0)])], 2, []⟩) ?_ ?_
  · refine Wp_block ?_
    refine Wp_loopG (fun n s => ∃ x346, ∃ c347, m98_L0 N p316 p317 p318 p319 p320 x330 x337 n x346 c347 = some o363 ∧ s = ⟨[], [(0, .dead), (1, .dead), (2, .ptr 0 0), (3, .dead), (4, .ptr 1 0), (5, .v (.int .i64 (minI x330 x337))), (6, .v (.int .i64 (maxI x330 x337))), (7, .dead), (8, .dead), (27, .v (.agg [p316, p317, p318, p319, p320])), (28, .v (.int .i64 x346)), (29, .dead), (34, .dead)], [(0, .p c347), (1, .p [(.int .i64 0), (.int .i64 0), (.int .i64 0), (.int .i64 0), (.int .i64 0)])], 2, []⟩) N _ ((Wk_le (.k (.k (.r (.k (.r (.r (.r (.r (.r (.r (.r (.r (.r .nil))))))))))))) (OLe.refl _)).trans (cmpS_ok (st' := ⟨[], [(0, .dead), (1, .dead), (2, .ptr 0 0), (3, .dead), (4, .ptr 1 0), (5, .v (.int .i64 (minI x330 x337))), (6, .v (.int .i64 (maxI x330 x337))), (7, .dead), (8, .dead), (27, .v (.agg [p316, p317, p318, p319, p320])), (28, .v (.int .i64 0)), (29, .dead), (34, .dead)], [(0, .p [p316, p317, p318, p319, p320]), (1, .p [(.int .i64 0), (.int .i64 0), (.int .i64 0), (.int .i64 0), (.int .i64 0)])], 2, []⟩) (by kernel_rfl))) ⟨_, _, h364, rfl⟩ ?_
    clear h364
    rintro n _ ⟨x346, c347, h364, rfl⟩
    cases n with
    | zero => cases h364
    | succ n =>
      rw [m98_L0] at h364
      have hh := brn_some h364; clear h364; rcases hh with ⟨h348, h364⟩ | ⟨h348, h364⟩
      · have hh := grd_some h364; clear h364; obtain ⟨⟨g349, g350⟩, h364⟩ := hh
        have hh := getI_some h364; clear h364; obtain ⟨x352, h351, h364⟩ := hh
        have hh := brn_some h364; clear h364; rcases hh with ⟨h353, h364⟩ | ⟨h353, h364⟩
        · have hh := grd_some h364; clear h364; obtain ⟨g354, h364⟩ := hh
          refine W_sound tab_ok mixed 34 _ _ _ ?_
          simp -implicitDefEqProofs only [go_sem, qa, qb, qc, qd, qe, qf, qg, qh, qi, qj, qk, ↓reduceIte, h315, h321, h324, g326, g327, g328, h329, h331, g333, g334, g335, h336, h348, g349, g350, h351, h353, g354]
          repeat with_reducible refine And.intro (by first | kernel_rfl | decide) ?_
          exact cutQ _ ((Wk_le (.r (.r (.r (.r (.r (.r (.r (.k (.k (.r (.r (.k (.k .nil))))))))))))) (OLe.refl _)).trans (cmpS_ok (st' := ⟨[], [(0, .dead), (1, .dead), (2, .ptr 0 0), (3, .dead), (4, .ptr 1 0), (5, .v (.int .i64 (minI x330 x337))), (6, .v (.int .i64 (maxI x330 x337))), (7, .dead), (8, .dead), (27, .v (.agg [p316, p317, p318, p319, p320])), (28, .v (.int .i64 (IntKind.i64.wrap (x346 + 1)))), (29, .dead), (34, .dead)], [(0, .p (List.set c347 (Int.toNat x346) (.int .i64 (minI x330 x337)))), (1, .p [(.int .i64 0), (.int .i64 0), (.int .i64 0), (.int .i64 0), (.int .i64 0)])], 2, []⟩) (by kernel_rfl))) ⟨n, Nat.lt_succ_self n, _, _, h364, rfl⟩
        · refine W_sound tab_ok mixed 29 _ _ _ ?_
          simp -implicitDefEqProofs only [go_sem, qa, qb, qc, qd, qe, qf, qg, qh, qi, qj, qk, ↓reduceIte, h315, h321, h324, g326, g327, g328, h329, h331, g333, g334, g335, h336, h348, g349, g350, h351, h353]
          repeat with_reducible refine And.intro (by first | kernel_rfl | decide) ?_
          exact cutQ _ ((Wk_le (.r (.r (.r (.r (.r (.r (.r (.k (.k (.r (.r (.k (.k .nil))))))))))))) (OLe.refl _)).trans (cmpS_ok (st' := ⟨[], [(0, .dead), (1, .dead), (2, .ptr 0 0), (3, .dead), (4, .ptr 1 0), (5, .v (.int .i64 (minI x330 x337))), (6, .v (.int .i64 (maxI x330 x337))), (7, .dead), (8, .dead), (27, .v (.agg [p316, p317, p318, p319, p320])), (28, .v (.int .i64 (IntKind.i64.wrap (x346 + 1)))), (29, .dead), (34, .dead)], [(0, .p c347), (1, .p [(.int .i64 0), (.int .i64 0), (.int .i64 0), (.int .i64 0), (.int .i64 0)])], 2, []⟩) (by kernel_rfl))) ⟨n, Nat.lt_succ_self n, _, _, h364, rfl⟩
      · refine W_sound tab_ok mixed 7 _ _ _ ?_
        simp -implicitDefEqProofs only [go_sem, qa, qb, qc, qd, qe, qf, qg, qh, qi, qj, qk, ↓reduceIte, h315, h321, h324, g326, g327, g328, h329, h331, g333, g334, g335, h336, h348]
        repeat with_reducible refine And.intro (by first | kernel_rfl | decide) ?_
        obtain rfl := Option.some.inj h364
        exact cutQ _ ((Wk_le (.r (.r (.r (.r (.r (.k (.k (.r (.r (.k (.k (.k (.r .nil))))))))))))) (OLe.refl _)).trans (cmpS_ok (st' := ⟨[], [(0, .dead), (1, .dead), (2, .ptr 0 0), (3, .dead), (4, .ptr 1 0), (5, .dead), (6, .dead), (7, .dead), (8, .dead), (27, .dead), (28, .dead), (29, .dead), (34, .dead)], [(0, .p c347), (1, .p [(.int .i64 0), (.int .i64 0), (.int .i64 0), (.int .i64 0), (.int .i64 0)])], 2, []⟩) (by kernel_rfl))) ⟨_, rfl, rfl⟩
  · rintro _ ⟨c355, rfl, rfl⟩
    have hh := grd_some h365; clear h365; obtain ⟨g356, h365⟩ := hh
    have hh := getA5_some h365; clear h365; obtain ⟨p358, p359, p360, p361, p362, h357, h365⟩ := hh
    injection h357 with h357
    refine W_sound tab_ok mixed 7 _ _ _ ?_
    simp -implicitDefEqProofs only [go_sem, qa, qb, qc, qd, qe, qf, qg, qh, qi, qj, qk, ↓reduceIte, h315, h321, h324, g326, g327, g328, h329, h331, g333, g334, g335, h336, g356, h357]
    repeat with_reducible refine And.intro (by first | kernel_rfl | decide) ?_
    refine FinQ_wk (Wk_freeze 1 [p358, p359, p360, p361, p362] (by rfl) (by decide) (by decide)) ?_
    simp -implicitDefEqProofs only [go_sem, qa, qb, qc, qd, qe, qf, qg, qh, qi, qj, qk, ↓reduceIte, h315, h321, h324, g326, g327, g328, h329, h331, g333, g334, g335, h336, g356, h357]
    obtain rfl := Option.some.inj h365
    exact finC [(4, .v (.ipt [p358, p359, p360, p361, p362]))] [(4, .v (.ipt [p358, p359, p360, p361, p362]))] (by simp [leE, lk_cons]) (.cons _ _ _ _ _ (.v _ _ (.refl _)) .nil) (by rfl) (by simp [leE, lk_cons]) (by decide) (by decide) rfl (by simp only [go_sem, qa, qb, qc, qd, qe, qf, qg, qh, qi, qj, qk, ↓reduceIte, resQ_tmp, resQ_cell, resQ_nil, retD_one, retD_two, retD_three, retD_none]; try simp [R.val, retD_one, retD_two, retD_three, retD_none])

end Go.Proofs.YtnponojgpkbagaaDoor

namespace Go.Proofs.YtnponojgpkbagaaDoor
open Go.V
open Nat renaming reduceBEq → qa, reduceAdd → qb, reduceSub → qc, reduceMul → qd, reduceLT → qe, reduceLeDiff → qf
open Int renaming reduceLE → qg, reduceLT → qh, reduceToNat → qi, reduceBEq → qj, reduceBNe → qk
set_option maxRecDepth 100000
set_option maxHeartbeats 4000000
set_option linter.unusedSimpArgs false
set_option linter.unusedVariables false
attribute [local go_sem] tl1 tl2 tl3 tl4 tl5 tl9 tl17 tl21 tl22 tl23 tl24 tl25 tl26 tl27 tl28 tl29 tl31 tl32 tl34 tl35 tl36 tl37 tl38 tl39 tl40 tl41 tl42 tl43 tl44 tl45 tl47 tl48 tl49 tl50 tl51 tl52 tl53 tl54 tl55 tl56 tl57 tl58 tl59 tl60 tl61 tl62 tl63 tl64 tl65 tl66 tl67 tl68 tl69 tl70 tl71 tl72 tl73 tl74 tl75 tl76 tl77 tl78 tl79 tl80 tl81 tl82 tl83 tl84 tl85 tl86 tl87 tl88 tl89 tl90 tl92 tl94 tl95 tl96 tl97 tl98 tl99 tl100 tl101 tl102 tl103 tl104 tl105 tl106 tl107 tl108 tl109 tl110 tl111 tl112 tl113 tl114 tl115 tl116 tl118 tl119 tl121 tl122 tl123 tl124 tl125 tl126 tl127 tl128 tl129 tl131 tl133 tl134 tl135 tl136 tl142 tl146
def gv1 : List PV := (glk Gv 1).getD []
@[local go_sem] theorem ev_gv1 (get : Nat → D) : evG get (.global 1) = .v (.ipt gv1) := rfl

def m103 (N : Nat) (x533 : Int) : Option (PV) :=
  brn (x533 == 0) (
    some (.int .i64 64)) (
    grd (0 ≤ (Int.fdiv (IntKind.u64.wrap ((bitsI .and .u64 x533 (IntKind.u64.wrap (0 - x533))) * 285870213051353865)) (2 ^ (min 58 64))) ∧ (Int.fdiv (IntKind.u64.wrap ((bitsI .and .u64 x533 (IntKind.u64.wrap (0 - x533))) * 285870213051353865)) (2 ^ (min 58 64))) < 64) <|
    grd (0 < List.length (List.drop (Int.toNat (Int.fdiv (IntKind.u64.wrap ((bitsI .and .u64 x533 (IntKind.u64.wrap (0 - x533))) * 285870213051353865)) (2 ^ (min 58 64)))) gv1)) <|
    getI .u8 (gp gv1 (Int.toNat (Int.fdiv (IntKind.u64.wrap ((bitsI .and .u64 x533 (IntKind.u64.wrap (0 - x533))) * 285870213051353865)) (2 ^ (min 58 64))))) fun x539 =>
    some (.int .i64 (IntKind.i64.wrap x539)))
theorem c103 (N : Nat) (x533 : Int) (r : PV)  (h : m103 N x533 = some r) : FnP Tryd.prog 103 [(.int .u64 x533)] r := by
  unfold m103 at h
  refine Fn_of (sz := 14) tab_ok [0, 2, 4] [.tmp 2] Tryd.func103 rfl rfl rfl (by simp) ?_
  simp only [initSt, initEnv, List.map_cons, List.map_nil, List.getD_cons_zero, List.getD_cons_succ, List.getD_nil]
  have hh := brn_some h; clear h; rcases hh with ⟨h534, h⟩ | ⟨h534, h⟩
  · refine W_sound tab_ok mixed 17 _ _ _ ?_
    simp -implicitDefEqProofs only [go_sem, qa, qb, qc, qd, qe, qf, qg, qh, qi, qj, qk, ↓reduceIte, h534]
    repeat with_reducible refine And.intro (by first | kernel_rfl | decide) ?_
    obtain rfl := Option.some.inj h
    exact finC [(2, .v (.int .i64 64))] [(2, .v (.int .i64 64))] (by simp [leE, lk_cons]) (.cons _ _ _ _ _ (.v _ _ (.refl _)) .nil) (by rfl) (by simp [leE, lk_cons]) (by decide) (by decide) rfl (by simp only [go_sem, qa, qb, qc, qd, qe, qf, qg, qh, qi, qj, qk, ↓reduceIte, resQ_tmp, resQ_cell, resQ_nil, retD_one, retD_two, retD_three, retD_none]; try simp [R.val, retD_one, retD_two, retD_three, retD_none])
  · have hh := grd_some h; clear h; obtain ⟨⟨g535, g536⟩, h⟩ := hh
    have hh := grd_some h; clear h; obtain ⟨g537, h⟩ := hh
    have hh := getI_some h; clear h; obtain ⟨x539, h538, h⟩ := hh
    refine W_sound tab_ok mixed 27 _ _ _ ?_
    simp -implicitDefEqProofs only [go_sem, qa, qb, qc, qd, qe, qf, qg, qh, qi, qj, qk, ↓reduceIte, h534, g535, g536, g537, h538]
    repeat with_reducible refine And.intro (by first | kernel_rfl | decide) ?_
    obtain rfl := Option.some.inj h
    exact finC [(2, .v (.int .i64 (IntKind.i64.wrap x539)))] [(2, .v (.int .i64 (IntKind.i64.wrap x539)))] (by simp [leE, lk_cons]) (.cons _ _ _ _ _ (.v _ _ (.refl _)) .nil) (by rfl) (by simp [leE, lk_cons]) (by decide) (by decide) rfl (by simp only [go_sem, qa, qb, qc, qd, qe, qf, qg, qh, qi, qj, qk, ↓reduceIte, resQ_tmp, resQ_cell, resQ_nil, retD_one, retD_two, retD_three, retD_none]; try simp [R.val, retD_one, retD_two, retD_three, retD_none])

def m90 (N : Nat) (x532 : Int) : Option (PV) :=
  bnd' (m103 N x532) fun p540 =>
  getI .i64 p540 fun x543 =>
  some (.int .i64 x543)
theorem c90 (N : Nat) (x532 : Int) (r : PV)  (h : m90 N x532 = some r) : FnP Tryd.prog 90 [(.int .u64 x532)] r := by
  unfold m90 at h
  refine Fn_of (sz := 8) tab_ok [0, 2] [.tmp 2] Tryd.func90 rfl rfl rfl (by simp) ?_
  simp only [initSt, initEnv, List.map_cons, List.map_nil, List.getD_cons_zero, List.getD_cons_succ, List.getD_nil]
  have hh := bnd'_some h; clear h; obtain ⟨p540, h541, h⟩ := hh
  refine W_sound tab_ok mixed 10 _ _ _ ?_
  simp -implicitDefEqProofs only [go_sem, qa, qb, qc, qd, qe, qf, qg, qh, qi, qj, qk, ↓reduceIte]
  repeat with_reducible refine And.intro (by first | kernel_rfl | decide) ?_
  refine Wp_callP (c103 N _ _ h541) (by kernel_rfl) rfl rfl rfl rfl (by decide) ?_
  have hh := getI_some h; clear h; obtain ⟨x543, h542, h⟩ := hh
  refine W_sound tab_ok mixed 4 _ _ _ ?_
  simp -implicitDefEqProofs only [go_sem, qa, qb, qc, qd, qe, qf, qg, qh, qi, qj, qk, ↓reduceIte, h542]
  repeat with_reducible refine And.intro (by first | kernel_rfl | decide) ?_
  obtain rfl := Option.some.inj h
  exact finC [(2, .v (.int .i64 x543))] [(2, .v (.int .i64 x543))] (by simp [leE, lk_cons]) (.cons _ _ _ _ _ (.v _ _ (.refl _)) .nil) (by rfl) (by simp [leE, lk_cons]) (by decide) (by decide) rfl (by simp only [go_sem, qa, qb, qc, qd, qe, qf, qg, qh, qi, qj, qk, ↓reduceIte, resQ_tmp, resQ_cell, resQ_nil, retD_one, retD_two, retD_three, retD_none]; try simp [R.val, retD_one, retD_two, retD_three, retD_none])

def m77_L0 (N : Nat)  : Nat → Int → Nat → List PV → Option ((Nat × List PV))
  | 0, _, _, _ => none
  | n + 1, x554, n555, c556 =>
    brn (x554 != 0) (
      bnd' (m90 N x554) fun p558 =>
      getI .i64 p558 fun x561 =>
      grd ((n555 + 1) ≤ 1099511627776) <|
      grd (List.length c556 = n555) <|
      m77_L0 N  n (bitsI .and .u64 x554 (IntKind.u64.wrap (x554 - 1))) (n555 + 1) (c556 ++ [(.int .i64 x561)])) (
      some (n555, c556))
def m77 (N : Nat) (x529 : Int) : Option (PV) :=
  bnd' (m77_L0 N  N x529 0 []) fun o =>
  match o with
  | (n564, c565) =>
    grd (List.length c565 = n564) <|
    some (.lst false n564 c565)
theorem c77 (N : Nat) (x529 : Int) (r : PV)  (h : m77 N x529 = some r) : FnP Tryd.prog 77 [(.int .u64 x529)] r := by
  unfold m77 at h
  refine Fn_of (sz := 16) tab_ok [0, 2, 3, 5] [.tmp 2] Tryd.func77 rfl rfl rfl (by simp) ?_
  simp only [initSt, initEnv, List.map_cons, List.map_nil, List.getD_cons_zero, List.getD_cons_succ, List.getD_nil]
  refine W_sound tab_ok mixed 9 _ _ _ ?_
  simp -implicitDefEqProofs only [go_sem, qa, qb, qc, qd, qe, qf, qg, qh, qi, qj, qk, ↓reduceIte]
  repeat with_reducible refine And.intro (by first | kernel_rfl | decide) ?_
  refine Wp_weaken (Wk_ownS 3 1 rfl (by decide) (by decide)) ?_
  simp -implicitDefEqProofs only [go_sem, qa, qb, qc, qd, qe, qf, qg, qh, qi, qj, qk, ↓reduceIte]
  have hh := bnd'_some h; clear h; obtain ⟨o567, h568, h569⟩ := hh
  refine Wp_cut (fun s => ∃ n564, ∃ c565, (n564, c565) = o567 ∧ s = ⟨[], [(0, .dead), (2, .dead), (3, .sl false 0 0 n564 1), (5, .dead)], [(0, .p c565)], 1, []⟩) ?_ ?_
  · refine Wp_block ?_
    refine Wp_loopG (fun n s => ∃ x554, ∃ n555, ∃ c556, m77_L0 N  n x554 n555 c556 = some o567 ∧ s = ⟨[], [(0, .v (.int .u64 x554)), (2, .dead), (3, .sl false 0 0 n555 1), (5, .dead)], [(0, .p c556)], 1, []⟩) N _ ((Wk_le (.r (.k (.r (.r .nil)))) (OLe.refl _)).trans (cmpS_ok rfl)) ⟨_, _, _, h568, rfl⟩ ?_
    clear h568
    rintro n _ ⟨x554, n555, c556, h568, rfl⟩
    cases n with
    | zero => cases h568
    | succ n =>
      rw [m77_L0] at h568
      have hh := brn_some h568; clear h568; rcases hh with ⟨h557, h568⟩ | ⟨h557, h568⟩
      · have hh := bnd'_some h568; clear h568; obtain ⟨p558, h559, h568⟩ := hh
        refine W_sound tab_ok mixed 13 _ _ _ ?_
        simp -implicitDefEqProofs only [go_sem, qa, qb, qc, qd, qe, qf, qg, qh, qi, qj, qk, ↓reduceIte, h557]
        repeat with_reducible refine And.intro (by first | kernel_rfl | decide) ?_
        refine Wp_callP (c90 N _ _ h559) (by kernel_rfl) rfl rfl rfl rfl (by decide) ?_
        have hh := getI_some h568; clear h568; obtain ⟨x561, h560, h568⟩ := hh
        have hh := grd_some h568; clear h568; obtain ⟨g562, h568⟩ := hh
        have hh := grd_some h568; clear h568; obtain ⟨g563, h568⟩ := hh
        refine W_sound tab_ok mixed 12 _ _ _ ?_
        simp -implicitDefEqProofs only [go_sem, qa, qb, qc, qd, qe, qf, qg, qh, qi, qj, qk, ↓reduceIte, h557, h560, g562, g563]
        repeat with_reducible refine And.intro (by first | kernel_rfl | decide) ?_
        exact cutQ _ ((Wk_le (.r (.r (.r (.k .nil)))) (OLe.refl _)).trans (cmpS_ok rfl)) ⟨n, Nat.lt_succ_self n, _, _, _, h568, rfl⟩
      · refine W_sound tab_ok mixed 8 _ _ _ ?_
        simp -implicitDefEqProofs only [go_sem, qa, qb, qc, qd, qe, qf, qg, qh, qi, qj, qk, ↓reduceIte, h557]
        repeat with_reducible refine And.intro (by first | kernel_rfl | decide) ?_
        obtain rfl := Option.some.inj h568
        exact cutQ _ ((Wk_le (.k (.r (.r (.k .nil)))) (OLe.refl _)).trans (cmpS_ok rfl)) ⟨_, _, rfl, rfl⟩
  · rintro _ ⟨n564, c565, rfl, rfl⟩
    (try dsimp only at h569)
    refine W_sound tab_ok mixed 7 _ _ _ ?_
    simp -implicitDefEqProofs only [go_sem, qa, qb, qc, qd, qe, qf, qg, qh, qi, qj, qk, ↓reduceIte]
    repeat with_reducible refine And.intro (by first | kernel_rfl | decide) ?_
    have hh := grd_some h569; clear h569; obtain ⟨g566, h569⟩ := hh
    refine FinQ_wk (Wk_freeze 0 c565 (by rfl) (by decide) (by decide)) ?_
    simp -implicitDefEqProofs only [go_sem, qa, qb, qc, qd, qe, qf, qg, qh, qi, qj, qk, ↓reduceIte, g566]
    obtain rfl := Option.some.inj h569
    exact finC [(2, .v (.lst false n564 c565))] [(2, .v (.lst false n564 c565))] (by simp [leE, lk_cons]) (.cons _ _ _ _ _ (.v _ _ (.refl _)) .nil) (by rfl) (by simp [leE, lk_cons]) (by decide) (by decide) rfl (by simp only [go_sem, qa, qb, qc, qd, qe, qf, qg, qh, qi, qj, qk, ↓reduceIte, resQ_tmp, resQ_cell, resQ_nil, retD_one, retD_two, retD_three, retD_none]; try simp [R.val, retD_one, retD_two, retD_three, retD_none])

def m104 (N : Nat) (x682 : Int) : Option (PV) :=
  some (.bool (x682 != x682))
theorem c104 (N : Nat) (x682 : Int) (r : PV)  (h : m104 N x682 = some r) : FnP Tryd.prog 104 [(.int .i64 x682)] r := by
  unfold m104 at h
  refine Fn_of (sz := 6) tab_ok [0, 2] [.tmp 2] Tryd.func104 rfl rfl rfl (by simp) ?_
  simp only [initSt, initEnv, List.map_cons, List.map_nil, List.getD_cons_zero, List.getD_cons_succ, List.getD_nil]
  refine W_sound tab_ok mixed 13 _ _ _ ?_
  simp -implicitDefEqProofs only [go_sem, qa, qb, qc, qd, qe, qf, qg, qh, qi, qj, qk, ↓reduceIte]
  repeat with_reducible refine And.intro (by first | kernel_rfl | decide) ?_
  obtain rfl := Option.some.inj h
  exact finC [(2, .v (.bool (x682 != x682)))] [(2, .v (.bool (x682 != x682)))] (by simp [leE, lk_cons]) (.cons _ _ _ _ _ (.v _ _ (.refl _)) .nil) (by rfl) (by simp [leE, lk_cons]) (by decide) (by decide) rfl (by simp only [go_sem, qa, qb, qc, qd, qe, qf, qg, qh, qi, qj, qk, ↓reduceIte, resQ_tmp, resQ_cell, resQ_nil, retD_one, retD_two, retD_three, retD_none]; try simp [R.val, retD_one, retD_two, retD_three, retD_none])

def m91 (N : Nat) (x680 : Int) (x681 : Int) : Option (PV) :=
  bnd' (m104 N x680) fun p683 =>
  getB p683 fun b686 =>
  bnd' (m104 N x681) fun p687 =>
  getB p687 fun b690 =>
  brn b686 (
    brn b690 (
      some (.int .i64 0)) (
      some (.int .i64 (-1)))) (
    brn b690 (
      some (.int .i64 1)) (
      brn (decide (x680 < x681)) (
        some (.int .i64 (-1))) (
        brn (decide (x680 > x681)) (
          some (.int .i64 1)) (
          some (.int .i64 0)))))
theorem c91 (N : Nat) (x680 : Int) (x681 : Int) (r : PV)  (h : m91 N x680 x681 = some r) : FnP Tryd.prog 91 [(.int .i64 x680), (.int .i64 x681)] r := by
  unfold m91 at h
  refine Fn_of (sz := 20) tab_ok [0, 1, 4, 5, 6, 11, 12, 13, 16, 19] [.tmp 4] Tryd.func91 rfl rfl rfl (by simp) ?_
  simp only [initSt, initEnv, List.map_cons, List.map_nil, List.getD_cons_zero, List.getD_cons_succ, List.getD_nil]
  have hh := bnd'_some h; clear h; obtain ⟨p683, h684, h⟩ := hh
  refine W_sound tab_ok mixed 7 _ _ _ ?_
  simp -implicitDefEqProofs only [go_sem, qa, qb, qc, qd, qe, qf, qg, qh, qi, qj, qk, ↓reduceIte]
  repeat with_reducible refine And.intro (by first | kernel_rfl | decide) ?_
  refine Wp_callP (c104 N _ _ h684) (by kernel_rfl) rfl rfl rfl rfl (by decide) ?_
  have hh := getB_some h; clear h; obtain ⟨b686, h685, h⟩ := hh
  have hh := bnd'_some h; clear h; obtain ⟨p687, h688, h⟩ := hh
  refine W_sound tab_ok mixed 5 _ _ _ ?_
  simp -implicitDefEqProofs only [go_sem, qa, qb, qc, qd, qe, qf, qg, qh, qi, qj, qk, ↓reduceIte, h685]
  repeat with_reducible refine And.intro (by first | kernel_rfl | decide) ?_
  refine Wp_callP (c104 N _ _ h688) (by kernel_rfl) rfl rfl rfl rfl (by decide) ?_
  have hh := getB_some h; clear h; obtain ⟨b690, h689, h⟩ := hh
  have hh := brn_some h; clear h; rcases hh with ⟨h691, h⟩ | ⟨h691, h⟩
  · have hh := brn_some h; clear h; rcases hh with ⟨h692, h⟩ | ⟨h692, h⟩
    · refine W_sound tab_ok mixed 20 _ _ _ ?_
      simp -implicitDefEqProofs only [go_sem, qa, qb, qc, qd, qe, qf, qg, qh, qi, qj, qk, ↓reduceIte, h685, h689, h691, h692]
      repeat with_reducible refine And.intro (by first | kernel_rfl | decide) ?_
      obtain rfl := Option.some.inj h
      exact finC [(4, .v (.int .i64 0))] [(4, .v (.int .i64 0))] (by simp [leE, lk_cons]) (.cons _ _ _ _ _ (.v _ _ (.refl _)) .nil) (by rfl) (by simp [leE, lk_cons]) (by decide) (by decide) rfl (by simp only [go_sem, qa, qb, qc, qd, qe, qf, qg, qh, qi, qj, qk, ↓reduceIte, resQ_tmp, resQ_cell, resQ_nil, retD_one, retD_two, retD_three, retD_none]; try simp [R.val, retD_one, retD_two, retD_three, retD_none])
    · refine W_sound tab_ok mixed 21 _ _ _ ?_
      simp -implicitDefEqProofs only [go_sem, qa, qb, qc, qd, qe, qf, qg, qh, qi, qj, qk, ↓reduceIte, h685, h689, h691, h692]
      repeat with_reducible refine And.intro (by first | kernel_rfl | decide) ?_
      obtain rfl := Option.some.inj h
      exact finC [(4, .v (.int .i64 (-1)))] [(4, .v (.int .i64 (-1)))] (by simp [leE, lk_cons]) (.cons _ _ _ _ _ (.v _ _ (.refl _)) .nil) (by rfl) (by simp [leE, lk_cons]) (by decide) (by decide) rfl (by simp only [go_sem, qa, qb, qc, qd, qe, qf, qg, qh, qi, qj, qk, ↓reduceIte, resQ_tmp, resQ_cell, resQ_nil, retD_one, retD_two, retD_three, retD_none]; try simp [R.val, retD_one, retD_two, retD_three, retD_none])
  · have hh := brn_some h; clear h; rcases hh with ⟨h693, h⟩ | ⟨h693, h⟩
    · refine W_sound tab_ok mixed 21 _ _ _ ?_
      simp -implicitDefEqProofs only [go_sem, qa, qb, qc, qd, qe, qf, qg, qh, qi, qj, qk, ↓reduceIte, h685, h689, h691, h693]
      repeat with_reducible refine And.intro (by first | kernel_rfl | decide) ?_
      obtain rfl := Option.some.inj h
      exact finC [(4, .v (.int .i64 1))] [(4, .v (.int .i64 1))] (by simp [leE, lk_cons]) (.cons _ _ _ _ _ (.v _ _ (.refl _)) .nil) (by rfl) (by simp [leE, lk_cons]) (by decide) (by decide) rfl (by simp only [go_sem, qa, qb, qc, qd, qe, qf, qg, qh, qi, qj, qk, ↓reduceIte, resQ_tmp, resQ_cell, resQ_nil, retD_one, retD_two, retD_three, retD_none]; try simp [R.val, retD_one, retD_two, retD_three, retD_none])
    · have hh := brn_some h; clear h; rcases hh with ⟨h694, h⟩ | ⟨h694, h⟩
      · refine W_sound tab_ok mixed 30 _ _ _ ?_
        simp -implicitDefEqProofs only [go_sem, qa, qb, qc, qd, qe, qf, qg, qh, qi, qj, qk, ↓reduceIte, h685, h689, h691, h693, h694]
        repeat with_reducible refine And.intro (by first | kernel_rfl | decide) ?_
        obtain rfl := Option.some.inj h
        exact finC [(4, .v (.int .i64 (-1)))] [(4, .v (.int .i64 (-1)))] (by simp [leE, lk_cons]) (.cons _ _ _ _ _ (.v _ _ (.refl _)) .nil) (by rfl) (by simp [leE, lk_cons]) (by decide) (by decide) rfl (by simp only [go_sem, qa, qb, qc, qd, qe, qf, qg, qh, qi, qj, qk, ↓reduceIte, resQ_tmp, resQ_cell, resQ_nil, retD_one, retD_two, retD_three, retD_none]; try simp [R.val, retD_one, retD_two, retD_three, retD_none])
      · have hh := brn_some h; clear h; rcases hh with ⟨h695, h⟩ | ⟨h695, h⟩
        · refine W_sound tab_ok mixed 39 _ _ _ ?_
          simp -implicitDefEqProofs only [go_sem, qa, qb, qc, qd, qe, qf, qg, qh, qi, qj, qk, ↓reduceIte, h685, h689, h691, h693, h694, h695]
          repeat with_reducible refine And.intro (by first | kernel_rfl | decide) ?_
          obtain rfl := Option.some.inj h
          exact finC [(4, .v (.int .i64 1))] [(4, .v (.int .i64 1))] (by simp [leE, lk_cons]) (.cons _ _ _ _ _ (.v _ _ (.refl _)) .nil) (by rfl) (by simp [leE, lk_cons]) (by decide) (by decide) rfl (by simp only [go_sem, qa, qb, qc, qd, qe, qf, qg, qh, qi, qj, qk, ↓reduceIte, resQ_tmp, resQ_cell, resQ_nil, retD_one, retD_two, retD_three, retD_none]; try simp [R.val, retD_one, retD_two, retD_three, retD_none])
        · refine W_sound tab_ok mixed 40 _ _ _ ?_
          simp -implicitDefEqProofs only [go_sem, qa, qb, qc, qd, qe, qf, qg, qh, qi, qj, qk, ↓reduceIte, h685, h689, h691, h693, h694, h695]
          repeat with_reducible refine And.intro (by first | kernel_rfl | decide) ?_
          obtain rfl := Option.some.inj h
          exact finC [(4, .v (.int .i64 0))] [(4, .v (.int .i64 0))] (by simp [leE, lk_cons]) (.cons _ _ _ _ _ (.v _ _ (.refl _)) .nil) (by rfl) (by simp [leE, lk_cons]) (by decide) (by decide) rfl (by simp only [go_sem, qa, qb, qc, qd, qe, qf, qg, qh, qi, qj, qk, ↓reduceIte, resQ_tmp, resQ_cell, resQ_nil, retD_one, retD_two, retD_three, retD_none]; try simp [R.val, retD_one, retD_two, retD_three, retD_none])

def m47_L0 (N : Nat) (n663 : Nat) (c664 : List PV) (n666 : Nat) (c667 : List PV) : Nat → Int → Option ((PV ⊕ Unit))
  | 0, _ => none
  | n + 1, x668 =>
    brn (decide (x668 < ((n663 : Nat) : Int))) (
      grd (0 ≤ x668 ∧ x668 < ((n663 : Nat) : Int)) <|
      grd (0 < List.length (List.drop (Int.toNat x668) c664)) <|
      getI .i64 (gp c664 (Int.toNat x668)) fun x674 =>
      brn (decide (x668 ≥ ((n666 : Nat) : Int))) (
        some (.inl (.int .i64 1))) (
        grd (x668 < ((n666 : Nat) : Int)) <|
        grd (0 < List.length (List.drop (Int.toNat x668) c667)) <|
        getI .i64 (gp c667 (Int.toNat x668)) fun x679 =>
        bnd' (m91 N x674 x679) fun p696 =>
        getI .i64 p696 fun x699 =>
        brn (x699 != 0) (
          some (.inl (.int .i64 x699))) (
          m47_L0 N n663 c664 n666 c667 n (IntKind.i64.wrap (x668 + 1))))) (
      some (.inr ()))
def m47 (N : Nat) (p660 : PV) (p661 : PV) : Option (PV) :=
  getL p660 fun n663 c664 =>
  getL p661 fun n666 c667 =>
  bnd' (m47_L0 N n663 c664 n666 c667 N 0) fun o =>
  match o with
  | .inl p701 =>
    some p701
  | .inr () =>
    brn (decide (((n663 : Nat) : Int) < ((n666 : Nat) : Int))) (
      some (.int .i64 (-1))) (
      some (.int .i64 0))
theorem c47 (N : Nat) (p660 : PV) (p661 : PV) (r : PV)  (h : m47 N p660 p661 = some r) : FnP Tryd.prog 47 [p660, p661] r := by
  unfold m47 at h
  refine Fn_of (sz := 36) tab_ok [0, 1, 4, 5, 6, 7, 8, 9, 10, 11, 12, 19, 28, 35] [.tmp 4] Tryd.func47 rfl rfl rfl (by simp) ?_
  simp only [initSt, initEnv, List.map_cons, List.map_nil, List.getD_cons_zero, List.getD_cons_succ, List.getD_nil]
  have hh := getL_some h; clear h; obtain ⟨n663, c664, h662, h⟩ := hh
  have hh := getL_some h; clear h; obtain ⟨n666, c667, h665, h⟩ := hh
  refine W_sound tab_ok mixed 11 _ _ _ ?_
  simp -implicitDefEqProofs only [go_sem, qa, qb, qc, qd, qe, qf, qg, qh, qi, qj, qk, ↓reduceIte, h662, h665]
  repeat with_reducible refine And.intro (by first | kernel_rfl | decide) ?_
  have hh := bnd'_some h; clear h; obtain ⟨o703, h704, h705⟩ := hh
  refine Wp_cut (fun s => (.inr ()) = o703 ∧ s = ⟨[], [(0, .v (.lst false n663 c664)), (1, .v (.lst false n666 c667)), (4, .dead), (5, .dead), (6, .dead), (7, .dead), (8, .dead), (9, .dead), (10, .dead), (11, .dead), (12, .dead), (19, .dead), (28, .dead), (35, .dead)], [], 0, []⟩) ?_ ?_
  · refine Wp_block ?_
    refine Wp_loopG (fun n s => ∃ x668, m47_L0 N n663 c664 n666 c667 n x668 = some o703 ∧ s = ⟨[], [(0, .v (.lst false n663 c664)), (1, .v (.lst false n666 c667)), (4, .dead), (5, .dead), (6, .dead), (7, .dead), (8, .dead), (9, .v (.lst false n663 c664)), (10, .v (.int .i64 ((n663 : Nat) : Int))), (11, .v (.int .i64 x668)), (12, .dead), (19, .dead), (28, .dead), (35, .dead)], [], 0, []⟩) N _ ((Wk_le (.r (.r (.k (.r (.r (.r (.r (.r (.r (.r (.r (.r (.r (.r .nil)))))))))))))) (OLe.refl _)).trans (cmpS_ok (st' := ⟨[], [(0, .v (.lst false n663 c664)), (1, .v (.lst false n666 c667)), (4, .dead), (5, .dead), (6, .dead), (7, .dead), (8, .dead), (9, .v (.lst false n663 c664)), (10, .v (.int .i64 ((n663 : Nat) : Int))), (11, .v (.int .i64 0)), (12, .dead), (19, .dead), (28, .dead), (35, .dead)], [], 0, []⟩) (by kernel_rfl))) ⟨_, h704, rfl⟩ ?_
    clear h704
    rintro n _ ⟨x668, h704, rfl⟩
    cases n with
    | zero => cases h704
    | succ n =>
      rw [m47_L0] at h704
      have hh := brn_some h704; clear h704; rcases hh with ⟨h669, h704⟩ | ⟨h669, h704⟩
      · have hh := grd_some h704; clear h704; obtain ⟨⟨g670, g671⟩, h704⟩ := hh
        have hh := grd_some h704; clear h704; obtain ⟨g672, h704⟩ := hh
        have hh := getI_some h704; clear h704; obtain ⟨x674, h673, h704⟩ := hh
        have hh := brn_some h704; clear h704; rcases hh with ⟨h675, h704⟩ | ⟨h675, h704⟩
        · refine W_sound tab_ok mixed 32 _ _ _ ?_
          simp -implicitDefEqProofs only [go_sem, qa, qb, qc, qd, qe, qf, qg, qh, qi, qj, qk, ↓reduceIte, h662, h665, h669, g670, g671, g672, h673, h675]
          repeat with_reducible refine And.intro (by first | kernel_rfl | decide) ?_
          obtain rfl := Option.some.inj h704
          (try dsimp only at h705)
          obtain rfl := Option.some.inj h705
          exact finC [(4, .v (.int .i64 1))] [(4, .v (.int .i64 1))] (by simp [leE, lk_cons]) (.cons _ _ _ _ _ (.v _ _ (.refl _)) .nil) (by rfl) (by simp [leE, lk_cons]) (by decide) (by decide) rfl (by simp only [go_sem, qa, qb, qc, qd, qe, qf, qg, qh, qi, qj, qk, ↓reduceIte, resQ_tmp, resQ_cell, resQ_nil, retD_one, retD_two, retD_three, retD_none]; try simp [R.val, retD_one, retD_two, retD_three, retD_none])
        · have hh := grd_some h704; clear h704; obtain ⟨g676, h704⟩ := hh
          have hh := grd_some h704; clear h704; obtain ⟨g677, h704⟩ := hh
          have hh := getI_some h704; clear h704; obtain ⟨x679, h678, h704⟩ := hh
          have hh := bnd'_some h704; clear h704; obtain ⟨p696, h697, h704⟩ := hh
          refine W_sound tab_ok mixed 39 _ _ _ ?_
          simp -implicitDefEqProofs only [go_sem, qa, qb, qc, qd, qe, qf, qg, qh, qi, qj, qk, ↓reduceIte, h662, h665, h669, g670, g671, g672, h673, h675, g676, g677, h678]
          repeat with_reducible refine And.intro (by first | kernel_rfl | decide) ?_
          refine Wp_callP (c91 N _ _ _ h697) (by kernel_rfl) rfl rfl rfl rfl (by decide) ?_
          have hh := getI_some h704; clear h704; obtain ⟨x699, h698, h704⟩ := hh
          have hh := brn_some h704; clear h704; rcases hh with ⟨h700, h704⟩ | ⟨h700, h704⟩
          · refine W_sound tab_ok mixed 15 _ _ _ ?_
            simp -implicitDefEqProofs only [go_sem, qa, qb, qc, qd, qe, qf, qg, qh, qi, qj, qk, ↓reduceIte, h662, h665, h669, g670, g671, g672, h673, h675, g676, g677, h678, h698, h700]
            repeat with_reducible refine And.intro (by first | kernel_rfl | decide) ?_
            obtain rfl := Option.some.inj h704
            (try dsimp only at h705)
            obtain rfl := Option.some.inj h705
            exact finC [(4, .v (.int .i64 x699))] [(4, .v (.int .i64 x699))] (by simp [leE, lk_cons]) (.cons _ _ _ _ _ (.v _ _ (.refl _)) .nil) (by rfl) (by simp [leE, lk_cons]) (by decide) (by decide) rfl (by simp only [go_sem, qa, qb, qc, qd, qe, qf, qg, qh, qi, qj, qk, ↓reduceIte, resQ_tmp, resQ_cell, resQ_nil, retD_one, retD_two, retD_three, retD_none]; try simp [R.val, retD_one, retD_two, retD_three, retD_none])
          · refine W_sound tab_ok mixed 14 _ _ _ ?_
            simp -implicitDefEqProofs only [go_sem, qa, qb, qc, qd, qe, qf, qg, qh, qi, qj, qk, ↓reduceIte, h662, h665, h669, g670, g671, g672, h673, h675, g676, g677, h678, h698, h700]
            repeat with_reducible refine And.intro (by first | kernel_rfl | decide) ?_
            exact cutQ _ ((Wk_le (.r (.r (.r (.k (.k (.k (.k (.r (.r (.r (.k (.k (.k (.r .nil)))))))))))))) (OLe.refl _)).trans (cmpS_ok (st' := ⟨[], [(0, .v (.lst false n663 c664)), (1, .v (.lst false n666 c667)), (4, .dead), (5, .dead), (6, .dead), (7, .dead), (8, .dead), (9, .v (.lst false n663 c664)), (10, .v (.int .i64 ((n663 : Nat) : Int))), (11, .v (.int .i64 (IntKind.i64.wrap (x668 + 1)))), (12, .dead), (19, .dead), (28, .dead), (35, .dead)], [], 0, []⟩) (by kernel_rfl))) ⟨n, Nat.lt_succ_self n, _, h704, rfl⟩
      · refine W_sound tab_ok mixed 7 _ _ _ ?_
        simp -implicitDefEqProofs only [go_sem, qa, qb, qc, qd, qe, qf, qg, qh, qi, qj, qk, ↓reduceIte, h662, h665, h669]
        repeat with_reducible refine And.intro (by first | kernel_rfl | decide) ?_
        obtain rfl := Option.some.inj h704
        exact cutQ _ ((Wk_le (.r (.r (.r (.r (.r (.r (.r (.k (.k (.k (.k (.r (.r (.r .nil)))))))))))))) (OLe.refl _)).trans (cmpS_ok (st' := ⟨[], [(0, .v (.lst false n663 c664)), (1, .v (.lst false n666 c667)), (4, .dead), (5, .dead), (6, .dead), (7, .dead), (8, .dead), (9, .dead), (10, .dead), (11, .dead), (12, .dead), (19, .dead), (28, .dead), (35, .dead)], [], 0, []⟩) (by kernel_rfl))) ⟨rfl, rfl⟩
  · rintro _ ⟨rfl, rfl⟩
    (try dsimp only at h705)
    have hh := brn_some h705; clear h705; rcases hh with ⟨h702, h705⟩ | ⟨h702, h705⟩
    · refine W_sound tab_ok mixed 16 _ _ _ ?_
      simp -implicitDefEqProofs only [go_sem, qa, qb, qc, qd, qe, qf, qg, qh, qi, qj, qk, ↓reduceIte, h662, h665, h702]
      repeat with_reducible refine And.intro (by first | kernel_rfl | decide) ?_
      obtain rfl := Option.some.inj h705
      exact finC [(4, .v (.int .i64 (-1)))] [(4, .v (.int .i64 (-1)))] (by simp [leE, lk_cons]) (.cons _ _ _ _ _ (.v _ _ (.refl _)) .nil) (by rfl) (by simp [leE, lk_cons]) (by decide) (by decide) rfl (by simp only [go_sem, qa, qb, qc, qd, qe, qf, qg, qh, qi, qj, qk, ↓reduceIte, resQ_tmp, resQ_cell, resQ_nil, retD_one, retD_two, retD_three, retD_none]; try simp [R.val, retD_one, retD_two, retD_three, retD_none])
    · refine W_sound tab_ok mixed 17 _ _ _ ?_
      simp -implicitDefEqProofs only [go_sem, qa, qb, qc, qd, qe, qf, qg, qh, qi, qj, qk, ↓reduceIte, h662, h665, h702]
      repeat with_reducible refine And.intro (by first | kernel_rfl | decide) ?_
      obtain rfl := Option.some.inj h705
      exact finC [(4, .v (.int .i64 0))] [(4, .v (.int .i64 0))] (by simp [leE, lk_cons]) (.cons _ _ _ _ _ (.v _ _ (.refl _)) .nil) (by rfl) (by simp [leE, lk_cons]) (by decide) (by decide) rfl (by simp only [go_sem, qa, qb, qc, qd, qe, qf, qg, qh, qi, qj, qk, ↓reduceIte, resQ_tmp, resQ_cell, resQ_nil, retD_one, retD_two, retD_three, retD_none]; try simp [R.val, retD_one, retD_two, retD_three, retD_none])

end Go.Proofs.YtnponojgpkbagaaDoor

namespace Go.Proofs.YtnponojgpkbagaaDoor
open Go.V
set_option maxRecDepth 100000
set_option maxHeartbeats 4000000
set_option linter.unusedSimpArgs false
set_option linter.unusedVariables false
attribute [local go_sem] tl1 tl2 tl3 tl4 tl5 tl9 tl17 tl21 tl22 tl23 tl24 tl25 tl26 tl27 tl28 tl29 tl31 tl32 tl34 tl35 tl36 tl37 tl38 tl39 tl40 tl41 tl42 tl43 tl44 tl45 tl47 tl48 tl49 tl50 tl51 tl52 tl53 tl54 tl55 tl56 tl57 tl58 tl59 tl60 tl61 tl62 tl63 tl64 tl65 tl66 tl67 tl68 tl69 tl70 tl71 tl72 tl73 tl74 tl75 tl76 tl77 tl78 tl79 tl80 tl81 tl82 tl83 tl84 tl85 tl86 tl87 tl88 tl89 tl90 tl92 tl94 tl95 tl96 tl97 tl98 tl99 tl100 tl101 tl102 tl103 tl104 tl105 tl106 tl107 tl108 tl109 tl110 tl111 tl112 tl113 tl114 tl115 tl116 tl118 tl119 tl121 tl122 tl123 tl124 tl125 tl126 tl127 tl128 tl129 tl131 tl133 tl134 tl135 tl136 tl142 tl146

end Go.Proofs.YtnponojgpkbagaaDoor

namespace Go.Proofs.YtnponojgpkbagaaDoor
open Go.V
open Nat renaming reduceBEq → qa, reduceAdd → qb, reduceSub → qc, reduceMul → qd, reduceLT → qe, reduceLeDiff → qf
open Int renaming reduceLE → qg, reduceLT → qh, reduceToNat → qi, reduceBEq → qj, reduceBNe → qk
set_option maxRecDepth 100000
set_option maxHeartbeats 4000000
set_option linter.unusedSimpArgs false
set_option linter.unusedVariables false
attribute [local go_sem] tl1 tl2 tl3 tl4 tl5 tl9 tl17 tl21 tl22 tl23 tl24 tl25 tl26 tl27 tl28 tl29 tl31 tl32 tl34 tl35 tl36 tl37 tl38 tl39 tl40 tl41 tl42 tl43 tl44 tl45 tl47 tl48 tl49 tl50 tl51 tl52 tl53 tl54 tl55 tl56 tl57 tl58 tl59 tl60 tl61 tl62 tl63 tl64 tl65 tl66 tl67 tl68 tl69 tl70 tl71 tl72 tl73 tl74 tl75 tl76 tl77 tl78 tl79 tl80 tl81 tl82 tl83 tl84 tl85 tl86 tl87 tl88 tl89 tl90 tl92 tl94 tl95 tl96 tl97 tl98 tl99 tl100 tl101 tl102 tl103 tl104 tl105 tl106 tl107 tl108 tl109 tl110 tl111 tl112 tl113 tl114 tl115 tl116 tl118 tl119 tl121 tl122 tl123 tl124 tl125 tl126 tl127 tl128 tl129 tl131 tl133 tl134 tl135 tl136 tl142 tl146

def m16 (N : Nat) : Option PV := some (.bool true)
theorem c16 (N : Nat) (r : PV) (h : m16 N = some r) : FnP Tryd.prog 16 [] r := by
  obtain rfl := Option.some.inj h
  exact k29

def m21_L0 (N : Nat) (n2278 : Nat) (c2279 : List PV) (n2281 : Nat) (c2282 : List PV) : Nat → Int → Option ((PV ⊕ Unit))
  | 0, _ => none
  | n + 1, x2284 =>
    brn (decide (x2284 < ((n2278 : Nat) : Int))) (
      grd (0 ≤ x2284 ∧ x2284 < ((n2278 : Nat) : Int)) <|
      grd (0 < List.length (List.drop (Int.toNat x2284) c2279)) <|
      getI .i64 (gp c2279 (Int.toNat x2284)) fun x2290 =>
      grd (x2284 < ((n2281 : Nat) : Int)) <|
      grd (0 < List.length (List.drop (Int.toNat x2284) c2282)) <|
      getI .i64 (gp c2282 (Int.toNat x2284)) fun x2294 =>
      brn (x2290 != x2294) (
        some (.inl (.bool false))) (
        m21_L0 N n2278 c2279 n2281 c2282 n (IntKind.i64.wrap (x2284 + 1)))) (
      some (.inr ()))
def m21 (N : Nat) (p2275 : PV) (p2276 : PV) : Option (PV) :=
  getL p2275 fun n2278 c2279 =>
  getL p2276 fun n2281 c2282 =>
  brn (((n2278 : Nat) : Int) != ((n2281 : Nat) : Int)) (
    some (.bool false)) (
    bnd' (m21_L0 N n2278 c2279 n2281 c2282 N 0) fun o =>
    match o with
    | .inl p2296 =>
      some p2296
    | .inr () =>
      some (.bool true))
theorem c21 (N : Nat) (p2275 : PV) (p2276 : PV) (r : PV)  (h : m21 N p2275 p2276 = some r) : FnP Tryd.prog 21 [p2275, p2276] r := by
  unfold m21 at h
  refine Fn_of (sz := 26) tab_ok [0, 1, 4, 5, 10, 14, 25] [.tmp 4] Tryd.func21 rfl rfl rfl (by simp) ?_
  simp only [initSt, initEnv, List.map_cons, List.map_nil, List.getD_cons_zero, List.getD_cons_succ, List.getD_nil]
  have hh := getL_some h; clear h; obtain ⟨n2278, c2279, h2277, h⟩ := hh
  have hh := getL_some h; clear h; obtain ⟨n2281, c2282, h2280, h⟩ := hh
  have hh := brn_some h; clear h; rcases hh with ⟨h2283, h⟩ | ⟨h2283, h⟩
  · refine W_sound tab_ok mixed 20 _ _ _ ?_
    simp -implicitDefEqProofs only [go_sem, qa, qb, qc, qd, qe, qf, qg, qh, qi, qj, qk, ↓reduceIte, h2277, h2280, h2283]
    repeat with_reducible refine And.intro (by first | kernel_rfl | decide) ?_
    obtain rfl := Option.some.inj h
    exact finC [(4, .v (.bool false))] [(4, .v (.bool false))] (by simp [leE, lk_cons]) (.cons _ _ _ _ _ (.v _ _ (.refl _)) .nil) (by rfl) (by simp [leE, lk_cons]) (by decide) (by decide) rfl (by simp only [go_sem, qa, qb, qc, qd, qe, qf, qg, qh, qi, qj, qk, ↓reduceIte, resQ_tmp, resQ_cell, resQ_nil, retD_one, retD_two, retD_three, retD_none]; try simp [R.val, retD_one, retD_two, retD_three, retD_none])
  · refine W_sound tab_ok mixed 20 _ _ _ ?_
    simp -implicitDefEqProofs only [go_sem, qa, qb, qc, qd, qe, qf, qg, qh, qi, qj, qk, ↓reduceIte, h2277, h2280, h2283]
    repeat with_reducible refine And.intro (by first | kernel_rfl | decide) ?_
    have hh := bnd'_some h; clear h; obtain ⟨o2297, h2298, h2299⟩ := hh
    refine Wp_cut (fun s => (.inr ()) = o2297 ∧ s = ⟨[], [(0, .dead), (1, .dead), (4, .dead), (5, .dead), (10, .dead), (14, .dead), (25, .dead)], [], 0, []⟩) ?_ ?_
    · refine Wp_block ?_
      refine Wp_loopG (fun n s => ∃ x2284, m21_L0 N n2278 c2279 n2281 c2282 n x2284 = some o2297 ∧ s = ⟨[], [(0, .v (.lst false n2278 c2279)), (1, .v (.lst false n2281 c2282)), (4, .dead), (5, .v (.int .i64 x2284)), (10, .dead), (14, .dead), (25, .dead)], [], 0, []⟩) N _ ((Wk_le (.r (.r (.k (.r (.k (.r (.r .nil))))))) (OLe.refl _)).trans (cmpS_ok rfl)) ⟨_, h2298, rfl⟩ ?_
      clear h2298
      rintro n _ ⟨x2284, h2298, rfl⟩
      cases n with
      | zero => cases h2298
      | succ n =>
        rw [m21_L0] at h2298
        have hh := brn_some h2298; clear h2298; rcases hh with ⟨h2285, h2298⟩ | ⟨h2285, h2298⟩
        · have hh := grd_some h2298; clear h2298; obtain ⟨⟨g2286, g2287⟩, h2298⟩ := hh
          have hh := grd_some h2298; clear h2298; obtain ⟨g2288, h2298⟩ := hh
          have hh := getI_some h2298; clear h2298; obtain ⟨x2290, h2289, h2298⟩ := hh
          have hh := grd_some h2298; clear h2298; obtain ⟨g2291, h2298⟩ := hh
          have hh := grd_some h2298; clear h2298; obtain ⟨g2292, h2298⟩ := hh
          have hh := getI_some h2298; clear h2298; obtain ⟨x2294, h2293, h2298⟩ := hh
          have hh := brn_some h2298; clear h2298; rcases hh with ⟨h2295, h2298⟩ | ⟨h2295, h2298⟩
          · refine W_sound tab_ok mixed 31 _ _ _ ?_
            simp -implicitDefEqProofs only [go_sem, qa, qb, qc, qd, qe, qf, qg, qh, qi, qj, qk, ↓reduceIte, h2277, h2280, h2283, h2285, g2286, g2287, g2288, h2289, g2291, g2292, h2293, h2295]
            repeat with_reducible refine And.intro (by first | kernel_rfl | decide) ?_
            obtain rfl := Option.some.inj h2298
            (try dsimp only at h2299)
            obtain rfl := Option.some.inj h2299
            exact finC [(4, .v (.bool false))] [(4, .v (.bool false))] (by simp [leE, lk_cons]) (.cons _ _ _ _ _ (.v _ _ (.refl _)) .nil) (by rfl) (by simp [leE, lk_cons]) (by decide) (by decide) rfl (by simp only [go_sem, qa, qb, qc, qd, qe, qf, qg, qh, qi, qj, qk, ↓reduceIte, resQ_tmp, resQ_cell, resQ_nil, retD_one, retD_two, retD_three, retD_none]; try simp [R.val, retD_one, retD_two, retD_three, retD_none])
          · refine W_sound tab_ok mixed 32 _ _ _ ?_
            simp -implicitDefEqProofs only [go_sem, qa, qb, qc, qd, qe, qf, qg, qh, qi, qj, qk, ↓reduceIte, h2277, h2280, h2283, h2285, g2286, g2287, g2288, h2289, g2291, g2292, h2293, h2295]
            repeat with_reducible refine And.intro (by first | kernel_rfl | decide) ?_
            exact cutQ _ ((Wk_le (.r (.r (.r (.r (.r (.k (.k .nil))))))) (OLe.refl _)).trans (cmpS_ok rfl)) ⟨n, Nat.lt_succ_self n, _, h2298, rfl⟩
        · refine W_sound tab_ok mixed 10 _ _ _ ?_
          simp -implicitDefEqProofs only [go_sem, qa, qb, qc, qd, qe, qf, qg, qh, qi, qj, qk, ↓reduceIte, h2277, h2280, h2283, h2285]
          repeat with_reducible refine And.intro (by first | kernel_rfl | decide) ?_
          obtain rfl := Option.some.inj h2298
          exact cutQ _ ((Wk_le (.k (.k (.r (.k (.r (.k (.r .nil))))))) (OLe.refl _)).trans (cmpS_ok rfl)) ⟨rfl, rfl⟩
    · rintro _ ⟨rfl, rfl⟩
      (try dsimp only at h2299)
      refine W_sound tab_ok mixed 6 _ _ _ ?_
      simp -implicitDefEqProofs only [go_sem, qa, qb, qc, qd, qe, qf, qg, qh, qi, qj, qk, ↓reduceIte, h2277, h2280, h2283]
      repeat with_reducible refine And.intro (by first | kernel_rfl | decide) ?_
      obtain rfl := Option.some.inj h2299
      exact finC [(4, .v (.bool true))] [(4, .v (.bool true))] (by simp [leE, lk_cons]) (.cons _ _ _ _ _ (.v _ _ (.refl _)) .nil) (by rfl) (by simp [leE, lk_cons]) (by decide) (by decide) rfl (by simp only [go_sem, qa, qb, qc, qd, qe, qf, qg, qh, qi, qj, qk, ↓reduceIte, resQ_tmp, resQ_cell, resQ_nil, retD_one, retD_two, retD_three, retD_none]; try simp [R.val, retD_one, retD_two, retD_three, retD_none])

end Go.Proofs.YtnponojgpkbagaaDoor

namespace Go.Proofs.YtnponojgpkbagaaDoor
open Go.V
set_option maxRecDepth 100000
set_option maxHeartbeats 4000000
set_option linter.unusedSimpArgs false
set_option linter.unusedVariables false
attribute [local go_sem] tl1 tl2 tl3 tl4 tl5 tl9 tl17 tl21 tl22 tl23 tl24 tl25 tl26 tl27 tl28 tl29 tl31 tl32 tl34 tl35 tl36 tl37 tl38 tl39 tl40 tl41 tl42 tl43 tl44 tl45 tl47 tl48 tl49 tl50 tl51 tl52 tl53 tl54 tl55 tl56 tl57 tl58 tl59 tl60 tl61 tl62 tl63 tl64 tl65 tl66 tl67 tl68 tl69 tl70 tl71 tl72 tl73 tl74 tl75 tl76 tl77 tl78 tl79 tl80 tl81 tl82 tl83 tl84 tl85 tl86 tl87 tl88 tl89 tl90 tl92 tl94 tl95 tl96 tl97 tl98 tl99 tl100 tl101 tl102 tl103 tl104 tl105 tl106 tl107 tl108 tl109 tl110 tl111 tl112 tl113 tl114 tl115 tl116 tl118 tl119 tl121 tl122 tl123 tl124 tl125 tl126 tl127 tl128 tl129 tl131 tl133 tl134 tl135 tl136 tl142 tl146

end Go.Proofs.YtnponojgpkbagaaDoor

namespace Go.Proofs.YtnponojgpkbagaaDoor
open Go.V
set_option maxRecDepth 100000
set_option maxHeartbeats 4000000
set_option linter.unusedSimpArgs false
set_option linter.unusedVariables false
attribute [local go_sem] tl1 tl2 tl3 tl4 tl5 tl9 tl17 tl21 tl22 tl23 tl24 tl25 tl26 tl27 tl28 tl29 tl31 tl32 tl34 tl35 tl36 tl37 tl38 tl39 tl40 tl41 tl42 tl43 tl44 tl45 tl47 tl48 tl49 tl50 tl51 tl52 tl53 tl54 tl55 tl56 tl57 tl58 tl59 tl60 tl61 tl62 tl63 tl64 tl65 tl66 tl67 tl68 tl69 tl70 tl71 tl72 tl73 tl74 tl75 tl76 tl77 tl78 tl79 tl80 tl81 tl82 tl83 tl84 tl85 tl86 tl87 tl88 tl89 tl90 tl92 tl94 tl95 tl96 tl97 tl98 tl99 tl100 tl101 tl102 tl103 tl104 tl105 tl106 tl107 tl108 tl109 tl110 tl111 tl112 tl113 tl114 tl115 tl116 tl118 tl119 tl121 tl122 tl123 tl124 tl125 tl126 tl127 tl128 tl129 tl131 tl133 tl134 tl135 tl136 tl142 tl146

end Go.Proofs.YtnponojgpkbagaaDoor
