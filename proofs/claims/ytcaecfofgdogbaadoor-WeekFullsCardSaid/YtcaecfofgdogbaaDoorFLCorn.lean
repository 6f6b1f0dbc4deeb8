/-
  WeekCorners: the law's answer is true.
-/
import Derived.Test.YtcaecfofgdogbaaDoorFWpB
import Derived.Test.YtcaecfofgdogbaaDoorFWxA
import Derived.Test.YtcaecfofgdogbaaDoorFWoA
import Derived.Test.YtcaecfofgdogbaaDoorFV41
import Derived.Test.YtcaecfofgdogbaaDoorFV36
set_option linter.unusedSimpArgs false
set_option linter.unusedVariables false
namespace Go.Proofs.YtcaecfofgdogbaaDoor
open Go.V
open Nat renaming reduceBEq → qa, reduceAdd → qb, reduceSub → qc, reduceMul → qd, reduceLT → qe, reduceLeDiff → qf
open Int renaming reduceLE → qg, reduceLT → qh, reduceToNat → qi, reduceBEq → qj, reduceBNe → qk
set_option maxRecDepth 100000
set_option maxHeartbeats 4000000
set_option linter.unusedSimpArgs false
set_option linter.unusedVariables false
attribute [local go_sem] tl1 tl2 tl3 tl4 tl5 tl9 tl17 tl21 tl22 tl23 tl24 tl25 tl27 tl28 tl30 tl31 tl32 tl33 tl35 tl36 tl37 tl38 tl39 tl40 tl42 tl43 tl44 tl45 tl46 tl47 tl48 tl49 tl50 tl51 tl52 tl53 tl54 tl55 tl56 tl57 tl58 tl59 tl61 tl62 tl63 tl64 tl65 tl66 tl67 tl68 tl69 tl70 tl71 tl72 tl73 tl74 tl75 tl76 tl77 tl78 tl79 tl80 tl81 tl82 tl83 tl84 tl85 tl87 tl89 tl90 tl91 tl92 tl93 tl94 tl96 tl97 tl98 tl99 tl100 tl101 tl102 tl103 tl104 tl105 tl106 tl107 tl108 tl109 tl115 tl119
noncomputable def m29 (N : Nat) (x3541 : Int) (p3542 : PV) : Option (PV) :=
  getL p3542 fun n3544 c3545 =>
  bnd' (m61 N x3541 (.lst false n3544 c3545) x3541) fun o =>
  match o with
  | .inl x3547 =>
    brn (x3547 != 0) (
      some (.tup [(.lst false 0 []), (.int .i64 x3547)])) (
      none)
  | .inr (x3549, c3550) =>
    brn (x3549 != 0) (
      some (.tup [(.lst false 0 []), (.int .i64 x3549)])) (
      bnd' (m64 N c3550 [(.int .i64 0), (.int .i64 x3541), (.bool false), (.int .i64 0), (.int .i64 0), (.int .i64 0), (.int .i64 0), (.int .i64 0), (.int .i64 0), (.int .i64 0), (.int .i64 0), (.int .i64 0), (.int .i64 0), (.int .i64 0), (.int .i64 0), (.int .i64 0), (.int .i64 0), (.int .i64 0), (.int .i64 0), (.int .i64 0), (.int .i64 0), (.int .i64 0), (.int .i64 0), (.int .i64 0), (.int .i64 0), (.int .i64 0), (.int .i64 0), (.int .i64 0)]) fun (p3552, c3554, c3555) =>
      getT0 p3552 <|
      grd (28 ≤ List.length c3555) <|
      bnd' (m65 N (.agg (List.take 25 (List.drop 3 c3555))) x3541) fun p3558 =>
      getL p3558 fun n3561 c3562 =>
      some (.tup [(.lst false n3561 c3562), (.int .i64 0)]))
theorem c29 (N : Nat) (x3541 : Int) (p3542 : PV) (r : PV)  (h : m29 N x3541 p3542 = some r) : FnP Tryd.prog 29 [(.int .i64 x3541), p3542] r := by
  unfold m29 at h
  refine Fn_of (sz := 32) tab_ok [0, 1, 4, 5, 6, 7, 8, 17] [.tmp 4, .tmp 5] Tryd.func29 rfl rfl rfl (by simp) ?_
  simp only [initSt, initEnv, List.map_cons, List.map_nil, List.getD_cons_zero, List.getD_cons_succ, List.getD_nil]
  have hh := getL_some h; clear h; obtain ⟨n3544, c3545, h3543, h⟩ := hh
  have hh := bnd'_some h; clear h; obtain ⟨oo, h3546, h⟩ := hh
  rcases oo with x3547 | ⟨x3549, c3550⟩
  · (try dsimp only at h)
    refine W_sound tab_ok mixed 10 _ _ _ ?_
    simp -implicitDefEqProofs only [go_sem, qa, qb, qc, qd, qe, qf, qg, qh, qi, qj, qk, ↓reduceIte, h3543]
    repeat with_reducible refine ⟨by first | kernel_rfl | decide, ?_⟩
    refine Wp_callD [] (c61_a N _ _ _ _ h3546) rfl rfl rfl (by first | rfl | (simp only [go_sem, qa, qb, qc, qd, qe, qf, qg, qh, qi, qj, qk, ↓reduceIte, h3543] <;> rfl)) rfl (by kernel_rfl) ?_
    have hh := brn_some h; clear h; rcases hh with ⟨h3548, h⟩ | ⟨h3548, h⟩
    · refine W_sound tab_ok mixed 21 _ _ _ ?_
      simp -implicitDefEqProofs only [go_sem, qa, qb, qc, qd, qe, qf, qg, qh, qi, qj, qk, ↓reduceIte, h3543, h3548]
      repeat with_reducible refine ⟨by first | kernel_rfl | decide, ?_⟩
      obtain rfl := Option.some.inj h
      exact finC [(4, .v .nl), (5, .v (.int .i64 x3547))] [(4, .v (.lst false 0 [])), (5, .v (.int .i64 x3547))] (by simp [leE, lk_cons]) (.cons _ _ _ _ _ (.v _ _ (.nl false)) (.cons _ _ _ _ _ (.v _ _ (.refl _)) .nil)) (by rfl) (by simp [leE, lk_cons]) (by decide) (by decide) rfl (by simp only [go_sem, qa, qb, qc, qd, qe, qf, qg, qh, qi, qj, qk, ↓reduceIte, resQ_tmp, resQ_cell, resQ_nil, retD_one, retD_two, retD_three, retD_none]; try simp [R.val, retD_one, retD_two, retD_three, retD_none])
    · cases h
  · (try dsimp only at h)
    refine W_sound tab_ok mixed 10 _ _ _ ?_
    simp -implicitDefEqProofs only [go_sem, qa, qb, qc, qd, qe, qf, qg, qh, qi, qj, qk, ↓reduceIte, h3543]
    repeat with_reducible refine ⟨by first | kernel_rfl | decide, ?_⟩
    refine Wp_callD [] (c61_b N _ _ _ _ _ h3546) rfl rfl rfl (by first | rfl | (simp only [go_sem, qa, qb, qc, qd, qe, qf, qg, qh, qi, qj, qk, ↓reduceIte, h3543] <;> rfl)) rfl (by kernel_rfl) ?_
    have hh := brn_some h; clear h; rcases hh with ⟨h3551, h⟩ | ⟨h3551, h⟩
    · refine W_sound tab_ok mixed 21 _ _ _ ?_
      simp -implicitDefEqProofs only [go_sem, qa, qb, qc, qd, qe, qf, qg, qh, qi, qj, qk, ↓reduceIte, h3543, h3551]
      repeat with_reducible refine ⟨by first | kernel_rfl | decide, ?_⟩
      obtain rfl := Option.some.inj h
      exact finC [(4, .v .nl), (5, .v (.int .i64 x3549))] [(4, .v (.lst false 0 [])), (5, .v (.int .i64 x3549))] (by simp [leE, lk_cons]) (.cons _ _ _ _ _ (.v _ _ (.nl false)) (.cons _ _ _ _ _ (.v _ _ (.refl _)) .nil)) (by rfl) (by simp [leE, lk_cons]) (by decide) (by decide) rfl (by simp only [go_sem, qa, qb, qc, qd, qe, qf, qg, qh, qi, qj, qk, ↓reduceIte, resQ_tmp, resQ_cell, resQ_nil, retD_one, retD_two, retD_three, retD_none]; try simp [R.val, retD_one, retD_two, retD_three, retD_none])
    · have hh := bnd'_some h; clear h; obtain ⟨⟨p3552, c3554, c3555⟩, h3553, h⟩ := hh
      (try dsimp only at h)
      refine W_sound tab_ok mixed 26 _ _ _ ?_
      simp -implicitDefEqProofs only [go_sem, qa, qb, qc, qd, qe, qf, qg, qh, qi, qj, qk, ↓reduceIte, h3543, h3551]
      repeat with_reducible refine ⟨by first | kernel_rfl | decide, ?_⟩
      refine Wp_callD [13, 35] (c64 N _ _ _ _ _ h3553) rfl rfl rfl (by first | rfl | (simp only [go_sem, qa, qb, qc, qd, qe, qf, qg, qh, qi, qj, qk, ↓reduceIte, h3543, h3551] <;> rfl)) rfl (by kernel_rfl) ?_
      have hh := getT0_some h; clear h; obtain ⟨h3556, h⟩ := hh
      have hh := grd_some h; clear h; obtain ⟨g3557, h⟩ := hh
      have hh := bnd'_some h; clear h; obtain ⟨p3558, h3559, h⟩ := hh
      refine W_sound tab_ok mixed 8 _ _ _ ?_
      simp -implicitDefEqProofs only [go_sem, qa, qb, qc, qd, qe, qf, qg, qh, qi, qj, qk, ↓reduceIte, h3543, h3551, h3556, g3557]
      repeat with_reducible refine ⟨by first | kernel_rfl | decide, ?_⟩
      refine Wp_callP (c65 N _ _ _ h3559) (by kernel_rfl) rfl rfl rfl rfl (by decide) ?_
      have hh := getL_some h; clear h; obtain ⟨n3561, c3562, h3560, h⟩ := hh
      refine W_sound tab_ok mixed 5 _ _ _ ?_
      simp -implicitDefEqProofs only [go_sem, qa, qb, qc, qd, qe, qf, qg, qh, qi, qj, qk, ↓reduceIte, h3543, h3551, h3556, g3557, h3560]
      repeat with_reducible refine ⟨by first | kernel_rfl | decide, ?_⟩
      obtain rfl := Option.some.inj h
      exact finC [(4, .v (.lst false n3561 c3562)), (5, .v (.int .i64 0))] [(4, .v (.lst false n3561 c3562)), (5, .v (.int .i64 0))] (by simp [leE, lk_cons]) (.cons _ _ _ _ _ (.v _ _ (.refl _)) (.cons _ _ _ _ _ (.v _ _ (.refl _)) .nil)) (by rfl) (by simp [leE, lk_cons]) (by decide) (by decide) rfl (by simp only [go_sem, qa, qb, qc, qd, qe, qf, qg, qh, qi, qj, qk, ↓reduceIte, resQ_tmp, resQ_cell, resQ_nil, retD_one, retD_two, retD_three, retD_none]; try simp [R.val, retD_one, retD_two, retD_three, retD_none])
noncomputable def m30 (N : Nat) (x3573 : Int) (p3574 : PV) : Option (PV) :=
  getL p3574 fun n3576 c3577 =>
  bnd' (m24 N x3573 (.lst false n3576 c3577)) fun p3578 =>
  getI .i64 p3578 fun x3581 =>
  brn (x3581 != 0) (
    some (.tup [(.lst false 0 []), (.int .i64 x3581)])) (
    bnd' (m70 N x3573 (.lst false n3576 c3577)) fun p3583 =>
    getL p3583 fun n3586 c3587 =>
    some (.tup [(.lst false n3586 c3587), (.int .i64 0)]))
theorem c30 (N : Nat) (x3573 : Int) (p3574 : PV) (r : PV)  (h : m30 N x3573 p3574 = some r) : FnP Tryd.prog 30 [(.int .i64 x3573), p3574] r := by
  unfold m30 at h
  refine Fn_of (sz := 16) tab_ok [0, 1, 4, 5, 6, 11] [.tmp 4, .tmp 5] Tryd.func30 rfl rfl rfl (by simp) ?_
  simp only [initSt, initEnv, List.map_cons, List.map_nil, List.getD_cons_zero, List.getD_cons_succ, List.getD_nil]
  have hh := getL_some h; clear h; obtain ⟨n3576, c3577, h3575, h⟩ := hh
  have hh := bnd'_some h; clear h; obtain ⟨p3578, h3579, h⟩ := hh
  refine W_sound tab_ok mixed 9 _ _ _ ?_
  simp -implicitDefEqProofs only [go_sem, qa, qb, qc, qd, qe, qf, qg, qh, qi, qj, qk, ↓reduceIte, h3575]
  repeat with_reducible refine ⟨by first | kernel_rfl | decide, ?_⟩
  refine Wp_callP (c24 N _ _ _ h3579) (by kernel_rfl) rfl rfl rfl rfl (by decide) ?_
  have hh := getI_some h; clear h; obtain ⟨x3581, h3580, h⟩ := hh
  have hh := brn_some h; clear h; rcases hh with ⟨h3582, h⟩ | ⟨h3582, h⟩
  · refine W_sound tab_ok mixed 17 _ _ _ ?_
    simp -implicitDefEqProofs only [go_sem, qa, qb, qc, qd, qe, qf, qg, qh, qi, qj, qk, ↓reduceIte, h3575, h3580, h3582]
    repeat with_reducible refine ⟨by first | kernel_rfl | decide, ?_⟩
    obtain rfl := Option.some.inj h
    exact finC [(4, .v .nl), (5, .v (.int .i64 x3581))] [(4, .v (.lst false 0 [])), (5, .v (.int .i64 x3581))] (by simp [leE, lk_cons]) (.cons _ _ _ _ _ (.v _ _ (.nl false)) (.cons _ _ _ _ _ (.v _ _ (.refl _)) .nil)) (by rfl) (by simp [leE, lk_cons]) (by decide) (by decide) rfl (by simp only [go_sem, qa, qb, qc, qd, qe, qf, qg, qh, qi, qj, qk, ↓reduceIte, resQ_tmp, resQ_cell, resQ_nil, retD_one, retD_two, retD_three, retD_none]; try simp [R.val, retD_one, retD_two, retD_three, retD_none])
  · have hh := bnd'_some h; clear h; obtain ⟨p3583, h3584, h⟩ := hh
    refine W_sound tab_ok mixed 14 _ _ _ ?_
    simp -implicitDefEqProofs only [go_sem, qa, qb, qc, qd, qe, qf, qg, qh, qi, qj, qk, ↓reduceIte, h3575, h3580, h3582]
    repeat with_reducible refine ⟨by first | kernel_rfl | decide, ?_⟩
    refine Wp_callP (c70 N _ _ _ h3584) (by kernel_rfl) rfl rfl rfl rfl (by decide) ?_
    have hh := getL_some h; clear h; obtain ⟨n3586, c3587, h3585, h⟩ := hh
    refine W_sound tab_ok mixed 5 _ _ _ ?_
    simp -implicitDefEqProofs only [go_sem, qa, qb, qc, qd, qe, qf, qg, qh, qi, qj, qk, ↓reduceIte, h3575, h3580, h3582, h3585]
    repeat with_reducible refine ⟨by first | kernel_rfl | decide, ?_⟩
    obtain rfl := Option.some.inj h
    exact finC [(4, .v (.lst false n3586 c3587)), (5, .v (.int .i64 0))] [(4, .v (.lst false n3586 c3587)), (5, .v (.int .i64 0))] (by simp [leE, lk_cons]) (.cons _ _ _ _ _ (.v _ _ (.refl _)) (.cons _ _ _ _ _ (.v _ _ (.refl _)) .nil)) (by rfl) (by simp [leE, lk_cons]) (by decide) (by decide) rfl (by simp only [go_sem, qa, qb, qc, qd, qe, qf, qg, qh, qi, qj, qk, ↓reduceIte, resQ_tmp, resQ_cell, resQ_nil, retD_one, retD_two, retD_three, retD_none]; try simp [R.val, retD_one, retD_two, retD_three, retD_none])
noncomputable def m31_L1 (N : Nat) (x3598 : Int) (x3629 : Int) : Nat → Int → List PV → Option (List PV)
  | 0, _, _ => none
  | n + 1, x3643, c3644 =>
    brn (decide (x3643 < x3598)) (
      brn (decide ((IntKind.i64.wrap (x3629 + x3643)) ≥ x3598)) (
        bnd' (m72 N x3629 x3643 (IntKind.i64.wrap ((IntKind.i64.wrap (x3629 + x3643)) - x3598)) c3644) fun (p3647, c3649) =>
        getT0 p3647 <|
        m31_L1 N x3598 x3629 n (IntKind.i64.wrap (x3643 + 1)) c3649) (
        bnd' (m72 N x3629 x3643 (IntKind.i64.wrap (x3629 + x3643)) c3644) fun (p3651, c3653) =>
        getT0 p3651 <|
        m31_L1 N x3598 x3629 n (IntKind.i64.wrap (x3643 + 1)) c3653)) (
      some c3644)
noncomputable def m31_L0 (N : Nat) (x3598 : Int) : Nat → Int → List PV → Option (List PV)
  | 0, _, _ => none
  | n + 1, x3629, c3630 =>
    brn (decide (x3629 < x3598)) (
      bnd' (m31_L1 N x3598 x3629 N 0 c3630) fun c3655 =>
      m31_L0 N x3598 n (IntKind.i64.wrap (x3629 + 1)) c3655) (
      some c3630)
noncomputable def m31 (N : Nat) (x3598 : Int) : Option (PV) :=
  brn (decide (x3598 < 1)) (
    some (.tup [(.lst false 0 []), (.int .i64 1)])) (
    brn (decide (x3598 > 5)) (
      some (.tup [(.lst false 0 []), (.int .i64 1)])) (
      bnd' (m71 N x3598) fun o =>
      match o with
      | c3602 =>
        bnd' (m31_L0 N x3598 N 0 c3602) fun c3656 =>
        grd (26 ≤ List.length c3656) <|
        bnd' (m65 N (.agg (List.take 25 (List.drop 1 c3656))) x3598) fun p3658 =>
        getL p3658 fun n3661 c3662 =>
        some (.tup [(.lst false n3661 c3662), (.int .i64 0)])))
theorem c31 (N : Nat) (x3598 : Int) (r : PV)  (h : m31 N x3598 = some r) : FnP Tryd.prog 31 [(.int .i64 x3598)] r := by
  unfold m31 at h
  refine Fn_of (sz := 46) tab_ok [0, 2, 3, 4, 5, 6, 7, 13, 16, 17, 18, 20, 21, 22, 29] [.tmp 2, .tmp 3] Tryd.func31 rfl rfl rfl (by simp) ?_
  simp only [initSt, initEnv, List.map_cons, List.map_nil, List.getD_cons_zero, List.getD_cons_succ, List.getD_nil]
  have hh := brn_some h; clear h; rcases hh with ⟨h3599, h⟩ | ⟨h3599, h⟩
  · refine W_sound tab_ok mixed 23 _ _ _ ?_
    simp -implicitDefEqProofs only [go_sem, qa, qb, qc, qd, qe, qf, qg, qh, qi, qj, qk, ↓reduceIte, h3599]
    repeat with_reducible refine ⟨by first | kernel_rfl | decide, ?_⟩
    obtain rfl := Option.some.inj h
    exact finC [(2, .v .nl), (3, .v (.int .i64 1))] [(2, .v (.lst false 0 [])), (3, .v (.int .i64 1))] (by simp [leE, lk_cons]) (.cons _ _ _ _ _ (.v _ _ (.nl false)) (.cons _ _ _ _ _ (.v _ _ (.refl _)) .nil)) (by rfl) (by simp [leE, lk_cons]) (by decide) (by decide) rfl (by simp only [go_sem, qa, qb, qc, qd, qe, qf, qg, qh, qi, qj, qk, ↓reduceIte, resQ_tmp, resQ_cell, resQ_nil, retD_one, retD_two, retD_three, retD_none]; try simp [R.val, retD_one, retD_two, retD_three, retD_none])
  · have hh := brn_some h; clear h; rcases hh with ⟨h3600, h⟩ | ⟨h3600, h⟩
    · refine W_sound tab_ok mixed 23 _ _ _ ?_
      simp -implicitDefEqProofs only [go_sem, qa, qb, qc, qd, qe, qf, qg, qh, qi, qj, qk, ↓reduceIte, h3599, h3600]
      repeat with_reducible refine ⟨by first | kernel_rfl | decide, ?_⟩
      obtain rfl := Option.some.inj h
      exact finC [(2, .v .nl), (3, .v (.int .i64 1))] [(2, .v (.lst false 0 [])), (3, .v (.int .i64 1))] (by simp [leE, lk_cons]) (.cons _ _ _ _ _ (.v _ _ (.nl false)) (.cons _ _ _ _ _ (.v _ _ (.refl _)) .nil)) (by rfl) (by simp [leE, lk_cons]) (by decide) (by decide) rfl (by simp only [go_sem, qa, qb, qc, qd, qe, qf, qg, qh, qi, qj, qk, ↓reduceIte, resQ_tmp, resQ_cell, resQ_nil, retD_one, retD_two, retD_three, retD_none]; try simp [R.val, retD_one, retD_two, retD_three, retD_none])
    · have hh := bnd'_some h; clear h; obtain ⟨c3602, h3601, h⟩ := hh
      (try dsimp only at h)
      refine W_sound tab_ok mixed 20 _ _ _ ?_
      simp -implicitDefEqProofs only [go_sem, qa, qb, qc, qd, qe, qf, qg, qh, qi, qj, qk, ↓reduceIte, h3599, h3600]
      repeat with_reducible refine ⟨by first | kernel_rfl | decide, ?_⟩
      refine Wp_callD [] (c71_a N _ _ h3601) rfl rfl rfl (by first | rfl | (simp only [go_sem, qa, qb, qc, qd, qe, qf, qg, qh, qi, qj, qk, ↓reduceIte, h3599, h3600] <;> rfl)) rfl (by kernel_rfl) ?_
      refine W_sound tab_ok mixed 8 _ _ _ ?_
      simp -implicitDefEqProofs only [go_sem, qa, qb, qc, qd, qe, qf, qg, qh, qi, qj, qk, ↓reduceIte, h3599, h3600]
      repeat with_reducible refine ⟨by first | kernel_rfl | decide, ?_⟩
      have hh := bnd'_some h; clear h; obtain ⟨o3663, h3664, h3665⟩ := hh
      refine Wp_cut (fun s => ∃ c3656, c3656 = o3663 ∧ s = ⟨[], [(0, .v (.int .i64 x3598)), (2, .dead), (3, .dead), (4, .ptr 0 0), (5, .dead), (6, .dead), (7, .dead), (13, .dead), (16, .dead), (17, .dead), (18, .dead), (20, .dead), (21, .dead), (22, .dead), (29, .dead)], [(0, .p c3656)], 1, []⟩) ?_ ?_
      · refine Wp_block ?_
        refine Wp_loopG (fun n s => ∃ x3629, ∃ c3630, m31_L0 N x3598 n x3629 c3630 = some o3663 ∧ s = ⟨[], [(0, .v (.int .i64 x3598)), (2, .dead), (3, .dead), (4, .ptr 0 0), (5, .dead), (6, .dead), (7, .dead), (13, .dead), (16, .v (.int .i64 x3598)), (17, .v (.int .i64 x3629)), (18, .dead), (20, .dead), (21, .dead), (22, .dead), (29, .dead)], [(0, .p c3630)], 1, []⟩) N _ ((Wk_le (.r (.k (.k (.r (.r (.r (.r (.k (.r (.r (.r (.r (.r (.r (.r .nil))))))))))))))) (OLe.refl _)).trans (cmpS_ok (st' := ⟨[], [(0, .v (.int .i64 x3598)), (2, .dead), (3, .dead), (4, .ptr 0 0), (5, .dead), (6, .dead), (7, .dead), (13, .dead), (16, .v (.int .i64 x3598)), (17, .v (.int .i64 0)), (18, .dead), (20, .dead), (21, .dead), (22, .dead), (29, .dead)], [(0, .p c3602)], 1, []⟩) (by kernel_rfl))) ⟨_, _, h3664, rfl⟩ ?_
        clear h3664
        rintro n _ ⟨x3629, c3630, h3664, rfl⟩
        cases n with
        | zero => cases h3664
        | succ n =>
          rw [m31_L0] at h3664
          have hh := brn_some h3664; clear h3664; rcases hh with ⟨h3631, h3664⟩ | ⟨h3631, h3664⟩
          · refine W_sound tab_ok mixed 19 _ _ _ ?_
            simp -implicitDefEqProofs only [go_sem, qa, qb, qc, qd, qe, qf, qg, qh, qi, qj, qk, ↓reduceIte, h3599, h3600, h3631]
            repeat with_reducible refine ⟨by first | kernel_rfl | decide, ?_⟩
            have hh := bnd'_some h3664; clear h3664; obtain ⟨o3666, h3667, h3668⟩ := hh
            refine Wp_cut (fun s => ∃ c3655, c3655 = o3666 ∧ s = ⟨[], [(0, .v (.int .i64 x3598)), (2, .dead), (3, .dead), (4, .ptr 0 0), (5, .dead), (6, .dead), (7, .dead), (13, .dead), (16, .v (.int .i64 x3598)), (17, .v (.int .i64 x3629)), (18, .dead), (20, .dead), (21, .dead), (22, .dead), (29, .dead)], [(0, .p c3655)], 1, []⟩) ?_ ?_
            · refine Wp_block ?_
              refine Wp_loopG (fun n s => ∃ x3643, ∃ c3644, m31_L1 N x3598 x3629 n x3643 c3644 = some o3666 ∧ s = ⟨[], [(0, .v (.int .i64 x3598)), (2, .dead), (3, .dead), (4, .ptr 0 0), (5, .v (.int .i64 x3629)), (6, .dead), (7, .dead), (13, .dead), (16, .v (.int .i64 x3598)), (17, .v (.int .i64 x3629)), (18, .dead), (20, .v (.int .i64 x3598)), (21, .v (.int .i64 x3643)), (22, .dead), (29, .dead)], [(0, .p c3644)], 1, []⟩) N _ ((Wk_le (.r (.r (.r (.r (.r (.r (.r (.r (.r (.r (.k (.r (.r (.r (.r .nil))))))))))))))) (OLe.refl _)).trans (cmpS_ok (st' := ⟨[], [(0, .v (.int .i64 x3598)), (2, .dead), (3, .dead), (4, .ptr 0 0), (5, .v (.int .i64 x3629)), (6, .dead), (7, .dead), (13, .dead), (16, .v (.int .i64 x3598)), (17, .v (.int .i64 x3629)), (18, .dead), (20, .v (.int .i64 x3598)), (21, .v (.int .i64 0)), (22, .dead), (29, .dead)], [(0, .p c3630)], 1, []⟩) (by kernel_rfl))) ⟨_, _, h3667, rfl⟩ ?_
              clear h3667
              rintro n _ ⟨x3643, c3644, h3667, rfl⟩
              cases n with
              | zero => cases h3667
              | succ n =>
                rw [m31_L1] at h3667
                have hh := brn_some h3667; clear h3667; rcases hh with ⟨h3645, h3667⟩ | ⟨h3645, h3667⟩
                · have hh := brn_some h3667; clear h3667; rcases hh with ⟨h3646, h3667⟩ | ⟨h3646, h3667⟩
                  · have hh := bnd'_some h3667; clear h3667; obtain ⟨⟨p3647, c3649⟩, h3648, h3667⟩ := hh
                    (try dsimp only at h3667)
                    refine W_sound tab_ok mixed 40 _ _ _ ?_
                    simp -implicitDefEqProofs only [go_sem, qa, qb, qc, qd, qe, qf, qg, qh, qi, qj, qk, ↓reduceIte, h3599, h3600, h3631, h3645, h3646]
                    repeat with_reducible refine ⟨by first | kernel_rfl | decide, ?_⟩
                    refine Wp_callD [0] (c72 N _ _ _ _ _ _ h3648) rfl rfl rfl (by first | rfl | (simp only [go_sem, qa, qb, qc, qd, qe, qf, qg, qh, qi, qj, qk, ↓reduceIte, h3599, h3600, h3631, h3645, h3646] <;> rfl)) rfl (by kernel_rfl) ?_
                    have hh := getT0_some h3667; clear h3667; obtain ⟨h3650, h3667⟩ := hh
                    refine W_sound tab_ok mixed 6 _ _ _ ?_
                    simp -implicitDefEqProofs only [go_sem, qa, qb, qc, qd, qe, qf, qg, qh, qi, qj, qk, ↓reduceIte, h3599, h3600, h3631, h3645, h3646, h3650]
                    repeat with_reducible refine ⟨by first | kernel_rfl | decide, ?_⟩
                    exact cutQ _ ((Wk_le (.r (.r (.r (.r (.r (.k (.k (.r (.r (.r (.r (.r (.r (.k (.k .nil))))))))))))))) (OLe.refl _)).trans (cmpS_ok (st' := ⟨[], [(0, .v (.int .i64 x3598)), (2, .dead), (3, .dead), (4, .ptr 0 0), (5, .v (.int .i64 x3629)), (6, .dead), (7, .dead), (13, .dead), (16, .v (.int .i64 x3598)), (17, .v (.int .i64 x3629)), (18, .dead), (20, .v (.int .i64 x3598)), (21, .v (.int .i64 (IntKind.i64.wrap (x3643 + 1)))), (22, .dead), (29, .dead)], [(0, .p c3649)], 1, []⟩) (by kernel_rfl))) ⟨n, Nat.lt_succ_self n, _, _, h3667, rfl⟩
                  · have hh := bnd'_some h3667; clear h3667; obtain ⟨⟨p3651, c3653⟩, h3652, h3667⟩ := hh
                    (try dsimp only at h3667)
                    refine W_sound tab_ok mixed 35 _ _ _ ?_
                    simp -implicitDefEqProofs only [go_sem, qa, qb, qc, qd, qe, qf, qg, qh, qi, qj, qk, ↓reduceIte, h3599, h3600, h3631, h3645, h3646]
                    repeat with_reducible refine ⟨by first | kernel_rfl | decide, ?_⟩
                    refine Wp_callD [0] (c72 N _ _ _ _ _ _ h3652) rfl rfl rfl (by first | rfl | (simp only [go_sem, qa, qb, qc, qd, qe, qf, qg, qh, qi, qj, qk, ↓reduceIte, h3599, h3600, h3631, h3645, h3646] <;> rfl)) rfl (by kernel_rfl) ?_
                    have hh := getT0_some h3667; clear h3667; obtain ⟨h3654, h3667⟩ := hh
                    refine W_sound tab_ok mixed 6 _ _ _ ?_
                    simp -implicitDefEqProofs only [go_sem, qa, qb, qc, qd, qe, qf, qg, qh, qi, qj, qk, ↓reduceIte, h3599, h3600, h3631, h3645, h3646, h3654]
                    repeat with_reducible refine ⟨by first | kernel_rfl | decide, ?_⟩
                    exact cutQ _ ((Wk_le (.r (.r (.r (.r (.r (.k (.k (.r (.r (.r (.r (.r (.r (.k (.k .nil))))))))))))))) (OLe.refl _)).trans (cmpS_ok (st' := ⟨[], [(0, .v (.int .i64 x3598)), (2, .dead), (3, .dead), (4, .ptr 0 0), (5, .v (.int .i64 x3629)), (6, .dead), (7, .dead), (13, .dead), (16, .v (.int .i64 x3598)), (17, .v (.int .i64 x3629)), (18, .dead), (20, .v (.int .i64 x3598)), (21, .v (.int .i64 (IntKind.i64.wrap (x3643 + 1)))), (22, .dead), (29, .dead)], [(0, .p c3653)], 1, []⟩) (by kernel_rfl))) ⟨n, Nat.lt_succ_self n, _, _, h3667, rfl⟩
                · refine W_sound tab_ok mixed 7 _ _ _ ?_
                  simp -implicitDefEqProofs only [go_sem, qa, qb, qc, qd, qe, qf, qg, qh, qi, qj, qk, ↓reduceIte, h3599, h3600, h3631, h3645]
                  repeat with_reducible refine ⟨by first | kernel_rfl | decide, ?_⟩
                  obtain rfl := Option.some.inj h3667
                  exact cutQ _ ((Wk_le (.r (.r (.r (.r (.k (.r (.r (.r (.r (.r (.r (.k (.k (.k (.r .nil))))))))))))))) (OLe.refl _)).trans (cmpS_ok (st' := ⟨[], [(0, .v (.int .i64 x3598)), (2, .dead), (3, .dead), (4, .ptr 0 0), (5, .dead), (6, .dead), (7, .dead), (13, .dead), (16, .v (.int .i64 x3598)), (17, .v (.int .i64 x3629)), (18, .dead), (20, .dead), (21, .dead), (22, .dead), (29, .dead)], [(0, .p c3644)], 1, []⟩) (by kernel_rfl))) ⟨_, rfl, rfl⟩
            · rintro _ ⟨c3655, rfl, rfl⟩
              refine W_sound tab_ok mixed 5 _ _ _ ?_
              simp -implicitDefEqProofs only [go_sem, qa, qb, qc, qd, qe, qf, qg, qh, qi, qj, qk, ↓reduceIte, h3599, h3600, h3631]
              repeat with_reducible refine ⟨by first | kernel_rfl | decide, ?_⟩
              exact cutQ _ ((Wk_le (.r (.r (.r (.r (.r (.r (.r (.r (.r (.r (.r (.r (.r (.r (.r .nil))))))))))))))) (OLe.refl _)).trans (cmpS_ok (st' := ⟨[], [(0, .v (.int .i64 x3598)), (2, .dead), (3, .dead), (4, .ptr 0 0), (5, .dead), (6, .dead), (7, .dead), (13, .dead), (16, .v (.int .i64 x3598)), (17, .v (.int .i64 (IntKind.i64.wrap (x3629 + 1)))), (18, .dead), (20, .dead), (21, .dead), (22, .dead), (29, .dead)], [(0, .p c3655)], 1, []⟩) (by kernel_rfl))) ⟨n, Nat.lt_succ_self n, _, _, h3668, rfl⟩
          · refine W_sound tab_ok mixed 7 _ _ _ ?_
            simp -implicitDefEqProofs only [go_sem, qa, qb, qc, qd, qe, qf, qg, qh, qi, qj, qk, ↓reduceIte, h3599, h3600, h3631]
            repeat with_reducible refine ⟨by first | kernel_rfl | decide, ?_⟩
            obtain rfl := Option.some.inj h3664
            exact cutQ _ ((Wk_le (.r (.r (.r (.r (.r (.r (.r (.r (.k (.k (.k (.r (.r (.r (.r .nil))))))))))))))) (OLe.refl _)).trans (cmpS_ok (st' := ⟨[], [(0, .v (.int .i64 x3598)), (2, .dead), (3, .dead), (4, .ptr 0 0), (5, .dead), (6, .dead), (7, .dead), (13, .dead), (16, .dead), (17, .dead), (18, .dead), (20, .dead), (21, .dead), (22, .dead), (29, .dead)], [(0, .p c3630)], 1, []⟩) (by kernel_rfl))) ⟨_, rfl, rfl⟩
      · rintro _ ⟨c3656, rfl, rfl⟩
        have hh := grd_some h3665; clear h3665; obtain ⟨g3657, h3665⟩ := hh
        have hh := bnd'_some h3665; clear h3665; obtain ⟨p3658, h3659, h3665⟩ := hh
        refine W_sound tab_ok mixed 7 _ _ _ ?_
        simp -implicitDefEqProofs only [go_sem, qa, qb, qc, qd, qe, qf, qg, qh, qi, qj, qk, ↓reduceIte, h3599, h3600, g3657]
        repeat with_reducible refine ⟨by first | kernel_rfl | decide, ?_⟩
        refine Wp_callP (c65 N _ _ _ h3659) (by kernel_rfl) rfl rfl rfl rfl (by decide) ?_
        have hh := getL_some h3665; clear h3665; obtain ⟨n3661, c3662, h3660, h3665⟩ := hh
        refine W_sound tab_ok mixed 5 _ _ _ ?_
        simp -implicitDefEqProofs only [go_sem, qa, qb, qc, qd, qe, qf, qg, qh, qi, qj, qk, ↓reduceIte, h3599, h3600, g3657, h3660]
        repeat with_reducible refine ⟨by first | kernel_rfl | decide, ?_⟩
        obtain rfl := Option.some.inj h3665
        exact finC [(2, .v (.lst false n3661 c3662)), (3, .v (.int .i64 0))] [(2, .v (.lst false n3661 c3662)), (3, .v (.int .i64 0))] (by simp [leE, lk_cons]) (.cons _ _ _ _ _ (.v _ _ (.refl _)) (.cons _ _ _ _ _ (.v _ _ (.refl _)) .nil)) (by rfl) (by simp [leE, lk_cons]) (by decide) (by decide) rfl (by simp only [go_sem, qa, qb, qc, qd, qe, qf, qg, qh, qi, qj, qk, ↓reduceIte, resQ_tmp, resQ_cell, resQ_nil, retD_one, retD_two, retD_three, retD_none]; try simp [R.val, retD_one, retD_two, retD_three, retD_none])
noncomputable def m32_L1 (N : Nat) (x3679 : Int) (n3721 : Nat) (x3722 : Int) (c3723 : List PV) : Nat → Nat → Int → List PV → Option ((Nat × List PV))
  | 0, _, _, _ => none
  | n + 1, n3731, x3732, c3733 =>
    brn (decide (x3732 < x3679)) (
      grd (x3679 ≠ 0) <|
      grd ((n3731 + 1) ≤ 1099511627776) <|
      grd (List.length c3733 = n3731) <|
      m32_L1 N x3679 n3721 x3722 c3723 n (n3731 + 1) (IntKind.i64.wrap (x3732 + 1)) (c3733 ++ [(.int .i64 (Int.tmod (IntKind.i64.wrap (x3722 + x3732)) x3679))])) (
      some (n3731, c3733))
noncomputable def m32_L0 (N : Nat) (x3679 : Int) : Nat → Nat → Int → List PV → Option ((Nat × List PV))
  | 0, _, _, _ => none
  | n + 1, n3721, x3722, c3723 =>
    brn (decide (x3722 < x3679)) (
      bnd' (m32_L1 N x3679 n3721 x3722 c3723 N 0 0 []) fun o =>
      match o with
      | (n3738, c3739) =>
        grd ((n3721 + 1) ≤ 1099511627776) <|
        grd (List.length c3723 = n3721) <|
        grd (List.length c3739 = n3738) <|
        m32_L0 N x3679 n (n3721 + 1) (IntKind.i64.wrap (x3722 + 1)) (c3723 ++ [(.lst false n3738 c3739)])) (
      some (n3721, c3723))
noncomputable def m32 (N : Nat) (x3679 : Int) : Option (PV) :=
  bnd' (m73 N x3679 1 5) fun p3680 =>
  getB p3680 fun b3683 =>
  brn b3683 (
    bnd' (m32_L0 N x3679 N 0 0 []) fun o =>
    match o with
    | (n3743, c3744) =>
      grd (List.length c3744 = n3743) <|
      some (.tup [(.lst false n3743 c3744), (.int .i64 0)])) (
    some (.tup [(.lst false 0 []), (.int .i64 1)]))
theorem c32 (N : Nat) (x3679 : Int) (r : PV)  (h : m32 N x3679 = some r) : FnP Tryd.prog 32 [(.int .i64 x3679)] r := by
  unfold m32 at h
  refine Fn_of (sz := 34) tab_ok [0, 2, 3, 4, 5, 6, 7, 10, 13, 18] [.tmp 2, .tmp 3] Tryd.func32 rfl rfl rfl (by simp) ?_
  simp only [initSt, initEnv, List.map_cons, List.map_nil, List.getD_cons_zero, List.getD_cons_succ, List.getD_nil]
  have hh := bnd'_some h; clear h; obtain ⟨p3680, h3681, h⟩ := hh
  refine W_sound tab_ok mixed 9 _ _ _ ?_
  simp -implicitDefEqProofs only [go_sem, qa, qb, qc, qd, qe, qf, qg, qh, qi, qj, qk, ↓reduceIte]
  repeat with_reducible refine ⟨by first | kernel_rfl | decide, ?_⟩
  refine Wp_callP (c73 N _ _ _ _ h3681) (by kernel_rfl) rfl rfl rfl rfl (by decide) ?_
  have hh := getB_some h; clear h; obtain ⟨b3683, h3682, h⟩ := hh
  have hh := brn_some h; clear h; rcases hh with ⟨h3684, h⟩ | ⟨h3684, h⟩
  · refine W_sound tab_ok mixed 13 _ _ _ ?_
    simp -implicitDefEqProofs only [go_sem, qa, qb, qc, qd, qe, qf, qg, qh, qi, qj, qk, ↓reduceIte, h3682, h3684]
    repeat with_reducible refine ⟨by first | kernel_rfl | decide, ?_⟩
    refine Wp_weaken (Wk_ownS 4 1 rfl (by decide) (by decide)) ?_
    simp -implicitDefEqProofs only [go_sem, qa, qb, qc, qd, qe, qf, qg, qh, qi, qj, qk, ↓reduceIte, h3682, h3684]
    have hh := bnd'_some h; clear h; obtain ⟨o3746, h3747, h3748⟩ := hh
    refine Wp_cut (fun s => ∃ n3743, ∃ c3744, (n3743, c3744) = o3746 ∧ s = ⟨[], [(0, .dead), (2, .dead), (3, .dead), (4, .sl false 0 0 n3743 1), (5, .dead), (6, .dead), (7, .dead), (10, .dead), (13, .dead), (18, .dead)], [(0, .p c3744)], 1, []⟩) ?_ ?_
    · refine Wp_block ?_
      refine Wp_loopG (fun n s => ∃ n3721, ∃ x3722, ∃ c3723, m32_L0 N x3679 n n3721 x3722 c3723 = some o3746 ∧ s = ⟨[], [(0, .v (.int .i64 x3679)), (2, .dead), (3, .dead), (4, .sl false 0 0 n3721 1), (5, .v (.int .i64 x3722)), (6, .dead), (7, .dead), (10, .dead), (13, .dead), (18, .dead)], [(0, .p c3723)], 1, []⟩) N _ ((Wk_le (.r (.k (.k (.r (.r (.r (.r (.k (.r (.r .nil)))))))))) (OLe.refl _)).trans (cmpS_ok (st' := ⟨[], [(0, .v (.int .i64 x3679)), (2, .dead), (3, .dead), (4, .sl false 0 0 0 1), (5, .v (.int .i64 0)), (6, .dead), (7, .dead), (10, .dead), (13, .dead), (18, .dead)], [(0, .p [])], 1, []⟩) (by kernel_rfl))) ⟨_, _, _, h3747, rfl⟩ ?_
      clear h3747
      rintro n _ ⟨n3721, x3722, c3723, h3747, rfl⟩
      cases n with
      | zero => cases h3747
      | succ n =>
        rw [m32_L0] at h3747
        have hh := brn_some h3747; clear h3747; rcases hh with ⟨h3724, h3747⟩ | ⟨h3724, h3747⟩
        · refine W_sound tab_ok mixed 20 _ _ _ ?_
          simp -implicitDefEqProofs only [go_sem, qa, qb, qc, qd, qe, qf, qg, qh, qi, qj, qk, ↓reduceIte, h3682, h3684, h3724]
          repeat with_reducible refine ⟨by first | kernel_rfl | decide, ?_⟩
          refine Wp_weaken (Wk_ownS 6 1 rfl (by decide) (by decide)) ?_
          simp -implicitDefEqProofs only [go_sem, qa, qb, qc, qd, qe, qf, qg, qh, qi, qj, qk, ↓reduceIte, h3682, h3684, h3724]
          have hh := bnd'_some h3747; clear h3747; obtain ⟨o3749, h3750, h3751⟩ := hh
          refine Wp_cut (fun s => ∃ n3738, ∃ c3739, (n3738, c3739) = o3749 ∧ s = ⟨[], [(0, .v (.int .i64 x3679)), (2, .dead), (3, .dead), (4, .sl false 0 0 n3721 1), (5, .v (.int .i64 x3722)), (6, .sl false 1 0 n3738 1), (7, .dead), (10, .dead), (13, .dead), (18, .dead)], [(0, .p c3723), (1, .p c3739)], 2, []⟩) ?_ ?_
          · refine Wp_block ?_
            refine Wp_loopG (fun n s => ∃ n3731, ∃ x3732, ∃ c3733, m32_L1 N x3679 n3721 x3722 c3723 n n3731 x3732 c3733 = some o3749 ∧ s = ⟨[], [(0, .v (.int .i64 x3679)), (2, .dead), (3, .dead), (4, .sl false 0 0 n3721 1), (5, .v (.int .i64 x3722)), (6, .sl false 1 0 n3731 1), (7, .v (.int .i64 x3732)), (10, .dead), (13, .dead), (18, .dead)], [(0, .p c3723), (1, .p c3733)], 2, []⟩) N _ ((Wk_le (.r (.r (.r (.r (.r (.r (.r (.r (.k (.r .nil)))))))))) (OLe.refl _)).trans (cmpS_ok (st' := ⟨[], [(0, .v (.int .i64 x3679)), (2, .dead), (3, .dead), (4, .sl false 0 0 n3721 1), (5, .v (.int .i64 x3722)), (6, .sl false 1 0 0 1), (7, .v (.int .i64 0)), (10, .dead), (13, .dead), (18, .dead)], [(0, .p c3723), (1, .p [])], 2, []⟩) (by kernel_rfl))) ⟨_, _, _, h3750, rfl⟩ ?_
            clear h3750
            rintro n _ ⟨n3731, x3732, c3733, h3750, rfl⟩
            cases n with
            | zero => cases h3750
            | succ n =>
              rw [m32_L1] at h3750
              have hh := brn_some h3750; clear h3750; rcases hh with ⟨h3734, h3750⟩ | ⟨h3734, h3750⟩
              · have hh := grd_some h3750; clear h3750; obtain ⟨g3735, h3750⟩ := hh
                have hh := grd_some h3750; clear h3750; obtain ⟨g3736, h3750⟩ := hh
                have hh := grd_some h3750; clear h3750; obtain ⟨g3737, h3750⟩ := hh
                refine W_sound tab_ok mixed 28 _ _ _ ?_
                simp -implicitDefEqProofs only [go_sem, qa, qb, qc, qd, qe, qf, qg, qh, qi, qj, qk, ↓reduceIte, h3682, h3684, h3724, h3734, g3735, g3736, g3737]
                repeat with_reducible refine ⟨by first | kernel_rfl | decide, ?_⟩
                exact cutQ _ ((Wk_le (.r (.r (.r (.r (.r (.r (.r (.r (.r (.k .nil)))))))))) (OLe.refl _)).trans (cmpS_ok (st' := ⟨[], [(0, .v (.int .i64 x3679)), (2, .dead), (3, .dead), (4, .sl false 0 0 n3721 1), (5, .v (.int .i64 x3722)), (6, .sl false 1 0 (n3731 + 1) 1), (7, .v (.int .i64 (IntKind.i64.wrap (x3732 + 1)))), (10, .dead), (13, .dead), (18, .dead)], [(0, .p c3723), (1, .p (c3733 ++ [(.int .i64 (Int.tmod (IntKind.i64.wrap (x3722 + x3732)) x3679))]))], 2, []⟩) (by kernel_rfl))) ⟨n, Nat.lt_succ_self n, _, _, _, h3750, rfl⟩
              · refine W_sound tab_ok mixed 9 _ _ _ ?_
                simp -implicitDefEqProofs only [go_sem, qa, qb, qc, qd, qe, qf, qg, qh, qi, qj, qk, ↓reduceIte, h3682, h3684, h3724, h3734]
                repeat with_reducible refine ⟨by first | kernel_rfl | decide, ?_⟩
                obtain rfl := Option.some.inj h3750
                exact cutQ _ ((Wk_le (.r (.r (.r (.r (.r (.r (.k (.r (.r (.k .nil)))))))))) (OLe.refl _)).trans (cmpS_ok (st' := ⟨[], [(0, .v (.int .i64 x3679)), (2, .dead), (3, .dead), (4, .sl false 0 0 n3721 1), (5, .v (.int .i64 x3722)), (6, .sl false 1 0 n3731 1), (7, .dead), (10, .dead), (13, .dead), (18, .dead)], [(0, .p c3723), (1, .p c3733)], 2, []⟩) (by kernel_rfl))) ⟨_, _, rfl, rfl⟩
          · rintro _ ⟨n3738, c3739, rfl, rfl⟩
            (try dsimp only at h3751)
            have hh := grd_some h3751; clear h3751; obtain ⟨g3740, h3751⟩ := hh
            have hh := grd_some h3751; clear h3751; obtain ⟨g3741, h3751⟩ := hh
            refine W_sound tab_ok mixed 7 _ _ _ ?_
            simp -implicitDefEqProofs only [go_sem, qa, qb, qc, qd, qe, qf, qg, qh, qi, qj, qk, ↓reduceIte, h3682, h3684, h3724, g3740, g3741]
            repeat with_reducible refine ⟨by first | kernel_rfl | decide, ?_⟩
            have hh := grd_some h3751; clear h3751; obtain ⟨g3742, h3751⟩ := hh
            refine Wp_wkK (Wk_freeze 1 c3739 (by rfl) (by decide) (by decide)) rfl ?_
            simp -implicitDefEqProofs only [go_sem, qa, qb, qc, qd, qe, qf, qg, qh, qi, qj, qk, ↓reduceIte, h3682, h3684, h3724, g3740, g3741, g3742]
            refine W_sound tab_ok mixed 6 _ _ _ ?_
            simp -implicitDefEqProofs only [go_sem, qa, qb, qc, qd, qe, qf, qg, qh, qi, qj, qk, ↓reduceIte, h3682, h3684, h3724, g3740, g3741, g3742]
            repeat with_reducible refine ⟨by first | kernel_rfl | decide, ?_⟩
            exact cutQ _ ((Wk_le (.r (.r (.r (.r (.r (.k (.r (.r (.r (.r .nil)))))))))) (OLe.refl _)).trans (cmpS_ok (st' := ⟨[], [(0, .v (.int .i64 x3679)), (2, .dead), (3, .dead), (4, .sl false 0 0 (n3721 + 1) 1), (5, .v (.int .i64 (IntKind.i64.wrap (x3722 + 1)))), (6, .dead), (7, .dead), (10, .dead), (13, .dead), (18, .dead)], [(0, .p (c3723 ++ [(.lst false n3738 c3739)]))], 1, []⟩) (by kernel_rfl))) ⟨n, Nat.lt_succ_self n, _, _, _, h3751, rfl⟩
        · refine W_sound tab_ok mixed 9 _ _ _ ?_
          simp -implicitDefEqProofs only [go_sem, qa, qb, qc, qd, qe, qf, qg, qh, qi, qj, qk, ↓reduceIte, h3682, h3684, h3724]
          repeat with_reducible refine ⟨by first | kernel_rfl | decide, ?_⟩
          obtain rfl := Option.some.inj h3747
          exact cutQ _ ((Wk_le (.k (.r (.r (.r (.k (.r (.r (.r (.k (.r .nil)))))))))) (OLe.refl _)).trans (cmpS_ok (st' := ⟨[], [(0, .dead), (2, .dead), (3, .dead), (4, .sl false 0 0 n3721 1), (5, .dead), (6, .dead), (7, .dead), (10, .dead), (13, .dead), (18, .dead)], [(0, .p c3723)], 1, []⟩) (by kernel_rfl))) ⟨_, _, rfl, rfl⟩
    · rintro _ ⟨n3743, c3744, rfl, rfl⟩
      (try dsimp only at h3748)
      refine W_sound tab_ok mixed 8 _ _ _ ?_
      simp -implicitDefEqProofs only [go_sem, qa, qb, qc, qd, qe, qf, qg, qh, qi, qj, qk, ↓reduceIte, h3682, h3684]
      repeat with_reducible refine ⟨by first | kernel_rfl | decide, ?_⟩
      have hh := grd_some h3748; clear h3748; obtain ⟨g3745, h3748⟩ := hh
      refine FinQ_wk (Wk_freeze 0 c3744 (by rfl) (by decide) (by decide)) ?_
      simp -implicitDefEqProofs only [go_sem, qa, qb, qc, qd, qe, qf, qg, qh, qi, qj, qk, ↓reduceIte, h3682, h3684, g3745]
      obtain rfl := Option.some.inj h3748
      exact finC [(2, .v (.lst false n3743 c3744)), (3, .v (.int .i64 0))] [(2, .v (.lst false n3743 c3744)), (3, .v (.int .i64 0))] (by simp [leE, lk_cons]) (.cons _ _ _ _ _ (.v _ _ (.refl _)) (.cons _ _ _ _ _ (.v _ _ (.refl _)) .nil)) (by rfl) (by simp [leE, lk_cons]) (by decide) (by decide) rfl (by simp only [go_sem, qa, qb, qc, qd, qe, qf, qg, qh, qi, qj, qk, ↓reduceIte, resQ_tmp, resQ_cell, resQ_nil, retD_one, retD_two, retD_three, retD_none]; try simp [R.val, retD_one, retD_two, retD_three, retD_none])
  · refine W_sound tab_ok mixed 10 _ _ _ ?_
    simp -implicitDefEqProofs only [go_sem, qa, qb, qc, qd, qe, qf, qg, qh, qi, qj, qk, ↓reduceIte, h3682, h3684]
    repeat with_reducible refine ⟨by first | kernel_rfl | decide, ?_⟩
    obtain rfl := Option.some.inj h
    exact finC [(2, .v .nl), (3, .v (.int .i64 1))] [(2, .v (.lst false 0 [])), (3, .v (.int .i64 1))] (by simp [leE, lk_cons]) (.cons _ _ _ _ _ (.v _ _ (.nl false)) (.cons _ _ _ _ _ (.v _ _ (.refl _)) .nil)) (by rfl) (by simp [leE, lk_cons]) (by decide) (by decide) rfl (by simp only [go_sem, qa, qb, qc, qd, qe, qf, qg, qh, qi, qj, qk, ↓reduceIte, resQ_tmp, resQ_cell, resQ_nil, retD_one, retD_two, retD_three, retD_none]; try simp [R.val, retD_one, retD_two, retD_three, retD_none])
noncomputable def m76 (N : Nat) (x3789 : Int) (p3790 : PV) : Option (PV) :=
  getL p3790 fun n3792 c3793 =>
  bnd' (m24 N x3789 (.lst false n3792 c3793)) fun p3794 =>
  getI .i64 p3794 fun x3797 =>
  brn (x3797 == 0) (
    brn (decide (((n3792 : Nat) : Int) < x3789)) (
      some (.int .i64 21)) (
      some (.int .i64 x3797))) (
    some (.int .i64 x3797))
theorem c76 (N : Nat) (x3789 : Int) (p3790 : PV) (r : PV)  (h : m76 N x3789 p3790 = some r) : FnP Tryd.prog 76 [(.int .i64 x3789), p3790] r := by
  unfold m76 at h
  refine Fn_of (sz := 18) tab_ok [0, 1, 4, 5, 16] [.tmp 4] Tryd.func76 rfl rfl rfl (by simp) ?_
  simp only [initSt, initEnv, List.map_cons, List.map_nil, List.getD_cons_zero, List.getD_cons_succ, List.getD_nil]
  have hh := getL_some h; clear h; obtain ⟨n3792, c3793, h3791, h⟩ := hh
  have hh := bnd'_some h; clear h; obtain ⟨p3794, h3795, h⟩ := hh
  refine W_sound tab_ok mixed 8 _ _ _ ?_
  simp -implicitDefEqProofs only [go_sem, qa, qb, qc, qd, qe, qf, qg, qh, qi, qj, qk, ↓reduceIte, h3791]
  repeat with_reducible refine ⟨by first | kernel_rfl | decide, ?_⟩
  refine Wp_callP (c24 N _ _ _ h3795) (by kernel_rfl) rfl rfl rfl rfl (by decide) ?_
  have hh := getI_some h; clear h; obtain ⟨x3797, h3796, h⟩ := hh
  have hh := brn_some h; clear h; rcases hh with ⟨h3798, h⟩ | ⟨h3798, h⟩
  · have hh := brn_some h; clear h; rcases hh with ⟨h3799, h⟩ | ⟨h3799, h⟩
    · refine W_sound tab_ok mixed 25 _ _ _ ?_
      simp -implicitDefEqProofs only [go_sem, qa, qb, qc, qd, qe, qf, qg, qh, qi, qj, qk, ↓reduceIte, h3791, h3796, h3798, h3799]
      repeat with_reducible refine ⟨by first | kernel_rfl | decide, ?_⟩
      obtain rfl := Option.some.inj h
      exact finC [(4, .v (.int .i64 21))] [(4, .v (.int .i64 21))] (by simp [leE, lk_cons]) (.cons _ _ _ _ _ (.v _ _ (.refl _)) .nil) (by rfl) (by simp [leE, lk_cons]) (by decide) (by decide) rfl (by simp only [go_sem, qa, qb, qc, qd, qe, qf, qg, qh, qi, qj, qk, ↓reduceIte, resQ_tmp, resQ_cell, resQ_nil, retD_one, retD_two, retD_three, retD_none]; try simp [R.val, retD_one, retD_two, retD_three, retD_none])
    · refine W_sound tab_ok mixed 23 _ _ _ ?_
      simp -implicitDefEqProofs only [go_sem, qa, qb, qc, qd, qe, qf, qg, qh, qi, qj, qk, ↓reduceIte, h3791, h3796, h3798, h3799]
      repeat with_reducible refine ⟨by first | kernel_rfl | decide, ?_⟩
      obtain rfl := Option.some.inj h
      exact finC [(4, .v (.int .i64 x3797))] [(4, .v (.int .i64 x3797))] (by simp [leE, lk_cons]) (.cons _ _ _ _ _ (.v _ _ (.refl _)) .nil) (by rfl) (by simp [leE, lk_cons]) (by decide) (by decide) rfl (by simp only [go_sem, qa, qb, qc, qd, qe, qf, qg, qh, qi, qj, qk, ↓reduceIte, resQ_tmp, resQ_cell, resQ_nil, retD_one, retD_two, retD_three, retD_none]; try simp [R.val, retD_one, retD_two, retD_three, retD_none])
  · refine W_sound tab_ok mixed 23 _ _ _ ?_
    simp -implicitDefEqProofs only [go_sem, qa, qb, qc, qd, qe, qf, qg, qh, qi, qj, qk, ↓reduceIte, h3791, h3796, h3798]
    repeat with_reducible refine ⟨by first | kernel_rfl | decide, ?_⟩
    obtain rfl := Option.some.inj h
    exact finC [(4, .v (.int .i64 x3797))] [(4, .v (.int .i64 x3797))] (by simp [leE, lk_cons]) (.cons _ _ _ _ _ (.v _ _ (.refl _)) .nil) (by rfl) (by simp [leE, lk_cons]) (by decide) (by decide) rfl (by simp only [go_sem, qa, qb, qc, qd, qe, qf, qg, qh, qi, qj, qk, ↓reduceIte, resQ_tmp, resQ_cell, resQ_nil, retD_one, retD_two, retD_three, retD_none]; try simp [R.val, retD_one, retD_two, retD_three, retD_none])
noncomputable def m92_3_L0 (N : Nat) (n3910 : Nat) (x3911 : Int) (c3912 : List PV) : Nat → Int → Option ((PV ⊕ Unit))
  | 0, _ => none
  | n + 1, x3913 =>
    brn (decide (x3913 < ((n3910 : Nat) : Int))) (
      grd (0 ≤ x3913 ∧ x3913 < ((n3910 : Nat) : Int)) <|
      grd ((Int.toNat x3913) < List.length c3912) <|
      getI .i64 (gp c3912 (Int.toNat x3913)) fun x3919 =>
      brn (x3919 == x3911) (
        some (.inl (.bool true))) (
        m92_3_L0 N n3910 x3911 c3912 n (IntKind.i64.wrap (x3913 + 1)))) (
      some (.inr ()))
noncomputable def m92_3 (N : Nat) (n3910 : Nat) (x3911 : Int) (c3912 : List PV) : Option (PV) :=
  bnd' (m92_3_L0 N n3910 x3911 c3912 N 0) fun o =>
  match o with
  | .inl p3921 =>
    some p3921
  | .inr () =>
    some (.bool false)
theorem c92_3 (N : Nat) (n3910 : Nat) (x3911 : Int) (c3912 : List PV) (r : PV)  (h : m92_3 N n3910 x3911 c3912 = some r) : V.Fn Tryd.prog 92 1 [.sl false 0 0 n3910 1, .v (.int .i64 x3911)] [(0, .p c3912)] (fun d ob' => d = .v r ∧ ob' = [(0, .p c3912)]) := by
  unfold m92_3 at h
  refine Fn_of (sz := 18) tab_ok [0, 1, 4, 5, 9, 17] [.tmp 4] Tryd.func92 rfl rfl rfl (by simp) ?_
  simp only [initSt, initEnv, List.map_cons, List.map_nil, List.getD_cons_zero, List.getD_cons_succ, List.getD_nil]
  refine W_sound tab_ok mixed 9 _ _ _ ?_
  simp -implicitDefEqProofs only [go_sem, qa, qb, qc, qd, qe, qf, qg, qh, qi, qj, qk, ↓reduceIte]
  repeat with_reducible refine ⟨by first | kernel_rfl | decide, ?_⟩
  have hh := bnd'_some h; clear h; obtain ⟨o3922, h3923, h3924⟩ := hh
  refine Wp_cut (fun s => (.inr ()) = o3922 ∧ s = ⟨[], [(0, .dead), (1, .dead), (4, .dead), (5, .dead), (9, .dead), (17, .dead)], [(0, .p c3912)], 1, []⟩) ?_ ?_
  · refine Wp_block ?_
    refine Wp_loopG (fun n s => ∃ x3913, m92_3_L0 N n3910 x3911 c3912 n x3913 = some o3922 ∧ s = ⟨[], [(0, .sl false 0 0 n3910 1), (1, .v (.int .i64 x3911)), (4, .dead), (5, .v (.int .i64 x3913)), (9, .dead), (17, .dead)], [(0, .p c3912)], 1, []⟩) N _ ((Wk_le (.r (.r (.k (.r (.r (.r .nil)))))) (OLe.refl _)).trans (cmpS_ok rfl)) ⟨_, h3923, rfl⟩ ?_
    clear h3923
    rintro n _ ⟨x3913, h3923, rfl⟩
    cases n with
    | zero => cases h3923
    | succ n =>
      rw [m92_3_L0] at h3923
      have hh := brn_some h3923; clear h3923; rcases hh with ⟨h3914, h3923⟩ | ⟨h3914, h3923⟩
      · have hh := grd_some h3923; clear h3923; obtain ⟨⟨g3915, g3916⟩, h3923⟩ := hh
        have hh := grd_some h3923; clear h3923; obtain ⟨g3917, h3923⟩ := hh
        have hh := getI_some h3923; clear h3923; obtain ⟨x3919, h3918, h3923⟩ := hh
        have hh := brn_some h3923; clear h3923; rcases hh with ⟨h3920, h3923⟩ | ⟨h3920, h3923⟩
        · refine W_sound tab_ok mixed 28 _ _ _ ?_
          simp -implicitDefEqProofs only [go_sem, qa, qb, qc, qd, qe, qf, qg, qh, qi, qj, qk, ↓reduceIte, h3914, g3915, g3916, g3917, h3918, h3920]
          repeat with_reducible refine ⟨by first | kernel_rfl | decide, ?_⟩
          obtain rfl := Option.some.inj h3923
          (try dsimp only at h3924)
          obtain rfl := Option.some.inj h3924
          exact finD (e2 := [(0, .dead), (1, .dead), (4, .v (.bool true)), (5, .dead), (9, .dead), (17, .dead)]) (ob2 := [(0, .p c3912)]) (st' := ⟨[], [(0, .dead), (1, .dead), (4, .v (.bool true)), (5, .dead), (9, .dead), (17, .dead)], [(0, .p c3912)], 1, []⟩) (.k (.k (.r (.k (.k (.k .nil)))))) (.cons _ _ _ _ _ (DLes.refl _) .nil) (by kernel_rfl) (by simp only [go_sem, qa, qb, qc, qd, qe, qf, qg, qh, qi, qj, qk, ↓reduceIte, resQ_tmp, resQ_cell, resQ_nil, retD_one, retD_two, retD_three, retD_none]; try simp [R.val, retD_one, retD_two, retD_three, retD_none])
        · refine W_sound tab_ok mixed 29 _ _ _ ?_
          simp -implicitDefEqProofs only [go_sem, qa, qb, qc, qd, qe, qf, qg, qh, qi, qj, qk, ↓reduceIte, h3914, g3915, g3916, g3917, h3918, h3920]
          repeat with_reducible refine ⟨by first | kernel_rfl | decide, ?_⟩
          exact cutQ _ ((Wk_le (.r (.r (.r (.r (.k (.k .nil)))))) (OLe.refl _)).trans (cmpS_ok rfl)) ⟨n, Nat.lt_succ_self n, _, h3923, rfl⟩
      · refine W_sound tab_ok mixed 10 _ _ _ ?_
        simp -implicitDefEqProofs only [go_sem, qa, qb, qc, qd, qe, qf, qg, qh, qi, qj, qk, ↓reduceIte, h3914]
        repeat with_reducible refine ⟨by first | kernel_rfl | decide, ?_⟩
        obtain rfl := Option.some.inj h3923
        exact cutQ _ ((Wk_le (.k (.k (.r (.k (.k (.r .nil)))))) (OLe.refl _)).trans (cmpS_ok rfl)) ⟨rfl, rfl⟩
  · rintro _ ⟨rfl, rfl⟩
    (try dsimp only at h3924)
    refine W_sound tab_ok mixed 6 _ _ _ ?_
    simp -implicitDefEqProofs only [go_sem, qa, qb, qc, qd, qe, qf, qg, qh, qi, qj, qk, ↓reduceIte]
    repeat with_reducible refine ⟨by first | kernel_rfl | decide, ?_⟩
    obtain rfl := Option.some.inj h3924
    exact finD (e2 := [(0, .dead), (1, .dead), (4, .v (.bool false)), (5, .dead), (9, .dead), (17, .dead)]) (ob2 := [(0, .p c3912)]) (st' := ⟨[], [(0, .dead), (1, .dead), (4, .v (.bool false)), (5, .dead), (9, .dead), (17, .dead)], [(0, .p c3912)], 1, []⟩) (.r (.r (.r (.r (.r (.r .nil)))))) (.cons _ _ _ _ _ (DLes.refl _) .nil) (by kernel_rfl) (by simp only [go_sem, qa, qb, qc, qd, qe, qf, qg, qh, qi, qj, qk, ↓reduceIte, resQ_tmp, resQ_cell, resQ_nil, retD_one, retD_two, retD_three, retD_none]; try simp [R.val, retD_one, retD_two, retD_three, retD_none])
noncomputable def m77_L1 (N : Nat) (n3807 : Nat) (c3808 : List PV) (n3812 : Nat) (c3813 : List PV) (n4040 : Nat) (x4041 : Int) (c4042 : List PV) : Nat → Nat → Int → List PV → Option ((Nat × List PV))
  | 0, _, _, _ => none
  | n + 1, n4100, x4101, c4102 =>
    brn (decide (x4101 < ((n3807 : Nat) : Int))) (
      grd (0 ≤ x4101 ∧ x4101 < ((n3807 : Nat) : Int)) <|
      grd (0 < List.length (List.drop (Int.toNat x4101) c3808)) <|
      getL (gp c3808 (Int.toNat x4101)) fun n4108 c4109 =>
      grd (0 ≤ x4041 ∧ x4041 < ((n3812 : Nat) : Int)) <|
      grd (0 < List.length (List.drop (Int.toNat x4041) c3813)) <|
      getL (gp c3813 (Int.toNat x4041)) fun n4114 c4115 =>
      grd (x4101 < ((n4114 : Nat) : Int)) <|
      grd (0 < List.length (List.drop (Int.toNat x4101) c4115)) <|
      getI .i64 (gp c4115 (Int.toNat x4101)) fun x4119 =>
      grd (0 ≤ x4119 ∧ x4119 < ((n4108 : Nat) : Int)) <|
      grd (0 < List.length (List.drop (Int.toNat x4119) c4109)) <|
      getI .i64 (gp c4109 (Int.toNat x4119)) fun x4124 =>
      bnd' (m92_3 N n4100 x4124 c4102) fun p4125 =>
      getB p4125 fun b4128 =>
      brn b4128 (
        m77_L1 N n3807 c3808 n3812 c3813 n4040 x4041 c4042 n n4100 (IntKind.i64.wrap (x4101 + 1)) c4102) (
        grd ((n4100 + 1) ≤ 1099511627776) <|
        grd (List.length c4102 = n4100) <|
        m77_L1 N n3807 c3808 n3812 c3813 n4040 x4041 c4042 n (n4100 + 1) (IntKind.i64.wrap (x4101 + 1)) (c4102 ++ [(.int .i64 x4124)]))) (
      some (n4100, c4102))
noncomputable def m77_L0 (N : Nat) (n3807 : Nat) (c3808 : List PV) (n3812 : Nat) (c3813 : List PV) : Nat → Nat → Int → List PV → Option ((Nat × List PV))
  | 0, _, _, _ => none
  | n + 1, n4040, x4041, c4042 =>
    brn (decide (x4041 < ((n3812 : Nat) : Int))) (
      bnd' (m77_L1 N n3807 c3808 n3812 c3813 n4040 x4041 c4042 N 0 0 []) fun o =>
      match o with
      | (n4132, c4133) =>
        brn (((n4132 : Nat) : Int) == ((n3807 : Nat) : Int)) (
          grd (0 ≤ x4041 ∧ x4041 < ((n3812 : Nat) : Int)) <|
          grd (0 < List.length (List.drop (Int.toNat x4041) c3813)) <|
          getL (gp c3813 (Int.toNat x4041)) fun n4139 c4140 =>
          grd ((n4040 + 1) ≤ 1099511627776) <|
          grd (List.length c4042 = n4040) <|
          m77_L0 N n3807 c3808 n3812 c3813 n (n4040 + 1) (IntKind.i64.wrap (x4041 + 1)) (c4042 ++ [(.lst false n4139 c4140)])) (
          m77_L0 N n3807 c3808 n3812 c3813 n n4040 (IntKind.i64.wrap (x4041 + 1)) c4042)) (
      some (n4040, c4042))
noncomputable def m77 (N : Nat) (p3805 : PV) : Option (PV) :=
  getL p3805 fun n3807 c3808 =>
  bnd' (m91 N N ((n3807 : Nat) : Int) (.lst false 0 [])) fun p3809 =>
  getL p3809 fun n3812 c3813 =>
  bnd' (m77_L0 N n3807 c3808 n3812 c3813 N 0 0 []) fun o =>
  match o with
  | (n4143, c4144) =>
    grd (List.length c4144 = n4143) <|
    some (.lst false n4143 c4144)
theorem c77 (N : Nat) (p3805 : PV) (r : PV)  (h : m77 N p3805 = some r) : FnP Tryd.prog 77 [p3805] r := by
  unfold m77 at h
  refine Fn_of (sz := 68) tab_ok [0, 2, 3, 4, 5, 6, 7, 14, 20, 38, 59] [.tmp 2] Tryd.func77 rfl rfl rfl (by simp) ?_
  simp only [initSt, initEnv, List.map_cons, List.map_nil, List.getD_cons_zero, List.getD_cons_succ, List.getD_nil]
  have hh := getL_some h; clear h; obtain ⟨n3807, c3808, h3806, h⟩ := hh
  have hh := bnd'_some h; clear h; obtain ⟨p3809, h3810, h⟩ := hh
  refine W_sound tab_ok mixed 12 _ _ _ ?_
  simp -implicitDefEqProofs only [go_sem, qa, qb, qc, qd, qe, qf, qg, qh, qi, qj, qk, ↓reduceIte, h3806]
  repeat with_reducible refine ⟨by first | kernel_rfl | decide, ?_⟩
  refine Wp_callP (FnP_le (c91 N N _ _ _ h3810) (.cons _ _ _ _ (.refl _) (.cons _ _ _ _ (.nl false) .nil)) (.refl _)) (by kernel_rfl) rfl rfl rfl rfl (by decide) ?_
  have hh := getL_some h; clear h; obtain ⟨n3812, c3813, h3811, h⟩ := hh
  refine W_sound tab_ok mixed 7 _ _ _ ?_
  simp -implicitDefEqProofs only [go_sem, qa, qb, qc, qd, qe, qf, qg, qh, qi, qj, qk, ↓reduceIte, h3806, h3811]
  repeat with_reducible refine ⟨by first | kernel_rfl | decide, ?_⟩
  refine Wp_weaken (Wk_ownS 3 1 rfl (by decide) (by decide)) ?_
  simp -implicitDefEqProofs only [go_sem, qa, qb, qc, qd, qe, qf, qg, qh, qi, qj, qk, ↓reduceIte, h3806, h3811]
  have hh := bnd'_some h; clear h; obtain ⟨o4146, h4147, h4148⟩ := hh
  refine Wp_cut (fun s => ∃ n4143, ∃ c4144, (n4143, c4144) = o4146 ∧ s = ⟨[], [(0, .dead), (2, .dead), (3, .sl false 0 0 n4143 1), (4, .dead), (5, .dead), (6, .dead), (7, .dead), (14, .dead), (20, .dead), (38, .dead), (59, .dead)], [(0, .p c4144)], 1, []⟩) ?_ ?_
  · refine Wp_block ?_
    refine Wp_loopG (fun n s => ∃ n4040, ∃ x4041, ∃ c4042, m77_L0 N n3807 c3808 n3812 c3813 n n4040 x4041 c4042 = some o4146 ∧ s = ⟨[], [(0, .v (.lst false n3807 c3808)), (2, .dead), (3, .sl false 0 0 n4040 1), (4, .v (.lst false n3812 c3813)), (5, .v (.int .i64 x4041)), (6, .dead), (7, .dead), (14, .dead), (20, .dead), (38, .dead), (59, .dead)], [(0, .p c4042)], 1, []⟩) N _ ((Wk_le (.r (.k (.r (.r (.r (.r (.r (.r (.r (.r (.r .nil))))))))))) (OLe.refl _)).trans (cmpS_ok (st' := ⟨[], [(0, .v (.lst false n3807 c3808)), (2, .dead), (3, .sl false 0 0 0 1), (4, .v (.lst false n3812 c3813)), (5, .v (.int .i64 0)), (6, .dead), (7, .dead), (14, .dead), (20, .dead), (38, .dead), (59, .dead)], [(0, .p [])], 1, []⟩) (by kernel_rfl))) ⟨_, _, _, h4147, rfl⟩ ?_
    clear h4147
    rintro n _ ⟨n4040, x4041, c4042, h4147, rfl⟩
    cases n with
    | zero => cases h4147
    | succ n =>
      rw [m77_L0] at h4147
      have hh := brn_some h4147; clear h4147; rcases hh with ⟨h4043, h4147⟩ | ⟨h4043, h4147⟩
      · refine W_sound tab_ok mixed 21 _ _ _ ?_
        simp -implicitDefEqProofs only [go_sem, qa, qb, qc, qd, qe, qf, qg, qh, qi, qj, qk, ↓reduceIte, h3806, h3811, h4043]
        repeat with_reducible refine ⟨by first | kernel_rfl | decide, ?_⟩
        refine Wp_weaken (Wk_ownS 6 1 rfl (by decide) (by decide)) ?_
        simp -implicitDefEqProofs only [go_sem, qa, qb, qc, qd, qe, qf, qg, qh, qi, qj, qk, ↓reduceIte, h3806, h3811, h4043]
        have hh := bnd'_some h4147; clear h4147; obtain ⟨o4149, h4150, h4151⟩ := hh
        refine Wp_cut (fun s => ∃ n4132, ∃ c4133, (n4132, c4133) = o4149 ∧ s = ⟨[], [(0, .v (.lst false n3807 c3808)), (2, .dead), (3, .sl false 0 0 n4040 1), (4, .v (.lst false n3812 c3813)), (5, .v (.int .i64 x4041)), (6, .sl false 1 0 n4132 1), (7, .dead), (14, .dead), (20, .dead), (38, .dead), (59, .dead)], [(0, .p c4042), (1, .p c4133)], 2, []⟩) ?_ ?_
        · refine Wp_block ?_
          refine Wp_loopG (fun n s => ∃ n4100, ∃ x4101, ∃ c4102, m77_L1 N n3807 c3808 n3812 c3813 n4040 x4041 c4042 n n4100 x4101 c4102 = some o4149 ∧ s = ⟨[], [(0, .v (.lst false n3807 c3808)), (2, .dead), (3, .sl false 0 0 n4040 1), (4, .v (.lst false n3812 c3813)), (5, .v (.int .i64 x4041)), (6, .sl false 1 0 n4100 1), (7, .v (.int .i64 x4101)), (14, .dead), (20, .dead), (38, .dead), (59, .dead)], [(0, .p c4042), (1, .p c4102)], 2, []⟩) N _ ((Wk_le (.r (.r (.r (.r (.r (.r (.r (.k (.r (.r (.r .nil))))))))))) (OLe.refl _)).trans (cmpS_ok (st' := ⟨[], [(0, .v (.lst false n3807 c3808)), (2, .dead), (3, .sl false 0 0 n4040 1), (4, .v (.lst false n3812 c3813)), (5, .v (.int .i64 x4041)), (6, .sl false 1 0 0 1), (7, .v (.int .i64 0)), (14, .dead), (20, .dead), (38, .dead), (59, .dead)], [(0, .p c4042), (1, .p [])], 2, []⟩) (by kernel_rfl))) ⟨_, _, _, h4150, rfl⟩ ?_
          clear h4150
          rintro n _ ⟨n4100, x4101, c4102, h4150, rfl⟩
          cases n with
          | zero => cases h4150
          | succ n =>
            rw [m77_L1] at h4150
            have hh := brn_some h4150; clear h4150; rcases hh with ⟨h4103, h4150⟩ | ⟨h4103, h4150⟩
            · have hh := grd_some h4150; clear h4150; obtain ⟨⟨g4104, g4105⟩, h4150⟩ := hh
              have hh := grd_some h4150; clear h4150; obtain ⟨g4106, h4150⟩ := hh
              have hh := getL_some h4150; clear h4150; obtain ⟨n4108, c4109, h4107, h4150⟩ := hh
              have hh := grd_some h4150; clear h4150; obtain ⟨⟨g4110, g4111⟩, h4150⟩ := hh
              have hh := grd_some h4150; clear h4150; obtain ⟨g4112, h4150⟩ := hh
              have hh := getL_some h4150; clear h4150; obtain ⟨n4114, c4115, h4113, h4150⟩ := hh
              have hh := grd_some h4150; clear h4150; obtain ⟨g4116, h4150⟩ := hh
              have hh := grd_some h4150; clear h4150; obtain ⟨g4117, h4150⟩ := hh
              have hh := getI_some h4150; clear h4150; obtain ⟨x4119, h4118, h4150⟩ := hh
              have hh := grd_some h4150; clear h4150; obtain ⟨⟨g4120, g4121⟩, h4150⟩ := hh
              have hh := grd_some h4150; clear h4150; obtain ⟨g4122, h4150⟩ := hh
              have hh := getI_some h4150; clear h4150; obtain ⟨x4124, h4123, h4150⟩ := hh
              have hh := bnd'_some h4150; clear h4150; obtain ⟨p4125, h4126, h4150⟩ := hh
              (try dsimp only at h4150)
              refine W_sound tab_ok mixed 28 _ _ _ ?_
              simp -implicitDefEqProofs only [go_sem, qa, qb, qc, qd, qe, qf, qg, qh, qi, qj, qk, ↓reduceIte, h3806, h3811, h4043, h4103, g4104, g4105, g4106, h4107, g4110, g4111, g4112, h4113, g4116, g4117, h4118, g4120, g4121, g4122, h4123]
              repeat with_reducible refine ⟨by first | kernel_rfl | decide, ?_⟩
              refine Wp_callD [1] (c92_3 N _ _ _ _ h4126) rfl rfl rfl (by first | rfl | (simp only [go_sem, qa, qb, qc, qd, qe, qf, qg, qh, qi, qj, qk, ↓reduceIte, h3806, h3811, h4043, h4103, g4104, g4105, g4106, h4107, g4110, g4111, g4112, h4113, g4116, g4117, h4118, g4120, g4121, g4122, h4123] <;> rfl)) rfl (by kernel_rfl) ?_
              have hh := getB_some h4150; clear h4150; obtain ⟨b4128, h4127, h4150⟩ := hh
              have hh := brn_some h4150; clear h4150; rcases hh with ⟨h4129, h4150⟩ | ⟨h4129, h4150⟩
              · refine W_sound tab_ok mixed 10 _ _ _ ?_
                simp -implicitDefEqProofs only [go_sem, qa, qb, qc, qd, qe, qf, qg, qh, qi, qj, qk, ↓reduceIte, h3806, h3811, h4043, h4103, g4104, g4105, g4106, h4107, g4110, g4111, g4112, h4113, g4116, g4117, h4118, g4120, g4121, g4122, h4123, h4127, h4129]
                repeat with_reducible refine ⟨by first | kernel_rfl | decide, ?_⟩
                exact cutQ _ ((Wk_le (.r (.r (.r (.r (.r (.r (.r (.r (.k (.k (.r .nil))))))))))) (OLe.refl _)).trans (cmpS_ok (st' := ⟨[], [(0, .v (.lst false n3807 c3808)), (2, .dead), (3, .sl false 0 0 n4040 1), (4, .v (.lst false n3812 c3813)), (5, .v (.int .i64 x4041)), (6, .sl false 1 0 n4100 1), (7, .v (.int .i64 (IntKind.i64.wrap (x4101 + 1)))), (14, .dead), (20, .dead), (38, .dead), (59, .dead)], [(0, .p c4042), (1, .p c4102)], 2, []⟩) (by kernel_rfl))) ⟨n, Nat.lt_succ_self n, _, _, _, h4150, rfl⟩
              · have hh := grd_some h4150; clear h4150; obtain ⟨g4130, h4150⟩ := hh
                have hh := grd_some h4150; clear h4150; obtain ⟨g4131, h4150⟩ := hh
                refine W_sound tab_ok mixed 28 _ _ _ ?_
                simp -implicitDefEqProofs only [go_sem, qa, qb, qc, qd, qe, qf, qg, qh, qi, qj, qk, ↓reduceIte, h3806, h3811, h4043, h4103, g4104, g4105, g4106, h4107, g4110, g4111, g4112, h4113, g4116, g4117, h4118, g4120, g4121, g4122, h4123, h4127, h4129, g4130, g4131]
                repeat with_reducible refine ⟨by first | kernel_rfl | decide, ?_⟩
                exact cutQ _ ((Wk_le (.r (.r (.r (.r (.r (.r (.r (.r (.k (.k (.r .nil))))))))))) (OLe.refl _)).trans (cmpS_ok (st' := ⟨[], [(0, .v (.lst false n3807 c3808)), (2, .dead), (3, .sl false 0 0 n4040 1), (4, .v (.lst false n3812 c3813)), (5, .v (.int .i64 x4041)), (6, .sl false 1 0 (n4100 + 1) 1), (7, .v (.int .i64 (IntKind.i64.wrap (x4101 + 1)))), (14, .dead), (20, .dead), (38, .dead), (59, .dead)], [(0, .p c4042), (1, .p (c4102 ++ [(.int .i64 x4124)]))], 2, []⟩) (by kernel_rfl))) ⟨n, Nat.lt_succ_self n, _, _, _, h4150, rfl⟩
            · refine W_sound tab_ok mixed 10 _ _ _ ?_
              simp -implicitDefEqProofs only [go_sem, qa, qb, qc, qd, qe, qf, qg, qh, qi, qj, qk, ↓reduceIte, h3806, h3811, h4043, h4103]
              repeat with_reducible refine ⟨by first | kernel_rfl | decide, ?_⟩
              obtain rfl := Option.some.inj h4150
              exact cutQ _ ((Wk_le (.r (.r (.r (.r (.r (.r (.k (.r (.k (.r (.r .nil))))))))))) (OLe.refl _)).trans (cmpS_ok (st' := ⟨[], [(0, .v (.lst false n3807 c3808)), (2, .dead), (3, .sl false 0 0 n4040 1), (4, .v (.lst false n3812 c3813)), (5, .v (.int .i64 x4041)), (6, .sl false 1 0 n4100 1), (7, .dead), (14, .dead), (20, .dead), (38, .dead), (59, .dead)], [(0, .p c4042), (1, .p c4102)], 2, []⟩) (by kernel_rfl))) ⟨_, _, rfl, rfl⟩
        · rintro _ ⟨n4132, c4133, rfl, rfl⟩
          (try dsimp only at h4151)
          have hh := brn_some h4151; clear h4151; rcases hh with ⟨h4134, h4151⟩ | ⟨h4134, h4151⟩
          · have hh := grd_some h4151; clear h4151; obtain ⟨⟨g4135, g4136⟩, h4151⟩ := hh
            have hh := grd_some h4151; clear h4151; obtain ⟨g4137, h4151⟩ := hh
            have hh := getL_some h4151; clear h4151; obtain ⟨n4139, c4140, h4138, h4151⟩ := hh
            have hh := grd_some h4151; clear h4151; obtain ⟨g4141, h4151⟩ := hh
            have hh := grd_some h4151; clear h4151; obtain ⟨g4142, h4151⟩ := hh
            refine W_sound tab_ok mixed 25 _ _ _ ?_
            simp -implicitDefEqProofs only [go_sem, qa, qb, qc, qd, qe, qf, qg, qh, qi, qj, qk, ↓reduceIte, h3806, h3811, h4043, h4134, g4135, g4136, g4137, h4138, g4141, g4142]
            repeat with_reducible refine ⟨by first | kernel_rfl | decide, ?_⟩
            exact cutQ _ ((Wk_le (.r (.r (.r (.r (.r (.k (.r (.r (.r (.r (.k .nil))))))))))) (OLe.refl _)).trans (cmpS_ok (st' := ⟨[], [(0, .v (.lst false n3807 c3808)), (2, .dead), (3, .sl false 0 0 (n4040 + 1) 1), (4, .v (.lst false n3812 c3813)), (5, .v (.int .i64 (IntKind.i64.wrap (x4041 + 1)))), (6, .dead), (7, .dead), (14, .dead), (20, .dead), (38, .dead), (59, .dead)], [(0, .p (c4042 ++ [(.lst false n4139 c4140)]))], 1, []⟩) (by kernel_rfl))) ⟨n, Nat.lt_succ_self n, _, _, _, h4151, rfl⟩
          · refine W_sound tab_ok mixed 16 _ _ _ ?_
            simp -implicitDefEqProofs only [go_sem, qa, qb, qc, qd, qe, qf, qg, qh, qi, qj, qk, ↓reduceIte, h3806, h3811, h4043, h4134]
            repeat with_reducible refine ⟨by first | kernel_rfl | decide, ?_⟩
            exact cutQ _ ((Wk_le (.r (.r (.r (.r (.r (.k (.r (.r (.r (.r (.k .nil))))))))))) (OLe.refl _)).trans (cmpS_ok (st' := ⟨[], [(0, .v (.lst false n3807 c3808)), (2, .dead), (3, .sl false 0 0 n4040 1), (4, .v (.lst false n3812 c3813)), (5, .v (.int .i64 (IntKind.i64.wrap (x4041 + 1)))), (6, .dead), (7, .dead), (14, .dead), (20, .dead), (38, .dead), (59, .dead)], [(0, .p c4042)], 1, []⟩) (by kernel_rfl))) ⟨n, Nat.lt_succ_self n, _, _, _, h4151, rfl⟩
      · refine W_sound tab_ok mixed 10 _ _ _ ?_
        simp -implicitDefEqProofs only [go_sem, qa, qb, qc, qd, qe, qf, qg, qh, qi, qj, qk, ↓reduceIte, h3806, h3811, h4043]
        repeat with_reducible refine ⟨by first | kernel_rfl | decide, ?_⟩
        obtain rfl := Option.some.inj h4147
        exact cutQ _ ((Wk_le (.k (.r (.r (.k (.k (.r (.r (.k (.r (.r (.r .nil))))))))))) (OLe.refl _)).trans (cmpS_ok (st' := ⟨[], [(0, .dead), (2, .dead), (3, .sl false 0 0 n4040 1), (4, .dead), (5, .dead), (6, .dead), (7, .dead), (14, .dead), (20, .dead), (38, .dead), (59, .dead)], [(0, .p c4042)], 1, []⟩) (by kernel_rfl))) ⟨_, _, rfl, rfl⟩
  · rintro _ ⟨n4143, c4144, rfl, rfl⟩
    (try dsimp only at h4148)
    refine W_sound tab_ok mixed 7 _ _ _ ?_
    simp -implicitDefEqProofs only [go_sem, qa, qb, qc, qd, qe, qf, qg, qh, qi, qj, qk, ↓reduceIte, h3806, h3811]
    repeat with_reducible refine ⟨by first | kernel_rfl | decide, ?_⟩
    have hh := grd_some h4148; clear h4148; obtain ⟨g4145, h4148⟩ := hh
    refine FinQ_wk (Wk_freeze 0 c4144 (by rfl) (by decide) (by decide)) ?_
    simp -implicitDefEqProofs only [go_sem, qa, qb, qc, qd, qe, qf, qg, qh, qi, qj, qk, ↓reduceIte, h3806, h3811, g4145]
    obtain rfl := Option.some.inj h4148
    exact finC [(2, .v (.lst false n4143 c4144))] [(2, .v (.lst false n4143 c4144))] (by simp [leE, lk_cons]) (.cons _ _ _ _ _ (.v _ _ (.refl _)) .nil) (by rfl) (by simp [leE, lk_cons]) (by decide) (by decide) rfl (by simp only [go_sem, qa, qb, qc, qd, qe, qf, qg, qh, qi, qj, qk, ↓reduceIte, resQ_tmp, resQ_cell, resQ_nil, retD_one, retD_two, retD_three, retD_none]; try simp [R.val, retD_one, retD_two, retD_three, retD_none])
noncomputable def m34 (N : Nat) (x3784 : Int) (p3785 : PV) : Option (PV) :=
  getL p3785 fun n3787 c3788 =>
  bnd' (m76 N x3784 (.lst false n3787 c3788)) fun p3800 =>
  getI .i64 p3800 fun x3803 =>
  brn (x3803 != 0) (
    some (.tup [(.lst false 0 []), (.int .i64 x3803)])) (
    bnd' (m77 N (.lst false n3787 c3788)) fun p4152 =>
    getL p4152 fun n4155 c4156 =>
    brn (((n4155 : Nat) : Int) == 0) (
      some (.tup [(.lst false 0 []), (.int .i64 12)])) (
      grd (0 < ((n4155 : Nat) : Int)) <|
      grd (0 < List.length c4156) <|
      getL (gp c4156 0) fun n4161 c4162 =>
      some (.tup [(.lst false n4161 c4162), (.int .i64 0)])))
theorem c34 (N : Nat) (x3784 : Int) (p3785 : PV) (r : PV)  (h : m34 N x3784 p3785 = some r) : FnP Tryd.prog 34 [(.int .i64 x3784), p3785] r := by
  unfold m34 at h
  refine Fn_of (sz := 22) tab_ok [0, 1, 4, 5, 6, 7, 12, 18] [.tmp 4, .tmp 5] Tryd.func34 rfl rfl rfl (by simp) ?_
  simp only [initSt, initEnv, List.map_cons, List.map_nil, List.getD_cons_zero, List.getD_cons_succ, List.getD_nil]
  have hh := getL_some h; clear h; obtain ⟨n3787, c3788, h3786, h⟩ := hh
  have hh := bnd'_some h; clear h; obtain ⟨p3800, h3801, h⟩ := hh
  refine W_sound tab_ok mixed 9 _ _ _ ?_
  simp -implicitDefEqProofs only [go_sem, qa, qb, qc, qd, qe, qf, qg, qh, qi, qj, qk, ↓reduceIte, h3786]
  repeat with_reducible refine ⟨by first | kernel_rfl | decide, ?_⟩
  refine Wp_callP (c76 N _ _ _ h3801) (by kernel_rfl) rfl rfl rfl rfl (by decide) ?_
  have hh := getI_some h; clear h; obtain ⟨x3803, h3802, h⟩ := hh
  have hh := brn_some h; clear h; rcases hh with ⟨h3804, h⟩ | ⟨h3804, h⟩
  · refine W_sound tab_ok mixed 17 _ _ _ ?_
    simp -implicitDefEqProofs only [go_sem, qa, qb, qc, qd, qe, qf, qg, qh, qi, qj, qk, ↓reduceIte, h3786, h3802, h3804]
    repeat with_reducible refine ⟨by first | kernel_rfl | decide, ?_⟩
    obtain rfl := Option.some.inj h
    exact finC [(4, .v .nl), (5, .v (.int .i64 x3803))] [(4, .v (.lst false 0 [])), (5, .v (.int .i64 x3803))] (by simp [leE, lk_cons]) (.cons _ _ _ _ _ (.v _ _ (.nl false)) (.cons _ _ _ _ _ (.v _ _ (.refl _)) .nil)) (by rfl) (by simp [leE, lk_cons]) (by decide) (by decide) rfl (by simp only [go_sem, qa, qb, qc, qd, qe, qf, qg, qh, qi, qj, qk, ↓reduceIte, resQ_tmp, resQ_cell, resQ_nil, retD_one, retD_two, retD_three, retD_none]; try simp [R.val, retD_one, retD_two, retD_three, retD_none])
  · have hh := bnd'_some h; clear h; obtain ⟨p4152, h4153, h⟩ := hh
    refine W_sound tab_ok mixed 13 _ _ _ ?_
    simp -implicitDefEqProofs only [go_sem, qa, qb, qc, qd, qe, qf, qg, qh, qi, qj, qk, ↓reduceIte, h3786, h3802, h3804]
    repeat with_reducible refine ⟨by first | kernel_rfl | decide, ?_⟩
    refine Wp_callP (c77 N _ _ h4153) (by kernel_rfl) rfl rfl rfl rfl (by decide) ?_
    have hh := getL_some h; clear h; obtain ⟨n4155, c4156, h4154, h⟩ := hh
    have hh := brn_some h; clear h; rcases hh with ⟨h4157, h⟩ | ⟨h4157, h⟩
    · refine W_sound tab_ok mixed 17 _ _ _ ?_
      simp -implicitDefEqProofs only [go_sem, qa, qb, qc, qd, qe, qf, qg, qh, qi, qj, qk, ↓reduceIte, h3786, h3802, h3804, h4154, h4157]
      repeat with_reducible refine ⟨by first | kernel_rfl | decide, ?_⟩
      obtain rfl := Option.some.inj h
      exact finC [(4, .v .nl), (5, .v (.int .i64 12))] [(4, .v (.lst false 0 [])), (5, .v (.int .i64 12))] (by simp [leE, lk_cons]) (.cons _ _ _ _ _ (.v _ _ (.nl false)) (.cons _ _ _ _ _ (.v _ _ (.refl _)) .nil)) (by rfl) (by simp [leE, lk_cons]) (by decide) (by decide) rfl (by simp only [go_sem, qa, qb, qc, qd, qe, qf, qg, qh, qi, qj, qk, ↓reduceIte, resQ_tmp, resQ_cell, resQ_nil, retD_one, retD_two, retD_three, retD_none]; try simp [R.val, retD_one, retD_two, retD_three, retD_none])
    · have hh := grd_some h; clear h; obtain ⟨g4158, h⟩ := hh
      have hh := grd_some h; clear h; obtain ⟨g4159, h⟩ := hh
      have hh := getL_some h; clear h; obtain ⟨n4161, c4162, h4160, h⟩ := hh
      refine W_sound tab_ok mixed 21 _ _ _ ?_
      simp -implicitDefEqProofs only [go_sem, qa, qb, qc, qd, qe, qf, qg, qh, qi, qj, qk, ↓reduceIte, h3786, h3802, h3804, h4154, h4157, g4158, g4159, h4160]
      repeat with_reducible refine ⟨by first | kernel_rfl | decide, ?_⟩
      obtain rfl := Option.some.inj h
      exact finC [(4, .v (.lst false n4161 c4162)), (5, .v (.int .i64 0))] [(4, .v (.lst false n4161 c4162)), (5, .v (.int .i64 0))] (by simp [leE, lk_cons]) (.cons _ _ _ _ _ (.v _ _ (.refl _)) (.cons _ _ _ _ _ (.v _ _ (.refl _)) .nil)) (by rfl) (by simp [leE, lk_cons]) (by decide) (by decide) rfl (by simp only [go_sem, qa, qb, qc, qd, qe, qf, qg, qh, qi, qj, qk, ↓reduceIte, resQ_tmp, resQ_cell, resQ_nil, retD_one, retD_two, retD_three, retD_none]; try simp [R.val, retD_one, retD_two, retD_three, retD_none])
noncomputable def m36 (N : Nat) (x4182 : Int) (p4183 : PV) : Option (PV) :=
  getL p4183 fun n4185 c4186 =>
  bnd' (m76 N x4182 (.lst false n4185 c4186)) fun p4187 =>
  getI .i64 p4187 fun x4190 =>
  brn (x4190 != 0) (
    some (.tup [(.int .i64 0), (.int .i64 x4190)])) (
    bnd' (m77 N (.lst false n4185 c4186)) fun p4192 =>
    getL p4192 fun n4195 c4196 =>
    some (.tup [(.int .i64 ((n4195 : Nat) : Int)), (.int .i64 0)]))
theorem c36 (N : Nat) (x4182 : Int) (p4183 : PV) (r : PV)  (h : m36 N x4182 p4183 = some r) : FnP Tryd.prog 36 [(.int .i64 x4182), p4183] r := by
  unfold m36 at h
  refine Fn_of (sz := 16) tab_ok [0, 1, 4, 5, 6, 11] [.tmp 4, .tmp 5] Tryd.func36 rfl rfl rfl (by simp) ?_
  simp only [initSt, initEnv, List.map_cons, List.map_nil, List.getD_cons_zero, List.getD_cons_succ, List.getD_nil]
  have hh := getL_some h; clear h; obtain ⟨n4185, c4186, h4184, h⟩ := hh
  have hh := bnd'_some h; clear h; obtain ⟨p4187, h4188, h⟩ := hh
  refine W_sound tab_ok mixed 9 _ _ _ ?_
  simp -implicitDefEqProofs only [go_sem, qa, qb, qc, qd, qe, qf, qg, qh, qi, qj, qk, ↓reduceIte, h4184]
  repeat with_reducible refine ⟨by first | kernel_rfl | decide, ?_⟩
  refine Wp_callP (c76 N _ _ _ h4188) (by kernel_rfl) rfl rfl rfl rfl (by decide) ?_
  have hh := getI_some h; clear h; obtain ⟨x4190, h4189, h⟩ := hh
  have hh := brn_some h; clear h; rcases hh with ⟨h4191, h⟩ | ⟨h4191, h⟩
  · refine W_sound tab_ok mixed 17 _ _ _ ?_
    simp -implicitDefEqProofs only [go_sem, qa, qb, qc, qd, qe, qf, qg, qh, qi, qj, qk, ↓reduceIte, h4184, h4189, h4191]
    repeat with_reducible refine ⟨by first | kernel_rfl | decide, ?_⟩
    obtain rfl := Option.some.inj h
    exact finC [(4, .v (.int .i64 0)), (5, .v (.int .i64 x4190))] [(4, .v (.int .i64 0)), (5, .v (.int .i64 x4190))] (by simp [leE, lk_cons]) (.cons _ _ _ _ _ (.v _ _ (.refl _)) (.cons _ _ _ _ _ (.v _ _ (.refl _)) .nil)) (by rfl) (by simp [leE, lk_cons]) (by decide) (by decide) rfl (by simp only [go_sem, qa, qb, qc, qd, qe, qf, qg, qh, qi, qj, qk, ↓reduceIte, resQ_tmp, resQ_cell, resQ_nil, retD_one, retD_two, retD_three, retD_none]; try simp [R.val, retD_one, retD_two, retD_three, retD_none])
  · have hh := bnd'_some h; clear h; obtain ⟨p4192, h4193, h⟩ := hh
    refine W_sound tab_ok mixed 13 _ _ _ ?_
    simp -implicitDefEqProofs only [go_sem, qa, qb, qc, qd, qe, qf, qg, qh, qi, qj, qk, ↓reduceIte, h4184, h4189, h4191]
    repeat with_reducible refine ⟨by first | kernel_rfl | decide, ?_⟩
    refine Wp_callP (c77 N _ _ h4193) (by kernel_rfl) rfl rfl rfl rfl (by decide) ?_
    have hh := getL_some h; clear h; obtain ⟨n4195, c4196, h4194, h⟩ := hh
    refine W_sound tab_ok mixed 6 _ _ _ ?_
    simp -implicitDefEqProofs only [go_sem, qa, qb, qc, qd, qe, qf, qg, qh, qi, qj, qk, ↓reduceIte, h4184, h4189, h4191, h4194]
    repeat with_reducible refine ⟨by first | kernel_rfl | decide, ?_⟩
    obtain rfl := Option.some.inj h
    exact finC [(4, .v (.int .i64 ((n4195 : Nat) : Int))), (5, .v (.int .i64 0))] [(4, .v (.int .i64 ((n4195 : Nat) : Int))), (5, .v (.int .i64 0))] (by simp [leE, lk_cons]) (.cons _ _ _ _ _ (.v _ _ (.refl _)) (.cons _ _ _ _ _ (.v _ _ (.refl _)) .nil)) (by rfl) (by simp [leE, lk_cons]) (by decide) (by decide) rfl (by simp only [go_sem, qa, qb, qc, qd, qe, qf, qg, qh, qi, qj, qk, ↓reduceIte, resQ_tmp, resQ_cell, resQ_nil, retD_one, retD_two, retD_three, retD_none]; try simp [R.val, retD_one, retD_two, retD_three, retD_none])
noncomputable def m4 (N : Nat) (x3527 : Int) (p3528 : PV) : Option (PV) :=
  getL p3528 fun n3530 c3531 =>
  bnd' (m15 N (.lst false n3530 c3531)) fun p3532 =>
  getB p3532 fun b3535 =>
  brn b3535 (
    bnd' (m16 N ) fun p3537 =>
    getB p3537 fun b3540 =>
    some (.bool b3540)) (
    bnd' (m29 N x3527 (.lst false n3530 c3531)) fun p3563 =>
    getT2 p3563 fun p3566 p3567 =>
    getL p3566 fun n3569 c3570 =>
    getI .i64 p3567 fun x3572 =>
    bnd' (m30 N x3527 (.lst false n3530 c3531)) fun p3588 =>
    getT2 p3588 fun p3591 p3592 =>
    getL p3591 fun n3594 c3595 =>
    getI .i64 p3592 fun x3597 =>
    bnd' (m31 N x3527) fun p3669 =>
    getT2 p3669 fun p3672 p3673 =>
    getL p3672 fun n3675 c3676 =>
    getI .i64 p3673 fun x3678 =>
    bnd' (m32 N x3527) fun p3752 =>
    getT2 p3752 fun p3755 p3756 =>
    getL p3755 fun n3758 c3759 =>
    getI .i64 p3756 fun x3761 =>
    bnd' (m21 N (.lst false n3569 c3570) (.lst false n3594 c3595)) fun p3762 =>
    getB p3762 fun b3765 =>
    brn b3765 (
      brn (x3572 != x3597) (
        some (.bool false)) (
        bnd' (m21 N (.lst false n3675 c3676) (.lst false n3758 c3759)) fun p3768 =>
        getB p3768 fun b3771 =>
        brn b3771 (
          brn (x3678 != x3761) (
            some (.bool false)) (
            bnd' (m33 N x3527 (.lst false n3530 c3531)) fun p3774 =>
            getT2 p3774 fun p3777 p3778 =>
            getL p3777 fun n3780 c3781 =>
            getI .i64 p3778 fun x3783 =>
            bnd' (m34 N x3527 (.lst false n3530 c3531)) fun p4163 =>
            getT2 p4163 fun p4166 p4167 =>
            getL p4166 fun n4169 c4170 =>
            getI .i64 p4167 fun x4172 =>
            bnd' (m35 N x3527 (.lst false n3530 c3531)) fun p4173 =>
            getT2 p4173 fun p4176 p4177 =>
            getI .i64 p4176 fun x4179 =>
            getI .i64 p4177 fun x4181 =>
            bnd' (m36 N x3527 (.lst false n3530 c3531)) fun p4197 =>
            getT2 p4197 fun p4200 p4201 =>
            getI .i64 p4200 fun x4203 =>
            getI .i64 p4201 fun x4205 =>
            bnd' (m22 N (.lst false n3780 c3781) (.lst false n4169 c4170)) fun p4206 =>
            getB p4206 fun b4209 =>
            brn b4209 (
              brn (x3783 == x4172) (
                brn (x4179 == x4203) (
                  brn (x4181 == x4205) (
                    bnd' (m16 N ) fun p4214 =>
                    getB p4214 fun b4217 =>
                    some (.bool b4217)) (
                    some (.bool false))) (
                  some (.bool false))) (
                some (.bool false))) (
              some (.bool false)))) (
          some (.bool false)))) (
      some (.bool false)))
theorem c4 (N : Nat) (x3527 : Int) (p3528 : PV) (r : PV)  (h : m4 N x3527 p3528 = some r) : FnP Tryd.prog 4 [(.int .i64 x3527), p3528] r := by
  unfold m4 at h
  refine Fn_of (sz := 107) tab_ok [0, 1, 4, 5, 6, 7, 8, 9, 10, 11, 12, 13, 14, 15, 16, 18, 61] [.tmp 4] Tryd.func4 rfl rfl rfl (by simp) ?_
  simp only [initSt, initEnv, List.map_cons, List.map_nil, List.getD_cons_zero, List.getD_cons_succ, List.getD_nil]
  have hh := getL_some h; clear h; obtain ⟨n3530, c3531, h3529, h⟩ := hh
  have hh := bnd'_some h; clear h; obtain ⟨p3532, h3533, h⟩ := hh
  refine W_sound tab_ok mixed 8 _ _ _ ?_
  simp -implicitDefEqProofs only [go_sem, qa, qb, qc, qd, qe, qf, qg, qh, qi, qj, qk, ↓reduceIte, h3529]
  repeat with_reducible refine ⟨by first | kernel_rfl | decide, ?_⟩
  refine Wp_callP (c15 N _ _ h3533) (by kernel_rfl) rfl rfl rfl rfl (by decide) ?_
  have hh := getB_some h; clear h; obtain ⟨b3535, h3534, h⟩ := hh
  have hh := brn_some h; clear h; rcases hh with ⟨h3536, h⟩ | ⟨h3536, h⟩
  · have hh := bnd'_some h; clear h; obtain ⟨p3537, h3538, h⟩ := hh
    refine W_sound tab_ok mixed 4 _ _ _ ?_
    simp -implicitDefEqProofs only [go_sem, qa, qb, qc, qd, qe, qf, qg, qh, qi, qj, qk, ↓reduceIte, h3529, h3534, h3536]
    repeat with_reducible refine ⟨by first | kernel_rfl | decide, ?_⟩
    refine Wp_callP (c16 N  _ h3538) (by kernel_rfl) rfl rfl rfl rfl (by decide) ?_
    have hh := getB_some h; clear h; obtain ⟨b3540, h3539, h⟩ := hh
    refine W_sound tab_ok mixed 4 _ _ _ ?_
    simp -implicitDefEqProofs only [go_sem, qa, qb, qc, qd, qe, qf, qg, qh, qi, qj, qk, ↓reduceIte, h3529, h3534, h3536, h3539]
    repeat with_reducible refine ⟨by first | kernel_rfl | decide, ?_⟩
    obtain rfl := Option.some.inj h
    exact finC [(4, .v (.bool b3540))] [(4, .v (.bool b3540))] (by simp [leE, lk_cons]) (.cons _ _ _ _ _ (.v _ _ (.refl _)) .nil) (by rfl) (by simp [leE, lk_cons]) (by decide) (by decide) rfl (by simp only [go_sem, qa, qb, qc, qd, qe, qf, qg, qh, qi, qj, qk, ↓reduceIte, resQ_tmp, resQ_cell, resQ_nil, retD_one, retD_two, retD_three, retD_none]; try simp [R.val, retD_one, retD_two, retD_three, retD_none])
  · have hh := bnd'_some h; clear h; obtain ⟨p3563, h3564, h⟩ := hh
    refine W_sound tab_ok mixed 7 _ _ _ ?_
    simp -implicitDefEqProofs only [go_sem, qa, qb, qc, qd, qe, qf, qg, qh, qi, qj, qk, ↓reduceIte, h3529, h3534, h3536]
    repeat with_reducible refine ⟨by first | kernel_rfl | decide, ?_⟩
    refine Wp_callP (c29 N _ _ _ h3564) (by kernel_rfl) rfl rfl rfl rfl (by decide) ?_
    have hh := getT2_some h; clear h; obtain ⟨p3566, p3567, h3565, h⟩ := hh
    have hh := getL_some h; clear h; obtain ⟨n3569, c3570, h3568, h⟩ := hh
    have hh := getI_some h; clear h; obtain ⟨x3572, h3571, h⟩ := hh
    have hh := bnd'_some h; clear h; obtain ⟨p3588, h3589, h⟩ := hh
    refine W_sound tab_ok mixed 10 _ _ _ ?_
    simp -implicitDefEqProofs only [go_sem, qa, qb, qc, qd, qe, qf, qg, qh, qi, qj, qk, ↓reduceIte, h3529, h3534, h3536, h3565, h3568, h3571]
    repeat with_reducible refine ⟨by first | kernel_rfl | decide, ?_⟩
    refine Wp_callP (c30 N _ _ _ h3589) (by kernel_rfl) rfl rfl rfl rfl (by decide) ?_
    have hh := getT2_some h; clear h; obtain ⟨p3591, p3592, h3590, h⟩ := hh
    have hh := getL_some h; clear h; obtain ⟨n3594, c3595, h3593, h⟩ := hh
    have hh := getI_some h; clear h; obtain ⟨x3597, h3596, h⟩ := hh
    have hh := bnd'_some h; clear h; obtain ⟨p3669, h3670, h⟩ := hh
    refine W_sound tab_ok mixed 9 _ _ _ ?_
    simp -implicitDefEqProofs only [go_sem, qa, qb, qc, qd, qe, qf, qg, qh, qi, qj, qk, ↓reduceIte, h3529, h3534, h3536, h3565, h3568, h3571, h3590, h3593, h3596]
    repeat with_reducible refine ⟨by first | kernel_rfl | decide, ?_⟩
    refine Wp_callP (c31 N _ _ h3670) (by kernel_rfl) rfl rfl rfl rfl (by decide) ?_
    have hh := getT2_some h; clear h; obtain ⟨p3672, p3673, h3671, h⟩ := hh
    have hh := getL_some h; clear h; obtain ⟨n3675, c3676, h3674, h⟩ := hh
    have hh := getI_some h; clear h; obtain ⟨x3678, h3677, h⟩ := hh
    have hh := bnd'_some h; clear h; obtain ⟨p3752, h3753, h⟩ := hh
    refine W_sound tab_ok mixed 9 _ _ _ ?_
    simp -implicitDefEqProofs only [go_sem, qa, qb, qc, qd, qe, qf, qg, qh, qi, qj, qk, ↓reduceIte, h3529, h3534, h3536, h3565, h3568, h3571, h3590, h3593, h3596, h3671, h3674, h3677]
    repeat with_reducible refine ⟨by first | kernel_rfl | decide, ?_⟩
    refine Wp_callP (c32 N _ _ h3753) (by kernel_rfl) rfl rfl rfl rfl (by decide) ?_
    have hh := getT2_some h; clear h; obtain ⟨p3755, p3756, h3754, h⟩ := hh
    have hh := getL_some h; clear h; obtain ⟨n3758, c3759, h3757, h⟩ := hh
    have hh := getI_some h; clear h; obtain ⟨x3761, h3760, h⟩ := hh
    have hh := bnd'_some h; clear h; obtain ⟨p3762, h3763, h⟩ := hh
    refine W_sound tab_ok mixed 11 _ _ _ ?_
    simp -implicitDefEqProofs only [go_sem, qa, qb, qc, qd, qe, qf, qg, qh, qi, qj, qk, ↓reduceIte, h3529, h3534, h3536, h3565, h3568, h3571, h3590, h3593, h3596, h3671, h3674, h3677, h3754, h3757, h3760]
    repeat with_reducible refine ⟨by first | kernel_rfl | decide, ?_⟩
    refine Wp_callP (c21 N _ _ _ h3763) (by kernel_rfl) rfl rfl rfl rfl (by decide) ?_
    have hh := getB_some h; clear h; obtain ⟨b3765, h3764, h⟩ := hh
    have hh := brn_some h; clear h; rcases hh with ⟨h3766, h⟩ | ⟨h3766, h⟩
    · have hh := brn_some h; clear h; rcases hh with ⟨h3767, h⟩ | ⟨h3767, h⟩
      · refine W_sound tab_ok mixed 25 _ _ _ ?_
        simp -implicitDefEqProofs only [go_sem, qa, qb, qc, qd, qe, qf, qg, qh, qi, qj, qk, ↓reduceIte, h3529, h3534, h3536, h3565, h3568, h3571, h3590, h3593, h3596, h3671, h3674, h3677, h3754, h3757, h3760, h3764, h3766, h3767]
        repeat with_reducible refine ⟨by first | kernel_rfl | decide, ?_⟩
        obtain rfl := Option.some.inj h
        exact finC [(4, .v (.bool false))] [(4, .v (.bool false))] (by simp [leE, lk_cons]) (.cons _ _ _ _ _ (.v _ _ (.refl _)) .nil) (by rfl) (by simp [leE, lk_cons]) (by decide) (by decide) rfl (by simp only [go_sem, qa, qb, qc, qd, qe, qf, qg, qh, qi, qj, qk, ↓reduceIte, resQ_tmp, resQ_cell, resQ_nil, retD_one, retD_two, retD_three, retD_none]; try simp [R.val, retD_one, retD_two, retD_three, retD_none])
      · have hh := bnd'_some h; clear h; obtain ⟨p3768, h3769, h⟩ := hh
        refine W_sound tab_ok mixed 9 _ _ _ ?_
        simp -implicitDefEqProofs only [go_sem, qa, qb, qc, qd, qe, qf, qg, qh, qi, qj, qk, ↓reduceIte, h3529, h3534, h3536, h3565, h3568, h3571, h3590, h3593, h3596, h3671, h3674, h3677, h3754, h3757, h3760, h3764, h3766, h3767]
        repeat with_reducible refine ⟨by first | kernel_rfl | decide, ?_⟩
        refine Wp_callP (c21 N _ _ _ h3769) (by kernel_rfl) rfl rfl rfl rfl (by decide) ?_
        have hh := getB_some h; clear h; obtain ⟨b3771, h3770, h⟩ := hh
        have hh := brn_some h; clear h; rcases hh with ⟨h3772, h⟩ | ⟨h3772, h⟩
        · have hh := brn_some h; clear h; rcases hh with ⟨h3773, h⟩ | ⟨h3773, h⟩
          · refine W_sound tab_ok mixed 15 _ _ _ ?_
            simp -implicitDefEqProofs only [go_sem, qa, qb, qc, qd, qe, qf, qg, qh, qi, qj, qk, ↓reduceIte, h3529, h3534, h3536, h3565, h3568, h3571, h3590, h3593, h3596, h3671, h3674, h3677, h3754, h3757, h3760, h3764, h3766, h3767, h3770, h3772, h3773]
            repeat with_reducible refine ⟨by first | kernel_rfl | decide, ?_⟩
            obtain rfl := Option.some.inj h
            exact finC [(4, .v (.bool false))] [(4, .v (.bool false))] (by simp [leE, lk_cons]) (.cons _ _ _ _ _ (.v _ _ (.refl _)) .nil) (by rfl) (by simp [leE, lk_cons]) (by decide) (by decide) rfl (by simp only [go_sem, qa, qb, qc, qd, qe, qf, qg, qh, qi, qj, qk, ↓reduceIte, resQ_tmp, resQ_cell, resQ_nil, retD_one, retD_two, retD_three, retD_none]; try simp [R.val, retD_one, retD_two, retD_three, retD_none])
          · have hh := bnd'_some h; clear h; obtain ⟨p3774, h3775, h⟩ := hh
            refine W_sound tab_ok mixed 14 _ _ _ ?_
            simp -implicitDefEqProofs only [go_sem, qa, qb, qc, qd, qe, qf, qg, qh, qi, qj, qk, ↓reduceIte, h3529, h3534, h3536, h3565, h3568, h3571, h3590, h3593, h3596, h3671, h3674, h3677, h3754, h3757, h3760, h3764, h3766, h3767, h3770, h3772, h3773]
            repeat with_reducible refine ⟨by first | kernel_rfl | decide, ?_⟩
            refine Wp_callP (c33 N _ _ _ h3775) (by kernel_rfl) rfl rfl rfl rfl (by decide) ?_
            have hh := getT2_some h; clear h; obtain ⟨p3777, p3778, h3776, h⟩ := hh
            have hh := getL_some h; clear h; obtain ⟨n3780, c3781, h3779, h⟩ := hh
            have hh := getI_some h; clear h; obtain ⟨x3783, h3782, h⟩ := hh
            have hh := bnd'_some h; clear h; obtain ⟨p4163, h4164, h⟩ := hh
            refine W_sound tab_ok mixed 10 _ _ _ ?_
            simp -implicitDefEqProofs only [go_sem, qa, qb, qc, qd, qe, qf, qg, qh, qi, qj, qk, ↓reduceIte, h3529, h3534, h3536, h3565, h3568, h3571, h3590, h3593, h3596, h3671, h3674, h3677, h3754, h3757, h3760, h3764, h3766, h3767, h3770, h3772, h3773, h3776, h3779, h3782]
            repeat with_reducible refine ⟨by first | kernel_rfl | decide, ?_⟩
            refine Wp_callP (c34 N _ _ _ h4164) (by kernel_rfl) rfl rfl rfl rfl (by decide) ?_
            have hh := getT2_some h; clear h; obtain ⟨p4166, p4167, h4165, h⟩ := hh
            have hh := getL_some h; clear h; obtain ⟨n4169, c4170, h4168, h⟩ := hh
            have hh := getI_some h; clear h; obtain ⟨x4172, h4171, h⟩ := hh
            have hh := bnd'_some h; clear h; obtain ⟨p4173, h4174, h⟩ := hh
            refine W_sound tab_ok mixed 10 _ _ _ ?_
            simp -implicitDefEqProofs only [go_sem, qa, qb, qc, qd, qe, qf, qg, qh, qi, qj, qk, ↓reduceIte, h3529, h3534, h3536, h3565, h3568, h3571, h3590, h3593, h3596, h3671, h3674, h3677, h3754, h3757, h3760, h3764, h3766, h3767, h3770, h3772, h3773, h3776, h3779, h3782, h4165, h4168, h4171]
            repeat with_reducible refine ⟨by first | kernel_rfl | decide, ?_⟩
            refine Wp_callP (c35 N _ _ _ h4174) (by kernel_rfl) rfl rfl rfl rfl (by decide) ?_
            have hh := getT2_some h; clear h; obtain ⟨p4176, p4177, h4175, h⟩ := hh
            have hh := getI_some h; clear h; obtain ⟨x4179, h4178, h⟩ := hh
            have hh := getI_some h; clear h; obtain ⟨x4181, h4180, h⟩ := hh
            have hh := bnd'_some h; clear h; obtain ⟨p4197, h4198, h⟩ := hh
            refine W_sound tab_ok mixed 10 _ _ _ ?_
            simp -implicitDefEqProofs only [go_sem, qa, qb, qc, qd, qe, qf, qg, qh, qi, qj, qk, ↓reduceIte, h3529, h3534, h3536, h3565, h3568, h3571, h3590, h3593, h3596, h3671, h3674, h3677, h3754, h3757, h3760, h3764, h3766, h3767, h3770, h3772, h3773, h3776, h3779, h3782, h4165, h4168, h4171, h4175, h4178, h4180]
            repeat with_reducible refine ⟨by first | kernel_rfl | decide, ?_⟩
            refine Wp_callP (c36 N _ _ _ h4198) (by kernel_rfl) rfl rfl rfl rfl (by decide) ?_
            have hh := getT2_some h; clear h; obtain ⟨p4200, p4201, h4199, h⟩ := hh
            have hh := getI_some h; clear h; obtain ⟨x4203, h4202, h⟩ := hh
            have hh := getI_some h; clear h; obtain ⟨x4205, h4204, h⟩ := hh
            have hh := bnd'_some h; clear h; obtain ⟨p4206, h4207, h⟩ := hh
            refine W_sound tab_ok mixed 10 _ _ _ ?_
            simp -implicitDefEqProofs only [go_sem, qa, qb, qc, qd, qe, qf, qg, qh, qi, qj, qk, ↓reduceIte, h3529, h3534, h3536, h3565, h3568, h3571, h3590, h3593, h3596, h3671, h3674, h3677, h3754, h3757, h3760, h3764, h3766, h3767, h3770, h3772, h3773, h3776, h3779, h3782, h4165, h4168, h4171, h4175, h4178, h4180, h4199, h4202, h4204]
            repeat with_reducible refine ⟨by first | kernel_rfl | decide, ?_⟩
            refine Wp_callP (c22 N _ _ _ h4207) (by kernel_rfl) rfl rfl rfl rfl (by decide) ?_
            have hh := getB_some h; clear h; obtain ⟨b4209, h4208, h⟩ := hh
            have hh := brn_some h; clear h; rcases hh with ⟨h4210, h⟩ | ⟨h4210, h⟩
            · have hh := brn_some h; clear h; rcases hh with ⟨h4211, h⟩ | ⟨h4211, h⟩
              · have hh := brn_some h; clear h; rcases hh with ⟨h4212, h⟩ | ⟨h4212, h⟩
                · have hh := brn_some h; clear h; rcases hh with ⟨h4213, h⟩ | ⟨h4213, h⟩
                  · have hh := bnd'_some h; clear h; obtain ⟨p4214, h4215, h⟩ := hh
                    refine W_sound tab_ok mixed 16 _ _ _ ?_
                    simp -implicitDefEqProofs only [go_sem, qa, qb, qc, qd, qe, qf, qg, qh, qi, qj, qk, ↓reduceIte, h3529, h3534, h3536, h3565, h3568, h3571, h3590, h3593, h3596, h3671, h3674, h3677, h3754, h3757, h3760, h3764, h3766, h3767, h3770, h3772, h3773, h3776, h3779, h3782, h4165, h4168, h4171, h4175, h4178, h4180, h4199, h4202, h4204, h4208, h4210, h4211, h4212, h4213]
                    repeat with_reducible refine ⟨by first | kernel_rfl | decide, ?_⟩
                    refine Wp_callP (c16 N  _ h4215) (by kernel_rfl) rfl rfl rfl rfl (by decide) ?_
                    have hh := getB_some h; clear h; obtain ⟨b4217, h4216, h⟩ := hh
                    refine W_sound tab_ok mixed 5 _ _ _ ?_
                    simp -implicitDefEqProofs only [go_sem, qa, qb, qc, qd, qe, qf, qg, qh, qi, qj, qk, ↓reduceIte, h3529, h3534, h3536, h3565, h3568, h3571, h3590, h3593, h3596, h3671, h3674, h3677, h3754, h3757, h3760, h3764, h3766, h3767, h3770, h3772, h3773, h3776, h3779, h3782, h4165, h4168, h4171, h4175, h4178, h4180, h4199, h4202, h4204, h4208, h4210, h4211, h4212, h4213, h4216]
                    repeat with_reducible refine ⟨by first | kernel_rfl | decide, ?_⟩
                    obtain rfl := Option.some.inj h
                    exact finC [(4, .v (.bool b4217))] [(4, .v (.bool b4217))] (by simp [leE, lk_cons]) (.cons _ _ _ _ _ (.v _ _ (.refl _)) .nil) (by rfl) (by simp [leE, lk_cons]) (by decide) (by decide) rfl (by simp only [go_sem, qa, qb, qc, qd, qe, qf, qg, qh, qi, qj, qk, ↓reduceIte, resQ_tmp, resQ_cell, resQ_nil, retD_one, retD_two, retD_three, retD_none]; try simp [R.val, retD_one, retD_two, retD_three, retD_none])
                  · refine W_sound tab_ok mixed 22 _ _ _ ?_
                    simp -implicitDefEqProofs only [go_sem, qa, qb, qc, qd, qe, qf, qg, qh, qi, qj, qk, ↓reduceIte, h3529, h3534, h3536, h3565, h3568, h3571, h3590, h3593, h3596, h3671, h3674, h3677, h3754, h3757, h3760, h3764, h3766, h3767, h3770, h3772, h3773, h3776, h3779, h3782, h4165, h4168, h4171, h4175, h4178, h4180, h4199, h4202, h4204, h4208, h4210, h4211, h4212, h4213]
                    repeat with_reducible refine ⟨by first | kernel_rfl | decide, ?_⟩
                    obtain rfl := Option.some.inj h
                    exact finC [(4, .v (.bool false))] [(4, .v (.bool false))] (by simp [leE, lk_cons]) (.cons _ _ _ _ _ (.v _ _ (.refl _)) .nil) (by rfl) (by simp [leE, lk_cons]) (by decide) (by decide) rfl (by simp only [go_sem, qa, qb, qc, qd, qe, qf, qg, qh, qi, qj, qk, ↓reduceIte, resQ_tmp, resQ_cell, resQ_nil, retD_one, retD_two, retD_three, retD_none]; try simp [R.val, retD_one, retD_two, retD_three, retD_none])
                · refine W_sound tab_ok mixed 22 _ _ _ ?_
                  simp -implicitDefEqProofs only [go_sem, qa, qb, qc, qd, qe, qf, qg, qh, qi, qj, qk, ↓reduceIte, h3529, h3534, h3536, h3565, h3568, h3571, h3590, h3593, h3596, h3671, h3674, h3677, h3754, h3757, h3760, h3764, h3766, h3767, h3770, h3772, h3773, h3776, h3779, h3782, h4165, h4168, h4171, h4175, h4178, h4180, h4199, h4202, h4204, h4208, h4210, h4211, h4212]
                  repeat with_reducible refine ⟨by first | kernel_rfl | decide, ?_⟩
                  obtain rfl := Option.some.inj h
                  exact finC [(4, .v (.bool false))] [(4, .v (.bool false))] (by simp [leE, lk_cons]) (.cons _ _ _ _ _ (.v _ _ (.refl _)) .nil) (by rfl) (by simp [leE, lk_cons]) (by decide) (by decide) rfl (by simp only [go_sem, qa, qb, qc, qd, qe, qf, qg, qh, qi, qj, qk, ↓reduceIte, resQ_tmp, resQ_cell, resQ_nil, retD_one, retD_two, retD_three, retD_none]; try simp [R.val, retD_one, retD_two, retD_three, retD_none])
              · refine W_sound tab_ok mixed 22 _ _ _ ?_
                simp -implicitDefEqProofs only [go_sem, qa, qb, qc, qd, qe, qf, qg, qh, qi, qj, qk, ↓reduceIte, h3529, h3534, h3536, h3565, h3568, h3571, h3590, h3593, h3596, h3671, h3674, h3677, h3754, h3757, h3760, h3764, h3766, h3767, h3770, h3772, h3773, h3776, h3779, h3782, h4165, h4168, h4171, h4175, h4178, h4180, h4199, h4202, h4204, h4208, h4210, h4211]
                repeat with_reducible refine ⟨by first | kernel_rfl | decide, ?_⟩
                obtain rfl := Option.some.inj h
                exact finC [(4, .v (.bool false))] [(4, .v (.bool false))] (by simp [leE, lk_cons]) (.cons _ _ _ _ _ (.v _ _ (.refl _)) .nil) (by rfl) (by simp [leE, lk_cons]) (by decide) (by decide) rfl (by simp only [go_sem, qa, qb, qc, qd, qe, qf, qg, qh, qi, qj, qk, ↓reduceIte, resQ_tmp, resQ_cell, resQ_nil, retD_one, retD_two, retD_three, retD_none]; try simp [R.val, retD_one, retD_two, retD_three, retD_none])
            · refine W_sound tab_ok mixed 22 _ _ _ ?_
              simp -implicitDefEqProofs only [go_sem, qa, qb, qc, qd, qe, qf, qg, qh, qi, qj, qk, ↓reduceIte, h3529, h3534, h3536, h3565, h3568, h3571, h3590, h3593, h3596, h3671, h3674, h3677, h3754, h3757, h3760, h3764, h3766, h3767, h3770, h3772, h3773, h3776, h3779, h3782, h4165, h4168, h4171, h4175, h4178, h4180, h4199, h4202, h4204, h4208, h4210]
              repeat with_reducible refine ⟨by first | kernel_rfl | decide, ?_⟩
              obtain rfl := Option.some.inj h
              exact finC [(4, .v (.bool false))] [(4, .v (.bool false))] (by simp [leE, lk_cons]) (.cons _ _ _ _ _ (.v _ _ (.refl _)) .nil) (by rfl) (by simp [leE, lk_cons]) (by decide) (by decide) rfl (by simp only [go_sem, qa, qb, qc, qd, qe, qf, qg, qh, qi, qj, qk, ↓reduceIte, resQ_tmp, resQ_cell, resQ_nil, retD_one, retD_two, retD_three, retD_none]; try simp [R.val, retD_one, retD_two, retD_three, retD_none])
        · refine W_sound tab_ok mixed 15 _ _ _ ?_
          simp -implicitDefEqProofs only [go_sem, qa, qb, qc, qd, qe, qf, qg, qh, qi, qj, qk, ↓reduceIte, h3529, h3534, h3536, h3565, h3568, h3571, h3590, h3593, h3596, h3671, h3674, h3677, h3754, h3757, h3760, h3764, h3766, h3767, h3770, h3772]
          repeat with_reducible refine ⟨by first | kernel_rfl | decide, ?_⟩
          obtain rfl := Option.some.inj h
          exact finC [(4, .v (.bool false))] [(4, .v (.bool false))] (by simp [leE, lk_cons]) (.cons _ _ _ _ _ (.v _ _ (.refl _)) .nil) (by rfl) (by simp [leE, lk_cons]) (by decide) (by decide) rfl (by simp only [go_sem, qa, qb, qc, qd, qe, qf, qg, qh, qi, qj, qk, ↓reduceIte, resQ_tmp, resQ_cell, resQ_nil, retD_one, retD_two, retD_three, retD_none]; try simp [R.val, retD_one, retD_two, retD_three, retD_none])
    · refine W_sound tab_ok mixed 25 _ _ _ ?_
      simp -implicitDefEqProofs only [go_sem, qa, qb, qc, qd, qe, qf, qg, qh, qi, qj, qk, ↓reduceIte, h3529, h3534, h3536, h3565, h3568, h3571, h3590, h3593, h3596, h3671, h3674, h3677, h3754, h3757, h3760, h3764, h3766]
      repeat with_reducible refine ⟨by first | kernel_rfl | decide, ?_⟩
      obtain rfl := Option.some.inj h
      exact finC [(4, .v (.bool false))] [(4, .v (.bool false))] (by simp [leE, lk_cons]) (.cons _ _ _ _ _ (.v _ _ (.refl _)) .nil) (by rfl) (by simp [leE, lk_cons]) (by decide) (by decide) rfl (by simp only [go_sem, qa, qb, qc, qd, qe, qf, qg, qh, qi, qj, qk, ↓reduceIte, resQ_tmp, resQ_cell, resQ_nil, retD_one, retD_two, retD_three, retD_none]; try simp [R.val, retD_one, retD_two, retD_three, retD_none])
end Go.Proofs.YtcaecfofgdogbaaDoor
namespace Go.Proofs.YtcaecfofgdogbaaDoor
open Go.V
set_option linter.unusedSectionVars false
theorem brn_t {α : Type} {b : Bool} {x y : Option α} (h : b = true) : brn b x y = x := by subst h; rfl
theorem brn_f {α : Type} {b : Bool} {x y : Option α} (h : b = false) : brn b x y = y := by subst h; rfl
theorem grd_t {α : Type} {p : Prop} [Decidable p] {k : Option α} (h : p) : grd p k = k := by simp [grd, h]
theorem brn_dt {α : Type} {p : Prop} [Decidable p] {x y : Option α} (h : p) : brn (decide p) x y = x := brn_t (decide_eq_true h)
theorem brn_df {α : Type} {p : Prop} [Decidable p] {x y : Option α} (h : ¬ p) : brn (decide p) x y = y := brn_f (decide_eq_false h)
theorem brn_et {α : Type} {a b : Int} {x y : Option α} (h : a = b) : brn (a == b) x y = x := brn_t (by simpa using h)
theorem brn_ef {α : Type} {a b : Int} {x y : Option α} (h : a ≠ b) : brn (a == b) x y = y := brn_f (by simpa using h)
theorem brn_nt {α : Type} {a b : Int} {x y : Option α} (h : a ≠ b) : brn (a != b) x y = x := brn_t (by simpa using h)
theorem brn_nf {α : Type} {a b : Int} {x y : Option α} (h : a = b) : brn (a != b) x y = y := brn_f (by simpa using h)
theorem bnd_t {α β : Type} {x : α} {f : α → Option β} : bnd' (some x) f = f x := rfl
theorem getI_t {α : Type} {k : IntKind} {x : Int} {f : Int → Option α} : getI k (.int k x) f = f x := by simp [getI]
theorem getB_t {α : Type} {b : Bool} {f : Bool → Option α} : getB (.bool b) f = f b := rfl
theorem getL_t {α : Type} {n : Nat} {c : List PV} {f : Nat → List PV → Option α} : getL (.lst false n c) f = f n c := rfl
theorem getT2_t {α : Type} {a b : PV} {f : PV → PV → Option α} : getT2 (.tup [a, b]) f = f a b := rfl
theorem getT0_t {α : Type} {k : Option α} : getT0 (.tup []) k = k := rfl
theorem wrapN {n : Nat} (h : n ≤ 100000) : IntKind.i64.wrap ((n : Int) + 1) = ((n + 1 : Nat) : Int) := by
  rw [wrap64 (by omega) (by omega)]; omega
theorem toNatN (n : Nat) : Int.toNat (n : Int) = n := by omega
theorem range'_step {i n : Nat} (h : i < n) : List.range' i (n - i) = i :: List.range' (i + 1) (n - (i + 1)) := by
  rw [show n - i = (n - (i + 1)) + 1 by omega, List.range'_succ]
def iL (X : List Int) : List PV := X.map (PV.int .i64)
theorem iL_len (X : List Int) : (iL X).length = X.length := by simp [iL]
def en (X : List Int) (i : Nat) : Int := X.getD i 0
theorem iL_gp {X : List Int} {i : Nat} (h : i < X.length) : gp (iL X) i = .int .i64 (en X i) := by
  simp [iL, gp, en, List.getD, h]
theorem iL_set (w : List Int) (j : Nat) (x : Int) : (iL w).set j (.int .i64 x) = iL (w.set j x) := by simp [iL, List.map_set]
theorem iL_app (X : List Int) (x : Int) : iL X ++ [.int .i64 x] = iL (X ++ [x]) := by simp [iL]
theorem iL_take (X : List Int) (n : Nat) : (iL X).take n = iL (X.take n) := by simp [iL]
def rwP (r : List Int) : PV := .lst false r.length (iL r)
def rwsP (L : List (List Int)) : List PV := L.map rwP
theorem rws_len (L : List (List Int)) : (rwsP L).length = L.length := by simp [rwsP]
def ro (L : List (List Int)) (i : Nat) : List Int := L.getD i []
theorem rws_gp {L : List (List Int)} {i : Nat} (h : i < L.length) : gp (rwsP L) i = .lst false (ro L i).length (iL (ro L i)) := by
  simp [rwsP, gp, ro, rwP, List.getD, h]
theorem rws_app (L : List (List Int)) (r : List Int) : rwsP L ++ [rwP r] = rwsP (L ++ [r]) := by simp [rwsP]
theorem rws_take (L : List (List Int)) (n : Nat) : (rwsP L).take n = rwsP (L.take n) := by simp [rwsP]
theorem ro_mem {L : List (List Int)} {i : Nat} (h : i < L.length) : ro L i ∈ L := by
  simp [ro, List.getD, h]
theorem drop_ro {L : List (List Int)} {i : Nat} (h : i < L.length) : L.drop i = ro L i :: L.drop (i + 1) := by
  rw [List.drop_eq_getElem_cons h]; simp [ro, List.getD, h]
theorem drop_en {L : List Int} {i : Nat} (h : i < L.length) : L.drop i = en L i :: L.drop (i + 1) := by
  rw [List.drop_eq_getElem_cons h]; simp [en, List.getD, h]
theorem take_en {L : List Int} {i : Nat} (h : i < L.length) : L.take (i + 1) = L.take i ++ [en L i] := by
  rw [List.take_succ_eq_append_getElem h]; simp [en, List.getD, h]
theorem take_ro {L : List (List Int)} {i : Nat} (h : i < L.length) : L.take (i + 1) = L.take i ++ [ro L i] := by
  rw [List.take_succ_eq_append_getElem h]; simp [ro, List.getD, h]
theorem en_set {w : List Int} {j k : Nat} {x : Int} (hj : j < w.length) : en (w.set j x) k = if k = j then x else en w k := by
  unfold en
  by_cases h : k = j
  · subst h; simp [List.getD, hj]
  · rw [if_neg h]; simp [List.getD, List.getElem?_set_ne (Ne.symm h)]
theorem gI_n {α : Type} {X : List Int} {i : Nat} {f : Int → Option α} (h : i < X.length) : getI .i64 (gp (iL X) (Int.toNat (i : Int))) f = f (en X i) := by
  rw [toNatN, iL_gp h, getI_t]
theorem gL_n {α : Type} {L : List (List Int)} {i : Nat} {f : Nat → List PV → Option α} (h : i < L.length) : getL (gp (rwsP L) (Int.toNat (i : Int))) f = f (ro L i).length (iL (ro L i)) := by
  rw [toNatN, rws_gp h, getL_t]
def lgL (L : List (List Int)) : Bool := decide (30 < L.length) || L.any fun r => decide (30 < r.length)
theorem large_L (N : Nat) (L : List (List Int)) (hL : L.length ≤ 30) : ∀ (r i fuel : Nat), L.length - i = r → r < fuel →
    m15_L0 N L.length (rwsP L) fuel (i : Int) = some (if (L.drop i).any (fun r => decide (30 < r.length)) then .inl (.bool true) else .inr ())
  | r, i, 0, _, h => by omega
  | r, i, f + 1, hr, hf => by
    have hl := rws_len L
    rw [m15_L0]
    by_cases hi : i < L.length
    · have ih := large_L N L hL (r - 1) (i + 1) f (by omega) (by omega)
      rw [brn_dt (by omega), toNatN, grd_t ⟨by omega, by omega⟩, grd_t (by simp only [List.length_drop]; omega), rws_gp hi, drop_ro hi, getL_t, List.any_cons]
      by_cases h : 30 < (ro L i).length
      · rw [brn_dt (by omega)]; simp [h]
      · rw [brn_df (by omega), wrapN (by omega), ih]; simp [h]
    · rw [brn_df (by omega), List.drop_eq_nil_of_le (by omega)]; rfl
theorem large_ok (N : Nat) (hN : 100 ≤ N) (L : List (List Int)) : m15 N (.lst false L.length (rwsP L)) = some (.bool (lgL L)) := by
  rw [m15, getL_t]
  by_cases h : 30 < L.length
  · rw [brn_dt (by omega)]; simp [lgL, h]
  · have := large_L N L (by omega) L.length 0 N (by omega) (by omega)
    rw [brn_df (by omega), show m15_L0 N L.length (rwsP L) N 0 = _ from this, List.drop_zero, bnd_t]
    simp only [lgL, h, decide_false, Bool.false_or]
    cases L.any fun r => decide (30 < r.length) <;> rfl
theorem isame_L (N : Nat) (X : List Int) (hX : X.length ≤ 1000) : ∀ (s i fuel : Nat), X.length - i = s → s < fuel →
    m22_L0 N X.length (iL X) X.length (iL X) fuel (i : Int) = some (.inr ())
  | s, i, 0, _, h => by omega
  | s, i, f + 1, hs, hf => by
    rw [m22_L0]
    by_cases hi : i < X.length
    · have ih := isame_L N X hX (s - 1) (i + 1) f (by omega) (by omega)
      rw [brn_dt (by omega)]
      simp (disch := (try simp only [List.length_drop, iL_len, rws_len, toNatN]) <;> omega) only [↓grd_t, ↓gI_n]
      rw [brn_nf rfl, wrapN (by omega), ih]
    · rw [brn_df (by omega)]
theorem isame_ok (N : Nat) (hN : 2000 ≤ N) (X : List Int) (hX : X.length ≤ 1000) : m22 N (.lst false X.length (iL X)) (.lst false X.length (iL X)) = some (.bool true) := by
  have := isame_L N X hX X.length 0 N (by omega) (by omega)
  rw [m22, getL_t, getL_t, brn_nf rfl, show m22_L0 N X.length (iL X) X.length (iL X) N 0 = _ from this]
  rfl
theorem lsame_L (N : Nat) (hN : 2000 ≤ N) (L : List (List Int)) (hX : L.length ≤ 1000) (hr : ∀ r ∈ L, r.length ≤ 1000) : ∀ (s i fuel : Nat), L.length - i = s → s < fuel →
    m21_L0 N L.length (rwsP L) L.length (rwsP L) fuel (i : Int) = some (.inr ())
  | s, i, 0, _, h => by omega
  | s, i, f + 1, hs, hf => by
    rw [m21_L0]
    by_cases hi : i < L.length
    · have ih := lsame_L N hN L hX hr (s - 1) (i + 1) f (by omega) (by omega)
      rw [brn_dt (by omega)]
      simp (disch := (try simp only [List.length_drop, iL_len, rws_len, toNatN]) <;> omega) only [↓grd_t, ↓gL_n]
      rw [isame_ok N hN _ (hr _ (ro_mem hi)), bnd_t, getB_t, brn_t rfl, wrapN (by omega), ih]
    · rw [brn_df (by omega)]
theorem lsame_ok (N : Nat) (hN : 2000 ≤ N) (L : List (List Int)) (hX : L.length ≤ 1000) (hr : ∀ r ∈ L, r.length ≤ 1000) : m21 N (.lst false L.length (rwsP L)) (.lst false L.length (rwsP L)) = some (.bool true) := by
  have := lsame_L N hN L hX hr L.length 0 N (by omega) (by omega)
  rw [m21, getL_t, getL_t, brn_nf rfl, show m21_L0 N L.length (rwsP L) L.length (rwsP L) N 0 = _ from this]
  rfl
theorem b_or : ∀ x : Nat, x < 32 → ∀ s : Nat, s < 5 → bitsI .or .u64 (x : Int) (IntKind.u64.wrap (1 * 2 ^ (min s 64))) = ((x ||| 2 ^ s : Nat) : Int) := by decide +kernel
theorem b_un : ∀ x : Nat, x < 32 → ∀ s : Nat, s < 5 → bitsI .andNot .u64 (x : Int) (IntKind.u64.wrap (1 * 2 ^ (min s 64))) = ((x &&& (31 - 2 ^ s) : Nat) : Int) := by decide +kernel
theorem b_diff : ∀ x : Nat, x < 32 → ∀ y : Nat, y < 32 → bitsI .andNot .u64 (x : Int) (y : Int) = ((x &&& (31 - y) : Nat) : Int) := by decide +kernel
theorem b_all : ∀ n : Nat, n < 6 → IntKind.u64.wrap ((IntKind.u64.wrap (1 * 2 ^ (min n 64))) - 1) = ((2 ^ n - 1 : Nat) : Int) := by decide +kernel
theorem b_tst : ∀ x : Nat, x < 32 → ∀ s : Nat, s < 5 → (bitsI .and .u64 (Int.fdiv (x : Int) (2 ^ (min s 64))) 1 == 1) = x.testBit s := by decide +kernel
theorem b_rest : ∀ x : Nat, x < 32 → x ≠ 0 → bitsI .and .u64 (x : Int) (IntKind.u64.wrap ((x : Int) - 1)) = ((x &&& (x - 1) : Nat) : Int) := by decide +kernel
def bits (x : Nat) : List Nat := (List.range 5).filter fun s => x.testBit s
def low (x : Nat) : Nat := (bits x).headD 0
theorem bits_step : ∀ x : Nat, x < 32 → x ≠ 0 → bits x = low x :: bits (x &&& (x - 1)) ∧ x &&& (x - 1) < x ∧ low x < 5 := by decide +kernel
theorem bits_zero : bits 0 = [] := by decide
theorem tz_ok (N : Nat) : ∀ x : Nat, x < 32 → x ≠ 0 → m87 N (x : Int) = some (.int .i64 (low x : Int)) := by
  have h : ∀ x : Nat, x < 32 → x ≠ 0 → (match m96 0 (x : Int) with | some (.int k y) => decide (k = .i64) && decide (y = (low x : Int)) | _ => false) = true := by decide +kernel
  intro x hx h0
  have h1 := h x hx h0
  rw [m87, show m96 N (x : Int) = m96 0 (x : Int) from rfl]
  split at h1
  · rename_i k y e
    simp only [Bool.and_eq_true, decide_eq_true_eq] at h1
    rw [e, h1.1, h1.2, bnd_t, getI_t]
  · cases h1
theorem or_lt : ∀ x : Nat, x < 32 → ∀ s : Nat, s < 5 → x ||| 2 ^ s < 32 := by decide +kernel
theorem un_lt : ∀ x : Nat, x < 32 → ∀ s : Nat, s < 5 → x &&& (31 - 2 ^ s) < 32 := by decide +kernel
theorem diff_lt : ∀ x : Nat, x < 32 → ∀ y : Nat, y < 32 → x &&& (31 - y) < 32 := by decide +kernel
theorem un_or : ∀ x : Nat, x < 32 → ∀ s : Nat, s < 5 → x.testBit s = false → (x ||| 2 ^ s) &&& (31 - 2 ^ s) = x := by decide +kernel
theorem mem_bits {x s : Nat} : s ∈ bits x ↔ s < 5 ∧ x.testBit s = true := by simp [bits]
theorem tst_or : ∀ x : Nat, x < 32 → ∀ s : Nat, s < 5 → ∀ t : Nat, t < 5 → (x ||| 2 ^ s).testBit t = (x.testBit t || decide (t = s)) := by decide +kernel
theorem tst_diff : ∀ x : Nat, x < 32 → ∀ y : Nat, y < 32 → ∀ t : Nat, t < 5 → (x &&& (31 - y)).testBit t = (x.testBit t && !y.testBit t) := by decide +kernel
theorem tst_all : ∀ n : Nat, n < 6 → ∀ t : Nat, t < 5 → (2 ^ n - 1).testBit t = decide (t < n) := by decide +kernel
def uL (X : List Nat) : List PV := X.map fun (b : Nat) => PV.int .u64 (b : Int)
def bn (X : List Nat) (i : Nat) : Nat := X.getD i 0
def tblP (n : Nat) (A : List Int) (B D : List Nat) : List PV := .int .i64 (n : Int) :: (iL A ++ (uL B ++ uL D))
structure Tb (A : List Int) (B D : List Nat) : Prop where
  la : A.length = 25
  lb : B.length = 5
  ld : D.length = 5
  b32 : ∀ i, i < 5 → bn B i < 32
  d32 : ∀ i, i < 5 → bn D i < 32
theorem uL_len (X : List Nat) : (uL X).length = X.length := by simp [uL]
theorem bn_set {w : List Nat} {j k : Nat} {x : Nat} (hj : j < w.length) : bn (w.set j x) k = if k = j then x else bn w k := by
  unfold bn
  by_cases h : k = j
  · subst h; simp [List.getD, hj]
  · rw [if_neg h]; simp [List.getD, List.getElem?_set_ne (Ne.symm h)]
theorem tbl_len {n : Nat} {A : List Int} {B D : List Nat} (h : Tb A B D) : (tblP n A B D).length = 36 := by
  have := h.la; have := h.lb; have := h.ld
  simp only [tblP, List.length_cons, List.length_append, iL_len, uL_len]; omega
theorem gp_cons {p : PV} {l : List PV} {i : Nat} : gp (p :: l) (i + 1) = gp l i := by simp [gp]
theorem gp_left {l m : List PV} {i : Nat} (h : i < l.length) : gp (l ++ m) i = gp l i := by simp [gp, List.getD, List.getElem?_append_left h]
theorem gp_right {l m : List PV} {i j : Nat} (h : i = l.length + j) : gp (l ++ m) i = gp m j := by
  subst h; simp [gp, List.getD, List.getElem?_append_right]
theorem uL_gp {X : List Nat} {i : Nat} (h : i < X.length) : gp (uL X) i = .int .u64 (bn X i : Int) := by
  simp [uL, gp, bn, List.getD, h]
theorem gp_0 {n : Nat} {A : List Int} {B D : List Nat} : gp (tblP n A B D) 0 = .int .i64 (n : Int) := rfl
theorem gp_a {n : Nat} {A : List Int} {B D : List Nat} (h : Tb A B D) {j : Nat} (hj : j < 25) : gp (tblP n A B D) (1 + j) = .int .i64 (en A j) := by
  have := h.la
  rw [Nat.add_comm, tblP, gp_cons, gp_left (by rw [iL_len]; omega), iL_gp (by omega)]
theorem gp_b {n : Nat} {A : List Int} {B D : List Nat} (h : Tb A B D) {i : Nat} (hi : i < 5) : gp (tblP n A B D) (26 + i) = .int .u64 (bn B i : Int) := by
  have := h.la; have := h.lb
  rw [show 26 + i = (25 + i) + 1 by omega, tblP, gp_cons, gp_right (j := i) (by rw [iL_len]; omega), gp_left (by rw [uL_len]; omega), uL_gp (by omega)]
theorem gp_d {n : Nat} {A : List Int} {B D : List Nat} (h : Tb A B D) {i : Nat} (hi : i < 5) : gp (tblP n A B D) (31 + i) = .int .u64 (bn D i : Int) := by
  have := h.la; have := h.lb; have := h.ld
  rw [show 31 + i = (30 + i) + 1 by omega, tblP, gp_cons, gp_right (j := 5 + i) (by rw [iL_len]; omega), gp_right (j := i) (by rw [uL_len]; omega), uL_gp (by omega)]
theorem uL_set (w : List Nat) (j : Nat) (x : Nat) : (uL w).set j (.int .u64 (x : Int)) = uL (w.set j x) := by simp [uL, List.map_set]
theorem set_a {n : Nat} {A : List Int} {B D : List Nat} (h : Tb A B D) {j : Nat} {x : Int} (hj : j < 25) : (tblP n A B D).set (1 + j) (.int .i64 x) = tblP n (A.set j x) B D := by
  have := h.la
  rw [Nat.add_comm, tblP, List.set_cons_succ, List.set_append_left _ _ (by rw [iL_len]; omega), iL_set]; rfl
theorem set_b {n : Nat} {A : List Int} {B D : List Nat} (h : Tb A B D) {i : Nat} {x : Nat} (hi : i < 5) : (tblP n A B D).set (26 + i) (.int .u64 (x : Int)) = tblP n A (B.set i x) D := by
  have := h.la; have := h.lb
  rw [show 26 + i = (25 + i) + 1 by omega, tblP, List.set_cons_succ, List.set_append_right _ _ (by rw [iL_len]; omega), iL_len, show 25 + i - A.length = i by omega, List.set_append_left _ _ (by rw [uL_len]; omega), uL_set]; rfl
theorem set_d {n : Nat} {A : List Int} {B D : List Nat} (h : Tb A B D) {i : Nat} {x : Nat} (hi : i < 5) : (tblP n A B D).set (31 + i) (.int .u64 (x : Int)) = tblP n A B (D.set i x) := by
  have := h.la; have := h.lb; have := h.ld
  rw [show 31 + i = (30 + i) + 1 by omega, tblP, List.set_cons_succ, List.set_append_right _ _ (by rw [iL_len]; omega), iL_len, List.set_append_right _ _ (by rw [uL_len]; omega), uL_len, show 30 + i - A.length - B.length = i by omega, uL_set]; rfl
def putT (T : List Int × List Nat × List Nat) (i k s : Nat) : List Int × List Nat × List Nat := (T.1.set (i * 5 + k) (s : Int), T.2.1.set i (bn T.2.1 i ||| 2 ^ s), T.2.2.set k (bn T.2.2 k ||| 2 ^ s))
theorem Tb.seta {A : List Int} {B D : List Nat} (h : Tb A B D) {j : Nat} {x : Int} : Tb (A.set j x) B D := ⟨by rw [List.length_set]; exact h.la, h.lb, h.ld, h.b32, h.d32⟩
theorem Tb.setb {A : List Int} {B D : List Nat} (h : Tb A B D) {j x : Nat} (hj : j < 5) (hx : x < 32) : Tb A (B.set j x) D := ⟨h.la, by rw [List.length_set]; exact h.lb, h.ld, fun i hi => by
  rw [bn_set (by have := h.lb; omega)]; split
  · exact hx
  · exact h.b32 i hi, h.d32⟩
theorem Tb.setd {A : List Int} {B D : List Nat} (h : Tb A B D) {j x : Nat} (hj : j < 5) (hx : x < 32) : Tb A B (D.set j x) := ⟨h.la, h.lb, by rw [List.length_set]; exact h.ld, h.b32, fun i hi => by
  rw [bn_set (by have := h.ld; omega)]; split
  · exact hx
  · exact h.d32 i hi⟩
theorem Tb.put {A : List Int} {B D : List Nat} (h : Tb A B D) {i k s : Nat} (hi : i < 5) (hk : k < 5) (hs : s < 5) : Tb (putT (A, B, D) i k s).1 (putT (A, B, D) i k s).2.1 (putT (A, B, D) i k s).2.2 :=
  (h.seta.setb hi (or_lt _ (h.b32 i hi) s hs)).setd hk (or_lt _ (h.d32 k hk) s hs)
theorem getU_t {α : Type} {x : Int} {f : Int → Option α} : getI .u64 (.int .u64 x) f = f x := by simp [getI]
theorem put_ok (N n : Nat) {A : List Int} {B D : List Nat} (h : Tb A B D) {i k s : Nat} (hi : i < 5) (hk : k < 5) (hs : s < 5) :
    m72 N (i : Int) (k : Int) (s : Int) (tblP n A B D) = some (.tup [], tblP n (putT (A, B, D) i k s).1 (putT (A, B, D) i k s).2.1 (putT (A, B, D) i k s).2.2) := by
  have hl := tbl_len (n := n) h
  have h1 : Tb (A.set (i * 5 + k) (s : Int)) B D := h.seta
  have h2 := h1.setb hi (or_lt _ (h.b32 i hi) s hs)
  rw [m72, toNatN, toNatN, toNatN, grd_t ⟨by omega, by omega⟩, grd_t ⟨by omega, by omega⟩, grd_t (by omega), grd_t (by omega), show 1 + i * 5 + k = 1 + (i * 5 + k) by omega, set_a h (by omega), gp_b h1 hi, getU_t, grd_t (by omega), grd_t (by omega), grd_t (by omega), b_or _ (h.b32 i hi) s hs, set_b h1 hi, gp_d h2 hk, getU_t, grd_t (by omega), b_or _ (h.d32 k hk) s hs, set_d h2 hk]
  rfl
theorem take_ok (N n : Nat) {A : List Int} {B D : List Nat} (h : Tb A B D) {i k s : Nat} (hi : i < 5) (hk : k < 5) (hs : s < 5) (ha : en A (i * 5 + k) = (s : Int)) :
    m90 N (i : Int) (k : Int) (tblP n A B D) = some (.tup [], tblP n (A.set (i * 5 + k) (-1)) (B.set i (bn B i &&& (31 - 2 ^ s))) (D.set k (bn D k &&& (31 - 2 ^ s)))) := by
  have hl := tbl_len (n := n) h
  have h1 : Tb (A.set (i * 5 + k) (-1)) B D := h.seta
  have h2 := h1.setb hi (un_lt _ (h.b32 i hi) s hs)
  rw [m90, toNatN, toNatN, grd_t ⟨by omega, by omega⟩, grd_t ⟨by omega, by omega⟩, grd_t (by omega), show 1 + i * 5 + k = 1 + (i * 5 + k) by omega, gp_a h (by omega), getI_t, ha, toNatN, grd_t (by omega), grd_t (by omega), set_a h (by omega), gp_b h1 hi, getU_t, grd_t (by omega), grd_t (by omega), grd_t (by omega), b_un _ (h.b32 i hi) s hs, set_b h1 hi, gp_d h2 hk, getU_t, grd_t (by omega), b_un _ (h.d32 k hk) s hs, set_d h2 hk]
theorem list_set_set {α : Type} {l : List α} {i : Nat} {x y : α} : (l.set i x).set i y = l.set i y := by simp
theorem bn_self {w : List Nat} {j : Nat} (hj : j < w.length) : w.set j (bn w j) = w := by
  apply List.ext_getElem?
  intro i
  by_cases h : i = j
  · subst h; simp [bn, List.getD, hj]
  · rw [List.getElem?_set_ne (Ne.symm h)]
theorem en_self {w : List Int} {j : Nat} (hj : j < w.length) : w.set j (en w j) = w := by
  apply List.ext_getElem?
  intro i
  by_cases h : i = j
  · subst h; simp [en, List.getD, hj]
  · rw [List.getElem?_set_ne (Ne.symm h)]
theorem put_take (N n : Nat) {A : List Int} {B D : List Nat} (h : Tb A B D) {i k s : Nat} (hi : i < 5) (hk : k < 5) (hs : s < 5) (ha : en A (i * 5 + k) = -1) (hb : (bn B i).testBit s = false) (hd : (bn D k).testBit s = false) :
    m90 N (i : Int) (k : Int) (tblP n (putT (A, B, D) i k s).1 (putT (A, B, D) i k s).2.1 (putT (A, B, D) i k s).2.2) = some (.tup [], tblP n A B D) := by
  have la := h.la; have lb := h.lb; have ld := h.ld
  rw [take_ok N n (h.put hi hk hs) hi hk hs (by show en (A.set (i * 5 + k) (s : Int)) _ = _; rw [en_set (by omega), if_pos rfl])]
  simp only [putT, list_set_set]
  rw [bn_set (by omega), if_pos rfl, bn_set (by omega), if_pos rfl, un_or _ (h.b32 i hi) s hs hb, un_or _ (h.d32 k hk) s hs hd, bn_self (by omega), bn_self (by omega), ← ha, en_self (by omega)]
def mayB (n : Nat) (b d : Nat) : Nat := ((2 ^ n - 1) &&& (31 - b)) &&& (31 - d)
theorem all_lt : ∀ n : Nat, n < 6 → 2 ^ n - 1 < 32 := by decide
theorem may_lt {n b d : Nat} (hn : n < 6) (hb : b < 32) (hd : d < 32) : mayB n b d < 32 := diff_lt _ (diff_lt _ (all_lt n hn) _ hb) _ hd
theorem may_tst {n b d t : Nat} (hn : n < 6) (hb : b < 32) (hd : d < 32) (ht : t < 5) : (mayB n b d).testBit t = (decide (t < n) && !b.testBit t && !d.testBit t) := by
  rw [mayB, tst_diff _ (diff_lt _ (all_lt n hn) _ hb) _ hd t ht, tst_diff _ (all_lt n hn) _ hb t ht, tst_all n hn t ht]
theorem may_ok (N n : Nat) (hn : n < 6) {A : List Int} {B D : List Nat} (h : Tb A B D) {i k : Nat} (hi : i < 5) (hk : k < 5) : m89 N (i : Int) (k : Int) (tblP n A B D) = some (.int .u64 (mayB n (bn B i) (bn D k) : Int)) := by
  have hl := tbl_len (n := n) h
  rw [m89, grd_t (by omega), gp_0, getI_t, toNatN, toNatN, toNatN, grd_t (by omega), grd_t ⟨by omega, by omega⟩, grd_t (by omega), gp_b h hi, getU_t, grd_t ⟨by omega, by omega⟩, grd_t (by omega), gp_d h hk, getU_t, b_all n hn, b_diff _ (all_lt n hn) _ (h.b32 i hi), b_diff _ (diff_lt _ (all_lt n hn) _ (h.b32 i hi)) _ (h.d32 k hk)]
  rfl
abbrev T3 := List Int × List Nat × List Nat
def tP (n : Nat) (T : T3) : List PV := tblP n T.1 T.2.1 T.2.2
structure Tv (T : T3) : Prop where
  tb : Tb T.1 T.2.1 T.2.2
  a1 : ∀ j, j < 25 → -1 ≤ en T.1 j
theorem Tv.put {T : T3} (h : Tv T) {i k s : Nat} (hi : i < 5) (hk : k < 5) (hs : s < 5) : Tv (putT T i k s) := ⟨h.tb.put hi hk hs, fun j hj => by
  have la := h.tb.la
  show -1 ≤ en (T.1.set (i * 5 + k) (s : Int)) j
  rw [en_set (by omega)]; split
  · omega
  · exact h.a1 j hj⟩
def cmpl (n to : Nat) : Nat → Nat → Nat → T3 → List T3
  | 0, _, _, _ => []
  | f + 1, i, k, T =>
    if i = to then [T] else if k = n then cmpl n to f (i + 1) 0 T
    else if 0 ≤ en T.1 (i * 5 + k) then cmpl n to f i (k + 1) T
    else (bits (mayB n (bn T.2.1 i) (bn T.2.2 k))).flatMap fun s => cmpl n to f i (k + 1) (putT T i k s)
def oneP (a b : Nat) (z : Bool) (A : List Int) : List PV := [.int .i64 (a : Int), .int .i64 (b : Int), .bool z] ++ iL A
theorem putP_all : ∀ (ps l m : List PV), m.length = ps.length → putP (l ++ m) l.length ps = l ++ ps
  | [], l, m, h => by
    have : m = [] := List.eq_nil_of_length_eq_zero h
    subst this; rw [putP]
  | p :: ps, l, [], h => by simp at h
  | p :: ps, l, q :: m, h => by
    rw [putP]
    have : (l ++ q :: m).set l.length p = (l ++ [p]) ++ m := by simp
    rw [this]
    have ih := putP_all ps (l ++ [p]) m (by simpa using h)
    rw [show (l ++ [p]).length = l.length + 1 by simp] at ih
    rw [ih]; simp
theorem found_ok (N n a b : Nat) (z : Bool) (A : List Int) (T : T3) (hA : A.length = 25) (hT : Tv T) : m113 N (oneP a b z A) (tP n T) = some (.bool true, oneP a b true T.1) := by
  have hl := tbl_len (n := n) hT.tb
  have la := hT.tb.la
  have e : List.take 25 (List.drop 1 (tP n T)) = iL T.1 := by
    unfold tP tblP
    rw [List.drop_succ_cons, List.drop_zero, List.take_append_of_le_length (by rw [iL_len]; omega), List.take_of_length_le (by rw [iL_len]; omega)]
  have lo : (oneP a b z A).length = 28 := by simp [oneP, iL_len, hA]
  rw [m113, grd_t (by unfold tP; omega), e, grd_t ⟨by rw [iL_len]; exact la, by omega⟩, grd_t (by omega)]
  have p := putP_all (iL T.1) [.int .i64 (a : Int), .int .i64 (b : Int), .bool z] (iL A) (by rw [iL_len, iL_len]; omega)
  rw [show oneP a b z A = [.int .i64 (a : Int), .int .i64 (b : Int), .bool z] ++ iL A from rfl, show (3 : Nat) = [PV.int .i64 (a : Int), .int .i64 (b : Int), .bool z].length from rfl, p]
  rfl
def oneR (n a b : Nat) (z : Bool) (A : List Int) (T : T3) : List T3 → PV × List PV × List PV
  | [] => (.bool false, oneP a b z A, tP n T)
  | T' :: _ => (.bool true, oneP a b true T'.1, tP n T')
theorem one_L (N n to a b : Nat) (z : Bool) (A : List Int) (rec : Int → Int → Int → List PV → List PV → Option (PV × List PV × List PV)) (T : T3) (hT : Tv T) (i k : Nat) (hi : i < 5) (hk : k < 5) (ha : en T.1 (i * 5 + k) = -1) (g : Nat → List T3)
    (hrec : ∀ s, s < 5 → rec (i : Int) ((k + 1 : Nat) : Int) (to : Int) (oneP a b z A) (tP n (putT T i k s)) = some (oneR n a b z A (putT T i k s) (g s))) :
    ∀ (X fuel : Nat), X < 32 → X < fuel → (∀ s, s ∈ bits X → (bn T.2.1 i).testBit s = false ∧ (bn T.2.2 k).testBit s = false) →
    m88_L0 N rec (i : Int) (k : Int) (to : Int) fuel (X : Int) (oneP a b z A) (tP n T) = some (match (bits X).flatMap g with | [] => .inr (oneP a b z A, tP n T) | T' :: _ => .inl (.bool true, oneP a b true T'.1, tP n T'))
  | X, 0, _, h, _ => by omega
  | X, fuel + 1, hX, hf, hs => by
    rw [m88_L0]
    by_cases h0 : X = 0
    · subst h0
      rw [brn_nf (by simp), bits_zero]; rfl
    · obtain ⟨b1, b2, b3⟩ := bits_step X hX h0
      have h1 := hs (low X) (by rw [b1]; exact .head _)
      have hr := hrec (low X) b3
      rw [brn_nt (by omega), tz_ok N X hX h0, bnd_t, getI_t]
      unfold tP at hr ⊢
      rw [put_ok N n hT.tb hi hk b3, bnd_t]
      show getT0 (.tup []) _ = _
      rw [getT0_t, wrapN (by omega)]
      rw [show (putT (T.1, T.2.1, T.2.2) i k (low X)) = putT T i k (low X) from rfl, hr, bnd_t, b1, List.flatMap_cons]
      cases hg : g (low X) with
      | cons T' l =>
        show getB (.bool true) _ = _
        rw [getB_t, brn_t rfl]; rfl
      | nil =>
        show getB (.bool false) _ = _
        rw [getB_t, brn_f rfl]
        have pt := put_take N n hT.tb hi hk b3 ha h1.1 h1.2
        rw [show (putT (T.1, T.2.1, T.2.2) i k (low X)) = putT T i k (low X) from rfl] at pt
        show bnd' (m90 N (i : Int) (k : Int) (tblP n (putT T i k (low X)).1 (putT T i k (low X)).2.1 (putT T i k (low X)).2.2)) _ = _
        rw [pt, bnd_t]
        show getT0 (.tup []) _ = _
        rw [getT0_t, b_rest X hX h0, List.nil_append]
        exact one_L N n to a b z A rec T hT i k hi hk ha g hrec (X &&& (X - 1)) fuel (by omega) (by omega) (fun s hs' => hs s (by rw [b1]; exact .tail _ hs'))
theorem one_ok (N n to a b : Nat) (hN : 2000 ≤ N) (hn : n ≤ 5) (hto : to ≤ n) (z : Bool) (A : List Int) (hA : A.length = 25) : ∀ (f fu i k : Nat) (T : T3), Tv T → f ≤ fu → (to - i) * (n + 1) + (n - k) < f → i ≤ to → k ≤ n →
    m88 N fu (i : Int) (k : Int) (to : Int) (oneP a b z A) (tP n T) = some (oneR n a b z A T (cmpl n to f i k T))
  | 0, _, _, _, _, _, _, h, _, _ => by omega
  | f + 1, 0, _, _, _, _, h, _, _, _ => by omega
  | f + 1, fu + 1, i, k, T, hT, hfu, hf, hi, hk => by
    have hl := tbl_len (n := n) hT.tb
    rw [m88]
    unfold cmpl
    by_cases h1 : i = to
    · rw [if_pos h1, brn_et (by omega), found_ok N n a b z A T hA hT, bnd_t]
      rfl
    · rw [if_neg h1]
      have hm : (to - i) * (n + 1) = (to - (i + 1)) * (n + 1) + (n + 1) := by
        rw [show to - i = (to - (i + 1)) + 1 by omega, Nat.add_mul, Nat.one_mul]
      rw [brn_ef (by omega), grd_t (by unfold tP; omega)]
      rw [show gp (tP n T) 0 = .int .i64 (n : Int) from rfl, getI_t]
      by_cases h2 : k = n
      · rw [if_pos h2]
        have ih := one_ok N n to a b hN hn hto z A hA f fu (i + 1) 0 T hT (by omega) (by omega) (by omega) (by omega)
        rw [brn_et (by omega), wrapN (by omega), show m88 N fu ((i + 1 : Nat) : Int) 0 (to : Int) (oneP a b z A) (tP n T) = _ from ih, bnd_t]
        cases cmpl n to f (i + 1) 0 T <;> rfl
      · rw [if_neg h2, brn_ef (by omega), grd_t ⟨by omega, by omega⟩, grd_t ⟨by omega, by omega⟩, toNatN, toNatN, grd_t (by unfold tP; omega), show 1 + i * 5 + k = 1 + (i * 5 + k) by omega]
        rw [show gp (tP n T) (1 + (i * 5 + k)) = .int .i64 (en T.1 (i * 5 + k)) from gp_a hT.tb (by omega), getI_t]
        by_cases h3 : 0 ≤ en T.1 (i * 5 + k)
        · rw [if_pos h3]
          have ih := one_ok N n to a b hN hn hto z A hA f fu i (k + 1) T hT (by omega) (by omega) (by omega) (by omega)
          rw [brn_dt h3, wrapN (by omega), ih, bnd_t]
          cases cmpl n to f i (k + 1) T <;> rfl
        · rw [if_neg h3]
          have ha := hT.a1 (i * 5 + k) (by omega)
          have L := one_L N n to a b z A (m88 N fu) T hT i k (by omega) (by omega) (by omega) (fun s => cmpl n to f i (k + 1) (putT T i k s))
            (fun s h5 => one_ok N n to a b hN hn hto z A hA f fu i (k + 1) (putT T i k s) (hT.put (by omega) (by omega) h5) (by omega) (by omega) (by omega) (by omega))
            (mayB n (bn T.2.1 i) (bn T.2.2 k)) N (may_lt (by omega) (hT.tb.b32 i (by omega)) (hT.tb.d32 k (by omega))) (by have := may_lt (n := n) (by omega) (hT.tb.b32 i (by omega)) (hT.tb.d32 k (by omega)); omega)
            (fun s hs => by
              obtain ⟨s5, hs⟩ := mem_bits.1 hs
              rw [may_tst (by omega) (hT.tb.b32 i (by omega)) (hT.tb.d32 k (by omega)) s5] at hs
              simp only [Bool.and_eq_true, Bool.not_eq_true', decide_eq_true_eq] at hs
              exact ⟨hs.1.2, hs.2⟩)
          rw [brn_df (by omega)]
          rw [show m89 N (i : Int) (k : Int) (tP n T) = _ from may_ok N n (by omega) hT.tb (by omega) (by omega), bnd_t, getU_t, L, bnd_t]
          cases (bits (mayB n (bn T.2.1 i) (bn T.2.2 k))).flatMap fun s => cmpl n to f i (k + 1) (putT T i k s) <;> rfl
def dayE (n : Int) (P : List (List Int)) (r : List Int) : Nat → Nat → Int
  | 0, _ => 0
  | f + 1, k => if en r k < 0 then 2 else if n ≤ en r k then 2 else if en r k ∈ r.take k then 6 else if P.any (fun q => decide (k < q.length) && (en q k == en r k)) then 13 else dayE n P r f (k + 1)
def rowE (n w : Int) (L : List (List Int)) : Nat → Nat → Int
  | 0, _ => 0
  | f + 1, i => if ((ro L i).length : Int) ≠ w then 5 else if n < w then 5 else if dayE n (L.take i) (ro L i) (ro L i).length 0 ≠ 0 then dayE n (L.take i) (ro L i) (ro L i).length 0 else rowE n w L f (i + 1)
def chkE (n w : Int) (L : List (List Int)) : Int := if n < 1 then 1 else if 5 < n then 1 else if n < (L.length : Int) then 3 else rowE n w L L.length 0
structure Rp (P : List (List Int)) (i : Nat) (r : List Int) (k : Nat) (T : T3) : Prop where
  tv : Tv T
  b : ∀ s, s < 5 → ((bn T.2.1 i).testBit s = true ↔ (s : Int) ∈ r.take k)
  bz : ∀ j, i < j → j < 5 → bn T.2.1 j = 0
  d : ∀ d s, d < 5 → s < 5 → ((bn T.2.2 d).testBit s = true ↔ (∃ q ∈ P, d < q.length ∧ en q d = (s : Int)) ∨ (d < k ∧ en r d = (s : Int)))
  a : ∀ j d, j < 5 → d < 5 → en T.1 (j * 5 + d) = if j < i then (if d < (ro P j).length then en (ro P j) d else -1) else if j = i ∧ d < k then en r d else -1
theorem Rp.put {P : List (List Int)} {i : Nat} {r : List Int} {k : Nat} {T : T3} (h : Rp P i r k T) (hi : i < 5) (hk : k < 5) (hr : k < r.length) {s : Nat} (hs : s < 5) (he : en r k = (s : Int)) : Rp P i r (k + 1) (putT T i k s) := by
  have la := h.tv.tb.la; have lb := h.tv.tb.lb; have ld := h.tv.tb.ld
  refine ⟨h.tv.put hi hk hs, fun t ht => ?_, fun j hj h5 => ?_, fun d t hd ht => ?_, fun j d hj hd => ?_⟩
  · show (bn (T.2.1.set i (bn T.2.1 i ||| 2 ^ s)) i).testBit t = true ↔ _
    rw [bn_set (by omega), if_pos rfl, tst_or _ (h.tv.tb.b32 i hi) s hs t ht, Bool.or_eq_true, h.b t ht, decide_eq_true_eq, take_en hr, List.mem_append, List.mem_singleton, he]
    constructor
    · rintro (h1 | rfl)
      · exact .inl h1
      · exact .inr rfl
    · rintro (h1 | h1)
      · exact .inl h1
      · exact .inr (by omega)
  · show bn (T.2.1.set i (bn T.2.1 i ||| 2 ^ s)) j = 0
    rw [bn_set (by omega), if_neg (by omega)]; exact h.bz j hj h5
  · show (bn (T.2.2.set k (bn T.2.2 k ||| 2 ^ s)) d).testBit t = true ↔ _
    rw [bn_set (by omega)]
    by_cases hdk : d = k
    · subst hdk
      rw [if_pos rfl, tst_or _ (h.tv.tb.d32 d hd) s hs t ht, Bool.or_eq_true, h.d d t hd ht, decide_eq_true_eq, he]
      constructor
      · rintro ((h1 | h1) | rfl)
        · exact .inl h1
        · omega
        · exact .inr ⟨by omega, rfl⟩
      · rintro (h1 | h1)
        · exact .inl (.inl h1)
        · exact .inr (by omega)
    · rw [if_neg hdk, h.d d t hd ht]
      constructor
      · rintro (h1 | h1)
        · exact .inl h1
        · exact .inr ⟨by omega, h1.2⟩
      · rintro (h1 | h1)
        · exact .inl h1
        · exact .inr ⟨by omega, h1.2⟩
  · show en (T.1.set (i * 5 + k) (s : Int)) (j * 5 + d) = _
    rw [en_set (by omega), h.a j d hj hd]
    by_cases hx : j * 5 + d = i * 5 + k
    · have : j = i ∧ d = k := by omega
      obtain ⟨rfl, rfl⟩ := this
      rw [if_pos hx, if_neg (by omega), if_pos ⟨rfl, by omega⟩, he]
    · rw [if_neg hx]
      by_cases h1 : j < i
      · rw [if_pos h1, if_pos h1]
      · rw [if_neg h1, if_neg h1]
        by_cases h2 : j = i ∧ d < k
        · rw [if_pos h2, if_pos ⟨h2.1, by omega⟩]
        · rw [if_neg h2, if_neg (by omega)]
theorem Rp.next {P : List (List Int)} {i : Nat} {r : List Int} {T : T3} (h : Rp P i r r.length T) (hi : P.length = i) (hr : r.length ≤ 5) (r' : List Int) : Rp (P ++ [r]) (i + 1) r' 0 T := by
  refine ⟨h.tv, fun s hs => ?_, fun j hj h5 => h.bz j (by omega) h5, fun d s hd hs => ?_, fun j d hj hd => ?_⟩
  · rw [List.take_zero]
    by_cases h5 : i + 1 < 5
    · rw [h.bz (i + 1) (by omega) h5]; simp
    · have : bn T.2.1 (i + 1) = 0 := by
        have := h.tv.tb.lb
        unfold bn; rw [List.getD, List.getElem?_eq_none (by omega)]; rfl
      rw [this]; simp
  · rw [h.d d s hd hs]
    constructor
    · rintro (⟨q, hq, h1⟩ | h1)
      · exact .inl ⟨q, List.mem_append_left _ hq, h1⟩
      · exact .inl ⟨r, List.mem_append_right _ (.head _), h1⟩
    · rintro (⟨q, hq, h1⟩ | h1)
      · rcases List.mem_append.1 hq with hq | hq
        · exact .inl ⟨q, hq, h1⟩
        · obtain rfl := List.mem_singleton.1 hq
          exact .inr h1
      · omega
  · rw [h.a j d hj hd]
    by_cases h1 : j < i
    · rw [if_pos h1, if_pos (show j < i + 1 by omega)]
      have : ro (P ++ [r]) j = ro P j := by simp [ro, List.getD, List.getElem?_append_left (show j < P.length by omega)]
      rw [this]
    · rw [if_neg h1]
      by_cases h2 : j = i
      · have : ro (P ++ [r]) j = r := by
          subst h2; rw [← hi]; simp [ro, List.getD]
        rw [if_pos (show j < i + 1 by omega), this]
        by_cases h3 : d < r.length
        · rw [if_pos (show j = i ∧ d < r.length from ⟨h2, h3⟩), if_pos h3]
        · rw [if_neg (show ¬ (j = i ∧ d < r.length) by omega), if_neg h3]
      · rw [if_neg (show ¬ (j = i ∧ d < r.length) by omega), if_neg (show ¬ j < i + 1 by omega), if_neg (show ¬ (j = i + 1 ∧ d < 0) by omega)]
def outR (n : Nat) (e : Int) (T : T3) : (Int ⊕ (Int × List PV)) ⊕ List PV := if e = 0 then .inr (tP n T) else .inl (.inl e)
theorem open_L1 (N n : Nat) (hn : n ≤ 5) (w : Int) (L : List (List Int)) (P : List (List Int)) (r : List Int) (i : Nat) (hi : i < 5) (hr : r.length ≤ 5) : ∀ (f k fuel : Nat) (T : T3), r.length - k = f → f < fuel → k ≤ r.length → Rp P i r k T →
    ∃ T', m61_L1 N (n : Int) w L.length (rwsP L) (i : Int) r.length (iL r) fuel (k : Int) (tP n T) = some (outR n (dayE n P r f k) T') ∧ (dayE n P r f k = 0 → Rp P i r r.length T')
  | f, k, 0, _, _, h, _, _ => by omega
  | 0, k, fuel + 1, T, hf, _, hk, hT => by
    have : k = r.length := by omega
    subst this
    refine ⟨T, ?_, fun _ => hT⟩
    rw [m61_L1, brn_df (by omega)]; rfl
  | f + 1, k, fuel + 1, T, hf, hfu, hk, hT => by
    have hl := tbl_len (n := n) hT.tv.tb
    have h1 : k < r.length := by omega
    rw [m61_L1, brn_dt (by omega), dayE]
    rw [grd_t (p := 0 ≤ (k : Int) ∧ (k : Int) < ((r.length : Nat) : Int)) ⟨by omega, by omega⟩, grd_t (p := 0 < List.length (List.drop (Int.toNat (k : Int)) (iL r))) (by rw [List.length_drop, iL_len, toNatN]; omega), gI_n h1]
    by_cases h2 : en r k < 0
    · rw [brn_dt h2, if_pos h2]; exact ⟨T, rfl, fun h => by cases h⟩
    · rw [brn_df h2, if_neg h2]
      by_cases h3 : (n : Int) ≤ en r k
      · rw [brn_dt (by omega), if_pos h3]; exact ⟨T, rfl, fun h => by cases h⟩
      · obtain ⟨s, hs⟩ : ∃ s : Nat, en r k = (s : Int) := ⟨(en r k).toNat, by omega⟩
        have s5 : s < 5 := by omega
        rw [brn_df (by omega), if_neg h3, hs, toNatN, toNatN, toNatN, grd_t (by omega), grd_t (by unfold tP; omega)]
        rw [show gp (tP n T) (26 + i) = .int .u64 (bn T.2.1 i : Int) from gp_b hT.tv.tb hi, getU_t, grd_t (by omega), b_tst _ (hT.tv.tb.b32 i hi) s s5]
        by_cases h4 : (s : Int) ∈ r.take k
        · rw [brn_t ((hT.b s s5).2 h4), if_pos h4]; exact ⟨T, rfl, fun h => by cases h⟩
        · rw [brn_f (by rw [Bool.eq_false_iff]; intro h; exact h4 ((hT.b s s5).1 h)), if_neg h4, grd_t (by omega), grd_t (by unfold tP; omega)]
          rw [show gp (tP n T) (31 + k) = .int .u64 (bn T.2.2 k : Int) from gp_d hT.tv.tb (by omega), getU_t, b_tst _ (hT.tv.tb.d32 k (by omega)) s s5]
          have hd : (bn T.2.2 k).testBit s = P.any (fun q => decide (k < q.length) && (en q k == (s : Int))) := by
            rw [Bool.eq_iff_iff, hT.d k s (by omega) s5, List.any_eq_true]
            constructor
            · rintro (⟨q, hq, h5, h6⟩ | h5)
              · exact ⟨q, hq, by simp [h5, h6]⟩
              · omega
            · rintro ⟨q, hq, h5⟩
              simp only [Bool.and_eq_true, decide_eq_true_eq, beq_iff_eq] at h5
              exact .inl ⟨q, hq, h5⟩
          rw [hd]
          cases h5 : P.any (fun q => decide (k < q.length) && (en q k == (s : Int))) with
          | true => rw [brn_t rfl, if_pos rfl]; exact ⟨T, rfl, fun h => by cases h⟩
          | false =>
            rw [brn_f rfl, if_neg (by simp)]
            obtain ⟨T', e1, e2⟩ := open_L1 N n hn w L P r i hi hr f (k + 1) fuel (putT T i k s) (by omega) (by omega) (by omega) (hT.put hi (by omega) h1 s5 hs)
            refine ⟨T', ?_, e2⟩
            rw [show m72 N (i : Int) (k : Int) (s : Int) (tP n T) = _ from put_ok N n hT.tv.tb hi (by omega) s5, bnd_t]
            show getT0 (.tup []) _ = _
            rw [getT0_t, wrapN (by omega)]
            exact e1
theorem open_L0 (N n : Nat) (hN : 2000 ≤ N) (hn : n ≤ 5) (w : Int) (L : List (List Int)) (hL : L.length ≤ n) (hr20 : ∀ r ∈ L, r.length ≤ 1000) : ∀ (f i fuel : Nat) (T : T3), L.length - i = f → f < fuel → i ≤ L.length → (∀ r', Rp (L.take i) i r' 0 T) →
    ∃ T', m61_L0 N (n : Int) w L.length (rwsP L) fuel (i : Int) (tP n T) = some (outR n (rowE n w L f i) T') ∧ (rowE n w L f i = 0 → ∀ r', Rp L L.length r' 0 T')
  | f, i, 0, _, _, h, _, _ => by omega
  | 0, i, fuel + 1, T, hf, _, hi, hT => by
    have : i = L.length := by omega
    subst this
    refine ⟨T, ?_, fun _ r' => by have := hT r'; rwa [List.take_length] at this⟩
    rw [m61_L0, brn_df (by omega)]; rfl
  | f + 1, i, fuel + 1, T, hf, hfu, hi, hT => by
    have h1 : i < L.length := by omega
    have hrl := hr20 _ (ro_mem h1)
    rw [m61_L0, brn_dt (by omega), rowE]
    simp (disch := (try simp only [List.length_drop, iL_len, rws_len, toNatN]) <;> omega) only [↓grd_t, ↓gL_n]
    by_cases h2 : ((ro L i).length : Int) = w
    · rw [brn_nf h2, if_neg (by simpa using h2)]
      by_cases h3 : (n : Int) < w
      · rw [brn_dt (by omega), if_pos h3]; exact ⟨T, rfl, fun h => by cases h⟩
      · rw [brn_df (by omega), if_neg h3]
        obtain ⟨T', e1, e2⟩ := open_L1 N n hn w L (L.take i) (ro L i) i (by omega) (by omega) (ro L i).length 0 N T (by omega) (by omega) (by omega) (hT _)
        rw [show m61_L1 N (n : Int) w L.length (rwsP L) (i : Int) (ro L i).length (iL (ro L i)) N 0 (tP n T) = _ from e1, bnd_t]
        by_cases h4 : dayE n (L.take i) (ro L i) (ro L i).length 0 = 0
        · rw [if_neg (by simpa using h4), wrapN (by omega)]
          unfold outR
          rw [if_pos h4]
          have h5 := (e2 h4).next (by rw [List.length_take]; omega) (by omega)
          rw [← take_ro h1] at h5
          exact open_L0 N n hN hn w L hL hr20 f (i + 1) fuel T' (by omega) (by omega) (by omega) h5
        · unfold outR
          simp only [if_neg h4, if_pos (show dayE (n : Int) (L.take i) (ro L i) (ro L i).length 0 ≠ 0 from h4)]
          exact ⟨T, by trivial, fun h => absurd h h4⟩
    · rw [brn_nt h2, if_pos h2]; exact ⟨T, rfl, fun h => by cases h⟩
def T0 : T3 := (List.replicate 25 (-1), List.replicate 5 0, List.replicate 5 0)
theorem T0_rp (r : List Int) : Rp [] 0 r 0 T0 := by
  have hb : ∀ j, j < 5 → bn (List.replicate 5 0) j = 0 := by decide
  have ha : ∀ j, j < 25 → en (List.replicate 25 (-1)) j = -1 := by decide
  refine ⟨⟨⟨rfl, rfl, rfl, fun i hi => by show bn (List.replicate 5 0) i < 32; rw [hb i hi]; omega, fun i hi => by show bn (List.replicate 5 0) i < 32; rw [hb i hi]; omega⟩, fun j hj => by show -1 ≤ en (List.replicate 25 (-1)) j; rw [ha j hj]; omega⟩, fun s hs => ?_, fun j _ h5 => hb j h5, fun d s hd hs => ?_, fun j d hj hd => ?_⟩
  · show (bn (List.replicate 5 0) 0).testBit s = true ↔ _
    rw [hb 0 (by omega)]; simp
  · show (bn (List.replicate 5 0) d).testBit s = true ↔ _
    rw [hb d hd]; simp
  · show en (List.replicate 25 (-1)) (j * 5 + d) = _
    rw [ha _ (by omega), if_neg (by omega), if_neg (by omega)]
def zA (i k : Nat) : List Int := List.replicate (i * 5 + k) (-1) ++ List.replicate (25 - (i * 5 + k)) 0
theorem zA_set {i k : Nat} (h : i * 5 + k < 25) : (zA i k).set (i * 5 + k) (-1) = zA i (k + 1) := by
  unfold zA
  rw [List.set_append_right _ _ (by simp), List.length_replicate, Nat.sub_self, show 25 - (i * 5 + k) = (25 - (i * 5 + (k + 1))) + 1 by omega, List.replicate_succ, List.set_cons_zero, show i * 5 + (k + 1) = i * 5 + k + 1 by omega, List.replicate_succ']
  simp
theorem beg_L1 (N n i : Nat) (hi : i < 5) : ∀ (f k fuel : Nat), 5 - k = f → f < fuel → k ≤ 5 →
    m71_L1 N (i : Int) fuel (k : Int) (tblP n (zA i k) (List.replicate 5 0) (List.replicate 5 0)) = some (tblP n (zA i 5) (List.replicate 5 0) (List.replicate 5 0))
  | f, k, 0, _, h, _ => by omega
  | 0, k, fuel + 1, hf, _, hk => by
    have : k = 5 := by omega
    subst this
    rw [m71_L1, brn_df (by omega)]
  | f + 1, k, fuel + 1, hf, hfu, hk => by
    have hb : ∀ j, j < 5 → bn (List.replicate 5 0) j = 0 := by decide
    have tb : Tb (zA i k) (List.replicate 5 0) (List.replicate 5 0) := ⟨by simp [zA]; omega, rfl, rfl, fun i hi => by rw [hb i hi]; omega, fun i hi => by rw [hb i hi]; omega⟩
    have hl := tbl_len (n := n) tb
    rw [m71_L1, brn_dt (by omega), grd_t ⟨by omega, by omega⟩, grd_t ⟨by omega, by omega⟩, toNatN, toNatN, grd_t (by omega), wrapN (by omega), show 1 + i * 5 + k = 1 + (i * 5 + k) by omega, set_a tb (by omega), zA_set (by omega)]
    exact beg_L1 N n i hi f (k + 1) fuel (by omega) (by omega) (by omega)
theorem beg_L0 (N n : Nat) (hN : 2000 ≤ N) : ∀ (f i fuel : Nat), 5 - i = f → f < fuel → i ≤ 5 →
    m71_L0 N fuel (i : Int) (tblP n (zA i 0) (List.replicate 5 0) (List.replicate 5 0)) = some (tP n T0)
  | f, i, 0, _, h, _ => by omega
  | 0, i, fuel + 1, hf, _, hi => by
    have : i = 5 := by omega
    subst this
    rw [m71_L0, brn_df (by omega)]; rfl
  | f + 1, i, fuel + 1, hf, hfu, hi => by
    rw [m71_L0, brn_dt (by omega), show m71_L1 N (i : Int) N 0 (tblP n (zA i 0) (List.replicate 5 0) (List.replicate 5 0)) = _ from beg_L1 N n i (by omega) 5 0 N (by omega) (by omega) (by omega), bnd_t, wrapN (by omega)]
    have e : zA i 5 = zA (i + 1) 0 := by
      unfold zA
      rw [show i * 5 + 5 = (i + 1) * 5 + 0 by omega]
    rw [e]
    exact beg_L0 N n hN f (i + 1) fuel (by omega) (by omega) (by omega)
theorem begun_ok (N n : Nat) (hN : 2000 ≤ N) : m71 N (n : Int) = some (tP n T0) := by
  have := beg_L0 N n hN 5 0 N (by omega) (by omega) (by omega)
  rw [m71]
  show bnd' (m71_L0 N N ((0 : Nat) : Int) (tblP n (zA 0 0) (List.replicate 5 0) (List.replicate 5 0))) _ = _
  rw [this, bnd_t]
def opE (n : Nat) (e : Int) (T : T3) : Int ⊕ (Int × List PV) := if e = 0 then .inr (0, tP n T) else .inl e
theorem opened_ok (N : Nat) (hN : 2000 ≤ N) (x w : Int) (L : List (List Int)) (hL : L.length ≤ 1000) (hr : ∀ r ∈ L, r.length ≤ 1000) :
    ∃ T, m61 N x (.lst false L.length (rwsP L)) w = some (opE x.toNat (chkE x w L) T) ∧ (chkE x w L = 0 → ∀ r', Rp L L.length r' 0 T) := by
  rw [m61, getL_t]
  unfold chkE
  by_cases h1 : x < 1
  · rw [brn_dt h1, if_pos h1]; exact ⟨T0, rfl, fun h => by cases h⟩
  · rw [brn_df h1, if_neg h1]
    by_cases h2 : 5 < x
    · rw [brn_dt (by omega), if_pos h2]; exact ⟨T0, rfl, fun h => by cases h⟩
    · rw [brn_df (by omega), if_neg h2]
      by_cases h3 : x < (L.length : Int)
      · rw [brn_dt (by omega), if_pos h3]; exact ⟨T0, rfl, fun h => by cases h⟩
      · obtain ⟨n, rfl⟩ : ∃ n : Nat, x = (n : Int) := ⟨x.toNat, by omega⟩
        rw [brn_df (by omega), if_neg h3, begun_ok N n hN, bnd_t]
        obtain ⟨T, e1, e2⟩ := open_L0 N n hN (by omega) w L (by omega) hr L.length 0 N T0 (by omega) (by omega) (by omega) (fun r' => by rw [List.take_zero]; exact T0_rp r')
        refine ⟨T, ?_, e2⟩
        show bnd' (m61_L0 N (n : Int) w L.length (rwsP L) N 0 (tP n T0)) _ = _
        rw [show m61_L0 N (n : Int) w L.length (rwsP L) N 0 (tP n T0) = _ from e1, bnd_t, toNatN]
        unfold outR opE
        by_cases h4 : rowE (n : Int) w L L.length 0 = 0
        · simp only [if_pos h4]
        · simp only [if_neg h4]
theorem has_L (N : Nat) (s : Int) (X : List Int) (hX : X.length ≤ 1000) : ∀ (f i fuel : Nat), X.length - i = f → f < fuel → m92_L0 N s X.length (iL X) fuel (i : Int) = some (if s ∈ X.drop i then .inl (.bool true) else .inr ())
  | f, i, 0, _, h => by omega
  | f, i, fuel + 1, hf, hfu => by
    rw [m92_L0]
    by_cases h : i < X.length
    · have ih := has_L N s X hX (f - 1) (i + 1) fuel (by omega) (by omega)
      rw [brn_dt (by omega)]
      simp (disch := (try simp only [List.length_drop, iL_len, rws_len, toNatN]) <;> omega) only [↓grd_t, ↓gI_n]
      rw [drop_en h]
      by_cases e : en X i = s
      · rw [brn_et e, if_pos (by rw [e]; exact .head _)]
      · rw [brn_ef e, wrapN (by omega), ih]
        by_cases g : s ∈ X.drop (i + 1)
        · rw [if_pos g, if_pos (.tail _ g)]
        · rw [if_neg g, if_neg]
          intro h2
          rcases List.mem_cons.1 h2 with h2 | h2
          · exact e h2.symm
          · exact g h2
    · rw [brn_df (by omega), List.drop_eq_nil_of_le (by omega)]; rfl
theorem has_ok (N : Nat) (hN : 2000 ≤ N) (s : Int) (X : List Int) (hX : X.length ≤ 1000) : m92 N (rwP X) s = some (.bool (decide (s ∈ X))) := by
  have := has_L N s X hX X.length 0 N (by omega) (by omega)
  unfold rwP
  rw [m92, getL_t, show m92_L0 N s X.length (iL X) N 0 = _ from this, List.drop_zero, bnd_t]
  by_cases h : s ∈ X
  · rw [if_pos h, decide_eq_true h]
  · rw [if_neg h, decide_eq_false h]
def metB (P : List (List Int)) (k : Nat) (s : Int) : Bool := P.any fun q => decide (k < q.length) && (en q k == s)
theorem met_L (N k : Nat) (s : Int) (P : List (List Int)) (hP : P.length ≤ 1000) : ∀ (f i fuel : Nat), P.length - i = f → f < fuel → m63_L0 N (k : Int) s P.length (rwsP P) fuel (i : Int) = some (if metB (P.drop i) k s then .inl (.bool true) else .inr ())
  | f, i, 0, _, h => by omega
  | f, i, fuel + 1, hf, hfu => by
    rw [m63_L0]
    unfold metB
    by_cases h : i < P.length
    · have ih := met_L N k s P hP (f - 1) (i + 1) fuel (by omega) (by omega)
      unfold metB at ih
      rw [brn_dt (by omega), grd_t (p := 0 ≤ (i : Int) ∧ (i : Int) < ((P.length : Nat) : Int)) ⟨by omega, by omega⟩, grd_t (p := 0 < List.length (List.drop (Int.toNat (i : Int)) (rwsP P))) (by rw [List.length_drop, rws_len, toNatN]; omega), gL_n h, drop_ro h, List.any_cons]
      by_cases hk : k < (ro P i).length
      · rw [brn_dt (by omega), decide_eq_true hk, Bool.true_and]
        rw [grd_t (p := 0 ≤ (k : Int) ∧ (k : Int) < (((ro P i).length : Nat) : Int)) ⟨by omega, by omega⟩, grd_t (p := 0 < List.length (List.drop (Int.toNat (k : Int)) (iL (ro P i)))) (by rw [List.length_drop, iL_len, toNatN]; omega), gI_n hk]
        by_cases e : en (ro P i) k = s
        · rw [brn_et e, if_pos (by simp [e])]
        · rw [brn_ef e, wrapN (by omega), ih, show (en (ro P i) k == s) = false from by simpa using e, Bool.false_or]
      · rw [brn_df (by omega), decide_eq_false hk, Bool.false_and, Bool.false_or, wrapN (by omega), ih]
    · rw [brn_df (by omega), List.drop_eq_nil_of_le (by omega)]; rfl
theorem met_ok (N : Nat) (hN : 2000 ≤ N) (k : Nat) (s : Int) (P : List (List Int)) (hP : P.length ≤ 1000) : m63 N (.lst false P.length (rwsP P)) (k : Int) s = some (.bool (metB P k s)) := by
  have := met_L N k s P hP P.length 0 N (by omega) (by omega)
  rw [m63, getL_t, show m63_L0 N (k : Int) s P.length (rwsP P) N 0 = _ from this, List.drop_zero, bnd_t]
  cases metB P k s <;> rfl
def outC (e : Int) : PV ⊕ Unit := if e = 0 then .inr () else .inl (.int .i64 e)
theorem chk_L1 (N n : Nat) (hN : 2000 ≤ N) (hn : n ≤ 5) (L : List (List Int)) (hL : L.length ≤ 1000) (r : List Int) (hr : r.length ≤ 1000) (i : Nat) (hi : i < L.length) : ∀ (f k fuel : Nat), r.length - k = f → f < fuel → k ≤ r.length →
    m68_L1 N (n : Int) (r.length : Int) L.length (rwsP L) (i : Int) r.length (iL r) fuel (k : Int) = some (outC (dayE n (L.take i) r f k))
  | f, k, 0, _, h, _ => by omega
  | 0, k, fuel + 1, hf, _, hk => by
    rw [m68_L1, brn_df (by omega)]; rfl
  | f + 1, k, fuel + 1, hf, hfu, hk => by
    have h1 : k < r.length := by omega
    have lr := iL_len r
    have ll := rws_len L
    rw [m68_L1, brn_dt (by omega), dayE]
    rw [grd_t (p := 0 ≤ (k : Int) ∧ (k : Int) < ((r.length : Nat) : Int)) ⟨by omega, by omega⟩, grd_t (p := 0 < List.length (List.drop (Int.toNat (k : Int)) (iL r))) (by rw [List.length_drop, iL_len, toNatN]; omega), gI_n h1]
    rw [wrap64 (n := (n : Int) - 1) (by omega) (by omega)]
    have hb : m73 N (en r k) 0 ((n : Int) - 1) = some (.bool (decide (0 ≤ en r k) && decide (en r k < n))) := by
      rw [m73]
      by_cases h : en r k ≥ 0
      · rw [brn_dt h, decide_eq_true (show 0 ≤ en r k from h), Bool.true_and]
        congr 2
        exact decide_eq_decide.2 (by omega)
      · rw [brn_df h, decide_eq_false (show ¬ 0 ≤ en r k from h), Bool.false_and]
    rw [hb, bnd_t, getB_t]
    by_cases h2 : en r k < 0
    · rw [decide_eq_false (by omega), Bool.false_and, brn_f rfl, if_pos h2]; rfl
    · rw [if_neg h2, decide_eq_true (by omega), Bool.true_and]
      by_cases h3 : (n : Int) ≤ en r k
      · rw [brn_df (by omega), if_pos h3]; rfl
      · rw [brn_dt (by omega), if_neg h3, grd_t (by omega), grd_t (by omega), toNatN, toNatN, iL_take]
        have hk' : (r.take k).length = k := by rw [List.length_take]; omega
        have hh := has_ok N hN (en r k) (r.take k) (by omega)
        unfold rwP at hh
        rw [hk'] at hh
        rw [hh, bnd_t, getB_t]
        by_cases h4 : en r k ∈ r.take k
        · rw [brn_dt h4, if_pos h4]; rfl
        · rw [brn_df h4, if_neg h4, grd_t (by omega), grd_t (by omega), rws_take]
          have hi' : (L.take i).length = i := by rw [List.length_take]; omega
          have hm := met_ok N hN k (en r k) (L.take i) (by omega)
          rw [hi'] at hm
          rw [hm, bnd_t, getB_t]
          rw [show (L.take i).any (fun q => decide (k < q.length) && (en q k == en r k)) = metB (L.take i) k (en r k) from rfl]
          cases metB (L.take i) k (en r k) with
          | true => rfl
          | false =>
            rw [brn_f rfl, if_neg (by simp), wrapN (by omega)]
            exact chk_L1 N n hN hn L hL r hr i hi f (k + 1) fuel (by omega) (by omega) (by omega)
theorem chk_L0 (N n : Nat) (hN : 2000 ≤ N) (hn : n ≤ 5) (w : Int) (L : List (List Int)) (hL : L.length ≤ 1000) (hr20 : ∀ r ∈ L, r.length ≤ 1000) : ∀ (f i fuel : Nat), L.length - i = f → f < fuel → i ≤ L.length →
    m68_L0 N (n : Int) w L.length (rwsP L) fuel (i : Int) = some (outC (rowE n w L f i))
  | f, i, 0, _, h, _ => by omega
  | 0, i, fuel + 1, hf, _, hi => by
    rw [m68_L0, brn_df (by omega)]; rfl
  | f + 1, i, fuel + 1, hf, hfu, hi => by
    have h1 : i < L.length := by omega
    have hrl := hr20 _ (ro_mem h1)
    rw [m68_L0, brn_dt (by omega), rowE]
    simp (disch := (try simp only [List.length_drop, iL_len, rws_len, toNatN]) <;> omega) only [↓grd_t, ↓gL_n]
    by_cases h2 : ((ro L i).length : Int) = w
    · rw [brn_nf h2, if_neg (by simpa using h2)]
      by_cases h3 : (n : Int) < w
      · rw [brn_dt (by omega), if_pos h3]; rfl
      · rw [brn_df (by omega), if_neg h3]
        have e := chk_L1 N n hN hn L hL (ro L i) hrl i h1 (ro L i).length 0 N (by omega) (by omega) (by omega)
        rw [h2] at e
        by_cases h4 : dayE n (L.take i) (ro L i) (ro L i).length 0 = 0
        · rw [outC, if_pos h4] at e
          rw [show m68_L1 N (n : Int) w L.length (rwsP L) (i : Int) (ro L i).length (iL (ro L i)) N 0 = _ from e, bnd_t, if_neg (show ¬ dayE n (L.take i) (ro L i) (ro L i).length 0 ≠ 0 by simpa using h4), wrapN (by omega)]
          exact chk_L0 N n hN hn w L hL hr20 f (i + 1) fuel (by omega) (by omega) (by omega)
        · rw [outC, if_neg h4] at e
          rw [show m68_L1 N (n : Int) w L.length (rwsP L) (i : Int) (ro L i).length (iL (ro L i)) N 0 = _ from e, bnd_t, if_pos h4, outC, if_neg h4]
    · rw [brn_nt h2, if_pos h2]; rfl
theorem checked_ok (N : Nat) (hN : 2000 ≤ N) (x w : Int) (L : List (List Int)) (hL : L.length ≤ 1000) (hr : ∀ r ∈ L, r.length ≤ 1000) : m68 N x (.lst false L.length (rwsP L)) w = some (.int .i64 (chkE x w L)) := by
  have hb : m73 N x 1 5 = some (.bool (decide (1 ≤ x) && decide (x ≤ 5))) := by
    rw [m73]
    by_cases h : x ≥ 1
    · rw [brn_dt h, decide_eq_true (show 1 ≤ x from h), Bool.true_and]
    · rw [brn_df h, decide_eq_false (show ¬ 1 ≤ x from h), Bool.false_and]
  rw [m68, getL_t, hb, bnd_t, getB_t]
  unfold chkE
  by_cases h1 : x < 1
  · rw [decide_eq_false (by omega), Bool.false_and, brn_f rfl, if_pos h1]
  · rw [if_neg h1, decide_eq_true (by omega), Bool.true_and]
    by_cases h2 : 5 < x
    · rw [brn_df (by omega), if_pos h2]
    · rw [brn_dt (by omega), if_neg h2]
      by_cases h3 : x < (L.length : Int)
      · rw [brn_dt (by omega), if_pos h3]
      · obtain ⟨n, rfl⟩ : ∃ n : Nat, x = (n : Int) := ⟨x.toNat, by omega⟩
        have e := chk_L0 N n hN (by omega) w L hL hr L.length 0 N (by omega) (by omega) (by omega)
        rw [brn_df (by omega), if_neg h3, show m68_L0 N (n : Int) w L.length (rwsP L) N 0 = _ from e, bnd_t]
        unfold outC
        by_cases h4 : rowE n w L L.length 0 = 0
        · rw [if_pos h4, h4]
        · rw [if_neg h4]
def ext (n : Nat) : Nat → List Nat → List (List Nat)
  | 0, l => [l]
  | f + 1, l => (List.range n).flatMap fun s => if s ∈ l then [] else ext n f (l ++ [s])
def nL (l : List Nat) : List Int := l.map fun (s : Nat) => (s : Int)
def gn (l : List Nat) (d : Nat) : Nat := l.getD d 0
def fitB (P : List (List Int)) (l : List Nat) : Nat → Nat → Bool
  | 0, _ => true
  | f + 1, d => !metB P d (gn l d : Nat) && fitB P l f (d + 1)
def fitn (n : Nat) (P : List (List Int)) : List (List Nat) := (ext n n []).filter fun l => fitB P l n 0
theorem nL_len (l : List Nat) : (nL l).length = l.length := by simp [nL]
theorem nL_en {l : List Nat} {d : Nat} (h : d < l.length) : en (nL l) d = (gn l d : Int) := by
  simp [nL, en, gn, List.getD, h]
theorem gn_app1 {l m : List Nat} {d : Nat} (h : d < l.length) : gn (l ++ m) d = gn l d := by
  simp [gn, List.getD, List.getElem?_append_left h]
theorem gn_app2 {l : List Nat} {s : Nat} : gn (l ++ [s]) l.length = s := by simp [gn, List.getD]
theorem ext_get {n : Nat} : ∀ {f : Nat} {l x : List Nat}, x ∈ ext n f l → x.length = l.length + f ∧ (∀ d, d < l.length → gn x d = gn l d)
  | 0, l, x, h => by
    obtain rfl := List.mem_singleton.1 h
    exact ⟨rfl, fun _ _ => rfl⟩
  | f + 1, l, x, h => by
    rw [ext, List.mem_flatMap] at h
    obtain ⟨s, hs, h⟩ := h
    by_cases g : s ∈ l
    · rw [if_pos g] at h; cases h
    · rw [if_neg g] at h
      obtain ⟨h1, h2⟩ := ext_get h
      rw [List.length_append, List.length_singleton] at h1 h2
      exact ⟨by omega, fun d hd => by rw [h2 d (by omega), gn_app1 hd]⟩
theorem ext_lt {n : Nat} : ∀ {f : Nat} {l x : List Nat}, (∀ s ∈ l, s < n) → x ∈ ext n f l → ∀ s ∈ x, s < n
  | 0, l, x, hl, h => by
    obtain rfl := List.mem_singleton.1 h
    exact hl
  | f + 1, l, x, hl, h => by
    rw [ext, List.mem_flatMap] at h
    obtain ⟨s, hs, h⟩ := h
    by_cases g : s ∈ l
    · rw [if_pos g] at h; cases h
    · rw [if_neg g] at h
      refine ext_lt (fun t ht => ?_) h
      rcases List.mem_append.1 ht with ht | ht
      · exact hl t ht
      · obtain rfl := List.mem_singleton.1 ht
        exact List.mem_range.1 hs
theorem flen_le {α β : Type} {b : Nat} {g : α → List β} : ∀ (L : List α), (∀ x ∈ L, (g x).length ≤ b) → (L.flatMap g).length ≤ L.length * b
  | [], _ => by simp
  | x :: L, h => by
    have h1 := h x (.head _)
    have ih := flen_le L fun y hy => h y (.tail _ hy)
    rw [List.flatMap_cons, List.length_append, List.length_cons, Nat.add_mul, Nat.one_mul]; omega
theorem ext_card {n : Nat} : ∀ (f : Nat) (l : List Nat), (ext n f l).length ≤ n ^ f
  | 0, l => by simp [ext]
  | f + 1, l => by
    have := flen_le (b := n ^ f) (g := fun s => if s ∈ l then [] else ext n f (l ++ [s])) (List.range n) (fun s _ => by
      by_cases g : s ∈ l
      · simp only [if_pos g]; simp
      · simp only [if_neg g]; exact ext_card f _)
    rw [List.length_range] at this
    rw [ext, Nat.pow_succ, Nat.mul_comm]; exact this
theorem pow5 {n f : Nat} (hn : n ≤ 5) (hf : f ≤ 5) : n ^ f ≤ 3125 := by
  have h : ∀ n : Nat, n < 6 → ∀ f : Nat, f < 6 → n ^ f ≤ 3125 := by decide
  exact h n (by omega) f (by omega)
theorem fm_range {α : Type} {n : Nat} {h : Nat → List α} (hz : ∀ s, n ≤ s → h s = []) : ∀ m, n ≤ m → (List.range m).flatMap h = (List.range n).flatMap h
  | 0, hm => by have : n = 0 := by omega
                subst this; rfl
  | m + 1, hm => by
    by_cases e : n = m + 1
    · rw [e]
    · rw [List.range_succ, List.flatMap_append, fm_range hz m (by omega)]
      simp [hz m (by omega)]
theorem fm_filter {α β : Type} {q : α → Bool} {g : α → List β} : ∀ L : List α, (L.filter q).flatMap g = L.flatMap fun s => if q s then g s else []
  | [] => rfl
  | x :: L => by
    rw [List.filter_cons, List.flatMap_cons]
    cases q x with
    | true => rw [if_pos rfl, if_pos rfl, List.flatMap_cons, fm_filter L]
    | false => rw [if_neg (by simp), if_neg (by simp), List.nil_append, fm_filter L]
theorem filter_fm {α β : Type} {p : β → Bool} {g : α → List β} : ∀ L : List α, (L.flatMap g).filter p = L.flatMap fun s => (g s).filter p
  | [] => rfl
  | x :: L => by rw [List.flatMap_cons, List.flatMap_cons, List.filter_append, filter_fm L]
theorem fm_congr {α β : Type} {g h : α → List β} : ∀ {L : List α}, (∀ x ∈ L, g x = h x) → L.flatMap g = L.flatMap h
  | [], _ => rfl
  | x :: L, hh => by rw [List.flatMap_cons, List.flatMap_cons, hh x (.head _), fm_congr fun y hy => hh y (.tail _ hy)]
theorem filter_congr' {α : Type} {p q : α → Bool} : ∀ {L : List α}, (∀ x ∈ L, p x = q x) → L.filter p = L.filter q
  | [], _ => rfl
  | x :: L, h => by rw [List.filter_cons, List.filter_cons, h x (.head _), filter_congr' fun y hy => h y (.tail _ hy)]
theorem Rp.congr {P : List (List Int)} {i k : Nat} {r r' : List Int} {T : T3} (h : Rp P i r k T) (h1 : r.take k = r'.take k) (h2 : ∀ d, d < k → en r d = en r' d) : Rp P i r' k T := by
  refine ⟨h.tv, fun s hs => by rw [← h1]; exact h.b s hs, h.bz, fun d s hd hs => ?_, fun j d hj hd => ?_⟩
  · rw [h.d d s hd hs]
    constructor
    · rintro (h3 | h3)
      · exact .inl h3
      · exact .inr ⟨h3.1, by rw [← h2 d h3.1]; exact h3.2⟩
    · rintro (h3 | h3)
      · exact .inl h3
      · exact .inr ⟨h3.1, by rw [h2 d h3.1]; exact h3.2⟩
  · rw [h.a j d hj hd]
    by_cases h3 : j < i
    · rw [if_pos h3, if_pos h3]
    · rw [if_neg h3, if_neg h3]
      by_cases h4 : j = i ∧ d < k
      · rw [if_pos h4, if_pos h4, h2 d h4.2]
      · rw [if_neg h4, if_neg h4]
def rowOf (n p : Nat) (T : T3) : List Int := (T.1.drop (p * 5)).take n
theorem en_at {X : List Int} {a d : Nat} : en (X.drop a) d = en X (a + d) := by simp [en, List.getD]
theorem list_en {X Y : List Int} (hl : X.length = Y.length) (h : ∀ d, d < X.length → en X d = en Y d) : X = Y := by
  apply List.ext_getElem hl
  intro d h1 h2
  have := h d h1
  simpa [en, List.getD, h1, h2] using this
theorem rowOf_eq {n p : Nat} (hn : n ≤ 5) (hp : p < 5) {T : T3} (hT : Tv T) {r : List Int} (hr : r.length = n) (h : ∀ d, d < n → en T.1 (p * 5 + d) = en r d) : rowOf n p T = r := by
  have la := hT.tb.la
  refine list_en ?_ fun d hd => ?_
  · simp only [rowOf, List.length_take, List.length_drop]; omega
  · simp only [rowOf, List.length_take, List.length_drop] at hd
    have e : en (rowOf n p T) d = en (T.1.drop (p * 5)) d := by
      unfold rowOf en
      simp only [List.getD]
      rw [List.getElem?_take, if_pos (by omega)]
    rw [e, en_at]; exact h d (by omega)
theorem row_cmpl (n : Nat) (hn : n ≤ 5) (P : List (List Int)) (p : Nat) (hp : p < n) : ∀ (f : Nat) (l : List Nat) (T : T3) (F : Nat), l.length + f = n → (∀ s ∈ l, s < n) → Rp P p (nL l) l.length T → f + 2 ≤ F →
    (cmpl n (p + 1) F p l.length T).map (rowOf n p) = ((ext n f l).filter fun x => fitB P x f l.length).map nL
  | 0, l, T, F, hl, hs, hT, hF => by
    obtain ⟨F, rfl⟩ : ∃ G, F = G + 2 := ⟨F - 2, by omega⟩
    rw [cmpl, if_neg (by omega), if_pos (by omega), cmpl, if_pos rfl]
    have : rowOf n p T = nL l := rowOf_eq hn (by omega) hT.tv (by rw [nL_len]; omega) fun d hd => by
      rw [hT.a p d (by omega) (by omega), if_neg (by omega), if_pos ⟨rfl, by omega⟩]
    simp [ext, fitB, this]
  | f + 1, l, T, F, hl, hs, hT, hF => by
    obtain ⟨F, rfl⟩ : ∃ G, F = G + 1 := ⟨F - 1, by omega⟩
    have ha : en T.1 (p * 5 + l.length) = -1 := by
      rw [hT.a p l.length (by omega) (by omega), if_neg (by omega), if_neg (by omega)]
    rw [cmpl, if_neg (by omega), if_neg (by omega), if_neg (by omega), ext]
    unfold bits
    rw [fm_filter, List.map_flatMap, filter_fm, List.map_flatMap]
    have hz : ∀ s, s < 5 → (mayB n (bn T.2.1 p) (bn T.2.2 l.length)).testBit s = (decide (s < n) && !decide (s ∈ l) && !metB P l.length (s : Nat)) := fun s h5 => by
      rw [may_tst (by omega) (hT.tv.tb.b32 p (by omega)) (hT.tv.tb.d32 l.length (by omega)) h5]
      have hb : (bn T.2.1 p).testBit s = decide (s ∈ l) := by
        rw [Bool.eq_iff_iff, hT.b s h5, List.take_of_length_le (by rw [nL_len]; omega), decide_eq_true_eq]
        unfold nL
        rw [List.mem_map]
        constructor
        · rintro ⟨t, ht, e⟩
          have : t = s := by omega
          exact this ▸ ht
        · exact fun h => ⟨s, h, rfl⟩
      have hd : (bn T.2.2 l.length).testBit s = metB P l.length (s : Nat) := by
        rw [Bool.eq_iff_iff, hT.d l.length s (by omega) h5]
        unfold metB
        rw [List.any_eq_true]
        constructor
        · rintro (⟨q, hq, h5, h6⟩ | h5)
          · exact ⟨q, hq, by simp [h5, h6]⟩
          · omega
        · rintro ⟨q, hq, h5⟩
          simp only [Bool.and_eq_true, decide_eq_true_eq, beq_iff_eq] at h5
          exact .inl ⟨q, hq, h5⟩
      rw [hb, hd]
    have e1 : (List.range 5).flatMap (fun s => List.map (rowOf n p) (if (mayB n (bn T.2.1 p) (bn T.2.2 l.length)).testBit s = true then cmpl n (p + 1) F p (l.length + 1) (putT T p l.length s) else [])) =
        (List.range 5).flatMap (fun s => if (decide (s < n) && !decide (s ∈ l) && !metB P l.length (s : Nat)) = true then ((ext n f (l ++ [s])).filter fun x => fitB P x f (l.length + 1)).map nL else []) := by
      refine fm_congr fun s hs5 => ?_
      have h5 := List.mem_range.1 hs5
      rw [hz s h5]
      by_cases g : (decide (s < n) && !decide (s ∈ l) && !metB P l.length (s : Nat)) = true
      · rw [if_pos g, if_pos g]
        simp only [Bool.and_eq_true, decide_eq_true_eq] at g
        have hl1 : (l ++ [s]).length = l.length + 1 := by simp
        have hR : Rp P p (nL (l ++ [s])) l.length T := hT.congr (by rw [show nL (l ++ [s]) = nL l ++ [(s : Int)] by simp [nL], List.take_append_of_le_length (by rw [nL_len]; omega)]) fun d hd => by rw [nL_en hd, nL_en (by omega), gn_app1 hd]
        have hR2 := hR.put (by omega) (by omega) (by rw [nL_len]; omega) h5 (by rw [nL_en (by omega), gn_app2])
        rw [← hl1] at hR2
        have ih := row_cmpl n hn P p hp f (l ++ [s]) (putT T p l.length s) F (by omega) (fun t ht => by
          rcases List.mem_append.1 ht with ht | ht
          · exact hs t ht
          · obtain rfl := List.mem_singleton.1 ht
            exact g.1.1) hR2 (by omega)
        rw [hl1] at ih
        exact ih
      · rw [if_neg g, if_neg g]; rfl
    rw [e1, fm_range (n := n) (fun s h => by rw [decide_eq_false (by omega)]; rfl) 5 hn]
    refine fm_congr fun s hs' => ?_
    have hsn := List.mem_range.1 hs'
    rw [decide_eq_true hsn, Bool.true_and]
    by_cases g : s ∈ l
    · rw [if_pos g, decide_eq_true g]; rfl
    · rw [if_neg g, decide_eq_false g, Bool.not_false, Bool.true_and]
      have hx : ∀ x ∈ ext n f (l ++ [s]), gn x l.length = s := fun x hx => by
        rw [(ext_get hx).2 l.length (by simp), gn_app2]
      have hq : (ext n f (l ++ [s])).filter (fun x => fitB P x (f + 1) l.length) = (ext n f (l ++ [s])).filter (fun x => !metB P l.length (s : Nat) && fitB P x f (l.length + 1)) := filter_congr' fun x h => by
        show (!metB P l.length (gn x l.length : Nat) && _) = _
        rw [hx x h]
      rw [hq]
      cases metB P l.length (s : Nat) with
      | true => simp
      | false => simp
theorem rows_L0 (N n : Nat) (hN : 5000 ≤ N) (hn : n ≤ 5) (f : Nat) (hf5 : f < 5) (l : List Nat) (hl : l.length + (f + 1) = n) (rec : Int → PV → Option PV)
    (hrec : ∀ s, rec (n : Int) (rwP (nL (l ++ [s]))) = some (.lst false (ext n f (l ++ [s])).length (rwsP ((ext n f (l ++ [s])).map nL)))) : ∀ (g s fuel : Nat) (A : List (List Nat)), n - s = g → g < fuel → A.length ≤ 10000 * s →
    m91_L0 N rec (n : Int) l.length (iL (nL l)) fuel A.length (s : Int) (rwsP (A.map nL)) = some ((A ++ (List.range' s (n - s)).flatMap fun s => if s ∈ l then [] else ext n f (l ++ [s])).length, rwsP ((A ++ (List.range' s (n - s)).flatMap fun s => if s ∈ l then [] else ext n f (l ++ [s])).map nL))
  | g, s, 0, _, _, h, _ => by omega
  | g, s, fuel + 1, A, hg, hfu, hA => by
    rw [m91_L0]
    by_cases h : s < n
    · have hh := has_ok N (by omega) (s : Int) (nL l) (by rw [nL_len]; omega)
      unfold rwP at hh
      rw [nL_len] at hh
      have hm : decide ((s : Int) ∈ nL l) = decide (s ∈ l) := by
        refine decide_eq_decide.2 ?_
        unfold nL
        rw [List.mem_map]
        constructor
        · rintro ⟨t, ht, e⟩
          have : t = s := by omega
          exact this ▸ ht
        · exact fun h => ⟨s, h, rfl⟩
      rw [brn_dt (by omega), hh, bnd_t, getB_t, hm, range'_step h, List.flatMap_cons]
      by_cases g1 : s ∈ l
      · rw [brn_dt g1, if_pos g1, List.nil_append, wrapN (by omega)]
        exact rows_L0 N n hN hn f hf5 l hl rec hrec (g - 1) (s + 1) fuel A (by omega) (by omega) (by omega)
      · rw [brn_df g1, if_neg g1, grd_t (by rw [iL_len, nL_len]), iL_app]
        have e : (nL l ++ [(s : Int)]) = nL (l ++ [s]) := by simp [nL]
        have hc := ext_card (n := n) f (l ++ [s])
        have hp := pow5 (f := f) hn (by omega)
        have e3 : (PV.lst false (l.length + 1) (iL (nL (l ++ [s])))) = rwP (nL (l ++ [s])) := by
          unfold rwP; rw [nL_len, List.length_append, List.length_singleton]
        have ih := rows_L0 N n hN hn f hf5 l hl rec hrec (g - 1) (s + 1) fuel (A ++ ext n f (l ++ [s])) (by omega) (by omega) (by rw [List.length_append]; omega)
        have e4 : rwsP (A.map nL) ++ rwsP ((ext n f (l ++ [s])).map nL) = rwsP ((A ++ ext n f (l ++ [s])).map nL) := by simp [rwsP]
        rw [List.length_append, List.append_assoc] at ih
        rw [e, e3, hrec]
        have fin : (grd (l.length ≤ 1099511627776) <| grd ((l.length + 1) ≤ 1099511627776) <|
          bnd' (some (PV.lst false (ext n f (l ++ [s])).length (rwsP ((ext n f (l ++ [s])).map nL)))) fun p1548 =>
          getL p1548 fun n1551 c1552 =>
          grd (List.length c1552 = n1551) <|
          grd ((A.length + n1551) ≤ 1099511627776) <|
          grd (List.length (rwsP (A.map nL)) = A.length) <|
          m91_L0 N rec (n : Int) l.length (iL (nL l)) fuel (A.length + n1551) (IntKind.i64.wrap ((s : Int) + 1)) (rwsP (A.map nL) ++ c1552)) = some ((A ++ (ext n f (l ++ [s]) ++ (List.range' (s + 1) (n - (s + 1))).flatMap fun s => if s ∈ l then [] else ext n f (l ++ [s]))).length, rwsP ((A ++ (ext n f (l ++ [s]) ++ (List.range' (s + 1) (n - (s + 1))).flatMap fun s => if s ∈ l then [] else ext n f (l ++ [s]))).map nL)) := by
          rw [grd_t (by omega), grd_t (by omega), bnd_t, getL_t, grd_t (by rw [rws_len, List.length_map]), grd_t (by omega), grd_t (by rw [rws_len, List.length_map]), wrapN (by omega), e4, ih]
        by_cases g2 : 0 < l.length
        · rw [brn_dt g2]; exact fin
        · rw [brn_df g2]; exact fin
    · rw [brn_df (by omega), show n - s = 0 by omega]
      simp
theorem rows_ok (N n : Nat) (hN : 5000 ≤ N) (hn : n ≤ 5) : ∀ (f fu : Nat) (l : List Nat), l.length + f = n → f < fu → m91 N fu (n : Int) (rwP (nL l)) = some (.lst false (ext n f l).length (rwsP ((ext n f l).map nL)))
  | f, 0, _, _, h => by omega
  | 0, fu + 1, l, hl, _ => by
    have hll := nL_len l
    rw [m91]
    unfold rwP
    rw [getL_t, brn_et (by omega)]
    rfl
  | f + 1, fu + 1, l, hl, hf => by
    have hll := nL_len l
    rw [m91]
    unfold rwP
    rw [getL_t, brn_ef (by omega), hll]
    have e := rows_L0 N n hN hn f (by omega) l hl (m91 N fu) (fun s => rows_ok N n hN hn f fu (l ++ [s]) (by simp; omega) (by omega)) n 0 N [] (by omega) (by omega) (by simp)
    rw [show m91_L0 N (m91 N fu) (n : Int) l.length (iL (nL l)) N 0 0 [] = _ from e, bnd_t, List.nil_append, Nat.sub_zero, ← List.range_eq_range']
    show grd _ _ = _
    rw [grd_t (by rw [rws_len, List.length_map])]
    rfl
end Go.Proofs.YtcaecfofgdogbaaDoor
namespace Go.Proofs.YtcaecfofgdogbaaDoor
open Go.V
set_option linter.unusedSectionVars false
set_option maxRecDepth 100000
def pc (x : Nat) : Nat := (bits x).length
def subs : Nat → Nat → List Nat
  | 1, 0 => [0]
  | 1, 1 => [1]
  | 2, 0 => [0]
  | 2, 1 => [1, 2]
  | 2, 2 => [3]
  | 3, 0 => [0]
  | 3, 1 => [1, 2, 4]
  | 3, 2 => [3, 5, 6]
  | 3, 3 => [7]
  | 4, 0 => [0]
  | 4, 1 => [1, 2, 4, 8]
  | 4, 2 => [3, 5, 6, 9, 10, 12]
  | 4, 3 => [7, 11, 13, 14]
  | 4, 4 => [15]
  | 5, 0 => [0]
  | 5, 1 => [1, 2, 4, 8, 16]
  | 5, 2 => [3, 5, 6, 9, 10, 12, 17, 18, 20, 24]
  | 5, 3 => [7, 11, 13, 14, 19, 21, 22, 25, 26, 28]
  | 5, 4 => [15, 23, 27, 29, 30]
  | 5, 5 => [31]
  | _, _ => []
def prm (n : Nat) : List Nat → Nat → Nat
  | [], _ => 1
  | M :: D, u => ((List.range n).map fun s => bif (M ||| u).testBit s then 0 else prm n D (u ||| 2 ^ s)).sum
def fac : Nat → Nat
  | 0 => 1
  | n + 1 => (n + 1) * fac n
def okC (M : Nat) : Nat → List Nat → Bool
  | _, [] => true
  | s, c :: l => (bif M.testBit s then !(c == 0) else true) && okC M (s + 1) l
def sbC (M : Nat) : Nat → List Nat → List Nat
  | _, [] => []
  | s, c :: l => (bif M.testBit s then c - 1 else c) :: sbC M (s + 1) l
def hallB (n k : Nat) : Nat → List Nat → List Nat → Bool
  | 0, cols, D => !(cols.all (· == 0)) || Nat.ble (fac (n - k)) (prm n D 0)
  | d + 1, cols, D => (subs n k).all fun M => !(okC M 0 cols) || hallB n k d (sbC M 0 cols) (D ++ [M])
theorem hall1_0 : hallB 1 0 1 (List.replicate 1 0) [] = true := by decide +kernel
theorem hall2_0 : hallB 2 0 2 (List.replicate 2 0) [] = true := by decide +kernel
theorem hall2_1 : hallB 2 1 2 (List.replicate 2 1) [] = true := by decide +kernel
theorem hall3_0 : hallB 3 0 3 (List.replicate 3 0) [] = true := by decide +kernel
theorem hall3_1 : hallB 3 1 3 (List.replicate 3 1) [] = true := by decide +kernel
theorem hall3_2 : hallB 3 2 3 (List.replicate 3 2) [] = true := by decide +kernel
theorem hall4_0 : hallB 4 0 4 (List.replicate 4 0) [] = true := by decide +kernel
theorem hall4_1 : hallB 4 1 4 (List.replicate 4 1) [] = true := by decide +kernel
theorem hall4_2 : hallB 4 2 4 (List.replicate 4 2) [] = true := by decide +kernel
theorem hall4_3 : hallB 4 3 4 (List.replicate 4 3) [] = true := by decide +kernel
theorem hall5_0 : hallB 5 0 5 (List.replicate 5 0) [] = true := by decide +kernel
theorem hall5_1 : hallB 5 1 5 (List.replicate 5 1) [] = true := by decide +kernel
theorem hall5_2 : hallB 5 2 5 (List.replicate 5 2) [] = true := by decide +kernel
theorem hall5_3 : hallB 5 3 5 (List.replicate 5 3) [] = true := by decide +kernel
theorem hall5_4 : hallB 5 4 5 (List.replicate 5 4) [] = true := by decide +kernel
end Go.Proofs.YtcaecfofgdogbaaDoor
namespace Go.Proofs.YtcaecfofgdogbaaDoor
open Go.V
set_option linter.unusedSectionVars false
def cc (D : List Nat) (s : Nat) : Nat := (D.filter fun M => M.testBit s).length
theorem cc_cons (M : Nat) (D : List Nat) (s : Nat) : cc (M :: D) s = (if M.testBit s then 1 else 0) + cc D s := by
  unfold cc
  rw [List.filter_cons]
  split <;> simp <;> omega
theorem okC_ok (M : Nat) : ∀ (l : List Nat) (s0 : Nat), (∀ j, j < l.length → M.testBit (s0 + j) = true → gn l j ≠ 0) → okC M s0 l = true
  | [], _, _ => rfl
  | c :: l, s0, h => by
    have h0 := h 0 (by simp)
    have ih := okC_ok M l (s0 + 1) fun j hj ht => by
      have := h (j + 1) (by simpa using hj) (by rw [show s0 + (j + 1) = s0 + 1 + j by omega]; exact ht)
      simpa [gn] using this
    rw [okC, ih, Bool.and_true]
    cases hb : M.testBit s0 with
    | false => rfl
    | true =>
      have := h0 (by simpa using hb)
      simp [gn] at this
      simp [this]
theorem sbC_len (M : Nat) : ∀ (l : List Nat) (s0 : Nat), (sbC M s0 l).length = l.length
  | [], _ => rfl
  | c :: l, s0 => by rw [sbC, List.length_cons, sbC_len M l, List.length_cons]
theorem sbC_get (M : Nat) : ∀ (l : List Nat) (s0 j : Nat), j < l.length → gn (sbC M s0 l) j = if M.testBit (s0 + j) then gn l j - 1 else gn l j
  | [], _, j, h => by simp at h
  | c :: l, s0, 0, _ => by
    rw [sbC]
    show (bif M.testBit s0 then c - 1 else c) = if M.testBit s0 = true then c - 1 else c
    cases M.testBit s0 <;> rfl
  | c :: l, s0, j + 1, h => by
    have ih := sbC_get M l (s0 + 1) j (by simpa using h)
    rw [sbC, show s0 + (j + 1) = s0 + 1 + j by omega]
    simpa [gn] using ih
theorem hall_sound (n k : Nat) : ∀ (d : Nat) (cols acc rest : List Nat), rest.length = d → (∀ M ∈ rest, M ∈ subs n k) → (∀ s, s < cols.length → gn cols s = cc rest s) → hallB n k d cols acc = true → fac (n - k) ≤ prm n (acc ++ rest) 0
  | 0, cols, acc, rest, hr, _, hc, hh => by
    have : rest = [] := List.eq_nil_of_length_eq_zero hr
    subst this
    rw [hallB] at hh
    have hz : cols.all (· == 0) = true := by
      rw [List.all_eq_true]
      intro c hcm
      obtain ⟨j, hj, rfl⟩ := List.getElem_of_mem hcm
      have := hc j hj
      simp [gn, cc, List.getD, hj] at this
      simp [this]
    rw [hz, Bool.not_true, Bool.false_or, Nat.ble_eq] at hh
    simpa using hh
  | d + 1, cols, acc, [], hr, _, _, _ => by simp at hr
  | d + 1, cols, acc, M :: rest, hr, hs, hc, hh => by
    rw [hallB, List.all_eq_true] at hh
    have h1 := hh M (hs M (.head _))
    have h2 : okC M 0 cols = true := okC_ok M cols 0 fun j hj ht => by
      rw [Nat.zero_add] at ht
      rw [hc j hj, cc_cons, if_pos ht]; omega
    rw [h2, Bool.not_true, Bool.false_or] at h1
    have := hall_sound n k d (sbC M 0 cols) (acc ++ [M]) rest (by simpa using hr) (fun M' h => hs M' (.tail _ h)) (fun s h => by
      rw [sbC_len] at h
      rw [sbC_get M cols 0 s h, Nat.zero_add, hc s h, cc_cons]
      split <;> omega) h1
    rwa [List.append_assoc, List.singleton_append] at this
theorem hall_all {n k : Nat} (hn : n ≤ 5) (hk : k < n) : hallB n k n (List.replicate n k) [] = true := by
  rcases (show n = 1 ∨ n = 2 ∨ n = 3 ∨ n = 4 ∨ n = 5 by omega) with rfl | rfl | rfl | rfl | rfl
  · obtain rfl : k = 0 := by omega
    exact hall1_0
  · rcases (show k = 0 ∨ k = 1 by omega) with rfl | rfl
    · exact hall2_0
    · exact hall2_1
  · rcases (show k = 0 ∨ k = 1 ∨ k = 2 by omega) with rfl | rfl | rfl
    · exact hall3_0
    · exact hall3_1
    · exact hall3_2
  · rcases (show k = 0 ∨ k = 1 ∨ k = 2 ∨ k = 3 by omega) with rfl | rfl | rfl | rfl
    · exact hall4_0
    · exact hall4_1
    · exact hall4_2
    · exact hall4_3
  · rcases (show k = 0 ∨ k = 1 ∨ k = 2 ∨ k = 3 ∨ k = 4 by omega) with rfl | rfl | rfl | rfl | rfl
    · exact hall5_0
    · exact hall5_1
    · exact hall5_2
    · exact hall5_3
    · exact hall5_4
def stp (D x : List Nat) : List Nat := List.zipWith (fun M s => M ||| 2 ^ s) D x
inductive Vp (n : Nat) : List (List Nat) → List Nat → Prop
  | nil : Vp n [] (List.replicate n 0)
  | snoc (X : List (List Nat)) (D x : List Nat) (h : Vp n X D) (hx : x ∈ ext n n []) (hf : fitB (X.map nL) x n 0 = true) : Vp n (X ++ [x]) (stp D x)
theorem pc_or : ∀ M : Nat, M < 32 → ∀ s : Nat, s < 5 → M.testBit s = false → pc (M ||| 2 ^ s) = pc M + 1 := by decide +kernel
theorem or_ltn : ∀ n : Nat, n < 6 → ∀ M : Nat, M < 2 ^ n → ∀ s : Nat, s < n → M ||| 2 ^ s < 2 ^ n := by decide +kernel
theorem subs_mem : ∀ n : Nat, n < 6 → 1 ≤ n → ∀ M : Nat, M < 2 ^ n → M ∈ subs n (pc M) := by decide +kernel
theorem pow_lt : ∀ n : Nat, n < 6 → 2 ^ n ≤ 32 := by decide
theorem ext_cnt : ∀ n : Nat, n < 6 → ∀ x ∈ ext n n [], ∀ s : Nat, s < n → x.count s = 1 := by decide +kernel
theorem gn_stp {D x : List Nat} {d : Nat} (h1 : d < D.length) (h2 : d < x.length) : gn (stp D x) d = gn D d ||| 2 ^ gn x d := by
  simp [gn, stp, List.getD, List.getElem?_zipWith, h1, h2]
theorem cc_stp (s : Nat) (hs : s < 5) : ∀ (D x : List Nat), D.length = x.length → (∀ d, d < D.length → gn D d < 32 ∧ gn x d < 5 ∧ (gn D d).testBit (gn x d) = false) → cc (stp D x) s = cc D s + x.count s
  | [], [], _, _ => rfl
  | [], _ :: _, h, _ => by simp at h
  | _ :: _, [], h, _ => by simp at h
  | M :: D, t :: x, h, hd => by
    have h0 := hd 0 (by simp)
    simp only [gn, List.getD_cons_zero] at h0
    have ih := cc_stp s hs D x (by simpa using h) fun d hd' => by
      have := hd (d + 1) (by simpa using hd')
      simpa [gn] using this
    show cc ((M ||| 2 ^ t) :: stp D x) s = _
    rw [cc_cons, cc_cons, ih, tst_or M h0.1 t h0.2.1 s hs, List.count_cons]
    by_cases e : s = t
    · subst e
      rw [h0.2.2]
      simp; omega
    · have : (t == s) = false := by simpa using fun h => e h.symm
      rw [this, decide_eq_false e]
      simp; omega
theorem metB_app (P : List (List Int)) (r : List Int) (d : Nat) (s : Int) : metB (P ++ [r]) d s = (metB P d s || (decide (d < r.length) && (en r d == s))) := by
  simp [metB, List.any_append]
theorem fitB_get {P : List (List Int)} {x : List Nat} : ∀ {f d : Nat}, fitB P x f d = true → ∀ j, d ≤ j → j < d + f → metB P j (gn x j : Nat) = false
  | 0, d, _, j, h1, h2 => by omega
  | f + 1, d, h, j, h1, h2 => by
    rw [fitB, Bool.and_eq_true, Bool.not_eq_true'] at h
    by_cases e : j = d
    · subst e; exact h.1
    · exact fitB_get h.2 j (by omega) (by omega)
structure Vd (n : Nat) (X : List (List Nat)) (D : List Nat) : Prop where
  len : D.length = n
  lt : ∀ d, d < n → gn D d < 2 ^ n
  pc : ∀ d, d < n → pc (gn D d) = X.length
  cc : ∀ s, s < n → cc D s = X.length
  met : ∀ d s, d < n → s < 5 → (gn D d).testBit s = metB (X.map nL) d (s : Nat)
theorem gn_mem {l : List Nat} {d : Nat} (h : d < l.length) : gn l d ∈ l := by simp [gn, List.getD, h]
theorem Vp.vd {n : Nat} (hn : n ≤ 5) {X : List (List Nat)} {D : List Nat} (h : Vp n X D) : Vd n X D := by
  induction h with
  | nil =>
    have hz : ∀ d, gn (List.replicate n 0) d = 0 := fun d => by simp [gn, List.getD, List.getElem?_replicate]; split <;> rfl
    refine ⟨by simp, fun d _ => by rw [hz]; exact Nat.two_pow_pos n, fun d _ => by rw [hz]; decide, fun s _ => ?_, fun d s _ _ => by rw [hz]; simp [metB]⟩
    simp [Go.Proofs.YtcaecfofgdogbaaDoor.cc]
  | snoc X D x h hx hf ih =>
    obtain ⟨e1, _⟩ := ext_get hx
    have hxl : x.length = n := by simpa using e1
    have hlt := ext_lt (n := n) (by simp) hx
    have h2 := pow_lt n (by omega)
    have hnot : ∀ d, d < n → (gn D d).testBit (gn x d) = false := fun d hd => by
      have := hlt _ (gn_mem (l := x) (d := d) (by omega))
      rw [ih.met d _ hd (by omega)]
      exact fitB_get hf d (by omega) (by omega)
    have hg : ∀ d, d < n → gn (stp D x) d = gn D d ||| 2 ^ gn x d := fun d hd => gn_stp (by rw [ih.len]; exact hd) (by omega)
    have hx5 : ∀ d, d < n → gn x d < n := fun d hd => hlt _ (gn_mem (by omega))
    refine ⟨by simp [stp, ih.len, hxl], fun d hd => ?_, fun d hd => ?_, fun s hs => ?_, fun d s hd hs => ?_⟩
    · rw [hg d hd]; exact or_ltn n (by omega) _ (ih.lt d hd) _ (hx5 d hd)
    · have := ih.lt d hd
      have := hx5 d hd
      rw [hg d hd, pc_or _ (by omega) _ (by omega) (hnot d hd), ih.pc d hd]; simp
    · rw [cc_stp s (by omega) D x (by rw [ih.len, hxl]) fun d hd => by
        rw [ih.len] at hd
        have := ih.lt d hd
        have := hx5 d hd
        exact ⟨by omega, by omega, hnot d hd⟩, ih.cc s hs, ext_cnt n (by omega) x hx s hs]
      simp
    · have := ih.lt d hd
      have hx' := hx5 d hd
      rw [hg d hd, tst_or _ (by omega) _ (by omega) s hs, ih.met d s hd hs, List.map_append, List.map_singleton, metB_app, nL_len, decide_eq_true (show d < x.length by omega), Bool.true_and, nL_en (by omega)]
      congr 1
      rw [Bool.eq_iff_iff, decide_eq_true_eq, beq_iff_eq]
      constructor
      · intro h; omega
      · intro h; omega
theorem sum_len {α β : Type} {g : α → List β} : ∀ L : List α, (L.flatMap g).length = (L.map fun x => (g x).length).sum
  | [] => rfl
  | x :: L => by rw [List.flatMap_cons, List.length_append, List.map_cons, List.sum_cons, sum_len L]
theorem prm_ok (n : Nat) (hn : n ≤ 5) (X : List (List Nat)) (D : List Nat) (hD : Vd n X D) : ∀ (f : Nat) (l : List Nat) (u : Nat), l.length + f = n → u < 32 → (∀ s ∈ l, s < n) → (∀ s, s < 5 → u.testBit s = decide (s ∈ l)) →
    ((ext n f l).filter fun x => fitB (X.map nL) x f l.length).length = prm n (D.drop l.length) u
  | 0, l, u, hl, _, _, _ => by
    rw [List.drop_eq_nil_of_le (by rw [hD.len]; omega)]
    simp [ext, fitB, prm]
  | f + 1, l, u, hl, hu, hs, hb => by
    have hd : l.length < n := by omega
    have ed : D.drop l.length = gn D l.length :: D.drop (l.length + 1) := by
      rw [List.drop_eq_getElem_cons (by rw [hD.len]; exact hd)]
      simp [gn, List.getD, hD.len, hd]
    have h2 := pow_lt n (by omega)
    have hM := hD.lt l.length hd
    rw [ext, filter_fm, sum_len, ed, prm]
    congr 1
    refine List.map_congr_left fun s hs' => ?_
    have hsn := List.mem_range.1 hs'
    rw [Nat.testBit_or, hb s (by omega), hD.met l.length s hd (by omega)]
    by_cases g : s ∈ l
    · rw [if_pos g, decide_eq_true g, Bool.or_true]; rfl
    · rw [if_neg g, decide_eq_false g, Bool.or_false]
      have hx : ∀ x ∈ ext n f (l ++ [s]), gn x l.length = s := fun x hx => by
        rw [(ext_get hx).2 l.length (by simp), gn_app2]
      have hq : (ext n f (l ++ [s])).filter (fun x => fitB (X.map nL) x (f + 1) l.length) = (ext n f (l ++ [s])).filter (fun x => !metB (X.map nL) l.length (s : Nat) && fitB (X.map nL) x f (l.length + 1)) := filter_congr' fun x h => by
        show (!metB (X.map nL) l.length (gn x l.length : Nat) && _) = _
        rw [hx x h]
      rw [hq]
      cases metB (X.map nL) l.length (s : Nat) with
      | true => simp
      | false =>
        have hl1 : (l ++ [s]).length = l.length + 1 := by simp
        have ih := prm_ok n hn X D hD f (l ++ [s]) (u ||| 2 ^ s) (by omega) (or_lt u hu s (by omega)) (fun t ht => by
          rcases List.mem_append.1 ht with ht | ht
          · exact hs t ht
          · obtain rfl := List.mem_singleton.1 ht
            exact hsn) (fun t ht => by
          rw [tst_or u hu s (by omega) t ht, hb t ht, Bool.eq_iff_iff]
          simp)
        rw [hl1] at ih
        simpa using ih
theorem fit_many {n : Nat} (hn : n ≤ 5) {X : List (List Nat)} {D : List Nat} (h : Vp n X D) (hk : X.length < n) : fac (n - X.length) ≤ (fitn n (X.map nL)).length := by
  have hD := h.vd hn
  have e := prm_ok n hn X D hD n [] 0 (by simp) (by omega) (by simp) (fun s _ => by simp)
  rw [show (fitn n (X.map nL)).length = _ from e, List.length_nil, List.drop_zero]
  have := hall_sound n X.length n (List.replicate n X.length) [] D hD.len (fun M hM => by
    obtain ⟨d, hd, rfl⟩ := List.getElem_of_mem hM
    rw [hD.len] at hd
    have e2 : D[d]'(by rw [hD.len]; exact hd) = gn D d := by simp [gn, List.getD, hD.len, hd]
    rw [e2, ← hD.pc d hd]
    exact subs_mem n (by omega) (by omega) _ (hD.lt d hd)) (fun s hs => by
    rw [List.length_replicate] at hs
    rw [hD.cc s hs]
    simp [gn, List.getD, hs]) (hall_all hn hk)
  simpa using this
theorem ext_mem {n : Nat} : ∀ (f : Nat) (l x : List Nat), x.length = l.length + f → x.take l.length = l → (∀ s ∈ x, s < n) → (∀ k, k < x.length → gn x k ∉ x.take k) → x ∈ ext n f l
  | 0, l, x, hl, ht, _, _ => by
    rw [List.take_of_length_le (by omega)] at ht
    rw [ht]; exact .head _
  | f + 1, l, x, hl, ht, hs, hd => by
    have h1 : l.length < x.length := by omega
    rw [ext, List.mem_flatMap]
    refine ⟨gn x l.length, List.mem_range.2 (hs _ (gn_mem h1)), ?_⟩
    have h2 := hd l.length h1
    rw [ht] at h2
    rw [if_neg h2]
    refine ext_mem f _ x (by simp; omega) ?_ hs hd
    rw [List.length_append, List.length_singleton, List.take_succ_eq_append_getElem h1, ht]
    congr 2
    simp [gn, List.getD, h1]
theorem dayE_zero {n : Int} {P : List (List Int)} {r : List Int} : ∀ {f k : Nat}, dayE n P r f k = 0 → ∀ j, k ≤ j → j < k + f → 0 ≤ en r j ∧ en r j < n ∧ en r j ∉ r.take j ∧ metB P j (en r j) = false
  | 0, k, _, j, h1, h2 => by omega
  | f + 1, k, h, j, h1, h2 => by
    rw [dayE] at h
    split at h
    · cases h
    · rename_i a1
      split at h
      · cases h
      · rename_i a2
        split at h
        · cases h
        · rename_i a3
          split at h
          · cases h
          · rename_i a4
            by_cases e : j = k
            · subst e
              exact ⟨by omega, by omega, a3, by unfold metB; simpa using a4⟩
            · exact dayE_zero h j (by omega) (by omega)
theorem nL_toNat {r : List Int} (h : ∀ k, k < r.length → 0 ≤ en r k) : nL (r.map Int.toNat) = r := by
  refine list_en (by simp [nL]) fun d hd => ?_
  have hd' : d < r.length := by simpa [nL] using hd
  have := h d hd'
  rw [nL_en (by simpa using hd')]
  have e : gn (r.map Int.toNat) d = (en r d).toNat := by simp [gn, en, List.getD, hd']
  rw [e]; omega
theorem rowE_zero {n : Nat} {w : Int} {L : List (List Int)} : ∀ {f i : Nat}, rowE n w L f i = 0 → ∀ j, i ≤ j → j < i + f → ((ro L j).length : Int) = w ∧ w ≤ n ∧ dayE n (L.take j) (ro L j) (ro L j).length 0 = 0
  | 0, i, _, j, h1, h2 => by omega
  | f + 1, i, h, j, h1, h2 => by
    rw [rowE] at h
    split at h
    · cases h
    · rename_i a1
      split at h
      · cases h
      · rename_i a2
        split at h
        · rename_i a3; exact absurd h a3
        · rename_i a3
          by_cases e : j = i
          · subst e
            exact ⟨by omega, by omega, by omega⟩
          · exact rowE_zero h j (by omega) (by omega)
theorem fitB_mk {P : List (List Int)} {x : List Nat} : ∀ {f d : Nat}, (∀ j, d ≤ j → j < d + f → metB P j (gn x j : Nat) = false) → fitB P x f d = true
  | 0, _, _ => rfl
  | f + 1, d, h => by
    rw [fitB, h d (by omega) (by omega), fitB_mk fun j h1 h2 => h j (by omega) (by omega)]; rfl
theorem plan_vp {n : Nat} {L : List (List Int)} (h : ∀ j, j < L.length → ((ro L j).length : Int) = n ∧ dayE n (L.take j) (ro L j) (ro L j).length 0 = 0) : ∀ i, i ≤ L.length → ∃ X D, Vp n X D ∧ X.map nL = L.take i
  | 0, _ => ⟨[], _, .nil, by simp⟩
  | i + 1, hi => by
    obtain ⟨X, D, h1, h2⟩ := plan_vp h i (by omega)
    obtain ⟨a1, a2⟩ := h i (by omega)
    have hz := fun j (hj : j < (ro L i).length) => dayE_zero a2 j (by omega) (by omega)
    have en' : nL ((ro L i).map Int.toNat) = ro L i := nL_toNat fun k hk => (hz k hk).1
    have ge : ∀ k, k < (ro L i).length → gn ((ro L i).map Int.toNat) k = (en (ro L i) k).toNat := fun k hk => by simp [gn, en, List.getD, hk]
    refine ⟨X ++ [(ro L i).map Int.toNat], _, .snoc X D _ h1 ?_ ?_, ?_⟩
    · refine ext_mem n [] _ (by simp; omega) rfl (fun s hs => ?_) (fun k hk => ?_)
      · obtain ⟨k, hk, rfl⟩ := List.getElem_of_mem hs
        have hk' : k < (ro L i).length := by simpa using hk
        have := hz k hk'
        have e := ge k hk'
        simp only [gn, List.getD, hk, List.getElem?_eq_getElem, Option.getD_some] at e
        rw [e]; omega
      · have hk' : k < (ro L i).length := by simpa using hk
        have hzk := hz k hk'
        rw [ge k hk']
        intro hm
        apply hzk.2.2.1
        rw [← List.map_take, List.mem_map] at hm
        obtain ⟨y, hy, e⟩ := hm
        obtain ⟨q, hq, rfl⟩ := List.getElem_of_mem hy
        have hq2 : q < (ro L i).length := by
          rw [List.length_take] at hq; omega
        have := (hz q hq2).1
        have eq : ((ro L i).take k)[q] = en (ro L i) q := by simp [en, List.getD, hq2]
        rw [eq] at e
        have : en (ro L i) q = en (ro L i) k := by omega
        rw [← this, ← eq]
        exact List.getElem_mem hq
    · refine fitB_mk fun j _ hj => ?_
      have hj' : j < (ro L i).length := by omega
      have := hz j hj'
      rw [ge j hj', h2]
      rw [show (((en (ro L i) j).toNat : Nat) : Int) = en (ro L i) j by omega]
      exact this.2.2.2
    · rw [List.map_append, h2, List.map_singleton, en', ← take_ro (by omega)]
theorem chkE_zero {x w : Int} {L : List (List Int)} (h : chkE x w L = 0) : 1 ≤ x ∧ x ≤ 5 ∧ (L.length : Int) ≤ x ∧ rowE x w L L.length 0 = 0 := by
  unfold chkE at h
  split at h
  · cases h
  · split at h
    · cases h
    · split at h
      · cases h
      · exact ⟨by omega, by omega, by omega, h⟩
theorem plan_ok {n : Nat} {L : List (List Int)} (h : chkE n n L = 0) : ∃ X D, Vp n X D ∧ X.map nL = L := by
  obtain ⟨h1, h2, h3, h4⟩ := chkE_zero h
  obtain ⟨X, D, e1, e2⟩ := plan_vp (n := n) (L := L) (fun j hj => by
    have := rowE_zero h4 j (by omega) (by omega)
    exact ⟨this.1, this.2.2⟩) L.length (by omega)
  exact ⟨X, D, e1, by rw [e2, List.take_length]⟩
theorem check_ok (N : Nat) (hN : 2000 ≤ N) (x : Int) (L : List (List Int)) (hL : L.length ≤ 1000) (hr : ∀ r ∈ L, r.length ≤ 1000) : m23 N x (.lst false L.length (rwsP L)) = some (.int .i64 (chkE x x L)) ∧ m24 N x (.lst false L.length (rwsP L)) = some (.int .i64 (chkE x x L)) := by
  obtain ⟨T, e, _⟩ := opened_ok N hN x x L hL hr
  constructor
  · rw [m23, getL_t, e, bnd_t]
    unfold opE
    by_cases h : chkE x x L = 0
    · simp only [if_pos h]; rw [h]
    · simp only [if_neg h]
  · rw [m24, getL_t, checked_ok N hN x x L hL hr, bnd_t, getI_t]
theorem row_fit {n : Nat} (hn : n ≤ 5) {L : List (List Int)} (hp : L.length < n) {T : T3} (hT : ∀ r', Rp L L.length r' 0 T) (F : Nat) (hF : n + 2 ≤ F) : (cmpl n (L.length + 1) F L.length 0 T).map (rowOf n L.length) = (fitn n L).map nL :=
  row_cmpl n hn L L.length hp n [] T F (by simp) (by simp) (hT _) (by omega)
def rowsE (n : Nat) (A : List Int) : List (List Int) := (List.range n).map fun j => (A.drop (j * 5)).take n
theorem rows_L (N n : Nat) (hN : 5000 ≤ N) (hn1 : 1 ≤ n) (hn : n ≤ 5) (A : List Int) (hA : A.length = 25) : ∀ (f i fuel : Nat), n - i = f → f < fuel → i ≤ n →
    m65_L0 N (n : Int) (iL A) fuel i (i : Int) (rwsP ((List.range i).map fun j => (A.drop (j * 5)).take n)) = some (n, rwsP (rowsE n A))
  | f, i, 0, _, h, _ => by omega
  | 0, i, fuel + 1, hf, _, hi => by
    have : i = n := by omega
    subst this
    rw [m65_L0, brn_df (by omega)]; rfl
  | f + 1, i, fuel + 1, hf, hfu, hi => by
    have e1 : List.take n (List.drop (i * 5) (iL A)) = iL ((A.drop (i * 5)).take n) := by simp [iL, List.map_drop, List.map_take]
    have hl : ((A.drop (i * 5)).take n).length = n := by rw [List.length_take, List.length_drop]; omega
    have c : m56 N (.lst false n (iL ((A.drop (i * 5)).take n))) = some (rwP ((A.drop (i * 5)).take n)) := by
      rw [m56, getL_t, grd_t (by omega), grd_t (by rw [iL_len]; exact hl), grd_t (by omega)]
      unfold rwP; rw [hl]
    have ih := rows_L N n hN hn1 hn A hA f (i + 1) fuel (by omega) (by omega) (by omega)
    have e2 : rwsP ((List.range i).map fun j => (A.drop (j * 5)).take n) ++ [rwP ((A.drop (i * 5)).take n)] = rwsP ((List.range (i + 1)).map fun j => (A.drop (j * 5)).take n) := by
      rw [rws_app, List.range_succ, List.map_append]; rfl
    rw [m65_L0, brn_dt (by omega), grd_t ⟨by omega, by omega⟩, grd_t ⟨by omega, by omega⟩, toNatN, toNatN, e1, c, bnd_t]
    show getL (.lst false _ _) _ = _
    rw [getL_t, grd_t (by omega), grd_t (by rw [rws_len]; simp), wrapN (by omega)]
    show m65_L0 N (n : Int) (iL A) fuel (i + 1) ((i + 1 : Nat) : Int) (rwsP ((List.range i).map fun j => (A.drop (j * 5)).take n) ++ [rwP ((A.drop (i * 5)).take n)]) = _
    rw [e2, ih]
theorem getA_t {α : Type} {c : List PV} {f : List PV → Option α} : getA (.agg c) f = f c := rfl
theorem rows_ok' (N n : Nat) (hN : 5000 ≤ N) (hn1 : 1 ≤ n) (hn : n ≤ 5) (A : List Int) (hA : A.length = 25) : m65 N (.agg (iL A)) (n : Int) = some (.lst false n (rwsP (rowsE n A))) := by
  have := rows_L N n hN hn1 hn A hA n 0 N (by omega) (by omega) (by omega)
  rw [m65, getA_t, show m65_L0 N (n : Int) (iL A) N 0 0 [] = _ from this, bnd_t]
  show grd _ _ = _
  rw [grd_t (by rw [rws_len]; simp [rowsE])]
theorem oneP_A (a b : Nat) (z : Bool) (A : List Int) (hA : A.length = 25) : List.take 25 (List.drop 3 (oneP a b z A)) = iL A := by
  have : List.drop 3 (oneP a b z A) = iL A := rfl
  rw [this, List.take_of_length_le (by rw [iL_len]; omega)]
theorem search_one (N n : Nat) (hN : 5000 ≤ N) (a b : Nat) (A : List Int) (hA : A.length = 25) (T : T3) (R : List T3) (h : m88 N N (a : Int) 0 (b : Int) (oneP a b false A) (tP n T) = some (oneR n a b false A T R)) :
    m64 N (tP n T) (oneP a b false A) = some (.tup [], (oneR n a b false A T R).2.2, (oneR n a b false A T R).2.1) := by
  rw [m64, m112, grd_t (by simp [oneP]), show gp (oneP a b false A) 0 = .int .i64 (a : Int) from rfl, getI_t, grd_t (by simp [oneP]), show gp (oneP a b false A) 1 = .int .i64 (b : Int) from rfl, getI_t, bnd_t, getT2_t, getI_t, getI_t, h, bnd_t]
  cases R <;> rfl
theorem fit_cons {n : Nat} (hn : n ≤ 5) {L : List (List Int)} (h : chkE n n L = 0) (hp : L.length < n) : ∃ y l, fitn n L = y :: l := by
  obtain ⟨X, D, h1, rfl⟩ := plan_ok h
  have hm := fit_many hn h1 (by simpa using hp)
  have hf : ∀ m, 1 ≤ fac m := fun m => by
    induction m with
    | zero => exact Nat.le_refl _
    | succ m ih => rw [fac]; exact Nat.le_trans ih (Nat.le_mul_of_pos_left _ (by omega))
  have h0 := hf (n - X.length)
  cases e : fitn n (X.map nL) with
  | nil => rw [e] at hm; simp at hm; omega
  | cons y l => exact ⟨y, l, rfl⟩
theorem nL_mem {s : Nat} {l : List Nat} : decide ((s : Int) ∈ nL l) = decide (s ∈ l) := by
  refine decide_eq_decide.2 ?_
  unfold nL
  rw [List.mem_map]
  constructor
  · rintro ⟨t, ht, e⟩
    have : t = s := by omega
    exact this ▸ ht
  · exact fun h => ⟨s, h, rfl⟩
theorem ext_dis : ∀ n : Nat, n < 6 → ∀ x ∈ ext n n [], ∀ k : Nat, k < n → gn x k ∉ x.take k := by decide +kernel
theorem mem_nL {s : Nat} {l : List Nat} : (s : Int) ∈ nL l ↔ s ∈ l := by
  have := @nL_mem s l
  exact ⟨fun h => by simpa [h] using this, fun h => by simpa [h] using this⟩
theorem dayE_mk {n : Int} {P : List (List Int)} {r : List Int} : ∀ {f k : Nat}, (∀ j, k ≤ j → j < k + f → 0 ≤ en r j ∧ en r j < n ∧ en r j ∉ r.take j ∧ metB P j (en r j) = false) → dayE n P r f k = 0
  | 0, k, _ => rfl
  | f + 1, k, h => by
    obtain ⟨h1, h2, h3, h4⟩ := h k (by omega) (by omega)
    unfold metB at h4
    rw [dayE, if_neg (by omega), if_neg (by omega), if_neg h3, if_neg (by simpa using h4)]
    exact dayE_mk fun j g1 g2 => h j (by omega) (by omega)
theorem rowE_mk {n : Nat} {L : List (List Int)} : ∀ {f i : Nat}, (∀ j, i ≤ j → j < i + f → (ro L j).length = n ∧ dayE n (L.take j) (ro L j) (ro L j).length 0 = 0) → rowE n n L f i = 0
  | 0, i, _ => rfl
  | f + 1, i, h => by
    obtain ⟨h1, h2⟩ := h i (by omega) (by omega)
    rw [rowE, if_neg (by omega), if_neg (by omega), if_neg (by rw [h2]; simp)]
    exact rowE_mk fun j g1 g2 => h j (by omega) (by omega)
theorem vp_rows {n : Nat} (hn : n ≤ 5) {X : List (List Nat)} {D : List Nat} (h : Vp n X D) : ∀ j, j < X.length → (ro (X.map nL) j).length = n ∧ dayE n ((X.map nL).take j) (ro (X.map nL) j) (ro (X.map nL) j).length 0 = 0 := by
  induction h with
  | nil => intro j hj; simp at hj
  | snoc X D x h hx hf ih =>
    intro j hj
    rw [List.map_append, List.map_singleton]
    by_cases e : j < X.length
    · have e1 : ro (X.map nL ++ [nL x]) j = ro (X.map nL) j := by
        unfold ro; rw [List.getD, List.getElem?_append_left (by simpa using e)]; rfl
      rw [e1, List.take_append_of_le_length (by simp; omega)]
      exact ih j e
    · have ej : j = (X.map nL).length := by simp at hj ⊢; omega
      have e1 : ro (X.map nL ++ [nL x]) j = nL x := by subst ej; simp [ro]
      have hl := (ext_get hx).1
      have hlt := ext_lt (fun s hs => absurd hs (by simp)) hx
      simp at hl
      rw [e1, List.take_append_of_le_length (by omega), ej, List.take_length, nL_len]
      refine ⟨hl, dayE_mk fun k _ hk => ?_⟩
      have hk' : k < x.length := by omega
      have hd := ext_dis n (by omega) x hx k (by omega)
      have hm := hlt _ (gn_mem hk')
      rw [nL_en hk']
      refine ⟨by omega, by omega, ?_, fitB_get hf k (by omega) (by omega)⟩
      rw [show (nL x).take k = nL (x.take k) by simp [nL], mem_nL]
      exact hd
theorem vp_chk {n : Nat} (hn1 : 1 ≤ n) (hn : n ≤ 5) {X : List (List Nat)} {D : List Nat} (h : Vp n X D) (hX : X.length ≤ n) : chkE n n (X.map nL) = 0 := by
  unfold chkE
  rw [if_neg (by omega), if_neg (by omega), if_neg (by simp; omega)]
  exact rowE_mk fun j _ hj => vp_rows hn h j (by simpa using hj)
theorem vp_len {n : Nat} {X : List (List Nat)} {D : List Nat} (h : Vp n X D) : ∀ q ∈ X.map nL, q.length = n := by
  induction h with
  | nil => intro q hq; simp at hq
  | snoc X D x h hx hf ih =>
    intro q hq
    rw [List.map_append, List.mem_append] at hq
    rcases hq with hq | hq
    · exact ih q hq
    · simp at hq; subst hq
      rw [nL_len]; simpa using (ext_get hx).1
theorem nd_lt {to i n : Nat} (h : i < to) : (to - (i + 1)) * (n + 1) + n < (to - i) * (n + 1) := by
  obtain ⟨a, rfl⟩ : ∃ a, to = i + 1 + a := ⟨to - (i + 1), by omega⟩
  rw [show i + 1 + a - (i + 1) = a by omega, show i + 1 + a - i = a + 1 by omega, Nat.add_mul, Nat.one_mul]; omega
theorem cmpl_fuel (n to : Nat) : ∀ (f f' i k : Nat) (T : T3), (to - i) * (n + 1) + (n - k) < f → (to - i) * (n + 1) + (n - k) < f' → i ≤ to → k ≤ n → cmpl n to f i k T = cmpl n to f' i k T
  | 0, _, _, _, _, h, _, _, _ => by omega
  | _ + 1, 0, _, _, _, _, h, _, _ => by omega
  | f + 1, f' + 1, i, k, T, h, h', hi, hk => by
    rw [cmpl, cmpl]
    by_cases e : i = to
    · rw [if_pos e, if_pos e]
    · have hh := nd_lt (n := n) (show i < to by omega)
      rw [if_neg e, if_neg e]
      by_cases e2 : k = n
      · rw [if_pos e2, if_pos e2, cmpl_fuel n to f f' (i + 1) 0 T (by omega) (by omega) (by omega) (by omega)]
      · rw [if_neg e2, if_neg e2, cmpl_fuel n to f f' i (k + 1) T (by omega) (by omega) hi (by omega)]
        by_cases e3 : 0 ≤ en T.1 (i * 5 + k)
        · rw [if_pos e3, if_pos e3]
        · rw [if_neg e3, if_neg e3]
          exact fm_congr fun s _ => cmpl_fuel n to f f' i (k + 1) _ (by omega) (by omega) hi (by omega)
theorem cmpl_in {n to f i k : Nat} {T : T3} (h1 : i ≠ to) (h2 : k ≠ n) : cmpl n to (f + 1) i k T = if 0 ≤ en T.1 (i * 5 + k) then cmpl n to f i (k + 1) T else (bits (mayB n (bn T.2.1 i) (bn T.2.2 k))).flatMap fun s => cmpl n to f i (k + 1) (putT T i k s) := by
  rw [cmpl, if_neg h1, if_neg h2]
theorem cmpl_split (n p : Nat) (hp : p < n) : ∀ (f k : Nat) (T : T3), k + f = n → ∀ F F' G, (n - p) * (n + 1) + (n - k) < F → (p + 1 - p) * (n + 1) + (n - k) < F' → (n - (p + 1)) * (n + 1) + n < G →
    cmpl n n F p k T = (cmpl n (p + 1) F' p k T).flatMap fun T' => cmpl n n G (p + 1) 0 T'
  | 0, k, T, hk, F, F', G, hF, hF', hG => by
    obtain ⟨F, rfl⟩ : ∃ x, F = x + 1 := ⟨F - 1, by omega⟩
    obtain ⟨F', rfl⟩ : ∃ x, F' = x + 2 := ⟨F' - 2, by rw [show p + 1 - p = 1 by omega] at hF'; omega⟩
    have hh := nd_lt (n := n) hp
    rw [cmpl, if_neg (by omega), if_pos (by omega), cmpl, if_neg (by omega), if_pos (by omega), cmpl, if_pos rfl, List.flatMap_singleton]
    exact cmpl_fuel n n F G (p + 1) 0 T (by omega) (by omega) (by omega) (by omega)
  | f + 1, k, T, hk, F, F', G, hF, hF', hG => by
    obtain ⟨F, rfl⟩ : ∃ x, F = x + 1 := ⟨F - 1, by omega⟩
    obtain ⟨F', rfl⟩ : ∃ x, F' = x + 1 := ⟨F' - 1, by omega⟩
    have ih := fun T => cmpl_split n p hp f (k + 1) T (by omega) F F' G (by omega) (by omega) hG
    rw [cmpl_in (by omega) (by omega), cmpl_in (by omega) (by omega)]
    by_cases e3 : 0 ≤ en T.1 (p * 5 + k)
    · rw [if_pos e3, if_pos e3, ih]
    · rw [if_neg e3, if_neg e3, List.flatMap_assoc]
      exact fm_congr fun s _ => ih _
theorem cmpl_skip (n p : Nat) (hp : p ≤ n) (T : T3) (hT : ∀ i k, i < p → k < n → 0 ≤ en T.1 (i * 5 + k)) : ∀ (f i k F : Nat), (n - i) * (n + 1) + (n - k) < f → (n - p) * (n + 1) + n < F → i ≤ p → k ≤ n → (i = p → k = 0) → cmpl n n f i k T = cmpl n n F p 0 T
  | 0, _, _, _, h, _, _, _, _ => by omega
  | f + 1, i, k, F, h, hF, hi, hk, hz => by
    by_cases e : i = p
    · obtain rfl := e
      obtain rfl := hz rfl
      exact cmpl_fuel n n _ _ i 0 T (by omega) (by omega) hp (by omega)
    · have hh := nd_lt (n := n) (show i < n by omega)
      rw [cmpl, if_neg (by omega)]
      by_cases e2 : k = n
      · rw [if_pos e2]
        exact cmpl_skip n p hp T hT f (i + 1) 0 F (by omega) hF (by omega) (by omega) (fun _ => rfl)
      · rw [if_neg e2, if_pos (hT i k (by omega) (by omega))]
        exact cmpl_skip n p hp T hT f i (k + 1) F (by omega) hF hi (by omega) (fun g => absurd g e)
theorem row_mem (n : Nat) (hn : n ≤ 5) (P : List (List Int)) (p : Nat) (hp : p < n) (hP : P.length = p) : ∀ (f : Nat) (l : List Nat) (T : T3) (F : Nat), l.length + f = n → Rp P p (nL l) l.length T → f + 2 ≤ F → ∀ T' ∈ cmpl n (p + 1) F p l.length T, ∃ x : List Nat, x.length = n ∧ rowOf n p T' = nL x ∧ ∀ r', Rp (P ++ [nL x]) (p + 1) r' 0 T'
  | 0, l, T, F, hl, hT, hF => by
    obtain ⟨F, rfl⟩ : ∃ G, F = G + 2 := ⟨F - 2, by omega⟩
    rw [cmpl, if_neg (by omega), if_pos (by omega), cmpl, if_pos rfl]
    intro T' hm
    obtain rfl := List.mem_singleton.1 hm
    have h2 := hT
    rw [show l.length = (nL l).length from (nL_len l).symm] at h2
    refine ⟨l, by omega, ?_, fun r' => h2.next hP (by rw [nL_len]; omega) r'⟩
    exact rowOf_eq hn (by omega) hT.tv (by rw [nL_len]; omega) fun d hd => by
      rw [hT.a p d (by omega) (by omega), if_neg (by omega), if_pos ⟨rfl, by omega⟩]
  | f + 1, l, T, F, hl, hT, hF => by
    obtain ⟨F, rfl⟩ : ∃ G, F = G + 1 := ⟨F - 1, by omega⟩
    have ha : en T.1 (p * 5 + l.length) = -1 := by
      rw [hT.a p l.length (by omega) (by omega), if_neg (by omega), if_neg (by omega)]
    rw [cmpl, if_neg (by omega), if_neg (by omega), if_neg (by omega)]
    intro T' hm
    obtain ⟨s, hs, hm⟩ := List.mem_flatMap.1 hm
    have h5 := (mem_bits.1 hs).1
    have hl1 : (l ++ [s]).length = l.length + 1 := by simp
    have hR : Rp P p (nL (l ++ [s])) l.length T := hT.congr (by rw [show nL (l ++ [s]) = nL l ++ [(s : Int)] by simp [nL], List.take_append_of_le_length (by rw [nL_len]; omega)]) fun d hd => by rw [nL_en hd, nL_en (by omega), gn_app1 hd]
    have hR2 := hR.put (by omega) (by omega) (by rw [nL_len]; omega) h5 (by rw [nL_en (by omega), gn_app2])
    rw [← hl1] at hR2 hm
    exact row_mem n hn P p hp hP f (l ++ [s]) _ F (by omega) hR2 (by omega) T' hm
def gre (n : Nat) : Nat → List (List Nat) → List (List Nat)
  | 0, X => X
  | m + 1, X => gre n m (X ++ [(fitn n (X.map nL)).headD []])
theorem gre_len (n : Nat) : ∀ (m : Nat) (X : List (List Nat)), (gre n m X).length = X.length + m
  | 0, X => rfl
  | m + 1, X => by rw [gre, gre_len n m]; simp; omega
theorem vp_head {n : Nat} (hn1 : 1 ≤ n) (hn : n ≤ 5) {X : List (List Nat)} {D : List Nat} (h : Vp n X D) (hX : X.length < n) : ∃ y l, fitn n (X.map nL) = y :: l ∧ Vp n (X ++ [y]) (stp D y) ∧ y.length = n := by
  obtain ⟨y, l, e⟩ := fit_cons hn (vp_chk hn1 hn h (by omega)) (by simpa using hX)
  have hm : y ∈ fitn n (X.map nL) := by rw [e]; exact .head _
  obtain ⟨h1, h2⟩ := List.mem_filter.1 hm
  exact ⟨y, l, e, .snoc X D y h h1 h2, by simpa using (ext_get h1).1⟩
theorem gre_vp {n : Nat} (hn1 : 1 ≤ n) (hn : n ≤ 5) : ∀ (m : Nat) {X : List (List Nat)} {D : List Nat}, Vp n X D → X.length + m = n → ∃ D', Vp n (gre n m X) D'
  | 0, X, D, h, _ => ⟨D, h⟩
  | m + 1, X, D, h, hm => by
    obtain ⟨y, l, e, h2, _⟩ := vp_head hn1 hn h (by omega)
    rw [gre, e]
    exact gre_vp hn1 hn m h2 (by simp; omega)
theorem full_hd {n : Nat} (hn1 : 1 ≤ n) (hn : n ≤ 5) : ∀ (m : Nat) (X : List (List Nat)) (D : List Nat) (T : T3), Vp n X D → X.length + m = n → (∀ r', Rp (X.map nL) X.length r' 0 T) → ∀ F, (n - X.length) * (n + 1) + n < F →
    ∃ T1 l, cmpl n n F X.length 0 T = T1 :: l ∧ ∀ r', Rp ((gre n m X).map nL) n r' 0 T1
  | 0, X, D, T, h, hm, hT, F, hF => by
    obtain ⟨F, rfl⟩ : ∃ x, F = x + 1 := ⟨F - 1, by omega⟩
    rw [cmpl, if_pos (by omega)]
    exact ⟨T, [], rfl, by rw [show X.length = n by omega] at hT; exact hT⟩
  | m + 1, X, D, T, h, hm, hT, F, hF => by
    obtain ⟨y, l, e, h2, hy⟩ := vp_head hn1 hn h (by omega)
    have hl : (X.map nL).length = X.length := List.length_map ..
    have hr := row_fit hn (L := X.map nL) (by omega) (T := T) (by rw [hl]; exact hT) (n + n + 4) (by omega)
    rw [hl, e] at hr
    cases ec : cmpl n (X.length + 1) (n + n + 4) X.length 0 T with
    | nil => rw [ec] at hr; simp at hr
    | cons T' R =>
      rw [ec] at hr
      have hr1 : rowOf n X.length T' = nL y := by
        simp only [List.map_cons, List.cons.injEq] at hr; exact hr.1
      obtain ⟨x, x1, x2, x3⟩ := row_mem n hn (X.map nL) X.length (by omega) hl n [] T (n + n + 4) (by simp) (hT _) (by omega) T' (by rw [show ([] : List Nat).length = 0 from rfl, ec]; exact .head _)
      rw [← x2, hr1] at x3
      rw [gre, e]
      have hl1 : (X ++ [y]).length = X.length + 1 := by simp
      obtain ⟨T1, l1, g1, g2⟩ := full_hd hn1 hn m (X ++ [y]) _ T' h2 (by omega) (by rw [hl1, List.map_append, List.map_singleton]; exact x3) ((n - (X.length + 1)) * (n + 1) + n + 1) (by rw [hl1]; omega)
      rw [hl1] at g1
      rw [cmpl_split n X.length (by omega) n 0 T (by omega) F (n + n + 4) ((n - (X.length + 1)) * (n + 1) + n + 1) (by omega) (by rw [show X.length + 1 - X.length = 1 by omega]; omega) (by omega), ec, List.flatMap_cons, g1]
      exact ⟨T1, _, rfl, g2⟩
theorem full_rows {n : Nat} (hn : n ≤ 5) {L : List (List Int)} (hL : L.length = n) (hl : ∀ q ∈ L, q.length = n) {T : T3} (hT : ∀ r', Rp L n r' 0 T) : rowsE n T.1 = L := by
  have h := hT []
  unfold rowsE
  refine List.ext_getElem (by simp [hL]) fun i h1 h2 => ?_
  have hi : i < n := by simpa using h1
  have e : L[i] = ro L i := by simp [ro, List.getD, h2]
  rw [List.getElem_map, List.getElem_range, e]
  have hq := hl _ (ro_mem h2)
  exact rowOf_eq hn (by omega) h.tv hq fun d hd => by
    rw [h.a i d (by omega) (by omega), if_pos hi, if_pos (by omega)]
structure Rc (P : List (List Int)) (i : Nat) (r : List Int) (k : Nat) (Q : List (List Int)) (T : T3) : Prop where
  tv : Tv T
  b : ∀ s, s < 5 → ((bn T.2.1 i).testBit s = true ↔ (s : Int) ∈ r.take k)
  bq : ∀ j s, j < 5 → i < j → s < 5 → ((bn T.2.1 j).testBit s = true ↔ (s : Int) ∈ ro Q (j - (i + 1)))
  d : ∀ d s, d < 5 → s < 5 → ((bn T.2.2 d).testBit s = true ↔ (∃ q ∈ P ++ Q, d < q.length ∧ en q d = (s : Int)) ∨ (d < k ∧ en r d = (s : Int)))
  ap : ∀ j d, j < i → j < 5 → d < 5 → en T.1 (j * 5 + d) = if d < (ro P j).length then en (ro P j) d else -1
  ai : ∀ d, i < 5 → d < 5 → en T.1 (i * 5 + d) = if d < k then en r d else -1
  aq : ∀ j d, i < j → j < 5 → d < 5 → en T.1 (j * 5 + d) = if d < (ro Q (j - (i + 1))).length then en (ro Q (j - (i + 1))) d else -1
theorem Rc.congr {P Q : List (List Int)} {i k : Nat} {r r' : List Int} {T : T3} (h : Rc P i r k Q T) (h1 : r.take k = r'.take k) (h2 : ∀ d, d < k → en r d = en r' d) : Rc P i r' k Q T := by
  refine ⟨h.tv, fun s hs => by rw [← h1]; exact h.b s hs, h.bq, fun d s hd hs => ?_, h.ap, fun d h5 hd => ?_, h.aq⟩
  · rw [h.d d s hd hs]
    constructor
    · rintro (h3 | h3)
      · exact .inl h3
      · exact .inr ⟨h3.1, by rw [← h2 d h3.1]; exact h3.2⟩
    · rintro (h3 | h3)
      · exact .inl h3
      · exact .inr ⟨h3.1, by rw [h2 d h3.1]; exact h3.2⟩
  · rw [h.ai d h5 hd]
    by_cases h3 : d < k
    · rw [if_pos h3, if_pos h3, h2 d h3]
    · rw [if_neg h3, if_neg h3]
theorem met2_L (N k : Nat) (s : Int) (P : List (List Int)) (hP : P.length ≤ 1000) : ∀ (f i fuel : Nat), P.length - i = f → f < fuel → m63_2_L0 N P.length (k : Int) s (rwsP P) fuel (i : Int) = some (if metB (P.drop i) k s then .inl (.bool true) else .inr ())
  | f, i, 0, _, h => by omega
  | f, i, fuel + 1, hf, hfu => by
    rw [m63_2_L0]
    unfold metB
    by_cases h : i < P.length
    · have ih := met2_L N k s P hP (f - 1) (i + 1) fuel (by omega) (by omega)
      unfold metB at ih
      rw [brn_dt (by omega), grd_t (p := 0 ≤ (i : Int) ∧ (i : Int) < ((P.length : Nat) : Int)) ⟨by omega, by omega⟩, grd_t (p := Int.toNat (i : Int) < List.length (rwsP P)) (by rw [rws_len, toNatN]; omega), gL_n h, drop_ro h, List.any_cons]
      by_cases hk : k < (ro P i).length
      · rw [brn_dt (by omega), decide_eq_true hk, Bool.true_and]
        rw [grd_t (p := 0 ≤ (k : Int) ∧ (k : Int) < (((ro P i).length : Nat) : Int)) ⟨by omega, by omega⟩, grd_t (p := 0 < List.length (List.drop (Int.toNat (k : Int)) (iL (ro P i)))) (by rw [List.length_drop, iL_len, toNatN]; omega), gI_n hk]
        by_cases e : en (ro P i) k = s
        · rw [brn_et e, if_pos (by simp [e])]
        · rw [brn_ef e, wrapN (by omega), ih, show (en (ro P i) k == s) = false from by simpa using e, Bool.false_or]
      · rw [brn_df (by omega), decide_eq_false hk, Bool.false_and, Bool.false_or, wrapN (by omega), ih]
    · rw [brn_df (by omega), List.drop_eq_nil_of_le (by omega)]; rfl
theorem met2_ok (N : Nat) (hN : 2000 ≤ N) (k : Nat) (s : Int) (P : List (List Int)) (hP : P.length ≤ 1000) : m63_2 N P.length (k : Int) s (rwsP P) = some (.bool (metB P k s)) := by
  have := met2_L N k s P hP P.length 0 N (by omega) (by omega)
  rw [m63_2, show m63_2_L0 N P.length (k : Int) s (rwsP P) N 0 = _ from this, List.drop_zero, bnd_t]
  cases metB P k s <;> rfl
theorem fit2_L1 (N n : Nat) (hN : 5000 ≤ N) (hn : n ≤ 5) (P : List (List Int)) (hP : P.length ≤ 1000) (R : List (List Nat)) (hR : ∀ x ∈ R, x.length = n) (i : Nat) (hi : i < R.length) (m : Nat) (cm : List PV) (k : Int) (hk : k = (i : Int)) : ∀ (f d fuel : Nat) (b : Bool), n - d = f → f < fuel → d ≤ n →
    m67_2_L1 N (n : Int) P.length (rwsP P) R.length (rwsP (R.map nL)) m k cm fuel b (d : Int) = some (b && fitB P (R.getD i []) f d)
  | f, d, 0, _, _, h, _ => by omega
  | 0, d, fuel + 1, b, hf, _, hd => by
    rw [m67_2_L1, brn_df (by omega), fitB, Bool.and_true]
  | f + 1, d, fuel + 1, b, hf, hfu, hd => by
    have hx := hR (R.getD i []) (by simp [List.getD, hi])
    have ih := fun b => fit2_L1 N n hN hn P hP R hR i hi m cm k hk f (d + 1) fuel b (by omega) (by omega) (by omega)
    rw [m67_2_L1, brn_dt (by omega), fitB, wrapN (by omega)]
    cases b with
    | false => rw [brn_f rfl, ih]; simp
    | true =>
      have e1 : ro (R.map nL) i = nL (R.getD i []) := by simp [ro, List.getD, hi]
      have hl : (R.map nL).length = R.length := by simp
      subst hk
      rw [brn_t rfl, grd_t ⟨by omega, by omega⟩, toNatN, grd_t (by rw [List.length_drop, rws_len, hl]; omega), rws_gp (by rw [hl]; exact hi), getL_t, e1, nL_len, hx, toNatN, grd_t ⟨by omega, by omega⟩, grd_t (by rw [List.length_drop, iL_len, nL_len]; omega), iL_gp (by rw [nL_len]; omega), getI_t, nL_en (by omega), met2_ok N (by omega) d _ P hP, bnd_t, getB_t, Bool.true_and]
      cases metB P d (gn (R.getD i []) d : Nat) with
      | true => rw [brn_t rfl, ih]; simp
      | false => rw [brn_f rfl, ih]; simp
theorem fit2_L0 (N n : Nat) (hN : 5000 ≤ N) (hn : n ≤ 5) (P : List (List Int)) (hP : P.length ≤ 1000) (R : List (List Nat)) (hRl : R.length ≤ 4000) (hR : ∀ x ∈ R, x.length = n) : ∀ (f i fuel : Nat) (A : List (List Nat)), R.length - i = f → f < fuel → A.length ≤ i →
    m67_2_L0 N (n : Int) P.length (rwsP P) R.length (rwsP (R.map nL)) fuel A.length (i : Int) (rwsP (A.map nL)) = some ((A ++ (R.drop i).filter fun l => fitB P l n 0).length, rwsP ((A ++ (R.drop i).filter fun l => fitB P l n 0).map nL))
  | f, i, 0, _, _, h, _ => by omega
  | f, i, fuel + 1, A, hf, hfu, hA => by
    rw [m67_2_L0]
    by_cases h : i < R.length
    · have hl : (R.map nL).length = R.length := by simp
      have e1 : ro (R.map nL) i = nL (R.getD i []) := by simp [ro, List.getD, h]
      have ed : R.drop i = R.getD i [] :: R.drop (i + 1) := by rw [List.drop_eq_getElem_cons h]; simp [List.getD, h]
      have hx := hR (R.getD i []) (by simp [List.getD, h])
      rw [brn_dt (by omega), show m67_2_L1 N (n : Int) P.length (rwsP P) R.length (rwsP (R.map nL)) A.length (i : Int) (rwsP (A.map nL)) N true 0 = _ from fit2_L1 N n hN hn P hP R hR i h A.length (rwsP (A.map nL)) (i : Int) rfl n 0 N true (by omega) (by omega) (by omega), bnd_t, Bool.true_and, ed, List.filter_cons, wrapN (by omega)]
      cases fitB P (R.getD i []) n 0 with
      | true =>
        have ih := fit2_L0 N n hN hn P hP R hRl hR (f - 1) (i + 1) fuel (A ++ [R.getD i []]) (by omega) (by omega) (by simp; omega)
        have e4 : rwsP (A.map nL) ++ [rwP (nL (R.getD i []))] = rwsP ((A ++ [R.getD i []]).map nL) := by simp [rwsP]
        rw [List.length_append, List.length_singleton, List.append_assoc, List.singleton_append] at ih
        rw [brn_t rfl, grd_t ⟨by omega, by omega⟩, toNatN, grd_t (by rw [List.length_drop, rws_len, hl]; omega), rws_gp (by rw [hl]; exact h), getL_t, e1, grd_t (by omega), grd_t (by rw [rws_len, List.length_map]), if_pos rfl]
        rw [show rwsP (A.map nL) ++ [PV.lst false (nL (R.getD i [])).length (iL (nL (R.getD i [])))] = _ from e4]
        exact ih
      | false =>
        rw [brn_f rfl, if_neg (by simp)]
        exact fit2_L0 N n hN hn P hP R hRl hR (f - 1) (i + 1) fuel A (by omega) (by omega) (by omega)
    · rw [brn_df (by omega), List.drop_eq_nil_of_le (by omega)]; simp
theorem fitting2_ok (N n : Nat) (hN : 5000 ≤ N) (hn : n ≤ 5) (P : List (List Int)) (hP : P.length ≤ 1000) : m67_2 N (n : Int) P.length (rwsP P) = some (.lst false (fitn n P).length (rwsP ((fitn n P).map nL))) := by
  have hc := ext_card (n := n) n []
  have hp := pow5 (f := n) hn hn
  have r := rows_ok N n hN hn n N [] (by simp) (by omega)
  have e := fit2_L0 N n hN hn P hP (ext n n []) (by omega) (fun x hx => by have := (ext_get hx).1; simpa using this) (ext n n []).length 0 N [] (by omega) (by omega) (by simp)
  rw [m67_2, show m91 N N (n : Int) (.lst false 0 []) = _ from r, bnd_t, getL_t]
  rw [show m67_2_L0 N (n : Int) P.length (rwsP P) (ext n n []).length (rwsP ((ext n n []).map nL)) N 0 0 [] = _ from e, bnd_t]
  show grd _ _ = _
  rw [List.nil_append, List.drop_zero, grd_t (by rw [rws_len, List.length_map])]
  rfl
theorem copy_L (N : Nat) (L : List (List Int)) (hL : L.length ≤ 1000) (hr : ∀ r ∈ L, r.length ≤ 1000) : ∀ (f i fuel : Nat), L.length - i = f → f < fuel → i ≤ L.length →
    m93_L0 N L.length (rwsP L) fuel i (i : Int) (rwsP (L.take i)) = some (L.length, rwsP L)
  | f, i, 0, _, _, _ => by omega
  | f, i, fuel + 1, hf, hfu, hi => by
    rw [m93_L0]
    by_cases g : i < L.length
    · have hq := hr _ (ro_mem g)
      have ih := copy_L N L hL hr (f - 1) (i + 1) fuel (by omega) (by omega) (by omega)
      rw [take_ro g, ← rws_app] at ih
      unfold rwP at ih
      have key : ∀ {α : Type} {b : Bool} {x : Option α}, brn b x x = x := fun {α b x} => by cases b <;> rfl
      rw [brn_dt (by omega), grd_t ⟨by omega, by omega⟩, toNatN, grd_t (by rw [List.length_drop, rws_len]; omega), rws_gp g, getL_t, grd_t (iL_len _), key, grd_t (by omega), grd_t (by omega), grd_t (by rw [rws_len, List.length_take]; omega), wrapN (by omega)]
      exact ih
    · rw [brn_df (by omega), show i = L.length by omega, List.take_length]
theorem copy_ok (N : Nat) (hN : 2000 ≤ N) (L : List (List Int)) (hL : L.length ≤ 1000) (hr : ∀ r ∈ L, r.length ≤ 1000) : m93 N (.lst false L.length (rwsP L)) = some (L.length, rwsP L) := by
  have h := copy_L N L hL hr L.length 0 N (by omega) (by omega) (by omega)
  rw [m93, getL_t, show m93_L0 N L.length (rwsP L) N 0 0 [] = _ from h, bnd_t]
theorem gre_L (N n : Nat) (hN : 5000 ≤ N) (hn1 : 1 ≤ n) (hn : n ≤ 5) : ∀ (m fuel : Nat) (X : List (List Nat)) (D : List Nat), m < fuel → Vp n X D → X.length + m = n →
    m70_L0 N (n : Int) fuel X.length (rwsP (X.map nL)) = some (n, rwsP ((gre n m X).map nL))
  | m, 0, _, _, h, _, _ => by omega
  | 0, fuel + 1, X, D, _, h, hm => by
    rw [m70_L0, brn_df (by omega), gre, show X.length = n by omega]
  | m + 1, fuel + 1, X, D, hf, h, hm => by
    obtain ⟨y, l, e, h2, hy⟩ := vp_head hn1 hn h (by omega)
    have hlen : (X.map nL).length = X.length := List.length_map ..
    have hfi := fitting2_ok N n hN hn (X.map nL) (by omega)
    rw [hlen, e] at hfi
    have ih := gre_L N n hN hn1 hn m fuel (X ++ [y]) _ (by omega) h2 (by simp; omega)
    rw [List.length_append, List.length_singleton, List.map_append, List.map_singleton, ← rws_app] at ih
    unfold rwP at ih
    rw [m70_L0, brn_dt (by omega), hfi, bnd_t, getL_t, grd_t (by simp <;> omega), grd_t (by simp [rwsP]), show gp (rwsP ((y :: l).map nL)) 0 = rwP (nL y) from rfl]
    unfold rwP
    rw [getL_t, grd_t (by omega), grd_t (by rw [rws_len, hlen]), ih, gre, e]; rfl
end Go.Proofs.YtcaecfofgdogbaaDoor
