/-
  The first full plan: row by row, the first that fits.
-/
import Derived.Test.YtcaecfofgdogbaaDoorEWpB
import Derived.Test.YtcaecfofgdogbaaDoorEWyA
import Derived.Test.YtcaecfofgdogbaaDoorEV39
import Derived.Test.YtcaecfofgdogbaaDoorEV36
set_option linter.unusedSimpArgs false
set_option linter.unusedVariables false
namespace Go.Proofs.YtcaecfofgdogbaaDoor
open Go.V
open Nat renaming reduceBEq → qa, reduceAdd → qb, reduceSub → qc, reduceMul → qd, reduceLT → qe, reduceLeDiff → qf
open Int renaming reduceLE → qg, reduceLT → qh, reduceToNat → qi, reduceBEq → qj, reduceBNe → qk
set_option maxRecDepth 100000
set_option maxHeartbeats 4000000
set_option linter.unusedSimpArgs false
set_option linter.unusedVariables false
attribute [local go_sem] tl1 tl2 tl3 tl4 tl5 tl9 tl17 tl21 tl22 tl23 tl24 tl25 tl27 tl28 tl30 tl31 tl32 tl33 tl35 tl36 tl37 tl38 tl39 tl40 tl42 tl43 tl44 tl45 tl46 tl47 tl48 tl49 tl50 tl51 tl52 tl53 tl54 tl55 tl56 tl57 tl58 tl59 tl61 tl62 tl63 tl64 tl65 tl66 tl67 tl68 tl69 tl70 tl71 tl72 tl73 tl74 tl75 tl76 tl77 tl78 tl79 tl80 tl81 tl82 tl83 tl84 tl85 tl87 tl89 tl90 tl91 tl92 tl93 tl94 tl96 tl97 tl98 tl99 tl100 tl101 tl102 tl103 tl104 tl105 tl106 tl107 tl108 tl109 tl115 tl119
def m16 (N : Nat) : Option PV := some (.bool true)
theorem c16 (N : Nat) (r : PV) (h : m16 N = some r) : FnP Tryd.prog 16 [] r := by
  obtain rfl := Option.some.inj h
  exact k92
def m85 (N : Nat) (p3688 : PV) : Option (PV) :=
  getL p3688 fun n3690 c3691 =>
  brn (((n3690 : Nat) : Int) == 0) (
    some (.int .i64 0)) (
    grd (0 < ((n3690 : Nat) : Int)) <|
    grd (0 < List.length c3691) <|
    getL (gp c3691 0) fun n3696 c3697 =>
    some (.int .i64 ((n3696 : Nat) : Int)))
theorem c85 (N : Nat) (p3688 : PV) (r : PV)  (h : m85 N p3688 = some r) : FnP Tryd.prog 85 [p3688] r := by
  unfold m85 at h
  refine Fn_of (sz := 10) tab_ok [0, 2, 5] [.tmp 2] Tryd.func85 rfl rfl rfl (by simp) ?_
  simp only [initSt, initEnv, List.map_cons, List.map_nil, List.getD_cons_zero, List.getD_cons_succ, List.getD_nil]
  have hh := getL_some h; clear h; obtain ⟨n3690, c3691, h3689, h⟩ := hh
  have hh := brn_some h; clear h; rcases hh with ⟨h3692, h⟩ | ⟨h3692, h⟩
  · refine W_sound tab_ok mixed 18 _ _ _ ?_
    simp -implicitDefEqProofs only [go_sem, qa, qb, qc, qd, qe, qf, qg, qh, qi, qj, qk, ↓reduceIte, h3689, h3692]
    repeat with_reducible refine ⟨by first | kernel_rfl | decide, ?_⟩
    obtain rfl := Option.some.inj h
    exact finC [(2, .v (.int .i64 0))] [(2, .v (.int .i64 0))] (by simp [leE, lk_cons]) (.cons _ _ _ _ _ (.v _ _ (.refl _)) .nil) (by rfl) (by simp [leE, lk_cons]) (by decide) (by decide) rfl (by simp only [go_sem, qa, qb, qc, qd, qe, qf, qg, qh, qi, qj, qk, ↓reduceIte, resQ_tmp, resQ_cell, resQ_nil, retD_one, retD_two, retD_three, retD_none]; try simp [R.val, retD_one, retD_two, retD_three, retD_none])
  · have hh := grd_some h; clear h; obtain ⟨g3693, h⟩ := hh
    have hh := grd_some h; clear h; obtain ⟨g3694, h⟩ := hh
    have hh := getL_some h; clear h; obtain ⟨n3696, c3697, h3695, h⟩ := hh
    refine W_sound tab_ok mixed 23 _ _ _ ?_
    simp -implicitDefEqProofs only [go_sem, qa, qb, qc, qd, qe, qf, qg, qh, qi, qj, qk, ↓reduceIte, h3689, h3692, g3693, g3694, h3695]
    repeat with_reducible refine ⟨by first | kernel_rfl | decide, ?_⟩
    obtain rfl := Option.some.inj h
    exact finC [(2, .v (.int .i64 ((n3696 : Nat) : Int)))] [(2, .v (.int .i64 ((n3696 : Nat) : Int)))] (by simp [leE, lk_cons]) (.cons _ _ _ _ _ (.v _ _ (.refl _)) .nil) (by rfl) (by simp [leE, lk_cons]) (by decide) (by decide) rfl (by simp only [go_sem, qa, qb, qc, qd, qe, qf, qg, qh, qi, qj, qk, ↓reduceIte, resQ_tmp, resQ_cell, resQ_nil, retD_one, retD_two, retD_three, retD_none]; try simp [R.val, retD_one, retD_two, retD_three, retD_none])
def m50 (N : Nat) (x3683 : Int) (p3684 : PV) : Option (PV) :=
  getL p3684 fun n3686 c3687 =>
  bnd' (m85 N (.lst false n3686 c3687)) fun p3698 =>
  getI .i64 p3698 fun x3701 =>
  bnd' (m68 N x3683 (.lst false n3686 c3687) x3701) fun p3702 =>
  getI .i64 p3702 fun x3705 =>
  some (.int .i64 x3705)
theorem c50 (N : Nat) (x3683 : Int) (p3684 : PV) (r : PV)  (h : m50 N x3683 p3684 = some r) : FnP Tryd.prog 50 [(.int .i64 x3683), p3684] r := by
  unfold m50 at h
  refine Fn_of (sz := 10) tab_ok [0, 1, 4] [.tmp 4] Tryd.func50 rfl rfl rfl (by simp) ?_
  simp only [initSt, initEnv, List.map_cons, List.map_nil, List.getD_cons_zero, List.getD_cons_succ, List.getD_nil]
  have hh := getL_some h; clear h; obtain ⟨n3686, c3687, h3685, h⟩ := hh
  have hh := bnd'_some h; clear h; obtain ⟨p3698, h3699, h⟩ := hh
  refine W_sound tab_ok mixed 9 _ _ _ ?_
  simp -implicitDefEqProofs only [go_sem, qa, qb, qc, qd, qe, qf, qg, qh, qi, qj, qk, ↓reduceIte, h3685]
  repeat with_reducible refine ⟨by first | kernel_rfl | decide, ?_⟩
  refine Wp_callP (c85 N _ _ h3699) (by kernel_rfl) rfl rfl rfl rfl (by decide) ?_
  have hh := getI_some h; clear h; obtain ⟨x3701, h3700, h⟩ := hh
  have hh := bnd'_some h; clear h; obtain ⟨p3702, h3703, h⟩ := hh
  (try simp -implicitDefEqProofs only [go_sem, qa, qb, qc, qd, qe, qf, qg, qh, qi, qj, qk, ↓reduceIte, h3685, h3700])
  refine Wp_callP (c68 N _ _ _ _ h3703) (by kernel_rfl) rfl rfl rfl rfl (by decide) ?_
  have hh := getI_some h; clear h; obtain ⟨x3705, h3704, h⟩ := hh
  refine W_sound tab_ok mixed 4 _ _ _ ?_
  simp -implicitDefEqProofs only [go_sem, qa, qb, qc, qd, qe, qf, qg, qh, qi, qj, qk, ↓reduceIte, h3685, h3700, h3704]
  repeat with_reducible refine ⟨by first | kernel_rfl | decide, ?_⟩
  obtain rfl := Option.some.inj h
  exact finC [(4, .v (.int .i64 x3705))] [(4, .v (.int .i64 x3705))] (by simp [leE, lk_cons]) (.cons _ _ _ _ _ (.v _ _ (.refl _)) .nil) (by rfl) (by simp [leE, lk_cons]) (by decide) (by decide) rfl (by simp only [go_sem, qa, qb, qc, qd, qe, qf, qg, qh, qi, qj, qk, ↓reduceIte, resQ_tmp, resQ_cell, resQ_nil, retD_one, retD_two, retD_three, retD_none]; try simp [R.val, retD_one, retD_two, retD_three, retD_none])
def m82_L0 (N : Nat) (x3713 : Int) (x3715 : Int) (n3717 : Nat) (c3718 : List PV) : Nat → Int → Int → Option (Int)
  | 0, _, _ => none
  | n + 1, x3719, x3720 =>
    brn (decide (x3720 < ((n3717 : Nat) : Int))) (
      grd (0 ≤ x3720 ∧ x3720 < ((n3717 : Nat) : Int)) <|
      grd (0 < List.length (List.drop (Int.toNat x3720) c3718)) <|
      getL (gp c3718 (Int.toNat x3720)) fun n3726 c3727 =>
      bnd' (m92 N (.lst false n3726 c3727) x3715) fun p3728 =>
      getB p3728 fun b3731 =>
      brn b3731 (
        m82_L0 N x3713 x3715 n3717 c3718 n (IntKind.i64.wrap (x3719 + 1)) (IntKind.i64.wrap (x3720 + 1))) (
        m82_L0 N x3713 x3715 n3717 c3718 n x3719 (IntKind.i64.wrap (x3720 + 1)))) (
      some x3719)
def m82 (N : Nat) (x3713 : Int) (p3714 : PV) (x3715 : Int) : Option (PV) :=
  getL p3714 fun n3717 c3718 =>
  bnd' (m82_L0 N x3713 x3715 n3717 c3718 N 0 0) fun x3733 =>
  bnd' (m85 N (.lst false n3717 c3718)) fun p3734 =>
  getI .i64 p3734 fun x3737 =>
  some (.bool (decide (x3733 < (IntKind.i64.wrap ((IntKind.i64.wrap (((n3717 : Nat) : Int) + x3737)) - x3713)))))
theorem c82 (N : Nat) (x3713 : Int) (p3714 : PV) (x3715 : Int) (r : PV)  (h : m82 N x3713 p3714 x3715 = some r) : FnP Tryd.prog 82 [(.int .i64 x3713), p3714, (.int .i64 x3715)] r := by
  unfold m82 at h
  refine Fn_of (sz := 32) tab_ok [0, 1, 2, 6, 7, 8, 12, 20] [.tmp 6] Tryd.func82 rfl rfl rfl (by simp) ?_
  simp only [initSt, initEnv, List.map_cons, List.map_nil, List.getD_cons_zero, List.getD_cons_succ, List.getD_nil]
  have hh := getL_some h; clear h; obtain ⟨n3717, c3718, h3716, h⟩ := hh
  refine W_sound tab_ok mixed 13 _ _ _ ?_
  simp -implicitDefEqProofs only [go_sem, qa, qb, qc, qd, qe, qf, qg, qh, qi, qj, qk, ↓reduceIte, h3716]
  repeat with_reducible refine ⟨by first | kernel_rfl | decide, ?_⟩
  have hh := bnd'_some h; clear h; obtain ⟨o3738, h3739, h3740⟩ := hh
  refine Wp_cut (fun s => ∃ x3733, x3733 = o3738 ∧ s = ⟨[], [(0, .v (.int .i64 x3713)), (1, .v (.lst false n3717 c3718)), (2, .dead), (6, .dead), (7, .v (.int .i64 x3733)), (8, .dead), (12, .dead), (20, .dead)], [], 0, []⟩) ?_ ?_
  · refine Wp_block ?_
    refine Wp_loopG (fun n s => ∃ x3719, ∃ x3720, m82_L0 N x3713 x3715 n3717 c3718 n x3719 x3720 = some o3738 ∧ s = ⟨[], [(0, .v (.int .i64 x3713)), (1, .v (.lst false n3717 c3718)), (2, .v (.int .i64 x3715)), (6, .dead), (7, .v (.int .i64 x3719)), (8, .v (.int .i64 x3720)), (12, .dead), (20, .dead)], [], 0, []⟩) N _ ((Wk_le (.r (.r (.r (.k (.r (.r (.r (.r .nil)))))))) (OLe.refl _)).trans (cmpS_ok (st' := ⟨[], [(0, .v (.int .i64 x3713)), (1, .v (.lst false n3717 c3718)), (2, .v (.int .i64 x3715)), (6, .dead), (7, .v (.int .i64 0)), (8, .v (.int .i64 0)), (12, .dead), (20, .dead)], [], 0, []⟩) (by kernel_rfl))) ⟨_, _, h3739, rfl⟩ ?_
    clear h3739
    rintro n _ ⟨x3719, x3720, h3739, rfl⟩
    cases n with
    | zero => cases h3739
    | succ n =>
      rw [m82_L0] at h3739
      have hh := brn_some h3739; clear h3739; rcases hh with ⟨h3721, h3739⟩ | ⟨h3721, h3739⟩
      · have hh := grd_some h3739; clear h3739; obtain ⟨⟨g3722, g3723⟩, h3739⟩ := hh
        have hh := grd_some h3739; clear h3739; obtain ⟨g3724, h3739⟩ := hh
        have hh := getL_some h3739; clear h3739; obtain ⟨n3726, c3727, h3725, h3739⟩ := hh
        have hh := bnd'_some h3739; clear h3739; obtain ⟨p3728, h3729, h3739⟩ := hh
        refine W_sound tab_ok mixed 19 _ _ _ ?_
        simp -implicitDefEqProofs only [go_sem, qa, qb, qc, qd, qe, qf, qg, qh, qi, qj, qk, ↓reduceIte, h3716, h3721, g3722, g3723, g3724, h3725]
        repeat with_reducible refine ⟨by first | kernel_rfl | decide, ?_⟩
        refine Wp_callP (c92 N _ _ _ h3729) (by kernel_rfl) rfl rfl rfl rfl (by decide) ?_
        have hh := getB_some h3739; clear h3739; obtain ⟨b3731, h3730, h3739⟩ := hh
        have hh := brn_some h3739; clear h3739; rcases hh with ⟨h3732, h3739⟩ | ⟨h3732, h3739⟩
        · refine W_sound tab_ok mixed 13 _ _ _ ?_
          simp -implicitDefEqProofs only [go_sem, qa, qb, qc, qd, qe, qf, qg, qh, qi, qj, qk, ↓reduceIte, h3716, h3721, g3722, g3723, g3724, h3725, h3730, h3732]
          repeat with_reducible refine ⟨by first | kernel_rfl | decide, ?_⟩
          exact cutQ _ ((Wk_le (.r (.r (.r (.r (.r (.r (.k (.k .nil)))))))) (OLe.refl _)).trans (cmpS_ok (st' := ⟨[], [(0, .v (.int .i64 x3713)), (1, .v (.lst false n3717 c3718)), (2, .v (.int .i64 x3715)), (6, .dead), (7, .v (.int .i64 (IntKind.i64.wrap (x3719 + 1)))), (8, .v (.int .i64 (IntKind.i64.wrap (x3720 + 1)))), (12, .dead), (20, .dead)], [], 0, []⟩) (by kernel_rfl))) ⟨n, Nat.lt_succ_self n, _, _, h3739, rfl⟩
        · refine W_sound tab_ok mixed 9 _ _ _ ?_
          simp -implicitDefEqProofs only [go_sem, qa, qb, qc, qd, qe, qf, qg, qh, qi, qj, qk, ↓reduceIte, h3716, h3721, g3722, g3723, g3724, h3725, h3730, h3732]
          repeat with_reducible refine ⟨by first | kernel_rfl | decide, ?_⟩
          exact cutQ _ ((Wk_le (.r (.r (.r (.r (.r (.r (.k (.k .nil)))))))) (OLe.refl _)).trans (cmpS_ok (st' := ⟨[], [(0, .v (.int .i64 x3713)), (1, .v (.lst false n3717 c3718)), (2, .v (.int .i64 x3715)), (6, .dead), (7, .v (.int .i64 x3719)), (8, .v (.int .i64 (IntKind.i64.wrap (x3720 + 1)))), (12, .dead), (20, .dead)], [], 0, []⟩) (by kernel_rfl))) ⟨n, Nat.lt_succ_self n, _, _, h3739, rfl⟩
      · refine W_sound tab_ok mixed 10 _ _ _ ?_
        simp -implicitDefEqProofs only [go_sem, qa, qb, qc, qd, qe, qf, qg, qh, qi, qj, qk, ↓reduceIte, h3716, h3721]
        repeat with_reducible refine ⟨by first | kernel_rfl | decide, ?_⟩
        obtain rfl := Option.some.inj h3739
        exact cutQ _ ((Wk_le (.r (.r (.k (.r (.r (.k (.k (.r .nil)))))))) (OLe.refl _)).trans (cmpS_ok (st' := ⟨[], [(0, .v (.int .i64 x3713)), (1, .v (.lst false n3717 c3718)), (2, .dead), (6, .dead), (7, .v (.int .i64 x3719)), (8, .dead), (12, .dead), (20, .dead)], [], 0, []⟩) (by kernel_rfl))) ⟨_, rfl, rfl⟩
  · rintro _ ⟨x3733, rfl, rfl⟩
    have hh := bnd'_some h3740; clear h3740; obtain ⟨p3734, h3735, h3740⟩ := hh
    refine W_sound tab_ok mixed 6 _ _ _ ?_
    simp -implicitDefEqProofs only [go_sem, qa, qb, qc, qd, qe, qf, qg, qh, qi, qj, qk, ↓reduceIte, h3716]
    repeat with_reducible refine ⟨by first | kernel_rfl | decide, ?_⟩
    refine Wp_callP (c85 N _ _ h3735) (by kernel_rfl) rfl rfl rfl rfl (by decide) ?_
    have hh := getI_some h3740; clear h3740; obtain ⟨x3737, h3736, h3740⟩ := hh
    refine W_sound tab_ok mixed 8 _ _ _ ?_
    simp -implicitDefEqProofs only [go_sem, qa, qb, qc, qd, qe, qf, qg, qh, qi, qj, qk, ↓reduceIte, h3716, h3736]
    repeat with_reducible refine ⟨by first | kernel_rfl | decide, ?_⟩
    obtain rfl := Option.some.inj h3740
    exact finC [(6, .v (.bool (decide (x3733 < (IntKind.i64.wrap ((IntKind.i64.wrap (((n3717 : Nat) : Int) + x3737)) - x3713))))))] [(6, .v (.bool (decide (x3733 < (IntKind.i64.wrap ((IntKind.i64.wrap (((n3717 : Nat) : Int) + x3737)) - x3713))))))] (by simp [leE, lk_cons]) (.cons _ _ _ _ _ (.v _ _ (.refl _)) .nil) (by rfl) (by simp [leE, lk_cons]) (by decide) (by decide) rfl (by simp only [go_sem, qa, qb, qc, qd, qe, qf, qg, qh, qi, qj, qk, ↓reduceIte, resQ_tmp, resQ_cell, resQ_nil, retD_one, retD_two, retD_three, retD_none]; try simp [R.val, retD_one, retD_two, retD_three, retD_none])
def m46_L0 (N : Nat) (x3678 : Int) (n3681 : Nat) (c3682 : List PV) : Nat → Int → Option ((PV ⊕ Unit))
  | 0, _ => none
  | n + 1, x3711 =>
    brn (decide (x3711 < x3678)) (
      bnd' (m82 N x3678 (.lst false n3681 c3682) x3711) fun p3741 =>
      getB p3741 fun b3744 =>
      brn b3744 (
        some (.inl (.tup [(.int .i64 x3711), (.int .i64 0)]))) (
        m46_L0 N x3678 n3681 c3682 n (IntKind.i64.wrap (x3711 + 1)))) (
      some (.inr ()))
def m46 (N : Nat) (x3678 : Int) (p3679 : PV) : Option (PV) :=
  getL p3679 fun n3681 c3682 =>
  bnd' (m50 N x3678 (.lst false n3681 c3682)) fun p3706 =>
  getI .i64 p3706 fun x3709 =>
  brn (x3709 != 0) (
    some (.tup [(.int .i64 0), (.int .i64 x3709)])) (
    bnd' (m46_L0 N x3678 n3681 c3682 N 0) fun o =>
    match o with
    | .inl p3746 =>
      some p3746
    | .inr () =>
      some (.tup [(.int .i64 0), (.int .i64 13)]))
theorem c46 (N : Nat) (x3678 : Int) (p3679 : PV) (r : PV)  (h : m46 N x3678 p3679 = some r) : FnP Tryd.prog 46 [(.int .i64 x3678), p3679] r := by
  unfold m46 at h
  refine Fn_of (sz := 24) tab_ok [0, 1, 4, 5, 6, 7, 12, 16, 22] [.tmp 4, .tmp 5] Tryd.func46 rfl rfl rfl (by simp) ?_
  simp only [initSt, initEnv, List.map_cons, List.map_nil, List.getD_cons_zero, List.getD_cons_succ, List.getD_nil]
  have hh := getL_some h; clear h; obtain ⟨n3681, c3682, h3680, h⟩ := hh
  have hh := bnd'_some h; clear h; obtain ⟨p3706, h3707, h⟩ := hh
  refine W_sound tab_ok mixed 9 _ _ _ ?_
  simp -implicitDefEqProofs only [go_sem, qa, qb, qc, qd, qe, qf, qg, qh, qi, qj, qk, ↓reduceIte, h3680]
  repeat with_reducible refine ⟨by first | kernel_rfl | decide, ?_⟩
  refine Wp_callP (c50 N _ _ _ h3707) (by kernel_rfl) rfl rfl rfl rfl (by decide) ?_
  have hh := getI_some h; clear h; obtain ⟨x3709, h3708, h⟩ := hh
  have hh := brn_some h; clear h; rcases hh with ⟨h3710, h⟩ | ⟨h3710, h⟩
  · refine W_sound tab_ok mixed 17 _ _ _ ?_
    simp -implicitDefEqProofs only [go_sem, qa, qb, qc, qd, qe, qf, qg, qh, qi, qj, qk, ↓reduceIte, h3680, h3708, h3710]
    repeat with_reducible refine ⟨by first | kernel_rfl | decide, ?_⟩
    obtain rfl := Option.some.inj h
    exact finC [(4, .v (.int .i64 0)), (5, .v (.int .i64 x3709))] [(4, .v (.int .i64 0)), (5, .v (.int .i64 x3709))] (by simp [leE, lk_cons]) (.cons _ _ _ _ _ (.v _ _ (.refl _)) (.cons _ _ _ _ _ (.v _ _ (.refl _)) .nil)) (by rfl) (by simp [leE, lk_cons]) (by decide) (by decide) rfl (by simp only [go_sem, qa, qb, qc, qd, qe, qf, qg, qh, qi, qj, qk, ↓reduceIte, resQ_tmp, resQ_cell, resQ_nil, retD_one, retD_two, retD_three, retD_none]; try simp [R.val, retD_one, retD_two, retD_three, retD_none])
  · refine W_sound tab_ok mixed 15 _ _ _ ?_
    simp -implicitDefEqProofs only [go_sem, qa, qb, qc, qd, qe, qf, qg, qh, qi, qj, qk, ↓reduceIte, h3680, h3708, h3710]
    repeat with_reducible refine ⟨by first | kernel_rfl | decide, ?_⟩
    have hh := bnd'_some h; clear h; obtain ⟨o3747, h3748, h3749⟩ := hh
    refine Wp_cut (fun s => (.inr ()) = o3747 ∧ s = ⟨[], [(0, .dead), (1, .dead), (4, .dead), (5, .dead), (6, .dead), (7, .dead), (12, .dead), (16, .dead), (22, .dead)], [], 0, []⟩) ?_ ?_
    · refine Wp_block ?_
      refine Wp_loopG (fun n s => ∃ x3711, m46_L0 N x3678 n3681 c3682 n x3711 = some o3747 ∧ s = ⟨[], [(0, .v (.int .i64 x3678)), (1, .v (.lst false n3681 c3682)), (4, .dead), (5, .dead), (6, .dead), (7, .v (.int .i64 x3711)), (12, .dead), (16, .dead), (22, .dead)], [], 0, []⟩) N _ ((Wk_le (.r (.r (.k (.k (.k (.r (.k (.r (.r .nil))))))))) (OLe.refl _)).trans (cmpS_ok (st' := ⟨[], [(0, .v (.int .i64 x3678)), (1, .v (.lst false n3681 c3682)), (4, .dead), (5, .dead), (6, .dead), (7, .v (.int .i64 0)), (12, .dead), (16, .dead), (22, .dead)], [], 0, []⟩) (by kernel_rfl))) ⟨_, h3748, rfl⟩ ?_
      clear h3748
      rintro n _ ⟨x3711, h3748, rfl⟩
      cases n with
      | zero => cases h3748
      | succ n =>
        rw [m46_L0] at h3748
        have hh := brn_some h3748; clear h3748; rcases hh with ⟨h3712, h3748⟩ | ⟨h3712, h3748⟩
        · have hh := bnd'_some h3748; clear h3748; obtain ⟨p3741, h3742, h3748⟩ := hh
          refine W_sound tab_ok mixed 16 _ _ _ ?_
          simp -implicitDefEqProofs only [go_sem, qa, qb, qc, qd, qe, qf, qg, qh, qi, qj, qk, ↓reduceIte, h3680, h3708, h3710, h3712]
          repeat with_reducible refine ⟨by first | kernel_rfl | decide, ?_⟩
          refine Wp_callP (c82 N _ _ _ _ h3742) (by kernel_rfl) rfl rfl rfl rfl (by decide) ?_
          have hh := getB_some h3748; clear h3748; obtain ⟨b3744, h3743, h3748⟩ := hh
          have hh := brn_some h3748; clear h3748; rcases hh with ⟨h3745, h3748⟩ | ⟨h3745, h3748⟩
          · refine W_sound tab_ok mixed 10 _ _ _ ?_
            simp -implicitDefEqProofs only [go_sem, qa, qb, qc, qd, qe, qf, qg, qh, qi, qj, qk, ↓reduceIte, h3680, h3708, h3710, h3712, h3743, h3745]
            repeat with_reducible refine ⟨by first | kernel_rfl | decide, ?_⟩
            obtain rfl := Option.some.inj h3748
            (try dsimp only at h3749)
            obtain rfl := Option.some.inj h3749
            exact finC [(4, .v (.int .i64 x3711)), (5, .v (.int .i64 0))] [(4, .v (.int .i64 x3711)), (5, .v (.int .i64 0))] (by simp [leE, lk_cons]) (.cons _ _ _ _ _ (.v _ _ (.refl _)) (.cons _ _ _ _ _ (.v _ _ (.refl _)) .nil)) (by rfl) (by simp [leE, lk_cons]) (by decide) (by decide) rfl (by simp only [go_sem, qa, qb, qc, qd, qe, qf, qg, qh, qi, qj, qk, ↓reduceIte, resQ_tmp, resQ_cell, resQ_nil, retD_one, retD_two, retD_three, retD_none]; try simp [R.val, retD_one, retD_two, retD_three, retD_none])
          · refine W_sound tab_ok mixed 9 _ _ _ ?_
            simp -implicitDefEqProofs only [go_sem, qa, qb, qc, qd, qe, qf, qg, qh, qi, qj, qk, ↓reduceIte, h3680, h3708, h3710, h3712, h3743, h3745]
            repeat with_reducible refine ⟨by first | kernel_rfl | decide, ?_⟩
            exact cutQ _ ((Wk_le (.r (.r (.r (.r (.r (.r (.r (.k (.k .nil))))))))) (OLe.refl _)).trans (cmpS_ok (st' := ⟨[], [(0, .v (.int .i64 x3678)), (1, .v (.lst false n3681 c3682)), (4, .dead), (5, .dead), (6, .dead), (7, .v (.int .i64 (IntKind.i64.wrap (x3711 + 1)))), (12, .dead), (16, .dead), (22, .dead)], [], 0, []⟩) (by kernel_rfl))) ⟨n, Nat.lt_succ_self n, _, h3748, rfl⟩
        · refine W_sound tab_ok mixed 9 _ _ _ ?_
          simp -implicitDefEqProofs only [go_sem, qa, qb, qc, qd, qe, qf, qg, qh, qi, qj, qk, ↓reduceIte, h3680, h3708, h3710, h3712]
          repeat with_reducible refine ⟨by first | kernel_rfl | decide, ?_⟩
          obtain rfl := Option.some.inj h3748
          exact cutQ _ ((Wk_le (.k (.k (.r (.r (.r (.k (.r (.k (.r .nil))))))))) (OLe.refl _)).trans (cmpS_ok (st' := ⟨[], [(0, .dead), (1, .dead), (4, .dead), (5, .dead), (6, .dead), (7, .dead), (12, .dead), (16, .dead), (22, .dead)], [], 0, []⟩) (by kernel_rfl))) ⟨rfl, rfl⟩
    · rintro _ ⟨rfl, rfl⟩
      (try dsimp only at h3749)
      refine W_sound tab_ok mixed 7 _ _ _ ?_
      simp -implicitDefEqProofs only [go_sem, qa, qb, qc, qd, qe, qf, qg, qh, qi, qj, qk, ↓reduceIte, h3680, h3708, h3710]
      repeat with_reducible refine ⟨by first | kernel_rfl | decide, ?_⟩
      obtain rfl := Option.some.inj h3749
      exact finC [(4, .v (.int .i64 0)), (5, .v (.int .i64 13))] [(4, .v (.int .i64 0)), (5, .v (.int .i64 13))] (by simp [leE, lk_cons]) (.cons _ _ _ _ _ (.v _ _ (.refl _)) (.cons _ _ _ _ _ (.v _ _ (.refl _)) .nil)) (by rfl) (by simp [leE, lk_cons]) (by decide) (by decide) rfl (by simp only [go_sem, qa, qb, qc, qd, qe, qf, qg, qh, qi, qj, qk, ↓reduceIte, resQ_tmp, resQ_cell, resQ_nil, retD_one, retD_two, retD_three, retD_none]; try simp [R.val, retD_one, retD_two, retD_three, retD_none])
def m93_L0 (N : Nat) (n3834 : Nat) (c3835 : List PV) : Nat → Nat → Int → List PV → Option ((Nat × List PV))
  | 0, _, _, _ => none
  | n + 1, n3860, x3861, c3862 =>
    brn (decide (x3861 < ((n3834 : Nat) : Int))) (
      grd (0 ≤ x3861 ∧ x3861 < ((n3834 : Nat) : Int)) <|
      grd (0 < List.length (List.drop (Int.toNat x3861) c3835)) <|
      getL (gp c3835 (Int.toNat x3861)) fun n3868 c3869 =>
      grd (List.length c3869 = n3868) <|
      brn (decide (0 < n3868)) (
        grd (n3868 ≤ 1099511627776) <|
        grd ((n3860 + 1) ≤ 1099511627776) <|
        grd (List.length c3862 = n3860) <|
        m93_L0 N n3834 c3835 n (n3860 + 1) (IntKind.i64.wrap (x3861 + 1)) (c3862 ++ [(.lst false n3868 c3869)])) (
        grd (n3868 ≤ 1099511627776) <|
        grd ((n3860 + 1) ≤ 1099511627776) <|
        grd (List.length c3862 = n3860) <|
        m93_L0 N n3834 c3835 n (n3860 + 1) (IntKind.i64.wrap (x3861 + 1)) (c3862 ++ [(.lst false n3868 c3869)]))) (
      some (n3860, c3862))
def m93 (N : Nat) (p3832 : PV) : Option (Nat × List PV) :=
  getL p3832 fun n3834 c3835 =>
  bnd' (m93_L0 N n3834 c3835 N 0 0 []) fun o =>
  match o with
  | (n3878, c3879) =>
    some (n3878, c3879)
theorem c93 (N : Nat) (p3832 : PV) (rn : Nat) (rc : List PV) (h : m93 N p3832 = some (rn, rc)) : V.Fn Tryd.prog 93 0 [.v p3832] [] (fun d ob' => d = .sl false 0 0 rn 1 ∧ ob' = [(0, .p rc)]) := by
  unfold m93 at h
  refine Fn_of (sz := 21) tab_ok [0, 2, 3, 4, 8] [.tmp 2] Tryd.func93 rfl rfl rfl (by simp) ?_
  simp only [initSt, initEnv, List.map_cons, List.map_nil, List.getD_cons_zero, List.getD_cons_succ, List.getD_nil]
  have hh := getL_some h; clear h; obtain ⟨n3834, c3835, h3833, h⟩ := hh
  refine W_sound tab_ok mixed 13 _ _ _ ?_
  simp -implicitDefEqProofs only [go_sem, qa, qb, qc, qd, qe, qf, qg, qh, qi, qj, qk, ↓reduceIte, h3833]
  repeat with_reducible refine ⟨by first | kernel_rfl | decide, ?_⟩
  refine Wp_weaken (Wk_ownS 3 1 rfl (by decide) (by decide)) ?_
  simp -implicitDefEqProofs only [go_sem, qa, qb, qc, qd, qe, qf, qg, qh, qi, qj, qk, ↓reduceIte, h3833]
  have hh := bnd'_some h; clear h; obtain ⟨o3880, h3881, h3882⟩ := hh
  refine Wp_cut (fun s => ∃ n3878, ∃ c3879, (n3878, c3879) = o3880 ∧ s = ⟨[], [(0, .dead), (2, .dead), (3, .sl false 0 0 n3878 1), (4, .dead), (8, .dead)], [(0, .p c3879)], 1, []⟩) ?_ ?_
  · refine Wp_block ?_
    refine Wp_loopG (fun n s => ∃ n3860, ∃ x3861, ∃ c3862, m93_L0 N n3834 c3835 n n3860 x3861 c3862 = some o3880 ∧ s = ⟨[], [(0, .v (.lst false n3834 c3835)), (2, .dead), (3, .sl false 0 0 n3860 1), (4, .v (.int .i64 x3861)), (8, .dead)], [(0, .p c3862)], 1, []⟩) N _ ((Wk_le (.r (.k (.r (.r (.r .nil))))) (OLe.refl _)).trans (cmpS_ok rfl)) ⟨_, _, _, h3881, rfl⟩ ?_
    clear h3881
    rintro n _ ⟨n3860, x3861, c3862, h3881, rfl⟩
    cases n with
    | zero => cases h3881
    | succ n =>
      rw [m93_L0] at h3881
      have hh := brn_some h3881; clear h3881; rcases hh with ⟨h3863, h3881⟩ | ⟨h3863, h3881⟩
      · have hh := grd_some h3881; clear h3881; obtain ⟨⟨g3864, g3865⟩, h3881⟩ := hh
        have hh := grd_some h3881; clear h3881; obtain ⟨g3866, h3881⟩ := hh
        have hh := getL_some h3881; clear h3881; obtain ⟨n3868, c3869, h3867, h3881⟩ := hh
        have hh := grd_some h3881; clear h3881; obtain ⟨g3870, h3881⟩ := hh
        have hh := brn_some h3881; clear h3881; rcases hh with ⟨h3871, h3881⟩ | ⟨h3871, h3881⟩
        · have hh := grd_some h3881; clear h3881; obtain ⟨g3872, h3881⟩ := hh
          have hh := grd_some h3881; clear h3881; obtain ⟨g3873, h3881⟩ := hh
          have hh := grd_some h3881; clear h3881; obtain ⟨g3874, h3881⟩ := hh
          refine W_sound tab_ok mixed 24 _ _ _ ?_
          simp -implicitDefEqProofs only [go_sem, qa, qb, qc, qd, qe, qf, qg, qh, qi, qj, qk, ↓reduceIte, h3833, h3863, g3864, g3865, g3866, h3867, g3870, h3871, g3872, g3873, g3874]
          repeat with_reducible refine ⟨by first | kernel_rfl | decide, ?_⟩
          refine Wp_wkK (Wk_freeze 18 c3869 (by rfl) (by decide) (by decide)) rfl ?_
          simp -implicitDefEqProofs only [go_sem, qa, qb, qc, qd, qe, qf, qg, qh, qi, qj, qk, ↓reduceIte, h3833, h3863, g3864, g3865, g3866, h3867, g3870, h3871, g3872, g3873, g3874]
          refine W_sound tab_ok mixed 6 _ _ _ ?_
          simp -implicitDefEqProofs only [go_sem, qa, qb, qc, qd, qe, qf, qg, qh, qi, qj, qk, ↓reduceIte, h3833, h3863, g3864, g3865, g3866, h3867, g3870, h3871, g3872, g3873, g3874]
          repeat with_reducible refine ⟨by first | kernel_rfl | decide, ?_⟩
          exact cutQ _ ((Wk_le (.r (.r (.r (.r (.k .nil))))) (OLe.refl _)).trans (cmpS_ok (st' := ⟨[], [(0, .v (.lst false n3834 c3835)), (2, .dead), (3, .sl false 0 0 (n3860 + 1) 1), (4, .v (.int .i64 (IntKind.i64.wrap (x3861 + 1)))), (8, .dead)], [(0, .p (c3862 ++ [(.lst false n3868 c3869)]))], 1, []⟩) (by kernel_rfl))) ⟨n, Nat.lt_succ_self n, _, _, _, h3881, rfl⟩
        · have hh := grd_some h3881; clear h3881; obtain ⟨g3875, h3881⟩ := hh
          have hh := grd_some h3881; clear h3881; obtain ⟨g3876, h3881⟩ := hh
          have hh := grd_some h3881; clear h3881; obtain ⟨g3877, h3881⟩ := hh
          refine W_sound tab_ok mixed 24 _ _ _ ?_
          simp -implicitDefEqProofs only [go_sem, qa, qb, qc, qd, qe, qf, qg, qh, qi, qj, qk, ↓reduceIte, h3833, h3863, g3864, g3865, g3866, h3867, g3870, h3871, g3875, g3876, g3877]
          repeat with_reducible refine ⟨by first | kernel_rfl | decide, ?_⟩
          refine Wp_wkK (Wk_freeze 18 c3869 (by rfl) (by decide) (by decide)) rfl ?_
          simp -implicitDefEqProofs only [go_sem, qa, qb, qc, qd, qe, qf, qg, qh, qi, qj, qk, ↓reduceIte, h3833, h3863, g3864, g3865, g3866, h3867, g3870, h3871, g3875, g3876, g3877]
          refine W_sound tab_ok mixed 6 _ _ _ ?_
          simp -implicitDefEqProofs only [go_sem, qa, qb, qc, qd, qe, qf, qg, qh, qi, qj, qk, ↓reduceIte, h3833, h3863, g3864, g3865, g3866, h3867, g3870, h3871, g3875, g3876, g3877]
          repeat with_reducible refine ⟨by first | kernel_rfl | decide, ?_⟩
          exact cutQ _ ((Wk_le (.r (.r (.r (.r (.k .nil))))) (OLe.refl _)).trans (cmpS_ok rfl)) ⟨n, Nat.lt_succ_self n, _, _, _, h3881, rfl⟩
      · refine W_sound tab_ok mixed 10 _ _ _ ?_
        simp -implicitDefEqProofs only [go_sem, qa, qb, qc, qd, qe, qf, qg, qh, qi, qj, qk, ↓reduceIte, h3833, h3863]
        repeat with_reducible refine ⟨by first | kernel_rfl | decide, ?_⟩
        obtain rfl := Option.some.inj h3881
        exact cutQ _ ((Wk_le (.k (.r (.r (.k (.k .nil))))) (OLe.refl _)).trans (cmpS_ok rfl)) ⟨_, _, rfl, rfl⟩
  · rintro _ ⟨n3878, c3879, rfl, rfl⟩
    (try dsimp only at h3882)
    refine W_sound tab_ok mixed 7 _ _ _ ?_
    simp -implicitDefEqProofs only [go_sem, qa, qb, qc, qd, qe, qf, qg, qh, qi, qj, qk, ↓reduceIte, h3833]
    repeat with_reducible refine ⟨by first | kernel_rfl | decide, ?_⟩
    simp only [Option.some.injEq, Prod.mk.injEq] at h3882; obtain ⟨rfl, rfl⟩ := h3882
    exact finD (e2 := [(0, .dead), (2, .sl false 0 0 n3878 1), (3, .dead), (4, .dead), (8, .dead)]) (ob2 := [(0, .p c3879)]) (st' := ⟨[], [(0, .dead), (2, .sl false 0 0 n3878 1), (3, .dead), (4, .dead), (8, .dead)], [(0, .p c3879)], 1, []⟩) (.r (.r (.k (.r (.r .nil))))) (.cons _ _ _ _ _ (DLes.refl _) .nil) (by kernel_rfl) (by simp only [go_sem, qa, qb, qc, qd, qe, qf, qg, qh, qi, qj, qk, ↓reduceIte, resQ_tmp, resQ_cell, resQ_nil, retD_one, retD_two, retD_three, retD_none]; first | done | exact ⟨rfl, rfl⟩ | (try simp [R.val, retD_one]))
def m84_L1 (N : Nat) (rec : Int → PV → PV → Option (PV)) (x3779 : Int) (n3783 : Nat) (c3784 : List PV) (n3786 : Nat) (c3787 : List PV) (n3798 : Nat) (c3799 : List PV) (x3800 : Int) : Nat → Bool → Int → Option (Bool)
  | 0, _, _ => none
  | n + 1, b3802, x3803 =>
    brn (decide (x3803 < x3779)) (
      brn b3802 (
        grd (0 ≤ x3800 ∧ x3800 < ((n3798 : Nat) : Int)) <|
        grd (0 < List.length (List.drop (Int.toNat x3800) c3799)) <|
        getL (gp c3799 (Int.toNat x3800)) fun n3810 c3811 =>
        grd (0 ≤ x3803 ∧ x3803 < ((n3810 : Nat) : Int)) <|
        grd (0 < List.length (List.drop (Int.toNat x3803) c3811)) <|
        getI .i64 (gp c3811 (Int.toNat x3803)) fun x3816 =>
        bnd' (m63 N (.lst false n3783 c3784) x3803 x3816) fun p3817 =>
        getB p3817 fun b3820 =>
        brn b3820 (
          m84_L1 N rec x3779 n3783 c3784 n3786 c3787 n3798 c3799 x3800 n false (IntKind.i64.wrap (x3803 + 1))) (
          grd (0 ≤ (IntKind.i64.wrap (((n3783 : Nat) : Int) + 1)) ∧ (IntKind.i64.wrap (((n3783 : Nat) : Int) + 1)) ≤ ((n3786 : Nat) : Int)) <|
          grd (List.length c3787 = n3786) <|
          bnd' (m63 N (.lst false (Int.toNat (((n3786 : Nat) : Int) - (IntKind.i64.wrap (((n3783 : Nat) : Int) + 1)))) (List.drop (Int.toNat (IntKind.i64.wrap (((n3783 : Nat) : Int) + 1))) c3787)) x3803 x3816) fun p3825 =>
          getB p3825 fun b3828 =>
          brn b3828 (
            m84_L1 N rec x3779 n3783 c3784 n3786 c3787 n3798 c3799 x3800 n false (IntKind.i64.wrap (x3803 + 1))) (
            m84_L1 N rec x3779 n3783 c3784 n3786 c3787 n3798 c3799 x3800 n true (IntKind.i64.wrap (x3803 + 1))))) (
        m84_L1 N rec x3779 n3783 c3784 n3786 c3787 n3798 c3799 x3800 n false (IntKind.i64.wrap (x3803 + 1)))) (
      some b3802)
def m84_L0 (N : Nat) (rec : Int → PV → PV → Option (PV)) (x3779 : Int) (n3783 : Nat) (c3784 : List PV) (n3786 : Nat) (c3787 : List PV) (n3798 : Nat) (c3799 : List PV) : Nat → Int → Option ((PV ⊕ Unit))
  | 0, _ => none
  | n + 1, x3800 =>
    brn (decide (x3800 < ((n3798 : Nat) : Int))) (
      bnd' (m84_L1 N rec x3779 n3783 c3784 n3786 c3787 n3798 c3799 x3800 N true 0) fun b3830 =>
      brn b3830 (
        bnd' (m93 N (.lst false n3783 c3784)) fun (n3883, c3884) =>
        grd (0 ≤ x3800 ∧ x3800 < ((n3798 : Nat) : Int)) <|
        grd (0 < List.length (List.drop (Int.toNat x3800) c3799)) <|
        getL (gp c3799 (Int.toNat x3800)) fun n3890 c3891 =>
        grd ((n3883 + 1) ≤ 1099511627776) <|
        grd (List.length c3884 = n3883) <|
        bnd' (rec x3779 (.lst false (n3883 + 1) (c3884 ++ [(.lst false n3890 c3891)])) (.lst false n3786 c3787)) fun p3894 =>
        getT2 p3894 fun p3897 p3898 =>
        getL p3897 fun n3900 c3901 =>
        getB p3898 fun b3903 =>
        brn b3903 (
          some (.inl (.tup [(.lst false n3900 c3901), (.bool true)]))) (
          m84_L0 N rec x3779 n3783 c3784 n3786 c3787 n3798 c3799 n (IntKind.i64.wrap (x3800 + 1)))) (
        m84_L0 N rec x3779 n3783 c3784 n3786 c3787 n3798 c3799 n (IntKind.i64.wrap (x3800 + 1)))) (
      some (.inr ()))
def m84 (N : Nat) : Nat → Int → PV → PV → Option (PV)
  | 0, _, _, _ => none
  | fu + 1, x3779, p3780, p3781 =>
    getL p3780 fun n3783 c3784 =>
    getL p3781 fun n3786 c3787 =>
    brn (((n3783 : Nat) : Int) == ((n3786 : Nat) : Int)) (
      some (.tup [(.lst false n3783 c3784), (.bool true)])) (
      grd (0 ≤ ((n3783 : Nat) : Int) ∧ ((n3783 : Nat) : Int) < ((n3786 : Nat) : Int)) <|
      grd (0 < List.length (List.drop n3783 c3787)) <|
      getL (gp c3787 n3783) fun n3793 c3794 =>
      bnd' (m91 N N x3779 (.lst false n3793 c3794)) fun p3795 =>
      getL p3795 fun n3798 c3799 =>
      bnd' (m84_L0 N (m84 N fu) x3779 n3783 c3784 n3786 c3787 n3798 c3799 N 0) fun o =>
      match o with
      | .inl p3905 =>
        some p3905
      | .inr () =>
        some (.tup [(.lst false 0 []), (.bool false)]))
theorem c84 (N : Nat) : ∀ (fu : Nat) (x3779 : Int) (p3780 : PV) (p3781 : PV) (r : PV)  (h : m84 N fu x3779 p3780 p3781 = some r), FnP Tryd.prog 84 [(.int .i64 x3779), p3780, p3781] r := by
  intro fu
  induction fu with
  | zero => intro x3779 p3780 p3781 r h; cases h
  | succ fu ih =>
    intro x3779 p3780 p3781 r h
    rw [m84] at h
    refine Fn_of (sz := 87) tab_ok [0, 1, 2, 6, 7, 8, 9, 10, 11, 12, 13, 14, 20, 31, 36, 70, 85] [.tmp 6, .tmp 7] Tryd.func84 rfl rfl rfl (by simp) ?_
    simp only [initSt, initEnv, List.map_cons, List.map_nil, List.getD_cons_zero, List.getD_cons_succ, List.getD_nil]
    have hh := getL_some h; clear h; obtain ⟨n3783, c3784, h3782, h⟩ := hh
    have hh := getL_some h; clear h; obtain ⟨n3786, c3787, h3785, h⟩ := hh
    have hh := brn_some h; clear h; rcases hh with ⟨h3788, h⟩ | ⟨h3788, h⟩
    · refine W_sound tab_ok mixed 28 _ _ _ ?_
      simp -implicitDefEqProofs only [go_sem, qa, qb, qc, qd, qe, qf, qg, qh, qi, qj, qk, ↓reduceIte, h3782, h3785, h3788]
      repeat with_reducible refine ⟨by first | kernel_rfl | decide, ?_⟩
      obtain rfl := Option.some.inj h
      exact finC [(6, .v (.lst false n3783 c3784)), (7, .v (.bool true))] [(6, .v (.lst false n3783 c3784)), (7, .v (.bool true))] (by simp [leE, lk_cons]) (.cons _ _ _ _ _ (.v _ _ (.refl _)) (.cons _ _ _ _ _ (.v _ _ (.refl _)) .nil)) (by rfl) (by simp [leE, lk_cons]) (by decide) (by decide) rfl (by simp only [go_sem, qa, qb, qc, qd, qe, qf, qg, qh, qi, qj, qk, ↓reduceIte, resQ_tmp, resQ_cell, resQ_nil, retD_one, retD_two, retD_three, retD_none]; try simp [R.val, retD_one, retD_two, retD_three, retD_none])
    · have hh := grd_some h; clear h; obtain ⟨⟨g3789, g3790⟩, h⟩ := hh
      have hh := grd_some h; clear h; obtain ⟨g3791, h⟩ := hh
      have hh := getL_some h; clear h; obtain ⟨n3793, c3794, h3792, h⟩ := hh
      have hh := bnd'_some h; clear h; obtain ⟨p3795, h3796, h⟩ := hh
      refine W_sound tab_ok mixed 28 _ _ _ ?_
      simp -implicitDefEqProofs only [go_sem, qa, qb, qc, qd, qe, qf, qg, qh, qi, qj, qk, ↓reduceIte, h3782, h3785, h3788, g3789, g3790, g3791, h3792]
      repeat with_reducible refine ⟨by first | kernel_rfl | decide, ?_⟩
      refine Wp_callP (c91 N N _ _ _ h3796) (by kernel_rfl) rfl rfl rfl rfl (by decide) ?_
      have hh := getL_some h; clear h; obtain ⟨n3798, c3799, h3797, h⟩ := hh
      refine W_sound tab_ok mixed 7 _ _ _ ?_
      simp -implicitDefEqProofs only [go_sem, qa, qb, qc, qd, qe, qf, qg, qh, qi, qj, qk, ↓reduceIte, h3782, h3785, h3788, g3789, g3790, g3791, h3792, h3797]
      repeat with_reducible refine ⟨by first | kernel_rfl | decide, ?_⟩
      have hh := bnd'_some h; clear h; obtain ⟨o3906, h3907, h3908⟩ := hh
      refine Wp_cut (fun s => (.inr ()) = o3906 ∧ s = ⟨[], [(0, .dead), (1, .dead), (2, .dead), (6, .dead), (7, .dead), (8, .dead), (9, .dead), (10, .dead), (11, .dead), (12, .dead), (13, .dead), (14, .dead), (20, .dead), (31, .dead), (36, .dead), (70, .dead), (85, .dead)], [], 0, []⟩) ?_ ?_
      · refine Wp_block ?_
        refine Wp_loopG (fun n s => ∃ x3800, m84_L0 N (m84 N fu) x3779 n3783 c3784 n3786 c3787 n3798 c3799 n x3800 = some o3906 ∧ s = ⟨[], [(0, .v (.int .i64 x3779)), (1, .v (.lst false n3783 c3784)), (2, .v (.lst false n3786 c3787)), (6, .dead), (7, .dead), (8, .v (.int .i64 ((n3783 : Nat) : Int))), (9, .v (.lst false n3798 c3799)), (10, .v (.int .i64 x3800)), (11, .dead), (12, .dead), (13, .dead), (14, .dead), (20, .dead), (31, .dead), (36, .dead), (70, .dead), (85, .dead)], [], 0, []⟩) N _ ((Wk_le (.r (.r (.r (.k (.k (.r (.r (.r (.r (.r (.r (.r (.k (.r (.r (.r (.r .nil))))))))))))))))) (OLe.refl _)).trans (cmpS_ok (st' := ⟨[], [(0, .v (.int .i64 x3779)), (1, .v (.lst false n3783 c3784)), (2, .v (.lst false n3786 c3787)), (6, .dead), (7, .dead), (8, .v (.int .i64 ((n3783 : Nat) : Int))), (9, .v (.lst false n3798 c3799)), (10, .v (.int .i64 0)), (11, .dead), (12, .dead), (13, .dead), (14, .dead), (20, .dead), (31, .dead), (36, .dead), (70, .dead), (85, .dead)], [], 0, []⟩) (by kernel_rfl))) ⟨_, h3907, rfl⟩ ?_
        clear h3907
        rintro n _ ⟨x3800, h3907, rfl⟩
        cases n with
        | zero => cases h3907
        | succ n =>
          rw [m84_L0] at h3907
          have hh := brn_some h3907; clear h3907; rcases hh with ⟨h3801, h3907⟩ | ⟨h3801, h3907⟩
          · refine W_sound tab_ok mixed 21 _ _ _ ?_
            simp -implicitDefEqProofs only [go_sem, qa, qb, qc, qd, qe, qf, qg, qh, qi, qj, qk, ↓reduceIte, h3782, h3785, h3788, g3789, g3790, g3791, h3792, h3797, h3801]
            repeat with_reducible refine ⟨by first | kernel_rfl | decide, ?_⟩
            have hh := bnd'_some h3907; clear h3907; obtain ⟨o3909, h3910, h3911⟩ := hh
            refine Wp_cut (fun s => ∃ b3830, b3830 = o3909 ∧ s = ⟨[], [(0, .v (.int .i64 x3779)), (1, .v (.lst false n3783 c3784)), (2, .v (.lst false n3786 c3787)), (6, .dead), (7, .dead), (8, .v (.int .i64 ((n3783 : Nat) : Int))), (9, .v (.lst false n3798 c3799)), (10, .v (.int .i64 x3800)), (11, .v (.bool b3830)), (12, .dead), (13, .dead), (14, .dead), (20, .dead), (31, .dead), (36, .dead), (70, .dead), (85, .dead)], [], 0, []⟩) ?_ ?_
            · refine Wp_block ?_
              refine Wp_loopG (fun n s => ∃ b3802, ∃ x3803, m84_L1 N (m84 N fu) x3779 n3783 c3784 n3786 c3787 n3798 c3799 x3800 n b3802 x3803 = some o3909 ∧ s = ⟨[], [(0, .v (.int .i64 x3779)), (1, .v (.lst false n3783 c3784)), (2, .v (.lst false n3786 c3787)), (6, .dead), (7, .dead), (8, .v (.int .i64 ((n3783 : Nat) : Int))), (9, .v (.lst false n3798 c3799)), (10, .v (.int .i64 x3800)), (11, .v (.bool b3802)), (12, .v (.int .i64 x3803)), (13, .dead), (14, .dead), (20, .dead), (31, .dead), (36, .dead), (70, .dead), (85, .dead)], [], 0, []⟩) N _ ((Wk_le (.r (.r (.r (.r (.r (.r (.r (.r (.r (.r (.r (.r (.r (.k (.r (.r (.r .nil))))))))))))))))) (OLe.refl _)).trans (cmpS_ok (st' := ⟨[], [(0, .v (.int .i64 x3779)), (1, .v (.lst false n3783 c3784)), (2, .v (.lst false n3786 c3787)), (6, .dead), (7, .dead), (8, .v (.int .i64 ((n3783 : Nat) : Int))), (9, .v (.lst false n3798 c3799)), (10, .v (.int .i64 x3800)), (11, .v (.bool true)), (12, .v (.int .i64 0)), (13, .dead), (14, .dead), (20, .dead), (31, .dead), (36, .dead), (70, .dead), (85, .dead)], [], 0, []⟩) (by kernel_rfl))) ⟨_, _, h3910, rfl⟩ ?_
              clear h3910
              rintro n _ ⟨b3802, x3803, h3910, rfl⟩
              cases n with
              | zero => cases h3910
              | succ n =>
                rw [m84_L1] at h3910
                have hh := brn_some h3910; clear h3910; rcases hh with ⟨h3804, h3910⟩ | ⟨h3804, h3910⟩
                · have hh := brn_some h3910; clear h3910; rcases hh with ⟨h3805, h3910⟩ | ⟨h3805, h3910⟩
                  · have hh := grd_some h3910; clear h3910; obtain ⟨⟨g3806, g3807⟩, h3910⟩ := hh
                    have hh := grd_some h3910; clear h3910; obtain ⟨g3808, h3910⟩ := hh
                    have hh := getL_some h3910; clear h3910; obtain ⟨n3810, c3811, h3809, h3910⟩ := hh
                    have hh := grd_some h3910; clear h3910; obtain ⟨⟨g3812, g3813⟩, h3910⟩ := hh
                    have hh := grd_some h3910; clear h3910; obtain ⟨g3814, h3910⟩ := hh
                    have hh := getI_some h3910; clear h3910; obtain ⟨x3816, h3815, h3910⟩ := hh
                    have hh := bnd'_some h3910; clear h3910; obtain ⟨p3817, h3818, h3910⟩ := hh
                    refine W_sound tab_ok mixed 23 _ _ _ ?_
                    simp -implicitDefEqProofs only [go_sem, qa, qb, qc, qd, qe, qf, qg, qh, qi, qj, qk, ↓reduceIte, h3782, h3785, h3788, g3789, g3790, g3791, h3792, h3797, h3801, h3804, h3805, g3806, g3807, g3808, h3809, g3812, g3813, g3814, h3815]
                    repeat with_reducible refine ⟨by first | kernel_rfl | decide, ?_⟩
                    refine Wp_callP (c63 N _ _ _ _ h3818) (by kernel_rfl) rfl rfl rfl rfl (by decide) ?_
                    have hh := getB_some h3910; clear h3910; obtain ⟨b3820, h3819, h3910⟩ := hh
                    have hh := brn_some h3910; clear h3910; rcases hh with ⟨h3821, h3910⟩ | ⟨h3821, h3910⟩
                    · refine W_sound tab_ok mixed 26 _ _ _ ?_
                      simp -implicitDefEqProofs only [go_sem, qa, qb, qc, qd, qe, qf, qg, qh, qi, qj, qk, ↓reduceIte, h3782, h3785, h3788, g3789, g3790, g3791, h3792, h3797, h3801, h3804, h3805, g3806, g3807, g3808, h3809, g3812, g3813, g3814, h3815, h3819, h3821]
                      repeat with_reducible refine ⟨by first | kernel_rfl | decide, ?_⟩
                      exact cutQ _ ((Wk_le (.r (.r (.r (.r (.r (.r (.r (.r (.r (.r (.r (.r (.r (.r (.k (.r (.r .nil))))))))))))))))) (OLe.refl _)).trans (cmpS_ok (st' := ⟨[], [(0, .v (.int .i64 x3779)), (1, .v (.lst false n3783 c3784)), (2, .v (.lst false n3786 c3787)), (6, .dead), (7, .dead), (8, .v (.int .i64 ((n3783 : Nat) : Int))), (9, .v (.lst false n3798 c3799)), (10, .v (.int .i64 x3800)), (11, .v (.bool false)), (12, .v (.int .i64 (IntKind.i64.wrap (x3803 + 1)))), (13, .dead), (14, .dead), (20, .dead), (31, .dead), (36, .dead), (70, .dead), (85, .dead)], [], 0, []⟩) (by kernel_rfl))) ⟨n, Nat.lt_succ_self n, _, _, h3910, rfl⟩
                    · have hh := grd_some h3910; clear h3910; obtain ⟨⟨g3822, g3823⟩, h3910⟩ := hh
                      have hh := grd_some h3910; clear h3910; obtain ⟨g3824, h3910⟩ := hh
                      have hh := bnd'_some h3910; clear h3910; obtain ⟨p3825, h3826, h3910⟩ := hh
                      refine W_sound tab_ok mixed 15 _ _ _ ?_
                      simp -implicitDefEqProofs only [go_sem, qa, qb, qc, qd, qe, qf, qg, qh, qi, qj, qk, ↓reduceIte, h3782, h3785, h3788, g3789, g3790, g3791, h3792, h3797, h3801, h3804, h3805, g3806, g3807, g3808, h3809, g3812, g3813, g3814, h3815, h3819, h3821, g3822, g3823, g3824]
                      repeat with_reducible refine ⟨by first | kernel_rfl | decide, ?_⟩
                      refine Wp_callP (c63 N _ _ _ _ h3826) (by kernel_rfl) rfl rfl rfl rfl (by decide) ?_
                      have hh := getB_some h3910; clear h3910; obtain ⟨b3828, h3827, h3910⟩ := hh
                      have hh := brn_some h3910; clear h3910; rcases hh with ⟨h3829, h3910⟩ | ⟨h3829, h3910⟩
                      · refine W_sound tab_ok mixed 10 _ _ _ ?_
                        simp -implicitDefEqProofs only [go_sem, qa, qb, qc, qd, qe, qf, qg, qh, qi, qj, qk, ↓reduceIte, h3782, h3785, h3788, g3789, g3790, g3791, h3792, h3797, h3801, h3804, h3805, g3806, g3807, g3808, h3809, g3812, g3813, g3814, h3815, h3819, h3821, g3822, g3823, g3824, h3827, h3829]
                        repeat with_reducible refine ⟨by first | kernel_rfl | decide, ?_⟩
                        exact cutQ _ ((Wk_le (.r (.r (.r (.r (.r (.r (.r (.r (.r (.r (.r (.r (.r (.r (.k (.r (.r .nil))))))))))))))))) (OLe.refl _)).trans (cmpS_ok (st' := ⟨[], [(0, .v (.int .i64 x3779)), (1, .v (.lst false n3783 c3784)), (2, .v (.lst false n3786 c3787)), (6, .dead), (7, .dead), (8, .v (.int .i64 ((n3783 : Nat) : Int))), (9, .v (.lst false n3798 c3799)), (10, .v (.int .i64 x3800)), (11, .v (.bool false)), (12, .v (.int .i64 (IntKind.i64.wrap (x3803 + 1)))), (13, .dead), (14, .dead), (20, .dead), (31, .dead), (36, .dead), (70, .dead), (85, .dead)], [], 0, []⟩) (by kernel_rfl))) ⟨n, Nat.lt_succ_self n, _, _, h3910, rfl⟩
                      · refine W_sound tab_ok mixed 10 _ _ _ ?_
                        simp -implicitDefEqProofs only [go_sem, qa, qb, qc, qd, qe, qf, qg, qh, qi, qj, qk, ↓reduceIte, h3782, h3785, h3788, g3789, g3790, g3791, h3792, h3797, h3801, h3804, h3805, g3806, g3807, g3808, h3809, g3812, g3813, g3814, h3815, h3819, h3821, g3822, g3823, g3824, h3827, h3829]
                        repeat with_reducible refine ⟨by first | kernel_rfl | decide, ?_⟩
                        exact cutQ _ ((Wk_le (.r (.r (.r (.r (.r (.r (.r (.r (.r (.r (.r (.r (.r (.r (.k (.r (.r .nil))))))))))))))))) (OLe.refl _)).trans (cmpS_ok (st' := ⟨[], [(0, .v (.int .i64 x3779)), (1, .v (.lst false n3783 c3784)), (2, .v (.lst false n3786 c3787)), (6, .dead), (7, .dead), (8, .v (.int .i64 ((n3783 : Nat) : Int))), (9, .v (.lst false n3798 c3799)), (10, .v (.int .i64 x3800)), (11, .v (.bool true)), (12, .v (.int .i64 (IntKind.i64.wrap (x3803 + 1)))), (13, .dead), (14, .dead), (20, .dead), (31, .dead), (36, .dead), (70, .dead), (85, .dead)], [], 0, []⟩) (by kernel_rfl))) ⟨n, Nat.lt_succ_self n, _, _, h3910, rfl⟩
                  · refine W_sound tab_ok mixed 50 _ _ _ ?_
                    simp -implicitDefEqProofs only [go_sem, qa, qb, qc, qd, qe, qf, qg, qh, qi, qj, qk, ↓reduceIte, h3782, h3785, h3788, g3789, g3790, g3791, h3792, h3797, h3801, h3804, h3805]
                    repeat with_reducible refine ⟨by first | kernel_rfl | decide, ?_⟩
                    exact cutQ _ ((Wk_le (.r (.r (.r (.r (.r (.r (.r (.r (.r (.r (.r (.r (.r (.r (.k (.r (.r .nil))))))))))))))))) (OLe.refl _)).trans (cmpS_ok (st' := ⟨[], [(0, .v (.int .i64 x3779)), (1, .v (.lst false n3783 c3784)), (2, .v (.lst false n3786 c3787)), (6, .dead), (7, .dead), (8, .v (.int .i64 ((n3783 : Nat) : Int))), (9, .v (.lst false n3798 c3799)), (10, .v (.int .i64 x3800)), (11, .v (.bool false)), (12, .v (.int .i64 (IntKind.i64.wrap (x3803 + 1)))), (13, .dead), (14, .dead), (20, .dead), (31, .dead), (36, .dead), (70, .dead), (85, .dead)], [], 0, []⟩) (by kernel_rfl))) ⟨n, Nat.lt_succ_self n, _, _, h3910, rfl⟩
                · refine W_sound tab_ok mixed 9 _ _ _ ?_
                  simp -implicitDefEqProofs only [go_sem, qa, qb, qc, qd, qe, qf, qg, qh, qi, qj, qk, ↓reduceIte, h3782, h3785, h3788, g3789, g3790, g3791, h3792, h3797, h3801, h3804]
                  repeat with_reducible refine ⟨by first | kernel_rfl | decide, ?_⟩
                  obtain rfl := Option.some.inj h3910
                  exact cutQ _ ((Wk_le (.r (.r (.r (.r (.r (.r (.r (.r (.r (.k (.r (.r (.r (.r (.k (.r (.r .nil))))))))))))))))) (OLe.refl _)).trans (cmpS_ok (st' := ⟨[], [(0, .v (.int .i64 x3779)), (1, .v (.lst false n3783 c3784)), (2, .v (.lst false n3786 c3787)), (6, .dead), (7, .dead), (8, .v (.int .i64 ((n3783 : Nat) : Int))), (9, .v (.lst false n3798 c3799)), (10, .v (.int .i64 x3800)), (11, .v (.bool b3802)), (12, .dead), (13, .dead), (14, .dead), (20, .dead), (31, .dead), (36, .dead), (70, .dead), (85, .dead)], [], 0, []⟩) (by kernel_rfl))) ⟨_, rfl, rfl⟩
            · rintro _ ⟨b3830, rfl, rfl⟩
              have hh := brn_some h3911; clear h3911; rcases hh with ⟨h3831, h3911⟩ | ⟨h3831, h3911⟩
              · have hh := bnd'_some h3911; clear h3911; obtain ⟨⟨n3883, c3884⟩, h3885, h3911⟩ := hh
                (try dsimp only at h3911)
                refine W_sound tab_ok mixed 12 _ _ _ ?_
                simp -implicitDefEqProofs only [go_sem, qa, qb, qc, qd, qe, qf, qg, qh, qi, qj, qk, ↓reduceIte, h3782, h3785, h3788, g3789, g3790, g3791, h3792, h3797, h3801, h3831]
                repeat with_reducible refine ⟨by first | kernel_rfl | decide, ?_⟩
                refine Wp_callD [] (c93 N _ _ _ h3885) rfl rfl rfl (by first | rfl | (simp only [go_sem, qa, qb, qc, qd, qe, qf, qg, qh, qi, qj, qk, ↓reduceIte, h3782, h3785, h3788, g3789, g3790, g3791, h3792, h3797, h3801, h3831] <;> rfl)) rfl (by kernel_rfl) ?_
                have hh := grd_some h3911; clear h3911; obtain ⟨⟨g3886, g3887⟩, h3911⟩ := hh
                have hh := grd_some h3911; clear h3911; obtain ⟨g3888, h3911⟩ := hh
                have hh := getL_some h3911; clear h3911; obtain ⟨n3890, c3891, h3889, h3911⟩ := hh
                have hh := grd_some h3911; clear h3911; obtain ⟨g3892, h3911⟩ := hh
                have hh := grd_some h3911; clear h3911; obtain ⟨g3893, h3911⟩ := hh
                have hh := bnd'_some h3911; clear h3911; obtain ⟨p3894, h3895, h3911⟩ := hh
                refine W_sound tab_ok mixed 7 _ _ _ ?_
                simp -implicitDefEqProofs only [go_sem, qa, qb, qc, qd, qe, qf, qg, qh, qi, qj, qk, ↓reduceIte, h3782, h3785, h3788, g3789, g3790, g3791, h3792, h3797, h3801, h3831, g3886, g3887, g3888, h3889, g3892, g3893]
                repeat with_reducible refine ⟨by first | kernel_rfl | decide, ?_⟩
                refine Wp_callF [(80, (c3884 ++ [(.lst false n3890 c3891)]))] (ih _ _ _ _ h3895) (by kernel_rfl) rfl rfl rfl (by simp only [go_sem, qa, qb, qc, qd, qe, qf, qg, qh, qi, qj, qk, ↓reduceIte, h3782, h3785, h3788, g3789, g3790, g3791, h3792, h3797, h3801, h3831, g3886, g3887, g3888, h3889, g3892, g3893] <;> rfl) (by decide) rfl (by simp [roF, obL]) rfl ?_
                have hh := getT2_some h3911; clear h3911; obtain ⟨p3897, p3898, h3896, h3911⟩ := hh
                have hh := getL_some h3911; clear h3911; obtain ⟨n3900, c3901, h3899, h3911⟩ := hh
                have hh := getB_some h3911; clear h3911; obtain ⟨b3903, h3902, h3911⟩ := hh
                have hh := brn_some h3911; clear h3911; rcases hh with ⟨h3904, h3911⟩ | ⟨h3904, h3911⟩
                · refine W_sound tab_ok mixed 19 _ _ _ ?_
                  simp -implicitDefEqProofs only [go_sem, qa, qb, qc, qd, qe, qf, qg, qh, qi, qj, qk, ↓reduceIte, h3782, h3785, h3788, g3789, g3790, g3791, h3792, h3797, h3801, h3831, g3886, g3887, g3888, h3889, g3892, g3893, h3896, h3899, h3902, h3904]
                  repeat with_reducible refine ⟨by first | kernel_rfl | decide, ?_⟩
                  obtain rfl := Option.some.inj h3911
                  (try dsimp only at h3908)
                  obtain rfl := Option.some.inj h3908
                  exact finC [(6, .v (.lst false n3900 c3901)), (7, .v (.bool true))] [(6, .v (.lst false n3900 c3901)), (7, .v (.bool true))] (by simp [leE, lk_cons]) (.cons _ _ _ _ _ (.v _ _ (.refl _)) (.cons _ _ _ _ _ (.v _ _ (.refl _)) .nil)) (by rfl) (by simp [leE, lk_cons]) (by decide) (by decide) rfl (by simp only [go_sem, qa, qb, qc, qd, qe, qf, qg, qh, qi, qj, qk, ↓reduceIte, resQ_tmp, resQ_cell, resQ_nil, retD_one, retD_two, retD_three, retD_none]; try simp [R.val, retD_one, retD_two, retD_three, retD_none])
                · refine W_sound tab_ok mixed 18 _ _ _ ?_
                  simp -implicitDefEqProofs only [go_sem, qa, qb, qc, qd, qe, qf, qg, qh, qi, qj, qk, ↓reduceIte, h3782, h3785, h3788, g3789, g3790, g3791, h3792, h3797, h3801, h3831, g3886, g3887, g3888, h3889, g3892, g3893, h3896, h3899, h3902, h3904]
                  repeat with_reducible refine ⟨by first | kernel_rfl | decide, ?_⟩
                  exact cutQ _ ((Wk_le (.r (.r (.r (.r (.r (.r (.r (.r (.k (.r (.k (.k (.r (.r (.r (.k (.k .nil))))))))))))))))) (OLe.refl _)).trans (cmpS_ok (st' := ⟨[], [(0, .v (.int .i64 x3779)), (1, .v (.lst false n3783 c3784)), (2, .v (.lst false n3786 c3787)), (6, .dead), (7, .dead), (8, .v (.int .i64 ((n3783 : Nat) : Int))), (9, .v (.lst false n3798 c3799)), (10, .v (.int .i64 (IntKind.i64.wrap (x3800 + 1)))), (11, .dead), (12, .dead), (13, .dead), (14, .dead), (20, .dead), (31, .dead), (36, .dead), (70, .dead), (85, .dead)], [], 0, []⟩) (by kernel_rfl))) ⟨n, Nat.lt_succ_self n, _, h3911, rfl⟩
              · refine W_sound tab_ok mixed 13 _ _ _ ?_
                simp -implicitDefEqProofs only [go_sem, qa, qb, qc, qd, qe, qf, qg, qh, qi, qj, qk, ↓reduceIte, h3782, h3785, h3788, g3789, g3790, g3791, h3792, h3797, h3801, h3831]
                repeat with_reducible refine ⟨by first | kernel_rfl | decide, ?_⟩
                exact cutQ _ ((Wk_le (.r (.r (.r (.r (.r (.r (.r (.r (.k (.r (.r (.r (.r (.r (.r (.k (.r .nil))))))))))))))))) (OLe.refl _)).trans (cmpS_ok (st' := ⟨[], [(0, .v (.int .i64 x3779)), (1, .v (.lst false n3783 c3784)), (2, .v (.lst false n3786 c3787)), (6, .dead), (7, .dead), (8, .v (.int .i64 ((n3783 : Nat) : Int))), (9, .v (.lst false n3798 c3799)), (10, .v (.int .i64 (IntKind.i64.wrap (x3800 + 1)))), (11, .dead), (12, .dead), (13, .dead), (14, .dead), (20, .dead), (31, .dead), (36, .dead), (70, .dead), (85, .dead)], [], 0, []⟩) (by kernel_rfl))) ⟨n, Nat.lt_succ_self n, _, h3911, rfl⟩
          · refine W_sound tab_ok mixed 10 _ _ _ ?_
            simp -implicitDefEqProofs only [go_sem, qa, qb, qc, qd, qe, qf, qg, qh, qi, qj, qk, ↓reduceIte, h3782, h3785, h3788, g3789, g3790, g3791, h3792, h3797, h3801]
            repeat with_reducible refine ⟨by first | kernel_rfl | decide, ?_⟩
            obtain rfl := Option.some.inj h3907
            exact cutQ _ ((Wk_le (.k (.k (.k (.r (.r (.k (.k (.k (.r (.r (.r (.r (.r (.k (.r (.r (.r .nil))))))))))))))))) (OLe.refl _)).trans (cmpS_ok (st' := ⟨[], [(0, .dead), (1, .dead), (2, .dead), (6, .dead), (7, .dead), (8, .dead), (9, .dead), (10, .dead), (11, .dead), (12, .dead), (13, .dead), (14, .dead), (20, .dead), (31, .dead), (36, .dead), (70, .dead), (85, .dead)], [], 0, []⟩) (by kernel_rfl))) ⟨rfl, rfl⟩
      · rintro _ ⟨rfl, rfl⟩
        (try dsimp only at h3908)
        refine W_sound tab_ok mixed 7 _ _ _ ?_
        simp -implicitDefEqProofs only [go_sem, qa, qb, qc, qd, qe, qf, qg, qh, qi, qj, qk, ↓reduceIte, h3782, h3785, h3788, g3789, g3790, g3791, h3792, h3797]
        repeat with_reducible refine ⟨by first | kernel_rfl | decide, ?_⟩
        obtain rfl := Option.some.inj h3908
        exact finC [(6, .v .nl), (7, .v (.bool false))] [(6, .v (.lst false 0 [])), (7, .v (.bool false))] (by simp [leE, lk_cons]) (.cons _ _ _ _ _ (.v _ _ (.nl false)) (.cons _ _ _ _ _ (.v _ _ (.refl _)) .nil)) (by rfl) (by simp [leE, lk_cons]) (by decide) (by decide) rfl (by simp only [go_sem, qa, qb, qc, qd, qe, qf, qg, qh, qi, qj, qk, ↓reduceIte, resQ_tmp, resQ_cell, resQ_nil, retD_one, retD_two, retD_three, retD_none]; try simp [R.val, retD_one, retD_two, retD_three, retD_none])
def m63_2_L0 (N : Nat) (n3957 : Nat) (x3958 : Int) (x3959 : Int) (c3960 : List PV) : Nat → Int → Option ((PV ⊕ Unit))
  | 0, _ => none
  | n + 1, x3961 =>
    brn (decide (x3961 < ((n3957 : Nat) : Int))) (
      grd (0 ≤ x3961 ∧ x3961 < ((n3957 : Nat) : Int)) <|
      grd ((Int.toNat x3961) < List.length c3960) <|
      getL (gp c3960 (Int.toNat x3961)) fun n3967 c3968 =>
      brn (decide (x3958 < ((n3967 : Nat) : Int))) (
        grd (0 ≤ x3958 ∧ x3958 < ((n3967 : Nat) : Int)) <|
        grd (0 < List.length (List.drop (Int.toNat x3958) c3968)) <|
        getI .i64 (gp c3968 (Int.toNat x3958)) fun x3974 =>
        brn (x3974 == x3959) (
          some (.inl (.bool true))) (
          m63_2_L0 N n3957 x3958 x3959 c3960 n (IntKind.i64.wrap (x3961 + 1)))) (
        m63_2_L0 N n3957 x3958 x3959 c3960 n (IntKind.i64.wrap (x3961 + 1)))) (
      some (.inr ()))
def m63_2 (N : Nat) (n3957 : Nat) (x3958 : Int) (x3959 : Int) (c3960 : List PV) : Option (PV) :=
  bnd' (m63_2_L0 N n3957 x3958 x3959 c3960 N 0) fun o =>
  match o with
  | .inl p3976 =>
    some p3976
  | .inr () =>
    some (.bool false)
theorem c63_2 (N : Nat) (n3957 : Nat) (x3958 : Int) (x3959 : Int) (c3960 : List PV) (r : PV)  (h : m63_2 N n3957 x3958 x3959 c3960 = some r) : V.Fn Tryd.prog 63 1 [.sl false 0 0 n3957 1, .v (.int .i64 x3958), .v (.int .i64 x3959)] [(0, .p c3960)] (fun d ob' => d = .v r ∧ ob' = [(0, .p c3960)]) := by
  unfold m63_2 at h
  refine Fn_of (sz := 32) tab_ok [0, 1, 2, 6, 7, 11, 31] [.tmp 6] Tryd.func63 rfl rfl rfl (by simp) ?_
  simp only [initSt, initEnv, List.map_cons, List.map_nil, List.getD_cons_zero, List.getD_cons_succ, List.getD_nil]
  refine W_sound tab_ok mixed 9 _ _ _ ?_
  simp -implicitDefEqProofs only [go_sem, qa, qb, qc, qd, qe, qf, qg, qh, qi, qj, qk, ↓reduceIte]
  repeat with_reducible refine ⟨by first | kernel_rfl | decide, ?_⟩
  have hh := bnd'_some h; clear h; obtain ⟨o3977, h3978, h3979⟩ := hh
  refine Wp_cut (fun s => (.inr ()) = o3977 ∧ s = ⟨[], [(0, .dead), (1, .dead), (2, .dead), (6, .dead), (7, .dead), (11, .dead), (31, .dead)], [(0, .p c3960)], 1, []⟩) ?_ ?_
  · refine Wp_block ?_
    refine Wp_loopG (fun n s => ∃ x3961, m63_2_L0 N n3957 x3958 x3959 c3960 n x3961 = some o3977 ∧ s = ⟨[], [(0, .sl false 0 0 n3957 1), (1, .v (.int .i64 x3958)), (2, .v (.int .i64 x3959)), (6, .dead), (7, .v (.int .i64 x3961)), (11, .dead), (31, .dead)], [(0, .p c3960)], 1, []⟩) N _ ((Wk_le (.r (.r (.r (.k (.r (.r (.r .nil))))))) (OLe.refl _)).trans (cmpS_ok (st' := ⟨[], [(0, .sl false 0 0 n3957 1), (1, .v (.int .i64 x3958)), (2, .v (.int .i64 x3959)), (6, .dead), (7, .v (.int .i64 0)), (11, .dead), (31, .dead)], [(0, .p c3960)], 1, []⟩) (by kernel_rfl))) ⟨_, h3978, rfl⟩ ?_
    clear h3978
    rintro n _ ⟨x3961, h3978, rfl⟩
    cases n with
    | zero => cases h3978
    | succ n =>
      rw [m63_2_L0] at h3978
      have hh := brn_some h3978; clear h3978; rcases hh with ⟨h3962, h3978⟩ | ⟨h3962, h3978⟩
      · have hh := grd_some h3978; clear h3978; obtain ⟨⟨g3963, g3964⟩, h3978⟩ := hh
        have hh := grd_some h3978; clear h3978; obtain ⟨g3965, h3978⟩ := hh
        have hh := getL_some h3978; clear h3978; obtain ⟨n3967, c3968, h3966, h3978⟩ := hh
        have hh := brn_some h3978; clear h3978; rcases hh with ⟨h3969, h3978⟩ | ⟨h3969, h3978⟩
        · have hh := grd_some h3978; clear h3978; obtain ⟨⟨g3970, g3971⟩, h3978⟩ := hh
          have hh := grd_some h3978; clear h3978; obtain ⟨g3972, h3978⟩ := hh
          have hh := getI_some h3978; clear h3978; obtain ⟨x3974, h3973, h3978⟩ := hh
          have hh := brn_some h3978; clear h3978; rcases hh with ⟨h3975, h3978⟩ | ⟨h3975, h3978⟩
          · refine W_sound tab_ok mixed 40 _ _ _ ?_
            simp -implicitDefEqProofs only [go_sem, qa, qb, qc, qd, qe, qf, qg, qh, qi, qj, qk, ↓reduceIte, h3962, g3963, g3964, g3965, h3966, h3969, g3970, g3971, g3972, h3973, h3975]
            repeat with_reducible refine ⟨by first | kernel_rfl | decide, ?_⟩
            obtain rfl := Option.some.inj h3978
            (try dsimp only at h3979)
            obtain rfl := Option.some.inj h3979
            exact finD (e2 := [(0, .dead), (1, .dead), (2, .dead), (6, .v (.bool true)), (7, .dead), (11, .dead), (31, .dead)]) (ob2 := [(0, .p c3960)]) (st' := ⟨[], [(0, .dead), (1, .dead), (2, .dead), (6, .v (.bool true)), (7, .dead), (11, .dead), (31, .dead)], [(0, .p c3960)], 1, []⟩) (.k (.k (.k (.r (.k (.k (.k .nil))))))) (.cons _ _ _ _ _ (DLes.refl _) .nil) (by kernel_rfl) (by simp only [go_sem, qa, qb, qc, qd, qe, qf, qg, qh, qi, qj, qk, ↓reduceIte, resQ_tmp, resQ_cell, resQ_nil, retD_one, retD_two, retD_three, retD_none]; try simp [R.val, retD_one, retD_two, retD_three, retD_none])
          · refine W_sound tab_ok mixed 41 _ _ _ ?_
            simp -implicitDefEqProofs only [go_sem, qa, qb, qc, qd, qe, qf, qg, qh, qi, qj, qk, ↓reduceIte, h3962, g3963, g3964, g3965, h3966, h3969, g3970, g3971, g3972, h3973, h3975]
            repeat with_reducible refine ⟨by first | kernel_rfl | decide, ?_⟩
            exact cutQ _ ((Wk_le (.r (.r (.r (.r (.r (.k (.k .nil))))))) (OLe.refl _)).trans (cmpS_ok (st' := ⟨[], [(0, .sl false 0 0 n3957 1), (1, .v (.int .i64 x3958)), (2, .v (.int .i64 x3959)), (6, .dead), (7, .v (.int .i64 (IntKind.i64.wrap (x3961 + 1)))), (11, .dead), (31, .dead)], [(0, .p c3960)], 1, []⟩) (by kernel_rfl))) ⟨n, Nat.lt_succ_self n, _, h3978, rfl⟩
        · refine W_sound tab_ok mixed 41 _ _ _ ?_
          simp -implicitDefEqProofs only [go_sem, qa, qb, qc, qd, qe, qf, qg, qh, qi, qj, qk, ↓reduceIte, h3962, g3963, g3964, g3965, h3966, h3969]
          repeat with_reducible refine ⟨by first | kernel_rfl | decide, ?_⟩
          exact cutQ _ ((Wk_le (.r (.r (.r (.r (.r (.k (.k .nil))))))) (OLe.refl _)).trans (cmpS_ok (st' := ⟨[], [(0, .sl false 0 0 n3957 1), (1, .v (.int .i64 x3958)), (2, .v (.int .i64 x3959)), (6, .dead), (7, .v (.int .i64 (IntKind.i64.wrap (x3961 + 1)))), (11, .dead), (31, .dead)], [(0, .p c3960)], 1, []⟩) (by kernel_rfl))) ⟨n, Nat.lt_succ_self n, _, h3978, rfl⟩
      · refine W_sound tab_ok mixed 10 _ _ _ ?_
        simp -implicitDefEqProofs only [go_sem, qa, qb, qc, qd, qe, qf, qg, qh, qi, qj, qk, ↓reduceIte, h3962]
        repeat with_reducible refine ⟨by first | kernel_rfl | decide, ?_⟩
        obtain rfl := Option.some.inj h3978
        exact cutQ _ ((Wk_le (.k (.k (.k (.r (.k (.k (.r .nil))))))) (OLe.refl _)).trans (cmpS_ok (st' := ⟨[], [(0, .dead), (1, .dead), (2, .dead), (6, .dead), (7, .dead), (11, .dead), (31, .dead)], [(0, .p c3960)], 1, []⟩) (by kernel_rfl))) ⟨rfl, rfl⟩
  · rintro _ ⟨rfl, rfl⟩
    (try dsimp only at h3979)
    refine W_sound tab_ok mixed 6 _ _ _ ?_
    simp -implicitDefEqProofs only [go_sem, qa, qb, qc, qd, qe, qf, qg, qh, qi, qj, qk, ↓reduceIte]
    repeat with_reducible refine ⟨by first | kernel_rfl | decide, ?_⟩
    obtain rfl := Option.some.inj h3979
    exact finD (e2 := [(0, .dead), (1, .dead), (2, .dead), (6, .v (.bool false)), (7, .dead), (11, .dead), (31, .dead)]) (ob2 := [(0, .p c3960)]) (st' := ⟨[], [(0, .dead), (1, .dead), (2, .dead), (6, .v (.bool false)), (7, .dead), (11, .dead), (31, .dead)], [(0, .p c3960)], 1, []⟩) (.r (.r (.r (.r (.r (.r (.r .nil))))))) (.cons _ _ _ _ _ (DLes.refl _) .nil) (by kernel_rfl) (by simp only [go_sem, qa, qb, qc, qd, qe, qf, qg, qh, qi, qj, qk, ↓reduceIte, resQ_tmp, resQ_cell, resQ_nil, retD_one, retD_two, retD_three, retD_none]; try simp [R.val, retD_one, retD_two, retD_three, retD_none])
def m67_2_L1 (N : Nat) (x3932 : Int) (n3933 : Nat) (c3934 : List PV) (n3938 : Nat) (c3939 : List PV) (n4023 : Nat) (x4024 : Int) (c4025 : List PV) : Nat → Bool → Int → Option (Bool)
  | 0, _, _ => none
  | n + 1, b4027, x4028 =>
    brn (decide (x4028 < x3932)) (
      brn b4027 (
        grd (0 ≤ x4024 ∧ x4024 < ((n3938 : Nat) : Int)) <|
        grd (0 < List.length (List.drop (Int.toNat x4024) c3939)) <|
        getL (gp c3939 (Int.toNat x4024)) fun n4035 c4036 =>
        grd (0 ≤ x4028 ∧ x4028 < ((n4035 : Nat) : Int)) <|
        grd (0 < List.length (List.drop (Int.toNat x4028) c4036)) <|
        getI .i64 (gp c4036 (Int.toNat x4028)) fun x4041 =>
        bnd' (m63_2 N n3933 x4028 x4041 c3934) fun p4042 =>
        getB p4042 fun b4045 =>
        brn b4045 (
          m67_2_L1 N x3932 n3933 c3934 n3938 c3939 n4023 x4024 c4025 n false (IntKind.i64.wrap (x4028 + 1))) (
          m67_2_L1 N x3932 n3933 c3934 n3938 c3939 n4023 x4024 c4025 n true (IntKind.i64.wrap (x4028 + 1)))) (
        m67_2_L1 N x3932 n3933 c3934 n3938 c3939 n4023 x4024 c4025 n false (IntKind.i64.wrap (x4028 + 1)))) (
      some b4027)
def m67_2_L0 (N : Nat) (x3932 : Int) (n3933 : Nat) (c3934 : List PV) (n3938 : Nat) (c3939 : List PV) : Nat → Nat → Int → List PV → Option ((Nat × List PV))
  | 0, _, _, _ => none
  | n + 1, n4023, x4024, c4025 =>
    brn (decide (x4024 < ((n3938 : Nat) : Int))) (
      bnd' (m67_2_L1 N x3932 n3933 c3934 n3938 c3939 n4023 x4024 c4025 N true 0) fun b4047 =>
      brn b4047 (
        grd (0 ≤ x4024 ∧ x4024 < ((n3938 : Nat) : Int)) <|
        grd (0 < List.length (List.drop (Int.toNat x4024) c3939)) <|
        getL (gp c3939 (Int.toNat x4024)) fun n4053 c4054 =>
        grd ((n4023 + 1) ≤ 1099511627776) <|
        grd (List.length c4025 = n4023) <|
        m67_2_L0 N x3932 n3933 c3934 n3938 c3939 n (n4023 + 1) (IntKind.i64.wrap (x4024 + 1)) (c4025 ++ [(.lst false n4053 c4054)])) (
        m67_2_L0 N x3932 n3933 c3934 n3938 c3939 n n4023 (IntKind.i64.wrap (x4024 + 1)) c4025)) (
      some (n4023, c4025))
def m67_2 (N : Nat) (x3932 : Int) (n3933 : Nat) (c3934 : List PV) : Option (PV) :=
  bnd' (m91 N N x3932 (.lst false 0 [])) fun p3935 =>
  getL p3935 fun n3938 c3939 =>
  bnd' (m67_2_L0 N x3932 n3933 c3934 n3938 c3939 N 0 0 []) fun o =>
  match o with
  | (n4057, c4058) =>
    grd (List.length c4058 = n4057) <|
    some (.lst false n4057 c4058)
theorem c67_2 (N : Nat) (x3932 : Int) (n3933 : Nat) (c3934 : List PV) (r : PV)  (h : m67_2 N x3932 n3933 c3934 = some r) : V.Fn Tryd.prog 67 1 [.v (.int .i64 x3932), .sl false 0 0 n3933 1] [(0, .p c3934)] (fun d ob' => d = .v r ∧ ob' = [(0, .p c3934)]) := by
  unfold m67_2 at h
  refine Fn_of (sz := 46) tab_ok [0, 1, 4, 5, 6, 7, 8, 9, 15, 20, 37] [.tmp 4] Tryd.func67 rfl rfl rfl (by simp) ?_
  simp only [initSt, initEnv, List.map_cons, List.map_nil, List.getD_cons_zero, List.getD_cons_succ, List.getD_nil]
  have hh := bnd'_some h; clear h; obtain ⟨p3935, h3936, h⟩ := hh
  refine W_sound tab_ok mixed 11 _ _ _ ?_
  simp -implicitDefEqProofs only [go_sem, qa, qb, qc, qd, qe, qf, qg, qh, qi, qj, qk, ↓reduceIte]
  repeat with_reducible refine ⟨by first | kernel_rfl | decide, ?_⟩
  refine Wp_callP (FnP_le (c91 N N _ _ _ h3936) (.cons _ _ _ _ (.refl _) (.cons _ _ _ _ (.nl false) .nil)) (.refl _)) (by kernel_rfl) rfl rfl rfl rfl (by decide) ?_
  have hh := getL_some h; clear h; obtain ⟨n3938, c3939, h3937, h⟩ := hh
  refine W_sound tab_ok mixed 7 _ _ _ ?_
  simp -implicitDefEqProofs only [go_sem, qa, qb, qc, qd, qe, qf, qg, qh, qi, qj, qk, ↓reduceIte, h3937]
  repeat with_reducible refine ⟨by first | kernel_rfl | decide, ?_⟩
  refine Wp_weaken (Wk_ownS 5 1 rfl (by decide) (by decide)) ?_
  simp -implicitDefEqProofs only [go_sem, qa, qb, qc, qd, qe, qf, qg, qh, qi, qj, qk, ↓reduceIte, h3937]
  have hh := bnd'_some h; clear h; obtain ⟨o4060, h4061, h4062⟩ := hh
  refine Wp_cut (fun s => ∃ n4057, ∃ c4058, (n4057, c4058) = o4060 ∧ s = ⟨[], [(0, .dead), (1, .dead), (4, .dead), (5, .sl false 1 0 n4057 1), (6, .dead), (7, .dead), (8, .dead), (9, .dead), (15, .dead), (20, .dead), (37, .dead)], [(0, .p c3934), (1, .p c4058)], 2, []⟩) ?_ ?_
  · refine Wp_block ?_
    refine Wp_loopG (fun n s => ∃ n4023, ∃ x4024, ∃ c4025, m67_2_L0 N x3932 n3933 c3934 n3938 c3939 n n4023 x4024 c4025 = some o4060 ∧ s = ⟨[], [(0, .v (.int .i64 x3932)), (1, .sl false 0 0 n3933 1), (4, .dead), (5, .sl false 1 0 n4023 1), (6, .v (.lst false n3938 c3939)), (7, .v (.int .i64 x4024)), (8, .dead), (9, .dead), (15, .dead), (20, .dead), (37, .dead)], [(0, .p c3934), (1, .p c4025)], 2, []⟩) N _ ((Wk_le (.r (.r (.k (.r (.r (.r (.r (.r (.r (.r (.r .nil))))))))))) (OLe.refl _)).trans (cmpS_ok (st' := ⟨[], [(0, .v (.int .i64 x3932)), (1, .sl false 0 0 n3933 1), (4, .dead), (5, .sl false 1 0 0 1), (6, .v (.lst false n3938 c3939)), (7, .v (.int .i64 0)), (8, .dead), (9, .dead), (15, .dead), (20, .dead), (37, .dead)], [(0, .p c3934), (1, .p [])], 2, []⟩) (by kernel_rfl))) ⟨_, _, _, h4061, rfl⟩ ?_
    clear h4061
    rintro n _ ⟨n4023, x4024, c4025, h4061, rfl⟩
    cases n with
    | zero => cases h4061
    | succ n =>
      rw [m67_2_L0] at h4061
      have hh := brn_some h4061; clear h4061; rcases hh with ⟨h4026, h4061⟩ | ⟨h4026, h4061⟩
      · refine W_sound tab_ok mixed 21 _ _ _ ?_
        simp -implicitDefEqProofs only [go_sem, qa, qb, qc, qd, qe, qf, qg, qh, qi, qj, qk, ↓reduceIte, h3937, h4026]
        repeat with_reducible refine ⟨by first | kernel_rfl | decide, ?_⟩
        have hh := bnd'_some h4061; clear h4061; obtain ⟨o4063, h4064, h4065⟩ := hh
        refine Wp_cut (fun s => ∃ b4047, b4047 = o4063 ∧ s = ⟨[], [(0, .v (.int .i64 x3932)), (1, .sl false 0 0 n3933 1), (4, .dead), (5, .sl false 1 0 n4023 1), (6, .v (.lst false n3938 c3939)), (7, .v (.int .i64 x4024)), (8, .v (.bool b4047)), (9, .dead), (15, .dead), (20, .dead), (37, .dead)], [(0, .p c3934), (1, .p c4025)], 2, []⟩) ?_ ?_
        · refine Wp_block ?_
          refine Wp_loopG (fun n s => ∃ b4027, ∃ x4028, m67_2_L1 N x3932 n3933 c3934 n3938 c3939 n4023 x4024 c4025 n b4027 x4028 = some o4063 ∧ s = ⟨[], [(0, .v (.int .i64 x3932)), (1, .sl false 0 0 n3933 1), (4, .dead), (5, .sl false 1 0 n4023 1), (6, .v (.lst false n3938 c3939)), (7, .v (.int .i64 x4024)), (8, .v (.bool b4027)), (9, .v (.int .i64 x4028)), (15, .dead), (20, .dead), (37, .dead)], [(0, .p c3934), (1, .p c4025)], 2, []⟩) N _ ((Wk_le (.r (.r (.r (.r (.r (.r (.r (.r (.k (.r (.r .nil))))))))))) (OLe.refl _)).trans (cmpS_ok (st' := ⟨[], [(0, .v (.int .i64 x3932)), (1, .sl false 0 0 n3933 1), (4, .dead), (5, .sl false 1 0 n4023 1), (6, .v (.lst false n3938 c3939)), (7, .v (.int .i64 x4024)), (8, .v (.bool true)), (9, .v (.int .i64 0)), (15, .dead), (20, .dead), (37, .dead)], [(0, .p c3934), (1, .p c4025)], 2, []⟩) (by kernel_rfl))) ⟨_, _, h4064, rfl⟩ ?_
          clear h4064
          rintro n _ ⟨b4027, x4028, h4064, rfl⟩
          cases n with
          | zero => cases h4064
          | succ n =>
            rw [m67_2_L1] at h4064
            have hh := brn_some h4064; clear h4064; rcases hh with ⟨h4029, h4064⟩ | ⟨h4029, h4064⟩
            · have hh := brn_some h4064; clear h4064; rcases hh with ⟨h4030, h4064⟩ | ⟨h4030, h4064⟩
              · have hh := grd_some h4064; clear h4064; obtain ⟨⟨g4031, g4032⟩, h4064⟩ := hh
                have hh := grd_some h4064; clear h4064; obtain ⟨g4033, h4064⟩ := hh
                have hh := getL_some h4064; clear h4064; obtain ⟨n4035, c4036, h4034, h4064⟩ := hh
                have hh := grd_some h4064; clear h4064; obtain ⟨⟨g4037, g4038⟩, h4064⟩ := hh
                have hh := grd_some h4064; clear h4064; obtain ⟨g4039, h4064⟩ := hh
                have hh := getI_some h4064; clear h4064; obtain ⟨x4041, h4040, h4064⟩ := hh
                have hh := bnd'_some h4064; clear h4064; obtain ⟨p4042, h4043, h4064⟩ := hh
                (try dsimp only at h4064)
                refine W_sound tab_ok mixed 23 _ _ _ ?_
                simp -implicitDefEqProofs only [go_sem, qa, qb, qc, qd, qe, qf, qg, qh, qi, qj, qk, ↓reduceIte, h3937, h4026, h4029, h4030, g4031, g4032, g4033, h4034, g4037, g4038, g4039, h4040]
                repeat with_reducible refine ⟨by first | kernel_rfl | decide, ?_⟩
                refine Wp_callD [0] (c63_2 N _ _ _ _ _ h4043) rfl rfl rfl (by first | rfl | (simp only [go_sem, qa, qb, qc, qd, qe, qf, qg, qh, qi, qj, qk, ↓reduceIte, h3937, h4026, h4029, h4030, g4031, g4032, g4033, h4034, g4037, g4038, g4039, h4040] <;> rfl)) rfl (by kernel_rfl) ?_
                have hh := getB_some h4064; clear h4064; obtain ⟨b4045, h4044, h4064⟩ := hh
                have hh := brn_some h4064; clear h4064; rcases hh with ⟨h4046, h4064⟩ | ⟨h4046, h4064⟩
                · refine W_sound tab_ok mixed 10 _ _ _ ?_
                  simp -implicitDefEqProofs only [go_sem, qa, qb, qc, qd, qe, qf, qg, qh, qi, qj, qk, ↓reduceIte, h3937, h4026, h4029, h4030, g4031, g4032, g4033, h4034, g4037, g4038, g4039, h4040, h4044, h4046]
                  repeat with_reducible refine ⟨by first | kernel_rfl | decide, ?_⟩
                  exact cutQ _ ((Wk_le (.r (.r (.r (.r (.r (.r (.r (.r (.r (.k (.r .nil))))))))))) (OLe.refl _)).trans (cmpS_ok (st' := ⟨[], [(0, .v (.int .i64 x3932)), (1, .sl false 0 0 n3933 1), (4, .dead), (5, .sl false 1 0 n4023 1), (6, .v (.lst false n3938 c3939)), (7, .v (.int .i64 x4024)), (8, .v (.bool false)), (9, .v (.int .i64 (IntKind.i64.wrap (x4028 + 1)))), (15, .dead), (20, .dead), (37, .dead)], [(0, .p c3934), (1, .p c4025)], 2, []⟩) (by kernel_rfl))) ⟨n, Nat.lt_succ_self n, _, _, h4064, rfl⟩
                · refine W_sound tab_ok mixed 10 _ _ _ ?_
                  simp -implicitDefEqProofs only [go_sem, qa, qb, qc, qd, qe, qf, qg, qh, qi, qj, qk, ↓reduceIte, h3937, h4026, h4029, h4030, g4031, g4032, g4033, h4034, g4037, g4038, g4039, h4040, h4044, h4046]
                  repeat with_reducible refine ⟨by first | kernel_rfl | decide, ?_⟩
                  exact cutQ _ ((Wk_le (.r (.r (.r (.r (.r (.r (.r (.r (.r (.k (.r .nil))))))))))) (OLe.refl _)).trans (cmpS_ok (st' := ⟨[], [(0, .v (.int .i64 x3932)), (1, .sl false 0 0 n3933 1), (4, .dead), (5, .sl false 1 0 n4023 1), (6, .v (.lst false n3938 c3939)), (7, .v (.int .i64 x4024)), (8, .v (.bool true)), (9, .v (.int .i64 (IntKind.i64.wrap (x4028 + 1)))), (15, .dead), (20, .dead), (37, .dead)], [(0, .p c3934), (1, .p c4025)], 2, []⟩) (by kernel_rfl))) ⟨n, Nat.lt_succ_self n, _, _, h4064, rfl⟩
              · refine W_sound tab_ok mixed 34 _ _ _ ?_
                simp -implicitDefEqProofs only [go_sem, qa, qb, qc, qd, qe, qf, qg, qh, qi, qj, qk, ↓reduceIte, h3937, h4026, h4029, h4030]
                repeat with_reducible refine ⟨by first | kernel_rfl | decide, ?_⟩
                exact cutQ _ ((Wk_le (.r (.r (.r (.r (.r (.r (.r (.r (.r (.k (.r .nil))))))))))) (OLe.refl _)).trans (cmpS_ok (st' := ⟨[], [(0, .v (.int .i64 x3932)), (1, .sl false 0 0 n3933 1), (4, .dead), (5, .sl false 1 0 n4023 1), (6, .v (.lst false n3938 c3939)), (7, .v (.int .i64 x4024)), (8, .v (.bool false)), (9, .v (.int .i64 (IntKind.i64.wrap (x4028 + 1)))), (15, .dead), (20, .dead), (37, .dead)], [(0, .p c3934), (1, .p c4025)], 2, []⟩) (by kernel_rfl))) ⟨n, Nat.lt_succ_self n, _, _, h4064, rfl⟩
            · refine W_sound tab_ok mixed 9 _ _ _ ?_
              simp -implicitDefEqProofs only [go_sem, qa, qb, qc, qd, qe, qf, qg, qh, qi, qj, qk, ↓reduceIte, h3937, h4026, h4029]
              repeat with_reducible refine ⟨by first | kernel_rfl | decide, ?_⟩
              obtain rfl := Option.some.inj h4064
              exact cutQ _ ((Wk_le (.r (.r (.r (.r (.r (.r (.r (.k (.r (.k (.r .nil))))))))))) (OLe.refl _)).trans (cmpS_ok (st' := ⟨[], [(0, .v (.int .i64 x3932)), (1, .sl false 0 0 n3933 1), (4, .dead), (5, .sl false 1 0 n4023 1), (6, .v (.lst false n3938 c3939)), (7, .v (.int .i64 x4024)), (8, .v (.bool b4027)), (9, .dead), (15, .dead), (20, .dead), (37, .dead)], [(0, .p c3934), (1, .p c4025)], 2, []⟩) (by kernel_rfl))) ⟨_, rfl, rfl⟩
        · rintro _ ⟨b4047, rfl, rfl⟩
          have hh := brn_some h4065; clear h4065; rcases hh with ⟨h4048, h4065⟩ | ⟨h4048, h4065⟩
          · have hh := grd_some h4065; clear h4065; obtain ⟨⟨g4049, g4050⟩, h4065⟩ := hh
            have hh := grd_some h4065; clear h4065; obtain ⟨g4051, h4065⟩ := hh
            have hh := getL_some h4065; clear h4065; obtain ⟨n4053, c4054, h4052, h4065⟩ := hh
            have hh := grd_some h4065; clear h4065; obtain ⟨g4055, h4065⟩ := hh
            have hh := grd_some h4065; clear h4065; obtain ⟨g4056, h4065⟩ := hh
            refine W_sound tab_ok mixed 21 _ _ _ ?_
            simp -implicitDefEqProofs only [go_sem, qa, qb, qc, qd, qe, qf, qg, qh, qi, qj, qk, ↓reduceIte, h3937, h4026, h4048, g4049, g4050, g4051, h4052, g4055, g4056]
            repeat with_reducible refine ⟨by first | kernel_rfl | decide, ?_⟩
            exact cutQ _ ((Wk_le (.r (.r (.r (.r (.r (.r (.k (.r (.r (.r (.k .nil))))))))))) (OLe.refl _)).trans (cmpS_ok (st' := ⟨[], [(0, .v (.int .i64 x3932)), (1, .sl false 0 0 n3933 1), (4, .dead), (5, .sl false 1 0 (n4023 + 1) 1), (6, .v (.lst false n3938 c3939)), (7, .v (.int .i64 (IntKind.i64.wrap (x4024 + 1)))), (8, .dead), (9, .dead), (15, .dead), (20, .dead), (37, .dead)], [(0, .p c3934), (1, .p (c4025 ++ [(.lst false n4053 c4054)]))], 2, []⟩) (by kernel_rfl))) ⟨n, Nat.lt_succ_self n, _, _, _, h4065, rfl⟩
          · refine W_sound tab_ok mixed 12 _ _ _ ?_
            simp -implicitDefEqProofs only [go_sem, qa, qb, qc, qd, qe, qf, qg, qh, qi, qj, qk, ↓reduceIte, h3937, h4026, h4048]
            repeat with_reducible refine ⟨by first | kernel_rfl | decide, ?_⟩
            exact cutQ _ ((Wk_le (.r (.r (.r (.r (.r (.r (.k (.r (.r (.r (.k .nil))))))))))) (OLe.refl _)).trans (cmpS_ok (st' := ⟨[], [(0, .v (.int .i64 x3932)), (1, .sl false 0 0 n3933 1), (4, .dead), (5, .sl false 1 0 n4023 1), (6, .v (.lst false n3938 c3939)), (7, .v (.int .i64 (IntKind.i64.wrap (x4024 + 1)))), (8, .dead), (9, .dead), (15, .dead), (20, .dead), (37, .dead)], [(0, .p c3934), (1, .p c4025)], 2, []⟩) (by kernel_rfl))) ⟨n, Nat.lt_succ_self n, _, _, _, h4065, rfl⟩
      · refine W_sound tab_ok mixed 10 _ _ _ ?_
        simp -implicitDefEqProofs only [go_sem, qa, qb, qc, qd, qe, qf, qg, qh, qi, qj, qk, ↓reduceIte, h3937, h4026]
        repeat with_reducible refine ⟨by first | kernel_rfl | decide, ?_⟩
        obtain rfl := Option.some.inj h4061
        exact cutQ _ ((Wk_le (.k (.k (.r (.r (.k (.k (.r (.r (.k (.r (.r .nil))))))))))) (OLe.refl _)).trans (cmpS_ok (st' := ⟨[], [(0, .dead), (1, .dead), (4, .dead), (5, .sl false 1 0 n4023 1), (6, .dead), (7, .dead), (8, .dead), (9, .dead), (15, .dead), (20, .dead), (37, .dead)], [(0, .p c3934), (1, .p c4025)], 2, []⟩) (by kernel_rfl))) ⟨_, _, rfl, rfl⟩
  · rintro _ ⟨n4057, c4058, rfl, rfl⟩
    (try dsimp only at h4062)
    refine W_sound tab_ok mixed 7 _ _ _ ?_
    simp -implicitDefEqProofs only [go_sem, qa, qb, qc, qd, qe, qf, qg, qh, qi, qj, qk, ↓reduceIte, h3937]
    repeat with_reducible refine ⟨by first | kernel_rfl | decide, ?_⟩
    have hh := grd_some h4062; clear h4062; obtain ⟨g4059, h4062⟩ := hh
    refine FinQ_wk (Wk_freeze 1 c4058 (by rfl) (by decide) (by decide)) ?_
    simp -implicitDefEqProofs only [go_sem, qa, qb, qc, qd, qe, qf, qg, qh, qi, qj, qk, ↓reduceIte, h3937, g4059]
    obtain rfl := Option.some.inj h4062
    exact finD (e2 := [(0, .dead), (1, .dead), (4, .v (.lst false n4057 c4058)), (5, .dead), (6, .dead), (7, .dead), (8, .dead), (9, .dead), (15, .dead), (20, .dead), (37, .dead)]) (ob2 := [(0, .p c3934)]) (st' := ⟨[], [(0, .dead), (1, .dead), (4, .v (.lst false n4057 c4058)), (5, .dead), (6, .dead), (7, .dead), (8, .dead), (9, .dead), (15, .dead), (20, .dead), (37, .dead)], [(0, .p c3934)], 1, []⟩) (.r (.r (.r (.k (.r (.r (.r (.r (.r (.r (.r .nil))))))))))) (.cons _ _ _ _ _ (DLes.refl _) .nil) (by kernel_rfl) (by simp only [go_sem, qa, qb, qc, qd, qe, qf, qg, qh, qi, qj, qk, ↓reduceIte, resQ_tmp, resQ_cell, resQ_nil, retD_one, retD_two, retD_three, retD_none]; try simp [R.val, retD_one, retD_two, retD_three, retD_none])
def m70_L0 (N : Nat) (x3923 : Int) : Nat → Nat → List PV → Option ((Nat × List PV))
  | 0, _, _ => none
  | n + 1, n4078, c4079 =>
    brn (decide (((n4078 : Nat) : Int) < x3923)) (
      bnd' (m67_2 N x3923 n4078 c4079) fun p4081 =>
      getL p4081 fun n4084 c4085 =>
      grd (0 < ((n4084 : Nat) : Int)) <|
      grd (0 < List.length c4085) <|
      getL (gp c4085 0) fun n4089 c4090 =>
      grd ((n4078 + 1) ≤ 1099511627776) <|
      grd (List.length c4079 = n4078) <|
      m70_L0 N x3923 n (n4078 + 1) (c4079 ++ [(.lst false n4089 c4090)])) (
      some (n4078, c4079))
def m70 (N : Nat) (x3923 : Int) (p3924 : PV) : Option (PV) :=
  getL p3924 fun n3926 c3927 =>
  bnd' (m93 N (.lst false n3926 c3927)) fun (n3928, c3929) =>
  bnd' (m70_L0 N x3923 N n3928 c3929) fun o =>
  match o with
  | (n4093, c4094) =>
    grd (List.length c4094 = n4093) <|
    some (.lst false n4093 c4094)
theorem c70 (N : Nat) (x3923 : Int) (p3924 : PV) (r : PV)  (h : m70 N x3923 p3924 = some r) : FnP Tryd.prog 70 [(.int .i64 x3923), p3924] r := by
  unfold m70 at h
  refine Fn_of (sz := 21) tab_ok [0, 1, 4, 5, 11] [.tmp 4] Tryd.func70 rfl rfl rfl (by simp) ?_
  simp only [initSt, initEnv, List.map_cons, List.map_nil, List.getD_cons_zero, List.getD_cons_succ, List.getD_nil]
  have hh := getL_some h; clear h; obtain ⟨n3926, c3927, h3925, h⟩ := hh
  have hh := bnd'_some h; clear h; obtain ⟨⟨n3928, c3929⟩, h3930, h⟩ := hh
  (try dsimp only at h)
  refine W_sound tab_ok mixed 7 _ _ _ ?_
  simp -implicitDefEqProofs only [go_sem, qa, qb, qc, qd, qe, qf, qg, qh, qi, qj, qk, ↓reduceIte, h3925]
  repeat with_reducible refine ⟨by first | kernel_rfl | decide, ?_⟩
  refine Wp_callD [] (c93 N _ _ _ h3930) rfl rfl rfl (by first | rfl | (simp only [go_sem, qa, qb, qc, qd, qe, qf, qg, qh, qi, qj, qk, ↓reduceIte, h3925] <;> rfl)) rfl (by kernel_rfl) ?_
  refine W_sound tab_ok mixed 3 _ _ _ ?_
  simp -implicitDefEqProofs only [go_sem, qa, qb, qc, qd, qe, qf, qg, qh, qi, qj, qk, ↓reduceIte, h3925]
  repeat with_reducible refine ⟨by first | kernel_rfl | decide, ?_⟩
  have hh := bnd'_some h; clear h; obtain ⟨o4096, h4097, h4098⟩ := hh
  refine Wp_cut (fun s => ∃ n4093, ∃ c4094, (n4093, c4094) = o4096 ∧ s = ⟨[], [(0, .dead), (1, .dead), (4, .dead), (5, .sl false 0 0 n4093 1), (11, .dead)], [(0, .p c4094)], 1, []⟩) ?_ ?_
  · refine Wp_block ?_
    refine Wp_loopG (fun n s => ∃ n4078, ∃ c4079, m70_L0 N x3923 n n4078 c4079 = some o4096 ∧ s = ⟨[], [(0, .v (.int .i64 x3923)), (1, .dead), (4, .dead), (5, .sl false 0 0 n4078 1), (11, .dead)], [(0, .p c4079)], 1, []⟩) N _ ((Wk_le (.r (.k (.k (.r (.r .nil))))) (OLe.refl _)).trans (cmpS_ok rfl)) ⟨_, _, h4097, rfl⟩ ?_
    clear h4097
    rintro n _ ⟨n4078, c4079, h4097, rfl⟩
    cases n with
    | zero => cases h4097
    | succ n =>
      rw [m70_L0] at h4097
      have hh := brn_some h4097; clear h4097; rcases hh with ⟨h4080, h4097⟩ | ⟨h4080, h4097⟩
      · have hh := bnd'_some h4097; clear h4097; obtain ⟨p4081, h4082, h4097⟩ := hh
        (try dsimp only at h4097)
        refine W_sound tab_ok mixed 15 _ _ _ ?_
        simp -implicitDefEqProofs only [go_sem, qa, qb, qc, qd, qe, qf, qg, qh, qi, qj, qk, ↓reduceIte, h3925, h4080]
        repeat with_reducible refine ⟨by first | kernel_rfl | decide, ?_⟩
        refine Wp_callD [0] (c67_2 N _ _ _ _ h4082) rfl rfl rfl (by first | rfl | (simp only [go_sem, qa, qb, qc, qd, qe, qf, qg, qh, qi, qj, qk, ↓reduceIte, h3925, h4080] <;> rfl)) rfl (by kernel_rfl) ?_
        have hh := getL_some h4097; clear h4097; obtain ⟨n4084, c4085, h4083, h4097⟩ := hh
        have hh := grd_some h4097; clear h4097; obtain ⟨g4086, h4097⟩ := hh
        have hh := grd_some h4097; clear h4097; obtain ⟨g4087, h4097⟩ := hh
        have hh := getL_some h4097; clear h4097; obtain ⟨n4089, c4090, h4088, h4097⟩ := hh
        have hh := grd_some h4097; clear h4097; obtain ⟨g4091, h4097⟩ := hh
        have hh := grd_some h4097; clear h4097; obtain ⟨g4092, h4097⟩ := hh
        refine W_sound tab_ok mixed 7 _ _ _ ?_
        simp -implicitDefEqProofs only [go_sem, qa, qb, qc, qd, qe, qf, qg, qh, qi, qj, qk, ↓reduceIte, h3925, h4080, h4083, g4086, g4087, h4088, g4091, g4092]
        repeat with_reducible refine ⟨by first | kernel_rfl | decide, ?_⟩
        exact cutQ _ ((Wk_le (.r (.r (.r (.r (.k .nil))))) (OLe.refl _)).trans (cmpS_ok rfl)) ⟨n, Nat.lt_succ_self n, _, _, h4097, rfl⟩
      · refine W_sound tab_ok mixed 10 _ _ _ ?_
        simp -implicitDefEqProofs only [go_sem, qa, qb, qc, qd, qe, qf, qg, qh, qi, qj, qk, ↓reduceIte, h3925, h4080]
        repeat with_reducible refine ⟨by first | kernel_rfl | decide, ?_⟩
        obtain rfl := Option.some.inj h4097
        exact cutQ _ ((Wk_le (.k (.r (.r (.r (.k .nil))))) (OLe.refl _)).trans (cmpS_ok rfl)) ⟨_, _, rfl, rfl⟩
  · rintro _ ⟨n4093, c4094, rfl, rfl⟩
    (try dsimp only at h4098)
    refine W_sound tab_ok mixed 7 _ _ _ ?_
    simp -implicitDefEqProofs only [go_sem, qa, qb, qc, qd, qe, qf, qg, qh, qi, qj, qk, ↓reduceIte, h3925]
    repeat with_reducible refine ⟨by first | kernel_rfl | decide, ?_⟩
    have hh := grd_some h4098; clear h4098; obtain ⟨g4095, h4098⟩ := hh
    refine FinQ_wk (Wk_freeze 0 c4094 (by rfl) (by decide) (by decide)) ?_
    simp -implicitDefEqProofs only [go_sem, qa, qb, qc, qd, qe, qf, qg, qh, qi, qj, qk, ↓reduceIte, h3925, g4095]
    obtain rfl := Option.some.inj h4098
    exact finC [(4, .v (.lst false n4093 c4094))] [(4, .v (.lst false n4093 c4094))] (by simp [leE, lk_cons]) (.cons _ _ _ _ _ (.v _ _ (.refl _)) .nil) (by rfl) (by simp [leE, lk_cons]) (by decide) (by decide) rfl (by simp only [go_sem, qa, qb, qc, qd, qe, qf, qg, qh, qi, qj, qk, ↓reduceIte, resQ_tmp, resQ_cell, resQ_nil, retD_one, retD_two, retD_three, retD_none]; try simp [R.val, retD_one, retD_two, retD_three, retD_none])
def m48 (N : Nat) (x3769 : Int) (p3770 : PV) : Option (PV) :=
  getL p3770 fun n3772 c3773 =>
  bnd' (m50 N x3769 (.lst false n3772 c3773)) fun p3774 =>
  getI .i64 p3774 fun x3777 =>
  brn (x3777 != 0) (
    some (.tup [(.lst false 0 []), (.int .i64 x3777)])) (
    bnd' (m84 N N x3769 (.lst false 0 []) (.lst false n3772 c3773)) fun p3912 =>
    getT2 p3912 fun p3915 p3916 =>
    getL p3915 fun n3918 c3919 =>
    getB p3916 fun b3921 =>
    brn b3921 (
      bnd' (m70 N x3769 (.lst false n3918 c3919)) fun p4099 =>
      getL p4099 fun n4102 c4103 =>
      some (.tup [(.lst false n4102 c4103), (.int .i64 0)])) (
      some (.tup [(.lst false 0 []), (.int .i64 12)])))
theorem c48 (N : Nat) (x3769 : Int) (p3770 : PV) (r : PV)  (h : m48 N x3769 p3770 = some r) : FnP Tryd.prog 48 [(.int .i64 x3769), p3770] r := by
  unfold m48 at h
  refine Fn_of (sz := 26) tab_ok [0, 1, 4, 5, 6, 7, 8, 13, 22] [.tmp 4, .tmp 5] Tryd.func48 rfl rfl rfl (by simp) ?_
  simp only [initSt, initEnv, List.map_cons, List.map_nil, List.getD_cons_zero, List.getD_cons_succ, List.getD_nil]
  have hh := getL_some h; clear h; obtain ⟨n3772, c3773, h3771, h⟩ := hh
  have hh := bnd'_some h; clear h; obtain ⟨p3774, h3775, h⟩ := hh
  refine W_sound tab_ok mixed 9 _ _ _ ?_
  simp -implicitDefEqProofs only [go_sem, qa, qb, qc, qd, qe, qf, qg, qh, qi, qj, qk, ↓reduceIte, h3771]
  repeat with_reducible refine ⟨by first | kernel_rfl | decide, ?_⟩
  refine Wp_callP (c50 N _ _ _ h3775) (by kernel_rfl) rfl rfl rfl rfl (by decide) ?_
  have hh := getI_some h; clear h; obtain ⟨x3777, h3776, h⟩ := hh
  have hh := brn_some h; clear h; rcases hh with ⟨h3778, h⟩ | ⟨h3778, h⟩
  · refine W_sound tab_ok mixed 17 _ _ _ ?_
    simp -implicitDefEqProofs only [go_sem, qa, qb, qc, qd, qe, qf, qg, qh, qi, qj, qk, ↓reduceIte, h3771, h3776, h3778]
    repeat with_reducible refine ⟨by first | kernel_rfl | decide, ?_⟩
    obtain rfl := Option.some.inj h
    exact finC [(4, .v .nl), (5, .v (.int .i64 x3777))] [(4, .v (.lst false 0 [])), (5, .v (.int .i64 x3777))] (by simp [leE, lk_cons]) (.cons _ _ _ _ _ (.v _ _ (.nl false)) (.cons _ _ _ _ _ (.v _ _ (.refl _)) .nil)) (by rfl) (by simp [leE, lk_cons]) (by decide) (by decide) rfl (by simp only [go_sem, qa, qb, qc, qd, qe, qf, qg, qh, qi, qj, qk, ↓reduceIte, resQ_tmp, resQ_cell, resQ_nil, retD_one, retD_two, retD_three, retD_none]; try simp [R.val, retD_one, retD_two, retD_three, retD_none])
  · have hh := bnd'_some h; clear h; obtain ⟨p3912, h3913, h⟩ := hh
    refine W_sound tab_ok mixed 14 _ _ _ ?_
    simp -implicitDefEqProofs only [go_sem, qa, qb, qc, qd, qe, qf, qg, qh, qi, qj, qk, ↓reduceIte, h3771, h3776, h3778]
    repeat with_reducible refine ⟨by first | kernel_rfl | decide, ?_⟩
    refine Wp_callP (FnP_le (c84 N N _ _ _ _ h3913) (.cons _ _ _ _ (.refl _) (.cons _ _ _ _ (.nl false) (.cons _ _ _ _ (.refl _) .nil))) (.refl _)) (by kernel_rfl) rfl rfl rfl rfl (by decide) ?_
    have hh := getT2_some h; clear h; obtain ⟨p3915, p3916, h3914, h⟩ := hh
    have hh := getL_some h; clear h; obtain ⟨n3918, c3919, h3917, h⟩ := hh
    have hh := getB_some h; clear h; obtain ⟨b3921, h3920, h⟩ := hh
    have hh := brn_some h; clear h; rcases hh with ⟨h3922, h⟩ | ⟨h3922, h⟩
    · have hh := bnd'_some h; clear h; obtain ⟨p4099, h4100, h⟩ := hh
      refine W_sound tab_ok mixed 18 _ _ _ ?_
      simp -implicitDefEqProofs only [go_sem, qa, qb, qc, qd, qe, qf, qg, qh, qi, qj, qk, ↓reduceIte, h3771, h3776, h3778, h3914, h3917, h3920, h3922]
      repeat with_reducible refine ⟨by first | kernel_rfl | decide, ?_⟩
      refine Wp_callP (c70 N _ _ _ h4100) (by kernel_rfl) rfl rfl rfl rfl (by decide) ?_
      have hh := getL_some h; clear h; obtain ⟨n4102, c4103, h4101, h⟩ := hh
      refine W_sound tab_ok mixed 5 _ _ _ ?_
      simp -implicitDefEqProofs only [go_sem, qa, qb, qc, qd, qe, qf, qg, qh, qi, qj, qk, ↓reduceIte, h3771, h3776, h3778, h3914, h3917, h3920, h3922, h4101]
      repeat with_reducible refine ⟨by first | kernel_rfl | decide, ?_⟩
      obtain rfl := Option.some.inj h
      exact finC [(4, .v (.lst false n4102 c4103)), (5, .v (.int .i64 0))] [(4, .v (.lst false n4102 c4103)), (5, .v (.int .i64 0))] (by simp [leE, lk_cons]) (.cons _ _ _ _ _ (.v _ _ (.refl _)) (.cons _ _ _ _ _ (.v _ _ (.refl _)) .nil)) (by rfl) (by simp [leE, lk_cons]) (by decide) (by decide) rfl (by simp only [go_sem, qa, qb, qc, qd, qe, qf, qg, qh, qi, qj, qk, ↓reduceIte, resQ_tmp, resQ_cell, resQ_nil, retD_one, retD_two, retD_three, retD_none]; try simp [R.val, retD_one, retD_two, retD_three, retD_none])
    · refine W_sound tab_ok mixed 20 _ _ _ ?_
      simp -implicitDefEqProofs only [go_sem, qa, qb, qc, qd, qe, qf, qg, qh, qi, qj, qk, ↓reduceIte, h3771, h3776, h3778, h3914, h3917, h3920, h3922]
      repeat with_reducible refine ⟨by first | kernel_rfl | decide, ?_⟩
      obtain rfl := Option.some.inj h
      exact finC [(4, .v .nl), (5, .v (.int .i64 12))] [(4, .v (.lst false 0 [])), (5, .v (.int .i64 12))] (by simp [leE, lk_cons]) (.cons _ _ _ _ _ (.v _ _ (.nl false)) (.cons _ _ _ _ _ (.v _ _ (.refl _)) .nil)) (by rfl) (by simp [leE, lk_cons]) (by decide) (by decide) rfl (by simp only [go_sem, qa, qb, qc, qd, qe, qf, qg, qh, qi, qj, qk, ↓reduceIte, resQ_tmp, resQ_cell, resQ_nil, retD_one, retD_two, retD_three, retD_none]; try simp [R.val, retD_one, retD_two, retD_three, retD_none])
def m49 (N : Nat) (x4122 : Int) (p4123 : PV) : Option (PV) :=
  getL p4123 fun n4125 c4126 =>
  bnd' (m83 N x4122 (.lst false n4125 c4126)) fun o =>
  match o with
  | .inl (x4128, x4129) =>
    some (.int .i64 x4129)
  | .inr (x4130, x4131, c4132) =>
    some (.int .i64 x4131)
theorem c49 (N : Nat) (x4122 : Int) (p4123 : PV) (r : PV)  (h : m49 N x4122 p4123 = some r) : FnP Tryd.prog 49 [(.int .i64 x4122), p4123] r := by
  unfold m49 at h
  refine Fn_of (sz := 16) tab_ok [0, 1, 4, 7] [.tmp 4] Tryd.func49 rfl rfl rfl (by simp) ?_
  simp only [initSt, initEnv, List.map_cons, List.map_nil, List.getD_cons_zero, List.getD_cons_succ, List.getD_nil]
  have hh := getL_some h; clear h; obtain ⟨n4125, c4126, h4124, h⟩ := hh
  have hh := bnd'_some h; clear h; obtain ⟨oo, h4127, h⟩ := hh
  rcases oo with ⟨x4128, x4129⟩ | ⟨x4130, x4131, c4132⟩
  · (try dsimp only at h)
    refine W_sound tab_ok mixed 8 _ _ _ ?_
    simp -implicitDefEqProofs only [go_sem, qa, qb, qc, qd, qe, qf, qg, qh, qi, qj, qk, ↓reduceIte, h4124]
    repeat with_reducible refine ⟨by first | kernel_rfl | decide, ?_⟩
    refine Wp_callD [] (c83_a N _ _ _ _ h4127) rfl rfl rfl (by first | rfl | (simp only [go_sem, qa, qb, qc, qd, qe, qf, qg, qh, qi, qj, qk, ↓reduceIte, h4124] <;> rfl)) rfl (by kernel_rfl) ?_
    refine W_sound tab_ok mixed 15 _ _ _ ?_
    simp -implicitDefEqProofs only [go_sem, qa, qb, qc, qd, qe, qf, qg, qh, qi, qj, qk, ↓reduceIte, h4124]
    repeat with_reducible refine ⟨by first | kernel_rfl | decide, ?_⟩
    obtain rfl := Option.some.inj h
    exact finC [(4, .v (.int .i64 x4129))] [(4, .v (.int .i64 x4129))] (by simp [leE, lk_cons]) (.cons _ _ _ _ _ (.v _ _ (.refl _)) .nil) (by rfl) (by simp [leE, lk_cons]) (by decide) (by decide) rfl (by simp only [go_sem, qa, qb, qc, qd, qe, qf, qg, qh, qi, qj, qk, ↓reduceIte, resQ_tmp, resQ_cell, resQ_nil, retD_one, retD_two, retD_three, retD_none]; try simp [R.val, retD_one, retD_two, retD_three, retD_none])
  · (try dsimp only at h)
    refine W_sound tab_ok mixed 8 _ _ _ ?_
    simp -implicitDefEqProofs only [go_sem, qa, qb, qc, qd, qe, qf, qg, qh, qi, qj, qk, ↓reduceIte, h4124]
    repeat with_reducible refine ⟨by first | kernel_rfl | decide, ?_⟩
    refine Wp_callD [] (c83_b N _ _ _ _ _ h4127) rfl rfl rfl (by first | rfl | (simp only [go_sem, qa, qb, qc, qd, qe, qf, qg, qh, qi, qj, qk, ↓reduceIte, h4124] <;> rfl)) rfl (by kernel_rfl) ?_
    refine W_sound tab_ok mixed 15 _ _ _ ?_
    simp -implicitDefEqProofs only [go_sem, qa, qb, qc, qd, qe, qf, qg, qh, qi, qj, qk, ↓reduceIte, h4124]
    repeat with_reducible refine ⟨by first | kernel_rfl | decide, ?_⟩
    obtain rfl := Option.some.inj h
    exact finC [(4, .v (.int .i64 x4131))] [(4, .v (.int .i64 x4131))] (by simp [leE, lk_cons]) (.cons _ _ _ _ _ (.v _ _ (.refl _)) .nil) (by rfl) (by simp [leE, lk_cons]) (by decide) (by decide) rfl (by simp only [go_sem, qa, qb, qc, qd, qe, qf, qg, qh, qi, qj, qk, ↓reduceIte, resQ_tmp, resQ_cell, resQ_nil, retD_one, retD_two, retD_three, retD_none]; try simp [R.val, retD_one, retD_two, retD_three, retD_none])
def m51 (N : Nat) (x4142 : Int) (p4143 : PV) (x4144 : Int) : Option (PV) :=
  getL p4143 fun n4146 c4147 =>
  bnd' (m81 N x4142 (.lst false n4146 c4147)) fun p4148 =>
  getT2 p4148 fun p4151 p4152 =>
  getL p4151 fun n4154 c4155 =>
  getI .i64 p4152 fun x4157 =>
  brn (x4157 != 0) (
    some (.int .i64 x4157)) (
    brn (decide (x4144 < 0)) (
      some (.int .i64 2)) (
      brn (decide (x4144 ≥ x4142)) (
        some (.int .i64 2)) (
        bnd' (m57 N (.lst false n4154 c4155) x4144) fun p4161 =>
        getB p4161 fun b4164 =>
        brn b4164 (
          some (.int .i64 0)) (
          some (.int .i64 14)))))
theorem c51 (N : Nat) (x4142 : Int) (p4143 : PV) (x4144 : Int) (r : PV)  (h : m51 N x4142 p4143 x4144 = some r) : FnP Tryd.prog 51 [(.int .i64 x4142), p4143, (.int .i64 x4144)] r := by
  unfold m51 at h
  refine Fn_of (sz := 32) tab_ok [0, 1, 2, 6, 7, 8, 15, 19, 27] [.tmp 6] Tryd.func51 rfl rfl rfl (by simp) ?_
  simp only [initSt, initEnv, List.map_cons, List.map_nil, List.getD_cons_zero, List.getD_cons_succ, List.getD_nil]
  have hh := getL_some h; clear h; obtain ⟨n4146, c4147, h4145, h⟩ := hh
  have hh := bnd'_some h; clear h; obtain ⟨p4148, h4149, h⟩ := hh
  refine W_sound tab_ok mixed 8 _ _ _ ?_
  simp -implicitDefEqProofs only [go_sem, qa, qb, qc, qd, qe, qf, qg, qh, qi, qj, qk, ↓reduceIte, h4145]
  repeat with_reducible refine ⟨by first | kernel_rfl | decide, ?_⟩
  refine Wp_callP (c81 N _ _ _ h4149) (by kernel_rfl) rfl rfl rfl rfl (by decide) ?_
  have hh := getT2_some h; clear h; obtain ⟨p4151, p4152, h4150, h⟩ := hh
  have hh := getL_some h; clear h; obtain ⟨n4154, c4155, h4153, h⟩ := hh
  have hh := getI_some h; clear h; obtain ⟨x4157, h4156, h⟩ := hh
  have hh := brn_some h; clear h; rcases hh with ⟨h4158, h⟩ | ⟨h4158, h⟩
  · refine W_sound tab_ok mixed 22 _ _ _ ?_
    simp -implicitDefEqProofs only [go_sem, qa, qb, qc, qd, qe, qf, qg, qh, qi, qj, qk, ↓reduceIte, h4145, h4150, h4153, h4156, h4158]
    repeat with_reducible refine ⟨by first | kernel_rfl | decide, ?_⟩
    obtain rfl := Option.some.inj h
    exact finC [(6, .v (.int .i64 x4157))] [(6, .v (.int .i64 x4157))] (by simp [leE, lk_cons]) (.cons _ _ _ _ _ (.v _ _ (.refl _)) .nil) (by rfl) (by simp [leE, lk_cons]) (by decide) (by decide) rfl (by simp only [go_sem, qa, qb, qc, qd, qe, qf, qg, qh, qi, qj, qk, ↓reduceIte, resQ_tmp, resQ_cell, resQ_nil, retD_one, retD_two, retD_three, retD_none]; try simp [R.val, retD_one, retD_two, retD_three, retD_none])
  · have hh := brn_some h; clear h; rcases hh with ⟨h4159, h⟩ | ⟨h4159, h⟩
    · refine W_sound tab_ok mixed 33 _ _ _ ?_
      simp -implicitDefEqProofs only [go_sem, qa, qb, qc, qd, qe, qf, qg, qh, qi, qj, qk, ↓reduceIte, h4145, h4150, h4153, h4156, h4158, h4159]
      repeat with_reducible refine ⟨by first | kernel_rfl | decide, ?_⟩
      obtain rfl := Option.some.inj h
      exact finC [(6, .v (.int .i64 2))] [(6, .v (.int .i64 2))] (by simp [leE, lk_cons]) (.cons _ _ _ _ _ (.v _ _ (.refl _)) .nil) (by rfl) (by simp [leE, lk_cons]) (by decide) (by decide) rfl (by simp only [go_sem, qa, qb, qc, qd, qe, qf, qg, qh, qi, qj, qk, ↓reduceIte, resQ_tmp, resQ_cell, resQ_nil, retD_one, retD_two, retD_three, retD_none]; try simp [R.val, retD_one, retD_two, retD_three, retD_none])
    · have hh := brn_some h; clear h; rcases hh with ⟨h4160, h⟩ | ⟨h4160, h⟩
      · refine W_sound tab_ok mixed 33 _ _ _ ?_
        simp -implicitDefEqProofs only [go_sem, qa, qb, qc, qd, qe, qf, qg, qh, qi, qj, qk, ↓reduceIte, h4145, h4150, h4153, h4156, h4158, h4159, h4160]
        repeat with_reducible refine ⟨by first | kernel_rfl | decide, ?_⟩
        obtain rfl := Option.some.inj h
        exact finC [(6, .v (.int .i64 2))] [(6, .v (.int .i64 2))] (by simp [leE, lk_cons]) (.cons _ _ _ _ _ (.v _ _ (.refl _)) .nil) (by rfl) (by simp [leE, lk_cons]) (by decide) (by decide) rfl (by simp only [go_sem, qa, qb, qc, qd, qe, qf, qg, qh, qi, qj, qk, ↓reduceIte, resQ_tmp, resQ_cell, resQ_nil, retD_one, retD_two, retD_three, retD_none]; try simp [R.val, retD_one, retD_two, retD_three, retD_none])
      · have hh := bnd'_some h; clear h; obtain ⟨p4161, h4162, h⟩ := hh
        refine W_sound tab_ok mixed 31 _ _ _ ?_
        simp -implicitDefEqProofs only [go_sem, qa, qb, qc, qd, qe, qf, qg, qh, qi, qj, qk, ↓reduceIte, h4145, h4150, h4153, h4156, h4158, h4159, h4160]
        repeat with_reducible refine ⟨by first | kernel_rfl | decide, ?_⟩
        refine Wp_callP (c57 N _ _ _ h4162) (by kernel_rfl) rfl rfl rfl rfl (by decide) ?_
        have hh := getB_some h; clear h; obtain ⟨b4164, h4163, h⟩ := hh
        have hh := brn_some h; clear h; rcases hh with ⟨h4165, h⟩ | ⟨h4165, h⟩
        · refine W_sound tab_ok mixed 12 _ _ _ ?_
          simp -implicitDefEqProofs only [go_sem, qa, qb, qc, qd, qe, qf, qg, qh, qi, qj, qk, ↓reduceIte, h4145, h4150, h4153, h4156, h4158, h4159, h4160, h4163, h4165]
          repeat with_reducible refine ⟨by first | kernel_rfl | decide, ?_⟩
          obtain rfl := Option.some.inj h
          exact finC [(6, .v (.int .i64 0))] [(6, .v (.int .i64 0))] (by simp [leE, lk_cons]) (.cons _ _ _ _ _ (.v _ _ (.refl _)) .nil) (by rfl) (by simp [leE, lk_cons]) (by decide) (by decide) rfl (by simp only [go_sem, qa, qb, qc, qd, qe, qf, qg, qh, qi, qj, qk, ↓reduceIte, resQ_tmp, resQ_cell, resQ_nil, retD_one, retD_two, retD_three, retD_none]; try simp [R.val, retD_one, retD_two, retD_three, retD_none])
        · refine W_sound tab_ok mixed 10 _ _ _ ?_
          simp -implicitDefEqProofs only [go_sem, qa, qb, qc, qd, qe, qf, qg, qh, qi, qj, qk, ↓reduceIte, h4145, h4150, h4153, h4156, h4158, h4159, h4160, h4163, h4165]
          repeat with_reducible refine ⟨by first | kernel_rfl | decide, ?_⟩
          obtain rfl := Option.some.inj h
          exact finC [(6, .v (.int .i64 14))] [(6, .v (.int .i64 14))] (by simp [leE, lk_cons]) (.cons _ _ _ _ _ (.v _ _ (.refl _)) .nil) (by rfl) (by simp [leE, lk_cons]) (by decide) (by decide) rfl (by simp only [go_sem, qa, qb, qc, qd, qe, qf, qg, qh, qi, qj, qk, ↓reduceIte, resQ_tmp, resQ_cell, resQ_nil, retD_one, retD_two, retD_three, retD_none]; try simp [R.val, retD_one, retD_two, retD_three, retD_none])
def m52 (N : Nat) (x4170 : Int) (p4171 : PV) (x4172 : Int) : Option (PV) :=
  getL p4171 fun n4174 c4175 =>
  bnd' (m50 N x4170 (.lst false n4174 c4175)) fun p4176 =>
  getI .i64 p4176 fun x4179 =>
  brn (x4179 == 0) (
    bnd' (m73 N x4172 0 (IntKind.i64.wrap (x4170 - 1))) fun p4181 =>
    getB p4181 fun b4184 =>
    brn b4184 (
      bnd' (m82 N x4170 (.lst false n4174 c4175) x4172) fun p4186 =>
      getB p4186 fun b4189 =>
      brn b4189 (
        some (.int .i64 x4179)) (
        some (.int .i64 14))) (
      some (.int .i64 2))) (
    some (.int .i64 x4179))
theorem c52 (N : Nat) (x4170 : Int) (p4171 : PV) (x4172 : Int) (r : PV)  (h : m52 N x4170 p4171 x4172 = some r) : FnP Tryd.prog 52 [(.int .i64 x4170), p4171, (.int .i64 x4172)] r := by
  unfold m52 at h
  refine Fn_of (sz := 30) tab_ok [0, 1, 2, 6, 7, 19, 28] [.tmp 6] Tryd.func52 rfl rfl rfl (by simp) ?_
  simp only [initSt, initEnv, List.map_cons, List.map_nil, List.getD_cons_zero, List.getD_cons_succ, List.getD_nil]
  have hh := getL_some h; clear h; obtain ⟨n4174, c4175, h4173, h⟩ := hh
  have hh := bnd'_some h; clear h; obtain ⟨p4176, h4177, h⟩ := hh
  refine W_sound tab_ok mixed 8 _ _ _ ?_
  simp -implicitDefEqProofs only [go_sem, qa, qb, qc, qd, qe, qf, qg, qh, qi, qj, qk, ↓reduceIte, h4173]
  repeat with_reducible refine ⟨by first | kernel_rfl | decide, ?_⟩
  refine Wp_callP (c50 N _ _ _ h4177) (by kernel_rfl) rfl rfl rfl rfl (by decide) ?_
  have hh := getI_some h; clear h; obtain ⟨x4179, h4178, h⟩ := hh
  have hh := brn_some h; clear h; rcases hh with ⟨h4180, h⟩ | ⟨h4180, h⟩
  · have hh := bnd'_some h; clear h; obtain ⟨p4181, h4182, h⟩ := hh
    refine W_sound tab_ok mixed 11 _ _ _ ?_
    simp -implicitDefEqProofs only [go_sem, qa, qb, qc, qd, qe, qf, qg, qh, qi, qj, qk, ↓reduceIte, h4173, h4178, h4180]
    repeat with_reducible refine ⟨by first | kernel_rfl | decide, ?_⟩
    refine Wp_callP (c73 N _ _ _ _ h4182) (by kernel_rfl) rfl rfl rfl rfl (by decide) ?_
    have hh := getB_some h; clear h; obtain ⟨b4184, h4183, h⟩ := hh
    have hh := brn_some h; clear h; rcases hh with ⟨h4185, h⟩ | ⟨h4185, h⟩
    · have hh := bnd'_some h; clear h; obtain ⟨p4186, h4187, h⟩ := hh
      refine W_sound tab_ok mixed 14 _ _ _ ?_
      simp -implicitDefEqProofs only [go_sem, qa, qb, qc, qd, qe, qf, qg, qh, qi, qj, qk, ↓reduceIte, h4173, h4178, h4180, h4183, h4185]
      repeat with_reducible refine ⟨by first | kernel_rfl | decide, ?_⟩
      refine Wp_callP (c82 N _ _ _ _ h4187) (by kernel_rfl) rfl rfl rfl rfl (by decide) ?_
      have hh := getB_some h; clear h; obtain ⟨b4189, h4188, h⟩ := hh
      have hh := brn_some h; clear h; rcases hh with ⟨h4190, h⟩ | ⟨h4190, h⟩
      · refine W_sound tab_ok mixed 12 _ _ _ ?_
        simp -implicitDefEqProofs only [go_sem, qa, qb, qc, qd, qe, qf, qg, qh, qi, qj, qk, ↓reduceIte, h4173, h4178, h4180, h4183, h4185, h4188, h4190]
        repeat with_reducible refine ⟨by first | kernel_rfl | decide, ?_⟩
        obtain rfl := Option.some.inj h
        exact finC [(6, .v (.int .i64 x4179))] [(6, .v (.int .i64 x4179))] (by simp [leE, lk_cons]) (.cons _ _ _ _ _ (.v _ _ (.refl _)) .nil) (by rfl) (by simp [leE, lk_cons]) (by decide) (by decide) rfl (by simp only [go_sem, qa, qb, qc, qd, qe, qf, qg, qh, qi, qj, qk, ↓reduceIte, resQ_tmp, resQ_cell, resQ_nil, retD_one, retD_two, retD_three, retD_none]; try simp [R.val, retD_one, retD_two, retD_three, retD_none])
      · refine W_sound tab_ok mixed 14 _ _ _ ?_
        simp -implicitDefEqProofs only [go_sem, qa, qb, qc, qd, qe, qf, qg, qh, qi, qj, qk, ↓reduceIte, h4173, h4178, h4180, h4183, h4185, h4188, h4190]
        repeat with_reducible refine ⟨by first | kernel_rfl | decide, ?_⟩
        obtain rfl := Option.some.inj h
        exact finC [(6, .v (.int .i64 14))] [(6, .v (.int .i64 14))] (by simp [leE, lk_cons]) (.cons _ _ _ _ _ (.v _ _ (.refl _)) .nil) (by rfl) (by simp [leE, lk_cons]) (by decide) (by decide) rfl (by simp only [go_sem, qa, qb, qc, qd, qe, qf, qg, qh, qi, qj, qk, ↓reduceIte, resQ_tmp, resQ_cell, resQ_nil, retD_one, retD_two, retD_three, retD_none]; try simp [R.val, retD_one, retD_two, retD_three, retD_none])
    · refine W_sound tab_ok mixed 29 _ _ _ ?_
      simp -implicitDefEqProofs only [go_sem, qa, qb, qc, qd, qe, qf, qg, qh, qi, qj, qk, ↓reduceIte, h4173, h4178, h4180, h4183, h4185]
      repeat with_reducible refine ⟨by first | kernel_rfl | decide, ?_⟩
      obtain rfl := Option.some.inj h
      exact finC [(6, .v (.int .i64 2))] [(6, .v (.int .i64 2))] (by simp [leE, lk_cons]) (.cons _ _ _ _ _ (.v _ _ (.refl _)) .nil) (by rfl) (by simp [leE, lk_cons]) (by decide) (by decide) rfl (by simp only [go_sem, qa, qb, qc, qd, qe, qf, qg, qh, qi, qj, qk, ↓reduceIte, resQ_tmp, resQ_cell, resQ_nil, retD_one, retD_two, retD_three, retD_none]; try simp [R.val, retD_one, retD_two, retD_three, retD_none])
  · refine W_sound tab_ok mixed 39 _ _ _ ?_
    simp -implicitDefEqProofs only [go_sem, qa, qb, qc, qd, qe, qf, qg, qh, qi, qj, qk, ↓reduceIte, h4173, h4178, h4180]
    repeat with_reducible refine ⟨by first | kernel_rfl | decide, ?_⟩
    obtain rfl := Option.some.inj h
    exact finC [(6, .v (.int .i64 x4179))] [(6, .v (.int .i64 x4179))] (by simp [leE, lk_cons]) (.cons _ _ _ _ _ (.v _ _ (.refl _)) .nil) (by rfl) (by simp [leE, lk_cons]) (by decide) (by decide) rfl (by simp only [go_sem, qa, qb, qc, qd, qe, qf, qg, qh, qi, qj, qk, ↓reduceIte, resQ_tmp, resQ_cell, resQ_nil, retD_one, retD_two, retD_three, retD_none]; try simp [R.val, retD_one, retD_two, retD_three, retD_none])
def m11 (N : Nat) (x3654 : Int) (p3655 : PV) (x3656 : Int) : Option (PV) :=
  getL p3655 fun n3658 c3659 =>
  bnd' (m15 N (.lst false n3658 c3659)) fun p3660 =>
  getB p3660 fun b3663 =>
  brn b3663 (
    bnd' (m16 N ) fun p3665 =>
    getB p3665 fun b3668 =>
    some (.bool b3668)) (
    bnd' (m45 N x3654 (.lst false n3658 c3659)) fun p3669 =>
    getT2 p3669 fun p3672 p3673 =>
    getI .i64 p3672 fun x3675 =>
    getI .i64 p3673 fun x3677 =>
    bnd' (m46 N x3654 (.lst false n3658 c3659)) fun p3750 =>
    getT2 p3750 fun p3753 p3754 =>
    getI .i64 p3753 fun x3756 =>
    getI .i64 p3754 fun x3758 =>
    bnd' (m47 N x3654 (.lst false n3658 c3659)) fun p3759 =>
    getT2 p3759 fun p3762 p3763 =>
    getL p3762 fun n3765 c3766 =>
    getI .i64 p3763 fun x3768 =>
    bnd' (m48 N x3654 (.lst false n3658 c3659)) fun p4104 =>
    getT2 p4104 fun p4107 p4108 =>
    getL p4107 fun n4110 c4111 =>
    getI .i64 p4108 fun x4113 =>
    brn (x3675 == x3756) (
      brn (x3677 == x3758) (
        bnd' (m21 N (.lst false n3765 c3766) (.lst false n4110 c4111)) fun p4116 =>
        getB p4116 fun b4119 =>
        brn b4119 (
          brn (x3768 == x4113) (
            bnd' (m49 N x3654 (.lst false n3658 c3659)) fun p4133 =>
            getI .i64 p4133 fun x4136 =>
            bnd' (m50 N x3654 (.lst false n3658 c3659)) fun p4137 =>
            getI .i64 p4137 fun x4140 =>
            brn (x4136 == x4140) (
              bnd' (m51 N x3654 (.lst false n3658 c3659) x3656) fun p4166 =>
              getI .i64 p4166 fun x4169 =>
              bnd' (m52 N x3654 (.lst false n3658 c3659) x3656) fun p4191 =>
              getI .i64 p4191 fun x4194 =>
              brn (x4169 == x4194) (
                bnd' (m16 N ) fun p4196 =>
                getB p4196 fun b4199 =>
                some (.bool b4199)) (
                some (.bool false))) (
              some (.bool false))) (
            some (.bool false))) (
          some (.bool false))) (
        some (.bool false))) (
      some (.bool false)))
theorem c11 (N : Nat) (x3654 : Int) (p3655 : PV) (x3656 : Int) (r : PV)  (h : m11 N x3654 p3655 x3656 = some r) : FnP Tryd.prog 11 [(.int .i64 x3654), p3655, (.int .i64 x3656)] r := by
  unfold m11 at h
  refine Fn_of (sz := 83) tab_ok [0, 1, 2, 6, 7, 8, 9, 10, 11, 12, 13, 14, 16] [.tmp 6] Tryd.func11 rfl rfl rfl (by simp) ?_
  simp only [initSt, initEnv, List.map_cons, List.map_nil, List.getD_cons_zero, List.getD_cons_succ, List.getD_nil]
  have hh := getL_some h; clear h; obtain ⟨n3658, c3659, h3657, h⟩ := hh
  have hh := bnd'_some h; clear h; obtain ⟨p3660, h3661, h⟩ := hh
  refine W_sound tab_ok mixed 8 _ _ _ ?_
  simp -implicitDefEqProofs only [go_sem, qa, qb, qc, qd, qe, qf, qg, qh, qi, qj, qk, ↓reduceIte, h3657]
  repeat with_reducible refine ⟨by first | kernel_rfl | decide, ?_⟩
  refine Wp_callP (c15 N _ _ h3661) (by kernel_rfl) rfl rfl rfl rfl (by decide) ?_
  have hh := getB_some h; clear h; obtain ⟨b3663, h3662, h⟩ := hh
  have hh := brn_some h; clear h; rcases hh with ⟨h3664, h⟩ | ⟨h3664, h⟩
  · have hh := bnd'_some h; clear h; obtain ⟨p3665, h3666, h⟩ := hh
    refine W_sound tab_ok mixed 4 _ _ _ ?_
    simp -implicitDefEqProofs only [go_sem, qa, qb, qc, qd, qe, qf, qg, qh, qi, qj, qk, ↓reduceIte, h3657, h3662, h3664]
    repeat with_reducible refine ⟨by first | kernel_rfl | decide, ?_⟩
    refine Wp_callP (c16 N  _ h3666) (by kernel_rfl) rfl rfl rfl rfl (by decide) ?_
    have hh := getB_some h; clear h; obtain ⟨b3668, h3667, h⟩ := hh
    refine W_sound tab_ok mixed 4 _ _ _ ?_
    simp -implicitDefEqProofs only [go_sem, qa, qb, qc, qd, qe, qf, qg, qh, qi, qj, qk, ↓reduceIte, h3657, h3662, h3664, h3667]
    repeat with_reducible refine ⟨by first | kernel_rfl | decide, ?_⟩
    obtain rfl := Option.some.inj h
    exact finC [(6, .v (.bool b3668))] [(6, .v (.bool b3668))] (by simp [leE, lk_cons]) (.cons _ _ _ _ _ (.v _ _ (.refl _)) .nil) (by rfl) (by simp [leE, lk_cons]) (by decide) (by decide) rfl (by simp only [go_sem, qa, qb, qc, qd, qe, qf, qg, qh, qi, qj, qk, ↓reduceIte, resQ_tmp, resQ_cell, resQ_nil, retD_one, retD_two, retD_three, retD_none]; try simp [R.val, retD_one, retD_two, retD_three, retD_none])
  · have hh := bnd'_some h; clear h; obtain ⟨p3669, h3670, h⟩ := hh
    refine W_sound tab_ok mixed 7 _ _ _ ?_
    simp -implicitDefEqProofs only [go_sem, qa, qb, qc, qd, qe, qf, qg, qh, qi, qj, qk, ↓reduceIte, h3657, h3662, h3664]
    repeat with_reducible refine ⟨by first | kernel_rfl | decide, ?_⟩
    refine Wp_callP (c45 N _ _ _ h3670) (by kernel_rfl) rfl rfl rfl rfl (by decide) ?_
    have hh := getT2_some h; clear h; obtain ⟨p3672, p3673, h3671, h⟩ := hh
    have hh := getI_some h; clear h; obtain ⟨x3675, h3674, h⟩ := hh
    have hh := getI_some h; clear h; obtain ⟨x3677, h3676, h⟩ := hh
    have hh := bnd'_some h; clear h; obtain ⟨p3750, h3751, h⟩ := hh
    refine W_sound tab_ok mixed 10 _ _ _ ?_
    simp -implicitDefEqProofs only [go_sem, qa, qb, qc, qd, qe, qf, qg, qh, qi, qj, qk, ↓reduceIte, h3657, h3662, h3664, h3671, h3674, h3676]
    repeat with_reducible refine ⟨by first | kernel_rfl | decide, ?_⟩
    refine Wp_callP (c46 N _ _ _ h3751) (by kernel_rfl) rfl rfl rfl rfl (by decide) ?_
    have hh := getT2_some h; clear h; obtain ⟨p3753, p3754, h3752, h⟩ := hh
    have hh := getI_some h; clear h; obtain ⟨x3756, h3755, h⟩ := hh
    have hh := getI_some h; clear h; obtain ⟨x3758, h3757, h⟩ := hh
    have hh := bnd'_some h; clear h; obtain ⟨p3759, h3760, h⟩ := hh
    refine W_sound tab_ok mixed 10 _ _ _ ?_
    simp -implicitDefEqProofs only [go_sem, qa, qb, qc, qd, qe, qf, qg, qh, qi, qj, qk, ↓reduceIte, h3657, h3662, h3664, h3671, h3674, h3676, h3752, h3755, h3757]
    repeat with_reducible refine ⟨by first | kernel_rfl | decide, ?_⟩
    refine Wp_callP (c47 N _ _ _ h3760) (by kernel_rfl) rfl rfl rfl rfl (by decide) ?_
    have hh := getT2_some h; clear h; obtain ⟨p3762, p3763, h3761, h⟩ := hh
    have hh := getL_some h; clear h; obtain ⟨n3765, c3766, h3764, h⟩ := hh
    have hh := getI_some h; clear h; obtain ⟨x3768, h3767, h⟩ := hh
    have hh := bnd'_some h; clear h; obtain ⟨p4104, h4105, h⟩ := hh
    refine W_sound tab_ok mixed 10 _ _ _ ?_
    simp -implicitDefEqProofs only [go_sem, qa, qb, qc, qd, qe, qf, qg, qh, qi, qj, qk, ↓reduceIte, h3657, h3662, h3664, h3671, h3674, h3676, h3752, h3755, h3757, h3761, h3764, h3767]
    repeat with_reducible refine ⟨by first | kernel_rfl | decide, ?_⟩
    refine Wp_callP (c48 N _ _ _ h4105) (by kernel_rfl) rfl rfl rfl rfl (by decide) ?_
    have hh := getT2_some h; clear h; obtain ⟨p4107, p4108, h4106, h⟩ := hh
    have hh := getL_some h; clear h; obtain ⟨n4110, c4111, h4109, h⟩ := hh
    have hh := getI_some h; clear h; obtain ⟨x4113, h4112, h⟩ := hh
    have hh := brn_some h; clear h; rcases hh with ⟨h4114, h⟩ | ⟨h4114, h⟩
    · have hh := brn_some h; clear h; rcases hh with ⟨h4115, h⟩ | ⟨h4115, h⟩
      · have hh := bnd'_some h; clear h; obtain ⟨p4116, h4117, h⟩ := hh
        refine W_sound tab_ok mixed 19 _ _ _ ?_
        simp -implicitDefEqProofs only [go_sem, qa, qb, qc, qd, qe, qf, qg, qh, qi, qj, qk, ↓reduceIte, h3657, h3662, h3664, h3671, h3674, h3676, h3752, h3755, h3757, h3761, h3764, h3767, h4106, h4109, h4112, h4114, h4115]
        repeat with_reducible refine ⟨by first | kernel_rfl | decide, ?_⟩
        refine Wp_callP (c21 N _ _ _ h4117) (by kernel_rfl) rfl rfl rfl rfl (by decide) ?_
        have hh := getB_some h; clear h; obtain ⟨b4119, h4118, h⟩ := hh
        have hh := brn_some h; clear h; rcases hh with ⟨h4120, h⟩ | ⟨h4120, h⟩
        · have hh := brn_some h; clear h; rcases hh with ⟨h4121, h⟩ | ⟨h4121, h⟩
          · have hh := bnd'_some h; clear h; obtain ⟨p4133, h4134, h⟩ := hh
            refine W_sound tab_ok mixed 9 _ _ _ ?_
            simp -implicitDefEqProofs only [go_sem, qa, qb, qc, qd, qe, qf, qg, qh, qi, qj, qk, ↓reduceIte, h3657, h3662, h3664, h3671, h3674, h3676, h3752, h3755, h3757, h3761, h3764, h3767, h4106, h4109, h4112, h4114, h4115, h4118, h4120, h4121]
            repeat with_reducible refine ⟨by first | kernel_rfl | decide, ?_⟩
            refine Wp_callP (c49 N _ _ _ h4134) (by kernel_rfl) rfl rfl rfl rfl (by decide) ?_
            have hh := getI_some h; clear h; obtain ⟨x4136, h4135, h⟩ := hh
            have hh := bnd'_some h; clear h; obtain ⟨p4137, h4138, h⟩ := hh
            refine W_sound tab_ok mixed 2 _ _ _ ?_
            simp -implicitDefEqProofs only [go_sem, qa, qb, qc, qd, qe, qf, qg, qh, qi, qj, qk, ↓reduceIte, h3657, h3662, h3664, h3671, h3674, h3676, h3752, h3755, h3757, h3761, h3764, h3767, h4106, h4109, h4112, h4114, h4115, h4118, h4120, h4121, h4135]
            repeat with_reducible refine ⟨by first | kernel_rfl | decide, ?_⟩
            refine Wp_callP (c50 N _ _ _ h4138) (by kernel_rfl) rfl rfl rfl rfl (by decide) ?_
            have hh := getI_some h; clear h; obtain ⟨x4140, h4139, h⟩ := hh
            have hh := brn_some h; clear h; rcases hh with ⟨h4141, h⟩ | ⟨h4141, h⟩
            · have hh := bnd'_some h; clear h; obtain ⟨p4166, h4167, h⟩ := hh
              refine W_sound tab_ok mixed 6 _ _ _ ?_
              simp -implicitDefEqProofs only [go_sem, qa, qb, qc, qd, qe, qf, qg, qh, qi, qj, qk, ↓reduceIte, h3657, h3662, h3664, h3671, h3674, h3676, h3752, h3755, h3757, h3761, h3764, h3767, h4106, h4109, h4112, h4114, h4115, h4118, h4120, h4121, h4135, h4139, h4141]
              repeat with_reducible refine ⟨by first | kernel_rfl | decide, ?_⟩
              refine Wp_callP (c51 N _ _ _ _ h4167) (by kernel_rfl) rfl rfl rfl rfl (by decide) ?_
              have hh := getI_some h; clear h; obtain ⟨x4169, h4168, h⟩ := hh
              have hh := bnd'_some h; clear h; obtain ⟨p4191, h4192, h⟩ := hh
              refine W_sound tab_ok mixed 3 _ _ _ ?_
              simp -implicitDefEqProofs only [go_sem, qa, qb, qc, qd, qe, qf, qg, qh, qi, qj, qk, ↓reduceIte, h3657, h3662, h3664, h3671, h3674, h3676, h3752, h3755, h3757, h3761, h3764, h3767, h4106, h4109, h4112, h4114, h4115, h4118, h4120, h4121, h4135, h4139, h4141, h4168]
              repeat with_reducible refine ⟨by first | kernel_rfl | decide, ?_⟩
              refine Wp_callP (c52 N _ _ _ _ h4192) (by kernel_rfl) rfl rfl rfl rfl (by decide) ?_
              have hh := getI_some h; clear h; obtain ⟨x4194, h4193, h⟩ := hh
              have hh := brn_some h; clear h; rcases hh with ⟨h4195, h⟩ | ⟨h4195, h⟩
              · have hh := bnd'_some h; clear h; obtain ⟨p4196, h4197, h⟩ := hh
                refine W_sound tab_ok mixed 3 _ _ _ ?_
                simp -implicitDefEqProofs only [go_sem, qa, qb, qc, qd, qe, qf, qg, qh, qi, qj, qk, ↓reduceIte, h3657, h3662, h3664, h3671, h3674, h3676, h3752, h3755, h3757, h3761, h3764, h3767, h4106, h4109, h4112, h4114, h4115, h4118, h4120, h4121, h4135, h4139, h4141, h4168, h4193, h4195]
                repeat with_reducible refine ⟨by first | kernel_rfl | decide, ?_⟩
                refine Wp_callP (c16 N  _ h4197) (by kernel_rfl) rfl rfl rfl rfl (by decide) ?_
                have hh := getB_some h; clear h; obtain ⟨b4199, h4198, h⟩ := hh
                refine W_sound tab_ok mixed 5 _ _ _ ?_
                simp -implicitDefEqProofs only [go_sem, qa, qb, qc, qd, qe, qf, qg, qh, qi, qj, qk, ↓reduceIte, h3657, h3662, h3664, h3671, h3674, h3676, h3752, h3755, h3757, h3761, h3764, h3767, h4106, h4109, h4112, h4114, h4115, h4118, h4120, h4121, h4135, h4139, h4141, h4168, h4193, h4195, h4198]
                repeat with_reducible refine ⟨by first | kernel_rfl | decide, ?_⟩
                obtain rfl := Option.some.inj h
                exact finC [(6, .v (.bool b4199))] [(6, .v (.bool b4199))] (by simp [leE, lk_cons]) (.cons _ _ _ _ _ (.v _ _ (.refl _)) .nil) (by rfl) (by simp [leE, lk_cons]) (by decide) (by decide) rfl (by simp only [go_sem, qa, qb, qc, qd, qe, qf, qg, qh, qi, qj, qk, ↓reduceIte, resQ_tmp, resQ_cell, resQ_nil, retD_one, retD_two, retD_three, retD_none]; try simp [R.val, retD_one, retD_two, retD_three, retD_none])
              · refine W_sound tab_ok mixed 9 _ _ _ ?_
                simp -implicitDefEqProofs only [go_sem, qa, qb, qc, qd, qe, qf, qg, qh, qi, qj, qk, ↓reduceIte, h3657, h3662, h3664, h3671, h3674, h3676, h3752, h3755, h3757, h3761, h3764, h3767, h4106, h4109, h4112, h4114, h4115, h4118, h4120, h4121, h4135, h4139, h4141, h4168, h4193, h4195]
                repeat with_reducible refine ⟨by first | kernel_rfl | decide, ?_⟩
                obtain rfl := Option.some.inj h
                exact finC [(6, .v (.bool false))] [(6, .v (.bool false))] (by simp [leE, lk_cons]) (.cons _ _ _ _ _ (.v _ _ (.refl _)) .nil) (by rfl) (by simp [leE, lk_cons]) (by decide) (by decide) rfl (by simp only [go_sem, qa, qb, qc, qd, qe, qf, qg, qh, qi, qj, qk, ↓reduceIte, resQ_tmp, resQ_cell, resQ_nil, retD_one, retD_two, retD_three, retD_none]; try simp [R.val, retD_one, retD_two, retD_three, retD_none])
            · refine W_sound tab_ok mixed 20 _ _ _ ?_
              simp -implicitDefEqProofs only [go_sem, qa, qb, qc, qd, qe, qf, qg, qh, qi, qj, qk, ↓reduceIte, h3657, h3662, h3664, h3671, h3674, h3676, h3752, h3755, h3757, h3761, h3764, h3767, h4106, h4109, h4112, h4114, h4115, h4118, h4120, h4121, h4135, h4139, h4141]
              repeat with_reducible refine ⟨by first | kernel_rfl | decide, ?_⟩
              obtain rfl := Option.some.inj h
              exact finC [(6, .v (.bool false))] [(6, .v (.bool false))] (by simp [leE, lk_cons]) (.cons _ _ _ _ _ (.v _ _ (.refl _)) .nil) (by rfl) (by simp [leE, lk_cons]) (by decide) (by decide) rfl (by simp only [go_sem, qa, qb, qc, qd, qe, qf, qg, qh, qi, qj, qk, ↓reduceIte, resQ_tmp, resQ_cell, resQ_nil, retD_one, retD_two, retD_three, retD_none]; try simp [R.val, retD_one, retD_two, retD_three, retD_none])
          · refine W_sound tab_ok mixed 33 _ _ _ ?_
            simp -implicitDefEqProofs only [go_sem, qa, qb, qc, qd, qe, qf, qg, qh, qi, qj, qk, ↓reduceIte, h3657, h3662, h3664, h3671, h3674, h3676, h3752, h3755, h3757, h3761, h3764, h3767, h4106, h4109, h4112, h4114, h4115, h4118, h4120, h4121]
            repeat with_reducible refine ⟨by first | kernel_rfl | decide, ?_⟩
            obtain rfl := Option.some.inj h
            exact finC [(6, .v (.bool false))] [(6, .v (.bool false))] (by simp [leE, lk_cons]) (.cons _ _ _ _ _ (.v _ _ (.refl _)) .nil) (by rfl) (by simp [leE, lk_cons]) (by decide) (by decide) rfl (by simp only [go_sem, qa, qb, qc, qd, qe, qf, qg, qh, qi, qj, qk, ↓reduceIte, resQ_tmp, resQ_cell, resQ_nil, retD_one, retD_two, retD_three, retD_none]; try simp [R.val, retD_one, retD_two, retD_three, retD_none])
        · refine W_sound tab_ok mixed 33 _ _ _ ?_
          simp -implicitDefEqProofs only [go_sem, qa, qb, qc, qd, qe, qf, qg, qh, qi, qj, qk, ↓reduceIte, h3657, h3662, h3664, h3671, h3674, h3676, h3752, h3755, h3757, h3761, h3764, h3767, h4106, h4109, h4112, h4114, h4115, h4118, h4120]
          repeat with_reducible refine ⟨by first | kernel_rfl | decide, ?_⟩
          obtain rfl := Option.some.inj h
          exact finC [(6, .v (.bool false))] [(6, .v (.bool false))] (by simp [leE, lk_cons]) (.cons _ _ _ _ _ (.v _ _ (.refl _)) .nil) (by rfl) (by simp [leE, lk_cons]) (by decide) (by decide) rfl (by simp only [go_sem, qa, qb, qc, qd, qe, qf, qg, qh, qi, qj, qk, ↓reduceIte, resQ_tmp, resQ_cell, resQ_nil, retD_one, retD_two, retD_three, retD_none]; try simp [R.val, retD_one, retD_two, retD_three, retD_none])
      · refine W_sound tab_ok mixed 53 _ _ _ ?_
        simp -implicitDefEqProofs only [go_sem, qa, qb, qc, qd, qe, qf, qg, qh, qi, qj, qk, ↓reduceIte, h3657, h3662, h3664, h3671, h3674, h3676, h3752, h3755, h3757, h3761, h3764, h3767, h4106, h4109, h4112, h4114, h4115]
        repeat with_reducible refine ⟨by first | kernel_rfl | decide, ?_⟩
        obtain rfl := Option.some.inj h
        exact finC [(6, .v (.bool false))] [(6, .v (.bool false))] (by simp [leE, lk_cons]) (.cons _ _ _ _ _ (.v _ _ (.refl _)) .nil) (by rfl) (by simp [leE, lk_cons]) (by decide) (by decide) rfl (by simp only [go_sem, qa, qb, qc, qd, qe, qf, qg, qh, qi, qj, qk, ↓reduceIte, resQ_tmp, resQ_cell, resQ_nil, retD_one, retD_two, retD_three, retD_none]; try simp [R.val, retD_one, retD_two, retD_three, retD_none])
    · refine W_sound tab_ok mixed 53 _ _ _ ?_
      simp -implicitDefEqProofs only [go_sem, qa, qb, qc, qd, qe, qf, qg, qh, qi, qj, qk, ↓reduceIte, h3657, h3662, h3664, h3671, h3674, h3676, h3752, h3755, h3757, h3761, h3764, h3767, h4106, h4109, h4112, h4114]
      repeat with_reducible refine ⟨by first | kernel_rfl | decide, ?_⟩
      obtain rfl := Option.some.inj h
      exact finC [(6, .v (.bool false))] [(6, .v (.bool false))] (by simp [leE, lk_cons]) (.cons _ _ _ _ _ (.v _ _ (.refl _)) .nil) (by rfl) (by simp [leE, lk_cons]) (by decide) (by decide) rfl (by simp only [go_sem, qa, qb, qc, qd, qe, qf, qg, qh, qi, qj, qk, ↓reduceIte, resQ_tmp, resQ_cell, resQ_nil, retD_one, retD_two, retD_three, retD_none]; try simp [R.val, retD_one, retD_two, retD_three, retD_none])
end Go.Proofs.YtcaecfofgdogbaaDoor
namespace Go.Proofs.YtcaecfofgdogbaaDoor
open Go.V
set_option linter.unusedSectionVars false
theorem brn_t {α : Type} {b : Bool} {x y : Option α} (h : b = true) : brn b x y = x := by subst h; rfl
theorem brn_f {α : Type} {b : Bool} {x y : Option α} (h : b = false) : brn b x y = y := by subst h; rfl
theorem grd_t {α : Type} {p : Prop} [Decidable p] {k : Option α} (h : p) : grd p k = k := by simp [grd, h]
theorem brn_dt {α : Type} {p : Prop} [Decidable p] {x y : Option α} (h : p) : brn (decide p) x y = x := brn_t (decide_eq_true h)
theorem brn_df {α : Type} {p : Prop} [Decidable p] {x y : Option α} (h : ¬ p) : brn (decide p) x y = y := brn_f (decide_eq_false h)
theorem brn_et {α : Type} {a b : Int} {x y : Option α} (h : a = b) : brn (a == b) x y = x := brn_t (by simpa using h)
theorem brn_ef {α : Type} {a b : Int} {x y : Option α} (h : a ≠ b) : brn (a == b) x y = y := brn_f (by simpa using h)
theorem brn_nt {α : Type} {a b : Int} {x y : Option α} (h : a ≠ b) : brn (a != b) x y = x := brn_t (by simpa using h)
theorem brn_nf {α : Type} {a b : Int} {x y : Option α} (h : a = b) : brn (a != b) x y = y := brn_f (by simpa using h)
theorem bnd_t {α β : Type} {x : α} {f : α → Option β} : bnd' (some x) f = f x := rfl
theorem getI_t {α : Type} {k : IntKind} {x : Int} {f : Int → Option α} : getI k (.int k x) f = f x := by simp [getI]
theorem getB_t {α : Type} {b : Bool} {f : Bool → Option α} : getB (.bool b) f = f b := rfl
theorem getL_t {α : Type} {n : Nat} {c : List PV} {f : Nat → List PV → Option α} : getL (.lst false n c) f = f n c := rfl
theorem getT2_t {α : Type} {a b : PV} {f : PV → PV → Option α} : getT2 (.tup [a, b]) f = f a b := rfl
theorem getT0_t {α : Type} {k : Option α} : getT0 (.tup []) k = k := rfl
theorem wrapN {n : Nat} (h : n ≤ 100000) : IntKind.i64.wrap ((n : Int) + 1) = ((n + 1 : Nat) : Int) := by
  rw [wrap64 (by omega) (by omega)]; omega
theorem toNatN (n : Nat) : Int.toNat (n : Int) = n := by omega
theorem range'_step {i n : Nat} (h : i < n) : List.range' i (n - i) = i :: List.range' (i + 1) (n - (i + 1)) := by
  rw [show n - i = (n - (i + 1)) + 1 by omega, List.range'_succ]
def iL (X : List Int) : List PV := X.map (PV.int .i64)
theorem iL_len (X : List Int) : (iL X).length = X.length := by simp [iL]
def en (X : List Int) (i : Nat) : Int := X.getD i 0
theorem iL_gp {X : List Int} {i : Nat} (h : i < X.length) : gp (iL X) i = .int .i64 (en X i) := by
  simp [iL, gp, en, List.getD, h]
theorem iL_set (w : List Int) (j : Nat) (x : Int) : (iL w).set j (.int .i64 x) = iL (w.set j x) := by simp [iL, List.map_set]
theorem iL_app (X : List Int) (x : Int) : iL X ++ [.int .i64 x] = iL (X ++ [x]) := by simp [iL]
theorem iL_take (X : List Int) (n : Nat) : (iL X).take n = iL (X.take n) := by simp [iL]
def rwP (r : List Int) : PV := .lst false r.length (iL r)
def rwsP (L : List (List Int)) : List PV := L.map rwP
theorem rws_len (L : List (List Int)) : (rwsP L).length = L.length := by simp [rwsP]
def ro (L : List (List Int)) (i : Nat) : List Int := L.getD i []
theorem rws_gp {L : List (List Int)} {i : Nat} (h : i < L.length) : gp (rwsP L) i = .lst false (ro L i).length (iL (ro L i)) := by
  simp [rwsP, gp, ro, rwP, List.getD, h]
theorem rws_app (L : List (List Int)) (r : List Int) : rwsP L ++ [rwP r] = rwsP (L ++ [r]) := by simp [rwsP]
theorem rws_take (L : List (List Int)) (n : Nat) : (rwsP L).take n = rwsP (L.take n) := by simp [rwsP]
theorem ro_mem {L : List (List Int)} {i : Nat} (h : i < L.length) : ro L i ∈ L := by
  simp [ro, List.getD, h]
theorem drop_ro {L : List (List Int)} {i : Nat} (h : i < L.length) : L.drop i = ro L i :: L.drop (i + 1) := by
  rw [List.drop_eq_getElem_cons h]; simp [ro, List.getD, h]
theorem drop_en {L : List Int} {i : Nat} (h : i < L.length) : L.drop i = en L i :: L.drop (i + 1) := by
  rw [List.drop_eq_getElem_cons h]; simp [en, List.getD, h]
theorem take_en {L : List Int} {i : Nat} (h : i < L.length) : L.take (i + 1) = L.take i ++ [en L i] := by
  rw [List.take_succ_eq_append_getElem h]; simp [en, List.getD, h]
theorem take_ro {L : List (List Int)} {i : Nat} (h : i < L.length) : L.take (i + 1) = L.take i ++ [ro L i] := by
  rw [List.take_succ_eq_append_getElem h]; simp [ro, List.getD, h]
theorem en_set {w : List Int} {j k : Nat} {x : Int} (hj : j < w.length) : en (w.set j x) k = if k = j then x else en w k := by
  unfold en
  by_cases h : k = j
  · subst h; simp [List.getD, hj]
  · rw [if_neg h]; simp [List.getD, List.getElem?_set_ne (Ne.symm h)]
theorem gI_n {α : Type} {X : List Int} {i : Nat} {f : Int → Option α} (h : i < X.length) : getI .i64 (gp (iL X) (Int.toNat (i : Int))) f = f (en X i) := by
  rw [toNatN, iL_gp h, getI_t]
theorem gL_n {α : Type} {L : List (List Int)} {i : Nat} {f : Nat → List PV → Option α} (h : i < L.length) : getL (gp (rwsP L) (Int.toNat (i : Int))) f = f (ro L i).length (iL (ro L i)) := by
  rw [toNatN, rws_gp h, getL_t]
def lgL (L : List (List Int)) : Bool := decide (30 < L.length) || L.any fun r => decide (30 < r.length)
theorem large_L (N : Nat) (L : List (List Int)) (hL : L.length ≤ 30) : ∀ (r i fuel : Nat), L.length - i = r → r < fuel →
    m15_L0 N L.length (rwsP L) fuel (i : Int) = some (if (L.drop i).any (fun r => decide (30 < r.length)) then .inl (.bool true) else .inr ())
  | r, i, 0, _, h => by omega
  | r, i, f + 1, hr, hf => by
    have hl := rws_len L
    rw [m15_L0]
    by_cases hi : i < L.length
    · have ih := large_L N L hL (r - 1) (i + 1) f (by omega) (by omega)
      rw [brn_dt (by omega), toNatN, grd_t ⟨by omega, by omega⟩, grd_t (by simp only [List.length_drop]; omega), rws_gp hi, drop_ro hi, getL_t, List.any_cons]
      by_cases h : 30 < (ro L i).length
      · rw [brn_dt (by omega)]; simp [h]
      · rw [brn_df (by omega), wrapN (by omega), ih]; simp [h]
    · rw [brn_df (by omega), List.drop_eq_nil_of_le (by omega)]; rfl
theorem large_ok (N : Nat) (hN : 100 ≤ N) (L : List (List Int)) : m15 N (.lst false L.length (rwsP L)) = some (.bool (lgL L)) := by
  rw [m15, getL_t]
  by_cases h : 30 < L.length
  · rw [brn_dt (by omega)]; simp [lgL, h]
  · have := large_L N L (by omega) L.length 0 N (by omega) (by omega)
    rw [brn_df (by omega), show m15_L0 N L.length (rwsP L) N 0 = _ from this, List.drop_zero, bnd_t]
    simp only [lgL, h, decide_false, Bool.false_or]
    cases L.any fun r => decide (30 < r.length) <;> rfl
theorem isame_L (N : Nat) (X : List Int) (hX : X.length ≤ 1000) : ∀ (s i fuel : Nat), X.length - i = s → s < fuel →
    m22_L0 N X.length (iL X) X.length (iL X) fuel (i : Int) = some (.inr ())
  | s, i, 0, _, h => by omega
  | s, i, f + 1, hs, hf => by
    rw [m22_L0]
    by_cases hi : i < X.length
    · have ih := isame_L N X hX (s - 1) (i + 1) f (by omega) (by omega)
      rw [brn_dt (by omega)]
      simp (disch := (try simp only [List.length_drop, iL_len, rws_len, toNatN]) <;> omega) only [↓grd_t, ↓gI_n]
      rw [brn_nf rfl, wrapN (by omega), ih]
    · rw [brn_df (by omega)]
theorem isame_ok (N : Nat) (hN : 2000 ≤ N) (X : List Int) (hX : X.length ≤ 1000) : m22 N (.lst false X.length (iL X)) (.lst false X.length (iL X)) = some (.bool true) := by
  have := isame_L N X hX X.length 0 N (by omega) (by omega)
  rw [m22, getL_t, getL_t, brn_nf rfl, show m22_L0 N X.length (iL X) X.length (iL X) N 0 = _ from this]
  rfl
theorem lsame_L (N : Nat) (hN : 2000 ≤ N) (L : List (List Int)) (hX : L.length ≤ 1000) (hr : ∀ r ∈ L, r.length ≤ 1000) : ∀ (s i fuel : Nat), L.length - i = s → s < fuel →
    m21_L0 N L.length (rwsP L) L.length (rwsP L) fuel (i : Int) = some (.inr ())
  | s, i, 0, _, h => by omega
  | s, i, f + 1, hs, hf => by
    rw [m21_L0]
    by_cases hi : i < L.length
    · have ih := lsame_L N hN L hX hr (s - 1) (i + 1) f (by omega) (by omega)
      rw [brn_dt (by omega)]
      simp (disch := (try simp only [List.length_drop, iL_len, rws_len, toNatN]) <;> omega) only [↓grd_t, ↓gL_n]
      rw [isame_ok N hN _ (hr _ (ro_mem hi)), bnd_t, getB_t, brn_t rfl, wrapN (by omega), ih]
    · rw [brn_df (by omega)]
theorem lsame_ok (N : Nat) (hN : 2000 ≤ N) (L : List (List Int)) (hX : L.length ≤ 1000) (hr : ∀ r ∈ L, r.length ≤ 1000) : m21 N (.lst false L.length (rwsP L)) (.lst false L.length (rwsP L)) = some (.bool true) := by
  have := lsame_L N hN L hX hr L.length 0 N (by omega) (by omega)
  rw [m21, getL_t, getL_t, brn_nf rfl, show m21_L0 N L.length (rwsP L) L.length (rwsP L) N 0 = _ from this]
  rfl
theorem b_or : ∀ x : Nat, x < 32 → ∀ s : Nat, s < 5 → bitsI .or .u64 (x : Int) (IntKind.u64.wrap (1 * 2 ^ (min s 64))) = ((x ||| 2 ^ s : Nat) : Int) := by decide +kernel
theorem b_un : ∀ x : Nat, x < 32 → ∀ s : Nat, s < 5 → bitsI .andNot .u64 (x : Int) (IntKind.u64.wrap (1 * 2 ^ (min s 64))) = ((x &&& (31 - 2 ^ s) : Nat) : Int) := by decide +kernel
theorem b_diff : ∀ x : Nat, x < 32 → ∀ y : Nat, y < 32 → bitsI .andNot .u64 (x : Int) (y : Int) = ((x &&& (31 - y) : Nat) : Int) := by decide +kernel
theorem b_all : ∀ n : Nat, n < 6 → IntKind.u64.wrap ((IntKind.u64.wrap (1 * 2 ^ (min n 64))) - 1) = ((2 ^ n - 1 : Nat) : Int) := by decide +kernel
theorem b_tst : ∀ x : Nat, x < 32 → ∀ s : Nat, s < 5 → (bitsI .and .u64 (Int.fdiv (x : Int) (2 ^ (min s 64))) 1 == 1) = x.testBit s := by decide +kernel
theorem b_rest : ∀ x : Nat, x < 32 → x ≠ 0 → bitsI .and .u64 (x : Int) (IntKind.u64.wrap ((x : Int) - 1)) = ((x &&& (x - 1) : Nat) : Int) := by decide +kernel
def bits (x : Nat) : List Nat := (List.range 5).filter fun s => x.testBit s
def low (x : Nat) : Nat := (bits x).headD 0
theorem bits_step : ∀ x : Nat, x < 32 → x ≠ 0 → bits x = low x :: bits (x &&& (x - 1)) ∧ x &&& (x - 1) < x ∧ low x < 5 := by decide +kernel
theorem bits_zero : bits 0 = [] := by decide
theorem tz_ok (N : Nat) : ∀ x : Nat, x < 32 → x ≠ 0 → m87 N (x : Int) = some (.int .i64 (low x : Int)) := by
  have h : ∀ x : Nat, x < 32 → x ≠ 0 → (match m96 0 (x : Int) with | some (.int k y) => decide (k = .i64) && decide (y = (low x : Int)) | _ => false) = true := by decide +kernel
  intro x hx h0
  have h1 := h x hx h0
  rw [m87, show m96 N (x : Int) = m96 0 (x : Int) from rfl]
  split at h1
  · rename_i k y e
    simp only [Bool.and_eq_true, decide_eq_true_eq] at h1
    rw [e, h1.1, h1.2, bnd_t, getI_t]
  · cases h1
theorem or_lt : ∀ x : Nat, x < 32 → ∀ s : Nat, s < 5 → x ||| 2 ^ s < 32 := by decide +kernel
theorem un_lt : ∀ x : Nat, x < 32 → ∀ s : Nat, s < 5 → x &&& (31 - 2 ^ s) < 32 := by decide +kernel
theorem diff_lt : ∀ x : Nat, x < 32 → ∀ y : Nat, y < 32 → x &&& (31 - y) < 32 := by decide +kernel
theorem un_or : ∀ x : Nat, x < 32 → ∀ s : Nat, s < 5 → x.testBit s = false → (x ||| 2 ^ s) &&& (31 - 2 ^ s) = x := by decide +kernel
theorem mem_bits {x s : Nat} : s ∈ bits x ↔ s < 5 ∧ x.testBit s = true := by simp [bits]
theorem tst_or : ∀ x : Nat, x < 32 → ∀ s : Nat, s < 5 → ∀ t : Nat, t < 5 → (x ||| 2 ^ s).testBit t = (x.testBit t || decide (t = s)) := by decide +kernel
theorem tst_diff : ∀ x : Nat, x < 32 → ∀ y : Nat, y < 32 → ∀ t : Nat, t < 5 → (x &&& (31 - y)).testBit t = (x.testBit t && !y.testBit t) := by decide +kernel
theorem tst_all : ∀ n : Nat, n < 6 → ∀ t : Nat, t < 5 → (2 ^ n - 1).testBit t = decide (t < n) := by decide +kernel
def uL (X : List Nat) : List PV := X.map fun (b : Nat) => PV.int .u64 (b : Int)
def bn (X : List Nat) (i : Nat) : Nat := X.getD i 0
def tblP (n : Nat) (A : List Int) (B D : List Nat) : List PV := .int .i64 (n : Int) :: (iL A ++ (uL B ++ uL D))
structure Tb (A : List Int) (B D : List Nat) : Prop where
  la : A.length = 25
  lb : B.length = 5
  ld : D.length = 5
  b32 : ∀ i, i < 5 → bn B i < 32
  d32 : ∀ i, i < 5 → bn D i < 32
theorem uL_len (X : List Nat) : (uL X).length = X.length := by simp [uL]
theorem bn_set {w : List Nat} {j k : Nat} {x : Nat} (hj : j < w.length) : bn (w.set j x) k = if k = j then x else bn w k := by
  unfold bn
  by_cases h : k = j
  · subst h; simp [List.getD, hj]
  · rw [if_neg h]; simp [List.getD, List.getElem?_set_ne (Ne.symm h)]
theorem tbl_len {n : Nat} {A : List Int} {B D : List Nat} (h : Tb A B D) : (tblP n A B D).length = 36 := by
  have := h.la; have := h.lb; have := h.ld
  simp only [tblP, List.length_cons, List.length_append, iL_len, uL_len]; omega
theorem gp_cons {p : PV} {l : List PV} {i : Nat} : gp (p :: l) (i + 1) = gp l i := by simp [gp]
theorem gp_left {l m : List PV} {i : Nat} (h : i < l.length) : gp (l ++ m) i = gp l i := by simp [gp, List.getD, List.getElem?_append_left h]
theorem gp_right {l m : List PV} {i j : Nat} (h : i = l.length + j) : gp (l ++ m) i = gp m j := by
  subst h; simp [gp, List.getD, List.getElem?_append_right]
theorem uL_gp {X : List Nat} {i : Nat} (h : i < X.length) : gp (uL X) i = .int .u64 (bn X i : Int) := by
  simp [uL, gp, bn, List.getD, h]
theorem gp_0 {n : Nat} {A : List Int} {B D : List Nat} : gp (tblP n A B D) 0 = .int .i64 (n : Int) := rfl
theorem gp_a {n : Nat} {A : List Int} {B D : List Nat} (h : Tb A B D) {j : Nat} (hj : j < 25) : gp (tblP n A B D) (1 + j) = .int .i64 (en A j) := by
  have := h.la
  rw [Nat.add_comm, tblP, gp_cons, gp_left (by rw [iL_len]; omega), iL_gp (by omega)]
theorem gp_b {n : Nat} {A : List Int} {B D : List Nat} (h : Tb A B D) {i : Nat} (hi : i < 5) : gp (tblP n A B D) (26 + i) = .int .u64 (bn B i : Int) := by
  have := h.la; have := h.lb
  rw [show 26 + i = (25 + i) + 1 by omega, tblP, gp_cons, gp_right (j := i) (by rw [iL_len]; omega), gp_left (by rw [uL_len]; omega), uL_gp (by omega)]
theorem gp_d {n : Nat} {A : List Int} {B D : List Nat} (h : Tb A B D) {i : Nat} (hi : i < 5) : gp (tblP n A B D) (31 + i) = .int .u64 (bn D i : Int) := by
  have := h.la; have := h.lb; have := h.ld
  rw [show 31 + i = (30 + i) + 1 by omega, tblP, gp_cons, gp_right (j := 5 + i) (by rw [iL_len]; omega), gp_right (j := i) (by rw [uL_len]; omega), uL_gp (by omega)]
theorem uL_set (w : List Nat) (j : Nat) (x : Nat) : (uL w).set j (.int .u64 (x : Int)) = uL (w.set j x) := by simp [uL, List.map_set]
theorem set_a {n : Nat} {A : List Int} {B D : List Nat} (h : Tb A B D) {j : Nat} {x : Int} (hj : j < 25) : (tblP n A B D).set (1 + j) (.int .i64 x) = tblP n (A.set j x) B D := by
  have := h.la
  rw [Nat.add_comm, tblP, List.set_cons_succ, List.set_append_left _ _ (by rw [iL_len]; omega), iL_set]; rfl
theorem set_b {n : Nat} {A : List Int} {B D : List Nat} (h : Tb A B D) {i : Nat} {x : Nat} (hi : i < 5) : (tblP n A B D).set (26 + i) (.int .u64 (x : Int)) = tblP n A (B.set i x) D := by
  have := h.la; have := h.lb
  rw [show 26 + i = (25 + i) + 1 by omega, tblP, List.set_cons_succ, List.set_append_right _ _ (by rw [iL_len]; omega), iL_len, show 25 + i - A.length = i by omega, List.set_append_left _ _ (by rw [uL_len]; omega), uL_set]; rfl
theorem set_d {n : Nat} {A : List Int} {B D : List Nat} (h : Tb A B D) {i : Nat} {x : Nat} (hi : i < 5) : (tblP n A B D).set (31 + i) (.int .u64 (x : Int)) = tblP n A B (D.set i x) := by
  have := h.la; have := h.lb; have := h.ld
  rw [show 31 + i = (30 + i) + 1 by omega, tblP, List.set_cons_succ, List.set_append_right _ _ (by rw [iL_len]; omega), iL_len, List.set_append_right _ _ (by rw [uL_len]; omega), uL_len, show 30 + i - A.length - B.length = i by omega, uL_set]; rfl
def putT (T : List Int × List Nat × List Nat) (i k s : Nat) : List Int × List Nat × List Nat := (T.1.set (i * 5 + k) (s : Int), T.2.1.set i (bn T.2.1 i ||| 2 ^ s), T.2.2.set k (bn T.2.2 k ||| 2 ^ s))
theorem Tb.seta {A : List Int} {B D : List Nat} (h : Tb A B D) {j : Nat} {x : Int} : Tb (A.set j x) B D := ⟨by rw [List.length_set]; exact h.la, h.lb, h.ld, h.b32, h.d32⟩
theorem Tb.setb {A : List Int} {B D : List Nat} (h : Tb A B D) {j x : Nat} (hj : j < 5) (hx : x < 32) : Tb A (B.set j x) D := ⟨h.la, by rw [List.length_set]; exact h.lb, h.ld, fun i hi => by
  rw [bn_set (by have := h.lb; omega)]; split
  · exact hx
  · exact h.b32 i hi, h.d32⟩
theorem Tb.setd {A : List Int} {B D : List Nat} (h : Tb A B D) {j x : Nat} (hj : j < 5) (hx : x < 32) : Tb A B (D.set j x) := ⟨h.la, h.lb, by rw [List.length_set]; exact h.ld, h.b32, fun i hi => by
  rw [bn_set (by have := h.ld; omega)]; split
  · exact hx
  · exact h.d32 i hi⟩
theorem Tb.put {A : List Int} {B D : List Nat} (h : Tb A B D) {i k s : Nat} (hi : i < 5) (hk : k < 5) (hs : s < 5) : Tb (putT (A, B, D) i k s).1 (putT (A, B, D) i k s).2.1 (putT (A, B, D) i k s).2.2 :=
  (h.seta.setb hi (or_lt _ (h.b32 i hi) s hs)).setd hk (or_lt _ (h.d32 k hk) s hs)
theorem getU_t {α : Type} {x : Int} {f : Int → Option α} : getI .u64 (.int .u64 x) f = f x := by simp [getI]
theorem put_ok (N n : Nat) {A : List Int} {B D : List Nat} (h : Tb A B D) {i k s : Nat} (hi : i < 5) (hk : k < 5) (hs : s < 5) :
    m72 N (i : Int) (k : Int) (s : Int) (tblP n A B D) = some (.tup [], tblP n (putT (A, B, D) i k s).1 (putT (A, B, D) i k s).2.1 (putT (A, B, D) i k s).2.2) := by
  have hl := tbl_len (n := n) h
  have h1 : Tb (A.set (i * 5 + k) (s : Int)) B D := h.seta
  have h2 := h1.setb hi (or_lt _ (h.b32 i hi) s hs)
  rw [m72, toNatN, toNatN, toNatN, grd_t ⟨by omega, by omega⟩, grd_t ⟨by omega, by omega⟩, grd_t (by omega), grd_t (by omega), show 1 + i * 5 + k = 1 + (i * 5 + k) by omega, set_a h (by omega), gp_b h1 hi, getU_t, grd_t (by omega), grd_t (by omega), grd_t (by omega), b_or _ (h.b32 i hi) s hs, set_b h1 hi, gp_d h2 hk, getU_t, grd_t (by omega), b_or _ (h.d32 k hk) s hs, set_d h2 hk]
  rfl
theorem take_ok (N n : Nat) {A : List Int} {B D : List Nat} (h : Tb A B D) {i k s : Nat} (hi : i < 5) (hk : k < 5) (hs : s < 5) (ha : en A (i * 5 + k) = (s : Int)) :
    m90 N (i : Int) (k : Int) (tblP n A B D) = some (.tup [], tblP n (A.set (i * 5 + k) (-1)) (B.set i (bn B i &&& (31 - 2 ^ s))) (D.set k (bn D k &&& (31 - 2 ^ s)))) := by
  have hl := tbl_len (n := n) h
  have h1 : Tb (A.set (i * 5 + k) (-1)) B D := h.seta
  have h2 := h1.setb hi (un_lt _ (h.b32 i hi) s hs)
  rw [m90, toNatN, toNatN, grd_t ⟨by omega, by omega⟩, grd_t ⟨by omega, by omega⟩, grd_t (by omega), show 1 + i * 5 + k = 1 + (i * 5 + k) by omega, gp_a h (by omega), getI_t, ha, toNatN, grd_t (by omega), grd_t (by omega), set_a h (by omega), gp_b h1 hi, getU_t, grd_t (by omega), grd_t (by omega), grd_t (by omega), b_un _ (h.b32 i hi) s hs, set_b h1 hi, gp_d h2 hk, getU_t, grd_t (by omega), b_un _ (h.d32 k hk) s hs, set_d h2 hk]
theorem list_set_set {α : Type} {l : List α} {i : Nat} {x y : α} : (l.set i x).set i y = l.set i y := by simp
theorem bn_self {w : List Nat} {j : Nat} (hj : j < w.length) : w.set j (bn w j) = w := by
  apply List.ext_getElem?
  intro i
  by_cases h : i = j
  · subst h; simp [bn, List.getD, hj]
  · rw [List.getElem?_set_ne (Ne.symm h)]
theorem en_self {w : List Int} {j : Nat} (hj : j < w.length) : w.set j (en w j) = w := by
  apply List.ext_getElem?
  intro i
  by_cases h : i = j
  · subst h; simp [en, List.getD, hj]
  · rw [List.getElem?_set_ne (Ne.symm h)]
theorem put_take (N n : Nat) {A : List Int} {B D : List Nat} (h : Tb A B D) {i k s : Nat} (hi : i < 5) (hk : k < 5) (hs : s < 5) (ha : en A (i * 5 + k) = -1) (hb : (bn B i).testBit s = false) (hd : (bn D k).testBit s = false) :
    m90 N (i : Int) (k : Int) (tblP n (putT (A, B, D) i k s).1 (putT (A, B, D) i k s).2.1 (putT (A, B, D) i k s).2.2) = some (.tup [], tblP n A B D) := by
  have la := h.la; have lb := h.lb; have ld := h.ld
  rw [take_ok N n (h.put hi hk hs) hi hk hs (by show en (A.set (i * 5 + k) (s : Int)) _ = _; rw [en_set (by omega), if_pos rfl])]
  simp only [putT, list_set_set]
  rw [bn_set (by omega), if_pos rfl, bn_set (by omega), if_pos rfl, un_or _ (h.b32 i hi) s hs hb, un_or _ (h.d32 k hk) s hs hd, bn_self (by omega), bn_self (by omega), ← ha, en_self (by omega)]
def mayB (n : Nat) (b d : Nat) : Nat := ((2 ^ n - 1) &&& (31 - b)) &&& (31 - d)
theorem all_lt : ∀ n : Nat, n < 6 → 2 ^ n - 1 < 32 := by decide
theorem may_lt {n b d : Nat} (hn : n < 6) (hb : b < 32) (hd : d < 32) : mayB n b d < 32 := diff_lt _ (diff_lt _ (all_lt n hn) _ hb) _ hd
theorem may_tst {n b d t : Nat} (hn : n < 6) (hb : b < 32) (hd : d < 32) (ht : t < 5) : (mayB n b d).testBit t = (decide (t < n) && !b.testBit t && !d.testBit t) := by
  rw [mayB, tst_diff _ (diff_lt _ (all_lt n hn) _ hb) _ hd t ht, tst_diff _ (all_lt n hn) _ hb t ht, tst_all n hn t ht]
theorem may_ok (N n : Nat) (hn : n < 6) {A : List Int} {B D : List Nat} (h : Tb A B D) {i k : Nat} (hi : i < 5) (hk : k < 5) : m89 N (i : Int) (k : Int) (tblP n A B D) = some (.int .u64 (mayB n (bn B i) (bn D k) : Int)) := by
  have hl := tbl_len (n := n) h
  rw [m89, grd_t (by omega), gp_0, getI_t, toNatN, toNatN, toNatN, grd_t (by omega), grd_t ⟨by omega, by omega⟩, grd_t (by omega), gp_b h hi, getU_t, grd_t ⟨by omega, by omega⟩, grd_t (by omega), gp_d h hk, getU_t, b_all n hn, b_diff _ (all_lt n hn) _ (h.b32 i hi), b_diff _ (diff_lt _ (all_lt n hn) _ (h.b32 i hi)) _ (h.d32 k hk)]
  rfl
abbrev T3 := List Int × List Nat × List Nat
def tP (n : Nat) (T : T3) : List PV := tblP n T.1 T.2.1 T.2.2
structure Tv (T : T3) : Prop where
  tb : Tb T.1 T.2.1 T.2.2
  a1 : ∀ j, j < 25 → -1 ≤ en T.1 j
theorem Tv.put {T : T3} (h : Tv T) {i k s : Nat} (hi : i < 5) (hk : k < 5) (hs : s < 5) : Tv (putT T i k s) := ⟨h.tb.put hi hk hs, fun j hj => by
  have la := h.tb.la
  show -1 ≤ en (T.1.set (i * 5 + k) (s : Int)) j
  rw [en_set (by omega)]; split
  · omega
  · exact h.a1 j hj⟩
def cmpl (n to : Nat) : Nat → Nat → Nat → T3 → List T3
  | 0, _, _, _ => []
  | f + 1, i, k, T =>
    if i = to then [T] else if k = n then cmpl n to f (i + 1) 0 T
    else if 0 ≤ en T.1 (i * 5 + k) then cmpl n to f i (k + 1) T
    else (bits (mayB n (bn T.2.1 i) (bn T.2.2 k))).flatMap fun s => cmpl n to f i (k + 1) (putT T i k s)
def oneP (a b : Nat) (z : Bool) (A : List Int) : List PV := [.int .i64 (a : Int), .int .i64 (b : Int), .bool z] ++ iL A
theorem putP_all : ∀ (ps l m : List PV), m.length = ps.length → putP (l ++ m) l.length ps = l ++ ps
  | [], l, m, h => by
    have : m = [] := List.eq_nil_of_length_eq_zero h
    subst this; rw [putP]
  | p :: ps, l, [], h => by simp at h
  | p :: ps, l, q :: m, h => by
    rw [putP]
    have : (l ++ q :: m).set l.length p = (l ++ [p]) ++ m := by simp
    rw [this]
    have ih := putP_all ps (l ++ [p]) m (by simpa using h)
    rw [show (l ++ [p]).length = l.length + 1 by simp] at ih
    rw [ih]; simp
theorem found_ok (N n a b : Nat) (z : Bool) (A : List Int) (T : T3) (hA : A.length = 25) (hT : Tv T) : m113 N (oneP a b z A) (tP n T) = some (.bool true, oneP a b true T.1) := by
  have hl := tbl_len (n := n) hT.tb
  have la := hT.tb.la
  have e : List.take 25 (List.drop 1 (tP n T)) = iL T.1 := by
    unfold tP tblP
    rw [List.drop_succ_cons, List.drop_zero, List.take_append_of_le_length (by rw [iL_len]; omega), List.take_of_length_le (by rw [iL_len]; omega)]
  have lo : (oneP a b z A).length = 28 := by simp [oneP, iL_len, hA]
  rw [m113, grd_t (by unfold tP; omega), e, grd_t ⟨by rw [iL_len]; exact la, by omega⟩, grd_t (by omega)]
  have p := putP_all (iL T.1) [.int .i64 (a : Int), .int .i64 (b : Int), .bool z] (iL A) (by rw [iL_len, iL_len]; omega)
  rw [show oneP a b z A = [.int .i64 (a : Int), .int .i64 (b : Int), .bool z] ++ iL A from rfl, show (3 : Nat) = [PV.int .i64 (a : Int), .int .i64 (b : Int), .bool z].length from rfl, p]
  rfl
def oneR (n a b : Nat) (z : Bool) (A : List Int) (T : T3) : List T3 → PV × List PV × List PV
  | [] => (.bool false, oneP a b z A, tP n T)
  | T' :: _ => (.bool true, oneP a b true T'.1, tP n T')
theorem one_L (N n to a b : Nat) (z : Bool) (A : List Int) (rec : Int → Int → Int → List PV → List PV → Option (PV × List PV × List PV)) (T : T3) (hT : Tv T) (i k : Nat) (hi : i < 5) (hk : k < 5) (ha : en T.1 (i * 5 + k) = -1) (g : Nat → List T3)
    (hrec : ∀ s, s < 5 → rec (i : Int) ((k + 1 : Nat) : Int) (to : Int) (oneP a b z A) (tP n (putT T i k s)) = some (oneR n a b z A (putT T i k s) (g s))) :
    ∀ (X fuel : Nat), X < 32 → X < fuel → (∀ s, s ∈ bits X → (bn T.2.1 i).testBit s = false ∧ (bn T.2.2 k).testBit s = false) →
    m88_L0 N rec (i : Int) (k : Int) (to : Int) fuel (X : Int) (oneP a b z A) (tP n T) = some (match (bits X).flatMap g with | [] => .inr (oneP a b z A, tP n T) | T' :: _ => .inl (.bool true, oneP a b true T'.1, tP n T'))
  | X, 0, _, h, _ => by omega
  | X, fuel + 1, hX, hf, hs => by
    rw [m88_L0]
    by_cases h0 : X = 0
    · subst h0
      rw [brn_nf (by simp), bits_zero]; rfl
    · obtain ⟨b1, b2, b3⟩ := bits_step X hX h0
      have h1 := hs (low X) (by rw [b1]; exact .head _)
      have hr := hrec (low X) b3
      rw [brn_nt (by omega), tz_ok N X hX h0, bnd_t, getI_t]
      unfold tP at hr ⊢
      rw [put_ok N n hT.tb hi hk b3, bnd_t]
      show getT0 (.tup []) _ = _
      rw [getT0_t, wrapN (by omega)]
      rw [show (putT (T.1, T.2.1, T.2.2) i k (low X)) = putT T i k (low X) from rfl, hr, bnd_t, b1, List.flatMap_cons]
      cases hg : g (low X) with
      | cons T' l =>
        show getB (.bool true) _ = _
        rw [getB_t, brn_t rfl]; rfl
      | nil =>
        show getB (.bool false) _ = _
        rw [getB_t, brn_f rfl]
        have pt := put_take N n hT.tb hi hk b3 ha h1.1 h1.2
        rw [show (putT (T.1, T.2.1, T.2.2) i k (low X)) = putT T i k (low X) from rfl] at pt
        show bnd' (m90 N (i : Int) (k : Int) (tblP n (putT T i k (low X)).1 (putT T i k (low X)).2.1 (putT T i k (low X)).2.2)) _ = _
        rw [pt, bnd_t]
        show getT0 (.tup []) _ = _
        rw [getT0_t, b_rest X hX h0, List.nil_append]
        exact one_L N n to a b z A rec T hT i k hi hk ha g hrec (X &&& (X - 1)) fuel (by omega) (by omega) (fun s hs' => hs s (by rw [b1]; exact .tail _ hs'))
theorem one_ok (N n to a b : Nat) (hN : 2000 ≤ N) (hn : n ≤ 5) (hto : to ≤ n) (z : Bool) (A : List Int) (hA : A.length = 25) : ∀ (f fu i k : Nat) (T : T3), Tv T → f ≤ fu → (to - i) * (n + 1) + (n - k) < f → i ≤ to → k ≤ n →
    m88 N fu (i : Int) (k : Int) (to : Int) (oneP a b z A) (tP n T) = some (oneR n a b z A T (cmpl n to f i k T))
  | 0, _, _, _, _, _, _, h, _, _ => by omega
  | f + 1, 0, _, _, _, _, h, _, _, _ => by omega
  | f + 1, fu + 1, i, k, T, hT, hfu, hf, hi, hk => by
    have hl := tbl_len (n := n) hT.tb
    rw [m88]
    unfold cmpl
    by_cases h1 : i = to
    · rw [if_pos h1, brn_et (by omega), found_ok N n a b z A T hA hT, bnd_t]
      rfl
    · rw [if_neg h1]
      have hm : (to - i) * (n + 1) = (to - (i + 1)) * (n + 1) + (n + 1) := by
        rw [show to - i = (to - (i + 1)) + 1 by omega, Nat.add_mul, Nat.one_mul]
      rw [brn_ef (by omega), grd_t (by unfold tP; omega)]
      rw [show gp (tP n T) 0 = .int .i64 (n : Int) from rfl, getI_t]
      by_cases h2 : k = n
      · rw [if_pos h2]
        have ih := one_ok N n to a b hN hn hto z A hA f fu (i + 1) 0 T hT (by omega) (by omega) (by omega) (by omega)
        rw [brn_et (by omega), wrapN (by omega), show m88 N fu ((i + 1 : Nat) : Int) 0 (to : Int) (oneP a b z A) (tP n T) = _ from ih, bnd_t]
        cases cmpl n to f (i + 1) 0 T <;> rfl
      · rw [if_neg h2, brn_ef (by omega), grd_t ⟨by omega, by omega⟩, grd_t ⟨by omega, by omega⟩, toNatN, toNatN, grd_t (by unfold tP; omega), show 1 + i * 5 + k = 1 + (i * 5 + k) by omega]
        rw [show gp (tP n T) (1 + (i * 5 + k)) = .int .i64 (en T.1 (i * 5 + k)) from gp_a hT.tb (by omega), getI_t]
        by_cases h3 : 0 ≤ en T.1 (i * 5 + k)
        · rw [if_pos h3]
          have ih := one_ok N n to a b hN hn hto z A hA f fu i (k + 1) T hT (by omega) (by omega) (by omega) (by omega)
          rw [brn_dt h3, wrapN (by omega), ih, bnd_t]
          cases cmpl n to f i (k + 1) T <;> rfl
        · rw [if_neg h3]
          have ha := hT.a1 (i * 5 + k) (by omega)
          have L := one_L N n to a b z A (m88 N fu) T hT i k (by omega) (by omega) (by omega) (fun s => cmpl n to f i (k + 1) (putT T i k s))
            (fun s h5 => one_ok N n to a b hN hn hto z A hA f fu i (k + 1) (putT T i k s) (hT.put (by omega) (by omega) h5) (by omega) (by omega) (by omega) (by omega))
            (mayB n (bn T.2.1 i) (bn T.2.2 k)) N (may_lt (by omega) (hT.tb.b32 i (by omega)) (hT.tb.d32 k (by omega))) (by have := may_lt (n := n) (by omega) (hT.tb.b32 i (by omega)) (hT.tb.d32 k (by omega)); omega)
            (fun s hs => by
              obtain ⟨s5, hs⟩ := mem_bits.1 hs
              rw [may_tst (by omega) (hT.tb.b32 i (by omega)) (hT.tb.d32 k (by omega)) s5] at hs
              simp only [Bool.and_eq_true, Bool.not_eq_true', decide_eq_true_eq] at hs
              exact ⟨hs.1.2, hs.2⟩)
          rw [brn_df (by omega)]
          rw [show m89 N (i : Int) (k : Int) (tP n T) = _ from may_ok N n (by omega) hT.tb (by omega) (by omega), bnd_t, getU_t, L, bnd_t]
          cases (bits (mayB n (bn T.2.1 i) (bn T.2.2 k))).flatMap fun s => cmpl n to f i (k + 1) (putT T i k s) <;> rfl
def dayE (n : Int) (P : List (List Int)) (r : List Int) : Nat → Nat → Int
  | 0, _ => 0
  | f + 1, k => if en r k < 0 then 2 else if n ≤ en r k then 2 else if en r k ∈ r.take k then 6 else if P.any (fun q => decide (k < q.length) && (en q k == en r k)) then 13 else dayE n P r f (k + 1)
def rowE (n w : Int) (L : List (List Int)) : Nat → Nat → Int
  | 0, _ => 0
  | f + 1, i => if ((ro L i).length : Int) ≠ w then 5 else if n < w then 5 else if dayE n (L.take i) (ro L i) (ro L i).length 0 ≠ 0 then dayE n (L.take i) (ro L i) (ro L i).length 0 else rowE n w L f (i + 1)
def chkE (n w : Int) (L : List (List Int)) : Int := if n < 1 then 1 else if 5 < n then 1 else if n < (L.length : Int) then 3 else rowE n w L L.length 0
structure Rp (P : List (List Int)) (i : Nat) (r : List Int) (k : Nat) (T : T3) : Prop where
  tv : Tv T
  b : ∀ s, s < 5 → ((bn T.2.1 i).testBit s = true ↔ (s : Int) ∈ r.take k)
  bz : ∀ j, i < j → j < 5 → bn T.2.1 j = 0
  d : ∀ d s, d < 5 → s < 5 → ((bn T.2.2 d).testBit s = true ↔ (∃ q ∈ P, d < q.length ∧ en q d = (s : Int)) ∨ (d < k ∧ en r d = (s : Int)))
  a : ∀ j d, j < 5 → d < 5 → en T.1 (j * 5 + d) = if j < i then (if d < (ro P j).length then en (ro P j) d else -1) else if j = i ∧ d < k then en r d else -1
theorem Rp.put {P : List (List Int)} {i : Nat} {r : List Int} {k : Nat} {T : T3} (h : Rp P i r k T) (hi : i < 5) (hk : k < 5) (hr : k < r.length) {s : Nat} (hs : s < 5) (he : en r k = (s : Int)) : Rp P i r (k + 1) (putT T i k s) := by
  have la := h.tv.tb.la; have lb := h.tv.tb.lb; have ld := h.tv.tb.ld
  refine ⟨h.tv.put hi hk hs, fun t ht => ?_, fun j hj h5 => ?_, fun d t hd ht => ?_, fun j d hj hd => ?_⟩
  · show (bn (T.2.1.set i (bn T.2.1 i ||| 2 ^ s)) i).testBit t = true ↔ _
    rw [bn_set (by omega), if_pos rfl, tst_or _ (h.tv.tb.b32 i hi) s hs t ht, Bool.or_eq_true, h.b t ht, decide_eq_true_eq, take_en hr, List.mem_append, List.mem_singleton, he]
    constructor
    · rintro (h1 | rfl)
      · exact .inl h1
      · exact .inr rfl
    · rintro (h1 | h1)
      · exact .inl h1
      · exact .inr (by omega)
  · show bn (T.2.1.set i (bn T.2.1 i ||| 2 ^ s)) j = 0
    rw [bn_set (by omega), if_neg (by omega)]; exact h.bz j hj h5
  · show (bn (T.2.2.set k (bn T.2.2 k ||| 2 ^ s)) d).testBit t = true ↔ _
    rw [bn_set (by omega)]
    by_cases hdk : d = k
    · subst hdk
      rw [if_pos rfl, tst_or _ (h.tv.tb.d32 d hd) s hs t ht, Bool.or_eq_true, h.d d t hd ht, decide_eq_true_eq, he]
      constructor
      · rintro ((h1 | h1) | rfl)
        · exact .inl h1
        · omega
        · exact .inr ⟨by omega, rfl⟩
      · rintro (h1 | h1)
        · exact .inl (.inl h1)
        · exact .inr (by omega)
    · rw [if_neg hdk, h.d d t hd ht]
      constructor
      · rintro (h1 | h1)
        · exact .inl h1
        · exact .inr ⟨by omega, h1.2⟩
      · rintro (h1 | h1)
        · exact .inl h1
        · exact .inr ⟨by omega, h1.2⟩
  · show en (T.1.set (i * 5 + k) (s : Int)) (j * 5 + d) = _
    rw [en_set (by omega), h.a j d hj hd]
    by_cases hx : j * 5 + d = i * 5 + k
    · have : j = i ∧ d = k := by omega
      obtain ⟨rfl, rfl⟩ := this
      rw [if_pos hx, if_neg (by omega), if_pos ⟨rfl, by omega⟩, he]
    · rw [if_neg hx]
      by_cases h1 : j < i
      · rw [if_pos h1, if_pos h1]
      · rw [if_neg h1, if_neg h1]
        by_cases h2 : j = i ∧ d < k
        · rw [if_pos h2, if_pos ⟨h2.1, by omega⟩]
        · rw [if_neg h2, if_neg (by omega)]
theorem Rp.next {P : List (List Int)} {i : Nat} {r : List Int} {T : T3} (h : Rp P i r r.length T) (hi : P.length = i) (hr : r.length ≤ 5) (r' : List Int) : Rp (P ++ [r]) (i + 1) r' 0 T := by
  refine ⟨h.tv, fun s hs => ?_, fun j hj h5 => h.bz j (by omega) h5, fun d s hd hs => ?_, fun j d hj hd => ?_⟩
  · rw [List.take_zero]
    by_cases h5 : i + 1 < 5
    · rw [h.bz (i + 1) (by omega) h5]; simp
    · have : bn T.2.1 (i + 1) = 0 := by
        have := h.tv.tb.lb
        unfold bn; rw [List.getD, List.getElem?_eq_none (by omega)]; rfl
      rw [this]; simp
  · rw [h.d d s hd hs]
    constructor
    · rintro (⟨q, hq, h1⟩ | h1)
      · exact .inl ⟨q, List.mem_append_left _ hq, h1⟩
      · exact .inl ⟨r, List.mem_append_right _ (.head _), h1⟩
    · rintro (⟨q, hq, h1⟩ | h1)
      · rcases List.mem_append.1 hq with hq | hq
        · exact .inl ⟨q, hq, h1⟩
        · obtain rfl := List.mem_singleton.1 hq
          exact .inr h1
      · omega
  · rw [h.a j d hj hd]
    by_cases h1 : j < i
    · rw [if_pos h1, if_pos (show j < i + 1 by omega)]
      have : ro (P ++ [r]) j = ro P j := by simp [ro, List.getD, List.getElem?_append_left (show j < P.length by omega)]
      rw [this]
    · rw [if_neg h1]
      by_cases h2 : j = i
      · have : ro (P ++ [r]) j = r := by
          subst h2; rw [← hi]; simp [ro, List.getD]
        rw [if_pos (show j < i + 1 by omega), this]
        by_cases h3 : d < r.length
        · rw [if_pos (show j = i ∧ d < r.length from ⟨h2, h3⟩), if_pos h3]
        · rw [if_neg (show ¬ (j = i ∧ d < r.length) by omega), if_neg h3]
      · rw [if_neg (show ¬ (j = i ∧ d < r.length) by omega), if_neg (show ¬ j < i + 1 by omega), if_neg (show ¬ (j = i + 1 ∧ d < 0) by omega)]
def outR (n : Nat) (e : Int) (T : T3) : (Int ⊕ (Int × List PV)) ⊕ List PV := if e = 0 then .inr (tP n T) else .inl (.inl e)
def T0 : T3 := (List.replicate 25 (-1), List.replicate 5 0, List.replicate 5 0)
theorem T0_rp (r : List Int) : Rp [] 0 r 0 T0 := by
  have hb : ∀ j, j < 5 → bn (List.replicate 5 0) j = 0 := by decide
  have ha : ∀ j, j < 25 → en (List.replicate 25 (-1)) j = -1 := by decide
  refine ⟨⟨⟨rfl, rfl, rfl, fun i hi => by show bn (List.replicate 5 0) i < 32; rw [hb i hi]; omega, fun i hi => by show bn (List.replicate 5 0) i < 32; rw [hb i hi]; omega⟩, fun j hj => by show -1 ≤ en (List.replicate 25 (-1)) j; rw [ha j hj]; omega⟩, fun s hs => ?_, fun j _ h5 => hb j h5, fun d s hd hs => ?_, fun j d hj hd => ?_⟩
  · show (bn (List.replicate 5 0) 0).testBit s = true ↔ _
    rw [hb 0 (by omega)]; simp
  · show (bn (List.replicate 5 0) d).testBit s = true ↔ _
    rw [hb d hd]; simp
  · show en (List.replicate 25 (-1)) (j * 5 + d) = _
    rw [ha _ (by omega), if_neg (by omega), if_neg (by omega)]
def zA (i k : Nat) : List Int := List.replicate (i * 5 + k) (-1) ++ List.replicate (25 - (i * 5 + k)) 0
theorem zA_set {i k : Nat} (h : i * 5 + k < 25) : (zA i k).set (i * 5 + k) (-1) = zA i (k + 1) := by
  unfold zA
  rw [List.set_append_right _ _ (by simp), List.length_replicate, Nat.sub_self, show 25 - (i * 5 + k) = (25 - (i * 5 + (k + 1))) + 1 by omega, List.replicate_succ, List.set_cons_zero, show i * 5 + (k + 1) = i * 5 + k + 1 by omega, List.replicate_succ']
  simp
theorem beg_L1 (N n i : Nat) (hi : i < 5) : ∀ (f k fuel : Nat), 5 - k = f → f < fuel → k ≤ 5 →
    m71_L1 N (i : Int) fuel (k : Int) (tblP n (zA i k) (List.replicate 5 0) (List.replicate 5 0)) = some (tblP n (zA i 5) (List.replicate 5 0) (List.replicate 5 0))
  | f, k, 0, _, h, _ => by omega
  | 0, k, fuel + 1, hf, _, hk => by
    have : k = 5 := by omega
    subst this
    rw [m71_L1, brn_df (by omega)]
  | f + 1, k, fuel + 1, hf, hfu, hk => by
    have hb : ∀ j, j < 5 → bn (List.replicate 5 0) j = 0 := by decide
    have tb : Tb (zA i k) (List.replicate 5 0) (List.replicate 5 0) := ⟨by simp [zA]; omega, rfl, rfl, fun i hi => by rw [hb i hi]; omega, fun i hi => by rw [hb i hi]; omega⟩
    have hl := tbl_len (n := n) tb
    rw [m71_L1, brn_dt (by omega), grd_t ⟨by omega, by omega⟩, grd_t ⟨by omega, by omega⟩, toNatN, toNatN, grd_t (by omega), wrapN (by omega), show 1 + i * 5 + k = 1 + (i * 5 + k) by omega, set_a tb (by omega), zA_set (by omega)]
    exact beg_L1 N n i hi f (k + 1) fuel (by omega) (by omega) (by omega)
theorem beg_L0 (N n : Nat) (hN : 2000 ≤ N) : ∀ (f i fuel : Nat), 5 - i = f → f < fuel → i ≤ 5 →
    m71_L0 N fuel (i : Int) (tblP n (zA i 0) (List.replicate 5 0) (List.replicate 5 0)) = some (tP n T0)
  | f, i, 0, _, h, _ => by omega
  | 0, i, fuel + 1, hf, _, hi => by
    have : i = 5 := by omega
    subst this
    rw [m71_L0, brn_df (by omega)]; rfl
  | f + 1, i, fuel + 1, hf, hfu, hi => by
    rw [m71_L0, brn_dt (by omega), show m71_L1 N (i : Int) N 0 (tblP n (zA i 0) (List.replicate 5 0) (List.replicate 5 0)) = _ from beg_L1 N n i (by omega) 5 0 N (by omega) (by omega) (by omega), bnd_t, wrapN (by omega)]
    have e : zA i 5 = zA (i + 1) 0 := by
      unfold zA
      rw [show i * 5 + 5 = (i + 1) * 5 + 0 by omega]
    rw [e]
    exact beg_L0 N n hN f (i + 1) fuel (by omega) (by omega) (by omega)
theorem begun_ok (N n : Nat) (hN : 2000 ≤ N) : m71 N (n : Int) = some (tP n T0) := by
  have := beg_L0 N n hN 5 0 N (by omega) (by omega) (by omega)
  rw [m71]
  show bnd' (m71_L0 N N ((0 : Nat) : Int) (tblP n (zA 0 0) (List.replicate 5 0) (List.replicate 5 0))) _ = _
  rw [this, bnd_t]
def opE (n : Nat) (e : Int) (T : T3) : Int ⊕ (Int × List PV) := if e = 0 then .inr (0, tP n T) else .inl e
theorem has_L (N : Nat) (s : Int) (X : List Int) (hX : X.length ≤ 1000) : ∀ (f i fuel : Nat), X.length - i = f → f < fuel → m92_L0 N s X.length (iL X) fuel (i : Int) = some (if s ∈ X.drop i then .inl (.bool true) else .inr ())
  | f, i, 0, _, h => by omega
  | f, i, fuel + 1, hf, hfu => by
    rw [m92_L0]
    by_cases h : i < X.length
    · have ih := has_L N s X hX (f - 1) (i + 1) fuel (by omega) (by omega)
      rw [brn_dt (by omega)]
      simp (disch := (try simp only [List.length_drop, iL_len, rws_len, toNatN]) <;> omega) only [↓grd_t, ↓gI_n]
      rw [drop_en h]
      by_cases e : en X i = s
      · rw [brn_et e, if_pos (by rw [e]; exact .head _)]
      · rw [brn_ef e, wrapN (by omega), ih]
        by_cases g : s ∈ X.drop (i + 1)
        · rw [if_pos g, if_pos (.tail _ g)]
        · rw [if_neg g, if_neg]
          intro h2
          rcases List.mem_cons.1 h2 with h2 | h2
          · exact e h2.symm
          · exact g h2
    · rw [brn_df (by omega), List.drop_eq_nil_of_le (by omega)]; rfl
theorem has_ok (N : Nat) (hN : 2000 ≤ N) (s : Int) (X : List Int) (hX : X.length ≤ 1000) : m92 N (rwP X) s = some (.bool (decide (s ∈ X))) := by
  have := has_L N s X hX X.length 0 N (by omega) (by omega)
  unfold rwP
  rw [m92, getL_t, show m92_L0 N s X.length (iL X) N 0 = _ from this, List.drop_zero, bnd_t]
  by_cases h : s ∈ X
  · rw [if_pos h, decide_eq_true h]
  · rw [if_neg h, decide_eq_false h]
def metB (P : List (List Int)) (k : Nat) (s : Int) : Bool := P.any fun q => decide (k < q.length) && (en q k == s)
theorem met_L (N k : Nat) (s : Int) (P : List (List Int)) (hP : P.length ≤ 1000) : ∀ (f i fuel : Nat), P.length - i = f → f < fuel → m63_L0 N (k : Int) s P.length (rwsP P) fuel (i : Int) = some (if metB (P.drop i) k s then .inl (.bool true) else .inr ())
  | f, i, 0, _, h => by omega
  | f, i, fuel + 1, hf, hfu => by
    rw [m63_L0]
    unfold metB
    by_cases h : i < P.length
    · have ih := met_L N k s P hP (f - 1) (i + 1) fuel (by omega) (by omega)
      unfold metB at ih
      rw [brn_dt (by omega), grd_t (p := 0 ≤ (i : Int) ∧ (i : Int) < ((P.length : Nat) : Int)) ⟨by omega, by omega⟩, grd_t (p := 0 < List.length (List.drop (Int.toNat (i : Int)) (rwsP P))) (by rw [List.length_drop, rws_len, toNatN]; omega), gL_n h, drop_ro h, List.any_cons]
      by_cases hk : k < (ro P i).length
      · rw [brn_dt (by omega), decide_eq_true hk, Bool.true_and]
        rw [grd_t (p := 0 ≤ (k : Int) ∧ (k : Int) < (((ro P i).length : Nat) : Int)) ⟨by omega, by omega⟩, grd_t (p := 0 < List.length (List.drop (Int.toNat (k : Int)) (iL (ro P i)))) (by rw [List.length_drop, iL_len, toNatN]; omega), gI_n hk]
        by_cases e : en (ro P i) k = s
        · rw [brn_et e, if_pos (by simp [e])]
        · rw [brn_ef e, wrapN (by omega), ih, show (en (ro P i) k == s) = false from by simpa using e, Bool.false_or]
      · rw [brn_df (by omega), decide_eq_false hk, Bool.false_and, Bool.false_or, wrapN (by omega), ih]
    · rw [brn_df (by omega), List.drop_eq_nil_of_le (by omega)]; rfl
theorem met_ok (N : Nat) (hN : 2000 ≤ N) (k : Nat) (s : Int) (P : List (List Int)) (hP : P.length ≤ 1000) : m63 N (.lst false P.length (rwsP P)) (k : Int) s = some (.bool (metB P k s)) := by
  have := met_L N k s P hP P.length 0 N (by omega) (by omega)
  rw [m63, getL_t, show m63_L0 N (k : Int) s P.length (rwsP P) N 0 = _ from this, List.drop_zero, bnd_t]
  cases metB P k s <;> rfl
def outC (e : Int) : PV ⊕ Unit := if e = 0 then .inr () else .inl (.int .i64 e)
theorem chk_L1 (N n : Nat) (hN : 2000 ≤ N) (hn : n ≤ 5) (L : List (List Int)) (hL : L.length ≤ 1000) (r : List Int) (hr : r.length ≤ 1000) (i : Nat) (hi : i < L.length) : ∀ (f k fuel : Nat), r.length - k = f → f < fuel → k ≤ r.length →
    m68_L1 N (n : Int) (r.length : Int) L.length (rwsP L) (i : Int) r.length (iL r) fuel (k : Int) = some (outC (dayE n (L.take i) r f k))
  | f, k, 0, _, h, _ => by omega
  | 0, k, fuel + 1, hf, _, hk => by
    rw [m68_L1, brn_df (by omega)]; rfl
  | f + 1, k, fuel + 1, hf, hfu, hk => by
    have h1 : k < r.length := by omega
    have lr := iL_len r
    have ll := rws_len L
    rw [m68_L1, brn_dt (by omega), dayE]
    rw [grd_t (p := 0 ≤ (k : Int) ∧ (k : Int) < ((r.length : Nat) : Int)) ⟨by omega, by omega⟩, grd_t (p := 0 < List.length (List.drop (Int.toNat (k : Int)) (iL r))) (by rw [List.length_drop, iL_len, toNatN]; omega), gI_n h1]
    rw [wrap64 (n := (n : Int) - 1) (by omega) (by omega)]
    have hb : m73 N (en r k) 0 ((n : Int) - 1) = some (.bool (decide (0 ≤ en r k) && decide (en r k < n))) := by
      rw [m73]
      by_cases h : en r k ≥ 0
      · rw [brn_dt h, decide_eq_true (show 0 ≤ en r k from h), Bool.true_and]
        congr 2
        exact decide_eq_decide.2 (by omega)
      · rw [brn_df h, decide_eq_false (show ¬ 0 ≤ en r k from h), Bool.false_and]
    rw [hb, bnd_t, getB_t]
    by_cases h2 : en r k < 0
    · rw [decide_eq_false (by omega), Bool.false_and, brn_f rfl, if_pos h2]; rfl
    · rw [if_neg h2, decide_eq_true (by omega), Bool.true_and]
      by_cases h3 : (n : Int) ≤ en r k
      · rw [brn_df (by omega), if_pos h3]; rfl
      · rw [brn_dt (by omega), if_neg h3, grd_t (by omega), grd_t (by omega), toNatN, toNatN, iL_take]
        have hk' : (r.take k).length = k := by rw [List.length_take]; omega
        have hh := has_ok N hN (en r k) (r.take k) (by omega)
        unfold rwP at hh
        rw [hk'] at hh
        rw [hh, bnd_t, getB_t]
        by_cases h4 : en r k ∈ r.take k
        · rw [brn_dt h4, if_pos h4]; rfl
        · rw [brn_df h4, if_neg h4, grd_t (by omega), grd_t (by omega), rws_take]
          have hi' : (L.take i).length = i := by rw [List.length_take]; omega
          have hm := met_ok N hN k (en r k) (L.take i) (by omega)
          rw [hi'] at hm
          rw [hm, bnd_t, getB_t]
          rw [show (L.take i).any (fun q => decide (k < q.length) && (en q k == en r k)) = metB (L.take i) k (en r k) from rfl]
          cases metB (L.take i) k (en r k) with
          | true => rfl
          | false =>
            rw [brn_f rfl, if_neg (by simp), wrapN (by omega)]
            exact chk_L1 N n hN hn L hL r hr i hi f (k + 1) fuel (by omega) (by omega) (by omega)
theorem chk_L0 (N n : Nat) (hN : 2000 ≤ N) (hn : n ≤ 5) (w : Int) (L : List (List Int)) (hL : L.length ≤ 1000) (hr20 : ∀ r ∈ L, r.length ≤ 1000) : ∀ (f i fuel : Nat), L.length - i = f → f < fuel → i ≤ L.length →
    m68_L0 N (n : Int) w L.length (rwsP L) fuel (i : Int) = some (outC (rowE n w L f i))
  | f, i, 0, _, h, _ => by omega
  | 0, i, fuel + 1, hf, _, hi => by
    rw [m68_L0, brn_df (by omega)]; rfl
  | f + 1, i, fuel + 1, hf, hfu, hi => by
    have h1 : i < L.length := by omega
    have hrl := hr20 _ (ro_mem h1)
    rw [m68_L0, brn_dt (by omega), rowE]
    simp (disch := (try simp only [List.length_drop, iL_len, rws_len, toNatN]) <;> omega) only [↓grd_t, ↓gL_n]
    by_cases h2 : ((ro L i).length : Int) = w
    · rw [brn_nf h2, if_neg (by simpa using h2)]
      by_cases h3 : (n : Int) < w
      · rw [brn_dt (by omega), if_pos h3]; rfl
      · rw [brn_df (by omega), if_neg h3]
        have e := chk_L1 N n hN hn L hL (ro L i) hrl i h1 (ro L i).length 0 N (by omega) (by omega) (by omega)
        rw [h2] at e
        by_cases h4 : dayE n (L.take i) (ro L i) (ro L i).length 0 = 0
        · rw [outC, if_pos h4] at e
          rw [show m68_L1 N (n : Int) w L.length (rwsP L) (i : Int) (ro L i).length (iL (ro L i)) N 0 = _ from e, bnd_t, if_neg (show ¬ dayE n (L.take i) (ro L i) (ro L i).length 0 ≠ 0 by simpa using h4), wrapN (by omega)]
          exact chk_L0 N n hN hn w L hL hr20 f (i + 1) fuel (by omega) (by omega) (by omega)
        · rw [outC, if_neg h4] at e
          rw [show m68_L1 N (n : Int) w L.length (rwsP L) (i : Int) (ro L i).length (iL (ro L i)) N 0 = _ from e, bnd_t, if_pos h4, outC, if_neg h4]
    · rw [brn_nt h2, if_pos h2]; rfl
theorem checked_ok (N : Nat) (hN : 2000 ≤ N) (x w : Int) (L : List (List Int)) (hL : L.length ≤ 1000) (hr : ∀ r ∈ L, r.length ≤ 1000) : m68 N x (.lst false L.length (rwsP L)) w = some (.int .i64 (chkE x w L)) := by
  have hb : m73 N x 1 5 = some (.bool (decide (1 ≤ x) && decide (x ≤ 5))) := by
    rw [m73]
    by_cases h : x ≥ 1
    · rw [brn_dt h, decide_eq_true (show 1 ≤ x from h), Bool.true_and]
    · rw [brn_df h, decide_eq_false (show ¬ 1 ≤ x from h), Bool.false_and]
  rw [m68, getL_t, hb, bnd_t, getB_t]
  unfold chkE
  by_cases h1 : x < 1
  · rw [decide_eq_false (by omega), Bool.false_and, brn_f rfl, if_pos h1]
  · rw [if_neg h1, decide_eq_true (by omega), Bool.true_and]
    by_cases h2 : 5 < x
    · rw [brn_df (by omega), if_pos h2]
    · rw [brn_dt (by omega), if_neg h2]
      by_cases h3 : x < (L.length : Int)
      · rw [brn_dt (by omega), if_pos h3]
      · obtain ⟨n, rfl⟩ : ∃ n : Nat, x = (n : Int) := ⟨x.toNat, by omega⟩
        have e := chk_L0 N n hN (by omega) w L hL hr L.length 0 N (by omega) (by omega) (by omega)
        rw [brn_df (by omega), if_neg h3, show m68_L0 N (n : Int) w L.length (rwsP L) N 0 = _ from e, bnd_t]
        unfold outC
        by_cases h4 : rowE n w L L.length 0 = 0
        · rw [if_pos h4, h4]
        · rw [if_neg h4]
def ext (n : Nat) : Nat → List Nat → List (List Nat)
  | 0, l => [l]
  | f + 1, l => (List.range n).flatMap fun s => if s ∈ l then [] else ext n f (l ++ [s])
def nL (l : List Nat) : List Int := l.map fun (s : Nat) => (s : Int)
def gn (l : List Nat) (d : Nat) : Nat := l.getD d 0
def fitB (P : List (List Int)) (l : List Nat) : Nat → Nat → Bool
  | 0, _ => true
  | f + 1, d => !metB P d (gn l d : Nat) && fitB P l f (d + 1)
def fitn (n : Nat) (P : List (List Int)) : List (List Nat) := (ext n n []).filter fun l => fitB P l n 0
theorem nL_len (l : List Nat) : (nL l).length = l.length := by simp [nL]
theorem nL_en {l : List Nat} {d : Nat} (h : d < l.length) : en (nL l) d = (gn l d : Int) := by
  simp [nL, en, gn, List.getD, h]
theorem gn_app1 {l m : List Nat} {d : Nat} (h : d < l.length) : gn (l ++ m) d = gn l d := by
  simp [gn, List.getD, List.getElem?_append_left h]
theorem gn_app2 {l : List Nat} {s : Nat} : gn (l ++ [s]) l.length = s := by simp [gn, List.getD]
theorem ext_get {n : Nat} : ∀ {f : Nat} {l x : List Nat}, x ∈ ext n f l → x.length = l.length + f ∧ (∀ d, d < l.length → gn x d = gn l d)
  | 0, l, x, h => by
    obtain rfl := List.mem_singleton.1 h
    exact ⟨rfl, fun _ _ => rfl⟩
  | f + 1, l, x, h => by
    rw [ext, List.mem_flatMap] at h
    obtain ⟨s, hs, h⟩ := h
    by_cases g : s ∈ l
    · rw [if_pos g] at h; cases h
    · rw [if_neg g] at h
      obtain ⟨h1, h2⟩ := ext_get h
      rw [List.length_append, List.length_singleton] at h1 h2
      exact ⟨by omega, fun d hd => by rw [h2 d (by omega), gn_app1 hd]⟩
theorem ext_lt {n : Nat} : ∀ {f : Nat} {l x : List Nat}, (∀ s ∈ l, s < n) → x ∈ ext n f l → ∀ s ∈ x, s < n
  | 0, l, x, hl, h => by
    obtain rfl := List.mem_singleton.1 h
    exact hl
  | f + 1, l, x, hl, h => by
    rw [ext, List.mem_flatMap] at h
    obtain ⟨s, hs, h⟩ := h
    by_cases g : s ∈ l
    · rw [if_pos g] at h; cases h
    · rw [if_neg g] at h
      refine ext_lt (fun t ht => ?_) h
      rcases List.mem_append.1 ht with ht | ht
      · exact hl t ht
      · obtain rfl := List.mem_singleton.1 ht
        exact List.mem_range.1 hs
theorem flen_le {α β : Type} {b : Nat} {g : α → List β} : ∀ (L : List α), (∀ x ∈ L, (g x).length ≤ b) → (L.flatMap g).length ≤ L.length * b
  | [], _ => by simp
  | x :: L, h => by
    have h1 := h x (.head _)
    have ih := flen_le L fun y hy => h y (.tail _ hy)
    rw [List.flatMap_cons, List.length_append, List.length_cons, Nat.add_mul, Nat.one_mul]; omega
theorem ext_card {n : Nat} : ∀ (f : Nat) (l : List Nat), (ext n f l).length ≤ n ^ f
  | 0, l => by simp [ext]
  | f + 1, l => by
    have := flen_le (b := n ^ f) (g := fun s => if s ∈ l then [] else ext n f (l ++ [s])) (List.range n) (fun s _ => by
      by_cases g : s ∈ l
      · simp only [if_pos g]; simp
      · simp only [if_neg g]; exact ext_card f _)
    rw [List.length_range] at this
    rw [ext, Nat.pow_succ, Nat.mul_comm]; exact this
theorem pow5 {n f : Nat} (hn : n ≤ 5) (hf : f ≤ 5) : n ^ f ≤ 3125 := by
  have h : ∀ n : Nat, n < 6 → ∀ f : Nat, f < 6 → n ^ f ≤ 3125 := by decide
  exact h n (by omega) f (by omega)
theorem fm_range {α : Type} {n : Nat} {h : Nat → List α} (hz : ∀ s, n ≤ s → h s = []) : ∀ m, n ≤ m → (List.range m).flatMap h = (List.range n).flatMap h
  | 0, hm => by have : n = 0 := by omega
                subst this; rfl
  | m + 1, hm => by
    by_cases e : n = m + 1
    · rw [e]
    · rw [List.range_succ, List.flatMap_append, fm_range hz m (by omega)]
      simp [hz m (by omega)]
theorem fm_filter {α β : Type} {q : α → Bool} {g : α → List β} : ∀ L : List α, (L.filter q).flatMap g = L.flatMap fun s => if q s then g s else []
  | [] => rfl
  | x :: L => by
    rw [List.filter_cons, List.flatMap_cons]
    cases q x with
    | true => rw [if_pos rfl, if_pos rfl, List.flatMap_cons, fm_filter L]
    | false => rw [if_neg (by simp), if_neg (by simp), List.nil_append, fm_filter L]
theorem filter_fm {α β : Type} {p : β → Bool} {g : α → List β} : ∀ L : List α, (L.flatMap g).filter p = L.flatMap fun s => (g s).filter p
  | [] => rfl
  | x :: L => by rw [List.flatMap_cons, List.flatMap_cons, List.filter_append, filter_fm L]
theorem fm_congr {α β : Type} {g h : α → List β} : ∀ {L : List α}, (∀ x ∈ L, g x = h x) → L.flatMap g = L.flatMap h
  | [], _ => rfl
  | x :: L, hh => by rw [List.flatMap_cons, List.flatMap_cons, hh x (.head _), fm_congr fun y hy => hh y (.tail _ hy)]
theorem filter_congr' {α : Type} {p q : α → Bool} : ∀ {L : List α}, (∀ x ∈ L, p x = q x) → L.filter p = L.filter q
  | [], _ => rfl
  | x :: L, h => by rw [List.filter_cons, List.filter_cons, h x (.head _), filter_congr' fun y hy => h y (.tail _ hy)]
theorem Rp.congr {P : List (List Int)} {i k : Nat} {r r' : List Int} {T : T3} (h : Rp P i r k T) (h1 : r.take k = r'.take k) (h2 : ∀ d, d < k → en r d = en r' d) : Rp P i r' k T := by
  refine ⟨h.tv, fun s hs => by rw [← h1]; exact h.b s hs, h.bz, fun d s hd hs => ?_, fun j d hj hd => ?_⟩
  · rw [h.d d s hd hs]
    constructor
    · rintro (h3 | h3)
      · exact .inl h3
      · exact .inr ⟨h3.1, by rw [← h2 d h3.1]; exact h3.2⟩
    · rintro (h3 | h3)
      · exact .inl h3
      · exact .inr ⟨h3.1, by rw [h2 d h3.1]; exact h3.2⟩
  · rw [h.a j d hj hd]
    by_cases h3 : j < i
    · rw [if_pos h3, if_pos h3]
    · rw [if_neg h3, if_neg h3]
      by_cases h4 : j = i ∧ d < k
      · rw [if_pos h4, if_pos h4, h2 d h4.2]
      · rw [if_neg h4, if_neg h4]
def rowOf (n p : Nat) (T : T3) : List Int := (T.1.drop (p * 5)).take n
theorem en_at {X : List Int} {a d : Nat} : en (X.drop a) d = en X (a + d) := by simp [en, List.getD]
theorem list_en {X Y : List Int} (hl : X.length = Y.length) (h : ∀ d, d < X.length → en X d = en Y d) : X = Y := by
  apply List.ext_getElem hl
  intro d h1 h2
  have := h d h1
  simpa [en, List.getD, h1, h2] using this
theorem rowOf_eq {n p : Nat} (hn : n ≤ 5) (hp : p < 5) {T : T3} (hT : Tv T) {r : List Int} (hr : r.length = n) (h : ∀ d, d < n → en T.1 (p * 5 + d) = en r d) : rowOf n p T = r := by
  have la := hT.tb.la
  refine list_en ?_ fun d hd => ?_
  · simp only [rowOf, List.length_take, List.length_drop]; omega
  · simp only [rowOf, List.length_take, List.length_drop] at hd
    have e : en (rowOf n p T) d = en (T.1.drop (p * 5)) d := by
      unfold rowOf en
      simp only [List.getD]
      rw [List.getElem?_take, if_pos (by omega)]
    rw [e, en_at]; exact h d (by omega)
theorem row_cmpl (n : Nat) (hn : n ≤ 5) (P : List (List Int)) (p : Nat) (hp : p < n) : ∀ (f : Nat) (l : List Nat) (T : T3) (F : Nat), l.length + f = n → (∀ s ∈ l, s < n) → Rp P p (nL l) l.length T → f + 2 ≤ F →
    (cmpl n (p + 1) F p l.length T).map (rowOf n p) = ((ext n f l).filter fun x => fitB P x f l.length).map nL
  | 0, l, T, F, hl, hs, hT, hF => by
    obtain ⟨F, rfl⟩ : ∃ G, F = G + 2 := ⟨F - 2, by omega⟩
    rw [cmpl, if_neg (by omega), if_pos (by omega), cmpl, if_pos rfl]
    have : rowOf n p T = nL l := rowOf_eq hn (by omega) hT.tv (by rw [nL_len]; omega) fun d hd => by
      rw [hT.a p d (by omega) (by omega), if_neg (by omega), if_pos ⟨rfl, by omega⟩]
    simp [ext, fitB, this]
  | f + 1, l, T, F, hl, hs, hT, hF => by
    obtain ⟨F, rfl⟩ : ∃ G, F = G + 1 := ⟨F - 1, by omega⟩
    have ha : en T.1 (p * 5 + l.length) = -1 := by
      rw [hT.a p l.length (by omega) (by omega), if_neg (by omega), if_neg (by omega)]
    rw [cmpl, if_neg (by omega), if_neg (by omega), if_neg (by omega), ext]
    unfold bits
    rw [fm_filter, List.map_flatMap, filter_fm, List.map_flatMap]
    have hz : ∀ s, s < 5 → (mayB n (bn T.2.1 p) (bn T.2.2 l.length)).testBit s = (decide (s < n) && !decide (s ∈ l) && !metB P l.length (s : Nat)) := fun s h5 => by
      rw [may_tst (by omega) (hT.tv.tb.b32 p (by omega)) (hT.tv.tb.d32 l.length (by omega)) h5]
      have hb : (bn T.2.1 p).testBit s = decide (s ∈ l) := by
        rw [Bool.eq_iff_iff, hT.b s h5, List.take_of_length_le (by rw [nL_len]; omega), decide_eq_true_eq]
        unfold nL
        rw [List.mem_map]
        constructor
        · rintro ⟨t, ht, e⟩
          have : t = s := by omega
          exact this ▸ ht
        · exact fun h => ⟨s, h, rfl⟩
      have hd : (bn T.2.2 l.length).testBit s = metB P l.length (s : Nat) := by
        rw [Bool.eq_iff_iff, hT.d l.length s (by omega) h5]
        unfold metB
        rw [List.any_eq_true]
        constructor
        · rintro (⟨q, hq, h5, h6⟩ | h5)
          · exact ⟨q, hq, by simp [h5, h6]⟩
          · omega
        · rintro ⟨q, hq, h5⟩
          simp only [Bool.and_eq_true, decide_eq_true_eq, beq_iff_eq] at h5
          exact .inl ⟨q, hq, h5⟩
      rw [hb, hd]
    have e1 : (List.range 5).flatMap (fun s => List.map (rowOf n p) (if (mayB n (bn T.2.1 p) (bn T.2.2 l.length)).testBit s = true then cmpl n (p + 1) F p (l.length + 1) (putT T p l.length s) else [])) =
        (List.range 5).flatMap (fun s => if (decide (s < n) && !decide (s ∈ l) && !metB P l.length (s : Nat)) = true then ((ext n f (l ++ [s])).filter fun x => fitB P x f (l.length + 1)).map nL else []) := by
      refine fm_congr fun s hs5 => ?_
      have h5 := List.mem_range.1 hs5
      rw [hz s h5]
      by_cases g : (decide (s < n) && !decide (s ∈ l) && !metB P l.length (s : Nat)) = true
      · rw [if_pos g, if_pos g]
        simp only [Bool.and_eq_true, decide_eq_true_eq] at g
        have hl1 : (l ++ [s]).length = l.length + 1 := by simp
        have hR : Rp P p (nL (l ++ [s])) l.length T := hT.congr (by rw [show nL (l ++ [s]) = nL l ++ [(s : Int)] by simp [nL], List.take_append_of_le_length (by rw [nL_len]; omega)]) fun d hd => by rw [nL_en hd, nL_en (by omega), gn_app1 hd]
        have hR2 := hR.put (by omega) (by omega) (by rw [nL_len]; omega) h5 (by rw [nL_en (by omega), gn_app2])
        rw [← hl1] at hR2
        have ih := row_cmpl n hn P p hp f (l ++ [s]) (putT T p l.length s) F (by omega) (fun t ht => by
          rcases List.mem_append.1 ht with ht | ht
          · exact hs t ht
          · obtain rfl := List.mem_singleton.1 ht
            exact g.1.1) hR2 (by omega)
        rw [hl1] at ih
        exact ih
      · rw [if_neg g, if_neg g]; rfl
    rw [e1, fm_range (n := n) (fun s h => by rw [decide_eq_false (by omega)]; rfl) 5 hn]
    refine fm_congr fun s hs' => ?_
    have hsn := List.mem_range.1 hs'
    rw [decide_eq_true hsn, Bool.true_and]
    by_cases g : s ∈ l
    · rw [if_pos g, decide_eq_true g]; rfl
    · rw [if_neg g, decide_eq_false g, Bool.not_false, Bool.true_and]
      have hx : ∀ x ∈ ext n f (l ++ [s]), gn x l.length = s := fun x hx => by
        rw [(ext_get hx).2 l.length (by simp), gn_app2]
      have hq : (ext n f (l ++ [s])).filter (fun x => fitB P x (f + 1) l.length) = (ext n f (l ++ [s])).filter (fun x => !metB P l.length (s : Nat) && fitB P x f (l.length + 1)) := filter_congr' fun x h => by
        show (!metB P l.length (gn x l.length : Nat) && _) = _
        rw [hx x h]
      rw [hq]
      cases metB P l.length (s : Nat) with
      | true => simp
      | false => simp
theorem rows_L0 (N n : Nat) (hN : 5000 ≤ N) (hn : n ≤ 5) (f : Nat) (hf5 : f < 5) (l : List Nat) (hl : l.length + (f + 1) = n) (rec : Int → PV → Option PV)
    (hrec : ∀ s, rec (n : Int) (rwP (nL (l ++ [s]))) = some (.lst false (ext n f (l ++ [s])).length (rwsP ((ext n f (l ++ [s])).map nL)))) : ∀ (g s fuel : Nat) (A : List (List Nat)), n - s = g → g < fuel → A.length ≤ 10000 * s →
    m91_L0 N rec (n : Int) l.length (iL (nL l)) fuel A.length (s : Int) (rwsP (A.map nL)) = some ((A ++ (List.range' s (n - s)).flatMap fun s => if s ∈ l then [] else ext n f (l ++ [s])).length, rwsP ((A ++ (List.range' s (n - s)).flatMap fun s => if s ∈ l then [] else ext n f (l ++ [s])).map nL))
  | g, s, 0, _, _, h, _ => by omega
  | g, s, fuel + 1, A, hg, hfu, hA => by
    rw [m91_L0]
    by_cases h : s < n
    · have hh := has_ok N (by omega) (s : Int) (nL l) (by rw [nL_len]; omega)
      unfold rwP at hh
      rw [nL_len] at hh
      have hm : decide ((s : Int) ∈ nL l) = decide (s ∈ l) := by
        refine decide_eq_decide.2 ?_
        unfold nL
        rw [List.mem_map]
        constructor
        · rintro ⟨t, ht, e⟩
          have : t = s := by omega
          exact this ▸ ht
        · exact fun h => ⟨s, h, rfl⟩
      rw [brn_dt (by omega), hh, bnd_t, getB_t, hm, range'_step h, List.flatMap_cons]
      by_cases g1 : s ∈ l
      · rw [brn_dt g1, if_pos g1, List.nil_append, wrapN (by omega)]
        exact rows_L0 N n hN hn f hf5 l hl rec hrec (g - 1) (s + 1) fuel A (by omega) (by omega) (by omega)
      · rw [brn_df g1, if_neg g1, grd_t (by rw [iL_len, nL_len]), iL_app]
        have e : (nL l ++ [(s : Int)]) = nL (l ++ [s]) := by simp [nL]
        have hc := ext_card (n := n) f (l ++ [s])
        have hp := pow5 (f := f) hn (by omega)
        have e3 : (PV.lst false (l.length + 1) (iL (nL (l ++ [s])))) = rwP (nL (l ++ [s])) := by
          unfold rwP; rw [nL_len, List.length_append, List.length_singleton]
        have ih := rows_L0 N n hN hn f hf5 l hl rec hrec (g - 1) (s + 1) fuel (A ++ ext n f (l ++ [s])) (by omega) (by omega) (by rw [List.length_append]; omega)
        have e4 : rwsP (A.map nL) ++ rwsP ((ext n f (l ++ [s])).map nL) = rwsP ((A ++ ext n f (l ++ [s])).map nL) := by simp [rwsP]
        rw [List.length_append, List.append_assoc] at ih
        rw [e, e3, hrec]
        have fin : (grd (l.length ≤ 1099511627776) <| grd ((l.length + 1) ≤ 1099511627776) <|
          bnd' (some (PV.lst false (ext n f (l ++ [s])).length (rwsP ((ext n f (l ++ [s])).map nL)))) fun p1548 =>
          getL p1548 fun n1551 c1552 =>
          grd (List.length c1552 = n1551) <|
          grd ((A.length + n1551) ≤ 1099511627776) <|
          grd (List.length (rwsP (A.map nL)) = A.length) <|
          m91_L0 N rec (n : Int) l.length (iL (nL l)) fuel (A.length + n1551) (IntKind.i64.wrap ((s : Int) + 1)) (rwsP (A.map nL) ++ c1552)) = some ((A ++ (ext n f (l ++ [s]) ++ (List.range' (s + 1) (n - (s + 1))).flatMap fun s => if s ∈ l then [] else ext n f (l ++ [s]))).length, rwsP ((A ++ (ext n f (l ++ [s]) ++ (List.range' (s + 1) (n - (s + 1))).flatMap fun s => if s ∈ l then [] else ext n f (l ++ [s]))).map nL)) := by
          rw [grd_t (by omega), grd_t (by omega), bnd_t, getL_t, grd_t (by rw [rws_len, List.length_map]), grd_t (by omega), grd_t (by rw [rws_len, List.length_map]), wrapN (by omega), e4, ih]
        by_cases g2 : 0 < l.length
        · rw [brn_dt g2]; exact fin
        · rw [brn_df g2]; exact fin
    · rw [brn_df (by omega), show n - s = 0 by omega]
      simp
theorem rows_ok (N n : Nat) (hN : 5000 ≤ N) (hn : n ≤ 5) : ∀ (f fu : Nat) (l : List Nat), l.length + f = n → f < fu → m91 N fu (n : Int) (rwP (nL l)) = some (.lst false (ext n f l).length (rwsP ((ext n f l).map nL)))
  | f, 0, _, _, h => by omega
  | 0, fu + 1, l, hl, _ => by
    have hll := nL_len l
    rw [m91]
    unfold rwP
    rw [getL_t, brn_et (by omega)]
    rfl
  | f + 1, fu + 1, l, hl, hf => by
    have hll := nL_len l
    rw [m91]
    unfold rwP
    rw [getL_t, brn_ef (by omega), hll]
    have e := rows_L0 N n hN hn f (by omega) l hl (m91 N fu) (fun s => rows_ok N n hN hn f fu (l ++ [s]) (by simp; omega) (by omega)) n 0 N [] (by omega) (by omega) (by simp)
    rw [show m91_L0 N (m91 N fu) (n : Int) l.length (iL (nL l)) N 0 0 [] = _ from e, bnd_t, List.nil_append, Nat.sub_zero, ← List.range_eq_range']
    show grd _ _ = _
    rw [grd_t (by rw [rws_len, List.length_map])]
    rfl
end Go.Proofs.YtcaecfofgdogbaaDoor
namespace Go.Proofs.YtcaecfofgdogbaaDoor
open Go.V
set_option linter.unusedSectionVars false
set_option maxRecDepth 100000
def pc (x : Nat) : Nat := (bits x).length
def subs : Nat → Nat → List Nat
  | 1, 0 => [0]
  | 1, 1 => [1]
  | 2, 0 => [0]
  | 2, 1 => [1, 2]
  | 2, 2 => [3]
  | 3, 0 => [0]
  | 3, 1 => [1, 2, 4]
  | 3, 2 => [3, 5, 6]
  | 3, 3 => [7]
  | 4, 0 => [0]
  | 4, 1 => [1, 2, 4, 8]
  | 4, 2 => [3, 5, 6, 9, 10, 12]
  | 4, 3 => [7, 11, 13, 14]
  | 4, 4 => [15]
  | 5, 0 => [0]
  | 5, 1 => [1, 2, 4, 8, 16]
  | 5, 2 => [3, 5, 6, 9, 10, 12, 17, 18, 20, 24]
  | 5, 3 => [7, 11, 13, 14, 19, 21, 22, 25, 26, 28]
  | 5, 4 => [15, 23, 27, 29, 30]
  | 5, 5 => [31]
  | _, _ => []
def prm (n : Nat) : List Nat → Nat → Nat
  | [], _ => 1
  | M :: D, u => ((List.range n).map fun s => bif (M ||| u).testBit s then 0 else prm n D (u ||| 2 ^ s)).sum
def fac : Nat → Nat
  | 0 => 1
  | n + 1 => (n + 1) * fac n
def okC (M : Nat) : Nat → List Nat → Bool
  | _, [] => true
  | s, c :: l => (bif M.testBit s then !(c == 0) else true) && okC M (s + 1) l
def sbC (M : Nat) : Nat → List Nat → List Nat
  | _, [] => []
  | s, c :: l => (bif M.testBit s then c - 1 else c) :: sbC M (s + 1) l
def hallB (n k : Nat) : Nat → List Nat → List Nat → Bool
  | 0, cols, D => !(cols.all (· == 0)) || Nat.ble (fac (n - k)) (prm n D 0)
  | d + 1, cols, D => (subs n k).all fun M => !(okC M 0 cols) || hallB n k d (sbC M 0 cols) (D ++ [M])
theorem hall1_0 : hallB 1 0 1 (List.replicate 1 0) [] = true := by decide +kernel
theorem hall2_0 : hallB 2 0 2 (List.replicate 2 0) [] = true := by decide +kernel
theorem hall2_1 : hallB 2 1 2 (List.replicate 2 1) [] = true := by decide +kernel
theorem hall3_0 : hallB 3 0 3 (List.replicate 3 0) [] = true := by decide +kernel
theorem hall3_1 : hallB 3 1 3 (List.replicate 3 1) [] = true := by decide +kernel
theorem hall3_2 : hallB 3 2 3 (List.replicate 3 2) [] = true := by decide +kernel
theorem hall4_0 : hallB 4 0 4 (List.replicate 4 0) [] = true := by decide +kernel
theorem hall4_1 : hallB 4 1 4 (List.replicate 4 1) [] = true := by decide +kernel
theorem hall4_2 : hallB 4 2 4 (List.replicate 4 2) [] = true := by decide +kernel
theorem hall4_3 : hallB 4 3 4 (List.replicate 4 3) [] = true := by decide +kernel
theorem hall5_0 : hallB 5 0 5 (List.replicate 5 0) [] = true := by decide +kernel
theorem hall5_1 : hallB 5 1 5 (List.replicate 5 1) [] = true := by decide +kernel
theorem hall5_2 : hallB 5 2 5 (List.replicate 5 2) [] = true := by decide +kernel
theorem hall5_3 : hallB 5 3 5 (List.replicate 5 3) [] = true := by decide +kernel
theorem hall5_4 : hallB 5 4 5 (List.replicate 5 4) [] = true := by decide +kernel
end Go.Proofs.YtcaecfofgdogbaaDoor
namespace Go.Proofs.YtcaecfofgdogbaaDoor
open Go.V
set_option linter.unusedSectionVars false
def cc (D : List Nat) (s : Nat) : Nat := (D.filter fun M => M.testBit s).length
theorem cc_cons (M : Nat) (D : List Nat) (s : Nat) : cc (M :: D) s = (if M.testBit s then 1 else 0) + cc D s := by
  unfold cc
  rw [List.filter_cons]
  split <;> simp <;> omega
theorem okC_ok (M : Nat) : ∀ (l : List Nat) (s0 : Nat), (∀ j, j < l.length → M.testBit (s0 + j) = true → gn l j ≠ 0) → okC M s0 l = true
  | [], _, _ => rfl
  | c :: l, s0, h => by
    have h0 := h 0 (by simp)
    have ih := okC_ok M l (s0 + 1) fun j hj ht => by
      have := h (j + 1) (by simpa using hj) (by rw [show s0 + (j + 1) = s0 + 1 + j by omega]; exact ht)
      simpa [gn] using this
    rw [okC, ih, Bool.and_true]
    cases hb : M.testBit s0 with
    | false => rfl
    | true =>
      have := h0 (by simpa using hb)
      simp [gn] at this
      simp [this]
theorem sbC_len (M : Nat) : ∀ (l : List Nat) (s0 : Nat), (sbC M s0 l).length = l.length
  | [], _ => rfl
  | c :: l, s0 => by rw [sbC, List.length_cons, sbC_len M l, List.length_cons]
theorem sbC_get (M : Nat) : ∀ (l : List Nat) (s0 j : Nat), j < l.length → gn (sbC M s0 l) j = if M.testBit (s0 + j) then gn l j - 1 else gn l j
  | [], _, j, h => by simp at h
  | c :: l, s0, 0, _ => by
    rw [sbC]
    show (bif M.testBit s0 then c - 1 else c) = if M.testBit s0 = true then c - 1 else c
    cases M.testBit s0 <;> rfl
  | c :: l, s0, j + 1, h => by
    have ih := sbC_get M l (s0 + 1) j (by simpa using h)
    rw [sbC, show s0 + (j + 1) = s0 + 1 + j by omega]
    simpa [gn] using ih
theorem hall_sound (n k : Nat) : ∀ (d : Nat) (cols acc rest : List Nat), rest.length = d → (∀ M ∈ rest, M ∈ subs n k) → (∀ s, s < cols.length → gn cols s = cc rest s) → hallB n k d cols acc = true → fac (n - k) ≤ prm n (acc ++ rest) 0
  | 0, cols, acc, rest, hr, _, hc, hh => by
    have : rest = [] := List.eq_nil_of_length_eq_zero hr
    subst this
    rw [hallB] at hh
    have hz : cols.all (· == 0) = true := by
      rw [List.all_eq_true]
      intro c hcm
      obtain ⟨j, hj, rfl⟩ := List.getElem_of_mem hcm
      have := hc j hj
      simp [gn, cc, List.getD, hj] at this
      simp [this]
    rw [hz, Bool.not_true, Bool.false_or, Nat.ble_eq] at hh
    simpa using hh
  | d + 1, cols, acc, [], hr, _, _, _ => by simp at hr
  | d + 1, cols, acc, M :: rest, hr, hs, hc, hh => by
    rw [hallB, List.all_eq_true] at hh
    have h1 := hh M (hs M (.head _))
    have h2 : okC M 0 cols = true := okC_ok M cols 0 fun j hj ht => by
      rw [Nat.zero_add] at ht
      rw [hc j hj, cc_cons, if_pos ht]; omega
    rw [h2, Bool.not_true, Bool.false_or] at h1
    have := hall_sound n k d (sbC M 0 cols) (acc ++ [M]) rest (by simpa using hr) (fun M' h => hs M' (.tail _ h)) (fun s h => by
      rw [sbC_len] at h
      rw [sbC_get M cols 0 s h, Nat.zero_add, hc s h, cc_cons]
      split <;> omega) h1
    rwa [List.append_assoc, List.singleton_append] at this
theorem hall_all {n k : Nat} (hn : n ≤ 5) (hk : k < n) : hallB n k n (List.replicate n k) [] = true := by
  rcases (show n = 1 ∨ n = 2 ∨ n = 3 ∨ n = 4 ∨ n = 5 by omega) with rfl | rfl | rfl | rfl | rfl
  · obtain rfl : k = 0 := by omega
    exact hall1_0
  · rcases (show k = 0 ∨ k = 1 by omega) with rfl | rfl
    · exact hall2_0
    · exact hall2_1
  · rcases (show k = 0 ∨ k = 1 ∨ k = 2 by omega) with rfl | rfl | rfl
    · exact hall3_0
    · exact hall3_1
    · exact hall3_2
  · rcases (show k = 0 ∨ k = 1 ∨ k = 2 ∨ k = 3 by omega) with rfl | rfl | rfl | rfl
    · exact hall4_0
    · exact hall4_1
    · exact hall4_2
    · exact hall4_3
  · rcases (show k = 0 ∨ k = 1 ∨ k = 2 ∨ k = 3 ∨ k = 4 by omega) with rfl | rfl | rfl | rfl | rfl
    · exact hall5_0
    · exact hall5_1
    · exact hall5_2
    · exact hall5_3
    · exact hall5_4
def stp (D x : List Nat) : List Nat := List.zipWith (fun M s => M ||| 2 ^ s) D x
inductive Vp (n : Nat) : List (List Nat) → List Nat → Prop
  | nil : Vp n [] (List.replicate n 0)
  | snoc (X : List (List Nat)) (D x : List Nat) (h : Vp n X D) (hx : x ∈ ext n n []) (hf : fitB (X.map nL) x n 0 = true) : Vp n (X ++ [x]) (stp D x)
theorem pc_or : ∀ M : Nat, M < 32 → ∀ s : Nat, s < 5 → M.testBit s = false → pc (M ||| 2 ^ s) = pc M + 1 := by decide +kernel
theorem or_ltn : ∀ n : Nat, n < 6 → ∀ M : Nat, M < 2 ^ n → ∀ s : Nat, s < n → M ||| 2 ^ s < 2 ^ n := by decide +kernel
theorem subs_mem : ∀ n : Nat, n < 6 → 1 ≤ n → ∀ M : Nat, M < 2 ^ n → M ∈ subs n (pc M) := by decide +kernel
theorem pow_lt : ∀ n : Nat, n < 6 → 2 ^ n ≤ 32 := by decide
theorem ext_cnt : ∀ n : Nat, n < 6 → ∀ x ∈ ext n n [], ∀ s : Nat, s < n → x.count s = 1 := by decide +kernel
theorem gn_stp {D x : List Nat} {d : Nat} (h1 : d < D.length) (h2 : d < x.length) : gn (stp D x) d = gn D d ||| 2 ^ gn x d := by
  simp [gn, stp, List.getD, List.getElem?_zipWith, h1, h2]
theorem cc_stp (s : Nat) (hs : s < 5) : ∀ (D x : List Nat), D.length = x.length → (∀ d, d < D.length → gn D d < 32 ∧ gn x d < 5 ∧ (gn D d).testBit (gn x d) = false) → cc (stp D x) s = cc D s + x.count s
  | [], [], _, _ => rfl
  | [], _ :: _, h, _ => by simp at h
  | _ :: _, [], h, _ => by simp at h
  | M :: D, t :: x, h, hd => by
    have h0 := hd 0 (by simp)
    simp only [gn, List.getD_cons_zero] at h0
    have ih := cc_stp s hs D x (by simpa using h) fun d hd' => by
      have := hd (d + 1) (by simpa using hd')
      simpa [gn] using this
    show cc ((M ||| 2 ^ t) :: stp D x) s = _
    rw [cc_cons, cc_cons, ih, tst_or M h0.1 t h0.2.1 s hs, List.count_cons]
    by_cases e : s = t
    · subst e
      rw [h0.2.2]
      simp; omega
    · have : (t == s) = false := by simpa using fun h => e h.symm
      rw [this, decide_eq_false e]
      simp; omega
theorem metB_app (P : List (List Int)) (r : List Int) (d : Nat) (s : Int) : metB (P ++ [r]) d s = (metB P d s || (decide (d < r.length) && (en r d == s))) := by
  simp [metB, List.any_append]
theorem fitB_get {P : List (List Int)} {x : List Nat} : ∀ {f d : Nat}, fitB P x f d = true → ∀ j, d ≤ j → j < d + f → metB P j (gn x j : Nat) = false
  | 0, d, _, j, h1, h2 => by omega
  | f + 1, d, h, j, h1, h2 => by
    rw [fitB, Bool.and_eq_true, Bool.not_eq_true'] at h
    by_cases e : j = d
    · subst e; exact h.1
    · exact fitB_get h.2 j (by omega) (by omega)
structure Vd (n : Nat) (X : List (List Nat)) (D : List Nat) : Prop where
  len : D.length = n
  lt : ∀ d, d < n → gn D d < 2 ^ n
  pc : ∀ d, d < n → pc (gn D d) = X.length
  cc : ∀ s, s < n → cc D s = X.length
  met : ∀ d s, d < n → s < 5 → (gn D d).testBit s = metB (X.map nL) d (s : Nat)
theorem gn_mem {l : List Nat} {d : Nat} (h : d < l.length) : gn l d ∈ l := by simp [gn, List.getD, h]
theorem Vp.vd {n : Nat} (hn : n ≤ 5) {X : List (List Nat)} {D : List Nat} (h : Vp n X D) : Vd n X D := by
  induction h with
  | nil =>
    have hz : ∀ d, gn (List.replicate n 0) d = 0 := fun d => by simp [gn, List.getD, List.getElem?_replicate]; split <;> rfl
    refine ⟨by simp, fun d _ => by rw [hz]; exact Nat.two_pow_pos n, fun d _ => by rw [hz]; decide, fun s _ => ?_, fun d s _ _ => by rw [hz]; simp [metB]⟩
    simp [Go.Proofs.YtcaecfofgdogbaaDoor.cc]
  | snoc X D x h hx hf ih =>
    obtain ⟨e1, _⟩ := ext_get hx
    have hxl : x.length = n := by simpa using e1
    have hlt := ext_lt (n := n) (by simp) hx
    have h2 := pow_lt n (by omega)
    have hnot : ∀ d, d < n → (gn D d).testBit (gn x d) = false := fun d hd => by
      have := hlt _ (gn_mem (l := x) (d := d) (by omega))
      rw [ih.met d _ hd (by omega)]
      exact fitB_get hf d (by omega) (by omega)
    have hg : ∀ d, d < n → gn (stp D x) d = gn D d ||| 2 ^ gn x d := fun d hd => gn_stp (by rw [ih.len]; exact hd) (by omega)
    have hx5 : ∀ d, d < n → gn x d < n := fun d hd => hlt _ (gn_mem (by omega))
    refine ⟨by simp [stp, ih.len, hxl], fun d hd => ?_, fun d hd => ?_, fun s hs => ?_, fun d s hd hs => ?_⟩
    · rw [hg d hd]; exact or_ltn n (by omega) _ (ih.lt d hd) _ (hx5 d hd)
    · have := ih.lt d hd
      have := hx5 d hd
      rw [hg d hd, pc_or _ (by omega) _ (by omega) (hnot d hd), ih.pc d hd]; simp
    · rw [cc_stp s (by omega) D x (by rw [ih.len, hxl]) fun d hd => by
        rw [ih.len] at hd
        have := ih.lt d hd
        have := hx5 d hd
        exact ⟨by omega, by omega, hnot d hd⟩, ih.cc s hs, ext_cnt n (by omega) x hx s hs]
      simp
    · have := ih.lt d hd
      have hx' := hx5 d hd
      rw [hg d hd, tst_or _ (by omega) _ (by omega) s hs, ih.met d s hd hs, List.map_append, List.map_singleton, metB_app, nL_len, decide_eq_true (show d < x.length by omega), Bool.true_and, nL_en (by omega)]
      congr 1
      rw [Bool.eq_iff_iff, decide_eq_true_eq, beq_iff_eq]
      constructor
      · intro h; omega
      · intro h; omega
theorem sum_len {α β : Type} {g : α → List β} : ∀ L : List α, (L.flatMap g).length = (L.map fun x => (g x).length).sum
  | [] => rfl
  | x :: L => by rw [List.flatMap_cons, List.length_append, List.map_cons, List.sum_cons, sum_len L]
theorem prm_ok (n : Nat) (hn : n ≤ 5) (X : List (List Nat)) (D : List Nat) (hD : Vd n X D) : ∀ (f : Nat) (l : List Nat) (u : Nat), l.length + f = n → u < 32 → (∀ s ∈ l, s < n) → (∀ s, s < 5 → u.testBit s = decide (s ∈ l)) →
    ((ext n f l).filter fun x => fitB (X.map nL) x f l.length).length = prm n (D.drop l.length) u
  | 0, l, u, hl, _, _, _ => by
    rw [List.drop_eq_nil_of_le (by rw [hD.len]; omega)]
    simp [ext, fitB, prm]
  | f + 1, l, u, hl, hu, hs, hb => by
    have hd : l.length < n := by omega
    have ed : D.drop l.length = gn D l.length :: D.drop (l.length + 1) := by
      rw [List.drop_eq_getElem_cons (by rw [hD.len]; exact hd)]
      simp [gn, List.getD, hD.len, hd]
    have h2 := pow_lt n (by omega)
    have hM := hD.lt l.length hd
    rw [ext, filter_fm, sum_len, ed, prm]
    congr 1
    refine List.map_congr_left fun s hs' => ?_
    have hsn := List.mem_range.1 hs'
    rw [Nat.testBit_or, hb s (by omega), hD.met l.length s hd (by omega)]
    by_cases g : s ∈ l
    · rw [if_pos g, decide_eq_true g, Bool.or_true]; rfl
    · rw [if_neg g, decide_eq_false g, Bool.or_false]
      have hx : ∀ x ∈ ext n f (l ++ [s]), gn x l.length = s := fun x hx => by
        rw [(ext_get hx).2 l.length (by simp), gn_app2]
      have hq : (ext n f (l ++ [s])).filter (fun x => fitB (X.map nL) x (f + 1) l.length) = (ext n f (l ++ [s])).filter (fun x => !metB (X.map nL) l.length (s : Nat) && fitB (X.map nL) x f (l.length + 1)) := filter_congr' fun x h => by
        show (!metB (X.map nL) l.length (gn x l.length : Nat) && _) = _
        rw [hx x h]
      rw [hq]
      cases metB (X.map nL) l.length (s : Nat) with
      | true => simp
      | false =>
        have hl1 : (l ++ [s]).length = l.length + 1 := by simp
        have ih := prm_ok n hn X D hD f (l ++ [s]) (u ||| 2 ^ s) (by omega) (or_lt u hu s (by omega)) (fun t ht => by
          rcases List.mem_append.1 ht with ht | ht
          · exact hs t ht
          · obtain rfl := List.mem_singleton.1 ht
            exact hsn) (fun t ht => by
          rw [tst_or u hu s (by omega) t ht, hb t ht, Bool.eq_iff_iff]
          simp)
        rw [hl1] at ih
        simpa using ih
theorem fit_many {n : Nat} (hn : n ≤ 5) {X : List (List Nat)} {D : List Nat} (h : Vp n X D) (hk : X.length < n) : fac (n - X.length) ≤ (fitn n (X.map nL)).length := by
  have hD := h.vd hn
  have e := prm_ok n hn X D hD n [] 0 (by simp) (by omega) (by simp) (fun s _ => by simp)
  rw [show (fitn n (X.map nL)).length = _ from e, List.length_nil, List.drop_zero]
  have := hall_sound n X.length n (List.replicate n X.length) [] D hD.len (fun M hM => by
    obtain ⟨d, hd, rfl⟩ := List.getElem_of_mem hM
    rw [hD.len] at hd
    have e2 : D[d]'(by rw [hD.len]; exact hd) = gn D d := by simp [gn, List.getD, hD.len, hd]
    rw [e2, ← hD.pc d hd]
    exact subs_mem n (by omega) (by omega) _ (hD.lt d hd)) (fun s hs => by
    rw [List.length_replicate] at hs
    rw [hD.cc s hs]
    simp [gn, List.getD, hs]) (hall_all hn hk)
  simpa using this
theorem ext_mem {n : Nat} : ∀ (f : Nat) (l x : List Nat), x.length = l.length + f → x.take l.length = l → (∀ s ∈ x, s < n) → (∀ k, k < x.length → gn x k ∉ x.take k) → x ∈ ext n f l
  | 0, l, x, hl, ht, _, _ => by
    rw [List.take_of_length_le (by omega)] at ht
    rw [ht]; exact .head _
  | f + 1, l, x, hl, ht, hs, hd => by
    have h1 : l.length < x.length := by omega
    rw [ext, List.mem_flatMap]
    refine ⟨gn x l.length, List.mem_range.2 (hs _ (gn_mem h1)), ?_⟩
    have h2 := hd l.length h1
    rw [ht] at h2
    rw [if_neg h2]
    refine ext_mem f _ x (by simp; omega) ?_ hs hd
    rw [List.length_append, List.length_singleton, List.take_succ_eq_append_getElem h1, ht]
    congr 2
    simp [gn, List.getD, h1]
theorem dayE_zero {n : Int} {P : List (List Int)} {r : List Int} : ∀ {f k : Nat}, dayE n P r f k = 0 → ∀ j, k ≤ j → j < k + f → 0 ≤ en r j ∧ en r j < n ∧ en r j ∉ r.take j ∧ metB P j (en r j) = false
  | 0, k, _, j, h1, h2 => by omega
  | f + 1, k, h, j, h1, h2 => by
    rw [dayE] at h
    split at h
    · cases h
    · rename_i a1
      split at h
      · cases h
      · rename_i a2
        split at h
        · cases h
        · rename_i a3
          split at h
          · cases h
          · rename_i a4
            by_cases e : j = k
            · subst e
              exact ⟨by omega, by omega, a3, by unfold metB; simpa using a4⟩
            · exact dayE_zero h j (by omega) (by omega)
theorem nL_toNat {r : List Int} (h : ∀ k, k < r.length → 0 ≤ en r k) : nL (r.map Int.toNat) = r := by
  refine list_en (by simp [nL]) fun d hd => ?_
  have hd' : d < r.length := by simpa [nL] using hd
  have := h d hd'
  rw [nL_en (by simpa using hd')]
  have e : gn (r.map Int.toNat) d = (en r d).toNat := by simp [gn, en, List.getD, hd']
  rw [e]; omega
theorem rowE_zero {n : Nat} {w : Int} {L : List (List Int)} : ∀ {f i : Nat}, rowE n w L f i = 0 → ∀ j, i ≤ j → j < i + f → ((ro L j).length : Int) = w ∧ w ≤ n ∧ dayE n (L.take j) (ro L j) (ro L j).length 0 = 0
  | 0, i, _, j, h1, h2 => by omega
  | f + 1, i, h, j, h1, h2 => by
    rw [rowE] at h
    split at h
    · cases h
    · rename_i a1
      split at h
      · cases h
      · rename_i a2
        split at h
        · rename_i a3; exact absurd h a3
        · rename_i a3
          by_cases e : j = i
          · subst e
            exact ⟨by omega, by omega, by omega⟩
          · exact rowE_zero h j (by omega) (by omega)
theorem fitB_mk {P : List (List Int)} {x : List Nat} : ∀ {f d : Nat}, (∀ j, d ≤ j → j < d + f → metB P j (gn x j : Nat) = false) → fitB P x f d = true
  | 0, _, _ => rfl
  | f + 1, d, h => by
    rw [fitB, h d (by omega) (by omega), fitB_mk fun j h1 h2 => h j (by omega) (by omega)]; rfl
theorem plan_vp {n : Nat} {L : List (List Int)} (h : ∀ j, j < L.length → ((ro L j).length : Int) = n ∧ dayE n (L.take j) (ro L j) (ro L j).length 0 = 0) : ∀ i, i ≤ L.length → ∃ X D, Vp n X D ∧ X.map nL = L.take i
  | 0, _ => ⟨[], _, .nil, by simp⟩
  | i + 1, hi => by
    obtain ⟨X, D, h1, h2⟩ := plan_vp h i (by omega)
    obtain ⟨a1, a2⟩ := h i (by omega)
    have hz := fun j (hj : j < (ro L i).length) => dayE_zero a2 j (by omega) (by omega)
    have en' : nL ((ro L i).map Int.toNat) = ro L i := nL_toNat fun k hk => (hz k hk).1
    have ge : ∀ k, k < (ro L i).length → gn ((ro L i).map Int.toNat) k = (en (ro L i) k).toNat := fun k hk => by simp [gn, en, List.getD, hk]
    refine ⟨X ++ [(ro L i).map Int.toNat], _, .snoc X D _ h1 ?_ ?_, ?_⟩
    · refine ext_mem n [] _ (by simp; omega) rfl (fun s hs => ?_) (fun k hk => ?_)
      · obtain ⟨k, hk, rfl⟩ := List.getElem_of_mem hs
        have hk' : k < (ro L i).length := by simpa using hk
        have := hz k hk'
        have e := ge k hk'
        simp only [gn, List.getD, hk, List.getElem?_eq_getElem, Option.getD_some] at e
        rw [e]; omega
      · have hk' : k < (ro L i).length := by simpa using hk
        have hzk := hz k hk'
        rw [ge k hk']
        intro hm
        apply hzk.2.2.1
        rw [← List.map_take, List.mem_map] at hm
        obtain ⟨y, hy, e⟩ := hm
        obtain ⟨q, hq, rfl⟩ := List.getElem_of_mem hy
        have hq2 : q < (ro L i).length := by
          rw [List.length_take] at hq; omega
        have := (hz q hq2).1
        have eq : ((ro L i).take k)[q] = en (ro L i) q := by simp [en, List.getD, hq2]
        rw [eq] at e
        have : en (ro L i) q = en (ro L i) k := by omega
        rw [← this, ← eq]
        exact List.getElem_mem hq
    · refine fitB_mk fun j _ hj => ?_
      have hj' : j < (ro L i).length := by omega
      have := hz j hj'
      rw [ge j hj', h2]
      rw [show (((en (ro L i) j).toNat : Nat) : Int) = en (ro L i) j by omega]
      exact this.2.2.2
    · rw [List.map_append, h2, List.map_singleton, en', ← take_ro (by omega)]
theorem chkE_zero {x w : Int} {L : List (List Int)} (h : chkE x w L = 0) : 1 ≤ x ∧ x ≤ 5 ∧ (L.length : Int) ≤ x ∧ rowE x w L L.length 0 = 0 := by
  unfold chkE at h
  split at h
  · cases h
  · split at h
    · cases h
    · split at h
      · cases h
      · exact ⟨by omega, by omega, by omega, h⟩
theorem plan_ok {n : Nat} {L : List (List Int)} (h : chkE n n L = 0) : ∃ X D, Vp n X D ∧ X.map nL = L := by
  obtain ⟨h1, h2, h3, h4⟩ := chkE_zero h
  obtain ⟨X, D, e1, e2⟩ := plan_vp (n := n) (L := L) (fun j hj => by
    have := rowE_zero h4 j (by omega) (by omega)
    exact ⟨this.1, this.2.2⟩) L.length (by omega)
  exact ⟨X, D, e1, by rw [e2, List.take_length]⟩
theorem row_fit {n : Nat} (hn : n ≤ 5) {L : List (List Int)} (hp : L.length < n) {T : T3} (hT : ∀ r', Rp L L.length r' 0 T) (F : Nat) (hF : n + 2 ≤ F) : (cmpl n (L.length + 1) F L.length 0 T).map (rowOf n L.length) = (fitn n L).map nL :=
  row_cmpl n hn L L.length hp n [] T F (by simp) (by simp) (hT _) (by omega)
def rowsE (n : Nat) (A : List Int) : List (List Int) := (List.range n).map fun j => (A.drop (j * 5)).take n
theorem rows_L (N n : Nat) (hN : 5000 ≤ N) (hn1 : 1 ≤ n) (hn : n ≤ 5) (A : List Int) (hA : A.length = 25) : ∀ (f i fuel : Nat), n - i = f → f < fuel → i ≤ n →
    m65_L0 N (n : Int) (iL A) fuel i (i : Int) (rwsP ((List.range i).map fun j => (A.drop (j * 5)).take n)) = some (n, rwsP (rowsE n A))
  | f, i, 0, _, h, _ => by omega
  | 0, i, fuel + 1, hf, _, hi => by
    have : i = n := by omega
    subst this
    rw [m65_L0, brn_df (by omega)]; rfl
  | f + 1, i, fuel + 1, hf, hfu, hi => by
    have e1 : List.take n (List.drop (i * 5) (iL A)) = iL ((A.drop (i * 5)).take n) := by simp [iL, List.map_drop, List.map_take]
    have hl : ((A.drop (i * 5)).take n).length = n := by rw [List.length_take, List.length_drop]; omega
    have c : m56 N (.lst false n (iL ((A.drop (i * 5)).take n))) = some (rwP ((A.drop (i * 5)).take n)) := by
      rw [m56, getL_t, grd_t (by omega), grd_t (by rw [iL_len]; exact hl), grd_t (by omega)]
      unfold rwP; rw [hl]
    have ih := rows_L N n hN hn1 hn A hA f (i + 1) fuel (by omega) (by omega) (by omega)
    have e2 : rwsP ((List.range i).map fun j => (A.drop (j * 5)).take n) ++ [rwP ((A.drop (i * 5)).take n)] = rwsP ((List.range (i + 1)).map fun j => (A.drop (j * 5)).take n) := by
      rw [rws_app, List.range_succ, List.map_append]; rfl
    rw [m65_L0, brn_dt (by omega), grd_t ⟨by omega, by omega⟩, grd_t ⟨by omega, by omega⟩, toNatN, toNatN, e1, c, bnd_t]
    show getL (.lst false _ _) _ = _
    rw [getL_t, grd_t (by omega), grd_t (by rw [rws_len]; simp), wrapN (by omega)]
    show m65_L0 N (n : Int) (iL A) fuel (i + 1) ((i + 1 : Nat) : Int) (rwsP ((List.range i).map fun j => (A.drop (j * 5)).take n) ++ [rwP ((A.drop (i * 5)).take n)]) = _
    rw [e2, ih]
theorem getA_t {α : Type} {c : List PV} {f : List PV → Option α} : getA (.agg c) f = f c := rfl
theorem rows_ok' (N n : Nat) (hN : 5000 ≤ N) (hn1 : 1 ≤ n) (hn : n ≤ 5) (A : List Int) (hA : A.length = 25) : m65 N (.agg (iL A)) (n : Int) = some (.lst false n (rwsP (rowsE n A))) := by
  have := rows_L N n hN hn1 hn A hA n 0 N (by omega) (by omega) (by omega)
  rw [m65, getA_t, show m65_L0 N (n : Int) (iL A) N 0 0 [] = _ from this, bnd_t]
  show grd _ _ = _
  rw [grd_t (by rw [rws_len]; simp [rowsE])]
theorem oneP_A (a b : Nat) (z : Bool) (A : List Int) (hA : A.length = 25) : List.take 25 (List.drop 3 (oneP a b z A)) = iL A := by
  have : List.drop 3 (oneP a b z A) = iL A := rfl
  rw [this, List.take_of_length_le (by rw [iL_len]; omega)]
theorem search_one (N n : Nat) (hN : 5000 ≤ N) (a b : Nat) (A : List Int) (hA : A.length = 25) (T : T3) (R : List T3) (h : m88 N N (a : Int) 0 (b : Int) (oneP a b false A) (tP n T) = some (oneR n a b false A T R)) :
    m64 N (tP n T) (oneP a b false A) = some (.tup [], (oneR n a b false A T R).2.2, (oneR n a b false A T R).2.1) := by
  rw [m64, m112, grd_t (by simp [oneP]), show gp (oneP a b false A) 0 = .int .i64 (a : Int) from rfl, getI_t, grd_t (by simp [oneP]), show gp (oneP a b false A) 1 = .int .i64 (b : Int) from rfl, getI_t, bnd_t, getT2_t, getI_t, getI_t, h, bnd_t]
  cases R <;> rfl
theorem fit_cons {n : Nat} (hn : n ≤ 5) {L : List (List Int)} (h : chkE n n L = 0) (hp : L.length < n) : ∃ y l, fitn n L = y :: l := by
  obtain ⟨X, D, h1, rfl⟩ := plan_ok h
  have hm := fit_many hn h1 (by simpa using hp)
  have hf : ∀ m, 1 ≤ fac m := fun m => by
    induction m with
    | zero => exact Nat.le_refl _
    | succ m ih => rw [fac]; exact Nat.le_trans ih (Nat.le_mul_of_pos_left _ (by omega))
  have h0 := hf (n - X.length)
  cases e : fitn n (X.map nL) with
  | nil => rw [e] at hm; simp at hm; omega
  | cons y l => exact ⟨y, l, rfl⟩
theorem idx_L (N : Nat) (s : Int) (X : List Int) (hX : X.length ≤ 1000) : ∀ (f i fuel : Nat), X.length - i = f → f < fuel → ∃ o, m86_L0 N s X.length (iL X) fuel (i : Int) = some o ∧ (s ∈ X.drop i → ∃ j : Nat, o = .inl (.int .i64 (j : Int))) ∧ (s ∉ X.drop i → o = .inr ())
  | f, i, 0, _, h => by omega
  | f, i, fuel + 1, hf, hfu => by
    rw [m86_L0]
    by_cases h : i < X.length
    · obtain ⟨o, o1, o2, o3⟩ := idx_L N s X hX (f - 1) (i + 1) fuel (by omega) (by omega)
      rw [brn_dt (by omega), grd_t ⟨by omega, by omega⟩, toNatN, grd_t (by rw [List.length_drop, iL_len]; omega), iL_gp h, getI_t, drop_en h]
      by_cases e : s = en X i
      · rw [brn_et e]
        exact ⟨_, rfl, fun _ => ⟨i, rfl⟩, fun g => absurd (by rw [← e]; exact .head _) g⟩
      · rw [brn_ef e, wrapN (by omega)]
        refine ⟨o, o1, fun g => o2 ?_, fun g => o3 fun g2 => g (.tail _ g2)⟩
        rcases List.mem_cons.1 g with g | g
        · exact absurd g e
        · exact g
    · rw [brn_df (by omega), List.drop_eq_nil_of_le (by omega)]
      exact ⟨_, rfl, fun g => absurd g (by simp), fun _ => rfl⟩
theorem cont_ok (N : Nat) (hN : 2000 ≤ N) (s : Int) (X : List Int) (hX : X.length ≤ 1000) : m57 N (rwP X) s = some (.bool (decide (s ∈ X))) := by
  obtain ⟨o, o1, o2, o3⟩ := idx_L N s X hX X.length 0 N (by omega) (by omega)
  rw [List.drop_zero] at o2 o3
  unfold rwP
  rw [m57, getL_t, m86, getL_t, show m86_L0 N s X.length (iL X) N 0 = _ from o1, bnd_t]
  by_cases h : s ∈ X
  · obtain ⟨j, rfl⟩ := o2 h
    show bnd' (some (PV.int .i64 (j : Int))) _ = _
    rw [bnd_t, getI_t, decide_eq_true h, decide_eq_true (show (j : Int) ≥ 0 by omega)]
  · rw [o3 h, decide_eq_false h]; rfl
theorem nL_mem {s : Nat} {l : List Nat} : decide ((s : Int) ∈ nL l) = decide (s ∈ l) := by
  refine decide_eq_decide.2 ?_
  unfold nL
  rw [List.mem_map]
  constructor
  · rintro ⟨t, ht, e⟩
    have : t = s := by omega
    exact this ▸ ht
  · exact fun h => ⟨s, h, rfl⟩
theorem ext_dis : ∀ n : Nat, n < 6 → ∀ x ∈ ext n n [], ∀ k : Nat, k < n → gn x k ∉ x.take k := by decide +kernel
theorem mem_nL {s : Nat} {l : List Nat} : (s : Int) ∈ nL l ↔ s ∈ l := by
  have := @nL_mem s l
  exact ⟨fun h => by simpa [h] using this, fun h => by simpa [h] using this⟩
theorem dayE_mk {n : Int} {P : List (List Int)} {r : List Int} : ∀ {f k : Nat}, (∀ j, k ≤ j → j < k + f → 0 ≤ en r j ∧ en r j < n ∧ en r j ∉ r.take j ∧ metB P j (en r j) = false) → dayE n P r f k = 0
  | 0, k, _ => rfl
  | f + 1, k, h => by
    obtain ⟨h1, h2, h3, h4⟩ := h k (by omega) (by omega)
    unfold metB at h4
    rw [dayE, if_neg (by omega), if_neg (by omega), if_neg h3, if_neg (by simpa using h4)]
    exact dayE_mk fun j g1 g2 => h j (by omega) (by omega)
theorem rowE_mk {n : Nat} {L : List (List Int)} : ∀ {f i : Nat}, (∀ j, i ≤ j → j < i + f → (ro L j).length = n ∧ dayE n (L.take j) (ro L j) (ro L j).length 0 = 0) → rowE n n L f i = 0
  | 0, i, _ => rfl
  | f + 1, i, h => by
    obtain ⟨h1, h2⟩ := h i (by omega) (by omega)
    rw [rowE, if_neg (by omega), if_neg (by omega), if_neg (by rw [h2]; simp)]
    exact rowE_mk fun j g1 g2 => h j (by omega) (by omega)
theorem vp_rows {n : Nat} (hn : n ≤ 5) {X : List (List Nat)} {D : List Nat} (h : Vp n X D) : ∀ j, j < X.length → (ro (X.map nL) j).length = n ∧ dayE n ((X.map nL).take j) (ro (X.map nL) j) (ro (X.map nL) j).length 0 = 0 := by
  induction h with
  | nil => intro j hj; simp at hj
  | snoc X D x h hx hf ih =>
    intro j hj
    rw [List.map_append, List.map_singleton]
    by_cases e : j < X.length
    · have e1 : ro (X.map nL ++ [nL x]) j = ro (X.map nL) j := by
        unfold ro; rw [List.getD, List.getElem?_append_left (by simpa using e)]; rfl
      rw [e1, List.take_append_of_le_length (by simp; omega)]
      exact ih j e
    · have ej : j = (X.map nL).length := by simp at hj ⊢; omega
      have e1 : ro (X.map nL ++ [nL x]) j = nL x := by subst ej; simp [ro]
      have hl := (ext_get hx).1
      have hlt := ext_lt (fun s hs => absurd hs (by simp)) hx
      simp at hl
      rw [e1, List.take_append_of_le_length (by omega), ej, List.take_length, nL_len]
      refine ⟨hl, dayE_mk fun k _ hk => ?_⟩
      have hk' : k < x.length := by omega
      have hd := ext_dis n (by omega) x hx k (by omega)
      have hm := hlt _ (gn_mem hk')
      rw [nL_en hk']
      refine ⟨by omega, by omega, ?_, fitB_get hf k (by omega) (by omega)⟩
      rw [show (nL x).take k = nL (x.take k) by simp [nL], mem_nL]
      exact hd
theorem vp_chk {n : Nat} (hn1 : 1 ≤ n) (hn : n ≤ 5) {X : List (List Nat)} {D : List Nat} (h : Vp n X D) (hX : X.length ≤ n) : chkE n n (X.map nL) = 0 := by
  unfold chkE
  rw [if_neg (by omega), if_neg (by omega), if_neg (by simp; omega)]
  exact rowE_mk fun j _ hj => vp_rows hn h j (by simpa using hj)
theorem vp_len {n : Nat} {X : List (List Nat)} {D : List Nat} (h : Vp n X D) : ∀ q ∈ X.map nL, q.length = n := by
  induction h with
  | nil => intro q hq; simp at hq
  | snoc X D x h hx hf ih =>
    intro q hq
    rw [List.map_append, List.mem_append] at hq
    rcases hq with hq | hq
    · exact ih q hq
    · simp at hq; subst hq
      rw [nL_len]; simpa using (ext_get hx).1
theorem met_nL (X : List (List Nat)) (k s : Nat) : metB (X.map nL) k (s : Nat) = X.any fun q => decide (k < q.length) && (gn q k == s) := by
  induction X with
  | nil => rfl
  | cons q X ih =>
    unfold metB at ih ⊢
    rw [List.map_cons, List.any_cons, ih, List.any_cons, nL_len]
    congr 1
    by_cases h : k < q.length
    · rw [nL_en h]
      congr 1
      by_cases g : gn q k = s
      · rw [g]; simp
      · rw [beq_eq_false_iff_ne.2 g, beq_eq_false_iff_ne.2 (by omega)]
    · rw [decide_eq_false h]; rfl
theorem nd_lt {to i n : Nat} (h : i < to) : (to - (i + 1)) * (n + 1) + n < (to - i) * (n + 1) := by
  obtain ⟨a, rfl⟩ : ∃ a, to = i + 1 + a := ⟨to - (i + 1), by omega⟩
  rw [show i + 1 + a - (i + 1) = a by omega, show i + 1 + a - i = a + 1 by omega, Nat.add_mul, Nat.one_mul]; omega
theorem cmpl_fuel (n to : Nat) : ∀ (f f' i k : Nat) (T : T3), (to - i) * (n + 1) + (n - k) < f → (to - i) * (n + 1) + (n - k) < f' → i ≤ to → k ≤ n → cmpl n to f i k T = cmpl n to f' i k T
  | 0, _, _, _, _, h, _, _, _ => by omega
  | _ + 1, 0, _, _, _, _, h, _, _ => by omega
  | f + 1, f' + 1, i, k, T, h, h', hi, hk => by
    rw [cmpl, cmpl]
    by_cases e : i = to
    · rw [if_pos e, if_pos e]
    · have hh := nd_lt (n := n) (show i < to by omega)
      rw [if_neg e, if_neg e]
      by_cases e2 : k = n
      · rw [if_pos e2, if_pos e2, cmpl_fuel n to f f' (i + 1) 0 T (by omega) (by omega) (by omega) (by omega)]
      · rw [if_neg e2, if_neg e2, cmpl_fuel n to f f' i (k + 1) T (by omega) (by omega) hi (by omega)]
        by_cases e3 : 0 ≤ en T.1 (i * 5 + k)
        · rw [if_pos e3, if_pos e3]
        · rw [if_neg e3, if_neg e3]
          exact fm_congr fun s _ => cmpl_fuel n to f f' i (k + 1) _ (by omega) (by omega) hi (by omega)
theorem cmpl_in {n to f i k : Nat} {T : T3} (h1 : i ≠ to) (h2 : k ≠ n) : cmpl n to (f + 1) i k T = if 0 ≤ en T.1 (i * 5 + k) then cmpl n to f i (k + 1) T else (bits (mayB n (bn T.2.1 i) (bn T.2.2 k))).flatMap fun s => cmpl n to f i (k + 1) (putT T i k s) := by
  rw [cmpl, if_neg h1, if_neg h2]
theorem cmpl_split (n p : Nat) (hp : p < n) : ∀ (f k : Nat) (T : T3), k + f = n → ∀ F F' G, (n - p) * (n + 1) + (n - k) < F → (p + 1 - p) * (n + 1) + (n - k) < F' → (n - (p + 1)) * (n + 1) + n < G →
    cmpl n n F p k T = (cmpl n (p + 1) F' p k T).flatMap fun T' => cmpl n n G (p + 1) 0 T'
  | 0, k, T, hk, F, F', G, hF, hF', hG => by
    obtain ⟨F, rfl⟩ : ∃ x, F = x + 1 := ⟨F - 1, by omega⟩
    obtain ⟨F', rfl⟩ : ∃ x, F' = x + 2 := ⟨F' - 2, by rw [show p + 1 - p = 1 by omega] at hF'; omega⟩
    have hh := nd_lt (n := n) hp
    rw [cmpl, if_neg (by omega), if_pos (by omega), cmpl, if_neg (by omega), if_pos (by omega), cmpl, if_pos rfl, List.flatMap_singleton]
    exact cmpl_fuel n n F G (p + 1) 0 T (by omega) (by omega) (by omega) (by omega)
  | f + 1, k, T, hk, F, F', G, hF, hF', hG => by
    obtain ⟨F, rfl⟩ : ∃ x, F = x + 1 := ⟨F - 1, by omega⟩
    obtain ⟨F', rfl⟩ : ∃ x, F' = x + 1 := ⟨F' - 1, by omega⟩
    have ih := fun T => cmpl_split n p hp f (k + 1) T (by omega) F F' G (by omega) (by omega) hG
    rw [cmpl_in (by omega) (by omega), cmpl_in (by omega) (by omega)]
    by_cases e3 : 0 ≤ en T.1 (p * 5 + k)
    · rw [if_pos e3, if_pos e3, ih]
    · rw [if_neg e3, if_neg e3, List.flatMap_assoc]
      exact fm_congr fun s _ => ih _
theorem row_mem (n : Nat) (hn : n ≤ 5) (P : List (List Int)) (p : Nat) (hp : p < n) (hP : P.length = p) : ∀ (f : Nat) (l : List Nat) (T : T3) (F : Nat), l.length + f = n → Rp P p (nL l) l.length T → f + 2 ≤ F → ∀ T' ∈ cmpl n (p + 1) F p l.length T, ∃ x : List Nat, x.length = n ∧ rowOf n p T' = nL x ∧ ∀ r', Rp (P ++ [nL x]) (p + 1) r' 0 T'
  | 0, l, T, F, hl, hT, hF => by
    obtain ⟨F, rfl⟩ : ∃ G, F = G + 2 := ⟨F - 2, by omega⟩
    rw [cmpl, if_neg (by omega), if_pos (by omega), cmpl, if_pos rfl]
    intro T' hm
    obtain rfl := List.mem_singleton.1 hm
    have h2 := hT
    rw [show l.length = (nL l).length from (nL_len l).symm] at h2
    refine ⟨l, by omega, ?_, fun r' => h2.next hP (by rw [nL_len]; omega) r'⟩
    exact rowOf_eq hn (by omega) hT.tv (by rw [nL_len]; omega) fun d hd => by
      rw [hT.a p d (by omega) (by omega), if_neg (by omega), if_pos ⟨rfl, by omega⟩]
  | f + 1, l, T, F, hl, hT, hF => by
    obtain ⟨F, rfl⟩ : ∃ G, F = G + 1 := ⟨F - 1, by omega⟩
    have ha : en T.1 (p * 5 + l.length) = -1 := by
      rw [hT.a p l.length (by omega) (by omega), if_neg (by omega), if_neg (by omega)]
    rw [cmpl, if_neg (by omega), if_neg (by omega), if_neg (by omega)]
    intro T' hm
    obtain ⟨s, hs, hm⟩ := List.mem_flatMap.1 hm
    have h5 := (mem_bits.1 hs).1
    have hl1 : (l ++ [s]).length = l.length + 1 := by simp
    have hR : Rp P p (nL (l ++ [s])) l.length T := hT.congr (by rw [show nL (l ++ [s]) = nL l ++ [(s : Int)] by simp [nL], List.take_append_of_le_length (by rw [nL_len]; omega)]) fun d hd => by rw [nL_en hd, nL_en (by omega), gn_app1 hd]
    have hR2 := hR.put (by omega) (by omega) (by rw [nL_len]; omega) h5 (by rw [nL_en (by omega), gn_app2])
    rw [← hl1] at hR2 hm
    exact row_mem n hn P p hp hP f (l ++ [s]) _ F (by omega) hR2 (by omega) T' hm
def gre (n : Nat) : Nat → List (List Nat) → List (List Nat)
  | 0, X => X
  | m + 1, X => gre n m (X ++ [(fitn n (X.map nL)).headD []])
theorem gre_len (n : Nat) : ∀ (m : Nat) (X : List (List Nat)), (gre n m X).length = X.length + m
  | 0, X => rfl
  | m + 1, X => by rw [gre, gre_len n m]; simp; omega
theorem vp_head {n : Nat} (hn1 : 1 ≤ n) (hn : n ≤ 5) {X : List (List Nat)} {D : List Nat} (h : Vp n X D) (hX : X.length < n) : ∃ y l, fitn n (X.map nL) = y :: l ∧ Vp n (X ++ [y]) (stp D y) ∧ y.length = n := by
  obtain ⟨y, l, e⟩ := fit_cons hn (vp_chk hn1 hn h (by omega)) (by simpa using hX)
  have hm : y ∈ fitn n (X.map nL) := by rw [e]; exact .head _
  obtain ⟨h1, h2⟩ := List.mem_filter.1 hm
  exact ⟨y, l, e, .snoc X D y h h1 h2, by simpa using (ext_get h1).1⟩
theorem gre_vp {n : Nat} (hn1 : 1 ≤ n) (hn : n ≤ 5) : ∀ (m : Nat) {X : List (List Nat)} {D : List Nat}, Vp n X D → X.length + m = n → ∃ D', Vp n (gre n m X) D'
  | 0, X, D, h, _ => ⟨D, h⟩
  | m + 1, X, D, h, hm => by
    obtain ⟨y, l, e, h2, _⟩ := vp_head hn1 hn h (by omega)
    rw [gre, e]
    exact gre_vp hn1 hn m h2 (by simp; omega)
theorem full_hd {n : Nat} (hn1 : 1 ≤ n) (hn : n ≤ 5) : ∀ (m : Nat) (X : List (List Nat)) (D : List Nat) (T : T3), Vp n X D → X.length + m = n → (∀ r', Rp (X.map nL) X.length r' 0 T) → ∀ F, (n - X.length) * (n + 1) + n < F →
    ∃ T1 l, cmpl n n F X.length 0 T = T1 :: l ∧ ∀ r', Rp ((gre n m X).map nL) n r' 0 T1
  | 0, X, D, T, h, hm, hT, F, hF => by
    obtain ⟨F, rfl⟩ : ∃ x, F = x + 1 := ⟨F - 1, by omega⟩
    rw [cmpl, if_pos (by omega)]
    exact ⟨T, [], rfl, by rw [show X.length = n by omega] at hT; exact hT⟩
  | m + 1, X, D, T, h, hm, hT, F, hF => by
    obtain ⟨y, l, e, h2, hy⟩ := vp_head hn1 hn h (by omega)
    have hl : (X.map nL).length = X.length := List.length_map ..
    have hr := row_fit hn (L := X.map nL) (by omega) (T := T) (by rw [hl]; exact hT) (n + n + 4) (by omega)
    rw [hl, e] at hr
    cases ec : cmpl n (X.length + 1) (n + n + 4) X.length 0 T with
    | nil => rw [ec] at hr; simp at hr
    | cons T' R =>
      rw [ec] at hr
      have hr1 : rowOf n X.length T' = nL y := by
        simp only [List.map_cons, List.cons.injEq] at hr; exact hr.1
      obtain ⟨x, x1, x2, x3⟩ := row_mem n hn (X.map nL) X.length (by omega) hl n [] T (n + n + 4) (by simp) (hT _) (by omega) T' (by rw [show ([] : List Nat).length = 0 from rfl, ec]; exact .head _)
      rw [← x2, hr1] at x3
      rw [gre, e]
      have hl1 : (X ++ [y]).length = X.length + 1 := by simp
      obtain ⟨T1, l1, g1, g2⟩ := full_hd hn1 hn m (X ++ [y]) _ T' h2 (by omega) (by rw [hl1, List.map_append, List.map_singleton]; exact x3) ((n - (X.length + 1)) * (n + 1) + n + 1) (by rw [hl1]; omega)
      rw [hl1] at g1
      rw [cmpl_split n X.length (by omega) n 0 T (by omega) F (n + n + 4) ((n - (X.length + 1)) * (n + 1) + n + 1) (by omega) (by rw [show X.length + 1 - X.length = 1 by omega]; omega) (by omega), ec, List.flatMap_cons, g1]
      exact ⟨T1, _, rfl, g2⟩
theorem full_rows {n : Nat} (hn : n ≤ 5) {L : List (List Int)} (hL : L.length = n) (hl : ∀ q ∈ L, q.length = n) {T : T3} (hT : ∀ r', Rp L n r' 0 T) : rowsE n T.1 = L := by
  have h := hT []
  unfold rowsE
  refine List.ext_getElem (by simp [hL]) fun i h1 h2 => ?_
  have hi : i < n := by simpa using h1
  have e : L[i] = ro L i := by simp [ro, List.getD, h2]
  rw [List.getElem_map, List.getElem_range, e]
  have hq := hl _ (ro_mem h2)
  exact rowOf_eq hn (by omega) h.tv hq fun d hd => by
    rw [h.a i d (by omega) (by omega), if_pos hi, if_pos (by omega)]
end Go.Proofs.YtcaecfofgdogbaaDoor
