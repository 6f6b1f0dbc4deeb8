import Derived.Test.YtgnphlpoofaojaaUCovs
import Derived.Test.YtgnphlpoofaojaaUBests
import Derived.Test.YtgnphlpoofaojaaUHulls
import Derived.Test.YtgnphlpoofaojaaUNeeds
import Derived.Test.YtgnphlpoofaojaaB
import Derived.Test.YtgnphlpoofaojaaV33
namespace Go.Proofs.Ytgnphlpoofaojaa
open Go.V
set_option maxRecDepth 100000
set_option maxHeartbeats 4000000
set_option linter.unusedSimpArgs false
set_option linter.unusedVariables false
attribute [local go_sem] tl1 tl2 tl3 tl4 tl5 tl9 tl17 tl21 tl22 tl23 tl24 tl25 tl26 tl27 tl28 tl29 tl31 tl33 tl34 tl36 tl37 tl38 tl39 tl40 tl41 tl42 tl43 tl44 tl46 tl47 tl49 tl50 tl52 tl53 tl54 tl55 tl56 tl57 tl58 tl60 tl62 tl63 tl64 tl65 tl66 tl67 tl68 tl69 tl70 tl71 tl72 tl74 tl75 tl76 tl77 tl78 tl79 tl80 tl81 tl82 tl83 tl84 tl85 tl86 tl87 tl88 tl89 tl90 tl91 tl92 tl93 tl94 tl95 tl96 tl97 tl98 tl99 tl100 tl102 tl103 tl104 tl105 tl106 tl107 tl108 tl109 tl110 tl111 tl112 tl113 tl114 tl115 tl116 tl117 tl118 tl119 tl120 tl121 tl122 tl123 tl124 tl125 tl126 tl127 tl128 tl129 tl130 tl131 tl132 tl133 tl134 tl140 tl141 tl145

def m47_L0 (N : Nat) (n3462 : Nat) : Nat → Int → Int → List PV → Option (List PV)
  | 0, _, _, _ => none
  | n + 1, x3488, x3489, c3490 =>
    brn (decide (x3488 < x3489)) (
      grd (0 ≤ x3489 ∧ x3489 < ((n3462 : Nat) : Int)) <|
      grd ((((Int.toNat x3489) * 2) + 2) ≤ List.length c3490) <|
      getA2 (.agg (List.take 2 (List.drop ((Int.toNat x3489) * 2) c3490))) fun p3496 p3497 =>
      grd (0 ≤ x3488 ∧ x3488 < ((n3462 : Nat) : Int)) <|
      grd ((((Int.toNat x3488) * 2) + 2) ≤ List.length c3490) <|
      getA2 (.agg (List.take 2 (List.drop ((Int.toNat x3488) * 2) c3490))) fun p3502 p3503 =>
      getI .i64 p3496 fun x3505 =>
      getI .i64 p3497 fun x3507 =>
      getI .i64 p3502 fun x3509 =>
      getI .i64 p3503 fun x3511 =>
      m47_L0 N n3462 n (IntKind.i64.wrap (x3488 + 1)) (IntKind.i64.wrap (x3489 - 1)) (List.set (List.set (List.set (List.set c3490 ((Int.toNat x3488) * 2) (.int .i64 x3505)) (((Int.toNat x3488) * 2) + 1) (.int .i64 x3507)) ((Int.toNat x3489) * 2) (.int .i64 x3509)) (((Int.toNat x3489) * 2) + 1) (.int .i64 x3511))) (
      some c3490)
def m47 (N : Nat) (n3462 : Nat) (c3463 : List PV) : Option ((PV × List PV)) :=
  bnd' (m47_L0 N n3462 N 0 (IntKind.i64.wrap (((n3462 : Nat) : Int) - 1)) c3463) fun c3512 =>
  some ((.tup []), c3512)
theorem c47 (N : Nat) (n3462 : Nat) (c3463 : List PV) (r : PV) (c3514 : List PV) (h : m47 N n3462 c3463 = some (r, c3514)) : V.Fn Try.prog 47 1 [.sl false 0 0 n3462 2] [(0, .p c3463)] (fun d ob' => d = .v r ∧ ob' = [(0, .p c3514)]) := by
  unfold m47 at h
  refine Fn_of (sz := 28) tab_ok [0, 2, 3, 9] [] Try.func47 rfl rfl rfl (by simp) ?_
  simp only [initSt, initEnv, List.map_cons, List.map_nil, List.getD_cons_zero, List.getD_cons_succ, List.getD_nil]
  refine W_sound tab_ok mixed 8 _ _ _ ?_
  simp -implicitDefEqProofs only [go_sem, ne_eq, not_false_eq_true, Nat.reduceBEq, Nat.reduceAdd, Nat.reduceSub, Nat.reduceMul, Nat.reduceLT, Nat.reduceLeDiff, Int.reduceLE, Int.reduceLT, Int.reduceToNat, Int.reduceBEq, Int.reduceBNe, Int.le_refl, Nat.le_refl, decide_true, decide_false, Int.cast_ofNat_Int, ↓reduceIte]
  repeat with_reducible refine And.intro (by first | kernel_rfl | decide) ?_
  have hh := bnd'_some h; clear h; obtain ⟨o3515, h3516, h3517⟩ := hh
  refine Wp_cut (fun s => ∃ c3512, c3512 = o3515 ∧ s = ⟨[], [(0, .dead), (2, .dead), (3, .dead), (9, .dead)], [(0, .p c3512)], 1, []⟩) ?_ ?_
  · refine Wp_block ?_
    refine Wp_loopG (fun n s => ∃ x3488, ∃ x3489, ∃ c3490, m47_L0 N n3462 n x3488 x3489 c3490 = some o3515 ∧ s = ⟨[], [(0, .sl false 0 0 n3462 2), (2, .v (.int .i64 x3488)), (3, .v (.int .i64 x3489)), (9, .dead)], [(0, .p c3490)], 1, []⟩) N _ ((Wk_le (.cons _ _ _ _ _ (.refl _) (.cons _ _ _ _ _ (.refl _) (.cons _ _ _ _ _ (.refl _) (.cons _ _ _ _ _ (.refl _) .nil)))) (OLe.refl _)).trans (cmpS_ok rfl)) ⟨_, _, _, h3516, rfl⟩ ?_
    clear h3516
    rintro n _ ⟨x3488, x3489, c3490, h3516, rfl⟩
    cases n with
    | zero => cases h3516
    | succ n =>
      rw [m47_L0] at h3516
      have hh := brn_some h3516; clear h3516; rcases hh with ⟨h3491, h3516⟩ | ⟨h3491, h3516⟩
      · have hh := grd_some h3516; clear h3516; obtain ⟨⟨g3492, g3493⟩, h3516⟩ := hh
        have hh := grd_some h3516; clear h3516; obtain ⟨g3494, h3516⟩ := hh
        have hh := getA2_some h3516; clear h3516; obtain ⟨p3496, p3497, h3495, h3516⟩ := hh
        injection h3495 with h3495
        have hh := grd_some h3516; clear h3516; obtain ⟨⟨g3498, g3499⟩, h3516⟩ := hh
        have hh := grd_some h3516; clear h3516; obtain ⟨g3500, h3516⟩ := hh
        have hh := getA2_some h3516; clear h3516; obtain ⟨p3502, p3503, h3501, h3516⟩ := hh
        injection h3501 with h3501
        have hh := getI_some h3516; clear h3516; obtain ⟨x3505, h3504, h3516⟩ := hh
        have hh := getI_some h3516; clear h3516; obtain ⟨x3507, h3506, h3516⟩ := hh
        have hh := getI_some h3516; clear h3516; obtain ⟨x3509, h3508, h3516⟩ := hh
        have hh := getI_some h3516; clear h3516; obtain ⟨x3511, h3510, h3516⟩ := hh
        refine W_sound tab_ok mixed 38 _ _ _ ?_
        simp -implicitDefEqProofs only [go_sem, ne_eq, not_false_eq_true, Nat.reduceBEq, Nat.reduceAdd, Nat.reduceSub, Nat.reduceMul, Nat.reduceLT, Nat.reduceLeDiff, Int.reduceLE, Int.reduceLT, Int.reduceToNat, Int.reduceBEq, Int.reduceBNe, Int.le_refl, Nat.le_refl, decide_true, decide_false, Int.cast_ofNat_Int, ↓reduceIte, h3491, g3492, g3493, g3494, h3495, g3498, g3499, g3500, h3501, h3504, h3506, h3508, h3510]
        repeat with_reducible refine And.intro (by first | kernel_rfl | decide) ?_
        exact cutQ _ ((Wk_le (.cons _ _ _ _ _ (.refl _) (.cons _ _ _ _ _ (.refl _) (.cons _ _ _ _ _ (.refl _) (.cons _ _ _ _ _ (.dead _) .nil)))) (OLe.refl _)).trans (cmpS_ok rfl)) ⟨n, Nat.lt_succ_self n, _, _, _, h3516, rfl⟩
      · refine W_sound tab_ok mixed 9 _ _ _ ?_
        simp -implicitDefEqProofs only [go_sem, ne_eq, not_false_eq_true, Nat.reduceBEq, Nat.reduceAdd, Nat.reduceSub, Nat.reduceMul, Nat.reduceLT, Nat.reduceLeDiff, Int.reduceLE, Int.reduceLT, Int.reduceToNat, Int.reduceBEq, Int.reduceBNe, Int.le_refl, Nat.le_refl, decide_true, decide_false, Int.cast_ofNat_Int, ↓reduceIte, h3491]
        repeat with_reducible refine And.intro (by first | kernel_rfl | decide) ?_
        obtain rfl := Option.some.inj h3516
        exact cutQ _ ((Wk_le (.cons _ _ _ _ _ (.dead _) (.cons _ _ _ _ _ (.dead _) (.cons _ _ _ _ _ (.dead _) (.cons _ _ _ _ _ (.dead _) .nil)))) (OLe.refl _)).trans (cmpS_ok rfl)) ⟨_, rfl, rfl⟩
  · rintro _ ⟨c3512, rfl, rfl⟩
    refine W_sound tab_ok mixed 1 _ _ _ ?_
    simp -implicitDefEqProofs only [go_sem, ne_eq, not_false_eq_true, Nat.reduceBEq, Nat.reduceAdd, Nat.reduceSub, Nat.reduceMul, Nat.reduceLT, Nat.reduceLeDiff, Int.reduceLE, Int.reduceLT, Int.reduceToNat, Int.reduceBEq, Int.reduceBNe, Int.le_refl, Nat.le_refl, decide_true, decide_false, Int.cast_ofNat_Int, ↓reduceIte]
    repeat with_reducible refine And.intro (by first | kernel_rfl | decide) ?_
    simp only [Option.some.injEq, Prod.mk.injEq] at h3517; obtain ⟨rfl, rfl⟩ := h3517
    exact finD (e2 := [(0, .dead), (2, .dead), (3, .dead), (9, .dead)]) (ob2 := [(0, .p c3512)]) (st' := ⟨[], [(0, .dead), (2, .dead), (3, .dead), (9, .dead)], [(0, .p c3512)], 1, []⟩) (.cons _ _ _ _ _ (.refl _) (.cons _ _ _ _ _ (.refl _) (.cons _ _ _ _ _ (.refl _) (.cons _ _ _ _ _ (.refl _) .nil)))) (.cons _ _ _ _ _ (DLes.refl _) .nil) (by kernel_rfl) (by simp only [go_sem, ne_eq, not_false_eq_true, Nat.reduceBEq, Nat.reduceAdd, Nat.reduceSub, Nat.reduceMul, Nat.reduceLT, Nat.reduceLeDiff, Int.reduceLE, Int.reduceLT, Int.reduceToNat, Int.reduceBEq, Int.reduceBNe, Int.le_refl, Nat.le_refl, decide_true, decide_false, Int.cast_ofNat_Int, ↓reduceIte, resQ_tmp, resQ_cell, resQ_nil, retD_one, retD_two, retD_three, retD_none]; try simp [R.val, retD_one, retD_two, retD_three, retD_none])

def m45_L0 (N : Nat) (n3599 : Nat) (c3600 : List PV) (n3602 : Nat) (c3603 : List PV) : Nat → Int → Option ((PV ⊕ Unit))
  | 0, _ => none
  | n + 1, x3605 =>
    brn (decide (x3605 < ((n3599 : Nat) : Int))) (
      grd (0 ≤ x3605 ∧ x3605 < ((n3599 : Nat) : Int)) <|
      grd (2 ≤ List.length (List.drop ((Int.toNat x3605) * 2) c3600)) <|
      getA2 (.agg (List.take 2 (List.drop ((Int.toNat x3605) * 2) c3600))) fun p3611 p3612 =>
      grd (x3605 < ((n3602 : Nat) : Int)) <|
      grd (2 ≤ List.length (List.drop ((Int.toNat x3605) * 2) c3603)) <|
      getA2 (.agg (List.take 2 (List.drop ((Int.toNat x3605) * 2) c3603))) fun p3616 p3617 =>
      getI .i64 p3612 fun x3619 =>
      getI .i64 p3617 fun x3621 =>
      getI .i64 p3611 fun x3623 =>
      getI .i64 p3616 fun x3625 =>
      brn (!((x3623 == x3625) && (x3619 == x3621))) (
        some (.inl (.bool false))) (
        m45_L0 N n3599 c3600 n3602 c3603 n (IntKind.i64.wrap (x3605 + 1)))) (
      some (.inr ()))
def m45 (N : Nat) (p3596 : PV) (p3597 : PV) : Option (PV) :=
  getL p3596 fun n3599 c3600 =>
  getL p3597 fun n3602 c3603 =>
  brn (((n3599 : Nat) : Int) != ((n3602 : Nat) : Int)) (
    some (.bool false)) (
    bnd' (m45_L0 N n3599 c3600 n3602 c3603 N 0) fun o =>
    match o with
    | .inl p3627 =>
      some p3627
    | .inr () =>
      some (.bool true))
theorem c45 (N : Nat) (p3596 : PV) (p3597 : PV) (r : PV)  (h : m45 N p3596 p3597 = some r) : FnP Try.prog 45 [p3596, p3597] r := by
  unfold m45 at h
  refine Fn_of (sz := 26) tab_ok [0, 1, 4, 5, 10, 14, 25] [.tmp 4] Try.func45 rfl rfl rfl (by simp) ?_
  simp only [initSt, initEnv, List.map_cons, List.map_nil, List.getD_cons_zero, List.getD_cons_succ, List.getD_nil]
  have hh := getL_some h; clear h; obtain ⟨n3599, c3600, h3598, h⟩ := hh
  have hh := getL_some h; clear h; obtain ⟨n3602, c3603, h3601, h⟩ := hh
  have hh := brn_some h; clear h; rcases hh with ⟨h3604, h⟩ | ⟨h3604, h⟩
  · refine W_sound tab_ok mixed 20 _ _ _ ?_
    simp -implicitDefEqProofs only [go_sem, ne_eq, not_false_eq_true, Nat.reduceBEq, Nat.reduceAdd, Nat.reduceSub, Nat.reduceMul, Nat.reduceLT, Nat.reduceLeDiff, Int.reduceLE, Int.reduceLT, Int.reduceToNat, Int.reduceBEq, Int.reduceBNe, Int.le_refl, Nat.le_refl, decide_true, decide_false, Int.cast_ofNat_Int, ↓reduceIte, h3598, h3601, h3604]
    repeat with_reducible refine And.intro (by first | kernel_rfl | decide) ?_
    obtain rfl := Option.some.inj h
    exact finC [(4, .v (.bool false))] [(4, .v (.bool false))] (by simp [leE, lk_cons]) (.cons _ _ _ _ _ (.v _ _ (.refl _)) .nil) (by rfl) (by simp [leE, lk_cons]) (by decide) (by decide) rfl (by simp only [go_sem, ne_eq, not_false_eq_true, Nat.reduceBEq, Nat.reduceAdd, Nat.reduceSub, Nat.reduceMul, Nat.reduceLT, Nat.reduceLeDiff, Int.reduceLE, Int.reduceLT, Int.reduceToNat, Int.reduceBEq, Int.reduceBNe, Int.le_refl, Nat.le_refl, decide_true, decide_false, Int.cast_ofNat_Int, ↓reduceIte, resQ_tmp, resQ_cell, resQ_nil, retD_one, retD_two, retD_three, retD_none]; try simp [R.val, retD_one, retD_two, retD_three, retD_none])
  · refine W_sound tab_ok mixed 20 _ _ _ ?_
    simp -implicitDefEqProofs only [go_sem, ne_eq, not_false_eq_true, Nat.reduceBEq, Nat.reduceAdd, Nat.reduceSub, Nat.reduceMul, Nat.reduceLT, Nat.reduceLeDiff, Int.reduceLE, Int.reduceLT, Int.reduceToNat, Int.reduceBEq, Int.reduceBNe, Int.le_refl, Nat.le_refl, decide_true, decide_false, Int.cast_ofNat_Int, ↓reduceIte, h3598, h3601, h3604]
    repeat with_reducible refine And.intro (by first | kernel_rfl | decide) ?_
    have hh := bnd'_some h; clear h; obtain ⟨o3628, h3629, h3630⟩ := hh
    refine Wp_cut (fun s => (.inr ()) = o3628 ∧ s = ⟨[], [(0, .dead), (1, .dead), (4, .dead), (5, .dead), (10, .dead), (14, .dead), (25, .dead)], [], 0, []⟩) ?_ ?_
    · refine Wp_block ?_
      refine Wp_loopG (fun n s => ∃ x3605, m45_L0 N n3599 c3600 n3602 c3603 n x3605 = some o3628 ∧ s = ⟨[], [(0, .v (.lst false n3599 c3600)), (1, .v (.lst false n3602 c3603)), (4, .dead), (5, .v (.int .i64 x3605)), (10, .dead), (14, .dead), (25, .dead)], [], 0, []⟩) N _ ((Wk_le (.cons _ _ _ _ _ (.refl _) (.cons _ _ _ _ _ (.refl _) (.cons _ _ _ _ _ (.dead _) (.cons _ _ _ _ _ (.refl _) (.cons _ _ _ _ _ (.dead _) (.cons _ _ _ _ _ (.refl _) (.cons _ _ _ _ _ (.refl _) .nil))))))) (OLe.refl _)).trans (cmpS_ok rfl)) ⟨_, h3629, rfl⟩ ?_
      clear h3629
      rintro n _ ⟨x3605, h3629, rfl⟩
      cases n with
      | zero => cases h3629
      | succ n =>
        rw [m45_L0] at h3629
        have hh := brn_some h3629; clear h3629; rcases hh with ⟨h3606, h3629⟩ | ⟨h3606, h3629⟩
        · have hh := grd_some h3629; clear h3629; obtain ⟨⟨g3607, g3608⟩, h3629⟩ := hh
          have hh := grd_some h3629; clear h3629; obtain ⟨g3609, h3629⟩ := hh
          have hh := getA2_some h3629; clear h3629; obtain ⟨p3611, p3612, h3610, h3629⟩ := hh
          injection h3610 with h3610
          have hh := grd_some h3629; clear h3629; obtain ⟨g3613, h3629⟩ := hh
          have hh := grd_some h3629; clear h3629; obtain ⟨g3614, h3629⟩ := hh
          have hh := getA2_some h3629; clear h3629; obtain ⟨p3616, p3617, h3615, h3629⟩ := hh
          injection h3615 with h3615
          have hh := getI_some h3629; clear h3629; obtain ⟨x3619, h3618, h3629⟩ := hh
          have hh := getI_some h3629; clear h3629; obtain ⟨x3621, h3620, h3629⟩ := hh
          have hh := getI_some h3629; clear h3629; obtain ⟨x3623, h3622, h3629⟩ := hh
          have hh := getI_some h3629; clear h3629; obtain ⟨x3625, h3624, h3629⟩ := hh
          have hh := brn_some h3629; clear h3629; rcases hh with ⟨h3626, h3629⟩ | ⟨h3626, h3629⟩
          · refine W_sound tab_ok mixed 31 _ _ _ ?_
            simp -implicitDefEqProofs only [go_sem, ne_eq, not_false_eq_true, Nat.reduceBEq, Nat.reduceAdd, Nat.reduceSub, Nat.reduceMul, Nat.reduceLT, Nat.reduceLeDiff, Int.reduceLE, Int.reduceLT, Int.reduceToNat, Int.reduceBEq, Int.reduceBNe, Int.le_refl, Nat.le_refl, decide_true, decide_false, Int.cast_ofNat_Int, ↓reduceIte, h3598, h3601, h3604, h3606, g3607, g3608, g3609, h3610, g3613, g3614, h3615, h3618, h3620, h3622, h3624, h3626]
            repeat with_reducible refine And.intro (by first | kernel_rfl | decide) ?_
            obtain rfl := Option.some.inj h3629
            (try dsimp only at h3630)
            obtain rfl := Option.some.inj h3630
            exact finC [(4, .v (.bool false))] [(4, .v (.bool false))] (by simp [leE, lk_cons]) (.cons _ _ _ _ _ (.v _ _ (.refl _)) .nil) (by rfl) (by simp [leE, lk_cons]) (by decide) (by decide) rfl (by simp only [go_sem, ne_eq, not_false_eq_true, Nat.reduceBEq, Nat.reduceAdd, Nat.reduceSub, Nat.reduceMul, Nat.reduceLT, Nat.reduceLeDiff, Int.reduceLE, Int.reduceLT, Int.reduceToNat, Int.reduceBEq, Int.reduceBNe, Int.le_refl, Nat.le_refl, decide_true, decide_false, Int.cast_ofNat_Int, ↓reduceIte, resQ_tmp, resQ_cell, resQ_nil, retD_one, retD_two, retD_three, retD_none]; try simp [R.val, retD_one, retD_two, retD_three, retD_none])
          · refine W_sound tab_ok mixed 32 _ _ _ ?_
            simp -implicitDefEqProofs only [go_sem, ne_eq, not_false_eq_true, Nat.reduceBEq, Nat.reduceAdd, Nat.reduceSub, Nat.reduceMul, Nat.reduceLT, Nat.reduceLeDiff, Int.reduceLE, Int.reduceLT, Int.reduceToNat, Int.reduceBEq, Int.reduceBNe, Int.le_refl, Nat.le_refl, decide_true, decide_false, Int.cast_ofNat_Int, ↓reduceIte, h3598, h3601, h3604, h3606, g3607, g3608, g3609, h3610, g3613, g3614, h3615, h3618, h3620, h3622, h3624, h3626]
            repeat with_reducible refine And.intro (by first | kernel_rfl | decide) ?_
            exact cutQ _ ((Wk_le (.cons _ _ _ _ _ (.refl _) (.cons _ _ _ _ _ (.refl _) (.cons _ _ _ _ _ (.refl _) (.cons _ _ _ _ _ (.refl _) (.cons _ _ _ _ _ (.refl _) (.cons _ _ _ _ _ (.dead _) (.cons _ _ _ _ _ (.dead _) .nil))))))) (OLe.refl _)).trans (cmpS_ok rfl)) ⟨n, Nat.lt_succ_self n, _, h3629, rfl⟩
        · refine W_sound tab_ok mixed 10 _ _ _ ?_
          simp -implicitDefEqProofs only [go_sem, ne_eq, not_false_eq_true, Nat.reduceBEq, Nat.reduceAdd, Nat.reduceSub, Nat.reduceMul, Nat.reduceLT, Nat.reduceLeDiff, Int.reduceLE, Int.reduceLT, Int.reduceToNat, Int.reduceBEq, Int.reduceBNe, Int.le_refl, Nat.le_refl, decide_true, decide_false, Int.cast_ofNat_Int, ↓reduceIte, h3598, h3601, h3604, h3606]
          repeat with_reducible refine And.intro (by first | kernel_rfl | decide) ?_
          obtain rfl := Option.some.inj h3629
          exact cutQ _ ((Wk_le (.cons _ _ _ _ _ (.dead _) (.cons _ _ _ _ _ (.dead _) (.cons _ _ _ _ _ (.refl _) (.cons _ _ _ _ _ (.dead _) (.cons _ _ _ _ _ (.refl _) (.cons _ _ _ _ _ (.dead _) (.cons _ _ _ _ _ (.refl _) .nil))))))) (OLe.refl _)).trans (cmpS_ok rfl)) ⟨rfl, rfl⟩
    · rintro _ ⟨rfl, rfl⟩
      (try dsimp only at h3630)
      refine W_sound tab_ok mixed 6 _ _ _ ?_
      simp -implicitDefEqProofs only [go_sem, ne_eq, not_false_eq_true, Nat.reduceBEq, Nat.reduceAdd, Nat.reduceSub, Nat.reduceMul, Nat.reduceLT, Nat.reduceLeDiff, Int.reduceLE, Int.reduceLT, Int.reduceToNat, Int.reduceBEq, Int.reduceBNe, Int.le_refl, Nat.le_refl, decide_true, decide_false, Int.cast_ofNat_Int, ↓reduceIte, h3598, h3601, h3604]
      repeat with_reducible refine And.intro (by first | kernel_rfl | decide) ?_
      obtain rfl := Option.some.inj h3630
      exact finC [(4, .v (.bool true))] [(4, .v (.bool true))] (by simp [leE, lk_cons]) (.cons _ _ _ _ _ (.v _ _ (.refl _)) .nil) (by rfl) (by simp [leE, lk_cons]) (by decide) (by decide) rfl (by simp only [go_sem, ne_eq, not_false_eq_true, Nat.reduceBEq, Nat.reduceAdd, Nat.reduceSub, Nat.reduceMul, Nat.reduceLT, Nat.reduceLeDiff, Int.reduceLE, Int.reduceLT, Int.reduceToNat, Int.reduceBEq, Int.reduceBNe, Int.le_refl, Nat.le_refl, decide_true, decide_false, Int.cast_ofNat_Int, ↓reduceIte, resQ_tmp, resQ_cell, resQ_nil, retD_one, retD_two, retD_three, retD_none]; try simp [R.val, retD_one, retD_two, retD_three, retD_none])

def m10_L0 (N : Nat) (x3331 : Int) (x3332 : Int) (x3333 : Int) (n3340 : Nat) (c3341 : List PV) : Nat → Nat → Nat → Int → List PV → List PV → Option ((Nat × Nat × List PV × List PV))
  | 0, _, _, _, _, _ => none
  | n + 1, n3380, n3381, x3382, c3383, c3384 =>
    brn (decide (x3382 < ((n3340 : Nat) : Int))) (
      grd (((n3340 : Nat) : Int) ≠ 0) <|
      grd (0 ≤ (Int.tmod (IntKind.i64.wrap (x3382 + (IntKind.i64.wrap x3331))) ((n3340 : Nat) : Int)) ∧ (Int.tmod (IntKind.i64.wrap (x3382 + (IntKind.i64.wrap x3331))) ((n3340 : Nat) : Int)) < ((n3340 : Nat) : Int)) <|
      grd (2 ≤ List.length (List.drop ((Int.toNat (Int.tmod (IntKind.i64.wrap (x3382 + (IntKind.i64.wrap x3331))) ((n3340 : Nat) : Int))) * 2) c3341)) <|
      getA2 (.agg (List.take 2 (List.drop ((Int.toNat (Int.tmod (IntKind.i64.wrap (x3382 + (IntKind.i64.wrap x3331))) ((n3340 : Nat) : Int))) * 2) c3341))) fun p3391 p3392 =>
      grd ((n3380 + 1) ≤ 1099511627776) <|
      grd (List.length c3383 = (n3380 * 2)) <|
      grd (0 ≤ x3382 ∧ x3382 < ((n3340 : Nat) : Int)) <|
      grd (0 < List.length (List.drop ((Int.toNat x3382) * 2) c3341)) <|
      getI .i64 (gp c3341 ((Int.toNat x3382) * 2)) fun x3399 =>
      grd (51 ≠ 0) <|
      grd (0 < List.length (List.drop 1 (List.drop ((Int.toNat x3382) * 2) c3341))) <|
      getI .i64 (gp c3341 (((Int.toNat x3382) * 2) + 1)) fun x3403 =>
      grd (6 ≠ 0) <|
      grd ((n3381 + 1) ≤ 1099511627776) <|
      grd (List.length c3384 = (n3381 * 2)) <|
      m10_L0 N x3331 x3332 x3333 n3340 c3341 n (n3380 + 1) (n3381 + 1) (IntKind.i64.wrap (x3382 + 1)) (c3383 ++ [p3391, p3392]) (c3384 ++ [(.int .i64 (IntKind.i64.wrap (x3399 + (Int.tmod (IntKind.i64.wrap x3332) 51)))), (.int .i64 (IntKind.i64.wrap (x3403 + (Int.tmod (IntKind.i64.wrap x3333) 6))))])) (
      some (n3380, n3381, c3383, c3384))
def m10_L1 (N : Nat) (x3331 : Int) (x3332 : Int) (x3333 : Int) (n3340 : Nat) (c3341 : List PV) (n3407 : Nat) (n3408 : Nat) (c3410 : List PV) (c3520 : List PV) (n3528 : Nat) (c3529 : List PV) (n3539 : Nat) (c3540 : List PV) : Nat → Int → Option ((PV ⊕ Unit))
  | 0, _ => none
  | n + 1, x3641 =>
    brn (decide (x3641 < ((n3539 : Nat) : Int))) (
      grd (0 ≤ x3641 ∧ x3641 < ((n3539 : Nat) : Int)) <|
      grd (0 < List.length (List.drop (Int.toNat x3641) c3540)) <|
      getI .i64 (gp c3540 (Int.toNat x3641)) fun x3647 =>
      brn (decide (x3647 < 0)) (
        some (.inl (.bool false))) (
        brn (decide (x3647 ≥ ((n3340 : Nat) : Int))) (
          some (.inl (.bool false))) (
          grd (x3641 < ((n3528 : Nat) : Int)) <|
          grd (0 < List.length (List.drop (Int.toNat x3641) c3529)) <|
          getI .i64 (gp c3529 (Int.toNat x3641)) fun x3653 =>
          brn (decide (x3653 < 0)) (
            some (.inl (.bool false))) (
            brn (decide (x3653 ≥ ((n3340 : Nat) : Int))) (
              some (.inl (.bool false))) (
              grd (0 ≤ x3647 ∧ x3647 < ((n3407 : Nat) : Int)) <|
              grd (2 ≤ List.length (List.drop ((Int.toNat x3647) * 2) c3520)) <|
              getA2 (.agg (List.take 2 (List.drop ((Int.toNat x3647) * 2) c3520))) fun p3660 p3661 =>
              grd (0 ≤ x3653 ∧ x3653 < ((n3340 : Nat) : Int)) <|
              grd (2 ≤ List.length (List.drop ((Int.toNat x3653) * 2) c3341)) <|
              getA2 (.agg (List.take 2 (List.drop ((Int.toNat x3653) * 2) c3341))) fun p3666 p3667 =>
              getI .i64 p3661 fun x3669 =>
              getI .i64 p3667 fun x3671 =>
              getI .i64 p3660 fun x3673 =>
              getI .i64 p3666 fun x3675 =>
              brn (!((x3673 == x3675) && (x3669 == x3671))) (
                some (.inl (.bool false))) (
                m10_L1 N x3331 x3332 x3333 n3340 c3341 n3407 n3408 c3410 c3520 n3528 c3529 n3539 c3540 n (IntKind.i64.wrap (x3641 + 1)))))))) (
      some (.inr ()))
def m10 (N : Nat) (p3330 : PV) (x3331 : Int) (x3332 : Int) (x3333 : Int) : Option (PV) :=
  getA p3330 fun c3335 =>
  grd (17 ≤ List.length c3335) <|
  bnd' (m36 N (.agg (List.take 17 c3335)) 50 5) fun p3337 =>
  getL p3337 fun n3340 c3341 =>
  bnd' (m10_L0 N x3331 x3332 x3333 n3340 c3341 N 0 0 0 [] []) fun o =>
  match o with
  | (n3407, n3408, c3409, c3410) =>
    bnd' (m47 N n3407 c3409) fun (p3518, c3520) =>
    getT0 p3518 <|
    bnd' (m24 N (.lst false n3340 c3341)) fun p3522 =>
    getT2 p3522 fun p3525 p3526 =>
    getL p3525 fun n3528 c3529 =>
    getI .i64 p3526 fun x3531 =>
    grd (List.length c3520 = (n3407 * 2)) <|
    bnd' (m24 N (.lst false n3407 c3520)) fun p3533 =>
    getT2 p3533 fun p3536 p3537 =>
    getL p3536 fun n3539 c3540 =>
    getI .i64 p3537 fun x3542 =>
    grd (List.length c3410 = (n3408 * 2)) <|
    bnd' (m24 N (.lst false n3408 c3410)) fun p3544 =>
    getT2 p3544 fun p3547 p3548 =>
    getL p3547 fun n3550 c3551 =>
    getI .i64 p3548 fun x3553 =>
    bnd' (m26 N (.lst false n3340 c3341)) fun p3554 =>
    getT2 p3554 fun p3557 p3558 =>
    getL p3557 fun n3560 c3561 =>
    getI .i64 p3558 fun x3563 =>
    bnd' (m26 N (.lst false n3407 c3520)) fun p3564 =>
    getT2 p3564 fun p3567 p3568 =>
    getL p3567 fun n3570 c3571 =>
    getI .i64 p3568 fun x3573 =>
    bnd' (m26 N (.lst false n3408 c3410)) fun p3574 =>
    getT2 p3574 fun p3577 p3578 =>
    getL p3577 fun n3580 c3581 =>
    getI .i64 p3578 fun x3583 =>
    brn (x3531 != 0) (
      some (.bool false)) (
      brn (x3542 != 0) (
        some (.bool false)) (
        brn (x3553 != 0) (
          some (.bool false)) (
          brn (x3563 != 0) (
            some (.bool false)) (
            brn (x3573 != 0) (
              some (.bool false)) (
              brn (x3583 != 0) (
                some (.bool false)) (
                brn (((n3528 : Nat) : Int) != ((n3539 : Nat) : Int)) (
                  some (.bool false)) (
                  bnd' (m21 N (.lst false n3528 c3529) (.lst false n3550 c3551)) fun p3591 =>
                  getB p3591 fun b3594 =>
                  brn b3594 (
                    bnd' (m45 N (.lst false n3560 c3561) (.lst false n3570 c3571)) fun p3631 =>
                    getB p3631 fun b3634 =>
                    brn b3634 (
                      bnd' (m45 N (.lst false n3560 c3561) (.lst false n3580 c3581)) fun p3636 =>
                      getB p3636 fun b3639 =>
                      brn b3639 (
                        bnd' (m10_L1 N x3331 x3332 x3333 n3340 c3341 n3407 n3408 c3410 c3520 n3528 c3529 n3539 c3540 N 0) fun o =>
                        match o with
                        | .inl p3677 =>
                          some p3677
                        | .inr () =>
                          bnd' (m40 N (IntKind.i64.wrap ((IntKind.i64.wrap x3331) - 100)) 1) fun p3678 =>
                          getA2 p3678 fun p3681 p3682 =>
                          getI .i64 p3681 fun x3684 =>
                          getI .i64 p3682 fun x3686 =>
                          bnd' (m17 N (.lst false n3340 c3341) (.agg [(.int .i64 x3684), (.int .i64 x3686)])) fun p3687 =>
                          getT2 p3687 fun p3690 p3691 =>
                          getA2 p3690 fun p3693 p3694 =>
                          getI .i64 p3691 fun x3696 =>
                          getI .i64 p3693 fun x3698 =>
                          getI .i64 p3694 fun x3700 =>
                          bnd' (m17 N (.lst false n3408 c3410) (.agg [(.int .i64 x3684), (.int .i64 x3686)])) fun p3701 =>
                          getT2 p3701 fun p3704 p3705 =>
                          getA2 p3704 fun p3707 p3708 =>
                          getI .i64 p3705 fun x3710 =>
                          getI .i64 p3707 fun x3712 =>
                          getI .i64 p3708 fun x3714 =>
                          brn (x3696 == 0) (
                            brn (x3710 == 0) (
                              brn (x3700 == 1) (
                                brn (x3714 == 1) (
                                  grd (51 ≠ 0) <|
                                  grd (6 ≠ 0) <|
                                  brn ((IntKind.i64.wrap (x3712 - x3698)) == (IntKind.i64.wrap ((Int.tmod (IntKind.i64.wrap x3332) 51) + (IntKind.i64.wrap ((Int.tmod (IntKind.i64.wrap x3333) 6) * x3684))))) (
                                    bnd' (m15 N ) fun p3722 =>
                                    getB p3722 fun b3725 =>
                                    some (.bool b3725)) (
                                    some (.bool false))) (
                                  some (.bool false))) (
                                some (.bool false))) (
                              some (.bool false))) (
                            some (.bool false))) (
                        some (.bool false))) (
                      some (.bool false))) (
                    some (.bool false)))))))))
theorem c10 (N : Nat) (p3330 : PV) (x3331 : Int) (x3332 : Int) (x3333 : Int) (r : PV)  (h : m10 N p3330 x3331 x3332 x3333 = some r) : FnP Try.prog 10 [p3330, (.int .u8 x3331), (.int .i8 x3332), (.int .i8 x3333)] r := by
  unfold m10 at h
  refine Fn_of (sz := 251) tab_ok [0, 1, 2, 3, 4, 8, 9, 10, 11, 12, 13, 14, 15, 16, 17, 18, 19, 20, 21, 22, 23, 24, 25, 26, 27, 28, 29, 30, 36, 37, 38, 153, 154, 155, 156, 157, 196] [.tmp 8] Try.func10 rfl rfl rfl (by simp) ?_
  simp only [initSt, initEnv, List.map_cons, List.map_nil, List.getD_cons_zero, List.getD_cons_succ, List.getD_nil]
  have hh := getA_some h; clear h; obtain ⟨c3335, h3334, h⟩ := hh
  have hh := grd_some h; clear h; obtain ⟨g3336, h⟩ := hh
  have hh := bnd'_some h; clear h; obtain ⟨p3337, h3338, h⟩ := hh
  refine W_sound tab_ok mixed 8 _ _ _ ?_
  simp -implicitDefEqProofs only [go_sem, ne_eq, not_false_eq_true, Nat.reduceBEq, Nat.reduceAdd, Nat.reduceSub, Nat.reduceMul, Nat.reduceLT, Nat.reduceLeDiff, Int.reduceLE, Int.reduceLT, Int.reduceToNat, Int.reduceBEq, Int.reduceBNe, Int.le_refl, Nat.le_refl, decide_true, decide_false, Int.cast_ofNat_Int, ↓reduceIte, h3334, g3336]
  repeat with_reducible refine And.intro (by first | kernel_rfl | decide) ?_
  refine Wp_callP (c36 N _ _ _ _ h3338) (by kernel_rfl) rfl rfl rfl rfl (by decide) ?_
  have hh := getL_some h; clear h; obtain ⟨n3340, c3341, h3339, h⟩ := hh
  refine W_sound tab_ok mixed 20 _ _ _ ?_
  simp -implicitDefEqProofs only [go_sem, ne_eq, not_false_eq_true, Nat.reduceBEq, Nat.reduceAdd, Nat.reduceSub, Nat.reduceMul, Nat.reduceLT, Nat.reduceLeDiff, Int.reduceLE, Int.reduceLT, Int.reduceToNat, Int.reduceBEq, Int.reduceBNe, Int.le_refl, Nat.le_refl, decide_true, decide_false, Int.cast_ofNat_Int, ↓reduceIte, h3334, g3336, h3339]
  repeat with_reducible refine And.intro (by first | kernel_rfl | decide) ?_
  refine Wp_weaken (Wk_ownS 11 2 rfl (by decide) (by decide)) ?_
  simp -implicitDefEqProofs only [go_sem, ne_eq, not_false_eq_true, Nat.reduceBEq, Nat.reduceAdd, Nat.reduceSub, Nat.reduceMul, Nat.reduceLT, Nat.reduceLeDiff, Int.reduceLE, Int.reduceLT, Int.reduceToNat, Int.reduceBEq, Int.reduceBNe, Int.le_refl, Nat.le_refl, decide_true, decide_false, Int.cast_ofNat_Int, ↓reduceIte, h3334, g3336, h3339]
  refine Wp_weaken (Wk_ownS 12 2 rfl (by decide) (by decide)) ?_
  simp -implicitDefEqProofs only [go_sem, ne_eq, not_false_eq_true, Nat.reduceBEq, Nat.reduceAdd, Nat.reduceSub, Nat.reduceMul, Nat.reduceLT, Nat.reduceLeDiff, Int.reduceLE, Int.reduceLT, Int.reduceToNat, Int.reduceBEq, Int.reduceBNe, Int.le_refl, Nat.le_refl, decide_true, decide_false, Int.cast_ofNat_Int, ↓reduceIte, h3334, g3336, h3339]
  have hh := bnd'_some h; clear h; obtain ⟨o3726, h3727, h3728⟩ := hh
  refine Wp_cut (fun s => ∃ n3407, ∃ n3408, ∃ c3409, ∃ c3410, (n3407, n3408, c3409, c3410) = o3726 ∧ s = ⟨[], [(0, .dead), (1, .v (.int .u8 x3331)), (2, .v (.int .i8 x3332)), (3, .v (.int .i8 x3333)), (4, .dead), (8, .dead), (9, .v (.lst false n3340 c3341)), (10, .v (.int .i64 ((n3340 : Nat) : Int))), (11, .sl false 0 0 n3407 2), (12, .sl false 1 0 n3408 2), (13, .dead), (14, .dead), (15, .dead), (16, .dead), (17, .dead), (18, .dead), (19, .dead), (20, .dead), (21, .dead), (22, .dead), (23, .dead), (24, .dead), (25, .dead), (26, .dead), (27, .dead), (28, .dead), (29, .dead), (30, .dead), (36, .dead), (37, .dead), (38, .dead), (153, .dead), (154, .dead), (155, .dead), (156, .dead), (157, .dead), (196, .dead)], [(0, .p c3409), (1, .p c3410)], 2, []⟩) ?_ ?_
  · refine Wp_block ?_
    refine Wp_loopG (fun n s => ∃ n3380, ∃ n3381, ∃ x3382, ∃ c3383, ∃ c3384, m10_L0 N x3331 x3332 x3333 n3340 c3341 n n3380 n3381 x3382 c3383 c3384 = some o3726 ∧ s = ⟨[], [(0, .dead), (1, .v (.int .u8 x3331)), (2, .v (.int .i8 x3332)), (3, .v (.int .i8 x3333)), (4, .dead), (8, .dead), (9, .v (.lst false n3340 c3341)), (10, .v (.int .i64 ((n3340 : Nat) : Int))), (11, .sl false 0 0 n3380 2), (12, .sl false 1 0 n3381 2), (13, .dead), (14, .dead), (15, .dead), (16, .dead), (17, .dead), (18, .dead), (19, .dead), (20, .dead), (21, .dead), (22, .dead), (23, .dead), (24, .dead), (25, .dead), (26, .dead), (27, .dead), (28, .dead), (29, .dead), (30, .dead), (36, .v (.int .i64 ((n3340 : Nat) : Int))), (37, .v (.int .i64 x3382)), (38, .dead), (153, .dead), (154, .dead), (155, .dead), (156, .dead), (157, .dead), (196, .dead)], [(0, .p c3383), (1, .p c3384)], 2, []⟩) N _ ((Wk_le (.cons _ _ _ _ _ (.dead _) (.cons _ _ _ _ _ (.refl _) (.cons _ _ _ _ _ (.refl _) (.cons _ _ _ _ _ (.refl _) (.cons _ _ _ _ _ (.dead _) (.cons _ _ _ _ _ (.dead _) (.cons _ _ _ _ _ (.refl _) (.cons _ _ _ _ _ (.refl _) (.cons _ _ _ _ _ (.refl _) (.cons _ _ _ _ _ (.refl _) (.cons _ _ _ _ _ (.refl _) (.cons _ _ _ _ _ (.refl _) (.cons _ _ _ _ _ (.refl _) (.cons _ _ _ _ _ (.refl _) (.cons _ _ _ _ _ (.refl _) (.cons _ _ _ _ _ (.refl _) (.cons _ _ _ _ _ (.refl _) (.cons _ _ _ _ _ (.refl _) (.cons _ _ _ _ _ (.refl _) (.cons _ _ _ _ _ (.refl _) (.cons _ _ _ _ _ (.refl _) (.cons _ _ _ _ _ (.refl _) (.cons _ _ _ _ _ (.refl _) (.cons _ _ _ _ _ (.refl _) (.cons _ _ _ _ _ (.refl _) (.cons _ _ _ _ _ (.refl _) (.cons _ _ _ _ _ (.refl _) (.cons _ _ _ _ _ (.refl _) (.cons _ _ _ _ _ (.refl _) (.cons _ _ _ _ _ (.refl _) (.cons _ _ _ _ _ (.refl _) (.cons _ _ _ _ _ (.refl _) (.cons _ _ _ _ _ (.refl _) (.cons _ _ _ _ _ (.refl _) (.cons _ _ _ _ _ (.refl _) (.cons _ _ _ _ _ (.refl _) (.cons _ _ _ _ _ (.refl _) .nil))))))))))))))))))))))))))))))))))))) (OLe.refl _)).trans (cmpS_ok (st' := ⟨[], [(0, .dead), (1, .v (.int .u8 x3331)), (2, .v (.int .i8 x3332)), (3, .v (.int .i8 x3333)), (4, .dead), (8, .dead), (9, .v (.lst false n3340 c3341)), (10, .v (.int .i64 ((n3340 : Nat) : Int))), (11, .sl false 0 0 0 2), (12, .sl false 1 0 0 2), (13, .dead), (14, .dead), (15, .dead), (16, .dead), (17, .dead), (18, .dead), (19, .dead), (20, .dead), (21, .dead), (22, .dead), (23, .dead), (24, .dead), (25, .dead), (26, .dead), (27, .dead), (28, .dead), (29, .dead), (30, .dead), (36, .v (.int .i64 ((n3340 : Nat) : Int))), (37, .v (.int .i64 0)), (38, .dead), (153, .dead), (154, .dead), (155, .dead), (156, .dead), (157, .dead), (196, .dead)], [(0, .p []), (1, .p [])], 2, []⟩) (by kernel_rfl))) ⟨_, _, _, _, _, h3727, rfl⟩ ?_
    clear h3727
    rintro n _ ⟨n3380, n3381, x3382, c3383, c3384, h3727, rfl⟩
    cases n with
    | zero => cases h3727
    | succ n =>
      rw [m10_L0] at h3727
      have hh := brn_some h3727; clear h3727; rcases hh with ⟨h3385, h3727⟩ | ⟨h3385, h3727⟩
      · have hh := grd_some h3727; clear h3727; obtain ⟨g3386, h3727⟩ := hh
        have hh := grd_some h3727; clear h3727; obtain ⟨⟨g3387, g3388⟩, h3727⟩ := hh
        have hh := grd_some h3727; clear h3727; obtain ⟨g3389, h3727⟩ := hh
        have hh := getA2_some h3727; clear h3727; obtain ⟨p3391, p3392, h3390, h3727⟩ := hh
        injection h3390 with h3390
        have hh := grd_some h3727; clear h3727; obtain ⟨g3393, h3727⟩ := hh
        have hh := grd_some h3727; clear h3727; obtain ⟨g3394, h3727⟩ := hh
        have hh := grd_some h3727; clear h3727; obtain ⟨⟨g3395, g3396⟩, h3727⟩ := hh
        have hh := grd_some h3727; clear h3727; obtain ⟨g3397, h3727⟩ := hh
        have hh := getI_some h3727; clear h3727; obtain ⟨x3399, h3398, h3727⟩ := hh
        have hh := grd_some h3727; clear h3727; obtain ⟨g3400, h3727⟩ := hh
        have hh := grd_some h3727; clear h3727; obtain ⟨g3401, h3727⟩ := hh
        have hh := getI_some h3727; clear h3727; obtain ⟨x3403, h3402, h3727⟩ := hh
        have hh := grd_some h3727; clear h3727; obtain ⟨g3404, h3727⟩ := hh
        have hh := grd_some h3727; clear h3727; obtain ⟨g3405, h3727⟩ := hh
        have hh := grd_some h3727; clear h3727; obtain ⟨g3406, h3727⟩ := hh
        refine W_sound tab_ok mixed 60 _ _ _ ?_
        simp -implicitDefEqProofs only [go_sem, ne_eq, not_false_eq_true, Nat.reduceBEq, Nat.reduceAdd, Nat.reduceSub, Nat.reduceMul, Nat.reduceLT, Nat.reduceLeDiff, Int.reduceLE, Int.reduceLT, Int.reduceToNat, Int.reduceBEq, Int.reduceBNe, Int.le_refl, Nat.le_refl, decide_true, decide_false, Int.cast_ofNat_Int, ↓reduceIte, h3334, g3336, h3339, h3385, g3386, g3387, g3388, g3389, h3390, g3393, g3394, g3395, g3396, g3397, h3398, g3400, g3401, h3402, g3404, g3405, g3406]
        repeat with_reducible refine And.intro (by first | kernel_rfl | decide) ?_
        exact cutQ _ ((Wk_le (.cons _ _ _ _ _ (.refl _) (.cons _ _ _ _ _ (.refl _) (.cons _ _ _ _ _ (.refl _) (.cons _ _ _ _ _ (.refl _) (.cons _ _ _ _ _ (.refl _) (.cons _ _ _ _ _ (.refl _) (.cons _ _ _ _ _ (.refl _) (.cons _ _ _ _ _ (.refl _) (.cons _ _ _ _ _ (.refl _) (.cons _ _ _ _ _ (.refl _) (.cons _ _ _ _ _ (.dead _) (.cons _ _ _ _ _ (.refl _) (.cons _ _ _ _ _ (.refl _) (.cons _ _ _ _ _ (.refl _) (.cons _ _ _ _ _ (.refl _) (.cons _ _ _ _ _ (.refl _) (.cons _ _ _ _ _ (.refl _) (.cons _ _ _ _ _ (.refl _) (.cons _ _ _ _ _ (.refl _) (.cons _ _ _ _ _ (.refl _) (.cons _ _ _ _ _ (.refl _) (.cons _ _ _ _ _ (.refl _) (.cons _ _ _ _ _ (.refl _) (.cons _ _ _ _ _ (.refl _) (.cons _ _ _ _ _ (.refl _) (.cons _ _ _ _ _ (.refl _) (.cons _ _ _ _ _ (.refl _) (.cons _ _ _ _ _ (.refl _) (.cons _ _ _ _ _ (.refl _) (.cons _ _ _ _ _ (.refl _) (.cons _ _ _ _ _ (.dead _) (.cons _ _ _ _ _ (.refl _) (.cons _ _ _ _ _ (.refl _) (.cons _ _ _ _ _ (.refl _) (.cons _ _ _ _ _ (.refl _) (.cons _ _ _ _ _ (.refl _) (.cons _ _ _ _ _ (.refl _) .nil))))))))))))))))))))))))))))))))))))) (OLe.refl _)).trans (cmpS_ok (st' := ⟨[], [(0, .dead), (1, .v (.int .u8 x3331)), (2, .v (.int .i8 x3332)), (3, .v (.int .i8 x3333)), (4, .dead), (8, .dead), (9, .v (.lst false n3340 c3341)), (10, .v (.int .i64 ((n3340 : Nat) : Int))), (11, .sl false 0 0 (n3380 + 1) 2), (12, .sl false 1 0 (n3381 + 1) 2), (13, .dead), (14, .dead), (15, .dead), (16, .dead), (17, .dead), (18, .dead), (19, .dead), (20, .dead), (21, .dead), (22, .dead), (23, .dead), (24, .dead), (25, .dead), (26, .dead), (27, .dead), (28, .dead), (29, .dead), (30, .dead), (36, .v (.int .i64 ((n3340 : Nat) : Int))), (37, .v (.int .i64 (IntKind.i64.wrap (x3382 + 1)))), (38, .dead), (153, .dead), (154, .dead), (155, .dead), (156, .dead), (157, .dead), (196, .dead)], [(0, .p (c3383 ++ [p3391, p3392])), (1, .p (c3384 ++ [(.int .i64 (IntKind.i64.wrap (x3399 + (Int.tmod (IntKind.i64.wrap x3332) 51)))), (.int .i64 (IntKind.i64.wrap (x3403 + (Int.tmod (IntKind.i64.wrap x3333) 6))))]))], 2, []⟩) (by kernel_rfl))) ⟨n, Nat.lt_succ_self n, _, _, _, _, _, h3727, rfl⟩
      · refine W_sound tab_ok mixed 7 _ _ _ ?_
        simp -implicitDefEqProofs only [go_sem, ne_eq, not_false_eq_true, Nat.reduceBEq, Nat.reduceAdd, Nat.reduceSub, Nat.reduceMul, Nat.reduceLT, Nat.reduceLeDiff, Int.reduceLE, Int.reduceLT, Int.reduceToNat, Int.reduceBEq, Int.reduceBNe, Int.le_refl, Nat.le_refl, decide_true, decide_false, Int.cast_ofNat_Int, ↓reduceIte, h3334, g3336, h3339, h3385]
        repeat with_reducible refine And.intro (by first | kernel_rfl | decide) ?_
        obtain rfl := Option.some.inj h3727
        exact cutQ _ ((Wk_le (.cons _ _ _ _ _ (.refl _) (.cons _ _ _ _ _ (.refl _) (.cons _ _ _ _ _ (.refl _) (.cons _ _ _ _ _ (.refl _) (.cons _ _ _ _ _ (.refl _) (.cons _ _ _ _ _ (.refl _) (.cons _ _ _ _ _ (.refl _) (.cons _ _ _ _ _ (.refl _) (.cons _ _ _ _ _ (.refl _) (.cons _ _ _ _ _ (.refl _) (.cons _ _ _ _ _ (.refl _) (.cons _ _ _ _ _ (.refl _) (.cons _ _ _ _ _ (.refl _) (.cons _ _ _ _ _ (.refl _) (.cons _ _ _ _ _ (.refl _) (.cons _ _ _ _ _ (.refl _) (.cons _ _ _ _ _ (.refl _) (.cons _ _ _ _ _ (.refl _) (.cons _ _ _ _ _ (.refl _) (.cons _ _ _ _ _ (.refl _) (.cons _ _ _ _ _ (.refl _) (.cons _ _ _ _ _ (.refl _) (.cons _ _ _ _ _ (.refl _) (.cons _ _ _ _ _ (.refl _) (.cons _ _ _ _ _ (.refl _) (.cons _ _ _ _ _ (.refl _) (.cons _ _ _ _ _ (.refl _) (.cons _ _ _ _ _ (.refl _) (.cons _ _ _ _ _ (.dead _) (.cons _ _ _ _ _ (.dead _) (.cons _ _ _ _ _ (.dead _) (.cons _ _ _ _ _ (.refl _) (.cons _ _ _ _ _ (.refl _) (.cons _ _ _ _ _ (.refl _) (.cons _ _ _ _ _ (.refl _) (.cons _ _ _ _ _ (.refl _) (.cons _ _ _ _ _ (.refl _) .nil))))))))))))))))))))))))))))))))))))) (OLe.refl _)).trans (cmpS_ok (st' := ⟨[], [(0, .dead), (1, .v (.int .u8 x3331)), (2, .v (.int .i8 x3332)), (3, .v (.int .i8 x3333)), (4, .dead), (8, .dead), (9, .v (.lst false n3340 c3341)), (10, .v (.int .i64 ((n3340 : Nat) : Int))), (11, .sl false 0 0 n3380 2), (12, .sl false 1 0 n3381 2), (13, .dead), (14, .dead), (15, .dead), (16, .dead), (17, .dead), (18, .dead), (19, .dead), (20, .dead), (21, .dead), (22, .dead), (23, .dead), (24, .dead), (25, .dead), (26, .dead), (27, .dead), (28, .dead), (29, .dead), (30, .dead), (36, .dead), (37, .dead), (38, .dead), (153, .dead), (154, .dead), (155, .dead), (156, .dead), (157, .dead), (196, .dead)], [(0, .p c3383), (1, .p c3384)], 2, []⟩) (by kernel_rfl))) ⟨_, _, _, _, rfl, rfl⟩
  · rintro _ ⟨n3407, n3408, c3409, c3410, rfl, rfl⟩
    (try dsimp only at h3728)
    have hh := bnd'_some h3728; clear h3728; obtain ⟨⟨p3518, c3520⟩, h3519, h3728⟩ := hh
    (try dsimp only at h3728)
    refine W_sound tab_ok mixed 3 _ _ _ ?_
    simp -implicitDefEqProofs only [go_sem, ne_eq, not_false_eq_true, Nat.reduceBEq, Nat.reduceAdd, Nat.reduceSub, Nat.reduceMul, Nat.reduceLT, Nat.reduceLeDiff, Int.reduceLE, Int.reduceLT, Int.reduceToNat, Int.reduceBEq, Int.reduceBNe, Int.le_refl, Nat.le_refl, decide_true, decide_false, Int.cast_ofNat_Int, ↓reduceIte, h3334, g3336, h3339]
    repeat with_reducible refine And.intro (by first | kernel_rfl | decide) ?_
    refine Wp_callD [0] (c47 N _ _ _ _ h3519) rfl rfl rfl (by first | rfl | (simp only [go_sem, ne_eq, not_false_eq_true, Nat.reduceBEq, Nat.reduceAdd, Nat.reduceSub, Nat.reduceMul, Nat.reduceLT, Nat.reduceLeDiff, Int.reduceLE, Int.reduceLT, Int.reduceToNat, Int.reduceBEq, Int.reduceBNe, Int.le_refl, Nat.le_refl, decide_true, decide_false, Int.cast_ofNat_Int, ↓reduceIte, h3334, g3336, h3339] <;> rfl)) rfl (by kernel_rfl) ?_
    have hh := getT0_some h3728; clear h3728; obtain ⟨h3521, h3728⟩ := hh
    have hh := bnd'_some h3728; clear h3728; obtain ⟨p3522, h3523, h3728⟩ := hh
    refine W_sound tab_ok mixed 4 _ _ _ ?_
    simp -implicitDefEqProofs only [go_sem, ne_eq, not_false_eq_true, Nat.reduceBEq, Nat.reduceAdd, Nat.reduceSub, Nat.reduceMul, Nat.reduceLT, Nat.reduceLeDiff, Int.reduceLE, Int.reduceLT, Int.reduceToNat, Int.reduceBEq, Int.reduceBNe, Int.le_refl, Nat.le_refl, decide_true, decide_false, Int.cast_ofNat_Int, ↓reduceIte, h3334, g3336, h3339, h3521]
    repeat with_reducible refine And.intro (by first | kernel_rfl | decide) ?_
    refine Wp_callP (c24 N _ _ h3523) (by kernel_rfl) rfl rfl rfl rfl (by decide) ?_
    have hh := getT2_some h3728; clear h3728; obtain ⟨p3525, p3526, h3524, h3728⟩ := hh
    have hh := getL_some h3728; clear h3728; obtain ⟨n3528, c3529, h3527, h3728⟩ := hh
    have hh := getI_some h3728; clear h3728; obtain ⟨x3531, h3530, h3728⟩ := hh
    refine W_sound tab_ok mixed 7 _ _ _ ?_
    simp -implicitDefEqProofs only [go_sem, ne_eq, not_false_eq_true, Nat.reduceBEq, Nat.reduceAdd, Nat.reduceSub, Nat.reduceMul, Nat.reduceLT, Nat.reduceLeDiff, Int.reduceLE, Int.reduceLT, Int.reduceToNat, Int.reduceBEq, Int.reduceBNe, Int.le_refl, Nat.le_refl, decide_true, decide_false, Int.cast_ofNat_Int, ↓reduceIte, h3334, g3336, h3339, h3521, h3524, h3527, h3530]
    repeat with_reducible refine And.intro (by first | kernel_rfl | decide) ?_
    have hh := grd_some h3728; clear h3728; obtain ⟨g3532, h3728⟩ := hh
    refine Wp_wkK (Wk_freeze 0 c3520 (by rfl) (by decide) (by decide)) rfl ?_
    simp -implicitDefEqProofs only [go_sem, ne_eq, not_false_eq_true, Nat.reduceBEq, Nat.reduceAdd, Nat.reduceSub, Nat.reduceMul, Nat.reduceLT, Nat.reduceLeDiff, Int.reduceLE, Int.reduceLT, Int.reduceToNat, Int.reduceBEq, Int.reduceBNe, Int.le_refl, Nat.le_refl, decide_true, decide_false, Int.cast_ofNat_Int, ↓reduceIte, h3334, g3336, h3339, h3521, h3524, h3527, h3530, g3532]
    have hh := bnd'_some h3728; clear h3728; obtain ⟨p3533, h3534, h3728⟩ := hh
    refine W_sound tab_ok mixed 2 _ _ _ ?_
    simp -implicitDefEqProofs only [go_sem, ne_eq, not_false_eq_true, Nat.reduceBEq, Nat.reduceAdd, Nat.reduceSub, Nat.reduceMul, Nat.reduceLT, Nat.reduceLeDiff, Int.reduceLE, Int.reduceLT, Int.reduceToNat, Int.reduceBEq, Int.reduceBNe, Int.le_refl, Nat.le_refl, decide_true, decide_false, Int.cast_ofNat_Int, ↓reduceIte, h3334, g3336, h3339, h3521, h3524, h3527, h3530, g3532]
    repeat with_reducible refine And.intro (by first | kernel_rfl | decide) ?_
    refine Wp_callP (c24 N _ _ h3534) (by kernel_rfl) rfl rfl rfl rfl (by decide) ?_
    have hh := getT2_some h3728; clear h3728; obtain ⟨p3536, p3537, h3535, h3728⟩ := hh
    have hh := getL_some h3728; clear h3728; obtain ⟨n3539, c3540, h3538, h3728⟩ := hh
    have hh := getI_some h3728; clear h3728; obtain ⟨x3542, h3541, h3728⟩ := hh
    refine W_sound tab_ok mixed 7 _ _ _ ?_
    simp -implicitDefEqProofs only [go_sem, ne_eq, not_false_eq_true, Nat.reduceBEq, Nat.reduceAdd, Nat.reduceSub, Nat.reduceMul, Nat.reduceLT, Nat.reduceLeDiff, Int.reduceLE, Int.reduceLT, Int.reduceToNat, Int.reduceBEq, Int.reduceBNe, Int.le_refl, Nat.le_refl, decide_true, decide_false, Int.cast_ofNat_Int, ↓reduceIte, h3334, g3336, h3339, h3521, h3524, h3527, h3530, g3532, h3535, h3538, h3541]
    repeat with_reducible refine And.intro (by first | kernel_rfl | decide) ?_
    have hh := grd_some h3728; clear h3728; obtain ⟨g3543, h3728⟩ := hh
    refine Wp_wkK (Wk_freeze 1 c3410 (by rfl) (by decide) (by decide)) rfl ?_
    simp -implicitDefEqProofs only [go_sem, ne_eq, not_false_eq_true, Nat.reduceBEq, Nat.reduceAdd, Nat.reduceSub, Nat.reduceMul, Nat.reduceLT, Nat.reduceLeDiff, Int.reduceLE, Int.reduceLT, Int.reduceToNat, Int.reduceBEq, Int.reduceBNe, Int.le_refl, Nat.le_refl, decide_true, decide_false, Int.cast_ofNat_Int, ↓reduceIte, h3334, g3336, h3339, h3521, h3524, h3527, h3530, g3532, h3535, h3538, h3541, g3543]
    have hh := bnd'_some h3728; clear h3728; obtain ⟨p3544, h3545, h3728⟩ := hh
    refine W_sound tab_ok mixed 2 _ _ _ ?_
    simp -implicitDefEqProofs only [go_sem, ne_eq, not_false_eq_true, Nat.reduceBEq, Nat.reduceAdd, Nat.reduceSub, Nat.reduceMul, Nat.reduceLT, Nat.reduceLeDiff, Int.reduceLE, Int.reduceLT, Int.reduceToNat, Int.reduceBEq, Int.reduceBNe, Int.le_refl, Nat.le_refl, decide_true, decide_false, Int.cast_ofNat_Int, ↓reduceIte, h3334, g3336, h3339, h3521, h3524, h3527, h3530, g3532, h3535, h3538, h3541, g3543]
    repeat with_reducible refine And.intro (by first | kernel_rfl | decide) ?_
    refine Wp_callP (c24 N _ _ h3545) (by kernel_rfl) rfl rfl rfl rfl (by decide) ?_
    have hh := getT2_some h3728; clear h3728; obtain ⟨p3547, p3548, h3546, h3728⟩ := hh
    have hh := getL_some h3728; clear h3728; obtain ⟨n3550, c3551, h3549, h3728⟩ := hh
    have hh := getI_some h3728; clear h3728; obtain ⟨x3553, h3552, h3728⟩ := hh
    have hh := bnd'_some h3728; clear h3728; obtain ⟨p3554, h3555, h3728⟩ := hh
    refine W_sound tab_ok mixed 9 _ _ _ ?_
    simp -implicitDefEqProofs only [go_sem, ne_eq, not_false_eq_true, Nat.reduceBEq, Nat.reduceAdd, Nat.reduceSub, Nat.reduceMul, Nat.reduceLT, Nat.reduceLeDiff, Int.reduceLE, Int.reduceLT, Int.reduceToNat, Int.reduceBEq, Int.reduceBNe, Int.le_refl, Nat.le_refl, decide_true, decide_false, Int.cast_ofNat_Int, ↓reduceIte, h3334, g3336, h3339, h3521, h3524, h3527, h3530, g3532, h3535, h3538, h3541, g3543, h3546, h3549, h3552]
    repeat with_reducible refine And.intro (by first | kernel_rfl | decide) ?_
    refine Wp_callP (c26 N _ _ h3555) (by kernel_rfl) rfl rfl rfl rfl (by decide) ?_
    have hh := getT2_some h3728; clear h3728; obtain ⟨p3557, p3558, h3556, h3728⟩ := hh
    have hh := getL_some h3728; clear h3728; obtain ⟨n3560, c3561, h3559, h3728⟩ := hh
    have hh := getI_some h3728; clear h3728; obtain ⟨x3563, h3562, h3728⟩ := hh
    have hh := bnd'_some h3728; clear h3728; obtain ⟨p3564, h3565, h3728⟩ := hh
    refine W_sound tab_ok mixed 9 _ _ _ ?_
    simp -implicitDefEqProofs only [go_sem, ne_eq, not_false_eq_true, Nat.reduceBEq, Nat.reduceAdd, Nat.reduceSub, Nat.reduceMul, Nat.reduceLT, Nat.reduceLeDiff, Int.reduceLE, Int.reduceLT, Int.reduceToNat, Int.reduceBEq, Int.reduceBNe, Int.le_refl, Nat.le_refl, decide_true, decide_false, Int.cast_ofNat_Int, ↓reduceIte, h3334, g3336, h3339, h3521, h3524, h3527, h3530, g3532, h3535, h3538, h3541, g3543, h3546, h3549, h3552, h3556, h3559, h3562]
    repeat with_reducible refine And.intro (by first | kernel_rfl | decide) ?_
    refine Wp_callP (c26 N _ _ h3565) (by kernel_rfl) rfl rfl rfl rfl (by decide) ?_
    have hh := getT2_some h3728; clear h3728; obtain ⟨p3567, p3568, h3566, h3728⟩ := hh
    have hh := getL_some h3728; clear h3728; obtain ⟨n3570, c3571, h3569, h3728⟩ := hh
    have hh := getI_some h3728; clear h3728; obtain ⟨x3573, h3572, h3728⟩ := hh
    have hh := bnd'_some h3728; clear h3728; obtain ⟨p3574, h3575, h3728⟩ := hh
    refine W_sound tab_ok mixed 9 _ _ _ ?_
    simp -implicitDefEqProofs only [go_sem, ne_eq, not_false_eq_true, Nat.reduceBEq, Nat.reduceAdd, Nat.reduceSub, Nat.reduceMul, Nat.reduceLT, Nat.reduceLeDiff, Int.reduceLE, Int.reduceLT, Int.reduceToNat, Int.reduceBEq, Int.reduceBNe, Int.le_refl, Nat.le_refl, decide_true, decide_false, Int.cast_ofNat_Int, ↓reduceIte, h3334, g3336, h3339, h3521, h3524, h3527, h3530, g3532, h3535, h3538, h3541, g3543, h3546, h3549, h3552, h3556, h3559, h3562, h3566, h3569, h3572]
    repeat with_reducible refine And.intro (by first | kernel_rfl | decide) ?_
    refine Wp_callP (c26 N _ _ h3575) (by kernel_rfl) rfl rfl rfl rfl (by decide) ?_
    have hh := getT2_some h3728; clear h3728; obtain ⟨p3577, p3578, h3576, h3728⟩ := hh
    have hh := getL_some h3728; clear h3728; obtain ⟨n3580, c3581, h3579, h3728⟩ := hh
    have hh := getI_some h3728; clear h3728; obtain ⟨x3583, h3582, h3728⟩ := hh
    have hh := brn_some h3728; clear h3728; rcases hh with ⟨h3584, h3728⟩ | ⟨h3584, h3728⟩
    · refine W_sound tab_ok mixed 64 _ _ _ ?_
      simp -implicitDefEqProofs only [go_sem, ne_eq, not_false_eq_true, Nat.reduceBEq, Nat.reduceAdd, Nat.reduceSub, Nat.reduceMul, Nat.reduceLT, Nat.reduceLeDiff, Int.reduceLE, Int.reduceLT, Int.reduceToNat, Int.reduceBEq, Int.reduceBNe, Int.le_refl, Nat.le_refl, decide_true, decide_false, Int.cast_ofNat_Int, ↓reduceIte, h3334, g3336, h3339, h3521, h3524, h3527, h3530, g3532, h3535, h3538, h3541, g3543, h3546, h3549, h3552, h3556, h3559, h3562, h3566, h3569, h3572, h3576, h3579, h3582, h3584]
      repeat with_reducible refine And.intro (by first | kernel_rfl | decide) ?_
      obtain rfl := Option.some.inj h3728
      exact finC [(8, .v (.bool false))] [(8, .v (.bool false))] (by simp [leE, lk_cons]) (.cons _ _ _ _ _ (.v _ _ (.refl _)) .nil) (by rfl) (by simp [leE, lk_cons]) (by decide) (by decide) rfl (by simp only [go_sem, ne_eq, not_false_eq_true, Nat.reduceBEq, Nat.reduceAdd, Nat.reduceSub, Nat.reduceMul, Nat.reduceLT, Nat.reduceLeDiff, Int.reduceLE, Int.reduceLT, Int.reduceToNat, Int.reduceBEq, Int.reduceBNe, Int.le_refl, Nat.le_refl, decide_true, decide_false, Int.cast_ofNat_Int, ↓reduceIte, resQ_tmp, resQ_cell, resQ_nil, retD_one, retD_two, retD_three, retD_none]; try simp [R.val, retD_one, retD_two, retD_three, retD_none])
    · have hh := brn_some h3728; clear h3728; rcases hh with ⟨h3585, h3728⟩ | ⟨h3585, h3728⟩
      · refine W_sound tab_ok mixed 64 _ _ _ ?_
        simp -implicitDefEqProofs only [go_sem, ne_eq, not_false_eq_true, Nat.reduceBEq, Nat.reduceAdd, Nat.reduceSub, Nat.reduceMul, Nat.reduceLT, Nat.reduceLeDiff, Int.reduceLE, Int.reduceLT, Int.reduceToNat, Int.reduceBEq, Int.reduceBNe, Int.le_refl, Nat.le_refl, decide_true, decide_false, Int.cast_ofNat_Int, ↓reduceIte, h3334, g3336, h3339, h3521, h3524, h3527, h3530, g3532, h3535, h3538, h3541, g3543, h3546, h3549, h3552, h3556, h3559, h3562, h3566, h3569, h3572, h3576, h3579, h3582, h3584, h3585]
        repeat with_reducible refine And.intro (by first | kernel_rfl | decide) ?_
        obtain rfl := Option.some.inj h3728
        exact finC [(8, .v (.bool false))] [(8, .v (.bool false))] (by simp [leE, lk_cons]) (.cons _ _ _ _ _ (.v _ _ (.refl _)) .nil) (by rfl) (by simp [leE, lk_cons]) (by decide) (by decide) rfl (by simp only [go_sem, ne_eq, not_false_eq_true, Nat.reduceBEq, Nat.reduceAdd, Nat.reduceSub, Nat.reduceMul, Nat.reduceLT, Nat.reduceLeDiff, Int.reduceLE, Int.reduceLT, Int.reduceToNat, Int.reduceBEq, Int.reduceBNe, Int.le_refl, Nat.le_refl, decide_true, decide_false, Int.cast_ofNat_Int, ↓reduceIte, resQ_tmp, resQ_cell, resQ_nil, retD_one, retD_two, retD_three, retD_none]; try simp [R.val, retD_one, retD_two, retD_three, retD_none])
      · have hh := brn_some h3728; clear h3728; rcases hh with ⟨h3586, h3728⟩ | ⟨h3586, h3728⟩
        · refine W_sound tab_ok mixed 64 _ _ _ ?_
          simp -implicitDefEqProofs only [go_sem, ne_eq, not_false_eq_true, Nat.reduceBEq, Nat.reduceAdd, Nat.reduceSub, Nat.reduceMul, Nat.reduceLT, Nat.reduceLeDiff, Int.reduceLE, Int.reduceLT, Int.reduceToNat, Int.reduceBEq, Int.reduceBNe, Int.le_refl, Nat.le_refl, decide_true, decide_false, Int.cast_ofNat_Int, ↓reduceIte, h3334, g3336, h3339, h3521, h3524, h3527, h3530, g3532, h3535, h3538, h3541, g3543, h3546, h3549, h3552, h3556, h3559, h3562, h3566, h3569, h3572, h3576, h3579, h3582, h3584, h3585, h3586]
          repeat with_reducible refine And.intro (by first | kernel_rfl | decide) ?_
          obtain rfl := Option.some.inj h3728
          exact finC [(8, .v (.bool false))] [(8, .v (.bool false))] (by simp [leE, lk_cons]) (.cons _ _ _ _ _ (.v _ _ (.refl _)) .nil) (by rfl) (by simp [leE, lk_cons]) (by decide) (by decide) rfl (by simp only [go_sem, ne_eq, not_false_eq_true, Nat.reduceBEq, Nat.reduceAdd, Nat.reduceSub, Nat.reduceMul, Nat.reduceLT, Nat.reduceLeDiff, Int.reduceLE, Int.reduceLT, Int.reduceToNat, Int.reduceBEq, Int.reduceBNe, Int.le_refl, Nat.le_refl, decide_true, decide_false, Int.cast_ofNat_Int, ↓reduceIte, resQ_tmp, resQ_cell, resQ_nil, retD_one, retD_two, retD_three, retD_none]; try simp [R.val, retD_one, retD_two, retD_three, retD_none])
        · have hh := brn_some h3728; clear h3728; rcases hh with ⟨h3587, h3728⟩ | ⟨h3587, h3728⟩
          · refine W_sound tab_ok mixed 64 _ _ _ ?_
            simp -implicitDefEqProofs only [go_sem, ne_eq, not_false_eq_true, Nat.reduceBEq, Nat.reduceAdd, Nat.reduceSub, Nat.reduceMul, Nat.reduceLT, Nat.reduceLeDiff, Int.reduceLE, Int.reduceLT, Int.reduceToNat, Int.reduceBEq, Int.reduceBNe, Int.le_refl, Nat.le_refl, decide_true, decide_false, Int.cast_ofNat_Int, ↓reduceIte, h3334, g3336, h3339, h3521, h3524, h3527, h3530, g3532, h3535, h3538, h3541, g3543, h3546, h3549, h3552, h3556, h3559, h3562, h3566, h3569, h3572, h3576, h3579, h3582, h3584, h3585, h3586, h3587]
            repeat with_reducible refine And.intro (by first | kernel_rfl | decide) ?_
            obtain rfl := Option.some.inj h3728
            exact finC [(8, .v (.bool false))] [(8, .v (.bool false))] (by simp [leE, lk_cons]) (.cons _ _ _ _ _ (.v _ _ (.refl _)) .nil) (by rfl) (by simp [leE, lk_cons]) (by decide) (by decide) rfl (by simp only [go_sem, ne_eq, not_false_eq_true, Nat.reduceBEq, Nat.reduceAdd, Nat.reduceSub, Nat.reduceMul, Nat.reduceLT, Nat.reduceLeDiff, Int.reduceLE, Int.reduceLT, Int.reduceToNat, Int.reduceBEq, Int.reduceBNe, Int.le_refl, Nat.le_refl, decide_true, decide_false, Int.cast_ofNat_Int, ↓reduceIte, resQ_tmp, resQ_cell, resQ_nil, retD_one, retD_two, retD_three, retD_none]; try simp [R.val, retD_one, retD_two, retD_three, retD_none])
          · have hh := brn_some h3728; clear h3728; rcases hh with ⟨h3588, h3728⟩ | ⟨h3588, h3728⟩
            · refine W_sound tab_ok mixed 64 _ _ _ ?_
              simp -implicitDefEqProofs only [go_sem, ne_eq, not_false_eq_true, Nat.reduceBEq, Nat.reduceAdd, Nat.reduceSub, Nat.reduceMul, Nat.reduceLT, Nat.reduceLeDiff, Int.reduceLE, Int.reduceLT, Int.reduceToNat, Int.reduceBEq, Int.reduceBNe, Int.le_refl, Nat.le_refl, decide_true, decide_false, Int.cast_ofNat_Int, ↓reduceIte, h3334, g3336, h3339, h3521, h3524, h3527, h3530, g3532, h3535, h3538, h3541, g3543, h3546, h3549, h3552, h3556, h3559, h3562, h3566, h3569, h3572, h3576, h3579, h3582, h3584, h3585, h3586, h3587, h3588]
              repeat with_reducible refine And.intro (by first | kernel_rfl | decide) ?_
              obtain rfl := Option.some.inj h3728
              exact finC [(8, .v (.bool false))] [(8, .v (.bool false))] (by simp [leE, lk_cons]) (.cons _ _ _ _ _ (.v _ _ (.refl _)) .nil) (by rfl) (by simp [leE, lk_cons]) (by decide) (by decide) rfl (by simp only [go_sem, ne_eq, not_false_eq_true, Nat.reduceBEq, Nat.reduceAdd, Nat.reduceSub, Nat.reduceMul, Nat.reduceLT, Nat.reduceLeDiff, Int.reduceLE, Int.reduceLT, Int.reduceToNat, Int.reduceBEq, Int.reduceBNe, Int.le_refl, Nat.le_refl, decide_true, decide_false, Int.cast_ofNat_Int, ↓reduceIte, resQ_tmp, resQ_cell, resQ_nil, retD_one, retD_two, retD_three, retD_none]; try simp [R.val, retD_one, retD_two, retD_three, retD_none])
            · have hh := brn_some h3728; clear h3728; rcases hh with ⟨h3589, h3728⟩ | ⟨h3589, h3728⟩
              · refine W_sound tab_ok mixed 64 _ _ _ ?_
                simp -implicitDefEqProofs only [go_sem, ne_eq, not_false_eq_true, Nat.reduceBEq, Nat.reduceAdd, Nat.reduceSub, Nat.reduceMul, Nat.reduceLT, Nat.reduceLeDiff, Int.reduceLE, Int.reduceLT, Int.reduceToNat, Int.reduceBEq, Int.reduceBNe, Int.le_refl, Nat.le_refl, decide_true, decide_false, Int.cast_ofNat_Int, ↓reduceIte, h3334, g3336, h3339, h3521, h3524, h3527, h3530, g3532, h3535, h3538, h3541, g3543, h3546, h3549, h3552, h3556, h3559, h3562, h3566, h3569, h3572, h3576, h3579, h3582, h3584, h3585, h3586, h3587, h3588, h3589]
                repeat with_reducible refine And.intro (by first | kernel_rfl | decide) ?_
                obtain rfl := Option.some.inj h3728
                exact finC [(8, .v (.bool false))] [(8, .v (.bool false))] (by simp [leE, lk_cons]) (.cons _ _ _ _ _ (.v _ _ (.refl _)) .nil) (by rfl) (by simp [leE, lk_cons]) (by decide) (by decide) rfl (by simp only [go_sem, ne_eq, not_false_eq_true, Nat.reduceBEq, Nat.reduceAdd, Nat.reduceSub, Nat.reduceMul, Nat.reduceLT, Nat.reduceLeDiff, Int.reduceLE, Int.reduceLT, Int.reduceToNat, Int.reduceBEq, Int.reduceBNe, Int.le_refl, Nat.le_refl, decide_true, decide_false, Int.cast_ofNat_Int, ↓reduceIte, resQ_tmp, resQ_cell, resQ_nil, retD_one, retD_two, retD_three, retD_none]; try simp [R.val, retD_one, retD_two, retD_three, retD_none])
              · have hh := brn_some h3728; clear h3728; rcases hh with ⟨h3590, h3728⟩ | ⟨h3590, h3728⟩
                · refine W_sound tab_ok mixed 64 _ _ _ ?_
                  simp -implicitDefEqProofs only [go_sem, ne_eq, not_false_eq_true, Nat.reduceBEq, Nat.reduceAdd, Nat.reduceSub, Nat.reduceMul, Nat.reduceLT, Nat.reduceLeDiff, Int.reduceLE, Int.reduceLT, Int.reduceToNat, Int.reduceBEq, Int.reduceBNe, Int.le_refl, Nat.le_refl, decide_true, decide_false, Int.cast_ofNat_Int, ↓reduceIte, h3334, g3336, h3339, h3521, h3524, h3527, h3530, g3532, h3535, h3538, h3541, g3543, h3546, h3549, h3552, h3556, h3559, h3562, h3566, h3569, h3572, h3576, h3579, h3582, h3584, h3585, h3586, h3587, h3588, h3589, h3590]
                  repeat with_reducible refine And.intro (by first | kernel_rfl | decide) ?_
                  obtain rfl := Option.some.inj h3728
                  exact finC [(8, .v (.bool false))] [(8, .v (.bool false))] (by simp [leE, lk_cons]) (.cons _ _ _ _ _ (.v _ _ (.refl _)) .nil) (by rfl) (by simp [leE, lk_cons]) (by decide) (by decide) rfl (by simp only [go_sem, ne_eq, not_false_eq_true, Nat.reduceBEq, Nat.reduceAdd, Nat.reduceSub, Nat.reduceMul, Nat.reduceLT, Nat.reduceLeDiff, Int.reduceLE, Int.reduceLT, Int.reduceToNat, Int.reduceBEq, Int.reduceBNe, Int.le_refl, Nat.le_refl, decide_true, decide_false, Int.cast_ofNat_Int, ↓reduceIte, resQ_tmp, resQ_cell, resQ_nil, retD_one, retD_two, retD_three, retD_none]; try simp [R.val, retD_one, retD_two, retD_three, retD_none])
                · have hh := bnd'_some h3728; clear h3728; obtain ⟨p3591, h3592, h3728⟩ := hh
                  refine W_sound tab_ok mixed 41 _ _ _ ?_
                  simp -implicitDefEqProofs only [go_sem, ne_eq, not_false_eq_true, Nat.reduceBEq, Nat.reduceAdd, Nat.reduceSub, Nat.reduceMul, Nat.reduceLT, Nat.reduceLeDiff, Int.reduceLE, Int.reduceLT, Int.reduceToNat, Int.reduceBEq, Int.reduceBNe, Int.le_refl, Nat.le_refl, decide_true, decide_false, Int.cast_ofNat_Int, ↓reduceIte, h3334, g3336, h3339, h3521, h3524, h3527, h3530, g3532, h3535, h3538, h3541, g3543, h3546, h3549, h3552, h3556, h3559, h3562, h3566, h3569, h3572, h3576, h3579, h3582, h3584, h3585, h3586, h3587, h3588, h3589, h3590]
                  repeat with_reducible refine And.intro (by first | kernel_rfl | decide) ?_
                  refine Wp_callP (c21 N _ _ _ h3592) (by kernel_rfl) rfl rfl rfl rfl (by decide) ?_
                  have hh := getB_some h3728; clear h3728; obtain ⟨b3594, h3593, h3728⟩ := hh
                  have hh := brn_some h3728; clear h3728; rcases hh with ⟨h3595, h3728⟩ | ⟨h3595, h3728⟩
                  · have hh := bnd'_some h3728; clear h3728; obtain ⟨p3631, h3632, h3728⟩ := hh
                    refine W_sound tab_ok mixed 5 _ _ _ ?_
                    simp -implicitDefEqProofs only [go_sem, ne_eq, not_false_eq_true, Nat.reduceBEq, Nat.reduceAdd, Nat.reduceSub, Nat.reduceMul, Nat.reduceLT, Nat.reduceLeDiff, Int.reduceLE, Int.reduceLT, Int.reduceToNat, Int.reduceBEq, Int.reduceBNe, Int.le_refl, Nat.le_refl, decide_true, decide_false, Int.cast_ofNat_Int, ↓reduceIte, h3334, g3336, h3339, h3521, h3524, h3527, h3530, g3532, h3535, h3538, h3541, g3543, h3546, h3549, h3552, h3556, h3559, h3562, h3566, h3569, h3572, h3576, h3579, h3582, h3584, h3585, h3586, h3587, h3588, h3589, h3590, h3593, h3595]
                    repeat with_reducible refine And.intro (by first | kernel_rfl | decide) ?_
                    refine Wp_callP (c45 N _ _ _ h3632) (by kernel_rfl) rfl rfl rfl rfl (by decide) ?_
                    have hh := getB_some h3728; clear h3728; obtain ⟨b3634, h3633, h3728⟩ := hh
                    have hh := brn_some h3728; clear h3728; rcases hh with ⟨h3635, h3728⟩ | ⟨h3635, h3728⟩
                    · have hh := bnd'_some h3728; clear h3728; obtain ⟨p3636, h3637, h3728⟩ := hh
                      refine W_sound tab_ok mixed 5 _ _ _ ?_
                      simp -implicitDefEqProofs only [go_sem, ne_eq, not_false_eq_true, Nat.reduceBEq, Nat.reduceAdd, Nat.reduceSub, Nat.reduceMul, Nat.reduceLT, Nat.reduceLeDiff, Int.reduceLE, Int.reduceLT, Int.reduceToNat, Int.reduceBEq, Int.reduceBNe, Int.le_refl, Nat.le_refl, decide_true, decide_false, Int.cast_ofNat_Int, ↓reduceIte, h3334, g3336, h3339, h3521, h3524, h3527, h3530, g3532, h3535, h3538, h3541, g3543, h3546, h3549, h3552, h3556, h3559, h3562, h3566, h3569, h3572, h3576, h3579, h3582, h3584, h3585, h3586, h3587, h3588, h3589, h3590, h3593, h3595, h3633, h3635]
                      repeat with_reducible refine And.intro (by first | kernel_rfl | decide) ?_
                      refine Wp_callP (c45 N _ _ _ h3637) (by kernel_rfl) rfl rfl rfl rfl (by decide) ?_
                      have hh := getB_some h3728; clear h3728; obtain ⟨b3639, h3638, h3728⟩ := hh
                      have hh := brn_some h3728; clear h3728; rcases hh with ⟨h3640, h3728⟩ | ⟨h3640, h3728⟩
                      · refine W_sound tab_ok mixed 12 _ _ _ ?_
                        simp -implicitDefEqProofs only [go_sem, ne_eq, not_false_eq_true, Nat.reduceBEq, Nat.reduceAdd, Nat.reduceSub, Nat.reduceMul, Nat.reduceLT, Nat.reduceLeDiff, Int.reduceLE, Int.reduceLT, Int.reduceToNat, Int.reduceBEq, Int.reduceBNe, Int.le_refl, Nat.le_refl, decide_true, decide_false, Int.cast_ofNat_Int, ↓reduceIte, h3334, g3336, h3339, h3521, h3524, h3527, h3530, g3532, h3535, h3538, h3541, g3543, h3546, h3549, h3552, h3556, h3559, h3562, h3566, h3569, h3572, h3576, h3579, h3582, h3584, h3585, h3586, h3587, h3588, h3589, h3590, h3593, h3595, h3633, h3635, h3638, h3640]
                        repeat with_reducible refine And.intro (by first | kernel_rfl | decide) ?_
                        have hh := bnd'_some h3728; clear h3728; obtain ⟨o3729, h3730, h3731⟩ := hh
                        refine Wp_cut (fun s => (.inr ()) = o3729 ∧ s = ⟨[], [(0, .dead), (1, .v (.int .u8 x3331)), (2, .v (.int .i8 x3332)), (3, .v (.int .i8 x3333)), (4, .dead), (8, .dead), (9, .v (.lst false n3340 c3341)), (10, .dead), (11, .dead), (12, .v (.lst false n3408 c3410)), (13, .dead), (14, .dead), (15, .dead), (16, .dead), (17, .dead), (18, .dead), (19, .dead), (20, .dead), (21, .dead), (22, .dead), (23, .dead), (24, .dead), (25, .dead), (26, .dead), (27, .dead), (28, .dead), (29, .dead), (30, .dead), (36, .dead), (37, .dead), (38, .dead), (153, .dead), (154, .dead), (155, .dead), (156, .dead), (157, .dead), (196, .dead)], [], 0, []⟩) ?_ ?_
                        · refine Wp_block ?_
                          refine Wp_loopG (fun n s => ∃ x3641, m10_L1 N x3331 x3332 x3333 n3340 c3341 n3407 n3408 c3410 c3520 n3528 c3529 n3539 c3540 n x3641 = some o3729 ∧ s = ⟨[], [(0, .dead), (1, .v (.int .u8 x3331)), (2, .v (.int .i8 x3332)), (3, .v (.int .i8 x3333)), (4, .dead), (8, .dead), (9, .v (.lst false n3340 c3341)), (10, .v (.int .i64 ((n3340 : Nat) : Int))), (11, .v (.lst false n3407 c3520)), (12, .v (.lst false n3408 c3410)), (13, .dead), (14, .v (.lst false n3528 c3529)), (15, .dead), (16, .dead), (17, .dead), (18, .dead), (19, .dead), (20, .dead), (21, .dead), (22, .dead), (23, .dead), (24, .dead), (25, .dead), (26, .dead), (27, .dead), (28, .dead), (29, .dead), (30, .dead), (36, .dead), (37, .dead), (38, .dead), (153, .dead), (154, .v (.lst false n3539 c3540)), (155, .v (.int .i64 ((n3539 : Nat) : Int))), (156, .v (.int .i64 x3641)), (157, .dead), (196, .dead)], [], 0, []⟩) N _ ((Wk_le (.cons _ _ _ _ _ (.refl _) (.cons _ _ _ _ _ (.refl _) (.cons _ _ _ _ _ (.refl _) (.cons _ _ _ _ _ (.refl _) (.cons _ _ _ _ _ (.refl _) (.cons _ _ _ _ _ (.refl _) (.cons _ _ _ _ _ (.refl _) (.cons _ _ _ _ _ (.refl _) (.cons _ _ _ _ _ (.refl _) (.cons _ _ _ _ _ (.refl _) (.cons _ _ _ _ _ (.refl _) (.cons _ _ _ _ _ (.refl _) (.cons _ _ _ _ _ (.dead _) (.cons _ _ _ _ _ (.dead _) (.cons _ _ _ _ _ (.dead _) (.cons _ _ _ _ _ (.dead _) (.cons _ _ _ _ _ (.dead _) (.cons _ _ _ _ _ (.dead _) (.cons _ _ _ _ _ (.dead _) (.cons _ _ _ _ _ (.dead _) (.cons _ _ _ _ _ (.dead _) (.cons _ _ _ _ _ (.dead _) (.cons _ _ _ _ _ (.dead _) (.cons _ _ _ _ _ (.refl _) (.cons _ _ _ _ _ (.refl _) (.cons _ _ _ _ _ (.refl _) (.cons _ _ _ _ _ (.refl _) (.cons _ _ _ _ _ (.refl _) (.cons _ _ _ _ _ (.refl _) (.cons _ _ _ _ _ (.refl _) (.cons _ _ _ _ _ (.refl _) (.cons _ _ _ _ _ (.dead _) (.cons _ _ _ _ _ (.refl _) (.cons _ _ _ _ _ (.refl _) (.cons _ _ _ _ _ (.refl _) (.cons _ _ _ _ _ (.refl _) (.cons _ _ _ _ _ (.refl _) .nil))))))))))))))))))))))))))))))))))))) (OLe.refl _)).trans (cmpS_ok (st' := ⟨[], [(0, .dead), (1, .v (.int .u8 x3331)), (2, .v (.int .i8 x3332)), (3, .v (.int .i8 x3333)), (4, .dead), (8, .dead), (9, .v (.lst false n3340 c3341)), (10, .v (.int .i64 ((n3340 : Nat) : Int))), (11, .v (.lst false n3407 c3520)), (12, .v (.lst false n3408 c3410)), (13, .dead), (14, .v (.lst false n3528 c3529)), (15, .dead), (16, .dead), (17, .dead), (18, .dead), (19, .dead), (20, .dead), (21, .dead), (22, .dead), (23, .dead), (24, .dead), (25, .dead), (26, .dead), (27, .dead), (28, .dead), (29, .dead), (30, .dead), (36, .dead), (37, .dead), (38, .dead), (153, .dead), (154, .v (.lst false n3539 c3540)), (155, .v (.int .i64 ((n3539 : Nat) : Int))), (156, .v (.int .i64 0)), (157, .dead), (196, .dead)], [], 0, []⟩) (by kernel_rfl))) ⟨_, h3730, rfl⟩ ?_
                          clear h3730
                          rintro n _ ⟨x3641, h3730, rfl⟩
                          cases n with
                          | zero => cases h3730
                          | succ n =>
                            rw [m10_L1] at h3730
                            have hh := brn_some h3730; clear h3730; rcases hh with ⟨h3642, h3730⟩ | ⟨h3642, h3730⟩
                            · have hh := grd_some h3730; clear h3730; obtain ⟨⟨g3643, g3644⟩, h3730⟩ := hh
                              have hh := grd_some h3730; clear h3730; obtain ⟨g3645, h3730⟩ := hh
                              have hh := getI_some h3730; clear h3730; obtain ⟨x3647, h3646, h3730⟩ := hh
                              have hh := brn_some h3730; clear h3730; rcases hh with ⟨h3648, h3730⟩ | ⟨h3648, h3730⟩
                              · refine W_sound tab_ok mixed 63 _ _ _ ?_
                                simp -implicitDefEqProofs only [go_sem, ne_eq, not_false_eq_true, Nat.reduceBEq, Nat.reduceAdd, Nat.reduceSub, Nat.reduceMul, Nat.reduceLT, Nat.reduceLeDiff, Int.reduceLE, Int.reduceLT, Int.reduceToNat, Int.reduceBEq, Int.reduceBNe, Int.le_refl, Nat.le_refl, decide_true, decide_false, Int.cast_ofNat_Int, ↓reduceIte, h3334, g3336, h3339, h3521, h3524, h3527, h3530, g3532, h3535, h3538, h3541, g3543, h3546, h3549, h3552, h3556, h3559, h3562, h3566, h3569, h3572, h3576, h3579, h3582, h3584, h3585, h3586, h3587, h3588, h3589, h3590, h3593, h3595, h3633, h3635, h3638, h3640, h3642, g3643, g3644, g3645, h3646, h3648]
                                repeat with_reducible refine And.intro (by first | kernel_rfl | decide) ?_
                                obtain rfl := Option.some.inj h3730
                                (try dsimp only at h3731)
                                obtain rfl := Option.some.inj h3731
                                exact finC [(8, .v (.bool false))] [(8, .v (.bool false))] (by simp [leE, lk_cons]) (.cons _ _ _ _ _ (.v _ _ (.refl _)) .nil) (by rfl) (by simp [leE, lk_cons]) (by decide) (by decide) rfl (by simp only [go_sem, ne_eq, not_false_eq_true, Nat.reduceBEq, Nat.reduceAdd, Nat.reduceSub, Nat.reduceMul, Nat.reduceLT, Nat.reduceLeDiff, Int.reduceLE, Int.reduceLT, Int.reduceToNat, Int.reduceBEq, Int.reduceBNe, Int.le_refl, Nat.le_refl, decide_true, decide_false, Int.cast_ofNat_Int, ↓reduceIte, resQ_tmp, resQ_cell, resQ_nil, retD_one, retD_two, retD_three, retD_none]; try simp [R.val, retD_one, retD_two, retD_three, retD_none])
                              · have hh := brn_some h3730; clear h3730; rcases hh with ⟨h3649, h3730⟩ | ⟨h3649, h3730⟩
                                · refine W_sound tab_ok mixed 63 _ _ _ ?_
                                  simp -implicitDefEqProofs only [go_sem, ne_eq, not_false_eq_true, Nat.reduceBEq, Nat.reduceAdd, Nat.reduceSub, Nat.reduceMul, Nat.reduceLT, Nat.reduceLeDiff, Int.reduceLE, Int.reduceLT, Int.reduceToNat, Int.reduceBEq, Int.reduceBNe, Int.le_refl, Nat.le_refl, decide_true, decide_false, Int.cast_ofNat_Int, ↓reduceIte, h3334, g3336, h3339, h3521, h3524, h3527, h3530, g3532, h3535, h3538, h3541, g3543, h3546, h3549, h3552, h3556, h3559, h3562, h3566, h3569, h3572, h3576, h3579, h3582, h3584, h3585, h3586, h3587, h3588, h3589, h3590, h3593, h3595, h3633, h3635, h3638, h3640, h3642, g3643, g3644, g3645, h3646, h3648, h3649]
                                  repeat with_reducible refine And.intro (by first | kernel_rfl | decide) ?_
                                  obtain rfl := Option.some.inj h3730
                                  (try dsimp only at h3731)
                                  obtain rfl := Option.some.inj h3731
                                  exact finC [(8, .v (.bool false))] [(8, .v (.bool false))] (by simp [leE, lk_cons]) (.cons _ _ _ _ _ (.v _ _ (.refl _)) .nil) (by rfl) (by simp [leE, lk_cons]) (by decide) (by decide) rfl (by simp only [go_sem, ne_eq, not_false_eq_true, Nat.reduceBEq, Nat.reduceAdd, Nat.reduceSub, Nat.reduceMul, Nat.reduceLT, Nat.reduceLeDiff, Int.reduceLE, Int.reduceLT, Int.reduceToNat, Int.reduceBEq, Int.reduceBNe, Int.le_refl, Nat.le_refl, decide_true, decide_false, Int.cast_ofNat_Int, ↓reduceIte, resQ_tmp, resQ_cell, resQ_nil, retD_one, retD_two, retD_three, retD_none]; try simp [R.val, retD_one, retD_two, retD_three, retD_none])
                                · have hh := grd_some h3730; clear h3730; obtain ⟨g3650, h3730⟩ := hh
                                  have hh := grd_some h3730; clear h3730; obtain ⟨g3651, h3730⟩ := hh
                                  have hh := getI_some h3730; clear h3730; obtain ⟨x3653, h3652, h3730⟩ := hh
                                  have hh := brn_some h3730; clear h3730; rcases hh with ⟨h3654, h3730⟩ | ⟨h3654, h3730⟩
                                  · refine W_sound tab_ok mixed 63 _ _ _ ?_
                                    simp -implicitDefEqProofs only [go_sem, ne_eq, not_false_eq_true, Nat.reduceBEq, Nat.reduceAdd, Nat.reduceSub, Nat.reduceMul, Nat.reduceLT, Nat.reduceLeDiff, Int.reduceLE, Int.reduceLT, Int.reduceToNat, Int.reduceBEq, Int.reduceBNe, Int.le_refl, Nat.le_refl, decide_true, decide_false, Int.cast_ofNat_Int, ↓reduceIte, h3334, g3336, h3339, h3521, h3524, h3527, h3530, g3532, h3535, h3538, h3541, g3543, h3546, h3549, h3552, h3556, h3559, h3562, h3566, h3569, h3572, h3576, h3579, h3582, h3584, h3585, h3586, h3587, h3588, h3589, h3590, h3593, h3595, h3633, h3635, h3638, h3640, h3642, g3643, g3644, g3645, h3646, h3648, h3649, g3650, g3651, h3652, h3654]
                                    repeat with_reducible refine And.intro (by first | kernel_rfl | decide) ?_
                                    obtain rfl := Option.some.inj h3730
                                    (try dsimp only at h3731)
                                    obtain rfl := Option.some.inj h3731
                                    exact finC [(8, .v (.bool false))] [(8, .v (.bool false))] (by simp [leE, lk_cons]) (.cons _ _ _ _ _ (.v _ _ (.refl _)) .nil) (by rfl) (by simp [leE, lk_cons]) (by decide) (by decide) rfl (by simp only [go_sem, ne_eq, not_false_eq_true, Nat.reduceBEq, Nat.reduceAdd, Nat.reduceSub, Nat.reduceMul, Nat.reduceLT, Nat.reduceLeDiff, Int.reduceLE, Int.reduceLT, Int.reduceToNat, Int.reduceBEq, Int.reduceBNe, Int.le_refl, Nat.le_refl, decide_true, decide_false, Int.cast_ofNat_Int, ↓reduceIte, resQ_tmp, resQ_cell, resQ_nil, retD_one, retD_two, retD_three, retD_none]; try simp [R.val, retD_one, retD_two, retD_three, retD_none])
                                  · have hh := brn_some h3730; clear h3730; rcases hh with ⟨h3655, h3730⟩ | ⟨h3655, h3730⟩
                                    · refine W_sound tab_ok mixed 63 _ _ _ ?_
                                      simp -implicitDefEqProofs only [go_sem, ne_eq, not_false_eq_true, Nat.reduceBEq, Nat.reduceAdd, Nat.reduceSub, Nat.reduceMul, Nat.reduceLT, Nat.reduceLeDiff, Int.reduceLE, Int.reduceLT, Int.reduceToNat, Int.reduceBEq, Int.reduceBNe, Int.le_refl, Nat.le_refl, decide_true, decide_false, Int.cast_ofNat_Int, ↓reduceIte, h3334, g3336, h3339, h3521, h3524, h3527, h3530, g3532, h3535, h3538, h3541, g3543, h3546, h3549, h3552, h3556, h3559, h3562, h3566, h3569, h3572, h3576, h3579, h3582, h3584, h3585, h3586, h3587, h3588, h3589, h3590, h3593, h3595, h3633, h3635, h3638, h3640, h3642, g3643, g3644, g3645, h3646, h3648, h3649, g3650, g3651, h3652, h3654, h3655]
                                      repeat with_reducible refine And.intro (by first | kernel_rfl | decide) ?_
                                      obtain rfl := Option.some.inj h3730
                                      (try dsimp only at h3731)
                                      obtain rfl := Option.some.inj h3731
                                      exact finC [(8, .v (.bool false))] [(8, .v (.bool false))] (by simp [leE, lk_cons]) (.cons _ _ _ _ _ (.v _ _ (.refl _)) .nil) (by rfl) (by simp [leE, lk_cons]) (by decide) (by decide) rfl (by simp only [go_sem, ne_eq, not_false_eq_true, Nat.reduceBEq, Nat.reduceAdd, Nat.reduceSub, Nat.reduceMul, Nat.reduceLT, Nat.reduceLeDiff, Int.reduceLE, Int.reduceLT, Int.reduceToNat, Int.reduceBEq, Int.reduceBNe, Int.le_refl, Nat.le_refl, decide_true, decide_false, Int.cast_ofNat_Int, ↓reduceIte, resQ_tmp, resQ_cell, resQ_nil, retD_one, retD_two, retD_three, retD_none]; try simp [R.val, retD_one, retD_two, retD_three, retD_none])
                                    · have hh := grd_some h3730; clear h3730; obtain ⟨⟨g3656, g3657⟩, h3730⟩ := hh
                                      have hh := grd_some h3730; clear h3730; obtain ⟨g3658, h3730⟩ := hh
                                      have hh := getA2_some h3730; clear h3730; obtain ⟨p3660, p3661, h3659, h3730⟩ := hh
                                      injection h3659 with h3659
                                      have hh := grd_some h3730; clear h3730; obtain ⟨⟨g3662, g3663⟩, h3730⟩ := hh
                                      have hh := grd_some h3730; clear h3730; obtain ⟨g3664, h3730⟩ := hh
                                      have hh := getA2_some h3730; clear h3730; obtain ⟨p3666, p3667, h3665, h3730⟩ := hh
                                      injection h3665 with h3665
                                      have hh := getI_some h3730; clear h3730; obtain ⟨x3669, h3668, h3730⟩ := hh
                                      have hh := getI_some h3730; clear h3730; obtain ⟨x3671, h3670, h3730⟩ := hh
                                      have hh := getI_some h3730; clear h3730; obtain ⟨x3673, h3672, h3730⟩ := hh
                                      have hh := getI_some h3730; clear h3730; obtain ⟨x3675, h3674, h3730⟩ := hh
                                      have hh := brn_some h3730; clear h3730; rcases hh with ⟨h3676, h3730⟩ | ⟨h3676, h3730⟩
                                      · refine W_sound tab_ok mixed 63 _ _ _ ?_
                                        simp -implicitDefEqProofs only [go_sem, ne_eq, not_false_eq_true, Nat.reduceBEq, Nat.reduceAdd, Nat.reduceSub, Nat.reduceMul, Nat.reduceLT, Nat.reduceLeDiff, Int.reduceLE, Int.reduceLT, Int.reduceToNat, Int.reduceBEq, Int.reduceBNe, Int.le_refl, Nat.le_refl, decide_true, decide_false, Int.cast_ofNat_Int, ↓reduceIte, h3334, g3336, h3339, h3521, h3524, h3527, h3530, g3532, h3535, h3538, h3541, g3543, h3546, h3549, h3552, h3556, h3559, h3562, h3566, h3569, h3572, h3576, h3579, h3582, h3584, h3585, h3586, h3587, h3588, h3589, h3590, h3593, h3595, h3633, h3635, h3638, h3640, h3642, g3643, g3644, g3645, h3646, h3648, h3649, g3650, g3651, h3652, h3654, h3655, g3656, g3657, g3658, h3659, g3662, g3663, g3664, h3665, h3668, h3670, h3672, h3674, h3676]
                                        repeat with_reducible refine And.intro (by first | kernel_rfl | decide) ?_
                                        obtain rfl := Option.some.inj h3730
                                        (try dsimp only at h3731)
                                        obtain rfl := Option.some.inj h3731
                                        exact finC [(8, .v (.bool false))] [(8, .v (.bool false))] (by simp [leE, lk_cons]) (.cons _ _ _ _ _ (.v _ _ (.refl _)) .nil) (by rfl) (by simp [leE, lk_cons]) (by decide) (by decide) rfl (by simp only [go_sem, ne_eq, not_false_eq_true, Nat.reduceBEq, Nat.reduceAdd, Nat.reduceSub, Nat.reduceMul, Nat.reduceLT, Nat.reduceLeDiff, Int.reduceLE, Int.reduceLT, Int.reduceToNat, Int.reduceBEq, Int.reduceBNe, Int.le_refl, Nat.le_refl, decide_true, decide_false, Int.cast_ofNat_Int, ↓reduceIte, resQ_tmp, resQ_cell, resQ_nil, retD_one, retD_two, retD_three, retD_none]; try simp [R.val, retD_one, retD_two, retD_three, retD_none])
                                      · refine W_sound tab_ok mixed 63 _ _ _ ?_
                                        simp -implicitDefEqProofs only [go_sem, ne_eq, not_false_eq_true, Nat.reduceBEq, Nat.reduceAdd, Nat.reduceSub, Nat.reduceMul, Nat.reduceLT, Nat.reduceLeDiff, Int.reduceLE, Int.reduceLT, Int.reduceToNat, Int.reduceBEq, Int.reduceBNe, Int.le_refl, Nat.le_refl, decide_true, decide_false, Int.cast_ofNat_Int, ↓reduceIte, h3334, g3336, h3339, h3521, h3524, h3527, h3530, g3532, h3535, h3538, h3541, g3543, h3546, h3549, h3552, h3556, h3559, h3562, h3566, h3569, h3572, h3576, h3579, h3582, h3584, h3585, h3586, h3587, h3588, h3589, h3590, h3593, h3595, h3633, h3635, h3638, h3640, h3642, g3643, g3644, g3645, h3646, h3648, h3649, g3650, g3651, h3652, h3654, h3655, g3656, g3657, g3658, h3659, g3662, g3663, g3664, h3665, h3668, h3670, h3672, h3674, h3676]
                                        repeat with_reducible refine And.intro (by first | kernel_rfl | decide) ?_
                                        exact cutQ _ ((Wk_le (.cons _ _ _ _ _ (.refl _) (.cons _ _ _ _ _ (.refl _) (.cons _ _ _ _ _ (.refl _) (.cons _ _ _ _ _ (.refl _) (.cons _ _ _ _ _ (.refl _) (.cons _ _ _ _ _ (.refl _) (.cons _ _ _ _ _ (.refl _) (.cons _ _ _ _ _ (.refl _) (.cons _ _ _ _ _ (.refl _) (.cons _ _ _ _ _ (.refl _) (.cons _ _ _ _ _ (.refl _) (.cons _ _ _ _ _ (.refl _) (.cons _ _ _ _ _ (.refl _) (.cons _ _ _ _ _ (.refl _) (.cons _ _ _ _ _ (.refl _) (.cons _ _ _ _ _ (.refl _) (.cons _ _ _ _ _ (.refl _) (.cons _ _ _ _ _ (.refl _) (.cons _ _ _ _ _ (.refl _) (.cons _ _ _ _ _ (.refl _) (.cons _ _ _ _ _ (.refl _) (.cons _ _ _ _ _ (.refl _) (.cons _ _ _ _ _ (.refl _) (.cons _ _ _ _ _ (.dead _) (.cons _ _ _ _ _ (.dead _) (.cons _ _ _ _ _ (.refl _) (.cons _ _ _ _ _ (.refl _) (.cons _ _ _ _ _ (.refl _) (.cons _ _ _ _ _ (.refl _) (.cons _ _ _ _ _ (.refl _) (.cons _ _ _ _ _ (.refl _) (.cons _ _ _ _ _ (.refl _) (.cons _ _ _ _ _ (.refl _) (.cons _ _ _ _ _ (.refl _) (.cons _ _ _ _ _ (.refl _) (.cons _ _ _ _ _ (.dead _) (.cons _ _ _ _ _ (.dead _) .nil))))))))))))))))))))))))))))))))))))) (OLe.refl _)).trans (cmpS_ok (st' := ⟨[], [(0, .dead), (1, .v (.int .u8 x3331)), (2, .v (.int .i8 x3332)), (3, .v (.int .i8 x3333)), (4, .dead), (8, .dead), (9, .v (.lst false n3340 c3341)), (10, .v (.int .i64 ((n3340 : Nat) : Int))), (11, .v (.lst false n3407 c3520)), (12, .v (.lst false n3408 c3410)), (13, .dead), (14, .v (.lst false n3528 c3529)), (15, .dead), (16, .dead), (17, .dead), (18, .dead), (19, .dead), (20, .dead), (21, .dead), (22, .dead), (23, .dead), (24, .dead), (25, .dead), (26, .dead), (27, .dead), (28, .dead), (29, .dead), (30, .dead), (36, .dead), (37, .dead), (38, .dead), (153, .dead), (154, .v (.lst false n3539 c3540)), (155, .v (.int .i64 ((n3539 : Nat) : Int))), (156, .v (.int .i64 (IntKind.i64.wrap (x3641 + 1)))), (157, .dead), (196, .dead)], [], 0, []⟩) (by kernel_rfl))) ⟨n, Nat.lt_succ_self n, _, h3730, rfl⟩
                            · refine W_sound tab_ok mixed 7 _ _ _ ?_
                              simp -implicitDefEqProofs only [go_sem, ne_eq, not_false_eq_true, Nat.reduceBEq, Nat.reduceAdd, Nat.reduceSub, Nat.reduceMul, Nat.reduceLT, Nat.reduceLeDiff, Int.reduceLE, Int.reduceLT, Int.reduceToNat, Int.reduceBEq, Int.reduceBNe, Int.le_refl, Nat.le_refl, decide_true, decide_false, Int.cast_ofNat_Int, ↓reduceIte, h3334, g3336, h3339, h3521, h3524, h3527, h3530, g3532, h3535, h3538, h3541, g3543, h3546, h3549, h3552, h3556, h3559, h3562, h3566, h3569, h3572, h3576, h3579, h3582, h3584, h3585, h3586, h3587, h3588, h3589, h3590, h3593, h3595, h3633, h3635, h3638, h3640, h3642]
                              repeat with_reducible refine And.intro (by first | kernel_rfl | decide) ?_
                              obtain rfl := Option.some.inj h3730
                              exact cutQ _ ((Wk_le (.cons _ _ _ _ _ (.refl _) (.cons _ _ _ _ _ (.refl _) (.cons _ _ _ _ _ (.refl _) (.cons _ _ _ _ _ (.refl _) (.cons _ _ _ _ _ (.refl _) (.cons _ _ _ _ _ (.refl _) (.cons _ _ _ _ _ (.refl _) (.cons _ _ _ _ _ (.dead _) (.cons _ _ _ _ _ (.dead _) (.cons _ _ _ _ _ (.refl _) (.cons _ _ _ _ _ (.refl _) (.cons _ _ _ _ _ (.dead _) (.cons _ _ _ _ _ (.refl _) (.cons _ _ _ _ _ (.refl _) (.cons _ _ _ _ _ (.refl _) (.cons _ _ _ _ _ (.refl _) (.cons _ _ _ _ _ (.refl _) (.cons _ _ _ _ _ (.refl _) (.cons _ _ _ _ _ (.refl _) (.cons _ _ _ _ _ (.refl _) (.cons _ _ _ _ _ (.refl _) (.cons _ _ _ _ _ (.refl _) (.cons _ _ _ _ _ (.refl _) (.cons _ _ _ _ _ (.refl _) (.cons _ _ _ _ _ (.refl _) (.cons _ _ _ _ _ (.refl _) (.cons _ _ _ _ _ (.refl _) (.cons _ _ _ _ _ (.refl _) (.cons _ _ _ _ _ (.refl _) (.cons _ _ _ _ _ (.refl _) (.cons _ _ _ _ _ (.refl _) (.cons _ _ _ _ _ (.refl _) (.cons _ _ _ _ _ (.dead _) (.cons _ _ _ _ _ (.dead _) (.cons _ _ _ _ _ (.dead _) (.cons _ _ _ _ _ (.dead _) (.cons _ _ _ _ _ (.refl _) .nil))))))))))))))))))))))))))))))))))))) (OLe.refl _)).trans (cmpS_ok (st' := ⟨[], [(0, .dead), (1, .v (.int .u8 x3331)), (2, .v (.int .i8 x3332)), (3, .v (.int .i8 x3333)), (4, .dead), (8, .dead), (9, .v (.lst false n3340 c3341)), (10, .dead), (11, .dead), (12, .v (.lst false n3408 c3410)), (13, .dead), (14, .dead), (15, .dead), (16, .dead), (17, .dead), (18, .dead), (19, .dead), (20, .dead), (21, .dead), (22, .dead), (23, .dead), (24, .dead), (25, .dead), (26, .dead), (27, .dead), (28, .dead), (29, .dead), (30, .dead), (36, .dead), (37, .dead), (38, .dead), (153, .dead), (154, .dead), (155, .dead), (156, .dead), (157, .dead), (196, .dead)], [], 0, []⟩) (by kernel_rfl))) ⟨rfl, rfl⟩
                        · rintro _ ⟨rfl, rfl⟩
                          (try dsimp only at h3731)
                          have hh := bnd'_some h3731; clear h3731; obtain ⟨p3678, h3679, h3731⟩ := hh
                          refine W_sound tab_ok mixed 5 _ _ _ ?_
                          simp -implicitDefEqProofs only [go_sem, ne_eq, not_false_eq_true, Nat.reduceBEq, Nat.reduceAdd, Nat.reduceSub, Nat.reduceMul, Nat.reduceLT, Nat.reduceLeDiff, Int.reduceLE, Int.reduceLT, Int.reduceToNat, Int.reduceBEq, Int.reduceBNe, Int.le_refl, Nat.le_refl, decide_true, decide_false, Int.cast_ofNat_Int, ↓reduceIte, h3334, g3336, h3339, h3521, h3524, h3527, h3530, g3532, h3535, h3538, h3541, g3543, h3546, h3549, h3552, h3556, h3559, h3562, h3566, h3569, h3572, h3576, h3579, h3582, h3584, h3585, h3586, h3587, h3588, h3589, h3590, h3593, h3595, h3633, h3635, h3638, h3640]
                          repeat with_reducible refine And.intro (by first | kernel_rfl | decide) ?_
                          refine Wp_callP (c40 N _ _ _ h3679) (by kernel_rfl) rfl rfl rfl rfl (by decide) ?_
                          have hh := getA2_some h3731; clear h3731; obtain ⟨p3681, p3682, h3680, h3731⟩ := hh
                          have hh := getI_some h3731; clear h3731; obtain ⟨x3684, h3683, h3731⟩ := hh
                          have hh := getI_some h3731; clear h3731; obtain ⟨x3686, h3685, h3731⟩ := hh
                          have hh := bnd'_some h3731; clear h3731; obtain ⟨p3687, h3688, h3731⟩ := hh
                          refine W_sound tab_ok mixed 7 _ _ _ ?_
                          simp -implicitDefEqProofs only [go_sem, ne_eq, not_false_eq_true, Nat.reduceBEq, Nat.reduceAdd, Nat.reduceSub, Nat.reduceMul, Nat.reduceLT, Nat.reduceLeDiff, Int.reduceLE, Int.reduceLT, Int.reduceToNat, Int.reduceBEq, Int.reduceBNe, Int.le_refl, Nat.le_refl, decide_true, decide_false, Int.cast_ofNat_Int, ↓reduceIte, h3334, g3336, h3339, h3521, h3524, h3527, h3530, g3532, h3535, h3538, h3541, g3543, h3546, h3549, h3552, h3556, h3559, h3562, h3566, h3569, h3572, h3576, h3579, h3582, h3584, h3585, h3586, h3587, h3588, h3589, h3590, h3593, h3595, h3633, h3635, h3638, h3640, h3680, h3683, h3685]
                          repeat with_reducible refine And.intro (by first | kernel_rfl | decide) ?_
                          refine Wp_callP (c17 N _ _ _ h3688) (by kernel_rfl) rfl rfl rfl rfl (by decide) ?_
                          have hh := getT2_some h3731; clear h3731; obtain ⟨p3690, p3691, h3689, h3731⟩ := hh
                          have hh := getA2_some h3731; clear h3731; obtain ⟨p3693, p3694, h3692, h3731⟩ := hh
                          have hh := getI_some h3731; clear h3731; obtain ⟨x3696, h3695, h3731⟩ := hh
                          have hh := getI_some h3731; clear h3731; obtain ⟨x3698, h3697, h3731⟩ := hh
                          have hh := getI_some h3731; clear h3731; obtain ⟨x3700, h3699, h3731⟩ := hh
                          have hh := bnd'_some h3731; clear h3731; obtain ⟨p3701, h3702, h3731⟩ := hh
                          refine W_sound tab_ok mixed 11 _ _ _ ?_
                          simp -implicitDefEqProofs only [go_sem, ne_eq, not_false_eq_true, Nat.reduceBEq, Nat.reduceAdd, Nat.reduceSub, Nat.reduceMul, Nat.reduceLT, Nat.reduceLeDiff, Int.reduceLE, Int.reduceLT, Int.reduceToNat, Int.reduceBEq, Int.reduceBNe, Int.le_refl, Nat.le_refl, decide_true, decide_false, Int.cast_ofNat_Int, ↓reduceIte, h3334, g3336, h3339, h3521, h3524, h3527, h3530, g3532, h3535, h3538, h3541, g3543, h3546, h3549, h3552, h3556, h3559, h3562, h3566, h3569, h3572, h3576, h3579, h3582, h3584, h3585, h3586, h3587, h3588, h3589, h3590, h3593, h3595, h3633, h3635, h3638, h3640, h3680, h3683, h3685, h3689, h3692, h3695, h3697, h3699]
                          repeat with_reducible refine And.intro (by first | kernel_rfl | decide) ?_
                          refine Wp_callP (c17 N _ _ _ h3702) (by kernel_rfl) rfl rfl rfl rfl (by decide) ?_
                          have hh := getT2_some h3731; clear h3731; obtain ⟨p3704, p3705, h3703, h3731⟩ := hh
                          have hh := getA2_some h3731; clear h3731; obtain ⟨p3707, p3708, h3706, h3731⟩ := hh
                          have hh := getI_some h3731; clear h3731; obtain ⟨x3710, h3709, h3731⟩ := hh
                          have hh := getI_some h3731; clear h3731; obtain ⟨x3712, h3711, h3731⟩ := hh
                          have hh := getI_some h3731; clear h3731; obtain ⟨x3714, h3713, h3731⟩ := hh
                          have hh := brn_some h3731; clear h3731; rcases hh with ⟨h3715, h3731⟩ | ⟨h3715, h3731⟩
                          · have hh := brn_some h3731; clear h3731; rcases hh with ⟨h3716, h3731⟩ | ⟨h3716, h3731⟩
                            · have hh := brn_some h3731; clear h3731; rcases hh with ⟨h3717, h3731⟩ | ⟨h3717, h3731⟩
                              · have hh := brn_some h3731; clear h3731; rcases hh with ⟨h3718, h3731⟩ | ⟨h3718, h3731⟩
                                · have hh := grd_some h3731; clear h3731; obtain ⟨g3719, h3731⟩ := hh
                                  have hh := grd_some h3731; clear h3731; obtain ⟨g3720, h3731⟩ := hh
                                  have hh := brn_some h3731; clear h3731; rcases hh with ⟨h3721, h3731⟩ | ⟨h3721, h3731⟩
                                  · have hh := bnd'_some h3731; clear h3731; obtain ⟨p3722, h3723, h3731⟩ := hh
                                    refine W_sound tab_ok mixed 44 _ _ _ ?_
                                    simp -implicitDefEqProofs only [go_sem, ne_eq, not_false_eq_true, Nat.reduceBEq, Nat.reduceAdd, Nat.reduceSub, Nat.reduceMul, Nat.reduceLT, Nat.reduceLeDiff, Int.reduceLE, Int.reduceLT, Int.reduceToNat, Int.reduceBEq, Int.reduceBNe, Int.le_refl, Nat.le_refl, decide_true, decide_false, Int.cast_ofNat_Int, ↓reduceIte, h3334, g3336, h3339, h3521, h3524, h3527, h3530, g3532, h3535, h3538, h3541, g3543, h3546, h3549, h3552, h3556, h3559, h3562, h3566, h3569, h3572, h3576, h3579, h3582, h3584, h3585, h3586, h3587, h3588, h3589, h3590, h3593, h3595, h3633, h3635, h3638, h3640, h3680, h3683, h3685, h3689, h3692, h3695, h3697, h3699, h3703, h3706, h3709, h3711, h3713, h3715, h3716, h3717, h3718, g3719, g3720, h3721]
                                    repeat with_reducible refine And.intro (by first | kernel_rfl | decide) ?_
                                    refine Wp_callP (c15 N  _ h3723) (by kernel_rfl) rfl rfl rfl rfl (by decide) ?_
                                    have hh := getB_some h3731; clear h3731; obtain ⟨b3725, h3724, h3731⟩ := hh
                                    refine W_sound tab_ok mixed 5 _ _ _ ?_
                                    simp -implicitDefEqProofs only [go_sem, ne_eq, not_false_eq_true, Nat.reduceBEq, Nat.reduceAdd, Nat.reduceSub, Nat.reduceMul, Nat.reduceLT, Nat.reduceLeDiff, Int.reduceLE, Int.reduceLT, Int.reduceToNat, Int.reduceBEq, Int.reduceBNe, Int.le_refl, Nat.le_refl, decide_true, decide_false, Int.cast_ofNat_Int, ↓reduceIte, h3334, g3336, h3339, h3521, h3524, h3527, h3530, g3532, h3535, h3538, h3541, g3543, h3546, h3549, h3552, h3556, h3559, h3562, h3566, h3569, h3572, h3576, h3579, h3582, h3584, h3585, h3586, h3587, h3588, h3589, h3590, h3593, h3595, h3633, h3635, h3638, h3640, h3680, h3683, h3685, h3689, h3692, h3695, h3697, h3699, h3703, h3706, h3709, h3711, h3713, h3715, h3716, h3717, h3718, g3719, g3720, h3721, h3724]
                                    repeat with_reducible refine And.intro (by first | kernel_rfl | decide) ?_
                                    obtain rfl := Option.some.inj h3731
                                    exact finC [(8, .v (.bool b3725))] [(8, .v (.bool b3725))] (by simp [leE, lk_cons]) (.cons _ _ _ _ _ (.v _ _ (.refl _)) .nil) (by rfl) (by simp [leE, lk_cons]) (by decide) (by decide) rfl (by simp only [go_sem, ne_eq, not_false_eq_true, Nat.reduceBEq, Nat.reduceAdd, Nat.reduceSub, Nat.reduceMul, Nat.reduceLT, Nat.reduceLeDiff, Int.reduceLE, Int.reduceLT, Int.reduceToNat, Int.reduceBEq, Int.reduceBNe, Int.le_refl, Nat.le_refl, decide_true, decide_false, Int.cast_ofNat_Int, ↓reduceIte, resQ_tmp, resQ_cell, resQ_nil, retD_one, retD_two, retD_three, retD_none]; try simp [R.val, retD_one, retD_two, retD_three, retD_none])
                                  · refine W_sound tab_ok mixed 50 _ _ _ ?_
                                    simp -implicitDefEqProofs only [go_sem, ne_eq, not_false_eq_true, Nat.reduceBEq, Nat.reduceAdd, Nat.reduceSub, Nat.reduceMul, Nat.reduceLT, Nat.reduceLeDiff, Int.reduceLE, Int.reduceLT, Int.reduceToNat, Int.reduceBEq, Int.reduceBNe, Int.le_refl, Nat.le_refl, decide_true, decide_false, Int.cast_ofNat_Int, ↓reduceIte, h3334, g3336, h3339, h3521, h3524, h3527, h3530, g3532, h3535, h3538, h3541, g3543, h3546, h3549, h3552, h3556, h3559, h3562, h3566, h3569, h3572, h3576, h3579, h3582, h3584, h3585, h3586, h3587, h3588, h3589, h3590, h3593, h3595, h3633, h3635, h3638, h3640, h3680, h3683, h3685, h3689, h3692, h3695, h3697, h3699, h3703, h3706, h3709, h3711, h3713, h3715, h3716, h3717, h3718, g3719, g3720, h3721]
                                    repeat with_reducible refine And.intro (by first | kernel_rfl | decide) ?_
                                    obtain rfl := Option.some.inj h3731
                                    exact finC [(8, .v (.bool false))] [(8, .v (.bool false))] (by simp [leE, lk_cons]) (.cons _ _ _ _ _ (.v _ _ (.refl _)) .nil) (by rfl) (by simp [leE, lk_cons]) (by decide) (by decide) rfl (by simp only [go_sem, ne_eq, not_false_eq_true, Nat.reduceBEq, Nat.reduceAdd, Nat.reduceSub, Nat.reduceMul, Nat.reduceLT, Nat.reduceLeDiff, Int.reduceLE, Int.reduceLT, Int.reduceToNat, Int.reduceBEq, Int.reduceBNe, Int.le_refl, Nat.le_refl, decide_true, decide_false, Int.cast_ofNat_Int, ↓reduceIte, resQ_tmp, resQ_cell, resQ_nil, retD_one, retD_two, retD_three, retD_none]; try simp [R.val, retD_one, retD_two, retD_three, retD_none])
                                · refine W_sound tab_ok mixed 50 _ _ _ ?_
                                  simp -implicitDefEqProofs only [go_sem, ne_eq, not_false_eq_true, Nat.reduceBEq, Nat.reduceAdd, Nat.reduceSub, Nat.reduceMul, Nat.reduceLT, Nat.reduceLeDiff, Int.reduceLE, Int.reduceLT, Int.reduceToNat, Int.reduceBEq, Int.reduceBNe, Int.le_refl, Nat.le_refl, decide_true, decide_false, Int.cast_ofNat_Int, ↓reduceIte, h3334, g3336, h3339, h3521, h3524, h3527, h3530, g3532, h3535, h3538, h3541, g3543, h3546, h3549, h3552, h3556, h3559, h3562, h3566, h3569, h3572, h3576, h3579, h3582, h3584, h3585, h3586, h3587, h3588, h3589, h3590, h3593, h3595, h3633, h3635, h3638, h3640, h3680, h3683, h3685, h3689, h3692, h3695, h3697, h3699, h3703, h3706, h3709, h3711, h3713, h3715, h3716, h3717, h3718]
                                  repeat with_reducible refine And.intro (by first | kernel_rfl | decide) ?_
                                  obtain rfl := Option.some.inj h3731
                                  exact finC [(8, .v (.bool false))] [(8, .v (.bool false))] (by simp [leE, lk_cons]) (.cons _ _ _ _ _ (.v _ _ (.refl _)) .nil) (by rfl) (by simp [leE, lk_cons]) (by decide) (by decide) rfl (by simp only [go_sem, ne_eq, not_false_eq_true, Nat.reduceBEq, Nat.reduceAdd, Nat.reduceSub, Nat.reduceMul, Nat.reduceLT, Nat.reduceLeDiff, Int.reduceLE, Int.reduceLT, Int.reduceToNat, Int.reduceBEq, Int.reduceBNe, Int.le_refl, Nat.le_refl, decide_true, decide_false, Int.cast_ofNat_Int, ↓reduceIte, resQ_tmp, resQ_cell, resQ_nil, retD_one, retD_two, retD_three, retD_none]; try simp [R.val, retD_one, retD_two, retD_three, retD_none])
                              · refine W_sound tab_ok mixed 50 _ _ _ ?_
                                simp -implicitDefEqProofs only [go_sem, ne_eq, not_false_eq_true, Nat.reduceBEq, Nat.reduceAdd, Nat.reduceSub, Nat.reduceMul, Nat.reduceLT, Nat.reduceLeDiff, Int.reduceLE, Int.reduceLT, Int.reduceToNat, Int.reduceBEq, Int.reduceBNe, Int.le_refl, Nat.le_refl, decide_true, decide_false, Int.cast_ofNat_Int, ↓reduceIte, h3334, g3336, h3339, h3521, h3524, h3527, h3530, g3532, h3535, h3538, h3541, g3543, h3546, h3549, h3552, h3556, h3559, h3562, h3566, h3569, h3572, h3576, h3579, h3582, h3584, h3585, h3586, h3587, h3588, h3589, h3590, h3593, h3595, h3633, h3635, h3638, h3640, h3680, h3683, h3685, h3689, h3692, h3695, h3697, h3699, h3703, h3706, h3709, h3711, h3713, h3715, h3716, h3717]
                                repeat with_reducible refine And.intro (by first | kernel_rfl | decide) ?_
                                obtain rfl := Option.some.inj h3731
                                exact finC [(8, .v (.bool false))] [(8, .v (.bool false))] (by simp [leE, lk_cons]) (.cons _ _ _ _ _ (.v _ _ (.refl _)) .nil) (by rfl) (by simp [leE, lk_cons]) (by decide) (by decide) rfl (by simp only [go_sem, ne_eq, not_false_eq_true, Nat.reduceBEq, Nat.reduceAdd, Nat.reduceSub, Nat.reduceMul, Nat.reduceLT, Nat.reduceLeDiff, Int.reduceLE, Int.reduceLT, Int.reduceToNat, Int.reduceBEq, Int.reduceBNe, Int.le_refl, Nat.le_refl, decide_true, decide_false, Int.cast_ofNat_Int, ↓reduceIte, resQ_tmp, resQ_cell, resQ_nil, retD_one, retD_two, retD_three, retD_none]; try simp [R.val, retD_one, retD_two, retD_three, retD_none])
                            · refine W_sound tab_ok mixed 50 _ _ _ ?_
                              simp -implicitDefEqProofs only [go_sem, ne_eq, not_false_eq_true, Nat.reduceBEq, Nat.reduceAdd, Nat.reduceSub, Nat.reduceMul, Nat.reduceLT, Nat.reduceLeDiff, Int.reduceLE, Int.reduceLT, Int.reduceToNat, Int.reduceBEq, Int.reduceBNe, Int.le_refl, Nat.le_refl, decide_true, decide_false, Int.cast_ofNat_Int, ↓reduceIte, h3334, g3336, h3339, h3521, h3524, h3527, h3530, g3532, h3535, h3538, h3541, g3543, h3546, h3549, h3552, h3556, h3559, h3562, h3566, h3569, h3572, h3576, h3579, h3582, h3584, h3585, h3586, h3587, h3588, h3589, h3590, h3593, h3595, h3633, h3635, h3638, h3640, h3680, h3683, h3685, h3689, h3692, h3695, h3697, h3699, h3703, h3706, h3709, h3711, h3713, h3715, h3716]
                              repeat with_reducible refine And.intro (by first | kernel_rfl | decide) ?_
                              obtain rfl := Option.some.inj h3731
                              exact finC [(8, .v (.bool false))] [(8, .v (.bool false))] (by simp [leE, lk_cons]) (.cons _ _ _ _ _ (.v _ _ (.refl _)) .nil) (by rfl) (by simp [leE, lk_cons]) (by decide) (by decide) rfl (by simp only [go_sem, ne_eq, not_false_eq_true, Nat.reduceBEq, Nat.reduceAdd, Nat.reduceSub, Nat.reduceMul, Nat.reduceLT, Nat.reduceLeDiff, Int.reduceLE, Int.reduceLT, Int.reduceToNat, Int.reduceBEq, Int.reduceBNe, Int.le_refl, Nat.le_refl, decide_true, decide_false, Int.cast_ofNat_Int, ↓reduceIte, resQ_tmp, resQ_cell, resQ_nil, retD_one, retD_two, retD_three, retD_none]; try simp [R.val, retD_one, retD_two, retD_three, retD_none])
                          · refine W_sound tab_ok mixed 50 _ _ _ ?_
                            simp -implicitDefEqProofs only [go_sem, ne_eq, not_false_eq_true, Nat.reduceBEq, Nat.reduceAdd, Nat.reduceSub, Nat.reduceMul, Nat.reduceLT, Nat.reduceLeDiff, Int.reduceLE, Int.reduceLT, Int.reduceToNat, Int.reduceBEq, Int.reduceBNe, Int.le_refl, Nat.le_refl, decide_true, decide_false, Int.cast_ofNat_Int, ↓reduceIte, h3334, g3336, h3339, h3521, h3524, h3527, h3530, g3532, h3535, h3538, h3541, g3543, h3546, h3549, h3552, h3556, h3559, h3562, h3566, h3569, h3572, h3576, h3579, h3582, h3584, h3585, h3586, h3587, h3588, h3589, h3590, h3593, h3595, h3633, h3635, h3638, h3640, h3680, h3683, h3685, h3689, h3692, h3695, h3697, h3699, h3703, h3706, h3709, h3711, h3713, h3715]
                            repeat with_reducible refine And.intro (by first | kernel_rfl | decide) ?_
                            obtain rfl := Option.some.inj h3731
                            exact finC [(8, .v (.bool false))] [(8, .v (.bool false))] (by simp [leE, lk_cons]) (.cons _ _ _ _ _ (.v _ _ (.refl _)) .nil) (by rfl) (by simp [leE, lk_cons]) (by decide) (by decide) rfl (by simp only [go_sem, ne_eq, not_false_eq_true, Nat.reduceBEq, Nat.reduceAdd, Nat.reduceSub, Nat.reduceMul, Nat.reduceLT, Nat.reduceLeDiff, Int.reduceLE, Int.reduceLT, Int.reduceToNat, Int.reduceBEq, Int.reduceBNe, Int.le_refl, Nat.le_refl, decide_true, decide_false, Int.cast_ofNat_Int, ↓reduceIte, resQ_tmp, resQ_cell, resQ_nil, retD_one, retD_two, retD_three, retD_none]; try simp [R.val, retD_one, retD_two, retD_three, retD_none])
                      · refine W_sound tab_ok mixed 10 _ _ _ ?_
                        simp -implicitDefEqProofs only [go_sem, ne_eq, not_false_eq_true, Nat.reduceBEq, Nat.reduceAdd, Nat.reduceSub, Nat.reduceMul, Nat.reduceLT, Nat.reduceLeDiff, Int.reduceLE, Int.reduceLT, Int.reduceToNat, Int.reduceBEq, Int.reduceBNe, Int.le_refl, Nat.le_refl, decide_true, decide_false, Int.cast_ofNat_Int, ↓reduceIte, h3334, g3336, h3339, h3521, h3524, h3527, h3530, g3532, h3535, h3538, h3541, g3543, h3546, h3549, h3552, h3556, h3559, h3562, h3566, h3569, h3572, h3576, h3579, h3582, h3584, h3585, h3586, h3587, h3588, h3589, h3590, h3593, h3595, h3633, h3635, h3638, h3640]
                        repeat with_reducible refine And.intro (by first | kernel_rfl | decide) ?_
                        obtain rfl := Option.some.inj h3728
                        exact finC [(8, .v (.bool false))] [(8, .v (.bool false))] (by simp [leE, lk_cons]) (.cons _ _ _ _ _ (.v _ _ (.refl _)) .nil) (by rfl) (by simp [leE, lk_cons]) (by decide) (by decide) rfl (by simp only [go_sem, ne_eq, not_false_eq_true, Nat.reduceBEq, Nat.reduceAdd, Nat.reduceSub, Nat.reduceMul, Nat.reduceLT, Nat.reduceLeDiff, Int.reduceLE, Int.reduceLT, Int.reduceToNat, Int.reduceBEq, Int.reduceBNe, Int.le_refl, Nat.le_refl, decide_true, decide_false, Int.cast_ofNat_Int, ↓reduceIte, resQ_tmp, resQ_cell, resQ_nil, retD_one, retD_two, retD_three, retD_none]; try simp [R.val, retD_one, retD_two, retD_three, retD_none])
                    · refine W_sound tab_ok mixed 16 _ _ _ ?_
                      simp -implicitDefEqProofs only [go_sem, ne_eq, not_false_eq_true, Nat.reduceBEq, Nat.reduceAdd, Nat.reduceSub, Nat.reduceMul, Nat.reduceLT, Nat.reduceLeDiff, Int.reduceLE, Int.reduceLT, Int.reduceToNat, Int.reduceBEq, Int.reduceBNe, Int.le_refl, Nat.le_refl, decide_true, decide_false, Int.cast_ofNat_Int, ↓reduceIte, h3334, g3336, h3339, h3521, h3524, h3527, h3530, g3532, h3535, h3538, h3541, g3543, h3546, h3549, h3552, h3556, h3559, h3562, h3566, h3569, h3572, h3576, h3579, h3582, h3584, h3585, h3586, h3587, h3588, h3589, h3590, h3593, h3595, h3633, h3635]
                      repeat with_reducible refine And.intro (by first | kernel_rfl | decide) ?_
                      obtain rfl := Option.some.inj h3728
                      exact finC [(8, .v (.bool false))] [(8, .v (.bool false))] (by simp [leE, lk_cons]) (.cons _ _ _ _ _ (.v _ _ (.refl _)) .nil) (by rfl) (by simp [leE, lk_cons]) (by decide) (by decide) rfl (by simp only [go_sem, ne_eq, not_false_eq_true, Nat.reduceBEq, Nat.reduceAdd, Nat.reduceSub, Nat.reduceMul, Nat.reduceLT, Nat.reduceLeDiff, Int.reduceLE, Int.reduceLT, Int.reduceToNat, Int.reduceBEq, Int.reduceBNe, Int.le_refl, Nat.le_refl, decide_true, decide_false, Int.cast_ofNat_Int, ↓reduceIte, resQ_tmp, resQ_cell, resQ_nil, retD_one, retD_two, retD_three, retD_none]; try simp [R.val, retD_one, retD_two, retD_three, retD_none])
                  · refine W_sound tab_ok mixed 22 _ _ _ ?_
                    simp -implicitDefEqProofs only [go_sem, ne_eq, not_false_eq_true, Nat.reduceBEq, Nat.reduceAdd, Nat.reduceSub, Nat.reduceMul, Nat.reduceLT, Nat.reduceLeDiff, Int.reduceLE, Int.reduceLT, Int.reduceToNat, Int.reduceBEq, Int.reduceBNe, Int.le_refl, Nat.le_refl, decide_true, decide_false, Int.cast_ofNat_Int, ↓reduceIte, h3334, g3336, h3339, h3521, h3524, h3527, h3530, g3532, h3535, h3538, h3541, g3543, h3546, h3549, h3552, h3556, h3559, h3562, h3566, h3569, h3572, h3576, h3579, h3582, h3584, h3585, h3586, h3587, h3588, h3589, h3590, h3593, h3595]
                    repeat with_reducible refine And.intro (by first | kernel_rfl | decide) ?_
                    obtain rfl := Option.some.inj h3728
                    exact finC [(8, .v (.bool false))] [(8, .v (.bool false))] (by simp [leE, lk_cons]) (.cons _ _ _ _ _ (.v _ _ (.refl _)) .nil) (by rfl) (by simp [leE, lk_cons]) (by decide) (by decide) rfl (by simp only [go_sem, ne_eq, not_false_eq_true, Nat.reduceBEq, Nat.reduceAdd, Nat.reduceSub, Nat.reduceMul, Nat.reduceLT, Nat.reduceLeDiff, Int.reduceLE, Int.reduceLT, Int.reduceToNat, Int.reduceBEq, Int.reduceBNe, Int.le_refl, Nat.le_refl, decide_true, decide_false, Int.cast_ofNat_Int, ↓reduceIte, resQ_tmp, resQ_cell, resQ_nil, retD_one, retD_two, retD_three, retD_none]; try simp [R.val, retD_one, retD_two, retD_three, retD_none])
end Go.Proofs.Ytgnphlpoofaojaa
