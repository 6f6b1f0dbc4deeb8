/-
  For each plan that is not full some rows fit, and as many as there are orders of what is missing.
-/
import Derived.Test.YtcaecfofgdogbaaDoorYWpB
import Derived.Test.YtcaecfofgdogbaaDoorYWcpA
import Derived.Test.YtcaecfofgdogbaaDoorYV39
import Derived.Test.YtcaecfofgdogbaaDoorYV36
set_option linter.unusedSimpArgs false
set_option linter.unusedVariables false
namespace Go.Proofs.YtcaecfofgdogbaaDoor
open Go.V
open Nat renaming reduceBEq → qa, reduceAdd → qb, reduceSub → qc, reduceMul → qd, reduceLT → qe, reduceLeDiff → qf
open Int renaming reduceLE → qg, reduceLT → qh, reduceToNat → qi, reduceBEq → qj, reduceBNe → qk
set_option maxRecDepth 100000
set_option maxHeartbeats 4000000
set_option linter.unusedSimpArgs false
set_option linter.unusedVariables false
attribute [local go_sem] tl1 tl2 tl3 tl4 tl5 tl9 tl17 tl21 tl22 tl23 tl24 tl25 tl27 tl28 tl30 tl31 tl32 tl33 tl35 tl36 tl37 tl38 tl39 tl40 tl42 tl43 tl44 tl45 tl46 tl47 tl48 tl49 tl50 tl51 tl52 tl53 tl54 tl55 tl56 tl57 tl58 tl59 tl61 tl62 tl63 tl64 tl65 tl66 tl67 tl68 tl69 tl70 tl71 tl72 tl73 tl74 tl75 tl76 tl77 tl78 tl79 tl80 tl81 tl82 tl83 tl84 tl85 tl87 tl89 tl90 tl91 tl92 tl93 tl94 tl96 tl97 tl98 tl99 tl100 tl101 tl102 tl103 tl104 tl105 tl106 tl107 tl108 tl109 tl115 tl119
def m61_2_L1 (N : Nat) (x3213 : Int) (n3214 : Nat) (x3215 : Int) (c3216 : List PV) (x3309 : Int) (n3316 : Nat) (c3317 : List PV) : Nat → Int → List PV → Option ((((Int × List PV) ⊕ (Int × List PV × List PV)) ⊕ List PV))
  | 0, _, _ => none
  | n + 1, x3356, c3357 =>
    brn (decide (x3356 < ((n3316 : Nat) : Int))) (
      grd (0 ≤ x3356 ∧ x3356 < ((n3316 : Nat) : Int)) <|
      grd (0 < List.length (List.drop (Int.toNat x3356) c3317)) <|
      getI .i64 (gp c3317 (Int.toNat x3356)) fun x3363 =>
      brn (decide (x3363 < 0)) (
        some (.inl (.inl (2, c3216)))) (
        brn (decide (x3363 ≥ x3213)) (
          some (.inl (.inl (2, c3216)))) (
          grd (x3309 < 5) <|
          grd ((26 + (Int.toNat x3309)) < List.length c3357) <|
          getI .u64 (gp c3357 (26 + (Int.toNat x3309))) fun x3373 =>
          grd (0 ≤ x3363) <|
          brn ((bitsI .and .u64 (Int.fdiv x3373 (2 ^ (min (Int.toNat x3363) 64))) 1) == 1) (
            some (.inl (.inl (6, c3216)))) (
            grd (x3356 < 5) <|
            grd ((31 + (Int.toNat x3356)) < List.length c3357) <|
            getI .u64 (gp c3357 (31 + (Int.toNat x3356))) fun x3381 =>
            brn ((bitsI .and .u64 (Int.fdiv x3381 (2 ^ (min (Int.toNat x3363) 64))) 1) == 1) (
              some (.inl (.inl (13, c3216)))) (
              bnd' (m72 N x3309 x3356 x3363 c3357) fun (p3385, c3387) =>
              getT0 p3385 <|
              m61_2_L1 N x3213 n3214 x3215 c3216 x3309 n3316 c3317 n (IntKind.i64.wrap (x3356 + 1)) c3387))))) (
      some (.inr c3357))
def m61_2_L0 (N : Nat) (x3213 : Int) (n3214 : Nat) (x3215 : Int) (c3216 : List PV) : Nat → Int → List PV → Option ((((Int × List PV) ⊕ (Int × List PV × List PV)) ⊕ List PV))
  | 0, _, _ => none
  | n + 1, x3309, c3310 =>
    brn (decide (x3309 < ((n3214 : Nat) : Int))) (
      grd (0 ≤ x3309 ∧ x3309 < ((n3214 : Nat) : Int)) <|
      grd ((Int.toNat x3309) < List.length c3216) <|
      getL (gp c3216 (Int.toNat x3309)) fun n3316 c3317 =>
      brn (((n3316 : Nat) : Int) != x3215) (
        some (.inl (.inl (5, c3216)))) (
        brn (decide (x3215 > x3213)) (
          some (.inl (.inl (5, c3216)))) (
          bnd' (m61_2_L1 N x3213 n3214 x3215 c3216 x3309 n3316 c3317 N 0 c3310) fun o =>
          match o with
          | .inl p3389 =>
            some (.inl p3389)
          | .inr c3390 =>
            m61_2_L0 N x3213 n3214 x3215 c3216 n (IntKind.i64.wrap (x3309 + 1)) c3390))) (
      some (.inr c3310))
def m61_2 (N : Nat) (x3213 : Int) (n3214 : Nat) (x3215 : Int) (c3216 : List PV) : Option (((Int × List PV) ⊕ (Int × List PV × List PV))) :=
  brn (decide (x3213 < 1)) (
    some (.inl (1, c3216))) (
    brn (decide (x3213 > 5)) (
      some (.inl (1, c3216))) (
      brn (decide (((n3214 : Nat) : Int) > x3213)) (
        some (.inl (3, c3216))) (
        bnd' (m71 N x3213) fun o =>
        match o with
        | c3227 =>
          bnd' (m61_2_L0 N x3213 n3214 x3215 c3216 N 0 c3227) fun o =>
          match o with
          | .inl p3391 =>
            some p3391
          | .inr c3392 =>
            some (.inr (0, c3216, c3392)))))
theorem c61_2 (N : Nat) (x3213 : Int) (n3214 : Nat) (x3215 : Int) (c3216 : List PV) (r : ((Int × List PV) ⊕ (Int × List PV × List PV)))  (h : m61_2 N x3213 n3214 x3215 c3216 = some r) : V.Fn Tryd.prog 61 1 [.v (.int .i64 x3213), .sl false 0 0 n3214 1, .v (.int .i64 x3215)] [(0, .p c3216)] (fun d ob' => match (generalizing := false) r with | .inl (x3218, c3219) => d = .v (.tup [(.fn 999999 [.bool true]), (.int .i64 x3218)]) ∧ ob' = [(0, .p c3219)] | .inr (x3393, c3394, c3395) => d = .tup [.ptr 1 0, .v (.int .i64 x3393)] ∧ ob' = [(0, .p c3394), (1, .p c3395)]) := by
  unfold m61_2 at h
  refine Fn_of (sz := 88) tab_ok [0, 1, 2, 6, 7, 8, 9, 10, 11, 12, 13, 20, 27, 28, 29, 30, 42, 43, 44, 45, 46, 50, 58, 69] [.tmp 6, .tmp 7] Tryd.func61 rfl rfl rfl (by simp) ?_
  simp only [initSt, initEnv, List.map_cons, List.map_nil, List.getD_cons_zero, List.getD_cons_succ, List.getD_nil]
  have hh := brn_some h; clear h; rcases hh with ⟨h3217, h⟩ | ⟨h3217, h⟩
  · refine W_sound tab_ok mixed 25 _ _ _ ?_
    simp -implicitDefEqProofs only [go_sem, qa, qb, qc, qd, qe, qf, qg, qh, qi, qj, qk, ↓reduceIte, h3217]
    repeat with_reducible refine ⟨by first | kernel_rfl | decide, ?_⟩
    obtain rfl := Option.some.inj h
    exact finD (e2 := [(0, .dead), (1, .dead), (2, .dead), (6, .v (.fn 999999 [.bool true])), (7, .v (.int .i64 1)), (8, .dead), (9, .dead), (10, .dead), (11, .dead), (12, .dead), (13, .dead), (20, .dead), (27, .dead), (28, .dead), (29, .dead), (30, .dead), (42, .dead), (43, .dead), (44, .dead), (45, .dead), (46, .dead), (50, .dead), (58, .dead), (69, .dead)]) (ob2 := [(0, .p c3216)]) (st' := ⟨[], [(0, .dead), (1, .dead), (2, .dead), (6, .v (.fn 999999 [.bool true])), (7, .v (.int .i64 1)), (8, .dead), (9, .dead), (10, .dead), (11, .dead), (12, .dead), (13, .dead), (20, .dead), (27, .dead), (28, .dead), (29, .dead), (30, .dead), (42, .dead), (43, .dead), (44, .dead), (45, .dead), (46, .dead), (50, .dead), (58, .dead), (69, .dead)], [(0, .p c3216)], 1, []⟩) (.k (.k (.k (.r (.r (.r (.r (.r (.r (.r (.k (.r (.r (.r (.r (.r (.r (.r (.r (.r (.r (.r (.r (.r .nil)))))))))))))))))))))))) (.cons _ _ _ _ _ (DLes.refl _) .nil) (by kernel_rfl) (by simp only [go_sem, qa, qb, qc, qd, qe, qf, qg, qh, qi, qj, qk, ↓reduceIte, resQ_tmp, resQ_cell, resQ_nil, retD_one, retD_two, retD_three, retD_none] <;> first | rfl | exact ⟨rfl, rfl⟩ | (try simp [R.val, retD_one, retD_two, retD_three, retD_none]))
  · have hh := brn_some h; clear h; rcases hh with ⟨h3220, h⟩ | ⟨h3220, h⟩
    · refine W_sound tab_ok mixed 25 _ _ _ ?_
      simp -implicitDefEqProofs only [go_sem, qa, qb, qc, qd, qe, qf, qg, qh, qi, qj, qk, ↓reduceIte, h3217, h3220]
      repeat with_reducible refine ⟨by first | kernel_rfl | decide, ?_⟩
      obtain rfl := Option.some.inj h
      exact finD (e2 := [(0, .dead), (1, .dead), (2, .dead), (6, .v (.fn 999999 [.bool true])), (7, .v (.int .i64 1)), (8, .dead), (9, .dead), (10, .dead), (11, .dead), (12, .dead), (13, .dead), (20, .dead), (27, .dead), (28, .dead), (29, .dead), (30, .dead), (42, .dead), (43, .dead), (44, .dead), (45, .dead), (46, .dead), (50, .dead), (58, .dead), (69, .dead)]) (ob2 := [(0, .p c3216)]) (st' := ⟨[], [(0, .dead), (1, .dead), (2, .dead), (6, .v (.fn 999999 [.bool true])), (7, .v (.int .i64 1)), (8, .dead), (9, .dead), (10, .dead), (11, .dead), (12, .dead), (13, .dead), (20, .dead), (27, .dead), (28, .dead), (29, .dead), (30, .dead), (42, .dead), (43, .dead), (44, .dead), (45, .dead), (46, .dead), (50, .dead), (58, .dead), (69, .dead)], [(0, .p c3216)], 1, []⟩) (.k (.k (.k (.r (.r (.r (.r (.r (.r (.r (.k (.r (.r (.r (.r (.r (.r (.r (.r (.r (.r (.r (.r (.r .nil)))))))))))))))))))))))) (.cons _ _ _ _ _ (DLes.refl _) .nil) (by kernel_rfl) (by simp only [go_sem, qa, qb, qc, qd, qe, qf, qg, qh, qi, qj, qk, ↓reduceIte, resQ_tmp, resQ_cell, resQ_nil, retD_one, retD_two, retD_three, retD_none] <;> first | rfl | exact ⟨rfl, rfl⟩ | (try simp [R.val, retD_one, retD_two, retD_three, retD_none]))
    · have hh := brn_some h; clear h; rcases hh with ⟨h3223, h⟩ | ⟨h3223, h⟩
      · refine W_sound tab_ok mixed 34 _ _ _ ?_
        simp -implicitDefEqProofs only [go_sem, qa, qb, qc, qd, qe, qf, qg, qh, qi, qj, qk, ↓reduceIte, h3217, h3220, h3223]
        repeat with_reducible refine ⟨by first | kernel_rfl | decide, ?_⟩
        obtain rfl := Option.some.inj h
        exact finD (e2 := [(0, .dead), (1, .dead), (2, .dead), (6, .v (.fn 999999 [.bool true])), (7, .v (.int .i64 3)), (8, .dead), (9, .dead), (10, .dead), (11, .dead), (12, .dead), (13, .dead), (20, .dead), (27, .dead), (28, .dead), (29, .dead), (30, .dead), (42, .dead), (43, .dead), (44, .dead), (45, .dead), (46, .dead), (50, .dead), (58, .dead), (69, .dead)]) (ob2 := [(0, .p c3216)]) (st' := ⟨[], [(0, .dead), (1, .dead), (2, .dead), (6, .v (.fn 999999 [.bool true])), (7, .v (.int .i64 3)), (8, .dead), (9, .dead), (10, .dead), (11, .dead), (12, .dead), (13, .dead), (20, .dead), (27, .dead), (28, .dead), (29, .dead), (30, .dead), (42, .dead), (43, .dead), (44, .dead), (45, .dead), (46, .dead), (50, .dead), (58, .dead), (69, .dead)], [(0, .p c3216)], 1, []⟩) (.k (.k (.k (.r (.r (.r (.r (.r (.r (.r (.k (.k (.r (.r (.r (.r (.r (.r (.r (.r (.r (.r (.r (.r .nil)))))))))))))))))))))))) (.cons _ _ _ _ _ (DLes.refl _) .nil) (by kernel_rfl) (by simp only [go_sem, qa, qb, qc, qd, qe, qf, qg, qh, qi, qj, qk, ↓reduceIte, resQ_tmp, resQ_cell, resQ_nil, retD_one, retD_two, retD_three, retD_none] <;> first | rfl | exact ⟨rfl, rfl⟩ | (try simp [R.val, retD_one, retD_two, retD_three, retD_none]))
      · have hh := bnd'_some h; clear h; obtain ⟨c3227, h3226, h⟩ := hh
        (try dsimp only at h)
        refine W_sound tab_ok mixed 32 _ _ _ ?_
        simp -implicitDefEqProofs only [go_sem, qa, qb, qc, qd, qe, qf, qg, qh, qi, qj, qk, ↓reduceIte, h3217, h3220, h3223]
        repeat with_reducible refine ⟨by first | kernel_rfl | decide, ?_⟩
        refine Wp_callD [] (c71_a N _ _ h3226) rfl rfl rfl (by first | rfl | (simp only [go_sem, qa, qb, qc, qd, qe, qf, qg, qh, qi, qj, qk, ↓reduceIte, h3217, h3220, h3223] <;> rfl)) rfl (by kernel_rfl) ?_
        refine W_sound tab_ok mixed 9 _ _ _ ?_
        simp -implicitDefEqProofs only [go_sem, qa, qb, qc, qd, qe, qf, qg, qh, qi, qj, qk, ↓reduceIte, h3217, h3220, h3223]
        repeat with_reducible refine ⟨by first | kernel_rfl | decide, ?_⟩
        have hh := bnd'_some h; clear h; obtain ⟨o3396, h3397, h3398⟩ := hh
        refine Wp_cut (fun s => ∃ c3392, (.inr c3392) = o3396 ∧ s = ⟨[], [(0, .dead), (1, .dead), (2, .dead), (6, .dead), (7, .dead), (8, .ptr 1 0), (9, .dead), (10, .dead), (11, .dead), (12, .dead), (13, .dead), (20, .dead), (27, .dead), (28, .dead), (29, .dead), (30, .dead), (42, .dead), (43, .dead), (44, .dead), (45, .dead), (46, .dead), (50, .dead), (58, .dead), (69, .dead)], [(0, .p c3216), (1, .p c3392)], 2, []⟩) ?_ ?_
        · refine Wp_block ?_
          refine Wp_loopG (fun n s => ∃ x3309, ∃ c3310, m61_2_L0 N x3213 n3214 x3215 c3216 n x3309 c3310 = some o3396 ∧ s = ⟨[], [(0, .v (.int .i64 x3213)), (1, .dead), (2, .v (.int .i64 x3215)), (6, .dead), (7, .dead), (8, .ptr 1 0), (9, .dead), (10, .dead), (11, .dead), (12, .dead), (13, .dead), (20, .dead), (27, .sl false 0 0 n3214 1), (28, .v (.int .i64 ((n3214 : Nat) : Int))), (29, .v (.int .i64 x3309)), (30, .dead), (42, .dead), (43, .dead), (44, .dead), (45, .dead), (46, .dead), (50, .dead), (58, .dead), (69, .dead)], [(0, .p c3216), (1, .p c3310)], 2, []⟩) N _ ((Wk_le (.r (.k (.r (.k (.k (.r (.r (.r (.r (.r (.k (.k (.r (.r (.r (.r (.r (.r (.r (.r (.r (.r (.r (.r .nil)))))))))))))))))))))))) (OLe.refl _)).trans (cmpS_ok (st' := ⟨[], [(0, .v (.int .i64 x3213)), (1, .dead), (2, .v (.int .i64 x3215)), (6, .dead), (7, .dead), (8, .ptr 1 0), (9, .dead), (10, .dead), (11, .dead), (12, .dead), (13, .dead), (20, .dead), (27, .sl false 0 0 n3214 1), (28, .v (.int .i64 ((n3214 : Nat) : Int))), (29, .v (.int .i64 0)), (30, .dead), (42, .dead), (43, .dead), (44, .dead), (45, .dead), (46, .dead), (50, .dead), (58, .dead), (69, .dead)], [(0, .p c3216), (1, .p c3227)], 2, []⟩) (by kernel_rfl))) ⟨_, _, h3397, rfl⟩ ?_
          clear h3397
          rintro n _ ⟨x3309, c3310, h3397, rfl⟩
          cases n with
          | zero => cases h3397
          | succ n =>
            rw [m61_2_L0] at h3397
            have hh := brn_some h3397; clear h3397; rcases hh with ⟨h3311, h3397⟩ | ⟨h3311, h3397⟩
            · have hh := grd_some h3397; clear h3397; obtain ⟨⟨g3312, g3313⟩, h3397⟩ := hh
              have hh := grd_some h3397; clear h3397; obtain ⟨g3314, h3397⟩ := hh
              have hh := getL_some h3397; clear h3397; obtain ⟨n3316, c3317, h3315, h3397⟩ := hh
              have hh := brn_some h3397; clear h3397; rcases hh with ⟨h3318, h3397⟩ | ⟨h3318, h3397⟩
              · refine W_sound tab_ok mixed 38 _ _ _ ?_
                simp -implicitDefEqProofs only [go_sem, qa, qb, qc, qd, qe, qf, qg, qh, qi, qj, qk, ↓reduceIte, h3217, h3220, h3223, h3311, g3312, g3313, g3314, h3315, h3318]
                repeat with_reducible refine ⟨by first | kernel_rfl | decide, ?_⟩
                obtain rfl := Option.some.inj h3397
                (try dsimp only at h3398)
                obtain rfl := Option.some.inj h3398
                exact finD (e2 := [(0, .dead), (1, .dead), (2, .dead), (6, .v (.fn 999999 [.bool true])), (7, .v (.int .i64 5)), (8, .dead), (9, .dead), (10, .dead), (11, .dead), (12, .dead), (13, .dead), (20, .dead), (27, .dead), (28, .dead), (29, .dead), (30, .dead), (42, .dead), (43, .dead), (44, .dead), (45, .dead), (46, .dead), (50, .dead), (58, .dead), (69, .dead)]) (ob2 := [(0, .p c3216), (1, .p c3310)]) (st' := ⟨[], [(0, .dead), (1, .dead), (2, .dead), (6, .v (.fn 999999 [.bool true])), (7, .v (.int .i64 5)), (8, .dead), (9, .dead), (10, .dead), (11, .dead), (12, .dead), (13, .dead), (20, .dead), (27, .dead), (28, .dead), (29, .dead), (30, .dead), (42, .dead), (43, .dead), (44, .dead), (45, .dead), (46, .dead), (50, .dead), (58, .dead), (69, .dead)], [(0, .p c3216)], 1, []⟩) (.k (.r (.k (.r (.r (.k (.k (.k (.r (.r (.r (.r (.k (.k (.k (.k (.k (.r (.r (.r (.r (.r (.r (.r .nil)))))))))))))))))))))))) (.cons _ _ _ _ _ (DLes.refl _) (.cons _ _ _ _ _ (DLes.refl _) .nil)) (by kernel_rfl) (by simp only [go_sem, qa, qb, qc, qd, qe, qf, qg, qh, qi, qj, qk, ↓reduceIte, resQ_tmp, resQ_cell, resQ_nil, retD_one, retD_two, retD_three, retD_none] <;> first | rfl | exact ⟨rfl, rfl⟩ | (try simp [R.val, retD_one, retD_two, retD_three, retD_none]))
              · have hh := brn_some h3397; clear h3397; rcases hh with ⟨h3321, h3397⟩ | ⟨h3321, h3397⟩
                · refine W_sound tab_ok mixed 38 _ _ _ ?_
                  simp -implicitDefEqProofs only [go_sem, qa, qb, qc, qd, qe, qf, qg, qh, qi, qj, qk, ↓reduceIte, h3217, h3220, h3223, h3311, g3312, g3313, g3314, h3315, h3318, h3321]
                  repeat with_reducible refine ⟨by first | kernel_rfl | decide, ?_⟩
                  obtain rfl := Option.some.inj h3397
                  (try dsimp only at h3398)
                  obtain rfl := Option.some.inj h3398
                  exact finD (e2 := [(0, .dead), (1, .dead), (2, .dead), (6, .v (.fn 999999 [.bool true])), (7, .v (.int .i64 5)), (8, .dead), (9, .dead), (10, .dead), (11, .dead), (12, .dead), (13, .dead), (20, .dead), (27, .dead), (28, .dead), (29, .dead), (30, .dead), (42, .dead), (43, .dead), (44, .dead), (45, .dead), (46, .dead), (50, .dead), (58, .dead), (69, .dead)]) (ob2 := [(0, .p c3216), (1, .p c3310)]) (st' := ⟨[], [(0, .dead), (1, .dead), (2, .dead), (6, .v (.fn 999999 [.bool true])), (7, .v (.int .i64 5)), (8, .dead), (9, .dead), (10, .dead), (11, .dead), (12, .dead), (13, .dead), (20, .dead), (27, .dead), (28, .dead), (29, .dead), (30, .dead), (42, .dead), (43, .dead), (44, .dead), (45, .dead), (46, .dead), (50, .dead), (58, .dead), (69, .dead)], [(0, .p c3216)], 1, []⟩) (.k (.r (.k (.r (.r (.k (.k (.k (.r (.r (.r (.r (.k (.k (.k (.k (.k (.r (.r (.r (.r (.r (.r (.r .nil)))))))))))))))))))))))) (.cons _ _ _ _ _ (DLes.refl _) (.cons _ _ _ _ _ (DLes.refl _) .nil)) (by kernel_rfl) (by simp only [go_sem, qa, qb, qc, qd, qe, qf, qg, qh, qi, qj, qk, ↓reduceIte, resQ_tmp, resQ_cell, resQ_nil, retD_one, retD_two, retD_three, retD_none] <;> first | rfl | exact ⟨rfl, rfl⟩ | (try simp [R.val, retD_one, retD_two, retD_three, retD_none]))
                · refine W_sound tab_ok mixed 38 _ _ _ ?_
                  simp -implicitDefEqProofs only [go_sem, qa, qb, qc, qd, qe, qf, qg, qh, qi, qj, qk, ↓reduceIte, h3217, h3220, h3223, h3311, g3312, g3313, g3314, h3315, h3318, h3321]
                  repeat with_reducible refine ⟨by first | kernel_rfl | decide, ?_⟩
                  have hh := bnd'_some h3397; clear h3397; obtain ⟨o3399, h3400, h3401⟩ := hh
                  refine Wp_cut (fun s => ∃ c3390, (.inr c3390) = o3399 ∧ s = ⟨[], [(0, .v (.int .i64 x3213)), (1, .dead), (2, .v (.int .i64 x3215)), (6, .dead), (7, .dead), (8, .ptr 1 0), (9, .dead), (10, .dead), (11, .dead), (12, .dead), (13, .dead), (20, .dead), (27, .sl false 0 0 n3214 1), (28, .v (.int .i64 ((n3214 : Nat) : Int))), (29, .v (.int .i64 x3309)), (30, .dead), (42, .dead), (43, .dead), (44, .dead), (45, .dead), (46, .dead), (50, .dead), (58, .dead), (69, .dead)], [(0, .p c3216), (1, .p c3390)], 2, []⟩) ?_ ?_
                  · refine Wp_block ?_
                    refine Wp_loopG (fun n s => ∃ x3356, ∃ c3357, m61_2_L1 N x3213 n3214 x3215 c3216 x3309 n3316 c3317 n x3356 c3357 = some o3399 ∧ s = ⟨[], [(0, .v (.int .i64 x3213)), (1, .dead), (2, .v (.int .i64 x3215)), (6, .dead), (7, .dead), (8, .ptr 1 0), (9, .v (.int .i64 x3309)), (10, .dead), (11, .dead), (12, .dead), (13, .dead), (20, .dead), (27, .sl false 0 0 n3214 1), (28, .v (.int .i64 ((n3214 : Nat) : Int))), (29, .v (.int .i64 x3309)), (30, .dead), (42, .dead), (43, .v (.lst false n3316 c3317)), (44, .v (.int .i64 ((n3316 : Nat) : Int))), (45, .v (.int .i64 x3356)), (46, .dead), (50, .dead), (58, .dead), (69, .dead)], [(0, .p c3216), (1, .p c3357)], 2, []⟩) N _ ((Wk_le (.r (.r (.r (.r (.r (.r (.r (.k (.r (.r (.r (.r (.r (.r (.r (.k (.k (.r (.r (.r (.r (.r (.r (.r .nil)))))))))))))))))))))))) (OLe.refl _)).trans (cmpS_ok (st' := ⟨[], [(0, .v (.int .i64 x3213)), (1, .dead), (2, .v (.int .i64 x3215)), (6, .dead), (7, .dead), (8, .ptr 1 0), (9, .v (.int .i64 x3309)), (10, .dead), (11, .dead), (12, .dead), (13, .dead), (20, .dead), (27, .sl false 0 0 n3214 1), (28, .v (.int .i64 ((n3214 : Nat) : Int))), (29, .v (.int .i64 x3309)), (30, .dead), (42, .dead), (43, .v (.lst false n3316 c3317)), (44, .v (.int .i64 ((n3316 : Nat) : Int))), (45, .v (.int .i64 0)), (46, .dead), (50, .dead), (58, .dead), (69, .dead)], [(0, .p c3216), (1, .p c3310)], 2, []⟩) (by kernel_rfl))) ⟨_, _, h3400, rfl⟩ ?_
                    clear h3400
                    rintro n _ ⟨x3356, c3357, h3400, rfl⟩
                    cases n with
                    | zero => cases h3400
                    | succ n =>
                      rw [m61_2_L1] at h3400
                      have hh := brn_some h3400; clear h3400; rcases hh with ⟨h3358, h3400⟩ | ⟨h3358, h3400⟩
                      · have hh := grd_some h3400; clear h3400; obtain ⟨⟨g3359, g3360⟩, h3400⟩ := hh
                        have hh := grd_some h3400; clear h3400; obtain ⟨g3361, h3400⟩ := hh
                        have hh := getI_some h3400; clear h3400; obtain ⟨x3363, h3362, h3400⟩ := hh
                        have hh := brn_some h3400; clear h3400; rcases hh with ⟨h3364, h3400⟩ | ⟨h3364, h3400⟩
                        · refine W_sound tab_ok mixed 38 _ _ _ ?_
                          simp -implicitDefEqProofs only [go_sem, qa, qb, qc, qd, qe, qf, qg, qh, qi, qj, qk, ↓reduceIte, h3217, h3220, h3223, h3311, g3312, g3313, g3314, h3315, h3318, h3321, h3358, g3359, g3360, g3361, h3362, h3364]
                          repeat with_reducible refine ⟨by first | kernel_rfl | decide, ?_⟩
                          obtain rfl := Option.some.inj h3400
                          (try dsimp only at h3401)
                          obtain rfl := Option.some.inj h3401
                          (try dsimp only at h3398)
                          obtain rfl := Option.some.inj h3398
                          exact finD (e2 := [(0, .dead), (1, .dead), (2, .dead), (6, .v (.fn 999999 [.bool true])), (7, .v (.int .i64 2)), (8, .dead), (9, .dead), (10, .dead), (11, .dead), (12, .dead), (13, .dead), (20, .dead), (27, .dead), (28, .dead), (29, .dead), (30, .dead), (42, .dead), (43, .dead), (44, .dead), (45, .dead), (46, .dead), (50, .dead), (58, .dead), (69, .dead)]) (ob2 := [(0, .p c3216), (1, .p c3357)]) (st' := ⟨[], [(0, .dead), (1, .dead), (2, .dead), (6, .v (.fn 999999 [.bool true])), (7, .v (.int .i64 2)), (8, .dead), (9, .dead), (10, .dead), (11, .dead), (12, .dead), (13, .dead), (20, .dead), (27, .dead), (28, .dead), (29, .dead), (30, .dead), (42, .dead), (43, .dead), (44, .dead), (45, .dead), (46, .dead), (50, .dead), (58, .dead), (69, .dead)], [(0, .p c3216)], 1, []⟩) (.k (.r (.k (.r (.r (.k (.k (.r (.k (.k (.r (.r (.k (.k (.k (.r (.r (.k (.k (.k (.k (.k (.r (.r .nil)))))))))))))))))))))))) (.cons _ _ _ _ _ (DLes.refl _) (.cons _ _ _ _ _ (DLes.refl _) .nil)) (by kernel_rfl) (by simp only [go_sem, qa, qb, qc, qd, qe, qf, qg, qh, qi, qj, qk, ↓reduceIte, resQ_tmp, resQ_cell, resQ_nil, retD_one, retD_two, retD_three, retD_none] <;> first | rfl | exact ⟨rfl, rfl⟩ | (try simp [R.val, retD_one, retD_two, retD_three, retD_none]))
                        · have hh := brn_some h3400; clear h3400; rcases hh with ⟨h3367, h3400⟩ | ⟨h3367, h3400⟩
                          · refine W_sound tab_ok mixed 38 _ _ _ ?_
                            simp -implicitDefEqProofs only [go_sem, qa, qb, qc, qd, qe, qf, qg, qh, qi, qj, qk, ↓reduceIte, h3217, h3220, h3223, h3311, g3312, g3313, g3314, h3315, h3318, h3321, h3358, g3359, g3360, g3361, h3362, h3364, h3367]
                            repeat with_reducible refine ⟨by first | kernel_rfl | decide, ?_⟩
                            obtain rfl := Option.some.inj h3400
                            (try dsimp only at h3401)
                            obtain rfl := Option.some.inj h3401
                            (try dsimp only at h3398)
                            obtain rfl := Option.some.inj h3398
                            exact finD (e2 := [(0, .dead), (1, .dead), (2, .dead), (6, .v (.fn 999999 [.bool true])), (7, .v (.int .i64 2)), (8, .dead), (9, .dead), (10, .dead), (11, .dead), (12, .dead), (13, .dead), (20, .dead), (27, .dead), (28, .dead), (29, .dead), (30, .dead), (42, .dead), (43, .dead), (44, .dead), (45, .dead), (46, .dead), (50, .dead), (58, .dead), (69, .dead)]) (ob2 := [(0, .p c3216), (1, .p c3357)]) (st' := ⟨[], [(0, .dead), (1, .dead), (2, .dead), (6, .v (.fn 999999 [.bool true])), (7, .v (.int .i64 2)), (8, .dead), (9, .dead), (10, .dead), (11, .dead), (12, .dead), (13, .dead), (20, .dead), (27, .dead), (28, .dead), (29, .dead), (30, .dead), (42, .dead), (43, .dead), (44, .dead), (45, .dead), (46, .dead), (50, .dead), (58, .dead), (69, .dead)], [(0, .p c3216)], 1, []⟩) (.k (.r (.k (.r (.r (.k (.k (.r (.k (.k (.r (.r (.k (.k (.k (.r (.r (.k (.k (.k (.k (.k (.r (.r .nil)))))))))))))))))))))))) (.cons _ _ _ _ _ (DLes.refl _) (.cons _ _ _ _ _ (DLes.refl _) .nil)) (by kernel_rfl) (by simp only [go_sem, qa, qb, qc, qd, qe, qf, qg, qh, qi, qj, qk, ↓reduceIte, resQ_tmp, resQ_cell, resQ_nil, retD_one, retD_two, retD_three, retD_none] <;> first | rfl | exact ⟨rfl, rfl⟩ | (try simp [R.val, retD_one, retD_two, retD_three, retD_none]))
                          · have hh := grd_some h3400; clear h3400; obtain ⟨g3370, h3400⟩ := hh
                            have hh := grd_some h3400; clear h3400; obtain ⟨g3371, h3400⟩ := hh
                            have hh := getI_some h3400; clear h3400; obtain ⟨x3373, h3372, h3400⟩ := hh
                            have hh := grd_some h3400; clear h3400; obtain ⟨g3374, h3400⟩ := hh
                            have hh := brn_some h3400; clear h3400; rcases hh with ⟨h3375, h3400⟩ | ⟨h3375, h3400⟩
                            · refine W_sound tab_ok mixed 53 _ _ _ ?_
                              simp -implicitDefEqProofs only [go_sem, qa, qb, qc, qd, qe, qf, qg, qh, qi, qj, qk, ↓reduceIte, h3217, h3220, h3223, h3311, g3312, g3313, g3314, h3315, h3318, h3321, h3358, g3359, g3360, g3361, h3362, h3364, h3367, g3370, g3371, h3372, g3374, h3375]
                              repeat with_reducible refine ⟨by first | kernel_rfl | decide, ?_⟩
                              obtain rfl := Option.some.inj h3400
                              (try dsimp only at h3401)
                              obtain rfl := Option.some.inj h3401
                              (try dsimp only at h3398)
                              obtain rfl := Option.some.inj h3398
                              exact finD (e2 := [(0, .dead), (1, .dead), (2, .dead), (6, .v (.fn 999999 [.bool true])), (7, .v (.int .i64 6)), (8, .dead), (9, .dead), (10, .dead), (11, .dead), (12, .dead), (13, .dead), (20, .dead), (27, .dead), (28, .dead), (29, .dead), (30, .dead), (42, .dead), (43, .dead), (44, .dead), (45, .dead), (46, .dead), (50, .dead), (58, .dead), (69, .dead)]) (ob2 := [(0, .p c3216), (1, .p c3357)]) (st' := ⟨[], [(0, .dead), (1, .dead), (2, .dead), (6, .v (.fn 999999 [.bool true])), (7, .v (.int .i64 6)), (8, .dead), (9, .dead), (10, .dead), (11, .dead), (12, .dead), (13, .dead), (20, .dead), (27, .dead), (28, .dead), (29, .dead), (30, .dead), (42, .dead), (43, .dead), (44, .dead), (45, .dead), (46, .dead), (50, .dead), (58, .dead), (69, .dead)], [(0, .p c3216)], 1, []⟩) (.k (.r (.k (.r (.r (.k (.k (.r (.k (.k (.r (.r (.k (.k (.k (.r (.r (.k (.k (.k (.k (.k (.k (.r .nil)))))))))))))))))))))))) (.cons _ _ _ _ _ (DLes.refl _) (.cons _ _ _ _ _ (DLes.refl _) .nil)) (by kernel_rfl) (by simp only [go_sem, qa, qb, qc, qd, qe, qf, qg, qh, qi, qj, qk, ↓reduceIte, resQ_tmp, resQ_cell, resQ_nil, retD_one, retD_two, retD_three, retD_none] <;> first | rfl | exact ⟨rfl, rfl⟩ | (try simp [R.val, retD_one, retD_two, retD_three, retD_none]))
                            · have hh := grd_some h3400; clear h3400; obtain ⟨g3378, h3400⟩ := hh
                              have hh := grd_some h3400; clear h3400; obtain ⟨g3379, h3400⟩ := hh
                              have hh := getI_some h3400; clear h3400; obtain ⟨x3381, h3380, h3400⟩ := hh
                              have hh := brn_some h3400; clear h3400; rcases hh with ⟨h3382, h3400⟩ | ⟨h3382, h3400⟩
                              · refine W_sound tab_ok mixed 68 _ _ _ ?_
                                simp -implicitDefEqProofs only [go_sem, qa, qb, qc, qd, qe, qf, qg, qh, qi, qj, qk, ↓reduceIte, h3217, h3220, h3223, h3311, g3312, g3313, g3314, h3315, h3318, h3321, h3358, g3359, g3360, g3361, h3362, h3364, h3367, g3370, g3371, h3372, g3374, h3375, g3378, g3379, h3380, h3382]
                                repeat with_reducible refine ⟨by first | kernel_rfl | decide, ?_⟩
                                obtain rfl := Option.some.inj h3400
                                (try dsimp only at h3401)
                                obtain rfl := Option.some.inj h3401
                                (try dsimp only at h3398)
                                obtain rfl := Option.some.inj h3398
                                exact finD (e2 := [(0, .dead), (1, .dead), (2, .dead), (6, .v (.fn 999999 [.bool true])), (7, .v (.int .i64 13)), (8, .dead), (9, .dead), (10, .dead), (11, .dead), (12, .dead), (13, .dead), (20, .dead), (27, .dead), (28, .dead), (29, .dead), (30, .dead), (42, .dead), (43, .dead), (44, .dead), (45, .dead), (46, .dead), (50, .dead), (58, .dead), (69, .dead)]) (ob2 := [(0, .p c3216), (1, .p c3357)]) (st' := ⟨[], [(0, .dead), (1, .dead), (2, .dead), (6, .v (.fn 999999 [.bool true])), (7, .v (.int .i64 13)), (8, .dead), (9, .dead), (10, .dead), (11, .dead), (12, .dead), (13, .dead), (20, .dead), (27, .dead), (28, .dead), (29, .dead), (30, .dead), (42, .dead), (43, .dead), (44, .dead), (45, .dead), (46, .dead), (50, .dead), (58, .dead), (69, .dead)], [(0, .p c3216)], 1, []⟩) (.k (.r (.k (.r (.r (.k (.k (.r (.k (.k (.r (.r (.k (.k (.k (.r (.r (.k (.k (.k (.k (.k (.k (.k .nil)))))))))))))))))))))))) (.cons _ _ _ _ _ (DLes.refl _) (.cons _ _ _ _ _ (DLes.refl _) .nil)) (by kernel_rfl) (by simp only [go_sem, qa, qb, qc, qd, qe, qf, qg, qh, qi, qj, qk, ↓reduceIte, resQ_tmp, resQ_cell, resQ_nil, retD_one, retD_two, retD_three, retD_none] <;> first | rfl | exact ⟨rfl, rfl⟩ | (try simp [R.val, retD_one, retD_two, retD_three, retD_none]))
                              · have hh := bnd'_some h3400; clear h3400; obtain ⟨⟨p3385, c3387⟩, h3386, h3400⟩ := hh
                                (try dsimp only at h3400)
                                refine W_sound tab_ok mixed 68 _ _ _ ?_
                                simp -implicitDefEqProofs only [go_sem, qa, qb, qc, qd, qe, qf, qg, qh, qi, qj, qk, ↓reduceIte, h3217, h3220, h3223, h3311, g3312, g3313, g3314, h3315, h3318, h3321, h3358, g3359, g3360, g3361, h3362, h3364, h3367, g3370, g3371, h3372, g3374, h3375, g3378, g3379, h3380, h3382]
                                repeat with_reducible refine ⟨by first | kernel_rfl | decide, ?_⟩
                                refine Wp_callD [1] (c72 N _ _ _ _ _ _ h3386) rfl rfl rfl (by first | rfl | (simp only [go_sem, qa, qb, qc, qd, qe, qf, qg, qh, qi, qj, qk, ↓reduceIte, h3217, h3220, h3223, h3311, g3312, g3313, g3314, h3315, h3318, h3321, h3358, g3359, g3360, g3361, h3362, h3364, h3367, g3370, g3371, h3372, g3374, h3375, g3378, g3379, h3380, h3382] <;> rfl)) rfl (by kernel_rfl) ?_
                                have hh := getT0_some h3400; clear h3400; obtain ⟨h3388, h3400⟩ := hh
                                refine W_sound tab_ok mixed 6 _ _ _ ?_
                                simp -implicitDefEqProofs only [go_sem, qa, qb, qc, qd, qe, qf, qg, qh, qi, qj, qk, ↓reduceIte, h3217, h3220, h3223, h3311, g3312, g3313, g3314, h3315, h3318, h3321, h3358, g3359, g3360, g3361, h3362, h3364, h3367, g3370, g3371, h3372, g3374, h3375, g3378, g3379, h3380, h3382, h3388]
                                repeat with_reducible refine ⟨by first | kernel_rfl | decide, ?_⟩
                                exact cutQ _ ((Wk_le (.r (.r (.r (.r (.r (.r (.r (.r (.k (.k (.r (.r (.r (.r (.r (.r (.r (.r (.r (.r (.k (.k (.k (.k .nil)))))))))))))))))))))))) (OLe.refl _)).trans (cmpS_ok (st' := ⟨[], [(0, .v (.int .i64 x3213)), (1, .dead), (2, .v (.int .i64 x3215)), (6, .dead), (7, .dead), (8, .ptr 1 0), (9, .v (.int .i64 x3309)), (10, .dead), (11, .dead), (12, .dead), (13, .dead), (20, .dead), (27, .sl false 0 0 n3214 1), (28, .v (.int .i64 ((n3214 : Nat) : Int))), (29, .v (.int .i64 x3309)), (30, .dead), (42, .dead), (43, .v (.lst false n3316 c3317)), (44, .v (.int .i64 ((n3316 : Nat) : Int))), (45, .v (.int .i64 (IntKind.i64.wrap (x3356 + 1)))), (46, .dead), (50, .dead), (58, .dead), (69, .dead)], [(0, .p c3216), (1, .p c3387)], 2, []⟩) (by kernel_rfl))) ⟨n, Nat.lt_succ_self n, _, _, h3400, rfl⟩
                      · refine W_sound tab_ok mixed 7 _ _ _ ?_
                        simp -implicitDefEqProofs only [go_sem, qa, qb, qc, qd, qe, qf, qg, qh, qi, qj, qk, ↓reduceIte, h3217, h3220, h3223, h3311, g3312, g3313, g3314, h3315, h3318, h3321, h3358]
                        repeat with_reducible refine ⟨by first | kernel_rfl | decide, ?_⟩
                        obtain rfl := Option.some.inj h3400
                        exact cutQ _ ((Wk_le (.r (.r (.r (.r (.r (.r (.k (.r (.r (.r (.r (.r (.r (.r (.r (.r (.r (.k (.k (.k (.k (.r (.r (.r .nil)))))))))))))))))))))))) (OLe.refl _)).trans (cmpS_ok (st' := ⟨[], [(0, .v (.int .i64 x3213)), (1, .dead), (2, .v (.int .i64 x3215)), (6, .dead), (7, .dead), (8, .ptr 1 0), (9, .dead), (10, .dead), (11, .dead), (12, .dead), (13, .dead), (20, .dead), (27, .sl false 0 0 n3214 1), (28, .v (.int .i64 ((n3214 : Nat) : Int))), (29, .v (.int .i64 x3309)), (30, .dead), (42, .dead), (43, .dead), (44, .dead), (45, .dead), (46, .dead), (50, .dead), (58, .dead), (69, .dead)], [(0, .p c3216), (1, .p c3357)], 2, []⟩) (by kernel_rfl))) ⟨_, rfl, rfl⟩
                  · rintro _ ⟨c3390, rfl, rfl⟩
                    (try dsimp only at h3401)
                    refine W_sound tab_ok mixed 5 _ _ _ ?_
                    simp -implicitDefEqProofs only [go_sem, qa, qb, qc, qd, qe, qf, qg, qh, qi, qj, qk, ↓reduceIte, h3217, h3220, h3223, h3311, g3312, g3313, g3314, h3315, h3318, h3321]
                    repeat with_reducible refine ⟨by first | kernel_rfl | decide, ?_⟩
                    exact cutQ _ ((Wk_le (.r (.r (.r (.r (.r (.r (.r (.r (.r (.r (.r (.r (.r (.r (.r (.r (.r (.r (.r (.r (.r (.r (.r (.r .nil)))))))))))))))))))))))) (OLe.refl _)).trans (cmpS_ok (st' := ⟨[], [(0, .v (.int .i64 x3213)), (1, .dead), (2, .v (.int .i64 x3215)), (6, .dead), (7, .dead), (8, .ptr 1 0), (9, .dead), (10, .dead), (11, .dead), (12, .dead), (13, .dead), (20, .dead), (27, .sl false 0 0 n3214 1), (28, .v (.int .i64 ((n3214 : Nat) : Int))), (29, .v (.int .i64 (IntKind.i64.wrap (x3309 + 1)))), (30, .dead), (42, .dead), (43, .dead), (44, .dead), (45, .dead), (46, .dead), (50, .dead), (58, .dead), (69, .dead)], [(0, .p c3216), (1, .p c3390)], 2, []⟩) (by kernel_rfl))) ⟨n, Nat.lt_succ_self n, _, _, h3401, rfl⟩
            · refine W_sound tab_ok mixed 7 _ _ _ ?_
              simp -implicitDefEqProofs only [go_sem, qa, qb, qc, qd, qe, qf, qg, qh, qi, qj, qk, ↓reduceIte, h3217, h3220, h3223, h3311]
              repeat with_reducible refine ⟨by first | kernel_rfl | decide, ?_⟩
              obtain rfl := Option.some.inj h3397
              exact cutQ _ ((Wk_le (.k (.r (.k (.r (.r (.r (.r (.r (.r (.r (.r (.r (.k (.k (.k (.k (.r (.r (.r (.r (.r (.r (.r (.r .nil)))))))))))))))))))))))) (OLe.refl _)).trans (cmpS_ok (st' := ⟨[], [(0, .dead), (1, .dead), (2, .dead), (6, .dead), (7, .dead), (8, .ptr 1 0), (9, .dead), (10, .dead), (11, .dead), (12, .dead), (13, .dead), (20, .dead), (27, .dead), (28, .dead), (29, .dead), (30, .dead), (42, .dead), (43, .dead), (44, .dead), (45, .dead), (46, .dead), (50, .dead), (58, .dead), (69, .dead)], [(0, .p c3216), (1, .p c3310)], 2, []⟩) (by kernel_rfl))) ⟨_, rfl, rfl⟩
        · rintro _ ⟨c3392, rfl, rfl⟩
          (try dsimp only at h3398)
          refine W_sound tab_ok mixed 8 _ _ _ ?_
          simp -implicitDefEqProofs only [go_sem, qa, qb, qc, qd, qe, qf, qg, qh, qi, qj, qk, ↓reduceIte, h3217, h3220, h3223]
          repeat with_reducible refine ⟨by first | kernel_rfl | decide, ?_⟩
          obtain rfl := Option.some.inj h3398
          exact finD (e2 := [(0, .dead), (1, .dead), (2, .dead), (6, .ptr 1 0), (7, .v (.int .i64 0)), (8, .dead), (9, .dead), (10, .dead), (11, .dead), (12, .dead), (13, .dead), (20, .dead), (27, .dead), (28, .dead), (29, .dead), (30, .dead), (42, .dead), (43, .dead), (44, .dead), (45, .dead), (46, .dead), (50, .dead), (58, .dead), (69, .dead)]) (ob2 := [(0, .p c3216), (1, .p c3392)]) (st' := ⟨[], [(0, .dead), (1, .dead), (2, .dead), (6, .ptr 1 0), (7, .v (.int .i64 0)), (8, .dead), (9, .dead), (10, .dead), (11, .dead), (12, .dead), (13, .dead), (20, .dead), (27, .dead), (28, .dead), (29, .dead), (30, .dead), (42, .dead), (43, .dead), (44, .dead), (45, .dead), (46, .dead), (50, .dead), (58, .dead), (69, .dead)], [(0, .p c3216), (1, .p c3392)], 2, []⟩) (.r (.r (.r (.r (.r (.k (.r (.r (.r (.r (.r (.r (.r (.r (.r (.r (.r (.r (.r (.r (.r (.r (.r (.r .nil)))))))))))))))))))))))) (.cons _ _ _ _ _ (DLes.refl _) (.cons _ _ _ _ _ (DLes.refl _) .nil)) (by kernel_rfl) (by simp only [go_sem, qa, qb, qc, qd, qe, qf, qg, qh, qi, qj, qk, ↓reduceIte, resQ_tmp, resQ_cell, resQ_nil, retD_one, retD_two, retD_three, retD_none] <;> first | rfl | exact ⟨rfl, rfl⟩ | (try simp [R.val, retD_one, retD_two, retD_three, retD_none]))
theorem c61_2_a (N : Nat) (x3213 : Int) (n3214 : Nat) (x3215 : Int) (c3216 : List PV) (x3218 : Int) (c3219 : List PV) (h : m61_2 N x3213 n3214 x3215 c3216 = some (.inl (x3218, c3219))) : V.Fn Tryd.prog 61 1 [.v (.int .i64 x3213), .sl false 0 0 n3214 1, .v (.int .i64 x3215)] [(0, .p c3216)] (fun d ob' => d = .v (.tup [(.fn 999999 [.bool true]), (.int .i64 x3218)]) ∧ ob' = [(0, .p c3219)]) := c61_2 N x3213 n3214 x3215 c3216 _ h
theorem c61_2_b (N : Nat) (x3213 : Int) (n3214 : Nat) (x3215 : Int) (c3216 : List PV) (x3393 : Int) (c3394 : List PV) (c3395 : List PV) (h : m61_2 N x3213 n3214 x3215 c3216 = some (.inr (x3393, c3394, c3395))) : V.Fn Tryd.prog 61 1 [.v (.int .i64 x3213), .sl false 0 0 n3214 1, .v (.int .i64 x3215)] [(0, .p c3216)] (fun d ob' => d = .tup [.ptr 1 0, .v (.int .i64 x3393)] ∧ ob' = [(0, .p c3394), (1, .p c3395)]) := c61_2 N x3213 n3214 x3215 c3216 _ h
def m19_2 (N : Nat) (x3430 : Int) (n3431 : Nat) (c3432 : List PV) : Option ((PV × List PV)) :=
  bnd' (m61_2 N x3430 n3431 x3430 c3432) fun o =>
  match o with
  | .inl (x3435, c3436) =>
    brn (x3435 != 0) (
      some ((.tup [(.lst false 0 []), (.int .i64 x3435)]), c3436)) (
      brn (((n3431 : Nat) : Int) == x3430) (
        some ((.tup [(.lst false 0 []), (.int .i64 16)]), c3436)) (
        none))
  | .inr (x3439, c3440, c3441) =>
    brn (x3439 != 0) (
      some ((.tup [(.lst false 0 []), (.int .i64 x3439)]), c3440)) (
      brn (((n3431 : Nat) : Int) == x3430) (
        some ((.tup [(.lst false 0 []), (.int .i64 16)]), c3440)) (
        bnd' (m64 N c3441 [(.int .i64 ((n3431 : Nat) : Int)), (.int .i64 (IntKind.i64.wrap (((n3431 : Nat) : Int) + 1))), (.bool false), (.int .i64 0), (.int .i64 0), (.int .i64 0), (.int .i64 0), (.int .i64 0), (.int .i64 0), (.int .i64 0), (.int .i64 0), (.int .i64 0), (.int .i64 0), (.int .i64 0), (.int .i64 0), (.int .i64 0), (.int .i64 0), (.int .i64 0), (.int .i64 0), (.int .i64 0), (.int .i64 0), (.int .i64 0), (.int .i64 0), (.int .i64 0), (.int .i64 0), (.int .i64 0), (.int .i64 0), (.int .i64 0)]) fun (p3444, c3446, c3447) =>
        getT0 p3444 <|
        grd (28 ≤ List.length c3447) <|
        bnd' (m65 N (.agg (List.take 25 (List.drop 3 c3447))) x3430) fun p3450 =>
        getL p3450 fun n3453 c3454 =>
        grd (0 ≤ ((n3431 : Nat) : Int) ∧ ((n3431 : Nat) : Int) < ((n3453 : Nat) : Int)) <|
        grd (0 < List.length (List.drop n3431 c3454)) <|
        getL (gp c3454 n3431) fun n3459 c3460 =>
        some ((.tup [(.lst false n3459 c3460), (.int .i64 0)]), c3440)))
theorem c19_2 (N : Nat) (x3430 : Int) (n3431 : Nat) (c3432 : List PV) (r : PV) (c3462 : List PV) (h : m19_2 N x3430 n3431 c3432 = some (r, c3462)) : V.Fn Tryd.prog 19 1 [.v (.int .i64 x3430), .sl false 0 0 n3431 1] [(0, .p c3432)] (fun d ob' => d = .v r ∧ ob' = [(0, .p c3462)]) := by
  unfold m19_2 at h
  refine Fn_of (sz := 46) tab_ok [0, 1, 4, 5, 6, 7, 8, 16, 20] [.tmp 4, .tmp 5] Tryd.func19 rfl rfl rfl (by simp) ?_
  simp only [initSt, initEnv, List.map_cons, List.map_nil, List.getD_cons_zero, List.getD_cons_succ, List.getD_nil]
  have hh := bnd'_some h; clear h; obtain ⟨oo, h3434, h⟩ := hh
  rcases oo with ⟨x3435, c3436⟩ | ⟨x3439, c3440, c3441⟩
  · (try dsimp only at h)
    refine W_sound tab_ok mixed 10 _ _ _ ?_
    simp -implicitDefEqProofs only [go_sem, qa, qb, qc, qd, qe, qf, qg, qh, qi, qj, qk, ↓reduceIte]
    repeat with_reducible refine ⟨by first | kernel_rfl | decide, ?_⟩
    refine Wp_callD [0] (c61_2_a N _ _ _ _ _ _ h3434) rfl rfl rfl (by first | rfl | (simp only [go_sem, qa, qb, qc, qd, qe, qf, qg, qh, qi, qj, qk, ↓reduceIte] <;> rfl)) rfl (by kernel_rfl) ?_
    have hh := brn_some h; clear h; rcases hh with ⟨h3437, h⟩ | ⟨h3437, h⟩
    · refine W_sound tab_ok mixed 23 _ _ _ ?_
      simp -implicitDefEqProofs only [go_sem, qa, qb, qc, qd, qe, qf, qg, qh, qi, qj, qk, ↓reduceIte, h3437]
      repeat with_reducible refine ⟨by first | kernel_rfl | decide, ?_⟩
      simp only [Option.some.injEq, Prod.mk.injEq] at h; obtain ⟨rfl, rfl⟩ := h
      exact finD (e2 := [(0, .dead), (1, .dead), (4, .v (.lst false 0 [])), (5, .v (.int .i64 x3435)), (6, .dead), (7, .dead), (8, .dead), (16, .dead), (20, .dead)]) (ob2 := [(0, .p c3436)]) (st' := ⟨[], [(0, .dead), (1, .dead), (4, .v (.lst false 0 [])), (5, .v (.int .i64 x3435)), (6, .dead), (7, .dead), (8, .dead), (16, .dead), (20, .dead)], [(0, .p c3436)], 1, []⟩) (.k (.k (.cons _ _ _ _ _ (.v _ _ (.nl false)) (.r (.k (.k (.r (.k (.r .nil))))))))) (.cons _ _ _ _ _ (DLes.refl _) .nil) (by kernel_rfl) (by simp only [go_sem, qa, qb, qc, qd, qe, qf, qg, qh, qi, qj, qk, ↓reduceIte, resQ_tmp, resQ_cell, resQ_nil, retD_one, retD_two, retD_three, retD_none]; try simp [R.val, retD_one, retD_two, retD_three, retD_none])
    · have hh := brn_some h; clear h; rcases hh with ⟨h3438, h⟩ | ⟨h3438, h⟩
      · refine W_sound tab_ok mixed 31 _ _ _ ?_
        simp -implicitDefEqProofs only [go_sem, qa, qb, qc, qd, qe, qf, qg, qh, qi, qj, qk, ↓reduceIte, h3437, h3438]
        repeat with_reducible refine ⟨by first | kernel_rfl | decide, ?_⟩
        simp only [Option.some.injEq, Prod.mk.injEq] at h; obtain ⟨rfl, rfl⟩ := h
        exact finD (e2 := [(0, .dead), (1, .dead), (4, .v (.lst false 0 [])), (5, .v (.int .i64 16)), (6, .dead), (7, .dead), (8, .dead), (16, .dead), (20, .dead)]) (ob2 := [(0, .p c3436)]) (st' := ⟨[], [(0, .dead), (1, .dead), (4, .v (.lst false 0 [])), (5, .v (.int .i64 16)), (6, .dead), (7, .dead), (8, .dead), (16, .dead), (20, .dead)], [(0, .p c3436)], 1, []⟩) (.k (.k (.cons _ _ _ _ _ (.v _ _ (.nl false)) (.r (.k (.k (.r (.k (.k .nil))))))))) (.cons _ _ _ _ _ (DLes.refl _) .nil) (by kernel_rfl) (by simp only [go_sem, qa, qb, qc, qd, qe, qf, qg, qh, qi, qj, qk, ↓reduceIte, resQ_tmp, resQ_cell, resQ_nil, retD_one, retD_two, retD_three, retD_none]; try simp [R.val, retD_one, retD_two, retD_three, retD_none])
      · cases h
  · (try dsimp only at h)
    refine W_sound tab_ok mixed 10 _ _ _ ?_
    simp -implicitDefEqProofs only [go_sem, qa, qb, qc, qd, qe, qf, qg, qh, qi, qj, qk, ↓reduceIte]
    repeat with_reducible refine ⟨by first | kernel_rfl | decide, ?_⟩
    refine Wp_callD [0] (c61_2_b N _ _ _ _ _ _ _ h3434) rfl rfl rfl (by first | rfl | (simp only [go_sem, qa, qb, qc, qd, qe, qf, qg, qh, qi, qj, qk, ↓reduceIte] <;> rfl)) rfl (by kernel_rfl) ?_
    have hh := brn_some h; clear h; rcases hh with ⟨h3442, h⟩ | ⟨h3442, h⟩
    · refine W_sound tab_ok mixed 23 _ _ _ ?_
      simp -implicitDefEqProofs only [go_sem, qa, qb, qc, qd, qe, qf, qg, qh, qi, qj, qk, ↓reduceIte, h3442]
      repeat with_reducible refine ⟨by first | kernel_rfl | decide, ?_⟩
      simp only [Option.some.injEq, Prod.mk.injEq] at h; obtain ⟨rfl, rfl⟩ := h
      exact finD (e2 := [(0, .dead), (1, .dead), (4, .v (.lst false 0 [])), (5, .v (.int .i64 x3439)), (6, .dead), (7, .dead), (8, .dead), (16, .dead), (20, .dead)]) (ob2 := [(14, .p c3441), (0, .p c3440)]) (st' := ⟨[], [(0, .dead), (1, .dead), (4, .v (.lst false 0 [])), (5, .v (.int .i64 x3439)), (6, .dead), (7, .dead), (8, .dead), (16, .dead), (20, .dead)], [(0, .p c3440)], 1, []⟩) (.k (.k (.cons _ _ _ _ _ (.v _ _ (.nl false)) (.r (.k (.k (.r (.k (.r .nil))))))))) (.cons _ _ _ _ _ (DLes.refl _) (.cons _ _ _ _ _ (DLes.refl _) .nil)) (by kernel_rfl) (by simp only [go_sem, qa, qb, qc, qd, qe, qf, qg, qh, qi, qj, qk, ↓reduceIte, resQ_tmp, resQ_cell, resQ_nil, retD_one, retD_two, retD_three, retD_none]; try simp [R.val, retD_one, retD_two, retD_three, retD_none])
    · have hh := brn_some h; clear h; rcases hh with ⟨h3443, h⟩ | ⟨h3443, h⟩
      · refine W_sound tab_ok mixed 31 _ _ _ ?_
        simp -implicitDefEqProofs only [go_sem, qa, qb, qc, qd, qe, qf, qg, qh, qi, qj, qk, ↓reduceIte, h3442, h3443]
        repeat with_reducible refine ⟨by first | kernel_rfl | decide, ?_⟩
        simp only [Option.some.injEq, Prod.mk.injEq] at h; obtain ⟨rfl, rfl⟩ := h
        exact finD (e2 := [(0, .dead), (1, .dead), (4, .v (.lst false 0 [])), (5, .v (.int .i64 16)), (6, .dead), (7, .dead), (8, .dead), (16, .dead), (20, .dead)]) (ob2 := [(14, .p c3441), (0, .p c3440)]) (st' := ⟨[], [(0, .dead), (1, .dead), (4, .v (.lst false 0 [])), (5, .v (.int .i64 16)), (6, .dead), (7, .dead), (8, .dead), (16, .dead), (20, .dead)], [(0, .p c3440)], 1, []⟩) (.k (.k (.cons _ _ _ _ _ (.v _ _ (.nl false)) (.r (.k (.k (.r (.k (.k .nil))))))))) (.cons _ _ _ _ _ (DLes.refl _) (.cons _ _ _ _ _ (DLes.refl _) .nil)) (by kernel_rfl) (by simp only [go_sem, qa, qb, qc, qd, qe, qf, qg, qh, qi, qj, qk, ↓reduceIte, resQ_tmp, resQ_cell, resQ_nil, retD_one, retD_two, retD_three, retD_none]; try simp [R.val, retD_one, retD_two, retD_three, retD_none])
      · have hh := bnd'_some h; clear h; obtain ⟨⟨p3444, c3446, c3447⟩, h3445, h⟩ := hh
        (try dsimp only at h)
        refine W_sound tab_ok mixed 42 _ _ _ ?_
        simp -implicitDefEqProofs only [go_sem, qa, qb, qc, qd, qe, qf, qg, qh, qi, qj, qk, ↓reduceIte, h3442, h3443]
        repeat with_reducible refine ⟨by first | kernel_rfl | decide, ?_⟩
        refine Wp_callD [14, 46] (c64 N _ _ _ _ _ h3445) rfl rfl rfl (by first | rfl | (simp only [go_sem, qa, qb, qc, qd, qe, qf, qg, qh, qi, qj, qk, ↓reduceIte, h3442, h3443] <;> rfl)) rfl (by kernel_rfl) ?_
        have hh := getT0_some h; clear h; obtain ⟨h3448, h⟩ := hh
        have hh := grd_some h; clear h; obtain ⟨g3449, h⟩ := hh
        have hh := bnd'_some h; clear h; obtain ⟨p3450, h3451, h⟩ := hh
        refine W_sound tab_ok mixed 8 _ _ _ ?_
        simp -implicitDefEqProofs only [go_sem, qa, qb, qc, qd, qe, qf, qg, qh, qi, qj, qk, ↓reduceIte, h3442, h3443, h3448, g3449]
        repeat with_reducible refine ⟨by first | kernel_rfl | decide, ?_⟩
        refine Wp_callP (c65 N _ _ _ h3451) (by kernel_rfl) rfl rfl rfl rfl (by decide) ?_
        have hh := getL_some h; clear h; obtain ⟨n3453, c3454, h3452, h⟩ := hh
        have hh := grd_some h; clear h; obtain ⟨⟨g3455, g3456⟩, h⟩ := hh
        have hh := grd_some h; clear h; obtain ⟨g3457, h⟩ := hh
        have hh := getL_some h; clear h; obtain ⟨n3459, c3460, h3458, h⟩ := hh
        refine W_sound tab_ok mixed 9 _ _ _ ?_
        simp -implicitDefEqProofs only [go_sem, qa, qb, qc, qd, qe, qf, qg, qh, qi, qj, qk, ↓reduceIte, h3442, h3443, h3448, g3449, h3452, g3455, g3456, g3457, h3458]
        repeat with_reducible refine ⟨by first | kernel_rfl | decide, ?_⟩
        simp only [Option.some.injEq, Prod.mk.injEq] at h; obtain ⟨rfl, rfl⟩ := h
        exact finD (e2 := [(0, .dead), (1, .dead), (4, .v (.lst false n3459 c3460)), (5, .v (.int .i64 0)), (6, .dead), (7, .dead), (8, .dead), (16, .dead), (20, .dead)]) (ob2 := [(0, .p c3440), (46, .p c3447), (14, .p c3446)]) (st' := ⟨[], [(0, .dead), (1, .dead), (4, .v (.lst false n3459 c3460)), (5, .v (.int .i64 0)), (6, .dead), (7, .dead), (8, .dead), (16, .dead), (20, .dead)], [(0, .p c3440)], 1, []⟩) (.k (.k (.r (.r (.k (.k (.k (.k (.k .nil))))))))) (.cons _ _ _ _ _ (DLes.refl _) (.cons _ _ _ _ _ (DLes.refl _) (.cons _ _ _ _ _ (DLes.refl _) .nil))) (by kernel_rfl) (by simp only [go_sem, qa, qb, qc, qd, qe, qf, qg, qh, qi, qj, qk, ↓reduceIte, resQ_tmp, resQ_cell, resQ_nil, retD_one, retD_two, retD_three, retD_none]; try simp [R.val, retD_one, retD_two, retD_three, retD_none])
def m29 (N : Nat) (x3499 : Int) (p3500 : PV) : Option (PV) :=
  getL p3500 fun n3502 c3503 =>
  bnd' (m61 N x3499 (.lst false n3502 c3503) x3499) fun o =>
  match o with
  | .inl x3505 =>
    brn (x3505 != 0) (
      some (.tup [(.lst false 0 []), (.int .i64 x3505)])) (
      none)
  | .inr (x3507, c3508) =>
    brn (x3507 != 0) (
      some (.tup [(.lst false 0 []), (.int .i64 x3507)])) (
      bnd' (m64 N c3508 [(.int .i64 0), (.int .i64 x3499), (.bool false), (.int .i64 0), (.int .i64 0), (.int .i64 0), (.int .i64 0), (.int .i64 0), (.int .i64 0), (.int .i64 0), (.int .i64 0), (.int .i64 0), (.int .i64 0), (.int .i64 0), (.int .i64 0), (.int .i64 0), (.int .i64 0), (.int .i64 0), (.int .i64 0), (.int .i64 0), (.int .i64 0), (.int .i64 0), (.int .i64 0), (.int .i64 0), (.int .i64 0), (.int .i64 0), (.int .i64 0), (.int .i64 0)]) fun (p3510, c3512, c3513) =>
      getT0 p3510 <|
      grd (28 ≤ List.length c3513) <|
      bnd' (m65 N (.agg (List.take 25 (List.drop 3 c3513))) x3499) fun p3516 =>
      getL p3516 fun n3519 c3520 =>
      some (.tup [(.lst false n3519 c3520), (.int .i64 0)]))
theorem c29 (N : Nat) (x3499 : Int) (p3500 : PV) (r : PV)  (h : m29 N x3499 p3500 = some r) : FnP Tryd.prog 29 [(.int .i64 x3499), p3500] r := by
  unfold m29 at h
  refine Fn_of (sz := 32) tab_ok [0, 1, 4, 5, 6, 7, 8, 17] [.tmp 4, .tmp 5] Tryd.func29 rfl rfl rfl (by simp) ?_
  simp only [initSt, initEnv, List.map_cons, List.map_nil, List.getD_cons_zero, List.getD_cons_succ, List.getD_nil]
  have hh := getL_some h; clear h; obtain ⟨n3502, c3503, h3501, h⟩ := hh
  have hh := bnd'_some h; clear h; obtain ⟨oo, h3504, h⟩ := hh
  rcases oo with x3505 | ⟨x3507, c3508⟩
  · (try dsimp only at h)
    refine W_sound tab_ok mixed 10 _ _ _ ?_
    simp -implicitDefEqProofs only [go_sem, qa, qb, qc, qd, qe, qf, qg, qh, qi, qj, qk, ↓reduceIte, h3501]
    repeat with_reducible refine ⟨by first | kernel_rfl | decide, ?_⟩
    refine Wp_callD [] (c61_a N _ _ _ _ h3504) rfl rfl rfl (by first | rfl | (simp only [go_sem, qa, qb, qc, qd, qe, qf, qg, qh, qi, qj, qk, ↓reduceIte, h3501] <;> rfl)) rfl (by kernel_rfl) ?_
    have hh := brn_some h; clear h; rcases hh with ⟨h3506, h⟩ | ⟨h3506, h⟩
    · refine W_sound tab_ok mixed 21 _ _ _ ?_
      simp -implicitDefEqProofs only [go_sem, qa, qb, qc, qd, qe, qf, qg, qh, qi, qj, qk, ↓reduceIte, h3501, h3506]
      repeat with_reducible refine ⟨by first | kernel_rfl | decide, ?_⟩
      obtain rfl := Option.some.inj h
      exact finC [(4, .v .nl), (5, .v (.int .i64 x3505))] [(4, .v (.lst false 0 [])), (5, .v (.int .i64 x3505))] (by simp [leE, lk_cons]) (.cons _ _ _ _ _ (.v _ _ (.nl false)) (.cons _ _ _ _ _ (.v _ _ (.refl _)) .nil)) (by rfl) (by simp [leE, lk_cons]) (by decide) (by decide) rfl (by simp only [go_sem, qa, qb, qc, qd, qe, qf, qg, qh, qi, qj, qk, ↓reduceIte, resQ_tmp, resQ_cell, resQ_nil, retD_one, retD_two, retD_three, retD_none]; try simp [R.val, retD_one, retD_two, retD_three, retD_none])
    · cases h
  · (try dsimp only at h)
    refine W_sound tab_ok mixed 10 _ _ _ ?_
    simp -implicitDefEqProofs only [go_sem, qa, qb, qc, qd, qe, qf, qg, qh, qi, qj, qk, ↓reduceIte, h3501]
    repeat with_reducible refine ⟨by first | kernel_rfl | decide, ?_⟩
    refine Wp_callD [] (c61_b N _ _ _ _ _ h3504) rfl rfl rfl (by first | rfl | (simp only [go_sem, qa, qb, qc, qd, qe, qf, qg, qh, qi, qj, qk, ↓reduceIte, h3501] <;> rfl)) rfl (by kernel_rfl) ?_
    have hh := brn_some h; clear h; rcases hh with ⟨h3509, h⟩ | ⟨h3509, h⟩
    · refine W_sound tab_ok mixed 21 _ _ _ ?_
      simp -implicitDefEqProofs only [go_sem, qa, qb, qc, qd, qe, qf, qg, qh, qi, qj, qk, ↓reduceIte, h3501, h3509]
      repeat with_reducible refine ⟨by first | kernel_rfl | decide, ?_⟩
      obtain rfl := Option.some.inj h
      exact finC [(4, .v .nl), (5, .v (.int .i64 x3507))] [(4, .v (.lst false 0 [])), (5, .v (.int .i64 x3507))] (by simp [leE, lk_cons]) (.cons _ _ _ _ _ (.v _ _ (.nl false)) (.cons _ _ _ _ _ (.v _ _ (.refl _)) .nil)) (by rfl) (by simp [leE, lk_cons]) (by decide) (by decide) rfl (by simp only [go_sem, qa, qb, qc, qd, qe, qf, qg, qh, qi, qj, qk, ↓reduceIte, resQ_tmp, resQ_cell, resQ_nil, retD_one, retD_two, retD_three, retD_none]; try simp [R.val, retD_one, retD_two, retD_three, retD_none])
    · have hh := bnd'_some h; clear h; obtain ⟨⟨p3510, c3512, c3513⟩, h3511, h⟩ := hh
      (try dsimp only at h)
      refine W_sound tab_ok mixed 26 _ _ _ ?_
      simp -implicitDefEqProofs only [go_sem, qa, qb, qc, qd, qe, qf, qg, qh, qi, qj, qk, ↓reduceIte, h3501, h3509]
      repeat with_reducible refine ⟨by first | kernel_rfl | decide, ?_⟩
      refine Wp_callD [13, 35] (c64 N _ _ _ _ _ h3511) rfl rfl rfl (by first | rfl | (simp only [go_sem, qa, qb, qc, qd, qe, qf, qg, qh, qi, qj, qk, ↓reduceIte, h3501, h3509] <;> rfl)) rfl (by kernel_rfl) ?_
      have hh := getT0_some h; clear h; obtain ⟨h3514, h⟩ := hh
      have hh := grd_some h; clear h; obtain ⟨g3515, h⟩ := hh
      have hh := bnd'_some h; clear h; obtain ⟨p3516, h3517, h⟩ := hh
      refine W_sound tab_ok mixed 8 _ _ _ ?_
      simp -implicitDefEqProofs only [go_sem, qa, qb, qc, qd, qe, qf, qg, qh, qi, qj, qk, ↓reduceIte, h3501, h3509, h3514, g3515]
      repeat with_reducible refine ⟨by first | kernel_rfl | decide, ?_⟩
      refine Wp_callP (c65 N _ _ _ h3517) (by kernel_rfl) rfl rfl rfl rfl (by decide) ?_
      have hh := getL_some h; clear h; obtain ⟨n3519, c3520, h3518, h⟩ := hh
      refine W_sound tab_ok mixed 5 _ _ _ ?_
      simp -implicitDefEqProofs only [go_sem, qa, qb, qc, qd, qe, qf, qg, qh, qi, qj, qk, ↓reduceIte, h3501, h3509, h3514, g3515, h3518]
      repeat with_reducible refine ⟨by first | kernel_rfl | decide, ?_⟩
      obtain rfl := Option.some.inj h
      exact finC [(4, .v (.lst false n3519 c3520)), (5, .v (.int .i64 0))] [(4, .v (.lst false n3519 c3520)), (5, .v (.int .i64 0))] (by simp [leE, lk_cons]) (.cons _ _ _ _ _ (.v _ _ (.refl _)) (.cons _ _ _ _ _ (.v _ _ (.refl _)) .nil)) (by rfl) (by simp [leE, lk_cons]) (by decide) (by decide) rfl (by simp only [go_sem, qa, qb, qc, qd, qe, qf, qg, qh, qi, qj, qk, ↓reduceIte, resQ_tmp, resQ_cell, resQ_nil, retD_one, retD_two, retD_three, retD_none]; try simp [R.val, retD_one, retD_two, retD_three, retD_none])
def m16 (N : Nat) : Option PV := some (.bool true)
theorem c16 (N : Nat) (r : PV) (h : m16 N = some r) : FnP Tryd.prog 16 [] r := by
  obtain rfl := Option.some.inj h
  exact k92
def m6_L2 (N : Nat) (x2929 : Int) (n2931 : Nat) (c2932 : List PV) (n2939 : Nat) (c2940 : List PV) (x3071 : Int) (n3078 : Nat) (c3079 : List PV) (x3136 : Int) (c3137 : List PV) (x3143 : Int) : Nat → Int → Option ((PV ⊕ Unit))
  | 0, _ => none
  | n + 1, x3153 =>
    brn (decide (x3153 < ((n2931 : Nat) : Int))) (
      grd (0 ≤ x3153 ∧ x3153 < ((n2931 : Nat) : Int)) <|
      grd (0 < List.length (List.drop (Int.toNat x3153) c2932)) <|
      getL (gp c2932 (Int.toNat x3153)) fun n3159 c3160 =>
      grd (x3071 < ((n3159 : Nat) : Int)) <|
      grd (0 < List.length (List.drop (Int.toNat x3071) c3160)) <|
      getI .i64 (gp c3160 (Int.toNat x3071)) fun x3164 =>
      brn (x3164 == x3143) (
        some (.inl (.bool false))) (
        m6_L2 N x2929 n2931 c2932 n2939 c2940 x3071 n3078 c3079 x3136 c3137 x3143 n (IntKind.i64.wrap (x3153 + 1)))) (
      some (.inr ()))
def m6_L3 (N : Nat) (x2929 : Int) (n2931 : Nat) (c2932 : List PV) (n2939 : Nat) (c2940 : List PV) (x3071 : Int) (n3078 : Nat) (c3079 : List PV) (x3136 : Int) (c3137 : List PV) (x3143 : Int) : Nat → Int → Option ((PV ⊕ Unit))
  | 0, _ => none
  | n + 1, x3173 =>
    brn (decide (x3173 < ((n2931 : Nat) : Int))) (
      grd (0 ≤ x3173 ∧ x3173 < ((n2931 : Nat) : Int)) <|
      grd (0 < List.length (List.drop (Int.toNat x3173) c2932)) <|
      getL (gp c2932 (Int.toNat x3173)) fun n3179 c3180 =>
      grd (x3071 < ((n3179 : Nat) : Int)) <|
      grd (0 < List.length (List.drop (Int.toNat x3071) c3180)) <|
      getI .i64 (gp c3180 (Int.toNat x3071)) fun x3184 =>
      brn (x3184 == x3143) (
        some (.inl (.bool false))) (
        m6_L3 N x2929 n2931 c2932 n2939 c2940 x3071 n3078 c3079 x3136 c3137 x3143 n (IntKind.i64.wrap (x3173 + 1)))) (
      some (.inr ()))
def m6_L1 (N : Nat) (x2929 : Int) (n2931 : Nat) (c2932 : List PV) (n2939 : Nat) (c2940 : List PV) (x3071 : Int) (n3078 : Nat) (c3079 : List PV) : Nat → Int → List PV → Option ((PV ⊕ List PV))
  | 0, _, _ => none
  | n + 1, x3136, c3137 =>
    brn (decide (x3136 < ((n3078 : Nat) : Int))) (
      grd (0 ≤ x3136 ∧ x3136 < ((n3078 : Nat) : Int)) <|
      grd (0 < List.length (List.drop (Int.toNat x3136) c3079)) <|
      getI .i64 (gp c3079 (Int.toNat x3136)) fun x3143 =>
      brn (decide (x3143 < 0)) (
        some (.inl (.bool false))) (
        brn (decide (x3143 ≥ x2929)) (
          some (.inl (.bool false))) (
          brn (decide (x3136 > 0)) (
            grd (0 ≤ (IntKind.i64.wrap (x3136 - 1)) ∧ (IntKind.i64.wrap (x3136 - 1)) < ((n3078 : Nat) : Int)) <|
            grd (0 < List.length (List.drop (Int.toNat (IntKind.i64.wrap (x3136 - 1))) c3079)) <|
            getI .i64 (gp c3079 (Int.toNat (IntKind.i64.wrap (x3136 - 1)))) fun x3151 =>
            brn (decide (x3143 ≤ x3151)) (
              some (.inl (.bool false))) (
              bnd' (m6_L2 N x2929 n2931 c2932 n2939 c2940 x3071 n3078 c3079 x3136 c3137 x3143 N 0) fun o =>
              match o with
              | .inl p3166 =>
                some (.inl p3166)
              | .inr () =>
                grd (0 ≤ x3143 ∧ x3143 < (((Int.toNat x2929) : Nat) : Int)) <|
                grd ((Int.toNat x3143) < List.length c3137) <|
                getI .i64 (gp c3137 (Int.toNat x3143)) fun x3171 =>
                grd (((Int.toNat x3143) + 1) ≤ List.length c3137) <|
                m6_L1 N x2929 n2931 c2932 n2939 c2940 x3071 n3078 c3079 n (IntKind.i64.wrap (x3136 + 1)) (List.set c3137 (Int.toNat x3143) (.int .i64 (IntKind.i64.wrap (x3171 + 1)))))) (
            bnd' (m6_L3 N x2929 n2931 c2932 n2939 c2940 x3071 n3078 c3079 x3136 c3137 x3143 N 0) fun o =>
            match o with
            | .inl p3186 =>
              some (.inl p3186)
            | .inr () =>
              grd (0 ≤ x3143 ∧ x3143 < (((Int.toNat x2929) : Nat) : Int)) <|
              grd ((Int.toNat x3143) < List.length c3137) <|
              getI .i64 (gp c3137 (Int.toNat x3143)) fun x3191 =>
              grd (((Int.toNat x3143) + 1) ≤ List.length c3137) <|
              m6_L1 N x2929 n2931 c2932 n2939 c2940 x3071 n3078 c3079 n (IntKind.i64.wrap (x3136 + 1)) (List.set c3137 (Int.toNat x3143) (.int .i64 (IntKind.i64.wrap (x3191 + 1)))))))) (
      some (.inr c3137))
def m6_L0 (N : Nat) (x2929 : Int) (n2931 : Nat) (c2932 : List PV) (n2939 : Nat) (c2940 : List PV) : Nat → Int → List PV → Option ((PV ⊕ List PV))
  | 0, _, _ => none
  | n + 1, x3071, c3072 =>
    brn (decide (x3071 < ((n2939 : Nat) : Int))) (
      grd (0 ≤ x3071 ∧ x3071 < ((n2939 : Nat) : Int)) <|
      grd (0 < List.length (List.drop (Int.toNat x3071) c2940)) <|
      getL (gp c2940 (Int.toNat x3071)) fun n3078 c3079 =>
      bnd' (m6_L1 N x2929 n2931 c2932 n2939 c2940 x3071 n3078 c3079 N 0 c3072) fun o =>
      match o with
      | .inl p3193 =>
        some (.inl p3193)
      | .inr c3194 =>
        m6_L0 N x2929 n2931 c2932 n2939 c2940 n (IntKind.i64.wrap (x3071 + 1)) c3194) (
      some (.inr c3072))
def m6_L4 (N : Nat) (x2929 : Int) (n2931 : Nat) (c2932 : List PV) (c3196 : List PV) : Nat → Int → Option ((PV ⊕ Unit))
  | 0, _ => none
  | n + 1, x3197 =>
    brn (decide (x3197 < (((Int.toNat x2929) : Nat) : Int))) (
      grd (0 ≤ x3197 ∧ x3197 < (((Int.toNat x2929) : Nat) : Int)) <|
      grd ((Int.toNat x3197) < List.length c3196) <|
      getI .i64 (gp c3196 (Int.toNat x3197)) fun x3203 =>
      brn (x3203 != (IntKind.i64.wrap (x2929 - ((n2931 : Nat) : Int)))) (
        some (.inl (.bool false))) (
        m6_L4 N x2929 n2931 c2932 c3196 n (IntKind.i64.wrap (x3197 + 1)))) (
      some (.inr ()))
def m6_L5 (N : Nat) (x2929 : Int) (n2931 : Nat) (c2932 : List PV) : Nat → Nat → List PV → Option ((PV ⊕ (Nat × List PV)))
  | 0, _, _ => none
  | n + 1, n3478, c3479 =>
    brn (decide (((n3478 : Nat) : Int) < x2929)) (
      bnd' (m19_2 N x2929 n3478 c3479) fun (p3481, c3483) =>
      getT2 p3481 fun p3485 p3486 =>
      getL p3485 fun n3488 c3489 =>
      getI .i64 p3486 fun x3491 =>
      brn (x3491 != 0) (
        some (.inl (.bool false))) (
        brn (((n3488 : Nat) : Int) != x2929) (
          some (.inl (.bool false))) (
          grd ((n3478 + 1) ≤ 1099511627776) <|
          grd (List.length c3483 = n3478) <|
          m6_L5 N x2929 n2931 c2932 n (n3478 + 1) (c3483 ++ [(.lst false n3488 c3489)])))) (
      some (.inr (n3478, c3479)))
def m6 (N : Nat) (p2914 : PV) : Option (PV) :=
  getA7 p2914 fun p2916 p2917 p2918 p2919 p2920 p2921 p2922 =>
  bnd' (m37 N (.agg [p2916, p2917, p2918, p2919, p2920, p2921, p2922]) 5) fun p2923 =>
  getT2 p2923 fun p2926 p2927 =>
  getI .i64 p2926 fun x2929 =>
  getL p2927 fun n2931 c2932 =>
  bnd' (m17 N x2929 (.lst false n2931 c2932)) fun p2933 =>
  getT2 p2933 fun p2936 p2937 =>
  getL p2936 fun n2939 c2940 =>
  getI .i64 p2937 fun x2942 =>
  brn (x2942 != 0) (
    some (.bool false)) (
    brn (((n2939 : Nat) : Int) != x2929) (
      some (.bool false)) (
      grd (0 ≤ x2929 ∧ x2929 ≤ x2929 ∧ x2929 ≤ 1099511627776) <|
      bnd' (m6_L0 N x2929 n2931 c2932 n2939 c2940 N 0 (List.replicate (Int.toNat x2929) (.int .i64 0))) fun o =>
      match o with
      | .inl p3195 =>
        some p3195
      | .inr c3196 =>
        bnd' (m6_L4 N x2929 n2931 c2932 c3196 N 0) fun o =>
        match o with
        | .inl p3205 =>
          some p3205
        | .inr () =>
          bnd' (m39 N (.lst false n2931 c2932)) fun (n3206, c3207) =>
          bnd' (m6_L5 N x2929 n2931 c2932 N n3206 c3207) fun o =>
          match o with
          | .inl p3496 =>
            some p3496
          | .inr (n3497, c3498) =>
            bnd' (m29 N x2929 (.lst false n2931 c2932)) fun p3521 =>
            getT2 p3521 fun p3524 p3525 =>
            getL p3524 fun n3527 c3528 =>
            getI .i64 p3525 fun x3530 =>
            grd (List.length c3498 = n3497) <|
            brn (x3530 == 0) (
              bnd' (m40 N x2929 (.lst false n3527 c3528)) fun p3533 =>
              getB p3533 fun b3536 =>
              brn b3536 (
                bnd' (m21 N (.lst false n3527 c3528) (.lst false n3497 c3498)) fun p3538 =>
                getB p3538 fun b3541 =>
                brn b3541 (
                  bnd' (m16 N ) fun p3543 =>
                  getB p3543 fun b3546 =>
                  some (.bool b3546)) (
                  some (.bool false))) (
                some (.bool false))) (
              some (.bool false))))
theorem c6 (N : Nat) (p2914 : PV) (r : PV)  (h : m6 N p2914 = some r) : FnP Tryd.prog 6 [p2914] r := by
  unfold m6 at h
  refine Fn_of (sz := 154) tab_ok [0, 1, 2, 3, 4, 5, 6, 7, 8, 9, 10, 11, 13, 15, 16, 17, 18, 19, 38, 41, 42, 43, 44, 48, 49, 50, 51, 74, 75, 76, 77, 78, 86, 96, 97, 98, 99, 107, 114, 128] [.tmp 2] Tryd.func6 rfl rfl rfl (by simp) ?_
  simp only [initSt, initEnv, List.map_cons, List.map_nil, List.getD_cons_zero, List.getD_cons_succ, List.getD_nil]
  have hh := getA7_some h; clear h; obtain ⟨p2916, p2917, p2918, p2919, p2920, p2921, p2922, h2915, h⟩ := hh
  have hh := bnd'_some h; clear h; obtain ⟨p2923, h2924, h⟩ := hh
  refine W_sound tab_ok mixed 8 _ _ _ ?_
  simp -implicitDefEqProofs only [go_sem, qa, qb, qc, qd, qe, qf, qg, qh, qi, qj, qk, ↓reduceIte, h2915]
  repeat with_reducible refine ⟨by first | kernel_rfl | decide, ?_⟩
  refine Wp_callP (c37 N _ _ _ h2924) (by kernel_rfl) rfl rfl rfl rfl (by decide) ?_
  have hh := getT2_some h; clear h; obtain ⟨p2926, p2927, h2925, h⟩ := hh
  have hh := getI_some h; clear h; obtain ⟨x2929, h2928, h⟩ := hh
  have hh := getL_some h; clear h; obtain ⟨n2931, c2932, h2930, h⟩ := hh
  have hh := bnd'_some h; clear h; obtain ⟨p2933, h2934, h⟩ := hh
  refine W_sound tab_ok mixed 10 _ _ _ ?_
  simp -implicitDefEqProofs only [go_sem, qa, qb, qc, qd, qe, qf, qg, qh, qi, qj, qk, ↓reduceIte, h2915, h2925, h2928, h2930]
  repeat with_reducible refine ⟨by first | kernel_rfl | decide, ?_⟩
  refine Wp_callP (c17 N _ _ _ h2934) (by kernel_rfl) rfl rfl rfl rfl (by decide) ?_
  have hh := getT2_some h; clear h; obtain ⟨p2936, p2937, h2935, h⟩ := hh
  have hh := getL_some h; clear h; obtain ⟨n2939, c2940, h2938, h⟩ := hh
  have hh := getI_some h; clear h; obtain ⟨x2942, h2941, h⟩ := hh
  have hh := brn_some h; clear h; rcases hh with ⟨h2943, h⟩ | ⟨h2943, h⟩
  · refine W_sound tab_ok mixed 25 _ _ _ ?_
    simp -implicitDefEqProofs only [go_sem, qa, qb, qc, qd, qe, qf, qg, qh, qi, qj, qk, ↓reduceIte, h2915, h2925, h2928, h2930, h2935, h2938, h2941, h2943]
    repeat with_reducible refine ⟨by first | kernel_rfl | decide, ?_⟩
    obtain rfl := Option.some.inj h
    exact finC [(2, .v (.bool false))] [(2, .v (.bool false))] (by simp [leE, lk_cons]) (.cons _ _ _ _ _ (.v _ _ (.refl _)) .nil) (by rfl) (by simp [leE, lk_cons]) (by decide) (by decide) rfl (by simp only [go_sem, qa, qb, qc, qd, qe, qf, qg, qh, qi, qj, qk, ↓reduceIte, resQ_tmp, resQ_cell, resQ_nil, retD_one, retD_two, retD_three, retD_none]; try simp [R.val, retD_one, retD_two, retD_three, retD_none])
  · have hh := brn_some h; clear h; rcases hh with ⟨h2944, h⟩ | ⟨h2944, h⟩
    · refine W_sound tab_ok mixed 25 _ _ _ ?_
      simp -implicitDefEqProofs only [go_sem, qa, qb, qc, qd, qe, qf, qg, qh, qi, qj, qk, ↓reduceIte, h2915, h2925, h2928, h2930, h2935, h2938, h2941, h2943, h2944]
      repeat with_reducible refine ⟨by first | kernel_rfl | decide, ?_⟩
      obtain rfl := Option.some.inj h
      exact finC [(2, .v (.bool false))] [(2, .v (.bool false))] (by simp [leE, lk_cons]) (.cons _ _ _ _ _ (.v _ _ (.refl _)) .nil) (by rfl) (by simp [leE, lk_cons]) (by decide) (by decide) rfl (by simp only [go_sem, qa, qb, qc, qd, qe, qf, qg, qh, qi, qj, qk, ↓reduceIte, resQ_tmp, resQ_cell, resQ_nil, retD_one, retD_two, retD_three, retD_none]; try simp [R.val, retD_one, retD_two, retD_three, retD_none])
    · have hh := grd_some h; clear h; obtain ⟨⟨g2945, g2946, g2947⟩, h⟩ := hh
      refine W_sound tab_ok mixed 33 _ _ _ ?_
      simp -implicitDefEqProofs only [go_sem, qa, qb, qc, qd, qe, qf, qg, qh, qi, qj, qk, ↓reduceIte, h2915, h2925, h2928, h2930, h2935, h2938, h2941, h2943, h2944, g2945, g2946, g2947]
      repeat with_reducible refine ⟨by first | kernel_rfl | decide, ?_⟩
      have hh := bnd'_some h; clear h; obtain ⟨o3547, h3548, h3549⟩ := hh
      refine Wp_cut (fun s => ∃ c3196, (.inr c3196) = o3547 ∧ s = ⟨[], [(0, .dead), (1, .dead), (2, .dead), (3, .v (.int .i64 x2929)), (4, .v (.lst false n2931 c2932)), (5, .dead), (6, .dead), (7, .sl false 0 0 (Int.toNat x2929) 1), (8, .dead), (9, .dead), (10, .dead), (11, .dead), (13, .dead), (15, .dead), (16, .dead), (17, .dead), (18, .dead), (19, .dead), (38, .dead), (41, .dead), (42, .dead), (43, .dead), (44, .dead), (48, .dead), (49, .dead), (50, .dead), (51, .dead), (74, .dead), (75, .dead), (76, .dead), (77, .dead), (78, .dead), (86, .dead), (96, .dead), (97, .dead), (98, .dead), (99, .dead), (107, .dead), (114, .dead), (128, .dead)], [(0, .p c3196)], 1, []⟩) ?_ ?_
      · refine Wp_block ?_
        refine Wp_loopG (fun n s => ∃ x3071, ∃ c3072, m6_L0 N x2929 n2931 c2932 n2939 c2940 n x3071 c3072 = some o3547 ∧ s = ⟨[], [(0, .dead), (1, .dead), (2, .dead), (3, .v (.int .i64 x2929)), (4, .v (.lst false n2931 c2932)), (5, .dead), (6, .dead), (7, .sl false 0 0 (Int.toNat x2929) 1), (8, .dead), (9, .dead), (10, .dead), (11, .dead), (13, .dead), (15, .dead), (16, .dead), (17, .dead), (18, .dead), (19, .dead), (38, .dead), (41, .v (.lst false n2939 c2940)), (42, .v (.int .i64 ((n2939 : Nat) : Int))), (43, .v (.int .i64 x3071)), (44, .dead), (48, .dead), (49, .dead), (50, .dead), (51, .dead), (74, .dead), (75, .dead), (76, .dead), (77, .dead), (78, .dead), (86, .dead), (96, .dead), (97, .dead), (98, .dead), (99, .dead), (107, .dead), (114, .dead), (128, .dead)], [(0, .p c3072)], 1, []⟩) N _ ((Wk_le (.k (.k (.k (.r (.r (.k (.k (.r (.r (.r (.r (.r (.r (.r (.r (.r (.r (.r (.k (.r (.r (.r (.r (.r (.r (.r (.r (.r (.r (.r (.r (.r (.r (.r (.r (.r (.r (.r (.r (.r .nil)))))))))))))))))))))))))))))))))))))))) (OLe.refl _)).trans (cmpS_ok (st' := ⟨[], [(0, .dead), (1, .dead), (2, .dead), (3, .v (.int .i64 x2929)), (4, .v (.lst false n2931 c2932)), (5, .dead), (6, .dead), (7, .sl false 0 0 (Int.toNat x2929) 1), (8, .dead), (9, .dead), (10, .dead), (11, .dead), (13, .dead), (15, .dead), (16, .dead), (17, .dead), (18, .dead), (19, .dead), (38, .dead), (41, .v (.lst false n2939 c2940)), (42, .v (.int .i64 ((n2939 : Nat) : Int))), (43, .v (.int .i64 0)), (44, .dead), (48, .dead), (49, .dead), (50, .dead), (51, .dead), (74, .dead), (75, .dead), (76, .dead), (77, .dead), (78, .dead), (86, .dead), (96, .dead), (97, .dead), (98, .dead), (99, .dead), (107, .dead), (114, .dead), (128, .dead)], [(0, .p (List.replicate (Int.toNat x2929) (.int .i64 0)))], 1, []⟩) (by kernel_rfl))) ⟨_, _, h3548, rfl⟩ ?_
        clear h3548
        rintro n _ ⟨x3071, c3072, h3548, rfl⟩
        cases n with
        | zero => cases h3548
        | succ n =>
          rw [m6_L0] at h3548
          have hh := brn_some h3548; clear h3548; rcases hh with ⟨h3073, h3548⟩ | ⟨h3073, h3548⟩
          · have hh := grd_some h3548; clear h3548; obtain ⟨⟨g3074, g3075⟩, h3548⟩ := hh
            have hh := grd_some h3548; clear h3548; obtain ⟨g3076, h3548⟩ := hh
            have hh := getL_some h3548; clear h3548; obtain ⟨n3078, c3079, h3077, h3548⟩ := hh
            refine W_sound tab_ok mixed 23 _ _ _ ?_
            simp -implicitDefEqProofs only [go_sem, qa, qb, qc, qd, qe, qf, qg, qh, qi, qj, qk, ↓reduceIte, h2915, h2925, h2928, h2930, h2935, h2938, h2941, h2943, h2944, g2945, g2946, g2947, h3073, g3074, g3075, g3076, h3077]
            repeat with_reducible refine ⟨by first | kernel_rfl | decide, ?_⟩
            have hh := bnd'_some h3548; clear h3548; obtain ⟨o3550, h3551, h3552⟩ := hh
            refine Wp_cut (fun s => ∃ c3194, (.inr c3194) = o3550 ∧ s = ⟨[], [(0, .dead), (1, .dead), (2, .dead), (3, .v (.int .i64 x2929)), (4, .v (.lst false n2931 c2932)), (5, .dead), (6, .dead), (7, .sl false 0 0 (Int.toNat x2929) 1), (8, .dead), (9, .dead), (10, .dead), (11, .dead), (13, .dead), (15, .dead), (16, .dead), (17, .dead), (18, .dead), (19, .dead), (38, .dead), (41, .v (.lst false n2939 c2940)), (42, .v (.int .i64 ((n2939 : Nat) : Int))), (43, .v (.int .i64 x3071)), (44, .dead), (48, .dead), (49, .dead), (50, .dead), (51, .dead), (74, .dead), (75, .dead), (76, .dead), (77, .dead), (78, .dead), (86, .dead), (96, .dead), (97, .dead), (98, .dead), (99, .dead), (107, .dead), (114, .dead), (128, .dead)], [(0, .p c3194)], 1, []⟩) ?_ ?_
            · refine Wp_block ?_
              refine Wp_loopG (fun n s => ∃ x3136, ∃ c3137, m6_L1 N x2929 n2931 c2932 n2939 c2940 x3071 n3078 c3079 n x3136 c3137 = some o3550 ∧ s = ⟨[], [(0, .dead), (1, .dead), (2, .dead), (3, .v (.int .i64 x2929)), (4, .v (.lst false n2931 c2932)), (5, .dead), (6, .dead), (7, .sl false 0 0 (Int.toNat x2929) 1), (8, .v (.int .i64 x3071)), (9, .v (.lst false n3078 c3079)), (10, .dead), (11, .dead), (13, .dead), (15, .dead), (16, .dead), (17, .dead), (18, .dead), (19, .dead), (38, .dead), (41, .v (.lst false n2939 c2940)), (42, .v (.int .i64 ((n2939 : Nat) : Int))), (43, .v (.int .i64 x3071)), (44, .dead), (48, .v (.lst false n3078 c3079)), (49, .v (.int .i64 ((n3078 : Nat) : Int))), (50, .v (.int .i64 x3136)), (51, .dead), (74, .dead), (75, .dead), (76, .dead), (77, .dead), (78, .dead), (86, .dead), (96, .dead), (97, .dead), (98, .dead), (99, .dead), (107, .dead), (114, .dead), (128, .dead)], [(0, .p c3137)], 1, []⟩) N _ ((Wk_le (.r (.r (.r (.r (.r (.r (.r (.r (.r (.r (.r (.r (.r (.r (.r (.r (.r (.r (.r (.r (.r (.r (.k (.r (.r (.r (.r (.r (.r (.r (.r (.r (.r (.r (.r (.r (.r (.r (.r (.r .nil)))))))))))))))))))))))))))))))))))))))) (OLe.refl _)).trans (cmpS_ok (st' := ⟨[], [(0, .dead), (1, .dead), (2, .dead), (3, .v (.int .i64 x2929)), (4, .v (.lst false n2931 c2932)), (5, .dead), (6, .dead), (7, .sl false 0 0 (Int.toNat x2929) 1), (8, .v (.int .i64 x3071)), (9, .v (.lst false n3078 c3079)), (10, .dead), (11, .dead), (13, .dead), (15, .dead), (16, .dead), (17, .dead), (18, .dead), (19, .dead), (38, .dead), (41, .v (.lst false n2939 c2940)), (42, .v (.int .i64 ((n2939 : Nat) : Int))), (43, .v (.int .i64 x3071)), (44, .dead), (48, .v (.lst false n3078 c3079)), (49, .v (.int .i64 ((n3078 : Nat) : Int))), (50, .v (.int .i64 0)), (51, .dead), (74, .dead), (75, .dead), (76, .dead), (77, .dead), (78, .dead), (86, .dead), (96, .dead), (97, .dead), (98, .dead), (99, .dead), (107, .dead), (114, .dead), (128, .dead)], [(0, .p c3072)], 1, []⟩) (by kernel_rfl))) ⟨_, _, h3551, rfl⟩ ?_
              clear h3551
              rintro n _ ⟨x3136, c3137, h3551, rfl⟩
              cases n with
              | zero => cases h3551
              | succ n =>
                rw [m6_L1] at h3551
                have hh := brn_some h3551; clear h3551; rcases hh with ⟨h3138, h3551⟩ | ⟨h3138, h3551⟩
                · have hh := grd_some h3551; clear h3551; obtain ⟨⟨g3139, g3140⟩, h3551⟩ := hh
                  have hh := grd_some h3551; clear h3551; obtain ⟨g3141, h3551⟩ := hh
                  have hh := getI_some h3551; clear h3551; obtain ⟨x3143, h3142, h3551⟩ := hh
                  have hh := brn_some h3551; clear h3551; rcases hh with ⟨h3144, h3551⟩ | ⟨h3144, h3551⟩
                  · refine W_sound tab_ok mixed 48 _ _ _ ?_
                    simp -implicitDefEqProofs only [go_sem, qa, qb, qc, qd, qe, qf, qg, qh, qi, qj, qk, ↓reduceIte, h2915, h2925, h2928, h2930, h2935, h2938, h2941, h2943, h2944, g2945, g2946, g2947, h3073, g3074, g3075, g3076, h3077, h3138, g3139, g3140, g3141, h3142, h3144]
                    repeat with_reducible refine ⟨by first | kernel_rfl | decide, ?_⟩
                    obtain rfl := Option.some.inj h3551
                    (try dsimp only at h3552)
                    obtain rfl := Option.some.inj h3552
                    (try dsimp only at h3549)
                    obtain rfl := Option.some.inj h3549
                    exact finC [(2, .v (.bool false))] [(2, .v (.bool false))] (by simp [leE, lk_cons]) (.cons _ _ _ _ _ (.v _ _ (.refl _)) .nil) (by rfl) (by simp [leE, lk_cons]) (by decide) (by decide) rfl (by simp only [go_sem, qa, qb, qc, qd, qe, qf, qg, qh, qi, qj, qk, ↓reduceIte, resQ_tmp, resQ_cell, resQ_nil, retD_one, retD_two, retD_three, retD_none]; try simp [R.val, retD_one, retD_two, retD_three, retD_none])
                  · have hh := brn_some h3551; clear h3551; rcases hh with ⟨h3145, h3551⟩ | ⟨h3145, h3551⟩
                    · refine W_sound tab_ok mixed 48 _ _ _ ?_
                      simp -implicitDefEqProofs only [go_sem, qa, qb, qc, qd, qe, qf, qg, qh, qi, qj, qk, ↓reduceIte, h2915, h2925, h2928, h2930, h2935, h2938, h2941, h2943, h2944, g2945, g2946, g2947, h3073, g3074, g3075, g3076, h3077, h3138, g3139, g3140, g3141, h3142, h3144, h3145]
                      repeat with_reducible refine ⟨by first | kernel_rfl | decide, ?_⟩
                      obtain rfl := Option.some.inj h3551
                      (try dsimp only at h3552)
                      obtain rfl := Option.some.inj h3552
                      (try dsimp only at h3549)
                      obtain rfl := Option.some.inj h3549
                      exact finC [(2, .v (.bool false))] [(2, .v (.bool false))] (by simp [leE, lk_cons]) (.cons _ _ _ _ _ (.v _ _ (.refl _)) .nil) (by rfl) (by simp [leE, lk_cons]) (by decide) (by decide) rfl (by simp only [go_sem, qa, qb, qc, qd, qe, qf, qg, qh, qi, qj, qk, ↓reduceIte, resQ_tmp, resQ_cell, resQ_nil, retD_one, retD_two, retD_three, retD_none]; try simp [R.val, retD_one, retD_two, retD_three, retD_none])
                    · have hh := brn_some h3551; clear h3551; rcases hh with ⟨h3146, h3551⟩ | ⟨h3146, h3551⟩
                      · have hh := grd_some h3551; clear h3551; obtain ⟨⟨g3147, g3148⟩, h3551⟩ := hh
                        have hh := grd_some h3551; clear h3551; obtain ⟨g3149, h3551⟩ := hh
                        have hh := getI_some h3551; clear h3551; obtain ⟨x3151, h3150, h3551⟩ := hh
                        have hh := brn_some h3551; clear h3551; rcases hh with ⟨h3152, h3551⟩ | ⟨h3152, h3551⟩
                        · refine W_sound tab_ok mixed 48 _ _ _ ?_
                          simp -implicitDefEqProofs only [go_sem, qa, qb, qc, qd, qe, qf, qg, qh, qi, qj, qk, ↓reduceIte, h2915, h2925, h2928, h2930, h2935, h2938, h2941, h2943, h2944, g2945, g2946, g2947, h3073, g3074, g3075, g3076, h3077, h3138, g3139, g3140, g3141, h3142, h3144, h3145, h3146, g3147, g3148, g3149, h3150, h3152]
                          repeat with_reducible refine ⟨by first | kernel_rfl | decide, ?_⟩
                          obtain rfl := Option.some.inj h3551
                          (try dsimp only at h3552)
                          obtain rfl := Option.some.inj h3552
                          (try dsimp only at h3549)
                          obtain rfl := Option.some.inj h3549
                          exact finC [(2, .v (.bool false))] [(2, .v (.bool false))] (by simp [leE, lk_cons]) (.cons _ _ _ _ _ (.v _ _ (.refl _)) .nil) (by rfl) (by simp [leE, lk_cons]) (by decide) (by decide) rfl (by simp only [go_sem, qa, qb, qc, qd, qe, qf, qg, qh, qi, qj, qk, ↓reduceIte, resQ_tmp, resQ_cell, resQ_nil, retD_one, retD_two, retD_three, retD_none]; try simp [R.val, retD_one, retD_two, retD_three, retD_none])
                        · refine W_sound tab_ok mixed 50 _ _ _ ?_
                          simp -implicitDefEqProofs only [go_sem, qa, qb, qc, qd, qe, qf, qg, qh, qi, qj, qk, ↓reduceIte, h2915, h2925, h2928, h2930, h2935, h2938, h2941, h2943, h2944, g2945, g2946, g2947, h3073, g3074, g3075, g3076, h3077, h3138, g3139, g3140, g3141, h3142, h3144, h3145, h3146, g3147, g3148, g3149, h3150, h3152]
                          repeat with_reducible refine ⟨by first | kernel_rfl | decide, ?_⟩
                          have hh := bnd'_some h3551; clear h3551; obtain ⟨o3553, h3554, h3555⟩ := hh
                          refine Wp_cut (fun s => (.inr ()) = o3553 ∧ s = ⟨[], [(0, .dead), (1, .dead), (2, .dead), (3, .v (.int .i64 x2929)), (4, .v (.lst false n2931 c2932)), (5, .dead), (6, .dead), (7, .sl false 0 0 (Int.toNat x2929) 1), (8, .v (.int .i64 x3071)), (9, .v (.lst false n3078 c3079)), (10, .dead), (11, .v (.int .i64 x3143)), (13, .dead), (15, .dead), (16, .dead), (17, .dead), (18, .dead), (19, .dead), (38, .dead), (41, .v (.lst false n2939 c2940)), (42, .v (.int .i64 ((n2939 : Nat) : Int))), (43, .v (.int .i64 x3071)), (44, .dead), (48, .v (.lst false n3078 c3079)), (49, .v (.int .i64 ((n3078 : Nat) : Int))), (50, .v (.int .i64 x3136)), (51, .dead), (74, .dead), (75, .dead), (76, .dead), (77, .dead), (78, .dead), (86, .dead), (96, .dead), (97, .dead), (98, .dead), (99, .dead), (107, .dead), (114, .dead), (128, .dead)], [(0, .p c3137)], 1, []⟩) ?_ ?_
                          · refine Wp_block ?_
                            refine Wp_loopG (fun n s => ∃ x3153, m6_L2 N x2929 n2931 c2932 n2939 c2940 x3071 n3078 c3079 x3136 c3137 x3143 n x3153 = some o3553 ∧ s = ⟨[], [(0, .dead), (1, .dead), (2, .dead), (3, .v (.int .i64 x2929)), (4, .v (.lst false n2931 c2932)), (5, .dead), (6, .dead), (7, .sl false 0 0 (Int.toNat x2929) 1), (8, .v (.int .i64 x3071)), (9, .v (.lst false n3078 c3079)), (10, .dead), (11, .v (.int .i64 x3143)), (13, .dead), (15, .dead), (16, .dead), (17, .dead), (18, .dead), (19, .dead), (38, .dead), (41, .v (.lst false n2939 c2940)), (42, .v (.int .i64 ((n2939 : Nat) : Int))), (43, .v (.int .i64 x3071)), (44, .dead), (48, .v (.lst false n3078 c3079)), (49, .v (.int .i64 ((n3078 : Nat) : Int))), (50, .v (.int .i64 x3136)), (51, .dead), (74, .dead), (75, .v (.lst false n2931 c2932)), (76, .v (.int .i64 ((n2931 : Nat) : Int))), (77, .v (.int .i64 x3153)), (78, .dead), (86, .dead), (96, .dead), (97, .dead), (98, .dead), (99, .dead), (107, .dead), (114, .dead), (128, .dead)], [(0, .p c3137)], 1, []⟩) N _ ((Wk_le (.r (.r (.r (.r (.r (.r (.r (.r (.r (.r (.k (.r (.r (.r (.r (.r (.r (.r (.r (.r (.r (.r (.r (.r (.r (.r (.k (.k (.r (.r (.r (.r (.r (.r (.r (.r (.r (.r (.r (.r .nil)))))))))))))))))))))))))))))))))))))))) (OLe.refl _)).trans (cmpS_ok (st' := ⟨[], [(0, .dead), (1, .dead), (2, .dead), (3, .v (.int .i64 x2929)), (4, .v (.lst false n2931 c2932)), (5, .dead), (6, .dead), (7, .sl false 0 0 (Int.toNat x2929) 1), (8, .v (.int .i64 x3071)), (9, .v (.lst false n3078 c3079)), (10, .dead), (11, .v (.int .i64 x3143)), (13, .dead), (15, .dead), (16, .dead), (17, .dead), (18, .dead), (19, .dead), (38, .dead), (41, .v (.lst false n2939 c2940)), (42, .v (.int .i64 ((n2939 : Nat) : Int))), (43, .v (.int .i64 x3071)), (44, .dead), (48, .v (.lst false n3078 c3079)), (49, .v (.int .i64 ((n3078 : Nat) : Int))), (50, .v (.int .i64 x3136)), (51, .dead), (74, .dead), (75, .v (.lst false n2931 c2932)), (76, .v (.int .i64 ((n2931 : Nat) : Int))), (77, .v (.int .i64 0)), (78, .dead), (86, .dead), (96, .dead), (97, .dead), (98, .dead), (99, .dead), (107, .dead), (114, .dead), (128, .dead)], [(0, .p c3137)], 1, []⟩) (by kernel_rfl))) ⟨_, h3554, rfl⟩ ?_
                            clear h3554
                            rintro n _ ⟨x3153, h3554, rfl⟩
                            cases n with
                            | zero => cases h3554
                            | succ n =>
                              rw [m6_L2] at h3554
                              have hh := brn_some h3554; clear h3554; rcases hh with ⟨h3154, h3554⟩ | ⟨h3154, h3554⟩
                              · have hh := grd_some h3554; clear h3554; obtain ⟨⟨g3155, g3156⟩, h3554⟩ := hh
                                have hh := grd_some h3554; clear h3554; obtain ⟨g3157, h3554⟩ := hh
                                have hh := getL_some h3554; clear h3554; obtain ⟨n3159, c3160, h3158, h3554⟩ := hh
                                have hh := grd_some h3554; clear h3554; obtain ⟨g3161, h3554⟩ := hh
                                have hh := grd_some h3554; clear h3554; obtain ⟨g3162, h3554⟩ := hh
                                have hh := getI_some h3554; clear h3554; obtain ⟨x3164, h3163, h3554⟩ := hh
                                have hh := brn_some h3554; clear h3554; rcases hh with ⟨h3165, h3554⟩ | ⟨h3165, h3554⟩
                                · refine W_sound tab_ok mixed 31 _ _ _ ?_
                                  simp -implicitDefEqProofs only [go_sem, qa, qb, qc, qd, qe, qf, qg, qh, qi, qj, qk, ↓reduceIte, h2915, h2925, h2928, h2930, h2935, h2938, h2941, h2943, h2944, g2945, g2946, g2947, h3073, g3074, g3075, g3076, h3077, h3138, g3139, g3140, g3141, h3142, h3144, h3145, h3146, g3147, g3148, g3149, h3150, h3152, h3154, g3155, g3156, g3157, h3158, g3161, g3162, h3163, h3165]
                                  repeat with_reducible refine ⟨by first | kernel_rfl | decide, ?_⟩
                                  obtain rfl := Option.some.inj h3554
                                  (try dsimp only at h3555)
                                  obtain rfl := Option.some.inj h3555
                                  (try dsimp only at h3552)
                                  obtain rfl := Option.some.inj h3552
                                  (try dsimp only at h3549)
                                  obtain rfl := Option.some.inj h3549
                                  exact finC [(2, .v (.bool false))] [(2, .v (.bool false))] (by simp [leE, lk_cons]) (.cons _ _ _ _ _ (.v _ _ (.refl _)) .nil) (by rfl) (by simp [leE, lk_cons]) (by decide) (by decide) rfl (by simp only [go_sem, qa, qb, qc, qd, qe, qf, qg, qh, qi, qj, qk, ↓reduceIte, resQ_tmp, resQ_cell, resQ_nil, retD_one, retD_two, retD_three, retD_none]; try simp [R.val, retD_one, retD_two, retD_three, retD_none])
                                · refine W_sound tab_ok mixed 31 _ _ _ ?_
                                  simp -implicitDefEqProofs only [go_sem, qa, qb, qc, qd, qe, qf, qg, qh, qi, qj, qk, ↓reduceIte, h2915, h2925, h2928, h2930, h2935, h2938, h2941, h2943, h2944, g2945, g2946, g2947, h3073, g3074, g3075, g3076, h3077, h3138, g3139, g3140, g3141, h3142, h3144, h3145, h3146, g3147, g3148, g3149, h3150, h3152, h3154, g3155, g3156, g3157, h3158, g3161, g3162, h3163, h3165]
                                  repeat with_reducible refine ⟨by first | kernel_rfl | decide, ?_⟩
                                  exact cutQ _ ((Wk_le (.r (.r (.r (.r (.r (.r (.r (.r (.r (.r (.r (.r (.k (.r (.r (.r (.r (.r (.r (.r (.r (.r (.r (.r (.r (.r (.r (.r (.r (.r (.r (.k (.k (.r (.r (.r (.r (.r (.r (.r .nil)))))))))))))))))))))))))))))))))))))))) (OLe.refl _)).trans (cmpS_ok (st' := ⟨[], [(0, .dead), (1, .dead), (2, .dead), (3, .v (.int .i64 x2929)), (4, .v (.lst false n2931 c2932)), (5, .dead), (6, .dead), (7, .sl false 0 0 (Int.toNat x2929) 1), (8, .v (.int .i64 x3071)), (9, .v (.lst false n3078 c3079)), (10, .dead), (11, .v (.int .i64 x3143)), (13, .dead), (15, .dead), (16, .dead), (17, .dead), (18, .dead), (19, .dead), (38, .dead), (41, .v (.lst false n2939 c2940)), (42, .v (.int .i64 ((n2939 : Nat) : Int))), (43, .v (.int .i64 x3071)), (44, .dead), (48, .v (.lst false n3078 c3079)), (49, .v (.int .i64 ((n3078 : Nat) : Int))), (50, .v (.int .i64 x3136)), (51, .dead), (74, .dead), (75, .v (.lst false n2931 c2932)), (76, .v (.int .i64 ((n2931 : Nat) : Int))), (77, .v (.int .i64 (IntKind.i64.wrap (x3153 + 1)))), (78, .dead), (86, .dead), (96, .dead), (97, .dead), (98, .dead), (99, .dead), (107, .dead), (114, .dead), (128, .dead)], [(0, .p c3137)], 1, []⟩) (by kernel_rfl))) ⟨n, Nat.lt_succ_self n, _, h3554, rfl⟩
                              · refine W_sound tab_ok mixed 7 _ _ _ ?_
                                simp -implicitDefEqProofs only [go_sem, qa, qb, qc, qd, qe, qf, qg, qh, qi, qj, qk, ↓reduceIte, h2915, h2925, h2928, h2930, h2935, h2938, h2941, h2943, h2944, g2945, g2946, g2947, h3073, g3074, g3075, g3076, h3077, h3138, g3139, g3140, g3141, h3142, h3144, h3145, h3146, g3147, g3148, g3149, h3150, h3152, h3154]
                                repeat with_reducible refine ⟨by first | kernel_rfl | decide, ?_⟩
                                obtain rfl := Option.some.inj h3554
                                exact cutQ _ ((Wk_le (.r (.r (.r (.r (.r (.r (.r (.r (.r (.r (.r (.r (.r (.r (.r (.r (.r (.r (.r (.r (.r (.r (.r (.r (.r (.r (.r (.r (.k (.k (.k (.k (.r (.r (.r (.r (.r (.r (.r (.r .nil)))))))))))))))))))))))))))))))))))))))) (OLe.refl _)).trans (cmpS_ok (st' := ⟨[], [(0, .dead), (1, .dead), (2, .dead), (3, .v (.int .i64 x2929)), (4, .v (.lst false n2931 c2932)), (5, .dead), (6, .dead), (7, .sl false 0 0 (Int.toNat x2929) 1), (8, .v (.int .i64 x3071)), (9, .v (.lst false n3078 c3079)), (10, .dead), (11, .v (.int .i64 x3143)), (13, .dead), (15, .dead), (16, .dead), (17, .dead), (18, .dead), (19, .dead), (38, .dead), (41, .v (.lst false n2939 c2940)), (42, .v (.int .i64 ((n2939 : Nat) : Int))), (43, .v (.int .i64 x3071)), (44, .dead), (48, .v (.lst false n3078 c3079)), (49, .v (.int .i64 ((n3078 : Nat) : Int))), (50, .v (.int .i64 x3136)), (51, .dead), (74, .dead), (75, .dead), (76, .dead), (77, .dead), (78, .dead), (86, .dead), (96, .dead), (97, .dead), (98, .dead), (99, .dead), (107, .dead), (114, .dead), (128, .dead)], [(0, .p c3137)], 1, []⟩) (by kernel_rfl))) ⟨rfl, rfl⟩
                          · rintro _ ⟨rfl, rfl⟩
                            (try dsimp only at h3555)
                            have hh := grd_some h3555; clear h3555; obtain ⟨⟨g3167, g3168⟩, h3555⟩ := hh
                            have hh := grd_some h3555; clear h3555; obtain ⟨g3169, h3555⟩ := hh
                            have hh := getI_some h3555; clear h3555; obtain ⟨x3171, h3170, h3555⟩ := hh
                            have hh := grd_some h3555; clear h3555; obtain ⟨g3172, h3555⟩ := hh
                            refine W_sound tab_ok mixed 14 _ _ _ ?_
                            simp -implicitDefEqProofs only [go_sem, qa, qb, qc, qd, qe, qf, qg, qh, qi, qj, qk, ↓reduceIte, h2915, h2925, h2928, h2930, h2935, h2938, h2941, h2943, h2944, g2945, g2946, g2947, h3073, g3074, g3075, g3076, h3077, h3138, g3139, g3140, g3141, h3142, h3144, h3145, h3146, g3147, g3148, g3149, h3150, h3152, g3167, g3168, g3169, h3170, g3172]
                            repeat with_reducible refine ⟨by first | kernel_rfl | decide, ?_⟩
                            exact cutQ _ ((Wk_le (.r (.r (.r (.r (.r (.r (.r (.r (.r (.r (.r (.k (.r (.r (.r (.r (.r (.r (.r (.r (.r (.r (.r (.r (.r (.r (.r (.r (.r (.r (.r (.r (.r (.r (.r (.r (.r (.r (.r (.r .nil)))))))))))))))))))))))))))))))))))))))) (OLe.refl _)).trans (cmpS_ok (st' := ⟨[], [(0, .dead), (1, .dead), (2, .dead), (3, .v (.int .i64 x2929)), (4, .v (.lst false n2931 c2932)), (5, .dead), (6, .dead), (7, .sl false 0 0 (Int.toNat x2929) 1), (8, .v (.int .i64 x3071)), (9, .v (.lst false n3078 c3079)), (10, .dead), (11, .dead), (13, .dead), (15, .dead), (16, .dead), (17, .dead), (18, .dead), (19, .dead), (38, .dead), (41, .v (.lst false n2939 c2940)), (42, .v (.int .i64 ((n2939 : Nat) : Int))), (43, .v (.int .i64 x3071)), (44, .dead), (48, .v (.lst false n3078 c3079)), (49, .v (.int .i64 ((n3078 : Nat) : Int))), (50, .v (.int .i64 (IntKind.i64.wrap (x3136 + 1)))), (51, .dead), (74, .dead), (75, .dead), (76, .dead), (77, .dead), (78, .dead), (86, .dead), (96, .dead), (97, .dead), (98, .dead), (99, .dead), (107, .dead), (114, .dead), (128, .dead)], [(0, .p (List.set c3137 (Int.toNat x3143) (.int .i64 (IntKind.i64.wrap (x3171 + 1)))))], 1, []⟩) (by kernel_rfl))) ⟨n, Nat.lt_succ_self n, _, _, h3555, rfl⟩
                      · refine W_sound tab_ok mixed 50 _ _ _ ?_
                        simp -implicitDefEqProofs only [go_sem, qa, qb, qc, qd, qe, qf, qg, qh, qi, qj, qk, ↓reduceIte, h2915, h2925, h2928, h2930, h2935, h2938, h2941, h2943, h2944, g2945, g2946, g2947, h3073, g3074, g3075, g3076, h3077, h3138, g3139, g3140, g3141, h3142, h3144, h3145, h3146]
                        repeat with_reducible refine ⟨by first | kernel_rfl | decide, ?_⟩
                        have hh := bnd'_some h3551; clear h3551; obtain ⟨o3556, h3557, h3558⟩ := hh
                        refine Wp_cut (fun s => (.inr ()) = o3556 ∧ s = ⟨[], [(0, .dead), (1, .dead), (2, .dead), (3, .v (.int .i64 x2929)), (4, .v (.lst false n2931 c2932)), (5, .dead), (6, .dead), (7, .sl false 0 0 (Int.toNat x2929) 1), (8, .v (.int .i64 x3071)), (9, .v (.lst false n3078 c3079)), (10, .dead), (11, .v (.int .i64 x3143)), (13, .dead), (15, .dead), (16, .dead), (17, .dead), (18, .dead), (19, .dead), (38, .dead), (41, .v (.lst false n2939 c2940)), (42, .v (.int .i64 ((n2939 : Nat) : Int))), (43, .v (.int .i64 x3071)), (44, .dead), (48, .v (.lst false n3078 c3079)), (49, .v (.int .i64 ((n3078 : Nat) : Int))), (50, .v (.int .i64 x3136)), (51, .dead), (74, .dead), (75, .dead), (76, .dead), (77, .dead), (78, .dead), (86, .dead), (96, .dead), (97, .dead), (98, .dead), (99, .dead), (107, .dead), (114, .dead), (128, .dead)], [(0, .p c3137)], 1, []⟩) ?_ ?_
                        · refine Wp_block ?_
                          refine Wp_loopG (fun n s => ∃ x3173, m6_L3 N x2929 n2931 c2932 n2939 c2940 x3071 n3078 c3079 x3136 c3137 x3143 n x3173 = some o3556 ∧ s = ⟨[], [(0, .dead), (1, .dead), (2, .dead), (3, .v (.int .i64 x2929)), (4, .v (.lst false n2931 c2932)), (5, .dead), (6, .dead), (7, .sl false 0 0 (Int.toNat x2929) 1), (8, .v (.int .i64 x3071)), (9, .v (.lst false n3078 c3079)), (10, .dead), (11, .v (.int .i64 x3143)), (13, .dead), (15, .dead), (16, .dead), (17, .dead), (18, .dead), (19, .dead), (38, .dead), (41, .v (.lst false n2939 c2940)), (42, .v (.int .i64 ((n2939 : Nat) : Int))), (43, .v (.int .i64 x3071)), (44, .dead), (48, .v (.lst false n3078 c3079)), (49, .v (.int .i64 ((n3078 : Nat) : Int))), (50, .v (.int .i64 x3136)), (51, .dead), (74, .dead), (75, .v (.lst false n2931 c2932)), (76, .v (.int .i64 ((n2931 : Nat) : Int))), (77, .v (.int .i64 x3173)), (78, .dead), (86, .dead), (96, .dead), (97, .dead), (98, .dead), (99, .dead), (107, .dead), (114, .dead), (128, .dead)], [(0, .p c3137)], 1, []⟩) N _ ((Wk_le (.r (.r (.r (.r (.r (.r (.r (.r (.r (.r (.k (.r (.r (.r (.r (.r (.r (.r (.r (.r (.r (.r (.r (.r (.r (.r (.k (.k (.r (.r (.r (.r (.r (.r (.r (.r (.r (.r (.r (.r .nil)))))))))))))))))))))))))))))))))))))))) (OLe.refl _)).trans (cmpS_ok (st' := ⟨[], [(0, .dead), (1, .dead), (2, .dead), (3, .v (.int .i64 x2929)), (4, .v (.lst false n2931 c2932)), (5, .dead), (6, .dead), (7, .sl false 0 0 (Int.toNat x2929) 1), (8, .v (.int .i64 x3071)), (9, .v (.lst false n3078 c3079)), (10, .dead), (11, .v (.int .i64 x3143)), (13, .dead), (15, .dead), (16, .dead), (17, .dead), (18, .dead), (19, .dead), (38, .dead), (41, .v (.lst false n2939 c2940)), (42, .v (.int .i64 ((n2939 : Nat) : Int))), (43, .v (.int .i64 x3071)), (44, .dead), (48, .v (.lst false n3078 c3079)), (49, .v (.int .i64 ((n3078 : Nat) : Int))), (50, .v (.int .i64 x3136)), (51, .dead), (74, .dead), (75, .v (.lst false n2931 c2932)), (76, .v (.int .i64 ((n2931 : Nat) : Int))), (77, .v (.int .i64 0)), (78, .dead), (86, .dead), (96, .dead), (97, .dead), (98, .dead), (99, .dead), (107, .dead), (114, .dead), (128, .dead)], [(0, .p c3137)], 1, []⟩) (by kernel_rfl))) ⟨_, h3557, rfl⟩ ?_
                          clear h3557
                          rintro n _ ⟨x3173, h3557, rfl⟩
                          cases n with
                          | zero => cases h3557
                          | succ n =>
                            rw [m6_L3] at h3557
                            have hh := brn_some h3557; clear h3557; rcases hh with ⟨h3174, h3557⟩ | ⟨h3174, h3557⟩
                            · have hh := grd_some h3557; clear h3557; obtain ⟨⟨g3175, g3176⟩, h3557⟩ := hh
                              have hh := grd_some h3557; clear h3557; obtain ⟨g3177, h3557⟩ := hh
                              have hh := getL_some h3557; clear h3557; obtain ⟨n3179, c3180, h3178, h3557⟩ := hh
                              have hh := grd_some h3557; clear h3557; obtain ⟨g3181, h3557⟩ := hh
                              have hh := grd_some h3557; clear h3557; obtain ⟨g3182, h3557⟩ := hh
                              have hh := getI_some h3557; clear h3557; obtain ⟨x3184, h3183, h3557⟩ := hh
                              have hh := brn_some h3557; clear h3557; rcases hh with ⟨h3185, h3557⟩ | ⟨h3185, h3557⟩
                              · refine W_sound tab_ok mixed 31 _ _ _ ?_
                                simp -implicitDefEqProofs only [go_sem, qa, qb, qc, qd, qe, qf, qg, qh, qi, qj, qk, ↓reduceIte, h2915, h2925, h2928, h2930, h2935, h2938, h2941, h2943, h2944, g2945, g2946, g2947, h3073, g3074, g3075, g3076, h3077, h3138, g3139, g3140, g3141, h3142, h3144, h3145, h3146, h3174, g3175, g3176, g3177, h3178, g3181, g3182, h3183, h3185]
                                repeat with_reducible refine ⟨by first | kernel_rfl | decide, ?_⟩
                                obtain rfl := Option.some.inj h3557
                                (try dsimp only at h3558)
                                obtain rfl := Option.some.inj h3558
                                (try dsimp only at h3552)
                                obtain rfl := Option.some.inj h3552
                                (try dsimp only at h3549)
                                obtain rfl := Option.some.inj h3549
                                exact finC [(2, .v (.bool false))] [(2, .v (.bool false))] (by simp [leE, lk_cons]) (.cons _ _ _ _ _ (.v _ _ (.refl _)) .nil) (by rfl) (by simp [leE, lk_cons]) (by decide) (by decide) rfl (by simp only [go_sem, qa, qb, qc, qd, qe, qf, qg, qh, qi, qj, qk, ↓reduceIte, resQ_tmp, resQ_cell, resQ_nil, retD_one, retD_two, retD_three, retD_none]; try simp [R.val, retD_one, retD_two, retD_three, retD_none])
                              · refine W_sound tab_ok mixed 31 _ _ _ ?_
                                simp -implicitDefEqProofs only [go_sem, qa, qb, qc, qd, qe, qf, qg, qh, qi, qj, qk, ↓reduceIte, h2915, h2925, h2928, h2930, h2935, h2938, h2941, h2943, h2944, g2945, g2946, g2947, h3073, g3074, g3075, g3076, h3077, h3138, g3139, g3140, g3141, h3142, h3144, h3145, h3146, h3174, g3175, g3176, g3177, h3178, g3181, g3182, h3183, h3185]
                                repeat with_reducible refine ⟨by first | kernel_rfl | decide, ?_⟩
                                exact cutQ _ ((Wk_le (.r (.r (.r (.r (.r (.r (.r (.r (.r (.r (.r (.r (.k (.r (.r (.r (.r (.r (.r (.r (.r (.r (.r (.r (.r (.r (.r (.r (.r (.r (.r (.k (.k (.r (.r (.r (.r (.r (.r (.r .nil)))))))))))))))))))))))))))))))))))))))) (OLe.refl _)).trans (cmpS_ok (st' := ⟨[], [(0, .dead), (1, .dead), (2, .dead), (3, .v (.int .i64 x2929)), (4, .v (.lst false n2931 c2932)), (5, .dead), (6, .dead), (7, .sl false 0 0 (Int.toNat x2929) 1), (8, .v (.int .i64 x3071)), (9, .v (.lst false n3078 c3079)), (10, .dead), (11, .v (.int .i64 x3143)), (13, .dead), (15, .dead), (16, .dead), (17, .dead), (18, .dead), (19, .dead), (38, .dead), (41, .v (.lst false n2939 c2940)), (42, .v (.int .i64 ((n2939 : Nat) : Int))), (43, .v (.int .i64 x3071)), (44, .dead), (48, .v (.lst false n3078 c3079)), (49, .v (.int .i64 ((n3078 : Nat) : Int))), (50, .v (.int .i64 x3136)), (51, .dead), (74, .dead), (75, .v (.lst false n2931 c2932)), (76, .v (.int .i64 ((n2931 : Nat) : Int))), (77, .v (.int .i64 (IntKind.i64.wrap (x3173 + 1)))), (78, .dead), (86, .dead), (96, .dead), (97, .dead), (98, .dead), (99, .dead), (107, .dead), (114, .dead), (128, .dead)], [(0, .p c3137)], 1, []⟩) (by kernel_rfl))) ⟨n, Nat.lt_succ_self n, _, h3557, rfl⟩
                            · refine W_sound tab_ok mixed 7 _ _ _ ?_
                              simp -implicitDefEqProofs only [go_sem, qa, qb, qc, qd, qe, qf, qg, qh, qi, qj, qk, ↓reduceIte, h2915, h2925, h2928, h2930, h2935, h2938, h2941, h2943, h2944, g2945, g2946, g2947, h3073, g3074, g3075, g3076, h3077, h3138, g3139, g3140, g3141, h3142, h3144, h3145, h3146, h3174]
                              repeat with_reducible refine ⟨by first | kernel_rfl | decide, ?_⟩
                              obtain rfl := Option.some.inj h3557
                              exact cutQ _ ((Wk_le (.r (.r (.r (.r (.r (.r (.r (.r (.r (.r (.r (.r (.r (.r (.r (.r (.r (.r (.r (.r (.r (.r (.r (.r (.r (.r (.r (.r (.k (.k (.k (.k (.r (.r (.r (.r (.r (.r (.r (.r .nil)))))))))))))))))))))))))))))))))))))))) (OLe.refl _)).trans (cmpS_ok (st' := ⟨[], [(0, .dead), (1, .dead), (2, .dead), (3, .v (.int .i64 x2929)), (4, .v (.lst false n2931 c2932)), (5, .dead), (6, .dead), (7, .sl false 0 0 (Int.toNat x2929) 1), (8, .v (.int .i64 x3071)), (9, .v (.lst false n3078 c3079)), (10, .dead), (11, .v (.int .i64 x3143)), (13, .dead), (15, .dead), (16, .dead), (17, .dead), (18, .dead), (19, .dead), (38, .dead), (41, .v (.lst false n2939 c2940)), (42, .v (.int .i64 ((n2939 : Nat) : Int))), (43, .v (.int .i64 x3071)), (44, .dead), (48, .v (.lst false n3078 c3079)), (49, .v (.int .i64 ((n3078 : Nat) : Int))), (50, .v (.int .i64 x3136)), (51, .dead), (74, .dead), (75, .dead), (76, .dead), (77, .dead), (78, .dead), (86, .dead), (96, .dead), (97, .dead), (98, .dead), (99, .dead), (107, .dead), (114, .dead), (128, .dead)], [(0, .p c3137)], 1, []⟩) (by kernel_rfl))) ⟨rfl, rfl⟩
                        · rintro _ ⟨rfl, rfl⟩
                          (try dsimp only at h3558)
                          have hh := grd_some h3558; clear h3558; obtain ⟨⟨g3187, g3188⟩, h3558⟩ := hh
                          have hh := grd_some h3558; clear h3558; obtain ⟨g3189, h3558⟩ := hh
                          have hh := getI_some h3558; clear h3558; obtain ⟨x3191, h3190, h3558⟩ := hh
                          have hh := grd_some h3558; clear h3558; obtain ⟨g3192, h3558⟩ := hh
                          refine W_sound tab_ok mixed 14 _ _ _ ?_
                          simp -implicitDefEqProofs only [go_sem, qa, qb, qc, qd, qe, qf, qg, qh, qi, qj, qk, ↓reduceIte, h2915, h2925, h2928, h2930, h2935, h2938, h2941, h2943, h2944, g2945, g2946, g2947, h3073, g3074, g3075, g3076, h3077, h3138, g3139, g3140, g3141, h3142, h3144, h3145, h3146, g3187, g3188, g3189, h3190, g3192]
                          repeat with_reducible refine ⟨by first | kernel_rfl | decide, ?_⟩
                          exact cutQ _ ((Wk_le (.r (.r (.r (.r (.r (.r (.r (.r (.r (.r (.r (.k (.r (.r (.r (.r (.r (.r (.r (.r (.r (.r (.r (.r (.r (.r (.r (.r (.r (.r (.r (.r (.r (.r (.r (.r (.r (.r (.r (.r .nil)))))))))))))))))))))))))))))))))))))))) (OLe.refl _)).trans (cmpS_ok (st' := ⟨[], [(0, .dead), (1, .dead), (2, .dead), (3, .v (.int .i64 x2929)), (4, .v (.lst false n2931 c2932)), (5, .dead), (6, .dead), (7, .sl false 0 0 (Int.toNat x2929) 1), (8, .v (.int .i64 x3071)), (9, .v (.lst false n3078 c3079)), (10, .dead), (11, .dead), (13, .dead), (15, .dead), (16, .dead), (17, .dead), (18, .dead), (19, .dead), (38, .dead), (41, .v (.lst false n2939 c2940)), (42, .v (.int .i64 ((n2939 : Nat) : Int))), (43, .v (.int .i64 x3071)), (44, .dead), (48, .v (.lst false n3078 c3079)), (49, .v (.int .i64 ((n3078 : Nat) : Int))), (50, .v (.int .i64 (IntKind.i64.wrap (x3136 + 1)))), (51, .dead), (74, .dead), (75, .dead), (76, .dead), (77, .dead), (78, .dead), (86, .dead), (96, .dead), (97, .dead), (98, .dead), (99, .dead), (107, .dead), (114, .dead), (128, .dead)], [(0, .p (List.set c3137 (Int.toNat x3143) (.int .i64 (IntKind.i64.wrap (x3191 + 1)))))], 1, []⟩) (by kernel_rfl))) ⟨n, Nat.lt_succ_self n, _, _, h3558, rfl⟩
                · refine W_sound tab_ok mixed 7 _ _ _ ?_
                  simp -implicitDefEqProofs only [go_sem, qa, qb, qc, qd, qe, qf, qg, qh, qi, qj, qk, ↓reduceIte, h2915, h2925, h2928, h2930, h2935, h2938, h2941, h2943, h2944, g2945, g2946, g2947, h3073, g3074, g3075, g3076, h3077, h3138]
                  repeat with_reducible refine ⟨by first | kernel_rfl | decide, ?_⟩
                  obtain rfl := Option.some.inj h3551
                  exact cutQ _ ((Wk_le (.r (.r (.r (.r (.r (.r (.r (.r (.k (.k (.r (.r (.r (.r (.r (.r (.r (.r (.r (.r (.r (.r (.r (.k (.k (.k (.k (.r (.r (.r (.r (.r (.r (.r (.r (.r (.r (.r (.r (.r .nil)))))))))))))))))))))))))))))))))))))))) (OLe.refl _)).trans (cmpS_ok (st' := ⟨[], [(0, .dead), (1, .dead), (2, .dead), (3, .v (.int .i64 x2929)), (4, .v (.lst false n2931 c2932)), (5, .dead), (6, .dead), (7, .sl false 0 0 (Int.toNat x2929) 1), (8, .dead), (9, .dead), (10, .dead), (11, .dead), (13, .dead), (15, .dead), (16, .dead), (17, .dead), (18, .dead), (19, .dead), (38, .dead), (41, .v (.lst false n2939 c2940)), (42, .v (.int .i64 ((n2939 : Nat) : Int))), (43, .v (.int .i64 x3071)), (44, .dead), (48, .dead), (49, .dead), (50, .dead), (51, .dead), (74, .dead), (75, .dead), (76, .dead), (77, .dead), (78, .dead), (86, .dead), (96, .dead), (97, .dead), (98, .dead), (99, .dead), (107, .dead), (114, .dead), (128, .dead)], [(0, .p c3137)], 1, []⟩) (by kernel_rfl))) ⟨_, rfl, rfl⟩
            · rintro _ ⟨c3194, rfl, rfl⟩
              (try dsimp only at h3552)
              refine W_sound tab_ok mixed 5 _ _ _ ?_
              simp -implicitDefEqProofs only [go_sem, qa, qb, qc, qd, qe, qf, qg, qh, qi, qj, qk, ↓reduceIte, h2915, h2925, h2928, h2930, h2935, h2938, h2941, h2943, h2944, g2945, g2946, g2947, h3073, g3074, g3075, g3076, h3077]
              repeat with_reducible refine ⟨by first | kernel_rfl | decide, ?_⟩
              exact cutQ _ ((Wk_le (.r (.r (.r (.r (.r (.r (.r (.r (.r (.r (.r (.r (.r (.r (.r (.r (.r (.r (.r (.r (.r (.r (.r (.r (.r (.r (.r (.r (.r (.r (.r (.r (.r (.r (.r (.r (.r (.r (.r (.r .nil)))))))))))))))))))))))))))))))))))))))) (OLe.refl _)).trans (cmpS_ok (st' := ⟨[], [(0, .dead), (1, .dead), (2, .dead), (3, .v (.int .i64 x2929)), (4, .v (.lst false n2931 c2932)), (5, .dead), (6, .dead), (7, .sl false 0 0 (Int.toNat x2929) 1), (8, .dead), (9, .dead), (10, .dead), (11, .dead), (13, .dead), (15, .dead), (16, .dead), (17, .dead), (18, .dead), (19, .dead), (38, .dead), (41, .v (.lst false n2939 c2940)), (42, .v (.int .i64 ((n2939 : Nat) : Int))), (43, .v (.int .i64 (IntKind.i64.wrap (x3071 + 1)))), (44, .dead), (48, .dead), (49, .dead), (50, .dead), (51, .dead), (74, .dead), (75, .dead), (76, .dead), (77, .dead), (78, .dead), (86, .dead), (96, .dead), (97, .dead), (98, .dead), (99, .dead), (107, .dead), (114, .dead), (128, .dead)], [(0, .p c3194)], 1, []⟩) (by kernel_rfl))) ⟨n, Nat.lt_succ_self n, _, _, h3552, rfl⟩
          · refine W_sound tab_ok mixed 7 _ _ _ ?_
            simp -implicitDefEqProofs only [go_sem, qa, qb, qc, qd, qe, qf, qg, qh, qi, qj, qk, ↓reduceIte, h2915, h2925, h2928, h2930, h2935, h2938, h2941, h2943, h2944, g2945, g2946, g2947, h3073]
            repeat with_reducible refine ⟨by first | kernel_rfl | decide, ?_⟩
            obtain rfl := Option.some.inj h3548
            exact cutQ _ ((Wk_le (.r (.r (.r (.r (.r (.r (.r (.r (.r (.r (.r (.r (.r (.r (.r (.r (.r (.r (.r (.k (.k (.k (.k (.r (.r (.r (.r (.r (.r (.r (.r (.r (.r (.r (.r (.r (.r (.r (.r (.r .nil)))))))))))))))))))))))))))))))))))))))) (OLe.refl _)).trans (cmpS_ok (st' := ⟨[], [(0, .dead), (1, .dead), (2, .dead), (3, .v (.int .i64 x2929)), (4, .v (.lst false n2931 c2932)), (5, .dead), (6, .dead), (7, .sl false 0 0 (Int.toNat x2929) 1), (8, .dead), (9, .dead), (10, .dead), (11, .dead), (13, .dead), (15, .dead), (16, .dead), (17, .dead), (18, .dead), (19, .dead), (38, .dead), (41, .dead), (42, .dead), (43, .dead), (44, .dead), (48, .dead), (49, .dead), (50, .dead), (51, .dead), (74, .dead), (75, .dead), (76, .dead), (77, .dead), (78, .dead), (86, .dead), (96, .dead), (97, .dead), (98, .dead), (99, .dead), (107, .dead), (114, .dead), (128, .dead)], [(0, .p c3072)], 1, []⟩) (by kernel_rfl))) ⟨_, rfl, rfl⟩
      · rintro _ ⟨c3196, rfl, rfl⟩
        (try dsimp only at h3549)
        refine W_sound tab_ok mixed 7 _ _ _ ?_
        simp -implicitDefEqProofs only [go_sem, qa, qb, qc, qd, qe, qf, qg, qh, qi, qj, qk, ↓reduceIte, h2915, h2925, h2928, h2930, h2935, h2938, h2941, h2943, h2944, g2945, g2946, g2947]
        repeat with_reducible refine ⟨by first | kernel_rfl | decide, ?_⟩
        have hh := bnd'_some h3549; clear h3549; obtain ⟨o3559, h3560, h3561⟩ := hh
        refine Wp_cut (fun s => (.inr ()) = o3559 ∧ s = ⟨[], [(0, .dead), (1, .dead), (2, .dead), (3, .v (.int .i64 x2929)), (4, .v (.lst false n2931 c2932)), (5, .dead), (6, .dead), (7, .dead), (8, .dead), (9, .dead), (10, .dead), (11, .dead), (13, .dead), (15, .dead), (16, .dead), (17, .dead), (18, .dead), (19, .dead), (38, .dead), (41, .dead), (42, .dead), (43, .dead), (44, .dead), (48, .dead), (49, .dead), (50, .dead), (51, .dead), (74, .dead), (75, .dead), (76, .dead), (77, .dead), (78, .dead), (86, .dead), (96, .dead), (97, .dead), (98, .dead), (99, .dead), (107, .dead), (114, .dead), (128, .dead)], [], 0, []⟩) ?_ ?_
        · refine Wp_block ?_
          refine Wp_loopG (fun n s => ∃ x3197, m6_L4 N x2929 n2931 c2932 c3196 n x3197 = some o3559 ∧ s = ⟨[], [(0, .dead), (1, .dead), (2, .dead), (3, .v (.int .i64 x2929)), (4, .v (.lst false n2931 c2932)), (5, .dead), (6, .dead), (7, .dead), (8, .dead), (9, .dead), (10, .dead), (11, .dead), (13, .dead), (15, .dead), (16, .dead), (17, .dead), (18, .dead), (19, .dead), (38, .dead), (41, .dead), (42, .dead), (43, .dead), (44, .dead), (48, .dead), (49, .dead), (50, .dead), (51, .dead), (74, .dead), (75, .dead), (76, .dead), (77, .dead), (78, .dead), (86, .dead), (96, .sl false 0 0 (Int.toNat x2929) 1), (97, .v (.int .i64 (((Int.toNat x2929) : Nat) : Int))), (98, .v (.int .i64 x3197)), (99, .dead), (107, .dead), (114, .dead), (128, .dead)], [(0, .p c3196)], 1, []⟩) N _ ((Wk_le (.r (.r (.r (.r (.r (.r (.r (.k (.r (.r (.r (.r (.r (.r (.r (.r (.r (.r (.r (.r (.r (.r (.r (.r (.r (.r (.r (.r (.r (.r (.r (.r (.r (.r (.r (.r (.r (.r (.r (.r .nil)))))))))))))))))))))))))))))))))))))))) (OLe.refl _)).trans (cmpS_ok (st' := ⟨[], [(0, .dead), (1, .dead), (2, .dead), (3, .v (.int .i64 x2929)), (4, .v (.lst false n2931 c2932)), (5, .dead), (6, .dead), (7, .dead), (8, .dead), (9, .dead), (10, .dead), (11, .dead), (13, .dead), (15, .dead), (16, .dead), (17, .dead), (18, .dead), (19, .dead), (38, .dead), (41, .dead), (42, .dead), (43, .dead), (44, .dead), (48, .dead), (49, .dead), (50, .dead), (51, .dead), (74, .dead), (75, .dead), (76, .dead), (77, .dead), (78, .dead), (86, .dead), (96, .sl false 0 0 (Int.toNat x2929) 1), (97, .v (.int .i64 (((Int.toNat x2929) : Nat) : Int))), (98, .v (.int .i64 0)), (99, .dead), (107, .dead), (114, .dead), (128, .dead)], [(0, .p c3196)], 1, []⟩) (by kernel_rfl))) ⟨_, h3560, rfl⟩ ?_
          clear h3560
          rintro n _ ⟨x3197, h3560, rfl⟩
          cases n with
          | zero => cases h3560
          | succ n =>
            rw [m6_L4] at h3560
            have hh := brn_some h3560; clear h3560; rcases hh with ⟨h3198, h3560⟩ | ⟨h3198, h3560⟩
            · have hh := grd_some h3560; clear h3560; obtain ⟨⟨g3199, g3200⟩, h3560⟩ := hh
              have hh := grd_some h3560; clear h3560; obtain ⟨g3201, h3560⟩ := hh
              have hh := getI_some h3560; clear h3560; obtain ⟨x3203, h3202, h3560⟩ := hh
              have hh := brn_some h3560; clear h3560; rcases hh with ⟨h3204, h3560⟩ | ⟨h3204, h3560⟩
              · refine W_sound tab_ok mixed 31 _ _ _ ?_
                simp -implicitDefEqProofs only [go_sem, qa, qb, qc, qd, qe, qf, qg, qh, qi, qj, qk, ↓reduceIte, h2915, h2925, h2928, h2930, h2935, h2938, h2941, h2943, h2944, g2945, g2946, g2947, h3198, g3199, g3200, g3201, h3202, h3204]
                repeat with_reducible refine ⟨by first | kernel_rfl | decide, ?_⟩
                obtain rfl := Option.some.inj h3560
                (try dsimp only at h3561)
                obtain rfl := Option.some.inj h3561
                exact finC [(2, .v (.bool false))] [(2, .v (.bool false))] (by simp [leE, lk_cons]) (.cons _ _ _ _ _ (.v _ _ (.refl _)) .nil) (by rfl) (by simp [leE, lk_cons]) (by decide) (by decide) rfl (by simp only [go_sem, qa, qb, qc, qd, qe, qf, qg, qh, qi, qj, qk, ↓reduceIte, resQ_tmp, resQ_cell, resQ_nil, retD_one, retD_two, retD_three, retD_none]; try simp [R.val, retD_one, retD_two, retD_three, retD_none])
              · refine W_sound tab_ok mixed 31 _ _ _ ?_
                simp -implicitDefEqProofs only [go_sem, qa, qb, qc, qd, qe, qf, qg, qh, qi, qj, qk, ↓reduceIte, h2915, h2925, h2928, h2930, h2935, h2938, h2941, h2943, h2944, g2945, g2946, g2947, h3198, g3199, g3200, g3201, h3202, h3204]
                repeat with_reducible refine ⟨by first | kernel_rfl | decide, ?_⟩
                exact cutQ _ ((Wk_le (.r (.r (.r (.r (.r (.r (.r (.r (.r (.r (.r (.r (.r (.k (.r (.r (.r (.r (.r (.r (.r (.r (.r (.r (.r (.r (.r (.r (.r (.r (.r (.r (.r (.r (.r (.r (.k (.k (.r (.r .nil)))))))))))))))))))))))))))))))))))))))) (OLe.refl _)).trans (cmpS_ok (st' := ⟨[], [(0, .dead), (1, .dead), (2, .dead), (3, .v (.int .i64 x2929)), (4, .v (.lst false n2931 c2932)), (5, .dead), (6, .dead), (7, .dead), (8, .dead), (9, .dead), (10, .dead), (11, .dead), (13, .dead), (15, .dead), (16, .dead), (17, .dead), (18, .dead), (19, .dead), (38, .dead), (41, .dead), (42, .dead), (43, .dead), (44, .dead), (48, .dead), (49, .dead), (50, .dead), (51, .dead), (74, .dead), (75, .dead), (76, .dead), (77, .dead), (78, .dead), (86, .dead), (96, .sl false 0 0 (Int.toNat x2929) 1), (97, .v (.int .i64 (((Int.toNat x2929) : Nat) : Int))), (98, .v (.int .i64 (IntKind.i64.wrap (x3197 + 1)))), (99, .dead), (107, .dead), (114, .dead), (128, .dead)], [(0, .p c3196)], 1, []⟩) (by kernel_rfl))) ⟨n, Nat.lt_succ_self n, _, h3560, rfl⟩
            · refine W_sound tab_ok mixed 7 _ _ _ ?_
              simp -implicitDefEqProofs only [go_sem, qa, qb, qc, qd, qe, qf, qg, qh, qi, qj, qk, ↓reduceIte, h2915, h2925, h2928, h2930, h2935, h2938, h2941, h2943, h2944, g2945, g2946, g2947, h3198]
              repeat with_reducible refine ⟨by first | kernel_rfl | decide, ?_⟩
              obtain rfl := Option.some.inj h3560
              exact cutQ _ ((Wk_le (.r (.r (.r (.r (.r (.r (.r (.r (.r (.r (.r (.r (.r (.r (.r (.r (.r (.r (.r (.r (.r (.r (.r (.r (.r (.r (.r (.r (.r (.r (.r (.r (.r (.k (.k (.k (.k (.r (.r (.r .nil)))))))))))))))))))))))))))))))))))))))) (OLe.refl _)).trans (cmpS_ok (st' := ⟨[], [(0, .dead), (1, .dead), (2, .dead), (3, .v (.int .i64 x2929)), (4, .v (.lst false n2931 c2932)), (5, .dead), (6, .dead), (7, .dead), (8, .dead), (9, .dead), (10, .dead), (11, .dead), (13, .dead), (15, .dead), (16, .dead), (17, .dead), (18, .dead), (19, .dead), (38, .dead), (41, .dead), (42, .dead), (43, .dead), (44, .dead), (48, .dead), (49, .dead), (50, .dead), (51, .dead), (74, .dead), (75, .dead), (76, .dead), (77, .dead), (78, .dead), (86, .dead), (96, .dead), (97, .dead), (98, .dead), (99, .dead), (107, .dead), (114, .dead), (128, .dead)], [], 0, []⟩) (by kernel_rfl))) ⟨rfl, rfl⟩
        · rintro _ ⟨rfl, rfl⟩
          (try dsimp only at h3561)
          have hh := bnd'_some h3561; clear h3561; obtain ⟨⟨n3206, c3207⟩, h3208, h3561⟩ := hh
          (try dsimp only at h3561)
          refine W_sound tab_ok mixed 3 _ _ _ ?_
          simp -implicitDefEqProofs only [go_sem, qa, qb, qc, qd, qe, qf, qg, qh, qi, qj, qk, ↓reduceIte, h2915, h2925, h2928, h2930, h2935, h2938, h2941, h2943, h2944, g2945, g2946, g2947]
          repeat with_reducible refine ⟨by first | kernel_rfl | decide, ?_⟩
          refine Wp_callD [] (c39 N _ _ _ h3208) rfl rfl rfl (by first | rfl | (simp only [go_sem, qa, qb, qc, qd, qe, qf, qg, qh, qi, qj, qk, ↓reduceIte, h2915, h2925, h2928, h2930, h2935, h2938, h2941, h2943, h2944, g2945, g2946, g2947] <;> rfl)) rfl (by kernel_rfl) ?_
          refine W_sound tab_ok mixed 3 _ _ _ ?_
          simp -implicitDefEqProofs only [go_sem, qa, qb, qc, qd, qe, qf, qg, qh, qi, qj, qk, ↓reduceIte, h2915, h2925, h2928, h2930, h2935, h2938, h2941, h2943, h2944, g2945, g2946, g2947]
          repeat with_reducible refine ⟨by first | kernel_rfl | decide, ?_⟩
          have hh := bnd'_some h3561; clear h3561; obtain ⟨o3562, h3563, h3564⟩ := hh
          refine Wp_cut (fun s => ∃ n3497, ∃ c3498, (.inr (n3497, c3498)) = o3562 ∧ s = ⟨[], [(0, .dead), (1, .dead), (2, .dead), (3, .v (.int .i64 x2929)), (4, .v (.lst false n2931 c2932)), (5, .dead), (6, .dead), (7, .dead), (8, .dead), (9, .dead), (10, .dead), (11, .dead), (13, .dead), (15, .dead), (16, .sl false 0 0 n3497 1), (17, .dead), (18, .dead), (19, .dead), (38, .dead), (41, .dead), (42, .dead), (43, .dead), (44, .dead), (48, .dead), (49, .dead), (50, .dead), (51, .dead), (74, .dead), (75, .dead), (76, .dead), (77, .dead), (78, .dead), (86, .dead), (96, .dead), (97, .dead), (98, .dead), (99, .dead), (107, .dead), (114, .dead), (128, .dead)], [(0, .p c3498)], 1, []⟩) ?_ ?_
          · refine Wp_block ?_
            refine Wp_loopG (fun n s => ∃ n3478, ∃ c3479, m6_L5 N x2929 n2931 c2932 n n3478 c3479 = some o3562 ∧ s = ⟨[], [(0, .dead), (1, .dead), (2, .dead), (3, .v (.int .i64 x2929)), (4, .v (.lst false n2931 c2932)), (5, .dead), (6, .dead), (7, .dead), (8, .dead), (9, .dead), (10, .dead), (11, .dead), (13, .dead), (15, .dead), (16, .sl false 0 0 n3478 1), (17, .dead), (18, .dead), (19, .dead), (38, .dead), (41, .dead), (42, .dead), (43, .dead), (44, .dead), (48, .dead), (49, .dead), (50, .dead), (51, .dead), (74, .dead), (75, .dead), (76, .dead), (77, .dead), (78, .dead), (86, .dead), (96, .dead), (97, .dead), (98, .dead), (99, .dead), (107, .dead), (114, .dead), (128, .dead)], [(0, .p c3479)], 1, []⟩) N _ ((Wk_le (.r (.r (.r (.r (.r (.r (.r (.r (.r (.r (.r (.r (.r (.r (.r (.r (.r (.r (.r (.r (.r (.r (.r (.r (.r (.r (.r (.r (.r (.r (.r (.r (.r (.r (.r (.r (.r (.r (.r (.r .nil)))))))))))))))))))))))))))))))))))))))) (OLe.refl _)).trans (cmpS_ok (st' := ⟨[], [(0, .dead), (1, .dead), (2, .dead), (3, .v (.int .i64 x2929)), (4, .v (.lst false n2931 c2932)), (5, .dead), (6, .dead), (7, .dead), (8, .dead), (9, .dead), (10, .dead), (11, .dead), (13, .dead), (15, .dead), (16, .sl false 0 0 n3206 1), (17, .dead), (18, .dead), (19, .dead), (38, .dead), (41, .dead), (42, .dead), (43, .dead), (44, .dead), (48, .dead), (49, .dead), (50, .dead), (51, .dead), (74, .dead), (75, .dead), (76, .dead), (77, .dead), (78, .dead), (86, .dead), (96, .dead), (97, .dead), (98, .dead), (99, .dead), (107, .dead), (114, .dead), (128, .dead)], [(0, .p c3207)], 1, []⟩) (by kernel_rfl))) ⟨_, _, h3563, rfl⟩ ?_
            clear h3563
            rintro n _ ⟨n3478, c3479, h3563, rfl⟩
            cases n with
            | zero => cases h3563
            | succ n =>
              rw [m6_L5] at h3563
              have hh := brn_some h3563; clear h3563; rcases hh with ⟨h3480, h3563⟩ | ⟨h3480, h3563⟩
              · have hh := bnd'_some h3563; clear h3563; obtain ⟨⟨p3481, c3483⟩, h3482, h3563⟩ := hh
                (try dsimp only at h3563)
                refine W_sound tab_ok mixed 15 _ _ _ ?_
                simp -implicitDefEqProofs only [go_sem, qa, qb, qc, qd, qe, qf, qg, qh, qi, qj, qk, ↓reduceIte, h2915, h2925, h2928, h2930, h2935, h2938, h2941, h2943, h2944, g2945, g2946, g2947, h3480]
                repeat with_reducible refine ⟨by first | kernel_rfl | decide, ?_⟩
                refine Wp_callD [0] (c19_2 N _ _ _ _ _ h3482) rfl rfl rfl (by first | rfl | (simp only [go_sem, qa, qb, qc, qd, qe, qf, qg, qh, qi, qj, qk, ↓reduceIte, h2915, h2925, h2928, h2930, h2935, h2938, h2941, h2943, h2944, g2945, g2946, g2947, h3480] <;> rfl)) rfl (by kernel_rfl) ?_
                have hh := getT2_some h3563; clear h3563; obtain ⟨p3485, p3486, h3484, h3563⟩ := hh
                have hh := getL_some h3563; clear h3563; obtain ⟨n3488, c3489, h3487, h3563⟩ := hh
                have hh := getI_some h3563; clear h3563; obtain ⟨x3491, h3490, h3563⟩ := hh
                have hh := brn_some h3563; clear h3563; rcases hh with ⟨h3492, h3563⟩ | ⟨h3492, h3563⟩
                · refine W_sound tab_ok mixed 25 _ _ _ ?_
                  simp -implicitDefEqProofs only [go_sem, qa, qb, qc, qd, qe, qf, qg, qh, qi, qj, qk, ↓reduceIte, h2915, h2925, h2928, h2930, h2935, h2938, h2941, h2943, h2944, g2945, g2946, g2947, h3480, h3484, h3487, h3490, h3492]
                  repeat with_reducible refine ⟨by first | kernel_rfl | decide, ?_⟩
                  obtain rfl := Option.some.inj h3563
                  (try dsimp only at h3564)
                  obtain rfl := Option.some.inj h3564
                  exact finC [(2, .v (.bool false))] [(2, .v (.bool false))] (by simp [leE, lk_cons]) (.cons _ _ _ _ _ (.v _ _ (.refl _)) .nil) (by rfl) (by simp [leE, lk_cons]) (by decide) (by decide) rfl (by simp only [go_sem, qa, qb, qc, qd, qe, qf, qg, qh, qi, qj, qk, ↓reduceIte, resQ_tmp, resQ_cell, resQ_nil, retD_one, retD_two, retD_three, retD_none]; try simp [R.val, retD_one, retD_two, retD_three, retD_none])
                · have hh := brn_some h3563; clear h3563; rcases hh with ⟨h3493, h3563⟩ | ⟨h3493, h3563⟩
                  · refine W_sound tab_ok mixed 25 _ _ _ ?_
                    simp -implicitDefEqProofs only [go_sem, qa, qb, qc, qd, qe, qf, qg, qh, qi, qj, qk, ↓reduceIte, h2915, h2925, h2928, h2930, h2935, h2938, h2941, h2943, h2944, g2945, g2946, g2947, h3480, h3484, h3487, h3490, h3492, h3493]
                    repeat with_reducible refine ⟨by first | kernel_rfl | decide, ?_⟩
                    obtain rfl := Option.some.inj h3563
                    (try dsimp only at h3564)
                    obtain rfl := Option.some.inj h3564
                    exact finC [(2, .v (.bool false))] [(2, .v (.bool false))] (by simp [leE, lk_cons]) (.cons _ _ _ _ _ (.v _ _ (.refl _)) .nil) (by rfl) (by simp [leE, lk_cons]) (by decide) (by decide) rfl (by simp only [go_sem, qa, qb, qc, qd, qe, qf, qg, qh, qi, qj, qk, ↓reduceIte, resQ_tmp, resQ_cell, resQ_nil, retD_one, retD_two, retD_three, retD_none]; try simp [R.val, retD_one, retD_two, retD_three, retD_none])
                  · have hh := grd_some h3563; clear h3563; obtain ⟨g3494, h3563⟩ := hh
                    have hh := grd_some h3563; clear h3563; obtain ⟨g3495, h3563⟩ := hh
                    refine W_sound tab_ok mixed 28 _ _ _ ?_
                    simp -implicitDefEqProofs only [go_sem, qa, qb, qc, qd, qe, qf, qg, qh, qi, qj, qk, ↓reduceIte, h2915, h2925, h2928, h2930, h2935, h2938, h2941, h2943, h2944, g2945, g2946, g2947, h3480, h3484, h3487, h3490, h3492, h3493, g3494, g3495]
                    repeat with_reducible refine ⟨by first | kernel_rfl | decide, ?_⟩
                    exact cutQ _ ((Wk_le (.r (.r (.r (.r (.r (.r (.r (.r (.r (.r (.r (.r (.r (.r (.r (.k (.k (.r (.r (.r (.r (.r (.r (.r (.r (.r (.r (.r (.r (.r (.r (.r (.r (.r (.r (.r (.r (.r (.k (.k .nil)))))))))))))))))))))))))))))))))))))))) (OLe.refl _)).trans (cmpS_ok (st' := ⟨[], [(0, .dead), (1, .dead), (2, .dead), (3, .v (.int .i64 x2929)), (4, .v (.lst false n2931 c2932)), (5, .dead), (6, .dead), (7, .dead), (8, .dead), (9, .dead), (10, .dead), (11, .dead), (13, .dead), (15, .dead), (16, .sl false 0 0 (n3478 + 1) 1), (17, .dead), (18, .dead), (19, .dead), (38, .dead), (41, .dead), (42, .dead), (43, .dead), (44, .dead), (48, .dead), (49, .dead), (50, .dead), (51, .dead), (74, .dead), (75, .dead), (76, .dead), (77, .dead), (78, .dead), (86, .dead), (96, .dead), (97, .dead), (98, .dead), (99, .dead), (107, .dead), (114, .dead), (128, .dead)], [(0, .p (c3483 ++ [(.lst false n3488 c3489)]))], 1, []⟩) (by kernel_rfl))) ⟨n, Nat.lt_succ_self n, _, _, h3563, rfl⟩
              · refine W_sound tab_ok mixed 10 _ _ _ ?_
                simp -implicitDefEqProofs only [go_sem, qa, qb, qc, qd, qe, qf, qg, qh, qi, qj, qk, ↓reduceIte, h2915, h2925, h2928, h2930, h2935, h2938, h2941, h2943, h2944, g2945, g2946, g2947, h3480]
                repeat with_reducible refine ⟨by first | kernel_rfl | decide, ?_⟩
                obtain rfl := Option.some.inj h3563
                exact cutQ _ ((Wk_le (.r (.r (.r (.r (.r (.r (.r (.r (.r (.r (.r (.r (.r (.r (.r (.r (.r (.r (.r (.r (.r (.r (.r (.r (.r (.r (.r (.r (.r (.r (.r (.r (.r (.r (.r (.r (.r (.r (.k (.r .nil)))))))))))))))))))))))))))))))))))))))) (OLe.refl _)).trans (cmpS_ok (st' := ⟨[], [(0, .dead), (1, .dead), (2, .dead), (3, .v (.int .i64 x2929)), (4, .v (.lst false n2931 c2932)), (5, .dead), (6, .dead), (7, .dead), (8, .dead), (9, .dead), (10, .dead), (11, .dead), (13, .dead), (15, .dead), (16, .sl false 0 0 n3478 1), (17, .dead), (18, .dead), (19, .dead), (38, .dead), (41, .dead), (42, .dead), (43, .dead), (44, .dead), (48, .dead), (49, .dead), (50, .dead), (51, .dead), (74, .dead), (75, .dead), (76, .dead), (77, .dead), (78, .dead), (86, .dead), (96, .dead), (97, .dead), (98, .dead), (99, .dead), (107, .dead), (114, .dead), (128, .dead)], [(0, .p c3479)], 1, []⟩) (by kernel_rfl))) ⟨_, _, rfl, rfl⟩
          · rintro _ ⟨n3497, c3498, rfl, rfl⟩
            (try dsimp only at h3564)
            have hh := bnd'_some h3564; clear h3564; obtain ⟨p3521, h3522, h3564⟩ := hh
            refine W_sound tab_ok mixed 4 _ _ _ ?_
            simp -implicitDefEqProofs only [go_sem, qa, qb, qc, qd, qe, qf, qg, qh, qi, qj, qk, ↓reduceIte, h2915, h2925, h2928, h2930, h2935, h2938, h2941, h2943, h2944, g2945, g2946, g2947]
            repeat with_reducible refine ⟨by first | kernel_rfl | decide, ?_⟩
            refine Wp_callP (c29 N _ _ _ h3522) (by kernel_rfl) rfl rfl rfl rfl (by decide) ?_
            have hh := getT2_some h3564; clear h3564; obtain ⟨p3524, p3525, h3523, h3564⟩ := hh
            have hh := getL_some h3564; clear h3564; obtain ⟨n3527, c3528, h3526, h3564⟩ := hh
            have hh := getI_some h3564; clear h3564; obtain ⟨x3530, h3529, h3564⟩ := hh
            refine W_sound tab_ok mixed 7 _ _ _ ?_
            simp -implicitDefEqProofs only [go_sem, qa, qb, qc, qd, qe, qf, qg, qh, qi, qj, qk, ↓reduceIte, h2915, h2925, h2928, h2930, h2935, h2938, h2941, h2943, h2944, g2945, g2946, g2947, h3523, h3526, h3529]
            repeat with_reducible refine ⟨by first | kernel_rfl | decide, ?_⟩
            have hh := grd_some h3564; clear h3564; obtain ⟨g3531, h3564⟩ := hh
            refine Wp_wkK (Wk_freeze 0 c3498 (by rfl) (by decide) (by decide)) rfl ?_
            simp -implicitDefEqProofs only [go_sem, qa, qb, qc, qd, qe, qf, qg, qh, qi, qj, qk, ↓reduceIte, h2915, h2925, h2928, h2930, h2935, h2938, h2941, h2943, h2944, g2945, g2946, g2947, h3523, h3526, h3529, g3531]
            have hh := brn_some h3564; clear h3564; rcases hh with ⟨h3532, h3564⟩ | ⟨h3532, h3564⟩
            · have hh := bnd'_some h3564; clear h3564; obtain ⟨p3533, h3534, h3564⟩ := hh
              refine W_sound tab_ok mixed 6 _ _ _ ?_
              simp -implicitDefEqProofs only [go_sem, qa, qb, qc, qd, qe, qf, qg, qh, qi, qj, qk, ↓reduceIte, h2915, h2925, h2928, h2930, h2935, h2938, h2941, h2943, h2944, g2945, g2946, g2947, h3523, h3526, h3529, g3531, h3532]
              repeat with_reducible refine ⟨by first | kernel_rfl | decide, ?_⟩
              refine Wp_callP (c40 N _ _ _ h3534) (by kernel_rfl) rfl rfl rfl rfl (by decide) ?_
              have hh := getB_some h3564; clear h3564; obtain ⟨b3536, h3535, h3564⟩ := hh
              have hh := brn_some h3564; clear h3564; rcases hh with ⟨h3537, h3564⟩ | ⟨h3537, h3564⟩
              · have hh := bnd'_some h3564; clear h3564; obtain ⟨p3538, h3539, h3564⟩ := hh
                refine W_sound tab_ok mixed 4 _ _ _ ?_
                simp -implicitDefEqProofs only [go_sem, qa, qb, qc, qd, qe, qf, qg, qh, qi, qj, qk, ↓reduceIte, h2915, h2925, h2928, h2930, h2935, h2938, h2941, h2943, h2944, g2945, g2946, g2947, h3523, h3526, h3529, g3531, h3532, h3535, h3537]
                repeat with_reducible refine ⟨by first | kernel_rfl | decide, ?_⟩
                refine Wp_callP (c21 N _ _ _ h3539) (by kernel_rfl) rfl rfl rfl rfl (by decide) ?_
                have hh := getB_some h3564; clear h3564; obtain ⟨b3541, h3540, h3564⟩ := hh
                have hh := brn_some h3564; clear h3564; rcases hh with ⟨h3542, h3564⟩ | ⟨h3542, h3564⟩
                · have hh := bnd'_some h3564; clear h3564; obtain ⟨p3543, h3544, h3564⟩ := hh
                  refine W_sound tab_ok mixed 2 _ _ _ ?_
                  simp -implicitDefEqProofs only [go_sem, qa, qb, qc, qd, qe, qf, qg, qh, qi, qj, qk, ↓reduceIte, h2915, h2925, h2928, h2930, h2935, h2938, h2941, h2943, h2944, g2945, g2946, g2947, h3523, h3526, h3529, g3531, h3532, h3535, h3537, h3540, h3542]
                  repeat with_reducible refine ⟨by first | kernel_rfl | decide, ?_⟩
                  refine Wp_callP (c16 N  _ h3544) (by kernel_rfl) rfl rfl rfl rfl (by decide) ?_
                  have hh := getB_some h3564; clear h3564; obtain ⟨b3546, h3545, h3564⟩ := hh
                  refine W_sound tab_ok mixed 5 _ _ _ ?_
                  simp -implicitDefEqProofs only [go_sem, qa, qb, qc, qd, qe, qf, qg, qh, qi, qj, qk, ↓reduceIte, h2915, h2925, h2928, h2930, h2935, h2938, h2941, h2943, h2944, g2945, g2946, g2947, h3523, h3526, h3529, g3531, h3532, h3535, h3537, h3540, h3542, h3545]
                  repeat with_reducible refine ⟨by first | kernel_rfl | decide, ?_⟩
                  obtain rfl := Option.some.inj h3564
                  exact finC [(2, .v (.bool b3546))] [(2, .v (.bool b3546))] (by simp [leE, lk_cons]) (.cons _ _ _ _ _ (.v _ _ (.refl _)) .nil) (by rfl) (by simp [leE, lk_cons]) (by decide) (by decide) rfl (by simp only [go_sem, qa, qb, qc, qd, qe, qf, qg, qh, qi, qj, qk, ↓reduceIte, resQ_tmp, resQ_cell, resQ_nil, retD_one, retD_two, retD_three, retD_none]; try simp [R.val, retD_one, retD_two, retD_three, retD_none])
                · refine W_sound tab_ok mixed 8 _ _ _ ?_
                  simp -implicitDefEqProofs only [go_sem, qa, qb, qc, qd, qe, qf, qg, qh, qi, qj, qk, ↓reduceIte, h2915, h2925, h2928, h2930, h2935, h2938, h2941, h2943, h2944, g2945, g2946, g2947, h3523, h3526, h3529, g3531, h3532, h3535, h3537, h3540, h3542]
                  repeat with_reducible refine ⟨by first | kernel_rfl | decide, ?_⟩
                  obtain rfl := Option.some.inj h3564
                  exact finC [(2, .v (.bool false))] [(2, .v (.bool false))] (by simp [leE, lk_cons]) (.cons _ _ _ _ _ (.v _ _ (.refl _)) .nil) (by rfl) (by simp [leE, lk_cons]) (by decide) (by decide) rfl (by simp only [go_sem, qa, qb, qc, qd, qe, qf, qg, qh, qi, qj, qk, ↓reduceIte, resQ_tmp, resQ_cell, resQ_nil, retD_one, retD_two, retD_three, retD_none]; try simp [R.val, retD_one, retD_two, retD_three, retD_none])
              · refine W_sound tab_ok mixed 13 _ _ _ ?_
                simp -implicitDefEqProofs only [go_sem, qa, qb, qc, qd, qe, qf, qg, qh, qi, qj, qk, ↓reduceIte, h2915, h2925, h2928, h2930, h2935, h2938, h2941, h2943, h2944, g2945, g2946, g2947, h3523, h3526, h3529, g3531, h3532, h3535, h3537]
                repeat with_reducible refine ⟨by first | kernel_rfl | decide, ?_⟩
                obtain rfl := Option.some.inj h3564
                exact finC [(2, .v (.bool false))] [(2, .v (.bool false))] (by simp [leE, lk_cons]) (.cons _ _ _ _ _ (.v _ _ (.refl _)) .nil) (by rfl) (by simp [leE, lk_cons]) (by decide) (by decide) rfl (by simp only [go_sem, qa, qb, qc, qd, qe, qf, qg, qh, qi, qj, qk, ↓reduceIte, resQ_tmp, resQ_cell, resQ_nil, retD_one, retD_two, retD_three, retD_none]; try simp [R.val, retD_one, retD_two, retD_three, retD_none])
            · refine W_sound tab_ok mixed 20 _ _ _ ?_
              simp -implicitDefEqProofs only [go_sem, qa, qb, qc, qd, qe, qf, qg, qh, qi, qj, qk, ↓reduceIte, h2915, h2925, h2928, h2930, h2935, h2938, h2941, h2943, h2944, g2945, g2946, g2947, h3523, h3526, h3529, g3531, h3532]
              repeat with_reducible refine ⟨by first | kernel_rfl | decide, ?_⟩
              obtain rfl := Option.some.inj h3564
              exact finC [(2, .v (.bool false))] [(2, .v (.bool false))] (by simp [leE, lk_cons]) (.cons _ _ _ _ _ (.v _ _ (.refl _)) .nil) (by rfl) (by simp [leE, lk_cons]) (by decide) (by decide) rfl (by simp only [go_sem, qa, qb, qc, qd, qe, qf, qg, qh, qi, qj, qk, ↓reduceIte, resQ_tmp, resQ_cell, resQ_nil, retD_one, retD_two, retD_three, retD_none]; try simp [R.val, retD_one, retD_two, retD_three, retD_none])
end Go.Proofs.YtcaecfofgdogbaaDoor
namespace Go.Proofs.YtcaecfofgdogbaaDoor
open Go.V
set_option linter.unusedSectionVars false
theorem brn_t {α : Type} {b : Bool} {x y : Option α} (h : b = true) : brn b x y = x := by subst h; rfl
theorem brn_f {α : Type} {b : Bool} {x y : Option α} (h : b = false) : brn b x y = y := by subst h; rfl
theorem grd_t {α : Type} {p : Prop} [Decidable p] {k : Option α} (h : p) : grd p k = k := by simp [grd, h]
theorem brn_dt {α : Type} {p : Prop} [Decidable p] {x y : Option α} (h : p) : brn (decide p) x y = x := brn_t (decide_eq_true h)
theorem brn_df {α : Type} {p : Prop} [Decidable p] {x y : Option α} (h : ¬ p) : brn (decide p) x y = y := brn_f (decide_eq_false h)
theorem brn_et {α : Type} {a b : Int} {x y : Option α} (h : a = b) : brn (a == b) x y = x := brn_t (by simpa using h)
theorem brn_ef {α : Type} {a b : Int} {x y : Option α} (h : a ≠ b) : brn (a == b) x y = y := brn_f (by simpa using h)
theorem brn_nt {α : Type} {a b : Int} {x y : Option α} (h : a ≠ b) : brn (a != b) x y = x := brn_t (by simpa using h)
theorem brn_nf {α : Type} {a b : Int} {x y : Option α} (h : a = b) : brn (a != b) x y = y := brn_f (by simpa using h)
theorem bnd_t {α β : Type} {x : α} {f : α → Option β} : bnd' (some x) f = f x := rfl
theorem getI_t {α : Type} {k : IntKind} {x : Int} {f : Int → Option α} : getI k (.int k x) f = f x := by simp [getI]
theorem getB_t {α : Type} {b : Bool} {f : Bool → Option α} : getB (.bool b) f = f b := rfl
theorem getL_t {α : Type} {n : Nat} {c : List PV} {f : Nat → List PV → Option α} : getL (.lst false n c) f = f n c := rfl
theorem getT2_t {α : Type} {a b : PV} {f : PV → PV → Option α} : getT2 (.tup [a, b]) f = f a b := rfl
theorem getT0_t {α : Type} {k : Option α} : getT0 (.tup []) k = k := rfl
theorem wrapN {n : Nat} (h : n ≤ 100000) : IntKind.i64.wrap ((n : Int) + 1) = ((n + 1 : Nat) : Int) := by
  rw [wrap64 (by omega) (by omega)]; omega
theorem toNatN (n : Nat) : Int.toNat (n : Int) = n := by omega
theorem range'_step {i n : Nat} (h : i < n) : List.range' i (n - i) = i :: List.range' (i + 1) (n - (i + 1)) := by
  rw [show n - i = (n - (i + 1)) + 1 by omega, List.range'_succ]
def iL (X : List Int) : List PV := X.map (PV.int .i64)
theorem iL_len (X : List Int) : (iL X).length = X.length := by simp [iL]
def en (X : List Int) (i : Nat) : Int := X.getD i 0
theorem iL_gp {X : List Int} {i : Nat} (h : i < X.length) : gp (iL X) i = .int .i64 (en X i) := by
  simp [iL, gp, en, List.getD, h]
theorem iL_set (w : List Int) (j : Nat) (x : Int) : (iL w).set j (.int .i64 x) = iL (w.set j x) := by simp [iL, List.map_set]
theorem iL_app (X : List Int) (x : Int) : iL X ++ [.int .i64 x] = iL (X ++ [x]) := by simp [iL]
theorem iL_take (X : List Int) (n : Nat) : (iL X).take n = iL (X.take n) := by simp [iL]
def rwP (r : List Int) : PV := .lst false r.length (iL r)
def rwsP (L : List (List Int)) : List PV := L.map rwP
theorem rws_len (L : List (List Int)) : (rwsP L).length = L.length := by simp [rwsP]
def ro (L : List (List Int)) (i : Nat) : List Int := L.getD i []
theorem rws_gp {L : List (List Int)} {i : Nat} (h : i < L.length) : gp (rwsP L) i = .lst false (ro L i).length (iL (ro L i)) := by
  simp [rwsP, gp, ro, rwP, List.getD, h]
theorem rws_app (L : List (List Int)) (r : List Int) : rwsP L ++ [rwP r] = rwsP (L ++ [r]) := by simp [rwsP]
theorem rws_take (L : List (List Int)) (n : Nat) : (rwsP L).take n = rwsP (L.take n) := by simp [rwsP]
theorem ro_mem {L : List (List Int)} {i : Nat} (h : i < L.length) : ro L i ∈ L := by
  simp [ro, List.getD, h]
theorem drop_ro {L : List (List Int)} {i : Nat} (h : i < L.length) : L.drop i = ro L i :: L.drop (i + 1) := by
  rw [List.drop_eq_getElem_cons h]; simp [ro, List.getD, h]
theorem drop_en {L : List Int} {i : Nat} (h : i < L.length) : L.drop i = en L i :: L.drop (i + 1) := by
  rw [List.drop_eq_getElem_cons h]; simp [en, List.getD, h]
theorem take_en {L : List Int} {i : Nat} (h : i < L.length) : L.take (i + 1) = L.take i ++ [en L i] := by
  rw [List.take_succ_eq_append_getElem h]; simp [en, List.getD, h]
theorem take_ro {L : List (List Int)} {i : Nat} (h : i < L.length) : L.take (i + 1) = L.take i ++ [ro L i] := by
  rw [List.take_succ_eq_append_getElem h]; simp [ro, List.getD, h]
theorem en_set {w : List Int} {j k : Nat} {x : Int} (hj : j < w.length) : en (w.set j x) k = if k = j then x else en w k := by
  unfold en
  by_cases h : k = j
  · subst h; simp [List.getD, hj]
  · rw [if_neg h]; simp [List.getD, List.getElem?_set_ne (Ne.symm h)]
theorem gI_n {α : Type} {X : List Int} {i : Nat} {f : Int → Option α} (h : i < X.length) : getI .i64 (gp (iL X) (Int.toNat (i : Int))) f = f (en X i) := by
  rw [toNatN, iL_gp h, getI_t]
theorem gL_n {α : Type} {L : List (List Int)} {i : Nat} {f : Nat → List PV → Option α} (h : i < L.length) : getL (gp (rwsP L) (Int.toNat (i : Int))) f = f (ro L i).length (iL (ro L i)) := by
  rw [toNatN, rws_gp h, getL_t]
theorem isame_L (N : Nat) (X : List Int) (hX : X.length ≤ 1000) : ∀ (s i fuel : Nat), X.length - i = s → s < fuel →
    m22_L0 N X.length (iL X) X.length (iL X) fuel (i : Int) = some (.inr ())
  | s, i, 0, _, h => by omega
  | s, i, f + 1, hs, hf => by
    rw [m22_L0]
    by_cases hi : i < X.length
    · have ih := isame_L N X hX (s - 1) (i + 1) f (by omega) (by omega)
      rw [brn_dt (by omega)]
      simp (disch := (try simp only [List.length_drop, iL_len, rws_len, toNatN]) <;> omega) only [↓grd_t, ↓gI_n]
      rw [brn_nf rfl, wrapN (by omega), ih]
    · rw [brn_df (by omega)]
theorem isame_ok (N : Nat) (hN : 2000 ≤ N) (X : List Int) (hX : X.length ≤ 1000) : m22 N (.lst false X.length (iL X)) (.lst false X.length (iL X)) = some (.bool true) := by
  have := isame_L N X hX X.length 0 N (by omega) (by omega)
  rw [m22, getL_t, getL_t, brn_nf rfl, show m22_L0 N X.length (iL X) X.length (iL X) N 0 = _ from this]
  rfl
theorem lsame_L (N : Nat) (hN : 2000 ≤ N) (L : List (List Int)) (hX : L.length ≤ 1000) (hr : ∀ r ∈ L, r.length ≤ 1000) : ∀ (s i fuel : Nat), L.length - i = s → s < fuel →
    m21_L0 N L.length (rwsP L) L.length (rwsP L) fuel (i : Int) = some (.inr ())
  | s, i, 0, _, h => by omega
  | s, i, f + 1, hs, hf => by
    rw [m21_L0]
    by_cases hi : i < L.length
    · have ih := lsame_L N hN L hX hr (s - 1) (i + 1) f (by omega) (by omega)
      rw [brn_dt (by omega)]
      simp (disch := (try simp only [List.length_drop, iL_len, rws_len, toNatN]) <;> omega) only [↓grd_t, ↓gL_n]
      rw [isame_ok N hN _ (hr _ (ro_mem hi)), bnd_t, getB_t, brn_t rfl, wrapN (by omega), ih]
    · rw [brn_df (by omega)]
theorem lsame_ok (N : Nat) (hN : 2000 ≤ N) (L : List (List Int)) (hX : L.length ≤ 1000) (hr : ∀ r ∈ L, r.length ≤ 1000) : m21 N (.lst false L.length (rwsP L)) (.lst false L.length (rwsP L)) = some (.bool true) := by
  have := lsame_L N hN L hX hr L.length 0 N (by omega) (by omega)
  rw [m21, getL_t, getL_t, brn_nf rfl, show m21_L0 N L.length (rwsP L) L.length (rwsP L) N 0 = _ from this]
  rfl
theorem b_or : ∀ x : Nat, x < 32 → ∀ s : Nat, s < 5 → bitsI .or .u64 (x : Int) (IntKind.u64.wrap (1 * 2 ^ (min s 64))) = ((x ||| 2 ^ s : Nat) : Int) := by decide +kernel
theorem b_un : ∀ x : Nat, x < 32 → ∀ s : Nat, s < 5 → bitsI .andNot .u64 (x : Int) (IntKind.u64.wrap (1 * 2 ^ (min s 64))) = ((x &&& (31 - 2 ^ s) : Nat) : Int) := by decide +kernel
theorem b_diff : ∀ x : Nat, x < 32 → ∀ y : Nat, y < 32 → bitsI .andNot .u64 (x : Int) (y : Int) = ((x &&& (31 - y) : Nat) : Int) := by decide +kernel
theorem b_all : ∀ n : Nat, n < 6 → IntKind.u64.wrap ((IntKind.u64.wrap (1 * 2 ^ (min n 64))) - 1) = ((2 ^ n - 1 : Nat) : Int) := by decide +kernel
theorem b_tst : ∀ x : Nat, x < 32 → ∀ s : Nat, s < 5 → (bitsI .and .u64 (Int.fdiv (x : Int) (2 ^ (min s 64))) 1 == 1) = x.testBit s := by decide +kernel
theorem b_rest : ∀ x : Nat, x < 32 → x ≠ 0 → bitsI .and .u64 (x : Int) (IntKind.u64.wrap ((x : Int) - 1)) = ((x &&& (x - 1) : Nat) : Int) := by decide +kernel
def bits (x : Nat) : List Nat := (List.range 5).filter fun s => x.testBit s
def low (x : Nat) : Nat := (bits x).headD 0
theorem bits_step : ∀ x : Nat, x < 32 → x ≠ 0 → bits x = low x :: bits (x &&& (x - 1)) ∧ x &&& (x - 1) < x ∧ low x < 5 := by decide +kernel
theorem bits_zero : bits 0 = [] := by decide
theorem tz_ok (N : Nat) : ∀ x : Nat, x < 32 → x ≠ 0 → m87 N (x : Int) = some (.int .i64 (low x : Int)) := by
  have h : ∀ x : Nat, x < 32 → x ≠ 0 → (match m96 0 (x : Int) with | some (.int k y) => decide (k = .i64) && decide (y = (low x : Int)) | _ => false) = true := by decide +kernel
  intro x hx h0
  have h1 := h x hx h0
  rw [m87, show m96 N (x : Int) = m96 0 (x : Int) from rfl]
  split at h1
  · rename_i k y e
    simp only [Bool.and_eq_true, decide_eq_true_eq] at h1
    rw [e, h1.1, h1.2, bnd_t, getI_t]
  · cases h1
theorem or_lt : ∀ x : Nat, x < 32 → ∀ s : Nat, s < 5 → x ||| 2 ^ s < 32 := by decide +kernel
theorem un_lt : ∀ x : Nat, x < 32 → ∀ s : Nat, s < 5 → x &&& (31 - 2 ^ s) < 32 := by decide +kernel
theorem diff_lt : ∀ x : Nat, x < 32 → ∀ y : Nat, y < 32 → x &&& (31 - y) < 32 := by decide +kernel
theorem un_or : ∀ x : Nat, x < 32 → ∀ s : Nat, s < 5 → x.testBit s = false → (x ||| 2 ^ s) &&& (31 - 2 ^ s) = x := by decide +kernel
theorem mem_bits {x s : Nat} : s ∈ bits x ↔ s < 5 ∧ x.testBit s = true := by simp [bits]
theorem tst_or : ∀ x : Nat, x < 32 → ∀ s : Nat, s < 5 → ∀ t : Nat, t < 5 → (x ||| 2 ^ s).testBit t = (x.testBit t || decide (t = s)) := by decide +kernel
theorem tst_diff : ∀ x : Nat, x < 32 → ∀ y : Nat, y < 32 → ∀ t : Nat, t < 5 → (x &&& (31 - y)).testBit t = (x.testBit t && !y.testBit t) := by decide +kernel
theorem tst_all : ∀ n : Nat, n < 6 → ∀ t : Nat, t < 5 → (2 ^ n - 1).testBit t = decide (t < n) := by decide +kernel
def uL (X : List Nat) : List PV := X.map fun (b : Nat) => PV.int .u64 (b : Int)
def bn (X : List Nat) (i : Nat) : Nat := X.getD i 0
def tblP (n : Nat) (A : List Int) (B D : List Nat) : List PV := .int .i64 (n : Int) :: (iL A ++ (uL B ++ uL D))
structure Tb (A : List Int) (B D : List Nat) : Prop where
  la : A.length = 25
  lb : B.length = 5
  ld : D.length = 5
  b32 : ∀ i, i < 5 → bn B i < 32
  d32 : ∀ i, i < 5 → bn D i < 32
theorem uL_len (X : List Nat) : (uL X).length = X.length := by simp [uL]
theorem bn_set {w : List Nat} {j k : Nat} {x : Nat} (hj : j < w.length) : bn (w.set j x) k = if k = j then x else bn w k := by
  unfold bn
  by_cases h : k = j
  · subst h; simp [List.getD, hj]
  · rw [if_neg h]; simp [List.getD, List.getElem?_set_ne (Ne.symm h)]
theorem tbl_len {n : Nat} {A : List Int} {B D : List Nat} (h : Tb A B D) : (tblP n A B D).length = 36 := by
  have := h.la; have := h.lb; have := h.ld
  simp only [tblP, List.length_cons, List.length_append, iL_len, uL_len]; omega
theorem gp_cons {p : PV} {l : List PV} {i : Nat} : gp (p :: l) (i + 1) = gp l i := by simp [gp]
theorem gp_left {l m : List PV} {i : Nat} (h : i < l.length) : gp (l ++ m) i = gp l i := by simp [gp, List.getD, List.getElem?_append_left h]
theorem gp_right {l m : List PV} {i j : Nat} (h : i = l.length + j) : gp (l ++ m) i = gp m j := by
  subst h; simp [gp, List.getD, List.getElem?_append_right]
theorem uL_gp {X : List Nat} {i : Nat} (h : i < X.length) : gp (uL X) i = .int .u64 (bn X i : Int) := by
  simp [uL, gp, bn, List.getD, h]
theorem gp_0 {n : Nat} {A : List Int} {B D : List Nat} : gp (tblP n A B D) 0 = .int .i64 (n : Int) := rfl
theorem gp_a {n : Nat} {A : List Int} {B D : List Nat} (h : Tb A B D) {j : Nat} (hj : j < 25) : gp (tblP n A B D) (1 + j) = .int .i64 (en A j) := by
  have := h.la
  rw [Nat.add_comm, tblP, gp_cons, gp_left (by rw [iL_len]; omega), iL_gp (by omega)]
theorem gp_b {n : Nat} {A : List Int} {B D : List Nat} (h : Tb A B D) {i : Nat} (hi : i < 5) : gp (tblP n A B D) (26 + i) = .int .u64 (bn B i : Int) := by
  have := h.la; have := h.lb
  rw [show 26 + i = (25 + i) + 1 by omega, tblP, gp_cons, gp_right (j := i) (by rw [iL_len]; omega), gp_left (by rw [uL_len]; omega), uL_gp (by omega)]
theorem gp_d {n : Nat} {A : List Int} {B D : List Nat} (h : Tb A B D) {i : Nat} (hi : i < 5) : gp (tblP n A B D) (31 + i) = .int .u64 (bn D i : Int) := by
  have := h.la; have := h.lb; have := h.ld
  rw [show 31 + i = (30 + i) + 1 by omega, tblP, gp_cons, gp_right (j := 5 + i) (by rw [iL_len]; omega), gp_right (j := i) (by rw [uL_len]; omega), uL_gp (by omega)]
theorem uL_set (w : List Nat) (j : Nat) (x : Nat) : (uL w).set j (.int .u64 (x : Int)) = uL (w.set j x) := by simp [uL, List.map_set]
theorem set_a {n : Nat} {A : List Int} {B D : List Nat} (h : Tb A B D) {j : Nat} {x : Int} (hj : j < 25) : (tblP n A B D).set (1 + j) (.int .i64 x) = tblP n (A.set j x) B D := by
  have := h.la
  rw [Nat.add_comm, tblP, List.set_cons_succ, List.set_append_left _ _ (by rw [iL_len]; omega), iL_set]; rfl
theorem set_b {n : Nat} {A : List Int} {B D : List Nat} (h : Tb A B D) {i : Nat} {x : Nat} (hi : i < 5) : (tblP n A B D).set (26 + i) (.int .u64 (x : Int)) = tblP n A (B.set i x) D := by
  have := h.la; have := h.lb
  rw [show 26 + i = (25 + i) + 1 by omega, tblP, List.set_cons_succ, List.set_append_right _ _ (by rw [iL_len]; omega), iL_len, show 25 + i - A.length = i by omega, List.set_append_left _ _ (by rw [uL_len]; omega), uL_set]; rfl
theorem set_d {n : Nat} {A : List Int} {B D : List Nat} (h : Tb A B D) {i : Nat} {x : Nat} (hi : i < 5) : (tblP n A B D).set (31 + i) (.int .u64 (x : Int)) = tblP n A B (D.set i x) := by
  have := h.la; have := h.lb; have := h.ld
  rw [show 31 + i = (30 + i) + 1 by omega, tblP, List.set_cons_succ, List.set_append_right _ _ (by rw [iL_len]; omega), iL_len, List.set_append_right _ _ (by rw [uL_len]; omega), uL_len, show 30 + i - A.length - B.length = i by omega, uL_set]; rfl
def putT (T : List Int × List Nat × List Nat) (i k s : Nat) : List Int × List Nat × List Nat := (T.1.set (i * 5 + k) (s : Int), T.2.1.set i (bn T.2.1 i ||| 2 ^ s), T.2.2.set k (bn T.2.2 k ||| 2 ^ s))
theorem Tb.seta {A : List Int} {B D : List Nat} (h : Tb A B D) {j : Nat} {x : Int} : Tb (A.set j x) B D := ⟨by rw [List.length_set]; exact h.la, h.lb, h.ld, h.b32, h.d32⟩
theorem Tb.setb {A : List Int} {B D : List Nat} (h : Tb A B D) {j x : Nat} (hj : j < 5) (hx : x < 32) : Tb A (B.set j x) D := ⟨h.la, by rw [List.length_set]; exact h.lb, h.ld, fun i hi => by
  rw [bn_set (by have := h.lb; omega)]; split
  · exact hx
  · exact h.b32 i hi, h.d32⟩
theorem Tb.setd {A : List Int} {B D : List Nat} (h : Tb A B D) {j x : Nat} (hj : j < 5) (hx : x < 32) : Tb A B (D.set j x) := ⟨h.la, h.lb, by rw [List.length_set]; exact h.ld, h.b32, fun i hi => by
  rw [bn_set (by have := h.ld; omega)]; split
  · exact hx
  · exact h.d32 i hi⟩
theorem Tb.put {A : List Int} {B D : List Nat} (h : Tb A B D) {i k s : Nat} (hi : i < 5) (hk : k < 5) (hs : s < 5) : Tb (putT (A, B, D) i k s).1 (putT (A, B, D) i k s).2.1 (putT (A, B, D) i k s).2.2 :=
  (h.seta.setb hi (or_lt _ (h.b32 i hi) s hs)).setd hk (or_lt _ (h.d32 k hk) s hs)
theorem getU_t {α : Type} {x : Int} {f : Int → Option α} : getI .u64 (.int .u64 x) f = f x := by simp [getI]
theorem put_ok (N n : Nat) {A : List Int} {B D : List Nat} (h : Tb A B D) {i k s : Nat} (hi : i < 5) (hk : k < 5) (hs : s < 5) :
    m72 N (i : Int) (k : Int) (s : Int) (tblP n A B D) = some (.tup [], tblP n (putT (A, B, D) i k s).1 (putT (A, B, D) i k s).2.1 (putT (A, B, D) i k s).2.2) := by
  have hl := tbl_len (n := n) h
  have h1 : Tb (A.set (i * 5 + k) (s : Int)) B D := h.seta
  have h2 := h1.setb hi (or_lt _ (h.b32 i hi) s hs)
  rw [m72, toNatN, toNatN, toNatN, grd_t ⟨by omega, by omega⟩, grd_t ⟨by omega, by omega⟩, grd_t (by omega), grd_t (by omega), show 1 + i * 5 + k = 1 + (i * 5 + k) by omega, set_a h (by omega), gp_b h1 hi, getU_t, grd_t (by omega), grd_t (by omega), grd_t (by omega), b_or _ (h.b32 i hi) s hs, set_b h1 hi, gp_d h2 hk, getU_t, grd_t (by omega), b_or _ (h.d32 k hk) s hs, set_d h2 hk]
  rfl
theorem take_ok (N n : Nat) {A : List Int} {B D : List Nat} (h : Tb A B D) {i k s : Nat} (hi : i < 5) (hk : k < 5) (hs : s < 5) (ha : en A (i * 5 + k) = (s : Int)) :
    m90 N (i : Int) (k : Int) (tblP n A B D) = some (.tup [], tblP n (A.set (i * 5 + k) (-1)) (B.set i (bn B i &&& (31 - 2 ^ s))) (D.set k (bn D k &&& (31 - 2 ^ s)))) := by
  have hl := tbl_len (n := n) h
  have h1 : Tb (A.set (i * 5 + k) (-1)) B D := h.seta
  have h2 := h1.setb hi (un_lt _ (h.b32 i hi) s hs)
  rw [m90, toNatN, toNatN, grd_t ⟨by omega, by omega⟩, grd_t ⟨by omega, by omega⟩, grd_t (by omega), show 1 + i * 5 + k = 1 + (i * 5 + k) by omega, gp_a h (by omega), getI_t, ha, toNatN, grd_t (by omega), grd_t (by omega), set_a h (by omega), gp_b h1 hi, getU_t, grd_t (by omega), grd_t (by omega), grd_t (by omega), b_un _ (h.b32 i hi) s hs, set_b h1 hi, gp_d h2 hk, getU_t, grd_t (by omega), b_un _ (h.d32 k hk) s hs, set_d h2 hk]
theorem list_set_set {α : Type} {l : List α} {i : Nat} {x y : α} : (l.set i x).set i y = l.set i y := by simp
theorem bn_self {w : List Nat} {j : Nat} (hj : j < w.length) : w.set j (bn w j) = w := by
  apply List.ext_getElem?
  intro i
  by_cases h : i = j
  · subst h; simp [bn, List.getD, hj]
  · rw [List.getElem?_set_ne (Ne.symm h)]
theorem en_self {w : List Int} {j : Nat} (hj : j < w.length) : w.set j (en w j) = w := by
  apply List.ext_getElem?
  intro i
  by_cases h : i = j
  · subst h; simp [en, List.getD, hj]
  · rw [List.getElem?_set_ne (Ne.symm h)]
theorem put_take (N n : Nat) {A : List Int} {B D : List Nat} (h : Tb A B D) {i k s : Nat} (hi : i < 5) (hk : k < 5) (hs : s < 5) (ha : en A (i * 5 + k) = -1) (hb : (bn B i).testBit s = false) (hd : (bn D k).testBit s = false) :
    m90 N (i : Int) (k : Int) (tblP n (putT (A, B, D) i k s).1 (putT (A, B, D) i k s).2.1 (putT (A, B, D) i k s).2.2) = some (.tup [], tblP n A B D) := by
  have la := h.la; have lb := h.lb; have ld := h.ld
  rw [take_ok N n (h.put hi hk hs) hi hk hs (by show en (A.set (i * 5 + k) (s : Int)) _ = _; rw [en_set (by omega), if_pos rfl])]
  simp only [putT, list_set_set]
  rw [bn_set (by omega), if_pos rfl, bn_set (by omega), if_pos rfl, un_or _ (h.b32 i hi) s hs hb, un_or _ (h.d32 k hk) s hs hd, bn_self (by omega), bn_self (by omega), ← ha, en_self (by omega)]
def mayB (n : Nat) (b d : Nat) : Nat := ((2 ^ n - 1) &&& (31 - b)) &&& (31 - d)
theorem all_lt : ∀ n : Nat, n < 6 → 2 ^ n - 1 < 32 := by decide
theorem may_lt {n b d : Nat} (hn : n < 6) (hb : b < 32) (hd : d < 32) : mayB n b d < 32 := diff_lt _ (diff_lt _ (all_lt n hn) _ hb) _ hd
theorem may_tst {n b d t : Nat} (hn : n < 6) (hb : b < 32) (hd : d < 32) (ht : t < 5) : (mayB n b d).testBit t = (decide (t < n) && !b.testBit t && !d.testBit t) := by
  rw [mayB, tst_diff _ (diff_lt _ (all_lt n hn) _ hb) _ hd t ht, tst_diff _ (all_lt n hn) _ hb t ht, tst_all n hn t ht]
theorem may_ok (N n : Nat) (hn : n < 6) {A : List Int} {B D : List Nat} (h : Tb A B D) {i k : Nat} (hi : i < 5) (hk : k < 5) : m89 N (i : Int) (k : Int) (tblP n A B D) = some (.int .u64 (mayB n (bn B i) (bn D k) : Int)) := by
  have hl := tbl_len (n := n) h
  rw [m89, grd_t (by omega), gp_0, getI_t, toNatN, toNatN, toNatN, grd_t (by omega), grd_t ⟨by omega, by omega⟩, grd_t (by omega), gp_b h hi, getU_t, grd_t ⟨by omega, by omega⟩, grd_t (by omega), gp_d h hk, getU_t, b_all n hn, b_diff _ (all_lt n hn) _ (h.b32 i hi), b_diff _ (diff_lt _ (all_lt n hn) _ (h.b32 i hi)) _ (h.d32 k hk)]
  rfl
abbrev T3 := List Int × List Nat × List Nat
def tP (n : Nat) (T : T3) : List PV := tblP n T.1 T.2.1 T.2.2
structure Tv (T : T3) : Prop where
  tb : Tb T.1 T.2.1 T.2.2
  a1 : ∀ j, j < 25 → -1 ≤ en T.1 j
theorem Tv.put {T : T3} (h : Tv T) {i k s : Nat} (hi : i < 5) (hk : k < 5) (hs : s < 5) : Tv (putT T i k s) := ⟨h.tb.put hi hk hs, fun j hj => by
  have la := h.tb.la
  show -1 ≤ en (T.1.set (i * 5 + k) (s : Int)) j
  rw [en_set (by omega)]; split
  · omega
  · exact h.a1 j hj⟩
def cmpl (n to : Nat) : Nat → Nat → Nat → T3 → List T3
  | 0, _, _, _ => []
  | f + 1, i, k, T =>
    if i = to then [T] else if k = n then cmpl n to f (i + 1) 0 T
    else if 0 ≤ en T.1 (i * 5 + k) then cmpl n to f i (k + 1) T
    else (bits (mayB n (bn T.2.1 i) (bn T.2.2 k))).flatMap fun s => cmpl n to f i (k + 1) (putT T i k s)
def oneP (a b : Nat) (z : Bool) (A : List Int) : List PV := [.int .i64 (a : Int), .int .i64 (b : Int), .bool z] ++ iL A
theorem putP_all : ∀ (ps l m : List PV), m.length = ps.length → putP (l ++ m) l.length ps = l ++ ps
  | [], l, m, h => by
    have : m = [] := List.eq_nil_of_length_eq_zero h
    subst this; rw [putP]
  | p :: ps, l, [], h => by simp at h
  | p :: ps, l, q :: m, h => by
    rw [putP]
    have : (l ++ q :: m).set l.length p = (l ++ [p]) ++ m := by simp
    rw [this]
    have ih := putP_all ps (l ++ [p]) m (by simpa using h)
    rw [show (l ++ [p]).length = l.length + 1 by simp] at ih
    rw [ih]; simp
theorem found_ok (N n a b : Nat) (z : Bool) (A : List Int) (T : T3) (hA : A.length = 25) (hT : Tv T) : m113 N (oneP a b z A) (tP n T) = some (.bool true, oneP a b true T.1) := by
  have hl := tbl_len (n := n) hT.tb
  have la := hT.tb.la
  have e : List.take 25 (List.drop 1 (tP n T)) = iL T.1 := by
    unfold tP tblP
    rw [List.drop_succ_cons, List.drop_zero, List.take_append_of_le_length (by rw [iL_len]; omega), List.take_of_length_le (by rw [iL_len]; omega)]
  have lo : (oneP a b z A).length = 28 := by simp [oneP, iL_len, hA]
  rw [m113, grd_t (by unfold tP; omega), e, grd_t ⟨by rw [iL_len]; exact la, by omega⟩, grd_t (by omega)]
  have p := putP_all (iL T.1) [.int .i64 (a : Int), .int .i64 (b : Int), .bool z] (iL A) (by rw [iL_len, iL_len]; omega)
  rw [show oneP a b z A = [.int .i64 (a : Int), .int .i64 (b : Int), .bool z] ++ iL A from rfl, show (3 : Nat) = [PV.int .i64 (a : Int), .int .i64 (b : Int), .bool z].length from rfl, p]
  rfl
def oneR (n a b : Nat) (z : Bool) (A : List Int) (T : T3) : List T3 → PV × List PV × List PV
  | [] => (.bool false, oneP a b z A, tP n T)
  | T' :: _ => (.bool true, oneP a b true T'.1, tP n T')
theorem one_L (N n to a b : Nat) (z : Bool) (A : List Int) (rec : Int → Int → Int → List PV → List PV → Option (PV × List PV × List PV)) (T : T3) (hT : Tv T) (i k : Nat) (hi : i < 5) (hk : k < 5) (ha : en T.1 (i * 5 + k) = -1) (g : Nat → List T3)
    (hrec : ∀ s, s < 5 → rec (i : Int) ((k + 1 : Nat) : Int) (to : Int) (oneP a b z A) (tP n (putT T i k s)) = some (oneR n a b z A (putT T i k s) (g s))) :
    ∀ (X fuel : Nat), X < 32 → X < fuel → (∀ s, s ∈ bits X → (bn T.2.1 i).testBit s = false ∧ (bn T.2.2 k).testBit s = false) →
    m88_L0 N rec (i : Int) (k : Int) (to : Int) fuel (X : Int) (oneP a b z A) (tP n T) = some (match (bits X).flatMap g with | [] => .inr (oneP a b z A, tP n T) | T' :: _ => .inl (.bool true, oneP a b true T'.1, tP n T'))
  | X, 0, _, h, _ => by omega
  | X, fuel + 1, hX, hf, hs => by
    rw [m88_L0]
    by_cases h0 : X = 0
    · subst h0
      rw [brn_nf (by simp), bits_zero]; rfl
    · obtain ⟨b1, b2, b3⟩ := bits_step X hX h0
      have h1 := hs (low X) (by rw [b1]; exact .head _)
      have hr := hrec (low X) b3
      rw [brn_nt (by omega), tz_ok N X hX h0, bnd_t, getI_t]
      unfold tP at hr ⊢
      rw [put_ok N n hT.tb hi hk b3, bnd_t]
      show getT0 (.tup []) _ = _
      rw [getT0_t, wrapN (by omega)]
      rw [show (putT (T.1, T.2.1, T.2.2) i k (low X)) = putT T i k (low X) from rfl, hr, bnd_t, b1, List.flatMap_cons]
      cases hg : g (low X) with
      | cons T' l =>
        show getB (.bool true) _ = _
        rw [getB_t, brn_t rfl]; rfl
      | nil =>
        show getB (.bool false) _ = _
        rw [getB_t, brn_f rfl]
        have pt := put_take N n hT.tb hi hk b3 ha h1.1 h1.2
        rw [show (putT (T.1, T.2.1, T.2.2) i k (low X)) = putT T i k (low X) from rfl] at pt
        show bnd' (m90 N (i : Int) (k : Int) (tblP n (putT T i k (low X)).1 (putT T i k (low X)).2.1 (putT T i k (low X)).2.2)) _ = _
        rw [pt, bnd_t]
        show getT0 (.tup []) _ = _
        rw [getT0_t, b_rest X hX h0, List.nil_append]
        exact one_L N n to a b z A rec T hT i k hi hk ha g hrec (X &&& (X - 1)) fuel (by omega) (by omega) (fun s hs' => hs s (by rw [b1]; exact .tail _ hs'))
theorem one_ok (N n to a b : Nat) (hN : 2000 ≤ N) (hn : n ≤ 5) (hto : to ≤ n) (z : Bool) (A : List Int) (hA : A.length = 25) : ∀ (f fu i k : Nat) (T : T3), Tv T → f ≤ fu → (to - i) * (n + 1) + (n - k) < f → i ≤ to → k ≤ n →
    m88 N fu (i : Int) (k : Int) (to : Int) (oneP a b z A) (tP n T) = some (oneR n a b z A T (cmpl n to f i k T))
  | 0, _, _, _, _, _, _, h, _, _ => by omega
  | f + 1, 0, _, _, _, _, h, _, _, _ => by omega
  | f + 1, fu + 1, i, k, T, hT, hfu, hf, hi, hk => by
    have hl := tbl_len (n := n) hT.tb
    rw [m88]
    unfold cmpl
    by_cases h1 : i = to
    · rw [if_pos h1, brn_et (by omega), found_ok N n a b z A T hA hT, bnd_t]
      rfl
    · rw [if_neg h1]
      have hm : (to - i) * (n + 1) = (to - (i + 1)) * (n + 1) + (n + 1) := by
        rw [show to - i = (to - (i + 1)) + 1 by omega, Nat.add_mul, Nat.one_mul]
      rw [brn_ef (by omega), grd_t (by unfold tP; omega)]
      rw [show gp (tP n T) 0 = .int .i64 (n : Int) from rfl, getI_t]
      by_cases h2 : k = n
      · rw [if_pos h2]
        have ih := one_ok N n to a b hN hn hto z A hA f fu (i + 1) 0 T hT (by omega) (by omega) (by omega) (by omega)
        rw [brn_et (by omega), wrapN (by omega), show m88 N fu ((i + 1 : Nat) : Int) 0 (to : Int) (oneP a b z A) (tP n T) = _ from ih, bnd_t]
        cases cmpl n to f (i + 1) 0 T <;> rfl
      · rw [if_neg h2, brn_ef (by omega), grd_t ⟨by omega, by omega⟩, grd_t ⟨by omega, by omega⟩, toNatN, toNatN, grd_t (by unfold tP; omega), show 1 + i * 5 + k = 1 + (i * 5 + k) by omega]
        rw [show gp (tP n T) (1 + (i * 5 + k)) = .int .i64 (en T.1 (i * 5 + k)) from gp_a hT.tb (by omega), getI_t]
        by_cases h3 : 0 ≤ en T.1 (i * 5 + k)
        · rw [if_pos h3]
          have ih := one_ok N n to a b hN hn hto z A hA f fu i (k + 1) T hT (by omega) (by omega) (by omega) (by omega)
          rw [brn_dt h3, wrapN (by omega), ih, bnd_t]
          cases cmpl n to f i (k + 1) T <;> rfl
        · rw [if_neg h3]
          have ha := hT.a1 (i * 5 + k) (by omega)
          have L := one_L N n to a b z A (m88 N fu) T hT i k (by omega) (by omega) (by omega) (fun s => cmpl n to f i (k + 1) (putT T i k s))
            (fun s h5 => one_ok N n to a b hN hn hto z A hA f fu i (k + 1) (putT T i k s) (hT.put (by omega) (by omega) h5) (by omega) (by omega) (by omega) (by omega))
            (mayB n (bn T.2.1 i) (bn T.2.2 k)) N (may_lt (by omega) (hT.tb.b32 i (by omega)) (hT.tb.d32 k (by omega))) (by have := may_lt (n := n) (by omega) (hT.tb.b32 i (by omega)) (hT.tb.d32 k (by omega)); omega)
            (fun s hs => by
              obtain ⟨s5, hs⟩ := mem_bits.1 hs
              rw [may_tst (by omega) (hT.tb.b32 i (by omega)) (hT.tb.d32 k (by omega)) s5] at hs
              simp only [Bool.and_eq_true, Bool.not_eq_true', decide_eq_true_eq] at hs
              exact ⟨hs.1.2, hs.2⟩)
          rw [brn_df (by omega)]
          rw [show m89 N (i : Int) (k : Int) (tP n T) = _ from may_ok N n (by omega) hT.tb (by omega) (by omega), bnd_t, getU_t, L, bnd_t]
          cases (bits (mayB n (bn T.2.1 i) (bn T.2.2 k))).flatMap fun s => cmpl n to f i (k + 1) (putT T i k s) <;> rfl
def dayE (n : Int) (P : List (List Int)) (r : List Int) : Nat → Nat → Int
  | 0, _ => 0
  | f + 1, k => if en r k < 0 then 2 else if n ≤ en r k then 2 else if en r k ∈ r.take k then 6 else if P.any (fun q => decide (k < q.length) && (en q k == en r k)) then 13 else dayE n P r f (k + 1)
def rowE (n w : Int) (L : List (List Int)) : Nat → Nat → Int
  | 0, _ => 0
  | f + 1, i => if ((ro L i).length : Int) ≠ w then 5 else if n < w then 5 else if dayE n (L.take i) (ro L i) (ro L i).length 0 ≠ 0 then dayE n (L.take i) (ro L i) (ro L i).length 0 else rowE n w L f (i + 1)
def chkE (n w : Int) (L : List (List Int)) : Int := if n < 1 then 1 else if 5 < n then 1 else if n < (L.length : Int) then 3 else rowE n w L L.length 0
structure Rp (P : List (List Int)) (i : Nat) (r : List Int) (k : Nat) (T : T3) : Prop where
  tv : Tv T
  b : ∀ s, s < 5 → ((bn T.2.1 i).testBit s = true ↔ (s : Int) ∈ r.take k)
  bz : ∀ j, i < j → j < 5 → bn T.2.1 j = 0
  d : ∀ d s, d < 5 → s < 5 → ((bn T.2.2 d).testBit s = true ↔ (∃ q ∈ P, d < q.length ∧ en q d = (s : Int)) ∨ (d < k ∧ en r d = (s : Int)))
  a : ∀ j d, j < 5 → d < 5 → en T.1 (j * 5 + d) = if j < i then (if d < (ro P j).length then en (ro P j) d else -1) else if j = i ∧ d < k then en r d else -1
theorem Rp.put {P : List (List Int)} {i : Nat} {r : List Int} {k : Nat} {T : T3} (h : Rp P i r k T) (hi : i < 5) (hk : k < 5) (hr : k < r.length) {s : Nat} (hs : s < 5) (he : en r k = (s : Int)) : Rp P i r (k + 1) (putT T i k s) := by
  have la := h.tv.tb.la; have lb := h.tv.tb.lb; have ld := h.tv.tb.ld
  refine ⟨h.tv.put hi hk hs, fun t ht => ?_, fun j hj h5 => ?_, fun d t hd ht => ?_, fun j d hj hd => ?_⟩
  · show (bn (T.2.1.set i (bn T.2.1 i ||| 2 ^ s)) i).testBit t = true ↔ _
    rw [bn_set (by omega), if_pos rfl, tst_or _ (h.tv.tb.b32 i hi) s hs t ht, Bool.or_eq_true, h.b t ht, decide_eq_true_eq, take_en hr, List.mem_append, List.mem_singleton, he]
    constructor
    · rintro (h1 | rfl)
      · exact .inl h1
      · exact .inr rfl
    · rintro (h1 | h1)
      · exact .inl h1
      · exact .inr (by omega)
  · show bn (T.2.1.set i (bn T.2.1 i ||| 2 ^ s)) j = 0
    rw [bn_set (by omega), if_neg (by omega)]; exact h.bz j hj h5
  · show (bn (T.2.2.set k (bn T.2.2 k ||| 2 ^ s)) d).testBit t = true ↔ _
    rw [bn_set (by omega)]
    by_cases hdk : d = k
    · subst hdk
      rw [if_pos rfl, tst_or _ (h.tv.tb.d32 d hd) s hs t ht, Bool.or_eq_true, h.d d t hd ht, decide_eq_true_eq, he]
      constructor
      · rintro ((h1 | h1) | rfl)
        · exact .inl h1
        · omega
        · exact .inr ⟨by omega, rfl⟩
      · rintro (h1 | h1)
        · exact .inl (.inl h1)
        · exact .inr (by omega)
    · rw [if_neg hdk, h.d d t hd ht]
      constructor
      · rintro (h1 | h1)
        · exact .inl h1
        · exact .inr ⟨by omega, h1.2⟩
      · rintro (h1 | h1)
        · exact .inl h1
        · exact .inr ⟨by omega, h1.2⟩
  · show en (T.1.set (i * 5 + k) (s : Int)) (j * 5 + d) = _
    rw [en_set (by omega), h.a j d hj hd]
    by_cases hx : j * 5 + d = i * 5 + k
    · have : j = i ∧ d = k := by omega
      obtain ⟨rfl, rfl⟩ := this
      rw [if_pos hx, if_neg (by omega), if_pos ⟨rfl, by omega⟩, he]
    · rw [if_neg hx]
      by_cases h1 : j < i
      · rw [if_pos h1, if_pos h1]
      · rw [if_neg h1, if_neg h1]
        by_cases h2 : j = i ∧ d < k
        · rw [if_pos h2, if_pos ⟨h2.1, by omega⟩]
        · rw [if_neg h2, if_neg (by omega)]
theorem Rp.next {P : List (List Int)} {i : Nat} {r : List Int} {T : T3} (h : Rp P i r r.length T) (hi : P.length = i) (hr : r.length ≤ 5) (r' : List Int) : Rp (P ++ [r]) (i + 1) r' 0 T := by
  refine ⟨h.tv, fun s hs => ?_, fun j hj h5 => h.bz j (by omega) h5, fun d s hd hs => ?_, fun j d hj hd => ?_⟩
  · rw [List.take_zero]
    by_cases h5 : i + 1 < 5
    · rw [h.bz (i + 1) (by omega) h5]; simp
    · have : bn T.2.1 (i + 1) = 0 := by
        have := h.tv.tb.lb
        unfold bn; rw [List.getD, List.getElem?_eq_none (by omega)]; rfl
      rw [this]; simp
  · rw [h.d d s hd hs]
    constructor
    · rintro (⟨q, hq, h1⟩ | h1)
      · exact .inl ⟨q, List.mem_append_left _ hq, h1⟩
      · exact .inl ⟨r, List.mem_append_right _ (.head _), h1⟩
    · rintro (⟨q, hq, h1⟩ | h1)
      · rcases List.mem_append.1 hq with hq | hq
        · exact .inl ⟨q, hq, h1⟩
        · obtain rfl := List.mem_singleton.1 hq
          exact .inr h1
      · omega
  · rw [h.a j d hj hd]
    by_cases h1 : j < i
    · rw [if_pos h1, if_pos (show j < i + 1 by omega)]
      have : ro (P ++ [r]) j = ro P j := by simp [ro, List.getD, List.getElem?_append_left (show j < P.length by omega)]
      rw [this]
    · rw [if_neg h1]
      by_cases h2 : j = i
      · have : ro (P ++ [r]) j = r := by
          subst h2; rw [← hi]; simp [ro, List.getD]
        rw [if_pos (show j < i + 1 by omega), this]
        by_cases h3 : d < r.length
        · rw [if_pos (show j = i ∧ d < r.length from ⟨h2, h3⟩), if_pos h3]
        · rw [if_neg (show ¬ (j = i ∧ d < r.length) by omega), if_neg h3]
      · rw [if_neg (show ¬ (j = i ∧ d < r.length) by omega), if_neg (show ¬ j < i + 1 by omega), if_neg (show ¬ (j = i + 1 ∧ d < 0) by omega)]
def outR (n : Nat) (e : Int) (T : T3) : (Int ⊕ (Int × List PV)) ⊕ List PV := if e = 0 then .inr (tP n T) else .inl (.inl e)
theorem open_L1 (N n : Nat) (hn : n ≤ 5) (w : Int) (L : List (List Int)) (P : List (List Int)) (r : List Int) (i : Nat) (hi : i < 5) (hr : r.length ≤ 5) : ∀ (f k fuel : Nat) (T : T3), r.length - k = f → f < fuel → k ≤ r.length → Rp P i r k T →
    ∃ T', m61_L1 N (n : Int) w L.length (rwsP L) (i : Int) r.length (iL r) fuel (k : Int) (tP n T) = some (outR n (dayE n P r f k) T') ∧ (dayE n P r f k = 0 → Rp P i r r.length T')
  | f, k, 0, _, _, h, _, _ => by omega
  | 0, k, fuel + 1, T, hf, _, hk, hT => by
    have : k = r.length := by omega
    subst this
    refine ⟨T, ?_, fun _ => hT⟩
    rw [m61_L1, brn_df (by omega)]; rfl
  | f + 1, k, fuel + 1, T, hf, hfu, hk, hT => by
    have hl := tbl_len (n := n) hT.tv.tb
    have h1 : k < r.length := by omega
    rw [m61_L1, brn_dt (by omega), dayE]
    rw [grd_t (p := 0 ≤ (k : Int) ∧ (k : Int) < ((r.length : Nat) : Int)) ⟨by omega, by omega⟩, grd_t (p := 0 < List.length (List.drop (Int.toNat (k : Int)) (iL r))) (by rw [List.length_drop, iL_len, toNatN]; omega), gI_n h1]
    by_cases h2 : en r k < 0
    · rw [brn_dt h2, if_pos h2]; exact ⟨T, rfl, fun h => by cases h⟩
    · rw [brn_df h2, if_neg h2]
      by_cases h3 : (n : Int) ≤ en r k
      · rw [brn_dt (by omega), if_pos h3]; exact ⟨T, rfl, fun h => by cases h⟩
      · obtain ⟨s, hs⟩ : ∃ s : Nat, en r k = (s : Int) := ⟨(en r k).toNat, by omega⟩
        have s5 : s < 5 := by omega
        rw [brn_df (by omega), if_neg h3, hs, toNatN, toNatN, toNatN, grd_t (by omega), grd_t (by unfold tP; omega)]
        rw [show gp (tP n T) (26 + i) = .int .u64 (bn T.2.1 i : Int) from gp_b hT.tv.tb hi, getU_t, grd_t (by omega), b_tst _ (hT.tv.tb.b32 i hi) s s5]
        by_cases h4 : (s : Int) ∈ r.take k
        · rw [brn_t ((hT.b s s5).2 h4), if_pos h4]; exact ⟨T, rfl, fun h => by cases h⟩
        · rw [brn_f (by rw [Bool.eq_false_iff]; intro h; exact h4 ((hT.b s s5).1 h)), if_neg h4, grd_t (by omega), grd_t (by unfold tP; omega)]
          rw [show gp (tP n T) (31 + k) = .int .u64 (bn T.2.2 k : Int) from gp_d hT.tv.tb (by omega), getU_t, b_tst _ (hT.tv.tb.d32 k (by omega)) s s5]
          have hd : (bn T.2.2 k).testBit s = P.any (fun q => decide (k < q.length) && (en q k == (s : Int))) := by
            rw [Bool.eq_iff_iff, hT.d k s (by omega) s5, List.any_eq_true]
            constructor
            · rintro (⟨q, hq, h5, h6⟩ | h5)
              · exact ⟨q, hq, by simp [h5, h6]⟩
              · omega
            · rintro ⟨q, hq, h5⟩
              simp only [Bool.and_eq_true, decide_eq_true_eq, beq_iff_eq] at h5
              exact .inl ⟨q, hq, h5⟩
          rw [hd]
          cases h5 : P.any (fun q => decide (k < q.length) && (en q k == (s : Int))) with
          | true => rw [brn_t rfl, if_pos rfl]; exact ⟨T, rfl, fun h => by cases h⟩
          | false =>
            rw [brn_f rfl, if_neg (by simp)]
            obtain ⟨T', e1, e2⟩ := open_L1 N n hn w L P r i hi hr f (k + 1) fuel (putT T i k s) (by omega) (by omega) (by omega) (hT.put hi (by omega) h1 s5 hs)
            refine ⟨T', ?_, e2⟩
            rw [show m72 N (i : Int) (k : Int) (s : Int) (tP n T) = _ from put_ok N n hT.tv.tb hi (by omega) s5, bnd_t]
            show getT0 (.tup []) _ = _
            rw [getT0_t, wrapN (by omega)]
            exact e1
theorem open_L0 (N n : Nat) (hN : 2000 ≤ N) (hn : n ≤ 5) (w : Int) (L : List (List Int)) (hL : L.length ≤ n) (hr20 : ∀ r ∈ L, r.length ≤ 1000) : ∀ (f i fuel : Nat) (T : T3), L.length - i = f → f < fuel → i ≤ L.length → (∀ r', Rp (L.take i) i r' 0 T) →
    ∃ T', m61_L0 N (n : Int) w L.length (rwsP L) fuel (i : Int) (tP n T) = some (outR n (rowE n w L f i) T') ∧ (rowE n w L f i = 0 → ∀ r', Rp L L.length r' 0 T')
  | f, i, 0, _, _, h, _, _ => by omega
  | 0, i, fuel + 1, T, hf, _, hi, hT => by
    have : i = L.length := by omega
    subst this
    refine ⟨T, ?_, fun _ r' => by have := hT r'; rwa [List.take_length] at this⟩
    rw [m61_L0, brn_df (by omega)]; rfl
  | f + 1, i, fuel + 1, T, hf, hfu, hi, hT => by
    have h1 : i < L.length := by omega
    have hrl := hr20 _ (ro_mem h1)
    rw [m61_L0, brn_dt (by omega), rowE]
    simp (disch := (try simp only [List.length_drop, iL_len, rws_len, toNatN]) <;> omega) only [↓grd_t, ↓gL_n]
    by_cases h2 : ((ro L i).length : Int) = w
    · rw [brn_nf h2, if_neg (by simpa using h2)]
      by_cases h3 : (n : Int) < w
      · rw [brn_dt (by omega), if_pos h3]; exact ⟨T, rfl, fun h => by cases h⟩
      · rw [brn_df (by omega), if_neg h3]
        obtain ⟨T', e1, e2⟩ := open_L1 N n hn w L (L.take i) (ro L i) i (by omega) (by omega) (ro L i).length 0 N T (by omega) (by omega) (by omega) (hT _)
        rw [show m61_L1 N (n : Int) w L.length (rwsP L) (i : Int) (ro L i).length (iL (ro L i)) N 0 (tP n T) = _ from e1, bnd_t]
        by_cases h4 : dayE n (L.take i) (ro L i) (ro L i).length 0 = 0
        · rw [if_neg (by simpa using h4), wrapN (by omega)]
          unfold outR
          rw [if_pos h4]
          have h5 := (e2 h4).next (by rw [List.length_take]; omega) (by omega)
          rw [← take_ro h1] at h5
          exact open_L0 N n hN hn w L hL hr20 f (i + 1) fuel T' (by omega) (by omega) (by omega) h5
        · unfold outR
          simp only [if_neg h4, if_pos (show dayE (n : Int) (L.take i) (ro L i) (ro L i).length 0 ≠ 0 from h4)]
          exact ⟨T, by trivial, fun h => absurd h h4⟩
    · rw [brn_nt h2, if_pos h2]; exact ⟨T, rfl, fun h => by cases h⟩
def T0 : T3 := (List.replicate 25 (-1), List.replicate 5 0, List.replicate 5 0)
theorem T0_rp (r : List Int) : Rp [] 0 r 0 T0 := by
  have hb : ∀ j, j < 5 → bn (List.replicate 5 0) j = 0 := by decide
  have ha : ∀ j, j < 25 → en (List.replicate 25 (-1)) j = -1 := by decide
  refine ⟨⟨⟨rfl, rfl, rfl, fun i hi => by show bn (List.replicate 5 0) i < 32; rw [hb i hi]; omega, fun i hi => by show bn (List.replicate 5 0) i < 32; rw [hb i hi]; omega⟩, fun j hj => by show -1 ≤ en (List.replicate 25 (-1)) j; rw [ha j hj]; omega⟩, fun s hs => ?_, fun j _ h5 => hb j h5, fun d s hd hs => ?_, fun j d hj hd => ?_⟩
  · show (bn (List.replicate 5 0) 0).testBit s = true ↔ _
    rw [hb 0 (by omega)]; simp
  · show (bn (List.replicate 5 0) d).testBit s = true ↔ _
    rw [hb d hd]; simp
  · show en (List.replicate 25 (-1)) (j * 5 + d) = _
    rw [ha _ (by omega), if_neg (by omega), if_neg (by omega)]
def zA (i k : Nat) : List Int := List.replicate (i * 5 + k) (-1) ++ List.replicate (25 - (i * 5 + k)) 0
theorem zA_set {i k : Nat} (h : i * 5 + k < 25) : (zA i k).set (i * 5 + k) (-1) = zA i (k + 1) := by
  unfold zA
  rw [List.set_append_right _ _ (by simp), List.length_replicate, Nat.sub_self, show 25 - (i * 5 + k) = (25 - (i * 5 + (k + 1))) + 1 by omega, List.replicate_succ, List.set_cons_zero, show i * 5 + (k + 1) = i * 5 + k + 1 by omega, List.replicate_succ']
  simp
theorem beg_L1 (N n i : Nat) (hi : i < 5) : ∀ (f k fuel : Nat), 5 - k = f → f < fuel → k ≤ 5 →
    m71_L1 N (i : Int) fuel (k : Int) (tblP n (zA i k) (List.replicate 5 0) (List.replicate 5 0)) = some (tblP n (zA i 5) (List.replicate 5 0) (List.replicate 5 0))
  | f, k, 0, _, h, _ => by omega
  | 0, k, fuel + 1, hf, _, hk => by
    have : k = 5 := by omega
    subst this
    rw [m71_L1, brn_df (by omega)]
  | f + 1, k, fuel + 1, hf, hfu, hk => by
    have hb : ∀ j, j < 5 → bn (List.replicate 5 0) j = 0 := by decide
    have tb : Tb (zA i k) (List.replicate 5 0) (List.replicate 5 0) := ⟨by simp [zA]; omega, rfl, rfl, fun i hi => by rw [hb i hi]; omega, fun i hi => by rw [hb i hi]; omega⟩
    have hl := tbl_len (n := n) tb
    rw [m71_L1, brn_dt (by omega), grd_t ⟨by omega, by omega⟩, grd_t ⟨by omega, by omega⟩, toNatN, toNatN, grd_t (by omega), wrapN (by omega), show 1 + i * 5 + k = 1 + (i * 5 + k) by omega, set_a tb (by omega), zA_set (by omega)]
    exact beg_L1 N n i hi f (k + 1) fuel (by omega) (by omega) (by omega)
theorem beg_L0 (N n : Nat) (hN : 2000 ≤ N) : ∀ (f i fuel : Nat), 5 - i = f → f < fuel → i ≤ 5 →
    m71_L0 N fuel (i : Int) (tblP n (zA i 0) (List.replicate 5 0) (List.replicate 5 0)) = some (tP n T0)
  | f, i, 0, _, h, _ => by omega
  | 0, i, fuel + 1, hf, _, hi => by
    have : i = 5 := by omega
    subst this
    rw [m71_L0, brn_df (by omega)]; rfl
  | f + 1, i, fuel + 1, hf, hfu, hi => by
    rw [m71_L0, brn_dt (by omega), show m71_L1 N (i : Int) N 0 (tblP n (zA i 0) (List.replicate 5 0) (List.replicate 5 0)) = _ from beg_L1 N n i (by omega) 5 0 N (by omega) (by omega) (by omega), bnd_t, wrapN (by omega)]
    have e : zA i 5 = zA (i + 1) 0 := by
      unfold zA
      rw [show i * 5 + 5 = (i + 1) * 5 + 0 by omega]
    rw [e]
    exact beg_L0 N n hN f (i + 1) fuel (by omega) (by omega) (by omega)
theorem begun_ok (N n : Nat) (hN : 2000 ≤ N) : m71 N (n : Int) = some (tP n T0) := by
  have := beg_L0 N n hN 5 0 N (by omega) (by omega) (by omega)
  rw [m71]
  show bnd' (m71_L0 N N ((0 : Nat) : Int) (tblP n (zA 0 0) (List.replicate 5 0) (List.replicate 5 0))) _ = _
  rw [this, bnd_t]
def opE (n : Nat) (e : Int) (T : T3) : Int ⊕ (Int × List PV) := if e = 0 then .inr (0, tP n T) else .inl e
theorem opened_ok (N : Nat) (hN : 2000 ≤ N) (x w : Int) (L : List (List Int)) (hL : L.length ≤ 1000) (hr : ∀ r ∈ L, r.length ≤ 1000) :
    ∃ T, m61 N x (.lst false L.length (rwsP L)) w = some (opE x.toNat (chkE x w L) T) ∧ (chkE x w L = 0 → ∀ r', Rp L L.length r' 0 T) := by
  rw [m61, getL_t]
  unfold chkE
  by_cases h1 : x < 1
  · rw [brn_dt h1, if_pos h1]; exact ⟨T0, rfl, fun h => by cases h⟩
  · rw [brn_df h1, if_neg h1]
    by_cases h2 : 5 < x
    · rw [brn_dt (by omega), if_pos h2]; exact ⟨T0, rfl, fun h => by cases h⟩
    · rw [brn_df (by omega), if_neg h2]
      by_cases h3 : x < (L.length : Int)
      · rw [brn_dt (by omega), if_pos h3]; exact ⟨T0, rfl, fun h => by cases h⟩
      · obtain ⟨n, rfl⟩ : ∃ n : Nat, x = (n : Int) := ⟨x.toNat, by omega⟩
        rw [brn_df (by omega), if_neg h3, begun_ok N n hN, bnd_t]
        obtain ⟨T, e1, e2⟩ := open_L0 N n hN (by omega) w L (by omega) hr L.length 0 N T0 (by omega) (by omega) (by omega) (fun r' => by rw [List.take_zero]; exact T0_rp r')
        refine ⟨T, ?_, e2⟩
        show bnd' (m61_L0 N (n : Int) w L.length (rwsP L) N 0 (tP n T0)) _ = _
        rw [show m61_L0 N (n : Int) w L.length (rwsP L) N 0 (tP n T0) = _ from e1, bnd_t, toNatN]
        unfold outR opE
        by_cases h4 : rowE (n : Int) w L L.length 0 = 0
        · simp only [if_pos h4]
        · simp only [if_neg h4]
theorem has_L (N : Nat) (s : Int) (X : List Int) (hX : X.length ≤ 1000) : ∀ (f i fuel : Nat), X.length - i = f → f < fuel → m92_L0 N s X.length (iL X) fuel (i : Int) = some (if s ∈ X.drop i then .inl (.bool true) else .inr ())
  | f, i, 0, _, h => by omega
  | f, i, fuel + 1, hf, hfu => by
    rw [m92_L0]
    by_cases h : i < X.length
    · have ih := has_L N s X hX (f - 1) (i + 1) fuel (by omega) (by omega)
      rw [brn_dt (by omega)]
      simp (disch := (try simp only [List.length_drop, iL_len, rws_len, toNatN]) <;> omega) only [↓grd_t, ↓gI_n]
      rw [drop_en h]
      by_cases e : en X i = s
      · rw [brn_et e, if_pos (by rw [e]; exact .head _)]
      · rw [brn_ef e, wrapN (by omega), ih]
        by_cases g : s ∈ X.drop (i + 1)
        · rw [if_pos g, if_pos (.tail _ g)]
        · rw [if_neg g, if_neg]
          intro h2
          rcases List.mem_cons.1 h2 with h2 | h2
          · exact e h2.symm
          · exact g h2
    · rw [brn_df (by omega), List.drop_eq_nil_of_le (by omega)]; rfl
theorem has_ok (N : Nat) (hN : 2000 ≤ N) (s : Int) (X : List Int) (hX : X.length ≤ 1000) : m92 N (rwP X) s = some (.bool (decide (s ∈ X))) := by
  have := has_L N s X hX X.length 0 N (by omega) (by omega)
  unfold rwP
  rw [m92, getL_t, show m92_L0 N s X.length (iL X) N 0 = _ from this, List.drop_zero, bnd_t]
  by_cases h : s ∈ X
  · rw [if_pos h, decide_eq_true h]
  · rw [if_neg h, decide_eq_false h]
def metB (P : List (List Int)) (k : Nat) (s : Int) : Bool := P.any fun q => decide (k < q.length) && (en q k == s)
theorem met_L (N k : Nat) (s : Int) (P : List (List Int)) (hP : P.length ≤ 1000) : ∀ (f i fuel : Nat), P.length - i = f → f < fuel → m63_L0 N (k : Int) s P.length (rwsP P) fuel (i : Int) = some (if metB (P.drop i) k s then .inl (.bool true) else .inr ())
  | f, i, 0, _, h => by omega
  | f, i, fuel + 1, hf, hfu => by
    rw [m63_L0]
    unfold metB
    by_cases h : i < P.length
    · have ih := met_L N k s P hP (f - 1) (i + 1) fuel (by omega) (by omega)
      unfold metB at ih
      rw [brn_dt (by omega), grd_t (p := 0 ≤ (i : Int) ∧ (i : Int) < ((P.length : Nat) : Int)) ⟨by omega, by omega⟩, grd_t (p := 0 < List.length (List.drop (Int.toNat (i : Int)) (rwsP P))) (by rw [List.length_drop, rws_len, toNatN]; omega), gL_n h, drop_ro h, List.any_cons]
      by_cases hk : k < (ro P i).length
      · rw [brn_dt (by omega), decide_eq_true hk, Bool.true_and]
        rw [grd_t (p := 0 ≤ (k : Int) ∧ (k : Int) < (((ro P i).length : Nat) : Int)) ⟨by omega, by omega⟩, grd_t (p := 0 < List.length (List.drop (Int.toNat (k : Int)) (iL (ro P i)))) (by rw [List.length_drop, iL_len, toNatN]; omega), gI_n hk]
        by_cases e : en (ro P i) k = s
        · rw [brn_et e, if_pos (by simp [e])]
        · rw [brn_ef e, wrapN (by omega), ih, show (en (ro P i) k == s) = false from by simpa using e, Bool.false_or]
      · rw [brn_df (by omega), decide_eq_false hk, Bool.false_and, Bool.false_or, wrapN (by omega), ih]
    · rw [brn_df (by omega), List.drop_eq_nil_of_le (by omega)]; rfl
theorem met_ok (N : Nat) (hN : 2000 ≤ N) (k : Nat) (s : Int) (P : List (List Int)) (hP : P.length ≤ 1000) : m63 N (.lst false P.length (rwsP P)) (k : Int) s = some (.bool (metB P k s)) := by
  have := met_L N k s P hP P.length 0 N (by omega) (by omega)
  rw [m63, getL_t, show m63_L0 N (k : Int) s P.length (rwsP P) N 0 = _ from this, List.drop_zero, bnd_t]
  cases metB P k s <;> rfl
def outC (e : Int) : PV ⊕ Unit := if e = 0 then .inr () else .inl (.int .i64 e)
theorem chk_L1 (N n : Nat) (hN : 2000 ≤ N) (hn : n ≤ 5) (L : List (List Int)) (hL : L.length ≤ 1000) (r : List Int) (hr : r.length ≤ 1000) (i : Nat) (hi : i < L.length) : ∀ (f k fuel : Nat), r.length - k = f → f < fuel → k ≤ r.length →
    m68_L1 N (n : Int) (r.length : Int) L.length (rwsP L) (i : Int) r.length (iL r) fuel (k : Int) = some (outC (dayE n (L.take i) r f k))
  | f, k, 0, _, h, _ => by omega
  | 0, k, fuel + 1, hf, _, hk => by
    rw [m68_L1, brn_df (by omega)]; rfl
  | f + 1, k, fuel + 1, hf, hfu, hk => by
    have h1 : k < r.length := by omega
    have lr := iL_len r
    have ll := rws_len L
    rw [m68_L1, brn_dt (by omega), dayE]
    rw [grd_t (p := 0 ≤ (k : Int) ∧ (k : Int) < ((r.length : Nat) : Int)) ⟨by omega, by omega⟩, grd_t (p := 0 < List.length (List.drop (Int.toNat (k : Int)) (iL r))) (by rw [List.length_drop, iL_len, toNatN]; omega), gI_n h1]
    rw [wrap64 (n := (n : Int) - 1) (by omega) (by omega)]
    have hb : m73 N (en r k) 0 ((n : Int) - 1) = some (.bool (decide (0 ≤ en r k) && decide (en r k < n))) := by
      rw [m73]
      by_cases h : en r k ≥ 0
      · rw [brn_dt h, decide_eq_true (show 0 ≤ en r k from h), Bool.true_and]
        congr 2
        exact decide_eq_decide.2 (by omega)
      · rw [brn_df h, decide_eq_false (show ¬ 0 ≤ en r k from h), Bool.false_and]
    rw [hb, bnd_t, getB_t]
    by_cases h2 : en r k < 0
    · rw [decide_eq_false (by omega), Bool.false_and, brn_f rfl, if_pos h2]; rfl
    · rw [if_neg h2, decide_eq_true (by omega), Bool.true_and]
      by_cases h3 : (n : Int) ≤ en r k
      · rw [brn_df (by omega), if_pos h3]; rfl
      · rw [brn_dt (by omega), if_neg h3, grd_t (by omega), grd_t (by omega), toNatN, toNatN, iL_take]
        have hk' : (r.take k).length = k := by rw [List.length_take]; omega
        have hh := has_ok N hN (en r k) (r.take k) (by omega)
        unfold rwP at hh
        rw [hk'] at hh
        rw [hh, bnd_t, getB_t]
        by_cases h4 : en r k ∈ r.take k
        · rw [brn_dt h4, if_pos h4]; rfl
        · rw [brn_df h4, if_neg h4, grd_t (by omega), grd_t (by omega), rws_take]
          have hi' : (L.take i).length = i := by rw [List.length_take]; omega
          have hm := met_ok N hN k (en r k) (L.take i) (by omega)
          rw [hi'] at hm
          rw [hm, bnd_t, getB_t]
          rw [show (L.take i).any (fun q => decide (k < q.length) && (en q k == en r k)) = metB (L.take i) k (en r k) from rfl]
          cases metB (L.take i) k (en r k) with
          | true => rfl
          | false =>
            rw [brn_f rfl, if_neg (by simp), wrapN (by omega)]
            exact chk_L1 N n hN hn L hL r hr i hi f (k + 1) fuel (by omega) (by omega) (by omega)
theorem chk_L0 (N n : Nat) (hN : 2000 ≤ N) (hn : n ≤ 5) (w : Int) (L : List (List Int)) (hL : L.length ≤ 1000) (hr20 : ∀ r ∈ L, r.length ≤ 1000) : ∀ (f i fuel : Nat), L.length - i = f → f < fuel → i ≤ L.length →
    m68_L0 N (n : Int) w L.length (rwsP L) fuel (i : Int) = some (outC (rowE n w L f i))
  | f, i, 0, _, h, _ => by omega
  | 0, i, fuel + 1, hf, _, hi => by
    rw [m68_L0, brn_df (by omega)]; rfl
  | f + 1, i, fuel + 1, hf, hfu, hi => by
    have h1 : i < L.length := by omega
    have hrl := hr20 _ (ro_mem h1)
    rw [m68_L0, brn_dt (by omega), rowE]
    simp (disch := (try simp only [List.length_drop, iL_len, rws_len, toNatN]) <;> omega) only [↓grd_t, ↓gL_n]
    by_cases h2 : ((ro L i).length : Int) = w
    · rw [brn_nf h2, if_neg (by simpa using h2)]
      by_cases h3 : (n : Int) < w
      · rw [brn_dt (by omega), if_pos h3]; rfl
      · rw [brn_df (by omega), if_neg h3]
        have e := chk_L1 N n hN hn L hL (ro L i) hrl i h1 (ro L i).length 0 N (by omega) (by omega) (by omega)
        rw [h2] at e
        by_cases h4 : dayE n (L.take i) (ro L i) (ro L i).length 0 = 0
        · rw [outC, if_pos h4] at e
          rw [show m68_L1 N (n : Int) w L.length (rwsP L) (i : Int) (ro L i).length (iL (ro L i)) N 0 = _ from e, bnd_t, if_neg (show ¬ dayE n (L.take i) (ro L i) (ro L i).length 0 ≠ 0 by simpa using h4), wrapN (by omega)]
          exact chk_L0 N n hN hn w L hL hr20 f (i + 1) fuel (by omega) (by omega) (by omega)
        · rw [outC, if_neg h4] at e
          rw [show m68_L1 N (n : Int) w L.length (rwsP L) (i : Int) (ro L i).length (iL (ro L i)) N 0 = _ from e, bnd_t, if_pos h4, outC, if_neg h4]
    · rw [brn_nt h2, if_pos h2]; rfl
theorem checked_ok (N : Nat) (hN : 2000 ≤ N) (x w : Int) (L : List (List Int)) (hL : L.length ≤ 1000) (hr : ∀ r ∈ L, r.length ≤ 1000) : m68 N x (.lst false L.length (rwsP L)) w = some (.int .i64 (chkE x w L)) := by
  have hb : m73 N x 1 5 = some (.bool (decide (1 ≤ x) && decide (x ≤ 5))) := by
    rw [m73]
    by_cases h : x ≥ 1
    · rw [brn_dt h, decide_eq_true (show 1 ≤ x from h), Bool.true_and]
    · rw [brn_df h, decide_eq_false (show ¬ 1 ≤ x from h), Bool.false_and]
  rw [m68, getL_t, hb, bnd_t, getB_t]
  unfold chkE
  by_cases h1 : x < 1
  · rw [decide_eq_false (by omega), Bool.false_and, brn_f rfl, if_pos h1]
  · rw [if_neg h1, decide_eq_true (by omega), Bool.true_and]
    by_cases h2 : 5 < x
    · rw [brn_df (by omega), if_pos h2]
    · rw [brn_dt (by omega), if_neg h2]
      by_cases h3 : x < (L.length : Int)
      · rw [brn_dt (by omega), if_pos h3]
      · obtain ⟨n, rfl⟩ : ∃ n : Nat, x = (n : Int) := ⟨x.toNat, by omega⟩
        have e := chk_L0 N n hN (by omega) w L hL hr L.length 0 N (by omega) (by omega) (by omega)
        rw [brn_df (by omega), if_neg h3, show m68_L0 N (n : Int) w L.length (rwsP L) N 0 = _ from e, bnd_t]
        unfold outC
        by_cases h4 : rowE n w L L.length 0 = 0
        · rw [if_pos h4, h4]
        · rw [if_neg h4]
def ext (n : Nat) : Nat → List Nat → List (List Nat)
  | 0, l => [l]
  | f + 1, l => (List.range n).flatMap fun s => if s ∈ l then [] else ext n f (l ++ [s])
def nL (l : List Nat) : List Int := l.map fun (s : Nat) => (s : Int)
def gn (l : List Nat) (d : Nat) : Nat := l.getD d 0
def fitB (P : List (List Int)) (l : List Nat) : Nat → Nat → Bool
  | 0, _ => true
  | f + 1, d => !metB P d (gn l d : Nat) && fitB P l f (d + 1)
def fitn (n : Nat) (P : List (List Int)) : List (List Nat) := (ext n n []).filter fun l => fitB P l n 0
theorem nL_len (l : List Nat) : (nL l).length = l.length := by simp [nL]
theorem nL_en {l : List Nat} {d : Nat} (h : d < l.length) : en (nL l) d = (gn l d : Int) := by
  simp [nL, en, gn, List.getD, h]
theorem gn_app1 {l m : List Nat} {d : Nat} (h : d < l.length) : gn (l ++ m) d = gn l d := by
  simp [gn, List.getD, List.getElem?_append_left h]
theorem gn_app2 {l : List Nat} {s : Nat} : gn (l ++ [s]) l.length = s := by simp [gn, List.getD]
theorem ext_get {n : Nat} : ∀ {f : Nat} {l x : List Nat}, x ∈ ext n f l → x.length = l.length + f ∧ (∀ d, d < l.length → gn x d = gn l d)
  | 0, l, x, h => by
    obtain rfl := List.mem_singleton.1 h
    exact ⟨rfl, fun _ _ => rfl⟩
  | f + 1, l, x, h => by
    rw [ext, List.mem_flatMap] at h
    obtain ⟨s, hs, h⟩ := h
    by_cases g : s ∈ l
    · rw [if_pos g] at h; cases h
    · rw [if_neg g] at h
      obtain ⟨h1, h2⟩ := ext_get h
      rw [List.length_append, List.length_singleton] at h1 h2
      exact ⟨by omega, fun d hd => by rw [h2 d (by omega), gn_app1 hd]⟩
theorem ext_lt {n : Nat} : ∀ {f : Nat} {l x : List Nat}, (∀ s ∈ l, s < n) → x ∈ ext n f l → ∀ s ∈ x, s < n
  | 0, l, x, hl, h => by
    obtain rfl := List.mem_singleton.1 h
    exact hl
  | f + 1, l, x, hl, h => by
    rw [ext, List.mem_flatMap] at h
    obtain ⟨s, hs, h⟩ := h
    by_cases g : s ∈ l
    · rw [if_pos g] at h; cases h
    · rw [if_neg g] at h
      refine ext_lt (fun t ht => ?_) h
      rcases List.mem_append.1 ht with ht | ht
      · exact hl t ht
      · obtain rfl := List.mem_singleton.1 ht
        exact List.mem_range.1 hs
theorem flen_le {α β : Type} {b : Nat} {g : α → List β} : ∀ (L : List α), (∀ x ∈ L, (g x).length ≤ b) → (L.flatMap g).length ≤ L.length * b
  | [], _ => by simp
  | x :: L, h => by
    have h1 := h x (.head _)
    have ih := flen_le L fun y hy => h y (.tail _ hy)
    rw [List.flatMap_cons, List.length_append, List.length_cons, Nat.add_mul, Nat.one_mul]; omega
theorem ext_card {n : Nat} : ∀ (f : Nat) (l : List Nat), (ext n f l).length ≤ n ^ f
  | 0, l => by simp [ext]
  | f + 1, l => by
    have := flen_le (b := n ^ f) (g := fun s => if s ∈ l then [] else ext n f (l ++ [s])) (List.range n) (fun s _ => by
      by_cases g : s ∈ l
      · simp only [if_pos g]; simp
      · simp only [if_neg g]; exact ext_card f _)
    rw [List.length_range] at this
    rw [ext, Nat.pow_succ, Nat.mul_comm]; exact this
theorem pow5 {n f : Nat} (hn : n ≤ 5) (hf : f ≤ 5) : n ^ f ≤ 3125 := by
  have h : ∀ n : Nat, n < 6 → ∀ f : Nat, f < 6 → n ^ f ≤ 3125 := by decide
  exact h n (by omega) f (by omega)
theorem fm_range {α : Type} {n : Nat} {h : Nat → List α} (hz : ∀ s, n ≤ s → h s = []) : ∀ m, n ≤ m → (List.range m).flatMap h = (List.range n).flatMap h
  | 0, hm => by have : n = 0 := by omega
                subst this; rfl
  | m + 1, hm => by
    by_cases e : n = m + 1
    · rw [e]
    · rw [List.range_succ, List.flatMap_append, fm_range hz m (by omega)]
      simp [hz m (by omega)]
theorem fm_filter {α β : Type} {q : α → Bool} {g : α → List β} : ∀ L : List α, (L.filter q).flatMap g = L.flatMap fun s => if q s then g s else []
  | [] => rfl
  | x :: L => by
    rw [List.filter_cons, List.flatMap_cons]
    cases q x with
    | true => rw [if_pos rfl, if_pos rfl, List.flatMap_cons, fm_filter L]
    | false => rw [if_neg (by simp), if_neg (by simp), List.nil_append, fm_filter L]
theorem filter_fm {α β : Type} {p : β → Bool} {g : α → List β} : ∀ L : List α, (L.flatMap g).filter p = L.flatMap fun s => (g s).filter p
  | [] => rfl
  | x :: L => by rw [List.flatMap_cons, List.flatMap_cons, List.filter_append, filter_fm L]
theorem fm_congr {α β : Type} {g h : α → List β} : ∀ {L : List α}, (∀ x ∈ L, g x = h x) → L.flatMap g = L.flatMap h
  | [], _ => rfl
  | x :: L, hh => by rw [List.flatMap_cons, List.flatMap_cons, hh x (.head _), fm_congr fun y hy => hh y (.tail _ hy)]
theorem filter_congr' {α : Type} {p q : α → Bool} : ∀ {L : List α}, (∀ x ∈ L, p x = q x) → L.filter p = L.filter q
  | [], _ => rfl
  | x :: L, h => by rw [List.filter_cons, List.filter_cons, h x (.head _), filter_congr' fun y hy => h y (.tail _ hy)]
theorem Rp.congr {P : List (List Int)} {i k : Nat} {r r' : List Int} {T : T3} (h : Rp P i r k T) (h1 : r.take k = r'.take k) (h2 : ∀ d, d < k → en r d = en r' d) : Rp P i r' k T := by
  refine ⟨h.tv, fun s hs => by rw [← h1]; exact h.b s hs, h.bz, fun d s hd hs => ?_, fun j d hj hd => ?_⟩
  · rw [h.d d s hd hs]
    constructor
    · rintro (h3 | h3)
      · exact .inl h3
      · exact .inr ⟨h3.1, by rw [← h2 d h3.1]; exact h3.2⟩
    · rintro (h3 | h3)
      · exact .inl h3
      · exact .inr ⟨h3.1, by rw [h2 d h3.1]; exact h3.2⟩
  · rw [h.a j d hj hd]
    by_cases h3 : j < i
    · rw [if_pos h3, if_pos h3]
    · rw [if_neg h3, if_neg h3]
      by_cases h4 : j = i ∧ d < k
      · rw [if_pos h4, if_pos h4, h2 d h4.2]
      · rw [if_neg h4, if_neg h4]
def rowOf (n p : Nat) (T : T3) : List Int := (T.1.drop (p * 5)).take n
theorem en_at {X : List Int} {a d : Nat} : en (X.drop a) d = en X (a + d) := by simp [en, List.getD]
theorem list_en {X Y : List Int} (hl : X.length = Y.length) (h : ∀ d, d < X.length → en X d = en Y d) : X = Y := by
  apply List.ext_getElem hl
  intro d h1 h2
  have := h d h1
  simpa [en, List.getD, h1, h2] using this
theorem rowOf_eq {n p : Nat} (hn : n ≤ 5) (hp : p < 5) {T : T3} (hT : Tv T) {r : List Int} (hr : r.length = n) (h : ∀ d, d < n → en T.1 (p * 5 + d) = en r d) : rowOf n p T = r := by
  have la := hT.tb.la
  refine list_en ?_ fun d hd => ?_
  · simp only [rowOf, List.length_take, List.length_drop]; omega
  · simp only [rowOf, List.length_take, List.length_drop] at hd
    have e : en (rowOf n p T) d = en (T.1.drop (p * 5)) d := by
      unfold rowOf en
      simp only [List.getD]
      rw [List.getElem?_take, if_pos (by omega)]
    rw [e, en_at]; exact h d (by omega)
theorem row_cmpl (n : Nat) (hn : n ≤ 5) (P : List (List Int)) (p : Nat) (hp : p < n) : ∀ (f : Nat) (l : List Nat) (T : T3) (F : Nat), l.length + f = n → (∀ s ∈ l, s < n) → Rp P p (nL l) l.length T → f + 2 ≤ F →
    (cmpl n (p + 1) F p l.length T).map (rowOf n p) = ((ext n f l).filter fun x => fitB P x f l.length).map nL
  | 0, l, T, F, hl, hs, hT, hF => by
    obtain ⟨F, rfl⟩ : ∃ G, F = G + 2 := ⟨F - 2, by omega⟩
    rw [cmpl, if_neg (by omega), if_pos (by omega), cmpl, if_pos rfl]
    have : rowOf n p T = nL l := rowOf_eq hn (by omega) hT.tv (by rw [nL_len]; omega) fun d hd => by
      rw [hT.a p d (by omega) (by omega), if_neg (by omega), if_pos ⟨rfl, by omega⟩]
    simp [ext, fitB, this]
  | f + 1, l, T, F, hl, hs, hT, hF => by
    obtain ⟨F, rfl⟩ : ∃ G, F = G + 1 := ⟨F - 1, by omega⟩
    have ha : en T.1 (p * 5 + l.length) = -1 := by
      rw [hT.a p l.length (by omega) (by omega), if_neg (by omega), if_neg (by omega)]
    rw [cmpl, if_neg (by omega), if_neg (by omega), if_neg (by omega), ext]
    unfold bits
    rw [fm_filter, List.map_flatMap, filter_fm, List.map_flatMap]
    have hz : ∀ s, s < 5 → (mayB n (bn T.2.1 p) (bn T.2.2 l.length)).testBit s = (decide (s < n) && !decide (s ∈ l) && !metB P l.length (s : Nat)) := fun s h5 => by
      rw [may_tst (by omega) (hT.tv.tb.b32 p (by omega)) (hT.tv.tb.d32 l.length (by omega)) h5]
      have hb : (bn T.2.1 p).testBit s = decide (s ∈ l) := by
        rw [Bool.eq_iff_iff, hT.b s h5, List.take_of_length_le (by rw [nL_len]; omega), decide_eq_true_eq]
        unfold nL
        rw [List.mem_map]
        constructor
        · rintro ⟨t, ht, e⟩
          have : t = s := by omega
          exact this ▸ ht
        · exact fun h => ⟨s, h, rfl⟩
      have hd : (bn T.2.2 l.length).testBit s = metB P l.length (s : Nat) := by
        rw [Bool.eq_iff_iff, hT.d l.length s (by omega) h5]
        unfold metB
        rw [List.any_eq_true]
        constructor
        · rintro (⟨q, hq, h5, h6⟩ | h5)
          · exact ⟨q, hq, by simp [h5, h6]⟩
          · omega
        · rintro ⟨q, hq, h5⟩
          simp only [Bool.and_eq_true, decide_eq_true_eq, beq_iff_eq] at h5
          exact .inl ⟨q, hq, h5⟩
      rw [hb, hd]
    have e1 : (List.range 5).flatMap (fun s => List.map (rowOf n p) (if (mayB n (bn T.2.1 p) (bn T.2.2 l.length)).testBit s = true then cmpl n (p + 1) F p (l.length + 1) (putT T p l.length s) else [])) =
        (List.range 5).flatMap (fun s => if (decide (s < n) && !decide (s ∈ l) && !metB P l.length (s : Nat)) = true then ((ext n f (l ++ [s])).filter fun x => fitB P x f (l.length + 1)).map nL else []) := by
      refine fm_congr fun s hs5 => ?_
      have h5 := List.mem_range.1 hs5
      rw [hz s h5]
      by_cases g : (decide (s < n) && !decide (s ∈ l) && !metB P l.length (s : Nat)) = true
      · rw [if_pos g, if_pos g]
        simp only [Bool.and_eq_true, decide_eq_true_eq] at g
        have hl1 : (l ++ [s]).length = l.length + 1 := by simp
        have hR : Rp P p (nL (l ++ [s])) l.length T := hT.congr (by rw [show nL (l ++ [s]) = nL l ++ [(s : Int)] by simp [nL], List.take_append_of_le_length (by rw [nL_len]; omega)]) fun d hd => by rw [nL_en hd, nL_en (by omega), gn_app1 hd]
        have hR2 := hR.put (by omega) (by omega) (by rw [nL_len]; omega) h5 (by rw [nL_en (by omega), gn_app2])
        rw [← hl1] at hR2
        have ih := row_cmpl n hn P p hp f (l ++ [s]) (putT T p l.length s) F (by omega) (fun t ht => by
          rcases List.mem_append.1 ht with ht | ht
          · exact hs t ht
          · obtain rfl := List.mem_singleton.1 ht
            exact g.1.1) hR2 (by omega)
        rw [hl1] at ih
        exact ih
      · rw [if_neg g, if_neg g]; rfl
    rw [e1, fm_range (n := n) (fun s h => by rw [decide_eq_false (by omega)]; rfl) 5 hn]
    refine fm_congr fun s hs' => ?_
    have hsn := List.mem_range.1 hs'
    rw [decide_eq_true hsn, Bool.true_and]
    by_cases g : s ∈ l
    · rw [if_pos g, decide_eq_true g]; rfl
    · rw [if_neg g, decide_eq_false g, Bool.not_false, Bool.true_and]
      have hx : ∀ x ∈ ext n f (l ++ [s]), gn x l.length = s := fun x hx => by
        rw [(ext_get hx).2 l.length (by simp), gn_app2]
      have hq : (ext n f (l ++ [s])).filter (fun x => fitB P x (f + 1) l.length) = (ext n f (l ++ [s])).filter (fun x => !metB P l.length (s : Nat) && fitB P x f (l.length + 1)) := filter_congr' fun x h => by
        show (!metB P l.length (gn x l.length : Nat) && _) = _
        rw [hx x h]
      rw [hq]
      cases metB P l.length (s : Nat) with
      | true => simp
      | false => simp
end Go.Proofs.YtcaecfofgdogbaaDoor
namespace Go.Proofs.YtcaecfofgdogbaaDoor
open Go.V
set_option linter.unusedSectionVars false
set_option maxRecDepth 100000
def pc (x : Nat) : Nat := (bits x).length
def subs : Nat → Nat → List Nat
  | 1, 0 => [0]
  | 1, 1 => [1]
  | 2, 0 => [0]
  | 2, 1 => [1, 2]
  | 2, 2 => [3]
  | 3, 0 => [0]
  | 3, 1 => [1, 2, 4]
  | 3, 2 => [3, 5, 6]
  | 3, 3 => [7]
  | 4, 0 => [0]
  | 4, 1 => [1, 2, 4, 8]
  | 4, 2 => [3, 5, 6, 9, 10, 12]
  | 4, 3 => [7, 11, 13, 14]
  | 4, 4 => [15]
  | 5, 0 => [0]
  | 5, 1 => [1, 2, 4, 8, 16]
  | 5, 2 => [3, 5, 6, 9, 10, 12, 17, 18, 20, 24]
  | 5, 3 => [7, 11, 13, 14, 19, 21, 22, 25, 26, 28]
  | 5, 4 => [15, 23, 27, 29, 30]
  | 5, 5 => [31]
  | _, _ => []
def prm (n : Nat) : List Nat → Nat → Nat
  | [], _ => 1
  | M :: D, u => ((List.range n).map fun s => bif (M ||| u).testBit s then 0 else prm n D (u ||| 2 ^ s)).sum
def fac : Nat → Nat
  | 0 => 1
  | n + 1 => (n + 1) * fac n
def okC (M : Nat) : Nat → List Nat → Bool
  | _, [] => true
  | s, c :: l => (bif M.testBit s then !(c == 0) else true) && okC M (s + 1) l
def sbC (M : Nat) : Nat → List Nat → List Nat
  | _, [] => []
  | s, c :: l => (bif M.testBit s then c - 1 else c) :: sbC M (s + 1) l
def hallB (n k : Nat) : Nat → List Nat → List Nat → Bool
  | 0, cols, D => !(cols.all (· == 0)) || Nat.ble (fac (n - k)) (prm n D 0)
  | d + 1, cols, D => (subs n k).all fun M => !(okC M 0 cols) || hallB n k d (sbC M 0 cols) (D ++ [M])
theorem hall1_0 : hallB 1 0 1 (List.replicate 1 0) [] = true := by decide +kernel
theorem hall2_0 : hallB 2 0 2 (List.replicate 2 0) [] = true := by decide +kernel
theorem hall2_1 : hallB 2 1 2 (List.replicate 2 1) [] = true := by decide +kernel
theorem hall3_0 : hallB 3 0 3 (List.replicate 3 0) [] = true := by decide +kernel
theorem hall3_1 : hallB 3 1 3 (List.replicate 3 1) [] = true := by decide +kernel
theorem hall3_2 : hallB 3 2 3 (List.replicate 3 2) [] = true := by decide +kernel
theorem hall4_0 : hallB 4 0 4 (List.replicate 4 0) [] = true := by decide +kernel
theorem hall4_1 : hallB 4 1 4 (List.replicate 4 1) [] = true := by decide +kernel
theorem hall4_2 : hallB 4 2 4 (List.replicate 4 2) [] = true := by decide +kernel
theorem hall4_3 : hallB 4 3 4 (List.replicate 4 3) [] = true := by decide +kernel
theorem hall5_0 : hallB 5 0 5 (List.replicate 5 0) [] = true := by decide +kernel
theorem hall5_1 : hallB 5 1 5 (List.replicate 5 1) [] = true := by decide +kernel
theorem hall5_2 : hallB 5 2 5 (List.replicate 5 2) [] = true := by decide +kernel
theorem hall5_3 : hallB 5 3 5 (List.replicate 5 3) [] = true := by decide +kernel
theorem hall5_4 : hallB 5 4 5 (List.replicate 5 4) [] = true := by decide +kernel
end Go.Proofs.YtcaecfofgdogbaaDoor
namespace Go.Proofs.YtcaecfofgdogbaaDoor
open Go.V
set_option linter.unusedSectionVars false
def cc (D : List Nat) (s : Nat) : Nat := (D.filter fun M => M.testBit s).length
theorem cc_cons (M : Nat) (D : List Nat) (s : Nat) : cc (M :: D) s = (if M.testBit s then 1 else 0) + cc D s := by
  unfold cc
  rw [List.filter_cons]
  split <;> simp <;> omega
theorem okC_ok (M : Nat) : ∀ (l : List Nat) (s0 : Nat), (∀ j, j < l.length → M.testBit (s0 + j) = true → gn l j ≠ 0) → okC M s0 l = true
  | [], _, _ => rfl
  | c :: l, s0, h => by
    have h0 := h 0 (by simp)
    have ih := okC_ok M l (s0 + 1) fun j hj ht => by
      have := h (j + 1) (by simpa using hj) (by rw [show s0 + (j + 1) = s0 + 1 + j by omega]; exact ht)
      simpa [gn] using this
    rw [okC, ih, Bool.and_true]
    cases hb : M.testBit s0 with
    | false => rfl
    | true =>
      have := h0 (by simpa using hb)
      simp [gn] at this
      simp [this]
theorem sbC_len (M : Nat) : ∀ (l : List Nat) (s0 : Nat), (sbC M s0 l).length = l.length
  | [], _ => rfl
  | c :: l, s0 => by rw [sbC, List.length_cons, sbC_len M l, List.length_cons]
theorem sbC_get (M : Nat) : ∀ (l : List Nat) (s0 j : Nat), j < l.length → gn (sbC M s0 l) j = if M.testBit (s0 + j) then gn l j - 1 else gn l j
  | [], _, j, h => by simp at h
  | c :: l, s0, 0, _ => by
    rw [sbC]
    show (bif M.testBit s0 then c - 1 else c) = if M.testBit s0 = true then c - 1 else c
    cases M.testBit s0 <;> rfl
  | c :: l, s0, j + 1, h => by
    have ih := sbC_get M l (s0 + 1) j (by simpa using h)
    rw [sbC, show s0 + (j + 1) = s0 + 1 + j by omega]
    simpa [gn] using ih
theorem hall_sound (n k : Nat) : ∀ (d : Nat) (cols acc rest : List Nat), rest.length = d → (∀ M ∈ rest, M ∈ subs n k) → (∀ s, s < cols.length → gn cols s = cc rest s) → hallB n k d cols acc = true → fac (n - k) ≤ prm n (acc ++ rest) 0
  | 0, cols, acc, rest, hr, _, hc, hh => by
    have : rest = [] := List.eq_nil_of_length_eq_zero hr
    subst this
    rw [hallB] at hh
    have hz : cols.all (· == 0) = true := by
      rw [List.all_eq_true]
      intro c hcm
      obtain ⟨j, hj, rfl⟩ := List.getElem_of_mem hcm
      have := hc j hj
      simp [gn, cc, List.getD, hj] at this
      simp [this]
    rw [hz, Bool.not_true, Bool.false_or, Nat.ble_eq] at hh
    simpa using hh
  | d + 1, cols, acc, [], hr, _, _, _ => by simp at hr
  | d + 1, cols, acc, M :: rest, hr, hs, hc, hh => by
    rw [hallB, List.all_eq_true] at hh
    have h1 := hh M (hs M (.head _))
    have h2 : okC M 0 cols = true := okC_ok M cols 0 fun j hj ht => by
      rw [Nat.zero_add] at ht
      rw [hc j hj, cc_cons, if_pos ht]; omega
    rw [h2, Bool.not_true, Bool.false_or] at h1
    have := hall_sound n k d (sbC M 0 cols) (acc ++ [M]) rest (by simpa using hr) (fun M' h => hs M' (.tail _ h)) (fun s h => by
      rw [sbC_len] at h
      rw [sbC_get M cols 0 s h, Nat.zero_add, hc s h, cc_cons]
      split <;> omega) h1
    rwa [List.append_assoc, List.singleton_append] at this
theorem hall_all {n k : Nat} (hn : n ≤ 5) (hk : k < n) : hallB n k n (List.replicate n k) [] = true := by
  rcases (show n = 1 ∨ n = 2 ∨ n = 3 ∨ n = 4 ∨ n = 5 by omega) with rfl | rfl | rfl | rfl | rfl
  · obtain rfl : k = 0 := by omega
    exact hall1_0
  · rcases (show k = 0 ∨ k = 1 by omega) with rfl | rfl
    · exact hall2_0
    · exact hall2_1
  · rcases (show k = 0 ∨ k = 1 ∨ k = 2 by omega) with rfl | rfl | rfl
    · exact hall3_0
    · exact hall3_1
    · exact hall3_2
  · rcases (show k = 0 ∨ k = 1 ∨ k = 2 ∨ k = 3 by omega) with rfl | rfl | rfl | rfl
    · exact hall4_0
    · exact hall4_1
    · exact hall4_2
    · exact hall4_3
  · rcases (show k = 0 ∨ k = 1 ∨ k = 2 ∨ k = 3 ∨ k = 4 by omega) with rfl | rfl | rfl | rfl | rfl
    · exact hall5_0
    · exact hall5_1
    · exact hall5_2
    · exact hall5_3
    · exact hall5_4
def stp (D x : List Nat) : List Nat := List.zipWith (fun M s => M ||| 2 ^ s) D x
inductive Vp (n : Nat) : List (List Nat) → List Nat → Prop
  | nil : Vp n [] (List.replicate n 0)
  | snoc (X : List (List Nat)) (D x : List Nat) (h : Vp n X D) (hx : x ∈ ext n n []) (hf : fitB (X.map nL) x n 0 = true) : Vp n (X ++ [x]) (stp D x)
theorem pc_or : ∀ M : Nat, M < 32 → ∀ s : Nat, s < 5 → M.testBit s = false → pc (M ||| 2 ^ s) = pc M + 1 := by decide +kernel
theorem or_ltn : ∀ n : Nat, n < 6 → ∀ M : Nat, M < 2 ^ n → ∀ s : Nat, s < n → M ||| 2 ^ s < 2 ^ n := by decide +kernel
theorem subs_mem : ∀ n : Nat, n < 6 → 1 ≤ n → ∀ M : Nat, M < 2 ^ n → M ∈ subs n (pc M) := by decide +kernel
theorem pow_lt : ∀ n : Nat, n < 6 → 2 ^ n ≤ 32 := by decide
theorem ext_cnt : ∀ n : Nat, n < 6 → ∀ x ∈ ext n n [], ∀ s : Nat, s < n → x.count s = 1 := by decide +kernel
theorem gn_stp {D x : List Nat} {d : Nat} (h1 : d < D.length) (h2 : d < x.length) : gn (stp D x) d = gn D d ||| 2 ^ gn x d := by
  simp [gn, stp, List.getD, List.getElem?_zipWith, h1, h2]
theorem cc_stp (s : Nat) (hs : s < 5) : ∀ (D x : List Nat), D.length = x.length → (∀ d, d < D.length → gn D d < 32 ∧ gn x d < 5 ∧ (gn D d).testBit (gn x d) = false) → cc (stp D x) s = cc D s + x.count s
  | [], [], _, _ => rfl
  | [], _ :: _, h, _ => by simp at h
  | _ :: _, [], h, _ => by simp at h
  | M :: D, t :: x, h, hd => by
    have h0 := hd 0 (by simp)
    simp only [gn, List.getD_cons_zero] at h0
    have ih := cc_stp s hs D x (by simpa using h) fun d hd' => by
      have := hd (d + 1) (by simpa using hd')
      simpa [gn] using this
    show cc ((M ||| 2 ^ t) :: stp D x) s = _
    rw [cc_cons, cc_cons, ih, tst_or M h0.1 t h0.2.1 s hs, List.count_cons]
    by_cases e : s = t
    · subst e
      rw [h0.2.2]
      simp; omega
    · have : (t == s) = false := by simpa using fun h => e h.symm
      rw [this, decide_eq_false e]
      simp; omega
theorem metB_app (P : List (List Int)) (r : List Int) (d : Nat) (s : Int) : metB (P ++ [r]) d s = (metB P d s || (decide (d < r.length) && (en r d == s))) := by
  simp [metB, List.any_append]
theorem fitB_get {P : List (List Int)} {x : List Nat} : ∀ {f d : Nat}, fitB P x f d = true → ∀ j, d ≤ j → j < d + f → metB P j (gn x j : Nat) = false
  | 0, d, _, j, h1, h2 => by omega
  | f + 1, d, h, j, h1, h2 => by
    rw [fitB, Bool.and_eq_true, Bool.not_eq_true'] at h
    by_cases e : j = d
    · subst e; exact h.1
    · exact fitB_get h.2 j (by omega) (by omega)
structure Vd (n : Nat) (X : List (List Nat)) (D : List Nat) : Prop where
  len : D.length = n
  lt : ∀ d, d < n → gn D d < 2 ^ n
  pc : ∀ d, d < n → pc (gn D d) = X.length
  cc : ∀ s, s < n → cc D s = X.length
  met : ∀ d s, d < n → s < 5 → (gn D d).testBit s = metB (X.map nL) d (s : Nat)
theorem gn_mem {l : List Nat} {d : Nat} (h : d < l.length) : gn l d ∈ l := by simp [gn, List.getD, h]
theorem Vp.vd {n : Nat} (hn : n ≤ 5) {X : List (List Nat)} {D : List Nat} (h : Vp n X D) : Vd n X D := by
  induction h with
  | nil =>
    have hz : ∀ d, gn (List.replicate n 0) d = 0 := fun d => by simp [gn, List.getD, List.getElem?_replicate]; split <;> rfl
    refine ⟨by simp, fun d _ => by rw [hz]; exact Nat.two_pow_pos n, fun d _ => by rw [hz]; decide, fun s _ => ?_, fun d s _ _ => by rw [hz]; simp [metB]⟩
    simp [Go.Proofs.YtcaecfofgdogbaaDoor.cc]
  | snoc X D x h hx hf ih =>
    obtain ⟨e1, _⟩ := ext_get hx
    have hxl : x.length = n := by simpa using e1
    have hlt := ext_lt (n := n) (by simp) hx
    have h2 := pow_lt n (by omega)
    have hnot : ∀ d, d < n → (gn D d).testBit (gn x d) = false := fun d hd => by
      have := hlt _ (gn_mem (l := x) (d := d) (by omega))
      rw [ih.met d _ hd (by omega)]
      exact fitB_get hf d (by omega) (by omega)
    have hg : ∀ d, d < n → gn (stp D x) d = gn D d ||| 2 ^ gn x d := fun d hd => gn_stp (by rw [ih.len]; exact hd) (by omega)
    have hx5 : ∀ d, d < n → gn x d < n := fun d hd => hlt _ (gn_mem (by omega))
    refine ⟨by simp [stp, ih.len, hxl], fun d hd => ?_, fun d hd => ?_, fun s hs => ?_, fun d s hd hs => ?_⟩
    · rw [hg d hd]; exact or_ltn n (by omega) _ (ih.lt d hd) _ (hx5 d hd)
    · have := ih.lt d hd
      have := hx5 d hd
      rw [hg d hd, pc_or _ (by omega) _ (by omega) (hnot d hd), ih.pc d hd]; simp
    · rw [cc_stp s (by omega) D x (by rw [ih.len, hxl]) fun d hd => by
        rw [ih.len] at hd
        have := ih.lt d hd
        have := hx5 d hd
        exact ⟨by omega, by omega, hnot d hd⟩, ih.cc s hs, ext_cnt n (by omega) x hx s hs]
      simp
    · have := ih.lt d hd
      have hx' := hx5 d hd
      rw [hg d hd, tst_or _ (by omega) _ (by omega) s hs, ih.met d s hd hs, List.map_append, List.map_singleton, metB_app, nL_len, decide_eq_true (show d < x.length by omega), Bool.true_and, nL_en (by omega)]
      congr 1
      rw [Bool.eq_iff_iff, decide_eq_true_eq, beq_iff_eq]
      constructor
      · intro h; omega
      · intro h; omega
theorem sum_len {α β : Type} {g : α → List β} : ∀ L : List α, (L.flatMap g).length = (L.map fun x => (g x).length).sum
  | [] => rfl
  | x :: L => by rw [List.flatMap_cons, List.length_append, List.map_cons, List.sum_cons, sum_len L]
theorem prm_ok (n : Nat) (hn : n ≤ 5) (X : List (List Nat)) (D : List Nat) (hD : Vd n X D) : ∀ (f : Nat) (l : List Nat) (u : Nat), l.length + f = n → u < 32 → (∀ s ∈ l, s < n) → (∀ s, s < 5 → u.testBit s = decide (s ∈ l)) →
    ((ext n f l).filter fun x => fitB (X.map nL) x f l.length).length = prm n (D.drop l.length) u
  | 0, l, u, hl, _, _, _ => by
    rw [List.drop_eq_nil_of_le (by rw [hD.len]; omega)]
    simp [ext, fitB, prm]
  | f + 1, l, u, hl, hu, hs, hb => by
    have hd : l.length < n := by omega
    have ed : D.drop l.length = gn D l.length :: D.drop (l.length + 1) := by
      rw [List.drop_eq_getElem_cons (by rw [hD.len]; exact hd)]
      simp [gn, List.getD, hD.len, hd]
    have h2 := pow_lt n (by omega)
    have hM := hD.lt l.length hd
    rw [ext, filter_fm, sum_len, ed, prm]
    congr 1
    refine List.map_congr_left fun s hs' => ?_
    have hsn := List.mem_range.1 hs'
    rw [Nat.testBit_or, hb s (by omega), hD.met l.length s hd (by omega)]
    by_cases g : s ∈ l
    · rw [if_pos g, decide_eq_true g, Bool.or_true]; rfl
    · rw [if_neg g, decide_eq_false g, Bool.or_false]
      have hx : ∀ x ∈ ext n f (l ++ [s]), gn x l.length = s := fun x hx => by
        rw [(ext_get hx).2 l.length (by simp), gn_app2]
      have hq : (ext n f (l ++ [s])).filter (fun x => fitB (X.map nL) x (f + 1) l.length) = (ext n f (l ++ [s])).filter (fun x => !metB (X.map nL) l.length (s : Nat) && fitB (X.map nL) x f (l.length + 1)) := filter_congr' fun x h => by
        show (!metB (X.map nL) l.length (gn x l.length : Nat) && _) = _
        rw [hx x h]
      rw [hq]
      cases metB (X.map nL) l.length (s : Nat) with
      | true => simp
      | false =>
        have hl1 : (l ++ [s]).length = l.length + 1 := by simp
        have ih := prm_ok n hn X D hD f (l ++ [s]) (u ||| 2 ^ s) (by omega) (or_lt u hu s (by omega)) (fun t ht => by
          rcases List.mem_append.1 ht with ht | ht
          · exact hs t ht
          · obtain rfl := List.mem_singleton.1 ht
            exact hsn) (fun t ht => by
          rw [tst_or u hu s (by omega) t ht, hb t ht, Bool.eq_iff_iff]
          simp)
        rw [hl1] at ih
        simpa using ih
theorem fit_many {n : Nat} (hn : n ≤ 5) {X : List (List Nat)} {D : List Nat} (h : Vp n X D) (hk : X.length < n) : fac (n - X.length) ≤ (fitn n (X.map nL)).length := by
  have hD := h.vd hn
  have e := prm_ok n hn X D hD n [] 0 (by simp) (by omega) (by simp) (fun s _ => by simp)
  rw [show (fitn n (X.map nL)).length = _ from e, List.length_nil, List.drop_zero]
  have := hall_sound n X.length n (List.replicate n X.length) [] D hD.len (fun M hM => by
    obtain ⟨d, hd, rfl⟩ := List.getElem_of_mem hM
    rw [hD.len] at hd
    have e2 : D[d]'(by rw [hD.len]; exact hd) = gn D d := by simp [gn, List.getD, hD.len, hd]
    rw [e2, ← hD.pc d hd]
    exact subs_mem n (by omega) (by omega) _ (hD.lt d hd)) (fun s hs => by
    rw [List.length_replicate] at hs
    rw [hD.cc s hs]
    simp [gn, List.getD, hs]) (hall_all hn hk)
  simpa using this
theorem ext_mem {n : Nat} : ∀ (f : Nat) (l x : List Nat), x.length = l.length + f → x.take l.length = l → (∀ s ∈ x, s < n) → (∀ k, k < x.length → gn x k ∉ x.take k) → x ∈ ext n f l
  | 0, l, x, hl, ht, _, _ => by
    rw [List.take_of_length_le (by omega)] at ht
    rw [ht]; exact .head _
  | f + 1, l, x, hl, ht, hs, hd => by
    have h1 : l.length < x.length := by omega
    rw [ext, List.mem_flatMap]
    refine ⟨gn x l.length, List.mem_range.2 (hs _ (gn_mem h1)), ?_⟩
    have h2 := hd l.length h1
    rw [ht] at h2
    rw [if_neg h2]
    refine ext_mem f _ x (by simp; omega) ?_ hs hd
    rw [List.length_append, List.length_singleton, List.take_succ_eq_append_getElem h1, ht]
    congr 2
    simp [gn, List.getD, h1]
theorem dayE_zero {n : Int} {P : List (List Int)} {r : List Int} : ∀ {f k : Nat}, dayE n P r f k = 0 → ∀ j, k ≤ j → j < k + f → 0 ≤ en r j ∧ en r j < n ∧ en r j ∉ r.take j ∧ metB P j (en r j) = false
  | 0, k, _, j, h1, h2 => by omega
  | f + 1, k, h, j, h1, h2 => by
    rw [dayE] at h
    split at h
    · cases h
    · rename_i a1
      split at h
      · cases h
      · rename_i a2
        split at h
        · cases h
        · rename_i a3
          split at h
          · cases h
          · rename_i a4
            by_cases e : j = k
            · subst e
              exact ⟨by omega, by omega, a3, by unfold metB; simpa using a4⟩
            · exact dayE_zero h j (by omega) (by omega)
theorem nL_toNat {r : List Int} (h : ∀ k, k < r.length → 0 ≤ en r k) : nL (r.map Int.toNat) = r := by
  refine list_en (by simp [nL]) fun d hd => ?_
  have hd' : d < r.length := by simpa [nL] using hd
  have := h d hd'
  rw [nL_en (by simpa using hd')]
  have e : gn (r.map Int.toNat) d = (en r d).toNat := by simp [gn, en, List.getD, hd']
  rw [e]; omega
theorem rowE_zero {n : Nat} {w : Int} {L : List (List Int)} : ∀ {f i : Nat}, rowE n w L f i = 0 → ∀ j, i ≤ j → j < i + f → ((ro L j).length : Int) = w ∧ w ≤ n ∧ dayE n (L.take j) (ro L j) (ro L j).length 0 = 0
  | 0, i, _, j, h1, h2 => by omega
  | f + 1, i, h, j, h1, h2 => by
    rw [rowE] at h
    split at h
    · cases h
    · rename_i a1
      split at h
      · cases h
      · rename_i a2
        split at h
        · rename_i a3; exact absurd h a3
        · rename_i a3
          by_cases e : j = i
          · subst e
            exact ⟨by omega, by omega, by omega⟩
          · exact rowE_zero h j (by omega) (by omega)
theorem fitB_mk {P : List (List Int)} {x : List Nat} : ∀ {f d : Nat}, (∀ j, d ≤ j → j < d + f → metB P j (gn x j : Nat) = false) → fitB P x f d = true
  | 0, _, _ => rfl
  | f + 1, d, h => by
    rw [fitB, h d (by omega) (by omega), fitB_mk fun j h1 h2 => h j (by omega) (by omega)]; rfl
theorem plan_vp {n : Nat} {L : List (List Int)} (h : ∀ j, j < L.length → ((ro L j).length : Int) = n ∧ dayE n (L.take j) (ro L j) (ro L j).length 0 = 0) : ∀ i, i ≤ L.length → ∃ X D, Vp n X D ∧ X.map nL = L.take i
  | 0, _ => ⟨[], _, .nil, by simp⟩
  | i + 1, hi => by
    obtain ⟨X, D, h1, h2⟩ := plan_vp h i (by omega)
    obtain ⟨a1, a2⟩ := h i (by omega)
    have hz := fun j (hj : j < (ro L i).length) => dayE_zero a2 j (by omega) (by omega)
    have en' : nL ((ro L i).map Int.toNat) = ro L i := nL_toNat fun k hk => (hz k hk).1
    have ge : ∀ k, k < (ro L i).length → gn ((ro L i).map Int.toNat) k = (en (ro L i) k).toNat := fun k hk => by simp [gn, en, List.getD, hk]
    refine ⟨X ++ [(ro L i).map Int.toNat], _, .snoc X D _ h1 ?_ ?_, ?_⟩
    · refine ext_mem n [] _ (by simp; omega) rfl (fun s hs => ?_) (fun k hk => ?_)
      · obtain ⟨k, hk, rfl⟩ := List.getElem_of_mem hs
        have hk' : k < (ro L i).length := by simpa using hk
        have := hz k hk'
        have e := ge k hk'
        simp only [gn, List.getD, hk, List.getElem?_eq_getElem, Option.getD_some] at e
        rw [e]; omega
      · have hk' : k < (ro L i).length := by simpa using hk
        have hzk := hz k hk'
        rw [ge k hk']
        intro hm
        apply hzk.2.2.1
        rw [← List.map_take, List.mem_map] at hm
        obtain ⟨y, hy, e⟩ := hm
        obtain ⟨q, hq, rfl⟩ := List.getElem_of_mem hy
        have hq2 : q < (ro L i).length := by
          rw [List.length_take] at hq; omega
        have := (hz q hq2).1
        have eq : ((ro L i).take k)[q] = en (ro L i) q := by simp [en, List.getD, hq2]
        rw [eq] at e
        have : en (ro L i) q = en (ro L i) k := by omega
        rw [← this, ← eq]
        exact List.getElem_mem hq
    · refine fitB_mk fun j _ hj => ?_
      have hj' : j < (ro L i).length := by omega
      have := hz j hj'
      rw [ge j hj', h2]
      rw [show (((en (ro L i) j).toNat : Nat) : Int) = en (ro L i) j by omega]
      exact this.2.2.2
    · rw [List.map_append, h2, List.map_singleton, en', ← take_ro (by omega)]
theorem chkE_zero {x w : Int} {L : List (List Int)} (h : chkE x w L = 0) : 1 ≤ x ∧ x ≤ 5 ∧ (L.length : Int) ≤ x ∧ rowE x w L L.length 0 = 0 := by
  unfold chkE at h
  split at h
  · cases h
  · split at h
    · cases h
    · split at h
      · cases h
      · exact ⟨by omega, by omega, by omega, h⟩
theorem plan_ok {n : Nat} {L : List (List Int)} (h : chkE n n L = 0) : ∃ X D, Vp n X D ∧ X.map nL = L := by
  obtain ⟨h1, h2, h3, h4⟩ := chkE_zero h
  obtain ⟨X, D, e1, e2⟩ := plan_vp (n := n) (L := L) (fun j hj => by
    have := rowE_zero h4 j (by omega) (by omega)
    exact ⟨this.1, this.2.2⟩) L.length (by omega)
  exact ⟨X, D, e1, by rw [e2, List.take_length]⟩
end Go.Proofs.YtcaecfofgdogbaaDoor
