/-
  The search: what it finds, and how often.
-/
import Derived.Test.YtcaecfofgdogbaaDoorNWcpA
import Derived.Test.YtcaecfofgdogbaaDoorNK3
import Derived.Test.YtcaecfofgdogbaaDoorNV39
import Derived.Test.YtcaecfofgdogbaaDoorNV36
set_option linter.unusedSimpArgs false
set_option linter.unusedVariables false
namespace Go.Proofs.YtcaecfofgdogbaaDoor
open Go.V
open Nat renaming reduceBEq → qa, reduceAdd → qb, reduceSub → qc, reduceMul → qd, reduceLT → qe, reduceLeDiff → qf
open Int renaming reduceLE → qg, reduceLT → qh, reduceToNat → qi, reduceBEq → qj, reduceBNe → qk
set_option maxRecDepth 100000
set_option maxHeartbeats 4000000
set_option linter.unusedSimpArgs false
set_option linter.unusedVariables false
attribute [local go_sem] tl1 tl2 tl3 tl4 tl5 tl9 tl17 tl21 tl22 tl23 tl24 tl25 tl27 tl28 tl30 tl31 tl32 tl33 tl35 tl36 tl37 tl38 tl39 tl40 tl42 tl43 tl44 tl45 tl46 tl47 tl48 tl49 tl50 tl51 tl52 tl53 tl54 tl55 tl56 tl57 tl58 tl59 tl61 tl62 tl63 tl64 tl65 tl66 tl67 tl68 tl69 tl70 tl71 tl72 tl73 tl74 tl75 tl76 tl77 tl78 tl79 tl80 tl81 tl82 tl83 tl84 tl85 tl87 tl89 tl90 tl91 tl92 tl93 tl94 tl96 tl97 tl98 tl99 tl100 tl101 tl102 tl103 tl104 tl105 tl106 tl107 tl108 tl109 tl115 tl119
def m61_2_L1 (N : Nat) (x3213 : Int) (n3214 : Nat) (x3215 : Int) (c3216 : List PV) (x3309 : Int) (n3316 : Nat) (c3317 : List PV) : Nat → Int → List PV → Option ((((Int × List PV) ⊕ (Int × List PV × List PV)) ⊕ List PV))
  | 0, _, _ => none
  | n + 1, x3356, c3357 =>
    brn (decide (x3356 < ((n3316 : Nat) : Int))) (
      grd (0 ≤ x3356 ∧ x3356 < ((n3316 : Nat) : Int)) <|
      grd (0 < List.length (List.drop (Int.toNat x3356) c3317)) <|
      getI .i64 (gp c3317 (Int.toNat x3356)) fun x3363 =>
      brn (decide (x3363 < 0)) (
        some (.inl (.inl (2, c3216)))) (
        brn (decide (x3363 ≥ x3213)) (
          some (.inl (.inl (2, c3216)))) (
          grd (x3309 < 5) <|
          grd ((26 + (Int.toNat x3309)) < List.length c3357) <|
          getI .u64 (gp c3357 (26 + (Int.toNat x3309))) fun x3373 =>
          grd (0 ≤ x3363) <|
          brn ((bitsI .and .u64 (Int.fdiv x3373 (2 ^ (min (Int.toNat x3363) 64))) 1) == 1) (
            some (.inl (.inl (6, c3216)))) (
            grd (x3356 < 5) <|
            grd ((31 + (Int.toNat x3356)) < List.length c3357) <|
            getI .u64 (gp c3357 (31 + (Int.toNat x3356))) fun x3381 =>
            brn ((bitsI .and .u64 (Int.fdiv x3381 (2 ^ (min (Int.toNat x3363) 64))) 1) == 1) (
              some (.inl (.inl (13, c3216)))) (
              bnd' (m72 N x3309 x3356 x3363 c3357) fun (p3385, c3387) =>
              getT0 p3385 <|
              m61_2_L1 N x3213 n3214 x3215 c3216 x3309 n3316 c3317 n (IntKind.i64.wrap (x3356 + 1)) c3387))))) (
      some (.inr c3357))
def m61_2_L0 (N : Nat) (x3213 : Int) (n3214 : Nat) (x3215 : Int) (c3216 : List PV) : Nat → Int → List PV → Option ((((Int × List PV) ⊕ (Int × List PV × List PV)) ⊕ List PV))
  | 0, _, _ => none
  | n + 1, x3309, c3310 =>
    brn (decide (x3309 < ((n3214 : Nat) : Int))) (
      grd (0 ≤ x3309 ∧ x3309 < ((n3214 : Nat) : Int)) <|
      grd ((Int.toNat x3309) < List.length c3216) <|
      getL (gp c3216 (Int.toNat x3309)) fun n3316 c3317 =>
      brn (((n3316 : Nat) : Int) != x3215) (
        some (.inl (.inl (5, c3216)))) (
        brn (decide (x3215 > x3213)) (
          some (.inl (.inl (5, c3216)))) (
          bnd' (m61_2_L1 N x3213 n3214 x3215 c3216 x3309 n3316 c3317 N 0 c3310) fun o =>
          match o with
          | .inl p3389 =>
            some (.inl p3389)
          | .inr c3390 =>
            m61_2_L0 N x3213 n3214 x3215 c3216 n (IntKind.i64.wrap (x3309 + 1)) c3390))) (
      some (.inr c3310))
def m61_2 (N : Nat) (x3213 : Int) (n3214 : Nat) (x3215 : Int) (c3216 : List PV) : Option (((Int × List PV) ⊕ (Int × List PV × List PV))) :=
  brn (decide (x3213 < 1)) (
    some (.inl (1, c3216))) (
    brn (decide (x3213 > 5)) (
      some (.inl (1, c3216))) (
      brn (decide (((n3214 : Nat) : Int) > x3213)) (
        some (.inl (3, c3216))) (
        bnd' (m71 N x3213) fun o =>
        match o with
        | c3227 =>
          bnd' (m61_2_L0 N x3213 n3214 x3215 c3216 N 0 c3227) fun o =>
          match o with
          | .inl p3391 =>
            some p3391
          | .inr c3392 =>
            some (.inr (0, c3216, c3392)))))
theorem c61_2 (N : Nat) (x3213 : Int) (n3214 : Nat) (x3215 : Int) (c3216 : List PV) (r : ((Int × List PV) ⊕ (Int × List PV × List PV)))  (h : m61_2 N x3213 n3214 x3215 c3216 = some r) : V.Fn Tryd.prog 61 1 [.v (.int .i64 x3213), .sl false 0 0 n3214 1, .v (.int .i64 x3215)] [(0, .p c3216)] (fun d ob' => match (generalizing := false) r with | .inl (x3218, c3219) => d = .v (.tup [(.fn 999999 [.bool true]), (.int .i64 x3218)]) ∧ ob' = [(0, .p c3219)] | .inr (x3393, c3394, c3395) => d = .tup [.ptr 1 0, .v (.int .i64 x3393)] ∧ ob' = [(0, .p c3394), (1, .p c3395)]) := by
  unfold m61_2 at h
  refine Fn_of (sz := 88) tab_ok [0, 1, 2, 6, 7, 8, 9, 10, 11, 12, 13, 20, 27, 28, 29, 30, 42, 43, 44, 45, 46, 50, 58, 69] [.tmp 6, .tmp 7] Tryd.func61 rfl rfl rfl (by simp) ?_
  simp only [initSt, initEnv, List.map_cons, List.map_nil, List.getD_cons_zero, List.getD_cons_succ, List.getD_nil]
  have hh := brn_some h; clear h; rcases hh with ⟨h3217, h⟩ | ⟨h3217, h⟩
  · refine W_sound tab_ok mixed 25 _ _ _ ?_
    simp -implicitDefEqProofs only [go_sem, qa, qb, qc, qd, qe, qf, qg, qh, qi, qj, qk, ↓reduceIte, h3217]
    repeat with_reducible refine ⟨by first | kernel_rfl | decide, ?_⟩
    obtain rfl := Option.some.inj h
    exact finD (e2 := [(0, .dead), (1, .dead), (2, .dead), (6, .v (.fn 999999 [.bool true])), (7, .v (.int .i64 1)), (8, .dead), (9, .dead), (10, .dead), (11, .dead), (12, .dead), (13, .dead), (20, .dead), (27, .dead), (28, .dead), (29, .dead), (30, .dead), (42, .dead), (43, .dead), (44, .dead), (45, .dead), (46, .dead), (50, .dead), (58, .dead), (69, .dead)]) (ob2 := [(0, .p c3216)]) (st' := ⟨[], [(0, .dead), (1, .dead), (2, .dead), (6, .v (.fn 999999 [.bool true])), (7, .v (.int .i64 1)), (8, .dead), (9, .dead), (10, .dead), (11, .dead), (12, .dead), (13, .dead), (20, .dead), (27, .dead), (28, .dead), (29, .dead), (30, .dead), (42, .dead), (43, .dead), (44, .dead), (45, .dead), (46, .dead), (50, .dead), (58, .dead), (69, .dead)], [(0, .p c3216)], 1, []⟩) (.k (.k (.k (.r (.r (.r (.r (.r (.r (.r (.k (.r (.r (.r (.r (.r (.r (.r (.r (.r (.r (.r (.r (.r .nil)))))))))))))))))))))))) (.cons _ _ _ _ _ (DLes.refl _) .nil) (by kernel_rfl) (by simp only [go_sem, qa, qb, qc, qd, qe, qf, qg, qh, qi, qj, qk, ↓reduceIte, resQ_tmp, resQ_cell, resQ_nil, retD_one, retD_two, retD_three, retD_none] <;> first | rfl | exact ⟨rfl, rfl⟩ | (try simp [R.val, retD_one, retD_two, retD_three, retD_none]))
  · have hh := brn_some h; clear h; rcases hh with ⟨h3220, h⟩ | ⟨h3220, h⟩
    · refine W_sound tab_ok mixed 25 _ _ _ ?_
      simp -implicitDefEqProofs only [go_sem, qa, qb, qc, qd, qe, qf, qg, qh, qi, qj, qk, ↓reduceIte, h3217, h3220]
      repeat with_reducible refine ⟨by first | kernel_rfl | decide, ?_⟩
      obtain rfl := Option.some.inj h
      exact finD (e2 := [(0, .dead), (1, .dead), (2, .dead), (6, .v (.fn 999999 [.bool true])), (7, .v (.int .i64 1)), (8, .dead), (9, .dead), (10, .dead), (11, .dead), (12, .dead), (13, .dead), (20, .dead), (27, .dead), (28, .dead), (29, .dead), (30, .dead), (42, .dead), (43, .dead), (44, .dead), (45, .dead), (46, .dead), (50, .dead), (58, .dead), (69, .dead)]) (ob2 := [(0, .p c3216)]) (st' := ⟨[], [(0, .dead), (1, .dead), (2, .dead), (6, .v (.fn 999999 [.bool true])), (7, .v (.int .i64 1)), (8, .dead), (9, .dead), (10, .dead), (11, .dead), (12, .dead), (13, .dead), (20, .dead), (27, .dead), (28, .dead), (29, .dead), (30, .dead), (42, .dead), (43, .dead), (44, .dead), (45, .dead), (46, .dead), (50, .dead), (58, .dead), (69, .dead)], [(0, .p c3216)], 1, []⟩) (.k (.k (.k (.r (.r (.r (.r (.r (.r (.r (.k (.r (.r (.r (.r (.r (.r (.r (.r (.r (.r (.r (.r (.r .nil)))))))))))))))))))))))) (.cons _ _ _ _ _ (DLes.refl _) .nil) (by kernel_rfl) (by simp only [go_sem, qa, qb, qc, qd, qe, qf, qg, qh, qi, qj, qk, ↓reduceIte, resQ_tmp, resQ_cell, resQ_nil, retD_one, retD_two, retD_three, retD_none] <;> first | rfl | exact ⟨rfl, rfl⟩ | (try simp [R.val, retD_one, retD_two, retD_three, retD_none]))
    · have hh := brn_some h; clear h; rcases hh with ⟨h3223, h⟩ | ⟨h3223, h⟩
      · refine W_sound tab_ok mixed 34 _ _ _ ?_
        simp -implicitDefEqProofs only [go_sem, qa, qb, qc, qd, qe, qf, qg, qh, qi, qj, qk, ↓reduceIte, h3217, h3220, h3223]
        repeat with_reducible refine ⟨by first | kernel_rfl | decide, ?_⟩
        obtain rfl := Option.some.inj h
        exact finD (e2 := [(0, .dead), (1, .dead), (2, .dead), (6, .v (.fn 999999 [.bool true])), (7, .v (.int .i64 3)), (8, .dead), (9, .dead), (10, .dead), (11, .dead), (12, .dead), (13, .dead), (20, .dead), (27, .dead), (28, .dead), (29, .dead), (30, .dead), (42, .dead), (43, .dead), (44, .dead), (45, .dead), (46, .dead), (50, .dead), (58, .dead), (69, .dead)]) (ob2 := [(0, .p c3216)]) (st' := ⟨[], [(0, .dead), (1, .dead), (2, .dead), (6, .v (.fn 999999 [.bool true])), (7, .v (.int .i64 3)), (8, .dead), (9, .dead), (10, .dead), (11, .dead), (12, .dead), (13, .dead), (20, .dead), (27, .dead), (28, .dead), (29, .dead), (30, .dead), (42, .dead), (43, .dead), (44, .dead), (45, .dead), (46, .dead), (50, .dead), (58, .dead), (69, .dead)], [(0, .p c3216)], 1, []⟩) (.k (.k (.k (.r (.r (.r (.r (.r (.r (.r (.k (.k (.r (.r (.r (.r (.r (.r (.r (.r (.r (.r (.r (.r .nil)))))))))))))))))))))))) (.cons _ _ _ _ _ (DLes.refl _) .nil) (by kernel_rfl) (by simp only [go_sem, qa, qb, qc, qd, qe, qf, qg, qh, qi, qj, qk, ↓reduceIte, resQ_tmp, resQ_cell, resQ_nil, retD_one, retD_two, retD_three, retD_none] <;> first | rfl | exact ⟨rfl, rfl⟩ | (try simp [R.val, retD_one, retD_two, retD_three, retD_none]))
      · have hh := bnd'_some h; clear h; obtain ⟨c3227, h3226, h⟩ := hh
        (try dsimp only at h)
        refine W_sound tab_ok mixed 32 _ _ _ ?_
        simp -implicitDefEqProofs only [go_sem, qa, qb, qc, qd, qe, qf, qg, qh, qi, qj, qk, ↓reduceIte, h3217, h3220, h3223]
        repeat with_reducible refine ⟨by first | kernel_rfl | decide, ?_⟩
        refine Wp_callD [] (c71_a N _ _ h3226) rfl rfl rfl (by first | rfl | (simp only [go_sem, qa, qb, qc, qd, qe, qf, qg, qh, qi, qj, qk, ↓reduceIte, h3217, h3220, h3223] <;> rfl)) rfl (by kernel_rfl) ?_
        refine W_sound tab_ok mixed 9 _ _ _ ?_
        simp -implicitDefEqProofs only [go_sem, qa, qb, qc, qd, qe, qf, qg, qh, qi, qj, qk, ↓reduceIte, h3217, h3220, h3223]
        repeat with_reducible refine ⟨by first | kernel_rfl | decide, ?_⟩
        have hh := bnd'_some h; clear h; obtain ⟨o3396, h3397, h3398⟩ := hh
        refine Wp_cut (fun s => ∃ c3392, (.inr c3392) = o3396 ∧ s = ⟨[], [(0, .dead), (1, .dead), (2, .dead), (6, .dead), (7, .dead), (8, .ptr 1 0), (9, .dead), (10, .dead), (11, .dead), (12, .dead), (13, .dead), (20, .dead), (27, .dead), (28, .dead), (29, .dead), (30, .dead), (42, .dead), (43, .dead), (44, .dead), (45, .dead), (46, .dead), (50, .dead), (58, .dead), (69, .dead)], [(0, .p c3216), (1, .p c3392)], 2, []⟩) ?_ ?_
        · refine Wp_block ?_
          refine Wp_loopG (fun n s => ∃ x3309, ∃ c3310, m61_2_L0 N x3213 n3214 x3215 c3216 n x3309 c3310 = some o3396 ∧ s = ⟨[], [(0, .v (.int .i64 x3213)), (1, .dead), (2, .v (.int .i64 x3215)), (6, .dead), (7, .dead), (8, .ptr 1 0), (9, .dead), (10, .dead), (11, .dead), (12, .dead), (13, .dead), (20, .dead), (27, .sl false 0 0 n3214 1), (28, .v (.int .i64 ((n3214 : Nat) : Int))), (29, .v (.int .i64 x3309)), (30, .dead), (42, .dead), (43, .dead), (44, .dead), (45, .dead), (46, .dead), (50, .dead), (58, .dead), (69, .dead)], [(0, .p c3216), (1, .p c3310)], 2, []⟩) N _ ((Wk_le (.r (.k (.r (.k (.k (.r (.r (.r (.r (.r (.k (.k (.r (.r (.r (.r (.r (.r (.r (.r (.r (.r (.r (.r .nil)))))))))))))))))))))))) (OLe.refl _)).trans (cmpS_ok (st' := ⟨[], [(0, .v (.int .i64 x3213)), (1, .dead), (2, .v (.int .i64 x3215)), (6, .dead), (7, .dead), (8, .ptr 1 0), (9, .dead), (10, .dead), (11, .dead), (12, .dead), (13, .dead), (20, .dead), (27, .sl false 0 0 n3214 1), (28, .v (.int .i64 ((n3214 : Nat) : Int))), (29, .v (.int .i64 0)), (30, .dead), (42, .dead), (43, .dead), (44, .dead), (45, .dead), (46, .dead), (50, .dead), (58, .dead), (69, .dead)], [(0, .p c3216), (1, .p c3227)], 2, []⟩) (by kernel_rfl))) ⟨_, _, h3397, rfl⟩ ?_
          clear h3397
          rintro n _ ⟨x3309, c3310, h3397, rfl⟩
          cases n with
          | zero => cases h3397
          | succ n =>
            rw [m61_2_L0] at h3397
            have hh := brn_some h3397; clear h3397; rcases hh with ⟨h3311, h3397⟩ | ⟨h3311, h3397⟩
            · have hh := grd_some h3397; clear h3397; obtain ⟨⟨g3312, g3313⟩, h3397⟩ := hh
              have hh := grd_some h3397; clear h3397; obtain ⟨g3314, h3397⟩ := hh
              have hh := getL_some h3397; clear h3397; obtain ⟨n3316, c3317, h3315, h3397⟩ := hh
              have hh := brn_some h3397; clear h3397; rcases hh with ⟨h3318, h3397⟩ | ⟨h3318, h3397⟩
              · refine W_sound tab_ok mixed 38 _ _ _ ?_
                simp -implicitDefEqProofs only [go_sem, qa, qb, qc, qd, qe, qf, qg, qh, qi, qj, qk, ↓reduceIte, h3217, h3220, h3223, h3311, g3312, g3313, g3314, h3315, h3318]
                repeat with_reducible refine ⟨by first | kernel_rfl | decide, ?_⟩
                obtain rfl := Option.some.inj h3397
                (try dsimp only at h3398)
                obtain rfl := Option.some.inj h3398
                exact finD (e2 := [(0, .dead), (1, .dead), (2, .dead), (6, .v (.fn 999999 [.bool true])), (7, .v (.int .i64 5)), (8, .dead), (9, .dead), (10, .dead), (11, .dead), (12, .dead), (13, .dead), (20, .dead), (27, .dead), (28, .dead), (29, .dead), (30, .dead), (42, .dead), (43, .dead), (44, .dead), (45, .dead), (46, .dead), (50, .dead), (58, .dead), (69, .dead)]) (ob2 := [(0, .p c3216), (1, .p c3310)]) (st' := ⟨[], [(0, .dead), (1, .dead), (2, .dead), (6, .v (.fn 999999 [.bool true])), (7, .v (.int .i64 5)), (8, .dead), (9, .dead), (10, .dead), (11, .dead), (12, .dead), (13, .dead), (20, .dead), (27, .dead), (28, .dead), (29, .dead), (30, .dead), (42, .dead), (43, .dead), (44, .dead), (45, .dead), (46, .dead), (50, .dead), (58, .dead), (69, .dead)], [(0, .p c3216)], 1, []⟩) (.k (.r (.k (.r (.r (.k (.k (.k (.r (.r (.r (.r (.k (.k (.k (.k (.k (.r (.r (.r (.r (.r (.r (.r .nil)))))))))))))))))))))))) (.cons _ _ _ _ _ (DLes.refl _) (.cons _ _ _ _ _ (DLes.refl _) .nil)) (by kernel_rfl) (by simp only [go_sem, qa, qb, qc, qd, qe, qf, qg, qh, qi, qj, qk, ↓reduceIte, resQ_tmp, resQ_cell, resQ_nil, retD_one, retD_two, retD_three, retD_none] <;> first | rfl | exact ⟨rfl, rfl⟩ | (try simp [R.val, retD_one, retD_two, retD_three, retD_none]))
              · have hh := brn_some h3397; clear h3397; rcases hh with ⟨h3321, h3397⟩ | ⟨h3321, h3397⟩
                · refine W_sound tab_ok mixed 38 _ _ _ ?_
                  simp -implicitDefEqProofs only [go_sem, qa, qb, qc, qd, qe, qf, qg, qh, qi, qj, qk, ↓reduceIte, h3217, h3220, h3223, h3311, g3312, g3313, g3314, h3315, h3318, h3321]
                  repeat with_reducible refine ⟨by first | kernel_rfl | decide, ?_⟩
                  obtain rfl := Option.some.inj h3397
                  (try dsimp only at h3398)
                  obtain rfl := Option.some.inj h3398
                  exact finD (e2 := [(0, .dead), (1, .dead), (2, .dead), (6, .v (.fn 999999 [.bool true])), (7, .v (.int .i64 5)), (8, .dead), (9, .dead), (10, .dead), (11, .dead), (12, .dead), (13, .dead), (20, .dead), (27, .dead), (28, .dead), (29, .dead), (30, .dead), (42, .dead), (43, .dead), (44, .dead), (45, .dead), (46, .dead), (50, .dead), (58, .dead), (69, .dead)]) (ob2 := [(0, .p c3216), (1, .p c3310)]) (st' := ⟨[], [(0, .dead), (1, .dead), (2, .dead), (6, .v (.fn 999999 [.bool true])), (7, .v (.int .i64 5)), (8, .dead), (9, .dead), (10, .dead), (11, .dead), (12, .dead), (13, .dead), (20, .dead), (27, .dead), (28, .dead), (29, .dead), (30, .dead), (42, .dead), (43, .dead), (44, .dead), (45, .dead), (46, .dead), (50, .dead), (58, .dead), (69, .dead)], [(0, .p c3216)], 1, []⟩) (.k (.r (.k (.r (.r (.k (.k (.k (.r (.r (.r (.r (.k (.k (.k (.k (.k (.r (.r (.r (.r (.r (.r (.r .nil)))))))))))))))))))))))) (.cons _ _ _ _ _ (DLes.refl _) (.cons _ _ _ _ _ (DLes.refl _) .nil)) (by kernel_rfl) (by simp only [go_sem, qa, qb, qc, qd, qe, qf, qg, qh, qi, qj, qk, ↓reduceIte, resQ_tmp, resQ_cell, resQ_nil, retD_one, retD_two, retD_three, retD_none] <;> first | rfl | exact ⟨rfl, rfl⟩ | (try simp [R.val, retD_one, retD_two, retD_three, retD_none]))
                · refine W_sound tab_ok mixed 38 _ _ _ ?_
                  simp -implicitDefEqProofs only [go_sem, qa, qb, qc, qd, qe, qf, qg, qh, qi, qj, qk, ↓reduceIte, h3217, h3220, h3223, h3311, g3312, g3313, g3314, h3315, h3318, h3321]
                  repeat with_reducible refine ⟨by first | kernel_rfl | decide, ?_⟩
                  have hh := bnd'_some h3397; clear h3397; obtain ⟨o3399, h3400, h3401⟩ := hh
                  refine Wp_cut (fun s => ∃ c3390, (.inr c3390) = o3399 ∧ s = ⟨[], [(0, .v (.int .i64 x3213)), (1, .dead), (2, .v (.int .i64 x3215)), (6, .dead), (7, .dead), (8, .ptr 1 0), (9, .dead), (10, .dead), (11, .dead), (12, .dead), (13, .dead), (20, .dead), (27, .sl false 0 0 n3214 1), (28, .v (.int .i64 ((n3214 : Nat) : Int))), (29, .v (.int .i64 x3309)), (30, .dead), (42, .dead), (43, .dead), (44, .dead), (45, .dead), (46, .dead), (50, .dead), (58, .dead), (69, .dead)], [(0, .p c3216), (1, .p c3390)], 2, []⟩) ?_ ?_
                  · refine Wp_block ?_
                    refine Wp_loopG (fun n s => ∃ x3356, ∃ c3357, m61_2_L1 N x3213 n3214 x3215 c3216 x3309 n3316 c3317 n x3356 c3357 = some o3399 ∧ s = ⟨[], [(0, .v (.int .i64 x3213)), (1, .dead), (2, .v (.int .i64 x3215)), (6, .dead), (7, .dead), (8, .ptr 1 0), (9, .v (.int .i64 x3309)), (10, .dead), (11, .dead), (12, .dead), (13, .dead), (20, .dead), (27, .sl false 0 0 n3214 1), (28, .v (.int .i64 ((n3214 : Nat) : Int))), (29, .v (.int .i64 x3309)), (30, .dead), (42, .dead), (43, .v (.lst false n3316 c3317)), (44, .v (.int .i64 ((n3316 : Nat) : Int))), (45, .v (.int .i64 x3356)), (46, .dead), (50, .dead), (58, .dead), (69, .dead)], [(0, .p c3216), (1, .p c3357)], 2, []⟩) N _ ((Wk_le (.r (.r (.r (.r (.r (.r (.r (.k (.r (.r (.r (.r (.r (.r (.r (.k (.k (.r (.r (.r (.r (.r (.r (.r .nil)))))))))))))))))))))))) (OLe.refl _)).trans (cmpS_ok (st' := ⟨[], [(0, .v (.int .i64 x3213)), (1, .dead), (2, .v (.int .i64 x3215)), (6, .dead), (7, .dead), (8, .ptr 1 0), (9, .v (.int .i64 x3309)), (10, .dead), (11, .dead), (12, .dead), (13, .dead), (20, .dead), (27, .sl false 0 0 n3214 1), (28, .v (.int .i64 ((n3214 : Nat) : Int))), (29, .v (.int .i64 x3309)), (30, .dead), (42, .dead), (43, .v (.lst false n3316 c3317)), (44, .v (.int .i64 ((n3316 : Nat) : Int))), (45, .v (.int .i64 0)), (46, .dead), (50, .dead), (58, .dead), (69, .dead)], [(0, .p c3216), (1, .p c3310)], 2, []⟩) (by kernel_rfl))) ⟨_, _, h3400, rfl⟩ ?_
                    clear h3400
                    rintro n _ ⟨x3356, c3357, h3400, rfl⟩
                    cases n with
                    | zero => cases h3400
                    | succ n =>
                      rw [m61_2_L1] at h3400
                      have hh := brn_some h3400; clear h3400; rcases hh with ⟨h3358, h3400⟩ | ⟨h3358, h3400⟩
                      · have hh := grd_some h3400; clear h3400; obtain ⟨⟨g3359, g3360⟩, h3400⟩ := hh
                        have hh := grd_some h3400; clear h3400; obtain ⟨g3361, h3400⟩ := hh
                        have hh := getI_some h3400; clear h3400; obtain ⟨x3363, h3362, h3400⟩ := hh
                        have hh := brn_some h3400; clear h3400; rcases hh with ⟨h3364, h3400⟩ | ⟨h3364, h3400⟩
                        · refine W_sound tab_ok mixed 38 _ _ _ ?_
                          simp -implicitDefEqProofs only [go_sem, qa, qb, qc, qd, qe, qf, qg, qh, qi, qj, qk, ↓reduceIte, h3217, h3220, h3223, h3311, g3312, g3313, g3314, h3315, h3318, h3321, h3358, g3359, g3360, g3361, h3362, h3364]
                          repeat with_reducible refine ⟨by first | kernel_rfl | decide, ?_⟩
                          obtain rfl := Option.some.inj h3400
                          (try dsimp only at h3401)
                          obtain rfl := Option.some.inj h3401
                          (try dsimp only at h3398)
                          obtain rfl := Option.some.inj h3398
                          exact finD (e2 := [(0, .dead), (1, .dead), (2, .dead), (6, .v (.fn 999999 [.bool true])), (7, .v (.int .i64 2)), (8, .dead), (9, .dead), (10, .dead), (11, .dead), (12, .dead), (13, .dead), (20, .dead), (27, .dead), (28, .dead), (29, .dead), (30, .dead), (42, .dead), (43, .dead), (44, .dead), (45, .dead), (46, .dead), (50, .dead), (58, .dead), (69, .dead)]) (ob2 := [(0, .p c3216), (1, .p c3357)]) (st' := ⟨[], [(0, .dead), (1, .dead), (2, .dead), (6, .v (.fn 999999 [.bool true])), (7, .v (.int .i64 2)), (8, .dead), (9, .dead), (10, .dead), (11, .dead), (12, .dead), (13, .dead), (20, .dead), (27, .dead), (28, .dead), (29, .dead), (30, .dead), (42, .dead), (43, .dead), (44, .dead), (45, .dead), (46, .dead), (50, .dead), (58, .dead), (69, .dead)], [(0, .p c3216)], 1, []⟩) (.k (.r (.k (.r (.r (.k (.k (.r (.k (.k (.r (.r (.k (.k (.k (.r (.r (.k (.k (.k (.k (.k (.r (.r .nil)))))))))))))))))))))))) (.cons _ _ _ _ _ (DLes.refl _) (.cons _ _ _ _ _ (DLes.refl _) .nil)) (by kernel_rfl) (by simp only [go_sem, qa, qb, qc, qd, qe, qf, qg, qh, qi, qj, qk, ↓reduceIte, resQ_tmp, resQ_cell, resQ_nil, retD_one, retD_two, retD_three, retD_none] <;> first | rfl | exact ⟨rfl, rfl⟩ | (try simp [R.val, retD_one, retD_two, retD_three, retD_none]))
                        · have hh := brn_some h3400; clear h3400; rcases hh with ⟨h3367, h3400⟩ | ⟨h3367, h3400⟩
                          · refine W_sound tab_ok mixed 38 _ _ _ ?_
                            simp -implicitDefEqProofs only [go_sem, qa, qb, qc, qd, qe, qf, qg, qh, qi, qj, qk, ↓reduceIte, h3217, h3220, h3223, h3311, g3312, g3313, g3314, h3315, h3318, h3321, h3358, g3359, g3360, g3361, h3362, h3364, h3367]
                            repeat with_reducible refine ⟨by first | kernel_rfl | decide, ?_⟩
                            obtain rfl := Option.some.inj h3400
                            (try dsimp only at h3401)
                            obtain rfl := Option.some.inj h3401
                            (try dsimp only at h3398)
                            obtain rfl := Option.some.inj h3398
                            exact finD (e2 := [(0, .dead), (1, .dead), (2, .dead), (6, .v (.fn 999999 [.bool true])), (7, .v (.int .i64 2)), (8, .dead), (9, .dead), (10, .dead), (11, .dead), (12, .dead), (13, .dead), (20, .dead), (27, .dead), (28, .dead), (29, .dead), (30, .dead), (42, .dead), (43, .dead), (44, .dead), (45, .dead), (46, .dead), (50, .dead), (58, .dead), (69, .dead)]) (ob2 := [(0, .p c3216), (1, .p c3357)]) (st' := ⟨[], [(0, .dead), (1, .dead), (2, .dead), (6, .v (.fn 999999 [.bool true])), (7, .v (.int .i64 2)), (8, .dead), (9, .dead), (10, .dead), (11, .dead), (12, .dead), (13, .dead), (20, .dead), (27, .dead), (28, .dead), (29, .dead), (30, .dead), (42, .dead), (43, .dead), (44, .dead), (45, .dead), (46, .dead), (50, .dead), (58, .dead), (69, .dead)], [(0, .p c3216)], 1, []⟩) (.k (.r (.k (.r (.r (.k (.k (.r (.k (.k (.r (.r (.k (.k (.k (.r (.r (.k (.k (.k (.k (.k (.r (.r .nil)))))))))))))))))))))))) (.cons _ _ _ _ _ (DLes.refl _) (.cons _ _ _ _ _ (DLes.refl _) .nil)) (by kernel_rfl) (by simp only [go_sem, qa, qb, qc, qd, qe, qf, qg, qh, qi, qj, qk, ↓reduceIte, resQ_tmp, resQ_cell, resQ_nil, retD_one, retD_two, retD_three, retD_none] <;> first | rfl | exact ⟨rfl, rfl⟩ | (try simp [R.val, retD_one, retD_two, retD_three, retD_none]))
                          · have hh := grd_some h3400; clear h3400; obtain ⟨g3370, h3400⟩ := hh
                            have hh := grd_some h3400; clear h3400; obtain ⟨g3371, h3400⟩ := hh
                            have hh := getI_some h3400; clear h3400; obtain ⟨x3373, h3372, h3400⟩ := hh
                            have hh := grd_some h3400; clear h3400; obtain ⟨g3374, h3400⟩ := hh
                            have hh := brn_some h3400; clear h3400; rcases hh with ⟨h3375, h3400⟩ | ⟨h3375, h3400⟩
                            · refine W_sound tab_ok mixed 53 _ _ _ ?_
                              simp -implicitDefEqProofs only [go_sem, qa, qb, qc, qd, qe, qf, qg, qh, qi, qj, qk, ↓reduceIte, h3217, h3220, h3223, h3311, g3312, g3313, g3314, h3315, h3318, h3321, h3358, g3359, g3360, g3361, h3362, h3364, h3367, g3370, g3371, h3372, g3374, h3375]
                              repeat with_reducible refine ⟨by first | kernel_rfl | decide, ?_⟩
                              obtain rfl := Option.some.inj h3400
                              (try dsimp only at h3401)
                              obtain rfl := Option.some.inj h3401
                              (try dsimp only at h3398)
                              obtain rfl := Option.some.inj h3398
                              exact finD (e2 := [(0, .dead), (1, .dead), (2, .dead), (6, .v (.fn 999999 [.bool true])), (7, .v (.int .i64 6)), (8, .dead), (9, .dead), (10, .dead), (11, .dead), (12, .dead), (13, .dead), (20, .dead), (27, .dead), (28, .dead), (29, .dead), (30, .dead), (42, .dead), (43, .dead), (44, .dead), (45, .dead), (46, .dead), (50, .dead), (58, .dead), (69, .dead)]) (ob2 := [(0, .p c3216), (1, .p c3357)]) (st' := ⟨[], [(0, .dead), (1, .dead), (2, .dead), (6, .v (.fn 999999 [.bool true])), (7, .v (.int .i64 6)), (8, .dead), (9, .dead), (10, .dead), (11, .dead), (12, .dead), (13, .dead), (20, .dead), (27, .dead), (28, .dead), (29, .dead), (30, .dead), (42, .dead), (43, .dead), (44, .dead), (45, .dead), (46, .dead), (50, .dead), (58, .dead), (69, .dead)], [(0, .p c3216)], 1, []⟩) (.k (.r (.k (.r (.r (.k (.k (.r (.k (.k (.r (.r (.k (.k (.k (.r (.r (.k (.k (.k (.k (.k (.k (.r .nil)))))))))))))))))))))))) (.cons _ _ _ _ _ (DLes.refl _) (.cons _ _ _ _ _ (DLes.refl _) .nil)) (by kernel_rfl) (by simp only [go_sem, qa, qb, qc, qd, qe, qf, qg, qh, qi, qj, qk, ↓reduceIte, resQ_tmp, resQ_cell, resQ_nil, retD_one, retD_two, retD_three, retD_none] <;> first | rfl | exact ⟨rfl, rfl⟩ | (try simp [R.val, retD_one, retD_two, retD_three, retD_none]))
                            · have hh := grd_some h3400; clear h3400; obtain ⟨g3378, h3400⟩ := hh
                              have hh := grd_some h3400; clear h3400; obtain ⟨g3379, h3400⟩ := hh
                              have hh := getI_some h3400; clear h3400; obtain ⟨x3381, h3380, h3400⟩ := hh
                              have hh := brn_some h3400; clear h3400; rcases hh with ⟨h3382, h3400⟩ | ⟨h3382, h3400⟩
                              · refine W_sound tab_ok mixed 68 _ _ _ ?_
                                simp -implicitDefEqProofs only [go_sem, qa, qb, qc, qd, qe, qf, qg, qh, qi, qj, qk, ↓reduceIte, h3217, h3220, h3223, h3311, g3312, g3313, g3314, h3315, h3318, h3321, h3358, g3359, g3360, g3361, h3362, h3364, h3367, g3370, g3371, h3372, g3374, h3375, g3378, g3379, h3380, h3382]
                                repeat with_reducible refine ⟨by first | kernel_rfl | decide, ?_⟩
                                obtain rfl := Option.some.inj h3400
                                (try dsimp only at h3401)
                                obtain rfl := Option.some.inj h3401
                                (try dsimp only at h3398)
                                obtain rfl := Option.some.inj h3398
                                exact finD (e2 := [(0, .dead), (1, .dead), (2, .dead), (6, .v (.fn 999999 [.bool true])), (7, .v (.int .i64 13)), (8, .dead), (9, .dead), (10, .dead), (11, .dead), (12, .dead), (13, .dead), (20, .dead), (27, .dead), (28, .dead), (29, .dead), (30, .dead), (42, .dead), (43, .dead), (44, .dead), (45, .dead), (46, .dead), (50, .dead), (58, .dead), (69, .dead)]) (ob2 := [(0, .p c3216), (1, .p c3357)]) (st' := ⟨[], [(0, .dead), (1, .dead), (2, .dead), (6, .v (.fn 999999 [.bool true])), (7, .v (.int .i64 13)), (8, .dead), (9, .dead), (10, .dead), (11, .dead), (12, .dead), (13, .dead), (20, .dead), (27, .dead), (28, .dead), (29, .dead), (30, .dead), (42, .dead), (43, .dead), (44, .dead), (45, .dead), (46, .dead), (50, .dead), (58, .dead), (69, .dead)], [(0, .p c3216)], 1, []⟩) (.k (.r (.k (.r (.r (.k (.k (.r (.k (.k (.r (.r (.k (.k (.k (.r (.r (.k (.k (.k (.k (.k (.k (.k .nil)))))))))))))))))))))))) (.cons _ _ _ _ _ (DLes.refl _) (.cons _ _ _ _ _ (DLes.refl _) .nil)) (by kernel_rfl) (by simp only [go_sem, qa, qb, qc, qd, qe, qf, qg, qh, qi, qj, qk, ↓reduceIte, resQ_tmp, resQ_cell, resQ_nil, retD_one, retD_two, retD_three, retD_none] <;> first | rfl | exact ⟨rfl, rfl⟩ | (try simp [R.val, retD_one, retD_two, retD_three, retD_none]))
                              · have hh := bnd'_some h3400; clear h3400; obtain ⟨⟨p3385, c3387⟩, h3386, h3400⟩ := hh
                                (try dsimp only at h3400)
                                refine W_sound tab_ok mixed 68 _ _ _ ?_
                                simp -implicitDefEqProofs only [go_sem, qa, qb, qc, qd, qe, qf, qg, qh, qi, qj, qk, ↓reduceIte, h3217, h3220, h3223, h3311, g3312, g3313, g3314, h3315, h3318, h3321, h3358, g3359, g3360, g3361, h3362, h3364, h3367, g3370, g3371, h3372, g3374, h3375, g3378, g3379, h3380, h3382]
                                repeat with_reducible refine ⟨by first | kernel_rfl | decide, ?_⟩
                                refine Wp_callD [1] (c72 N _ _ _ _ _ _ h3386) rfl rfl rfl (by first | rfl | (simp only [go_sem, qa, qb, qc, qd, qe, qf, qg, qh, qi, qj, qk, ↓reduceIte, h3217, h3220, h3223, h3311, g3312, g3313, g3314, h3315, h3318, h3321, h3358, g3359, g3360, g3361, h3362, h3364, h3367, g3370, g3371, h3372, g3374, h3375, g3378, g3379, h3380, h3382] <;> rfl)) rfl (by kernel_rfl) ?_
                                have hh := getT0_some h3400; clear h3400; obtain ⟨h3388, h3400⟩ := hh
                                refine W_sound tab_ok mixed 6 _ _ _ ?_
                                simp -implicitDefEqProofs only [go_sem, qa, qb, qc, qd, qe, qf, qg, qh, qi, qj, qk, ↓reduceIte, h3217, h3220, h3223, h3311, g3312, g3313, g3314, h3315, h3318, h3321, h3358, g3359, g3360, g3361, h3362, h3364, h3367, g3370, g3371, h3372, g3374, h3375, g3378, g3379, h3380, h3382, h3388]
                                repeat with_reducible refine ⟨by first | kernel_rfl | decide, ?_⟩
                                exact cutQ _ ((Wk_le (.r (.r (.r (.r (.r (.r (.r (.r (.k (.k (.r (.r (.r (.r (.r (.r (.r (.r (.r (.r (.k (.k (.k (.k .nil)))))))))))))))))))))))) (OLe.refl _)).trans (cmpS_ok (st' := ⟨[], [(0, .v (.int .i64 x3213)), (1, .dead), (2, .v (.int .i64 x3215)), (6, .dead), (7, .dead), (8, .ptr 1 0), (9, .v (.int .i64 x3309)), (10, .dead), (11, .dead), (12, .dead), (13, .dead), (20, .dead), (27, .sl false 0 0 n3214 1), (28, .v (.int .i64 ((n3214 : Nat) : Int))), (29, .v (.int .i64 x3309)), (30, .dead), (42, .dead), (43, .v (.lst false n3316 c3317)), (44, .v (.int .i64 ((n3316 : Nat) : Int))), (45, .v (.int .i64 (IntKind.i64.wrap (x3356 + 1)))), (46, .dead), (50, .dead), (58, .dead), (69, .dead)], [(0, .p c3216), (1, .p c3387)], 2, []⟩) (by kernel_rfl))) ⟨n, Nat.lt_succ_self n, _, _, h3400, rfl⟩
                      · refine W_sound tab_ok mixed 7 _ _ _ ?_
                        simp -implicitDefEqProofs only [go_sem, qa, qb, qc, qd, qe, qf, qg, qh, qi, qj, qk, ↓reduceIte, h3217, h3220, h3223, h3311, g3312, g3313, g3314, h3315, h3318, h3321, h3358]
                        repeat with_reducible refine ⟨by first | kernel_rfl | decide, ?_⟩
                        obtain rfl := Option.some.inj h3400
                        exact cutQ _ ((Wk_le (.r (.r (.r (.r (.r (.r (.k (.r (.r (.r (.r (.r (.r (.r (.r (.r (.r (.k (.k (.k (.k (.r (.r (.r .nil)))))))))))))))))))))))) (OLe.refl _)).trans (cmpS_ok (st' := ⟨[], [(0, .v (.int .i64 x3213)), (1, .dead), (2, .v (.int .i64 x3215)), (6, .dead), (7, .dead), (8, .ptr 1 0), (9, .dead), (10, .dead), (11, .dead), (12, .dead), (13, .dead), (20, .dead), (27, .sl false 0 0 n3214 1), (28, .v (.int .i64 ((n3214 : Nat) : Int))), (29, .v (.int .i64 x3309)), (30, .dead), (42, .dead), (43, .dead), (44, .dead), (45, .dead), (46, .dead), (50, .dead), (58, .dead), (69, .dead)], [(0, .p c3216), (1, .p c3357)], 2, []⟩) (by kernel_rfl))) ⟨_, rfl, rfl⟩
                  · rintro _ ⟨c3390, rfl, rfl⟩
                    (try dsimp only at h3401)
                    refine W_sound tab_ok mixed 5 _ _ _ ?_
                    simp -implicitDefEqProofs only [go_sem, qa, qb, qc, qd, qe, qf, qg, qh, qi, qj, qk, ↓reduceIte, h3217, h3220, h3223, h3311, g3312, g3313, g3314, h3315, h3318, h3321]
                    repeat with_reducible refine ⟨by first | kernel_rfl | decide, ?_⟩
                    exact cutQ _ ((Wk_le (.r (.r (.r (.r (.r (.r (.r (.r (.r (.r (.r (.r (.r (.r (.r (.r (.r (.r (.r (.r (.r (.r (.r (.r .nil)))))))))))))))))))))))) (OLe.refl _)).trans (cmpS_ok (st' := ⟨[], [(0, .v (.int .i64 x3213)), (1, .dead), (2, .v (.int .i64 x3215)), (6, .dead), (7, .dead), (8, .ptr 1 0), (9, .dead), (10, .dead), (11, .dead), (12, .dead), (13, .dead), (20, .dead), (27, .sl false 0 0 n3214 1), (28, .v (.int .i64 ((n3214 : Nat) : Int))), (29, .v (.int .i64 (IntKind.i64.wrap (x3309 + 1)))), (30, .dead), (42, .dead), (43, .dead), (44, .dead), (45, .dead), (46, .dead), (50, .dead), (58, .dead), (69, .dead)], [(0, .p c3216), (1, .p c3390)], 2, []⟩) (by kernel_rfl))) ⟨n, Nat.lt_succ_self n, _, _, h3401, rfl⟩
            · refine W_sound tab_ok mixed 7 _ _ _ ?_
              simp -implicitDefEqProofs only [go_sem, qa, qb, qc, qd, qe, qf, qg, qh, qi, qj, qk, ↓reduceIte, h3217, h3220, h3223, h3311]
              repeat with_reducible refine ⟨by first | kernel_rfl | decide, ?_⟩
              obtain rfl := Option.some.inj h3397
              exact cutQ _ ((Wk_le (.k (.r (.k (.r (.r (.r (.r (.r (.r (.r (.r (.r (.k (.k (.k (.k (.r (.r (.r (.r (.r (.r (.r (.r .nil)))))))))))))))))))))))) (OLe.refl _)).trans (cmpS_ok (st' := ⟨[], [(0, .dead), (1, .dead), (2, .dead), (6, .dead), (7, .dead), (8, .ptr 1 0), (9, .dead), (10, .dead), (11, .dead), (12, .dead), (13, .dead), (20, .dead), (27, .dead), (28, .dead), (29, .dead), (30, .dead), (42, .dead), (43, .dead), (44, .dead), (45, .dead), (46, .dead), (50, .dead), (58, .dead), (69, .dead)], [(0, .p c3216), (1, .p c3310)], 2, []⟩) (by kernel_rfl))) ⟨_, rfl, rfl⟩
        · rintro _ ⟨c3392, rfl, rfl⟩
          (try dsimp only at h3398)
          refine W_sound tab_ok mixed 8 _ _ _ ?_
          simp -implicitDefEqProofs only [go_sem, qa, qb, qc, qd, qe, qf, qg, qh, qi, qj, qk, ↓reduceIte, h3217, h3220, h3223]
          repeat with_reducible refine ⟨by first | kernel_rfl | decide, ?_⟩
          obtain rfl := Option.some.inj h3398
          exact finD (e2 := [(0, .dead), (1, .dead), (2, .dead), (6, .ptr 1 0), (7, .v (.int .i64 0)), (8, .dead), (9, .dead), (10, .dead), (11, .dead), (12, .dead), (13, .dead), (20, .dead), (27, .dead), (28, .dead), (29, .dead), (30, .dead), (42, .dead), (43, .dead), (44, .dead), (45, .dead), (46, .dead), (50, .dead), (58, .dead), (69, .dead)]) (ob2 := [(0, .p c3216), (1, .p c3392)]) (st' := ⟨[], [(0, .dead), (1, .dead), (2, .dead), (6, .ptr 1 0), (7, .v (.int .i64 0)), (8, .dead), (9, .dead), (10, .dead), (11, .dead), (12, .dead), (13, .dead), (20, .dead), (27, .dead), (28, .dead), (29, .dead), (30, .dead), (42, .dead), (43, .dead), (44, .dead), (45, .dead), (46, .dead), (50, .dead), (58, .dead), (69, .dead)], [(0, .p c3216), (1, .p c3392)], 2, []⟩) (.r (.r (.r (.r (.r (.k (.r (.r (.r (.r (.r (.r (.r (.r (.r (.r (.r (.r (.r (.r (.r (.r (.r (.r .nil)))))))))))))))))))))))) (.cons _ _ _ _ _ (DLes.refl _) (.cons _ _ _ _ _ (DLes.refl _) .nil)) (by kernel_rfl) (by simp only [go_sem, qa, qb, qc, qd, qe, qf, qg, qh, qi, qj, qk, ↓reduceIte, resQ_tmp, resQ_cell, resQ_nil, retD_one, retD_two, retD_three, retD_none] <;> first | rfl | exact ⟨rfl, rfl⟩ | (try simp [R.val, retD_one, retD_two, retD_three, retD_none]))
theorem c61_2_a (N : Nat) (x3213 : Int) (n3214 : Nat) (x3215 : Int) (c3216 : List PV) (x3218 : Int) (c3219 : List PV) (h : m61_2 N x3213 n3214 x3215 c3216 = some (.inl (x3218, c3219))) : V.Fn Tryd.prog 61 1 [.v (.int .i64 x3213), .sl false 0 0 n3214 1, .v (.int .i64 x3215)] [(0, .p c3216)] (fun d ob' => d = .v (.tup [(.fn 999999 [.bool true]), (.int .i64 x3218)]) ∧ ob' = [(0, .p c3219)]) := c61_2 N x3213 n3214 x3215 c3216 _ h
theorem c61_2_b (N : Nat) (x3213 : Int) (n3214 : Nat) (x3215 : Int) (c3216 : List PV) (x3393 : Int) (c3394 : List PV) (c3395 : List PV) (h : m61_2 N x3213 n3214 x3215 c3216 = some (.inr (x3393, c3394, c3395))) : V.Fn Tryd.prog 61 1 [.v (.int .i64 x3213), .sl false 0 0 n3214 1, .v (.int .i64 x3215)] [(0, .p c3216)] (fun d ob' => d = .tup [.ptr 1 0, .v (.int .i64 x3393)] ∧ ob' = [(0, .p c3394), (1, .p c3395)]) := c61_2 N x3213 n3214 x3215 c3216 _ h
def m16 (N : Nat) : Option PV := some (.bool true)
theorem c16 (N : Nat) (r : PV) (h : m16 N = some r) : FnP Tryd.prog 16 [] r := by
  obtain rfl := Option.some.inj h
  exact k92
def m83 (N : Nat) (x1235 : Int) (p1236 : PV) : Option (((Int × Int) ⊕ (Int × Int × List PV))) :=
  getL p1236 fun n1238 c1239 =>
  brn (decide (((n1238 : Nat) : Int) > 0)) (
    grd (0 < ((n1238 : Nat) : Int)) <|
    grd (0 < List.length c1239) <|
    getL (gp c1239 0) fun n1244 c1245 =>
    bnd' (m61 N x1235 (.lst false n1238 c1239) ((n1244 : Nat) : Int)) fun o =>
    match o with
    | .inl x1247 =>
      some (.inl (((n1244 : Nat) : Int), x1247))
    | .inr (x1250, c1251) =>
      some (.inr (((n1244 : Nat) : Int), x1250, c1251))) (
    bnd' (m61 N x1235 (.lst false n1238 c1239) 0) fun o =>
    match o with
    | .inl x1256 =>
      some (.inl (0, x1256))
    | .inr (x1259, c1260) =>
      some (.inr (0, x1259, c1260)))
theorem c83 (N : Nat) (x1235 : Int) (p1236 : PV) (r : ((Int × Int) ⊕ (Int × Int × List PV)))  (h : m83 N x1235 p1236 = some r) : V.Fn Tryd.prog 83 0 [.v (.int .i64 x1235), .v p1236] [] (fun d ob' => match (generalizing := false) r with | .inl (x1248, x1249) => d = .v (.tup [(.fn 999999 [.bool true]), (.int .i64 x1248), (.int .i64 x1249)]) ∧ ob' = [] | .inr (x1252, x1253, c1254) => d = .tup [.ptr 0 0, .v (.int .i64 x1252), .v (.int .i64 x1253)] ∧ ob' = [(0, .p c1254)]) := by
  unfold m83 at h
  refine Fn_of (sz := 27) tab_ok [0, 1, 4, 5, 6, 7, 8, 9, 12] [.tmp 4, .tmp 5, .tmp 6] Tryd.func83 rfl rfl rfl (by simp) ?_
  simp only [initSt, initEnv, List.map_cons, List.map_nil, List.getD_cons_zero, List.getD_cons_succ, List.getD_nil]
  have hh := getL_some h; clear h; obtain ⟨n1238, c1239, h1237, h⟩ := hh
  have hh := brn_some h; clear h; rcases hh with ⟨h1240, h⟩ | ⟨h1240, h⟩
  · have hh := grd_some h; clear h; obtain ⟨g1241, h⟩ := hh
    have hh := grd_some h; clear h; obtain ⟨g1242, h⟩ := hh
    have hh := getL_some h; clear h; obtain ⟨n1244, c1245, h1243, h⟩ := hh
    have hh := bnd'_some h; clear h; obtain ⟨oo, h1246, h⟩ := hh
    rcases oo with x1247 | ⟨x1250, c1251⟩
    · (try dsimp only at h)
      refine W_sound tab_ok mixed 30 _ _ _ ?_
      simp -implicitDefEqProofs only [go_sem, qa, qb, qc, qd, qe, qf, qg, qh, qi, qj, qk, ↓reduceIte, h1237, h1240, g1241, g1242, h1243]
      repeat with_reducible refine ⟨by first | kernel_rfl | decide, ?_⟩
      refine Wp_callD [] (c61_a N _ _ _ _ h1246) rfl rfl rfl (by first | rfl | (simp only [go_sem, qa, qb, qc, qd, qe, qf, qg, qh, qi, qj, qk, ↓reduceIte, h1237, h1240, g1241, g1242, h1243] <;> rfl)) rfl (by kernel_rfl) ?_
      refine W_sound tab_ok mixed 17 _ _ _ ?_
      simp -implicitDefEqProofs only [go_sem, qa, qb, qc, qd, qe, qf, qg, qh, qi, qj, qk, ↓reduceIte, h1237, h1240, g1241, g1242, h1243]
      repeat with_reducible refine ⟨by first | kernel_rfl | decide, ?_⟩
      obtain rfl := Option.some.inj h
      exact finD (e2 := [(0, .dead), (1, .dead), (4, .v (.fn 999999 [.bool true])), (5, .v (.int .i64 ((n1244 : Nat) : Int))), (6, .v (.int .i64 x1247)), (7, .dead), (8, .dead), (9, .dead), (12, .dead)]) (ob2 := []) (st' := ⟨[], [(0, .dead), (1, .dead), (4, .v (.fn 999999 [.bool true])), (5, .v (.int .i64 ((n1244 : Nat) : Int))), (6, .v (.int .i64 x1247)), (7, .dead), (8, .dead), (9, .dead), (12, .dead)], [], 0, []⟩) (.k (.k (.r (.r (.r (.k (.k (.k (.k .nil))))))))) .nil (by kernel_rfl) (by simp only [go_sem, qa, qb, qc, qd, qe, qf, qg, qh, qi, qj, qk, ↓reduceIte, resQ_tmp, resQ_cell, resQ_nil, retD_one, retD_two, retD_three, retD_none] <;> first | rfl | exact ⟨rfl, rfl⟩ | (try simp [R.val, retD_one, retD_two, retD_three, retD_none]))
    · (try dsimp only at h)
      refine W_sound tab_ok mixed 30 _ _ _ ?_
      simp -implicitDefEqProofs only [go_sem, qa, qb, qc, qd, qe, qf, qg, qh, qi, qj, qk, ↓reduceIte, h1237, h1240, g1241, g1242, h1243]
      repeat with_reducible refine ⟨by first | kernel_rfl | decide, ?_⟩
      refine Wp_callD [] (c61_b N _ _ _ _ _ h1246) rfl rfl rfl (by first | rfl | (simp only [go_sem, qa, qb, qc, qd, qe, qf, qg, qh, qi, qj, qk, ↓reduceIte, h1237, h1240, g1241, g1242, h1243] <;> rfl)) rfl (by kernel_rfl) ?_
      refine W_sound tab_ok mixed 17 _ _ _ ?_
      simp -implicitDefEqProofs only [go_sem, qa, qb, qc, qd, qe, qf, qg, qh, qi, qj, qk, ↓reduceIte, h1237, h1240, g1241, g1242, h1243]
      repeat with_reducible refine ⟨by first | kernel_rfl | decide, ?_⟩
      obtain rfl := Option.some.inj h
      exact finD (e2 := [(0, .dead), (1, .dead), (4, .ptr 21 0), (5, .v (.int .i64 ((n1244 : Nat) : Int))), (6, .v (.int .i64 x1250)), (7, .dead), (8, .dead), (9, .dead), (12, .dead)]) (ob2 := [(21, .p c1251)]) (st' := ⟨[], [(0, .dead), (1, .dead), (4, .ptr 0 0), (5, .v (.int .i64 ((n1244 : Nat) : Int))), (6, .v (.int .i64 x1250)), (7, .dead), (8, .dead), (9, .dead), (12, .dead)], [(0, .p c1251)], 1, []⟩) (.k (.k (.r (.r (.r (.k (.k (.k (.k .nil))))))))) (.cons _ _ _ _ _ (DLes.refl _) .nil) (by kernel_rfl) (by simp only [go_sem, qa, qb, qc, qd, qe, qf, qg, qh, qi, qj, qk, ↓reduceIte, resQ_tmp, resQ_cell, resQ_nil, retD_one, retD_two, retD_three, retD_none] <;> first | rfl | exact ⟨rfl, rfl⟩ | (try simp [R.val, retD_one, retD_two, retD_three, retD_none]))
  · have hh := bnd'_some h; clear h; obtain ⟨oo, h1255, h⟩ := hh
    rcases oo with x1256 | ⟨x1259, c1260⟩
    · (try dsimp only at h)
      refine W_sound tab_ok mixed 24 _ _ _ ?_
      simp -implicitDefEqProofs only [go_sem, qa, qb, qc, qd, qe, qf, qg, qh, qi, qj, qk, ↓reduceIte, h1237, h1240]
      repeat with_reducible refine ⟨by first | kernel_rfl | decide, ?_⟩
      refine Wp_callD [] (c61_a N _ _ _ _ h1255) rfl rfl rfl (by first | rfl | (simp only [go_sem, qa, qb, qc, qd, qe, qf, qg, qh, qi, qj, qk, ↓reduceIte, h1237, h1240] <;> rfl)) rfl (by kernel_rfl) ?_
      refine W_sound tab_ok mixed 17 _ _ _ ?_
      simp -implicitDefEqProofs only [go_sem, qa, qb, qc, qd, qe, qf, qg, qh, qi, qj, qk, ↓reduceIte, h1237, h1240]
      repeat with_reducible refine ⟨by first | kernel_rfl | decide, ?_⟩
      obtain rfl := Option.some.inj h
      exact finD (e2 := [(0, .dead), (1, .dead), (4, .v (.fn 999999 [.bool true])), (5, .v (.int .i64 0)), (6, .v (.int .i64 x1256)), (7, .dead), (8, .dead), (9, .dead), (12, .dead)]) (ob2 := []) (st' := ⟨[], [(0, .dead), (1, .dead), (4, .v (.fn 999999 [.bool true])), (5, .v (.int .i64 0)), (6, .v (.int .i64 x1256)), (7, .dead), (8, .dead), (9, .dead), (12, .dead)], [], 0, []⟩) (.k (.k (.r (.r (.r (.k (.k (.k (.k .nil))))))))) .nil (by kernel_rfl) (by simp only [go_sem, qa, qb, qc, qd, qe, qf, qg, qh, qi, qj, qk, ↓reduceIte, resQ_tmp, resQ_cell, resQ_nil, retD_one, retD_two, retD_three, retD_none] <;> first | rfl | exact ⟨rfl, rfl⟩ | (try simp [R.val, retD_one, retD_two, retD_three, retD_none]))
    · (try dsimp only at h)
      refine W_sound tab_ok mixed 24 _ _ _ ?_
      simp -implicitDefEqProofs only [go_sem, qa, qb, qc, qd, qe, qf, qg, qh, qi, qj, qk, ↓reduceIte, h1237, h1240]
      repeat with_reducible refine ⟨by first | kernel_rfl | decide, ?_⟩
      refine Wp_callD [] (c61_b N _ _ _ _ _ h1255) rfl rfl rfl (by first | rfl | (simp only [go_sem, qa, qb, qc, qd, qe, qf, qg, qh, qi, qj, qk, ↓reduceIte, h1237, h1240] <;> rfl)) rfl (by kernel_rfl) ?_
      refine W_sound tab_ok mixed 17 _ _ _ ?_
      simp -implicitDefEqProofs only [go_sem, qa, qb, qc, qd, qe, qf, qg, qh, qi, qj, qk, ↓reduceIte, h1237, h1240]
      repeat with_reducible refine ⟨by first | kernel_rfl | decide, ?_⟩
      obtain rfl := Option.some.inj h
      exact finD (e2 := [(0, .dead), (1, .dead), (4, .ptr 21 0), (5, .v (.int .i64 0)), (6, .v (.int .i64 x1259)), (7, .dead), (8, .dead), (9, .dead), (12, .dead)]) (ob2 := [(21, .p c1260)]) (st' := ⟨[], [(0, .dead), (1, .dead), (4, .ptr 0 0), (5, .v (.int .i64 0)), (6, .v (.int .i64 x1259)), (7, .dead), (8, .dead), (9, .dead), (12, .dead)], [(0, .p c1260)], 1, []⟩) (.k (.k (.r (.r (.r (.k (.k (.k (.k .nil))))))))) (.cons _ _ _ _ _ (DLes.refl _) .nil) (by kernel_rfl) (by simp only [go_sem, qa, qb, qc, qd, qe, qf, qg, qh, qi, qj, qk, ↓reduceIte, resQ_tmp, resQ_cell, resQ_nil, retD_one, retD_two, retD_three, retD_none] <;> first | rfl | exact ⟨rfl, rfl⟩ | (try simp [R.val, retD_one, retD_two, retD_three, retD_none]))
theorem c83_a (N : Nat) (x1235 : Int) (p1236 : PV) (x1248 : Int) (x1249 : Int) (h : m83 N x1235 p1236 = some (.inl (x1248, x1249))) : V.Fn Tryd.prog 83 0 [.v (.int .i64 x1235), .v p1236] [] (fun d ob' => d = .v (.tup [(.fn 999999 [.bool true]), (.int .i64 x1248), (.int .i64 x1249)]) ∧ ob' = []) := c83 N x1235 p1236 _ h
theorem c83_b (N : Nat) (x1235 : Int) (p1236 : PV) (x1252 : Int) (x1253 : Int) (c1254 : List PV) (h : m83 N x1235 p1236 = some (.inr (x1252, x1253, c1254))) : V.Fn Tryd.prog 83 0 [.v (.int .i64 x1235), .v p1236] [] (fun d ob' => d = .tup [.ptr 0 0, .v (.int .i64 x1252), .v (.int .i64 x1253)] ∧ ob' = [(0, .p c1254)]) := c83 N x1235 p1236 _ h
def m81_L1 (N : Nat) (x1230 : Int) (n1233 : Nat) (c1234 : List PV) (x1265 : Int) (n1282 : Nat) (x1283 : Int) (c1284 : List PV) : Nat → Int → Int → Option (Int)
  | 0, _, _ => none
  | n + 1, x1286, x1287 =>
    brn (decide (x1287 < ((n1233 : Nat) : Int))) (
      none) (
      some x1286)
def m81_L0 (N : Nat) (x1230 : Int) (n1233 : Nat) (c1234 : List PV) (x1265 : Int) : Nat → Nat → Int → List PV → Option ((Nat × List PV))
  | 0, _, _, _ => none
  | n + 1, n1282, x1283, c1284 =>
    brn (decide (x1283 < x1230)) (
      bnd' (m81_L1 N x1230 n1233 c1234 x1265 n1282 x1283 c1284 N 0 0) fun x1289 =>
      brn (decide (x1289 < (IntKind.i64.wrap ((IntKind.i64.wrap (((n1233 : Nat) : Int) + x1265)) - x1230)))) (
        grd ((n1282 + 1) ≤ 1099511627776) <|
        grd (List.length c1284 = n1282) <|
        m81_L0 N x1230 n1233 c1234 x1265 n (n1282 + 1) (IntKind.i64.wrap (x1283 + 1)) (c1284 ++ [(.int .i64 x1283)])) (
        m81_L0 N x1230 n1233 c1234 x1265 n n1282 (IntKind.i64.wrap (x1283 + 1)) c1284)) (
      some (n1282, c1284))
def m81_L3 (N : Nat) (x1230 : Int) (n1233 : Nat) (c1234 : List PV) (x1296 : Int) (c1298 : List PV) (n1326 : Nat) (x1327 : Int) (c1328 : List PV) : Nat → Int → Int → Option (Int)
  | 0, _, _ => none
  | n + 1, x1330, x1331 =>
    brn (decide (x1331 < ((n1233 : Nat) : Int))) (
      grd (0 ≤ x1331 ∧ x1331 < 5) <|
      grd ((26 + (Int.toNat x1331)) < List.length c1298) <|
      getI .u64 (gp c1298 (26 + (Int.toNat x1331))) fun x1337 =>
      grd (0 ≤ x1327) <|
      m81_L3 N x1230 n1233 c1234 x1296 c1298 n1326 x1327 c1328 n (IntKind.i64.wrap (x1330 + (IntKind.i64.wrap (bitsI .and .u64 (Int.fdiv x1337 (2 ^ (min (Int.toNat x1327) 64))) 1)))) (IntKind.i64.wrap (x1331 + 1))) (
      some x1330)
def m81_L2 (N : Nat) (x1230 : Int) (n1233 : Nat) (c1234 : List PV) (x1296 : Int) (c1298 : List PV) : Nat → Nat → Int → List PV → Option ((Nat × List PV))
  | 0, _, _, _ => none
  | n + 1, n1326, x1327, c1328 =>
    brn (decide (x1327 < x1230)) (
      bnd' (m81_L3 N x1230 n1233 c1234 x1296 c1298 n1326 x1327 c1328 N 0 0) fun x1339 =>
      brn (decide (x1339 < (IntKind.i64.wrap ((IntKind.i64.wrap (((n1233 : Nat) : Int) + x1296)) - x1230)))) (
        grd ((n1326 + 1) ≤ 1099511627776) <|
        grd (List.length c1328 = n1326) <|
        m81_L2 N x1230 n1233 c1234 x1296 c1298 n (n1326 + 1) (IntKind.i64.wrap (x1327 + 1)) (c1328 ++ [(.int .i64 x1327)])) (
        m81_L2 N x1230 n1233 c1234 x1296 c1298 n n1326 (IntKind.i64.wrap (x1327 + 1)) c1328)) (
      some (n1326, c1328))
def m81 (N : Nat) (x1230 : Int) (p1231 : PV) : Option (PV) :=
  getL p1231 fun n1233 c1234 =>
  bnd' (m83 N x1230 (.lst false n1233 c1234)) fun o =>
  match o with
  | .inl (x1265, x1266) =>
    brn (x1266 != 0) (
      some (.tup [(.lst false 0 []), (.int .i64 x1266)])) (
      bnd' (m81_L0 N x1230 n1233 c1234 x1265 N 0 0 []) fun o =>
      match o with
      | (n1293, c1294) =>
        grd (List.length c1294 = n1293) <|
        some (.tup [(.lst false n1293 c1294), (.int .i64 0)]))
  | .inr (x1296, x1297, c1298) =>
    brn (x1297 != 0) (
      some (.tup [(.lst false 0 []), (.int .i64 x1297)])) (
      bnd' (m81_L2 N x1230 n1233 c1234 x1296 c1298 N 0 0 []) fun o =>
      match o with
      | (n1343, c1344) =>
        grd (List.length c1344 = n1343) <|
        some (.tup [(.lst false n1343 c1344), (.int .i64 0)]))
theorem c81 (N : Nat) (x1230 : Int) (p1231 : PV) (r : PV)  (h : m81 N x1230 p1231 = some r) : FnP Tryd.prog 81 [(.int .i64 x1230), p1231] r := by
  unfold m81 at h
  refine Fn_of (sz := 59) tab_ok [0, 1, 4, 5, 6, 7, 8, 9, 10, 11, 12, 21, 23, 24, 25, 28, 29, 30, 52] [.tmp 4, .tmp 5] Tryd.func81 rfl rfl rfl (by simp) ?_
  simp only [initSt, initEnv, List.map_cons, List.map_nil, List.getD_cons_zero, List.getD_cons_succ, List.getD_nil]
  have hh := getL_some h; clear h; obtain ⟨n1233, c1234, h1232, h⟩ := hh
  have hh := bnd'_some h; clear h; obtain ⟨oo, h1264, h⟩ := hh
  rcases oo with ⟨x1265, x1266⟩ | ⟨x1296, x1297, c1298⟩
  · (try dsimp only at h)
    refine W_sound tab_ok mixed 9 _ _ _ ?_
    simp -implicitDefEqProofs only [go_sem, qa, qb, qc, qd, qe, qf, qg, qh, qi, qj, qk, ↓reduceIte, h1232]
    repeat with_reducible refine ⟨by first | kernel_rfl | decide, ?_⟩
    refine Wp_callD [] (c83_a N _ _ _ _ h1264) rfl rfl rfl (by first | rfl | (simp only [go_sem, qa, qb, qc, qd, qe, qf, qg, qh, qi, qj, qk, ↓reduceIte, h1232] <;> rfl)) rfl (by kernel_rfl) ?_
    have hh := brn_some h; clear h; rcases hh with ⟨h1267, h⟩ | ⟨h1267, h⟩
    · refine W_sound tab_ok mixed 23 _ _ _ ?_
      simp -implicitDefEqProofs only [go_sem, qa, qb, qc, qd, qe, qf, qg, qh, qi, qj, qk, ↓reduceIte, h1232, h1267]
      repeat with_reducible refine ⟨by first | kernel_rfl | decide, ?_⟩
      obtain rfl := Option.some.inj h
      exact finC [(4, .v .nl), (5, .v (.int .i64 x1266))] [(4, .v (.lst false 0 [])), (5, .v (.int .i64 x1266))] (by simp [leE, lk_cons]) (.cons _ _ _ _ _ (.v _ _ (.nl false)) (.cons _ _ _ _ _ (.v _ _ (.refl _)) .nil)) (by rfl) (by simp [leE, lk_cons]) (by decide) (by decide) rfl (by simp only [go_sem, qa, qb, qc, qd, qe, qf, qg, qh, qi, qj, qk, ↓reduceIte, resQ_tmp, resQ_cell, resQ_nil, retD_one, retD_two, retD_three, retD_none]; try simp [R.val, retD_one, retD_two, retD_three, retD_none])
    · refine W_sound tab_ok mixed 26 _ _ _ ?_
      simp -implicitDefEqProofs only [go_sem, qa, qb, qc, qd, qe, qf, qg, qh, qi, qj, qk, ↓reduceIte, h1232, h1267]
      repeat with_reducible refine ⟨by first | kernel_rfl | decide, ?_⟩
      refine Wp_weaken (Wk_ownS 9 1 rfl (by decide) (by decide)) ?_
      simp -implicitDefEqProofs only [go_sem, qa, qb, qc, qd, qe, qf, qg, qh, qi, qj, qk, ↓reduceIte, h1232, h1267]
      have hh := bnd'_some h; clear h; obtain ⟨o1346, h1347, h1348⟩ := hh
      refine Wp_cut (fun s => ∃ n1293, ∃ c1294, (n1293, c1294) = o1346 ∧ s = ⟨[], [(0, .dead), (1, .dead), (4, .dead), (5, .dead), (6, .dead), (7, .dead), (8, .dead), (9, .sl false 0 0 n1293 1), (10, .dead), (11, .dead), (12, .dead), (21, .dead), (23, .dead), (24, .dead), (25, .dead), (28, .dead), (29, .dead), (30, .dead), (52, .dead)], [(0, .p c1294)], 1, []⟩) ?_ ?_
      · refine Wp_block ?_
        refine Wp_loopG (fun n s => ∃ n1282, ∃ x1283, ∃ c1284, m81_L0 N x1230 n1233 c1234 x1265 n n1282 x1283 c1284 = some o1346 ∧ s = ⟨[], [(0, .v (.int .i64 x1230)), (1, .v (.lst false n1233 c1234)), (4, .dead), (5, .dead), (6, .v (.fn 999999 [.bool true])), (7, .v (.int .i64 x1265)), (8, .dead), (9, .sl false 0 0 n1282 1), (10, .dead), (11, .dead), (12, .dead), (21, .dead), (23, .v (.int .i64 x1230)), (24, .v (.int .i64 x1283)), (25, .dead), (28, .dead), (29, .dead), (30, .dead), (52, .dead)], [(0, .p c1284)], 1, []⟩) N _ ((Wk_le (.r (.r (.k (.k (.r (.r (.k (.r (.r (.r (.r (.k (.r (.r (.r (.r (.r (.r (.r .nil))))))))))))))))))) (OLe.refl _)).trans (cmpS_ok (st' := ⟨[], [(0, .v (.int .i64 x1230)), (1, .v (.lst false n1233 c1234)), (4, .dead), (5, .dead), (6, .v (.fn 999999 [.bool true])), (7, .v (.int .i64 x1265)), (8, .dead), (9, .sl false 0 0 0 1), (10, .dead), (11, .dead), (12, .dead), (21, .dead), (23, .v (.int .i64 x1230)), (24, .v (.int .i64 0)), (25, .dead), (28, .dead), (29, .dead), (30, .dead), (52, .dead)], [(0, .p [])], 1, []⟩) (by kernel_rfl))) ⟨_, _, _, h1347, rfl⟩ ?_
        clear h1347
        rintro n _ ⟨n1282, x1283, c1284, h1347, rfl⟩
        cases n with
        | zero => cases h1347
        | succ n =>
          rw [m81_L0] at h1347
          have hh := brn_some h1347; clear h1347; rcases hh with ⟨h1285, h1347⟩ | ⟨h1285, h1347⟩
          · refine W_sound tab_ok mixed 25 _ _ _ ?_
            simp -implicitDefEqProofs only [go_sem, qa, qb, qc, qd, qe, qf, qg, qh, qi, qj, qk, ↓reduceIte, h1232, h1267, h1285]
            repeat with_reducible refine ⟨by first | kernel_rfl | decide, ?_⟩
            have hh := bnd'_some h1347; clear h1347; obtain ⟨o1349, h1350, h1351⟩ := hh
            refine Wp_cut (fun s => ∃ x1289, x1289 = o1349 ∧ s = ⟨[], [(0, .v (.int .i64 x1230)), (1, .v (.lst false n1233 c1234)), (4, .dead), (5, .dead), (6, .v (.fn 999999 [.bool true])), (7, .v (.int .i64 x1265)), (8, .dead), (9, .sl false 0 0 n1282 1), (10, .v (.int .i64 x1283)), (11, .v (.int .i64 x1289)), (12, .dead), (21, .dead), (23, .v (.int .i64 x1230)), (24, .v (.int .i64 x1283)), (25, .dead), (28, .dead), (29, .dead), (30, .dead), (52, .dead)], [(0, .p c1284)], 1, []⟩) ?_ ?_
            · refine Wp_block ?_
              refine Wp_loopG (fun n s => ∃ x1286, ∃ x1287, m81_L1 N x1230 n1233 c1234 x1265 n1282 x1283 c1284 n x1286 x1287 = some o1349 ∧ s = ⟨[], [(0, .v (.int .i64 x1230)), (1, .v (.lst false n1233 c1234)), (4, .dead), (5, .dead), (6, .v (.fn 999999 [.bool true])), (7, .v (.int .i64 x1265)), (8, .dead), (9, .sl false 0 0 n1282 1), (10, .v (.int .i64 x1283)), (11, .v (.int .i64 x1286)), (12, .dead), (21, .dead), (23, .v (.int .i64 x1230)), (24, .v (.int .i64 x1283)), (25, .dead), (28, .v (.int .i64 ((n1233 : Nat) : Int))), (29, .v (.int .i64 x1287)), (30, .dead), (52, .dead)], [(0, .p c1284)], 1, []⟩) N _ ((Wk_le (.r (.r (.r (.r (.r (.r (.r (.r (.r (.r (.r (.r (.r (.r (.k (.r (.r (.r (.r .nil))))))))))))))))))) (OLe.refl _)).trans (cmpS_ok (st' := ⟨[], [(0, .v (.int .i64 x1230)), (1, .v (.lst false n1233 c1234)), (4, .dead), (5, .dead), (6, .v (.fn 999999 [.bool true])), (7, .v (.int .i64 x1265)), (8, .dead), (9, .sl false 0 0 n1282 1), (10, .v (.int .i64 x1283)), (11, .v (.int .i64 0)), (12, .dead), (21, .dead), (23, .v (.int .i64 x1230)), (24, .v (.int .i64 x1283)), (25, .dead), (28, .v (.int .i64 ((n1233 : Nat) : Int))), (29, .v (.int .i64 0)), (30, .dead), (52, .dead)], [(0, .p c1284)], 1, []⟩) (by kernel_rfl))) ⟨_, _, h1350, rfl⟩ ?_
              clear h1350
              rintro n _ ⟨x1286, x1287, h1350, rfl⟩
              cases n with
              | zero => cases h1350
              | succ n =>
                rw [m81_L1] at h1350
                have hh := brn_some h1350; clear h1350; rcases hh with ⟨h1288, h1350⟩ | ⟨h1288, h1350⟩
                · cases h1350
                · refine W_sound tab_ok mixed 7 _ _ _ ?_
                  simp -implicitDefEqProofs only [go_sem, qa, qb, qc, qd, qe, qf, qg, qh, qi, qj, qk, ↓reduceIte, h1232, h1267, h1285, h1288]
                  repeat with_reducible refine ⟨by first | kernel_rfl | decide, ?_⟩
                  obtain rfl := Option.some.inj h1350
                  exact cutQ _ ((Wk_le (.r (.r (.r (.r (.r (.r (.r (.r (.r (.r (.r (.r (.r (.r (.r (.k (.k (.k (.r .nil))))))))))))))))))) (OLe.refl _)).trans (cmpS_ok (st' := ⟨[], [(0, .v (.int .i64 x1230)), (1, .v (.lst false n1233 c1234)), (4, .dead), (5, .dead), (6, .v (.fn 999999 [.bool true])), (7, .v (.int .i64 x1265)), (8, .dead), (9, .sl false 0 0 n1282 1), (10, .v (.int .i64 x1283)), (11, .v (.int .i64 x1286)), (12, .dead), (21, .dead), (23, .v (.int .i64 x1230)), (24, .v (.int .i64 x1283)), (25, .dead), (28, .dead), (29, .dead), (30, .dead), (52, .dead)], [(0, .p c1284)], 1, []⟩) (by kernel_rfl))) ⟨_, rfl, rfl⟩
            · rintro _ ⟨x1289, rfl, rfl⟩
              have hh := brn_some h1351; clear h1351; rcases hh with ⟨h1290, h1351⟩ | ⟨h1290, h1351⟩
              · have hh := grd_some h1351; clear h1351; obtain ⟨g1291, h1351⟩ := hh
                have hh := grd_some h1351; clear h1351; obtain ⟨g1292, h1351⟩ := hh
                refine W_sound tab_ok mixed 24 _ _ _ ?_
                simp -implicitDefEqProofs only [go_sem, qa, qb, qc, qd, qe, qf, qg, qh, qi, qj, qk, ↓reduceIte, h1232, h1267, h1285, h1290, g1291, g1292]
                repeat with_reducible refine ⟨by first | kernel_rfl | decide, ?_⟩
                exact cutQ _ ((Wk_le (.r (.r (.r (.r (.r (.r (.r (.r (.k (.k (.r (.r (.r (.r (.r (.r (.r (.r (.k .nil))))))))))))))))))) (OLe.refl _)).trans (cmpS_ok (st' := ⟨[], [(0, .v (.int .i64 x1230)), (1, .v (.lst false n1233 c1234)), (4, .dead), (5, .dead), (6, .v (.fn 999999 [.bool true])), (7, .v (.int .i64 x1265)), (8, .dead), (9, .sl false 0 0 (n1282 + 1) 1), (10, .dead), (11, .dead), (12, .dead), (21, .dead), (23, .v (.int .i64 x1230)), (24, .v (.int .i64 (IntKind.i64.wrap (x1283 + 1)))), (25, .dead), (28, .dead), (29, .dead), (30, .dead), (52, .dead)], [(0, .p (c1284 ++ [(.int .i64 x1283)]))], 1, []⟩) (by kernel_rfl))) ⟨n, Nat.lt_succ_self n, _, _, _, h1351, rfl⟩
              · refine W_sound tab_ok mixed 18 _ _ _ ?_
                simp -implicitDefEqProofs only [go_sem, qa, qb, qc, qd, qe, qf, qg, qh, qi, qj, qk, ↓reduceIte, h1232, h1267, h1285, h1290]
                repeat with_reducible refine ⟨by first | kernel_rfl | decide, ?_⟩
                exact cutQ _ ((Wk_le (.r (.r (.r (.r (.r (.r (.r (.r (.k (.k (.r (.r (.r (.r (.r (.r (.r (.r (.k .nil))))))))))))))))))) (OLe.refl _)).trans (cmpS_ok (st' := ⟨[], [(0, .v (.int .i64 x1230)), (1, .v (.lst false n1233 c1234)), (4, .dead), (5, .dead), (6, .v (.fn 999999 [.bool true])), (7, .v (.int .i64 x1265)), (8, .dead), (9, .sl false 0 0 n1282 1), (10, .dead), (11, .dead), (12, .dead), (21, .dead), (23, .v (.int .i64 x1230)), (24, .v (.int .i64 (IntKind.i64.wrap (x1283 + 1)))), (25, .dead), (28, .dead), (29, .dead), (30, .dead), (52, .dead)], [(0, .p c1284)], 1, []⟩) (by kernel_rfl))) ⟨n, Nat.lt_succ_self n, _, _, _, h1351, rfl⟩
          · refine W_sound tab_ok mixed 7 _ _ _ ?_
            simp -implicitDefEqProofs only [go_sem, qa, qb, qc, qd, qe, qf, qg, qh, qi, qj, qk, ↓reduceIte, h1232, h1267, h1285]
            repeat with_reducible refine ⟨by first | kernel_rfl | decide, ?_⟩
            obtain rfl := Option.some.inj h1347
            exact cutQ _ ((Wk_le (.k (.k (.r (.r (.k (.k (.r (.r (.r (.r (.r (.r (.k (.k (.k (.r (.r (.r (.r .nil))))))))))))))))))) (OLe.refl _)).trans (cmpS_ok (st' := ⟨[], [(0, .dead), (1, .dead), (4, .dead), (5, .dead), (6, .dead), (7, .dead), (8, .dead), (9, .sl false 0 0 n1282 1), (10, .dead), (11, .dead), (12, .dead), (21, .dead), (23, .dead), (24, .dead), (25, .dead), (28, .dead), (29, .dead), (30, .dead), (52, .dead)], [(0, .p c1284)], 1, []⟩) (by kernel_rfl))) ⟨_, _, rfl, rfl⟩
      · rintro _ ⟨n1293, c1294, rfl, rfl⟩
        (try dsimp only at h1348)
        refine W_sound tab_ok mixed 8 _ _ _ ?_
        simp -implicitDefEqProofs only [go_sem, qa, qb, qc, qd, qe, qf, qg, qh, qi, qj, qk, ↓reduceIte, h1232, h1267]
        repeat with_reducible refine ⟨by first | kernel_rfl | decide, ?_⟩
        have hh := grd_some h1348; clear h1348; obtain ⟨g1295, h1348⟩ := hh
        refine FinQ_wk (Wk_freeze 0 c1294 (by rfl) (by decide) (by decide)) ?_
        simp -implicitDefEqProofs only [go_sem, qa, qb, qc, qd, qe, qf, qg, qh, qi, qj, qk, ↓reduceIte, h1232, h1267, g1295]
        obtain rfl := Option.some.inj h1348
        exact finC [(4, .v (.lst false n1293 c1294)), (5, .v (.int .i64 0))] [(4, .v (.lst false n1293 c1294)), (5, .v (.int .i64 0))] (by simp [leE, lk_cons]) (.cons _ _ _ _ _ (.v _ _ (.refl _)) (.cons _ _ _ _ _ (.v _ _ (.refl _)) .nil)) (by rfl) (by simp [leE, lk_cons]) (by decide) (by decide) rfl (by simp only [go_sem, qa, qb, qc, qd, qe, qf, qg, qh, qi, qj, qk, ↓reduceIte, resQ_tmp, resQ_cell, resQ_nil, retD_one, retD_two, retD_three, retD_none]; try simp [R.val, retD_one, retD_two, retD_three, retD_none])
  · (try dsimp only at h)
    refine W_sound tab_ok mixed 9 _ _ _ ?_
    simp -implicitDefEqProofs only [go_sem, qa, qb, qc, qd, qe, qf, qg, qh, qi, qj, qk, ↓reduceIte, h1232]
    repeat with_reducible refine ⟨by first | kernel_rfl | decide, ?_⟩
    refine Wp_callD [] (c83_b N _ _ _ _ _ h1264) rfl rfl rfl (by first | rfl | (simp only [go_sem, qa, qb, qc, qd, qe, qf, qg, qh, qi, qj, qk, ↓reduceIte, h1232] <;> rfl)) rfl (by kernel_rfl) ?_
    have hh := brn_some h; clear h; rcases hh with ⟨h1299, h⟩ | ⟨h1299, h⟩
    · refine W_sound tab_ok mixed 23 _ _ _ ?_
      simp -implicitDefEqProofs only [go_sem, qa, qb, qc, qd, qe, qf, qg, qh, qi, qj, qk, ↓reduceIte, h1232, h1299]
      repeat with_reducible refine ⟨by first | kernel_rfl | decide, ?_⟩
      obtain rfl := Option.some.inj h
      exact finC [(4, .v .nl), (5, .v (.int .i64 x1297))] [(4, .v (.lst false 0 [])), (5, .v (.int .i64 x1297))] (by simp [leE, lk_cons]) (.cons _ _ _ _ _ (.v _ _ (.nl false)) (.cons _ _ _ _ _ (.v _ _ (.refl _)) .nil)) (by rfl) (by simp [leE, lk_cons]) (by decide) (by decide) rfl (by simp only [go_sem, qa, qb, qc, qd, qe, qf, qg, qh, qi, qj, qk, ↓reduceIte, resQ_tmp, resQ_cell, resQ_nil, retD_one, retD_two, retD_three, retD_none]; try simp [R.val, retD_one, retD_two, retD_three, retD_none])
    · refine W_sound tab_ok mixed 26 _ _ _ ?_
      simp -implicitDefEqProofs only [go_sem, qa, qb, qc, qd, qe, qf, qg, qh, qi, qj, qk, ↓reduceIte, h1232, h1299]
      repeat with_reducible refine ⟨by first | kernel_rfl | decide, ?_⟩
      refine Wp_weaken (Wk_ownS 9 1 rfl (by decide) (by decide)) ?_
      simp -implicitDefEqProofs only [go_sem, qa, qb, qc, qd, qe, qf, qg, qh, qi, qj, qk, ↓reduceIte, h1232, h1299]
      have hh := bnd'_some h; clear h; obtain ⟨o1352, h1353, h1354⟩ := hh
      refine Wp_cut (fun s => ∃ n1343, ∃ c1344, (n1343, c1344) = o1352 ∧ s = ⟨[], [(0, .dead), (1, .dead), (4, .dead), (5, .dead), (6, .dead), (7, .dead), (8, .dead), (9, .sl false 0 0 n1343 1), (10, .dead), (11, .dead), (12, .dead), (21, .dead), (23, .dead), (24, .dead), (25, .dead), (28, .dead), (29, .dead), (30, .dead), (52, .dead)], [(0, .p c1344)], 1, []⟩) ?_ ?_
      · refine Wp_block ?_
        refine Wp_loopG (fun n s => ∃ n1326, ∃ x1327, ∃ c1328, m81_L2 N x1230 n1233 c1234 x1296 c1298 n n1326 x1327 c1328 = some o1352 ∧ s = ⟨[], [(0, .v (.int .i64 x1230)), (1, .v (.lst false n1233 c1234)), (4, .dead), (5, .dead), (6, .ptr 0 0), (7, .v (.int .i64 x1296)), (8, .dead), (9, .sl false 1 0 n1326 1), (10, .dead), (11, .dead), (12, .dead), (21, .dead), (23, .v (.int .i64 x1230)), (24, .v (.int .i64 x1327)), (25, .dead), (28, .dead), (29, .dead), (30, .dead), (52, .dead)], [(0, .p c1298), (1, .p c1328)], 2, []⟩) N _ ((Wk_le (.r (.r (.k (.k (.r (.r (.k (.r (.r (.r (.r (.k (.r (.r (.r (.r (.r (.r (.r .nil))))))))))))))))))) (OLe.refl _)).trans (cmpS_ok (st' := ⟨[], [(0, .v (.int .i64 x1230)), (1, .v (.lst false n1233 c1234)), (4, .dead), (5, .dead), (6, .ptr 0 0), (7, .v (.int .i64 x1296)), (8, .dead), (9, .sl false 1 0 0 1), (10, .dead), (11, .dead), (12, .dead), (21, .dead), (23, .v (.int .i64 x1230)), (24, .v (.int .i64 0)), (25, .dead), (28, .dead), (29, .dead), (30, .dead), (52, .dead)], [(0, .p c1298), (1, .p [])], 2, []⟩) (by kernel_rfl))) ⟨_, _, _, h1353, rfl⟩ ?_
        clear h1353
        rintro n _ ⟨n1326, x1327, c1328, h1353, rfl⟩
        cases n with
        | zero => cases h1353
        | succ n =>
          rw [m81_L2] at h1353
          have hh := brn_some h1353; clear h1353; rcases hh with ⟨h1329, h1353⟩ | ⟨h1329, h1353⟩
          · refine W_sound tab_ok mixed 25 _ _ _ ?_
            simp -implicitDefEqProofs only [go_sem, qa, qb, qc, qd, qe, qf, qg, qh, qi, qj, qk, ↓reduceIte, h1232, h1299, h1329]
            repeat with_reducible refine ⟨by first | kernel_rfl | decide, ?_⟩
            have hh := bnd'_some h1353; clear h1353; obtain ⟨o1355, h1356, h1357⟩ := hh
            refine Wp_cut (fun s => ∃ x1339, x1339 = o1355 ∧ s = ⟨[], [(0, .v (.int .i64 x1230)), (1, .v (.lst false n1233 c1234)), (4, .dead), (5, .dead), (6, .ptr 0 0), (7, .v (.int .i64 x1296)), (8, .dead), (9, .sl false 1 0 n1326 1), (10, .v (.int .i64 x1327)), (11, .v (.int .i64 x1339)), (12, .dead), (21, .dead), (23, .v (.int .i64 x1230)), (24, .v (.int .i64 x1327)), (25, .dead), (28, .dead), (29, .dead), (30, .dead), (52, .dead)], [(0, .p c1298), (1, .p c1328)], 2, []⟩) ?_ ?_
            · refine Wp_block ?_
              refine Wp_loopG (fun n s => ∃ x1330, ∃ x1331, m81_L3 N x1230 n1233 c1234 x1296 c1298 n1326 x1327 c1328 n x1330 x1331 = some o1355 ∧ s = ⟨[], [(0, .v (.int .i64 x1230)), (1, .v (.lst false n1233 c1234)), (4, .dead), (5, .dead), (6, .ptr 0 0), (7, .v (.int .i64 x1296)), (8, .dead), (9, .sl false 1 0 n1326 1), (10, .v (.int .i64 x1327)), (11, .v (.int .i64 x1330)), (12, .dead), (21, .dead), (23, .v (.int .i64 x1230)), (24, .v (.int .i64 x1327)), (25, .dead), (28, .v (.int .i64 ((n1233 : Nat) : Int))), (29, .v (.int .i64 x1331)), (30, .dead), (52, .dead)], [(0, .p c1298), (1, .p c1328)], 2, []⟩) N _ ((Wk_le (.r (.r (.r (.r (.r (.r (.r (.r (.r (.r (.r (.r (.r (.r (.k (.r (.r (.r (.r .nil))))))))))))))))))) (OLe.refl _)).trans (cmpS_ok (st' := ⟨[], [(0, .v (.int .i64 x1230)), (1, .v (.lst false n1233 c1234)), (4, .dead), (5, .dead), (6, .ptr 0 0), (7, .v (.int .i64 x1296)), (8, .dead), (9, .sl false 1 0 n1326 1), (10, .v (.int .i64 x1327)), (11, .v (.int .i64 0)), (12, .dead), (21, .dead), (23, .v (.int .i64 x1230)), (24, .v (.int .i64 x1327)), (25, .dead), (28, .v (.int .i64 ((n1233 : Nat) : Int))), (29, .v (.int .i64 0)), (30, .dead), (52, .dead)], [(0, .p c1298), (1, .p c1328)], 2, []⟩) (by kernel_rfl))) ⟨_, _, h1356, rfl⟩ ?_
              clear h1356
              rintro n _ ⟨x1330, x1331, h1356, rfl⟩
              cases n with
              | zero => cases h1356
              | succ n =>
                rw [m81_L3] at h1356
                have hh := brn_some h1356; clear h1356; rcases hh with ⟨h1332, h1356⟩ | ⟨h1332, h1356⟩
                · have hh := grd_some h1356; clear h1356; obtain ⟨⟨g1333, g1334⟩, h1356⟩ := hh
                  have hh := grd_some h1356; clear h1356; obtain ⟨g1335, h1356⟩ := hh
                  have hh := getI_some h1356; clear h1356; obtain ⟨x1337, h1336, h1356⟩ := hh
                  have hh := grd_some h1356; clear h1356; obtain ⟨g1338, h1356⟩ := hh
                  refine W_sound tab_ok mixed 34 _ _ _ ?_
                  simp -implicitDefEqProofs only [go_sem, qa, qb, qc, qd, qe, qf, qg, qh, qi, qj, qk, ↓reduceIte, h1232, h1299, h1329, h1332, g1333, g1334, g1335, h1336, g1338]
                  repeat with_reducible refine ⟨by first | kernel_rfl | decide, ?_⟩
                  exact cutQ _ ((Wk_le (.r (.r (.r (.r (.r (.r (.r (.r (.r (.r (.k (.r (.r (.r (.r (.r (.r (.k (.r .nil))))))))))))))))))) (OLe.refl _)).trans (cmpS_ok (st' := ⟨[], [(0, .v (.int .i64 x1230)), (1, .v (.lst false n1233 c1234)), (4, .dead), (5, .dead), (6, .ptr 0 0), (7, .v (.int .i64 x1296)), (8, .dead), (9, .sl false 1 0 n1326 1), (10, .v (.int .i64 x1327)), (11, .v (.int .i64 (IntKind.i64.wrap (x1330 + (IntKind.i64.wrap (bitsI .and .u64 (Int.fdiv x1337 (2 ^ (min (Int.toNat x1327) 64))) 1)))))), (12, .dead), (21, .dead), (23, .v (.int .i64 x1230)), (24, .v (.int .i64 x1327)), (25, .dead), (28, .v (.int .i64 ((n1233 : Nat) : Int))), (29, .v (.int .i64 (IntKind.i64.wrap (x1331 + 1)))), (30, .dead), (52, .dead)], [(0, .p c1298), (1, .p c1328)], 2, []⟩) (by kernel_rfl))) ⟨n, Nat.lt_succ_self n, _, _, h1356, rfl⟩
                · refine W_sound tab_ok mixed 7 _ _ _ ?_
                  simp -implicitDefEqProofs only [go_sem, qa, qb, qc, qd, qe, qf, qg, qh, qi, qj, qk, ↓reduceIte, h1232, h1299, h1329, h1332]
                  repeat with_reducible refine ⟨by first | kernel_rfl | decide, ?_⟩
                  obtain rfl := Option.some.inj h1356
                  exact cutQ _ ((Wk_le (.r (.r (.r (.r (.r (.r (.r (.r (.r (.r (.r (.r (.r (.r (.r (.k (.k (.k (.r .nil))))))))))))))))))) (OLe.refl _)).trans (cmpS_ok (st' := ⟨[], [(0, .v (.int .i64 x1230)), (1, .v (.lst false n1233 c1234)), (4, .dead), (5, .dead), (6, .ptr 0 0), (7, .v (.int .i64 x1296)), (8, .dead), (9, .sl false 1 0 n1326 1), (10, .v (.int .i64 x1327)), (11, .v (.int .i64 x1330)), (12, .dead), (21, .dead), (23, .v (.int .i64 x1230)), (24, .v (.int .i64 x1327)), (25, .dead), (28, .dead), (29, .dead), (30, .dead), (52, .dead)], [(0, .p c1298), (1, .p c1328)], 2, []⟩) (by kernel_rfl))) ⟨_, rfl, rfl⟩
            · rintro _ ⟨x1339, rfl, rfl⟩
              have hh := brn_some h1357; clear h1357; rcases hh with ⟨h1340, h1357⟩ | ⟨h1340, h1357⟩
              · have hh := grd_some h1357; clear h1357; obtain ⟨g1341, h1357⟩ := hh
                have hh := grd_some h1357; clear h1357; obtain ⟨g1342, h1357⟩ := hh
                refine W_sound tab_ok mixed 24 _ _ _ ?_
                simp -implicitDefEqProofs only [go_sem, qa, qb, qc, qd, qe, qf, qg, qh, qi, qj, qk, ↓reduceIte, h1232, h1299, h1329, h1340, g1341, g1342]
                repeat with_reducible refine ⟨by first | kernel_rfl | decide, ?_⟩
                exact cutQ _ ((Wk_le (.r (.r (.r (.r (.r (.r (.r (.r (.k (.k (.r (.r (.r (.r (.r (.r (.r (.r (.k .nil))))))))))))))))))) (OLe.refl _)).trans (cmpS_ok (st' := ⟨[], [(0, .v (.int .i64 x1230)), (1, .v (.lst false n1233 c1234)), (4, .dead), (5, .dead), (6, .ptr 0 0), (7, .v (.int .i64 x1296)), (8, .dead), (9, .sl false 1 0 (n1326 + 1) 1), (10, .dead), (11, .dead), (12, .dead), (21, .dead), (23, .v (.int .i64 x1230)), (24, .v (.int .i64 (IntKind.i64.wrap (x1327 + 1)))), (25, .dead), (28, .dead), (29, .dead), (30, .dead), (52, .dead)], [(0, .p c1298), (1, .p (c1328 ++ [(.int .i64 x1327)]))], 2, []⟩) (by kernel_rfl))) ⟨n, Nat.lt_succ_self n, _, _, _, h1357, rfl⟩
              · refine W_sound tab_ok mixed 18 _ _ _ ?_
                simp -implicitDefEqProofs only [go_sem, qa, qb, qc, qd, qe, qf, qg, qh, qi, qj, qk, ↓reduceIte, h1232, h1299, h1329, h1340]
                repeat with_reducible refine ⟨by first | kernel_rfl | decide, ?_⟩
                exact cutQ _ ((Wk_le (.r (.r (.r (.r (.r (.r (.r (.r (.k (.k (.r (.r (.r (.r (.r (.r (.r (.r (.k .nil))))))))))))))))))) (OLe.refl _)).trans (cmpS_ok (st' := ⟨[], [(0, .v (.int .i64 x1230)), (1, .v (.lst false n1233 c1234)), (4, .dead), (5, .dead), (6, .ptr 0 0), (7, .v (.int .i64 x1296)), (8, .dead), (9, .sl false 1 0 n1326 1), (10, .dead), (11, .dead), (12, .dead), (21, .dead), (23, .v (.int .i64 x1230)), (24, .v (.int .i64 (IntKind.i64.wrap (x1327 + 1)))), (25, .dead), (28, .dead), (29, .dead), (30, .dead), (52, .dead)], [(0, .p c1298), (1, .p c1328)], 2, []⟩) (by kernel_rfl))) ⟨n, Nat.lt_succ_self n, _, _, _, h1357, rfl⟩
          · refine W_sound tab_ok mixed 7 _ _ _ ?_
            simp -implicitDefEqProofs only [go_sem, qa, qb, qc, qd, qe, qf, qg, qh, qi, qj, qk, ↓reduceIte, h1232, h1299, h1329]
            repeat with_reducible refine ⟨by first | kernel_rfl | decide, ?_⟩
            obtain rfl := Option.some.inj h1353
            exact cutQ _ ((Wk_le (.k (.k (.r (.r (.k (.k (.r (.r (.r (.r (.r (.r (.k (.k (.k (.r (.r (.r (.r .nil))))))))))))))))))) (OLe.refl _)).trans (cmpS_ok (st' := ⟨[], [(0, .dead), (1, .dead), (4, .dead), (5, .dead), (6, .dead), (7, .dead), (8, .dead), (9, .sl false 0 0 n1326 1), (10, .dead), (11, .dead), (12, .dead), (21, .dead), (23, .dead), (24, .dead), (25, .dead), (28, .dead), (29, .dead), (30, .dead), (52, .dead)], [(0, .p c1328)], 1, []⟩) (by kernel_rfl))) ⟨_, _, rfl, rfl⟩
      · rintro _ ⟨n1343, c1344, rfl, rfl⟩
        (try dsimp only at h1354)
        refine W_sound tab_ok mixed 8 _ _ _ ?_
        simp -implicitDefEqProofs only [go_sem, qa, qb, qc, qd, qe, qf, qg, qh, qi, qj, qk, ↓reduceIte, h1232, h1299]
        repeat with_reducible refine ⟨by first | kernel_rfl | decide, ?_⟩
        have hh := grd_some h1354; clear h1354; obtain ⟨g1345, h1354⟩ := hh
        refine FinQ_wk (Wk_freeze 0 c1344 (by rfl) (by decide) (by decide)) ?_
        simp -implicitDefEqProofs only [go_sem, qa, qb, qc, qd, qe, qf, qg, qh, qi, qj, qk, ↓reduceIte, h1232, h1299, g1345]
        obtain rfl := Option.some.inj h1354
        exact finC [(4, .v (.lst false n1343 c1344)), (5, .v (.int .i64 0))] [(4, .v (.lst false n1343 c1344)), (5, .v (.int .i64 0))] (by simp [leE, lk_cons]) (.cons _ _ _ _ _ (.v _ _ (.refl _)) (.cons _ _ _ _ _ (.v _ _ (.refl _)) .nil)) (by rfl) (by simp [leE, lk_cons]) (by decide) (by decide) rfl (by simp only [go_sem, qa, qb, qc, qd, qe, qf, qg, qh, qi, qj, qk, ↓reduceIte, resQ_tmp, resQ_cell, resQ_nil, retD_one, retD_two, retD_three, retD_none]; try simp [R.val, retD_one, retD_two, retD_three, retD_none])
def m45 (N : Nat) (x1225 : Int) (p1226 : PV) : Option (PV) :=
  getL p1226 fun n1228 c1229 =>
  bnd' (m81 N x1225 (.lst false n1228 c1229)) fun p1358 =>
  getT2 p1358 fun p1361 p1362 =>
  getL p1361 fun n1364 c1365 =>
  getI .i64 p1362 fun x1367 =>
  brn (x1367 != 0) (
    some (.tup [(.int .i64 0), (.int .i64 x1367)])) (
    brn (((n1364 : Nat) : Int) == 0) (
      some (.tup [(.int .i64 0), (.int .i64 13)])) (
      grd (0 < ((n1364 : Nat) : Int)) <|
      grd (0 < List.length c1365) <|
      getI .i64 (gp c1365 0) fun x1373 =>
      some (.tup [(.int .i64 x1373), (.int .i64 0)])))
theorem c45 (N : Nat) (x1225 : Int) (p1226 : PV) (r : PV)  (h : m45 N x1225 p1226 = some r) : FnP Tryd.prog 45 [(.int .i64 x1225), p1226] r := by
  unfold m45 at h
  refine Fn_of (sz := 25) tab_ok [0, 1, 4, 5, 6, 7, 14, 18] [.tmp 4, .tmp 5] Tryd.func45 rfl rfl rfl (by simp) ?_
  simp only [initSt, initEnv, List.map_cons, List.map_nil, List.getD_cons_zero, List.getD_cons_succ, List.getD_nil]
  have hh := getL_some h; clear h; obtain ⟨n1228, c1229, h1227, h⟩ := hh
  have hh := bnd'_some h; clear h; obtain ⟨p1358, h1359, h⟩ := hh
  refine W_sound tab_ok mixed 9 _ _ _ ?_
  simp -implicitDefEqProofs only [go_sem, qa, qb, qc, qd, qe, qf, qg, qh, qi, qj, qk, ↓reduceIte, h1227]
  repeat with_reducible refine ⟨by first | kernel_rfl | decide, ?_⟩
  refine Wp_callP (c81 N _ _ _ h1359) (by kernel_rfl) rfl rfl rfl rfl (by decide) ?_
  have hh := getT2_some h; clear h; obtain ⟨p1361, p1362, h1360, h⟩ := hh
  have hh := getL_some h; clear h; obtain ⟨n1364, c1365, h1363, h⟩ := hh
  have hh := getI_some h; clear h; obtain ⟨x1367, h1366, h⟩ := hh
  have hh := brn_some h; clear h; rcases hh with ⟨h1368, h⟩ | ⟨h1368, h⟩
  · refine W_sound tab_ok mixed 23 _ _ _ ?_
    simp -implicitDefEqProofs only [go_sem, qa, qb, qc, qd, qe, qf, qg, qh, qi, qj, qk, ↓reduceIte, h1227, h1360, h1363, h1366, h1368]
    repeat with_reducible refine ⟨by first | kernel_rfl | decide, ?_⟩
    obtain rfl := Option.some.inj h
    exact finC [(4, .v (.int .i64 0)), (5, .v (.int .i64 x1367))] [(4, .v (.int .i64 0)), (5, .v (.int .i64 x1367))] (by simp [leE, lk_cons]) (.cons _ _ _ _ _ (.v _ _ (.refl _)) (.cons _ _ _ _ _ (.v _ _ (.refl _)) .nil)) (by rfl) (by simp [leE, lk_cons]) (by decide) (by decide) rfl (by simp only [go_sem, qa, qb, qc, qd, qe, qf, qg, qh, qi, qj, qk, ↓reduceIte, resQ_tmp, resQ_cell, resQ_nil, retD_one, retD_two, retD_three, retD_none]; try simp [R.val, retD_one, retD_two, retD_three, retD_none])
  · have hh := brn_some h; clear h; rcases hh with ⟨h1369, h⟩ | ⟨h1369, h⟩
    · refine W_sound tab_ok mixed 30 _ _ _ ?_
      simp -implicitDefEqProofs only [go_sem, qa, qb, qc, qd, qe, qf, qg, qh, qi, qj, qk, ↓reduceIte, h1227, h1360, h1363, h1366, h1368, h1369]
      repeat with_reducible refine ⟨by first | kernel_rfl | decide, ?_⟩
      obtain rfl := Option.some.inj h
      exact finC [(4, .v (.int .i64 0)), (5, .v (.int .i64 13))] [(4, .v (.int .i64 0)), (5, .v (.int .i64 13))] (by simp [leE, lk_cons]) (.cons _ _ _ _ _ (.v _ _ (.refl _)) (.cons _ _ _ _ _ (.v _ _ (.refl _)) .nil)) (by rfl) (by simp [leE, lk_cons]) (by decide) (by decide) rfl (by simp only [go_sem, qa, qb, qc, qd, qe, qf, qg, qh, qi, qj, qk, ↓reduceIte, resQ_tmp, resQ_cell, resQ_nil, retD_one, retD_two, retD_three, retD_none]; try simp [R.val, retD_one, retD_two, retD_three, retD_none])
    · have hh := grd_some h; clear h; obtain ⟨g1370, h⟩ := hh
      have hh := grd_some h; clear h; obtain ⟨g1371, h⟩ := hh
      have hh := getI_some h; clear h; obtain ⟨x1373, h1372, h⟩ := hh
      refine W_sound tab_ok mixed 35 _ _ _ ?_
      simp -implicitDefEqProofs only [go_sem, qa, qb, qc, qd, qe, qf, qg, qh, qi, qj, qk, ↓reduceIte, h1227, h1360, h1363, h1366, h1368, h1369, g1370, g1371, h1372]
      repeat with_reducible refine ⟨by first | kernel_rfl | decide, ?_⟩
      obtain rfl := Option.some.inj h
      exact finC [(4, .v (.int .i64 x1373)), (5, .v (.int .i64 0))] [(4, .v (.int .i64 x1373)), (5, .v (.int .i64 0))] (by simp [leE, lk_cons]) (.cons _ _ _ _ _ (.v _ _ (.refl _)) (.cons _ _ _ _ _ (.v _ _ (.refl _)) .nil)) (by rfl) (by simp [leE, lk_cons]) (by decide) (by decide) rfl (by simp only [go_sem, qa, qb, qc, qd, qe, qf, qg, qh, qi, qj, qk, ↓reduceIte, resQ_tmp, resQ_cell, resQ_nil, retD_one, retD_two, retD_three, retD_none]; try simp [R.val, retD_one, retD_two, retD_three, retD_none])
def m69_2 (N : Nat) (c1392 : List PV) : Option (PV) :=
  grd (0 < List.length (List.drop 2 c1392)) <|
  getB (gp c1392 2) fun b1395 =>
  brn b1395 (
    some (.int .i64 1)) (
    some (.int .i64 0))
theorem c69_2 (N : Nat) (c1392 : List PV) (r : PV)  (h : m69_2 N c1392 = some r) : FnP Tryd.prog 69 [(.fn 1000070 [(.ipt c1392)])] r := by
  unfold m69_2 at h
  refine Fn_of (sz := 20) tab_ok [0, 2, 3, 4, 5, 7, 8, 14, 15, 19] [.tmp 2] Tryd.func69 rfl rfl rfl (by simp) ?_
  simp only [initSt, initEnv, List.map_cons, List.map_nil, List.getD_cons_zero, List.getD_cons_succ, List.getD_nil]
  have hh := grd_some h; clear h; obtain ⟨g1393, h⟩ := hh
  have hh := getB_some h; clear h; obtain ⟨b1395, h1394, h⟩ := hh
  have hh := brn_some h; clear h; rcases hh with ⟨h1396, h⟩ | ⟨h1396, h⟩
  · refine W_sound tab_ok mixed 42 _ _ _ ?_
    simp -implicitDefEqProofs only [go_sem, qa, qb, qc, qd, qe, qf, qg, qh, qi, qj, qk, ↓reduceIte, g1393, h1394, h1396]
    repeat with_reducible refine ⟨by first | kernel_rfl | decide, ?_⟩
    obtain rfl := Option.some.inj h
    exact finC [(2, .v (.int .i64 1))] [(2, .v (.int .i64 1))] (by simp [leE, lk_cons]) (.cons _ _ _ _ _ (.v _ _ (.refl _)) .nil) (by rfl) (by simp [leE, lk_cons]) (by decide) (by decide) rfl (by simp only [go_sem, qa, qb, qc, qd, qe, qf, qg, qh, qi, qj, qk, ↓reduceIte, resQ_tmp, resQ_cell, resQ_nil, retD_one, retD_two, retD_three, retD_none]; try simp [R.val, retD_one, retD_two, retD_three, retD_none])
  · refine W_sound tab_ok mixed 44 _ _ _ ?_
    simp -implicitDefEqProofs only [go_sem, qa, qb, qc, qd, qe, qf, qg, qh, qi, qj, qk, ↓reduceIte, g1393, h1394, h1396]
    repeat with_reducible refine ⟨by first | kernel_rfl | decide, ?_⟩
    obtain rfl := Option.some.inj h
    exact finC [(2, .v (.int .i64 0))] [(2, .v (.int .i64 0))] (by simp [leE, lk_cons]) (.cons _ _ _ _ _ (.v _ _ (.refl _)) .nil) (by rfl) (by simp [leE, lk_cons]) (by decide) (by decide) rfl (by simp only [go_sem, qa, qb, qc, qd, qe, qf, qg, qh, qi, qj, qk, ↓reduceIte, resQ_tmp, resQ_cell, resQ_nil, retD_one, retD_two, retD_three, retD_none]; try simp [R.val, retD_one, retD_two, retD_three, retD_none])
def getA5 {α : Type} (p : PV) (k : PV → PV → PV → PV → PV → Option α) : Option α := match p with | .agg [a0, a1, a2, a3, a4] => k a0 a1 a2 a3 a4 | _ => none
theorem getA5_some {α : Type} {p : PV} {k : PV → PV → PV → PV → PV → Option α} {r : α} (h : getA5 p k = some r) : ∃ a0 a1 a2 a3 a4, p = .agg [a0, a1, a2, a3, a4] ∧ k a0 a1 a2 a3 a4 = some r := by
  unfold getA5 at h; split at h
  · exact ⟨_, _, _, _, _, rfl, h⟩
  · cases h
def m55_L0 (N : Nat) (n4139 : Nat) : Nat → Int → Int → List PV → Option (List PV)
  | 0, _, _, _ => none
  | n + 1, x4159, x4160, c4161 =>
    brn (decide (x4159 < x4160)) (
      grd (0 ≤ x4160 ∧ x4160 < ((n4139 : Nat) : Int)) <|
      grd ((Int.toNat x4160) < List.length c4161) <|
      getL (gp c4161 (Int.toNat x4160)) fun n4167 c4168 =>
      grd (0 ≤ x4159 ∧ x4159 < ((n4139 : Nat) : Int)) <|
      grd ((Int.toNat x4159) < List.length c4161) <|
      getL (gp c4161 (Int.toNat x4159)) fun n4173 c4174 =>
      grd (((Int.toNat x4159) + 1) ≤ List.length c4161) <|
      grd (((Int.toNat x4160) + 1) ≤ List.length c4161) <|
      m55_L0 N n4139 n (IntKind.i64.wrap (x4159 + 1)) (IntKind.i64.wrap (x4160 - 1)) (List.set (List.set c4161 (Int.toNat x4159) (.lst false n4167 c4168)) (Int.toNat x4160) (.lst false n4173 c4174))) (
      some c4161)
def m55 (N : Nat) (n4139 : Nat) (c4140 : List PV) : Option ((PV × List PV)) :=
  bnd' (m55_L0 N n4139 N 0 (IntKind.i64.wrap (((n4139 : Nat) : Int) - 1)) c4140) fun c4177 =>
  some ((.tup []), c4177)
theorem c55 (N : Nat) (n4139 : Nat) (c4140 : List PV) (r : PV) (c4179 : List PV) (h : m55 N n4139 c4140 = some (r, c4179)) : V.Fn Tryd.prog 55 1 [.sl false 0 0 n4139 1] [(0, .p c4140)] (fun d ob' => d = .v r ∧ ob' = [(0, .p c4179)]) := by
  unfold m55 at h
  refine Fn_of (sz := 28) tab_ok [0, 2, 3, 9] [] Tryd.func55 rfl rfl rfl (by simp) ?_
  simp only [initSt, initEnv, List.map_cons, List.map_nil, List.getD_cons_zero, List.getD_cons_succ, List.getD_nil]
  refine W_sound tab_ok mixed 8 _ _ _ ?_
  simp -implicitDefEqProofs only [go_sem, qa, qb, qc, qd, qe, qf, qg, qh, qi, qj, qk, ↓reduceIte]
  repeat with_reducible refine ⟨by first | kernel_rfl | decide, ?_⟩
  have hh := bnd'_some h; clear h; obtain ⟨o4180, h4181, h4182⟩ := hh
  refine Wp_cut (fun s => ∃ c4177, c4177 = o4180 ∧ s = ⟨[], [(0, .dead), (2, .dead), (3, .dead), (9, .dead)], [(0, .p c4177)], 1, []⟩) ?_ ?_
  · refine Wp_block ?_
    refine Wp_loopG (fun n s => ∃ x4159, ∃ x4160, ∃ c4161, m55_L0 N n4139 n x4159 x4160 c4161 = some o4180 ∧ s = ⟨[], [(0, .sl false 0 0 n4139 1), (2, .v (.int .i64 x4159)), (3, .v (.int .i64 x4160)), (9, .dead)], [(0, .p c4161)], 1, []⟩) N _ ((Wk_le (.r (.r (.r (.r .nil)))) (OLe.refl _)).trans (cmpS_ok rfl)) ⟨_, _, _, h4181, rfl⟩ ?_
    clear h4181
    rintro n _ ⟨x4159, x4160, c4161, h4181, rfl⟩
    cases n with
    | zero => cases h4181
    | succ n =>
      rw [m55_L0] at h4181
      have hh := brn_some h4181; clear h4181; rcases hh with ⟨h4162, h4181⟩ | ⟨h4162, h4181⟩
      · have hh := grd_some h4181; clear h4181; obtain ⟨⟨g4163, g4164⟩, h4181⟩ := hh
        have hh := grd_some h4181; clear h4181; obtain ⟨g4165, h4181⟩ := hh
        have hh := getL_some h4181; clear h4181; obtain ⟨n4167, c4168, h4166, h4181⟩ := hh
        have hh := grd_some h4181; clear h4181; obtain ⟨⟨g4169, g4170⟩, h4181⟩ := hh
        have hh := grd_some h4181; clear h4181; obtain ⟨g4171, h4181⟩ := hh
        have hh := getL_some h4181; clear h4181; obtain ⟨n4173, c4174, h4172, h4181⟩ := hh
        have hh := grd_some h4181; clear h4181; obtain ⟨g4175, h4181⟩ := hh
        have hh := grd_some h4181; clear h4181; obtain ⟨g4176, h4181⟩ := hh
        refine W_sound tab_ok mixed 38 _ _ _ ?_
        simp -implicitDefEqProofs only [go_sem, qa, qb, qc, qd, qe, qf, qg, qh, qi, qj, qk, ↓reduceIte, h4162, g4163, g4164, g4165, h4166, g4169, g4170, g4171, h4172, g4175, g4176]
        repeat with_reducible refine ⟨by first | kernel_rfl | decide, ?_⟩
        exact cutQ _ ((Wk_le (.r (.r (.r (.k .nil)))) (OLe.refl _)).trans (cmpS_ok rfl)) ⟨n, Nat.lt_succ_self n, _, _, _, h4181, rfl⟩
      · refine W_sound tab_ok mixed 9 _ _ _ ?_
        simp -implicitDefEqProofs only [go_sem, qa, qb, qc, qd, qe, qf, qg, qh, qi, qj, qk, ↓reduceIte, h4162]
        repeat with_reducible refine ⟨by first | kernel_rfl | decide, ?_⟩
        obtain rfl := Option.some.inj h4181
        exact cutQ _ ((Wk_le (.k (.k (.k (.k .nil)))) (OLe.refl _)).trans (cmpS_ok rfl)) ⟨_, rfl, rfl⟩
  · rintro _ ⟨c4177, rfl, rfl⟩
    refine W_sound tab_ok mixed 1 _ _ _ ?_
    simp -implicitDefEqProofs only [go_sem, qa, qb, qc, qd, qe, qf, qg, qh, qi, qj, qk, ↓reduceIte]
    repeat with_reducible refine ⟨by first | kernel_rfl | decide, ?_⟩
    simp only [Option.some.injEq, Prod.mk.injEq] at h4182; obtain ⟨rfl, rfl⟩ := h4182
    exact finD (e2 := [(0, .dead), (2, .dead), (3, .dead), (9, .dead)]) (ob2 := [(0, .p c4177)]) (st' := ⟨[], [(0, .dead), (2, .dead), (3, .dead), (9, .dead)], [(0, .p c4177)], 1, []⟩) (.r (.r (.r (.r .nil)))) (.cons _ _ _ _ _ (DLes.refl _) .nil) (by kernel_rfl) (by simp only [go_sem, qa, qb, qc, qd, qe, qf, qg, qh, qi, qj, qk, ↓reduceIte, resQ_tmp, resQ_cell, resQ_nil, retD_one, retD_two, retD_three, retD_none]; try simp [R.val, retD_one, retD_two, retD_three, retD_none])
def m25_2 (N : Nat) (x4223 : Int) (n4224 : Nat) (c4225 : List PV) : Option ((PV × List PV)) :=
  bnd' (m61_2 N x4223 n4224 x4223 c4225) fun o =>
  match o with
  | .inl (x4228, c4229) =>
    brn (x4228 != 0) (
      some ((.tup [(.int .i64 0), (.int .i64 x4228)]), c4229)) (
      brn (((n4224 : Nat) : Int) == x4223) (
        some ((.tup [(.int .i64 0), (.int .i64 16)]), c4229)) (
        none))
  | .inr (x4232, c4233, c4234) =>
    brn (x4232 != 0) (
      some ((.tup [(.int .i64 0), (.int .i64 x4232)]), c4233)) (
      brn (((n4224 : Nat) : Int) == x4223) (
        some ((.tup [(.int .i64 0), (.int .i64 16)]), c4233)) (
        bnd' (m64_2 N c4234 ((n4224 : Nat) : Int) 0) fun (p4237, c4239, x4240) =>
        getT0 p4237 <|
        bnd' (m69 N ((n4224 : Nat) : Int) x4240) fun p4242 =>
        getI .i64 p4242 fun x4245 =>
        some ((.tup [(.int .i64 x4245), (.int .i64 0)]), c4233)))
theorem c25_2 (N : Nat) (x4223 : Int) (n4224 : Nat) (c4225 : List PV) (r : PV) (c4247 : List PV) (h : m25_2 N x4223 n4224 c4225 = some (r, c4247)) : V.Fn Tryd.prog 25 1 [.v (.int .i64 x4223), .sl false 0 0 n4224 1] [(0, .p c4225)] (fun d ob' => d = .v r ∧ ob' = [(0, .p c4247)]) := by
  unfold m25_2 at h
  refine Fn_of (sz := 36) tab_ok [0, 1, 4, 5, 6, 7, 8, 16, 20] [.tmp 4, .tmp 5] Tryd.func25 rfl rfl rfl (by simp) ?_
  simp only [initSt, initEnv, List.map_cons, List.map_nil, List.getD_cons_zero, List.getD_cons_succ, List.getD_nil]
  have hh := bnd'_some h; clear h; obtain ⟨oo, h4227, h⟩ := hh
  rcases oo with ⟨x4228, c4229⟩ | ⟨x4232, c4233, c4234⟩
  · (try dsimp only at h)
    refine W_sound tab_ok mixed 10 _ _ _ ?_
    simp -implicitDefEqProofs only [go_sem, qa, qb, qc, qd, qe, qf, qg, qh, qi, qj, qk, ↓reduceIte]
    repeat with_reducible refine ⟨by first | kernel_rfl | decide, ?_⟩
    refine Wp_callD [0] (c61_2_a N _ _ _ _ _ _ h4227) rfl rfl rfl (by first | rfl | (simp only [go_sem, qa, qb, qc, qd, qe, qf, qg, qh, qi, qj, qk, ↓reduceIte] <;> rfl)) rfl (by kernel_rfl) ?_
    have hh := brn_some h; clear h; rcases hh with ⟨h4230, h⟩ | ⟨h4230, h⟩
    · refine W_sound tab_ok mixed 23 _ _ _ ?_
      simp -implicitDefEqProofs only [go_sem, qa, qb, qc, qd, qe, qf, qg, qh, qi, qj, qk, ↓reduceIte, h4230]
      repeat with_reducible refine ⟨by first | kernel_rfl | decide, ?_⟩
      simp only [Option.some.injEq, Prod.mk.injEq] at h; obtain ⟨rfl, rfl⟩ := h
      exact finD (e2 := [(0, .dead), (1, .dead), (4, .v (.int .i64 0)), (5, .v (.int .i64 x4228)), (6, .dead), (7, .dead), (8, .dead), (16, .dead), (20, .dead)]) (ob2 := [(0, .p c4229)]) (st' := ⟨[], [(0, .dead), (1, .dead), (4, .v (.int .i64 0)), (5, .v (.int .i64 x4228)), (6, .dead), (7, .dead), (8, .dead), (16, .dead), (20, .dead)], [(0, .p c4229)], 1, []⟩) (.k (.k (.r (.r (.k (.k (.r (.k (.r .nil))))))))) (.cons _ _ _ _ _ (DLes.refl _) .nil) (by kernel_rfl) (by simp only [go_sem, qa, qb, qc, qd, qe, qf, qg, qh, qi, qj, qk, ↓reduceIte, resQ_tmp, resQ_cell, resQ_nil, retD_one, retD_two, retD_three, retD_none]; try simp [R.val, retD_one, retD_two, retD_three, retD_none])
    · have hh := brn_some h; clear h; rcases hh with ⟨h4231, h⟩ | ⟨h4231, h⟩
      · refine W_sound tab_ok mixed 31 _ _ _ ?_
        simp -implicitDefEqProofs only [go_sem, qa, qb, qc, qd, qe, qf, qg, qh, qi, qj, qk, ↓reduceIte, h4230, h4231]
        repeat with_reducible refine ⟨by first | kernel_rfl | decide, ?_⟩
        simp only [Option.some.injEq, Prod.mk.injEq] at h; obtain ⟨rfl, rfl⟩ := h
        exact finD (e2 := [(0, .dead), (1, .dead), (4, .v (.int .i64 0)), (5, .v (.int .i64 16)), (6, .dead), (7, .dead), (8, .dead), (16, .dead), (20, .dead)]) (ob2 := [(0, .p c4229)]) (st' := ⟨[], [(0, .dead), (1, .dead), (4, .v (.int .i64 0)), (5, .v (.int .i64 16)), (6, .dead), (7, .dead), (8, .dead), (16, .dead), (20, .dead)], [(0, .p c4229)], 1, []⟩) (.k (.k (.r (.r (.k (.k (.r (.k (.k .nil))))))))) (.cons _ _ _ _ _ (DLes.refl _) .nil) (by kernel_rfl) (by simp only [go_sem, qa, qb, qc, qd, qe, qf, qg, qh, qi, qj, qk, ↓reduceIte, resQ_tmp, resQ_cell, resQ_nil, retD_one, retD_two, retD_three, retD_none]; try simp [R.val, retD_one, retD_two, retD_three, retD_none])
      · cases h
  · (try dsimp only at h)
    refine W_sound tab_ok mixed 10 _ _ _ ?_
    simp -implicitDefEqProofs only [go_sem, qa, qb, qc, qd, qe, qf, qg, qh, qi, qj, qk, ↓reduceIte]
    repeat with_reducible refine ⟨by first | kernel_rfl | decide, ?_⟩
    refine Wp_callD [0] (c61_2_b N _ _ _ _ _ _ _ h4227) rfl rfl rfl (by first | rfl | (simp only [go_sem, qa, qb, qc, qd, qe, qf, qg, qh, qi, qj, qk, ↓reduceIte] <;> rfl)) rfl (by kernel_rfl) ?_
    have hh := brn_some h; clear h; rcases hh with ⟨h4235, h⟩ | ⟨h4235, h⟩
    · refine W_sound tab_ok mixed 23 _ _ _ ?_
      simp -implicitDefEqProofs only [go_sem, qa, qb, qc, qd, qe, qf, qg, qh, qi, qj, qk, ↓reduceIte, h4235]
      repeat with_reducible refine ⟨by first | kernel_rfl | decide, ?_⟩
      simp only [Option.some.injEq, Prod.mk.injEq] at h; obtain ⟨rfl, rfl⟩ := h
      exact finD (e2 := [(0, .dead), (1, .dead), (4, .v (.int .i64 0)), (5, .v (.int .i64 x4232)), (6, .dead), (7, .dead), (8, .dead), (16, .dead), (20, .dead)]) (ob2 := [(14, .p c4234), (0, .p c4233)]) (st' := ⟨[], [(0, .dead), (1, .dead), (4, .v (.int .i64 0)), (5, .v (.int .i64 x4232)), (6, .dead), (7, .dead), (8, .dead), (16, .dead), (20, .dead)], [(0, .p c4233)], 1, []⟩) (.k (.k (.r (.r (.k (.k (.r (.k (.r .nil))))))))) (.cons _ _ _ _ _ (DLes.refl _) (.cons _ _ _ _ _ (DLes.refl _) .nil)) (by kernel_rfl) (by simp only [go_sem, qa, qb, qc, qd, qe, qf, qg, qh, qi, qj, qk, ↓reduceIte, resQ_tmp, resQ_cell, resQ_nil, retD_one, retD_two, retD_three, retD_none]; try simp [R.val, retD_one, retD_two, retD_three, retD_none])
    · have hh := brn_some h; clear h; rcases hh with ⟨h4236, h⟩ | ⟨h4236, h⟩
      · refine W_sound tab_ok mixed 31 _ _ _ ?_
        simp -implicitDefEqProofs only [go_sem, qa, qb, qc, qd, qe, qf, qg, qh, qi, qj, qk, ↓reduceIte, h4235, h4236]
        repeat with_reducible refine ⟨by first | kernel_rfl | decide, ?_⟩
        simp only [Option.some.injEq, Prod.mk.injEq] at h; obtain ⟨rfl, rfl⟩ := h
        exact finD (e2 := [(0, .dead), (1, .dead), (4, .v (.int .i64 0)), (5, .v (.int .i64 16)), (6, .dead), (7, .dead), (8, .dead), (16, .dead), (20, .dead)]) (ob2 := [(14, .p c4234), (0, .p c4233)]) (st' := ⟨[], [(0, .dead), (1, .dead), (4, .v (.int .i64 0)), (5, .v (.int .i64 16)), (6, .dead), (7, .dead), (8, .dead), (16, .dead), (20, .dead)], [(0, .p c4233)], 1, []⟩) (.k (.k (.r (.r (.k (.k (.r (.k (.k .nil))))))))) (.cons _ _ _ _ _ (DLes.refl _) (.cons _ _ _ _ _ (DLes.refl _) .nil)) (by kernel_rfl) (by simp only [go_sem, qa, qb, qc, qd, qe, qf, qg, qh, qi, qj, qk, ↓reduceIte, resQ_tmp, resQ_cell, resQ_nil, retD_one, retD_two, retD_three, retD_none]; try simp [R.val, retD_one, retD_two, retD_three, retD_none])
      · have hh := bnd'_some h; clear h; obtain ⟨⟨p4237, c4239, x4240⟩, h4238, h⟩ := hh
        (try dsimp only at h)
        refine W_sound tab_ok mixed 39 _ _ _ ?_
        simp -implicitDefEqProofs only [go_sem, qa, qb, qc, qd, qe, qf, qg, qh, qi, qj, qk, ↓reduceIte, h4235, h4236]
        repeat with_reducible refine ⟨by first | kernel_rfl | decide, ?_⟩
        refine Wp_callD [14, 43] (c64_2 N _ _ _ _ _ _ h4238) rfl rfl rfl (by first | rfl | (simp only [go_sem, qa, qb, qc, qd, qe, qf, qg, qh, qi, qj, qk, ↓reduceIte, h4235, h4236] <;> rfl)) rfl (by kernel_rfl) ?_
        have hh := getT0_some h; clear h; obtain ⟨h4241, h⟩ := hh
        refine W_sound tab_ok mixed 2 _ _ _ ?_
        simp -implicitDefEqProofs only [go_sem, qa, qb, qc, qd, qe, qf, qg, qh, qi, qj, qk, ↓reduceIte, h4235, h4236, h4241]
        repeat with_reducible refine ⟨by first | kernel_rfl | decide, ?_⟩
        refine Wp_wkK (Wk_freeze 43 [(.int .i64 ((n4224 : Nat) : Int)), (.int .i64 x4240)] (by rfl) (by decide) (by decide)) rfl ?_
        simp -implicitDefEqProofs only [go_sem, qa, qb, qc, qd, qe, qf, qg, qh, qi, qj, qk, ↓reduceIte, h4235, h4236, h4241]
        have hh := bnd'_some h; clear h; obtain ⟨p4242, h4243, h⟩ := hh
        refine W_sound tab_ok mixed 3 _ _ _ ?_
        simp -implicitDefEqProofs only [go_sem, qa, qb, qc, qd, qe, qf, qg, qh, qi, qj, qk, ↓reduceIte, h4235, h4236, h4241]
        repeat with_reducible refine ⟨by first | kernel_rfl | decide, ?_⟩
        refine Wp_callP (c69 N _ _ _ h4243) (by kernel_rfl) rfl rfl rfl rfl (by decide) ?_
        have hh := getI_some h; clear h; obtain ⟨x4245, h4244, h⟩ := hh
        refine W_sound tab_ok mixed 5 _ _ _ ?_
        simp -implicitDefEqProofs only [go_sem, qa, qb, qc, qd, qe, qf, qg, qh, qi, qj, qk, ↓reduceIte, h4235, h4236, h4241, h4244]
        repeat with_reducible refine ⟨by first | kernel_rfl | decide, ?_⟩
        simp only [Option.some.injEq, Prod.mk.injEq] at h; obtain ⟨rfl, rfl⟩ := h
        exact finD (e2 := [(0, .dead), (1, .dead), (4, .v (.int .i64 x4245)), (5, .v (.int .i64 0)), (6, .dead), (7, .dead), (8, .dead), (16, .dead), (20, .dead)]) (ob2 := [(0, .p c4233), (14, .p c4239)]) (st' := ⟨[], [(0, .dead), (1, .dead), (4, .v (.int .i64 x4245)), (5, .v (.int .i64 0)), (6, .dead), (7, .dead), (8, .dead), (16, .dead), (20, .dead)], [(0, .p c4233)], 1, []⟩) (.k (.k (.r (.r (.k (.k (.k (.k (.k .nil))))))))) (.cons _ _ _ _ _ (DLes.refl _) (.cons _ _ _ _ _ (DLes.refl _) .nil)) (by kernel_rfl) (by simp only [go_sem, qa, qb, qc, qd, qe, qf, qg, qh, qi, qj, qk, ↓reduceIte, resQ_tmp, resQ_cell, resQ_nil, retD_one, retD_two, retD_three, retD_none]; try simp [R.val, retD_one, retD_two, retD_three, retD_none])
def m83_2 (N : Nat) (x4263 : Int) (n4264 : Nat) (c4265 : List PV) : Option (((Int × Int × List PV) ⊕ (Int × Int × List PV × List PV))) :=
  brn (decide (((n4264 : Nat) : Int) > 0)) (
    grd (0 < ((n4264 : Nat) : Int)) <|
    grd (0 < List.length c4265) <|
    getL (gp c4265 0) fun n4270 c4271 =>
    bnd' (m61_2 N x4263 n4264 ((n4270 : Nat) : Int) c4265) fun o =>
    match o with
    | .inl (x4273, c4274) =>
      some (.inl (((n4270 : Nat) : Int), x4273, c4274))
    | .inr (x4278, c4279, c4280) =>
      some (.inr (((n4270 : Nat) : Int), x4278, c4279, c4280))) (
    bnd' (m61_2 N x4263 n4264 0 c4265) fun o =>
    match o with
    | .inl (x4286, c4287) =>
      some (.inl (0, x4286, c4287))
    | .inr (x4291, c4292, c4293) =>
      some (.inr (0, x4291, c4292, c4293)))
theorem c83_2 (N : Nat) (x4263 : Int) (n4264 : Nat) (c4265 : List PV) (r : ((Int × Int × List PV) ⊕ (Int × Int × List PV × List PV)))  (h : m83_2 N x4263 n4264 c4265 = some r) : V.Fn Tryd.prog 83 1 [.v (.int .i64 x4263), .sl false 0 0 n4264 1] [(0, .p c4265)] (fun d ob' => match (generalizing := false) r with | .inl (x4275, x4276, c4277) => d = .v (.tup [(.fn 999999 [.bool true]), (.int .i64 x4275), (.int .i64 x4276)]) ∧ ob' = [(0, .p c4277)] | .inr (x4281, x4282, c4283, c4284) => d = .tup [.ptr 1 0, .v (.int .i64 x4281), .v (.int .i64 x4282)] ∧ ob' = [(0, .p c4283), (1, .p c4284)]) := by
  unfold m83_2 at h
  refine Fn_of (sz := 27) tab_ok [0, 1, 4, 5, 6, 7, 8, 9, 12] [.tmp 4, .tmp 5, .tmp 6] Tryd.func83 rfl rfl rfl (by simp) ?_
  simp only [initSt, initEnv, List.map_cons, List.map_nil, List.getD_cons_zero, List.getD_cons_succ, List.getD_nil]
  have hh := brn_some h; clear h; rcases hh with ⟨h4266, h⟩ | ⟨h4266, h⟩
  · have hh := grd_some h; clear h; obtain ⟨g4267, h⟩ := hh
    have hh := grd_some h; clear h; obtain ⟨g4268, h⟩ := hh
    have hh := getL_some h; clear h; obtain ⟨n4270, c4271, h4269, h⟩ := hh
    have hh := bnd'_some h; clear h; obtain ⟨oo, h4272, h⟩ := hh
    rcases oo with ⟨x4273, c4274⟩ | ⟨x4278, c4279, c4280⟩
    · (try dsimp only at h)
      refine W_sound tab_ok mixed 30 _ _ _ ?_
      simp -implicitDefEqProofs only [go_sem, qa, qb, qc, qd, qe, qf, qg, qh, qi, qj, qk, ↓reduceIte, h4266, g4267, g4268, h4269]
      repeat with_reducible refine ⟨by first | kernel_rfl | decide, ?_⟩
      refine Wp_callD [0] (c61_2_a N _ _ _ _ _ _ h4272) rfl rfl rfl (by first | rfl | (simp only [go_sem, qa, qb, qc, qd, qe, qf, qg, qh, qi, qj, qk, ↓reduceIte, h4266, g4267, g4268, h4269] <;> rfl)) rfl (by kernel_rfl) ?_
      refine W_sound tab_ok mixed 17 _ _ _ ?_
      simp -implicitDefEqProofs only [go_sem, qa, qb, qc, qd, qe, qf, qg, qh, qi, qj, qk, ↓reduceIte, h4266, g4267, g4268, h4269]
      repeat with_reducible refine ⟨by first | kernel_rfl | decide, ?_⟩
      obtain rfl := Option.some.inj h
      exact finD (e2 := [(0, .dead), (1, .dead), (4, .v (.fn 999999 [.bool true])), (5, .v (.int .i64 ((n4270 : Nat) : Int))), (6, .v (.int .i64 x4273)), (7, .dead), (8, .dead), (9, .dead), (12, .dead)]) (ob2 := [(0, .p c4274)]) (st' := ⟨[], [(0, .dead), (1, .dead), (4, .v (.fn 999999 [.bool true])), (5, .v (.int .i64 ((n4270 : Nat) : Int))), (6, .v (.int .i64 x4273)), (7, .dead), (8, .dead), (9, .dead), (12, .dead)], [(0, .p c4274)], 1, []⟩) (.k (.k (.r (.r (.r (.k (.k (.k (.k .nil))))))))) (.cons _ _ _ _ _ (DLes.refl _) .nil) (by kernel_rfl) (by simp only [go_sem, qa, qb, qc, qd, qe, qf, qg, qh, qi, qj, qk, ↓reduceIte, resQ_tmp, resQ_cell, resQ_nil, retD_one, retD_two, retD_three, retD_none] <;> first | rfl | exact ⟨rfl, rfl⟩ | (try simp [R.val, retD_one, retD_two, retD_three, retD_none]))
    · (try dsimp only at h)
      refine W_sound tab_ok mixed 30 _ _ _ ?_
      simp -implicitDefEqProofs only [go_sem, qa, qb, qc, qd, qe, qf, qg, qh, qi, qj, qk, ↓reduceIte, h4266, g4267, g4268, h4269]
      repeat with_reducible refine ⟨by first | kernel_rfl | decide, ?_⟩
      refine Wp_callD [0] (c61_2_b N _ _ _ _ _ _ _ h4272) rfl rfl rfl (by first | rfl | (simp only [go_sem, qa, qb, qc, qd, qe, qf, qg, qh, qi, qj, qk, ↓reduceIte, h4266, g4267, g4268, h4269] <;> rfl)) rfl (by kernel_rfl) ?_
      refine W_sound tab_ok mixed 17 _ _ _ ?_
      simp -implicitDefEqProofs only [go_sem, qa, qb, qc, qd, qe, qf, qg, qh, qi, qj, qk, ↓reduceIte, h4266, g4267, g4268, h4269]
      repeat with_reducible refine ⟨by first | kernel_rfl | decide, ?_⟩
      obtain rfl := Option.some.inj h
      exact finD (e2 := [(0, .dead), (1, .dead), (4, .ptr 22 0), (5, .v (.int .i64 ((n4270 : Nat) : Int))), (6, .v (.int .i64 x4278)), (7, .dead), (8, .dead), (9, .dead), (12, .dead)]) (ob2 := [(22, .p c4280), (0, .p c4279)]) (st' := ⟨[], [(0, .dead), (1, .dead), (4, .ptr 1 0), (5, .v (.int .i64 ((n4270 : Nat) : Int))), (6, .v (.int .i64 x4278)), (7, .dead), (8, .dead), (9, .dead), (12, .dead)], [(0, .p c4279), (1, .p c4280)], 2, []⟩) (.k (.k (.r (.r (.r (.k (.k (.k (.k .nil))))))))) (.cons _ _ _ _ _ (DLes.refl _) (.cons _ _ _ _ _ (DLes.refl _) .nil)) (by kernel_rfl) (by simp only [go_sem, qa, qb, qc, qd, qe, qf, qg, qh, qi, qj, qk, ↓reduceIte, resQ_tmp, resQ_cell, resQ_nil, retD_one, retD_two, retD_three, retD_none] <;> first | rfl | exact ⟨rfl, rfl⟩ | (try simp [R.val, retD_one, retD_two, retD_three, retD_none]))
  · have hh := bnd'_some h; clear h; obtain ⟨oo, h4285, h⟩ := hh
    rcases oo with ⟨x4286, c4287⟩ | ⟨x4291, c4292, c4293⟩
    · (try dsimp only at h)
      refine W_sound tab_ok mixed 24 _ _ _ ?_
      simp -implicitDefEqProofs only [go_sem, qa, qb, qc, qd, qe, qf, qg, qh, qi, qj, qk, ↓reduceIte, h4266]
      repeat with_reducible refine ⟨by first | kernel_rfl | decide, ?_⟩
      refine Wp_callD [0] (c61_2_a N _ _ _ _ _ _ h4285) rfl rfl rfl (by first | rfl | (simp only [go_sem, qa, qb, qc, qd, qe, qf, qg, qh, qi, qj, qk, ↓reduceIte, h4266] <;> rfl)) rfl (by kernel_rfl) ?_
      refine W_sound tab_ok mixed 17 _ _ _ ?_
      simp -implicitDefEqProofs only [go_sem, qa, qb, qc, qd, qe, qf, qg, qh, qi, qj, qk, ↓reduceIte, h4266]
      repeat with_reducible refine ⟨by first | kernel_rfl | decide, ?_⟩
      obtain rfl := Option.some.inj h
      exact finD (e2 := [(0, .dead), (1, .dead), (4, .v (.fn 999999 [.bool true])), (5, .v (.int .i64 0)), (6, .v (.int .i64 x4286)), (7, .dead), (8, .dead), (9, .dead), (12, .dead)]) (ob2 := [(0, .p c4287)]) (st' := ⟨[], [(0, .dead), (1, .dead), (4, .v (.fn 999999 [.bool true])), (5, .v (.int .i64 0)), (6, .v (.int .i64 x4286)), (7, .dead), (8, .dead), (9, .dead), (12, .dead)], [(0, .p c4287)], 1, []⟩) (.k (.k (.r (.r (.r (.k (.k (.k (.k .nil))))))))) (.cons _ _ _ _ _ (DLes.refl _) .nil) (by kernel_rfl) (by simp only [go_sem, qa, qb, qc, qd, qe, qf, qg, qh, qi, qj, qk, ↓reduceIte, resQ_tmp, resQ_cell, resQ_nil, retD_one, retD_two, retD_three, retD_none] <;> first | rfl | exact ⟨rfl, rfl⟩ | (try simp [R.val, retD_one, retD_two, retD_three, retD_none]))
    · (try dsimp only at h)
      refine W_sound tab_ok mixed 24 _ _ _ ?_
      simp -implicitDefEqProofs only [go_sem, qa, qb, qc, qd, qe, qf, qg, qh, qi, qj, qk, ↓reduceIte, h4266]
      repeat with_reducible refine ⟨by first | kernel_rfl | decide, ?_⟩
      refine Wp_callD [0] (c61_2_b N _ _ _ _ _ _ _ h4285) rfl rfl rfl (by first | rfl | (simp only [go_sem, qa, qb, qc, qd, qe, qf, qg, qh, qi, qj, qk, ↓reduceIte, h4266] <;> rfl)) rfl (by kernel_rfl) ?_
      refine W_sound tab_ok mixed 17 _ _ _ ?_
      simp -implicitDefEqProofs only [go_sem, qa, qb, qc, qd, qe, qf, qg, qh, qi, qj, qk, ↓reduceIte, h4266]
      repeat with_reducible refine ⟨by first | kernel_rfl | decide, ?_⟩
      obtain rfl := Option.some.inj h
      exact finD (e2 := [(0, .dead), (1, .dead), (4, .ptr 22 0), (5, .v (.int .i64 0)), (6, .v (.int .i64 x4291)), (7, .dead), (8, .dead), (9, .dead), (12, .dead)]) (ob2 := [(22, .p c4293), (0, .p c4292)]) (st' := ⟨[], [(0, .dead), (1, .dead), (4, .ptr 1 0), (5, .v (.int .i64 0)), (6, .v (.int .i64 x4291)), (7, .dead), (8, .dead), (9, .dead), (12, .dead)], [(0, .p c4292), (1, .p c4293)], 2, []⟩) (.k (.k (.r (.r (.r (.k (.k (.k (.k .nil))))))))) (.cons _ _ _ _ _ (DLes.refl _) (.cons _ _ _ _ _ (DLes.refl _) .nil)) (by kernel_rfl) (by simp only [go_sem, qa, qb, qc, qd, qe, qf, qg, qh, qi, qj, qk, ↓reduceIte, resQ_tmp, resQ_cell, resQ_nil, retD_one, retD_two, retD_three, retD_none] <;> first | rfl | exact ⟨rfl, rfl⟩ | (try simp [R.val, retD_one, retD_two, retD_three, retD_none]))
theorem c83_2_a (N : Nat) (x4263 : Int) (n4264 : Nat) (c4265 : List PV) (x4275 : Int) (x4276 : Int) (c4277 : List PV) (h : m83_2 N x4263 n4264 c4265 = some (.inl (x4275, x4276, c4277))) : V.Fn Tryd.prog 83 1 [.v (.int .i64 x4263), .sl false 0 0 n4264 1] [(0, .p c4265)] (fun d ob' => d = .v (.tup [(.fn 999999 [.bool true]), (.int .i64 x4275), (.int .i64 x4276)]) ∧ ob' = [(0, .p c4277)]) := c83_2 N x4263 n4264 c4265 _ h
theorem c83_2_b (N : Nat) (x4263 : Int) (n4264 : Nat) (c4265 : List PV) (x4281 : Int) (x4282 : Int) (c4283 : List PV) (c4284 : List PV) (h : m83_2 N x4263 n4264 c4265 = some (.inr (x4281, x4282, c4283, c4284))) : V.Fn Tryd.prog 83 1 [.v (.int .i64 x4263), .sl false 0 0 n4264 1] [(0, .p c4265)] (fun d ob' => d = .tup [.ptr 1 0, .v (.int .i64 x4281), .v (.int .i64 x4282)] ∧ ob' = [(0, .p c4283), (1, .p c4284)]) := c83_2 N x4263 n4264 c4265 _ h
def m47_2 (N : Nat) (x4325 : Int) (n4326 : Nat) (c4327 : List PV) : Option ((PV × List PV)) :=
  bnd' (m83_2 N x4325 n4326 c4327) fun o =>
  match o with
  | .inl (x4330, x4331, c4332) =>
    brn (x4331 != 0) (
      some ((.tup [(.lst false 0 []), (.int .i64 x4331)]), c4332)) (
      none)
  | .inr (x4334, x4335, c4336, c4337) =>
    brn (x4335 != 0) (
      some ((.tup [(.lst false 0 []), (.int .i64 x4335)]), c4336)) (
      bnd' (m64 N c4337 [(.int .i64 0), (.int .i64 x4325), (.bool false), (.int .i64 0), (.int .i64 0), (.int .i64 0), (.int .i64 0), (.int .i64 0), (.int .i64 0), (.int .i64 0), (.int .i64 0), (.int .i64 0), (.int .i64 0), (.int .i64 0), (.int .i64 0), (.int .i64 0), (.int .i64 0), (.int .i64 0), (.int .i64 0), (.int .i64 0), (.int .i64 0), (.int .i64 0), (.int .i64 0), (.int .i64 0), (.int .i64 0), (.int .i64 0), (.int .i64 0), (.int .i64 0)]) fun (p4339, c4341, c4342) =>
      getT0 p4339 <|
      bnd' (m69_2 N c4342) fun p4344 =>
      getI .i64 p4344 fun x4347 =>
      brn (x4347 == 0) (
        some ((.tup [(.lst false 0 []), (.int .i64 12)]), c4336)) (
        grd (25 ≤ List.length (List.drop 3 c4342)) <|
        bnd' (m65 N (.agg (List.take 25 (List.drop 3 c4342))) x4325) fun p4350 =>
        getL p4350 fun n4353 c4354 =>
        some ((.tup [(.lst false n4353 c4354), (.int .i64 0)]), c4336)))
theorem c47_2 (N : Nat) (x4325 : Int) (n4326 : Nat) (c4327 : List PV) (r : PV) (c4356 : List PV) (h : m47_2 N x4325 n4326 c4327 = some (r, c4356)) : V.Fn Tryd.prog 47 1 [.v (.int .i64 x4325), .sl false 0 0 n4326 1] [(0, .p c4327)] (fun d ob' => d = .v r ∧ ob' = [(0, .p c4356)]) := by
  unfold m47_2 at h
  refine Fn_of (sz := 37) tab_ok [0, 1, 4, 5, 6, 8, 9, 18, 30] [.tmp 4, .tmp 5] Tryd.func47 rfl rfl rfl (by simp) ?_
  simp only [initSt, initEnv, List.map_cons, List.map_nil, List.getD_cons_zero, List.getD_cons_succ, List.getD_nil]
  have hh := bnd'_some h; clear h; obtain ⟨oo, h4329, h⟩ := hh
  rcases oo with ⟨x4330, x4331, c4332⟩ | ⟨x4334, x4335, c4336, c4337⟩
  · (try dsimp only at h)
    refine W_sound tab_ok mixed 9 _ _ _ ?_
    simp -implicitDefEqProofs only [go_sem, qa, qb, qc, qd, qe, qf, qg, qh, qi, qj, qk, ↓reduceIte]
    repeat with_reducible refine ⟨by first | kernel_rfl | decide, ?_⟩
    refine Wp_callD [0] (c83_2_a N _ _ _ _ _ _ h4329) rfl rfl rfl (by first | rfl | (simp only [go_sem, qa, qb, qc, qd, qe, qf, qg, qh, qi, qj, qk, ↓reduceIte] <;> rfl)) rfl (by kernel_rfl) ?_
    have hh := brn_some h; clear h; rcases hh with ⟨h4333, h⟩ | ⟨h4333, h⟩
    · refine W_sound tab_ok mixed 23 _ _ _ ?_
      simp -implicitDefEqProofs only [go_sem, qa, qb, qc, qd, qe, qf, qg, qh, qi, qj, qk, ↓reduceIte, h4333]
      repeat with_reducible refine ⟨by first | kernel_rfl | decide, ?_⟩
      simp only [Option.some.injEq, Prod.mk.injEq] at h; obtain ⟨rfl, rfl⟩ := h
      exact finD (e2 := [(0, .dead), (1, .dead), (4, .v (.lst false 0 [])), (5, .v (.int .i64 x4331)), (6, .dead), (8, .dead), (9, .dead), (18, .dead), (30, .dead)]) (ob2 := [(0, .p c4332)]) (st' := ⟨[], [(0, .dead), (1, .dead), (4, .v (.lst false 0 [])), (5, .v (.int .i64 x4331)), (6, .dead), (8, .dead), (9, .dead), (18, .dead), (30, .dead)], [(0, .p c4332)], 1, []⟩) (.k (.k (.cons _ _ _ _ _ (.v _ _ (.nl false)) (.r (.k (.k (.r (.k (.r .nil))))))))) (.cons _ _ _ _ _ (DLes.refl _) .nil) (by kernel_rfl) (by simp only [go_sem, qa, qb, qc, qd, qe, qf, qg, qh, qi, qj, qk, ↓reduceIte, resQ_tmp, resQ_cell, resQ_nil, retD_one, retD_two, retD_three, retD_none]; try simp [R.val, retD_one, retD_two, retD_three, retD_none])
    · cases h
  · (try dsimp only at h)
    refine W_sound tab_ok mixed 9 _ _ _ ?_
    simp -implicitDefEqProofs only [go_sem, qa, qb, qc, qd, qe, qf, qg, qh, qi, qj, qk, ↓reduceIte]
    repeat with_reducible refine ⟨by first | kernel_rfl | decide, ?_⟩
    refine Wp_callD [0] (c83_2_b N _ _ _ _ _ _ _ h4329) rfl rfl rfl (by first | rfl | (simp only [go_sem, qa, qb, qc, qd, qe, qf, qg, qh, qi, qj, qk, ↓reduceIte] <;> rfl)) rfl (by kernel_rfl) ?_
    have hh := brn_some h; clear h; rcases hh with ⟨h4338, h⟩ | ⟨h4338, h⟩
    · refine W_sound tab_ok mixed 23 _ _ _ ?_
      simp -implicitDefEqProofs only [go_sem, qa, qb, qc, qd, qe, qf, qg, qh, qi, qj, qk, ↓reduceIte, h4338]
      repeat with_reducible refine ⟨by first | kernel_rfl | decide, ?_⟩
      simp only [Option.some.injEq, Prod.mk.injEq] at h; obtain ⟨rfl, rfl⟩ := h
      exact finD (e2 := [(0, .dead), (1, .dead), (4, .v (.lst false 0 [])), (5, .v (.int .i64 x4335)), (6, .dead), (8, .dead), (9, .dead), (18, .dead), (30, .dead)]) (ob2 := [(14, .p c4337), (0, .p c4336)]) (st' := ⟨[], [(0, .dead), (1, .dead), (4, .v (.lst false 0 [])), (5, .v (.int .i64 x4335)), (6, .dead), (8, .dead), (9, .dead), (18, .dead), (30, .dead)], [(0, .p c4336)], 1, []⟩) (.k (.k (.cons _ _ _ _ _ (.v _ _ (.nl false)) (.r (.k (.k (.r (.k (.r .nil))))))))) (.cons _ _ _ _ _ (DLes.refl _) (.cons _ _ _ _ _ (DLes.refl _) .nil)) (by kernel_rfl) (by simp only [go_sem, qa, qb, qc, qd, qe, qf, qg, qh, qi, qj, qk, ↓reduceIte, resQ_tmp, resQ_cell, resQ_nil, retD_one, retD_two, retD_three, retD_none]; try simp [R.val, retD_one, retD_two, retD_three, retD_none])
    · have hh := bnd'_some h; clear h; obtain ⟨⟨p4339, c4341, c4342⟩, h4340, h⟩ := hh
      (try dsimp only at h)
      refine W_sound tab_ok mixed 28 _ _ _ ?_
      simp -implicitDefEqProofs only [go_sem, qa, qb, qc, qd, qe, qf, qg, qh, qi, qj, qk, ↓reduceIte, h4338]
      repeat with_reducible refine ⟨by first | kernel_rfl | decide, ?_⟩
      refine Wp_callD [14, 37] (c64 N _ _ _ _ _ h4340) rfl rfl rfl (by first | rfl | (simp only [go_sem, qa, qb, qc, qd, qe, qf, qg, qh, qi, qj, qk, ↓reduceIte, h4338] <;> rfl)) rfl (by kernel_rfl) ?_
      have hh := getT0_some h; clear h; obtain ⟨h4343, h⟩ := hh
      refine W_sound tab_ok mixed 3 _ _ _ ?_
      simp -implicitDefEqProofs only [go_sem, qa, qb, qc, qd, qe, qf, qg, qh, qi, qj, qk, ↓reduceIte, h4338, h4343]
      repeat with_reducible refine ⟨by first | kernel_rfl | decide, ?_⟩
      refine Wp_wkK (Wk_freeze 37 c4342 (by rfl) (by decide) (by decide)) rfl ?_
      simp -implicitDefEqProofs only [go_sem, qa, qb, qc, qd, qe, qf, qg, qh, qi, qj, qk, ↓reduceIte, h4338, h4343]
      have hh := bnd'_some h; clear h; obtain ⟨p4344, h4345, h⟩ := hh
      refine W_sound tab_ok mixed 3 _ _ _ ?_
      simp -implicitDefEqProofs only [go_sem, qa, qb, qc, qd, qe, qf, qg, qh, qi, qj, qk, ↓reduceIte, h4338, h4343]
      repeat with_reducible refine ⟨by first | kernel_rfl | decide, ?_⟩
      refine Wp_callP (c69_2 N _ _ h4345) (by kernel_rfl) rfl rfl rfl rfl (by decide) ?_
      have hh := getI_some h; clear h; obtain ⟨x4347, h4346, h⟩ := hh
      have hh := brn_some h; clear h; rcases hh with ⟨h4348, h⟩ | ⟨h4348, h⟩
      · refine W_sound tab_ok mixed 10 _ _ _ ?_
        simp -implicitDefEqProofs only [go_sem, qa, qb, qc, qd, qe, qf, qg, qh, qi, qj, qk, ↓reduceIte, h4338, h4343, h4346, h4348]
        repeat with_reducible refine ⟨by first | kernel_rfl | decide, ?_⟩
        simp only [Option.some.injEq, Prod.mk.injEq] at h; obtain ⟨rfl, rfl⟩ := h
        exact finD (e2 := [(0, .dead), (1, .dead), (4, .v (.lst false 0 [])), (5, .v (.int .i64 12)), (6, .dead), (8, .dead), (9, .dead), (18, .dead), (30, .dead)]) (ob2 := [(0, .p c4336), (14, .p c4341)]) (st' := ⟨[], [(0, .dead), (1, .dead), (4, .v (.lst false 0 [])), (5, .v (.int .i64 12)), (6, .dead), (8, .dead), (9, .dead), (18, .dead), (30, .dead)], [(0, .p c4336)], 1, []⟩) (.k (.k (.cons _ _ _ _ _ (.v _ _ (.nl false)) (.r (.k (.k (.k (.k (.k .nil))))))))) (.cons _ _ _ _ _ (DLes.refl _) (.cons _ _ _ _ _ (DLes.refl _) .nil)) (by kernel_rfl) (by simp only [go_sem, qa, qb, qc, qd, qe, qf, qg, qh, qi, qj, qk, ↓reduceIte, resQ_tmp, resQ_cell, resQ_nil, retD_one, retD_two, retD_three, retD_none]; try simp [R.val, retD_one, retD_two, retD_three, retD_none])
      · have hh := grd_some h; clear h; obtain ⟨g4349, h⟩ := hh
        have hh := bnd'_some h; clear h; obtain ⟨p4350, h4351, h⟩ := hh
        refine W_sound tab_ok mixed 11 _ _ _ ?_
        simp -implicitDefEqProofs only [go_sem, qa, qb, qc, qd, qe, qf, qg, qh, qi, qj, qk, ↓reduceIte, h4338, h4343, h4346, h4348, g4349]
        repeat with_reducible refine ⟨by first | kernel_rfl | decide, ?_⟩
        refine Wp_callP (c65 N _ _ _ h4351) (by kernel_rfl) rfl rfl rfl rfl (by decide) ?_
        have hh := getL_some h; clear h; obtain ⟨n4353, c4354, h4352, h⟩ := hh
        refine W_sound tab_ok mixed 5 _ _ _ ?_
        simp -implicitDefEqProofs only [go_sem, qa, qb, qc, qd, qe, qf, qg, qh, qi, qj, qk, ↓reduceIte, h4338, h4343, h4346, h4348, g4349, h4352]
        repeat with_reducible refine ⟨by first | kernel_rfl | decide, ?_⟩
        simp only [Option.some.injEq, Prod.mk.injEq] at h; obtain ⟨rfl, rfl⟩ := h
        exact finD (e2 := [(0, .dead), (1, .dead), (4, .v (.lst false n4353 c4354)), (5, .v (.int .i64 0)), (6, .dead), (8, .dead), (9, .dead), (18, .dead), (30, .dead)]) (ob2 := [(0, .p c4336), (14, .p c4341)]) (st' := ⟨[], [(0, .dead), (1, .dead), (4, .v (.lst false n4353 c4354)), (5, .v (.int .i64 0)), (6, .dead), (8, .dead), (9, .dead), (18, .dead), (30, .dead)], [(0, .p c4336)], 1, []⟩) (.k (.k (.r (.r (.k (.k (.k (.k (.k .nil))))))))) (.cons _ _ _ _ _ (DLes.refl _) (.cons _ _ _ _ _ (DLes.refl _) .nil)) (by kernel_rfl) (by simp only [go_sem, qa, qb, qc, qd, qe, qf, qg, qh, qi, qj, qk, ↓reduceIte, resQ_tmp, resQ_cell, resQ_nil, retD_one, retD_two, retD_three, retD_none]; try simp [R.val, retD_one, retD_two, retD_three, retD_none])
def m13_L0 (N : Nat) (x3751 : Int) (p3761 : PV) (p3762 : PV) (p3763 : PV) (p3764 : PV) (p3765 : PV) (p3767 : PV) (p3768 : PV) (p3769 : PV) (p3770 : PV) (p3771 : PV) (x3778 : Int) (n3780 : Nat) (c3781 : List PV) : Nat → Int → List PV → List PV → Option ((List PV × List PV))
  | 0, _, _, _ => none
  | n + 1, x3824, c3825, c3826 =>
    brn (decide (x3824 < x3778)) (
      grd (0 ≤ x3824 ∧ x3824 < (((Int.toNat x3778) : Nat) : Int)) <|
      grd (((Int.toNat x3824) + 1) ≤ List.length c3825) <|
      grd (((Int.toNat x3824) + 1) ≤ List.length c3826) <|
      grd (x3824 < 5) <|
      grd ((Int.toNat x3824) < 5) <|
      getI .u8 (gp [p3761, p3762, p3763, p3764, p3765] (Int.toNat x3824)) fun x3835 =>
      grd ((IntKind.i64.wrap (x3824 + 1)) ≠ 0) <|
      grd (0 ≤ (Int.tmod (IntKind.i64.wrap x3835) (IntKind.i64.wrap (x3824 + 1))) ∧ (Int.tmod (IntKind.i64.wrap x3835) (IntKind.i64.wrap (x3824 + 1))) < (((Int.toNat x3778) : Nat) : Int)) <|
      grd ((Int.toNat (Int.tmod (IntKind.i64.wrap x3835) (IntKind.i64.wrap (x3824 + 1)))) < List.length c3825) <|
      getI .i64 (gp (List.set c3825 (Int.toNat x3824) (.int .i64 x3824)) (Int.toNat (Int.tmod (IntKind.i64.wrap x3835) (IntKind.i64.wrap (x3824 + 1))))) fun x3841 =>
      grd ((Int.toNat x3824) < List.length c3825) <|
      getI .i64 (gp (List.set c3825 (Int.toNat x3824) (.int .i64 x3824)) (Int.toNat x3824)) fun x3844 =>
      grd (((Int.toNat (Int.tmod (IntKind.i64.wrap x3835) (IntKind.i64.wrap (x3824 + 1)))) + 1) ≤ List.length c3825) <|
      brn (decide (x3824 ≥ (Int.tmod (IntKind.i64.wrap x3751) (IntKind.i64.wrap (x3778 + 1))))) (
        getI .u8 (gp [p3767, p3768, p3769, p3770, p3771] (Int.toNat x3824)) fun x3848 =>
        grd ((IntKind.i64.wrap ((IntKind.i64.wrap (x3824 - (Int.tmod (IntKind.i64.wrap x3751) (IntKind.i64.wrap (x3778 + 1))))) + 1)) ≠ 0) <|
        grd (0 ≤ (IntKind.i64.wrap ((Int.tmod (IntKind.i64.wrap x3751) (IntKind.i64.wrap (x3778 + 1))) + (Int.tmod (IntKind.i64.wrap x3848) (IntKind.i64.wrap ((IntKind.i64.wrap (x3824 - (Int.tmod (IntKind.i64.wrap x3751) (IntKind.i64.wrap (x3778 + 1))))) + 1))))) ∧ (IntKind.i64.wrap ((Int.tmod (IntKind.i64.wrap x3751) (IntKind.i64.wrap (x3778 + 1))) + (Int.tmod (IntKind.i64.wrap x3848) (IntKind.i64.wrap ((IntKind.i64.wrap (x3824 - (Int.tmod (IntKind.i64.wrap x3751) (IntKind.i64.wrap (x3778 + 1))))) + 1))))) < (((Int.toNat x3778) : Nat) : Int)) <|
        grd ((Int.toNat (IntKind.i64.wrap ((Int.tmod (IntKind.i64.wrap x3751) (IntKind.i64.wrap (x3778 + 1))) + (Int.tmod (IntKind.i64.wrap x3848) (IntKind.i64.wrap ((IntKind.i64.wrap (x3824 - (Int.tmod (IntKind.i64.wrap x3751) (IntKind.i64.wrap (x3778 + 1))))) + 1)))))) < List.length c3826) <|
        getI .i64 (gp (List.set c3826 (Int.toNat x3824) (.int .i64 x3824)) (Int.toNat (IntKind.i64.wrap ((Int.tmod (IntKind.i64.wrap x3751) (IntKind.i64.wrap (x3778 + 1))) + (Int.tmod (IntKind.i64.wrap x3848) (IntKind.i64.wrap ((IntKind.i64.wrap (x3824 - (Int.tmod (IntKind.i64.wrap x3751) (IntKind.i64.wrap (x3778 + 1))))) + 1))))))) fun x3854 =>
        grd ((Int.toNat x3824) < List.length c3826) <|
        getI .i64 (gp (List.set c3826 (Int.toNat x3824) (.int .i64 x3824)) (Int.toNat x3824)) fun x3857 =>
        grd (((Int.toNat (IntKind.i64.wrap ((Int.tmod (IntKind.i64.wrap x3751) (IntKind.i64.wrap (x3778 + 1))) + (Int.tmod (IntKind.i64.wrap x3848) (IntKind.i64.wrap ((IntKind.i64.wrap (x3824 - (Int.tmod (IntKind.i64.wrap x3751) (IntKind.i64.wrap (x3778 + 1))))) + 1)))))) + 1) ≤ List.length c3826) <|
        m13_L0 N x3751 p3761 p3762 p3763 p3764 p3765 p3767 p3768 p3769 p3770 p3771 x3778 n3780 c3781 n (IntKind.i64.wrap (x3824 + 1)) (List.set (List.set (List.set c3825 (Int.toNat x3824) (.int .i64 x3824)) (Int.toNat x3824) (.int .i64 x3841)) (Int.toNat (Int.tmod (IntKind.i64.wrap x3835) (IntKind.i64.wrap (x3824 + 1)))) (.int .i64 x3844)) (List.set (List.set (List.set c3826 (Int.toNat x3824) (.int .i64 x3824)) (Int.toNat x3824) (.int .i64 x3854)) (Int.toNat (IntKind.i64.wrap ((Int.tmod (IntKind.i64.wrap x3751) (IntKind.i64.wrap (x3778 + 1))) + (Int.tmod (IntKind.i64.wrap x3848) (IntKind.i64.wrap ((IntKind.i64.wrap (x3824 - (Int.tmod (IntKind.i64.wrap x3751) (IntKind.i64.wrap (x3778 + 1))))) + 1)))))) (.int .i64 x3857))) (
        getI .u8 (gp [p3767, p3768, p3769, p3770, p3771] (Int.toNat x3824)) fun x3860 =>
        grd ((IntKind.i64.wrap ((IntKind.i64.wrap x3824) + 1)) ≠ 0) <|
        grd (0 ≤ (IntKind.i64.wrap (0 + (Int.tmod (IntKind.i64.wrap x3860) (IntKind.i64.wrap ((IntKind.i64.wrap x3824) + 1))))) ∧ (IntKind.i64.wrap (0 + (Int.tmod (IntKind.i64.wrap x3860) (IntKind.i64.wrap ((IntKind.i64.wrap x3824) + 1))))) < (((Int.toNat x3778) : Nat) : Int)) <|
        grd ((Int.toNat (IntKind.i64.wrap (0 + (Int.tmod (IntKind.i64.wrap x3860) (IntKind.i64.wrap ((IntKind.i64.wrap x3824) + 1)))))) < List.length c3826) <|
        getI .i64 (gp (List.set c3826 (Int.toNat x3824) (.int .i64 x3824)) (Int.toNat (IntKind.i64.wrap (0 + (Int.tmod (IntKind.i64.wrap x3860) (IntKind.i64.wrap ((IntKind.i64.wrap x3824) + 1))))))) fun x3866 =>
        grd ((Int.toNat x3824) < List.length c3826) <|
        getI .i64 (gp (List.set c3826 (Int.toNat x3824) (.int .i64 x3824)) (Int.toNat x3824)) fun x3869 =>
        grd (((Int.toNat (IntKind.i64.wrap (0 + (Int.tmod (IntKind.i64.wrap x3860) (IntKind.i64.wrap ((IntKind.i64.wrap x3824) + 1)))))) + 1) ≤ List.length c3826) <|
        m13_L0 N x3751 p3761 p3762 p3763 p3764 p3765 p3767 p3768 p3769 p3770 p3771 x3778 n3780 c3781 n (IntKind.i64.wrap (x3824 + 1)) (List.set (List.set (List.set c3825 (Int.toNat x3824) (.int .i64 x3824)) (Int.toNat x3824) (.int .i64 x3841)) (Int.toNat (Int.tmod (IntKind.i64.wrap x3835) (IntKind.i64.wrap (x3824 + 1)))) (.int .i64 x3844)) (List.set (List.set (List.set c3826 (Int.toNat x3824) (.int .i64 x3824)) (Int.toNat x3824) (.int .i64 x3866)) (Int.toNat (IntKind.i64.wrap (0 + (Int.tmod (IntKind.i64.wrap x3860) (IntKind.i64.wrap ((IntKind.i64.wrap x3824) + 1)))))) (.int .i64 x3869)))) (
      some (c3825, c3826))
def m13_L2 (N : Nat) (x3751 : Int) (x3778 : Int) (n3780 : Nat) (c3781 : List PV) (c3871 : List PV) (c3872 : List PV) (n4012 : Nat) (n4013 : Nat) (n4014 : Nat) (x4015 : Int) (c4016 : List PV) (c4017 : List PV) (c4018 : List PV) (n4024 : Nat) (c4025 : List PV) : Nat → Nat → Int → List PV → Option ((Nat × List PV))
  | 0, _, _, _ => none
  | n + 1, n4060, x4061, c4062 =>
    brn (decide (x4061 < (((Int.toNat x3778) : Nat) : Int))) (
      grd (0 ≤ x4061 ∧ x4061 < (((Int.toNat x3778) : Nat) : Int)) <|
      grd ((Int.toNat x4061) < List.length c3872) <|
      getI .i64 (gp c3872 (Int.toNat x4061)) fun x4068 =>
      grd (0 ≤ x4068 ∧ x4068 < ((n4024 : Nat) : Int)) <|
      grd (0 < List.length (List.drop (Int.toNat x4068) c4025)) <|
      getI .i64 (gp c4025 (Int.toNat x4068)) fun x4073 =>
      grd (0 ≤ x4073 ∧ x4073 < (((Int.toNat x3778) : Nat) : Int)) <|
      grd ((Int.toNat x4073) < List.length c3871) <|
      getI .i64 (gp c3871 (Int.toNat x4073)) fun x4078 =>
      grd ((n4060 + 1) ≤ 1099511627776) <|
      grd (List.length c4062 = n4060) <|
      m13_L2 N x3751 x3778 n3780 c3781 c3871 c3872 n4012 n4013 n4014 x4015 c4016 c4017 c4018 n4024 c4025 n (n4060 + 1) (IntKind.i64.wrap (x4061 + 1)) (c4062 ++ [(.int .i64 x4078)])) (
      some (n4060, c4062))
def m13_L1 (N : Nat) (x3751 : Int) (x3778 : Int) (n3780 : Nat) (c3781 : List PV) (c3871 : List PV) (c3872 : List PV) : Nat → Nat → Nat → Nat → Int → List PV → List PV → List PV → Option ((Nat × Nat × Nat × List PV × List PV × List PV))
  | 0, _, _, _, _, _, _, _ => none
  | n + 1, n4012, n4013, n4014, x4015, c4016, c4017, c4018 =>
    brn (decide (x4015 < ((n3780 : Nat) : Int))) (
      grd (0 ≤ x4015 ∧ x4015 < ((n3780 : Nat) : Int)) <|
      grd (0 < List.length (List.drop (Int.toNat x4015) c3781)) <|
      getL (gp c3781 (Int.toNat x4015)) fun n4024 c4025 =>
      bnd' (m13_L2 N x3751 x3778 n3780 c3781 c3871 c3872 n4012 n4013 n4014 x4015 c4016 c4017 c4018 n4024 c4025 N 0 0 []) fun o =>
      match o with
      | (n4081, c4082) =>
        grd ((n4012 + 1) ≤ 1099511627776) <|
        grd (List.length c4016 = n4012) <|
        grd (List.length c4082 = n4081) <|
        grd (0 ≤ (Int.tmod (IntKind.i64.wrap x3751) (IntKind.i64.wrap (x3778 + 1))) ∧ (Int.tmod (IntKind.i64.wrap x3751) (IntKind.i64.wrap (x3778 + 1))) ≤ ((n4024 : Nat) : Int)) <|
        grd (List.length c4025 = n4024) <|
        grd ((n4013 + 1) ≤ 1099511627776) <|
        grd (List.length c4017 = n4013) <|
        grd ((Int.tmod (IntKind.i64.wrap x3751) (IntKind.i64.wrap (x3778 + 1))) ≤ ((n4081 : Nat) : Int)) <|
        grd ((n4014 + 1) ≤ 1099511627776) <|
        grd (List.length c4018 = n4014) <|
        m13_L1 N x3751 x3778 n3780 c3781 c3871 c3872 n (n4012 + 1) (n4013 + 1) (n4014 + 1) (IntKind.i64.wrap (x4015 + 1)) (c4016 ++ [(.lst false n4081 c4082)]) (c4017 ++ [(.lst false (Int.toNat (Int.tmod (IntKind.i64.wrap x3751) (IntKind.i64.wrap (x3778 + 1)))) (List.take (Int.toNat (Int.tmod (IntKind.i64.wrap x3751) (IntKind.i64.wrap (x3778 + 1)))) c4025))]) (c4018 ++ [(.lst false (Int.toNat (Int.tmod (IntKind.i64.wrap x3751) (IntKind.i64.wrap (x3778 + 1)))) (List.take (Int.toNat (Int.tmod (IntKind.i64.wrap x3751) (IntKind.i64.wrap (x3778 + 1)))) c4082))])) (
      some (n4012, n4013, n4014, c4016, c4017, c4018))
def m13 (N : Nat) (p3748 : PV) (p3749 : PV) (p3750 : PV) (x3751 : Int) : Option (PV) :=
  getA7 p3748 fun p3753 p3754 p3755 p3756 p3757 p3758 p3759 =>
  getA5 p3749 fun p3761 p3762 p3763 p3764 p3765 =>
  getA5 p3750 fun p3767 p3768 p3769 p3770 p3771 =>
  bnd' (m37 N (.agg [p3753, p3754, p3755, p3756, p3757, p3758, p3759]) 5) fun p3772 =>
  getT2 p3772 fun p3775 p3776 =>
  getI .i64 p3775 fun x3778 =>
  getL p3776 fun n3780 c3781 =>
  grd ((IntKind.i64.wrap (x3778 + 1)) ≠ 0) <|
  grd (0 ≤ x3778 ∧ x3778 ≤ x3778 ∧ x3778 ≤ 1099511627776) <|
  bnd' (m13_L0 N x3751 p3761 p3762 p3763 p3764 p3765 p3767 p3768 p3769 p3770 p3771 x3778 n3780 c3781 N 0 (List.replicate (Int.toNat x3778) (.int .i64 0)) (List.replicate (Int.toNat x3778) (.int .i64 0))) fun o =>
  match o with
  | (c3871, c3872) =>
    bnd' (m13_L1 N x3751 x3778 n3780 c3781 c3871 c3872 N 0 0 0 0 [] [] []) fun o =>
    match o with
    | (n4094, n4095, n4096, c4097, c4098, c4099) =>
      bnd' (m55 N n4094 c4097) fun (p4183, c4185) =>
      getT0 p4183 <|
      bnd' (m55 N n4096 c4099) fun (p4187, c4189) =>
      getT0 p4187 <|
      bnd' (m25 N x3778 (.lst false n3780 c3781)) fun p4191 =>
      getT2 p4191 fun p4194 p4195 =>
      getI .i64 p4194 fun x4197 =>
      getI .i64 p4195 fun x4199 =>
      bnd' (m25_2 N x3778 n4094 c4185) fun (p4248, c4250) =>
      getT2 p4248 fun p4252 p4253 =>
      getI .i64 p4252 fun x4255 =>
      getI .i64 p4253 fun x4257 =>
      brn (x4199 != x4257) (
        some (.bool false)) (
        brn (x4197 != x4255) (
          some (.bool false)) (
          bnd' (m47_2 N x3778 n4095 c4098) fun (p4357, c4359) =>
          getT2 p4357 fun p4361 p4362 =>
          getL p4361 fun n4364 c4365 =>
          getI .i64 p4362 fun x4367 =>
          bnd' (m47_2 N x3778 n4096 c4189) fun (p4368, c4370) =>
          getT2 p4368 fun p4372 p4373 =>
          getL p4372 fun n4375 c4376 =>
          getI .i64 p4373 fun x4378 =>
          grd (List.length c4370 = n4096) <|
          bnd' (m45 N x3778 (.lst false n4096 c4370)) fun p4380 =>
          getT2 p4380 fun p4383 p4384 =>
          getI .i64 p4383 fun x4386 =>
          getI .i64 p4384 fun x4388 =>
          brn (x4367 == 0) (
            brn (x4378 == 0) (
              brn (x4388 == 13) (
                bnd' (m16 N ) fun p4392 =>
                getB p4392 fun b4395 =>
                some (.bool b4395)) (
                some (.bool false))) (
              some (.bool false))) (
            some (.bool false))))
theorem c13 (N : Nat) (p3748 : PV) (p3749 : PV) (p3750 : PV) (x3751 : Int) (r : PV)  (h : m13 N p3748 p3749 p3750 x3751 = some r) : FnP Tryd.prog 13 [p3748, p3749, p3750, (.int .u8 x3751)] r := by
  unfold m13 at h
  refine Fn_of (sz := 205) tab_ok [0, 1, 2, 3, 4, 5, 6, 8, 9, 10, 11, 12, 13, 14, 15, 16, 17, 18, 19, 21, 22, 24, 25, 26, 27, 28, 30, 45, 46, 47, 80, 108, 109, 110, 111, 114, 115, 116, 117, 173] [.tmp 8] Tryd.func13 rfl rfl rfl (by simp) ?_
  simp only [initSt, initEnv, List.map_cons, List.map_nil, List.getD_cons_zero, List.getD_cons_succ, List.getD_nil]
  have hh := getA7_some h; clear h; obtain ⟨p3753, p3754, p3755, p3756, p3757, p3758, p3759, h3752, h⟩ := hh
  have hh := getA5_some h; clear h; obtain ⟨p3761, p3762, p3763, p3764, p3765, h3760, h⟩ := hh
  have hh := getA5_some h; clear h; obtain ⟨p3767, p3768, p3769, p3770, p3771, h3766, h⟩ := hh
  have hh := bnd'_some h; clear h; obtain ⟨p3772, h3773, h⟩ := hh
  refine W_sound tab_ok mixed 10 _ _ _ ?_
  simp -implicitDefEqProofs only [go_sem, qa, qb, qc, qd, qe, qf, qg, qh, qi, qj, qk, ↓reduceIte, h3752, h3760, h3766]
  repeat with_reducible refine ⟨by first | kernel_rfl | decide, ?_⟩
  refine Wp_callP (c37 N _ _ _ h3773) (by kernel_rfl) rfl rfl rfl rfl (by decide) ?_
  have hh := getT2_some h; clear h; obtain ⟨p3775, p3776, h3774, h⟩ := hh
  have hh := getI_some h; clear h; obtain ⟨x3778, h3777, h⟩ := hh
  have hh := getL_some h; clear h; obtain ⟨n3780, c3781, h3779, h⟩ := hh
  have hh := grd_some h; clear h; obtain ⟨g3782, h⟩ := hh
  have hh := grd_some h; clear h; obtain ⟨⟨g3783, g3784, g3785⟩, h⟩ := hh
  refine W_sound tab_ok mixed 36 _ _ _ ?_
  simp -implicitDefEqProofs only [go_sem, qa, qb, qc, qd, qe, qf, qg, qh, qi, qj, qk, ↓reduceIte, h3752, h3760, h3766, h3774, h3777, h3779, g3782, g3783, g3784, g3785]
  repeat with_reducible refine ⟨by first | kernel_rfl | decide, ?_⟩
  have hh := bnd'_some h; clear h; obtain ⟨o4396, h4397, h4398⟩ := hh
  refine Wp_cut (fun s => ∃ c3871, ∃ c3872, (c3871, c3872) = o4396 ∧ s = ⟨[], [(0, .dead), (1, .dead), (2, .dead), (3, .dead), (4, .dead), (5, .dead), (6, .dead), (8, .dead), (9, .v (.int .i64 x3778)), (10, .v (.lst false n3780 c3781)), (11, .v (.int .i64 (Int.tmod (IntKind.i64.wrap x3751) (IntKind.i64.wrap (x3778 + 1))))), (12, .v .nl), (13, .v .nl), (14, .v .nl), (15, .sl false 0 0 (Int.toNat x3778) 1), (16, .sl false 1 0 (Int.toNat x3778) 1), (17, .dead), (18, .dead), (19, .dead), (21, .dead), (22, .dead), (24, .dead), (25, .dead), (26, .dead), (27, .dead), (28, .dead), (30, .dead), (45, .dead), (46, .dead), (47, .dead), (80, .dead), (108, .dead), (109, .dead), (110, .dead), (111, .dead), (114, .dead), (115, .dead), (116, .dead), (117, .dead), (173, .dead)], [(0, .p c3871), (1, .p c3872)], 2, []⟩) ?_ ?_
  · refine Wp_block ?_
    refine Wp_loopG (fun n s => ∃ x3824, ∃ c3825, ∃ c3826, m13_L0 N x3751 p3761 p3762 p3763 p3764 p3765 p3767 p3768 p3769 p3770 p3771 x3778 n3780 c3781 n x3824 c3825 c3826 = some o4396 ∧ s = ⟨[], [(0, .dead), (1, .dead), (2, .dead), (3, .dead), (4, .dead), (5, .ptr 0 0), (6, .ptr 1 0), (8, .dead), (9, .v (.int .i64 x3778)), (10, .v (.lst false n3780 c3781)), (11, .v (.int .i64 (Int.tmod (IntKind.i64.wrap x3751) (IntKind.i64.wrap (x3778 + 1))))), (12, .v .nl), (13, .v .nl), (14, .v .nl), (15, .sl false 2 0 (Int.toNat x3778) 1), (16, .sl false 3 0 (Int.toNat x3778) 1), (17, .dead), (18, .dead), (19, .dead), (21, .dead), (22, .dead), (24, .dead), (25, .dead), (26, .dead), (27, .dead), (28, .dead), (30, .dead), (45, .v (.int .i64 x3778)), (46, .v (.int .i64 x3824)), (47, .dead), (80, .dead), (108, .dead), (109, .dead), (110, .dead), (111, .dead), (114, .dead), (115, .dead), (116, .dead), (117, .dead), (173, .dead)], [(0, .p [p3761, p3762, p3763, p3764, p3765]), (1, .p [p3767, p3768, p3769, p3770, p3771]), (2, .p c3825), (3, .p c3826)], 4, []⟩) N _ ((Wk_le (.k (.k (.k (.k (.k (.r (.r (.k (.r (.r (.r (.r (.r (.r (.r (.r (.r (.r (.r (.r (.r (.r (.r (.r (.r (.r (.r (.r (.r (.r (.r (.r (.r (.r (.r (.r (.r (.r (.r (.r .nil)))))))))))))))))))))))))))))))))))))))) (OLe.refl _)).trans (cmpS_ok (st' := ⟨[], [(0, .dead), (1, .dead), (2, .dead), (3, .dead), (4, .dead), (5, .ptr 0 0), (6, .ptr 1 0), (8, .dead), (9, .v (.int .i64 x3778)), (10, .v (.lst false n3780 c3781)), (11, .v (.int .i64 (Int.tmod (IntKind.i64.wrap x3751) (IntKind.i64.wrap (x3778 + 1))))), (12, .v .nl), (13, .v .nl), (14, .v .nl), (15, .sl false 2 0 (Int.toNat x3778) 1), (16, .sl false 3 0 (Int.toNat x3778) 1), (17, .dead), (18, .dead), (19, .dead), (21, .dead), (22, .dead), (24, .dead), (25, .dead), (26, .dead), (27, .dead), (28, .dead), (30, .dead), (45, .v (.int .i64 x3778)), (46, .v (.int .i64 0)), (47, .dead), (80, .dead), (108, .dead), (109, .dead), (110, .dead), (111, .dead), (114, .dead), (115, .dead), (116, .dead), (117, .dead), (173, .dead)], [(0, .p [p3761, p3762, p3763, p3764, p3765]), (1, .p [p3767, p3768, p3769, p3770, p3771]), (2, .p (List.replicate (Int.toNat x3778) (.int .i64 0))), (3, .p (List.replicate (Int.toNat x3778) (.int .i64 0)))], 4, []⟩) (by kernel_rfl))) ⟨_, _, _, h4397, rfl⟩ ?_
    clear h4397
    rintro n _ ⟨x3824, c3825, c3826, h4397, rfl⟩
    cases n with
    | zero => cases h4397
    | succ n =>
      rw [m13_L0] at h4397
      have hh := brn_some h4397; clear h4397; rcases hh with ⟨h3827, h4397⟩ | ⟨h3827, h4397⟩
      · have hh := grd_some h4397; clear h4397; obtain ⟨⟨g3828, g3829⟩, h4397⟩ := hh
        have hh := grd_some h4397; clear h4397; obtain ⟨g3830, h4397⟩ := hh
        have hh := grd_some h4397; clear h4397; obtain ⟨g3831, h4397⟩ := hh
        have hh := grd_some h4397; clear h4397; obtain ⟨g3832, h4397⟩ := hh
        have hh := grd_some h4397; clear h4397; obtain ⟨g3833, h4397⟩ := hh
        have hh := getI_some h4397; clear h4397; obtain ⟨x3835, h3834, h4397⟩ := hh
        have hh := grd_some h4397; clear h4397; obtain ⟨g3836, h4397⟩ := hh
        have hh := grd_some h4397; clear h4397; obtain ⟨⟨g3837, g3838⟩, h4397⟩ := hh
        have hh := grd_some h4397; clear h4397; obtain ⟨g3839, h4397⟩ := hh
        have hh := getI_some h4397; clear h4397; obtain ⟨x3841, h3840, h4397⟩ := hh
        have hh := grd_some h4397; clear h4397; obtain ⟨g3842, h4397⟩ := hh
        have hh := getI_some h4397; clear h4397; obtain ⟨x3844, h3843, h4397⟩ := hh
        have hh := grd_some h4397; clear h4397; obtain ⟨g3845, h4397⟩ := hh
        have hh := brn_some h4397; clear h4397; rcases hh with ⟨h3846, h4397⟩ | ⟨h3846, h4397⟩
        · have hh := getI_some h4397; clear h4397; obtain ⟨x3848, h3847, h4397⟩ := hh
          have hh := grd_some h4397; clear h4397; obtain ⟨g3849, h4397⟩ := hh
          have hh := grd_some h4397; clear h4397; obtain ⟨⟨g3850, g3851⟩, h4397⟩ := hh
          have hh := grd_some h4397; clear h4397; obtain ⟨g3852, h4397⟩ := hh
          have hh := getI_some h4397; clear h4397; obtain ⟨x3854, h3853, h4397⟩ := hh
          have hh := grd_some h4397; clear h4397; obtain ⟨g3855, h4397⟩ := hh
          have hh := getI_some h4397; clear h4397; obtain ⟨x3857, h3856, h4397⟩ := hh
          have hh := grd_some h4397; clear h4397; obtain ⟨g3858, h4397⟩ := hh
          refine W_sound tab_ok mixed 111 _ _ _ ?_
          simp -implicitDefEqProofs only [go_sem, qa, qb, qc, qd, qe, qf, qg, qh, qi, qj, qk, ↓reduceIte, h3752, h3760, h3766, h3774, h3777, h3779, g3782, g3783, g3784, g3785, h3827, g3828, g3829, g3830, g3831, g3832, g3833, h3834, g3836, g3837, g3838, g3839, h3840, g3842, h3843, g3845, h3846, h3847, g3849, g3850, g3851, g3852, h3853, g3855, h3856, g3858]
          repeat with_reducible refine ⟨by first | kernel_rfl | decide, ?_⟩
          exact cutQ _ ((Wk_le (.r (.r (.r (.r (.r (.r (.r (.r (.r (.r (.r (.r (.r (.r (.r (.r (.k (.k (.k (.r (.r (.r (.r (.r (.r (.r (.r (.r (.r (.k (.k (.r (.r (.r (.r (.r (.r (.r (.r (.r .nil)))))))))))))))))))))))))))))))))))))))) (OLe.refl _)).trans (cmpS_ok (st' := ⟨[], [(0, .dead), (1, .dead), (2, .dead), (3, .dead), (4, .dead), (5, .ptr 0 0), (6, .ptr 1 0), (8, .dead), (9, .v (.int .i64 x3778)), (10, .v (.lst false n3780 c3781)), (11, .v (.int .i64 (Int.tmod (IntKind.i64.wrap x3751) (IntKind.i64.wrap (x3778 + 1))))), (12, .v .nl), (13, .v .nl), (14, .v .nl), (15, .sl false 2 0 (Int.toNat x3778) 1), (16, .sl false 3 0 (Int.toNat x3778) 1), (17, .dead), (18, .dead), (19, .dead), (21, .dead), (22, .dead), (24, .dead), (25, .dead), (26, .dead), (27, .dead), (28, .dead), (30, .dead), (45, .v (.int .i64 x3778)), (46, .v (.int .i64 (IntKind.i64.wrap (x3824 + 1)))), (47, .dead), (80, .dead), (108, .dead), (109, .dead), (110, .dead), (111, .dead), (114, .dead), (115, .dead), (116, .dead), (117, .dead), (173, .dead)], [(0, .p [p3761, p3762, p3763, p3764, p3765]), (1, .p [p3767, p3768, p3769, p3770, p3771]), (2, .p (List.set (List.set (List.set c3825 (Int.toNat x3824) (.int .i64 x3824)) (Int.toNat x3824) (.int .i64 x3841)) (Int.toNat (Int.tmod (IntKind.i64.wrap x3835) (IntKind.i64.wrap (x3824 + 1)))) (.int .i64 x3844))), (3, .p (List.set (List.set (List.set c3826 (Int.toNat x3824) (.int .i64 x3824)) (Int.toNat x3824) (.int .i64 x3854)) (Int.toNat (IntKind.i64.wrap ((Int.tmod (IntKind.i64.wrap x3751) (IntKind.i64.wrap (x3778 + 1))) + (Int.tmod (IntKind.i64.wrap x3848) (IntKind.i64.wrap ((IntKind.i64.wrap (x3824 - (Int.tmod (IntKind.i64.wrap x3751) (IntKind.i64.wrap (x3778 + 1))))) + 1)))))) (.int .i64 x3857)))], 4, []⟩) (by kernel_rfl))) ⟨n, Nat.lt_succ_self n, _, _, _, h4397, rfl⟩
        · have hh := getI_some h4397; clear h4397; obtain ⟨x3860, h3859, h4397⟩ := hh
          have hh := grd_some h4397; clear h4397; obtain ⟨g3861, h4397⟩ := hh
          have hh := grd_some h4397; clear h4397; obtain ⟨⟨g3862, g3863⟩, h4397⟩ := hh
          have hh := grd_some h4397; clear h4397; obtain ⟨g3864, h4397⟩ := hh
          have hh := getI_some h4397; clear h4397; obtain ⟨x3866, h3865, h4397⟩ := hh
          have hh := grd_some h4397; clear h4397; obtain ⟨g3867, h4397⟩ := hh
          have hh := getI_some h4397; clear h4397; obtain ⟨x3869, h3868, h4397⟩ := hh
          have hh := grd_some h4397; clear h4397; obtain ⟨g3870, h4397⟩ := hh
          refine W_sound tab_ok mixed 108 _ _ _ ?_
          simp -implicitDefEqProofs only [go_sem, qa, qb, qc, qd, qe, qf, qg, qh, qi, qj, qk, ↓reduceIte, h3752, h3760, h3766, h3774, h3777, h3779, g3782, g3783, g3784, g3785, h3827, g3828, g3829, g3830, g3831, g3832, g3833, h3834, g3836, g3837, g3838, g3839, h3840, g3842, h3843, g3845, h3846, h3859, g3861, g3862, g3863, g3864, h3865, g3867, h3868, g3870]
          repeat with_reducible refine ⟨by first | kernel_rfl | decide, ?_⟩
          exact cutQ _ ((Wk_le (.r (.r (.r (.r (.r (.r (.r (.r (.r (.r (.r (.r (.r (.r (.r (.r (.k (.k (.k (.r (.r (.r (.r (.r (.r (.r (.r (.r (.r (.k (.k (.r (.r (.r (.r (.r (.r (.r (.r (.r .nil)))))))))))))))))))))))))))))))))))))))) (OLe.refl _)).trans (cmpS_ok (st' := ⟨[], [(0, .dead), (1, .dead), (2, .dead), (3, .dead), (4, .dead), (5, .ptr 0 0), (6, .ptr 1 0), (8, .dead), (9, .v (.int .i64 x3778)), (10, .v (.lst false n3780 c3781)), (11, .v (.int .i64 (Int.tmod (IntKind.i64.wrap x3751) (IntKind.i64.wrap (x3778 + 1))))), (12, .v .nl), (13, .v .nl), (14, .v .nl), (15, .sl false 2 0 (Int.toNat x3778) 1), (16, .sl false 3 0 (Int.toNat x3778) 1), (17, .dead), (18, .dead), (19, .dead), (21, .dead), (22, .dead), (24, .dead), (25, .dead), (26, .dead), (27, .dead), (28, .dead), (30, .dead), (45, .v (.int .i64 x3778)), (46, .v (.int .i64 (IntKind.i64.wrap (x3824 + 1)))), (47, .dead), (80, .dead), (108, .dead), (109, .dead), (110, .dead), (111, .dead), (114, .dead), (115, .dead), (116, .dead), (117, .dead), (173, .dead)], [(0, .p [p3761, p3762, p3763, p3764, p3765]), (1, .p [p3767, p3768, p3769, p3770, p3771]), (2, .p (List.set (List.set (List.set c3825 (Int.toNat x3824) (.int .i64 x3824)) (Int.toNat x3824) (.int .i64 x3841)) (Int.toNat (Int.tmod (IntKind.i64.wrap x3835) (IntKind.i64.wrap (x3824 + 1)))) (.int .i64 x3844))), (3, .p (List.set (List.set (List.set c3826 (Int.toNat x3824) (.int .i64 x3824)) (Int.toNat x3824) (.int .i64 x3866)) (Int.toNat (IntKind.i64.wrap (0 + (Int.tmod (IntKind.i64.wrap x3860) (IntKind.i64.wrap ((IntKind.i64.wrap x3824) + 1)))))) (.int .i64 x3869)))], 4, []⟩) (by kernel_rfl))) ⟨n, Nat.lt_succ_self n, _, _, _, h4397, rfl⟩
      · refine W_sound tab_ok mixed 7 _ _ _ ?_
        simp -implicitDefEqProofs only [go_sem, qa, qb, qc, qd, qe, qf, qg, qh, qi, qj, qk, ↓reduceIte, h3752, h3760, h3766, h3774, h3777, h3779, g3782, g3783, g3784, g3785, h3827]
        repeat with_reducible refine ⟨by first | kernel_rfl | decide, ?_⟩
        obtain rfl := Option.some.inj h4397
        exact cutQ _ ((Wk_le (.r (.r (.r (.r (.r (.k (.k (.r (.r (.r (.r (.r (.r (.r (.r (.r (.r (.r (.r (.r (.r (.r (.r (.r (.r (.r (.r (.k (.k (.k (.r (.r (.r (.r (.r (.r (.r (.r (.r (.r .nil)))))))))))))))))))))))))))))))))))))))) (OLe.refl _)).trans (cmpS_ok (st' := ⟨[], [(0, .dead), (1, .dead), (2, .dead), (3, .dead), (4, .dead), (5, .dead), (6, .dead), (8, .dead), (9, .v (.int .i64 x3778)), (10, .v (.lst false n3780 c3781)), (11, .v (.int .i64 (Int.tmod (IntKind.i64.wrap x3751) (IntKind.i64.wrap (x3778 + 1))))), (12, .v .nl), (13, .v .nl), (14, .v .nl), (15, .sl false 0 0 (Int.toNat x3778) 1), (16, .sl false 1 0 (Int.toNat x3778) 1), (17, .dead), (18, .dead), (19, .dead), (21, .dead), (22, .dead), (24, .dead), (25, .dead), (26, .dead), (27, .dead), (28, .dead), (30, .dead), (45, .dead), (46, .dead), (47, .dead), (80, .dead), (108, .dead), (109, .dead), (110, .dead), (111, .dead), (114, .dead), (115, .dead), (116, .dead), (117, .dead), (173, .dead)], [(0, .p c3825), (1, .p c3826)], 2, []⟩) (by kernel_rfl))) ⟨_, _, rfl, rfl⟩
  · rintro _ ⟨c3871, c3872, rfl, rfl⟩
    (try dsimp only at h4398)
    refine W_sound tab_ok mixed 7 _ _ _ ?_
    simp -implicitDefEqProofs only [go_sem, qa, qb, qc, qd, qe, qf, qg, qh, qi, qj, qk, ↓reduceIte, h3752, h3760, h3766, h3774, h3777, h3779, g3782, g3783, g3784, g3785]
    repeat with_reducible refine ⟨by first | kernel_rfl | decide, ?_⟩
    refine Wp_weaken (Wk_ownS 14 1 rfl (by decide) (by decide)) ?_
    simp -implicitDefEqProofs only [go_sem, qa, qb, qc, qd, qe, qf, qg, qh, qi, qj, qk, ↓reduceIte, h3752, h3760, h3766, h3774, h3777, h3779, g3782, g3783, g3784, g3785]
    refine Wp_weaken (Wk_ownS 12 1 rfl (by decide) (by decide)) ?_
    simp -implicitDefEqProofs only [go_sem, qa, qb, qc, qd, qe, qf, qg, qh, qi, qj, qk, ↓reduceIte, h3752, h3760, h3766, h3774, h3777, h3779, g3782, g3783, g3784, g3785]
    refine Wp_weaken (Wk_ownS 13 1 rfl (by decide) (by decide)) ?_
    simp -implicitDefEqProofs only [go_sem, qa, qb, qc, qd, qe, qf, qg, qh, qi, qj, qk, ↓reduceIte, h3752, h3760, h3766, h3774, h3777, h3779, g3782, g3783, g3784, g3785]
    have hh := bnd'_some h4398; clear h4398; obtain ⟨o4399, h4400, h4401⟩ := hh
    refine Wp_cut (fun s => ∃ n4094, ∃ n4095, ∃ n4096, ∃ c4097, ∃ c4098, ∃ c4099, (n4094, n4095, n4096, c4097, c4098, c4099) = o4399 ∧ s = ⟨[], [(0, .dead), (1, .dead), (2, .dead), (3, .dead), (4, .dead), (5, .dead), (6, .dead), (8, .dead), (9, .v (.int .i64 x3778)), (10, .v (.lst false n3780 c3781)), (11, .dead), (12, .sl false 0 0 n4094 1), (13, .sl false 1 0 n4095 1), (14, .sl false 2 0 n4096 1), (15, .dead), (16, .dead), (17, .dead), (18, .dead), (19, .dead), (21, .dead), (22, .dead), (24, .dead), (25, .dead), (26, .dead), (27, .dead), (28, .dead), (30, .dead), (45, .dead), (46, .dead), (47, .dead), (80, .dead), (108, .dead), (109, .dead), (110, .dead), (111, .dead), (114, .dead), (115, .dead), (116, .dead), (117, .dead), (173, .dead)], [(0, .p c4097), (1, .p c4098), (2, .p c4099)], 3, []⟩) ?_ ?_
    · refine Wp_block ?_
      refine Wp_loopG (fun n s => ∃ n4012, ∃ n4013, ∃ n4014, ∃ x4015, ∃ c4016, ∃ c4017, ∃ c4018, m13_L1 N x3751 x3778 n3780 c3781 c3871 c3872 n n4012 n4013 n4014 x4015 c4016 c4017 c4018 = some o4399 ∧ s = ⟨[], [(0, .dead), (1, .dead), (2, .dead), (3, .dead), (4, .dead), (5, .dead), (6, .dead), (8, .dead), (9, .v (.int .i64 x3778)), (10, .v (.lst false n3780 c3781)), (11, .v (.int .i64 (Int.tmod (IntKind.i64.wrap x3751) (IntKind.i64.wrap (x3778 + 1))))), (12, .sl false 0 0 n4012 1), (13, .sl false 1 0 n4013 1), (14, .sl false 2 0 n4014 1), (15, .sl false 3 0 (Int.toNat x3778) 1), (16, .sl false 4 0 (Int.toNat x3778) 1), (17, .dead), (18, .dead), (19, .dead), (21, .dead), (22, .dead), (24, .dead), (25, .dead), (26, .dead), (27, .dead), (28, .dead), (30, .dead), (45, .dead), (46, .dead), (47, .dead), (80, .dead), (108, .v (.lst false n3780 c3781)), (109, .v (.int .i64 ((n3780 : Nat) : Int))), (110, .v (.int .i64 x4015)), (111, .dead), (114, .dead), (115, .dead), (116, .dead), (117, .dead), (173, .dead)], [(0, .p c4016), (1, .p c4017), (2, .p c4018), (3, .p c3871), (4, .p c3872)], 5, []⟩) N _ ((Wk_le (.r (.r (.r (.r (.r (.r (.r (.r (.r (.r (.r (.r (.r (.r (.r (.r (.r (.r (.r (.r (.r (.r (.r (.r (.r (.r (.r (.r (.r (.r (.r (.r (.r (.r (.r (.r (.r (.r (.r (.r .nil)))))))))))))))))))))))))))))))))))))))) (OLe.refl _)).trans (cmpS_ok (st' := ⟨[], [(0, .dead), (1, .dead), (2, .dead), (3, .dead), (4, .dead), (5, .dead), (6, .dead), (8, .dead), (9, .v (.int .i64 x3778)), (10, .v (.lst false n3780 c3781)), (11, .v (.int .i64 (Int.tmod (IntKind.i64.wrap x3751) (IntKind.i64.wrap (x3778 + 1))))), (12, .sl false 0 0 0 1), (13, .sl false 1 0 0 1), (14, .sl false 2 0 0 1), (15, .sl false 3 0 (Int.toNat x3778) 1), (16, .sl false 4 0 (Int.toNat x3778) 1), (17, .dead), (18, .dead), (19, .dead), (21, .dead), (22, .dead), (24, .dead), (25, .dead), (26, .dead), (27, .dead), (28, .dead), (30, .dead), (45, .dead), (46, .dead), (47, .dead), (80, .dead), (108, .v (.lst false n3780 c3781)), (109, .v (.int .i64 ((n3780 : Nat) : Int))), (110, .v (.int .i64 0)), (111, .dead), (114, .dead), (115, .dead), (116, .dead), (117, .dead), (173, .dead)], [(0, .p []), (1, .p []), (2, .p []), (3, .p c3871), (4, .p c3872)], 5, []⟩) (by kernel_rfl))) ⟨_, _, _, _, _, _, _, h4400, rfl⟩ ?_
      clear h4400
      rintro n _ ⟨n4012, n4013, n4014, x4015, c4016, c4017, c4018, h4400, rfl⟩
      cases n with
      | zero => cases h4400
      | succ n =>
        rw [m13_L1] at h4400
        have hh := brn_some h4400; clear h4400; rcases hh with ⟨h4019, h4400⟩ | ⟨h4019, h4400⟩
        · have hh := grd_some h4400; clear h4400; obtain ⟨⟨g4020, g4021⟩, h4400⟩ := hh
          have hh := grd_some h4400; clear h4400; obtain ⟨g4022, h4400⟩ := hh
          have hh := getL_some h4400; clear h4400; obtain ⟨n4024, c4025, h4023, h4400⟩ := hh
          refine W_sound tab_ok mixed 26 _ _ _ ?_
          simp -implicitDefEqProofs only [go_sem, qa, qb, qc, qd, qe, qf, qg, qh, qi, qj, qk, ↓reduceIte, h3752, h3760, h3766, h3774, h3777, h3779, g3782, g3783, g3784, g3785, h4019, g4020, g4021, g4022, h4023]
          repeat with_reducible refine ⟨by first | kernel_rfl | decide, ?_⟩
          refine Wp_weaken (Wk_ownS 22 1 rfl (by decide) (by decide)) ?_
          simp -implicitDefEqProofs only [go_sem, qa, qb, qc, qd, qe, qf, qg, qh, qi, qj, qk, ↓reduceIte, h3752, h3760, h3766, h3774, h3777, h3779, g3782, g3783, g3784, g3785, h4019, g4020, g4021, g4022, h4023]
          have hh := bnd'_some h4400; clear h4400; obtain ⟨o4402, h4403, h4404⟩ := hh
          refine Wp_cut (fun s => ∃ n4081, ∃ c4082, (n4081, c4082) = o4402 ∧ s = ⟨[], [(0, .dead), (1, .dead), (2, .dead), (3, .dead), (4, .dead), (5, .dead), (6, .dead), (8, .dead), (9, .v (.int .i64 x3778)), (10, .v (.lst false n3780 c3781)), (11, .v (.int .i64 (Int.tmod (IntKind.i64.wrap x3751) (IntKind.i64.wrap (x3778 + 1))))), (12, .sl false 0 0 n4012 1), (13, .sl false 1 0 n4013 1), (14, .sl false 2 0 n4014 1), (15, .sl false 3 0 (Int.toNat x3778) 1), (16, .sl false 4 0 (Int.toNat x3778) 1), (17, .dead), (18, .dead), (19, .dead), (21, .v (.lst false n4024 c4025)), (22, .sl false 5 0 n4081 1), (24, .dead), (25, .dead), (26, .dead), (27, .dead), (28, .dead), (30, .dead), (45, .dead), (46, .dead), (47, .dead), (80, .dead), (108, .v (.lst false n3780 c3781)), (109, .v (.int .i64 ((n3780 : Nat) : Int))), (110, .v (.int .i64 x4015)), (111, .dead), (114, .dead), (115, .dead), (116, .dead), (117, .dead), (173, .dead)], [(0, .p c4016), (1, .p c4017), (2, .p c4018), (3, .p c3871), (4, .p c3872), (5, .p c4082)], 6, []⟩) ?_ ?_
          · refine Wp_block ?_
            refine Wp_loopG (fun n s => ∃ n4060, ∃ x4061, ∃ c4062, m13_L2 N x3751 x3778 n3780 c3781 c3871 c3872 n4012 n4013 n4014 x4015 c4016 c4017 c4018 n4024 c4025 n n4060 x4061 c4062 = some o4402 ∧ s = ⟨[], [(0, .dead), (1, .dead), (2, .dead), (3, .dead), (4, .dead), (5, .dead), (6, .dead), (8, .dead), (9, .v (.int .i64 x3778)), (10, .v (.lst false n3780 c3781)), (11, .v (.int .i64 (Int.tmod (IntKind.i64.wrap x3751) (IntKind.i64.wrap (x3778 + 1))))), (12, .sl false 0 0 n4012 1), (13, .sl false 1 0 n4013 1), (14, .sl false 2 0 n4014 1), (15, .sl false 3 0 (Int.toNat x3778) 1), (16, .sl false 4 0 (Int.toNat x3778) 1), (17, .dead), (18, .dead), (19, .dead), (21, .v (.lst false n4024 c4025)), (22, .sl false 5 0 n4060 1), (24, .dead), (25, .dead), (26, .dead), (27, .dead), (28, .dead), (30, .dead), (45, .dead), (46, .dead), (47, .dead), (80, .dead), (108, .v (.lst false n3780 c3781)), (109, .v (.int .i64 ((n3780 : Nat) : Int))), (110, .v (.int .i64 x4015)), (111, .dead), (114, .sl false 4 0 (Int.toNat x3778) 1), (115, .v (.int .i64 (((Int.toNat x3778) : Nat) : Int))), (116, .v (.int .i64 x4061)), (117, .dead), (173, .dead)], [(0, .p c4016), (1, .p c4017), (2, .p c4018), (3, .p c3871), (4, .p c3872), (5, .p c4062)], 6, []⟩) N _ ((Wk_le (.r (.r (.r (.r (.r (.r (.r (.r (.r (.r (.r (.r (.r (.r (.r (.r (.r (.r (.r (.r (.r (.r (.r (.r (.r (.r (.r (.r (.r (.r (.r (.r (.r (.r (.k (.r (.r (.r (.r (.r .nil)))))))))))))))))))))))))))))))))))))))) (OLe.refl _)).trans (cmpS_ok (st' := ⟨[], [(0, .dead), (1, .dead), (2, .dead), (3, .dead), (4, .dead), (5, .dead), (6, .dead), (8, .dead), (9, .v (.int .i64 x3778)), (10, .v (.lst false n3780 c3781)), (11, .v (.int .i64 (Int.tmod (IntKind.i64.wrap x3751) (IntKind.i64.wrap (x3778 + 1))))), (12, .sl false 0 0 n4012 1), (13, .sl false 1 0 n4013 1), (14, .sl false 2 0 n4014 1), (15, .sl false 3 0 (Int.toNat x3778) 1), (16, .sl false 4 0 (Int.toNat x3778) 1), (17, .dead), (18, .dead), (19, .dead), (21, .v (.lst false n4024 c4025)), (22, .sl false 5 0 0 1), (24, .dead), (25, .dead), (26, .dead), (27, .dead), (28, .dead), (30, .dead), (45, .dead), (46, .dead), (47, .dead), (80, .dead), (108, .v (.lst false n3780 c3781)), (109, .v (.int .i64 ((n3780 : Nat) : Int))), (110, .v (.int .i64 x4015)), (111, .dead), (114, .sl false 4 0 (Int.toNat x3778) 1), (115, .v (.int .i64 (((Int.toNat x3778) : Nat) : Int))), (116, .v (.int .i64 0)), (117, .dead), (173, .dead)], [(0, .p c4016), (1, .p c4017), (2, .p c4018), (3, .p c3871), (4, .p c3872), (5, .p [])], 6, []⟩) (by kernel_rfl))) ⟨_, _, _, h4403, rfl⟩ ?_
            clear h4403
            rintro n _ ⟨n4060, x4061, c4062, h4403, rfl⟩
            cases n with
            | zero => cases h4403
            | succ n =>
              rw [m13_L2] at h4403
              have hh := brn_some h4403; clear h4403; rcases hh with ⟨h4063, h4403⟩ | ⟨h4063, h4403⟩
              · have hh := grd_some h4403; clear h4403; obtain ⟨⟨g4064, g4065⟩, h4403⟩ := hh
                have hh := grd_some h4403; clear h4403; obtain ⟨g4066, h4403⟩ := hh
                have hh := getI_some h4403; clear h4403; obtain ⟨x4068, h4067, h4403⟩ := hh
                have hh := grd_some h4403; clear h4403; obtain ⟨⟨g4069, g4070⟩, h4403⟩ := hh
                have hh := grd_some h4403; clear h4403; obtain ⟨g4071, h4403⟩ := hh
                have hh := getI_some h4403; clear h4403; obtain ⟨x4073, h4072, h4403⟩ := hh
                have hh := grd_some h4403; clear h4403; obtain ⟨⟨g4074, g4075⟩, h4403⟩ := hh
                have hh := grd_some h4403; clear h4403; obtain ⟨g4076, h4403⟩ := hh
                have hh := getI_some h4403; clear h4403; obtain ⟨x4078, h4077, h4403⟩ := hh
                have hh := grd_some h4403; clear h4403; obtain ⟨g4079, h4403⟩ := hh
                have hh := grd_some h4403; clear h4403; obtain ⟨g4080, h4403⟩ := hh
                refine W_sound tab_ok mixed 33 _ _ _ ?_
                simp -implicitDefEqProofs only [go_sem, qa, qb, qc, qd, qe, qf, qg, qh, qi, qj, qk, ↓reduceIte, h3752, h3760, h3766, h3774, h3777, h3779, g3782, g3783, g3784, g3785, h4019, g4020, g4021, g4022, h4023, h4063, g4064, g4065, g4066, h4067, g4069, g4070, g4071, h4072, g4074, g4075, g4076, h4077, g4079, g4080]
                repeat with_reducible refine ⟨by first | kernel_rfl | decide, ?_⟩
                exact cutQ _ ((Wk_le (.r (.r (.r (.r (.r (.r (.r (.r (.r (.r (.r (.r (.r (.r (.r (.r (.r (.r (.r (.r (.r (.k (.r (.r (.r (.r (.r (.r (.r (.r (.r (.r (.r (.r (.r (.r (.r (.r (.k (.r .nil)))))))))))))))))))))))))))))))))))))))) (OLe.refl _)).trans (cmpS_ok (st' := ⟨[], [(0, .dead), (1, .dead), (2, .dead), (3, .dead), (4, .dead), (5, .dead), (6, .dead), (8, .dead), (9, .v (.int .i64 x3778)), (10, .v (.lst false n3780 c3781)), (11, .v (.int .i64 (Int.tmod (IntKind.i64.wrap x3751) (IntKind.i64.wrap (x3778 + 1))))), (12, .sl false 0 0 n4012 1), (13, .sl false 1 0 n4013 1), (14, .sl false 2 0 n4014 1), (15, .sl false 3 0 (Int.toNat x3778) 1), (16, .sl false 4 0 (Int.toNat x3778) 1), (17, .dead), (18, .dead), (19, .dead), (21, .v (.lst false n4024 c4025)), (22, .sl false 5 0 (n4060 + 1) 1), (24, .dead), (25, .dead), (26, .dead), (27, .dead), (28, .dead), (30, .dead), (45, .dead), (46, .dead), (47, .dead), (80, .dead), (108, .v (.lst false n3780 c3781)), (109, .v (.int .i64 ((n3780 : Nat) : Int))), (110, .v (.int .i64 x4015)), (111, .dead), (114, .sl false 4 0 (Int.toNat x3778) 1), (115, .v (.int .i64 (((Int.toNat x3778) : Nat) : Int))), (116, .v (.int .i64 (IntKind.i64.wrap (x4061 + 1)))), (117, .dead), (173, .dead)], [(0, .p c4016), (1, .p c4017), (2, .p c4018), (3, .p c3871), (4, .p c3872), (5, .p (c4062 ++ [(.int .i64 x4078)]))], 6, []⟩) (by kernel_rfl))) ⟨n, Nat.lt_succ_self n, _, _, _, h4403, rfl⟩
              · refine W_sound tab_ok mixed 7 _ _ _ ?_
                simp -implicitDefEqProofs only [go_sem, qa, qb, qc, qd, qe, qf, qg, qh, qi, qj, qk, ↓reduceIte, h3752, h3760, h3766, h3774, h3777, h3779, g3782, g3783, g3784, g3785, h4019, g4020, g4021, g4022, h4023, h4063]
                repeat with_reducible refine ⟨by first | kernel_rfl | decide, ?_⟩
                obtain rfl := Option.some.inj h4403
                exact cutQ _ ((Wk_le (.r (.r (.r (.r (.r (.r (.r (.r (.r (.r (.r (.r (.r (.r (.r (.r (.r (.r (.r (.r (.r (.r (.r (.r (.r (.r (.r (.r (.r (.r (.r (.r (.r (.r (.r (.k (.k (.k (.k (.r .nil)))))))))))))))))))))))))))))))))))))))) (OLe.refl _)).trans (cmpS_ok (st' := ⟨[], [(0, .dead), (1, .dead), (2, .dead), (3, .dead), (4, .dead), (5, .dead), (6, .dead), (8, .dead), (9, .v (.int .i64 x3778)), (10, .v (.lst false n3780 c3781)), (11, .v (.int .i64 (Int.tmod (IntKind.i64.wrap x3751) (IntKind.i64.wrap (x3778 + 1))))), (12, .sl false 0 0 n4012 1), (13, .sl false 1 0 n4013 1), (14, .sl false 2 0 n4014 1), (15, .sl false 3 0 (Int.toNat x3778) 1), (16, .sl false 4 0 (Int.toNat x3778) 1), (17, .dead), (18, .dead), (19, .dead), (21, .v (.lst false n4024 c4025)), (22, .sl false 5 0 n4060 1), (24, .dead), (25, .dead), (26, .dead), (27, .dead), (28, .dead), (30, .dead), (45, .dead), (46, .dead), (47, .dead), (80, .dead), (108, .v (.lst false n3780 c3781)), (109, .v (.int .i64 ((n3780 : Nat) : Int))), (110, .v (.int .i64 x4015)), (111, .dead), (114, .dead), (115, .dead), (116, .dead), (117, .dead), (173, .dead)], [(0, .p c4016), (1, .p c4017), (2, .p c4018), (3, .p c3871), (4, .p c3872), (5, .p c4062)], 6, []⟩) (by kernel_rfl))) ⟨_, _, rfl, rfl⟩
          · rintro _ ⟨n4081, c4082, rfl, rfl⟩
            (try dsimp only at h4404)
            have hh := grd_some h4404; clear h4404; obtain ⟨g4083, h4404⟩ := hh
            have hh := grd_some h4404; clear h4404; obtain ⟨g4084, h4404⟩ := hh
            refine W_sound tab_ok mixed 8 _ _ _ ?_
            simp -implicitDefEqProofs only [go_sem, qa, qb, qc, qd, qe, qf, qg, qh, qi, qj, qk, ↓reduceIte, h3752, h3760, h3766, h3774, h3777, h3779, g3782, g3783, g3784, g3785, h4019, g4020, g4021, g4022, h4023, g4083, g4084]
            repeat with_reducible refine ⟨by first | kernel_rfl | decide, ?_⟩
            have hh := grd_some h4404; clear h4404; obtain ⟨g4085, h4404⟩ := hh
            refine Wp_wkK (Wk_freeze 5 c4082 (by rfl) (by decide) (by decide)) rfl ?_
            simp -implicitDefEqProofs only [go_sem, qa, qb, qc, qd, qe, qf, qg, qh, qi, qj, qk, ↓reduceIte, h3752, h3760, h3766, h3774, h3777, h3779, g3782, g3783, g3784, g3785, h4019, g4020, g4021, g4022, h4023, g4083, g4084, g4085]
            have hh := grd_some h4404; clear h4404; obtain ⟨⟨g4086, g4087⟩, h4404⟩ := hh
            have hh := grd_some h4404; clear h4404; obtain ⟨g4088, h4404⟩ := hh
            have hh := grd_some h4404; clear h4404; obtain ⟨g4089, h4404⟩ := hh
            have hh := grd_some h4404; clear h4404; obtain ⟨g4090, h4404⟩ := hh
            have hh := grd_some h4404; clear h4404; obtain ⟨g4091, h4404⟩ := hh
            have hh := grd_some h4404; clear h4404; obtain ⟨g4092, h4404⟩ := hh
            have hh := grd_some h4404; clear h4404; obtain ⟨g4093, h4404⟩ := hh
            refine W_sound tab_ok mixed 23 _ _ _ ?_
            simp -implicitDefEqProofs only [go_sem, qa, qb, qc, qd, qe, qf, qg, qh, qi, qj, qk, ↓reduceIte, h3752, h3760, h3766, h3774, h3777, h3779, g3782, g3783, g3784, g3785, h4019, g4020, g4021, g4022, h4023, g4083, g4084, g4085, g4086, g4087, g4088, g4089, g4090, g4091, g4092, g4093]
            repeat with_reducible refine ⟨by first | kernel_rfl | decide, ?_⟩
            exact cutQ _ ((Wk_le (.r (.r (.r (.r (.r (.r (.r (.r (.r (.r (.r (.r (.r (.r (.r (.r (.r (.r (.r (.k (.k (.r (.r (.r (.r (.r (.r (.r (.r (.r (.r (.r (.r (.r (.r (.r (.r (.r (.r (.r .nil)))))))))))))))))))))))))))))))))))))))) (.cons _ _ _ _ _ (DLes.refl _) (.cons _ _ _ _ _ (DLes.refl _) (.cons _ _ _ _ _ (DLes.refl _) (.cons _ _ _ _ _ (DLes.refl _) (.cons _ _ _ _ _ (DLes.refl _) (.cons _ (.p _) (.p _) _ _ (DLes.of_p (PLes.app (PLes.refl _) (.cons _ _ _ _ (.lst true false _ _ _ (fun h => by first | exact h | cases h) (PLes.refl _)) .nil))) (.cons _ _ _ _ _ (DLes.refl _) (.cons _ (.p _) (.p _) _ _ (DLes.of_p (PLes.app (PLes.refl _) (.cons _ _ _ _ (.lst true false _ _ _ (fun h => by first | exact h | cases h) (PLes.refl _)) .nil))) .nil))))))))).trans (cmpS_ok (st' := ⟨[], [(0, .dead), (1, .dead), (2, .dead), (3, .dead), (4, .dead), (5, .dead), (6, .dead), (8, .dead), (9, .v (.int .i64 x3778)), (10, .v (.lst false n3780 c3781)), (11, .v (.int .i64 (Int.tmod (IntKind.i64.wrap x3751) (IntKind.i64.wrap (x3778 + 1))))), (12, .sl false 0 0 (n4012 + 1) 1), (13, .sl false 1 0 (n4013 + 1) 1), (14, .sl false 2 0 (n4014 + 1) 1), (15, .sl false 3 0 (Int.toNat x3778) 1), (16, .sl false 4 0 (Int.toNat x3778) 1), (17, .dead), (18, .dead), (19, .dead), (21, .dead), (22, .dead), (24, .dead), (25, .dead), (26, .dead), (27, .dead), (28, .dead), (30, .dead), (45, .dead), (46, .dead), (47, .dead), (80, .dead), (108, .v (.lst false n3780 c3781)), (109, .v (.int .i64 ((n3780 : Nat) : Int))), (110, .v (.int .i64 (IntKind.i64.wrap (x4015 + 1)))), (111, .dead), (114, .dead), (115, .dead), (116, .dead), (117, .dead), (173, .dead)], [(0, .p (c4016 ++ [(.lst false n4081 c4082)])), (1, .p (c4017 ++ [(.lst false (Int.toNat (Int.tmod (IntKind.i64.wrap x3751) (IntKind.i64.wrap (x3778 + 1)))) (List.take (Int.toNat (Int.tmod (IntKind.i64.wrap x3751) (IntKind.i64.wrap (x3778 + 1)))) c4025))])), (2, .p (c4018 ++ [(.lst false (Int.toNat (Int.tmod (IntKind.i64.wrap x3751) (IntKind.i64.wrap (x3778 + 1)))) (List.take (Int.toNat (Int.tmod (IntKind.i64.wrap x3751) (IntKind.i64.wrap (x3778 + 1)))) c4082))])), (3, .p c3871), (4, .p c3872)], 5, []⟩) (by kernel_rfl))) ⟨n, Nat.lt_succ_self n, _, _, _, _, _, _, _, h4404, rfl⟩
        · refine W_sound tab_ok mixed 7 _ _ _ ?_
          simp -implicitDefEqProofs only [go_sem, qa, qb, qc, qd, qe, qf, qg, qh, qi, qj, qk, ↓reduceIte, h3752, h3760, h3766, h3774, h3777, h3779, g3782, g3783, g3784, g3785, h4019]
          repeat with_reducible refine ⟨by first | kernel_rfl | decide, ?_⟩
          obtain rfl := Option.some.inj h4400
          exact cutQ _ ((Wk_le (.r (.r (.r (.r (.r (.r (.r (.r (.r (.r (.k (.r (.r (.r (.k (.k (.r (.r (.r (.r (.r (.r (.r (.r (.r (.r (.r (.r (.r (.r (.r (.k (.k (.k (.k (.r (.r (.r (.r (.r .nil)))))))))))))))))))))))))))))))))))))))) (OLe.refl _)).trans (cmpS_ok (st' := ⟨[], [(0, .dead), (1, .dead), (2, .dead), (3, .dead), (4, .dead), (5, .dead), (6, .dead), (8, .dead), (9, .v (.int .i64 x3778)), (10, .v (.lst false n3780 c3781)), (11, .dead), (12, .sl false 0 0 n4012 1), (13, .sl false 1 0 n4013 1), (14, .sl false 2 0 n4014 1), (15, .dead), (16, .dead), (17, .dead), (18, .dead), (19, .dead), (21, .dead), (22, .dead), (24, .dead), (25, .dead), (26, .dead), (27, .dead), (28, .dead), (30, .dead), (45, .dead), (46, .dead), (47, .dead), (80, .dead), (108, .dead), (109, .dead), (110, .dead), (111, .dead), (114, .dead), (115, .dead), (116, .dead), (117, .dead), (173, .dead)], [(0, .p c4016), (1, .p c4017), (2, .p c4018)], 3, []⟩) (by kernel_rfl))) ⟨_, _, _, _, _, _, rfl, rfl⟩
    · rintro _ ⟨n4094, n4095, n4096, c4097, c4098, c4099, rfl, rfl⟩
      (try dsimp only at h4401)
      have hh := bnd'_some h4401; clear h4401; obtain ⟨⟨p4183, c4185⟩, h4184, h4401⟩ := hh
      (try dsimp only at h4401)
      refine W_sound tab_ok mixed 3 _ _ _ ?_
      simp -implicitDefEqProofs only [go_sem, qa, qb, qc, qd, qe, qf, qg, qh, qi, qj, qk, ↓reduceIte, h3752, h3760, h3766, h3774, h3777, h3779, g3782, g3783, g3784, g3785]
      repeat with_reducible refine ⟨by first | kernel_rfl | decide, ?_⟩
      refine Wp_callD [0] (c55 N _ _ _ _ h4184) rfl rfl rfl (by first | rfl | (simp only [go_sem, qa, qb, qc, qd, qe, qf, qg, qh, qi, qj, qk, ↓reduceIte, h3752, h3760, h3766, h3774, h3777, h3779, g3782, g3783, g3784, g3785] <;> rfl)) rfl (by kernel_rfl) ?_
      have hh := getT0_some h4401; clear h4401; obtain ⟨h4186, h4401⟩ := hh
      have hh := bnd'_some h4401; clear h4401; obtain ⟨⟨p4187, c4189⟩, h4188, h4401⟩ := hh
      (try dsimp only at h4401)
      refine W_sound tab_ok mixed 4 _ _ _ ?_
      simp -implicitDefEqProofs only [go_sem, qa, qb, qc, qd, qe, qf, qg, qh, qi, qj, qk, ↓reduceIte, h3752, h3760, h3766, h3774, h3777, h3779, g3782, g3783, g3784, g3785, h4186]
      repeat with_reducible refine ⟨by first | kernel_rfl | decide, ?_⟩
      refine Wp_callD [2] (c55 N _ _ _ _ h4188) rfl rfl rfl (by first | rfl | (simp only [go_sem, qa, qb, qc, qd, qe, qf, qg, qh, qi, qj, qk, ↓reduceIte, h3752, h3760, h3766, h3774, h3777, h3779, g3782, g3783, g3784, g3785, h4186] <;> rfl)) rfl (by kernel_rfl) ?_
      have hh := getT0_some h4401; clear h4401; obtain ⟨h4190, h4401⟩ := hh
      have hh := bnd'_some h4401; clear h4401; obtain ⟨p4191, h4192, h4401⟩ := hh
      refine W_sound tab_ok mixed 5 _ _ _ ?_
      simp -implicitDefEqProofs only [go_sem, qa, qb, qc, qd, qe, qf, qg, qh, qi, qj, qk, ↓reduceIte, h3752, h3760, h3766, h3774, h3777, h3779, g3782, g3783, g3784, g3785, h4186, h4190]
      repeat with_reducible refine ⟨by first | kernel_rfl | decide, ?_⟩
      refine Wp_callP (c25 N _ _ _ h4192) (by kernel_rfl) rfl rfl rfl rfl (by decide) ?_
      have hh := getT2_some h4401; clear h4401; obtain ⟨p4194, p4195, h4193, h4401⟩ := hh
      have hh := getI_some h4401; clear h4401; obtain ⟨x4197, h4196, h4401⟩ := hh
      have hh := getI_some h4401; clear h4401; obtain ⟨x4199, h4198, h4401⟩ := hh
      have hh := bnd'_some h4401; clear h4401; obtain ⟨⟨p4248, c4250⟩, h4249, h4401⟩ := hh
      (try dsimp only at h4401)
      refine W_sound tab_ok mixed 10 _ _ _ ?_
      simp -implicitDefEqProofs only [go_sem, qa, qb, qc, qd, qe, qf, qg, qh, qi, qj, qk, ↓reduceIte, h3752, h3760, h3766, h3774, h3777, h3779, g3782, g3783, g3784, g3785, h4186, h4190, h4193, h4196, h4198]
      repeat with_reducible refine ⟨by first | kernel_rfl | decide, ?_⟩
      refine Wp_callD [0] (c25_2 N _ _ _ _ _ h4249) rfl rfl rfl (by first | rfl | (simp only [go_sem, qa, qb, qc, qd, qe, qf, qg, qh, qi, qj, qk, ↓reduceIte, h3752, h3760, h3766, h3774, h3777, h3779, g3782, g3783, g3784, g3785, h4186, h4190, h4193, h4196, h4198] <;> rfl)) rfl (by kernel_rfl) ?_
      have hh := getT2_some h4401; clear h4401; obtain ⟨p4252, p4253, h4251, h4401⟩ := hh
      have hh := getI_some h4401; clear h4401; obtain ⟨x4255, h4254, h4401⟩ := hh
      have hh := getI_some h4401; clear h4401; obtain ⟨x4257, h4256, h4401⟩ := hh
      have hh := brn_some h4401; clear h4401; rcases hh with ⟨h4258, h4401⟩ | ⟨h4258, h4401⟩
      · refine W_sound tab_ok mixed 25 _ _ _ ?_
        simp -implicitDefEqProofs only [go_sem, qa, qb, qc, qd, qe, qf, qg, qh, qi, qj, qk, ↓reduceIte, h3752, h3760, h3766, h3774, h3777, h3779, g3782, g3783, g3784, g3785, h4186, h4190, h4193, h4196, h4198, h4251, h4254, h4256, h4258]
        repeat with_reducible refine ⟨by first | kernel_rfl | decide, ?_⟩
        obtain rfl := Option.some.inj h4401
        exact finC [(8, .v (.bool false))] [(8, .v (.bool false))] (by simp [leE, lk_cons]) (.cons _ _ _ _ _ (.v _ _ (.refl _)) .nil) (by rfl) (by simp [leE, lk_cons]) (by decide) (by decide) rfl (by simp only [go_sem, qa, qb, qc, qd, qe, qf, qg, qh, qi, qj, qk, ↓reduceIte, resQ_tmp, resQ_cell, resQ_nil, retD_one, retD_two, retD_three, retD_none]; try simp [R.val, retD_one, retD_two, retD_three, retD_none])
      · have hh := brn_some h4401; clear h4401; rcases hh with ⟨h4259, h4401⟩ | ⟨h4259, h4401⟩
        · refine W_sound tab_ok mixed 25 _ _ _ ?_
          simp -implicitDefEqProofs only [go_sem, qa, qb, qc, qd, qe, qf, qg, qh, qi, qj, qk, ↓reduceIte, h3752, h3760, h3766, h3774, h3777, h3779, g3782, g3783, g3784, g3785, h4186, h4190, h4193, h4196, h4198, h4251, h4254, h4256, h4258, h4259]
          repeat with_reducible refine ⟨by first | kernel_rfl | decide, ?_⟩
          obtain rfl := Option.some.inj h4401
          exact finC [(8, .v (.bool false))] [(8, .v (.bool false))] (by simp [leE, lk_cons]) (.cons _ _ _ _ _ (.v _ _ (.refl _)) .nil) (by rfl) (by simp [leE, lk_cons]) (by decide) (by decide) rfl (by simp only [go_sem, qa, qb, qc, qd, qe, qf, qg, qh, qi, qj, qk, ↓reduceIte, resQ_tmp, resQ_cell, resQ_nil, retD_one, retD_two, retD_three, retD_none]; try simp [R.val, retD_one, retD_two, retD_three, retD_none])
        · have hh := bnd'_some h4401; clear h4401; obtain ⟨⟨p4357, c4359⟩, h4358, h4401⟩ := hh
          (try dsimp only at h4401)
          refine W_sound tab_ok mixed 24 _ _ _ ?_
          simp -implicitDefEqProofs only [go_sem, qa, qb, qc, qd, qe, qf, qg, qh, qi, qj, qk, ↓reduceIte, h3752, h3760, h3766, h3774, h3777, h3779, g3782, g3783, g3784, g3785, h4186, h4190, h4193, h4196, h4198, h4251, h4254, h4256, h4258, h4259]
          repeat with_reducible refine ⟨by first | kernel_rfl | decide, ?_⟩
          refine Wp_callD [1] (c47_2 N _ _ _ _ _ h4358) rfl rfl rfl (by first | rfl | (simp only [go_sem, qa, qb, qc, qd, qe, qf, qg, qh, qi, qj, qk, ↓reduceIte, h3752, h3760, h3766, h3774, h3777, h3779, g3782, g3783, g3784, g3785, h4186, h4190, h4193, h4196, h4198, h4251, h4254, h4256, h4258, h4259] <;> rfl)) rfl (by kernel_rfl) ?_
          have hh := getT2_some h4401; clear h4401; obtain ⟨p4361, p4362, h4360, h4401⟩ := hh
          have hh := getL_some h4401; clear h4401; obtain ⟨n4364, c4365, h4363, h4401⟩ := hh
          have hh := getI_some h4401; clear h4401; obtain ⟨x4367, h4366, h4401⟩ := hh
          have hh := bnd'_some h4401; clear h4401; obtain ⟨⟨p4368, c4370⟩, h4369, h4401⟩ := hh
          (try dsimp only at h4401)
          refine W_sound tab_ok mixed 9 _ _ _ ?_
          simp -implicitDefEqProofs only [go_sem, qa, qb, qc, qd, qe, qf, qg, qh, qi, qj, qk, ↓reduceIte, h3752, h3760, h3766, h3774, h3777, h3779, g3782, g3783, g3784, g3785, h4186, h4190, h4193, h4196, h4198, h4251, h4254, h4256, h4258, h4259, h4360, h4363, h4366]
          repeat with_reducible refine ⟨by first | kernel_rfl | decide, ?_⟩
          refine Wp_callD [2] (c47_2 N _ _ _ _ _ h4369) rfl rfl rfl (by first | rfl | (simp only [go_sem, qa, qb, qc, qd, qe, qf, qg, qh, qi, qj, qk, ↓reduceIte, h3752, h3760, h3766, h3774, h3777, h3779, g3782, g3783, g3784, g3785, h4186, h4190, h4193, h4196, h4198, h4251, h4254, h4256, h4258, h4259, h4360, h4363, h4366] <;> rfl)) rfl (by kernel_rfl) ?_
          have hh := getT2_some h4401; clear h4401; obtain ⟨p4372, p4373, h4371, h4401⟩ := hh
          have hh := getL_some h4401; clear h4401; obtain ⟨n4375, c4376, h4374, h4401⟩ := hh
          have hh := getI_some h4401; clear h4401; obtain ⟨x4378, h4377, h4401⟩ := hh
          refine W_sound tab_ok mixed 6 _ _ _ ?_
          simp -implicitDefEqProofs only [go_sem, qa, qb, qc, qd, qe, qf, qg, qh, qi, qj, qk, ↓reduceIte, h3752, h3760, h3766, h3774, h3777, h3779, g3782, g3783, g3784, g3785, h4186, h4190, h4193, h4196, h4198, h4251, h4254, h4256, h4258, h4259, h4360, h4363, h4366, h4371, h4374, h4377]
          repeat with_reducible refine ⟨by first | kernel_rfl | decide, ?_⟩
          have hh := grd_some h4401; clear h4401; obtain ⟨g4379, h4401⟩ := hh
          refine Wp_wkK (Wk_freeze 2 c4370 (by rfl) (by decide) (by decide)) rfl ?_
          simp -implicitDefEqProofs only [go_sem, qa, qb, qc, qd, qe, qf, qg, qh, qi, qj, qk, ↓reduceIte, h3752, h3760, h3766, h3774, h3777, h3779, g3782, g3783, g3784, g3785, h4186, h4190, h4193, h4196, h4198, h4251, h4254, h4256, h4258, h4259, h4360, h4363, h4366, h4371, h4374, h4377, g4379]
          have hh := bnd'_some h4401; clear h4401; obtain ⟨p4380, h4381, h4401⟩ := hh
          refine W_sound tab_ok mixed 3 _ _ _ ?_
          simp -implicitDefEqProofs only [go_sem, qa, qb, qc, qd, qe, qf, qg, qh, qi, qj, qk, ↓reduceIte, h3752, h3760, h3766, h3774, h3777, h3779, g3782, g3783, g3784, g3785, h4186, h4190, h4193, h4196, h4198, h4251, h4254, h4256, h4258, h4259, h4360, h4363, h4366, h4371, h4374, h4377, g4379]
          repeat with_reducible refine ⟨by first | kernel_rfl | decide, ?_⟩
          refine Wp_callP (c45 N _ _ _ h4381) (by kernel_rfl) rfl rfl rfl rfl (by decide) ?_
          have hh := getT2_some h4401; clear h4401; obtain ⟨p4383, p4384, h4382, h4401⟩ := hh
          have hh := getI_some h4401; clear h4401; obtain ⟨x4386, h4385, h4401⟩ := hh
          have hh := getI_some h4401; clear h4401; obtain ⟨x4388, h4387, h4401⟩ := hh
          have hh := brn_some h4401; clear h4401; rcases hh with ⟨h4389, h4401⟩ | ⟨h4389, h4401⟩
          · have hh := brn_some h4401; clear h4401; rcases hh with ⟨h4390, h4401⟩ | ⟨h4390, h4401⟩
            · have hh := brn_some h4401; clear h4401; rcases hh with ⟨h4391, h4401⟩ | ⟨h4391, h4401⟩
              · have hh := bnd'_some h4401; clear h4401; obtain ⟨p4392, h4393, h4401⟩ := hh
                refine W_sound tab_ok mixed 19 _ _ _ ?_
                simp -implicitDefEqProofs only [go_sem, qa, qb, qc, qd, qe, qf, qg, qh, qi, qj, qk, ↓reduceIte, h3752, h3760, h3766, h3774, h3777, h3779, g3782, g3783, g3784, g3785, h4186, h4190, h4193, h4196, h4198, h4251, h4254, h4256, h4258, h4259, h4360, h4363, h4366, h4371, h4374, h4377, g4379, h4382, h4385, h4387, h4389, h4390, h4391]
                repeat with_reducible refine ⟨by first | kernel_rfl | decide, ?_⟩
                refine Wp_callP (c16 N  _ h4393) (by kernel_rfl) rfl rfl rfl rfl (by decide) ?_
                have hh := getB_some h4401; clear h4401; obtain ⟨b4395, h4394, h4401⟩ := hh
                refine W_sound tab_ok mixed 5 _ _ _ ?_
                simp -implicitDefEqProofs only [go_sem, qa, qb, qc, qd, qe, qf, qg, qh, qi, qj, qk, ↓reduceIte, h3752, h3760, h3766, h3774, h3777, h3779, g3782, g3783, g3784, g3785, h4186, h4190, h4193, h4196, h4198, h4251, h4254, h4256, h4258, h4259, h4360, h4363, h4366, h4371, h4374, h4377, g4379, h4382, h4385, h4387, h4389, h4390, h4391, h4394]
                repeat with_reducible refine ⟨by first | kernel_rfl | decide, ?_⟩
                obtain rfl := Option.some.inj h4401
                exact finC [(8, .v (.bool b4395))] [(8, .v (.bool b4395))] (by simp [leE, lk_cons]) (.cons _ _ _ _ _ (.v _ _ (.refl _)) .nil) (by rfl) (by simp [leE, lk_cons]) (by decide) (by decide) rfl (by simp only [go_sem, qa, qb, qc, qd, qe, qf, qg, qh, qi, qj, qk, ↓reduceIte, resQ_tmp, resQ_cell, resQ_nil, retD_one, retD_two, retD_three, retD_none]; try simp [R.val, retD_one, retD_two, retD_three, retD_none])
              · refine W_sound tab_ok mixed 25 _ _ _ ?_
                simp -implicitDefEqProofs only [go_sem, qa, qb, qc, qd, qe, qf, qg, qh, qi, qj, qk, ↓reduceIte, h3752, h3760, h3766, h3774, h3777, h3779, g3782, g3783, g3784, g3785, h4186, h4190, h4193, h4196, h4198, h4251, h4254, h4256, h4258, h4259, h4360, h4363, h4366, h4371, h4374, h4377, g4379, h4382, h4385, h4387, h4389, h4390, h4391]
                repeat with_reducible refine ⟨by first | kernel_rfl | decide, ?_⟩
                obtain rfl := Option.some.inj h4401
                exact finC [(8, .v (.bool false))] [(8, .v (.bool false))] (by simp [leE, lk_cons]) (.cons _ _ _ _ _ (.v _ _ (.refl _)) .nil) (by rfl) (by simp [leE, lk_cons]) (by decide) (by decide) rfl (by simp only [go_sem, qa, qb, qc, qd, qe, qf, qg, qh, qi, qj, qk, ↓reduceIte, resQ_tmp, resQ_cell, resQ_nil, retD_one, retD_two, retD_three, retD_none]; try simp [R.val, retD_one, retD_two, retD_three, retD_none])
            · refine W_sound tab_ok mixed 25 _ _ _ ?_
              simp -implicitDefEqProofs only [go_sem, qa, qb, qc, qd, qe, qf, qg, qh, qi, qj, qk, ↓reduceIte, h3752, h3760, h3766, h3774, h3777, h3779, g3782, g3783, g3784, g3785, h4186, h4190, h4193, h4196, h4198, h4251, h4254, h4256, h4258, h4259, h4360, h4363, h4366, h4371, h4374, h4377, g4379, h4382, h4385, h4387, h4389, h4390]
              repeat with_reducible refine ⟨by first | kernel_rfl | decide, ?_⟩
              obtain rfl := Option.some.inj h4401
              exact finC [(8, .v (.bool false))] [(8, .v (.bool false))] (by simp [leE, lk_cons]) (.cons _ _ _ _ _ (.v _ _ (.refl _)) .nil) (by rfl) (by simp [leE, lk_cons]) (by decide) (by decide) rfl (by simp only [go_sem, qa, qb, qc, qd, qe, qf, qg, qh, qi, qj, qk, ↓reduceIte, resQ_tmp, resQ_cell, resQ_nil, retD_one, retD_two, retD_three, retD_none]; try simp [R.val, retD_one, retD_two, retD_three, retD_none])
          · refine W_sound tab_ok mixed 25 _ _ _ ?_
            simp -implicitDefEqProofs only [go_sem, qa, qb, qc, qd, qe, qf, qg, qh, qi, qj, qk, ↓reduceIte, h3752, h3760, h3766, h3774, h3777, h3779, g3782, g3783, g3784, g3785, h4186, h4190, h4193, h4196, h4198, h4251, h4254, h4256, h4258, h4259, h4360, h4363, h4366, h4371, h4374, h4377, g4379, h4382, h4385, h4387, h4389]
            repeat with_reducible refine ⟨by first | kernel_rfl | decide, ?_⟩
            obtain rfl := Option.some.inj h4401
            exact finC [(8, .v (.bool false))] [(8, .v (.bool false))] (by simp [leE, lk_cons]) (.cons _ _ _ _ _ (.v _ _ (.refl _)) .nil) (by rfl) (by simp [leE, lk_cons]) (by decide) (by decide) rfl (by simp only [go_sem, qa, qb, qc, qd, qe, qf, qg, qh, qi, qj, qk, ↓reduceIte, resQ_tmp, resQ_cell, resQ_nil, retD_one, retD_two, retD_three, retD_none]; try simp [R.val, retD_one, retD_two, retD_three, retD_none])
end Go.Proofs.YtcaecfofgdogbaaDoor
namespace Go.Proofs.YtcaecfofgdogbaaDoor
open Go.V
set_option linter.unusedSectionVars false
theorem brn_t {α : Type} {b : Bool} {x y : Option α} (h : b = true) : brn b x y = x := by subst h; rfl
theorem brn_f {α : Type} {b : Bool} {x y : Option α} (h : b = false) : brn b x y = y := by subst h; rfl
theorem grd_t {α : Type} {p : Prop} [Decidable p] {k : Option α} (h : p) : grd p k = k := by simp [grd, h]
theorem brn_dt {α : Type} {p : Prop} [Decidable p] {x y : Option α} (h : p) : brn (decide p) x y = x := brn_t (decide_eq_true h)
theorem brn_df {α : Type} {p : Prop} [Decidable p] {x y : Option α} (h : ¬ p) : brn (decide p) x y = y := brn_f (decide_eq_false h)
theorem brn_et {α : Type} {a b : Int} {x y : Option α} (h : a = b) : brn (a == b) x y = x := brn_t (by simpa using h)
theorem brn_ef {α : Type} {a b : Int} {x y : Option α} (h : a ≠ b) : brn (a == b) x y = y := brn_f (by simpa using h)
theorem brn_nt {α : Type} {a b : Int} {x y : Option α} (h : a ≠ b) : brn (a != b) x y = x := brn_t (by simpa using h)
theorem brn_nf {α : Type} {a b : Int} {x y : Option α} (h : a = b) : brn (a != b) x y = y := brn_f (by simpa using h)
theorem bnd_t {α β : Type} {x : α} {f : α → Option β} : bnd' (some x) f = f x := rfl
theorem getI_t {α : Type} {k : IntKind} {x : Int} {f : Int → Option α} : getI k (.int k x) f = f x := by simp [getI]
theorem getB_t {α : Type} {b : Bool} {f : Bool → Option α} : getB (.bool b) f = f b := rfl
theorem getL_t {α : Type} {n : Nat} {c : List PV} {f : Nat → List PV → Option α} : getL (.lst false n c) f = f n c := rfl
theorem getT2_t {α : Type} {a b : PV} {f : PV → PV → Option α} : getT2 (.tup [a, b]) f = f a b := rfl
theorem getT0_t {α : Type} {k : Option α} : getT0 (.tup []) k = k := rfl
theorem wrapN {n : Nat} (h : n ≤ 100000) : IntKind.i64.wrap ((n : Int) + 1) = ((n + 1 : Nat) : Int) := by
  rw [wrap64 (by omega) (by omega)]; omega
theorem toNatN (n : Nat) : Int.toNat (n : Int) = n := by omega
theorem range'_step {i n : Nat} (h : i < n) : List.range' i (n - i) = i :: List.range' (i + 1) (n - (i + 1)) := by
  rw [show n - i = (n - (i + 1)) + 1 by omega, List.range'_succ]
def iL (X : List Int) : List PV := X.map (PV.int .i64)
theorem iL_len (X : List Int) : (iL X).length = X.length := by simp [iL]
def en (X : List Int) (i : Nat) : Int := X.getD i 0
theorem iL_gp {X : List Int} {i : Nat} (h : i < X.length) : gp (iL X) i = .int .i64 (en X i) := by
  simp [iL, gp, en, List.getD, h]
theorem iL_set (w : List Int) (j : Nat) (x : Int) : (iL w).set j (.int .i64 x) = iL (w.set j x) := by simp [iL, List.map_set]
theorem iL_app (X : List Int) (x : Int) : iL X ++ [.int .i64 x] = iL (X ++ [x]) := by simp [iL]
theorem iL_take (X : List Int) (n : Nat) : (iL X).take n = iL (X.take n) := by simp [iL]
def rwP (r : List Int) : PV := .lst false r.length (iL r)
def rwsP (L : List (List Int)) : List PV := L.map rwP
theorem rws_len (L : List (List Int)) : (rwsP L).length = L.length := by simp [rwsP]
def ro (L : List (List Int)) (i : Nat) : List Int := L.getD i []
theorem rws_gp {L : List (List Int)} {i : Nat} (h : i < L.length) : gp (rwsP L) i = .lst false (ro L i).length (iL (ro L i)) := by
  simp [rwsP, gp, ro, rwP, List.getD, h]
theorem rws_app (L : List (List Int)) (r : List Int) : rwsP L ++ [rwP r] = rwsP (L ++ [r]) := by simp [rwsP]
theorem rws_take (L : List (List Int)) (n : Nat) : (rwsP L).take n = rwsP (L.take n) := by simp [rwsP]
theorem ro_mem {L : List (List Int)} {i : Nat} (h : i < L.length) : ro L i ∈ L := by
  simp [ro, List.getD, h]
theorem drop_ro {L : List (List Int)} {i : Nat} (h : i < L.length) : L.drop i = ro L i :: L.drop (i + 1) := by
  rw [List.drop_eq_getElem_cons h]; simp [ro, List.getD, h]
theorem drop_en {L : List Int} {i : Nat} (h : i < L.length) : L.drop i = en L i :: L.drop (i + 1) := by
  rw [List.drop_eq_getElem_cons h]; simp [en, List.getD, h]
theorem take_en {L : List Int} {i : Nat} (h : i < L.length) : L.take (i + 1) = L.take i ++ [en L i] := by
  rw [List.take_succ_eq_append_getElem h]; simp [en, List.getD, h]
theorem take_ro {L : List (List Int)} {i : Nat} (h : i < L.length) : L.take (i + 1) = L.take i ++ [ro L i] := by
  rw [List.take_succ_eq_append_getElem h]; simp [ro, List.getD, h]
theorem en_set {w : List Int} {j k : Nat} {x : Int} (hj : j < w.length) : en (w.set j x) k = if k = j then x else en w k := by
  unfold en
  by_cases h : k = j
  · subst h; simp [List.getD, hj]
  · rw [if_neg h]; simp [List.getD, List.getElem?_set_ne (Ne.symm h)]
theorem gI_n {α : Type} {X : List Int} {i : Nat} {f : Int → Option α} (h : i < X.length) : getI .i64 (gp (iL X) (Int.toNat (i : Int))) f = f (en X i) := by
  rw [toNatN, iL_gp h, getI_t]
theorem gL_n {α : Type} {L : List (List Int)} {i : Nat} {f : Nat → List PV → Option α} (h : i < L.length) : getL (gp (rwsP L) (Int.toNat (i : Int))) f = f (ro L i).length (iL (ro L i)) := by
  rw [toNatN, rws_gp h, getL_t]
theorem b_or : ∀ x : Nat, x < 32 → ∀ s : Nat, s < 5 → bitsI .or .u64 (x : Int) (IntKind.u64.wrap (1 * 2 ^ (min s 64))) = ((x ||| 2 ^ s : Nat) : Int) := by decide +kernel
theorem b_un : ∀ x : Nat, x < 32 → ∀ s : Nat, s < 5 → bitsI .andNot .u64 (x : Int) (IntKind.u64.wrap (1 * 2 ^ (min s 64))) = ((x &&& (31 - 2 ^ s) : Nat) : Int) := by decide +kernel
theorem b_diff : ∀ x : Nat, x < 32 → ∀ y : Nat, y < 32 → bitsI .andNot .u64 (x : Int) (y : Int) = ((x &&& (31 - y) : Nat) : Int) := by decide +kernel
theorem b_all : ∀ n : Nat, n < 6 → IntKind.u64.wrap ((IntKind.u64.wrap (1 * 2 ^ (min n 64))) - 1) = ((2 ^ n - 1 : Nat) : Int) := by decide +kernel
theorem b_tst : ∀ x : Nat, x < 32 → ∀ s : Nat, s < 5 → (bitsI .and .u64 (Int.fdiv (x : Int) (2 ^ (min s 64))) 1 == 1) = x.testBit s := by decide +kernel
theorem b_rest : ∀ x : Nat, x < 32 → x ≠ 0 → bitsI .and .u64 (x : Int) (IntKind.u64.wrap ((x : Int) - 1)) = ((x &&& (x - 1) : Nat) : Int) := by decide +kernel
def bits (x : Nat) : List Nat := (List.range 5).filter fun s => x.testBit s
def low (x : Nat) : Nat := (bits x).headD 0
theorem bits_step : ∀ x : Nat, x < 32 → x ≠ 0 → bits x = low x :: bits (x &&& (x - 1)) ∧ x &&& (x - 1) < x ∧ low x < 5 := by decide +kernel
theorem bits_zero : bits 0 = [] := by decide
theorem tz_ok (N : Nat) : ∀ x : Nat, x < 32 → x ≠ 0 → m87 N (x : Int) = some (.int .i64 (low x : Int)) := by
  have h : ∀ x : Nat, x < 32 → x ≠ 0 → (match m96 0 (x : Int) with | some (.int k y) => decide (k = .i64) && decide (y = (low x : Int)) | _ => false) = true := by decide +kernel
  intro x hx h0
  have h1 := h x hx h0
  rw [m87, show m96 N (x : Int) = m96 0 (x : Int) from rfl]
  split at h1
  · rename_i k y e
    simp only [Bool.and_eq_true, decide_eq_true_eq] at h1
    rw [e, h1.1, h1.2, bnd_t, getI_t]
  · cases h1
theorem or_lt : ∀ x : Nat, x < 32 → ∀ s : Nat, s < 5 → x ||| 2 ^ s < 32 := by decide +kernel
theorem un_lt : ∀ x : Nat, x < 32 → ∀ s : Nat, s < 5 → x &&& (31 - 2 ^ s) < 32 := by decide +kernel
theorem diff_lt : ∀ x : Nat, x < 32 → ∀ y : Nat, y < 32 → x &&& (31 - y) < 32 := by decide +kernel
theorem un_or : ∀ x : Nat, x < 32 → ∀ s : Nat, s < 5 → x.testBit s = false → (x ||| 2 ^ s) &&& (31 - 2 ^ s) = x := by decide +kernel
theorem mem_bits {x s : Nat} : s ∈ bits x ↔ s < 5 ∧ x.testBit s = true := by simp [bits]
theorem tst_or : ∀ x : Nat, x < 32 → ∀ s : Nat, s < 5 → ∀ t : Nat, t < 5 → (x ||| 2 ^ s).testBit t = (x.testBit t || decide (t = s)) := by decide +kernel
theorem tst_diff : ∀ x : Nat, x < 32 → ∀ y : Nat, y < 32 → ∀ t : Nat, t < 5 → (x &&& (31 - y)).testBit t = (x.testBit t && !y.testBit t) := by decide +kernel
theorem tst_all : ∀ n : Nat, n < 6 → ∀ t : Nat, t < 5 → (2 ^ n - 1).testBit t = decide (t < n) := by decide +kernel
def uL (X : List Nat) : List PV := X.map fun (b : Nat) => PV.int .u64 (b : Int)
def bn (X : List Nat) (i : Nat) : Nat := X.getD i 0
def tblP (n : Nat) (A : List Int) (B D : List Nat) : List PV := .int .i64 (n : Int) :: (iL A ++ (uL B ++ uL D))
structure Tb (A : List Int) (B D : List Nat) : Prop where
  la : A.length = 25
  lb : B.length = 5
  ld : D.length = 5
  b32 : ∀ i, i < 5 → bn B i < 32
  d32 : ∀ i, i < 5 → bn D i < 32
theorem uL_len (X : List Nat) : (uL X).length = X.length := by simp [uL]
theorem bn_set {w : List Nat} {j k : Nat} {x : Nat} (hj : j < w.length) : bn (w.set j x) k = if k = j then x else bn w k := by
  unfold bn
  by_cases h : k = j
  · subst h; simp [List.getD, hj]
  · rw [if_neg h]; simp [List.getD, List.getElem?_set_ne (Ne.symm h)]
theorem tbl_len {n : Nat} {A : List Int} {B D : List Nat} (h : Tb A B D) : (tblP n A B D).length = 36 := by
  have := h.la; have := h.lb; have := h.ld
  simp only [tblP, List.length_cons, List.length_append, iL_len, uL_len]; omega
theorem gp_cons {p : PV} {l : List PV} {i : Nat} : gp (p :: l) (i + 1) = gp l i := by simp [gp]
theorem gp_left {l m : List PV} {i : Nat} (h : i < l.length) : gp (l ++ m) i = gp l i := by simp [gp, List.getD, List.getElem?_append_left h]
theorem gp_right {l m : List PV} {i j : Nat} (h : i = l.length + j) : gp (l ++ m) i = gp m j := by
  subst h; simp [gp, List.getD, List.getElem?_append_right]
theorem uL_gp {X : List Nat} {i : Nat} (h : i < X.length) : gp (uL X) i = .int .u64 (bn X i : Int) := by
  simp [uL, gp, bn, List.getD, h]
theorem gp_0 {n : Nat} {A : List Int} {B D : List Nat} : gp (tblP n A B D) 0 = .int .i64 (n : Int) := rfl
theorem gp_a {n : Nat} {A : List Int} {B D : List Nat} (h : Tb A B D) {j : Nat} (hj : j < 25) : gp (tblP n A B D) (1 + j) = .int .i64 (en A j) := by
  have := h.la
  rw [Nat.add_comm, tblP, gp_cons, gp_left (by rw [iL_len]; omega), iL_gp (by omega)]
theorem gp_b {n : Nat} {A : List Int} {B D : List Nat} (h : Tb A B D) {i : Nat} (hi : i < 5) : gp (tblP n A B D) (26 + i) = .int .u64 (bn B i : Int) := by
  have := h.la; have := h.lb
  rw [show 26 + i = (25 + i) + 1 by omega, tblP, gp_cons, gp_right (j := i) (by rw [iL_len]; omega), gp_left (by rw [uL_len]; omega), uL_gp (by omega)]
theorem gp_d {n : Nat} {A : List Int} {B D : List Nat} (h : Tb A B D) {i : Nat} (hi : i < 5) : gp (tblP n A B D) (31 + i) = .int .u64 (bn D i : Int) := by
  have := h.la; have := h.lb; have := h.ld
  rw [show 31 + i = (30 + i) + 1 by omega, tblP, gp_cons, gp_right (j := 5 + i) (by rw [iL_len]; omega), gp_right (j := i) (by rw [uL_len]; omega), uL_gp (by omega)]
theorem uL_set (w : List Nat) (j : Nat) (x : Nat) : (uL w).set j (.int .u64 (x : Int)) = uL (w.set j x) := by simp [uL, List.map_set]
theorem set_a {n : Nat} {A : List Int} {B D : List Nat} (h : Tb A B D) {j : Nat} {x : Int} (hj : j < 25) : (tblP n A B D).set (1 + j) (.int .i64 x) = tblP n (A.set j x) B D := by
  have := h.la
  rw [Nat.add_comm, tblP, List.set_cons_succ, List.set_append_left _ _ (by rw [iL_len]; omega), iL_set]; rfl
theorem set_b {n : Nat} {A : List Int} {B D : List Nat} (h : Tb A B D) {i : Nat} {x : Nat} (hi : i < 5) : (tblP n A B D).set (26 + i) (.int .u64 (x : Int)) = tblP n A (B.set i x) D := by
  have := h.la; have := h.lb
  rw [show 26 + i = (25 + i) + 1 by omega, tblP, List.set_cons_succ, List.set_append_right _ _ (by rw [iL_len]; omega), iL_len, show 25 + i - A.length = i by omega, List.set_append_left _ _ (by rw [uL_len]; omega), uL_set]; rfl
theorem set_d {n : Nat} {A : List Int} {B D : List Nat} (h : Tb A B D) {i : Nat} {x : Nat} (hi : i < 5) : (tblP n A B D).set (31 + i) (.int .u64 (x : Int)) = tblP n A B (D.set i x) := by
  have := h.la; have := h.lb; have := h.ld
  rw [show 31 + i = (30 + i) + 1 by omega, tblP, List.set_cons_succ, List.set_append_right _ _ (by rw [iL_len]; omega), iL_len, List.set_append_right _ _ (by rw [uL_len]; omega), uL_len, show 30 + i - A.length - B.length = i by omega, uL_set]; rfl
def putT (T : List Int × List Nat × List Nat) (i k s : Nat) : List Int × List Nat × List Nat := (T.1.set (i * 5 + k) (s : Int), T.2.1.set i (bn T.2.1 i ||| 2 ^ s), T.2.2.set k (bn T.2.2 k ||| 2 ^ s))
theorem Tb.seta {A : List Int} {B D : List Nat} (h : Tb A B D) {j : Nat} {x : Int} : Tb (A.set j x) B D := ⟨by rw [List.length_set]; exact h.la, h.lb, h.ld, h.b32, h.d32⟩
theorem Tb.setb {A : List Int} {B D : List Nat} (h : Tb A B D) {j x : Nat} (hj : j < 5) (hx : x < 32) : Tb A (B.set j x) D := ⟨h.la, by rw [List.length_set]; exact h.lb, h.ld, fun i hi => by
  rw [bn_set (by have := h.lb; omega)]; split
  · exact hx
  · exact h.b32 i hi, h.d32⟩
theorem Tb.setd {A : List Int} {B D : List Nat} (h : Tb A B D) {j x : Nat} (hj : j < 5) (hx : x < 32) : Tb A B (D.set j x) := ⟨h.la, h.lb, by rw [List.length_set]; exact h.ld, h.b32, fun i hi => by
  rw [bn_set (by have := h.ld; omega)]; split
  · exact hx
  · exact h.d32 i hi⟩
theorem Tb.put {A : List Int} {B D : List Nat} (h : Tb A B D) {i k s : Nat} (hi : i < 5) (hk : k < 5) (hs : s < 5) : Tb (putT (A, B, D) i k s).1 (putT (A, B, D) i k s).2.1 (putT (A, B, D) i k s).2.2 :=
  (h.seta.setb hi (or_lt _ (h.b32 i hi) s hs)).setd hk (or_lt _ (h.d32 k hk) s hs)
theorem getU_t {α : Type} {x : Int} {f : Int → Option α} : getI .u64 (.int .u64 x) f = f x := by simp [getI]
theorem put_ok (N n : Nat) {A : List Int} {B D : List Nat} (h : Tb A B D) {i k s : Nat} (hi : i < 5) (hk : k < 5) (hs : s < 5) :
    m72 N (i : Int) (k : Int) (s : Int) (tblP n A B D) = some (.tup [], tblP n (putT (A, B, D) i k s).1 (putT (A, B, D) i k s).2.1 (putT (A, B, D) i k s).2.2) := by
  have hl := tbl_len (n := n) h
  have h1 : Tb (A.set (i * 5 + k) (s : Int)) B D := h.seta
  have h2 := h1.setb hi (or_lt _ (h.b32 i hi) s hs)
  rw [m72, toNatN, toNatN, toNatN, grd_t ⟨by omega, by omega⟩, grd_t ⟨by omega, by omega⟩, grd_t (by omega), grd_t (by omega), show 1 + i * 5 + k = 1 + (i * 5 + k) by omega, set_a h (by omega), gp_b h1 hi, getU_t, grd_t (by omega), grd_t (by omega), grd_t (by omega), b_or _ (h.b32 i hi) s hs, set_b h1 hi, gp_d h2 hk, getU_t, grd_t (by omega), b_or _ (h.d32 k hk) s hs, set_d h2 hk]
  rfl
theorem take_ok (N n : Nat) {A : List Int} {B D : List Nat} (h : Tb A B D) {i k s : Nat} (hi : i < 5) (hk : k < 5) (hs : s < 5) (ha : en A (i * 5 + k) = (s : Int)) :
    m90 N (i : Int) (k : Int) (tblP n A B D) = some (.tup [], tblP n (A.set (i * 5 + k) (-1)) (B.set i (bn B i &&& (31 - 2 ^ s))) (D.set k (bn D k &&& (31 - 2 ^ s)))) := by
  have hl := tbl_len (n := n) h
  have h1 : Tb (A.set (i * 5 + k) (-1)) B D := h.seta
  have h2 := h1.setb hi (un_lt _ (h.b32 i hi) s hs)
  rw [m90, toNatN, toNatN, grd_t ⟨by omega, by omega⟩, grd_t ⟨by omega, by omega⟩, grd_t (by omega), show 1 + i * 5 + k = 1 + (i * 5 + k) by omega, gp_a h (by omega), getI_t, ha, toNatN, grd_t (by omega), grd_t (by omega), set_a h (by omega), gp_b h1 hi, getU_t, grd_t (by omega), grd_t (by omega), grd_t (by omega), b_un _ (h.b32 i hi) s hs, set_b h1 hi, gp_d h2 hk, getU_t, grd_t (by omega), b_un _ (h.d32 k hk) s hs, set_d h2 hk]
theorem list_set_set {α : Type} {l : List α} {i : Nat} {x y : α} : (l.set i x).set i y = l.set i y := by simp
theorem bn_self {w : List Nat} {j : Nat} (hj : j < w.length) : w.set j (bn w j) = w := by
  apply List.ext_getElem?
  intro i
  by_cases h : i = j
  · subst h; simp [bn, List.getD, hj]
  · rw [List.getElem?_set_ne (Ne.symm h)]
theorem en_self {w : List Int} {j : Nat} (hj : j < w.length) : w.set j (en w j) = w := by
  apply List.ext_getElem?
  intro i
  by_cases h : i = j
  · subst h; simp [en, List.getD, hj]
  · rw [List.getElem?_set_ne (Ne.symm h)]
theorem put_take (N n : Nat) {A : List Int} {B D : List Nat} (h : Tb A B D) {i k s : Nat} (hi : i < 5) (hk : k < 5) (hs : s < 5) (ha : en A (i * 5 + k) = -1) (hb : (bn B i).testBit s = false) (hd : (bn D k).testBit s = false) :
    m90 N (i : Int) (k : Int) (tblP n (putT (A, B, D) i k s).1 (putT (A, B, D) i k s).2.1 (putT (A, B, D) i k s).2.2) = some (.tup [], tblP n A B D) := by
  have la := h.la; have lb := h.lb; have ld := h.ld
  rw [take_ok N n (h.put hi hk hs) hi hk hs (by show en (A.set (i * 5 + k) (s : Int)) _ = _; rw [en_set (by omega), if_pos rfl])]
  simp only [putT, list_set_set]
  rw [bn_set (by omega), if_pos rfl, bn_set (by omega), if_pos rfl, un_or _ (h.b32 i hi) s hs hb, un_or _ (h.d32 k hk) s hs hd, bn_self (by omega), bn_self (by omega), ← ha, en_self (by omega)]
def mayB (n : Nat) (b d : Nat) : Nat := ((2 ^ n - 1) &&& (31 - b)) &&& (31 - d)
theorem all_lt : ∀ n : Nat, n < 6 → 2 ^ n - 1 < 32 := by decide
theorem may_lt {n b d : Nat} (hn : n < 6) (hb : b < 32) (hd : d < 32) : mayB n b d < 32 := diff_lt _ (diff_lt _ (all_lt n hn) _ hb) _ hd
theorem may_tst {n b d t : Nat} (hn : n < 6) (hb : b < 32) (hd : d < 32) (ht : t < 5) : (mayB n b d).testBit t = (decide (t < n) && !b.testBit t && !d.testBit t) := by
  rw [mayB, tst_diff _ (diff_lt _ (all_lt n hn) _ hb) _ hd t ht, tst_diff _ (all_lt n hn) _ hb t ht, tst_all n hn t ht]
theorem may_ok (N n : Nat) (hn : n < 6) {A : List Int} {B D : List Nat} (h : Tb A B D) {i k : Nat} (hi : i < 5) (hk : k < 5) : m89 N (i : Int) (k : Int) (tblP n A B D) = some (.int .u64 (mayB n (bn B i) (bn D k) : Int)) := by
  have hl := tbl_len (n := n) h
  rw [m89, grd_t (by omega), gp_0, getI_t, toNatN, toNatN, toNatN, grd_t (by omega), grd_t ⟨by omega, by omega⟩, grd_t (by omega), gp_b h hi, getU_t, grd_t ⟨by omega, by omega⟩, grd_t (by omega), gp_d h hk, getU_t, b_all n hn, b_diff _ (all_lt n hn) _ (h.b32 i hi), b_diff _ (diff_lt _ (all_lt n hn) _ (h.b32 i hi)) _ (h.d32 k hk)]
  rfl
abbrev T3 := List Int × List Nat × List Nat
def tP (n : Nat) (T : T3) : List PV := tblP n T.1 T.2.1 T.2.2
structure Tv (T : T3) : Prop where
  tb : Tb T.1 T.2.1 T.2.2
  a1 : ∀ j, j < 25 → -1 ≤ en T.1 j
theorem Tv.put {T : T3} (h : Tv T) {i k s : Nat} (hi : i < 5) (hk : k < 5) (hs : s < 5) : Tv (putT T i k s) := ⟨h.tb.put hi hk hs, fun j hj => by
  have la := h.tb.la
  show -1 ≤ en (T.1.set (i * 5 + k) (s : Int)) j
  rw [en_set (by omega)]; split
  · omega
  · exact h.a1 j hj⟩
def cmpl (n to : Nat) : Nat → Nat → Nat → T3 → List T3
  | 0, _, _, _ => []
  | f + 1, i, k, T =>
    if i = to then [T] else if k = n then cmpl n to f (i + 1) 0 T
    else if 0 ≤ en T.1 (i * 5 + k) then cmpl n to f i (k + 1) T
    else (bits (mayB n (bn T.2.1 i) (bn T.2.2 k))).flatMap fun s => cmpl n to f i (k + 1) (putT T i k s)
theorem cnt_L (N n to x : Nat) (rec : Int → Int → Int → Int → Int → List PV → Option (PV × Int × List PV)) (T : T3) (hT : Tv T) (i k : Nat) (hi : i < 5) (hk : k < 5) (ha : en T.1 (i * 5 + k) = -1) (g : Nat → List T3)
    (hrec : ∀ s y, s < 5 → (bn T.2.1 i).testBit s = false → (bn T.2.2 k).testBit s = false → y + (g s).length ≤ 100000 → rec (i : Int) ((k + 1 : Nat) : Int) (to : Int) (x : Int) (y : Int) (tP n (putT T i k s)) = some (.bool false, ((y + (g s).length : Nat) : Int), tP n (putT T i k s))) :
    ∀ (X fuel y : Nat), X < 32 → X < fuel → (∀ s, s ∈ bits X → (bn T.2.1 i).testBit s = false ∧ (bn T.2.2 k).testBit s = false) → y + ((bits X).flatMap g).length ≤ 100000 →
    m88_2_L0 N rec (i : Int) (k : Int) (to : Int) (x : Int) fuel (X : Int) (y : Int) (tP n T) = some (.inr (((y + ((bits X).flatMap g).length : Nat) : Int), tP n T))
  | X, 0, y, _, h, _, _ => by omega
  | X, fuel + 1, y, hX, hf, hs, hy => by
    rw [m88_2_L0]
    by_cases h0 : X = 0
    · subst h0
      rw [brn_nf (by simp), bits_zero]; simp
    · obtain ⟨b1, b2, b3⟩ := bits_step X hX h0
      have h1 := hs (low X) (by rw [b1]; exact .head _)
      rw [b1, List.flatMap_cons, List.length_append] at hy
      have hr := hrec (low X) y b3 h1.1 h1.2 (by omega)
      rw [brn_nt (by omega), tz_ok N X hX h0, bnd_t, getI_t]
      unfold tP at hr ⊢
      rw [put_ok N n hT.tb hi hk b3, bnd_t]
      show getT0 (.tup []) _ = _
      rw [getT0_t, wrapN (by omega), show m88_2_L0 N rec = m88_2_L0 N rec from rfl]
      rw [show (putT (T.1, T.2.1, T.2.2) i k (low X)) = putT T i k (low X) from rfl, hr, bnd_t]
      show getB (.bool false) _ = _
      rw [getB_t, brn_f rfl]
      have pt := put_take N n hT.tb hi hk b3 ha h1.1 h1.2
      rw [show (putT (T.1, T.2.1, T.2.2) i k (low X)) = putT T i k (low X) from rfl] at pt
      rw [pt, bnd_t]
      show getT0 (.tup []) _ = _
      rw [getT0_t, b_rest X hX h0]
      have ih := cnt_L N n to x rec T hT i k hi hk ha g hrec (X &&& (X - 1)) fuel (y + (g (low X)).length) (by omega) (by omega) (fun s hs' => hs s (by rw [b1]; exact .tail _ hs')) (by omega)
      unfold tP at ih
      rw [ih, b1, List.flatMap_cons, List.length_append, Nat.add_assoc]
theorem cnt_ok (N n to x : Nat) (hN : 2000 ≤ N) (hn : n ≤ 5) (hto : to ≤ n) : ∀ (f fu i k y : Nat) (T : T3), Tv T → f ≤ fu → (to - i) * (n + 1) + (n - k) < f → i ≤ to → k ≤ n → y + (cmpl n to f i k T).length ≤ 100000 →
    m88_2 N fu (i : Int) (k : Int) (to : Int) (x : Int) (y : Int) (tP n T) = some (.bool false, ((y + (cmpl n to f i k T).length : Nat) : Int), tP n T)
  | 0, _, _, _, _, _, _, _, h, _, _, _ => by omega
  | f + 1, 0, _, _, _, _, _, h, _, _, _, _ => by omega
  | f + 1, fu + 1, i, k, y, T, hT, hfu, hf, hi, hk, hy => by
    have hl := tbl_len (n := n) hT.tb
    rw [m88_2]
    unfold cmpl at hy ⊢
    by_cases h1 : i = to
    · rw [if_pos h1] at hy ⊢
      rw [brn_et (by omega), m115, bnd_t]
      show getB (.bool false) _ = _
      rw [getB_t, wrapN (by simp at hy; omega)]; rfl
    · rw [if_neg h1] at hy ⊢
      have hm : (to - i) * (n + 1) = (to - (i + 1)) * (n + 1) + (n + 1) := by
        rw [show to - i = (to - (i + 1)) + 1 by omega, Nat.add_mul, Nat.one_mul]
      rw [brn_ef (by omega), grd_t (by unfold tP; omega)]
      unfold tP
      rw [gp_0, getI_t]
      by_cases h2 : k = n
      · rw [if_pos h2] at hy ⊢
        have ih := cnt_ok N n to x hN hn hto f fu (i + 1) 0 y T hT (by omega) (by omega) (by omega) (by omega) hy
        unfold tP at ih
        rw [brn_et (by omega), wrapN (by omega), show m88_2 N fu ((i + 1 : Nat) : Int) 0 (to : Int) (x : Int) (y : Int) (tblP n T.1 T.2.1 T.2.2) = _ from ih, bnd_t]; rfl
      · rw [if_neg h2] at hy ⊢
        rw [brn_ef (by omega), grd_t ⟨by omega, by omega⟩, grd_t ⟨by omega, by omega⟩, toNatN, toNatN, grd_t (by omega), show 1 + i * 5 + k = 1 + (i * 5 + k) by omega, gp_a hT.tb (by omega), getI_t]
        by_cases h3 : 0 ≤ en T.1 (i * 5 + k)
        · rw [if_pos h3] at hy ⊢
          have ih := cnt_ok N n to x hN hn hto f fu i (k + 1) y T hT (by omega) (by omega) (by omega) (by omega) hy
          unfold tP at ih
          rw [brn_dt h3, wrapN (by omega), ih, bnd_t]; rfl
        · rw [if_neg h3] at hy ⊢
          have ha := hT.a1 (i * 5 + k) (by omega)
          have L := cnt_L N n to x (m88_2 N fu) T hT i k (by omega) (by omega) (by omega) (fun s => cmpl n to f i (k + 1) (putT T i k s))
            (fun s y' h5 _ _ hy' => cnt_ok N n to x hN hn hto f fu i (k + 1) y' (putT T i k s) (hT.put (by omega) (by omega) h5) (by omega) (by omega) (by omega) (by omega) hy')
            (mayB n (bn T.2.1 i) (bn T.2.2 k)) N y (may_lt (by omega) (hT.tb.b32 i (by omega)) (hT.tb.d32 k (by omega))) (by have := may_lt (n := n) (by omega) (hT.tb.b32 i (by omega)) (hT.tb.d32 k (by omega)); omega)
            (fun s hs => by
              obtain ⟨s5, hs⟩ := mem_bits.1 hs
              rw [may_tst (by omega) (hT.tb.b32 i (by omega)) (hT.tb.d32 k (by omega)) s5] at hs
              simp only [Bool.and_eq_true, Bool.not_eq_true', decide_eq_true_eq] at hs
              exact ⟨hs.1.2, hs.2⟩) hy
          unfold tP at L
          rw [brn_df (by omega), may_ok N n (by omega) hT.tb (by omega) (by omega), bnd_t, getU_t, L, bnd_t]
def oneP (a b : Nat) (z : Bool) (A : List Int) : List PV := [.int .i64 (a : Int), .int .i64 (b : Int), .bool z] ++ iL A
theorem putP_all : ∀ (ps l m : List PV), m.length = ps.length → putP (l ++ m) l.length ps = l ++ ps
  | [], l, m, h => by
    have : m = [] := List.eq_nil_of_length_eq_zero h
    subst this; rw [putP]
  | p :: ps, l, [], h => by simp at h
  | p :: ps, l, q :: m, h => by
    rw [putP]
    have : (l ++ q :: m).set l.length p = (l ++ [p]) ++ m := by simp
    rw [this]
    have ih := putP_all ps (l ++ [p]) m (by simpa using h)
    rw [show (l ++ [p]).length = l.length + 1 by simp] at ih
    rw [ih]; simp
theorem found_ok (N n a b : Nat) (z : Bool) (A : List Int) (T : T3) (hA : A.length = 25) (hT : Tv T) : m113 N (oneP a b z A) (tP n T) = some (.bool true, oneP a b true T.1) := by
  have hl := tbl_len (n := n) hT.tb
  have la := hT.tb.la
  have e : List.take 25 (List.drop 1 (tP n T)) = iL T.1 := by
    unfold tP tblP
    rw [List.drop_succ_cons, List.drop_zero, List.take_append_of_le_length (by rw [iL_len]; omega), List.take_of_length_le (by rw [iL_len]; omega)]
  have lo : (oneP a b z A).length = 28 := by simp [oneP, iL_len, hA]
  rw [m113, grd_t (by unfold tP; omega), e, grd_t ⟨by rw [iL_len]; exact la, by omega⟩, grd_t (by omega)]
  have p := putP_all (iL T.1) [.int .i64 (a : Int), .int .i64 (b : Int), .bool z] (iL A) (by rw [iL_len, iL_len]; omega)
  rw [show oneP a b z A = [.int .i64 (a : Int), .int .i64 (b : Int), .bool z] ++ iL A from rfl, show (3 : Nat) = [PV.int .i64 (a : Int), .int .i64 (b : Int), .bool z].length from rfl, p]
  rfl
def oneR (n a b : Nat) (z : Bool) (A : List Int) (T : T3) : List T3 → PV × List PV × List PV
  | [] => (.bool false, oneP a b z A, tP n T)
  | T' :: _ => (.bool true, oneP a b true T'.1, tP n T')
theorem one_L (N n to a b : Nat) (z : Bool) (A : List Int) (rec : Int → Int → Int → List PV → List PV → Option (PV × List PV × List PV)) (T : T3) (hT : Tv T) (i k : Nat) (hi : i < 5) (hk : k < 5) (ha : en T.1 (i * 5 + k) = -1) (g : Nat → List T3)
    (hrec : ∀ s, s < 5 → rec (i : Int) ((k + 1 : Nat) : Int) (to : Int) (oneP a b z A) (tP n (putT T i k s)) = some (oneR n a b z A (putT T i k s) (g s))) :
    ∀ (X fuel : Nat), X < 32 → X < fuel → (∀ s, s ∈ bits X → (bn T.2.1 i).testBit s = false ∧ (bn T.2.2 k).testBit s = false) →
    m88_L0 N rec (i : Int) (k : Int) (to : Int) fuel (X : Int) (oneP a b z A) (tP n T) = some (match (bits X).flatMap g with | [] => .inr (oneP a b z A, tP n T) | T' :: _ => .inl (.bool true, oneP a b true T'.1, tP n T'))
  | X, 0, _, h, _ => by omega
  | X, fuel + 1, hX, hf, hs => by
    rw [m88_L0]
    by_cases h0 : X = 0
    · subst h0
      rw [brn_nf (by simp), bits_zero]; rfl
    · obtain ⟨b1, b2, b3⟩ := bits_step X hX h0
      have h1 := hs (low X) (by rw [b1]; exact .head _)
      have hr := hrec (low X) b3
      rw [brn_nt (by omega), tz_ok N X hX h0, bnd_t, getI_t]
      unfold tP at hr ⊢
      rw [put_ok N n hT.tb hi hk b3, bnd_t]
      show getT0 (.tup []) _ = _
      rw [getT0_t, wrapN (by omega)]
      rw [show (putT (T.1, T.2.1, T.2.2) i k (low X)) = putT T i k (low X) from rfl, hr, bnd_t, b1, List.flatMap_cons]
      cases hg : g (low X) with
      | cons T' l =>
        show getB (.bool true) _ = _
        rw [getB_t, brn_t rfl]; rfl
      | nil =>
        show getB (.bool false) _ = _
        rw [getB_t, brn_f rfl]
        have pt := put_take N n hT.tb hi hk b3 ha h1.1 h1.2
        rw [show (putT (T.1, T.2.1, T.2.2) i k (low X)) = putT T i k (low X) from rfl] at pt
        show bnd' (m90 N (i : Int) (k : Int) (tblP n (putT T i k (low X)).1 (putT T i k (low X)).2.1 (putT T i k (low X)).2.2)) _ = _
        rw [pt, bnd_t]
        show getT0 (.tup []) _ = _
        rw [getT0_t, b_rest X hX h0, List.nil_append]
        exact one_L N n to a b z A rec T hT i k hi hk ha g hrec (X &&& (X - 1)) fuel (by omega) (by omega) (fun s hs' => hs s (by rw [b1]; exact .tail _ hs'))
theorem one_ok (N n to a b : Nat) (hN : 2000 ≤ N) (hn : n ≤ 5) (hto : to ≤ n) (z : Bool) (A : List Int) (hA : A.length = 25) : ∀ (f fu i k : Nat) (T : T3), Tv T → f ≤ fu → (to - i) * (n + 1) + (n - k) < f → i ≤ to → k ≤ n →
    m88 N fu (i : Int) (k : Int) (to : Int) (oneP a b z A) (tP n T) = some (oneR n a b z A T (cmpl n to f i k T))
  | 0, _, _, _, _, _, _, h, _, _ => by omega
  | f + 1, 0, _, _, _, _, h, _, _, _ => by omega
  | f + 1, fu + 1, i, k, T, hT, hfu, hf, hi, hk => by
    have hl := tbl_len (n := n) hT.tb
    rw [m88]
    unfold cmpl
    by_cases h1 : i = to
    · rw [if_pos h1, brn_et (by omega), found_ok N n a b z A T hA hT, bnd_t]
      rfl
    · rw [if_neg h1]
      have hm : (to - i) * (n + 1) = (to - (i + 1)) * (n + 1) + (n + 1) := by
        rw [show to - i = (to - (i + 1)) + 1 by omega, Nat.add_mul, Nat.one_mul]
      rw [brn_ef (by omega), grd_t (by unfold tP; omega)]
      rw [show gp (tP n T) 0 = .int .i64 (n : Int) from rfl, getI_t]
      by_cases h2 : k = n
      · rw [if_pos h2]
        have ih := one_ok N n to a b hN hn hto z A hA f fu (i + 1) 0 T hT (by omega) (by omega) (by omega) (by omega)
        rw [brn_et (by omega), wrapN (by omega), show m88 N fu ((i + 1 : Nat) : Int) 0 (to : Int) (oneP a b z A) (tP n T) = _ from ih, bnd_t]
        cases cmpl n to f (i + 1) 0 T <;> rfl
      · rw [if_neg h2, brn_ef (by omega), grd_t ⟨by omega, by omega⟩, grd_t ⟨by omega, by omega⟩, toNatN, toNatN, grd_t (by unfold tP; omega), show 1 + i * 5 + k = 1 + (i * 5 + k) by omega]
        rw [show gp (tP n T) (1 + (i * 5 + k)) = .int .i64 (en T.1 (i * 5 + k)) from gp_a hT.tb (by omega), getI_t]
        by_cases h3 : 0 ≤ en T.1 (i * 5 + k)
        · rw [if_pos h3]
          have ih := one_ok N n to a b hN hn hto z A hA f fu i (k + 1) T hT (by omega) (by omega) (by omega) (by omega)
          rw [brn_dt h3, wrapN (by omega), ih, bnd_t]
          cases cmpl n to f i (k + 1) T <;> rfl
        · rw [if_neg h3]
          have ha := hT.a1 (i * 5 + k) (by omega)
          have L := one_L N n to a b z A (m88 N fu) T hT i k (by omega) (by omega) (by omega) (fun s => cmpl n to f i (k + 1) (putT T i k s))
            (fun s h5 => one_ok N n to a b hN hn hto z A hA f fu i (k + 1) (putT T i k s) (hT.put (by omega) (by omega) h5) (by omega) (by omega) (by omega) (by omega))
            (mayB n (bn T.2.1 i) (bn T.2.2 k)) N (may_lt (by omega) (hT.tb.b32 i (by omega)) (hT.tb.d32 k (by omega))) (by have := may_lt (n := n) (by omega) (hT.tb.b32 i (by omega)) (hT.tb.d32 k (by omega)); omega)
            (fun s hs => by
              obtain ⟨s5, hs⟩ := mem_bits.1 hs
              rw [may_tst (by omega) (hT.tb.b32 i (by omega)) (hT.tb.d32 k (by omega)) s5] at hs
              simp only [Bool.and_eq_true, Bool.not_eq_true', decide_eq_true_eq] at hs
              exact ⟨hs.1.2, hs.2⟩)
          rw [brn_df (by omega)]
          rw [show m89 N (i : Int) (k : Int) (tP n T) = _ from may_ok N n (by omega) hT.tb (by omega) (by omega), bnd_t, getU_t, L, bnd_t]
          cases (bits (mayB n (bn T.2.1 i) (bn T.2.2 k))).flatMap fun s => cmpl n to f i (k + 1) (putT T i k s) <;> rfl
end Go.Proofs.YtcaecfofgdogbaaDoor
