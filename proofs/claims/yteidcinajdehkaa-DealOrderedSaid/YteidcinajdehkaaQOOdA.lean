/-
  Models and laws.
-/
import Derived.Test.YteidcinajdehkaaQODbase
import Derived.Test.YteidcinajdehkaaQODmA
import Derived.Test.YteidcinajdehkaaQOV41
set_option linter.unusedSimpArgs false
set_option linter.unusedVariables false
namespace Go.Proofs.Yteidcinajdehkaa
open Go.V
set_option maxRecDepth 100000
set_option maxHeartbeats 4000000
set_option linter.unusedSimpArgs false
set_option linter.unusedVariables false
attribute [local go_sem] tl1 tl2 tl3 tl4 tl5 tl9 tl17 tl21 tl22 tl23 tl24 tl25 tl26 tl27 tl28 tl29 tl30 tl32 tl33 tl35 tl36 tl37 tl38 tl39 tl40 tl41 tl42 tl43 tl44 tl46 tl48 tl50 tl51 tl52 tl53 tl54 tl56 tl58 tl59 tl60 tl61 tl62 tl63 tl64 tl65 tl66 tl67 tl68 tl69 tl70 tl72 tl74 tl75 tl76 tl77 tl78 tl79 tl80 tl81 tl82 tl83 tl84 tl85 tl86 tl87 tl88 tl89 tl90 tl91 tl92 tl93 tl94 tl95 tl96 tl97 tl98 tl99 tl100 tl101 tl102 tl103 tl104 tl105 tl106 tl107 tl108 tl109 tl110 tl111 tl112 tl113 tl114 tl115 tl116 tl117 tl118 tl119 tl120 tl121 tl122 tl128 tl129 tl133 ne_eq not_false_eq_true Int.le_refl Nat.le_refl Int.cast_ofNat_Int
noncomputable def m88 (N : Nat) (p2350 : PV) (x2351 : Int) (x2352 : Int) (x2353 : Int) (x2354 : Int) : Option (PV) :=
  getL p2350 fun n2356 c2357 =>
  grd (0 ≤ x2351 ∧ x2351 < ((n2356 : Nat) : Int)) <|
  grd (0 < List.length (List.drop (Int.toNat x2351) c2357)) <|
  getL (gp c2357 (Int.toNat x2351)) fun n2362 c2363 =>
  grd (0 ≤ x2353 ∧ x2353 < ((n2362 : Nat) : Int)) <|
  grd (0 < List.length (List.drop (Int.toNat x2353) c2363)) <|
  getI .i64 (gp c2363 (Int.toNat x2353)) fun x2368 =>
  grd (0 ≤ x2352 ∧ x2352 < ((n2356 : Nat) : Int)) <|
  grd (0 < List.length (List.drop (Int.toNat x2352) c2357)) <|
  getL (gp c2357 (Int.toNat x2352)) fun n2373 c2374 =>
  grd (0 ≤ x2354 ∧ x2354 < ((n2373 : Nat) : Int)) <|
  grd (0 < List.length (List.drop (Int.toNat x2354) c2374)) <|
  getI .i64 (gp c2374 (Int.toNat x2354)) fun x2379 =>
  grd (x2354 < ((n2362 : Nat) : Int)) <|
  grd (0 < List.length (List.drop (Int.toNat x2354) c2363)) <|
  getI .i64 (gp c2363 (Int.toNat x2354)) fun x2383 =>
  grd (x2353 < ((n2373 : Nat) : Int)) <|
  grd (0 < List.length (List.drop (Int.toNat x2353) c2374)) <|
  getI .i64 (gp c2374 (Int.toNat x2353)) fun x2387 =>
  some (.bool (decide ((IntKind.i64.wrap (x2368 + x2379)) > (IntKind.i64.wrap (x2383 + x2387)))))
theorem c88 (N : Nat) (p2350 : PV) (x2351 : Int) (x2352 : Int) (x2353 : Int) (x2354 : Int) (r : PV)  (h : m88 N p2350 x2351 x2352 x2353 x2354 = some r) : FnP Try.prog 88 [p2350, (.int .i64 x2351), (.int .i64 x2352), (.int .i64 x2353), (.int .i64 x2354)] r := by
  unfold m88 at h
  refine Fn_of (sz := 42) tab_ok [0, 1, 2, 3, 4, 10] [.tmp 10] Try.func88 rfl rfl rfl (by simp) ?_
  simp only [initSt, initEnv, List.map_cons, List.map_nil, List.getD_cons_zero, List.getD_cons_succ, List.getD_nil]
  have hh := getL_some h; clear h; obtain ⟨n2356, c2357, h2355, h⟩ := hh
  have hh := grd_some h; clear h; obtain ⟨⟨g2358, g2359⟩, h⟩ := hh
  have hh := grd_some h; clear h; obtain ⟨g2360, h⟩ := hh
  have hh := getL_some h; clear h; obtain ⟨n2362, c2363, h2361, h⟩ := hh
  have hh := grd_some h; clear h; obtain ⟨⟨g2364, g2365⟩, h⟩ := hh
  have hh := grd_some h; clear h; obtain ⟨g2366, h⟩ := hh
  have hh := getI_some h; clear h; obtain ⟨x2368, h2367, h⟩ := hh
  have hh := grd_some h; clear h; obtain ⟨⟨g2369, g2370⟩, h⟩ := hh
  have hh := grd_some h; clear h; obtain ⟨g2371, h⟩ := hh
  have hh := getL_some h; clear h; obtain ⟨n2373, c2374, h2372, h⟩ := hh
  have hh := grd_some h; clear h; obtain ⟨⟨g2375, g2376⟩, h⟩ := hh
  have hh := grd_some h; clear h; obtain ⟨g2377, h⟩ := hh
  have hh := getI_some h; clear h; obtain ⟨x2379, h2378, h⟩ := hh
  have hh := grd_some h; clear h; obtain ⟨g2380, h⟩ := hh
  have hh := grd_some h; clear h; obtain ⟨g2381, h⟩ := hh
  have hh := getI_some h; clear h; obtain ⟨x2383, h2382, h⟩ := hh
  have hh := grd_some h; clear h; obtain ⟨g2384, h⟩ := hh
  have hh := grd_some h; clear h; obtain ⟨g2385, h⟩ := hh
  have hh := getI_some h; clear h; obtain ⟨x2387, h2386, h⟩ := hh
  refine W_sound tab_ok mixed 41 _ _ _ ?_
  simp -implicitDefEqProofs only [go_sem, Nat.reduceBEq, Nat.reduceAdd, Nat.reduceSub, Nat.reduceMul, Nat.reduceLT, Nat.reduceLeDiff, Int.reduceLE, Int.reduceLT, Int.reduceToNat, Int.reduceBEq, Int.reduceBNe, ↓reduceIte, h2355, g2358, g2359, g2360, h2361, g2364, g2365, g2366, h2367, g2369, g2370, g2371, h2372, g2375, g2376, g2377, h2378, g2380, g2381, h2382, g2384, g2385, h2386]
  repeat with_reducible refine And.intro (by first | kernel_rfl | decide) ?_
  obtain rfl := Option.some.inj h
  exact finC [(10, .v (.bool (decide ((IntKind.i64.wrap (x2368 + x2379)) > (IntKind.i64.wrap (x2383 + x2387))))))] [(10, .v (.bool (decide ((IntKind.i64.wrap (x2368 + x2379)) > (IntKind.i64.wrap (x2383 + x2387))))))] (by simp [leE, lk_cons]) (.cons _ _ _ _ _ (.v _ _ (.refl _)) .nil) (by rfl) (by simp [leE, lk_cons]) (by decide) (by decide) rfl (by simp only [go_sem, Nat.reduceBEq, Nat.reduceAdd, Nat.reduceSub, Nat.reduceMul, Nat.reduceLT, Nat.reduceLeDiff, Int.reduceLE, Int.reduceLT, Int.reduceToNat, Int.reduceBEq, Int.reduceBNe, ↓reduceIte, resQ_tmp, resQ_cell, resQ_nil, retD_one, retD_two, retD_three, retD_none]; (try simp [R.val, retD_one, retD_two, retD_three, retD_none]); try assumption)
noncomputable def m51 (N : Nat) (p2393 : PV) : Option (PV) :=
  getL p2393 fun n2395 c2396 =>
  some (.lst false n2395 c2396)
theorem c51 (N : Nat) (p2393 : PV) (r : PV)  (h : m51 N p2393 = some r) : FnP Try.prog 51 [p2393] r := by
  unfold m51 at h
  refine Fn_of (sz := 4) tab_ok [0, 2] [.tmp 2] Try.func51 rfl rfl rfl (by simp) ?_
  simp only [initSt, initEnv, List.map_cons, List.map_nil, List.getD_cons_zero, List.getD_cons_succ, List.getD_nil]
  have hh := getL_some h; clear h; obtain ⟨n2395, c2396, h2394, h⟩ := hh
  refine W_sound tab_ok mixed 11 _ _ _ ?_
  simp -implicitDefEqProofs only [go_sem, Nat.reduceBEq, Nat.reduceAdd, Nat.reduceSub, Nat.reduceMul, Nat.reduceLT, Nat.reduceLeDiff, Int.reduceLE, Int.reduceLT, Int.reduceToNat, Int.reduceBEq, Int.reduceBNe, ↓reduceIte, h2394]
  repeat with_reducible refine And.intro (by first | kernel_rfl | decide) ?_
  obtain rfl := Option.some.inj h
  exact finC [(2, .v (.lst false n2395 c2396))] [(2, .v (.lst false n2395 c2396))] (by simp [leE, lk_cons]) (.cons _ _ _ _ _ (.v _ _ (.refl _)) .nil) (by rfl) (by simp [leE, lk_cons]) (by decide) (by decide) rfl (by simp only [go_sem, Nat.reduceBEq, Nat.reduceAdd, Nat.reduceSub, Nat.reduceMul, Nat.reduceLT, Nat.reduceLeDiff, Int.reduceLE, Int.reduceLT, Int.reduceToNat, Int.reduceBEq, Int.reduceBNe, ↓reduceIte, resQ_tmp, resQ_cell, resQ_nil, retD_one, retD_two, retD_three, retD_none]; (try simp [R.val, retD_one, retD_two, retD_three, retD_none]); try assumption)
noncomputable def m47_L3 (N : Nat) (n2335 : Nat) (c2336 : List PV) (x2337 : Int) (x2339 : Int) (n2344 : Nat) (x2346 : Int) : Nat → Int → Option ((PV ⊕ Unit))
  | 0, _ => none
  | n + 1, x2348 =>
    brn (decide (x2348 < ((n2344 : Nat) : Int))) (
      bnd' (m88 N (.lst false n2335 c2336) x2337 x2339 x2346 x2348) fun p2388 =>
      getB p2388 fun b2391 =>
      brn b2391 (
        bnd' (m51 N (.lst false 4 [(.int .i64 x2337), (.int .i64 x2339), (.int .i64 x2346), (.int .i64 x2348)])) fun p2397 =>
        getL p2397 fun n2400 c2401 =>
        some (.inl (.lst false n2400 c2401))) (
        m47_L3 N n2335 c2336 x2337 x2339 n2344 x2346 n (IntKind.i64.wrap (x2348 + 1)))) (
      some (.inr ()))
noncomputable def m47_L2 (N : Nat) (n2335 : Nat) (c2336 : List PV) (x2337 : Int) (x2339 : Int) (n2344 : Nat) : Nat → Int → Option ((PV ⊕ Unit))
  | 0, _ => none
  | n + 1, x2346 =>
    brn (decide (x2346 < ((n2344 : Nat) : Int))) (
      bnd' (m47_L3 N n2335 c2336 x2337 x2339 n2344 x2346 N (IntKind.i64.wrap (x2346 + 1))) fun o =>
      match o with
      | .inl p2402 =>
        some (.inl p2402)
      | .inr () =>
        m47_L2 N n2335 c2336 x2337 x2339 n2344 n (IntKind.i64.wrap (x2346 + 1))) (
      some (.inr ()))
noncomputable def m47_L1 (N : Nat) (n2335 : Nat) (c2336 : List PV) (x2337 : Int) : Nat → Int → Option ((PV ⊕ Unit))
  | 0, _ => none
  | n + 1, x2339 =>
    brn (decide (x2339 < ((n2335 : Nat) : Int))) (
      grd (0 < ((n2335 : Nat) : Int)) <|
      grd (0 < List.length c2336) <|
      getL (gp c2336 0) fun n2344 c2345 =>
      bnd' (m47_L2 N n2335 c2336 x2337 x2339 n2344 N 0) fun o =>
      match o with
      | .inl p2403 =>
        some (.inl p2403)
      | .inr () =>
        m47_L1 N n2335 c2336 x2337 n (IntKind.i64.wrap (x2339 + 1))) (
      some (.inr ()))
noncomputable def m47_L0 (N : Nat) (n2335 : Nat) (c2336 : List PV) : Nat → Int → Option ((PV ⊕ Unit))
  | 0, _ => none
  | n + 1, x2337 =>
    brn (decide (x2337 < ((n2335 : Nat) : Int))) (
      bnd' (m47_L1 N n2335 c2336 x2337 N (IntKind.i64.wrap (x2337 + 1))) fun o =>
      match o with
      | .inl p2404 =>
        some (.inl p2404)
      | .inr () =>
        m47_L0 N n2335 c2336 n (IntKind.i64.wrap (x2337 + 1))) (
      some (.inr ()))
noncomputable def m47 (N : Nat) (p2333 : PV) : Option (PV) :=
  getL p2333 fun n2335 c2336 =>
  bnd' (m47_L0 N n2335 c2336 N 0) fun o =>
  match o with
  | .inl p2405 =>
    some p2405
  | .inr () =>
    some .nl
theorem c47 (N : Nat) (p2333 : PV) (r : PV)  (h : m47 N p2333 = some r) : FnP Try.prog 47 [p2333] r := by
  unfold m47 at h
  refine Fn_of (sz := 51) tab_ok [0, 2, 3, 4, 5, 6, 8, 9, 10, 17, 23, 24, 25, 34, 42] [.tmp 2] Try.func47 rfl rfl rfl (by simp) ?_
  simp only [initSt, initEnv, List.map_cons, List.map_nil, List.getD_cons_zero, List.getD_cons_succ, List.getD_nil]
  have hh := getL_some h; clear h; obtain ⟨n2335, c2336, h2334, h⟩ := hh
  refine W_sound tab_ok mixed 11 _ _ _ ?_
  simp -implicitDefEqProofs only [go_sem, Nat.reduceBEq, Nat.reduceAdd, Nat.reduceSub, Nat.reduceMul, Nat.reduceLT, Nat.reduceLeDiff, Int.reduceLE, Int.reduceLT, Int.reduceToNat, Int.reduceBEq, Int.reduceBNe, ↓reduceIte, h2334]
  repeat with_reducible refine And.intro (by first | kernel_rfl | decide) ?_
  have hh := bnd'_some h; clear h; obtain ⟨o2406, h2407, h2408⟩ := hh
  refine Wp_cut (fun s => (.inr ()) = o2406 ∧ s = ⟨[], [(0, .dead), (2, .dead), (3, .dead), (4, .dead), (5, .dead), (6, .dead), (8, .dead), (9, .dead), (10, .dead), (17, .dead), (23, .dead), (24, .dead), (25, .dead), (34, .dead), (42, .dead)], [], 0, []⟩) ?_ ?_
  · refine Wp_block ?_
    refine Wp_loopG (fun n s => ∃ x2337, m47_L0 N n2335 c2336 n x2337 = some o2406 ∧ s = ⟨[], [(0, .v (.lst false n2335 c2336)), (2, .dead), (3, .dead), (4, .dead), (5, .dead), (6, .dead), (8, .v (.int .i64 ((n2335 : Nat) : Int))), (9, .v (.int .i64 x2337)), (10, .dead), (17, .dead), (23, .dead), (24, .dead), (25, .dead), (34, .dead), (42, .dead)], [], 0, []⟩) N _ (Wk_keep (st' := ⟨[], [(0, .v (.lst false n2335 c2336)), (2, .dead), (3, .dead), (4, .dead), (5, .dead), (6, .dead), (8, .v (.int .i64 ((n2335 : Nat) : Int))), (9, .v (.int .i64 0)), (10, .dead), (17, .dead), (23, .dead), (24, .dead), (25, .dead), (34, .dead), (42, .dead)], [], 0, []⟩) [0, 8, 9] (by kernel_rfl)) ⟨_, h2407, rfl⟩ ?_
    clear h2407
    rintro n _ ⟨x2337, h2407, rfl⟩
    cases n with
    | zero => cases h2407
    | succ n =>
      rw [m47_L0] at h2407
      have hh := brn_some h2407; clear h2407; rcases hh with ⟨h2338, h2407⟩ | ⟨h2338, h2407⟩
      · refine W_sound tab_ok mixed 20 _ _ _ ?_
        simp -implicitDefEqProofs only [go_sem, Nat.reduceBEq, Nat.reduceAdd, Nat.reduceSub, Nat.reduceMul, Nat.reduceLT, Nat.reduceLeDiff, Int.reduceLE, Int.reduceLT, Int.reduceToNat, Int.reduceBEq, Int.reduceBNe, ↓reduceIte, h2334, h2338]
        repeat with_reducible refine And.intro (by first | kernel_rfl | decide) ?_
        have hh := bnd'_some h2407; clear h2407; obtain ⟨o2409, h2410, h2411⟩ := hh
        refine Wp_cut (fun s => (.inr ()) = o2409 ∧ s = ⟨[], [(0, .v (.lst false n2335 c2336)), (2, .dead), (3, .dead), (4, .dead), (5, .dead), (6, .dead), (8, .v (.int .i64 ((n2335 : Nat) : Int))), (9, .v (.int .i64 x2337)), (10, .dead), (17, .dead), (23, .dead), (24, .dead), (25, .dead), (34, .dead), (42, .dead)], [], 0, []⟩) ?_ ?_
        · refine Wp_block ?_
          refine Wp_loopG (fun n s => ∃ x2339, m47_L1 N n2335 c2336 x2337 n x2339 = some o2409 ∧ s = ⟨[], [(0, .v (.lst false n2335 c2336)), (2, .dead), (3, .v (.int .i64 x2337)), (4, .v (.int .i64 x2339)), (5, .dead), (6, .dead), (8, .v (.int .i64 ((n2335 : Nat) : Int))), (9, .v (.int .i64 x2337)), (10, .dead), (17, .dead), (23, .dead), (24, .dead), (25, .dead), (34, .dead), (42, .dead)], [], 0, []⟩) N _ (Wk_keep (st' := ⟨[], [(0, .v (.lst false n2335 c2336)), (2, .dead), (3, .v (.int .i64 x2337)), (4, .v (.int .i64 (IntKind.i64.wrap (x2337 + 1)))), (5, .dead), (6, .dead), (8, .v (.int .i64 ((n2335 : Nat) : Int))), (9, .v (.int .i64 x2337)), (10, .dead), (17, .dead), (23, .dead), (24, .dead), (25, .dead), (34, .dead), (42, .dead)], [], 0, []⟩) [0, 3, 4, 8, 9] (by kernel_rfl)) ⟨_, h2410, rfl⟩ ?_
          clear h2410
          rintro n _ ⟨x2339, h2410, rfl⟩
          cases n with
          | zero => cases h2410
          | succ n =>
            rw [m47_L1] at h2410
            have hh := brn_some h2410; clear h2410; rcases hh with ⟨h2340, h2410⟩ | ⟨h2340, h2410⟩
            · have hh := grd_some h2410; clear h2410; obtain ⟨g2341, h2410⟩ := hh
              have hh := grd_some h2410; clear h2410; obtain ⟨g2342, h2410⟩ := hh
              have hh := getL_some h2410; clear h2410; obtain ⟨n2344, c2345, h2343, h2410⟩ := hh
              refine W_sound tab_ok mixed 20 _ _ _ ?_
              simp -implicitDefEqProofs only [go_sem, Nat.reduceBEq, Nat.reduceAdd, Nat.reduceSub, Nat.reduceMul, Nat.reduceLT, Nat.reduceLeDiff, Int.reduceLE, Int.reduceLT, Int.reduceToNat, Int.reduceBEq, Int.reduceBNe, ↓reduceIte, h2334, h2338, h2340, g2341, g2342, h2343]
              repeat with_reducible refine And.intro (by first | kernel_rfl | decide) ?_
              have hh := bnd'_some h2410; clear h2410; obtain ⟨o2412, h2413, h2414⟩ := hh
              refine Wp_cut (fun s => (.inr ()) = o2412 ∧ s = ⟨[], [(0, .v (.lst false n2335 c2336)), (2, .dead), (3, .v (.int .i64 x2337)), (4, .v (.int .i64 x2339)), (5, .dead), (6, .dead), (8, .v (.int .i64 ((n2335 : Nat) : Int))), (9, .v (.int .i64 x2337)), (10, .dead), (17, .dead), (23, .dead), (24, .dead), (25, .dead), (34, .dead), (42, .dead)], [], 0, []⟩) ?_ ?_
              · refine Wp_block ?_
                refine Wp_loopG (fun n s => ∃ x2346, m47_L2 N n2335 c2336 x2337 x2339 n2344 n x2346 = some o2412 ∧ s = ⟨[], [(0, .v (.lst false n2335 c2336)), (2, .dead), (3, .v (.int .i64 x2337)), (4, .v (.int .i64 x2339)), (5, .dead), (6, .dead), (8, .v (.int .i64 ((n2335 : Nat) : Int))), (9, .v (.int .i64 x2337)), (10, .dead), (17, .dead), (23, .v (.int .i64 ((n2344 : Nat) : Int))), (24, .v (.int .i64 x2346)), (25, .dead), (34, .dead), (42, .dead)], [], 0, []⟩) N _ (Wk_keep (st' := ⟨[], [(0, .v (.lst false n2335 c2336)), (2, .dead), (3, .v (.int .i64 x2337)), (4, .v (.int .i64 x2339)), (5, .dead), (6, .dead), (8, .v (.int .i64 ((n2335 : Nat) : Int))), (9, .v (.int .i64 x2337)), (10, .dead), (17, .dead), (23, .v (.int .i64 ((n2344 : Nat) : Int))), (24, .v (.int .i64 0)), (25, .dead), (34, .dead), (42, .dead)], [], 0, []⟩) [0, 3, 4, 8, 9, 23, 24] (by kernel_rfl)) ⟨_, h2413, rfl⟩ ?_
                clear h2413
                rintro n _ ⟨x2346, h2413, rfl⟩
                cases n with
                | zero => cases h2413
                | succ n =>
                  rw [m47_L2] at h2413
                  have hh := brn_some h2413; clear h2413; rcases hh with ⟨h2347, h2413⟩ | ⟨h2347, h2413⟩
                  · refine W_sound tab_ok mixed 20 _ _ _ ?_
                    simp -implicitDefEqProofs only [go_sem, Nat.reduceBEq, Nat.reduceAdd, Nat.reduceSub, Nat.reduceMul, Nat.reduceLT, Nat.reduceLeDiff, Int.reduceLE, Int.reduceLT, Int.reduceToNat, Int.reduceBEq, Int.reduceBNe, ↓reduceIte, h2334, h2338, h2340, g2341, g2342, h2343, h2347]
                    repeat with_reducible refine And.intro (by first | kernel_rfl | decide) ?_
                    have hh := bnd'_some h2413; clear h2413; obtain ⟨o2415, h2416, h2417⟩ := hh
                    refine Wp_cut (fun s => (.inr ()) = o2415 ∧ s = ⟨[], [(0, .v (.lst false n2335 c2336)), (2, .dead), (3, .v (.int .i64 x2337)), (4, .v (.int .i64 x2339)), (5, .dead), (6, .dead), (8, .v (.int .i64 ((n2335 : Nat) : Int))), (9, .v (.int .i64 x2337)), (10, .dead), (17, .dead), (23, .v (.int .i64 ((n2344 : Nat) : Int))), (24, .v (.int .i64 x2346)), (25, .dead), (34, .dead), (42, .dead)], [], 0, []⟩) ?_ ?_
                    · refine Wp_block ?_
                      refine Wp_loopG (fun n s => ∃ x2348, m47_L3 N n2335 c2336 x2337 x2339 n2344 x2346 n x2348 = some o2415 ∧ s = ⟨[], [(0, .v (.lst false n2335 c2336)), (2, .dead), (3, .v (.int .i64 x2337)), (4, .v (.int .i64 x2339)), (5, .v (.int .i64 x2346)), (6, .v (.int .i64 x2348)), (8, .v (.int .i64 ((n2335 : Nat) : Int))), (9, .v (.int .i64 x2337)), (10, .dead), (17, .dead), (23, .v (.int .i64 ((n2344 : Nat) : Int))), (24, .v (.int .i64 x2346)), (25, .dead), (34, .dead), (42, .dead)], [], 0, []⟩) N _ (Wk_keep (st' := ⟨[], [(0, .v (.lst false n2335 c2336)), (2, .dead), (3, .v (.int .i64 x2337)), (4, .v (.int .i64 x2339)), (5, .v (.int .i64 x2346)), (6, .v (.int .i64 (IntKind.i64.wrap (x2346 + 1)))), (8, .v (.int .i64 ((n2335 : Nat) : Int))), (9, .v (.int .i64 x2337)), (10, .dead), (17, .dead), (23, .v (.int .i64 ((n2344 : Nat) : Int))), (24, .v (.int .i64 x2346)), (25, .dead), (34, .dead), (42, .dead)], [], 0, []⟩) [0, 3, 4, 5, 6, 8, 9, 23, 24] (by kernel_rfl)) ⟨_, h2416, rfl⟩ ?_
                      clear h2416
                      rintro n _ ⟨x2348, h2416, rfl⟩
                      cases n with
                      | zero => cases h2416
                      | succ n =>
                        rw [m47_L3] at h2416
                        have hh := brn_some h2416; clear h2416; rcases hh with ⟨h2349, h2416⟩ | ⟨h2349, h2416⟩
                        · have hh := bnd'_some h2416; clear h2416; obtain ⟨p2388, h2389, h2416⟩ := hh
                          refine W_sound tab_ok mixed 21 _ _ _ ?_
                          simp -implicitDefEqProofs only [go_sem, Nat.reduceBEq, Nat.reduceAdd, Nat.reduceSub, Nat.reduceMul, Nat.reduceLT, Nat.reduceLeDiff, Int.reduceLE, Int.reduceLT, Int.reduceToNat, Int.reduceBEq, Int.reduceBNe, ↓reduceIte, h2334, h2338, h2340, g2341, g2342, h2343, h2347, h2349]
                          repeat with_reducible refine And.intro (by first | kernel_rfl | decide) ?_
                          refine Wp_callP (c88 N _ _ _ _ _ _ h2389) (by kernel_rfl) rfl rfl rfl rfl (by decide) ?_
                          have hh := getB_some h2416; clear h2416; obtain ⟨b2391, h2390, h2416⟩ := hh
                          have hh := brn_some h2416; clear h2416; rcases hh with ⟨h2392, h2416⟩ | ⟨h2392, h2416⟩
                          · have hh := bnd'_some h2416; clear h2416; obtain ⟨p2397, h2398, h2416⟩ := hh
                            refine W_sound tab_ok mixed 9 _ _ _ ?_
                            simp -implicitDefEqProofs only [go_sem, Nat.reduceBEq, Nat.reduceAdd, Nat.reduceSub, Nat.reduceMul, Nat.reduceLT, Nat.reduceLeDiff, Int.reduceLE, Int.reduceLT, Int.reduceToNat, Int.reduceBEq, Int.reduceBNe, ↓reduceIte, h2334, h2338, h2340, g2341, g2342, h2343, h2347, h2349, h2390, h2392]
                            repeat with_reducible refine And.intro (by first | kernel_rfl | decide) ?_
                            refine Wp_callF [(47, [(.int .i64 x2337), (.int .i64 x2339), (.int .i64 x2346), (.int .i64 x2348)])] (FnP_le (c51 N _ _ h2398) (.cons _ _ _ _ (.lst true false _ _ _ (fun h => by first | exact h | cases h) (PLes.refl _)) .nil) (.refl _)) (by kernel_rfl) rfl rfl rfl (by simp only [go_sem, Nat.reduceBEq, Nat.reduceAdd, Nat.reduceSub, Nat.reduceMul, Nat.reduceLT, Nat.reduceLeDiff, Int.reduceLE, Int.reduceLT, Int.reduceToNat, Int.reduceBEq, Int.reduceBNe, ↓reduceIte, h2334, h2338, h2340, g2341, g2342, h2343, h2347, h2349, h2390, h2392] <;> rfl) (by decide) rfl (by simp [roF, obL]) rfl ?_
                            have hh := getL_some h2416; clear h2416; obtain ⟨n2400, c2401, h2399, h2416⟩ := hh
                            refine W_sound tab_ok mixed 4 _ _ _ ?_
                            simp -implicitDefEqProofs only [go_sem, Nat.reduceBEq, Nat.reduceAdd, Nat.reduceSub, Nat.reduceMul, Nat.reduceLT, Nat.reduceLeDiff, Int.reduceLE, Int.reduceLT, Int.reduceToNat, Int.reduceBEq, Int.reduceBNe, ↓reduceIte, h2334, h2338, h2340, g2341, g2342, h2343, h2347, h2349, h2390, h2392, h2399]
                            repeat with_reducible refine And.intro (by first | kernel_rfl | decide) ?_
                            obtain rfl := Option.some.inj h2416
                            (try dsimp only at h2417)
                            obtain rfl := Option.some.inj h2417
                            (try dsimp only at h2414)
                            obtain rfl := Option.some.inj h2414
                            (try dsimp only at h2411)
                            obtain rfl := Option.some.inj h2411
                            (try dsimp only at h2408)
                            obtain rfl := Option.some.inj h2408
                            exact finC [(2, .v (.lst false n2400 c2401))] [(2, .v (.lst false n2400 c2401))] (by simp [leE, lk_cons]) (.cons _ _ _ _ _ (.v _ _ (.refl _)) .nil) (by rfl) (by simp [leE, lk_cons]) (by decide) (by decide) rfl (by simp only [go_sem, Nat.reduceBEq, Nat.reduceAdd, Nat.reduceSub, Nat.reduceMul, Nat.reduceLT, Nat.reduceLeDiff, Int.reduceLE, Int.reduceLT, Int.reduceToNat, Int.reduceBEq, Int.reduceBNe, ↓reduceIte, resQ_tmp, resQ_cell, resQ_nil, retD_one, retD_two, retD_three, retD_none]; (try simp [R.val, retD_one, retD_two, retD_three, retD_none]); try assumption)
                          · refine W_sound tab_ok mixed 9 _ _ _ ?_
                            simp -implicitDefEqProofs only [go_sem, Nat.reduceBEq, Nat.reduceAdd, Nat.reduceSub, Nat.reduceMul, Nat.reduceLT, Nat.reduceLeDiff, Int.reduceLE, Int.reduceLT, Int.reduceToNat, Int.reduceBEq, Int.reduceBNe, ↓reduceIte, h2334, h2338, h2340, g2341, g2342, h2343, h2347, h2349, h2390, h2392]
                            repeat with_reducible refine And.intro (by first | kernel_rfl | decide) ?_
                            refine cutQ _ ?_ ⟨n, Nat.lt_succ_self n, _, h2416, rfl⟩
                            exact Wk_keep [0, 3, 4, 5, 6, 8, 9, 23, 24] (by kernel_rfl)
                        · refine W_sound tab_ok mixed 12 _ _ _ ?_
                          simp -implicitDefEqProofs only [go_sem, Nat.reduceBEq, Nat.reduceAdd, Nat.reduceSub, Nat.reduceMul, Nat.reduceLT, Nat.reduceLeDiff, Int.reduceLE, Int.reduceLT, Int.reduceToNat, Int.reduceBEq, Int.reduceBNe, ↓reduceIte, h2334, h2338, h2340, g2341, g2342, h2343, h2347, h2349]
                          repeat with_reducible refine And.intro (by first | kernel_rfl | decide) ?_
                          obtain rfl := Option.some.inj h2416
                          refine cutQ _ ?_ ⟨rfl, rfl⟩
                          exact Wk_keep [0, 3, 4, 8, 9, 23, 24] (by kernel_rfl)
                    · rintro _ ⟨rfl, rfl⟩
                      (try dsimp only at h2417)
                      refine W_sound tab_ok mixed 5 _ _ _ ?_
                      simp -implicitDefEqProofs only [go_sem, Nat.reduceBEq, Nat.reduceAdd, Nat.reduceSub, Nat.reduceMul, Nat.reduceLT, Nat.reduceLeDiff, Int.reduceLE, Int.reduceLT, Int.reduceToNat, Int.reduceBEq, Int.reduceBNe, ↓reduceIte, h2334, h2338, h2340, g2341, g2342, h2343, h2347]
                      repeat with_reducible refine And.intro (by first | kernel_rfl | decide) ?_
                      refine cutQ _ ?_ ⟨n, Nat.lt_succ_self n, _, h2417, rfl⟩
                      exact Wk_keep [0, 3, 4, 8, 9, 23, 24] (by kernel_rfl)
                  · refine W_sound tab_ok mixed 7 _ _ _ ?_
                    simp -implicitDefEqProofs only [go_sem, Nat.reduceBEq, Nat.reduceAdd, Nat.reduceSub, Nat.reduceMul, Nat.reduceLT, Nat.reduceLeDiff, Int.reduceLE, Int.reduceLT, Int.reduceToNat, Int.reduceBEq, Int.reduceBNe, ↓reduceIte, h2334, h2338, h2340, g2341, g2342, h2343, h2347]
                    repeat with_reducible refine And.intro (by first | kernel_rfl | decide) ?_
                    obtain rfl := Option.some.inj h2413
                    refine cutQ _ ?_ ⟨rfl, rfl⟩
                    exact Wk_keep [0, 3, 4, 8, 9] (by kernel_rfl)
              · rintro _ ⟨rfl, rfl⟩
                (try dsimp only at h2414)
                refine W_sound tab_ok mixed 6 _ _ _ ?_
                simp -implicitDefEqProofs only [go_sem, Nat.reduceBEq, Nat.reduceAdd, Nat.reduceSub, Nat.reduceMul, Nat.reduceLT, Nat.reduceLeDiff, Int.reduceLE, Int.reduceLT, Int.reduceToNat, Int.reduceBEq, Int.reduceBNe, ↓reduceIte, h2334, h2338, h2340, g2341, g2342, h2343]
                repeat with_reducible refine And.intro (by first | kernel_rfl | decide) ?_
                refine cutQ _ ?_ ⟨n, Nat.lt_succ_self n, _, h2414, rfl⟩
                exact Wk_keep [0, 3, 4, 8, 9] (by kernel_rfl)
            · refine W_sound tab_ok mixed 10 _ _ _ ?_
              simp -implicitDefEqProofs only [go_sem, Nat.reduceBEq, Nat.reduceAdd, Nat.reduceSub, Nat.reduceMul, Nat.reduceLT, Nat.reduceLeDiff, Int.reduceLE, Int.reduceLT, Int.reduceToNat, Int.reduceBEq, Int.reduceBNe, ↓reduceIte, h2334, h2338, h2340]
              repeat with_reducible refine And.intro (by first | kernel_rfl | decide) ?_
              obtain rfl := Option.some.inj h2410
              refine cutQ _ ?_ ⟨rfl, rfl⟩
              exact Wk_keep [0, 8, 9] (by kernel_rfl)
        · rintro _ ⟨rfl, rfl⟩
          (try dsimp only at h2411)
          refine W_sound tab_ok mixed 5 _ _ _ ?_
          simp -implicitDefEqProofs only [go_sem, Nat.reduceBEq, Nat.reduceAdd, Nat.reduceSub, Nat.reduceMul, Nat.reduceLT, Nat.reduceLeDiff, Int.reduceLE, Int.reduceLT, Int.reduceToNat, Int.reduceBEq, Int.reduceBNe, ↓reduceIte, h2334, h2338]
          repeat with_reducible refine And.intro (by first | kernel_rfl | decide) ?_
          refine cutQ _ ?_ ⟨n, Nat.lt_succ_self n, _, h2411, rfl⟩
          exact Wk_keep [0, 8, 9] (by kernel_rfl)
      · refine W_sound tab_ok mixed 7 _ _ _ ?_
        simp -implicitDefEqProofs only [go_sem, Nat.reduceBEq, Nat.reduceAdd, Nat.reduceSub, Nat.reduceMul, Nat.reduceLT, Nat.reduceLeDiff, Int.reduceLE, Int.reduceLT, Int.reduceToNat, Int.reduceBEq, Int.reduceBNe, ↓reduceIte, h2334, h2338]
        repeat with_reducible refine And.intro (by first | kernel_rfl | decide) ?_
        obtain rfl := Option.some.inj h2407
        refine cutQ _ ?_ ⟨rfl, rfl⟩
        exact Wk_keep [] (by kernel_rfl)
  · rintro _ ⟨rfl, rfl⟩
    (try dsimp only at h2408)
    refine W_sound tab_ok mixed 6 _ _ _ ?_
    simp -implicitDefEqProofs only [go_sem, Nat.reduceBEq, Nat.reduceAdd, Nat.reduceSub, Nat.reduceMul, Nat.reduceLT, Nat.reduceLeDiff, Int.reduceLE, Int.reduceLT, Int.reduceToNat, Int.reduceBEq, Int.reduceBNe, ↓reduceIte, h2334]
    repeat with_reducible refine And.intro (by first | kernel_rfl | decide) ?_
    obtain rfl := Option.some.inj h2408
    exact finC [(2, .v .nl)] [(2, .v .nl)] (by simp [leE, lk_cons]) (.cons _ _ _ _ _ (.v _ _ (.refl _)) .nil) (by rfl) (by simp [leE, lk_cons]) (by decide) (by decide) rfl (by simp only [go_sem, Nat.reduceBEq, Nat.reduceAdd, Nat.reduceSub, Nat.reduceMul, Nat.reduceLT, Nat.reduceLeDiff, Int.reduceLE, Int.reduceLT, Int.reduceToNat, Int.reduceBEq, Int.reduceBNe, ↓reduceIte, resQ_tmp, resQ_cell, resQ_nil, retD_one, retD_two, retD_three, retD_none]; (try simp [R.val, retD_one, retD_two, retD_three, retD_none]); try assumption)
noncomputable def m53_2 (N : Nat) (p2424 : PV) : Option (PV) :=
  getL p2424 fun n2426 c2427 =>
  grd (0 < n2426) <|
  grd (List.length c2427 = n2426) <|
  grd (n2426 ≤ 1099511627776) <|
  some (.lst false n2426 c2427)
theorem c53_2 (N : Nat) (p2424 : PV) (r : PV)  (h : m53_2 N p2424 = some r) : FnP Try.prog 53 [p2424] r := by
  unfold m53_2 at h
  refine Fn_of (sz := 8) tab_ok [0, 2, 4] [.tmp 2] Try.func53 rfl rfl rfl (by simp) ?_
  simp only [initSt, initEnv, List.map_cons, List.map_nil, List.getD_cons_zero, List.getD_cons_succ, List.getD_nil]
  have hh := getL_some h; clear h; obtain ⟨n2426, c2427, h2425, h⟩ := hh
  have hh := grd_some h; clear h; obtain ⟨g2428, h⟩ := hh
  have hh := grd_some h; clear h; obtain ⟨g2429, h⟩ := hh
  have hh := grd_some h; clear h; obtain ⟨g2430, h⟩ := hh
  refine W_sound tab_ok mixed 21 _ _ _ ?_
  simp -implicitDefEqProofs only [go_sem, Nat.reduceBEq, Nat.reduceAdd, Nat.reduceSub, Nat.reduceMul, Nat.reduceLT, Nat.reduceLeDiff, Int.reduceLE, Int.reduceLT, Int.reduceToNat, Int.reduceBEq, Int.reduceBNe, ↓reduceIte, h2425, g2428, g2429, g2430]
  repeat with_reducible refine And.intro (by first | kernel_rfl | decide) ?_
  refine FinQ_wk (Wk_freeze 7 c2427 (by rfl) (by decide) (by decide)) ?_
  simp -implicitDefEqProofs only [go_sem, Nat.reduceBEq, Nat.reduceAdd, Nat.reduceSub, Nat.reduceMul, Nat.reduceLT, Nat.reduceLeDiff, Int.reduceLE, Int.reduceLT, Int.reduceToNat, Int.reduceBEq, Int.reduceBNe, ↓reduceIte, h2425, g2428, g2429, g2430]
  obtain rfl := Option.some.inj h
  exact finC [(2, .v (.lst false n2426 c2427))] [(2, .v (.lst false n2426 c2427))] (by simp [leE, lk_cons]) (.cons _ _ _ _ _ (.v _ _ (.refl _)) .nil) (by rfl) (by simp [leE, lk_cons]) (by decide) (by decide) rfl (by simp only [go_sem, Nat.reduceBEq, Nat.reduceAdd, Nat.reduceSub, Nat.reduceMul, Nat.reduceLT, Nat.reduceLeDiff, Int.reduceLE, Int.reduceLT, Int.reduceToNat, Int.reduceBEq, Int.reduceBNe, ↓reduceIte, resQ_tmp, resQ_cell, resQ_nil, retD_one, retD_two, retD_three, retD_none]; (try simp [R.val, retD_one, retD_two, retD_three, retD_none]); try assumption)
noncomputable def m58_L0 (N : Nat) (n2451 : Nat) (c2452 : List PV) : Nat → Int → Option (Unit)
  | 0, _ => none
  | n + 1, x2454 =>
    brn (decide (x2454 < 0)) (
      none) (
      some ())
noncomputable def m58 (N : Nat) (p2445 : PV) (b2446 : Bool) : Option ((PV × Bool × PV × PV)) :=
  getL p2445 fun n2451 c2452 =>
  brn b2446 (
    some ((.tup []), true, (.lst false 0 []), (.lst false 0 []))) (
    bnd' (m58_L0 N n2451 c2452 N 0) fun _ =>
    bnd' (m47 N (.lst false 0 [])) fun p2456 =>
    getN p2456 (
      bnd' (m53_2 N (.lst false 0 [])) fun p2462 =>
      getL p2462 fun n2465 c2466 =>
      bnd' (m53_2 N (.lst false 0 [])) fun p2467 =>
      getL p2467 fun n2470 c2471 =>
      some ((.tup []), true, (.lst false n2465 c2466), (.lst false n2470 c2471))) fun n2460 c2461 =>
    grd (0 < n2460) <|
    some ((.tup []), false, (.lst false 0 []), (.lst false 0 [])))
theorem c58 (N : Nat) (p2445 : PV) (b2446 : Bool) (r : PV) (b2476 : Bool) (p2477 : PV) (p2478 : PV) (h : m58 N p2445 b2446 = some (r, b2476, p2477, p2478)) : V.Fn Try.prog 58 3 [.v .nl, .ptr 0 0, .v (.ipt [.nl]), .v (.ipt [p2445]), .ptr 1 0, .ptr 2 0] [(0, .p [(.bool b2446)]), (1, .p [.nl]), (2, .p [.nl])] (fun d ob' => d = .v r ∧ ob' = [(0, .p [(.bool b2476)]), (1, .p [p2477]), (2, .p [p2478])]) := by
  unfold m58 at h
  refine Fn_of (sz := 49) tab_ok [0, 1, 2, 3, 4, 5, 7, 9, 10, 12, 13, 14, 15, 16, 17, 20, 21, 22, 23, 44] [] Try.func58 rfl rfl rfl (by simp) ?_
  simp only [initSt, initEnv, List.map_cons, List.map_nil, List.getD_cons_zero, List.getD_cons_succ, List.getD_nil]
  have hh := getL_some h; clear h; obtain ⟨n2451, c2452, h2450, h⟩ := hh
  have hh := brn_some h; clear h; rcases hh with ⟨h2453, h⟩ | ⟨h2453, h⟩
  · refine W_sound tab_ok mixed 8 _ _ _ ?_
    simp -implicitDefEqProofs only [go_sem, Nat.reduceBEq, Nat.reduceAdd, Nat.reduceSub, Nat.reduceMul, Nat.reduceLT, Nat.reduceLeDiff, Int.reduceLE, Int.reduceLT, Int.reduceToNat, Int.reduceBEq, Int.reduceBNe, ↓reduceIte, h2450, h2453]
    repeat with_reducible refine And.intro (by first | kernel_rfl | decide) ?_
    simp only [Option.some.injEq, Prod.mk.injEq] at h; obtain ⟨rfl, rfl, rfl, rfl⟩ := h
    exact finD (e2 := [(0, .dead), (1, .dead), (2, .dead), (3, .dead), (4, .dead), (5, .dead), (7, .dead), (9, .dead), (10, .dead), (12, .dead), (13, .dead), (14, .dead), (15, .dead), (16, .dead), (17, .dead), (20, .dead), (21, .dead), (22, .dead), (23, .dead), (44, .dead)]) (ob2 := [(0, .p [(.bool true)]), (1, .p [(.lst false 0 [])]), (2, .p [(.lst false 0 [])])]) (st' := ⟨[], [(0, .dead), (1, .dead), (2, .dead), (3, .dead), (4, .dead), (5, .dead), (7, .dead), (9, .dead), (10, .dead), (12, .dead), (13, .dead), (14, .dead), (15, .dead), (16, .dead), (17, .dead), (20, .dead), (21, .dead), (22, .dead), (23, .dead), (44, .dead)], [(0, .p [(.bool true)]), (1, .p [(.lst false 0 [])]), (2, .p [(.lst false 0 [])])], 3, []⟩) (.cons _ _ _ _ _ (.dead _) (.cons _ _ _ _ _ (.dead _) (.cons _ _ _ _ _ (.dead _) (.cons _ _ _ _ _ (.dead _) (.cons _ _ _ _ _ (.dead _) (.cons _ _ _ _ _ (.dead _) (.cons _ _ _ _ _ (.refl _) (.cons _ _ _ _ _ (.refl _) (.cons _ _ _ _ _ (.refl _) (.cons _ _ _ _ _ (.refl _) (.cons _ _ _ _ _ (.dead _) (.cons _ _ _ _ _ (.refl _) (.cons _ _ _ _ _ (.refl _) (.cons _ _ _ _ _ (.refl _) (.cons _ _ _ _ _ (.refl _) (.cons _ _ _ _ _ (.refl _) (.cons _ _ _ _ _ (.refl _) (.cons _ _ _ _ _ (.refl _) (.cons _ _ _ _ _ (.refl _) (.cons _ _ _ _ _ (.refl _) .nil)))))))))))))))))))) (.cons _ _ _ _ _ (DLes.refl _) (.cons _ (.p _) (.p _) _ _ (DLes.of_p (.cons _ _ _ _ (.nl false) .nil)) (.cons _ (.p _) (.p _) _ _ (DLes.of_p (.cons _ _ _ _ (.nl false) .nil)) .nil))) (by kernel_rfl) (by simp only [go_sem, Nat.reduceBEq, Nat.reduceAdd, Nat.reduceSub, Nat.reduceMul, Nat.reduceLT, Nat.reduceLeDiff, Int.reduceLE, Int.reduceLT, Int.reduceToNat, Int.reduceBEq, Int.reduceBNe, ↓reduceIte, resQ_tmp, resQ_cell, resQ_nil, retD_one, retD_two, retD_three, retD_none]; (try simp [R.val, retD_one, retD_two, retD_three, retD_none]); try assumption)
  · refine W_sound tab_ok mixed 18 _ _ _ ?_
    simp -implicitDefEqProofs only [go_sem, Nat.reduceBEq, Nat.reduceAdd, Nat.reduceSub, Nat.reduceMul, Nat.reduceLT, Nat.reduceLeDiff, Int.reduceLE, Int.reduceLT, Int.reduceToNat, Int.reduceBEq, Int.reduceBNe, ↓reduceIte, h2450, h2453]
    repeat with_reducible refine And.intro (by first | kernel_rfl | decide) ?_
    have hh := bnd'_some h; clear h; obtain ⟨o2479, h2480, h2481⟩ := hh
    refine Wp_cut (fun s => () = o2479 ∧ s = ⟨[], [(0, .v .nl), (1, .ptr 0 0), (2, .v (.ipt [.nl])), (3, .dead), (4, .ptr 1 0), (5, .ptr 2 0), (7, .v .nl), (9, .dead), (10, .dead), (12, .dead), (13, .dead), (14, .dead), (15, .dead), (16, .dead), (17, .dead), (20, .dead), (21, .dead), (22, .dead), (23, .dead), (44, .dead)], [(0, .p [(.bool false)]), (1, .p [.nl]), (2, .p [.nl])], 3, []⟩) ?_ ?_
    · refine Wp_block ?_
      refine Wp_loopG (fun n s => ∃ x2454, m58_L0 N n2451 c2452 n x2454 = some o2479 ∧ s = ⟨[], [(0, .v .nl), (1, .ptr 0 0), (2, .v (.ipt [.nl])), (3, .v (.ipt [(.lst false n2451 c2452)])), (4, .ptr 1 0), (5, .ptr 2 0), (7, .v .nl), (9, .dead), (10, .dead), (12, .dead), (13, .dead), (14, .v .nl), (15, .v (.int .i64 0)), (16, .v (.int .i64 x2454)), (17, .dead), (20, .dead), (21, .dead), (22, .dead), (23, .dead), (44, .dead)], [(0, .p [(.bool false)]), (1, .p [.nl]), (2, .p [.nl])], 3, []⟩) N _ (Wk_keep (st' := ⟨[], [(0, .v .nl), (1, .ptr 0 0), (2, .v (.ipt [.nl])), (3, .v (.ipt [(.lst false n2451 c2452)])), (4, .ptr 1 0), (5, .ptr 2 0), (7, .v .nl), (9, .dead), (10, .dead), (12, .dead), (13, .dead), (14, .v .nl), (15, .v (.int .i64 0)), (16, .v (.int .i64 0)), (17, .dead), (20, .dead), (21, .dead), (22, .dead), (23, .dead), (44, .dead)], [(0, .p [(.bool false)]), (1, .p [.nl]), (2, .p [.nl])], 3, []⟩) [0, 1, 2, 3, 4, 5, 7, 14, 15, 16] (by kernel_rfl)) ⟨_, h2480, rfl⟩ ?_
      clear h2480
      rintro n _ ⟨x2454, h2480, rfl⟩
      cases n with
      | zero => cases h2480
      | succ n =>
        rw [m58_L0] at h2480
        have hh := brn_some h2480; clear h2480; rcases hh with ⟨h2455, h2480⟩ | ⟨h2455, h2480⟩
        · cases h2480
        · refine W_sound tab_ok mixed 7 _ _ _ ?_
          simp -implicitDefEqProofs only [go_sem, Nat.reduceBEq, Nat.reduceAdd, Nat.reduceSub, Nat.reduceMul, Nat.reduceLT, Nat.reduceLeDiff, Int.reduceLE, Int.reduceLT, Int.reduceToNat, Int.reduceBEq, Int.reduceBNe, ↓reduceIte, h2450, h2453, h2455]
          repeat with_reducible refine And.intro (by first | kernel_rfl | decide) ?_
          obtain rfl := Option.some.inj h2480
          exact cutQ _ (Wk_keep (st' := ⟨[], [(0, .v .nl), (1, .ptr 0 0), (2, .v (.ipt [.nl])), (3, .dead), (4, .ptr 1 0), (5, .ptr 2 0), (7, .v .nl), (9, .dead), (10, .dead), (12, .dead), (13, .dead), (14, .dead), (15, .dead), (16, .dead), (17, .dead), (20, .dead), (21, .dead), (22, .dead), (23, .dead), (44, .dead)], [(0, .p [(.bool false)]), (1, .p [.nl]), (2, .p [.nl])], 3, []⟩) [0, 1, 2, 4, 5, 7] (by kernel_rfl)) (by first | exact ⟨rfl, rfl⟩ | exact rfl)
    · rintro _ ⟨rfl, rfl⟩
      (try dsimp only at h2481)
      have hh := bnd'_some h2481; clear h2481; obtain ⟨p2456, h2457, h2481⟩ := hh
      refine W_sound tab_ok mixed 3 _ _ _ ?_
      simp -implicitDefEqProofs only [go_sem, Nat.reduceBEq, Nat.reduceAdd, Nat.reduceSub, Nat.reduceMul, Nat.reduceLT, Nat.reduceLeDiff, Int.reduceLE, Int.reduceLT, Int.reduceToNat, Int.reduceBEq, Int.reduceBNe, ↓reduceIte, h2450, h2453]
      repeat with_reducible refine And.intro (by first | kernel_rfl | decide) ?_
      refine Wp_callP (FnP_le (c47 N _ _ h2457) (.cons _ _ _ _ (.nl false) .nil) (.refl _)) (by kernel_rfl) rfl rfl rfl rfl (by decide) ?_
      have hh := getN_some h2481; clear h2481; rcases hh with ⟨h2459, h2481⟩ | ⟨n2460, c2461, h2459, h2481⟩
      · have hh := bnd'_some h2481; clear h2481; obtain ⟨p2462, h2463, h2481⟩ := hh
        refine W_sound tab_ok mixed 5 _ _ _ ?_
        simp -implicitDefEqProofs only [go_sem, Nat.reduceBEq, Nat.reduceAdd, Nat.reduceSub, Nat.reduceMul, Nat.reduceLT, Nat.reduceLeDiff, Int.reduceLE, Int.reduceLT, Int.reduceToNat, Int.reduceBEq, Int.reduceBNe, ↓reduceIte, h2450, h2453, h2459]
        repeat with_reducible refine And.intro (by first | kernel_rfl | decide) ?_
        refine Wp_callP (FnP_le (c53_2 N _ _ h2463) (.cons _ _ _ _ (.nl false) .nil) (.refl _)) (by kernel_rfl) rfl rfl rfl rfl (by decide) ?_
        have hh := getL_some h2481; clear h2481; obtain ⟨n2465, c2466, h2464, h2481⟩ := hh
        have hh := bnd'_some h2481; clear h2481; obtain ⟨p2467, h2468, h2481⟩ := hh
        refine W_sound tab_ok mixed 1 _ _ _ ?_
        simp -implicitDefEqProofs only [go_sem, Nat.reduceBEq, Nat.reduceAdd, Nat.reduceSub, Nat.reduceMul, Nat.reduceLT, Nat.reduceLeDiff, Int.reduceLE, Int.reduceLT, Int.reduceToNat, Int.reduceBEq, Int.reduceBNe, ↓reduceIte, h2450, h2453, h2459, h2464]
        repeat with_reducible refine And.intro (by first | kernel_rfl | decide) ?_
        refine Wp_callP (FnP_le (c53_2 N _ _ h2468) (.cons _ _ _ _ (.nl false) .nil) (.refl _)) (by kernel_rfl) rfl rfl rfl rfl (by decide) ?_
        have hh := getL_some h2481; clear h2481; obtain ⟨n2470, c2471, h2469, h2481⟩ := hh
        refine W_sound tab_ok mixed 5 _ _ _ ?_
        simp -implicitDefEqProofs only [go_sem, Nat.reduceBEq, Nat.reduceAdd, Nat.reduceSub, Nat.reduceMul, Nat.reduceLT, Nat.reduceLeDiff, Int.reduceLE, Int.reduceLT, Int.reduceToNat, Int.reduceBEq, Int.reduceBNe, ↓reduceIte, h2450, h2453, h2459, h2464, h2469]
        repeat with_reducible refine And.intro (by first | kernel_rfl | decide) ?_
        simp only [Option.some.injEq, Prod.mk.injEq] at h2481; obtain ⟨rfl, rfl, rfl, rfl⟩ := h2481
        exact finD (st' := ⟨[], [(0, .dead), (1, .dead), (2, .dead), (3, .dead), (4, .dead), (5, .dead), (7, .dead), (9, .dead), (10, .dead), (12, .dead), (13, .dead), (14, .dead), (15, .dead), (16, .dead), (17, .dead), (20, .dead), (21, .dead), (22, .dead), (23, .dead), (44, .dead)], [(0, .p [(.bool true)]), (1, .p [(.lst false n2465 c2466)]), (2, .p [(.lst false n2470 c2471)])], 3, []⟩) (keepE_le [] _) (OLe.refl _) (by kernel_rfl) (by simp only [go_sem, Nat.reduceBEq, Nat.reduceAdd, Nat.reduceSub, Nat.reduceMul, Nat.reduceLT, Nat.reduceLeDiff, Int.reduceLE, Int.reduceLT, Int.reduceToNat, Int.reduceBEq, Int.reduceBNe, ↓reduceIte, resQ_tmp, resQ_cell, resQ_nil, retD_one, retD_two, retD_three, retD_none]; (try simp [R.val, retD_one, retD_two, retD_three, retD_none]); try assumption)
      · have hh := grd_some h2481; clear h2481; obtain ⟨g2472, h2481⟩ := hh
        refine W_sound tab_ok mixed 5 _ _ _ ?_
        simp -implicitDefEqProofs only [go_sem, Nat.reduceBEq, Nat.reduceAdd, Nat.reduceSub, Nat.reduceMul, Nat.reduceLT, Nat.reduceLeDiff, Int.reduceLE, Int.reduceLT, Int.reduceToNat, Int.reduceBEq, Int.reduceBNe, ↓reduceIte, h2450, h2453, h2459, g2472]
        repeat with_reducible refine And.intro (by first | kernel_rfl | decide) ?_
        simp only [Option.some.injEq, Prod.mk.injEq] at h2481; obtain ⟨rfl, rfl, rfl, rfl⟩ := h2481
        exact finD (e2 := [(0, .dead), (1, .dead), (2, .dead), (3, .dead), (4, .dead), (5, .dead), (7, .dead), (9, .dead), (10, .dead), (12, .dead), (13, .dead), (14, .dead), (15, .dead), (16, .dead), (17, .dead), (20, .dead), (21, .dead), (22, .dead), (23, .dead), (44, .dead)]) (ob2 := [(0, .p [(.bool false)]), (1, .p [(.lst false 0 [])]), (2, .p [(.lst false 0 [])])]) (st' := ⟨[], [(0, .dead), (1, .dead), (2, .dead), (3, .dead), (4, .dead), (5, .dead), (7, .dead), (9, .dead), (10, .dead), (12, .dead), (13, .dead), (14, .dead), (15, .dead), (16, .dead), (17, .dead), (20, .dead), (21, .dead), (22, .dead), (23, .dead), (44, .dead)], [(0, .p [(.bool false)]), (1, .p [(.lst false 0 [])]), (2, .p [(.lst false 0 [])])], 3, []⟩) (.cons _ _ _ _ _ (.dead _) (.cons _ _ _ _ _ (.dead _) (.cons _ _ _ _ _ (.dead _) (.cons _ _ _ _ _ (.refl _) (.cons _ _ _ _ _ (.dead _) (.cons _ _ _ _ _ (.dead _) (.cons _ _ _ _ _ (.dead _) (.cons _ _ _ _ _ (.refl _) (.cons _ _ _ _ _ (.refl _) (.cons _ _ _ _ _ (.refl _) (.cons _ _ _ _ _ (.refl _) (.cons _ _ _ _ _ (.refl _) (.cons _ _ _ _ _ (.refl _) (.cons _ _ _ _ _ (.refl _) (.cons _ _ _ _ _ (.refl _) (.cons _ _ _ _ _ (.refl _) (.cons _ _ _ _ _ (.refl _) (.cons _ _ _ _ _ (.refl _) (.cons _ _ _ _ _ (.refl _) (.cons _ _ _ _ _ (.dead _) .nil)))))))))))))))))))) (.cons _ _ _ _ _ (DLes.refl _) (.cons _ (.p _) (.p _) _ _ (DLes.of_p (.cons _ _ _ _ (.nl false) .nil)) (.cons _ (.p _) (.p _) _ _ (DLes.of_p (.cons _ _ _ _ (.nl false) .nil)) .nil))) (by kernel_rfl) (by simp only [go_sem, Nat.reduceBEq, Nat.reduceAdd, Nat.reduceSub, Nat.reduceMul, Nat.reduceLT, Nat.reduceLeDiff, Int.reduceLE, Int.reduceLT, Int.reduceToNat, Int.reduceBEq, Int.reduceBNe, ↓reduceIte, resQ_tmp, resQ_cell, resQ_nil, retD_one, retD_two, retD_three, retD_none]; (try simp [R.val, retD_one, retD_two, retD_three, retD_none]); try assumption)
noncomputable def m102_L0 (N : Nat) (x2496 : Int) (n2498 : Nat) (c2499 : List PV) : Nat → Int → Option ((PV ⊕ Unit))
  | 0, _ => none
  | n + 1, x2500 =>
    brn (decide (x2500 < ((n2498 : Nat) : Int))) (
      grd (0 ≤ x2500 ∧ x2500 < ((n2498 : Nat) : Int)) <|
      grd (0 < List.length (List.drop (Int.toNat x2500) c2499)) <|
      getI .i64 (gp c2499 (Int.toNat x2500)) fun x2506 =>
      brn (x2496 == x2506) (
        some (.inl (.int .i64 x2500))) (
        m102_L0 N x2496 n2498 c2499 n (IntKind.i64.wrap (x2500 + 1)))) (
      some (.inr ()))
noncomputable def m102 (N : Nat) (p2495 : PV) (x2496 : Int) : Option (PV) :=
  getL p2495 fun n2498 c2499 =>
  bnd' (m102_L0 N x2496 n2498 c2499 N 0) fun o =>
  match o with
  | .inl p2508 =>
    some p2508
  | .inr () =>
    some (.int .i64 (-1))
theorem c102 (N : Nat) (p2495 : PV) (x2496 : Int) (r : PV)  (h : m102 N p2495 x2496 = some r) : FnP Try.prog 102 [p2495, (.int .i64 x2496)] r := by
  unfold m102 at h
  refine Fn_of (sz := 19) tab_ok [0, 1, 4, 5, 7, 8, 9, 16] [.tmp 4] Try.func102 rfl rfl rfl (by simp) ?_
  simp only [initSt, initEnv, List.map_cons, List.map_nil, List.getD_cons_zero, List.getD_cons_succ, List.getD_nil]
  have hh := getL_some h; clear h; obtain ⟨n2498, c2499, h2497, h⟩ := hh
  refine W_sound tab_ok mixed 11 _ _ _ ?_
  simp -implicitDefEqProofs only [go_sem, Nat.reduceBEq, Nat.reduceAdd, Nat.reduceSub, Nat.reduceMul, Nat.reduceLT, Nat.reduceLeDiff, Int.reduceLE, Int.reduceLT, Int.reduceToNat, Int.reduceBEq, Int.reduceBNe, ↓reduceIte, h2497]
  repeat with_reducible refine And.intro (by first | kernel_rfl | decide) ?_
  have hh := bnd'_some h; clear h; obtain ⟨o2509, h2510, h2511⟩ := hh
  refine Wp_cut (fun s => (.inr ()) = o2509 ∧ s = ⟨[], [(0, .dead), (1, .dead), (4, .dead), (5, .dead), (7, .dead), (8, .dead), (9, .dead), (16, .dead)], [], 0, []⟩) ?_ ?_
  · refine Wp_block ?_
    refine Wp_loopG (fun n s => ∃ x2500, m102_L0 N x2496 n2498 c2499 n x2500 = some o2509 ∧ s = ⟨[], [(0, .v (.lst false n2498 c2499)), (1, .v (.int .i64 x2496)), (4, .dead), (5, .dead), (7, .v (.int .i64 ((n2498 : Nat) : Int))), (8, .v (.int .i64 x2500)), (9, .dead), (16, .dead)], [], 0, []⟩) N _ (Wk_keep (st' := ⟨[], [(0, .v (.lst false n2498 c2499)), (1, .v (.int .i64 x2496)), (4, .dead), (5, .dead), (7, .v (.int .i64 ((n2498 : Nat) : Int))), (8, .v (.int .i64 0)), (9, .dead), (16, .dead)], [], 0, []⟩) [0, 1, 7, 8] (by kernel_rfl)) ⟨_, h2510, rfl⟩ ?_
    clear h2510
    rintro n _ ⟨x2500, h2510, rfl⟩
    cases n with
    | zero => cases h2510
    | succ n =>
      rw [m102_L0] at h2510
      have hh := brn_some h2510; clear h2510; rcases hh with ⟨h2501, h2510⟩ | ⟨h2501, h2510⟩
      · have hh := grd_some h2510; clear h2510; obtain ⟨⟨g2502, g2503⟩, h2510⟩ := hh
        have hh := grd_some h2510; clear h2510; obtain ⟨g2504, h2510⟩ := hh
        have hh := getI_some h2510; clear h2510; obtain ⟨x2506, h2505, h2510⟩ := hh
        have hh := brn_some h2510; clear h2510; rcases hh with ⟨h2507, h2510⟩ | ⟨h2507, h2510⟩
        · refine W_sound tab_ok mixed 31 _ _ _ ?_
          simp -implicitDefEqProofs only [go_sem, Nat.reduceBEq, Nat.reduceAdd, Nat.reduceSub, Nat.reduceMul, Nat.reduceLT, Nat.reduceLeDiff, Int.reduceLE, Int.reduceLT, Int.reduceToNat, Int.reduceBEq, Int.reduceBNe, ↓reduceIte, h2497, h2501, g2502, g2503, g2504, h2505, h2507]
          repeat with_reducible refine And.intro (by first | kernel_rfl | decide) ?_
          obtain rfl := Option.some.inj h2510
          (try dsimp only at h2511)
          obtain rfl := Option.some.inj h2511
          exact finC [(4, .v (.int .i64 x2500))] [(4, .v (.int .i64 x2500))] (by simp [leE, lk_cons]) (.cons _ _ _ _ _ (.v _ _ (.refl _)) .nil) (by rfl) (by simp [leE, lk_cons]) (by decide) (by decide) rfl (by simp only [go_sem, Nat.reduceBEq, Nat.reduceAdd, Nat.reduceSub, Nat.reduceMul, Nat.reduceLT, Nat.reduceLeDiff, Int.reduceLE, Int.reduceLT, Int.reduceToNat, Int.reduceBEq, Int.reduceBNe, ↓reduceIte, resQ_tmp, resQ_cell, resQ_nil, retD_one, retD_two, retD_three, retD_none]; (try simp [R.val, retD_one, retD_two, retD_three, retD_none]); try assumption)
        · refine W_sound tab_ok mixed 30 _ _ _ ?_
          simp -implicitDefEqProofs only [go_sem, Nat.reduceBEq, Nat.reduceAdd, Nat.reduceSub, Nat.reduceMul, Nat.reduceLT, Nat.reduceLeDiff, Int.reduceLE, Int.reduceLT, Int.reduceToNat, Int.reduceBEq, Int.reduceBNe, ↓reduceIte, h2497, h2501, g2502, g2503, g2504, h2505, h2507]
          repeat with_reducible refine And.intro (by first | kernel_rfl | decide) ?_
          refine cutQ _ ?_ ⟨n, Nat.lt_succ_self n, _, h2510, rfl⟩
          exact Wk_keep [0, 1, 7, 8] (by kernel_rfl)
      · refine W_sound tab_ok mixed 7 _ _ _ ?_
        simp -implicitDefEqProofs only [go_sem, Nat.reduceBEq, Nat.reduceAdd, Nat.reduceSub, Nat.reduceMul, Nat.reduceLT, Nat.reduceLeDiff, Int.reduceLE, Int.reduceLT, Int.reduceToNat, Int.reduceBEq, Int.reduceBNe, ↓reduceIte, h2497, h2501]
        repeat with_reducible refine And.intro (by first | kernel_rfl | decide) ?_
        obtain rfl := Option.some.inj h2510
        refine cutQ _ ?_ ⟨rfl, rfl⟩
        exact Wk_keep [] (by kernel_rfl)
  · rintro _ ⟨rfl, rfl⟩
    (try dsimp only at h2511)
    refine W_sound tab_ok mixed 6 _ _ _ ?_
    simp -implicitDefEqProofs only [go_sem, Nat.reduceBEq, Nat.reduceAdd, Nat.reduceSub, Nat.reduceMul, Nat.reduceLT, Nat.reduceLeDiff, Int.reduceLE, Int.reduceLT, Int.reduceToNat, Int.reduceBEq, Int.reduceBNe, ↓reduceIte, h2497]
    repeat with_reducible refine And.intro (by first | kernel_rfl | decide) ?_
    obtain rfl := Option.some.inj h2511
    exact finC [(4, .v (.int .i64 (-1)))] [(4, .v (.int .i64 (-1)))] (by simp [leE, lk_cons]) (.cons _ _ _ _ _ (.v _ _ (.refl _)) .nil) (by rfl) (by simp [leE, lk_cons]) (by decide) (by decide) rfl (by simp only [go_sem, Nat.reduceBEq, Nat.reduceAdd, Nat.reduceSub, Nat.reduceMul, Nat.reduceLT, Nat.reduceLeDiff, Int.reduceLE, Int.reduceLT, Int.reduceToNat, Int.reduceBEq, Int.reduceBNe, ↓reduceIte, resQ_tmp, resQ_cell, resQ_nil, retD_one, retD_two, retD_three, retD_none]; (try simp [R.val, retD_one, retD_two, retD_three, retD_none]); try assumption)
noncomputable def m90 (N : Nat) (p2490 : PV) (x2491 : Int) : Option (PV) :=
  getL p2490 fun n2493 c2494 =>
  bnd' (m102 N (.lst false n2493 c2494) x2491) fun p2512 =>
  getI .i64 p2512 fun x2515 =>
  some (.bool (decide (x2515 ≥ 0)))
theorem c90 (N : Nat) (p2490 : PV) (x2491 : Int) (r : PV)  (h : m90 N p2490 x2491 = some r) : FnP Try.prog 90 [p2490, (.int .i64 x2491)] r := by
  unfold m90 at h
  refine Fn_of (sz := 9) tab_ok [0, 1, 4] [.tmp 4] Try.func90 rfl rfl rfl (by simp) ?_
  simp only [initSt, initEnv, List.map_cons, List.map_nil, List.getD_cons_zero, List.getD_cons_succ, List.getD_nil]
  have hh := getL_some h; clear h; obtain ⟨n2493, c2494, h2492, h⟩ := hh
  have hh := bnd'_some h; clear h; obtain ⟨p2512, h2513, h⟩ := hh
  refine W_sound tab_ok mixed 8 _ _ _ ?_
  simp -implicitDefEqProofs only [go_sem, Nat.reduceBEq, Nat.reduceAdd, Nat.reduceSub, Nat.reduceMul, Nat.reduceLT, Nat.reduceLeDiff, Int.reduceLE, Int.reduceLT, Int.reduceToNat, Int.reduceBEq, Int.reduceBNe, ↓reduceIte, h2492]
  repeat with_reducible refine And.intro (by first | kernel_rfl | decide) ?_
  refine Wp_callP (c102 N _ _ _ h2513) (by kernel_rfl) rfl rfl rfl rfl (by decide) ?_
  have hh := getI_some h; clear h; obtain ⟨x2515, h2514, h⟩ := hh
  refine W_sound tab_ok mixed 5 _ _ _ ?_
  simp -implicitDefEqProofs only [go_sem, Nat.reduceBEq, Nat.reduceAdd, Nat.reduceSub, Nat.reduceMul, Nat.reduceLT, Nat.reduceLeDiff, Int.reduceLE, Int.reduceLT, Int.reduceToNat, Int.reduceBEq, Int.reduceBNe, ↓reduceIte, h2492, h2514]
  repeat with_reducible refine And.intro (by first | kernel_rfl | decide) ?_
  obtain rfl := Option.some.inj h
  exact finC [(4, .v (.bool (decide (x2515 ≥ 0))))] [(4, .v (.bool (decide (x2515 ≥ 0))))] (by simp [leE, lk_cons]) (.cons _ _ _ _ _ (.v _ _ (.refl _)) .nil) (by rfl) (by simp [leE, lk_cons]) (by decide) (by decide) rfl (by simp only [go_sem, Nat.reduceBEq, Nat.reduceAdd, Nat.reduceSub, Nat.reduceMul, Nat.reduceLT, Nat.reduceLeDiff, Int.reduceLE, Int.reduceLT, Int.reduceToNat, Int.reduceBEq, Int.reduceBNe, ↓reduceIte, resQ_tmp, resQ_cell, resQ_nil, retD_one, retD_two, retD_three, retD_none]; (try simp [R.val, retD_one, retD_two, retD_three, retD_none]); try assumption)
noncomputable def m58_3_L0 (N : Nat) (p2720 : PV) (p2721 : PV) (n2726 : Nat) (c2727 : List PV) (n2729 : Nat) (c2730 : List PV) : Nat → Int → Option (Unit)
  | 0, _ => none
  | n + 1, x2732 =>
    brn (decide (x2732 < 0)) (
      none) (
      some ())
noncomputable def m58_3 (N : Nat) (p2717 : PV) (p2718 : PV) (b2719 : Bool) (p2720 : PV) (p2721 : PV) : Option ((PV × Bool × PV × PV)) :=
  getL p2717 fun n2726 c2727 =>
  getL p2718 fun n2729 c2730 =>
  brn b2719 (
    some ((.tup []), true, p2720, p2721)) (
    bnd' (m58_3_L0 N p2720 p2721 n2726 c2727 n2729 c2730 N 0) fun _ =>
    bnd' (m47 N (.lst false 0 [])) fun p2734 =>
    getN p2734 (
      bnd' (m53_2 N (.lst false 0 [])) fun p2740 =>
      getL p2740 fun n2743 c2744 =>
      bnd' (m53_2 N (.lst false n2726 c2727)) fun p2745 =>
      getL p2745 fun n2748 c2749 =>
      some ((.tup []), true, (.lst false n2743 c2744), (.lst false n2748 c2749))) fun n2738 c2739 =>
    grd (0 < n2738) <|
    some ((.tup []), false, p2720, p2721))
theorem c58_3 (N : Nat) (p2717 : PV) (p2718 : PV) (b2719 : Bool) (p2720 : PV) (p2721 : PV) (r : PV) (b2754 : Bool) (p2755 : PV) (p2756 : PV) (h : m58_3 N p2717 p2718 b2719 p2720 p2721 = some (r, b2754, p2755, p2756)) : V.Fn Try.prog 58 3 [.v p2717, .ptr 0 0, .v (.ipt [.nl]), .v (.ipt [p2718]), .ptr 1 0, .ptr 2 0] [(0, .p [(.bool b2719)]), (1, .p [p2720]), (2, .p [p2721])] (fun d ob' => d = .v r ∧ ob' = [(0, .p [(.bool b2754)]), (1, .p [p2755]), (2, .p [p2756])]) := by
  unfold m58_3 at h
  refine Fn_of (sz := 49) tab_ok [0, 1, 2, 3, 4, 5, 7, 9, 10, 12, 13, 14, 15, 16, 17, 20, 21, 22, 23, 44] [] Try.func58 rfl rfl rfl (by simp) ?_
  simp only [initSt, initEnv, List.map_cons, List.map_nil, List.getD_cons_zero, List.getD_cons_succ, List.getD_nil]
  have hh := getL_some h; clear h; obtain ⟨n2726, c2727, h2725, h⟩ := hh
  have hh := getL_some h; clear h; obtain ⟨n2729, c2730, h2728, h⟩ := hh
  have hh := brn_some h; clear h; rcases hh with ⟨h2731, h⟩ | ⟨h2731, h⟩
  · refine W_sound tab_ok mixed 8 _ _ _ ?_
    simp -implicitDefEqProofs only [go_sem, Nat.reduceBEq, Nat.reduceAdd, Nat.reduceSub, Nat.reduceMul, Nat.reduceLT, Nat.reduceLeDiff, Int.reduceLE, Int.reduceLT, Int.reduceToNat, Int.reduceBEq, Int.reduceBNe, ↓reduceIte, h2725, h2728, h2731]
    repeat with_reducible refine And.intro (by first | kernel_rfl | decide) ?_
    simp only [Option.some.injEq, Prod.mk.injEq] at h; obtain ⟨rfl, rfl, rfl, rfl⟩ := h
    exact finD (st' := ⟨[], [(0, .dead), (1, .dead), (2, .dead), (3, .dead), (4, .dead), (5, .dead), (7, .dead), (9, .dead), (10, .dead), (12, .dead), (13, .dead), (14, .dead), (15, .dead), (16, .dead), (17, .dead), (20, .dead), (21, .dead), (22, .dead), (23, .dead), (44, .dead)], [(0, .p [(.bool true)]), (1, .p [p2720]), (2, .p [p2721])], 3, []⟩) (keepE_le [] _) (OLe.refl _) (by kernel_rfl) (by simp only [go_sem, Nat.reduceBEq, Nat.reduceAdd, Nat.reduceSub, Nat.reduceMul, Nat.reduceLT, Nat.reduceLeDiff, Int.reduceLE, Int.reduceLT, Int.reduceToNat, Int.reduceBEq, Int.reduceBNe, ↓reduceIte, resQ_tmp, resQ_cell, resQ_nil, retD_one, retD_two, retD_three, retD_none]; (try simp [R.val, retD_one, retD_two, retD_three, retD_none]); try assumption)
  · refine W_sound tab_ok mixed 18 _ _ _ ?_
    simp -implicitDefEqProofs only [go_sem, Nat.reduceBEq, Nat.reduceAdd, Nat.reduceSub, Nat.reduceMul, Nat.reduceLT, Nat.reduceLeDiff, Int.reduceLE, Int.reduceLT, Int.reduceToNat, Int.reduceBEq, Int.reduceBNe, ↓reduceIte, h2725, h2728, h2731]
    repeat with_reducible refine And.intro (by first | kernel_rfl | decide) ?_
    have hh := bnd'_some h; clear h; obtain ⟨o2757, h2758, h2759⟩ := hh
    refine Wp_cut (fun s => () = o2757 ∧ s = ⟨[], [(0, .v (.lst false n2726 c2727)), (1, .ptr 0 0), (2, .v (.ipt [.nl])), (3, .dead), (4, .ptr 1 0), (5, .ptr 2 0), (7, .v .nl), (9, .dead), (10, .dead), (12, .dead), (13, .dead), (14, .dead), (15, .dead), (16, .dead), (17, .dead), (20, .dead), (21, .dead), (22, .dead), (23, .dead), (44, .dead)], [(0, .p [(.bool false)]), (1, .p [p2720]), (2, .p [p2721])], 3, []⟩) ?_ ?_
    · refine Wp_block ?_
      refine Wp_loopG (fun n s => ∃ x2732, m58_3_L0 N p2720 p2721 n2726 c2727 n2729 c2730 n x2732 = some o2757 ∧ s = ⟨[], [(0, .v (.lst false n2726 c2727)), (1, .ptr 0 0), (2, .v (.ipt [.nl])), (3, .v (.ipt [(.lst false n2729 c2730)])), (4, .ptr 1 0), (5, .ptr 2 0), (7, .v .nl), (9, .dead), (10, .dead), (12, .dead), (13, .dead), (14, .v .nl), (15, .v (.int .i64 0)), (16, .v (.int .i64 x2732)), (17, .dead), (20, .dead), (21, .dead), (22, .dead), (23, .dead), (44, .dead)], [(0, .p [(.bool false)]), (1, .p [p2720]), (2, .p [p2721])], 3, []⟩) N _ (Wk_keep (st' := ⟨[], [(0, .v (.lst false n2726 c2727)), (1, .ptr 0 0), (2, .v (.ipt [.nl])), (3, .v (.ipt [(.lst false n2729 c2730)])), (4, .ptr 1 0), (5, .ptr 2 0), (7, .v .nl), (9, .dead), (10, .dead), (12, .dead), (13, .dead), (14, .v .nl), (15, .v (.int .i64 0)), (16, .v (.int .i64 0)), (17, .dead), (20, .dead), (21, .dead), (22, .dead), (23, .dead), (44, .dead)], [(0, .p [(.bool false)]), (1, .p [p2720]), (2, .p [p2721])], 3, []⟩) [0, 1, 2, 3, 4, 5, 7, 14, 15, 16] (by kernel_rfl)) ⟨_, h2758, rfl⟩ ?_
      clear h2758
      rintro n _ ⟨x2732, h2758, rfl⟩
      cases n with
      | zero => cases h2758
      | succ n =>
        rw [m58_3_L0] at h2758
        have hh := brn_some h2758; clear h2758; rcases hh with ⟨h2733, h2758⟩ | ⟨h2733, h2758⟩
        · cases h2758
        · refine W_sound tab_ok mixed 7 _ _ _ ?_
          simp -implicitDefEqProofs only [go_sem, Nat.reduceBEq, Nat.reduceAdd, Nat.reduceSub, Nat.reduceMul, Nat.reduceLT, Nat.reduceLeDiff, Int.reduceLE, Int.reduceLT, Int.reduceToNat, Int.reduceBEq, Int.reduceBNe, ↓reduceIte, h2725, h2728, h2731, h2733]
          repeat with_reducible refine And.intro (by first | kernel_rfl | decide) ?_
          obtain rfl := Option.some.inj h2758
          exact cutQ _ (Wk_keep (st' := ⟨[], [(0, .v (.lst false n2726 c2727)), (1, .ptr 0 0), (2, .v (.ipt [.nl])), (3, .dead), (4, .ptr 1 0), (5, .ptr 2 0), (7, .v .nl), (9, .dead), (10, .dead), (12, .dead), (13, .dead), (14, .dead), (15, .dead), (16, .dead), (17, .dead), (20, .dead), (21, .dead), (22, .dead), (23, .dead), (44, .dead)], [(0, .p [(.bool false)]), (1, .p [p2720]), (2, .p [p2721])], 3, []⟩) [0, 1, 2, 4, 5, 7] (by kernel_rfl)) (by first | exact ⟨rfl, rfl⟩ | exact rfl)
    · rintro _ ⟨rfl, rfl⟩
      (try dsimp only at h2759)
      have hh := bnd'_some h2759; clear h2759; obtain ⟨p2734, h2735, h2759⟩ := hh
      refine W_sound tab_ok mixed 3 _ _ _ ?_
      simp -implicitDefEqProofs only [go_sem, Nat.reduceBEq, Nat.reduceAdd, Nat.reduceSub, Nat.reduceMul, Nat.reduceLT, Nat.reduceLeDiff, Int.reduceLE, Int.reduceLT, Int.reduceToNat, Int.reduceBEq, Int.reduceBNe, ↓reduceIte, h2725, h2728, h2731]
      repeat with_reducible refine And.intro (by first | kernel_rfl | decide) ?_
      refine Wp_callP (FnP_le (c47 N _ _ h2735) (.cons _ _ _ _ (.nl false) .nil) (.refl _)) (by kernel_rfl) rfl rfl rfl rfl (by decide) ?_
      have hh := getN_some h2759; clear h2759; rcases hh with ⟨h2737, h2759⟩ | ⟨n2738, c2739, h2737, h2759⟩
      · have hh := bnd'_some h2759; clear h2759; obtain ⟨p2740, h2741, h2759⟩ := hh
        refine W_sound tab_ok mixed 5 _ _ _ ?_
        simp -implicitDefEqProofs only [go_sem, Nat.reduceBEq, Nat.reduceAdd, Nat.reduceSub, Nat.reduceMul, Nat.reduceLT, Nat.reduceLeDiff, Int.reduceLE, Int.reduceLT, Int.reduceToNat, Int.reduceBEq, Int.reduceBNe, ↓reduceIte, h2725, h2728, h2731, h2737]
        repeat with_reducible refine And.intro (by first | kernel_rfl | decide) ?_
        refine Wp_callP (FnP_le (c53_2 N _ _ h2741) (.cons _ _ _ _ (.nl false) .nil) (.refl _)) (by kernel_rfl) rfl rfl rfl rfl (by decide) ?_
        have hh := getL_some h2759; clear h2759; obtain ⟨n2743, c2744, h2742, h2759⟩ := hh
        have hh := bnd'_some h2759; clear h2759; obtain ⟨p2745, h2746, h2759⟩ := hh
        refine W_sound tab_ok mixed 1 _ _ _ ?_
        simp -implicitDefEqProofs only [go_sem, Nat.reduceBEq, Nat.reduceAdd, Nat.reduceSub, Nat.reduceMul, Nat.reduceLT, Nat.reduceLeDiff, Int.reduceLE, Int.reduceLT, Int.reduceToNat, Int.reduceBEq, Int.reduceBNe, ↓reduceIte, h2725, h2728, h2731, h2737, h2742]
        repeat with_reducible refine And.intro (by first | kernel_rfl | decide) ?_
        refine Wp_callP (c53_2 N _ _ h2746) (by kernel_rfl) rfl rfl rfl rfl (by decide) ?_
        have hh := getL_some h2759; clear h2759; obtain ⟨n2748, c2749, h2747, h2759⟩ := hh
        refine W_sound tab_ok mixed 5 _ _ _ ?_
        simp -implicitDefEqProofs only [go_sem, Nat.reduceBEq, Nat.reduceAdd, Nat.reduceSub, Nat.reduceMul, Nat.reduceLT, Nat.reduceLeDiff, Int.reduceLE, Int.reduceLT, Int.reduceToNat, Int.reduceBEq, Int.reduceBNe, ↓reduceIte, h2725, h2728, h2731, h2737, h2742, h2747]
        repeat with_reducible refine And.intro (by first | kernel_rfl | decide) ?_
        simp only [Option.some.injEq, Prod.mk.injEq] at h2759; obtain ⟨rfl, rfl, rfl, rfl⟩ := h2759
        exact finD (st' := ⟨[], [(0, .dead), (1, .dead), (2, .dead), (3, .dead), (4, .dead), (5, .dead), (7, .dead), (9, .dead), (10, .dead), (12, .dead), (13, .dead), (14, .dead), (15, .dead), (16, .dead), (17, .dead), (20, .dead), (21, .dead), (22, .dead), (23, .dead), (44, .dead)], [(0, .p [(.bool true)]), (1, .p [(.lst false n2743 c2744)]), (2, .p [(.lst false n2748 c2749)])], 3, []⟩) (keepE_le [] _) (OLe.refl _) (by kernel_rfl) (by simp only [go_sem, Nat.reduceBEq, Nat.reduceAdd, Nat.reduceSub, Nat.reduceMul, Nat.reduceLT, Nat.reduceLeDiff, Int.reduceLE, Int.reduceLT, Int.reduceToNat, Int.reduceBEq, Int.reduceBNe, ↓reduceIte, resQ_tmp, resQ_cell, resQ_nil, retD_one, retD_two, retD_three, retD_none]; (try simp [R.val, retD_one, retD_two, retD_three, retD_none]); try assumption)
      · have hh := grd_some h2759; clear h2759; obtain ⟨g2750, h2759⟩ := hh
        refine W_sound tab_ok mixed 5 _ _ _ ?_
        simp -implicitDefEqProofs only [go_sem, Nat.reduceBEq, Nat.reduceAdd, Nat.reduceSub, Nat.reduceMul, Nat.reduceLT, Nat.reduceLeDiff, Int.reduceLE, Int.reduceLT, Int.reduceToNat, Int.reduceBEq, Int.reduceBNe, ↓reduceIte, h2725, h2728, h2731, h2737, g2750]
        repeat with_reducible refine And.intro (by first | kernel_rfl | decide) ?_
        simp only [Option.some.injEq, Prod.mk.injEq] at h2759; obtain ⟨rfl, rfl, rfl, rfl⟩ := h2759
        exact finD (st' := ⟨[], [(0, .dead), (1, .dead), (2, .dead), (3, .dead), (4, .dead), (5, .dead), (7, .dead), (9, .dead), (10, .dead), (12, .dead), (13, .dead), (14, .dead), (15, .dead), (16, .dead), (17, .dead), (20, .dead), (21, .dead), (22, .dead), (23, .dead), (44, .dead)], [(0, .p [(.bool false)]), (1, .p [p2720]), (2, .p [p2721])], 3, []⟩) (keepE_le [] _) (OLe.refl _) (by kernel_rfl) (by simp only [go_sem, Nat.reduceBEq, Nat.reduceAdd, Nat.reduceSub, Nat.reduceMul, Nat.reduceLT, Nat.reduceLeDiff, Int.reduceLE, Int.reduceLT, Int.reduceToNat, Int.reduceBEq, Int.reduceBNe, ↓reduceIte, resQ_tmp, resQ_cell, resQ_nil, retD_one, retD_two, retD_three, retD_none]; (try simp [R.val, retD_one, retD_two, retD_three, retD_none]); try assumption)
noncomputable def m89_4_L0 (N : Nat) (rec : PV → Int → PV → Bool → PV → PV → Option ((PV × Bool × PV × PV))) (x2784 : Int) (p2785 : PV) (n2793 : Nat) (c2794 : List PV) : Nat → Int → Bool → PV → PV → Option ((Bool × PV × PV))
  | 0, _, _, _, _ => none
  | n + 1, x2819, b2820, p2821, p2822 =>
    brn (decide (x2819 < x2784)) (
      bnd' (m90 N (.lst false n2793 c2794) x2819) fun p2824 =>
      getB p2824 fun b2827 =>
      brn b2827 (
        m89_4_L0 N rec x2784 p2785 n2793 c2794 n (IntKind.i64.wrap (x2819 + 1)) b2820 p2821 p2822) (
        grd (0 ≤ ((n2793 : Nat) : Int) ∧ ((n2793 : Nat) : Int) ≤ ((n2793 : Nat) : Int)) <|
        grd (List.length c2794 = n2793) <|
        grd ((n2793 + 1) ≤ 1099511627776) <|
        bnd' (rec (.lst false (n2793 + 1) (c2794 ++ [(.int .i64 x2819)])) x2784 p2785 b2820 p2821 p2822) fun (p2833, b2835, p2836, p2837) =>
        getT0 p2833 <|
        m89_4_L0 N rec x2784 p2785 n2793 c2794 n (IntKind.i64.wrap (x2819 + 1)) b2835 p2836 p2837)) (
      some (b2820, p2821, p2822))
noncomputable def m89_4 (N : Nat) : Nat → PV → Int → PV → Bool → PV → PV → Option ((PV × Bool × PV × PV))
  | 0, _, _, _, _, _, _ => none
  | fu + 1, p2783, x2784, p2785, b2786, p2787, p2788 =>
    getL p2783 fun n2793 c2794 =>
    brn (((n2793 : Nat) : Int) == x2784) (
      bnd' (m58_3 N (.lst false n2793 c2794) p2785 b2786 p2787 p2788) fun (p2796, b2798, p2799, p2800) =>
      getT0 p2796 <|
      some ((.tup []), b2798, p2799, p2800)) (
      bnd' (m89_4_L0 N (m89_4 N fu) x2784 p2785 n2793 c2794 N 0 b2786 p2787 p2788) fun o =>
      match o with
      | (b2839, p2840, p2841) =>
        some ((.tup []), b2839, p2840, p2841))
theorem c89_4 (N : Nat) : ∀ (fu : Nat) (p2783 : PV) (x2784 : Int) (p2785 : PV) (b2786 : Bool) (p2787 : PV) (p2788 : PV) (r : PV) (b2845 : Bool) (p2846 : PV) (p2847 : PV) (h : m89_4 N fu p2783 x2784 p2785 b2786 p2787 p2788 = some (r, b2845, p2846, p2847)), V.Fn Try.prog 89 6 [.v p2783, .ptr 0 0, .ptr 1 0, .ptr 5 0] [(0, .p [(.int .i64 x2784)]), (1, .r [.fn 58 [.ptr 2 0, .v (.ipt [.nl]), .v (.ipt [p2785]), .ptr 3 0, .ptr 4 0]]), (2, .p [(.bool b2786)]), (3, .p [p2787]), (4, .p [p2788]), (5, .r [.fn 89 [.ptr 0 0, .ptr 1 0, .ptr 5 0]])] (fun d ob' => d = .v r ∧ ob' = [(0, .p [(.int .i64 x2784)]), (1, .r [.fn 58 [.ptr 2 0, .v (.ipt [.nl]), .v (.ipt [p2785]), .ptr 3 0, .ptr 4 0]]), (2, .p [(.bool b2845)]), (3, .p [p2846]), (4, .p [p2847]), (5, .r [.fn 89 [.ptr 0 0, .ptr 1 0, .ptr 5 0]])]) := by
  intro fu
  induction fu with
  | zero => intro p2783 x2784 p2785 b2786 p2787 p2788 r b2845 p2846 p2847 h; cases h
  | succ fu ih =>
    intro p2783 x2784 p2785 b2786 p2787 p2788 r b2845 p2846 p2847 h
    rw [m89_4] at h
    refine Fn_of (sz := 33) tab_ok [0, 1, 2, 3, 5, 9, 13, 14, 15, 20] [] Try.func89 rfl rfl rfl (by simp) ?_
    simp only [initSt, initEnv, List.map_cons, List.map_nil, List.getD_cons_zero, List.getD_cons_succ, List.getD_nil]
    have hh := getL_some h; clear h; obtain ⟨n2793, c2794, h2792, h⟩ := hh
    have hh := brn_some h; clear h; rcases hh with ⟨h2795, h⟩ | ⟨h2795, h⟩
    · have hh := bnd'_some h; clear h; obtain ⟨⟨p2796, b2798, p2799, p2800⟩, h2797, h⟩ := hh
      (try dsimp only at h)
      refine W_sound tab_ok mixed 13 _ _ _ ?_
      simp -implicitDefEqProofs only [go_sem, Nat.reduceBEq, Nat.reduceAdd, Nat.reduceSub, Nat.reduceMul, Nat.reduceLT, Nat.reduceLeDiff, Int.reduceLE, Int.reduceLT, Int.reduceToNat, Int.reduceBEq, Int.reduceBNe, ↓reduceIte, h2792, h2795]
      repeat with_reducible refine And.intro (by first | kernel_rfl | decide) ?_
      refine Wp_callD [2, 3, 4] (c58_3 N _ _ _ _ _ _ _ _ _ h2797) rfl rfl rfl (by first | rfl | (simp only [go_sem, Nat.reduceBEq, Nat.reduceAdd, Nat.reduceSub, Nat.reduceMul, Nat.reduceLT, Nat.reduceLeDiff, Int.reduceLE, Int.reduceLT, Int.reduceToNat, Int.reduceBEq, Int.reduceBNe, ↓reduceIte, h2792, h2795] <;> rfl)) rfl (by kernel_rfl) ?_
      have hh := getT0_some h; clear h; obtain ⟨h2801, h⟩ := hh
      refine W_sound tab_ok mixed 3 _ _ _ ?_
      simp -implicitDefEqProofs only [go_sem, Nat.reduceBEq, Nat.reduceAdd, Nat.reduceSub, Nat.reduceMul, Nat.reduceLT, Nat.reduceLeDiff, Int.reduceLE, Int.reduceLT, Int.reduceToNat, Int.reduceBEq, Int.reduceBNe, ↓reduceIte, h2792, h2795, h2801]
      repeat with_reducible refine And.intro (by first | kernel_rfl | decide) ?_
      simp only [Option.some.injEq, Prod.mk.injEq] at h; obtain ⟨rfl, rfl, rfl, rfl⟩ := h
      exact finD (st' := ⟨[], [(0, .dead), (1, .dead), (2, .dead), (3, .dead), (5, .dead), (9, .dead), (13, .dead), (14, .dead), (15, .dead), (20, .dead)], [(0, .p [(.int .i64 x2784)]), (1, .r [.fn 58 [.ptr 2 0, .v (.ipt [.nl]), .v (.ipt [p2785]), .ptr 3 0, .ptr 4 0]]), (2, .p [(.bool b2798)]), (3, .p [p2799]), (4, .p [p2800]), (5, .r [.fn 89 [.ptr 0 0, .ptr 1 0, .ptr 5 0]])], 6, []⟩) (keepE_le [] _) (OLe.refl _) (by kernel_rfl) (by simp only [go_sem, Nat.reduceBEq, Nat.reduceAdd, Nat.reduceSub, Nat.reduceMul, Nat.reduceLT, Nat.reduceLeDiff, Int.reduceLE, Int.reduceLT, Int.reduceToNat, Int.reduceBEq, Int.reduceBNe, ↓reduceIte, resQ_tmp, resQ_cell, resQ_nil, retD_one, retD_two, retD_three, retD_none]; (try simp [R.val, retD_one, retD_two, retD_three, retD_none]); try assumption)
    · refine W_sound tab_ok mixed 15 _ _ _ ?_
      simp -implicitDefEqProofs only [go_sem, Nat.reduceBEq, Nat.reduceAdd, Nat.reduceSub, Nat.reduceMul, Nat.reduceLT, Nat.reduceLeDiff, Int.reduceLE, Int.reduceLT, Int.reduceToNat, Int.reduceBEq, Int.reduceBNe, ↓reduceIte, h2792, h2795]
      repeat with_reducible refine And.intro (by first | kernel_rfl | decide) ?_
      have hh := bnd'_some h; clear h; obtain ⟨o2848, h2849, h2850⟩ := hh
      refine Wp_cut (fun s => ∃ b2839, ∃ p2840, ∃ p2841, (b2839, p2840, p2841) = o2848 ∧ s = ⟨[], [(0, .dead), (1, .dead), (2, .dead), (3, .dead), (5, .dead), (9, .dead), (13, .dead), (14, .dead), (15, .dead), (20, .dead)], [(0, .p [(.int .i64 x2784)]), (1, .r [.fn 58 [.ptr 2 0, .v (.ipt [.nl]), .v (.ipt [p2785]), .ptr 3 0, .ptr 4 0]]), (2, .p [(.bool b2839)]), (3, .p [p2840]), (4, .p [p2841]), (5, .r [.fn 89 [.ptr 0 0, .ptr 1 0, .ptr 5 0]])], 6, []⟩) ?_ ?_
      · refine Wp_block ?_
        refine Wp_loopG (fun n s => ∃ x2819, ∃ b2820, ∃ p2821, ∃ p2822, m89_4_L0 N (m89_4 N fu) x2784 p2785 n2793 c2794 n x2819 b2820 p2821 p2822 = some o2848 ∧ s = ⟨[], [(0, .v (.lst false n2793 c2794)), (1, .dead), (2, .dead), (3, .ptr 5 0), (5, .dead), (9, .dead), (13, .v (.int .i64 x2784)), (14, .v (.int .i64 x2819)), (15, .dead), (20, .dead)], [(0, .p [(.int .i64 x2784)]), (1, .r [.fn 58 [.ptr 2 0, .v (.ipt [.nl]), .v (.ipt [p2785]), .ptr 3 0, .ptr 4 0]]), (2, .p [(.bool b2820)]), (3, .p [p2821]), (4, .p [p2822]), (5, .r [.fn 89 [.ptr 0 0, .ptr 1 0, .ptr 5 0]])], 6, []⟩) N _ (Wk_keep (st' := ⟨[], [(0, .v (.lst false n2793 c2794)), (1, .dead), (2, .dead), (3, .ptr 5 0), (5, .dead), (9, .dead), (13, .v (.int .i64 x2784)), (14, .v (.int .i64 0)), (15, .dead), (20, .dead)], [(0, .p [(.int .i64 x2784)]), (1, .r [.fn 58 [.ptr 2 0, .v (.ipt [.nl]), .v (.ipt [p2785]), .ptr 3 0, .ptr 4 0]]), (2, .p [(.bool b2786)]), (3, .p [p2787]), (4, .p [p2788]), (5, .r [.fn 89 [.ptr 0 0, .ptr 1 0, .ptr 5 0]])], 6, []⟩) [0, 3, 13, 14] (by kernel_rfl)) ⟨_, _, _, _, h2849, rfl⟩ ?_
        clear h2849
        rintro n _ ⟨x2819, b2820, p2821, p2822, h2849, rfl⟩
        cases n with
        | zero => cases h2849
        | succ n =>
          rw [m89_4_L0] at h2849
          have hh := brn_some h2849; clear h2849; rcases hh with ⟨h2823, h2849⟩ | ⟨h2823, h2849⟩
          · have hh := bnd'_some h2849; clear h2849; obtain ⟨p2824, h2825, h2849⟩ := hh
            refine W_sound tab_ok mixed 18 _ _ _ ?_
            simp -implicitDefEqProofs only [go_sem, Nat.reduceBEq, Nat.reduceAdd, Nat.reduceSub, Nat.reduceMul, Nat.reduceLT, Nat.reduceLeDiff, Int.reduceLE, Int.reduceLT, Int.reduceToNat, Int.reduceBEq, Int.reduceBNe, ↓reduceIte, h2792, h2795, h2823]
            repeat with_reducible refine And.intro (by first | kernel_rfl | decide) ?_
            refine Wp_callP (c90 N _ _ _ h2825) (by kernel_rfl) rfl rfl rfl rfl (by decide) ?_
            have hh := getB_some h2849; clear h2849; obtain ⟨b2827, h2826, h2849⟩ := hh
            have hh := brn_some h2849; clear h2849; rcases hh with ⟨h2828, h2849⟩ | ⟨h2828, h2849⟩
            · refine W_sound tab_ok mixed 9 _ _ _ ?_
              simp -implicitDefEqProofs only [go_sem, Nat.reduceBEq, Nat.reduceAdd, Nat.reduceSub, Nat.reduceMul, Nat.reduceLT, Nat.reduceLeDiff, Int.reduceLE, Int.reduceLT, Int.reduceToNat, Int.reduceBEq, Int.reduceBNe, ↓reduceIte, h2792, h2795, h2823, h2826, h2828]
              repeat with_reducible refine And.intro (by first | kernel_rfl | decide) ?_
              refine cutQ _ ?_ ⟨n, Nat.lt_succ_self n, _, _, _, _, h2849, rfl⟩
              exact Wk_keep [0, 3, 13, 14] (by kernel_rfl)
            · have hh := grd_some h2849; clear h2849; obtain ⟨⟨g2829, g2830⟩, h2849⟩ := hh
              have hh := grd_some h2849; clear h2849; obtain ⟨g2831, h2849⟩ := hh
              have hh := grd_some h2849; clear h2849; obtain ⟨g2832, h2849⟩ := hh
              have hh := bnd'_some h2849; clear h2849; obtain ⟨⟨p2833, b2835, p2836, p2837⟩, h2834, h2849⟩ := hh
              (try dsimp only at h2849)
              refine W_sound tab_ok mixed 14 _ _ _ ?_
              simp -implicitDefEqProofs only [go_sem, Nat.reduceBEq, Nat.reduceAdd, Nat.reduceSub, Nat.reduceMul, Nat.reduceLT, Nat.reduceLeDiff, Int.reduceLE, Int.reduceLT, Int.reduceToNat, Int.reduceBEq, Int.reduceBNe, ↓reduceIte, h2792, h2795, h2823, h2826, h2828, g2829, g2830, g2831, g2832]
              repeat with_reducible refine And.intro (by first | kernel_rfl | decide) ?_
              refine Wp_callDF [(36, (c2794 ++ [(.int .i64 x2819)]))] [0, 1, 2, 3, 4, 5] (ih _ _ _ _ _ _ _ _ _ _ h2834) rfl rfl rfl (by first | rfl | (simp only [go_sem, Nat.reduceBEq, Nat.reduceAdd, Nat.reduceSub, Nat.reduceMul, Nat.reduceLT, Nat.reduceLeDiff, Int.reduceLE, Int.reduceLT, Int.reduceToNat, Int.reduceBEq, Int.reduceBNe, ↓reduceIte, h2792, h2795, h2823, h2826, h2828, g2829, g2830, g2831, g2832] <;> rfl)) rfl (by kernel_rfl) rfl rfl (by simp [roF, obL]) ?_
              have hh := getT0_some h2849; clear h2849; obtain ⟨h2838, h2849⟩ := hh
              refine W_sound tab_ok mixed 6 _ _ _ ?_
              simp -implicitDefEqProofs only [go_sem, Nat.reduceBEq, Nat.reduceAdd, Nat.reduceSub, Nat.reduceMul, Nat.reduceLT, Nat.reduceLeDiff, Int.reduceLE, Int.reduceLT, Int.reduceToNat, Int.reduceBEq, Int.reduceBNe, ↓reduceIte, h2792, h2795, h2823, h2826, h2828, g2829, g2830, g2831, g2832, h2838]
              repeat with_reducible refine And.intro (by first | kernel_rfl | decide) ?_
              refine cutQ _ ?_ ⟨n, Nat.lt_succ_self n, _, _, _, _, h2849, rfl⟩
              exact Wk_keep [0, 3, 13, 14] (by kernel_rfl)
          · refine W_sound tab_ok mixed 7 _ _ _ ?_
            simp -implicitDefEqProofs only [go_sem, Nat.reduceBEq, Nat.reduceAdd, Nat.reduceSub, Nat.reduceMul, Nat.reduceLT, Nat.reduceLeDiff, Int.reduceLE, Int.reduceLT, Int.reduceToNat, Int.reduceBEq, Int.reduceBNe, ↓reduceIte, h2792, h2795, h2823]
            repeat with_reducible refine And.intro (by first | kernel_rfl | decide) ?_
            obtain rfl := Option.some.inj h2849
            refine cutQ _ ?_ ⟨_, _, _, rfl, rfl⟩
            exact Wk_keep [] (by kernel_rfl)
      · rintro _ ⟨b2839, p2840, p2841, rfl, rfl⟩
        (try dsimp only at h2850)
        refine W_sound tab_ok mixed 1 _ _ _ ?_
        simp -implicitDefEqProofs only [go_sem, Nat.reduceBEq, Nat.reduceAdd, Nat.reduceSub, Nat.reduceMul, Nat.reduceLT, Nat.reduceLeDiff, Int.reduceLE, Int.reduceLT, Int.reduceToNat, Int.reduceBEq, Int.reduceBNe, ↓reduceIte, h2792, h2795]
        repeat with_reducible refine And.intro (by first | kernel_rfl | decide) ?_
        simp only [Option.some.injEq, Prod.mk.injEq] at h2850; obtain ⟨rfl, rfl, rfl, rfl⟩ := h2850
        exact finD (st' := ⟨[], [(0, .dead), (1, .dead), (2, .dead), (3, .dead), (5, .dead), (9, .dead), (13, .dead), (14, .dead), (15, .dead), (20, .dead)], [(0, .p [(.int .i64 x2784)]), (1, .r [.fn 58 [.ptr 2 0, .v (.ipt [.nl]), .v (.ipt [p2785]), .ptr 3 0, .ptr 4 0]]), (2, .p [(.bool b2839)]), (3, .p [p2840]), (4, .p [p2841]), (5, .r [.fn 89 [.ptr 0 0, .ptr 1 0, .ptr 5 0]])], 6, []⟩) (keepE_le [] _) (OLe.refl _) (by kernel_rfl) (by simp only [go_sem, Nat.reduceBEq, Nat.reduceAdd, Nat.reduceSub, Nat.reduceMul, Nat.reduceLT, Nat.reduceLeDiff, Int.reduceLE, Int.reduceLT, Int.reduceToNat, Int.reduceBEq, Int.reduceBNe, ↓reduceIte, resQ_tmp, resQ_cell, resQ_nil, retD_one, retD_two, retD_three, retD_none]; (try simp [R.val, retD_one, retD_two, retD_three, retD_none]); try assumption)
noncomputable def m89_2_L0 (N : Nat) (x2897 : Int) (p2898 : PV) : Nat → Int → Bool → PV → PV → Option ((Bool × PV × PV))
  | 0, _, _, _, _ => none
  | n + 1, x2923, b2924, p2925, p2926 =>
    brn (decide (x2923 < x2897)) (
      bnd' (m90 N (.lst false 0 []) x2923) fun p2928 =>
      getB p2928 fun b2931 =>
      brn b2931 (
        m89_2_L0 N x2897 p2898 n (IntKind.i64.wrap (x2923 + 1)) b2924 p2925 p2926) (
        bnd' (m89_4 N N (.lst false 1 [(.int .i64 x2923)]) x2897 p2898 b2924 p2925 p2926) fun (p2933, b2935, p2936, p2937) =>
        getT0 p2933 <|
        m89_2_L0 N x2897 p2898 n (IntKind.i64.wrap (x2923 + 1)) b2935 p2936 p2937)) (
      some (b2924, p2925, p2926))
noncomputable def m89_2 (N : Nat) (x2897 : Int) (p2898 : PV) (b2899 : Bool) : Option ((PV × Bool × PV × PV)) :=
  brn (0 == x2897) (
    bnd' (m58 N p2898 b2899) fun (p2904, b2906, p2907, p2908) =>
    getT0 p2904 <|
    some ((.tup []), b2906, p2907, p2908)) (
    bnd' (m89_2_L0 N x2897 p2898 N 0 b2899 (.lst false 0 []) (.lst false 0 [])) fun o =>
    match o with
    | (b2939, p2940, p2941) =>
      some ((.tup []), b2939, p2940, p2941))
theorem c89_2 (N : Nat) (x2897 : Int) (p2898 : PV) (b2899 : Bool) (r : PV) (b2945 : Bool) (p2946 : PV) (p2947 : PV) (h : m89_2 N x2897 p2898 b2899 = some (r, b2945, p2946, p2947)) : V.Fn Try.prog 89 6 [.v .nl, .ptr 0 0, .ptr 1 0, .ptr 5 0] [(0, .p [(.int .i64 x2897)]), (1, .r [.fn 58 [.ptr 2 0, .v (.ipt [.nl]), .v (.ipt [p2898]), .ptr 3 0, .ptr 4 0]]), (2, .p [(.bool b2899)]), (3, .p [.nl]), (4, .p [.nl]), (5, .r [.fn 89 [.ptr 0 0, .ptr 1 0, .ptr 5 0]])] (fun d ob' => d = .v r ∧ ob' = [(0, .p [(.int .i64 x2897)]), (1, .r [.fn 58 [.ptr 2 0, .v (.ipt [.nl]), .v (.ipt [p2898]), .ptr 3 0, .ptr 4 0]]), (2, .p [(.bool b2945)]), (3, .p [p2946]), (4, .p [p2947]), (5, .r [.fn 89 [.ptr 0 0, .ptr 1 0, .ptr 5 0]])]) := by
  unfold m89_2 at h
  refine Fn_of (sz := 33) tab_ok [0, 1, 2, 3, 5, 9, 13, 14, 15, 20] [] Try.func89 rfl rfl rfl (by simp) ?_
  simp only [initSt, initEnv, List.map_cons, List.map_nil, List.getD_cons_zero, List.getD_cons_succ, List.getD_nil]
  have hh := brn_some h; clear h; rcases hh with ⟨h2903, h⟩ | ⟨h2903, h⟩
  · have hh := bnd'_some h; clear h; obtain ⟨⟨p2904, b2906, p2907, p2908⟩, h2905, h⟩ := hh
    (try dsimp only at h)
    refine W_sound tab_ok mixed 13 _ _ _ ?_
    simp -implicitDefEqProofs only [go_sem, Nat.reduceBEq, Nat.reduceAdd, Nat.reduceSub, Nat.reduceMul, Nat.reduceLT, Nat.reduceLeDiff, Int.reduceLE, Int.reduceLT, Int.reduceToNat, Int.reduceBEq, Int.reduceBNe, ↓reduceIte, h2903]
    repeat with_reducible refine And.intro (by first | kernel_rfl | decide) ?_
    refine Wp_callD [2, 3, 4] (c58 N _ _ _ _ _ _ h2905) rfl rfl rfl (by first | rfl | (simp only [go_sem, Nat.reduceBEq, Nat.reduceAdd, Nat.reduceSub, Nat.reduceMul, Nat.reduceLT, Nat.reduceLeDiff, Int.reduceLE, Int.reduceLT, Int.reduceToNat, Int.reduceBEq, Int.reduceBNe, ↓reduceIte, h2903] <;> rfl)) rfl (by kernel_rfl) ?_
    have hh := getT0_some h; clear h; obtain ⟨h2909, h⟩ := hh
    refine W_sound tab_ok mixed 3 _ _ _ ?_
    simp -implicitDefEqProofs only [go_sem, Nat.reduceBEq, Nat.reduceAdd, Nat.reduceSub, Nat.reduceMul, Nat.reduceLT, Nat.reduceLeDiff, Int.reduceLE, Int.reduceLT, Int.reduceToNat, Int.reduceBEq, Int.reduceBNe, ↓reduceIte, h2903, h2909]
    repeat with_reducible refine And.intro (by first | kernel_rfl | decide) ?_
    simp only [Option.some.injEq, Prod.mk.injEq] at h; obtain ⟨rfl, rfl, rfl, rfl⟩ := h
    exact finD (st' := ⟨[], [(0, .dead), (1, .dead), (2, .dead), (3, .dead), (5, .dead), (9, .dead), (13, .dead), (14, .dead), (15, .dead), (20, .dead)], [(0, .p [(.int .i64 x2897)]), (1, .r [.fn 58 [.ptr 2 0, .v (.ipt [.nl]), .v (.ipt [p2898]), .ptr 3 0, .ptr 4 0]]), (2, .p [(.bool b2906)]), (3, .p [p2907]), (4, .p [p2908]), (5, .r [.fn 89 [.ptr 0 0, .ptr 1 0, .ptr 5 0]])], 6, []⟩) (keepE_le [] _) (OLe.refl _) (by kernel_rfl) (by simp only [go_sem, Nat.reduceBEq, Nat.reduceAdd, Nat.reduceSub, Nat.reduceMul, Nat.reduceLT, Nat.reduceLeDiff, Int.reduceLE, Int.reduceLT, Int.reduceToNat, Int.reduceBEq, Int.reduceBNe, ↓reduceIte, resQ_tmp, resQ_cell, resQ_nil, retD_one, retD_two, retD_three, retD_none]; (try simp [R.val, retD_one, retD_two, retD_three, retD_none]); try assumption)
  · refine W_sound tab_ok mixed 15 _ _ _ ?_
    simp -implicitDefEqProofs only [go_sem, Nat.reduceBEq, Nat.reduceAdd, Nat.reduceSub, Nat.reduceMul, Nat.reduceLT, Nat.reduceLeDiff, Int.reduceLE, Int.reduceLT, Int.reduceToNat, Int.reduceBEq, Int.reduceBNe, ↓reduceIte, h2903]
    repeat with_reducible refine And.intro (by first | kernel_rfl | decide) ?_
    have hh := bnd'_some h; clear h; obtain ⟨o2948, h2949, h2950⟩ := hh
    refine Wp_cut (fun s => ∃ b2939, ∃ p2940, ∃ p2941, (b2939, p2940, p2941) = o2948 ∧ s = ⟨[], [(0, .dead), (1, .dead), (2, .dead), (3, .dead), (5, .dead), (9, .dead), (13, .dead), (14, .dead), (15, .dead), (20, .dead)], [(0, .p [(.int .i64 x2897)]), (1, .r [.fn 58 [.ptr 2 0, .v (.ipt [.nl]), .v (.ipt [p2898]), .ptr 3 0, .ptr 4 0]]), (2, .p [(.bool b2939)]), (3, .p [p2940]), (4, .p [p2941]), (5, .r [.fn 89 [.ptr 0 0, .ptr 1 0, .ptr 5 0]])], 6, []⟩) ?_ ?_
    · refine Wp_block ?_
      refine Wp_loopG (fun n s => ∃ x2923, ∃ b2924, ∃ p2925, ∃ p2926, m89_2_L0 N x2897 p2898 n x2923 b2924 p2925 p2926 = some o2948 ∧ s = ⟨[], [(0, .v .nl), (1, .dead), (2, .dead), (3, .ptr 5 0), (5, .dead), (9, .dead), (13, .v (.int .i64 x2897)), (14, .v (.int .i64 x2923)), (15, .dead), (20, .dead)], [(0, .p [(.int .i64 x2897)]), (1, .r [.fn 58 [.ptr 2 0, .v (.ipt [.nl]), .v (.ipt [p2898]), .ptr 3 0, .ptr 4 0]]), (2, .p [(.bool b2924)]), (3, .p [p2925]), (4, .p [p2926]), (5, .r [.fn 89 [.ptr 0 0, .ptr 1 0, .ptr 5 0]])], 6, []⟩) N _ ((Wk_le (.cons _ _ _ _ _ (.refl _) (.cons _ _ _ _ _ (.dead _) (.cons _ _ _ _ _ (.dead _) (.cons _ _ _ _ _ (.refl _) (.cons _ _ _ _ _ (.refl _) (.cons _ _ _ _ _ (.dead _) (.cons _ _ _ _ _ (.refl _) (.cons _ _ _ _ _ (.refl _) (.cons _ _ _ _ _ (.refl _) (.cons _ _ _ _ _ (.refl _) .nil)))))))))) (.cons _ _ _ _ _ (DLes.refl _) (.cons _ _ _ _ _ (DLes.refl _) (.cons _ _ _ _ _ (DLes.refl _) (.cons _ (.p _) (.p _) _ _ (DLes.of_p (.cons _ _ _ _ (.nl false) .nil)) (.cons _ (.p _) (.p _) _ _ (DLes.of_p (.cons _ _ _ _ (.nl false) .nil)) (.cons _ _ _ _ _ (DLes.refl _) .nil))))))).trans (cmpS_ok (st' := ⟨[], [(0, .v .nl), (1, .dead), (2, .dead), (3, .ptr 5 0), (5, .dead), (9, .dead), (13, .v (.int .i64 x2897)), (14, .v (.int .i64 0)), (15, .dead), (20, .dead)], [(0, .p [(.int .i64 x2897)]), (1, .r [.fn 58 [.ptr 2 0, .v (.ipt [.nl]), .v (.ipt [p2898]), .ptr 3 0, .ptr 4 0]]), (2, .p [(.bool b2899)]), (3, .p [(.lst false 0 [])]), (4, .p [(.lst false 0 [])]), (5, .r [.fn 89 [.ptr 0 0, .ptr 1 0, .ptr 5 0]])], 6, []⟩) (by kernel_rfl))) ⟨_, _, _, _, h2949, rfl⟩ ?_
      clear h2949
      rintro n _ ⟨x2923, b2924, p2925, p2926, h2949, rfl⟩
      cases n with
      | zero => cases h2949
      | succ n =>
        rw [m89_2_L0] at h2949
        have hh := brn_some h2949; clear h2949; rcases hh with ⟨h2927, h2949⟩ | ⟨h2927, h2949⟩
        · have hh := bnd'_some h2949; clear h2949; obtain ⟨p2928, h2929, h2949⟩ := hh
          refine W_sound tab_ok mixed 18 _ _ _ ?_
          simp -implicitDefEqProofs only [go_sem, Nat.reduceBEq, Nat.reduceAdd, Nat.reduceSub, Nat.reduceMul, Nat.reduceLT, Nat.reduceLeDiff, Int.reduceLE, Int.reduceLT, Int.reduceToNat, Int.reduceBEq, Int.reduceBNe, ↓reduceIte, h2903, h2927]
          repeat with_reducible refine And.intro (by first | kernel_rfl | decide) ?_
          refine Wp_callP (FnP_le (c90 N _ _ _ h2929) (.cons _ _ _ _ (.nl false) (.cons _ _ _ _ (.refl _) .nil)) (.refl _)) (by kernel_rfl) rfl rfl rfl rfl (by decide) ?_
          have hh := getB_some h2949; clear h2949; obtain ⟨b2931, h2930, h2949⟩ := hh
          have hh := brn_some h2949; clear h2949; rcases hh with ⟨h2932, h2949⟩ | ⟨h2932, h2949⟩
          · refine W_sound tab_ok mixed 9 _ _ _ ?_
            simp -implicitDefEqProofs only [go_sem, Nat.reduceBEq, Nat.reduceAdd, Nat.reduceSub, Nat.reduceMul, Nat.reduceLT, Nat.reduceLeDiff, Int.reduceLE, Int.reduceLT, Int.reduceToNat, Int.reduceBEq, Int.reduceBNe, ↓reduceIte, h2903, h2927, h2930, h2932]
            repeat with_reducible refine And.intro (by first | kernel_rfl | decide) ?_
            refine cutQ _ ?_ ⟨n, Nat.lt_succ_self n, _, _, _, _, h2949, rfl⟩
            exact Wk_keep [0, 3, 13, 14] (by kernel_rfl)
          · have hh := bnd'_some h2949; clear h2949; obtain ⟨⟨p2933, b2935, p2936, p2937⟩, h2934, h2949⟩ := hh
            (try dsimp only at h2949)
            refine W_sound tab_ok mixed 14 _ _ _ ?_
            simp -implicitDefEqProofs only [go_sem, Nat.reduceBEq, Nat.reduceAdd, Nat.reduceSub, Nat.reduceMul, Nat.reduceLT, Nat.reduceLeDiff, Int.reduceLE, Int.reduceLT, Int.reduceToNat, Int.reduceBEq, Int.reduceBNe, ↓reduceIte, h2903, h2927, h2930, h2932]
            repeat with_reducible refine And.intro (by first | kernel_rfl | decide) ?_
            refine Wp_callDF [(36, [(.int .i64 x2923)])] [0, 1, 2, 3, 4, 5] (c89_4 N N _ _ _ _ _ _ _ _ _ _ h2934) rfl rfl rfl (by first | rfl | (simp only [go_sem, Nat.reduceBEq, Nat.reduceAdd, Nat.reduceSub, Nat.reduceMul, Nat.reduceLT, Nat.reduceLeDiff, Int.reduceLE, Int.reduceLT, Int.reduceToNat, Int.reduceBEq, Int.reduceBNe, ↓reduceIte, h2903, h2927, h2930, h2932] <;> rfl)) rfl (by kernel_rfl) rfl rfl (by simp [roF, obL]) ?_
            have hh := getT0_some h2949; clear h2949; obtain ⟨h2938, h2949⟩ := hh
            refine W_sound tab_ok mixed 6 _ _ _ ?_
            simp -implicitDefEqProofs only [go_sem, Nat.reduceBEq, Nat.reduceAdd, Nat.reduceSub, Nat.reduceMul, Nat.reduceLT, Nat.reduceLeDiff, Int.reduceLE, Int.reduceLT, Int.reduceToNat, Int.reduceBEq, Int.reduceBNe, ↓reduceIte, h2903, h2927, h2930, h2932, h2938]
            repeat with_reducible refine And.intro (by first | kernel_rfl | decide) ?_
            refine cutQ _ ?_ ⟨n, Nat.lt_succ_self n, _, _, _, _, h2949, rfl⟩
            exact Wk_keep [0, 3, 13, 14] (by kernel_rfl)
        · refine W_sound tab_ok mixed 7 _ _ _ ?_
          simp -implicitDefEqProofs only [go_sem, Nat.reduceBEq, Nat.reduceAdd, Nat.reduceSub, Nat.reduceMul, Nat.reduceLT, Nat.reduceLeDiff, Int.reduceLE, Int.reduceLT, Int.reduceToNat, Int.reduceBEq, Int.reduceBNe, ↓reduceIte, h2903, h2927]
          repeat with_reducible refine And.intro (by first | kernel_rfl | decide) ?_
          obtain rfl := Option.some.inj h2949
          refine cutQ _ ?_ ⟨_, _, _, rfl, rfl⟩
          exact Wk_keep [] (by kernel_rfl)
    · rintro _ ⟨b2939, p2940, p2941, rfl, rfl⟩
      (try dsimp only at h2950)
      refine W_sound tab_ok mixed 1 _ _ _ ?_
      simp -implicitDefEqProofs only [go_sem, Nat.reduceBEq, Nat.reduceAdd, Nat.reduceSub, Nat.reduceMul, Nat.reduceLT, Nat.reduceLeDiff, Int.reduceLE, Int.reduceLT, Int.reduceToNat, Int.reduceBEq, Int.reduceBNe, ↓reduceIte, h2903]
      repeat with_reducible refine And.intro (by first | kernel_rfl | decide) ?_
      simp only [Option.some.injEq, Prod.mk.injEq] at h2950; obtain ⟨rfl, rfl, rfl, rfl⟩ := h2950
      exact finD (st' := ⟨[], [(0, .dead), (1, .dead), (2, .dead), (3, .dead), (5, .dead), (9, .dead), (13, .dead), (14, .dead), (15, .dead), (20, .dead)], [(0, .p [(.int .i64 x2897)]), (1, .r [.fn 58 [.ptr 2 0, .v (.ipt [.nl]), .v (.ipt [p2898]), .ptr 3 0, .ptr 4 0]]), (2, .p [(.bool b2939)]), (3, .p [p2940]), (4, .p [p2941]), (5, .r [.fn 89 [.ptr 0 0, .ptr 1 0, .ptr 5 0]])], 6, []⟩) (keepE_le [] _) (OLe.refl _) (by kernel_rfl) (by simp only [go_sem, Nat.reduceBEq, Nat.reduceAdd, Nat.reduceSub, Nat.reduceMul, Nat.reduceLT, Nat.reduceLeDiff, Int.reduceLE, Int.reduceLT, Int.reduceToNat, Int.reduceBEq, Int.reduceBNe, ↓reduceIte, resQ_tmp, resQ_cell, resQ_nil, retD_one, retD_two, retD_three, retD_none]; (try simp [R.val, retD_one, retD_two, retD_three, retD_none]); try assumption)
noncomputable def m56_2 (N : Nat) (x2960 : Int) (p2961 : PV) (b2962 : Bool) : Option ((PV × Bool × PV × PV)) :=
  bnd' (m89_2 N x2960 p2961 b2962) fun (p2966, b2968, p2969, p2970) =>
  getT0 p2966 <|
  some ((.tup []), b2968, p2969, p2970)
theorem c56_2 (N : Nat) (x2960 : Int) (p2961 : PV) (b2962 : Bool) (r : PV) (b2975 : Bool) (p2976 : PV) (p2977 : PV) (h : m56_2 N x2960 p2961 b2962 = some (r, b2975, p2976, p2977)) : V.Fn Try.prog 56 3 [.v (.int .i64 x2960), .fn 58 [.ptr 0 0, .v (.ipt [.nl]), .v (.ipt [p2961]), .ptr 1 0, .ptr 2 0]] [(0, .p [(.bool b2962)]), (1, .p [.nl]), (2, .p [.nl])] (fun d ob' => d = .v r ∧ ob' = [(0, .p [(.bool b2975)]), (1, .p [p2976]), (2, .p [p2977])]) := by
  unfold m56_2 at h
  refine Fn_of (sz := 8) tab_ok [0, 1, 2, 3, 4] [] Try.func56 rfl rfl rfl (by simp) ?_
  simp only [initSt, initEnv, List.map_cons, List.map_nil, List.getD_cons_zero, List.getD_cons_succ, List.getD_nil]
  have hh := bnd'_some h; clear h; obtain ⟨⟨p2966, b2968, p2969, p2970⟩, h2967, h⟩ := hh
  (try dsimp only at h)
  refine W_sound tab_ok mixed 16 _ _ _ ?_
  simp -implicitDefEqProofs only [go_sem, Nat.reduceBEq, Nat.reduceAdd, Nat.reduceSub, Nat.reduceMul, Nat.reduceLT, Nat.reduceLeDiff, Int.reduceLE, Int.reduceLT, Int.reduceToNat, Int.reduceBEq, Int.reduceBNe, ↓reduceIte]
  repeat with_reducible refine And.intro (by first | kernel_rfl | decide) ?_
  refine Wp_callD [5, 6, 0, 1, 2, 11] (c89_2 N _ _ _ _ _ _ _ h2967) rfl rfl rfl (by first | rfl | (simp only [go_sem, Nat.reduceBEq, Nat.reduceAdd, Nat.reduceSub, Nat.reduceMul, Nat.reduceLT, Nat.reduceLeDiff, Int.reduceLE, Int.reduceLT, Int.reduceToNat, Int.reduceBEq, Int.reduceBNe, ↓reduceIte] <;> rfl)) rfl (by kernel_rfl) ?_
  have hh := getT0_some h; clear h; obtain ⟨h2971, h⟩ := hh
  refine W_sound tab_ok mixed 2 _ _ _ ?_
  simp -implicitDefEqProofs only [go_sem, Nat.reduceBEq, Nat.reduceAdd, Nat.reduceSub, Nat.reduceMul, Nat.reduceLT, Nat.reduceLeDiff, Int.reduceLE, Int.reduceLT, Int.reduceToNat, Int.reduceBEq, Int.reduceBNe, ↓reduceIte, h2971]
  repeat with_reducible refine And.intro (by first | kernel_rfl | decide) ?_
  simp only [Option.some.injEq, Prod.mk.injEq] at h; obtain ⟨rfl, rfl, rfl, rfl⟩ := h
  exact finD (st' := ⟨[], [(0, .dead), (1, .dead), (2, .dead), (3, .dead), (4, .dead)], [(0, .p [(.bool b2968)]), (1, .p [p2969]), (2, .p [p2970])], 3, []⟩) (keepE_le [] _) (OLe.refl _) (by kernel_rfl) (by simp only [go_sem, Nat.reduceBEq, Nat.reduceAdd, Nat.reduceSub, Nat.reduceMul, Nat.reduceLT, Nat.reduceLeDiff, Int.reduceLE, Int.reduceLT, Int.reduceToNat, Int.reduceBEq, Int.reduceBNe, ↓reduceIte, resQ_tmp, resQ_cell, resQ_nil, retD_one, retD_two, retD_three, retD_none]; (try simp [R.val, retD_one, retD_two, retD_three, retD_none]); try assumption)
noncomputable def m57 (N : Nat) (x2987 : Int) (p2988 : PV) (b2989 : Bool) : Option ((PV × Bool × PV × PV)) :=
  bnd' (m56_2 N x2987 p2988 b2989) fun (p2993, b2995, p2996, p2997) =>
  getT0 p2993 <|
  some ((.tup []), b2995, p2996, p2997)
theorem c57 (N : Nat) (x2987 : Int) (p2988 : PV) (b2989 : Bool) (r : PV) (b3002 : Bool) (p3003 : PV) (p3004 : PV) (h : m57 N x2987 p2988 b2989 = some (r, b3002, p3003, p3004)) : V.Fn Try.prog 57 3 [.v .nl, .v (.ipt [(.int .i64 x2987)]), .ptr 0 0, .v (.ipt [p2988]), .ptr 1 0, .ptr 2 0] [(0, .p [(.bool b2989)]), (1, .p [.nl]), (2, .p [.nl])] (fun d ob' => d = .v r ∧ ob' = [(0, .p [(.bool b3002)]), (1, .p [p3003]), (2, .p [p3004])]) := by
  unfold m57 at h
  refine Fn_of (sz := 10) tab_ok [0, 1, 2, 3, 4, 5, 6] [] Try.func57 rfl rfl rfl (by simp) ?_
  simp only [initSt, initEnv, List.map_cons, List.map_nil, List.getD_cons_zero, List.getD_cons_succ, List.getD_nil]
  refine W_sound tab_ok mixed 4 _ _ _ ?_
  simp -implicitDefEqProofs only [go_sem, Nat.reduceBEq, Nat.reduceAdd, Nat.reduceSub, Nat.reduceMul, Nat.reduceLT, Nat.reduceLeDiff, Int.reduceLE, Int.reduceLT, Int.reduceToNat, Int.reduceBEq, Int.reduceBNe, ↓reduceIte]
  repeat with_reducible refine And.intro (by first | kernel_rfl | decide) ?_
  refine Wp_wkK (Wk_freeze 9 [.nl] (by rfl) (by decide) (by decide)) rfl ?_
  simp -implicitDefEqProofs only [go_sem, Nat.reduceBEq, Nat.reduceAdd, Nat.reduceSub, Nat.reduceMul, Nat.reduceLT, Nat.reduceLeDiff, Int.reduceLE, Int.reduceLT, Int.reduceToNat, Int.reduceBEq, Int.reduceBNe, ↓reduceIte]
  have hh := bnd'_some h; clear h; obtain ⟨⟨p2993, b2995, p2996, p2997⟩, h2994, h⟩ := hh
  (try dsimp only at h)
  refine W_sound tab_ok mixed 3 _ _ _ ?_
  simp -implicitDefEqProofs only [go_sem, Nat.reduceBEq, Nat.reduceAdd, Nat.reduceSub, Nat.reduceMul, Nat.reduceLT, Nat.reduceLeDiff, Int.reduceLE, Int.reduceLT, Int.reduceToNat, Int.reduceBEq, Int.reduceBNe, ↓reduceIte]
  repeat with_reducible refine And.intro (by first | kernel_rfl | decide) ?_
  refine Wp_callD [0, 1, 2] (c56_2 N _ _ _ _ _ _ _ h2994) rfl rfl rfl (by first | rfl | (simp only [go_sem, Nat.reduceBEq, Nat.reduceAdd, Nat.reduceSub, Nat.reduceMul, Nat.reduceLT, Nat.reduceLeDiff, Int.reduceLE, Int.reduceLT, Int.reduceToNat, Int.reduceBEq, Int.reduceBNe, ↓reduceIte] <;> rfl)) rfl (by kernel_rfl) ?_
  have hh := getT0_some h; clear h; obtain ⟨h2998, h⟩ := hh
  refine W_sound tab_ok mixed 2 _ _ _ ?_
  simp -implicitDefEqProofs only [go_sem, Nat.reduceBEq, Nat.reduceAdd, Nat.reduceSub, Nat.reduceMul, Nat.reduceLT, Nat.reduceLeDiff, Int.reduceLE, Int.reduceLT, Int.reduceToNat, Int.reduceBEq, Int.reduceBNe, ↓reduceIte, h2998]
  repeat with_reducible refine And.intro (by first | kernel_rfl | decide) ?_
  simp only [Option.some.injEq, Prod.mk.injEq] at h; obtain ⟨rfl, rfl, rfl, rfl⟩ := h
  exact finD (st' := ⟨[], [(0, .dead), (1, .dead), (2, .dead), (3, .dead), (4, .dead), (5, .dead), (6, .dead)], [(0, .p [(.bool b2995)]), (1, .p [p2996]), (2, .p [p2997])], 3, []⟩) (keepE_le [] _) (OLe.refl _) (by kernel_rfl) (by simp only [go_sem, Nat.reduceBEq, Nat.reduceAdd, Nat.reduceSub, Nat.reduceMul, Nat.reduceLT, Nat.reduceLeDiff, Int.reduceLE, Int.reduceLT, Int.reduceToNat, Int.reduceBEq, Int.reduceBNe, ↓reduceIte, resQ_tmp, resQ_cell, resQ_nil, retD_one, retD_two, retD_three, retD_none]; (try simp [R.val, retD_one, retD_two, retD_three, retD_none]); try assumption)
noncomputable def m58_6_L1 (N : Nat) (p4041 : PV) (p4042 : PV) (n4047 : Nat) (c4048 : List PV) (n4050 : Nat) (c4051 : List PV) (n4053 : Nat) (c4054 : List PV) (n4192 : Nat) (x4193 : Int) (c4194 : List PV) (x4200 : Int) : Nat → Nat → Int → List PV → Option ((Nat × List PV))
  | 0, _, _, _ => none
  | n + 1, n4237, x4238, c4239 =>
    brn (decide (x4238 < ((n4047 : Nat) : Int))) (
      grd (0 ≤ x4238 ∧ x4238 < ((n4047 : Nat) : Int)) <|
      grd (0 < List.length (List.drop (Int.toNat x4238) c4048)) <|
      getI .i64 (gp c4048 (Int.toNat x4238)) fun x4245 =>
      grd (0 ≤ x4200 ∧ x4200 < ((n4053 : Nat) : Int)) <|
      grd (0 < List.length (List.drop (Int.toNat x4200) c4054)) <|
      getL (gp c4054 (Int.toNat x4200)) fun n4250 c4251 =>
      grd (0 ≤ x4245 ∧ x4245 < ((n4250 : Nat) : Int)) <|
      grd (0 < List.length (List.drop (Int.toNat x4245) c4251)) <|
      getI .i64 (gp c4251 (Int.toNat x4245)) fun x4256 =>
      grd ((n4237 + 1) ≤ 1099511627776) <|
      grd (List.length c4239 = n4237) <|
      m58_6_L1 N p4041 p4042 n4047 c4048 n4050 c4051 n4053 c4054 n4192 x4193 c4194 x4200 n (n4237 + 1) (IntKind.i64.wrap (x4238 + 1)) (c4239 ++ [(.int .i64 x4256)])) (
      some (n4237, c4239))
noncomputable def m58_6_L0 (N : Nat) (p4041 : PV) (p4042 : PV) (n4047 : Nat) (c4048 : List PV) (n4050 : Nat) (c4051 : List PV) (n4053 : Nat) (c4054 : List PV) : Nat → Nat → Int → List PV → Option ((Nat × List PV))
  | 0, _, _, _ => none
  | n + 1, n4192, x4193, c4194 =>
    brn (decide (x4193 < ((n4050 : Nat) : Int))) (
      grd (0 ≤ x4193 ∧ x4193 < ((n4050 : Nat) : Int)) <|
      grd (0 < List.length (List.drop (Int.toNat x4193) c4051)) <|
      getI .i64 (gp c4051 (Int.toNat x4193)) fun x4200 =>
      bnd' (m58_6_L1 N p4041 p4042 n4047 c4048 n4050 c4051 n4053 c4054 n4192 x4193 c4194 x4200 N 0 0 []) fun o =>
      match o with
      | (n4259, c4260) =>
        grd ((n4192 + 1) ≤ 1099511627776) <|
        grd (List.length c4194 = n4192) <|
        grd (List.length c4260 = n4259) <|
        m58_6_L0 N p4041 p4042 n4047 c4048 n4050 c4051 n4053 c4054 n (n4192 + 1) (IntKind.i64.wrap (x4193 + 1)) (c4194 ++ [(.lst false n4259 c4260)])) (
      some (n4192, c4194))
noncomputable def m58_6 (N : Nat) (p4037 : PV) (p4038 : PV) (p4039 : PV) (b4040 : Bool) (p4041 : PV) (p4042 : PV) : Option ((PV × Bool × PV × PV)) :=
  getL p4037 fun n4047 c4048 =>
  getL p4038 fun n4050 c4051 =>
  getL p4039 fun n4053 c4054 =>
  brn b4040 (
    some ((.tup []), true, p4041, p4042)) (
    bnd' (m58_6_L0 N p4041 p4042 n4047 c4048 n4050 c4051 n4053 c4054 N 0 0 []) fun o =>
    match o with
    | (n4264, c4265) =>
      grd (List.length c4265 = n4264) <|
      bnd' (m47 N (.lst false n4264 c4265)) fun p4267 =>
      getN p4267 (
        bnd' (m53_2 N (.lst false n4050 c4051)) fun p4273 =>
        getL p4273 fun n4276 c4277 =>
        bnd' (m53_2 N (.lst false n4047 c4048)) fun p4278 =>
        getL p4278 fun n4281 c4282 =>
        some ((.tup []), true, (.lst false n4276 c4277), (.lst false n4281 c4282))) fun n4271 c4272 =>
      grd (0 < n4271) <|
      some ((.tup []), false, p4041, p4042))
theorem c58_6 (N : Nat) (p4037 : PV) (p4038 : PV) (p4039 : PV) (b4040 : Bool) (p4041 : PV) (p4042 : PV) (r : PV) (b4287 : Bool) (p4288 : PV) (p4289 : PV) (h : m58_6 N p4037 p4038 p4039 b4040 p4041 p4042 = some (r, b4287, p4288, p4289)) : V.Fn Try.prog 58 3 [.v p4037, .ptr 0 0, .v (.ipt [p4038]), .v (.ipt [p4039]), .ptr 1 0, .ptr 2 0] [(0, .p [(.bool b4040)]), (1, .p [p4041]), (2, .p [p4042])] (fun d ob' => d = .v r ∧ ob' = [(0, .p [(.bool b4287)]), (1, .p [p4288]), (2, .p [p4289])]) := by
  unfold m58_6 at h
  refine Fn_of (sz := 49) tab_ok [0, 1, 2, 3, 4, 5, 7, 9, 10, 12, 13, 14, 15, 16, 17, 20, 21, 22, 23, 44] [] Try.func58 rfl rfl rfl (by simp) ?_
  simp only [initSt, initEnv, List.map_cons, List.map_nil, List.getD_cons_zero, List.getD_cons_succ, List.getD_nil]
  have hh := getL_some h; clear h; obtain ⟨n4047, c4048, h4046, h⟩ := hh
  have hh := getL_some h; clear h; obtain ⟨n4050, c4051, h4049, h⟩ := hh
  have hh := getL_some h; clear h; obtain ⟨n4053, c4054, h4052, h⟩ := hh
  have hh := brn_some h; clear h; rcases hh with ⟨h4055, h⟩ | ⟨h4055, h⟩
  · refine W_sound tab_ok mixed 8 _ _ _ ?_
    simp -implicitDefEqProofs only [go_sem, Nat.reduceBEq, Nat.reduceAdd, Nat.reduceSub, Nat.reduceMul, Nat.reduceLT, Nat.reduceLeDiff, Int.reduceLE, Int.reduceLT, Int.reduceToNat, Int.reduceBEq, Int.reduceBNe, ↓reduceIte, h4046, h4049, h4052, h4055]
    repeat with_reducible refine And.intro (by first | kernel_rfl | decide) ?_
    simp only [Option.some.injEq, Prod.mk.injEq] at h; obtain ⟨rfl, rfl, rfl, rfl⟩ := h
    exact finD (st' := ⟨[], [(0, .dead), (1, .dead), (2, .dead), (3, .dead), (4, .dead), (5, .dead), (7, .dead), (9, .dead), (10, .dead), (12, .dead), (13, .dead), (14, .dead), (15, .dead), (16, .dead), (17, .dead), (20, .dead), (21, .dead), (22, .dead), (23, .dead), (44, .dead)], [(0, .p [(.bool true)]), (1, .p [p4041]), (2, .p [p4042])], 3, []⟩) (keepE_le [] _) (OLe.refl _) (by kernel_rfl) (by simp only [go_sem, Nat.reduceBEq, Nat.reduceAdd, Nat.reduceSub, Nat.reduceMul, Nat.reduceLT, Nat.reduceLeDiff, Int.reduceLE, Int.reduceLT, Int.reduceToNat, Int.reduceBEq, Int.reduceBNe, ↓reduceIte, resQ_tmp, resQ_cell, resQ_nil, retD_one, retD_two, retD_three, retD_none]; (try simp [R.val, retD_one, retD_two, retD_three, retD_none]); try assumption)
  · refine W_sound tab_ok mixed 18 _ _ _ ?_
    simp -implicitDefEqProofs only [go_sem, Nat.reduceBEq, Nat.reduceAdd, Nat.reduceSub, Nat.reduceMul, Nat.reduceLT, Nat.reduceLeDiff, Int.reduceLE, Int.reduceLT, Int.reduceToNat, Int.reduceBEq, Int.reduceBNe, ↓reduceIte, h4046, h4049, h4052, h4055]
    repeat with_reducible refine And.intro (by first | kernel_rfl | decide) ?_
    refine Wp_weaken (Wk_ownS 7 1 rfl (by decide) (by decide)) ?_
    simp -implicitDefEqProofs only [go_sem, Nat.reduceBEq, Nat.reduceAdd, Nat.reduceSub, Nat.reduceMul, Nat.reduceLT, Nat.reduceLeDiff, Int.reduceLE, Int.reduceLT, Int.reduceToNat, Int.reduceBEq, Int.reduceBNe, ↓reduceIte, h4046, h4049, h4052, h4055]
    have hh := bnd'_some h; clear h; obtain ⟨o4290, h4291, h4292⟩ := hh
    refine Wp_cut (fun s => ∃ n4264, ∃ c4265, (n4264, c4265) = o4290 ∧ s = ⟨[], [(0, .v (.lst false n4047 c4048)), (1, .ptr 0 0), (2, .v (.ipt [(.lst false n4050 c4051)])), (3, .dead), (4, .ptr 1 0), (5, .ptr 2 0), (7, .sl false 3 0 n4264 1), (9, .dead), (10, .dead), (12, .dead), (13, .dead), (14, .dead), (15, .dead), (16, .dead), (17, .dead), (20, .dead), (21, .dead), (22, .dead), (23, .dead), (44, .dead)], [(0, .p [(.bool false)]), (1, .p [p4041]), (2, .p [p4042]), (3, .p c4265)], 4, []⟩) ?_ ?_
    · refine Wp_block ?_
      refine Wp_loopG (fun n s => ∃ n4192, ∃ x4193, ∃ c4194, m58_6_L0 N p4041 p4042 n4047 c4048 n4050 c4051 n4053 c4054 n n4192 x4193 c4194 = some o4290 ∧ s = ⟨[], [(0, .v (.lst false n4047 c4048)), (1, .ptr 0 0), (2, .v (.ipt [(.lst false n4050 c4051)])), (3, .v (.ipt [(.lst false n4053 c4054)])), (4, .ptr 1 0), (5, .ptr 2 0), (7, .sl false 3 0 n4192 1), (9, .dead), (10, .dead), (12, .dead), (13, .dead), (14, .v (.lst false n4050 c4051)), (15, .v (.int .i64 ((n4050 : Nat) : Int))), (16, .v (.int .i64 x4193)), (17, .dead), (20, .dead), (21, .dead), (22, .dead), (23, .dead), (44, .dead)], [(0, .p [(.bool false)]), (1, .p [p4041]), (2, .p [p4042]), (3, .p c4194)], 4, []⟩) N _ (Wk_keep (st' := ⟨[], [(0, .v (.lst false n4047 c4048)), (1, .ptr 0 0), (2, .v (.ipt [(.lst false n4050 c4051)])), (3, .v (.ipt [(.lst false n4053 c4054)])), (4, .ptr 1 0), (5, .ptr 2 0), (7, .sl false 3 0 0 1), (9, .dead), (10, .dead), (12, .dead), (13, .dead), (14, .v (.lst false n4050 c4051)), (15, .v (.int .i64 ((n4050 : Nat) : Int))), (16, .v (.int .i64 0)), (17, .dead), (20, .dead), (21, .dead), (22, .dead), (23, .dead), (44, .dead)], [(0, .p [(.bool false)]), (1, .p [p4041]), (2, .p [p4042]), (3, .p [])], 4, []⟩) [0, 1, 2, 3, 4, 5, 7, 14, 15, 16] (by kernel_rfl)) ⟨_, _, _, h4291, rfl⟩ ?_
      clear h4291
      rintro n _ ⟨n4192, x4193, c4194, h4291, rfl⟩
      cases n with
      | zero => cases h4291
      | succ n =>
        rw [m58_6_L0] at h4291
        have hh := brn_some h4291; clear h4291; rcases hh with ⟨h4195, h4291⟩ | ⟨h4195, h4291⟩
        · have hh := grd_some h4291; clear h4291; obtain ⟨⟨g4196, g4197⟩, h4291⟩ := hh
          have hh := grd_some h4291; clear h4291; obtain ⟨g4198, h4291⟩ := hh
          have hh := getI_some h4291; clear h4291; obtain ⟨x4200, h4199, h4291⟩ := hh
          refine W_sound tab_ok mixed 26 _ _ _ ?_
          simp -implicitDefEqProofs only [go_sem, Nat.reduceBEq, Nat.reduceAdd, Nat.reduceSub, Nat.reduceMul, Nat.reduceLT, Nat.reduceLeDiff, Int.reduceLE, Int.reduceLT, Int.reduceToNat, Int.reduceBEq, Int.reduceBNe, ↓reduceIte, h4046, h4049, h4052, h4055, h4195, g4196, g4197, g4198, h4199]
          repeat with_reducible refine And.intro (by first | kernel_rfl | decide) ?_
          refine Wp_weaken (Wk_ownS 10 1 rfl (by decide) (by decide)) ?_
          simp -implicitDefEqProofs only [go_sem, Nat.reduceBEq, Nat.reduceAdd, Nat.reduceSub, Nat.reduceMul, Nat.reduceLT, Nat.reduceLeDiff, Int.reduceLE, Int.reduceLT, Int.reduceToNat, Int.reduceBEq, Int.reduceBNe, ↓reduceIte, h4046, h4049, h4052, h4055, h4195, g4196, g4197, g4198, h4199]
          have hh := bnd'_some h4291; clear h4291; obtain ⟨o4293, h4294, h4295⟩ := hh
          refine Wp_cut (fun s => ∃ n4259, ∃ c4260, (n4259, c4260) = o4293 ∧ s = ⟨[], [(0, .v (.lst false n4047 c4048)), (1, .ptr 0 0), (2, .v (.ipt [(.lst false n4050 c4051)])), (3, .v (.ipt [(.lst false n4053 c4054)])), (4, .ptr 1 0), (5, .ptr 2 0), (7, .sl false 3 0 n4192 1), (9, .dead), (10, .sl false 4 0 n4259 1), (12, .dead), (13, .dead), (14, .v (.lst false n4050 c4051)), (15, .v (.int .i64 ((n4050 : Nat) : Int))), (16, .v (.int .i64 x4193)), (17, .dead), (20, .dead), (21, .dead), (22, .dead), (23, .dead), (44, .dead)], [(0, .p [(.bool false)]), (1, .p [p4041]), (2, .p [p4042]), (3, .p c4194), (4, .p c4260)], 5, []⟩) ?_ ?_
          · refine Wp_block ?_
            refine Wp_loopG (fun n s => ∃ n4237, ∃ x4238, ∃ c4239, m58_6_L1 N p4041 p4042 n4047 c4048 n4050 c4051 n4053 c4054 n4192 x4193 c4194 x4200 n n4237 x4238 c4239 = some o4293 ∧ s = ⟨[], [(0, .v (.lst false n4047 c4048)), (1, .ptr 0 0), (2, .v (.ipt [(.lst false n4050 c4051)])), (3, .v (.ipt [(.lst false n4053 c4054)])), (4, .ptr 1 0), (5, .ptr 2 0), (7, .sl false 3 0 n4192 1), (9, .v (.int .i64 x4200)), (10, .sl false 4 0 n4237 1), (12, .dead), (13, .dead), (14, .v (.lst false n4050 c4051)), (15, .v (.int .i64 ((n4050 : Nat) : Int))), (16, .v (.int .i64 x4193)), (17, .dead), (20, .v (.lst false n4047 c4048)), (21, .v (.int .i64 ((n4047 : Nat) : Int))), (22, .v (.int .i64 x4238)), (23, .dead), (44, .dead)], [(0, .p [(.bool false)]), (1, .p [p4041]), (2, .p [p4042]), (3, .p c4194), (4, .p c4239)], 5, []⟩) N _ (Wk_keep (st' := ⟨[], [(0, .v (.lst false n4047 c4048)), (1, .ptr 0 0), (2, .v (.ipt [(.lst false n4050 c4051)])), (3, .v (.ipt [(.lst false n4053 c4054)])), (4, .ptr 1 0), (5, .ptr 2 0), (7, .sl false 3 0 n4192 1), (9, .v (.int .i64 x4200)), (10, .sl false 4 0 0 1), (12, .dead), (13, .dead), (14, .v (.lst false n4050 c4051)), (15, .v (.int .i64 ((n4050 : Nat) : Int))), (16, .v (.int .i64 x4193)), (17, .dead), (20, .v (.lst false n4047 c4048)), (21, .v (.int .i64 ((n4047 : Nat) : Int))), (22, .v (.int .i64 0)), (23, .dead), (44, .dead)], [(0, .p [(.bool false)]), (1, .p [p4041]), (2, .p [p4042]), (3, .p c4194), (4, .p [])], 5, []⟩) [0, 1, 2, 3, 4, 5, 7, 9, 10, 14, 15, 16, 20, 21, 22] (by kernel_rfl)) ⟨_, _, _, h4294, rfl⟩ ?_
            clear h4294
            rintro n _ ⟨n4237, x4238, c4239, h4294, rfl⟩
            cases n with
            | zero => cases h4294
            | succ n =>
              rw [m58_6_L1] at h4294
              have hh := brn_some h4294; clear h4294; rcases hh with ⟨h4240, h4294⟩ | ⟨h4240, h4294⟩
              · have hh := grd_some h4294; clear h4294; obtain ⟨⟨g4241, g4242⟩, h4294⟩ := hh
                have hh := grd_some h4294; clear h4294; obtain ⟨g4243, h4294⟩ := hh
                have hh := getI_some h4294; clear h4294; obtain ⟨x4245, h4244, h4294⟩ := hh
                have hh := grd_some h4294; clear h4294; obtain ⟨⟨g4246, g4247⟩, h4294⟩ := hh
                have hh := grd_some h4294; clear h4294; obtain ⟨g4248, h4294⟩ := hh
                have hh := getL_some h4294; clear h4294; obtain ⟨n4250, c4251, h4249, h4294⟩ := hh
                have hh := grd_some h4294; clear h4294; obtain ⟨⟨g4252, g4253⟩, h4294⟩ := hh
                have hh := grd_some h4294; clear h4294; obtain ⟨g4254, h4294⟩ := hh
                have hh := getI_some h4294; clear h4294; obtain ⟨x4256, h4255, h4294⟩ := hh
                have hh := grd_some h4294; clear h4294; obtain ⟨g4257, h4294⟩ := hh
                have hh := grd_some h4294; clear h4294; obtain ⟨g4258, h4294⟩ := hh
                refine W_sound tab_ok mixed 33 _ _ _ ?_
                simp -implicitDefEqProofs only [go_sem, Nat.reduceBEq, Nat.reduceAdd, Nat.reduceSub, Nat.reduceMul, Nat.reduceLT, Nat.reduceLeDiff, Int.reduceLE, Int.reduceLT, Int.reduceToNat, Int.reduceBEq, Int.reduceBNe, ↓reduceIte, h4046, h4049, h4052, h4055, h4195, g4196, g4197, g4198, h4199, h4240, g4241, g4242, g4243, h4244, g4246, g4247, g4248, h4249, g4252, g4253, g4254, h4255, g4257, g4258]
                repeat with_reducible refine And.intro (by first | kernel_rfl | decide) ?_
                refine cutQ _ ?_ ⟨n, Nat.lt_succ_self n, _, _, _, h4294, rfl⟩
                exact Wk_keep [0, 1, 2, 3, 4, 5, 7, 9, 10, 14, 15, 16, 20, 21, 22] (by kernel_rfl)
              · refine W_sound tab_ok mixed 7 _ _ _ ?_
                simp -implicitDefEqProofs only [go_sem, Nat.reduceBEq, Nat.reduceAdd, Nat.reduceSub, Nat.reduceMul, Nat.reduceLT, Nat.reduceLeDiff, Int.reduceLE, Int.reduceLT, Int.reduceToNat, Int.reduceBEq, Int.reduceBNe, ↓reduceIte, h4046, h4049, h4052, h4055, h4195, g4196, g4197, g4198, h4199, h4240]
                repeat with_reducible refine And.intro (by first | kernel_rfl | decide) ?_
                obtain rfl := Option.some.inj h4294
                refine cutQ _ ?_ ⟨_, _, rfl, rfl⟩
                exact Wk_keep [0, 1, 2, 3, 4, 5, 7, 10, 14, 15, 16] (by kernel_rfl)
          · rintro _ ⟨n4259, c4260, rfl, rfl⟩
            (try dsimp only at h4295)
            have hh := grd_some h4295; clear h4295; obtain ⟨g4261, h4295⟩ := hh
            have hh := grd_some h4295; clear h4295; obtain ⟨g4262, h4295⟩ := hh
            refine W_sound tab_ok mixed 7 _ _ _ ?_
            simp -implicitDefEqProofs only [go_sem, Nat.reduceBEq, Nat.reduceAdd, Nat.reduceSub, Nat.reduceMul, Nat.reduceLT, Nat.reduceLeDiff, Int.reduceLE, Int.reduceLT, Int.reduceToNat, Int.reduceBEq, Int.reduceBNe, ↓reduceIte, h4046, h4049, h4052, h4055, h4195, g4196, g4197, g4198, h4199, g4261, g4262]
            repeat with_reducible refine And.intro (by first | kernel_rfl | decide) ?_
            have hh := grd_some h4295; clear h4295; obtain ⟨g4263, h4295⟩ := hh
            refine Wp_wkK (Wk_freeze 4 c4260 (by rfl) (by decide) (by decide)) rfl ?_
            simp -implicitDefEqProofs only [go_sem, Nat.reduceBEq, Nat.reduceAdd, Nat.reduceSub, Nat.reduceMul, Nat.reduceLT, Nat.reduceLeDiff, Int.reduceLE, Int.reduceLT, Int.reduceToNat, Int.reduceBEq, Int.reduceBNe, ↓reduceIte, h4046, h4049, h4052, h4055, h4195, g4196, g4197, g4198, h4199, g4261, g4262, g4263]
            refine W_sound tab_ok mixed 5 _ _ _ ?_
            simp -implicitDefEqProofs only [go_sem, Nat.reduceBEq, Nat.reduceAdd, Nat.reduceSub, Nat.reduceMul, Nat.reduceLT, Nat.reduceLeDiff, Int.reduceLE, Int.reduceLT, Int.reduceToNat, Int.reduceBEq, Int.reduceBNe, ↓reduceIte, h4046, h4049, h4052, h4055, h4195, g4196, g4197, g4198, h4199, g4261, g4262, g4263]
            repeat with_reducible refine And.intro (by first | kernel_rfl | decide) ?_
            refine cutQ _ ?_ ⟨n, Nat.lt_succ_self n, _, _, _, h4295, rfl⟩
            exact Wk_keep [0, 1, 2, 3, 4, 5, 7, 14, 15, 16] (by kernel_rfl)
        · refine W_sound tab_ok mixed 7 _ _ _ ?_
          simp -implicitDefEqProofs only [go_sem, Nat.reduceBEq, Nat.reduceAdd, Nat.reduceSub, Nat.reduceMul, Nat.reduceLT, Nat.reduceLeDiff, Int.reduceLE, Int.reduceLT, Int.reduceToNat, Int.reduceBEq, Int.reduceBNe, ↓reduceIte, h4046, h4049, h4052, h4055, h4195]
          repeat with_reducible refine And.intro (by first | kernel_rfl | decide) ?_
          obtain rfl := Option.some.inj h4291
          refine cutQ _ ?_ ⟨_, _, rfl, rfl⟩
          exact Wk_keep [0, 1, 2, 4, 5, 7] (by kernel_rfl)
    · rintro _ ⟨n4264, c4265, rfl, rfl⟩
      (try dsimp only at h4292)
      refine W_sound tab_ok mixed 1 _ _ _ ?_
      simp -implicitDefEqProofs only [go_sem, Nat.reduceBEq, Nat.reduceAdd, Nat.reduceSub, Nat.reduceMul, Nat.reduceLT, Nat.reduceLeDiff, Int.reduceLE, Int.reduceLT, Int.reduceToNat, Int.reduceBEq, Int.reduceBNe, ↓reduceIte, h4046, h4049, h4052, h4055]
      repeat with_reducible refine And.intro (by first | kernel_rfl | decide) ?_
      have hh := grd_some h4292; clear h4292; obtain ⟨g4266, h4292⟩ := hh
      refine Wp_wkK (Wk_freeze 3 c4265 (by rfl) (by decide) (by decide)) rfl ?_
      simp -implicitDefEqProofs only [go_sem, Nat.reduceBEq, Nat.reduceAdd, Nat.reduceSub, Nat.reduceMul, Nat.reduceLT, Nat.reduceLeDiff, Int.reduceLE, Int.reduceLT, Int.reduceToNat, Int.reduceBEq, Int.reduceBNe, ↓reduceIte, h4046, h4049, h4052, h4055, g4266]
      have hh := bnd'_some h4292; clear h4292; obtain ⟨p4267, h4268, h4292⟩ := hh
      refine W_sound tab_ok mixed 2 _ _ _ ?_
      simp -implicitDefEqProofs only [go_sem, Nat.reduceBEq, Nat.reduceAdd, Nat.reduceSub, Nat.reduceMul, Nat.reduceLT, Nat.reduceLeDiff, Int.reduceLE, Int.reduceLT, Int.reduceToNat, Int.reduceBEq, Int.reduceBNe, ↓reduceIte, h4046, h4049, h4052, h4055, g4266]
      repeat with_reducible refine And.intro (by first | kernel_rfl | decide) ?_
      refine Wp_callP (c47 N _ _ h4268) (by kernel_rfl) rfl rfl rfl rfl (by decide) ?_
      have hh := getN_some h4292; clear h4292; rcases hh with ⟨h4270, h4292⟩ | ⟨n4271, c4272, h4270, h4292⟩
      · have hh := bnd'_some h4292; clear h4292; obtain ⟨p4273, h4274, h4292⟩ := hh
        refine W_sound tab_ok mixed 5 _ _ _ ?_
        simp -implicitDefEqProofs only [go_sem, Nat.reduceBEq, Nat.reduceAdd, Nat.reduceSub, Nat.reduceMul, Nat.reduceLT, Nat.reduceLeDiff, Int.reduceLE, Int.reduceLT, Int.reduceToNat, Int.reduceBEq, Int.reduceBNe, ↓reduceIte, h4046, h4049, h4052, h4055, g4266, h4270]
        repeat with_reducible refine And.intro (by first | kernel_rfl | decide) ?_
        refine Wp_callP (c53_2 N _ _ h4274) (by kernel_rfl) rfl rfl rfl rfl (by decide) ?_
        have hh := getL_some h4292; clear h4292; obtain ⟨n4276, c4277, h4275, h4292⟩ := hh
        have hh := bnd'_some h4292; clear h4292; obtain ⟨p4278, h4279, h4292⟩ := hh
        refine W_sound tab_ok mixed 1 _ _ _ ?_
        simp -implicitDefEqProofs only [go_sem, Nat.reduceBEq, Nat.reduceAdd, Nat.reduceSub, Nat.reduceMul, Nat.reduceLT, Nat.reduceLeDiff, Int.reduceLE, Int.reduceLT, Int.reduceToNat, Int.reduceBEq, Int.reduceBNe, ↓reduceIte, h4046, h4049, h4052, h4055, g4266, h4270, h4275]
        repeat with_reducible refine And.intro (by first | kernel_rfl | decide) ?_
        refine Wp_callP (c53_2 N _ _ h4279) (by kernel_rfl) rfl rfl rfl rfl (by decide) ?_
        have hh := getL_some h4292; clear h4292; obtain ⟨n4281, c4282, h4280, h4292⟩ := hh
        refine W_sound tab_ok mixed 5 _ _ _ ?_
        simp -implicitDefEqProofs only [go_sem, Nat.reduceBEq, Nat.reduceAdd, Nat.reduceSub, Nat.reduceMul, Nat.reduceLT, Nat.reduceLeDiff, Int.reduceLE, Int.reduceLT, Int.reduceToNat, Int.reduceBEq, Int.reduceBNe, ↓reduceIte, h4046, h4049, h4052, h4055, g4266, h4270, h4275, h4280]
        repeat with_reducible refine And.intro (by first | kernel_rfl | decide) ?_
        simp only [Option.some.injEq, Prod.mk.injEq] at h4292; obtain ⟨rfl, rfl, rfl, rfl⟩ := h4292
        exact finD (st' := ⟨[], [(0, .dead), (1, .dead), (2, .dead), (3, .dead), (4, .dead), (5, .dead), (7, .dead), (9, .dead), (10, .dead), (12, .dead), (13, .dead), (14, .dead), (15, .dead), (16, .dead), (17, .dead), (20, .dead), (21, .dead), (22, .dead), (23, .dead), (44, .dead)], [(0, .p [(.bool true)]), (1, .p [(.lst false n4276 c4277)]), (2, .p [(.lst false n4281 c4282)])], 3, []⟩) (keepE_le [] _) (OLe.refl _) (by kernel_rfl) (by simp only [go_sem, Nat.reduceBEq, Nat.reduceAdd, Nat.reduceSub, Nat.reduceMul, Nat.reduceLT, Nat.reduceLeDiff, Int.reduceLE, Int.reduceLT, Int.reduceToNat, Int.reduceBEq, Int.reduceBNe, ↓reduceIte, resQ_tmp, resQ_cell, resQ_nil, retD_one, retD_two, retD_three, retD_none]; (try simp [R.val, retD_one, retD_two, retD_three, retD_none]); try assumption)
      · have hh := grd_some h4292; clear h4292; obtain ⟨g4283, h4292⟩ := hh
        refine W_sound tab_ok mixed 5 _ _ _ ?_
        simp -implicitDefEqProofs only [go_sem, Nat.reduceBEq, Nat.reduceAdd, Nat.reduceSub, Nat.reduceMul, Nat.reduceLT, Nat.reduceLeDiff, Int.reduceLE, Int.reduceLT, Int.reduceToNat, Int.reduceBEq, Int.reduceBNe, ↓reduceIte, h4046, h4049, h4052, h4055, g4266, h4270, g4283]
        repeat with_reducible refine And.intro (by first | kernel_rfl | decide) ?_
        simp only [Option.some.injEq, Prod.mk.injEq] at h4292; obtain ⟨rfl, rfl, rfl, rfl⟩ := h4292
        exact finD (st' := ⟨[], [(0, .dead), (1, .dead), (2, .dead), (3, .dead), (4, .dead), (5, .dead), (7, .dead), (9, .dead), (10, .dead), (12, .dead), (13, .dead), (14, .dead), (15, .dead), (16, .dead), (17, .dead), (20, .dead), (21, .dead), (22, .dead), (23, .dead), (44, .dead)], [(0, .p [(.bool false)]), (1, .p [p4041]), (2, .p [p4042])], 3, []⟩) (keepE_le [] _) (OLe.refl _) (by kernel_rfl) (by simp only [go_sem, Nat.reduceBEq, Nat.reduceAdd, Nat.reduceSub, Nat.reduceMul, Nat.reduceLT, Nat.reduceLeDiff, Int.reduceLE, Int.reduceLT, Int.reduceToNat, Int.reduceBEq, Int.reduceBNe, ↓reduceIte, resQ_tmp, resQ_cell, resQ_nil, retD_one, retD_two, retD_three, retD_none]; (try simp [R.val, retD_one, retD_two, retD_three, retD_none]); try assumption)
noncomputable def m89_8_L0 (N : Nat) (rec : PV → Int → PV → PV → Bool → PV → PV → Option ((PV × Bool × PV × PV))) (x4320 : Int) (p4321 : PV) (p4322 : PV) (n4330 : Nat) (c4331 : List PV) : Nat → Int → Bool → PV → PV → Option ((Bool × PV × PV))
  | 0, _, _, _, _ => none
  | n + 1, x4356, b4357, p4358, p4359 =>
    brn (decide (x4356 < x4320)) (
      bnd' (m90 N (.lst false n4330 c4331) x4356) fun p4361 =>
      getB p4361 fun b4364 =>
      brn b4364 (
        m89_8_L0 N rec x4320 p4321 p4322 n4330 c4331 n (IntKind.i64.wrap (x4356 + 1)) b4357 p4358 p4359) (
        grd (0 ≤ ((n4330 : Nat) : Int) ∧ ((n4330 : Nat) : Int) ≤ ((n4330 : Nat) : Int)) <|
        grd (List.length c4331 = n4330) <|
        grd ((n4330 + 1) ≤ 1099511627776) <|
        bnd' (rec (.lst false (n4330 + 1) (c4331 ++ [(.int .i64 x4356)])) x4320 p4321 p4322 b4357 p4358 p4359) fun (p4370, b4372, p4373, p4374) =>
        getT0 p4370 <|
        m89_8_L0 N rec x4320 p4321 p4322 n4330 c4331 n (IntKind.i64.wrap (x4356 + 1)) b4372 p4373 p4374)) (
      some (b4357, p4358, p4359))
noncomputable def m89_8 (N : Nat) : Nat → PV → Int → PV → PV → Bool → PV → PV → Option ((PV × Bool × PV × PV))
  | 0, _, _, _, _, _, _, _ => none
  | fu + 1, p4319, x4320, p4321, p4322, b4323, p4324, p4325 =>
    getL p4319 fun n4330 c4331 =>
    brn (((n4330 : Nat) : Int) == x4320) (
      bnd' (m58_6 N (.lst false n4330 c4331) p4321 p4322 b4323 p4324 p4325) fun (p4333, b4335, p4336, p4337) =>
      getT0 p4333 <|
      some ((.tup []), b4335, p4336, p4337)) (
      bnd' (m89_8_L0 N (m89_8 N fu) x4320 p4321 p4322 n4330 c4331 N 0 b4323 p4324 p4325) fun o =>
      match o with
      | (b4376, p4377, p4378) =>
        some ((.tup []), b4376, p4377, p4378))
theorem c89_8 (N : Nat) : ∀ (fu : Nat) (p4319 : PV) (x4320 : Int) (p4321 : PV) (p4322 : PV) (b4323 : Bool) (p4324 : PV) (p4325 : PV) (r : PV) (b4382 : Bool) (p4383 : PV) (p4384 : PV) (h : m89_8 N fu p4319 x4320 p4321 p4322 b4323 p4324 p4325 = some (r, b4382, p4383, p4384)), V.Fn Try.prog 89 6 [.v p4319, .ptr 0 0, .ptr 1 0, .ptr 5 0] [(0, .p [(.int .i64 x4320)]), (1, .r [.fn 58 [.ptr 2 0, .v (.ipt [p4321]), .v (.ipt [p4322]), .ptr 3 0, .ptr 4 0]]), (2, .p [(.bool b4323)]), (3, .p [p4324]), (4, .p [p4325]), (5, .r [.fn 89 [.ptr 0 0, .ptr 1 0, .ptr 5 0]])] (fun d ob' => d = .v r ∧ ob' = [(0, .p [(.int .i64 x4320)]), (1, .r [.fn 58 [.ptr 2 0, .v (.ipt [p4321]), .v (.ipt [p4322]), .ptr 3 0, .ptr 4 0]]), (2, .p [(.bool b4382)]), (3, .p [p4383]), (4, .p [p4384]), (5, .r [.fn 89 [.ptr 0 0, .ptr 1 0, .ptr 5 0]])]) := by
  intro fu
  induction fu with
  | zero => intro p4319 x4320 p4321 p4322 b4323 p4324 p4325 r b4382 p4383 p4384 h; cases h
  | succ fu ih =>
    intro p4319 x4320 p4321 p4322 b4323 p4324 p4325 r b4382 p4383 p4384 h
    rw [m89_8] at h
    refine Fn_of (sz := 33) tab_ok [0, 1, 2, 3, 5, 9, 13, 14, 15, 20] [] Try.func89 rfl rfl rfl (by simp) ?_
    simp only [initSt, initEnv, List.map_cons, List.map_nil, List.getD_cons_zero, List.getD_cons_succ, List.getD_nil]
    have hh := getL_some h; clear h; obtain ⟨n4330, c4331, h4329, h⟩ := hh
    have hh := brn_some h; clear h; rcases hh with ⟨h4332, h⟩ | ⟨h4332, h⟩
    · have hh := bnd'_some h; clear h; obtain ⟨⟨p4333, b4335, p4336, p4337⟩, h4334, h⟩ := hh
      (try dsimp only at h)
      refine W_sound tab_ok mixed 13 _ _ _ ?_
      simp -implicitDefEqProofs only [go_sem, Nat.reduceBEq, Nat.reduceAdd, Nat.reduceSub, Nat.reduceMul, Nat.reduceLT, Nat.reduceLeDiff, Int.reduceLE, Int.reduceLT, Int.reduceToNat, Int.reduceBEq, Int.reduceBNe, ↓reduceIte, h4329, h4332]
      repeat with_reducible refine And.intro (by first | kernel_rfl | decide) ?_
      refine Wp_callD [2, 3, 4] (c58_6 N _ _ _ _ _ _ _ _ _ _ h4334) rfl rfl rfl (by first | rfl | (simp only [go_sem, Nat.reduceBEq, Nat.reduceAdd, Nat.reduceSub, Nat.reduceMul, Nat.reduceLT, Nat.reduceLeDiff, Int.reduceLE, Int.reduceLT, Int.reduceToNat, Int.reduceBEq, Int.reduceBNe, ↓reduceIte, h4329, h4332] <;> rfl)) rfl (by kernel_rfl) ?_
      have hh := getT0_some h; clear h; obtain ⟨h4338, h⟩ := hh
      refine W_sound tab_ok mixed 3 _ _ _ ?_
      simp -implicitDefEqProofs only [go_sem, Nat.reduceBEq, Nat.reduceAdd, Nat.reduceSub, Nat.reduceMul, Nat.reduceLT, Nat.reduceLeDiff, Int.reduceLE, Int.reduceLT, Int.reduceToNat, Int.reduceBEq, Int.reduceBNe, ↓reduceIte, h4329, h4332, h4338]
      repeat with_reducible refine And.intro (by first | kernel_rfl | decide) ?_
      simp only [Option.some.injEq, Prod.mk.injEq] at h; obtain ⟨rfl, rfl, rfl, rfl⟩ := h
      exact finD (st' := ⟨[], [(0, .dead), (1, .dead), (2, .dead), (3, .dead), (5, .dead), (9, .dead), (13, .dead), (14, .dead), (15, .dead), (20, .dead)], [(0, .p [(.int .i64 x4320)]), (1, .r [.fn 58 [.ptr 2 0, .v (.ipt [p4321]), .v (.ipt [p4322]), .ptr 3 0, .ptr 4 0]]), (2, .p [(.bool b4335)]), (3, .p [p4336]), (4, .p [p4337]), (5, .r [.fn 89 [.ptr 0 0, .ptr 1 0, .ptr 5 0]])], 6, []⟩) (keepE_le [] _) (OLe.refl _) (by kernel_rfl) (by simp only [go_sem, Nat.reduceBEq, Nat.reduceAdd, Nat.reduceSub, Nat.reduceMul, Nat.reduceLT, Nat.reduceLeDiff, Int.reduceLE, Int.reduceLT, Int.reduceToNat, Int.reduceBEq, Int.reduceBNe, ↓reduceIte, resQ_tmp, resQ_cell, resQ_nil, retD_one, retD_two, retD_three, retD_none]; (try simp [R.val, retD_one, retD_two, retD_three, retD_none]); try assumption)
    · refine W_sound tab_ok mixed 15 _ _ _ ?_
      simp -implicitDefEqProofs only [go_sem, Nat.reduceBEq, Nat.reduceAdd, Nat.reduceSub, Nat.reduceMul, Nat.reduceLT, Nat.reduceLeDiff, Int.reduceLE, Int.reduceLT, Int.reduceToNat, Int.reduceBEq, Int.reduceBNe, ↓reduceIte, h4329, h4332]
      repeat with_reducible refine And.intro (by first | kernel_rfl | decide) ?_
      have hh := bnd'_some h; clear h; obtain ⟨o4385, h4386, h4387⟩ := hh
      refine Wp_cut (fun s => ∃ b4376, ∃ p4377, ∃ p4378, (b4376, p4377, p4378) = o4385 ∧ s = ⟨[], [(0, .dead), (1, .dead), (2, .dead), (3, .dead), (5, .dead), (9, .dead), (13, .dead), (14, .dead), (15, .dead), (20, .dead)], [(0, .p [(.int .i64 x4320)]), (1, .r [.fn 58 [.ptr 2 0, .v (.ipt [p4321]), .v (.ipt [p4322]), .ptr 3 0, .ptr 4 0]]), (2, .p [(.bool b4376)]), (3, .p [p4377]), (4, .p [p4378]), (5, .r [.fn 89 [.ptr 0 0, .ptr 1 0, .ptr 5 0]])], 6, []⟩) ?_ ?_
      · refine Wp_block ?_
        refine Wp_loopG (fun n s => ∃ x4356, ∃ b4357, ∃ p4358, ∃ p4359, m89_8_L0 N (m89_8 N fu) x4320 p4321 p4322 n4330 c4331 n x4356 b4357 p4358 p4359 = some o4385 ∧ s = ⟨[], [(0, .v (.lst false n4330 c4331)), (1, .dead), (2, .dead), (3, .ptr 5 0), (5, .dead), (9, .dead), (13, .v (.int .i64 x4320)), (14, .v (.int .i64 x4356)), (15, .dead), (20, .dead)], [(0, .p [(.int .i64 x4320)]), (1, .r [.fn 58 [.ptr 2 0, .v (.ipt [p4321]), .v (.ipt [p4322]), .ptr 3 0, .ptr 4 0]]), (2, .p [(.bool b4357)]), (3, .p [p4358]), (4, .p [p4359]), (5, .r [.fn 89 [.ptr 0 0, .ptr 1 0, .ptr 5 0]])], 6, []⟩) N _ (Wk_keep (st' := ⟨[], [(0, .v (.lst false n4330 c4331)), (1, .dead), (2, .dead), (3, .ptr 5 0), (5, .dead), (9, .dead), (13, .v (.int .i64 x4320)), (14, .v (.int .i64 0)), (15, .dead), (20, .dead)], [(0, .p [(.int .i64 x4320)]), (1, .r [.fn 58 [.ptr 2 0, .v (.ipt [p4321]), .v (.ipt [p4322]), .ptr 3 0, .ptr 4 0]]), (2, .p [(.bool b4323)]), (3, .p [p4324]), (4, .p [p4325]), (5, .r [.fn 89 [.ptr 0 0, .ptr 1 0, .ptr 5 0]])], 6, []⟩) [0, 3, 13, 14] (by kernel_rfl)) ⟨_, _, _, _, h4386, rfl⟩ ?_
        clear h4386
        rintro n _ ⟨x4356, b4357, p4358, p4359, h4386, rfl⟩
        cases n with
        | zero => cases h4386
        | succ n =>
          rw [m89_8_L0] at h4386
          have hh := brn_some h4386; clear h4386; rcases hh with ⟨h4360, h4386⟩ | ⟨h4360, h4386⟩
          · have hh := bnd'_some h4386; clear h4386; obtain ⟨p4361, h4362, h4386⟩ := hh
            refine W_sound tab_ok mixed 18 _ _ _ ?_
            simp -implicitDefEqProofs only [go_sem, Nat.reduceBEq, Nat.reduceAdd, Nat.reduceSub, Nat.reduceMul, Nat.reduceLT, Nat.reduceLeDiff, Int.reduceLE, Int.reduceLT, Int.reduceToNat, Int.reduceBEq, Int.reduceBNe, ↓reduceIte, h4329, h4332, h4360]
            repeat with_reducible refine And.intro (by first | kernel_rfl | decide) ?_
            refine Wp_callP (c90 N _ _ _ h4362) (by kernel_rfl) rfl rfl rfl rfl (by decide) ?_
            have hh := getB_some h4386; clear h4386; obtain ⟨b4364, h4363, h4386⟩ := hh
            have hh := brn_some h4386; clear h4386; rcases hh with ⟨h4365, h4386⟩ | ⟨h4365, h4386⟩
            · refine W_sound tab_ok mixed 9 _ _ _ ?_
              simp -implicitDefEqProofs only [go_sem, Nat.reduceBEq, Nat.reduceAdd, Nat.reduceSub, Nat.reduceMul, Nat.reduceLT, Nat.reduceLeDiff, Int.reduceLE, Int.reduceLT, Int.reduceToNat, Int.reduceBEq, Int.reduceBNe, ↓reduceIte, h4329, h4332, h4360, h4363, h4365]
              repeat with_reducible refine And.intro (by first | kernel_rfl | decide) ?_
              refine cutQ _ ?_ ⟨n, Nat.lt_succ_self n, _, _, _, _, h4386, rfl⟩
              exact Wk_keep [0, 3, 13, 14] (by kernel_rfl)
            · have hh := grd_some h4386; clear h4386; obtain ⟨⟨g4366, g4367⟩, h4386⟩ := hh
              have hh := grd_some h4386; clear h4386; obtain ⟨g4368, h4386⟩ := hh
              have hh := grd_some h4386; clear h4386; obtain ⟨g4369, h4386⟩ := hh
              have hh := bnd'_some h4386; clear h4386; obtain ⟨⟨p4370, b4372, p4373, p4374⟩, h4371, h4386⟩ := hh
              (try dsimp only at h4386)
              refine W_sound tab_ok mixed 14 _ _ _ ?_
              simp -implicitDefEqProofs only [go_sem, Nat.reduceBEq, Nat.reduceAdd, Nat.reduceSub, Nat.reduceMul, Nat.reduceLT, Nat.reduceLeDiff, Int.reduceLE, Int.reduceLT, Int.reduceToNat, Int.reduceBEq, Int.reduceBNe, ↓reduceIte, h4329, h4332, h4360, h4363, h4365, g4366, g4367, g4368, g4369]
              repeat with_reducible refine And.intro (by first | kernel_rfl | decide) ?_
              refine Wp_callDF [(36, (c4331 ++ [(.int .i64 x4356)]))] [0, 1, 2, 3, 4, 5] (ih _ _ _ _ _ _ _ _ _ _ _ h4371) rfl rfl rfl (by first | rfl | (simp only [go_sem, Nat.reduceBEq, Nat.reduceAdd, Nat.reduceSub, Nat.reduceMul, Nat.reduceLT, Nat.reduceLeDiff, Int.reduceLE, Int.reduceLT, Int.reduceToNat, Int.reduceBEq, Int.reduceBNe, ↓reduceIte, h4329, h4332, h4360, h4363, h4365, g4366, g4367, g4368, g4369] <;> rfl)) rfl (by kernel_rfl) rfl rfl (by simp [roF, obL]) ?_
              have hh := getT0_some h4386; clear h4386; obtain ⟨h4375, h4386⟩ := hh
              refine W_sound tab_ok mixed 6 _ _ _ ?_
              simp -implicitDefEqProofs only [go_sem, Nat.reduceBEq, Nat.reduceAdd, Nat.reduceSub, Nat.reduceMul, Nat.reduceLT, Nat.reduceLeDiff, Int.reduceLE, Int.reduceLT, Int.reduceToNat, Int.reduceBEq, Int.reduceBNe, ↓reduceIte, h4329, h4332, h4360, h4363, h4365, g4366, g4367, g4368, g4369, h4375]
              repeat with_reducible refine And.intro (by first | kernel_rfl | decide) ?_
              refine cutQ _ ?_ ⟨n, Nat.lt_succ_self n, _, _, _, _, h4386, rfl⟩
              exact Wk_keep [0, 3, 13, 14] (by kernel_rfl)
          · refine W_sound tab_ok mixed 7 _ _ _ ?_
            simp -implicitDefEqProofs only [go_sem, Nat.reduceBEq, Nat.reduceAdd, Nat.reduceSub, Nat.reduceMul, Nat.reduceLT, Nat.reduceLeDiff, Int.reduceLE, Int.reduceLT, Int.reduceToNat, Int.reduceBEq, Int.reduceBNe, ↓reduceIte, h4329, h4332, h4360]
            repeat with_reducible refine And.intro (by first | kernel_rfl | decide) ?_
            obtain rfl := Option.some.inj h4386
            refine cutQ _ ?_ ⟨_, _, _, rfl, rfl⟩
            exact Wk_keep [] (by kernel_rfl)
      · rintro _ ⟨b4376, p4377, p4378, rfl, rfl⟩
        (try dsimp only at h4387)
        refine W_sound tab_ok mixed 1 _ _ _ ?_
        simp -implicitDefEqProofs only [go_sem, Nat.reduceBEq, Nat.reduceAdd, Nat.reduceSub, Nat.reduceMul, Nat.reduceLT, Nat.reduceLeDiff, Int.reduceLE, Int.reduceLT, Int.reduceToNat, Int.reduceBEq, Int.reduceBNe, ↓reduceIte, h4329, h4332]
        repeat with_reducible refine And.intro (by first | kernel_rfl | decide) ?_
        simp only [Option.some.injEq, Prod.mk.injEq] at h4387; obtain ⟨rfl, rfl, rfl, rfl⟩ := h4387
        exact finD (st' := ⟨[], [(0, .dead), (1, .dead), (2, .dead), (3, .dead), (5, .dead), (9, .dead), (13, .dead), (14, .dead), (15, .dead), (20, .dead)], [(0, .p [(.int .i64 x4320)]), (1, .r [.fn 58 [.ptr 2 0, .v (.ipt [p4321]), .v (.ipt [p4322]), .ptr 3 0, .ptr 4 0]]), (2, .p [(.bool b4376)]), (3, .p [p4377]), (4, .p [p4378]), (5, .r [.fn 89 [.ptr 0 0, .ptr 1 0, .ptr 5 0]])], 6, []⟩) (keepE_le [] _) (OLe.refl _) (by kernel_rfl) (by simp only [go_sem, Nat.reduceBEq, Nat.reduceAdd, Nat.reduceSub, Nat.reduceMul, Nat.reduceLT, Nat.reduceLeDiff, Int.reduceLE, Int.reduceLT, Int.reduceToNat, Int.reduceBEq, Int.reduceBNe, ↓reduceIte, resQ_tmp, resQ_cell, resQ_nil, retD_one, retD_two, retD_three, retD_none]; (try simp [R.val, retD_one, retD_two, retD_three, retD_none]); try assumption)
noncomputable def m58_7_L1 (N : Nat) (p4722 : PV) (p4723 : PV) (n4728 : Nat) (c4729 : List PV) (n4731 : Nat) (c4732 : List PV) (n4752 : Nat) (x4753 : Int) (c4754 : List PV) (x4760 : Int) : Nat → Int → Option (Unit)
  | 0, _ => none
  | n + 1, x4761 =>
    brn (decide (x4761 < 0)) (
      none) (
      some ())
noncomputable def m58_7_L0 (N : Nat) (p4722 : PV) (p4723 : PV) (n4728 : Nat) (c4729 : List PV) (n4731 : Nat) (c4732 : List PV) : Nat → Nat → Int → List PV → Option ((Nat × List PV))
  | 0, _, _, _ => none
  | n + 1, n4752, x4753, c4754 =>
    brn (decide (x4753 < ((n4728 : Nat) : Int))) (
      grd (0 ≤ x4753 ∧ x4753 < ((n4728 : Nat) : Int)) <|
      grd (0 < List.length (List.drop (Int.toNat x4753) c4729)) <|
      getI .i64 (gp c4729 (Int.toNat x4753)) fun x4760 =>
      bnd' (m58_7_L1 N p4722 p4723 n4728 c4729 n4731 c4732 n4752 x4753 c4754 x4760 N 0) fun _ =>
      grd ((n4752 + 1) ≤ 1099511627776) <|
      grd (List.length c4754 = n4752) <|
      m58_7_L0 N p4722 p4723 n4728 c4729 n4731 c4732 n (n4752 + 1) (IntKind.i64.wrap (x4753 + 1)) (c4754 ++ [(.lst false 0 [])])) (
      some (n4752, c4754))
noncomputable def m58_7 (N : Nat) (p4719 : PV) (p4720 : PV) (b4721 : Bool) (p4722 : PV) (p4723 : PV) : Option ((PV × Bool × PV × PV)) :=
  getL p4719 fun n4728 c4729 =>
  getL p4720 fun n4731 c4732 =>
  brn b4721 (
    some ((.tup []), true, p4722, p4723)) (
    bnd' (m58_7_L0 N p4722 p4723 n4728 c4729 n4731 c4732 N 0 0 []) fun o =>
    match o with
    | (n4765, c4766) =>
      grd (List.length c4766 = n4765) <|
      bnd' (m47 N (.lst false n4765 c4766)) fun p4768 =>
      getN p4768 (
        bnd' (m53_2 N (.lst false n4728 c4729)) fun p4774 =>
        getL p4774 fun n4777 c4778 =>
        bnd' (m53_2 N (.lst false 0 [])) fun p4779 =>
        getL p4779 fun n4782 c4783 =>
        some ((.tup []), true, (.lst false n4777 c4778), (.lst false n4782 c4783))) fun n4772 c4773 =>
      grd (0 < n4772) <|
      some ((.tup []), false, p4722, p4723))
theorem c58_7 (N : Nat) (p4719 : PV) (p4720 : PV) (b4721 : Bool) (p4722 : PV) (p4723 : PV) (r : PV) (b4788 : Bool) (p4789 : PV) (p4790 : PV) (h : m58_7 N p4719 p4720 b4721 p4722 p4723 = some (r, b4788, p4789, p4790)) : V.Fn Try.prog 58 3 [.v .nl, .ptr 0 0, .v (.ipt [p4719]), .v (.ipt [p4720]), .ptr 1 0, .ptr 2 0] [(0, .p [(.bool b4721)]), (1, .p [p4722]), (2, .p [p4723])] (fun d ob' => d = .v r ∧ ob' = [(0, .p [(.bool b4788)]), (1, .p [p4789]), (2, .p [p4790])]) := by
  unfold m58_7 at h
  refine Fn_of (sz := 49) tab_ok [0, 1, 2, 3, 4, 5, 7, 9, 10, 12, 13, 14, 15, 16, 17, 20, 21, 22, 23, 44] [] Try.func58 rfl rfl rfl (by simp) ?_
  simp only [initSt, initEnv, List.map_cons, List.map_nil, List.getD_cons_zero, List.getD_cons_succ, List.getD_nil]
  have hh := getL_some h; clear h; obtain ⟨n4728, c4729, h4727, h⟩ := hh
  have hh := getL_some h; clear h; obtain ⟨n4731, c4732, h4730, h⟩ := hh
  have hh := brn_some h; clear h; rcases hh with ⟨h4733, h⟩ | ⟨h4733, h⟩
  · refine W_sound tab_ok mixed 8 _ _ _ ?_
    simp -implicitDefEqProofs only [go_sem, Nat.reduceBEq, Nat.reduceAdd, Nat.reduceSub, Nat.reduceMul, Nat.reduceLT, Nat.reduceLeDiff, Int.reduceLE, Int.reduceLT, Int.reduceToNat, Int.reduceBEq, Int.reduceBNe, ↓reduceIte, h4727, h4730, h4733]
    repeat with_reducible refine And.intro (by first | kernel_rfl | decide) ?_
    simp only [Option.some.injEq, Prod.mk.injEq] at h; obtain ⟨rfl, rfl, rfl, rfl⟩ := h
    exact finD (st' := ⟨[], [(0, .dead), (1, .dead), (2, .dead), (3, .dead), (4, .dead), (5, .dead), (7, .dead), (9, .dead), (10, .dead), (12, .dead), (13, .dead), (14, .dead), (15, .dead), (16, .dead), (17, .dead), (20, .dead), (21, .dead), (22, .dead), (23, .dead), (44, .dead)], [(0, .p [(.bool true)]), (1, .p [p4722]), (2, .p [p4723])], 3, []⟩) (keepE_le [] _) (OLe.refl _) (by kernel_rfl) (by simp only [go_sem, Nat.reduceBEq, Nat.reduceAdd, Nat.reduceSub, Nat.reduceMul, Nat.reduceLT, Nat.reduceLeDiff, Int.reduceLE, Int.reduceLT, Int.reduceToNat, Int.reduceBEq, Int.reduceBNe, ↓reduceIte, resQ_tmp, resQ_cell, resQ_nil, retD_one, retD_two, retD_three, retD_none]; (try simp [R.val, retD_one, retD_two, retD_three, retD_none]); try assumption)
  · refine W_sound tab_ok mixed 18 _ _ _ ?_
    simp -implicitDefEqProofs only [go_sem, Nat.reduceBEq, Nat.reduceAdd, Nat.reduceSub, Nat.reduceMul, Nat.reduceLT, Nat.reduceLeDiff, Int.reduceLE, Int.reduceLT, Int.reduceToNat, Int.reduceBEq, Int.reduceBNe, ↓reduceIte, h4727, h4730, h4733]
    repeat with_reducible refine And.intro (by first | kernel_rfl | decide) ?_
    refine Wp_weaken (Wk_ownS 7 1 rfl (by decide) (by decide)) ?_
    simp -implicitDefEqProofs only [go_sem, Nat.reduceBEq, Nat.reduceAdd, Nat.reduceSub, Nat.reduceMul, Nat.reduceLT, Nat.reduceLeDiff, Int.reduceLE, Int.reduceLT, Int.reduceToNat, Int.reduceBEq, Int.reduceBNe, ↓reduceIte, h4727, h4730, h4733]
    have hh := bnd'_some h; clear h; obtain ⟨o4791, h4792, h4793⟩ := hh
    refine Wp_cut (fun s => ∃ n4765, ∃ c4766, (n4765, c4766) = o4791 ∧ s = ⟨[], [(0, .v .nl), (1, .ptr 0 0), (2, .v (.ipt [(.lst false n4728 c4729)])), (3, .dead), (4, .ptr 1 0), (5, .ptr 2 0), (7, .sl false 3 0 n4765 1), (9, .dead), (10, .dead), (12, .dead), (13, .dead), (14, .dead), (15, .dead), (16, .dead), (17, .dead), (20, .dead), (21, .dead), (22, .dead), (23, .dead), (44, .dead)], [(0, .p [(.bool false)]), (1, .p [p4722]), (2, .p [p4723]), (3, .p c4766)], 4, []⟩) ?_ ?_
    · refine Wp_block ?_
      refine Wp_loopG (fun n s => ∃ n4752, ∃ x4753, ∃ c4754, m58_7_L0 N p4722 p4723 n4728 c4729 n4731 c4732 n n4752 x4753 c4754 = some o4791 ∧ s = ⟨[], [(0, .v .nl), (1, .ptr 0 0), (2, .v (.ipt [(.lst false n4728 c4729)])), (3, .v (.ipt [(.lst false n4731 c4732)])), (4, .ptr 1 0), (5, .ptr 2 0), (7, .sl false 3 0 n4752 1), (9, .dead), (10, .dead), (12, .dead), (13, .dead), (14, .v (.lst false n4728 c4729)), (15, .v (.int .i64 ((n4728 : Nat) : Int))), (16, .v (.int .i64 x4753)), (17, .dead), (20, .dead), (21, .dead), (22, .dead), (23, .dead), (44, .dead)], [(0, .p [(.bool false)]), (1, .p [p4722]), (2, .p [p4723]), (3, .p c4754)], 4, []⟩) N _ (Wk_keep (st' := ⟨[], [(0, .v .nl), (1, .ptr 0 0), (2, .v (.ipt [(.lst false n4728 c4729)])), (3, .v (.ipt [(.lst false n4731 c4732)])), (4, .ptr 1 0), (5, .ptr 2 0), (7, .sl false 3 0 0 1), (9, .dead), (10, .dead), (12, .dead), (13, .dead), (14, .v (.lst false n4728 c4729)), (15, .v (.int .i64 ((n4728 : Nat) : Int))), (16, .v (.int .i64 0)), (17, .dead), (20, .dead), (21, .dead), (22, .dead), (23, .dead), (44, .dead)], [(0, .p [(.bool false)]), (1, .p [p4722]), (2, .p [p4723]), (3, .p [])], 4, []⟩) [0, 1, 2, 3, 4, 5, 7, 14, 15, 16] (by kernel_rfl)) ⟨_, _, _, h4792, rfl⟩ ?_
      clear h4792
      rintro n _ ⟨n4752, x4753, c4754, h4792, rfl⟩
      cases n with
      | zero => cases h4792
      | succ n =>
        rw [m58_7_L0] at h4792
        have hh := brn_some h4792; clear h4792; rcases hh with ⟨h4755, h4792⟩ | ⟨h4755, h4792⟩
        · have hh := grd_some h4792; clear h4792; obtain ⟨⟨g4756, g4757⟩, h4792⟩ := hh
          have hh := grd_some h4792; clear h4792; obtain ⟨g4758, h4792⟩ := hh
          have hh := getI_some h4792; clear h4792; obtain ⟨x4760, h4759, h4792⟩ := hh
          refine W_sound tab_ok mixed 26 _ _ _ ?_
          simp -implicitDefEqProofs only [go_sem, Nat.reduceBEq, Nat.reduceAdd, Nat.reduceSub, Nat.reduceMul, Nat.reduceLT, Nat.reduceLeDiff, Int.reduceLE, Int.reduceLT, Int.reduceToNat, Int.reduceBEq, Int.reduceBNe, ↓reduceIte, h4727, h4730, h4733, h4755, g4756, g4757, g4758, h4759]
          repeat with_reducible refine And.intro (by first | kernel_rfl | decide) ?_
          have hh := bnd'_some h4792; clear h4792; obtain ⟨o4794, h4795, h4796⟩ := hh
          refine Wp_cut (fun s => () = o4794 ∧ s = ⟨[], [(0, .v .nl), (1, .ptr 0 0), (2, .v (.ipt [(.lst false n4728 c4729)])), (3, .v (.ipt [(.lst false n4731 c4732)])), (4, .ptr 1 0), (5, .ptr 2 0), (7, .sl false 3 0 n4752 1), (9, .dead), (10, .v .nl), (12, .dead), (13, .dead), (14, .v (.lst false n4728 c4729)), (15, .v (.int .i64 ((n4728 : Nat) : Int))), (16, .v (.int .i64 x4753)), (17, .dead), (20, .dead), (21, .dead), (22, .dead), (23, .dead), (44, .dead)], [(0, .p [(.bool false)]), (1, .p [p4722]), (2, .p [p4723]), (3, .p c4754)], 4, []⟩) ?_ ?_
          · refine Wp_block ?_
            refine Wp_loopG (fun n s => ∃ x4761, m58_7_L1 N p4722 p4723 n4728 c4729 n4731 c4732 n4752 x4753 c4754 x4760 n x4761 = some o4794 ∧ s = ⟨[], [(0, .v .nl), (1, .ptr 0 0), (2, .v (.ipt [(.lst false n4728 c4729)])), (3, .v (.ipt [(.lst false n4731 c4732)])), (4, .ptr 1 0), (5, .ptr 2 0), (7, .sl false 3 0 n4752 1), (9, .v (.int .i64 x4760)), (10, .v .nl), (12, .dead), (13, .dead), (14, .v (.lst false n4728 c4729)), (15, .v (.int .i64 ((n4728 : Nat) : Int))), (16, .v (.int .i64 x4753)), (17, .dead), (20, .v .nl), (21, .v (.int .i64 0)), (22, .v (.int .i64 x4761)), (23, .dead), (44, .dead)], [(0, .p [(.bool false)]), (1, .p [p4722]), (2, .p [p4723]), (3, .p c4754)], 4, []⟩) N _ (Wk_keep (st' := ⟨[], [(0, .v .nl), (1, .ptr 0 0), (2, .v (.ipt [(.lst false n4728 c4729)])), (3, .v (.ipt [(.lst false n4731 c4732)])), (4, .ptr 1 0), (5, .ptr 2 0), (7, .sl false 3 0 n4752 1), (9, .v (.int .i64 x4760)), (10, .v .nl), (12, .dead), (13, .dead), (14, .v (.lst false n4728 c4729)), (15, .v (.int .i64 ((n4728 : Nat) : Int))), (16, .v (.int .i64 x4753)), (17, .dead), (20, .v .nl), (21, .v (.int .i64 0)), (22, .v (.int .i64 0)), (23, .dead), (44, .dead)], [(0, .p [(.bool false)]), (1, .p [p4722]), (2, .p [p4723]), (3, .p c4754)], 4, []⟩) [0, 1, 2, 3, 4, 5, 7, 9, 10, 14, 15, 16, 20, 21, 22] (by kernel_rfl)) ⟨_, h4795, rfl⟩ ?_
            clear h4795
            rintro n _ ⟨x4761, h4795, rfl⟩
            cases n with
            | zero => cases h4795
            | succ n =>
              rw [m58_7_L1] at h4795
              have hh := brn_some h4795; clear h4795; rcases hh with ⟨h4762, h4795⟩ | ⟨h4762, h4795⟩
              · cases h4795
              · refine W_sound tab_ok mixed 7 _ _ _ ?_
                simp -implicitDefEqProofs only [go_sem, Nat.reduceBEq, Nat.reduceAdd, Nat.reduceSub, Nat.reduceMul, Nat.reduceLT, Nat.reduceLeDiff, Int.reduceLE, Int.reduceLT, Int.reduceToNat, Int.reduceBEq, Int.reduceBNe, ↓reduceIte, h4727, h4730, h4733, h4755, g4756, g4757, g4758, h4759, h4762]
                repeat with_reducible refine And.intro (by first | kernel_rfl | decide) ?_
                obtain rfl := Option.some.inj h4795
                exact cutQ _ (Wk_keep (st' := ⟨[], [(0, .v .nl), (1, .ptr 0 0), (2, .v (.ipt [(.lst false n4728 c4729)])), (3, .v (.ipt [(.lst false n4731 c4732)])), (4, .ptr 1 0), (5, .ptr 2 0), (7, .sl false 3 0 n4752 1), (9, .dead), (10, .v .nl), (12, .dead), (13, .dead), (14, .v (.lst false n4728 c4729)), (15, .v (.int .i64 ((n4728 : Nat) : Int))), (16, .v (.int .i64 x4753)), (17, .dead), (20, .dead), (21, .dead), (22, .dead), (23, .dead), (44, .dead)], [(0, .p [(.bool false)]), (1, .p [p4722]), (2, .p [p4723]), (3, .p c4754)], 4, []⟩) [0, 1, 2, 3, 4, 5, 7, 10, 14, 15, 16] (by kernel_rfl)) (by first | exact ⟨rfl, rfl⟩ | exact rfl)
          · rintro _ ⟨rfl, rfl⟩
            (try dsimp only at h4796)
            have hh := grd_some h4796; clear h4796; obtain ⟨g4763, h4796⟩ := hh
            have hh := grd_some h4796; clear h4796; obtain ⟨g4764, h4796⟩ := hh
            refine W_sound tab_ok mixed 12 _ _ _ ?_
            simp -implicitDefEqProofs only [go_sem, Nat.reduceBEq, Nat.reduceAdd, Nat.reduceSub, Nat.reduceMul, Nat.reduceLT, Nat.reduceLeDiff, Int.reduceLE, Int.reduceLT, Int.reduceToNat, Int.reduceBEq, Int.reduceBNe, ↓reduceIte, h4727, h4730, h4733, h4755, g4756, g4757, g4758, h4759, g4763, g4764]
            repeat with_reducible refine And.intro (by first | kernel_rfl | decide) ?_
            refine cutQ _ ?_ ⟨n, Nat.lt_succ_self n, _, _, _, h4796, rfl⟩
            exact (Wk_le (.cons _ _ _ _ _ (.refl _) (.cons _ _ _ _ _ (.refl _) (.cons _ _ _ _ _ (.refl _) (.cons _ _ _ _ _ (.refl _) (.cons _ _ _ _ _ (.refl _) (.cons _ _ _ _ _ (.refl _) (.cons _ _ _ _ _ (.refl _) (.cons _ _ _ _ _ (.refl _) (.cons _ _ _ _ _ (.dead _) (.cons _ _ _ _ _ (.refl _) (.cons _ _ _ _ _ (.refl _) (.cons _ _ _ _ _ (.refl _) (.cons _ _ _ _ _ (.refl _) (.cons _ _ _ _ _ (.refl _) (.cons _ _ _ _ _ (.refl _) (.cons _ _ _ _ _ (.refl _) (.cons _ _ _ _ _ (.refl _) (.cons _ _ _ _ _ (.refl _) (.cons _ _ _ _ _ (.refl _) (.cons _ _ _ _ _ (.refl _) .nil)))))))))))))))))))) (.cons _ _ _ _ _ (DLes.refl _) (.cons _ _ _ _ _ (DLes.refl _) (.cons _ _ _ _ _ (DLes.refl _) (.cons _ _ _ _ _ (DLes.refl _) (.cons _ (.p _) (.p _) _ _ (DLes.of_p (PLes.app (PLes.refl _) (.cons _ _ _ _ (.nl false) .nil))) .nil)))))).trans (cmpS_ok (by kernel_rfl))
        · refine W_sound tab_ok mixed 7 _ _ _ ?_
          simp -implicitDefEqProofs only [go_sem, Nat.reduceBEq, Nat.reduceAdd, Nat.reduceSub, Nat.reduceMul, Nat.reduceLT, Nat.reduceLeDiff, Int.reduceLE, Int.reduceLT, Int.reduceToNat, Int.reduceBEq, Int.reduceBNe, ↓reduceIte, h4727, h4730, h4733, h4755]
          repeat with_reducible refine And.intro (by first | kernel_rfl | decide) ?_
          obtain rfl := Option.some.inj h4792
          refine cutQ _ ?_ ⟨_, _, rfl, rfl⟩
          exact Wk_keep [0, 1, 2, 4, 5, 7] (by kernel_rfl)
    · rintro _ ⟨n4765, c4766, rfl, rfl⟩
      (try dsimp only at h4793)
      refine W_sound tab_ok mixed 1 _ _ _ ?_
      simp -implicitDefEqProofs only [go_sem, Nat.reduceBEq, Nat.reduceAdd, Nat.reduceSub, Nat.reduceMul, Nat.reduceLT, Nat.reduceLeDiff, Int.reduceLE, Int.reduceLT, Int.reduceToNat, Int.reduceBEq, Int.reduceBNe, ↓reduceIte, h4727, h4730, h4733]
      repeat with_reducible refine And.intro (by first | kernel_rfl | decide) ?_
      have hh := grd_some h4793; clear h4793; obtain ⟨g4767, h4793⟩ := hh
      refine Wp_wkK (Wk_freeze 3 c4766 (by rfl) (by decide) (by decide)) rfl ?_
      simp -implicitDefEqProofs only [go_sem, Nat.reduceBEq, Nat.reduceAdd, Nat.reduceSub, Nat.reduceMul, Nat.reduceLT, Nat.reduceLeDiff, Int.reduceLE, Int.reduceLT, Int.reduceToNat, Int.reduceBEq, Int.reduceBNe, ↓reduceIte, h4727, h4730, h4733, g4767]
      have hh := bnd'_some h4793; clear h4793; obtain ⟨p4768, h4769, h4793⟩ := hh
      refine W_sound tab_ok mixed 2 _ _ _ ?_
      simp -implicitDefEqProofs only [go_sem, Nat.reduceBEq, Nat.reduceAdd, Nat.reduceSub, Nat.reduceMul, Nat.reduceLT, Nat.reduceLeDiff, Int.reduceLE, Int.reduceLT, Int.reduceToNat, Int.reduceBEq, Int.reduceBNe, ↓reduceIte, h4727, h4730, h4733, g4767]
      repeat with_reducible refine And.intro (by first | kernel_rfl | decide) ?_
      refine Wp_callP (c47 N _ _ h4769) (by kernel_rfl) rfl rfl rfl rfl (by decide) ?_
      have hh := getN_some h4793; clear h4793; rcases hh with ⟨h4771, h4793⟩ | ⟨n4772, c4773, h4771, h4793⟩
      · have hh := bnd'_some h4793; clear h4793; obtain ⟨p4774, h4775, h4793⟩ := hh
        refine W_sound tab_ok mixed 5 _ _ _ ?_
        simp -implicitDefEqProofs only [go_sem, Nat.reduceBEq, Nat.reduceAdd, Nat.reduceSub, Nat.reduceMul, Nat.reduceLT, Nat.reduceLeDiff, Int.reduceLE, Int.reduceLT, Int.reduceToNat, Int.reduceBEq, Int.reduceBNe, ↓reduceIte, h4727, h4730, h4733, g4767, h4771]
        repeat with_reducible refine And.intro (by first | kernel_rfl | decide) ?_
        refine Wp_callP (c53_2 N _ _ h4775) (by kernel_rfl) rfl rfl rfl rfl (by decide) ?_
        have hh := getL_some h4793; clear h4793; obtain ⟨n4777, c4778, h4776, h4793⟩ := hh
        have hh := bnd'_some h4793; clear h4793; obtain ⟨p4779, h4780, h4793⟩ := hh
        refine W_sound tab_ok mixed 1 _ _ _ ?_
        simp -implicitDefEqProofs only [go_sem, Nat.reduceBEq, Nat.reduceAdd, Nat.reduceSub, Nat.reduceMul, Nat.reduceLT, Nat.reduceLeDiff, Int.reduceLE, Int.reduceLT, Int.reduceToNat, Int.reduceBEq, Int.reduceBNe, ↓reduceIte, h4727, h4730, h4733, g4767, h4771, h4776]
        repeat with_reducible refine And.intro (by first | kernel_rfl | decide) ?_
        refine Wp_callP (FnP_le (c53_2 N _ _ h4780) (.cons _ _ _ _ (.nl false) .nil) (.refl _)) (by kernel_rfl) rfl rfl rfl rfl (by decide) ?_
        have hh := getL_some h4793; clear h4793; obtain ⟨n4782, c4783, h4781, h4793⟩ := hh
        refine W_sound tab_ok mixed 5 _ _ _ ?_
        simp -implicitDefEqProofs only [go_sem, Nat.reduceBEq, Nat.reduceAdd, Nat.reduceSub, Nat.reduceMul, Nat.reduceLT, Nat.reduceLeDiff, Int.reduceLE, Int.reduceLT, Int.reduceToNat, Int.reduceBEq, Int.reduceBNe, ↓reduceIte, h4727, h4730, h4733, g4767, h4771, h4776, h4781]
        repeat with_reducible refine And.intro (by first | kernel_rfl | decide) ?_
        simp only [Option.some.injEq, Prod.mk.injEq] at h4793; obtain ⟨rfl, rfl, rfl, rfl⟩ := h4793
        exact finD (st' := ⟨[], [(0, .dead), (1, .dead), (2, .dead), (3, .dead), (4, .dead), (5, .dead), (7, .dead), (9, .dead), (10, .dead), (12, .dead), (13, .dead), (14, .dead), (15, .dead), (16, .dead), (17, .dead), (20, .dead), (21, .dead), (22, .dead), (23, .dead), (44, .dead)], [(0, .p [(.bool true)]), (1, .p [(.lst false n4777 c4778)]), (2, .p [(.lst false n4782 c4783)])], 3, []⟩) (keepE_le [] _) (OLe.refl _) (by kernel_rfl) (by simp only [go_sem, Nat.reduceBEq, Nat.reduceAdd, Nat.reduceSub, Nat.reduceMul, Nat.reduceLT, Nat.reduceLeDiff, Int.reduceLE, Int.reduceLT, Int.reduceToNat, Int.reduceBEq, Int.reduceBNe, ↓reduceIte, resQ_tmp, resQ_cell, resQ_nil, retD_one, retD_two, retD_three, retD_none]; (try simp [R.val, retD_one, retD_two, retD_three, retD_none]); try assumption)
      · have hh := grd_some h4793; clear h4793; obtain ⟨g4784, h4793⟩ := hh
        refine W_sound tab_ok mixed 5 _ _ _ ?_
        simp -implicitDefEqProofs only [go_sem, Nat.reduceBEq, Nat.reduceAdd, Nat.reduceSub, Nat.reduceMul, Nat.reduceLT, Nat.reduceLeDiff, Int.reduceLE, Int.reduceLT, Int.reduceToNat, Int.reduceBEq, Int.reduceBNe, ↓reduceIte, h4727, h4730, h4733, g4767, h4771, g4784]
        repeat with_reducible refine And.intro (by first | kernel_rfl | decide) ?_
        simp only [Option.some.injEq, Prod.mk.injEq] at h4793; obtain ⟨rfl, rfl, rfl, rfl⟩ := h4793
        exact finD (st' := ⟨[], [(0, .dead), (1, .dead), (2, .dead), (3, .dead), (4, .dead), (5, .dead), (7, .dead), (9, .dead), (10, .dead), (12, .dead), (13, .dead), (14, .dead), (15, .dead), (16, .dead), (17, .dead), (20, .dead), (21, .dead), (22, .dead), (23, .dead), (44, .dead)], [(0, .p [(.bool false)]), (1, .p [p4722]), (2, .p [p4723])], 3, []⟩) (keepE_le [] _) (OLe.refl _) (by kernel_rfl) (by simp only [go_sem, Nat.reduceBEq, Nat.reduceAdd, Nat.reduceSub, Nat.reduceMul, Nat.reduceLT, Nat.reduceLeDiff, Int.reduceLE, Int.reduceLT, Int.reduceToNat, Int.reduceBEq, Int.reduceBNe, ↓reduceIte, resQ_tmp, resQ_cell, resQ_nil, retD_one, retD_two, retD_three, retD_none]; (try simp [R.val, retD_one, retD_two, retD_three, retD_none]); try assumption)
noncomputable def m89_10_L0 (N : Nat) (x4838 : Int) (p4839 : PV) (p4840 : PV) : Nat → Int → Bool → PV → PV → Option ((Bool × PV × PV))
  | 0, _, _, _, _ => none
  | n + 1, x4867, b4868, p4869, p4870 =>
    brn (decide (x4867 < x4838)) (
      bnd' (m90 N (.lst false 0 []) x4867) fun p4872 =>
      getB p4872 fun b4875 =>
      brn b4875 (
        m89_10_L0 N x4838 p4839 p4840 n (IntKind.i64.wrap (x4867 + 1)) b4868 p4869 p4870) (
        bnd' (m89_8 N N (.lst false 1 [(.int .i64 x4867)]) x4838 p4839 p4840 b4868 p4869 p4870) fun (p4877, b4879, p4880, p4881) =>
        getT0 p4877 <|
        m89_10_L0 N x4838 p4839 p4840 n (IntKind.i64.wrap (x4867 + 1)) b4879 p4880 p4881)) (
      some (b4868, p4869, p4870))
noncomputable def m89_10 (N : Nat) (x4838 : Int) (p4839 : PV) (p4840 : PV) (b4841 : Bool) (p4842 : PV) (p4843 : PV) : Option ((PV × Bool × PV × PV)) :=
  brn (0 == x4838) (
    bnd' (m58_7 N p4839 p4840 b4841 p4842 p4843) fun (p4848, b4850, p4851, p4852) =>
    getT0 p4848 <|
    some ((.tup []), b4850, p4851, p4852)) (
    bnd' (m89_10_L0 N x4838 p4839 p4840 N 0 b4841 p4842 p4843) fun o =>
    match o with
    | (b4883, p4884, p4885) =>
      some ((.tup []), b4883, p4884, p4885))
theorem c89_10 (N : Nat) (x4838 : Int) (p4839 : PV) (p4840 : PV) (b4841 : Bool) (p4842 : PV) (p4843 : PV) (r : PV) (b4889 : Bool) (p4890 : PV) (p4891 : PV) (h : m89_10 N x4838 p4839 p4840 b4841 p4842 p4843 = some (r, b4889, p4890, p4891)) : V.Fn Try.prog 89 6 [.v .nl, .ptr 0 0, .ptr 1 0, .ptr 5 0] [(0, .p [(.int .i64 x4838)]), (1, .r [.fn 58 [.ptr 2 0, .v (.ipt [p4839]), .v (.ipt [p4840]), .ptr 3 0, .ptr 4 0]]), (2, .p [(.bool b4841)]), (3, .p [p4842]), (4, .p [p4843]), (5, .r [.fn 89 [.ptr 0 0, .ptr 1 0, .ptr 5 0]])] (fun d ob' => d = .v r ∧ ob' = [(0, .p [(.int .i64 x4838)]), (1, .r [.fn 58 [.ptr 2 0, .v (.ipt [p4839]), .v (.ipt [p4840]), .ptr 3 0, .ptr 4 0]]), (2, .p [(.bool b4889)]), (3, .p [p4890]), (4, .p [p4891]), (5, .r [.fn 89 [.ptr 0 0, .ptr 1 0, .ptr 5 0]])]) := by
  unfold m89_10 at h
  refine Fn_of (sz := 33) tab_ok [0, 1, 2, 3, 5, 9, 13, 14, 15, 20] [] Try.func89 rfl rfl rfl (by simp) ?_
  simp only [initSt, initEnv, List.map_cons, List.map_nil, List.getD_cons_zero, List.getD_cons_succ, List.getD_nil]
  have hh := brn_some h; clear h; rcases hh with ⟨h4847, h⟩ | ⟨h4847, h⟩
  · have hh := bnd'_some h; clear h; obtain ⟨⟨p4848, b4850, p4851, p4852⟩, h4849, h⟩ := hh
    (try dsimp only at h)
    refine W_sound tab_ok mixed 13 _ _ _ ?_
    simp -implicitDefEqProofs only [go_sem, Nat.reduceBEq, Nat.reduceAdd, Nat.reduceSub, Nat.reduceMul, Nat.reduceLT, Nat.reduceLeDiff, Int.reduceLE, Int.reduceLT, Int.reduceToNat, Int.reduceBEq, Int.reduceBNe, ↓reduceIte, h4847]
    repeat with_reducible refine And.intro (by first | kernel_rfl | decide) ?_
    refine Wp_callD [2, 3, 4] (c58_7 N _ _ _ _ _ _ _ _ _ h4849) rfl rfl rfl (by first | rfl | (simp only [go_sem, Nat.reduceBEq, Nat.reduceAdd, Nat.reduceSub, Nat.reduceMul, Nat.reduceLT, Nat.reduceLeDiff, Int.reduceLE, Int.reduceLT, Int.reduceToNat, Int.reduceBEq, Int.reduceBNe, ↓reduceIte, h4847] <;> rfl)) rfl (by kernel_rfl) ?_
    have hh := getT0_some h; clear h; obtain ⟨h4853, h⟩ := hh
    refine W_sound tab_ok mixed 3 _ _ _ ?_
    simp -implicitDefEqProofs only [go_sem, Nat.reduceBEq, Nat.reduceAdd, Nat.reduceSub, Nat.reduceMul, Nat.reduceLT, Nat.reduceLeDiff, Int.reduceLE, Int.reduceLT, Int.reduceToNat, Int.reduceBEq, Int.reduceBNe, ↓reduceIte, h4847, h4853]
    repeat with_reducible refine And.intro (by first | kernel_rfl | decide) ?_
    simp only [Option.some.injEq, Prod.mk.injEq] at h; obtain ⟨rfl, rfl, rfl, rfl⟩ := h
    exact finD (st' := ⟨[], [(0, .dead), (1, .dead), (2, .dead), (3, .dead), (5, .dead), (9, .dead), (13, .dead), (14, .dead), (15, .dead), (20, .dead)], [(0, .p [(.int .i64 x4838)]), (1, .r [.fn 58 [.ptr 2 0, .v (.ipt [p4839]), .v (.ipt [p4840]), .ptr 3 0, .ptr 4 0]]), (2, .p [(.bool b4850)]), (3, .p [p4851]), (4, .p [p4852]), (5, .r [.fn 89 [.ptr 0 0, .ptr 1 0, .ptr 5 0]])], 6, []⟩) (keepE_le [] _) (OLe.refl _) (by kernel_rfl) (by simp only [go_sem, Nat.reduceBEq, Nat.reduceAdd, Nat.reduceSub, Nat.reduceMul, Nat.reduceLT, Nat.reduceLeDiff, Int.reduceLE, Int.reduceLT, Int.reduceToNat, Int.reduceBEq, Int.reduceBNe, ↓reduceIte, resQ_tmp, resQ_cell, resQ_nil, retD_one, retD_two, retD_three, retD_none]; (try simp [R.val, retD_one, retD_two, retD_three, retD_none]); try assumption)
  · refine W_sound tab_ok mixed 15 _ _ _ ?_
    simp -implicitDefEqProofs only [go_sem, Nat.reduceBEq, Nat.reduceAdd, Nat.reduceSub, Nat.reduceMul, Nat.reduceLT, Nat.reduceLeDiff, Int.reduceLE, Int.reduceLT, Int.reduceToNat, Int.reduceBEq, Int.reduceBNe, ↓reduceIte, h4847]
    repeat with_reducible refine And.intro (by first | kernel_rfl | decide) ?_
    have hh := bnd'_some h; clear h; obtain ⟨o4892, h4893, h4894⟩ := hh
    refine Wp_cut (fun s => ∃ b4883, ∃ p4884, ∃ p4885, (b4883, p4884, p4885) = o4892 ∧ s = ⟨[], [(0, .dead), (1, .dead), (2, .dead), (3, .dead), (5, .dead), (9, .dead), (13, .dead), (14, .dead), (15, .dead), (20, .dead)], [(0, .p [(.int .i64 x4838)]), (1, .r [.fn 58 [.ptr 2 0, .v (.ipt [p4839]), .v (.ipt [p4840]), .ptr 3 0, .ptr 4 0]]), (2, .p [(.bool b4883)]), (3, .p [p4884]), (4, .p [p4885]), (5, .r [.fn 89 [.ptr 0 0, .ptr 1 0, .ptr 5 0]])], 6, []⟩) ?_ ?_
    · refine Wp_block ?_
      refine Wp_loopG (fun n s => ∃ x4867, ∃ b4868, ∃ p4869, ∃ p4870, m89_10_L0 N x4838 p4839 p4840 n x4867 b4868 p4869 p4870 = some o4892 ∧ s = ⟨[], [(0, .v .nl), (1, .dead), (2, .dead), (3, .ptr 5 0), (5, .dead), (9, .dead), (13, .v (.int .i64 x4838)), (14, .v (.int .i64 x4867)), (15, .dead), (20, .dead)], [(0, .p [(.int .i64 x4838)]), (1, .r [.fn 58 [.ptr 2 0, .v (.ipt [p4839]), .v (.ipt [p4840]), .ptr 3 0, .ptr 4 0]]), (2, .p [(.bool b4868)]), (3, .p [p4869]), (4, .p [p4870]), (5, .r [.fn 89 [.ptr 0 0, .ptr 1 0, .ptr 5 0]])], 6, []⟩) N _ (Wk_keep (st' := ⟨[], [(0, .v .nl), (1, .dead), (2, .dead), (3, .ptr 5 0), (5, .dead), (9, .dead), (13, .v (.int .i64 x4838)), (14, .v (.int .i64 0)), (15, .dead), (20, .dead)], [(0, .p [(.int .i64 x4838)]), (1, .r [.fn 58 [.ptr 2 0, .v (.ipt [p4839]), .v (.ipt [p4840]), .ptr 3 0, .ptr 4 0]]), (2, .p [(.bool b4841)]), (3, .p [p4842]), (4, .p [p4843]), (5, .r [.fn 89 [.ptr 0 0, .ptr 1 0, .ptr 5 0]])], 6, []⟩) [0, 3, 13, 14] (by kernel_rfl)) ⟨_, _, _, _, h4893, rfl⟩ ?_
      clear h4893
      rintro n _ ⟨x4867, b4868, p4869, p4870, h4893, rfl⟩
      cases n with
      | zero => cases h4893
      | succ n =>
        rw [m89_10_L0] at h4893
        have hh := brn_some h4893; clear h4893; rcases hh with ⟨h4871, h4893⟩ | ⟨h4871, h4893⟩
        · have hh := bnd'_some h4893; clear h4893; obtain ⟨p4872, h4873, h4893⟩ := hh
          refine W_sound tab_ok mixed 18 _ _ _ ?_
          simp -implicitDefEqProofs only [go_sem, Nat.reduceBEq, Nat.reduceAdd, Nat.reduceSub, Nat.reduceMul, Nat.reduceLT, Nat.reduceLeDiff, Int.reduceLE, Int.reduceLT, Int.reduceToNat, Int.reduceBEq, Int.reduceBNe, ↓reduceIte, h4847, h4871]
          repeat with_reducible refine And.intro (by first | kernel_rfl | decide) ?_
          refine Wp_callP (FnP_le (c90 N _ _ _ h4873) (.cons _ _ _ _ (.nl false) (.cons _ _ _ _ (.refl _) .nil)) (.refl _)) (by kernel_rfl) rfl rfl rfl rfl (by decide) ?_
          have hh := getB_some h4893; clear h4893; obtain ⟨b4875, h4874, h4893⟩ := hh
          have hh := brn_some h4893; clear h4893; rcases hh with ⟨h4876, h4893⟩ | ⟨h4876, h4893⟩
          · refine W_sound tab_ok mixed 9 _ _ _ ?_
            simp -implicitDefEqProofs only [go_sem, Nat.reduceBEq, Nat.reduceAdd, Nat.reduceSub, Nat.reduceMul, Nat.reduceLT, Nat.reduceLeDiff, Int.reduceLE, Int.reduceLT, Int.reduceToNat, Int.reduceBEq, Int.reduceBNe, ↓reduceIte, h4847, h4871, h4874, h4876]
            repeat with_reducible refine And.intro (by first | kernel_rfl | decide) ?_
            refine cutQ _ ?_ ⟨n, Nat.lt_succ_self n, _, _, _, _, h4893, rfl⟩
            exact Wk_keep [0, 3, 13, 14] (by kernel_rfl)
          · have hh := bnd'_some h4893; clear h4893; obtain ⟨⟨p4877, b4879, p4880, p4881⟩, h4878, h4893⟩ := hh
            (try dsimp only at h4893)
            refine W_sound tab_ok mixed 14 _ _ _ ?_
            simp -implicitDefEqProofs only [go_sem, Nat.reduceBEq, Nat.reduceAdd, Nat.reduceSub, Nat.reduceMul, Nat.reduceLT, Nat.reduceLeDiff, Int.reduceLE, Int.reduceLT, Int.reduceToNat, Int.reduceBEq, Int.reduceBNe, ↓reduceIte, h4847, h4871, h4874, h4876]
            repeat with_reducible refine And.intro (by first | kernel_rfl | decide) ?_
            refine Wp_callDF [(36, [(.int .i64 x4867)])] [0, 1, 2, 3, 4, 5] (c89_8 N N _ _ _ _ _ _ _ _ _ _ _ h4878) rfl rfl rfl (by first | rfl | (simp only [go_sem, Nat.reduceBEq, Nat.reduceAdd, Nat.reduceSub, Nat.reduceMul, Nat.reduceLT, Nat.reduceLeDiff, Int.reduceLE, Int.reduceLT, Int.reduceToNat, Int.reduceBEq, Int.reduceBNe, ↓reduceIte, h4847, h4871, h4874, h4876] <;> rfl)) rfl (by kernel_rfl) rfl rfl (by simp [roF, obL]) ?_
            have hh := getT0_some h4893; clear h4893; obtain ⟨h4882, h4893⟩ := hh
            refine W_sound tab_ok mixed 6 _ _ _ ?_
            simp -implicitDefEqProofs only [go_sem, Nat.reduceBEq, Nat.reduceAdd, Nat.reduceSub, Nat.reduceMul, Nat.reduceLT, Nat.reduceLeDiff, Int.reduceLE, Int.reduceLT, Int.reduceToNat, Int.reduceBEq, Int.reduceBNe, ↓reduceIte, h4847, h4871, h4874, h4876, h4882]
            repeat with_reducible refine And.intro (by first | kernel_rfl | decide) ?_
            refine cutQ _ ?_ ⟨n, Nat.lt_succ_self n, _, _, _, _, h4893, rfl⟩
            exact Wk_keep [0, 3, 13, 14] (by kernel_rfl)
        · refine W_sound tab_ok mixed 7 _ _ _ ?_
          simp -implicitDefEqProofs only [go_sem, Nat.reduceBEq, Nat.reduceAdd, Nat.reduceSub, Nat.reduceMul, Nat.reduceLT, Nat.reduceLeDiff, Int.reduceLE, Int.reduceLT, Int.reduceToNat, Int.reduceBEq, Int.reduceBNe, ↓reduceIte, h4847, h4871]
          repeat with_reducible refine And.intro (by first | kernel_rfl | decide) ?_
          obtain rfl := Option.some.inj h4893
          refine cutQ _ ?_ ⟨_, _, _, rfl, rfl⟩
          exact Wk_keep [] (by kernel_rfl)
    · rintro _ ⟨b4883, p4884, p4885, rfl, rfl⟩
      (try dsimp only at h4894)
      refine W_sound tab_ok mixed 1 _ _ _ ?_
      simp -implicitDefEqProofs only [go_sem, Nat.reduceBEq, Nat.reduceAdd, Nat.reduceSub, Nat.reduceMul, Nat.reduceLT, Nat.reduceLeDiff, Int.reduceLE, Int.reduceLT, Int.reduceToNat, Int.reduceBEq, Int.reduceBNe, ↓reduceIte, h4847]
      repeat with_reducible refine And.intro (by first | kernel_rfl | decide) ?_
      simp only [Option.some.injEq, Prod.mk.injEq] at h4894; obtain ⟨rfl, rfl, rfl, rfl⟩ := h4894
      exact finD (st' := ⟨[], [(0, .dead), (1, .dead), (2, .dead), (3, .dead), (5, .dead), (9, .dead), (13, .dead), (14, .dead), (15, .dead), (20, .dead)], [(0, .p [(.int .i64 x4838)]), (1, .r [.fn 58 [.ptr 2 0, .v (.ipt [p4839]), .v (.ipt [p4840]), .ptr 3 0, .ptr 4 0]]), (2, .p [(.bool b4883)]), (3, .p [p4884]), (4, .p [p4885]), (5, .r [.fn 89 [.ptr 0 0, .ptr 1 0, .ptr 5 0]])], 6, []⟩) (keepE_le [] _) (OLe.refl _) (by kernel_rfl) (by simp only [go_sem, Nat.reduceBEq, Nat.reduceAdd, Nat.reduceSub, Nat.reduceMul, Nat.reduceLT, Nat.reduceLeDiff, Int.reduceLE, Int.reduceLT, Int.reduceToNat, Int.reduceBEq, Int.reduceBNe, ↓reduceIte, resQ_tmp, resQ_cell, resQ_nil, retD_one, retD_two, retD_three, retD_none]; (try simp [R.val, retD_one, retD_two, retD_three, retD_none]); try assumption)
noncomputable def m56_4 (N : Nat) (x4904 : Int) (p4905 : PV) (p4906 : PV) (b4907 : Bool) (p4908 : PV) (p4909 : PV) : Option ((PV × Bool × PV × PV)) :=
  bnd' (m89_10 N x4904 p4905 p4906 b4907 p4908 p4909) fun (p4913, b4915, p4916, p4917) =>
  getT0 p4913 <|
  some ((.tup []), b4915, p4916, p4917)
theorem c56_4 (N : Nat) (x4904 : Int) (p4905 : PV) (p4906 : PV) (b4907 : Bool) (p4908 : PV) (p4909 : PV) (r : PV) (b4922 : Bool) (p4923 : PV) (p4924 : PV) (h : m56_4 N x4904 p4905 p4906 b4907 p4908 p4909 = some (r, b4922, p4923, p4924)) : V.Fn Try.prog 56 3 [.v (.int .i64 x4904), .fn 58 [.ptr 0 0, .v (.ipt [p4905]), .v (.ipt [p4906]), .ptr 1 0, .ptr 2 0]] [(0, .p [(.bool b4907)]), (1, .p [p4908]), (2, .p [p4909])] (fun d ob' => d = .v r ∧ ob' = [(0, .p [(.bool b4922)]), (1, .p [p4923]), (2, .p [p4924])]) := by
  unfold m56_4 at h
  refine Fn_of (sz := 8) tab_ok [0, 1, 2, 3, 4] [] Try.func56 rfl rfl rfl (by simp) ?_
  simp only [initSt, initEnv, List.map_cons, List.map_nil, List.getD_cons_zero, List.getD_cons_succ, List.getD_nil]
  have hh := bnd'_some h; clear h; obtain ⟨⟨p4913, b4915, p4916, p4917⟩, h4914, h⟩ := hh
  (try dsimp only at h)
  refine W_sound tab_ok mixed 16 _ _ _ ?_
  simp -implicitDefEqProofs only [go_sem, Nat.reduceBEq, Nat.reduceAdd, Nat.reduceSub, Nat.reduceMul, Nat.reduceLT, Nat.reduceLeDiff, Int.reduceLE, Int.reduceLT, Int.reduceToNat, Int.reduceBEq, Int.reduceBNe, ↓reduceIte]
  repeat with_reducible refine And.intro (by first | kernel_rfl | decide) ?_
  refine Wp_callD [5, 6, 0, 1, 2, 11] (c89_10 N _ _ _ _ _ _ _ _ _ _ h4914) rfl rfl rfl (by first | rfl | (simp only [go_sem, Nat.reduceBEq, Nat.reduceAdd, Nat.reduceSub, Nat.reduceMul, Nat.reduceLT, Nat.reduceLeDiff, Int.reduceLE, Int.reduceLT, Int.reduceToNat, Int.reduceBEq, Int.reduceBNe, ↓reduceIte] <;> rfl)) rfl (by kernel_rfl) ?_
  have hh := getT0_some h; clear h; obtain ⟨h4918, h⟩ := hh
  refine W_sound tab_ok mixed 2 _ _ _ ?_
  simp -implicitDefEqProofs only [go_sem, Nat.reduceBEq, Nat.reduceAdd, Nat.reduceSub, Nat.reduceMul, Nat.reduceLT, Nat.reduceLeDiff, Int.reduceLE, Int.reduceLT, Int.reduceToNat, Int.reduceBEq, Int.reduceBNe, ↓reduceIte, h4918]
  repeat with_reducible refine And.intro (by first | kernel_rfl | decide) ?_
  simp only [Option.some.injEq, Prod.mk.injEq] at h; obtain ⟨rfl, rfl, rfl, rfl⟩ := h
  exact finD (st' := ⟨[], [(0, .dead), (1, .dead), (2, .dead), (3, .dead), (4, .dead)], [(0, .p [(.bool b4915)]), (1, .p [p4916]), (2, .p [p4917])], 3, []⟩) (keepE_le [] _) (OLe.refl _) (by kernel_rfl) (by simp only [go_sem, Nat.reduceBEq, Nat.reduceAdd, Nat.reduceSub, Nat.reduceMul, Nat.reduceLT, Nat.reduceLeDiff, Int.reduceLE, Int.reduceLT, Int.reduceToNat, Int.reduceBEq, Int.reduceBNe, ↓reduceIte, resQ_tmp, resQ_cell, resQ_nil, retD_one, retD_two, retD_three, retD_none]; (try simp [R.val, retD_one, retD_two, retD_three, retD_none]); try assumption)
noncomputable def m57_3 (N : Nat) (p4934 : PV) (x4935 : Int) (p4936 : PV) (b4937 : Bool) (p4938 : PV) (p4939 : PV) : Option ((PV × Bool × PV × PV)) :=
  getL p4934 fun n4944 c4945 =>
  bnd' (m56_4 N x4935 (.lst false n4944 c4945) p4936 b4937 p4938 p4939) fun (p4946, b4948, p4949, p4950) =>
  getT0 p4946 <|
  some ((.tup []), b4948, p4949, p4950)
theorem c57_3 (N : Nat) (p4934 : PV) (x4935 : Int) (p4936 : PV) (b4937 : Bool) (p4938 : PV) (p4939 : PV) (r : PV) (b4955 : Bool) (p4956 : PV) (p4957 : PV) (h : m57_3 N p4934 x4935 p4936 b4937 p4938 p4939 = some (r, b4955, p4956, p4957)) : V.Fn Try.prog 57 3 [.v p4934, .v (.ipt [(.int .i64 x4935)]), .ptr 0 0, .v (.ipt [p4936]), .ptr 1 0, .ptr 2 0] [(0, .p [(.bool b4937)]), (1, .p [p4938]), (2, .p [p4939])] (fun d ob' => d = .v r ∧ ob' = [(0, .p [(.bool b4955)]), (1, .p [p4956]), (2, .p [p4957])]) := by
  unfold m57_3 at h
  refine Fn_of (sz := 10) tab_ok [0, 1, 2, 3, 4, 5, 6] [] Try.func57 rfl rfl rfl (by simp) ?_
  simp only [initSt, initEnv, List.map_cons, List.map_nil, List.getD_cons_zero, List.getD_cons_succ, List.getD_nil]
  have hh := getL_some h; clear h; obtain ⟨n4944, c4945, h4943, h⟩ := hh
  refine W_sound tab_ok mixed 4 _ _ _ ?_
  simp -implicitDefEqProofs only [go_sem, Nat.reduceBEq, Nat.reduceAdd, Nat.reduceSub, Nat.reduceMul, Nat.reduceLT, Nat.reduceLeDiff, Int.reduceLE, Int.reduceLT, Int.reduceToNat, Int.reduceBEq, Int.reduceBNe, ↓reduceIte, h4943]
  repeat with_reducible refine And.intro (by first | kernel_rfl | decide) ?_
  refine Wp_wkK (Wk_freeze 9 [(.lst false n4944 c4945)] (by rfl) (by decide) (by decide)) rfl ?_
  simp -implicitDefEqProofs only [go_sem, Nat.reduceBEq, Nat.reduceAdd, Nat.reduceSub, Nat.reduceMul, Nat.reduceLT, Nat.reduceLeDiff, Int.reduceLE, Int.reduceLT, Int.reduceToNat, Int.reduceBEq, Int.reduceBNe, ↓reduceIte, h4943]
  have hh := bnd'_some h; clear h; obtain ⟨⟨p4946, b4948, p4949, p4950⟩, h4947, h⟩ := hh
  (try dsimp only at h)
  refine W_sound tab_ok mixed 3 _ _ _ ?_
  simp -implicitDefEqProofs only [go_sem, Nat.reduceBEq, Nat.reduceAdd, Nat.reduceSub, Nat.reduceMul, Nat.reduceLT, Nat.reduceLeDiff, Int.reduceLE, Int.reduceLT, Int.reduceToNat, Int.reduceBEq, Int.reduceBNe, ↓reduceIte, h4943]
  repeat with_reducible refine And.intro (by first | kernel_rfl | decide) ?_
  refine Wp_callD [0, 1, 2] (c56_4 N _ _ _ _ _ _ _ _ _ _ h4947) rfl rfl rfl (by first | rfl | (simp only [go_sem, Nat.reduceBEq, Nat.reduceAdd, Nat.reduceSub, Nat.reduceMul, Nat.reduceLT, Nat.reduceLeDiff, Int.reduceLE, Int.reduceLT, Int.reduceToNat, Int.reduceBEq, Int.reduceBNe, ↓reduceIte, h4943] <;> rfl)) rfl (by kernel_rfl) ?_
  have hh := getT0_some h; clear h; obtain ⟨h4951, h⟩ := hh
  refine W_sound tab_ok mixed 2 _ _ _ ?_
  simp -implicitDefEqProofs only [go_sem, Nat.reduceBEq, Nat.reduceAdd, Nat.reduceSub, Nat.reduceMul, Nat.reduceLT, Nat.reduceLeDiff, Int.reduceLE, Int.reduceLT, Int.reduceToNat, Int.reduceBEq, Int.reduceBNe, ↓reduceIte, h4943, h4951]
  repeat with_reducible refine And.intro (by first | kernel_rfl | decide) ?_
  simp only [Option.some.injEq, Prod.mk.injEq] at h; obtain ⟨rfl, rfl, rfl, rfl⟩ := h
  exact finD (st' := ⟨[], [(0, .dead), (1, .dead), (2, .dead), (3, .dead), (4, .dead), (5, .dead), (6, .dead)], [(0, .p [(.bool b4948)]), (1, .p [p4949]), (2, .p [p4950])], 3, []⟩) (keepE_le [] _) (OLe.refl _) (by kernel_rfl) (by simp only [go_sem, Nat.reduceBEq, Nat.reduceAdd, Nat.reduceSub, Nat.reduceMul, Nat.reduceLT, Nat.reduceLeDiff, Int.reduceLE, Int.reduceLT, Int.reduceToNat, Int.reduceBEq, Int.reduceBNe, ↓reduceIte, resQ_tmp, resQ_cell, resQ_nil, retD_one, retD_two, retD_three, retD_none]; (try simp [R.val, retD_one, retD_two, retD_three, retD_none]); try assumption)
noncomputable def m89_9_L0 (N : Nat) (rec : PV → Int → Int → PV → Bool → PV → PV → Option ((PV × Bool × PV × PV))) (x4982 : Int) (x4983 : Int) (p4984 : PV) (n4992 : Nat) (c4993 : List PV) : Nat → Int → Bool → PV → PV → Option ((Bool × PV × PV))
  | 0, _, _, _, _ => none
  | n + 1, x5018, b5019, p5020, p5021 =>
    brn (decide (x5018 < x4982)) (
      bnd' (m90 N (.lst false n4992 c4993) x5018) fun p5023 =>
      getB p5023 fun b5026 =>
      brn b5026 (
        m89_9_L0 N rec x4982 x4983 p4984 n4992 c4993 n (IntKind.i64.wrap (x5018 + 1)) b5019 p5020 p5021) (
        grd (0 ≤ ((n4992 : Nat) : Int) ∧ ((n4992 : Nat) : Int) ≤ ((n4992 : Nat) : Int)) <|
        grd (List.length c4993 = n4992) <|
        grd ((n4992 + 1) ≤ 1099511627776) <|
        bnd' (rec (.lst false (n4992 + 1) (c4993 ++ [(.int .i64 x5018)])) x4982 x4983 p4984 b5019 p5020 p5021) fun (p5032, b5034, p5035, p5036) =>
        getT0 p5032 <|
        m89_9_L0 N rec x4982 x4983 p4984 n4992 c4993 n (IntKind.i64.wrap (x5018 + 1)) b5034 p5035 p5036)) (
      some (b5019, p5020, p5021))
noncomputable def m89_9 (N : Nat) : Nat → PV → Int → Int → PV → Bool → PV → PV → Option ((PV × Bool × PV × PV))
  | 0, _, _, _, _, _, _, _ => none
  | fu + 1, p4981, x4982, x4983, p4984, b4985, p4986, p4987 =>
    getL p4981 fun n4992 c4993 =>
    brn (((n4992 : Nat) : Int) == x4982) (
      bnd' (m57_3 N (.lst false n4992 c4993) x4983 p4984 b4985 p4986 p4987) fun (p4995, b4997, p4998, p4999) =>
      getT0 p4995 <|
      some ((.tup []), b4997, p4998, p4999)) (
      bnd' (m89_9_L0 N (m89_9 N fu) x4982 x4983 p4984 n4992 c4993 N 0 b4985 p4986 p4987) fun o =>
      match o with
      | (b5038, p5039, p5040) =>
        some ((.tup []), b5038, p5039, p5040))
theorem c89_9 (N : Nat) : ∀ (fu : Nat) (p4981 : PV) (x4982 : Int) (x4983 : Int) (p4984 : PV) (b4985 : Bool) (p4986 : PV) (p4987 : PV) (r : PV) (b5044 : Bool) (p5045 : PV) (p5046 : PV) (h : m89_9 N fu p4981 x4982 x4983 p4984 b4985 p4986 p4987 = some (r, b5044, p5045, p5046)), V.Fn Try.prog 89 6 [.v p4981, .ptr 0 0, .ptr 1 0, .ptr 5 0] [(0, .p [(.int .i64 x4982)]), (1, .r [.fn 57 [.v (.ipt [(.int .i64 x4983)]), .ptr 2 0, .v (.ipt [p4984]), .ptr 3 0, .ptr 4 0]]), (2, .p [(.bool b4985)]), (3, .p [p4986]), (4, .p [p4987]), (5, .r [.fn 89 [.ptr 0 0, .ptr 1 0, .ptr 5 0]])] (fun d ob' => d = .v r ∧ ob' = [(0, .p [(.int .i64 x4982)]), (1, .r [.fn 57 [.v (.ipt [(.int .i64 x4983)]), .ptr 2 0, .v (.ipt [p4984]), .ptr 3 0, .ptr 4 0]]), (2, .p [(.bool b5044)]), (3, .p [p5045]), (4, .p [p5046]), (5, .r [.fn 89 [.ptr 0 0, .ptr 1 0, .ptr 5 0]])]) := by
  intro fu
  induction fu with
  | zero => intro p4981 x4982 x4983 p4984 b4985 p4986 p4987 r b5044 p5045 p5046 h; cases h
  | succ fu ih =>
    intro p4981 x4982 x4983 p4984 b4985 p4986 p4987 r b5044 p5045 p5046 h
    rw [m89_9] at h
    refine Fn_of (sz := 33) tab_ok [0, 1, 2, 3, 5, 9, 13, 14, 15, 20] [] Try.func89 rfl rfl rfl (by simp) ?_
    simp only [initSt, initEnv, List.map_cons, List.map_nil, List.getD_cons_zero, List.getD_cons_succ, List.getD_nil]
    have hh := getL_some h; clear h; obtain ⟨n4992, c4993, h4991, h⟩ := hh
    have hh := brn_some h; clear h; rcases hh with ⟨h4994, h⟩ | ⟨h4994, h⟩
    · have hh := bnd'_some h; clear h; obtain ⟨⟨p4995, b4997, p4998, p4999⟩, h4996, h⟩ := hh
      (try dsimp only at h)
      refine W_sound tab_ok mixed 13 _ _ _ ?_
      simp -implicitDefEqProofs only [go_sem, Nat.reduceBEq, Nat.reduceAdd, Nat.reduceSub, Nat.reduceMul, Nat.reduceLT, Nat.reduceLeDiff, Int.reduceLE, Int.reduceLT, Int.reduceToNat, Int.reduceBEq, Int.reduceBNe, ↓reduceIte, h4991, h4994]
      repeat with_reducible refine And.intro (by first | kernel_rfl | decide) ?_
      refine Wp_callD [2, 3, 4] (c57_3 N _ _ _ _ _ _ _ _ _ _ h4996) rfl rfl rfl (by first | rfl | (simp only [go_sem, Nat.reduceBEq, Nat.reduceAdd, Nat.reduceSub, Nat.reduceMul, Nat.reduceLT, Nat.reduceLeDiff, Int.reduceLE, Int.reduceLT, Int.reduceToNat, Int.reduceBEq, Int.reduceBNe, ↓reduceIte, h4991, h4994] <;> rfl)) rfl (by kernel_rfl) ?_
      have hh := getT0_some h; clear h; obtain ⟨h5000, h⟩ := hh
      refine W_sound tab_ok mixed 3 _ _ _ ?_
      simp -implicitDefEqProofs only [go_sem, Nat.reduceBEq, Nat.reduceAdd, Nat.reduceSub, Nat.reduceMul, Nat.reduceLT, Nat.reduceLeDiff, Int.reduceLE, Int.reduceLT, Int.reduceToNat, Int.reduceBEq, Int.reduceBNe, ↓reduceIte, h4991, h4994, h5000]
      repeat with_reducible refine And.intro (by first | kernel_rfl | decide) ?_
      simp only [Option.some.injEq, Prod.mk.injEq] at h; obtain ⟨rfl, rfl, rfl, rfl⟩ := h
      exact finD (st' := ⟨[], [(0, .dead), (1, .dead), (2, .dead), (3, .dead), (5, .dead), (9, .dead), (13, .dead), (14, .dead), (15, .dead), (20, .dead)], [(0, .p [(.int .i64 x4982)]), (1, .r [.fn 57 [.v (.ipt [(.int .i64 x4983)]), .ptr 2 0, .v (.ipt [p4984]), .ptr 3 0, .ptr 4 0]]), (2, .p [(.bool b4997)]), (3, .p [p4998]), (4, .p [p4999]), (5, .r [.fn 89 [.ptr 0 0, .ptr 1 0, .ptr 5 0]])], 6, []⟩) (keepE_le [] _) (OLe.refl _) (by kernel_rfl) (by simp only [go_sem, Nat.reduceBEq, Nat.reduceAdd, Nat.reduceSub, Nat.reduceMul, Nat.reduceLT, Nat.reduceLeDiff, Int.reduceLE, Int.reduceLT, Int.reduceToNat, Int.reduceBEq, Int.reduceBNe, ↓reduceIte, resQ_tmp, resQ_cell, resQ_nil, retD_one, retD_two, retD_three, retD_none]; (try simp [R.val, retD_one, retD_two, retD_three, retD_none]); try assumption)
    · refine W_sound tab_ok mixed 15 _ _ _ ?_
      simp -implicitDefEqProofs only [go_sem, Nat.reduceBEq, Nat.reduceAdd, Nat.reduceSub, Nat.reduceMul, Nat.reduceLT, Nat.reduceLeDiff, Int.reduceLE, Int.reduceLT, Int.reduceToNat, Int.reduceBEq, Int.reduceBNe, ↓reduceIte, h4991, h4994]
      repeat with_reducible refine And.intro (by first | kernel_rfl | decide) ?_
      have hh := bnd'_some h; clear h; obtain ⟨o5047, h5048, h5049⟩ := hh
      refine Wp_cut (fun s => ∃ b5038, ∃ p5039, ∃ p5040, (b5038, p5039, p5040) = o5047 ∧ s = ⟨[], [(0, .dead), (1, .dead), (2, .dead), (3, .dead), (5, .dead), (9, .dead), (13, .dead), (14, .dead), (15, .dead), (20, .dead)], [(0, .p [(.int .i64 x4982)]), (1, .r [.fn 57 [.v (.ipt [(.int .i64 x4983)]), .ptr 2 0, .v (.ipt [p4984]), .ptr 3 0, .ptr 4 0]]), (2, .p [(.bool b5038)]), (3, .p [p5039]), (4, .p [p5040]), (5, .r [.fn 89 [.ptr 0 0, .ptr 1 0, .ptr 5 0]])], 6, []⟩) ?_ ?_
      · refine Wp_block ?_
        refine Wp_loopG (fun n s => ∃ x5018, ∃ b5019, ∃ p5020, ∃ p5021, m89_9_L0 N (m89_9 N fu) x4982 x4983 p4984 n4992 c4993 n x5018 b5019 p5020 p5021 = some o5047 ∧ s = ⟨[], [(0, .v (.lst false n4992 c4993)), (1, .dead), (2, .dead), (3, .ptr 5 0), (5, .dead), (9, .dead), (13, .v (.int .i64 x4982)), (14, .v (.int .i64 x5018)), (15, .dead), (20, .dead)], [(0, .p [(.int .i64 x4982)]), (1, .r [.fn 57 [.v (.ipt [(.int .i64 x4983)]), .ptr 2 0, .v (.ipt [p4984]), .ptr 3 0, .ptr 4 0]]), (2, .p [(.bool b5019)]), (3, .p [p5020]), (4, .p [p5021]), (5, .r [.fn 89 [.ptr 0 0, .ptr 1 0, .ptr 5 0]])], 6, []⟩) N _ (Wk_keep (st' := ⟨[], [(0, .v (.lst false n4992 c4993)), (1, .dead), (2, .dead), (3, .ptr 5 0), (5, .dead), (9, .dead), (13, .v (.int .i64 x4982)), (14, .v (.int .i64 0)), (15, .dead), (20, .dead)], [(0, .p [(.int .i64 x4982)]), (1, .r [.fn 57 [.v (.ipt [(.int .i64 x4983)]), .ptr 2 0, .v (.ipt [p4984]), .ptr 3 0, .ptr 4 0]]), (2, .p [(.bool b4985)]), (3, .p [p4986]), (4, .p [p4987]), (5, .r [.fn 89 [.ptr 0 0, .ptr 1 0, .ptr 5 0]])], 6, []⟩) [0, 3, 13, 14] (by kernel_rfl)) ⟨_, _, _, _, h5048, rfl⟩ ?_
        clear h5048
        rintro n _ ⟨x5018, b5019, p5020, p5021, h5048, rfl⟩
        cases n with
        | zero => cases h5048
        | succ n =>
          rw [m89_9_L0] at h5048
          have hh := brn_some h5048; clear h5048; rcases hh with ⟨h5022, h5048⟩ | ⟨h5022, h5048⟩
          · have hh := bnd'_some h5048; clear h5048; obtain ⟨p5023, h5024, h5048⟩ := hh
            refine W_sound tab_ok mixed 18 _ _ _ ?_
            simp -implicitDefEqProofs only [go_sem, Nat.reduceBEq, Nat.reduceAdd, Nat.reduceSub, Nat.reduceMul, Nat.reduceLT, Nat.reduceLeDiff, Int.reduceLE, Int.reduceLT, Int.reduceToNat, Int.reduceBEq, Int.reduceBNe, ↓reduceIte, h4991, h4994, h5022]
            repeat with_reducible refine And.intro (by first | kernel_rfl | decide) ?_
            refine Wp_callP (c90 N _ _ _ h5024) (by kernel_rfl) rfl rfl rfl rfl (by decide) ?_
            have hh := getB_some h5048; clear h5048; obtain ⟨b5026, h5025, h5048⟩ := hh
            have hh := brn_some h5048; clear h5048; rcases hh with ⟨h5027, h5048⟩ | ⟨h5027, h5048⟩
            · refine W_sound tab_ok mixed 9 _ _ _ ?_
              simp -implicitDefEqProofs only [go_sem, Nat.reduceBEq, Nat.reduceAdd, Nat.reduceSub, Nat.reduceMul, Nat.reduceLT, Nat.reduceLeDiff, Int.reduceLE, Int.reduceLT, Int.reduceToNat, Int.reduceBEq, Int.reduceBNe, ↓reduceIte, h4991, h4994, h5022, h5025, h5027]
              repeat with_reducible refine And.intro (by first | kernel_rfl | decide) ?_
              refine cutQ _ ?_ ⟨n, Nat.lt_succ_self n, _, _, _, _, h5048, rfl⟩
              exact Wk_keep [0, 3, 13, 14] (by kernel_rfl)
            · have hh := grd_some h5048; clear h5048; obtain ⟨⟨g5028, g5029⟩, h5048⟩ := hh
              have hh := grd_some h5048; clear h5048; obtain ⟨g5030, h5048⟩ := hh
              have hh := grd_some h5048; clear h5048; obtain ⟨g5031, h5048⟩ := hh
              have hh := bnd'_some h5048; clear h5048; obtain ⟨⟨p5032, b5034, p5035, p5036⟩, h5033, h5048⟩ := hh
              (try dsimp only at h5048)
              refine W_sound tab_ok mixed 14 _ _ _ ?_
              simp -implicitDefEqProofs only [go_sem, Nat.reduceBEq, Nat.reduceAdd, Nat.reduceSub, Nat.reduceMul, Nat.reduceLT, Nat.reduceLeDiff, Int.reduceLE, Int.reduceLT, Int.reduceToNat, Int.reduceBEq, Int.reduceBNe, ↓reduceIte, h4991, h4994, h5022, h5025, h5027, g5028, g5029, g5030, g5031]
              repeat with_reducible refine And.intro (by first | kernel_rfl | decide) ?_
              refine Wp_callDF [(36, (c4993 ++ [(.int .i64 x5018)]))] [0, 1, 2, 3, 4, 5] (ih _ _ _ _ _ _ _ _ _ _ _ h5033) rfl rfl rfl (by first | rfl | (simp only [go_sem, Nat.reduceBEq, Nat.reduceAdd, Nat.reduceSub, Nat.reduceMul, Nat.reduceLT, Nat.reduceLeDiff, Int.reduceLE, Int.reduceLT, Int.reduceToNat, Int.reduceBEq, Int.reduceBNe, ↓reduceIte, h4991, h4994, h5022, h5025, h5027, g5028, g5029, g5030, g5031] <;> rfl)) rfl (by kernel_rfl) rfl rfl (by simp [roF, obL]) ?_
              have hh := getT0_some h5048; clear h5048; obtain ⟨h5037, h5048⟩ := hh
              refine W_sound tab_ok mixed 6 _ _ _ ?_
              simp -implicitDefEqProofs only [go_sem, Nat.reduceBEq, Nat.reduceAdd, Nat.reduceSub, Nat.reduceMul, Nat.reduceLT, Nat.reduceLeDiff, Int.reduceLE, Int.reduceLT, Int.reduceToNat, Int.reduceBEq, Int.reduceBNe, ↓reduceIte, h4991, h4994, h5022, h5025, h5027, g5028, g5029, g5030, g5031, h5037]
              repeat with_reducible refine And.intro (by first | kernel_rfl | decide) ?_
              refine cutQ _ ?_ ⟨n, Nat.lt_succ_self n, _, _, _, _, h5048, rfl⟩
              exact Wk_keep [0, 3, 13, 14] (by kernel_rfl)
          · refine W_sound tab_ok mixed 7 _ _ _ ?_
            simp -implicitDefEqProofs only [go_sem, Nat.reduceBEq, Nat.reduceAdd, Nat.reduceSub, Nat.reduceMul, Nat.reduceLT, Nat.reduceLeDiff, Int.reduceLE, Int.reduceLT, Int.reduceToNat, Int.reduceBEq, Int.reduceBNe, ↓reduceIte, h4991, h4994, h5022]
            repeat with_reducible refine And.intro (by first | kernel_rfl | decide) ?_
            obtain rfl := Option.some.inj h5048
            refine cutQ _ ?_ ⟨_, _, _, rfl, rfl⟩
            exact Wk_keep [] (by kernel_rfl)
      · rintro _ ⟨b5038, p5039, p5040, rfl, rfl⟩
        (try dsimp only at h5049)
        refine W_sound tab_ok mixed 1 _ _ _ ?_
        simp -implicitDefEqProofs only [go_sem, Nat.reduceBEq, Nat.reduceAdd, Nat.reduceSub, Nat.reduceMul, Nat.reduceLT, Nat.reduceLeDiff, Int.reduceLE, Int.reduceLT, Int.reduceToNat, Int.reduceBEq, Int.reduceBNe, ↓reduceIte, h4991, h4994]
        repeat with_reducible refine And.intro (by first | kernel_rfl | decide) ?_
        simp only [Option.some.injEq, Prod.mk.injEq] at h5049; obtain ⟨rfl, rfl, rfl, rfl⟩ := h5049
        exact finD (st' := ⟨[], [(0, .dead), (1, .dead), (2, .dead), (3, .dead), (5, .dead), (9, .dead), (13, .dead), (14, .dead), (15, .dead), (20, .dead)], [(0, .p [(.int .i64 x4982)]), (1, .r [.fn 57 [.v (.ipt [(.int .i64 x4983)]), .ptr 2 0, .v (.ipt [p4984]), .ptr 3 0, .ptr 4 0]]), (2, .p [(.bool b5038)]), (3, .p [p5039]), (4, .p [p5040]), (5, .r [.fn 89 [.ptr 0 0, .ptr 1 0, .ptr 5 0]])], 6, []⟩) (keepE_le [] _) (OLe.refl _) (by kernel_rfl) (by simp only [go_sem, Nat.reduceBEq, Nat.reduceAdd, Nat.reduceSub, Nat.reduceMul, Nat.reduceLT, Nat.reduceLeDiff, Int.reduceLE, Int.reduceLT, Int.reduceToNat, Int.reduceBEq, Int.reduceBNe, ↓reduceIte, resQ_tmp, resQ_cell, resQ_nil, retD_one, retD_two, retD_three, retD_none]; (try simp [R.val, retD_one, retD_two, retD_three, retD_none]); try assumption)
noncomputable def m89_L0 (N : Nat) (x5096 : Int) (x5097 : Int) (p5098 : PV) : Nat → Int → Bool → PV → PV → Option ((Bool × PV × PV))
  | 0, _, _, _, _ => none
  | n + 1, x5123, b5124, p5125, p5126 =>
    brn (decide (x5123 < x5096)) (
      bnd' (m90 N (.lst false 0 []) x5123) fun p5128 =>
      getB p5128 fun b5131 =>
      brn b5131 (
        m89_L0 N x5096 x5097 p5098 n (IntKind.i64.wrap (x5123 + 1)) b5124 p5125 p5126) (
        bnd' (m89_9 N N (.lst false 1 [(.int .i64 x5123)]) x5096 x5097 p5098 b5124 p5125 p5126) fun (p5133, b5135, p5136, p5137) =>
        getT0 p5133 <|
        m89_L0 N x5096 x5097 p5098 n (IntKind.i64.wrap (x5123 + 1)) b5135 p5136 p5137)) (
      some (b5124, p5125, p5126))
noncomputable def m89 (N : Nat) (x5096 : Int) (x5097 : Int) (p5098 : PV) (b5099 : Bool) : Option ((PV × Bool × PV × PV)) :=
  brn (0 == x5096) (
    bnd' (m57 N x5097 p5098 b5099) fun (p5104, b5106, p5107, p5108) =>
    getT0 p5104 <|
    some ((.tup []), b5106, p5107, p5108)) (
    bnd' (m89_L0 N x5096 x5097 p5098 N 0 b5099 (.lst false 0 []) (.lst false 0 [])) fun o =>
    match o with
    | (b5139, p5140, p5141) =>
      some ((.tup []), b5139, p5140, p5141))
theorem c89 (N : Nat) (x5096 : Int) (x5097 : Int) (p5098 : PV) (b5099 : Bool) (r : PV) (b5145 : Bool) (p5146 : PV) (p5147 : PV) (h : m89 N x5096 x5097 p5098 b5099 = some (r, b5145, p5146, p5147)) : V.Fn Try.prog 89 6 [.v .nl, .ptr 0 0, .ptr 1 0, .ptr 5 0] [(0, .p [(.int .i64 x5096)]), (1, .r [.fn 57 [.v (.ipt [(.int .i64 x5097)]), .ptr 2 0, .v (.ipt [p5098]), .ptr 3 0, .ptr 4 0]]), (2, .p [(.bool b5099)]), (3, .p [.nl]), (4, .p [.nl]), (5, .r [.fn 89 [.ptr 0 0, .ptr 1 0, .ptr 5 0]])] (fun d ob' => d = .v r ∧ ob' = [(0, .p [(.int .i64 x5096)]), (1, .r [.fn 57 [.v (.ipt [(.int .i64 x5097)]), .ptr 2 0, .v (.ipt [p5098]), .ptr 3 0, .ptr 4 0]]), (2, .p [(.bool b5145)]), (3, .p [p5146]), (4, .p [p5147]), (5, .r [.fn 89 [.ptr 0 0, .ptr 1 0, .ptr 5 0]])]) := by
  unfold m89 at h
  refine Fn_of (sz := 33) tab_ok [0, 1, 2, 3, 5, 9, 13, 14, 15, 20] [] Try.func89 rfl rfl rfl (by simp) ?_
  simp only [initSt, initEnv, List.map_cons, List.map_nil, List.getD_cons_zero, List.getD_cons_succ, List.getD_nil]
  have hh := brn_some h; clear h; rcases hh with ⟨h5103, h⟩ | ⟨h5103, h⟩
  · have hh := bnd'_some h; clear h; obtain ⟨⟨p5104, b5106, p5107, p5108⟩, h5105, h⟩ := hh
    (try dsimp only at h)
    refine W_sound tab_ok mixed 13 _ _ _ ?_
    simp -implicitDefEqProofs only [go_sem, Nat.reduceBEq, Nat.reduceAdd, Nat.reduceSub, Nat.reduceMul, Nat.reduceLT, Nat.reduceLeDiff, Int.reduceLE, Int.reduceLT, Int.reduceToNat, Int.reduceBEq, Int.reduceBNe, ↓reduceIte, h5103]
    repeat with_reducible refine And.intro (by first | kernel_rfl | decide) ?_
    refine Wp_callD [2, 3, 4] (c57 N _ _ _ _ _ _ _ h5105) rfl rfl rfl (by first | rfl | (simp only [go_sem, Nat.reduceBEq, Nat.reduceAdd, Nat.reduceSub, Nat.reduceMul, Nat.reduceLT, Nat.reduceLeDiff, Int.reduceLE, Int.reduceLT, Int.reduceToNat, Int.reduceBEq, Int.reduceBNe, ↓reduceIte, h5103] <;> rfl)) rfl (by kernel_rfl) ?_
    have hh := getT0_some h; clear h; obtain ⟨h5109, h⟩ := hh
    refine W_sound tab_ok mixed 3 _ _ _ ?_
    simp -implicitDefEqProofs only [go_sem, Nat.reduceBEq, Nat.reduceAdd, Nat.reduceSub, Nat.reduceMul, Nat.reduceLT, Nat.reduceLeDiff, Int.reduceLE, Int.reduceLT, Int.reduceToNat, Int.reduceBEq, Int.reduceBNe, ↓reduceIte, h5103, h5109]
    repeat with_reducible refine And.intro (by first | kernel_rfl | decide) ?_
    simp only [Option.some.injEq, Prod.mk.injEq] at h; obtain ⟨rfl, rfl, rfl, rfl⟩ := h
    exact finD (st' := ⟨[], [(0, .dead), (1, .dead), (2, .dead), (3, .dead), (5, .dead), (9, .dead), (13, .dead), (14, .dead), (15, .dead), (20, .dead)], [(0, .p [(.int .i64 x5096)]), (1, .r [.fn 57 [.v (.ipt [(.int .i64 x5097)]), .ptr 2 0, .v (.ipt [p5098]), .ptr 3 0, .ptr 4 0]]), (2, .p [(.bool b5106)]), (3, .p [p5107]), (4, .p [p5108]), (5, .r [.fn 89 [.ptr 0 0, .ptr 1 0, .ptr 5 0]])], 6, []⟩) (keepE_le [] _) (OLe.refl _) (by kernel_rfl) (by simp only [go_sem, Nat.reduceBEq, Nat.reduceAdd, Nat.reduceSub, Nat.reduceMul, Nat.reduceLT, Nat.reduceLeDiff, Int.reduceLE, Int.reduceLT, Int.reduceToNat, Int.reduceBEq, Int.reduceBNe, ↓reduceIte, resQ_tmp, resQ_cell, resQ_nil, retD_one, retD_two, retD_three, retD_none]; (try simp [R.val, retD_one, retD_two, retD_three, retD_none]); try assumption)
  · refine W_sound tab_ok mixed 15 _ _ _ ?_
    simp -implicitDefEqProofs only [go_sem, Nat.reduceBEq, Nat.reduceAdd, Nat.reduceSub, Nat.reduceMul, Nat.reduceLT, Nat.reduceLeDiff, Int.reduceLE, Int.reduceLT, Int.reduceToNat, Int.reduceBEq, Int.reduceBNe, ↓reduceIte, h5103]
    repeat with_reducible refine And.intro (by first | kernel_rfl | decide) ?_
    have hh := bnd'_some h; clear h; obtain ⟨o5148, h5149, h5150⟩ := hh
    refine Wp_cut (fun s => ∃ b5139, ∃ p5140, ∃ p5141, (b5139, p5140, p5141) = o5148 ∧ s = ⟨[], [(0, .dead), (1, .dead), (2, .dead), (3, .dead), (5, .dead), (9, .dead), (13, .dead), (14, .dead), (15, .dead), (20, .dead)], [(0, .p [(.int .i64 x5096)]), (1, .r [.fn 57 [.v (.ipt [(.int .i64 x5097)]), .ptr 2 0, .v (.ipt [p5098]), .ptr 3 0, .ptr 4 0]]), (2, .p [(.bool b5139)]), (3, .p [p5140]), (4, .p [p5141]), (5, .r [.fn 89 [.ptr 0 0, .ptr 1 0, .ptr 5 0]])], 6, []⟩) ?_ ?_
    · refine Wp_block ?_
      refine Wp_loopG (fun n s => ∃ x5123, ∃ b5124, ∃ p5125, ∃ p5126, m89_L0 N x5096 x5097 p5098 n x5123 b5124 p5125 p5126 = some o5148 ∧ s = ⟨[], [(0, .v .nl), (1, .dead), (2, .dead), (3, .ptr 5 0), (5, .dead), (9, .dead), (13, .v (.int .i64 x5096)), (14, .v (.int .i64 x5123)), (15, .dead), (20, .dead)], [(0, .p [(.int .i64 x5096)]), (1, .r [.fn 57 [.v (.ipt [(.int .i64 x5097)]), .ptr 2 0, .v (.ipt [p5098]), .ptr 3 0, .ptr 4 0]]), (2, .p [(.bool b5124)]), (3, .p [p5125]), (4, .p [p5126]), (5, .r [.fn 89 [.ptr 0 0, .ptr 1 0, .ptr 5 0]])], 6, []⟩) N _ ((Wk_le (.cons _ _ _ _ _ (.refl _) (.cons _ _ _ _ _ (.dead _) (.cons _ _ _ _ _ (.dead _) (.cons _ _ _ _ _ (.refl _) (.cons _ _ _ _ _ (.refl _) (.cons _ _ _ _ _ (.dead _) (.cons _ _ _ _ _ (.refl _) (.cons _ _ _ _ _ (.refl _) (.cons _ _ _ _ _ (.refl _) (.cons _ _ _ _ _ (.refl _) .nil)))))))))) (.cons _ _ _ _ _ (DLes.refl _) (.cons _ _ _ _ _ (DLes.refl _) (.cons _ _ _ _ _ (DLes.refl _) (.cons _ (.p _) (.p _) _ _ (DLes.of_p (.cons _ _ _ _ (.nl false) .nil)) (.cons _ (.p _) (.p _) _ _ (DLes.of_p (.cons _ _ _ _ (.nl false) .nil)) (.cons _ _ _ _ _ (DLes.refl _) .nil))))))).trans (cmpS_ok (st' := ⟨[], [(0, .v .nl), (1, .dead), (2, .dead), (3, .ptr 5 0), (5, .dead), (9, .dead), (13, .v (.int .i64 x5096)), (14, .v (.int .i64 0)), (15, .dead), (20, .dead)], [(0, .p [(.int .i64 x5096)]), (1, .r [.fn 57 [.v (.ipt [(.int .i64 x5097)]), .ptr 2 0, .v (.ipt [p5098]), .ptr 3 0, .ptr 4 0]]), (2, .p [(.bool b5099)]), (3, .p [(.lst false 0 [])]), (4, .p [(.lst false 0 [])]), (5, .r [.fn 89 [.ptr 0 0, .ptr 1 0, .ptr 5 0]])], 6, []⟩) (by kernel_rfl))) ⟨_, _, _, _, h5149, rfl⟩ ?_
      clear h5149
      rintro n _ ⟨x5123, b5124, p5125, p5126, h5149, rfl⟩
      cases n with
      | zero => cases h5149
      | succ n =>
        rw [m89_L0] at h5149
        have hh := brn_some h5149; clear h5149; rcases hh with ⟨h5127, h5149⟩ | ⟨h5127, h5149⟩
        · have hh := bnd'_some h5149; clear h5149; obtain ⟨p5128, h5129, h5149⟩ := hh
          refine W_sound tab_ok mixed 18 _ _ _ ?_
          simp -implicitDefEqProofs only [go_sem, Nat.reduceBEq, Nat.reduceAdd, Nat.reduceSub, Nat.reduceMul, Nat.reduceLT, Nat.reduceLeDiff, Int.reduceLE, Int.reduceLT, Int.reduceToNat, Int.reduceBEq, Int.reduceBNe, ↓reduceIte, h5103, h5127]
          repeat with_reducible refine And.intro (by first | kernel_rfl | decide) ?_
          refine Wp_callP (FnP_le (c90 N _ _ _ h5129) (.cons _ _ _ _ (.nl false) (.cons _ _ _ _ (.refl _) .nil)) (.refl _)) (by kernel_rfl) rfl rfl rfl rfl (by decide) ?_
          have hh := getB_some h5149; clear h5149; obtain ⟨b5131, h5130, h5149⟩ := hh
          have hh := brn_some h5149; clear h5149; rcases hh with ⟨h5132, h5149⟩ | ⟨h5132, h5149⟩
          · refine W_sound tab_ok mixed 9 _ _ _ ?_
            simp -implicitDefEqProofs only [go_sem, Nat.reduceBEq, Nat.reduceAdd, Nat.reduceSub, Nat.reduceMul, Nat.reduceLT, Nat.reduceLeDiff, Int.reduceLE, Int.reduceLT, Int.reduceToNat, Int.reduceBEq, Int.reduceBNe, ↓reduceIte, h5103, h5127, h5130, h5132]
            repeat with_reducible refine And.intro (by first | kernel_rfl | decide) ?_
            refine cutQ _ ?_ ⟨n, Nat.lt_succ_self n, _, _, _, _, h5149, rfl⟩
            exact Wk_keep [0, 3, 13, 14] (by kernel_rfl)
          · have hh := bnd'_some h5149; clear h5149; obtain ⟨⟨p5133, b5135, p5136, p5137⟩, h5134, h5149⟩ := hh
            (try dsimp only at h5149)
            refine W_sound tab_ok mixed 14 _ _ _ ?_
            simp -implicitDefEqProofs only [go_sem, Nat.reduceBEq, Nat.reduceAdd, Nat.reduceSub, Nat.reduceMul, Nat.reduceLT, Nat.reduceLeDiff, Int.reduceLE, Int.reduceLT, Int.reduceToNat, Int.reduceBEq, Int.reduceBNe, ↓reduceIte, h5103, h5127, h5130, h5132]
            repeat with_reducible refine And.intro (by first | kernel_rfl | decide) ?_
            refine Wp_callDF [(36, [(.int .i64 x5123)])] [0, 1, 2, 3, 4, 5] (c89_9 N N _ _ _ _ _ _ _ _ _ _ _ h5134) rfl rfl rfl (by first | rfl | (simp only [go_sem, Nat.reduceBEq, Nat.reduceAdd, Nat.reduceSub, Nat.reduceMul, Nat.reduceLT, Nat.reduceLeDiff, Int.reduceLE, Int.reduceLT, Int.reduceToNat, Int.reduceBEq, Int.reduceBNe, ↓reduceIte, h5103, h5127, h5130, h5132] <;> rfl)) rfl (by kernel_rfl) rfl rfl (by simp [roF, obL]) ?_
            have hh := getT0_some h5149; clear h5149; obtain ⟨h5138, h5149⟩ := hh
            refine W_sound tab_ok mixed 6 _ _ _ ?_
            simp -implicitDefEqProofs only [go_sem, Nat.reduceBEq, Nat.reduceAdd, Nat.reduceSub, Nat.reduceMul, Nat.reduceLT, Nat.reduceLeDiff, Int.reduceLE, Int.reduceLT, Int.reduceToNat, Int.reduceBEq, Int.reduceBNe, ↓reduceIte, h5103, h5127, h5130, h5132, h5138]
            repeat with_reducible refine And.intro (by first | kernel_rfl | decide) ?_
            refine cutQ _ ?_ ⟨n, Nat.lt_succ_self n, _, _, _, _, h5149, rfl⟩
            exact Wk_keep [0, 3, 13, 14] (by kernel_rfl)
        · refine W_sound tab_ok mixed 7 _ _ _ ?_
          simp -implicitDefEqProofs only [go_sem, Nat.reduceBEq, Nat.reduceAdd, Nat.reduceSub, Nat.reduceMul, Nat.reduceLT, Nat.reduceLeDiff, Int.reduceLE, Int.reduceLT, Int.reduceToNat, Int.reduceBEq, Int.reduceBNe, ↓reduceIte, h5103, h5127]
          repeat with_reducible refine And.intro (by first | kernel_rfl | decide) ?_
          obtain rfl := Option.some.inj h5149
          refine cutQ _ ?_ ⟨_, _, _, rfl, rfl⟩
          exact Wk_keep [] (by kernel_rfl)
    · rintro _ ⟨b5139, p5140, p5141, rfl, rfl⟩
      (try dsimp only at h5150)
      refine W_sound tab_ok mixed 1 _ _ _ ?_
      simp -implicitDefEqProofs only [go_sem, Nat.reduceBEq, Nat.reduceAdd, Nat.reduceSub, Nat.reduceMul, Nat.reduceLT, Nat.reduceLeDiff, Int.reduceLE, Int.reduceLT, Int.reduceToNat, Int.reduceBEq, Int.reduceBNe, ↓reduceIte, h5103]
      repeat with_reducible refine And.intro (by first | kernel_rfl | decide) ?_
      simp only [Option.some.injEq, Prod.mk.injEq] at h5150; obtain ⟨rfl, rfl, rfl, rfl⟩ := h5150
      exact finD (st' := ⟨[], [(0, .dead), (1, .dead), (2, .dead), (3, .dead), (5, .dead), (9, .dead), (13, .dead), (14, .dead), (15, .dead), (20, .dead)], [(0, .p [(.int .i64 x5096)]), (1, .r [.fn 57 [.v (.ipt [(.int .i64 x5097)]), .ptr 2 0, .v (.ipt [p5098]), .ptr 3 0, .ptr 4 0]]), (2, .p [(.bool b5139)]), (3, .p [p5140]), (4, .p [p5141]), (5, .r [.fn 89 [.ptr 0 0, .ptr 1 0, .ptr 5 0]])], 6, []⟩) (keepE_le [] _) (OLe.refl _) (by kernel_rfl) (by simp only [go_sem, Nat.reduceBEq, Nat.reduceAdd, Nat.reduceSub, Nat.reduceMul, Nat.reduceLT, Nat.reduceLeDiff, Int.reduceLE, Int.reduceLT, Int.reduceToNat, Int.reduceBEq, Int.reduceBNe, ↓reduceIte, resQ_tmp, resQ_cell, resQ_nil, retD_one, retD_two, retD_three, retD_none]; (try simp [R.val, retD_one, retD_two, retD_three, retD_none]); try assumption)
noncomputable def m56 (N : Nat) (x5160 : Int) (x5161 : Int) (p5162 : PV) (b5163 : Bool) : Option ((PV × Bool × PV × PV)) :=
  bnd' (m89 N x5160 x5161 p5162 b5163) fun (p5167, b5169, p5170, p5171) =>
  getT0 p5167 <|
  some ((.tup []), b5169, p5170, p5171)
theorem c56 (N : Nat) (x5160 : Int) (x5161 : Int) (p5162 : PV) (b5163 : Bool) (r : PV) (b5176 : Bool) (p5177 : PV) (p5178 : PV) (h : m56 N x5160 x5161 p5162 b5163 = some (r, b5176, p5177, p5178)) : V.Fn Try.prog 56 3 [.v (.int .i64 x5160), .fn 57 [.v (.ipt [(.int .i64 x5161)]), .ptr 0 0, .v (.ipt [p5162]), .ptr 1 0, .ptr 2 0]] [(0, .p [(.bool b5163)]), (1, .p [.nl]), (2, .p [.nl])] (fun d ob' => d = .v r ∧ ob' = [(0, .p [(.bool b5176)]), (1, .p [p5177]), (2, .p [p5178])]) := by
  unfold m56 at h
  refine Fn_of (sz := 8) tab_ok [0, 1, 2, 3, 4] [] Try.func56 rfl rfl rfl (by simp) ?_
  simp only [initSt, initEnv, List.map_cons, List.map_nil, List.getD_cons_zero, List.getD_cons_succ, List.getD_nil]
  have hh := bnd'_some h; clear h; obtain ⟨⟨p5167, b5169, p5170, p5171⟩, h5168, h⟩ := hh
  (try dsimp only at h)
  refine W_sound tab_ok mixed 16 _ _ _ ?_
  simp -implicitDefEqProofs only [go_sem, Nat.reduceBEq, Nat.reduceAdd, Nat.reduceSub, Nat.reduceMul, Nat.reduceLT, Nat.reduceLeDiff, Int.reduceLE, Int.reduceLT, Int.reduceToNat, Int.reduceBEq, Int.reduceBNe, ↓reduceIte]
  repeat with_reducible refine And.intro (by first | kernel_rfl | decide) ?_
  refine Wp_callD [5, 6, 0, 1, 2, 11] (c89 N _ _ _ _ _ _ _ _ h5168) rfl rfl rfl (by first | rfl | (simp only [go_sem, Nat.reduceBEq, Nat.reduceAdd, Nat.reduceSub, Nat.reduceMul, Nat.reduceLT, Nat.reduceLeDiff, Int.reduceLE, Int.reduceLT, Int.reduceToNat, Int.reduceBEq, Int.reduceBNe, ↓reduceIte] <;> rfl)) rfl (by kernel_rfl) ?_
  have hh := getT0_some h; clear h; obtain ⟨h5172, h⟩ := hh
  refine W_sound tab_ok mixed 2 _ _ _ ?_
  simp -implicitDefEqProofs only [go_sem, Nat.reduceBEq, Nat.reduceAdd, Nat.reduceSub, Nat.reduceMul, Nat.reduceLT, Nat.reduceLeDiff, Int.reduceLE, Int.reduceLT, Int.reduceToNat, Int.reduceBEq, Int.reduceBNe, ↓reduceIte, h5172]
  repeat with_reducible refine And.intro (by first | kernel_rfl | decide) ?_
  simp only [Option.some.injEq, Prod.mk.injEq] at h; obtain ⟨rfl, rfl, rfl, rfl⟩ := h
  exact finD (st' := ⟨[], [(0, .dead), (1, .dead), (2, .dead), (3, .dead), (4, .dead)], [(0, .p [(.bool b5169)]), (1, .p [p5170]), (2, .p [p5171])], 3, []⟩) (keepE_le [] _) (OLe.refl _) (by kernel_rfl) (by simp only [go_sem, Nat.reduceBEq, Nat.reduceAdd, Nat.reduceSub, Nat.reduceMul, Nat.reduceLT, Nat.reduceLeDiff, Int.reduceLE, Int.reduceLT, Int.reduceToNat, Int.reduceBEq, Int.reduceBNe, ↓reduceIte, resQ_tmp, resQ_cell, resQ_nil, retD_one, retD_two, retD_three, retD_none]; (try simp [R.val, retD_one, retD_two, retD_three, retD_none]); try assumption)
noncomputable def m14 (N : Nat) (p2272 : PV) : Option (PV) :=
  getA p2272 fun c2274 =>
  grd (37 ≤ List.length c2274) <|
  bnd' (m44 N (.agg (List.take 37 c2274))) fun p2276 =>
  getT2 p2276 fun p2279 p2280 =>
  getL p2279 fun n2282 c2283 =>
  getA2 p2280 fun p2285 p2286 =>
  grd (0 < ((n2282 : Nat) : Int)) <|
  grd (0 < List.length c2283) <|
  getL (gp c2283 0) fun n2290 c2291 =>
  bnd' (m35 N (.lst false n2282 c2283)) fun p2292 =>
  getT3 p2292 fun p2295 p2296 p2297 =>
  getL p2295 fun n2299 c2300 =>
  getL p2296 fun n2302 c2303 =>
  getI .i64 p2297 fun x2305 =>
  bnd' (m56 N ((n2282 : Nat) : Int) ((n2290 : Nat) : Int) (.lst false n2282 c2283) false) fun (p5179, b5181, p5182, p5183) =>
  getT0 p5179 <|
  brn b5181 (
    brn (x2305 == 0) (
      getL p5182 fun n5188 c5189 =>
      bnd' (m37 N (.lst false n2299 c2300) (.lst false n5188 c5189)) fun p5190 =>
      getB p5190 fun b5193 =>
      brn b5193 (
        getL p5183 fun n5196 c5197 =>
        bnd' (m37 N (.lst false n2302 c2303) (.lst false n5196 c5197)) fun p5198 =>
        getB p5198 fun b5201 =>
        brn b5201 (
          bnd' (m17 N ) fun p5203 =>
          getB p5203 fun b5206 =>
          some (.bool b5206)) (
          some (.bool false))) (
        some (.bool false))) (
      some (.bool false))) (
    brn (x2305 == 12) (
      brn ((IntKind.i64.wrap (((n2299 : Nat) : Int) + ((n2302 : Nat) : Int))) == 0) (
        bnd' (m17 N ) fun p5209 =>
        getB p5209 fun b5212 =>
        some (.bool b5212)) (
        some (.bool false))) (
      some (.bool false)))
theorem c14 (N : Nat) (p2272 : PV) (r : PV)  (h : m14 N p2272 = some r) : FnP Try.prog 14 [p2272] r := by
  unfold m14 at h
  refine Fn_of (sz := 63) tab_ok [0, 1, 2, 3, 5, 6, 7, 8, 9, 10, 11, 12, 34] [.tmp 2] Try.func14 rfl rfl rfl (by simp) ?_
  simp only [initSt, initEnv, List.map_cons, List.map_nil, List.getD_cons_zero, List.getD_cons_succ, List.getD_nil]
  have hh := getA_some h; clear h; obtain ⟨c2274, h2273, h⟩ := hh
  have hh := grd_some h; clear h; obtain ⟨g2275, h⟩ := hh
  have hh := bnd'_some h; clear h; obtain ⟨p2276, h2277, h⟩ := hh
  refine W_sound tab_ok mixed 8 _ _ _ ?_
  simp -implicitDefEqProofs only [go_sem, Nat.reduceBEq, Nat.reduceAdd, Nat.reduceSub, Nat.reduceMul, Nat.reduceLT, Nat.reduceLeDiff, Int.reduceLE, Int.reduceLT, Int.reduceToNat, Int.reduceBEq, Int.reduceBNe, ↓reduceIte, h2273, g2275]
  repeat with_reducible refine And.intro (by first | kernel_rfl | decide) ?_
  refine Wp_callP (c44 N _ _ h2277) (by kernel_rfl) rfl rfl rfl rfl (by decide) ?_
  have hh := getT2_some h; clear h; obtain ⟨p2279, p2280, h2278, h⟩ := hh
  have hh := getL_some h; clear h; obtain ⟨n2282, c2283, h2281, h⟩ := hh
  have hh := getA2_some h; clear h; obtain ⟨p2285, p2286, h2284, h⟩ := hh
  have hh := grd_some h; clear h; obtain ⟨g2287, h⟩ := hh
  have hh := grd_some h; clear h; obtain ⟨g2288, h⟩ := hh
  have hh := getL_some h; clear h; obtain ⟨n2290, c2291, h2289, h⟩ := hh
  have hh := bnd'_some h; clear h; obtain ⟨p2292, h2293, h⟩ := hh
  refine W_sound tab_ok mixed 23 _ _ _ ?_
  simp -implicitDefEqProofs only [go_sem, Nat.reduceBEq, Nat.reduceAdd, Nat.reduceSub, Nat.reduceMul, Nat.reduceLT, Nat.reduceLeDiff, Int.reduceLE, Int.reduceLT, Int.reduceToNat, Int.reduceBEq, Int.reduceBNe, ↓reduceIte, h2273, g2275, h2278, h2281, h2284, g2287, g2288, h2289]
  repeat with_reducible refine And.intro (by first | kernel_rfl | decide) ?_
  refine Wp_callP (c35 N _ _ h2293) (by kernel_rfl) rfl rfl rfl rfl (by decide) ?_
  have hh := getT3_some h; clear h; obtain ⟨p2295, p2296, p2297, h2294, h⟩ := hh
  have hh := getL_some h; clear h; obtain ⟨n2299, c2300, h2298, h⟩ := hh
  have hh := getL_some h; clear h; obtain ⟨n2302, c2303, h2301, h⟩ := hh
  have hh := getI_some h; clear h; obtain ⟨x2305, h2304, h⟩ := hh
  refine W_sound tab_ok mixed 19 _ _ _ ?_
  simp -implicitDefEqProofs only [go_sem, Nat.reduceBEq, Nat.reduceAdd, Nat.reduceSub, Nat.reduceMul, Nat.reduceLT, Nat.reduceLeDiff, Int.reduceLE, Int.reduceLT, Int.reduceToNat, Int.reduceBEq, Int.reduceBNe, ↓reduceIte, h2273, g2275, h2278, h2281, h2284, g2287, g2288, h2289, h2294, h2298, h2301, h2304]
  repeat with_reducible refine And.intro (by first | kernel_rfl | decide) ?_
  refine Wp_wkK (Wk_freeze 13 [(.int .i64 ((n2290 : Nat) : Int))] (by rfl) (by decide) (by decide)) rfl ?_
  simp -implicitDefEqProofs only [go_sem, Nat.reduceBEq, Nat.reduceAdd, Nat.reduceSub, Nat.reduceMul, Nat.reduceLT, Nat.reduceLeDiff, Int.reduceLE, Int.reduceLT, Int.reduceToNat, Int.reduceBEq, Int.reduceBNe, ↓reduceIte, h2273, g2275, h2278, h2281, h2284, g2287, g2288, h2289, h2294, h2298, h2301, h2304]
  refine Wp_wkK (Wk_freeze 5 [(.lst false n2282 c2283)] (by rfl) (by decide) (by decide)) rfl ?_
  simp -implicitDefEqProofs only [go_sem, Nat.reduceBEq, Nat.reduceAdd, Nat.reduceSub, Nat.reduceMul, Nat.reduceLT, Nat.reduceLeDiff, Int.reduceLE, Int.reduceLT, Int.reduceToNat, Int.reduceBEq, Int.reduceBNe, ↓reduceIte, h2273, g2275, h2278, h2281, h2284, g2287, g2288, h2289, h2294, h2298, h2301, h2304]
  have hh := bnd'_some h; clear h; obtain ⟨⟨p5179, b5181, p5182, p5183⟩, h5180, h⟩ := hh
  (try dsimp only at h)
  refine W_sound tab_ok mixed 3 _ _ _ ?_
  simp -implicitDefEqProofs only [go_sem, Nat.reduceBEq, Nat.reduceAdd, Nat.reduceSub, Nat.reduceMul, Nat.reduceLT, Nat.reduceLeDiff, Int.reduceLE, Int.reduceLT, Int.reduceToNat, Int.reduceBEq, Int.reduceBNe, ↓reduceIte, h2273, g2275, h2278, h2281, h2284, g2287, g2288, h2289, h2294, h2298, h2301, h2304]
  repeat with_reducible refine And.intro (by first | kernel_rfl | decide) ?_
  refine Wp_callD [38, 24, 25] (c56 N _ _ _ _ _ _ _ _ h5180) rfl rfl rfl (by first | rfl | (simp only [go_sem, Nat.reduceBEq, Nat.reduceAdd, Nat.reduceSub, Nat.reduceMul, Nat.reduceLT, Nat.reduceLeDiff, Int.reduceLE, Int.reduceLT, Int.reduceToNat, Int.reduceBEq, Int.reduceBNe, ↓reduceIte, h2273, g2275, h2278, h2281, h2284, g2287, g2288, h2289, h2294, h2298, h2301, h2304] <;> rfl)) rfl (by kernel_rfl) ?_
  have hh := getT0_some h; clear h; obtain ⟨h5184, h⟩ := hh
  have hh := brn_some h; clear h; rcases hh with ⟨h5185, h⟩ | ⟨h5185, h⟩
  · have hh := brn_some h; clear h; rcases hh with ⟨h5186, h⟩ | ⟨h5186, h⟩
    · have hh := getL_some h; clear h; obtain ⟨n5188, c5189, h5187, h⟩ := hh
      have hh := bnd'_some h; clear h; obtain ⟨p5190, h5191, h⟩ := hh
      refine W_sound tab_ok mixed 16 _ _ _ ?_
      simp -implicitDefEqProofs only [go_sem, Nat.reduceBEq, Nat.reduceAdd, Nat.reduceSub, Nat.reduceMul, Nat.reduceLT, Nat.reduceLeDiff, Int.reduceLE, Int.reduceLT, Int.reduceToNat, Int.reduceBEq, Int.reduceBNe, ↓reduceIte, h2273, g2275, h2278, h2281, h2284, g2287, g2288, h2289, h2294, h2298, h2301, h2304, h5184, h5185, h5186, h5187]
      repeat with_reducible refine And.intro (by first | kernel_rfl | decide) ?_
      refine Wp_callP (c37 N _ _ _ h5191) (by kernel_rfl) rfl rfl rfl rfl (by decide) ?_
      have hh := getB_some h; clear h; obtain ⟨b5193, h5192, h⟩ := hh
      have hh := brn_some h; clear h; rcases hh with ⟨h5194, h⟩ | ⟨h5194, h⟩
      · have hh := getL_some h; clear h; obtain ⟨n5196, c5197, h5195, h⟩ := hh
        have hh := bnd'_some h; clear h; obtain ⟨p5198, h5199, h⟩ := hh
        refine W_sound tab_ok mixed 4 _ _ _ ?_
        simp -implicitDefEqProofs only [go_sem, Nat.reduceBEq, Nat.reduceAdd, Nat.reduceSub, Nat.reduceMul, Nat.reduceLT, Nat.reduceLeDiff, Int.reduceLE, Int.reduceLT, Int.reduceToNat, Int.reduceBEq, Int.reduceBNe, ↓reduceIte, h2273, g2275, h2278, h2281, h2284, g2287, g2288, h2289, h2294, h2298, h2301, h2304, h5184, h5185, h5186, h5187, h5192, h5194, h5195]
        repeat with_reducible refine And.intro (by first | kernel_rfl | decide) ?_
        refine Wp_callP (c37 N _ _ _ h5199) (by kernel_rfl) rfl rfl rfl rfl (by decide) ?_
        have hh := getB_some h; clear h; obtain ⟨b5201, h5200, h⟩ := hh
        have hh := brn_some h; clear h; rcases hh with ⟨h5202, h⟩ | ⟨h5202, h⟩
        · have hh := bnd'_some h; clear h; obtain ⟨p5203, h5204, h⟩ := hh
          refine W_sound tab_ok mixed 2 _ _ _ ?_
          simp -implicitDefEqProofs only [go_sem, Nat.reduceBEq, Nat.reduceAdd, Nat.reduceSub, Nat.reduceMul, Nat.reduceLT, Nat.reduceLeDiff, Int.reduceLE, Int.reduceLT, Int.reduceToNat, Int.reduceBEq, Int.reduceBNe, ↓reduceIte, h2273, g2275, h2278, h2281, h2284, g2287, g2288, h2289, h2294, h2298, h2301, h2304, h5184, h5185, h5186, h5187, h5192, h5194, h5195, h5200, h5202]
          repeat with_reducible refine And.intro (by first | kernel_rfl | decide) ?_
          refine Wp_callP (c17 N  _ h5204) (by kernel_rfl) rfl rfl rfl rfl (by decide) ?_
          have hh := getB_some h; clear h; obtain ⟨b5206, h5205, h⟩ := hh
          refine W_sound tab_ok mixed 5 _ _ _ ?_
          simp -implicitDefEqProofs only [go_sem, Nat.reduceBEq, Nat.reduceAdd, Nat.reduceSub, Nat.reduceMul, Nat.reduceLT, Nat.reduceLeDiff, Int.reduceLE, Int.reduceLT, Int.reduceToNat, Int.reduceBEq, Int.reduceBNe, ↓reduceIte, h2273, g2275, h2278, h2281, h2284, g2287, g2288, h2289, h2294, h2298, h2301, h2304, h5184, h5185, h5186, h5187, h5192, h5194, h5195, h5200, h5202, h5205]
          repeat with_reducible refine And.intro (by first | kernel_rfl | decide) ?_
          obtain rfl := Option.some.inj h
          exact finC [(2, .v (.bool b5206))] [(2, .v (.bool b5206))] (by simp [leE, lk_cons]) (.cons _ _ _ _ _ (.v _ _ (.refl _)) .nil) (by rfl) (by simp [leE, lk_cons]) (by decide) (by decide) rfl (by simp only [go_sem, Nat.reduceBEq, Nat.reduceAdd, Nat.reduceSub, Nat.reduceMul, Nat.reduceLT, Nat.reduceLeDiff, Int.reduceLE, Int.reduceLT, Int.reduceToNat, Int.reduceBEq, Int.reduceBNe, ↓reduceIte, resQ_tmp, resQ_cell, resQ_nil, retD_one, retD_two, retD_three, retD_none]; (try simp [R.val, retD_one, retD_two, retD_three, retD_none]); try assumption)
        · refine W_sound tab_ok mixed 8 _ _ _ ?_
          simp -implicitDefEqProofs only [go_sem, Nat.reduceBEq, Nat.reduceAdd, Nat.reduceSub, Nat.reduceMul, Nat.reduceLT, Nat.reduceLeDiff, Int.reduceLE, Int.reduceLT, Int.reduceToNat, Int.reduceBEq, Int.reduceBNe, ↓reduceIte, h2273, g2275, h2278, h2281, h2284, g2287, g2288, h2289, h2294, h2298, h2301, h2304, h5184, h5185, h5186, h5187, h5192, h5194, h5195, h5200, h5202]
          repeat with_reducible refine And.intro (by first | kernel_rfl | decide) ?_
          obtain rfl := Option.some.inj h
          exact finC [(2, .v (.bool false))] [(2, .v (.bool false))] (by simp [leE, lk_cons]) (.cons _ _ _ _ _ (.v _ _ (.refl _)) .nil) (by rfl) (by simp [leE, lk_cons]) (by decide) (by decide) rfl (by simp only [go_sem, Nat.reduceBEq, Nat.reduceAdd, Nat.reduceSub, Nat.reduceMul, Nat.reduceLT, Nat.reduceLeDiff, Int.reduceLE, Int.reduceLT, Int.reduceToNat, Int.reduceBEq, Int.reduceBNe, ↓reduceIte, resQ_tmp, resQ_cell, resQ_nil, retD_one, retD_two, retD_three, retD_none]; (try simp [R.val, retD_one, retD_two, retD_three, retD_none]); try assumption)
      · refine W_sound tab_ok mixed 13 _ _ _ ?_
        simp -implicitDefEqProofs only [go_sem, Nat.reduceBEq, Nat.reduceAdd, Nat.reduceSub, Nat.reduceMul, Nat.reduceLT, Nat.reduceLeDiff, Int.reduceLE, Int.reduceLT, Int.reduceToNat, Int.reduceBEq, Int.reduceBNe, ↓reduceIte, h2273, g2275, h2278, h2281, h2284, g2287, g2288, h2289, h2294, h2298, h2301, h2304, h5184, h5185, h5186, h5187, h5192, h5194]
        repeat with_reducible refine And.intro (by first | kernel_rfl | decide) ?_
        obtain rfl := Option.some.inj h
        exact finC [(2, .v (.bool false))] [(2, .v (.bool false))] (by simp [leE, lk_cons]) (.cons _ _ _ _ _ (.v _ _ (.refl _)) .nil) (by rfl) (by simp [leE, lk_cons]) (by decide) (by decide) rfl (by simp only [go_sem, Nat.reduceBEq, Nat.reduceAdd, Nat.reduceSub, Nat.reduceMul, Nat.reduceLT, Nat.reduceLeDiff, Int.reduceLE, Int.reduceLT, Int.reduceToNat, Int.reduceBEq, Int.reduceBNe, ↓reduceIte, resQ_tmp, resQ_cell, resQ_nil, retD_one, retD_two, retD_three, retD_none]; (try simp [R.val, retD_one, retD_two, retD_three, retD_none]); try assumption)
    · refine W_sound tab_ok mixed 30 _ _ _ ?_
      simp -implicitDefEqProofs only [go_sem, Nat.reduceBEq, Nat.reduceAdd, Nat.reduceSub, Nat.reduceMul, Nat.reduceLT, Nat.reduceLeDiff, Int.reduceLE, Int.reduceLT, Int.reduceToNat, Int.reduceBEq, Int.reduceBNe, ↓reduceIte, h2273, g2275, h2278, h2281, h2284, g2287, g2288, h2289, h2294, h2298, h2301, h2304, h5184, h5185, h5186]
      repeat with_reducible refine And.intro (by first | kernel_rfl | decide) ?_
      obtain rfl := Option.some.inj h
      exact finC [(2, .v (.bool false))] [(2, .v (.bool false))] (by simp [leE, lk_cons]) (.cons _ _ _ _ _ (.v _ _ (.refl _)) .nil) (by rfl) (by simp [leE, lk_cons]) (by decide) (by decide) rfl (by simp only [go_sem, Nat.reduceBEq, Nat.reduceAdd, Nat.reduceSub, Nat.reduceMul, Nat.reduceLT, Nat.reduceLeDiff, Int.reduceLE, Int.reduceLT, Int.reduceToNat, Int.reduceBEq, Int.reduceBNe, ↓reduceIte, resQ_tmp, resQ_cell, resQ_nil, retD_one, retD_two, retD_three, retD_none]; (try simp [R.val, retD_one, retD_two, retD_three, retD_none]); try assumption)
  · have hh := brn_some h; clear h; rcases hh with ⟨h5207, h⟩ | ⟨h5207, h⟩
    · have hh := brn_some h; clear h; rcases hh with ⟨h5208, h⟩ | ⟨h5208, h⟩
      · have hh := bnd'_some h; clear h; obtain ⟨p5209, h5210, h⟩ := hh
        refine W_sound tab_ok mixed 21 _ _ _ ?_
        simp -implicitDefEqProofs only [go_sem, Nat.reduceBEq, Nat.reduceAdd, Nat.reduceSub, Nat.reduceMul, Nat.reduceLT, Nat.reduceLeDiff, Int.reduceLE, Int.reduceLT, Int.reduceToNat, Int.reduceBEq, Int.reduceBNe, ↓reduceIte, h2273, g2275, h2278, h2281, h2284, g2287, g2288, h2289, h2294, h2298, h2301, h2304, h5184, h5185, h5207, h5208]
        repeat with_reducible refine And.intro (by first | kernel_rfl | decide) ?_
        refine Wp_callP (c17 N  _ h5210) (by kernel_rfl) rfl rfl rfl rfl (by decide) ?_
        have hh := getB_some h; clear h; obtain ⟨b5212, h5211, h⟩ := hh
        refine W_sound tab_ok mixed 5 _ _ _ ?_
        simp -implicitDefEqProofs only [go_sem, Nat.reduceBEq, Nat.reduceAdd, Nat.reduceSub, Nat.reduceMul, Nat.reduceLT, Nat.reduceLeDiff, Int.reduceLE, Int.reduceLT, Int.reduceToNat, Int.reduceBEq, Int.reduceBNe, ↓reduceIte, h2273, g2275, h2278, h2281, h2284, g2287, g2288, h2289, h2294, h2298, h2301, h2304, h5184, h5185, h5207, h5208, h5211]
        repeat with_reducible refine And.intro (by first | kernel_rfl | decide) ?_
        obtain rfl := Option.some.inj h
        exact finC [(2, .v (.bool b5212))] [(2, .v (.bool b5212))] (by simp [leE, lk_cons]) (.cons _ _ _ _ _ (.v _ _ (.refl _)) .nil) (by rfl) (by simp [leE, lk_cons]) (by decide) (by decide) rfl (by simp only [go_sem, Nat.reduceBEq, Nat.reduceAdd, Nat.reduceSub, Nat.reduceMul, Nat.reduceLT, Nat.reduceLeDiff, Int.reduceLE, Int.reduceLT, Int.reduceToNat, Int.reduceBEq, Int.reduceBNe, ↓reduceIte, resQ_tmp, resQ_cell, resQ_nil, retD_one, retD_two, retD_three, retD_none]; (try simp [R.val, retD_one, retD_two, retD_three, retD_none]); try assumption)
      · refine W_sound tab_ok mixed 27 _ _ _ ?_
        simp -implicitDefEqProofs only [go_sem, Nat.reduceBEq, Nat.reduceAdd, Nat.reduceSub, Nat.reduceMul, Nat.reduceLT, Nat.reduceLeDiff, Int.reduceLE, Int.reduceLT, Int.reduceToNat, Int.reduceBEq, Int.reduceBNe, ↓reduceIte, h2273, g2275, h2278, h2281, h2284, g2287, g2288, h2289, h2294, h2298, h2301, h2304, h5184, h5185, h5207, h5208]
        repeat with_reducible refine And.intro (by first | kernel_rfl | decide) ?_
        obtain rfl := Option.some.inj h
        exact finC [(2, .v (.bool false))] [(2, .v (.bool false))] (by simp [leE, lk_cons]) (.cons _ _ _ _ _ (.v _ _ (.refl _)) .nil) (by rfl) (by simp [leE, lk_cons]) (by decide) (by decide) rfl (by simp only [go_sem, Nat.reduceBEq, Nat.reduceAdd, Nat.reduceSub, Nat.reduceMul, Nat.reduceLT, Nat.reduceLeDiff, Int.reduceLE, Int.reduceLT, Int.reduceToNat, Int.reduceBEq, Int.reduceBNe, ↓reduceIte, resQ_tmp, resQ_cell, resQ_nil, retD_one, retD_two, retD_three, retD_none]; (try simp [R.val, retD_one, retD_two, retD_three, retD_none]); try assumption)
    · refine W_sound tab_ok mixed 27 _ _ _ ?_
      simp -implicitDefEqProofs only [go_sem, Nat.reduceBEq, Nat.reduceAdd, Nat.reduceSub, Nat.reduceMul, Nat.reduceLT, Nat.reduceLeDiff, Int.reduceLE, Int.reduceLT, Int.reduceToNat, Int.reduceBEq, Int.reduceBNe, ↓reduceIte, h2273, g2275, h2278, h2281, h2284, g2287, g2288, h2289, h2294, h2298, h2301, h2304, h5184, h5185, h5207]
      repeat with_reducible refine And.intro (by first | kernel_rfl | decide) ?_
      obtain rfl := Option.some.inj h
      exact finC [(2, .v (.bool false))] [(2, .v (.bool false))] (by simp [leE, lk_cons]) (.cons _ _ _ _ _ (.v _ _ (.refl _)) .nil) (by rfl) (by simp [leE, lk_cons]) (by decide) (by decide) rfl (by simp only [go_sem, Nat.reduceBEq, Nat.reduceAdd, Nat.reduceSub, Nat.reduceMul, Nat.reduceLT, Nat.reduceLeDiff, Int.reduceLE, Int.reduceLT, Int.reduceToNat, Int.reduceBEq, Int.reduceBNe, ↓reduceIte, resQ_tmp, resQ_cell, resQ_nil, retD_one, retD_two, retD_three, retD_none]; (try simp [R.val, retD_one, retD_two, retD_three, retD_none]); try assumption)
end Go.Proofs.Yteidcinajdehkaa
