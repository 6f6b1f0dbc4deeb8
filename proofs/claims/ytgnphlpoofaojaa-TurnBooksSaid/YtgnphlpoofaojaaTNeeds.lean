import Derived.Test.YtgnphlpoofaojaaTCovs
import Derived.Test.YtgnphlpoofaojaaTHulls
import Derived.Test.YtgnphlpoofaojaaB
import Derived.Test.YtgnphlpoofaojaaV33
namespace Go.Proofs.Ytgnphlpoofaojaa
open Go.V
set_option maxRecDepth 100000
set_option maxHeartbeats 4000000
set_option linter.unusedSimpArgs false
set_option linter.unusedVariables false
attribute [local go_sem] tl1 tl2 tl3 tl4 tl5 tl9 tl17 tl21 tl22 tl23 tl24 tl25 tl26 tl27 tl28 tl29 tl31 tl33 tl34 tl36 tl37 tl38 tl39 tl40 tl41 tl42 tl43 tl44 tl46 tl47 tl49 tl50 tl52 tl53 tl54 tl55 tl56 tl57 tl58 tl60 tl62 tl63 tl64 tl65 tl66 tl67 tl68 tl69 tl70 tl71 tl72 tl74 tl75 tl76 tl77 tl78 tl79 tl80 tl81 tl82 tl83 tl84 tl85 tl86 tl87 tl88 tl89 tl90 tl91 tl92 tl93 tl94 tl95 tl96 tl97 tl98 tl99 tl100 tl102 tl103 tl104 tl105 tl106 tl107 tl108 tl109 tl110 tl111 tl112 tl113 tl114 tl115 tl116 tl117 tl118 tl119 tl120 tl121 tl122 tl123 tl124 tl125 tl126 tl127 tl128 tl129 tl130 tl131 tl132 tl133 tl134 tl140 tl141 tl145

def m67_L0 (N : Nat) (n2280 : Nat) (c2281 : List PV) (n2285 : Nat) (c2286 : List PV) : Nat → Nat → Int → List PV → Option ((Nat × List PV))
  | 0, _, _, _ => none
  | n + 1, n2361, x2362, c2363 =>
    brn (decide (x2362 < (IntKind.i64.wrap (((n2285 : Nat) : Int) - 1)))) (
      grd (0 ≤ x2362 ∧ x2362 < ((n2285 : Nat) : Int)) <|
      grd (0 < List.length (List.drop (Int.toNat x2362) c2286)) <|
      getI .i64 (gp c2286 (Int.toNat x2362)) fun x2369 =>
      grd (0 ≤ x2369 ∧ x2369 < ((n2280 : Nat) : Int)) <|
      grd (2 ≤ List.length (List.drop ((Int.toNat x2369) * 2) c2281)) <|
      getA2 (.agg (List.take 2 (List.drop ((Int.toNat x2369) * 2) c2281))) fun p2374 p2375 =>
      grd (0 ≤ (IntKind.i64.wrap (x2362 + 1)) ∧ (IntKind.i64.wrap (x2362 + 1)) < ((n2285 : Nat) : Int)) <|
      grd (0 < List.length (List.drop (Int.toNat (IntKind.i64.wrap (x2362 + 1))) c2286)) <|
      getI .i64 (gp c2286 (Int.toNat (IntKind.i64.wrap (x2362 + 1)))) fun x2380 =>
      grd (0 ≤ x2380 ∧ x2380 < ((n2280 : Nat) : Int)) <|
      grd (2 ≤ List.length (List.drop ((Int.toNat x2380) * 2) c2281)) <|
      getA2 (.agg (List.take 2 (List.drop ((Int.toNat x2380) * 2) c2281))) fun p2385 p2386 =>
      getI .i64 p2374 fun x2388 =>
      getI .i64 p2375 fun x2390 =>
      getI .i64 p2385 fun x2392 =>
      getI .i64 p2386 fun x2394 =>
      bnd' (m58 N (IntKind.i64.wrap (x2388 - x2392)) (IntKind.i64.wrap (x2394 - x2390))) fun p2395 =>
      getA2 p2395 fun p2398 p2399 =>
      grd ((n2361 + 1) ≤ 1099511627776) <|
      grd (List.length c2363 = (n2361 * 2)) <|
      m67_L0 N n2280 c2281 n2285 c2286 n (n2361 + 1) (IntKind.i64.wrap (x2362 + 1)) (c2363 ++ [p2398, p2399])) (
      some (n2361, c2363))
def m67 (N : Nat) (p2278 : PV) : Option (PV) :=
  getL p2278 fun n2280 c2281 =>
  bnd' (m65 N (.lst false n2280 c2281)) fun p2282 =>
  getL p2282 fun n2285 c2286 =>
  bnd' (m67_L0 N n2280 c2281 n2285 c2286 N 0 0 []) fun o =>
  match o with
  | (n2402, c2403) =>
    grd (List.length c2403 = (n2402 * 2)) <|
    some (.lst false n2402 c2403)
theorem c67 (N : Nat) (p2278 : PV) (r : PV)  (h : m67 N p2278 = some r) : FnP Try.prog 67 [p2278] r := by
  unfold m67 at h
  refine Fn_of (sz := 47) tab_ok [0, 2, 3, 4, 5, 6, 7, 12, 13, 14] [.tmp 2] Try.func67 rfl rfl rfl (by simp) ?_
  simp only [initSt, initEnv, List.map_cons, List.map_nil, List.getD_cons_zero, List.getD_cons_succ, List.getD_nil]
  have hh := getL_some h; clear h; obtain ⟨n2280, c2281, h2279, h⟩ := hh
  have hh := bnd'_some h; clear h; obtain ⟨p2282, h2283, h⟩ := hh
  refine W_sound tab_ok mixed 7 _ _ _ ?_
  simp -implicitDefEqProofs only [go_sem, ne_eq, not_false_eq_true, Nat.reduceBEq, Nat.reduceAdd, Nat.reduceSub, Nat.reduceMul, Nat.reduceLT, Nat.reduceLeDiff, Int.reduceLE, Int.reduceLT, Int.reduceToNat, Int.reduceBEq, Int.reduceBNe, Int.le_refl, Nat.le_refl, decide_true, decide_false, Int.cast_ofNat_Int, ↓reduceIte, h2279]
  repeat with_reducible refine And.intro (by first | kernel_rfl | decide) ?_
  refine Wp_callP (c65 N _ _ h2283) (by kernel_rfl) rfl rfl rfl rfl (by decide) ?_
  have hh := getL_some h; clear h; obtain ⟨n2285, c2286, h2284, h⟩ := hh
  refine W_sound tab_ok mixed 14 _ _ _ ?_
  simp -implicitDefEqProofs only [go_sem, ne_eq, not_false_eq_true, Nat.reduceBEq, Nat.reduceAdd, Nat.reduceSub, Nat.reduceMul, Nat.reduceLT, Nat.reduceLeDiff, Int.reduceLE, Int.reduceLT, Int.reduceToNat, Int.reduceBEq, Int.reduceBNe, Int.le_refl, Nat.le_refl, decide_true, decide_false, Int.cast_ofNat_Int, ↓reduceIte, h2279, h2284]
  repeat with_reducible refine And.intro (by first | kernel_rfl | decide) ?_
  refine Wp_weaken (Wk_ownS 4 2 rfl (by decide) (by decide)) ?_
  simp -implicitDefEqProofs only [go_sem, ne_eq, not_false_eq_true, Nat.reduceBEq, Nat.reduceAdd, Nat.reduceSub, Nat.reduceMul, Nat.reduceLT, Nat.reduceLeDiff, Int.reduceLE, Int.reduceLT, Int.reduceToNat, Int.reduceBEq, Int.reduceBNe, Int.le_refl, Nat.le_refl, decide_true, decide_false, Int.cast_ofNat_Int, ↓reduceIte, h2279, h2284]
  have hh := bnd'_some h; clear h; obtain ⟨o2405, h2406, h2407⟩ := hh
  refine Wp_cut (fun s => ∃ n2402, ∃ c2403, (n2402, c2403) = o2405 ∧ s = ⟨[], [(0, .dead), (2, .dead), (3, .dead), (4, .sl false 0 0 n2402 2), (5, .dead), (6, .dead), (7, .dead), (12, .dead), (13, .dead), (14, .dead)], [(0, .p c2403)], 1, []⟩) ?_ ?_
  · refine Wp_block ?_
    refine Wp_loopG (fun n s => ∃ n2361, ∃ x2362, ∃ c2363, m67_L0 N n2280 c2281 n2285 c2286 n n2361 x2362 c2363 = some o2405 ∧ s = ⟨[], [(0, .v (.lst false n2280 c2281)), (2, .dead), (3, .v (.lst false n2285 c2286)), (4, .sl false 0 0 n2361 2), (5, .dead), (6, .dead), (7, .dead), (12, .v (.int .i64 (IntKind.i64.wrap (((n2285 : Nat) : Int) - 1)))), (13, .v (.int .i64 x2362)), (14, .dead)], [(0, .p c2363)], 1, []⟩) N _ ((Wk_le (.cons _ _ _ _ _ (.refl _) (.cons _ _ _ _ _ (.dead _) (.cons _ _ _ _ _ (.refl _) (.cons _ _ _ _ _ (.refl _) (.cons _ _ _ _ _ (.refl _) (.cons _ _ _ _ _ (.refl _) (.cons _ _ _ _ _ (.refl _) (.cons _ _ _ _ _ (.refl _) (.cons _ _ _ _ _ (.refl _) (.cons _ _ _ _ _ (.refl _) .nil)))))))))) (OLe.refl _)).trans (cmpS_ok rfl)) ⟨_, _, _, h2406, rfl⟩ ?_
    clear h2406
    rintro n _ ⟨n2361, x2362, c2363, h2406, rfl⟩
    cases n with
    | zero => cases h2406
    | succ n =>
      rw [m67_L0] at h2406
      have hh := brn_some h2406; clear h2406; rcases hh with ⟨h2364, h2406⟩ | ⟨h2364, h2406⟩
      · have hh := grd_some h2406; clear h2406; obtain ⟨⟨g2365, g2366⟩, h2406⟩ := hh
        have hh := grd_some h2406; clear h2406; obtain ⟨g2367, h2406⟩ := hh
        have hh := getI_some h2406; clear h2406; obtain ⟨x2369, h2368, h2406⟩ := hh
        have hh := grd_some h2406; clear h2406; obtain ⟨⟨g2370, g2371⟩, h2406⟩ := hh
        have hh := grd_some h2406; clear h2406; obtain ⟨g2372, h2406⟩ := hh
        have hh := getA2_some h2406; clear h2406; obtain ⟨p2374, p2375, h2373, h2406⟩ := hh
        injection h2373 with h2373
        have hh := grd_some h2406; clear h2406; obtain ⟨⟨g2376, g2377⟩, h2406⟩ := hh
        have hh := grd_some h2406; clear h2406; obtain ⟨g2378, h2406⟩ := hh
        have hh := getI_some h2406; clear h2406; obtain ⟨x2380, h2379, h2406⟩ := hh
        have hh := grd_some h2406; clear h2406; obtain ⟨⟨g2381, g2382⟩, h2406⟩ := hh
        have hh := grd_some h2406; clear h2406; obtain ⟨g2383, h2406⟩ := hh
        have hh := getA2_some h2406; clear h2406; obtain ⟨p2385, p2386, h2384, h2406⟩ := hh
        injection h2384 with h2384
        have hh := getI_some h2406; clear h2406; obtain ⟨x2388, h2387, h2406⟩ := hh
        have hh := getI_some h2406; clear h2406; obtain ⟨x2390, h2389, h2406⟩ := hh
        have hh := getI_some h2406; clear h2406; obtain ⟨x2392, h2391, h2406⟩ := hh
        have hh := getI_some h2406; clear h2406; obtain ⟨x2394, h2393, h2406⟩ := hh
        have hh := bnd'_some h2406; clear h2406; obtain ⟨p2395, h2396, h2406⟩ := hh
        refine W_sound tab_ok mixed 48 _ _ _ ?_
        simp -implicitDefEqProofs only [go_sem, ne_eq, not_false_eq_true, Nat.reduceBEq, Nat.reduceAdd, Nat.reduceSub, Nat.reduceMul, Nat.reduceLT, Nat.reduceLeDiff, Int.reduceLE, Int.reduceLT, Int.reduceToNat, Int.reduceBEq, Int.reduceBNe, Int.le_refl, Nat.le_refl, decide_true, decide_false, Int.cast_ofNat_Int, ↓reduceIte, h2279, h2284, h2364, g2365, g2366, g2367, h2368, g2370, g2371, g2372, h2373, g2376, g2377, g2378, h2379, g2381, g2382, g2383, h2384, h2387, h2389, h2391, h2393]
        repeat with_reducible refine And.intro (by first | kernel_rfl | decide) ?_
        refine Wp_callP (c58 N _ _ _ h2396) (by kernel_rfl) rfl rfl rfl rfl (by decide) ?_
        have hh := getA2_some h2406; clear h2406; obtain ⟨p2398, p2399, h2397, h2406⟩ := hh
        have hh := grd_some h2406; clear h2406; obtain ⟨g2400, h2406⟩ := hh
        have hh := grd_some h2406; clear h2406; obtain ⟨g2401, h2406⟩ := hh
        refine W_sound tab_ok mixed 9 _ _ _ ?_
        simp -implicitDefEqProofs only [go_sem, ne_eq, not_false_eq_true, Nat.reduceBEq, Nat.reduceAdd, Nat.reduceSub, Nat.reduceMul, Nat.reduceLT, Nat.reduceLeDiff, Int.reduceLE, Int.reduceLT, Int.reduceToNat, Int.reduceBEq, Int.reduceBNe, Int.le_refl, Nat.le_refl, decide_true, decide_false, Int.cast_ofNat_Int, ↓reduceIte, h2279, h2284, h2364, g2365, g2366, g2367, h2368, g2370, g2371, g2372, h2373, g2376, g2377, g2378, h2379, g2381, g2382, g2383, h2384, h2387, h2389, h2391, h2393, h2397, g2400, g2401]
        repeat with_reducible refine And.intro (by first | kernel_rfl | decide) ?_
        exact cutQ _ ((Wk_le (.cons _ _ _ _ _ (.refl _) (.cons _ _ _ _ _ (.refl _) (.cons _ _ _ _ _ (.refl _) (.cons _ _ _ _ _ (.refl _) (.cons _ _ _ _ _ (.dead _) (.cons _ _ _ _ _ (.dead _) (.cons _ _ _ _ _ (.dead _) (.cons _ _ _ _ _ (.refl _) (.cons _ _ _ _ _ (.refl _) (.cons _ _ _ _ _ (.dead _) .nil)))))))))) (OLe.refl _)).trans (cmpS_ok rfl)) ⟨n, Nat.lt_succ_self n, _, _, _, h2406, rfl⟩
      · refine W_sound tab_ok mixed 7 _ _ _ ?_
        simp -implicitDefEqProofs only [go_sem, ne_eq, not_false_eq_true, Nat.reduceBEq, Nat.reduceAdd, Nat.reduceSub, Nat.reduceMul, Nat.reduceLT, Nat.reduceLeDiff, Int.reduceLE, Int.reduceLT, Int.reduceToNat, Int.reduceBEq, Int.reduceBNe, Int.le_refl, Nat.le_refl, decide_true, decide_false, Int.cast_ofNat_Int, ↓reduceIte, h2279, h2284, h2364]
        repeat with_reducible refine And.intro (by first | kernel_rfl | decide) ?_
        obtain rfl := Option.some.inj h2406
        exact cutQ _ ((Wk_le (.cons _ _ _ _ _ (.dead _) (.cons _ _ _ _ _ (.refl _) (.cons _ _ _ _ _ (.dead _) (.cons _ _ _ _ _ (.refl _) (.cons _ _ _ _ _ (.refl _) (.cons _ _ _ _ _ (.refl _) (.cons _ _ _ _ _ (.refl _) (.cons _ _ _ _ _ (.dead _) (.cons _ _ _ _ _ (.dead _) (.cons _ _ _ _ _ (.dead _) .nil)))))))))) (OLe.refl _)).trans (cmpS_ok rfl)) ⟨_, _, rfl, rfl⟩
  · rintro _ ⟨n2402, c2403, rfl, rfl⟩
    (try dsimp only at h2407)
    refine W_sound tab_ok mixed 7 _ _ _ ?_
    simp -implicitDefEqProofs only [go_sem, ne_eq, not_false_eq_true, Nat.reduceBEq, Nat.reduceAdd, Nat.reduceSub, Nat.reduceMul, Nat.reduceLT, Nat.reduceLeDiff, Int.reduceLE, Int.reduceLT, Int.reduceToNat, Int.reduceBEq, Int.reduceBNe, Int.le_refl, Nat.le_refl, decide_true, decide_false, Int.cast_ofNat_Int, ↓reduceIte, h2279, h2284]
    repeat with_reducible refine And.intro (by first | kernel_rfl | decide) ?_
    have hh := grd_some h2407; clear h2407; obtain ⟨g2404, h2407⟩ := hh
    refine FinQ_wk (Wk_freeze 0 c2403 (by rfl) (by decide) (by decide)) ?_
    simp -implicitDefEqProofs only [go_sem, ne_eq, not_false_eq_true, Nat.reduceBEq, Nat.reduceAdd, Nat.reduceSub, Nat.reduceMul, Nat.reduceLT, Nat.reduceLeDiff, Int.reduceLE, Int.reduceLT, Int.reduceToNat, Int.reduceBEq, Int.reduceBNe, Int.le_refl, Nat.le_refl, decide_true, decide_false, Int.cast_ofNat_Int, ↓reduceIte, h2279, h2284, g2404]
    obtain rfl := Option.some.inj h2407
    exact finC [(2, .v (.lst false n2402 c2403))] [(2, .v (.lst false n2402 c2403))] (by simp [leE, lk_cons]) (.cons _ _ _ _ _ (.v _ _ (.refl _)) .nil) (by rfl) (by simp [leE, lk_cons]) (by decide) (by decide) rfl (by simp only [go_sem, ne_eq, not_false_eq_true, Nat.reduceBEq, Nat.reduceAdd, Nat.reduceSub, Nat.reduceMul, Nat.reduceLT, Nat.reduceLeDiff, Int.reduceLE, Int.reduceLT, Int.reduceToNat, Int.reduceBEq, Int.reduceBNe, Int.le_refl, Nat.le_refl, decide_true, decide_false, Int.cast_ofNat_Int, ↓reduceIte, resQ_tmp, resQ_cell, resQ_nil, retD_one, retD_two, retD_three, retD_none]; try simp [R.val, retD_one, retD_two, retD_three, retD_none])

def m87_L0 (N : Nat) (x2423 : Int) (n2425 : Nat) (c2426 : List PV) : Nat → Int → Option ((PV ⊕ Unit))
  | 0, _ => none
  | n + 1, x2427 =>
    brn (decide (x2427 < x2423)) (
      grd (0 ≤ x2427 ∧ x2427 < ((n2425 : Nat) : Int)) <|
      grd (2 ≤ List.length (List.drop ((Int.toNat x2427) * 2) c2426)) <|
      getA2 (.agg (List.take 2 (List.drop ((Int.toNat x2427) * 2) c2426))) fun p2433 p2434 =>
      grd (0 ≤ x2423 ∧ x2423 < ((n2425 : Nat) : Int)) <|
      grd (2 ≤ List.length (List.drop ((Int.toNat x2423) * 2) c2426)) <|
      getA2 (.agg (List.take 2 (List.drop ((Int.toNat x2423) * 2) c2426))) fun p2439 p2440 =>
      getI .i64 p2434 fun x2442 =>
      getI .i64 p2440 fun x2444 =>
      getI .i64 p2433 fun x2446 =>
      getI .i64 p2439 fun x2448 =>
      brn ((x2446 == x2448) && (x2442 == x2444)) (
        some (.inl (.bool false))) (
        m87_L0 N x2423 n2425 c2426 n (IntKind.i64.wrap (x2427 + 1)))) (
      some (.inr ()))
def m87_L2 (N : Nat) (x2423 : Int) (n2425 : Nat) (c2426 : List PV) (n2454 : Nat) (c2455 : List PV) (x2456 : Int) : Nat → Bool → Int → Option (Bool)
  | 0, _, _ => none
  | n + 1, b2458, x2459 =>
    brn (decide (x2459 < ((n2425 : Nat) : Int))) (
      brn b2458 (
        grd (0 ≤ x2459 ∧ x2459 < ((n2425 : Nat) : Int)) <|
        grd (2 ≤ List.length (List.drop ((Int.toNat x2459) * 2) c2426)) <|
        getA2 (.agg (List.take 2 (List.drop ((Int.toNat x2459) * 2) c2426))) fun p2466 p2467 =>
        grd (0 ≤ x2423 ∧ x2423 < ((n2425 : Nat) : Int)) <|
        grd (2 ≤ List.length (List.drop ((Int.toNat x2423) * 2) c2426)) <|
        getA2 (.agg (List.take 2 (List.drop ((Int.toNat x2423) * 2) c2426))) fun p2472 p2473 =>
        getI .i64 p2467 fun x2475 =>
        getI .i64 p2473 fun x2477 =>
        getI .i64 p2466 fun x2479 =>
        getI .i64 p2472 fun x2481 =>
        brn ((x2479 == x2481) && (x2475 == x2477)) (
          m87_L2 N x2423 n2425 c2426 n2454 c2455 x2456 n true (IntKind.i64.wrap (x2459 + 1))) (
          grd (0 ≤ x2456 ∧ x2456 < ((n2454 : Nat) : Int)) <|
          grd (2 ≤ List.length (List.drop ((Int.toNat x2456) * 2) c2455)) <|
          getA2 (.agg (List.take 2 (List.drop ((Int.toNat x2456) * 2) c2455))) fun p2487 p2488 =>
          bnd' (m62 N (.agg [(.int .i64 x2479), (.int .i64 x2475)]) (.agg [p2487, p2488])) fun p2489 =>
          getI .i64 p2489 fun x2492 =>
          bnd' (m62 N (.agg [(.int .i64 x2481), (.int .i64 x2477)]) (.agg [p2487, p2488])) fun p2493 =>
          getI .i64 p2493 fun x2496 =>
          m87_L2 N x2423 n2425 c2426 n2454 c2455 x2456 n (decide (x2492 < x2496)) (IntKind.i64.wrap (x2459 + 1)))) (
        m87_L2 N x2423 n2425 c2426 n2454 c2455 x2456 n false (IntKind.i64.wrap (x2459 + 1)))) (
      some b2458)
def m87_L1 (N : Nat) (x2423 : Int) (n2425 : Nat) (c2426 : List PV) (n2454 : Nat) (c2455 : List PV) : Nat → Int → Option ((PV ⊕ Unit))
  | 0, _ => none
  | n + 1, x2456 =>
    brn (decide (x2456 < ((n2454 : Nat) : Int))) (
      bnd' (m87_L2 N x2423 n2425 c2426 n2454 c2455 x2456 N true 0) fun b2497 =>
      brn b2497 (
        some (.inl (.bool true))) (
        m87_L1 N x2423 n2425 c2426 n2454 c2455 n (IntKind.i64.wrap (x2456 + 1)))) (
      some (.inr ()))
def m87 (N : Nat) (p2422 : PV) (x2423 : Int) : Option (PV) :=
  getL p2422 fun n2425 c2426 =>
  bnd' (m87_L0 N x2423 n2425 c2426 N 0) fun o =>
  match o with
  | .inl p2450 =>
    some p2450
  | .inr () =>
    bnd' (m71 N (.lst false n2425 c2426)) fun p2451 =>
    getL p2451 fun n2454 c2455 =>
    bnd' (m87_L1 N x2423 n2425 c2426 n2454 c2455 N 0) fun o =>
    match o with
    | .inl p2499 =>
      some p2499
    | .inr () =>
      some (.bool false)
theorem c87 (N : Nat) (p2422 : PV) (x2423 : Int) (r : PV)  (h : m87 N p2422 x2423 = some r) : FnP Try.prog 87 [p2422, (.int .i64 x2423)] r := by
  unfold m87 at h
  refine Fn_of (sz := 72) tab_ok [0, 1, 4, 5, 6, 7, 8, 9, 12, 23, 29, 35, 71] [.tmp 4] Try.func87 rfl rfl rfl (by simp) ?_
  simp only [initSt, initEnv, List.map_cons, List.map_nil, List.getD_cons_zero, List.getD_cons_succ, List.getD_nil]
  have hh := getL_some h; clear h; obtain ⟨n2425, c2426, h2424, h⟩ := hh
  refine W_sound tab_ok mixed 9 _ _ _ ?_
  simp -implicitDefEqProofs only [go_sem, ne_eq, not_false_eq_true, Nat.reduceBEq, Nat.reduceAdd, Nat.reduceSub, Nat.reduceMul, Nat.reduceLT, Nat.reduceLeDiff, Int.reduceLE, Int.reduceLT, Int.reduceToNat, Int.reduceBEq, Int.reduceBNe, Int.le_refl, Nat.le_refl, decide_true, decide_false, Int.cast_ofNat_Int, ↓reduceIte, h2424]
  repeat with_reducible refine And.intro (by first | kernel_rfl | decide) ?_
  have hh := bnd'_some h; clear h; obtain ⟨o2500, h2501, h2502⟩ := hh
  refine Wp_cut (fun s => (.inr ()) = o2500 ∧ s = ⟨[], [(0, .v (.lst false n2425 c2426)), (1, .v (.int .i64 x2423)), (4, .dead), (5, .dead), (6, .dead), (7, .dead), (8, .dead), (9, .dead), (12, .dead), (23, .dead), (29, .dead), (35, .dead), (71, .dead)], [], 0, []⟩) ?_ ?_
  · refine Wp_block ?_
    refine Wp_loopG (fun n s => ∃ x2427, m87_L0 N x2423 n2425 c2426 n x2427 = some o2500 ∧ s = ⟨[], [(0, .v (.lst false n2425 c2426)), (1, .v (.int .i64 x2423)), (4, .dead), (5, .v (.int .i64 x2427)), (6, .dead), (7, .dead), (8, .dead), (9, .dead), (12, .dead), (23, .dead), (29, .dead), (35, .dead), (71, .dead)], [], 0, []⟩) N _ ((Wk_le (.cons _ _ _ _ _ (.refl _) (.cons _ _ _ _ _ (.refl _) (.cons _ _ _ _ _ (.dead _) (.cons _ _ _ _ _ (.refl _) (.cons _ _ _ _ _ (.refl _) (.cons _ _ _ _ _ (.refl _) (.cons _ _ _ _ _ (.refl _) (.cons _ _ _ _ _ (.refl _) (.cons _ _ _ _ _ (.refl _) (.cons _ _ _ _ _ (.refl _) (.cons _ _ _ _ _ (.refl _) (.cons _ _ _ _ _ (.refl _) (.cons _ _ _ _ _ (.refl _) .nil))))))))))))) (OLe.refl _)).trans (cmpS_ok rfl)) ⟨_, h2501, rfl⟩ ?_
    clear h2501
    rintro n _ ⟨x2427, h2501, rfl⟩
    cases n with
    | zero => cases h2501
    | succ n =>
      rw [m87_L0] at h2501
      have hh := brn_some h2501; clear h2501; rcases hh with ⟨h2428, h2501⟩ | ⟨h2428, h2501⟩
      · have hh := grd_some h2501; clear h2501; obtain ⟨⟨g2429, g2430⟩, h2501⟩ := hh
        have hh := grd_some h2501; clear h2501; obtain ⟨g2431, h2501⟩ := hh
        have hh := getA2_some h2501; clear h2501; obtain ⟨p2433, p2434, h2432, h2501⟩ := hh
        injection h2432 with h2432
        have hh := grd_some h2501; clear h2501; obtain ⟨⟨g2435, g2436⟩, h2501⟩ := hh
        have hh := grd_some h2501; clear h2501; obtain ⟨g2437, h2501⟩ := hh
        have hh := getA2_some h2501; clear h2501; obtain ⟨p2439, p2440, h2438, h2501⟩ := hh
        injection h2438 with h2438
        have hh := getI_some h2501; clear h2501; obtain ⟨x2442, h2441, h2501⟩ := hh
        have hh := getI_some h2501; clear h2501; obtain ⟨x2444, h2443, h2501⟩ := hh
        have hh := getI_some h2501; clear h2501; obtain ⟨x2446, h2445, h2501⟩ := hh
        have hh := getI_some h2501; clear h2501; obtain ⟨x2448, h2447, h2501⟩ := hh
        have hh := brn_some h2501; clear h2501; rcases hh with ⟨h2449, h2501⟩ | ⟨h2449, h2501⟩
        · refine W_sound tab_ok mixed 30 _ _ _ ?_
          simp -implicitDefEqProofs only [go_sem, ne_eq, not_false_eq_true, Nat.reduceBEq, Nat.reduceAdd, Nat.reduceSub, Nat.reduceMul, Nat.reduceLT, Nat.reduceLeDiff, Int.reduceLE, Int.reduceLT, Int.reduceToNat, Int.reduceBEq, Int.reduceBNe, Int.le_refl, Nat.le_refl, decide_true, decide_false, Int.cast_ofNat_Int, ↓reduceIte, h2424, h2428, g2429, g2430, g2431, h2432, g2435, g2436, g2437, h2438, h2441, h2443, h2445, h2447, h2449]
          repeat with_reducible refine And.intro (by first | kernel_rfl | decide) ?_
          obtain rfl := Option.some.inj h2501
          (try dsimp only at h2502)
          obtain rfl := Option.some.inj h2502
          exact finC [(4, .v (.bool false))] [(4, .v (.bool false))] (by simp [leE, lk_cons]) (.cons _ _ _ _ _ (.v _ _ (.refl _)) .nil) (by rfl) (by simp [leE, lk_cons]) (by decide) (by decide) rfl (by simp only [go_sem, ne_eq, not_false_eq_true, Nat.reduceBEq, Nat.reduceAdd, Nat.reduceSub, Nat.reduceMul, Nat.reduceLT, Nat.reduceLeDiff, Int.reduceLE, Int.reduceLT, Int.reduceToNat, Int.reduceBEq, Int.reduceBNe, Int.le_refl, Nat.le_refl, decide_true, decide_false, Int.cast_ofNat_Int, ↓reduceIte, resQ_tmp, resQ_cell, resQ_nil, retD_one, retD_two, retD_three, retD_none]; try simp [R.val, retD_one, retD_two, retD_three, retD_none])
        · refine W_sound tab_ok mixed 31 _ _ _ ?_
          simp -implicitDefEqProofs only [go_sem, ne_eq, not_false_eq_true, Nat.reduceBEq, Nat.reduceAdd, Nat.reduceSub, Nat.reduceMul, Nat.reduceLT, Nat.reduceLeDiff, Int.reduceLE, Int.reduceLT, Int.reduceToNat, Int.reduceBEq, Int.reduceBNe, Int.le_refl, Nat.le_refl, decide_true, decide_false, Int.cast_ofNat_Int, ↓reduceIte, h2424, h2428, g2429, g2430, g2431, h2432, g2435, g2436, g2437, h2438, h2441, h2443, h2445, h2447, h2449]
          repeat with_reducible refine And.intro (by first | kernel_rfl | decide) ?_
          exact cutQ _ ((Wk_le (.cons _ _ _ _ _ (.refl _) (.cons _ _ _ _ _ (.refl _) (.cons _ _ _ _ _ (.refl _) (.cons _ _ _ _ _ (.refl _) (.cons _ _ _ _ _ (.refl _) (.cons _ _ _ _ _ (.refl _) (.cons _ _ _ _ _ (.refl _) (.cons _ _ _ _ _ (.refl _) (.cons _ _ _ _ _ (.dead _) (.cons _ _ _ _ _ (.dead _) (.cons _ _ _ _ _ (.refl _) (.cons _ _ _ _ _ (.refl _) (.cons _ _ _ _ _ (.refl _) .nil))))))))))))) (OLe.refl _)).trans (cmpS_ok rfl)) ⟨n, Nat.lt_succ_self n, _, h2501, rfl⟩
      · refine W_sound tab_ok mixed 9 _ _ _ ?_
        simp -implicitDefEqProofs only [go_sem, ne_eq, not_false_eq_true, Nat.reduceBEq, Nat.reduceAdd, Nat.reduceSub, Nat.reduceMul, Nat.reduceLT, Nat.reduceLeDiff, Int.reduceLE, Int.reduceLT, Int.reduceToNat, Int.reduceBEq, Int.reduceBNe, Int.le_refl, Nat.le_refl, decide_true, decide_false, Int.cast_ofNat_Int, ↓reduceIte, h2424, h2428]
        repeat with_reducible refine And.intro (by first | kernel_rfl | decide) ?_
        obtain rfl := Option.some.inj h2501
        exact cutQ _ ((Wk_le (.cons _ _ _ _ _ (.refl _) (.cons _ _ _ _ _ (.refl _) (.cons _ _ _ _ _ (.refl _) (.cons _ _ _ _ _ (.dead _) (.cons _ _ _ _ _ (.refl _) (.cons _ _ _ _ _ (.refl _) (.cons _ _ _ _ _ (.refl _) (.cons _ _ _ _ _ (.refl _) (.cons _ _ _ _ _ (.dead _) (.cons _ _ _ _ _ (.refl _) (.cons _ _ _ _ _ (.refl _) (.cons _ _ _ _ _ (.refl _) (.cons _ _ _ _ _ (.refl _) .nil))))))))))))) (OLe.refl _)).trans (cmpS_ok rfl)) ⟨rfl, rfl⟩
  · rintro _ ⟨rfl, rfl⟩
    (try dsimp only at h2502)
    have hh := bnd'_some h2502; clear h2502; obtain ⟨p2451, h2452, h2502⟩ := hh
    refine W_sound tab_ok mixed 3 _ _ _ ?_
    simp -implicitDefEqProofs only [go_sem, ne_eq, not_false_eq_true, Nat.reduceBEq, Nat.reduceAdd, Nat.reduceSub, Nat.reduceMul, Nat.reduceLT, Nat.reduceLeDiff, Int.reduceLE, Int.reduceLT, Int.reduceToNat, Int.reduceBEq, Int.reduceBNe, Int.le_refl, Nat.le_refl, decide_true, decide_false, Int.cast_ofNat_Int, ↓reduceIte, h2424]
    repeat with_reducible refine And.intro (by first | kernel_rfl | decide) ?_
    refine Wp_callP (c71 N _ _ h2452) (by kernel_rfl) rfl rfl rfl rfl (by decide) ?_
    have hh := getL_some h2502; clear h2502; obtain ⟨n2454, c2455, h2453, h2502⟩ := hh
    refine W_sound tab_ok mixed 7 _ _ _ ?_
    simp -implicitDefEqProofs only [go_sem, ne_eq, not_false_eq_true, Nat.reduceBEq, Nat.reduceAdd, Nat.reduceSub, Nat.reduceMul, Nat.reduceLT, Nat.reduceLeDiff, Int.reduceLE, Int.reduceLT, Int.reduceToNat, Int.reduceBEq, Int.reduceBNe, Int.le_refl, Nat.le_refl, decide_true, decide_false, Int.cast_ofNat_Int, ↓reduceIte, h2424, h2453]
    repeat with_reducible refine And.intro (by first | kernel_rfl | decide) ?_
    have hh := bnd'_some h2502; clear h2502; obtain ⟨o2503, h2504, h2505⟩ := hh
    refine Wp_cut (fun s => (.inr ()) = o2503 ∧ s = ⟨[], [(0, .dead), (1, .dead), (4, .dead), (5, .dead), (6, .dead), (7, .dead), (8, .dead), (9, .dead), (12, .dead), (23, .dead), (29, .dead), (35, .dead), (71, .dead)], [], 0, []⟩) ?_ ?_
    · refine Wp_block ?_
      refine Wp_loopG (fun n s => ∃ x2456, m87_L1 N x2423 n2425 c2426 n2454 c2455 n x2456 = some o2503 ∧ s = ⟨[], [(0, .v (.lst false n2425 c2426)), (1, .v (.int .i64 x2423)), (4, .dead), (5, .dead), (6, .v (.lst false n2454 c2455)), (7, .v (.int .i64 x2456)), (8, .dead), (9, .dead), (12, .dead), (23, .dead), (29, .dead), (35, .dead), (71, .dead)], [], 0, []⟩) N _ ((Wk_le (.cons _ _ _ _ _ (.refl _) (.cons _ _ _ _ _ (.refl _) (.cons _ _ _ _ _ (.refl _) (.cons _ _ _ _ _ (.refl _) (.cons _ _ _ _ _ (.refl _) (.cons _ _ _ _ _ (.refl _) (.cons _ _ _ _ _ (.refl _) (.cons _ _ _ _ _ (.refl _) (.cons _ _ _ _ _ (.refl _) (.cons _ _ _ _ _ (.refl _) (.cons _ _ _ _ _ (.refl _) (.cons _ _ _ _ _ (.refl _) (.cons _ _ _ _ _ (.refl _) .nil))))))))))))) (OLe.refl _)).trans (cmpS_ok rfl)) ⟨_, h2504, rfl⟩ ?_
      clear h2504
      rintro n _ ⟨x2456, h2504, rfl⟩
      cases n with
      | zero => cases h2504
      | succ n =>
        rw [m87_L1] at h2504
        have hh := brn_some h2504; clear h2504; rcases hh with ⟨h2457, h2504⟩ | ⟨h2457, h2504⟩
        · refine W_sound tab_ok mixed 21 _ _ _ ?_
          simp -implicitDefEqProofs only [go_sem, ne_eq, not_false_eq_true, Nat.reduceBEq, Nat.reduceAdd, Nat.reduceSub, Nat.reduceMul, Nat.reduceLT, Nat.reduceLeDiff, Int.reduceLE, Int.reduceLT, Int.reduceToNat, Int.reduceBEq, Int.reduceBNe, Int.le_refl, Nat.le_refl, decide_true, decide_false, Int.cast_ofNat_Int, ↓reduceIte, h2424, h2453, h2457]
          repeat with_reducible refine And.intro (by first | kernel_rfl | decide) ?_
          have hh := bnd'_some h2504; clear h2504; obtain ⟨o2506, h2507, h2508⟩ := hh
          refine Wp_cut (fun s => ∃ b2497, b2497 = o2506 ∧ s = ⟨[], [(0, .v (.lst false n2425 c2426)), (1, .v (.int .i64 x2423)), (4, .dead), (5, .dead), (6, .v (.lst false n2454 c2455)), (7, .v (.int .i64 x2456)), (8, .v (.bool b2497)), (9, .dead), (12, .dead), (23, .dead), (29, .dead), (35, .dead), (71, .dead)], [], 0, []⟩) ?_ ?_
          · refine Wp_block ?_
            refine Wp_loopG (fun n s => ∃ b2458, ∃ x2459, m87_L2 N x2423 n2425 c2426 n2454 c2455 x2456 n b2458 x2459 = some o2506 ∧ s = ⟨[], [(0, .v (.lst false n2425 c2426)), (1, .v (.int .i64 x2423)), (4, .dead), (5, .dead), (6, .v (.lst false n2454 c2455)), (7, .v (.int .i64 x2456)), (8, .v (.bool b2458)), (9, .v (.int .i64 x2459)), (12, .dead), (23, .dead), (29, .dead), (35, .dead), (71, .dead)], [], 0, []⟩) N _ ((Wk_le (.cons _ _ _ _ _ (.refl _) (.cons _ _ _ _ _ (.refl _) (.cons _ _ _ _ _ (.refl _) (.cons _ _ _ _ _ (.refl _) (.cons _ _ _ _ _ (.refl _) (.cons _ _ _ _ _ (.refl _) (.cons _ _ _ _ _ (.refl _) (.cons _ _ _ _ _ (.refl _) (.cons _ _ _ _ _ (.refl _) (.cons _ _ _ _ _ (.refl _) (.cons _ _ _ _ _ (.dead _) (.cons _ _ _ _ _ (.refl _) (.cons _ _ _ _ _ (.refl _) .nil))))))))))))) (OLe.refl _)).trans (cmpS_ok rfl)) ⟨_, _, h2507, rfl⟩ ?_
            clear h2507
            rintro n _ ⟨b2458, x2459, h2507, rfl⟩
            cases n with
            | zero => cases h2507
            | succ n =>
              rw [m87_L2] at h2507
              have hh := brn_some h2507; clear h2507; rcases hh with ⟨h2460, h2507⟩ | ⟨h2460, h2507⟩
              · have hh := brn_some h2507; clear h2507; rcases hh with ⟨h2461, h2507⟩ | ⟨h2461, h2507⟩
                · have hh := grd_some h2507; clear h2507; obtain ⟨⟨g2462, g2463⟩, h2507⟩ := hh
                  have hh := grd_some h2507; clear h2507; obtain ⟨g2464, h2507⟩ := hh
                  have hh := getA2_some h2507; clear h2507; obtain ⟨p2466, p2467, h2465, h2507⟩ := hh
                  injection h2465 with h2465
                  have hh := grd_some h2507; clear h2507; obtain ⟨⟨g2468, g2469⟩, h2507⟩ := hh
                  have hh := grd_some h2507; clear h2507; obtain ⟨g2470, h2507⟩ := hh
                  have hh := getA2_some h2507; clear h2507; obtain ⟨p2472, p2473, h2471, h2507⟩ := hh
                  injection h2471 with h2471
                  have hh := getI_some h2507; clear h2507; obtain ⟨x2475, h2474, h2507⟩ := hh
                  have hh := getI_some h2507; clear h2507; obtain ⟨x2477, h2476, h2507⟩ := hh
                  have hh := getI_some h2507; clear h2507; obtain ⟨x2479, h2478, h2507⟩ := hh
                  have hh := getI_some h2507; clear h2507; obtain ⟨x2481, h2480, h2507⟩ := hh
                  have hh := brn_some h2507; clear h2507; rcases hh with ⟨h2482, h2507⟩ | ⟨h2482, h2507⟩
                  · refine W_sound tab_ok mixed 54 _ _ _ ?_
                    simp -implicitDefEqProofs only [go_sem, ne_eq, not_false_eq_true, Nat.reduceBEq, Nat.reduceAdd, Nat.reduceSub, Nat.reduceMul, Nat.reduceLT, Nat.reduceLeDiff, Int.reduceLE, Int.reduceLT, Int.reduceToNat, Int.reduceBEq, Int.reduceBNe, Int.le_refl, Nat.le_refl, decide_true, decide_false, Int.cast_ofNat_Int, ↓reduceIte, h2424, h2453, h2457, h2460, h2461, g2462, g2463, g2464, h2465, g2468, g2469, g2470, h2471, h2474, h2476, h2478, h2480, h2482]
                    repeat with_reducible refine And.intro (by first | kernel_rfl | decide) ?_
                    exact cutQ _ ((Wk_le (.cons _ _ _ _ _ (.refl _) (.cons _ _ _ _ _ (.refl _) (.cons _ _ _ _ _ (.refl _) (.cons _ _ _ _ _ (.refl _) (.cons _ _ _ _ _ (.refl _) (.cons _ _ _ _ _ (.refl _) (.cons _ _ _ _ _ (.refl _) (.cons _ _ _ _ _ (.refl _) (.cons _ _ _ _ _ (.refl _) (.cons _ _ _ _ _ (.refl _) (.cons _ _ _ _ _ (.refl _) (.cons _ _ _ _ _ (.dead _) (.cons _ _ _ _ _ (.refl _) .nil))))))))))))) (OLe.refl _)).trans (cmpS_ok rfl)) ⟨n, Nat.lt_succ_self n, _, _, h2507, rfl⟩
                  · have hh := grd_some h2507; clear h2507; obtain ⟨⟨g2483, g2484⟩, h2507⟩ := hh
                    have hh := grd_some h2507; clear h2507; obtain ⟨g2485, h2507⟩ := hh
                    have hh := getA2_some h2507; clear h2507; obtain ⟨p2487, p2488, h2486, h2507⟩ := hh
                    injection h2486 with h2486
                    have hh := bnd'_some h2507; clear h2507; obtain ⟨p2489, h2490, h2507⟩ := hh
                    refine W_sound tab_ok mixed 33 _ _ _ ?_
                    simp -implicitDefEqProofs only [go_sem, ne_eq, not_false_eq_true, Nat.reduceBEq, Nat.reduceAdd, Nat.reduceSub, Nat.reduceMul, Nat.reduceLT, Nat.reduceLeDiff, Int.reduceLE, Int.reduceLT, Int.reduceToNat, Int.reduceBEq, Int.reduceBNe, Int.le_refl, Nat.le_refl, decide_true, decide_false, Int.cast_ofNat_Int, ↓reduceIte, h2424, h2453, h2457, h2460, h2461, g2462, g2463, g2464, h2465, g2468, g2469, g2470, h2471, h2474, h2476, h2478, h2480, h2482, g2483, g2484, g2485, h2486]
                    repeat with_reducible refine And.intro (by first | kernel_rfl | decide) ?_
                    refine Wp_callP (c62 N _ _ _ h2490) (by kernel_rfl) rfl rfl rfl rfl (by decide) ?_
                    have hh := getI_some h2507; clear h2507; obtain ⟨x2492, h2491, h2507⟩ := hh
                    have hh := bnd'_some h2507; clear h2507; obtain ⟨p2493, h2494, h2507⟩ := hh
                    refine W_sound tab_ok mixed 8 _ _ _ ?_
                    simp -implicitDefEqProofs only [go_sem, ne_eq, not_false_eq_true, Nat.reduceBEq, Nat.reduceAdd, Nat.reduceSub, Nat.reduceMul, Nat.reduceLT, Nat.reduceLeDiff, Int.reduceLE, Int.reduceLT, Int.reduceToNat, Int.reduceBEq, Int.reduceBNe, Int.le_refl, Nat.le_refl, decide_true, decide_false, Int.cast_ofNat_Int, ↓reduceIte, h2424, h2453, h2457, h2460, h2461, g2462, g2463, g2464, h2465, g2468, g2469, g2470, h2471, h2474, h2476, h2478, h2480, h2482, g2483, g2484, g2485, h2486, h2491]
                    repeat with_reducible refine And.intro (by first | kernel_rfl | decide) ?_
                    refine Wp_callP (c62 N _ _ _ h2494) (by kernel_rfl) rfl rfl rfl rfl (by decide) ?_
                    have hh := getI_some h2507; clear h2507; obtain ⟨x2496, h2495, h2507⟩ := hh
                    refine W_sound tab_ok mixed 11 _ _ _ ?_
                    simp -implicitDefEqProofs only [go_sem, ne_eq, not_false_eq_true, Nat.reduceBEq, Nat.reduceAdd, Nat.reduceSub, Nat.reduceMul, Nat.reduceLT, Nat.reduceLeDiff, Int.reduceLE, Int.reduceLT, Int.reduceToNat, Int.reduceBEq, Int.reduceBNe, Int.le_refl, Nat.le_refl, decide_true, decide_false, Int.cast_ofNat_Int, ↓reduceIte, h2424, h2453, h2457, h2460, h2461, g2462, g2463, g2464, h2465, g2468, g2469, g2470, h2471, h2474, h2476, h2478, h2480, h2482, g2483, g2484, g2485, h2486, h2491, h2495]
                    repeat with_reducible refine And.intro (by first | kernel_rfl | decide) ?_
                    exact cutQ _ ((Wk_le (.cons _ _ _ _ _ (.refl _) (.cons _ _ _ _ _ (.refl _) (.cons _ _ _ _ _ (.refl _) (.cons _ _ _ _ _ (.refl _) (.cons _ _ _ _ _ (.refl _) (.cons _ _ _ _ _ (.refl _) (.cons _ _ _ _ _ (.refl _) (.cons _ _ _ _ _ (.refl _) (.cons _ _ _ _ _ (.refl _) (.cons _ _ _ _ _ (.refl _) (.cons _ _ _ _ _ (.refl _) (.cons _ _ _ _ _ (.dead _) (.cons _ _ _ _ _ (.refl _) .nil))))))))))))) (OLe.refl _)).trans (cmpS_ok rfl)) ⟨n, Nat.lt_succ_self n, _, _, h2507, rfl⟩
                · refine W_sound tab_ok mixed 54 _ _ _ ?_
                  simp -implicitDefEqProofs only [go_sem, ne_eq, not_false_eq_true, Nat.reduceBEq, Nat.reduceAdd, Nat.reduceSub, Nat.reduceMul, Nat.reduceLT, Nat.reduceLeDiff, Int.reduceLE, Int.reduceLT, Int.reduceToNat, Int.reduceBEq, Int.reduceBNe, Int.le_refl, Nat.le_refl, decide_true, decide_false, Int.cast_ofNat_Int, ↓reduceIte, h2424, h2453, h2457, h2460, h2461]
                  repeat with_reducible refine And.intro (by first | kernel_rfl | decide) ?_
                  exact cutQ _ ((Wk_le (.cons _ _ _ _ _ (.refl _) (.cons _ _ _ _ _ (.refl _) (.cons _ _ _ _ _ (.refl _) (.cons _ _ _ _ _ (.refl _) (.cons _ _ _ _ _ (.refl _) (.cons _ _ _ _ _ (.refl _) (.cons _ _ _ _ _ (.refl _) (.cons _ _ _ _ _ (.refl _) (.cons _ _ _ _ _ (.refl _) (.cons _ _ _ _ _ (.refl _) (.cons _ _ _ _ _ (.refl _) (.cons _ _ _ _ _ (.dead _) (.cons _ _ _ _ _ (.refl _) .nil))))))))))))) (OLe.refl _)).trans (cmpS_ok rfl)) ⟨n, Nat.lt_succ_self n, _, _, h2507, rfl⟩
              · refine W_sound tab_ok mixed 10 _ _ _ ?_
                simp -implicitDefEqProofs only [go_sem, ne_eq, not_false_eq_true, Nat.reduceBEq, Nat.reduceAdd, Nat.reduceSub, Nat.reduceMul, Nat.reduceLT, Nat.reduceLeDiff, Int.reduceLE, Int.reduceLT, Int.reduceToNat, Int.reduceBEq, Int.reduceBNe, Int.le_refl, Nat.le_refl, decide_true, decide_false, Int.cast_ofNat_Int, ↓reduceIte, h2424, h2453, h2457, h2460]
                repeat with_reducible refine And.intro (by first | kernel_rfl | decide) ?_
                obtain rfl := Option.some.inj h2507
                exact cutQ _ ((Wk_le (.cons _ _ _ _ _ (.refl _) (.cons _ _ _ _ _ (.refl _) (.cons _ _ _ _ _ (.refl _) (.cons _ _ _ _ _ (.refl _) (.cons _ _ _ _ _ (.refl _) (.cons _ _ _ _ _ (.refl _) (.cons _ _ _ _ _ (.refl _) (.cons _ _ _ _ _ (.dead _) (.cons _ _ _ _ _ (.refl _) (.cons _ _ _ _ _ (.refl _) (.cons _ _ _ _ _ (.refl _) (.cons _ _ _ _ _ (.dead _) (.cons _ _ _ _ _ (.refl _) .nil))))))))))))) (OLe.refl _)).trans (cmpS_ok rfl)) ⟨_, rfl, rfl⟩
          · rintro _ ⟨b2497, rfl, rfl⟩
            have hh := brn_some h2508; clear h2508; rcases hh with ⟨h2498, h2508⟩ | ⟨h2498, h2508⟩
            · refine W_sound tab_ok mixed 11 _ _ _ ?_
              simp -implicitDefEqProofs only [go_sem, ne_eq, not_false_eq_true, Nat.reduceBEq, Nat.reduceAdd, Nat.reduceSub, Nat.reduceMul, Nat.reduceLT, Nat.reduceLeDiff, Int.reduceLE, Int.reduceLT, Int.reduceToNat, Int.reduceBEq, Int.reduceBNe, Int.le_refl, Nat.le_refl, decide_true, decide_false, Int.cast_ofNat_Int, ↓reduceIte, h2424, h2453, h2457, h2498]
              repeat with_reducible refine And.intro (by first | kernel_rfl | decide) ?_
              obtain rfl := Option.some.inj h2508
              (try dsimp only at h2505)
              obtain rfl := Option.some.inj h2505
              exact finC [(4, .v (.bool true))] [(4, .v (.bool true))] (by simp [leE, lk_cons]) (.cons _ _ _ _ _ (.v _ _ (.refl _)) .nil) (by rfl) (by simp [leE, lk_cons]) (by decide) (by decide) rfl (by simp only [go_sem, ne_eq, not_false_eq_true, Nat.reduceBEq, Nat.reduceAdd, Nat.reduceSub, Nat.reduceMul, Nat.reduceLT, Nat.reduceLeDiff, Int.reduceLE, Int.reduceLT, Int.reduceToNat, Int.reduceBEq, Int.reduceBNe, Int.le_refl, Nat.le_refl, decide_true, decide_false, Int.cast_ofNat_Int, ↓reduceIte, resQ_tmp, resQ_cell, resQ_nil, retD_one, retD_two, retD_three, retD_none]; try simp [R.val, retD_one, retD_two, retD_three, retD_none])
            · refine W_sound tab_ok mixed 12 _ _ _ ?_
              simp -implicitDefEqProofs only [go_sem, ne_eq, not_false_eq_true, Nat.reduceBEq, Nat.reduceAdd, Nat.reduceSub, Nat.reduceMul, Nat.reduceLT, Nat.reduceLeDiff, Int.reduceLE, Int.reduceLT, Int.reduceToNat, Int.reduceBEq, Int.reduceBNe, Int.le_refl, Nat.le_refl, decide_true, decide_false, Int.cast_ofNat_Int, ↓reduceIte, h2424, h2453, h2457, h2498]
              repeat with_reducible refine And.intro (by first | kernel_rfl | decide) ?_
              exact cutQ _ ((Wk_le (.cons _ _ _ _ _ (.refl _) (.cons _ _ _ _ _ (.refl _) (.cons _ _ _ _ _ (.refl _) (.cons _ _ _ _ _ (.refl _) (.cons _ _ _ _ _ (.refl _) (.cons _ _ _ _ _ (.refl _) (.cons _ _ _ _ _ (.dead _) (.cons _ _ _ _ _ (.refl _) (.cons _ _ _ _ _ (.refl _) (.cons _ _ _ _ _ (.refl _) (.cons _ _ _ _ _ (.refl _) (.cons _ _ _ _ _ (.refl _) (.cons _ _ _ _ _ (.dead _) .nil))))))))))))) (OLe.refl _)).trans (cmpS_ok rfl)) ⟨n, Nat.lt_succ_self n, _, h2508, rfl⟩
        · refine W_sound tab_ok mixed 10 _ _ _ ?_
          simp -implicitDefEqProofs only [go_sem, ne_eq, not_false_eq_true, Nat.reduceBEq, Nat.reduceAdd, Nat.reduceSub, Nat.reduceMul, Nat.reduceLT, Nat.reduceLeDiff, Int.reduceLE, Int.reduceLT, Int.reduceToNat, Int.reduceBEq, Int.reduceBNe, Int.le_refl, Nat.le_refl, decide_true, decide_false, Int.cast_ofNat_Int, ↓reduceIte, h2424, h2453, h2457]
          repeat with_reducible refine And.intro (by first | kernel_rfl | decide) ?_
          obtain rfl := Option.some.inj h2504
          exact cutQ _ ((Wk_le (.cons _ _ _ _ _ (.dead _) (.cons _ _ _ _ _ (.dead _) (.cons _ _ _ _ _ (.refl _) (.cons _ _ _ _ _ (.refl _) (.cons _ _ _ _ _ (.dead _) (.cons _ _ _ _ _ (.dead _) (.cons _ _ _ _ _ (.refl _) (.cons _ _ _ _ _ (.refl _) (.cons _ _ _ _ _ (.refl _) (.cons _ _ _ _ _ (.refl _) (.cons _ _ _ _ _ (.dead _) (.cons _ _ _ _ _ (.refl _) (.cons _ _ _ _ _ (.refl _) .nil))))))))))))) (OLe.refl _)).trans (cmpS_ok rfl)) ⟨rfl, rfl⟩
    · rintro _ ⟨rfl, rfl⟩
      (try dsimp only at h2505)
      refine W_sound tab_ok mixed 6 _ _ _ ?_
      simp -implicitDefEqProofs only [go_sem, ne_eq, not_false_eq_true, Nat.reduceBEq, Nat.reduceAdd, Nat.reduceSub, Nat.reduceMul, Nat.reduceLT, Nat.reduceLeDiff, Int.reduceLE, Int.reduceLT, Int.reduceToNat, Int.reduceBEq, Int.reduceBNe, Int.le_refl, Nat.le_refl, decide_true, decide_false, Int.cast_ofNat_Int, ↓reduceIte, h2424, h2453]
      repeat with_reducible refine And.intro (by first | kernel_rfl | decide) ?_
      obtain rfl := Option.some.inj h2505
      exact finC [(4, .v (.bool false))] [(4, .v (.bool false))] (by simp [leE, lk_cons]) (.cons _ _ _ _ _ (.v _ _ (.refl _)) .nil) (by rfl) (by simp [leE, lk_cons]) (by decide) (by decide) rfl (by simp only [go_sem, ne_eq, not_false_eq_true, Nat.reduceBEq, Nat.reduceAdd, Nat.reduceSub, Nat.reduceMul, Nat.reduceLT, Nat.reduceLeDiff, Int.reduceLE, Int.reduceLT, Int.reduceToNat, Int.reduceBEq, Int.reduceBNe, Int.le_refl, Nat.le_refl, decide_true, decide_false, Int.cast_ofNat_Int, ↓reduceIte, resQ_tmp, resQ_cell, resQ_nil, retD_one, retD_two, retD_three, retD_none]; try simp [R.val, retD_one, retD_two, retD_three, retD_none])

def m66_L1 (N : Nat) (n2511 : Nat) (c2512 : List PV) (n2562 : Nat) (x2563 : Int) (c2564 : List PV) : Nat → Int → Option (Int)
  | 0, _ => none
  | n + 1, x2571 =>
    brn (decide (x2571 < ((n2562 : Nat) : Int))) (
      grd (0 ≤ x2571 ∧ x2571 < ((n2562 : Nat) : Int)) <|
      grd ((Int.toNat x2571) < List.length c2564) <|
      getI .i64 (gp c2564 (Int.toNat x2571)) fun x2577 =>
      grd (0 ≤ x2577 ∧ x2577 < ((n2511 : Nat) : Int)) <|
      grd (0 < List.length (List.drop 1 (List.drop ((Int.toNat x2577) * 2) c2512))) <|
      getI .i64 (gp c2512 (((Int.toNat x2577) * 2) + 1)) fun x2582 =>
      grd (0 ≤ x2563 ∧ x2563 < ((n2511 : Nat) : Int)) <|
      grd (0 < List.length (List.drop 1 (List.drop ((Int.toNat x2563) * 2) c2512))) <|
      getI .i64 (gp c2512 (((Int.toNat x2563) * 2) + 1)) fun x2587 =>
      brn (decide (x2582 < x2587)) (
        m66_L1 N n2511 c2512 n2562 x2563 c2564 n (IntKind.i64.wrap (x2571 + 1))) (
        some x2571)) (
      some x2571)
def m66_L0 (N : Nat) (n2511 : Nat) (c2512 : List PV) : Nat → Nat → Int → List PV → Option ((Nat × List PV))
  | 0, _, _, _ => none
  | n + 1, n2562, x2563, c2564 =>
    brn (decide (x2563 < ((n2511 : Nat) : Int))) (
      bnd' (m87 N (.lst false n2511 c2512) x2563) fun p2566 =>
      getB p2566 fun b2569 =>
      brn b2569 (
        bnd' (m66_L1 N n2511 c2512 n2562 x2563 c2564 N 0) fun x2589 =>
        grd (0 ≤ x2589 ∧ x2589 ≤ ((n2562 : Nat) : Int)) <|
        grd (List.length (List.take (Int.toNat x2589) c2564) = (Int.toNat x2589)) <|
        brn (decide (0 < (Int.toNat x2589))) (
          grd ((Int.toNat x2589) ≤ 1099511627776) <|
          grd (((Int.toNat x2589) + 1) ≤ 1099511627776) <|
          grd (List.length (List.take (Int.toNat (((n2562 : Nat) : Int) - x2589)) (List.drop (Int.toNat x2589) c2564)) = (Int.toNat (((n2562 : Nat) : Int) - x2589))) <|
          grd ((((Int.toNat x2589) + 1) + (Int.toNat (((n2562 : Nat) : Int) - x2589))) ≤ 1099511627776) <|
          m66_L0 N n2511 c2512 n (((Int.toNat x2589) + 1) + (Int.toNat (((n2562 : Nat) : Int) - x2589))) (IntKind.i64.wrap (x2563 + 1)) (((List.take (Int.toNat x2589) c2564) ++ [(.int .i64 x2563)]) ++ (List.take (Int.toNat (((n2562 : Nat) : Int) - x2589)) (List.drop (Int.toNat x2589) c2564)))) (
          grd ((Int.toNat x2589) ≤ 1099511627776) <|
          grd (((Int.toNat x2589) + 1) ≤ 1099511627776) <|
          grd (List.length (List.take (Int.toNat (((n2562 : Nat) : Int) - x2589)) (List.drop (Int.toNat x2589) c2564)) = (Int.toNat (((n2562 : Nat) : Int) - x2589))) <|
          grd ((((Int.toNat x2589) + 1) + (Int.toNat (((n2562 : Nat) : Int) - x2589))) ≤ 1099511627776) <|
          m66_L0 N n2511 c2512 n (((Int.toNat x2589) + 1) + (Int.toNat (((n2562 : Nat) : Int) - x2589))) (IntKind.i64.wrap (x2563 + 1)) (((List.take (Int.toNat x2589) c2564) ++ [(.int .i64 x2563)]) ++ (List.take (Int.toNat (((n2562 : Nat) : Int) - x2589)) (List.drop (Int.toNat x2589) c2564))))) (
        m66_L0 N n2511 c2512 n n2562 (IntKind.i64.wrap (x2563 + 1)) c2564)) (
      some (n2562, c2564))
def m66 (N : Nat) (p2509 : PV) : Option (PV) :=
  getL p2509 fun n2511 c2512 =>
  bnd' (m66_L0 N n2511 c2512 N 0 0 []) fun o =>
  match o with
  | (n2602, c2603) =>
    grd (List.length c2603 = n2602) <|
    some (.lst false n2602 c2603)
theorem c66 (N : Nat) (p2509 : PV) (r : PV)  (h : m66 N p2509 = some r) : FnP Try.prog 66 [p2509] r := by
  unfold m66 at h
  refine Fn_of (sz := 54) tab_ok [0, 2, 3, 4, 5, 6, 10, 16, 36] [.tmp 2] Try.func66 rfl rfl rfl (by simp) ?_
  simp only [initSt, initEnv, List.map_cons, List.map_nil, List.getD_cons_zero, List.getD_cons_succ, List.getD_nil]
  have hh := getL_some h; clear h; obtain ⟨n2511, c2512, h2510, h⟩ := hh
  refine W_sound tab_ok mixed 13 _ _ _ ?_
  simp -implicitDefEqProofs only [go_sem, ne_eq, not_false_eq_true, Nat.reduceBEq, Nat.reduceAdd, Nat.reduceSub, Nat.reduceMul, Nat.reduceLT, Nat.reduceLeDiff, Int.reduceLE, Int.reduceLT, Int.reduceToNat, Int.reduceBEq, Int.reduceBNe, Int.le_refl, Nat.le_refl, decide_true, decide_false, Int.cast_ofNat_Int, ↓reduceIte, h2510]
  repeat with_reducible refine And.intro (by first | kernel_rfl | decide) ?_
  refine Wp_weaken (Wk_ownS 3 1 rfl (by decide) (by decide)) ?_
  simp -implicitDefEqProofs only [go_sem, ne_eq, not_false_eq_true, Nat.reduceBEq, Nat.reduceAdd, Nat.reduceSub, Nat.reduceMul, Nat.reduceLT, Nat.reduceLeDiff, Int.reduceLE, Int.reduceLT, Int.reduceToNat, Int.reduceBEq, Int.reduceBNe, Int.le_refl, Nat.le_refl, decide_true, decide_false, Int.cast_ofNat_Int, ↓reduceIte, h2510]
  have hh := bnd'_some h; clear h; obtain ⟨o2605, h2606, h2607⟩ := hh
  refine Wp_cut (fun s => ∃ n2602, ∃ c2603, (n2602, c2603) = o2605 ∧ s = ⟨[], [(0, .dead), (2, .dead), (3, .sl false 0 0 n2602 1), (4, .dead), (5, .dead), (6, .dead), (10, .dead), (16, .dead), (36, .dead)], [(0, .p c2603)], 1, []⟩) ?_ ?_
  · refine Wp_block ?_
    refine Wp_loopG (fun n s => ∃ n2562, ∃ x2563, ∃ c2564, m66_L0 N n2511 c2512 n n2562 x2563 c2564 = some o2605 ∧ s = ⟨[], [(0, .v (.lst false n2511 c2512)), (2, .dead), (3, .sl false 0 0 n2562 1), (4, .v (.int .i64 x2563)), (5, .dead), (6, .dead), (10, .dead), (16, .dead), (36, .dead)], [(0, .p c2564)], 1, []⟩) N _ ((Wk_le (.cons _ _ _ _ _ (.refl _) (.cons _ _ _ _ _ (.dead _) (.cons _ _ _ _ _ (.refl _) (.cons _ _ _ _ _ (.refl _) (.cons _ _ _ _ _ (.refl _) (.cons _ _ _ _ _ (.refl _) (.cons _ _ _ _ _ (.refl _) (.cons _ _ _ _ _ (.refl _) (.cons _ _ _ _ _ (.refl _) .nil))))))))) (OLe.refl _)).trans (cmpS_ok rfl)) ⟨_, _, _, h2606, rfl⟩ ?_
    clear h2606
    rintro n _ ⟨n2562, x2563, c2564, h2606, rfl⟩
    cases n with
    | zero => cases h2606
    | succ n =>
      rw [m66_L0] at h2606
      have hh := brn_some h2606; clear h2606; rcases hh with ⟨h2565, h2606⟩ | ⟨h2565, h2606⟩
      · have hh := bnd'_some h2606; clear h2606; obtain ⟨p2566, h2567, h2606⟩ := hh
        refine W_sound tab_ok mixed 17 _ _ _ ?_
        simp -implicitDefEqProofs only [go_sem, ne_eq, not_false_eq_true, Nat.reduceBEq, Nat.reduceAdd, Nat.reduceSub, Nat.reduceMul, Nat.reduceLT, Nat.reduceLeDiff, Int.reduceLE, Int.reduceLT, Int.reduceToNat, Int.reduceBEq, Int.reduceBNe, Int.le_refl, Nat.le_refl, decide_true, decide_false, Int.cast_ofNat_Int, ↓reduceIte, h2510, h2565]
        repeat with_reducible refine And.intro (by first | kernel_rfl | decide) ?_
        refine Wp_callP (c87 N _ _ _ h2567) (by kernel_rfl) rfl rfl rfl rfl (by decide) ?_
        have hh := getB_some h2606; clear h2606; obtain ⟨b2569, h2568, h2606⟩ := hh
        have hh := brn_some h2606; clear h2606; rcases hh with ⟨h2570, h2606⟩ | ⟨h2570, h2606⟩
        · refine W_sound tab_ok mixed 9 _ _ _ ?_
          simp -implicitDefEqProofs only [go_sem, ne_eq, not_false_eq_true, Nat.reduceBEq, Nat.reduceAdd, Nat.reduceSub, Nat.reduceMul, Nat.reduceLT, Nat.reduceLeDiff, Int.reduceLE, Int.reduceLT, Int.reduceToNat, Int.reduceBEq, Int.reduceBNe, Int.le_refl, Nat.le_refl, decide_true, decide_false, Int.cast_ofNat_Int, ↓reduceIte, h2510, h2565, h2568, h2570]
          repeat with_reducible refine And.intro (by first | kernel_rfl | decide) ?_
          have hh := bnd'_some h2606; clear h2606; obtain ⟨o2608, h2609, h2610⟩ := hh
          refine Wp_cut (fun s => ∃ x2589, x2589 = o2608 ∧ s = ⟨[], [(0, .v (.lst false n2511 c2512)), (2, .dead), (3, .sl false 0 0 n2562 1), (4, .v (.int .i64 x2563)), (5, .v (.int .i64 x2589)), (6, .dead), (10, .dead), (16, .dead), (36, .dead)], [(0, .p c2564)], 1, []⟩) ?_ ?_
          · refine Wp_block ?_
            refine Wp_loopG (fun n s => ∃ x2571, m66_L1 N n2511 c2512 n2562 x2563 c2564 n x2571 = some o2608 ∧ s = ⟨[], [(0, .v (.lst false n2511 c2512)), (2, .dead), (3, .sl false 0 0 n2562 1), (4, .v (.int .i64 x2563)), (5, .v (.int .i64 x2571)), (6, .dead), (10, .dead), (16, .dead), (36, .dead)], [(0, .p c2564)], 1, []⟩) N _ ((Wk_le (.cons _ _ _ _ _ (.refl _) (.cons _ _ _ _ _ (.refl _) (.cons _ _ _ _ _ (.refl _) (.cons _ _ _ _ _ (.refl _) (.cons _ _ _ _ _ (.refl _) (.cons _ _ _ _ _ (.refl _) (.cons _ _ _ _ _ (.dead _) (.cons _ _ _ _ _ (.dead _) (.cons _ _ _ _ _ (.refl _) .nil))))))))) (OLe.refl _)).trans (cmpS_ok rfl)) ⟨_, h2609, rfl⟩ ?_
            clear h2609
            rintro n _ ⟨x2571, h2609, rfl⟩
            cases n with
            | zero => cases h2609
            | succ n =>
              rw [m66_L1] at h2609
              have hh := brn_some h2609; clear h2609; rcases hh with ⟨h2572, h2609⟩ | ⟨h2572, h2609⟩
              · have hh := grd_some h2609; clear h2609; obtain ⟨⟨g2573, g2574⟩, h2609⟩ := hh
                have hh := grd_some h2609; clear h2609; obtain ⟨g2575, h2609⟩ := hh
                have hh := getI_some h2609; clear h2609; obtain ⟨x2577, h2576, h2609⟩ := hh
                have hh := grd_some h2609; clear h2609; obtain ⟨⟨g2578, g2579⟩, h2609⟩ := hh
                have hh := grd_some h2609; clear h2609; obtain ⟨g2580, h2609⟩ := hh
                have hh := getI_some h2609; clear h2609; obtain ⟨x2582, h2581, h2609⟩ := hh
                have hh := grd_some h2609; clear h2609; obtain ⟨⟨g2583, g2584⟩, h2609⟩ := hh
                have hh := grd_some h2609; clear h2609; obtain ⟨g2585, h2609⟩ := hh
                have hh := getI_some h2609; clear h2609; obtain ⟨x2587, h2586, h2609⟩ := hh
                have hh := brn_some h2609; clear h2609; rcases hh with ⟨h2588, h2609⟩ | ⟨h2588, h2609⟩
                · refine W_sound tab_ok mixed 33 _ _ _ ?_
                  simp -implicitDefEqProofs only [go_sem, ne_eq, not_false_eq_true, Nat.reduceBEq, Nat.reduceAdd, Nat.reduceSub, Nat.reduceMul, Nat.reduceLT, Nat.reduceLeDiff, Int.reduceLE, Int.reduceLT, Int.reduceToNat, Int.reduceBEq, Int.reduceBNe, Int.le_refl, Nat.le_refl, decide_true, decide_false, Int.cast_ofNat_Int, ↓reduceIte, h2510, h2565, h2568, h2570, h2572, g2573, g2574, g2575, h2576, g2578, g2579, g2580, h2581, g2583, g2584, g2585, h2586, h2588]
                  repeat with_reducible refine And.intro (by first | kernel_rfl | decide) ?_
                  exact cutQ _ ((Wk_le (.cons _ _ _ _ _ (.refl _) (.cons _ _ _ _ _ (.refl _) (.cons _ _ _ _ _ (.refl _) (.cons _ _ _ _ _ (.refl _) (.cons _ _ _ _ _ (.refl _) (.cons _ _ _ _ _ (.refl _) (.cons _ _ _ _ _ (.refl _) (.cons _ _ _ _ _ (.refl _) (.cons _ _ _ _ _ (.dead _) .nil))))))))) (OLe.refl _)).trans (cmpS_ok rfl)) ⟨n, Nat.lt_succ_self n, _, h2609, rfl⟩
                · refine W_sound tab_ok mixed 26 _ _ _ ?_
                  simp -implicitDefEqProofs only [go_sem, ne_eq, not_false_eq_true, Nat.reduceBEq, Nat.reduceAdd, Nat.reduceSub, Nat.reduceMul, Nat.reduceLT, Nat.reduceLeDiff, Int.reduceLE, Int.reduceLT, Int.reduceToNat, Int.reduceBEq, Int.reduceBNe, Int.le_refl, Nat.le_refl, decide_true, decide_false, Int.cast_ofNat_Int, ↓reduceIte, h2510, h2565, h2568, h2570, h2572, g2573, g2574, g2575, h2576, g2578, g2579, g2580, h2581, g2583, g2584, g2585, h2586, h2588]
                  repeat with_reducible refine And.intro (by first | kernel_rfl | decide) ?_
                  obtain rfl := Option.some.inj h2609
                  exact cutQ _ ((Wk_le (.cons _ _ _ _ _ (.refl _) (.cons _ _ _ _ _ (.refl _) (.cons _ _ _ _ _ (.refl _) (.cons _ _ _ _ _ (.refl _) (.cons _ _ _ _ _ (.refl _) (.cons _ _ _ _ _ (.refl _) (.cons _ _ _ _ _ (.refl _) (.cons _ _ _ _ _ (.refl _) (.cons _ _ _ _ _ (.dead _) .nil))))))))) (OLe.refl _)).trans (cmpS_ok rfl)) ⟨_, rfl, rfl⟩
              · refine W_sound tab_ok mixed 26 _ _ _ ?_
                simp -implicitDefEqProofs only [go_sem, ne_eq, not_false_eq_true, Nat.reduceBEq, Nat.reduceAdd, Nat.reduceSub, Nat.reduceMul, Nat.reduceLT, Nat.reduceLeDiff, Int.reduceLE, Int.reduceLT, Int.reduceToNat, Int.reduceBEq, Int.reduceBNe, Int.le_refl, Nat.le_refl, decide_true, decide_false, Int.cast_ofNat_Int, ↓reduceIte, h2510, h2565, h2568, h2570, h2572]
                repeat with_reducible refine And.intro (by first | kernel_rfl | decide) ?_
                obtain rfl := Option.some.inj h2609
                exact cutQ _ ((Wk_le (.cons _ _ _ _ _ (.refl _) (.cons _ _ _ _ _ (.refl _) (.cons _ _ _ _ _ (.refl _) (.cons _ _ _ _ _ (.refl _) (.cons _ _ _ _ _ (.refl _) (.cons _ _ _ _ _ (.refl _) (.cons _ _ _ _ _ (.refl _) (.cons _ _ _ _ _ (.refl _) (.cons _ _ _ _ _ (.dead _) .nil))))))))) (OLe.refl _)).trans (cmpS_ok rfl)) ⟨_, rfl, rfl⟩
          · rintro _ ⟨x2589, rfl, rfl⟩
            have hh := grd_some h2610; clear h2610; obtain ⟨⟨g2590, g2591⟩, h2610⟩ := hh
            have hh := grd_some h2610; clear h2610; obtain ⟨g2592, h2610⟩ := hh
            have hh := brn_some h2610; clear h2610; rcases hh with ⟨h2593, h2610⟩ | ⟨h2593, h2610⟩
            · have hh := grd_some h2610; clear h2610; obtain ⟨g2594, h2610⟩ := hh
              have hh := grd_some h2610; clear h2610; obtain ⟨g2595, h2610⟩ := hh
              have hh := grd_some h2610; clear h2610; obtain ⟨g2596, h2610⟩ := hh
              have hh := grd_some h2610; clear h2610; obtain ⟨g2597, h2610⟩ := hh
              refine W_sound tab_ok mixed 31 _ _ _ ?_
              simp -implicitDefEqProofs only [go_sem, ne_eq, not_false_eq_true, Nat.reduceBEq, Nat.reduceAdd, Nat.reduceSub, Nat.reduceMul, Nat.reduceLT, Nat.reduceLeDiff, Int.reduceLE, Int.reduceLT, Int.reduceToNat, Int.reduceBEq, Int.reduceBNe, Int.le_refl, Nat.le_refl, decide_true, decide_false, Int.cast_ofNat_Int, ↓reduceIte, h2510, h2565, h2568, h2570, g2590, g2591, g2592, h2593, g2594, g2595, g2596, g2597]
              repeat with_reducible refine And.intro (by first | kernel_rfl | decide) ?_
              exact cutQ _ ((Wk_le (.cons _ _ _ _ _ (.refl _) (.cons _ _ _ _ _ (.refl _) (.cons _ _ _ _ _ (.refl _) (.cons _ _ _ _ _ (.refl _) (.cons _ _ _ _ _ (.dead _) (.cons _ _ _ _ _ (.dead _) (.cons _ _ _ _ _ (.refl _) (.cons _ _ _ _ _ (.refl _) (.cons _ _ _ _ _ (.refl _) .nil))))))))) (OLe.refl _)).trans (cmpS_ok rfl)) ⟨n, Nat.lt_succ_self n, _, _, _, h2610, rfl⟩
            · have hh := grd_some h2610; clear h2610; obtain ⟨g2598, h2610⟩ := hh
              have hh := grd_some h2610; clear h2610; obtain ⟨g2599, h2610⟩ := hh
              have hh := grd_some h2610; clear h2610; obtain ⟨g2600, h2610⟩ := hh
              have hh := grd_some h2610; clear h2610; obtain ⟨g2601, h2610⟩ := hh
              refine W_sound tab_ok mixed 31 _ _ _ ?_
              simp -implicitDefEqProofs only [go_sem, ne_eq, not_false_eq_true, Nat.reduceBEq, Nat.reduceAdd, Nat.reduceSub, Nat.reduceMul, Nat.reduceLT, Nat.reduceLeDiff, Int.reduceLE, Int.reduceLT, Int.reduceToNat, Int.reduceBEq, Int.reduceBNe, Int.le_refl, Nat.le_refl, decide_true, decide_false, Int.cast_ofNat_Int, ↓reduceIte, h2510, h2565, h2568, h2570, g2590, g2591, g2592, h2593, g2598, g2599, g2600, g2601]
              repeat with_reducible refine And.intro (by first | kernel_rfl | decide) ?_
              exact cutQ _ ((Wk_le (.cons _ _ _ _ _ (.refl _) (.cons _ _ _ _ _ (.refl _) (.cons _ _ _ _ _ (.refl _) (.cons _ _ _ _ _ (.refl _) (.cons _ _ _ _ _ (.dead _) (.cons _ _ _ _ _ (.dead _) (.cons _ _ _ _ _ (.refl _) (.cons _ _ _ _ _ (.refl _) (.cons _ _ _ _ _ (.refl _) .nil))))))))) (OLe.refl _)).trans (cmpS_ok rfl)) ⟨n, Nat.lt_succ_self n, _, _, _, h2610, rfl⟩
        · refine W_sound tab_ok mixed 9 _ _ _ ?_
          simp -implicitDefEqProofs only [go_sem, ne_eq, not_false_eq_true, Nat.reduceBEq, Nat.reduceAdd, Nat.reduceSub, Nat.reduceMul, Nat.reduceLT, Nat.reduceLeDiff, Int.reduceLE, Int.reduceLT, Int.reduceToNat, Int.reduceBEq, Int.reduceBNe, Int.le_refl, Nat.le_refl, decide_true, decide_false, Int.cast_ofNat_Int, ↓reduceIte, h2510, h2565, h2568, h2570]
          repeat with_reducible refine And.intro (by first | kernel_rfl | decide) ?_
          exact cutQ _ ((Wk_le (.cons _ _ _ _ _ (.refl _) (.cons _ _ _ _ _ (.refl _) (.cons _ _ _ _ _ (.refl _) (.cons _ _ _ _ _ (.refl _) (.cons _ _ _ _ _ (.refl _) (.cons _ _ _ _ _ (.refl _) (.cons _ _ _ _ _ (.dead _) (.cons _ _ _ _ _ (.dead _) (.cons _ _ _ _ _ (.refl _) .nil))))))))) (OLe.refl _)).trans (cmpS_ok rfl)) ⟨n, Nat.lt_succ_self n, _, _, _, h2606, rfl⟩
      · refine W_sound tab_ok mixed 10 _ _ _ ?_
        simp -implicitDefEqProofs only [go_sem, ne_eq, not_false_eq_true, Nat.reduceBEq, Nat.reduceAdd, Nat.reduceSub, Nat.reduceMul, Nat.reduceLT, Nat.reduceLeDiff, Int.reduceLE, Int.reduceLT, Int.reduceToNat, Int.reduceBEq, Int.reduceBNe, Int.le_refl, Nat.le_refl, decide_true, decide_false, Int.cast_ofNat_Int, ↓reduceIte, h2510, h2565]
        repeat with_reducible refine And.intro (by first | kernel_rfl | decide) ?_
        obtain rfl := Option.some.inj h2606
        exact cutQ _ ((Wk_le (.cons _ _ _ _ _ (.dead _) (.cons _ _ _ _ _ (.refl _) (.cons _ _ _ _ _ (.refl _) (.cons _ _ _ _ _ (.dead _) (.cons _ _ _ _ _ (.refl _) (.cons _ _ _ _ _ (.refl _) (.cons _ _ _ _ _ (.dead _) (.cons _ _ _ _ _ (.refl _) (.cons _ _ _ _ _ (.refl _) .nil))))))))) (OLe.refl _)).trans (cmpS_ok rfl)) ⟨_, _, rfl, rfl⟩
  · rintro _ ⟨n2602, c2603, rfl, rfl⟩
    (try dsimp only at h2607)
    refine W_sound tab_ok mixed 7 _ _ _ ?_
    simp -implicitDefEqProofs only [go_sem, ne_eq, not_false_eq_true, Nat.reduceBEq, Nat.reduceAdd, Nat.reduceSub, Nat.reduceMul, Nat.reduceLT, Nat.reduceLeDiff, Int.reduceLE, Int.reduceLT, Int.reduceToNat, Int.reduceBEq, Int.reduceBNe, Int.le_refl, Nat.le_refl, decide_true, decide_false, Int.cast_ofNat_Int, ↓reduceIte, h2510]
    repeat with_reducible refine And.intro (by first | kernel_rfl | decide) ?_
    have hh := grd_some h2607; clear h2607; obtain ⟨g2604, h2607⟩ := hh
    refine FinQ_wk (Wk_freeze 0 c2603 (by rfl) (by decide) (by decide)) ?_
    simp -implicitDefEqProofs only [go_sem, ne_eq, not_false_eq_true, Nat.reduceBEq, Nat.reduceAdd, Nat.reduceSub, Nat.reduceMul, Nat.reduceLT, Nat.reduceLeDiff, Int.reduceLE, Int.reduceLT, Int.reduceToNat, Int.reduceBEq, Int.reduceBNe, Int.le_refl, Nat.le_refl, decide_true, decide_false, Int.cast_ofNat_Int, ↓reduceIte, h2510, g2604]
    obtain rfl := Option.some.inj h2607
    exact finC [(2, .v (.lst false n2602 c2603))] [(2, .v (.lst false n2602 c2603))] (by simp [leE, lk_cons]) (.cons _ _ _ _ _ (.v _ _ (.refl _)) .nil) (by rfl) (by simp [leE, lk_cons]) (by decide) (by decide) rfl (by simp only [go_sem, ne_eq, not_false_eq_true, Nat.reduceBEq, Nat.reduceAdd, Nat.reduceSub, Nat.reduceMul, Nat.reduceLT, Nat.reduceLeDiff, Int.reduceLE, Int.reduceLT, Int.reduceToNat, Int.reduceBEq, Int.reduceBNe, Int.le_refl, Nat.le_refl, decide_true, decide_false, Int.cast_ofNat_Int, ↓reduceIte, resQ_tmp, resQ_cell, resQ_nil, retD_one, retD_two, retD_three, retD_none]; try simp [R.val, retD_one, retD_two, retD_three, retD_none])

end Go.Proofs.Ytgnphlpoofaojaa
