import Derived.Test.YtgnphlpoofaojaaUCovs
import Derived.Test.YtgnphlpoofaojaaUHulls
import Derived.Test.YtgnphlpoofaojaaB
import Derived.Test.YtgnphlpoofaojaaV33
namespace Go.Proofs.Ytgnphlpoofaojaa
open Go.V
set_option maxRecDepth 100000
set_option maxHeartbeats 4000000
set_option linter.unusedSimpArgs false
set_option linter.unusedVariables false
attribute [local go_sem] tl1 tl2 tl3 tl4 tl5 tl9 tl17 tl21 tl22 tl23 tl24 tl25 tl26 tl27 tl28 tl29 tl31 tl33 tl34 tl36 tl37 tl38 tl39 tl40 tl41 tl42 tl43 tl44 tl46 tl47 tl49 tl50 tl52 tl53 tl54 tl55 tl56 tl57 tl58 tl60 tl62 tl63 tl64 tl65 tl66 tl67 tl68 tl69 tl70 tl71 tl72 tl74 tl75 tl76 tl77 tl78 tl79 tl80 tl81 tl82 tl83 tl84 tl85 tl86 tl87 tl88 tl89 tl90 tl91 tl92 tl93 tl94 tl95 tl96 tl97 tl98 tl99 tl100 tl102 tl103 tl104 tl105 tl106 tl107 tl108 tl109 tl110 tl111 tl112 tl113 tl114 tl115 tl116 tl117 tl118 tl119 tl120 tl121 tl122 tl123 tl124 tl125 tl126 tl127 tl128 tl129 tl130 tl131 tl132 tl133 tl134 tl140 tl141 tl145

def m24 (N : Nat) (p2264 : PV) : Option (PV) :=
  getL p2264 fun n2266 c2267 =>
  bnd' (m22 N (.lst false n2266 c2267)) fun p2268 =>
  getI .i64 p2268 fun x2271 =>
  brn (x2271 != 0) (
    some (.tup [(.lst false 0 []), (.int .i64 x2271)])) (
    bnd' (m65 N (.lst false n2266 c2267)) fun p2273 =>
    getL p2273 fun n2276 c2277 =>
    some (.tup [(.lst false n2276 c2277), (.int .i64 0)]))
theorem c24 (N : Nat) (p2264 : PV) (r : PV)  (h : m24 N p2264 = some r) : FnP Try.prog 24 [p2264] r := by
  unfold m24 at h
  refine Fn_of (sz := 12) tab_ok [0, 2, 3, 4, 8] [.tmp 2, .tmp 3] Try.func24 rfl rfl rfl (by simp) ?_
  simp only [initSt, initEnv, List.map_cons, List.map_nil, List.getD_cons_zero, List.getD_cons_succ, List.getD_nil]
  have hh := getL_some h; clear h; obtain ⟨n2266, c2267, h2265, h⟩ := hh
  have hh := bnd'_some h; clear h; obtain ⟨p2268, h2269, h⟩ := hh
  refine W_sound tab_ok mixed 9 _ _ _ ?_
  simp -implicitDefEqProofs only [go_sem, ne_eq, not_false_eq_true, Nat.reduceBEq, Nat.reduceAdd, Nat.reduceSub, Nat.reduceMul, Nat.reduceLT, Nat.reduceLeDiff, Int.reduceLE, Int.reduceLT, Int.reduceToNat, Int.reduceBEq, Int.reduceBNe, Int.le_refl, Nat.le_refl, decide_true, decide_false, Int.cast_ofNat_Int, ↓reduceIte, h2265]
  repeat with_reducible refine And.intro (by first | kernel_rfl | decide) ?_
  refine Wp_callP (c22 N _ _ h2269) (by kernel_rfl) rfl rfl rfl rfl (by decide) ?_
  have hh := getI_some h; clear h; obtain ⟨x2271, h2270, h⟩ := hh
  have hh := brn_some h; clear h; rcases hh with ⟨h2272, h⟩ | ⟨h2272, h⟩
  · refine W_sound tab_ok mixed 16 _ _ _ ?_
    simp -implicitDefEqProofs only [go_sem, ne_eq, not_false_eq_true, Nat.reduceBEq, Nat.reduceAdd, Nat.reduceSub, Nat.reduceMul, Nat.reduceLT, Nat.reduceLeDiff, Int.reduceLE, Int.reduceLT, Int.reduceToNat, Int.reduceBEq, Int.reduceBNe, Int.le_refl, Nat.le_refl, decide_true, decide_false, Int.cast_ofNat_Int, ↓reduceIte, h2265, h2270, h2272]
    repeat with_reducible refine And.intro (by first | kernel_rfl | decide) ?_
    obtain rfl := Option.some.inj h
    exact finC [(2, .v .nl), (3, .v (.int .i64 x2271))] [(2, .v (.lst false 0 [])), (3, .v (.int .i64 x2271))] (by simp [leE, lk_cons]) (.cons _ _ _ _ _ (.v _ _ (.nl false)) (.cons _ _ _ _ _ (.v _ _ (.refl _)) .nil)) (by rfl) (by simp [leE, lk_cons]) (by decide) (by decide) rfl (by simp only [go_sem, ne_eq, not_false_eq_true, Nat.reduceBEq, Nat.reduceAdd, Nat.reduceSub, Nat.reduceMul, Nat.reduceLT, Nat.reduceLeDiff, Int.reduceLE, Int.reduceLT, Int.reduceToNat, Int.reduceBEq, Int.reduceBNe, Int.le_refl, Nat.le_refl, decide_true, decide_false, Int.cast_ofNat_Int, ↓reduceIte, resQ_tmp, resQ_cell, resQ_nil, retD_one, retD_two, retD_three, retD_none]; try simp [R.val, retD_one, retD_two, retD_three, retD_none])
  · have hh := bnd'_some h; clear h; obtain ⟨p2273, h2274, h⟩ := hh
    refine W_sound tab_ok mixed 12 _ _ _ ?_
    simp -implicitDefEqProofs only [go_sem, ne_eq, not_false_eq_true, Nat.reduceBEq, Nat.reduceAdd, Nat.reduceSub, Nat.reduceMul, Nat.reduceLT, Nat.reduceLeDiff, Int.reduceLE, Int.reduceLT, Int.reduceToNat, Int.reduceBEq, Int.reduceBNe, Int.le_refl, Nat.le_refl, decide_true, decide_false, Int.cast_ofNat_Int, ↓reduceIte, h2265, h2270, h2272]
    repeat with_reducible refine And.intro (by first | kernel_rfl | decide) ?_
    refine Wp_callP (c65 N _ _ h2274) (by kernel_rfl) rfl rfl rfl rfl (by decide) ?_
    have hh := getL_some h; clear h; obtain ⟨n2276, c2277, h2275, h⟩ := hh
    refine W_sound tab_ok mixed 5 _ _ _ ?_
    simp -implicitDefEqProofs only [go_sem, ne_eq, not_false_eq_true, Nat.reduceBEq, Nat.reduceAdd, Nat.reduceSub, Nat.reduceMul, Nat.reduceLT, Nat.reduceLeDiff, Int.reduceLE, Int.reduceLT, Int.reduceToNat, Int.reduceBEq, Int.reduceBNe, Int.le_refl, Nat.le_refl, decide_true, decide_false, Int.cast_ofNat_Int, ↓reduceIte, h2265, h2270, h2272, h2275]
    repeat with_reducible refine And.intro (by first | kernel_rfl | decide) ?_
    obtain rfl := Option.some.inj h
    exact finC [(2, .v (.lst false n2276 c2277)), (3, .v (.int .i64 0))] [(2, .v (.lst false n2276 c2277)), (3, .v (.int .i64 0))] (by simp [leE, lk_cons]) (.cons _ _ _ _ _ (.v _ _ (.refl _)) (.cons _ _ _ _ _ (.v _ _ (.refl _)) .nil)) (by rfl) (by simp [leE, lk_cons]) (by decide) (by decide) rfl (by simp only [go_sem, ne_eq, not_false_eq_true, Nat.reduceBEq, Nat.reduceAdd, Nat.reduceSub, Nat.reduceMul, Nat.reduceLT, Nat.reduceLeDiff, Int.reduceLE, Int.reduceLT, Int.reduceToNat, Int.reduceBEq, Int.reduceBNe, Int.le_refl, Nat.le_refl, decide_true, decide_false, Int.cast_ofNat_Int, ↓reduceIte, resQ_tmp, resQ_cell, resQ_nil, retD_one, retD_two, retD_three, retD_none]; try simp [R.val, retD_one, retD_two, retD_three, retD_none])

def m67_L0 (N : Nat) (n2280 : Nat) (c2281 : List PV) (n2285 : Nat) (c2286 : List PV) : Nat → Nat → Int → List PV → Option ((Nat × List PV))
  | 0, _, _, _ => none
  | n + 1, n2361, x2362, c2363 =>
    brn (decide (x2362 < (IntKind.i64.wrap (((n2285 : Nat) : Int) - 1)))) (
      grd (0 ≤ x2362 ∧ x2362 < ((n2285 : Nat) : Int)) <|
      grd (0 < List.length (List.drop (Int.toNat x2362) c2286)) <|
      getI .i64 (gp c2286 (Int.toNat x2362)) fun x2369 =>
      grd (0 ≤ x2369 ∧ x2369 < ((n2280 : Nat) : Int)) <|
      grd (2 ≤ List.length (List.drop ((Int.toNat x2369) * 2) c2281)) <|
      getA2 (.agg (List.take 2 (List.drop ((Int.toNat x2369) * 2) c2281))) fun p2374 p2375 =>
      grd (0 ≤ (IntKind.i64.wrap (x2362 + 1)) ∧ (IntKind.i64.wrap (x2362 + 1)) < ((n2285 : Nat) : Int)) <|
      grd (0 < List.length (List.drop (Int.toNat (IntKind.i64.wrap (x2362 + 1))) c2286)) <|
      getI .i64 (gp c2286 (Int.toNat (IntKind.i64.wrap (x2362 + 1)))) fun x2380 =>
      grd (0 ≤ x2380 ∧ x2380 < ((n2280 : Nat) : Int)) <|
      grd (2 ≤ List.length (List.drop ((Int.toNat x2380) * 2) c2281)) <|
      getA2 (.agg (List.take 2 (List.drop ((Int.toNat x2380) * 2) c2281))) fun p2385 p2386 =>
      getI .i64 p2374 fun x2388 =>
      getI .i64 p2375 fun x2390 =>
      getI .i64 p2385 fun x2392 =>
      getI .i64 p2386 fun x2394 =>
      bnd' (m58 N (IntKind.i64.wrap (x2388 - x2392)) (IntKind.i64.wrap (x2394 - x2390))) fun p2395 =>
      getA2 p2395 fun p2398 p2399 =>
      grd ((n2361 + 1) ≤ 1099511627776) <|
      grd (List.length c2363 = (n2361 * 2)) <|
      m67_L0 N n2280 c2281 n2285 c2286 n (n2361 + 1) (IntKind.i64.wrap (x2362 + 1)) (c2363 ++ [p2398, p2399])) (
      some (n2361, c2363))
def m67 (N : Nat) (p2278 : PV) : Option (PV) :=
  getL p2278 fun n2280 c2281 =>
  bnd' (m65 N (.lst false n2280 c2281)) fun p2282 =>
  getL p2282 fun n2285 c2286 =>
  bnd' (m67_L0 N n2280 c2281 n2285 c2286 N 0 0 []) fun o =>
  match o with
  | (n2402, c2403) =>
    grd (List.length c2403 = (n2402 * 2)) <|
    some (.lst false n2402 c2403)
theorem c67 (N : Nat) (p2278 : PV) (r : PV)  (h : m67 N p2278 = some r) : FnP Try.prog 67 [p2278] r := by
  unfold m67 at h
  refine Fn_of (sz := 47) tab_ok [0, 2, 3, 4, 5, 6, 7, 12, 13, 14] [.tmp 2] Try.func67 rfl rfl rfl (by simp) ?_
  simp only [initSt, initEnv, List.map_cons, List.map_nil, List.getD_cons_zero, List.getD_cons_succ, List.getD_nil]
  have hh := getL_some h; clear h; obtain ⟨n2280, c2281, h2279, h⟩ := hh
  have hh := bnd'_some h; clear h; obtain ⟨p2282, h2283, h⟩ := hh
  refine W_sound tab_ok mixed 7 _ _ _ ?_
  simp -implicitDefEqProofs only [go_sem, ne_eq, not_false_eq_true, Nat.reduceBEq, Nat.reduceAdd, Nat.reduceSub, Nat.reduceMul, Nat.reduceLT, Nat.reduceLeDiff, Int.reduceLE, Int.reduceLT, Int.reduceToNat, Int.reduceBEq, Int.reduceBNe, Int.le_refl, Nat.le_refl, decide_true, decide_false, Int.cast_ofNat_Int, ↓reduceIte, h2279]
  repeat with_reducible refine And.intro (by first | kernel_rfl | decide) ?_
  refine Wp_callP (c65 N _ _ h2283) (by kernel_rfl) rfl rfl rfl rfl (by decide) ?_
  have hh := getL_some h; clear h; obtain ⟨n2285, c2286, h2284, h⟩ := hh
  refine W_sound tab_ok mixed 14 _ _ _ ?_
  simp -implicitDefEqProofs only [go_sem, ne_eq, not_false_eq_true, Nat.reduceBEq, Nat.reduceAdd, Nat.reduceSub, Nat.reduceMul, Nat.reduceLT, Nat.reduceLeDiff, Int.reduceLE, Int.reduceLT, Int.reduceToNat, Int.reduceBEq, Int.reduceBNe, Int.le_refl, Nat.le_refl, decide_true, decide_false, Int.cast_ofNat_Int, ↓reduceIte, h2279, h2284]
  repeat with_reducible refine And.intro (by first | kernel_rfl | decide) ?_
  refine Wp_weaken (Wk_ownS 4 2 rfl (by decide) (by decide)) ?_
  simp -implicitDefEqProofs only [go_sem, ne_eq, not_false_eq_true, Nat.reduceBEq, Nat.reduceAdd, Nat.reduceSub, Nat.reduceMul, Nat.reduceLT, Nat.reduceLeDiff, Int.reduceLE, Int.reduceLT, Int.reduceToNat, Int.reduceBEq, Int.reduceBNe, Int.le_refl, Nat.le_refl, decide_true, decide_false, Int.cast_ofNat_Int, ↓reduceIte, h2279, h2284]
  have hh := bnd'_some h; clear h; obtain ⟨o2405, h2406, h2407⟩ := hh
  refine Wp_cut (fun s => ∃ n2402, ∃ c2403, (n2402, c2403) = o2405 ∧ s = ⟨[], [(0, .dead), (2, .dead), (3, .dead), (4, .sl false 0 0 n2402 2), (5, .dead), (6, .dead), (7, .dead), (12, .dead), (13, .dead), (14, .dead)], [(0, .p c2403)], 1, []⟩) ?_ ?_
  · refine Wp_block ?_
    refine Wp_loopG (fun n s => ∃ n2361, ∃ x2362, ∃ c2363, m67_L0 N n2280 c2281 n2285 c2286 n n2361 x2362 c2363 = some o2405 ∧ s = ⟨[], [(0, .v (.lst false n2280 c2281)), (2, .dead), (3, .v (.lst false n2285 c2286)), (4, .sl false 0 0 n2361 2), (5, .dead), (6, .dead), (7, .dead), (12, .v (.int .i64 (IntKind.i64.wrap (((n2285 : Nat) : Int) - 1)))), (13, .v (.int .i64 x2362)), (14, .dead)], [(0, .p c2363)], 1, []⟩) N _ ((Wk_le (.cons _ _ _ _ _ (.refl _) (.cons _ _ _ _ _ (.dead _) (.cons _ _ _ _ _ (.refl _) (.cons _ _ _ _ _ (.refl _) (.cons _ _ _ _ _ (.refl _) (.cons _ _ _ _ _ (.refl _) (.cons _ _ _ _ _ (.refl _) (.cons _ _ _ _ _ (.refl _) (.cons _ _ _ _ _ (.refl _) (.cons _ _ _ _ _ (.refl _) .nil)))))))))) (OLe.refl _)).trans (cmpS_ok rfl)) ⟨_, _, _, h2406, rfl⟩ ?_
    clear h2406
    rintro n _ ⟨n2361, x2362, c2363, h2406, rfl⟩
    cases n with
    | zero => cases h2406
    | succ n =>
      rw [m67_L0] at h2406
      have hh := brn_some h2406; clear h2406; rcases hh with ⟨h2364, h2406⟩ | ⟨h2364, h2406⟩
      · have hh := grd_some h2406; clear h2406; obtain ⟨⟨g2365, g2366⟩, h2406⟩ := hh
        have hh := grd_some h2406; clear h2406; obtain ⟨g2367, h2406⟩ := hh
        have hh := getI_some h2406; clear h2406; obtain ⟨x2369, h2368, h2406⟩ := hh
        have hh := grd_some h2406; clear h2406; obtain ⟨⟨g2370, g2371⟩, h2406⟩ := hh
        have hh := grd_some h2406; clear h2406; obtain ⟨g2372, h2406⟩ := hh
        have hh := getA2_some h2406; clear h2406; obtain ⟨p2374, p2375, h2373, h2406⟩ := hh
        injection h2373 with h2373
        have hh := grd_some h2406; clear h2406; obtain ⟨⟨g2376, g2377⟩, h2406⟩ := hh
        have hh := grd_some h2406; clear h2406; obtain ⟨g2378, h2406⟩ := hh
        have hh := getI_some h2406; clear h2406; obtain ⟨x2380, h2379, h2406⟩ := hh
        have hh := grd_some h2406; clear h2406; obtain ⟨⟨g2381, g2382⟩, h2406⟩ := hh
        have hh := grd_some h2406; clear h2406; obtain ⟨g2383, h2406⟩ := hh
        have hh := getA2_some h2406; clear h2406; obtain ⟨p2385, p2386, h2384, h2406⟩ := hh
        injection h2384 with h2384
        have hh := getI_some h2406; clear h2406; obtain ⟨x2388, h2387, h2406⟩ := hh
        have hh := getI_some h2406; clear h2406; obtain ⟨x2390, h2389, h2406⟩ := hh
        have hh := getI_some h2406; clear h2406; obtain ⟨x2392, h2391, h2406⟩ := hh
        have hh := getI_some h2406; clear h2406; obtain ⟨x2394, h2393, h2406⟩ := hh
        have hh := bnd'_some h2406; clear h2406; obtain ⟨p2395, h2396, h2406⟩ := hh
        refine W_sound tab_ok mixed 48 _ _ _ ?_
        simp -implicitDefEqProofs only [go_sem, ne_eq, not_false_eq_true, Nat.reduceBEq, Nat.reduceAdd, Nat.reduceSub, Nat.reduceMul, Nat.reduceLT, Nat.reduceLeDiff, Int.reduceLE, Int.reduceLT, Int.reduceToNat, Int.reduceBEq, Int.reduceBNe, Int.le_refl, Nat.le_refl, decide_true, decide_false, Int.cast_ofNat_Int, ↓reduceIte, h2279, h2284, h2364, g2365, g2366, g2367, h2368, g2370, g2371, g2372, h2373, g2376, g2377, g2378, h2379, g2381, g2382, g2383, h2384, h2387, h2389, h2391, h2393]
        repeat with_reducible refine And.intro (by first | kernel_rfl | decide) ?_
        refine Wp_callP (c58 N _ _ _ h2396) (by kernel_rfl) rfl rfl rfl rfl (by decide) ?_
        have hh := getA2_some h2406; clear h2406; obtain ⟨p2398, p2399, h2397, h2406⟩ := hh
        have hh := grd_some h2406; clear h2406; obtain ⟨g2400, h2406⟩ := hh
        have hh := grd_some h2406; clear h2406; obtain ⟨g2401, h2406⟩ := hh
        refine W_sound tab_ok mixed 9 _ _ _ ?_
        simp -implicitDefEqProofs only [go_sem, ne_eq, not_false_eq_true, Nat.reduceBEq, Nat.reduceAdd, Nat.reduceSub, Nat.reduceMul, Nat.reduceLT, Nat.reduceLeDiff, Int.reduceLE, Int.reduceLT, Int.reduceToNat, Int.reduceBEq, Int.reduceBNe, Int.le_refl, Nat.le_refl, decide_true, decide_false, Int.cast_ofNat_Int, ↓reduceIte, h2279, h2284, h2364, g2365, g2366, g2367, h2368, g2370, g2371, g2372, h2373, g2376, g2377, g2378, h2379, g2381, g2382, g2383, h2384, h2387, h2389, h2391, h2393, h2397, g2400, g2401]
        repeat with_reducible refine And.intro (by first | kernel_rfl | decide) ?_
        exact cutQ _ ((Wk_le (.cons _ _ _ _ _ (.refl _) (.cons _ _ _ _ _ (.refl _) (.cons _ _ _ _ _ (.refl _) (.cons _ _ _ _ _ (.refl _) (.cons _ _ _ _ _ (.dead _) (.cons _ _ _ _ _ (.dead _) (.cons _ _ _ _ _ (.dead _) (.cons _ _ _ _ _ (.refl _) (.cons _ _ _ _ _ (.refl _) (.cons _ _ _ _ _ (.dead _) .nil)))))))))) (OLe.refl _)).trans (cmpS_ok rfl)) ⟨n, Nat.lt_succ_self n, _, _, _, h2406, rfl⟩
      · refine W_sound tab_ok mixed 7 _ _ _ ?_
        simp -implicitDefEqProofs only [go_sem, ne_eq, not_false_eq_true, Nat.reduceBEq, Nat.reduceAdd, Nat.reduceSub, Nat.reduceMul, Nat.reduceLT, Nat.reduceLeDiff, Int.reduceLE, Int.reduceLT, Int.reduceToNat, Int.reduceBEq, Int.reduceBNe, Int.le_refl, Nat.le_refl, decide_true, decide_false, Int.cast_ofNat_Int, ↓reduceIte, h2279, h2284, h2364]
        repeat with_reducible refine And.intro (by first | kernel_rfl | decide) ?_
        obtain rfl := Option.some.inj h2406
        exact cutQ _ ((Wk_le (.cons _ _ _ _ _ (.dead _) (.cons _ _ _ _ _ (.refl _) (.cons _ _ _ _ _ (.dead _) (.cons _ _ _ _ _ (.refl _) (.cons _ _ _ _ _ (.refl _) (.cons _ _ _ _ _ (.refl _) (.cons _ _ _ _ _ (.refl _) (.cons _ _ _ _ _ (.dead _) (.cons _ _ _ _ _ (.dead _) (.cons _ _ _ _ _ (.dead _) .nil)))))))))) (OLe.refl _)).trans (cmpS_ok rfl)) ⟨_, _, rfl, rfl⟩
  · rintro _ ⟨n2402, c2403, rfl, rfl⟩
    (try dsimp only at h2407)
    refine W_sound tab_ok mixed 7 _ _ _ ?_
    simp -implicitDefEqProofs only [go_sem, ne_eq, not_false_eq_true, Nat.reduceBEq, Nat.reduceAdd, Nat.reduceSub, Nat.reduceMul, Nat.reduceLT, Nat.reduceLeDiff, Int.reduceLE, Int.reduceLT, Int.reduceToNat, Int.reduceBEq, Int.reduceBNe, Int.le_refl, Nat.le_refl, decide_true, decide_false, Int.cast_ofNat_Int, ↓reduceIte, h2279, h2284]
    repeat with_reducible refine And.intro (by first | kernel_rfl | decide) ?_
    have hh := grd_some h2407; clear h2407; obtain ⟨g2404, h2407⟩ := hh
    refine FinQ_wk (Wk_freeze 0 c2403 (by rfl) (by decide) (by decide)) ?_
    simp -implicitDefEqProofs only [go_sem, ne_eq, not_false_eq_true, Nat.reduceBEq, Nat.reduceAdd, Nat.reduceSub, Nat.reduceMul, Nat.reduceLT, Nat.reduceLeDiff, Int.reduceLE, Int.reduceLT, Int.reduceToNat, Int.reduceBEq, Int.reduceBNe, Int.le_refl, Nat.le_refl, decide_true, decide_false, Int.cast_ofNat_Int, ↓reduceIte, h2279, h2284, g2404]
    obtain rfl := Option.some.inj h2407
    exact finC [(2, .v (.lst false n2402 c2403))] [(2, .v (.lst false n2402 c2403))] (by simp [leE, lk_cons]) (.cons _ _ _ _ _ (.v _ _ (.refl _)) .nil) (by rfl) (by simp [leE, lk_cons]) (by decide) (by decide) rfl (by simp only [go_sem, ne_eq, not_false_eq_true, Nat.reduceBEq, Nat.reduceAdd, Nat.reduceSub, Nat.reduceMul, Nat.reduceLT, Nat.reduceLeDiff, Int.reduceLE, Int.reduceLT, Int.reduceToNat, Int.reduceBEq, Int.reduceBNe, Int.le_refl, Nat.le_refl, decide_true, decide_false, Int.cast_ofNat_Int, ↓reduceIte, resQ_tmp, resQ_cell, resQ_nil, retD_one, retD_two, retD_three, retD_none]; try simp [R.val, retD_one, retD_two, retD_three, retD_none])

def m26 (N : Nat) (p2408 : PV) : Option (PV) :=
  getL p2408 fun n2410 c2411 =>
  bnd' (m22 N (.lst false n2410 c2411)) fun p2412 =>
  getI .i64 p2412 fun x2415 =>
  brn (x2415 != 0) (
    some (.tup [(.lst false 0 []), (.int .i64 x2415)])) (
    bnd' (m67 N (.lst false n2410 c2411)) fun p2417 =>
    getL p2417 fun n2420 c2421 =>
    some (.tup [(.lst false n2420 c2421), (.int .i64 0)]))
theorem c26 (N : Nat) (p2408 : PV) (r : PV)  (h : m26 N p2408 = some r) : FnP Try.prog 26 [p2408] r := by
  unfold m26 at h
  refine Fn_of (sz := 12) tab_ok [0, 2, 3, 4, 8] [.tmp 2, .tmp 3] Try.func26 rfl rfl rfl (by simp) ?_
  simp only [initSt, initEnv, List.map_cons, List.map_nil, List.getD_cons_zero, List.getD_cons_succ, List.getD_nil]
  have hh := getL_some h; clear h; obtain ⟨n2410, c2411, h2409, h⟩ := hh
  have hh := bnd'_some h; clear h; obtain ⟨p2412, h2413, h⟩ := hh
  refine W_sound tab_ok mixed 9 _ _ _ ?_
  simp -implicitDefEqProofs only [go_sem, ne_eq, not_false_eq_true, Nat.reduceBEq, Nat.reduceAdd, Nat.reduceSub, Nat.reduceMul, Nat.reduceLT, Nat.reduceLeDiff, Int.reduceLE, Int.reduceLT, Int.reduceToNat, Int.reduceBEq, Int.reduceBNe, Int.le_refl, Nat.le_refl, decide_true, decide_false, Int.cast_ofNat_Int, ↓reduceIte, h2409]
  repeat with_reducible refine And.intro (by first | kernel_rfl | decide) ?_
  refine Wp_callP (c22 N _ _ h2413) (by kernel_rfl) rfl rfl rfl rfl (by decide) ?_
  have hh := getI_some h; clear h; obtain ⟨x2415, h2414, h⟩ := hh
  have hh := brn_some h; clear h; rcases hh with ⟨h2416, h⟩ | ⟨h2416, h⟩
  · refine W_sound tab_ok mixed 16 _ _ _ ?_
    simp -implicitDefEqProofs only [go_sem, ne_eq, not_false_eq_true, Nat.reduceBEq, Nat.reduceAdd, Nat.reduceSub, Nat.reduceMul, Nat.reduceLT, Nat.reduceLeDiff, Int.reduceLE, Int.reduceLT, Int.reduceToNat, Int.reduceBEq, Int.reduceBNe, Int.le_refl, Nat.le_refl, decide_true, decide_false, Int.cast_ofNat_Int, ↓reduceIte, h2409, h2414, h2416]
    repeat with_reducible refine And.intro (by first | kernel_rfl | decide) ?_
    obtain rfl := Option.some.inj h
    exact finC [(2, .v .nl), (3, .v (.int .i64 x2415))] [(2, .v (.lst false 0 [])), (3, .v (.int .i64 x2415))] (by simp [leE, lk_cons]) (.cons _ _ _ _ _ (.v _ _ (.nl false)) (.cons _ _ _ _ _ (.v _ _ (.refl _)) .nil)) (by rfl) (by simp [leE, lk_cons]) (by decide) (by decide) rfl (by simp only [go_sem, ne_eq, not_false_eq_true, Nat.reduceBEq, Nat.reduceAdd, Nat.reduceSub, Nat.reduceMul, Nat.reduceLT, Nat.reduceLeDiff, Int.reduceLE, Int.reduceLT, Int.reduceToNat, Int.reduceBEq, Int.reduceBNe, Int.le_refl, Nat.le_refl, decide_true, decide_false, Int.cast_ofNat_Int, ↓reduceIte, resQ_tmp, resQ_cell, resQ_nil, retD_one, retD_two, retD_three, retD_none]; try simp [R.val, retD_one, retD_two, retD_three, retD_none])
  · have hh := bnd'_some h; clear h; obtain ⟨p2417, h2418, h⟩ := hh
    refine W_sound tab_ok mixed 12 _ _ _ ?_
    simp -implicitDefEqProofs only [go_sem, ne_eq, not_false_eq_true, Nat.reduceBEq, Nat.reduceAdd, Nat.reduceSub, Nat.reduceMul, Nat.reduceLT, Nat.reduceLeDiff, Int.reduceLE, Int.reduceLT, Int.reduceToNat, Int.reduceBEq, Int.reduceBNe, Int.le_refl, Nat.le_refl, decide_true, decide_false, Int.cast_ofNat_Int, ↓reduceIte, h2409, h2414, h2416]
    repeat with_reducible refine And.intro (by first | kernel_rfl | decide) ?_
    refine Wp_callP (c67 N _ _ h2418) (by kernel_rfl) rfl rfl rfl rfl (by decide) ?_
    have hh := getL_some h; clear h; obtain ⟨n2420, c2421, h2419, h⟩ := hh
    refine W_sound tab_ok mixed 5 _ _ _ ?_
    simp -implicitDefEqProofs only [go_sem, ne_eq, not_false_eq_true, Nat.reduceBEq, Nat.reduceAdd, Nat.reduceSub, Nat.reduceMul, Nat.reduceLT, Nat.reduceLeDiff, Int.reduceLE, Int.reduceLT, Int.reduceToNat, Int.reduceBEq, Int.reduceBNe, Int.le_refl, Nat.le_refl, decide_true, decide_false, Int.cast_ofNat_Int, ↓reduceIte, h2409, h2414, h2416, h2419]
    repeat with_reducible refine And.intro (by first | kernel_rfl | decide) ?_
    obtain rfl := Option.some.inj h
    exact finC [(2, .v (.lst false n2420 c2421)), (3, .v (.int .i64 0))] [(2, .v (.lst false n2420 c2421)), (3, .v (.int .i64 0))] (by simp [leE, lk_cons]) (.cons _ _ _ _ _ (.v _ _ (.refl _)) (.cons _ _ _ _ _ (.v _ _ (.refl _)) .nil)) (by rfl) (by simp [leE, lk_cons]) (by decide) (by decide) rfl (by simp only [go_sem, ne_eq, not_false_eq_true, Nat.reduceBEq, Nat.reduceAdd, Nat.reduceSub, Nat.reduceMul, Nat.reduceLT, Nat.reduceLeDiff, Int.reduceLE, Int.reduceLT, Int.reduceToNat, Int.reduceBEq, Int.reduceBNe, Int.le_refl, Nat.le_refl, decide_true, decide_false, Int.cast_ofNat_Int, ↓reduceIte, resQ_tmp, resQ_cell, resQ_nil, retD_one, retD_two, retD_three, retD_none]; try simp [R.val, retD_one, retD_two, retD_three, retD_none])

end Go.Proofs.Ytgnphlpoofaojaa
