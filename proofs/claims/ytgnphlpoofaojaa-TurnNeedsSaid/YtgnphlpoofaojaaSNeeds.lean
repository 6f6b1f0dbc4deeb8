import Derived.Test.YtgnphlpoofaojaaSCovs
import Derived.Test.YtgnphlpoofaojaaSHulls
import Derived.Test.YtgnphlpoofaojaaB
import Derived.Test.YtgnphlpoofaojaaV33
namespace Go.Proofs.Ytgnphlpoofaojaa
open Go.V
set_option maxRecDepth 100000
set_option maxHeartbeats 4000000
set_option linter.unusedSimpArgs false
set_option linter.unusedVariables false
attribute [local go_sem] tl1 tl2 tl3 tl4 tl5 tl9 tl17 tl21 tl22 tl23 tl24 tl25 tl26 tl27 tl28 tl29 tl31 tl33 tl34 tl36 tl37 tl38 tl39 tl40 tl41 tl42 tl43 tl44 tl46 tl47 tl49 tl50 tl52 tl53 tl54 tl55 tl56 tl57 tl58 tl60 tl62 tl63 tl64 tl65 tl66 tl67 tl68 tl69 tl70 tl71 tl72 tl74 tl75 tl76 tl77 tl78 tl79 tl80 tl81 tl82 tl83 tl84 tl85 tl86 tl87 tl88 tl89 tl90 tl91 tl92 tl93 tl94 tl95 tl96 tl97 tl98 tl99 tl100 tl102 tl103 tl104 tl105 tl106 tl107 tl108 tl109 tl110 tl111 tl112 tl113 tl114 tl115 tl116 tl117 tl118 tl119 tl120 tl121 tl122 tl123 tl124 tl125 tl126 tl127 tl128 tl129 tl130 tl131 tl132 tl133 tl134 tl140 tl141 tl145

def m24 (N : Nat) (p2264 : PV) : Option (PV) :=
  getL p2264 fun n2266 c2267 =>
  bnd' (m22 N (.lst false n2266 c2267)) fun p2268 =>
  getI .i64 p2268 fun x2271 =>
  brn (x2271 != 0) (
    some (.tup [(.lst false 0 []), (.int .i64 x2271)])) (
    bnd' (m65 N (.lst false n2266 c2267)) fun p2273 =>
    getL p2273 fun n2276 c2277 =>
    some (.tup [(.lst false n2276 c2277), (.int .i64 0)]))
theorem c24 (N : Nat) (p2264 : PV) (r : PV)  (h : m24 N p2264 = some r) : FnP Try.prog 24 [p2264] r := by
  unfold m24 at h
  refine Fn_of (sz := 12) tab_ok [0, 2, 3, 4, 8] [.tmp 2, .tmp 3] Try.func24 rfl rfl rfl (by simp) ?_
  simp only [initSt, initEnv, List.map_cons, List.map_nil, List.getD_cons_zero, List.getD_cons_succ, List.getD_nil]
  have hh := getL_some h; clear h; obtain ⟨n2266, c2267, h2265, h⟩ := hh
  have hh := bnd'_some h; clear h; obtain ⟨p2268, h2269, h⟩ := hh
  refine W_sound tab_ok mixed 9 _ _ _ ?_
  simp -implicitDefEqProofs only [go_sem, ne_eq, not_false_eq_true, Nat.reduceBEq, Nat.reduceAdd, Nat.reduceSub, Nat.reduceMul, Nat.reduceLT, Nat.reduceLeDiff, Int.reduceLE, Int.reduceLT, Int.reduceToNat, Int.reduceBEq, Int.reduceBNe, Int.le_refl, Nat.le_refl, decide_true, decide_false, Int.cast_ofNat_Int, ↓reduceIte, h2265]
  repeat with_reducible refine And.intro (by first | kernel_rfl | decide) ?_
  refine Wp_callP (c22 N _ _ h2269) (by kernel_rfl) rfl rfl rfl rfl (by decide) ?_
  have hh := getI_some h; clear h; obtain ⟨x2271, h2270, h⟩ := hh
  have hh := brn_some h; clear h; rcases hh with ⟨h2272, h⟩ | ⟨h2272, h⟩
  · refine W_sound tab_ok mixed 16 _ _ _ ?_
    simp -implicitDefEqProofs only [go_sem, ne_eq, not_false_eq_true, Nat.reduceBEq, Nat.reduceAdd, Nat.reduceSub, Nat.reduceMul, Nat.reduceLT, Nat.reduceLeDiff, Int.reduceLE, Int.reduceLT, Int.reduceToNat, Int.reduceBEq, Int.reduceBNe, Int.le_refl, Nat.le_refl, decide_true, decide_false, Int.cast_ofNat_Int, ↓reduceIte, h2265, h2270, h2272]
    repeat with_reducible refine And.intro (by first | kernel_rfl | decide) ?_
    obtain rfl := Option.some.inj h
    exact finC [(2, .v .nl), (3, .v (.int .i64 x2271))] [(2, .v (.lst false 0 [])), (3, .v (.int .i64 x2271))] (by simp [leE, lk_cons]) (.cons _ _ _ _ _ (.v _ _ (.nl false)) (.cons _ _ _ _ _ (.v _ _ (.refl _)) .nil)) (by rfl) (by simp [leE, lk_cons]) (by decide) (by decide) rfl (by simp only [go_sem, ne_eq, not_false_eq_true, Nat.reduceBEq, Nat.reduceAdd, Nat.reduceSub, Nat.reduceMul, Nat.reduceLT, Nat.reduceLeDiff, Int.reduceLE, Int.reduceLT, Int.reduceToNat, Int.reduceBEq, Int.reduceBNe, Int.le_refl, Nat.le_refl, decide_true, decide_false, Int.cast_ofNat_Int, ↓reduceIte, resQ_tmp, resQ_cell, resQ_nil, retD_one, retD_two, retD_three, retD_none]; try simp [R.val, retD_one, retD_two, retD_three, retD_none])
  · have hh := bnd'_some h; clear h; obtain ⟨p2273, h2274, h⟩ := hh
    refine W_sound tab_ok mixed 12 _ _ _ ?_
    simp -implicitDefEqProofs only [go_sem, ne_eq, not_false_eq_true, Nat.reduceBEq, Nat.reduceAdd, Nat.reduceSub, Nat.reduceMul, Nat.reduceLT, Nat.reduceLeDiff, Int.reduceLE, Int.reduceLT, Int.reduceToNat, Int.reduceBEq, Int.reduceBNe, Int.le_refl, Nat.le_refl, decide_true, decide_false, Int.cast_ofNat_Int, ↓reduceIte, h2265, h2270, h2272]
    repeat with_reducible refine And.intro (by first | kernel_rfl | decide) ?_
    refine Wp_callP (c65 N _ _ h2274) (by kernel_rfl) rfl rfl rfl rfl (by decide) ?_
    have hh := getL_some h; clear h; obtain ⟨n2276, c2277, h2275, h⟩ := hh
    refine W_sound tab_ok mixed 5 _ _ _ ?_
    simp -implicitDefEqProofs only [go_sem, ne_eq, not_false_eq_true, Nat.reduceBEq, Nat.reduceAdd, Nat.reduceSub, Nat.reduceMul, Nat.reduceLT, Nat.reduceLeDiff, Int.reduceLE, Int.reduceLT, Int.reduceToNat, Int.reduceBEq, Int.reduceBNe, Int.le_refl, Nat.le_refl, decide_true, decide_false, Int.cast_ofNat_Int, ↓reduceIte, h2265, h2270, h2272, h2275]
    repeat with_reducible refine And.intro (by first | kernel_rfl | decide) ?_
    obtain rfl := Option.some.inj h
    exact finC [(2, .v (.lst false n2276 c2277)), (3, .v (.int .i64 0))] [(2, .v (.lst false n2276 c2277)), (3, .v (.int .i64 0))] (by simp [leE, lk_cons]) (.cons _ _ _ _ _ (.v _ _ (.refl _)) (.cons _ _ _ _ _ (.v _ _ (.refl _)) .nil)) (by rfl) (by simp [leE, lk_cons]) (by decide) (by decide) rfl (by simp only [go_sem, ne_eq, not_false_eq_true, Nat.reduceBEq, Nat.reduceAdd, Nat.reduceSub, Nat.reduceMul, Nat.reduceLT, Nat.reduceLeDiff, Int.reduceLE, Int.reduceLT, Int.reduceToNat, Int.reduceBEq, Int.reduceBNe, Int.le_refl, Nat.le_refl, decide_true, decide_false, Int.cast_ofNat_Int, ↓reduceIte, resQ_tmp, resQ_cell, resQ_nil, retD_one, retD_two, retD_three, retD_none]; try simp [R.val, retD_one, retD_two, retD_three, retD_none])

def m67_L0 (N : Nat) (n2280 : Nat) (c2281 : List PV) (n2285 : Nat) (c2286 : List PV) : Nat → Nat → Int → List PV → Option ((Nat × List PV))
  | 0, _, _, _ => none
  | n + 1, n2361, x2362, c2363 =>
    brn (decide (x2362 < (IntKind.i64.wrap (((n2285 : Nat) : Int) - 1)))) (
      grd (0 ≤ x2362 ∧ x2362 < ((n2285 : Nat) : Int)) <|
      grd (0 < List.length (List.drop (Int.toNat x2362) c2286)) <|
      getI .i64 (gp c2286 (Int.toNat x2362)) fun x2369 =>
      grd (0 ≤ x2369 ∧ x2369 < ((n2280 : Nat) : Int)) <|
      grd (2 ≤ List.length (List.drop ((Int.toNat x2369) * 2) c2281)) <|
      getA2 (.agg (List.take 2 (List.drop ((Int.toNat x2369) * 2) c2281))) fun p2374 p2375 =>
      grd (0 ≤ (IntKind.i64.wrap (x2362 + 1)) ∧ (IntKind.i64.wrap (x2362 + 1)) < ((n2285 : Nat) : Int)) <|
      grd (0 < List.length (List.drop (Int.toNat (IntKind.i64.wrap (x2362 + 1))) c2286)) <|
      getI .i64 (gp c2286 (Int.toNat (IntKind.i64.wrap (x2362 + 1)))) fun x2380 =>
      grd (0 ≤ x2380 ∧ x2380 < ((n2280 : Nat) : Int)) <|
      grd (2 ≤ List.length (List.drop ((Int.toNat x2380) * 2) c2281)) <|
      getA2 (.agg (List.take 2 (List.drop ((Int.toNat x2380) * 2) c2281))) fun p2385 p2386 =>
      getI .i64 p2374 fun x2388 =>
      getI .i64 p2375 fun x2390 =>
      getI .i64 p2385 fun x2392 =>
      getI .i64 p2386 fun x2394 =>
      bnd' (m58 N (IntKind.i64.wrap (x2388 - x2392)) (IntKind.i64.wrap (x2394 - x2390))) fun p2395 =>
      getA2 p2395 fun p2398 p2399 =>
      grd ((n2361 + 1) ≤ 1099511627776) <|
      grd (List.length c2363 = (n2361 * 2)) <|
      m67_L0 N n2280 c2281 n2285 c2286 n (n2361 + 1) (IntKind.i64.wrap (x2362 + 1)) (c2363 ++ [p2398, p2399])) (
      some (n2361, c2363))
def m67 (N : Nat) (p2278 : PV) : Option (PV) :=
  getL p2278 fun n2280 c2281 =>
  bnd' (m65 N (.lst false n2280 c2281)) fun p2282 =>
  getL p2282 fun n2285 c2286 =>
  bnd' (m67_L0 N n2280 c2281 n2285 c2286 N 0 0 []) fun o =>
  match o with
  | (n2402, c2403) =>
    grd (List.length c2403 = (n2402 * 2)) <|
    some (.lst false n2402 c2403)
theorem c67 (N : Nat) (p2278 : PV) (r : PV)  (h : m67 N p2278 = some r) : FnP Try.prog 67 [p2278] r := by
  unfold m67 at h
  refine Fn_of (sz := 47) tab_ok [0, 2, 3, 4, 5, 6, 7, 12, 13, 14] [.tmp 2] Try.func67 rfl rfl rfl (by simp) ?_
  simp only [initSt, initEnv, List.map_cons, List.map_nil, List.getD_cons_zero, List.getD_cons_succ, List.getD_nil]
  have hh := getL_some h; clear h; obtain ⟨n2280, c2281, h2279, h⟩ := hh
  have hh := bnd'_some h; clear h; obtain ⟨p2282, h2283, h⟩ := hh
  refine W_sound tab_ok mixed 7 _ _ _ ?_
  simp -implicitDefEqProofs only [go_sem, ne_eq, not_false_eq_true, Nat.reduceBEq, Nat.reduceAdd, Nat.reduceSub, Nat.reduceMul, Nat.reduceLT, Nat.reduceLeDiff, Int.reduceLE, Int.reduceLT, Int.reduceToNat, Int.reduceBEq, Int.reduceBNe, Int.le_refl, Nat.le_refl, decide_true, decide_false, Int.cast_ofNat_Int, ↓reduceIte, h2279]
  repeat with_reducible refine And.intro (by first | kernel_rfl | decide) ?_
  refine Wp_callP (c65 N _ _ h2283) (by kernel_rfl) rfl rfl rfl rfl (by decide) ?_
  have hh := getL_some h; clear h; obtain ⟨n2285, c2286, h2284, h⟩ := hh
  refine W_sound tab_ok mixed 14 _ _ _ ?_
  simp -implicitDefEqProofs only [go_sem, ne_eq, not_false_eq_true, Nat.reduceBEq, Nat.reduceAdd, Nat.reduceSub, Nat.reduceMul, Nat.reduceLT, Nat.reduceLeDiff, Int.reduceLE, Int.reduceLT, Int.reduceToNat, Int.reduceBEq, Int.reduceBNe, Int.le_refl, Nat.le_refl, decide_true, decide_false, Int.cast_ofNat_Int, ↓reduceIte, h2279, h2284]
  repeat with_reducible refine And.intro (by first | kernel_rfl | decide) ?_
  refine Wp_weaken (Wk_ownS 4 2 rfl (by decide) (by decide)) ?_
  simp -implicitDefEqProofs only [go_sem, ne_eq, not_false_eq_true, Nat.reduceBEq, Nat.reduceAdd, Nat.reduceSub, Nat.reduceMul, Nat.reduceLT, Nat.reduceLeDiff, Int.reduceLE, Int.reduceLT, Int.reduceToNat, Int.reduceBEq, Int.reduceBNe, Int.le_refl, Nat.le_refl, decide_true, decide_false, Int.cast_ofNat_Int, ↓reduceIte, h2279, h2284]
  have hh := bnd'_some h; clear h; obtain ⟨o2405, h2406, h2407⟩ := hh
  refine Wp_cut (fun s => ∃ n2402, ∃ c2403, (n2402, c2403) = o2405 ∧ s = ⟨[], [(0, .dead), (2, .dead), (3, .dead), (4, .sl false 0 0 n2402 2), (5, .dead), (6, .dead), (7, .dead), (12, .dead), (13, .dead), (14, .dead)], [(0, .p c2403)], 1, []⟩) ?_ ?_
  · refine Wp_block ?_
    refine Wp_loopG (fun n s => ∃ n2361, ∃ x2362, ∃ c2363, m67_L0 N n2280 c2281 n2285 c2286 n n2361 x2362 c2363 = some o2405 ∧ s = ⟨[], [(0, .v (.lst false n2280 c2281)), (2, .dead), (3, .v (.lst false n2285 c2286)), (4, .sl false 0 0 n2361 2), (5, .dead), (6, .dead), (7, .dead), (12, .v (.int .i64 (IntKind.i64.wrap (((n2285 : Nat) : Int) - 1)))), (13, .v (.int .i64 x2362)), (14, .dead)], [(0, .p c2363)], 1, []⟩) N _ ((Wk_le (.cons _ _ _ _ _ (.refl _) (.cons _ _ _ _ _ (.dead _) (.cons _ _ _ _ _ (.refl _) (.cons _ _ _ _ _ (.refl _) (.cons _ _ _ _ _ (.refl _) (.cons _ _ _ _ _ (.refl _) (.cons _ _ _ _ _ (.refl _) (.cons _ _ _ _ _ (.refl _) (.cons _ _ _ _ _ (.refl _) (.cons _ _ _ _ _ (.refl _) .nil)))))))))) (OLe.refl _)).trans (cmpS_ok rfl)) ⟨_, _, _, h2406, rfl⟩ ?_
    clear h2406
    rintro n _ ⟨n2361, x2362, c2363, h2406, rfl⟩
    cases n with
    | zero => cases h2406
    | succ n =>
      rw [m67_L0] at h2406
      have hh := brn_some h2406; clear h2406; rcases hh with ⟨h2364, h2406⟩ | ⟨h2364, h2406⟩
      · have hh := grd_some h2406; clear h2406; obtain ⟨⟨g2365, g2366⟩, h2406⟩ := hh
        have hh := grd_some h2406; clear h2406; obtain ⟨g2367, h2406⟩ := hh
        have hh := getI_some h2406; clear h2406; obtain ⟨x2369, h2368, h2406⟩ := hh
        have hh := grd_some h2406; clear h2406; obtain ⟨⟨g2370, g2371⟩, h2406⟩ := hh
        have hh := grd_some h2406; clear h2406; obtain ⟨g2372, h2406⟩ := hh
        have hh := getA2_some h2406; clear h2406; obtain ⟨p2374, p2375, h2373, h2406⟩ := hh
        injection h2373 with h2373
        have hh := grd_some h2406; clear h2406; obtain ⟨⟨g2376, g2377⟩, h2406⟩ := hh
        have hh := grd_some h2406; clear h2406; obtain ⟨g2378, h2406⟩ := hh
        have hh := getI_some h2406; clear h2406; obtain ⟨x2380, h2379, h2406⟩ := hh
        have hh := grd_some h2406; clear h2406; obtain ⟨⟨g2381, g2382⟩, h2406⟩ := hh
        have hh := grd_some h2406; clear h2406; obtain ⟨g2383, h2406⟩ := hh
        have hh := getA2_some h2406; clear h2406; obtain ⟨p2385, p2386, h2384, h2406⟩ := hh
        injection h2384 with h2384
        have hh := getI_some h2406; clear h2406; obtain ⟨x2388, h2387, h2406⟩ := hh
        have hh := getI_some h2406; clear h2406; obtain ⟨x2390, h2389, h2406⟩ := hh
        have hh := getI_some h2406; clear h2406; obtain ⟨x2392, h2391, h2406⟩ := hh
        have hh := getI_some h2406; clear h2406; obtain ⟨x2394, h2393, h2406⟩ := hh
        have hh := bnd'_some h2406; clear h2406; obtain ⟨p2395, h2396, h2406⟩ := hh
        refine W_sound tab_ok mixed 48 _ _ _ ?_
        simp -implicitDefEqProofs only [go_sem, ne_eq, not_false_eq_true, Nat.reduceBEq, Nat.reduceAdd, Nat.reduceSub, Nat.reduceMul, Nat.reduceLT, Nat.reduceLeDiff, Int.reduceLE, Int.reduceLT, Int.reduceToNat, Int.reduceBEq, Int.reduceBNe, Int.le_refl, Nat.le_refl, decide_true, decide_false, Int.cast_ofNat_Int, ↓reduceIte, h2279, h2284, h2364, g2365, g2366, g2367, h2368, g2370, g2371, g2372, h2373, g2376, g2377, g2378, h2379, g2381, g2382, g2383, h2384, h2387, h2389, h2391, h2393]
        repeat with_reducible refine And.intro (by first | kernel_rfl | decide) ?_
        refine Wp_callP (c58 N _ _ _ h2396) (by kernel_rfl) rfl rfl rfl rfl (by decide) ?_
        have hh := getA2_some h2406; clear h2406; obtain ⟨p2398, p2399, h2397, h2406⟩ := hh
        have hh := grd_some h2406; clear h2406; obtain ⟨g2400, h2406⟩ := hh
        have hh := grd_some h2406; clear h2406; obtain ⟨g2401, h2406⟩ := hh
        refine W_sound tab_ok mixed 9 _ _ _ ?_
        simp -implicitDefEqProofs only [go_sem, ne_eq, not_false_eq_true, Nat.reduceBEq, Nat.reduceAdd, Nat.reduceSub, Nat.reduceMul, Nat.reduceLT, Nat.reduceLeDiff, Int.reduceLE, Int.reduceLT, Int.reduceToNat, Int.reduceBEq, Int.reduceBNe, Int.le_refl, Nat.le_refl, decide_true, decide_false, Int.cast_ofNat_Int, ↓reduceIte, h2279, h2284, h2364, g2365, g2366, g2367, h2368, g2370, g2371, g2372, h2373, g2376, g2377, g2378, h2379, g2381, g2382, g2383, h2384, h2387, h2389, h2391, h2393, h2397, g2400, g2401]
        repeat with_reducible refine And.intro (by first | kernel_rfl | decide) ?_
        exact cutQ _ ((Wk_le (.cons _ _ _ _ _ (.refl _) (.cons _ _ _ _ _ (.refl _) (.cons _ _ _ _ _ (.refl _) (.cons _ _ _ _ _ (.refl _) (.cons _ _ _ _ _ (.dead _) (.cons _ _ _ _ _ (.dead _) (.cons _ _ _ _ _ (.dead _) (.cons _ _ _ _ _ (.refl _) (.cons _ _ _ _ _ (.refl _) (.cons _ _ _ _ _ (.dead _) .nil)))))))))) (OLe.refl _)).trans (cmpS_ok rfl)) ⟨n, Nat.lt_succ_self n, _, _, _, h2406, rfl⟩
      · refine W_sound tab_ok mixed 7 _ _ _ ?_
        simp -implicitDefEqProofs only [go_sem, ne_eq, not_false_eq_true, Nat.reduceBEq, Nat.reduceAdd, Nat.reduceSub, Nat.reduceMul, Nat.reduceLT, Nat.reduceLeDiff, Int.reduceLE, Int.reduceLT, Int.reduceToNat, Int.reduceBEq, Int.reduceBNe, Int.le_refl, Nat.le_refl, decide_true, decide_false, Int.cast_ofNat_Int, ↓reduceIte, h2279, h2284, h2364]
        repeat with_reducible refine And.intro (by first | kernel_rfl | decide) ?_
        obtain rfl := Option.some.inj h2406
        exact cutQ _ ((Wk_le (.cons _ _ _ _ _ (.dead _) (.cons _ _ _ _ _ (.refl _) (.cons _ _ _ _ _ (.dead _) (.cons _ _ _ _ _ (.refl _) (.cons _ _ _ _ _ (.refl _) (.cons _ _ _ _ _ (.refl _) (.cons _ _ _ _ _ (.refl _) (.cons _ _ _ _ _ (.dead _) (.cons _ _ _ _ _ (.dead _) (.cons _ _ _ _ _ (.dead _) .nil)))))))))) (OLe.refl _)).trans (cmpS_ok rfl)) ⟨_, _, rfl, rfl⟩
  · rintro _ ⟨n2402, c2403, rfl, rfl⟩
    (try dsimp only at h2407)
    refine W_sound tab_ok mixed 7 _ _ _ ?_
    simp -implicitDefEqProofs only [go_sem, ne_eq, not_false_eq_true, Nat.reduceBEq, Nat.reduceAdd, Nat.reduceSub, Nat.reduceMul, Nat.reduceLT, Nat.reduceLeDiff, Int.reduceLE, Int.reduceLT, Int.reduceToNat, Int.reduceBEq, Int.reduceBNe, Int.le_refl, Nat.le_refl, decide_true, decide_false, Int.cast_ofNat_Int, ↓reduceIte, h2279, h2284]
    repeat with_reducible refine And.intro (by first | kernel_rfl | decide) ?_
    have hh := grd_some h2407; clear h2407; obtain ⟨g2404, h2407⟩ := hh
    refine FinQ_wk (Wk_freeze 0 c2403 (by rfl) (by decide) (by decide)) ?_
    simp -implicitDefEqProofs only [go_sem, ne_eq, not_false_eq_true, Nat.reduceBEq, Nat.reduceAdd, Nat.reduceSub, Nat.reduceMul, Nat.reduceLT, Nat.reduceLeDiff, Int.reduceLE, Int.reduceLT, Int.reduceToNat, Int.reduceBEq, Int.reduceBNe, Int.le_refl, Nat.le_refl, decide_true, decide_false, Int.cast_ofNat_Int, ↓reduceIte, h2279, h2284, g2404]
    obtain rfl := Option.some.inj h2407
    exact finC [(2, .v (.lst false n2402 c2403))] [(2, .v (.lst false n2402 c2403))] (by simp [leE, lk_cons]) (.cons _ _ _ _ _ (.v _ _ (.refl _)) .nil) (by rfl) (by simp [leE, lk_cons]) (by decide) (by decide) rfl (by simp only [go_sem, ne_eq, not_false_eq_true, Nat.reduceBEq, Nat.reduceAdd, Nat.reduceSub, Nat.reduceMul, Nat.reduceLT, Nat.reduceLeDiff, Int.reduceLE, Int.reduceLT, Int.reduceToNat, Int.reduceBEq, Int.reduceBNe, Int.le_refl, Nat.le_refl, decide_true, decide_false, Int.cast_ofNat_Int, ↓reduceIte, resQ_tmp, resQ_cell, resQ_nil, retD_one, retD_two, retD_three, retD_none]; try simp [R.val, retD_one, retD_two, retD_three, retD_none])

def m26 (N : Nat) (p2408 : PV) : Option (PV) :=
  getL p2408 fun n2410 c2411 =>
  bnd' (m22 N (.lst false n2410 c2411)) fun p2412 =>
  getI .i64 p2412 fun x2415 =>
  brn (x2415 != 0) (
    some (.tup [(.lst false 0 []), (.int .i64 x2415)])) (
    bnd' (m67 N (.lst false n2410 c2411)) fun p2417 =>
    getL p2417 fun n2420 c2421 =>
    some (.tup [(.lst false n2420 c2421), (.int .i64 0)]))
theorem c26 (N : Nat) (p2408 : PV) (r : PV)  (h : m26 N p2408 = some r) : FnP Try.prog 26 [p2408] r := by
  unfold m26 at h
  refine Fn_of (sz := 12) tab_ok [0, 2, 3, 4, 8] [.tmp 2, .tmp 3] Try.func26 rfl rfl rfl (by simp) ?_
  simp only [initSt, initEnv, List.map_cons, List.map_nil, List.getD_cons_zero, List.getD_cons_succ, List.getD_nil]
  have hh := getL_some h; clear h; obtain ⟨n2410, c2411, h2409, h⟩ := hh
  have hh := bnd'_some h; clear h; obtain ⟨p2412, h2413, h⟩ := hh
  refine W_sound tab_ok mixed 9 _ _ _ ?_
  simp -implicitDefEqProofs only [go_sem, ne_eq, not_false_eq_true, Nat.reduceBEq, Nat.reduceAdd, Nat.reduceSub, Nat.reduceMul, Nat.reduceLT, Nat.reduceLeDiff, Int.reduceLE, Int.reduceLT, Int.reduceToNat, Int.reduceBEq, Int.reduceBNe, Int.le_refl, Nat.le_refl, decide_true, decide_false, Int.cast_ofNat_Int, ↓reduceIte, h2409]
  repeat with_reducible refine And.intro (by first | kernel_rfl | decide) ?_
  refine Wp_callP (c22 N _ _ h2413) (by kernel_rfl) rfl rfl rfl rfl (by decide) ?_
  have hh := getI_some h; clear h; obtain ⟨x2415, h2414, h⟩ := hh
  have hh := brn_some h; clear h; rcases hh with ⟨h2416, h⟩ | ⟨h2416, h⟩
  · refine W_sound tab_ok mixed 16 _ _ _ ?_
    simp -implicitDefEqProofs only [go_sem, ne_eq, not_false_eq_true, Nat.reduceBEq, Nat.reduceAdd, Nat.reduceSub, Nat.reduceMul, Nat.reduceLT, Nat.reduceLeDiff, Int.reduceLE, Int.reduceLT, Int.reduceToNat, Int.reduceBEq, Int.reduceBNe, Int.le_refl, Nat.le_refl, decide_true, decide_false, Int.cast_ofNat_Int, ↓reduceIte, h2409, h2414, h2416]
    repeat with_reducible refine And.intro (by first | kernel_rfl | decide) ?_
    obtain rfl := Option.some.inj h
    exact finC [(2, .v .nl), (3, .v (.int .i64 x2415))] [(2, .v (.lst false 0 [])), (3, .v (.int .i64 x2415))] (by simp [leE, lk_cons]) (.cons _ _ _ _ _ (.v _ _ (.nl false)) (.cons _ _ _ _ _ (.v _ _ (.refl _)) .nil)) (by rfl) (by simp [leE, lk_cons]) (by decide) (by decide) rfl (by simp only [go_sem, ne_eq, not_false_eq_true, Nat.reduceBEq, Nat.reduceAdd, Nat.reduceSub, Nat.reduceMul, Nat.reduceLT, Nat.reduceLeDiff, Int.reduceLE, Int.reduceLT, Int.reduceToNat, Int.reduceBEq, Int.reduceBNe, Int.le_refl, Nat.le_refl, decide_true, decide_false, Int.cast_ofNat_Int, ↓reduceIte, resQ_tmp, resQ_cell, resQ_nil, retD_one, retD_two, retD_three, retD_none]; try simp [R.val, retD_one, retD_two, retD_three, retD_none])
  · have hh := bnd'_some h; clear h; obtain ⟨p2417, h2418, h⟩ := hh
    refine W_sound tab_ok mixed 12 _ _ _ ?_
    simp -implicitDefEqProofs only [go_sem, ne_eq, not_false_eq_true, Nat.reduceBEq, Nat.reduceAdd, Nat.reduceSub, Nat.reduceMul, Nat.reduceLT, Nat.reduceLeDiff, Int.reduceLE, Int.reduceLT, Int.reduceToNat, Int.reduceBEq, Int.reduceBNe, Int.le_refl, Nat.le_refl, decide_true, decide_false, Int.cast_ofNat_Int, ↓reduceIte, h2409, h2414, h2416]
    repeat with_reducible refine And.intro (by first | kernel_rfl | decide) ?_
    refine Wp_callP (c67 N _ _ h2418) (by kernel_rfl) rfl rfl rfl rfl (by decide) ?_
    have hh := getL_some h; clear h; obtain ⟨n2420, c2421, h2419, h⟩ := hh
    refine W_sound tab_ok mixed 5 _ _ _ ?_
    simp -implicitDefEqProofs only [go_sem, ne_eq, not_false_eq_true, Nat.reduceBEq, Nat.reduceAdd, Nat.reduceSub, Nat.reduceMul, Nat.reduceLT, Nat.reduceLeDiff, Int.reduceLE, Int.reduceLT, Int.reduceToNat, Int.reduceBEq, Int.reduceBNe, Int.le_refl, Nat.le_refl, decide_true, decide_false, Int.cast_ofNat_Int, ↓reduceIte, h2409, h2414, h2416, h2419]
    repeat with_reducible refine And.intro (by first | kernel_rfl | decide) ?_
    obtain rfl := Option.some.inj h
    exact finC [(2, .v (.lst false n2420 c2421)), (3, .v (.int .i64 0))] [(2, .v (.lst false n2420 c2421)), (3, .v (.int .i64 0))] (by simp [leE, lk_cons]) (.cons _ _ _ _ _ (.v _ _ (.refl _)) (.cons _ _ _ _ _ (.v _ _ (.refl _)) .nil)) (by rfl) (by simp [leE, lk_cons]) (by decide) (by decide) rfl (by simp only [go_sem, ne_eq, not_false_eq_true, Nat.reduceBEq, Nat.reduceAdd, Nat.reduceSub, Nat.reduceMul, Nat.reduceLT, Nat.reduceLeDiff, Int.reduceLE, Int.reduceLT, Int.reduceToNat, Int.reduceBEq, Int.reduceBNe, Int.le_refl, Nat.le_refl, decide_true, decide_false, Int.cast_ofNat_Int, ↓reduceIte, resQ_tmp, resQ_cell, resQ_nil, retD_one, retD_two, retD_three, retD_none]; try simp [R.val, retD_one, retD_two, retD_three, retD_none])

def m87_L0 (N : Nat) (x2423 : Int) (n2425 : Nat) (c2426 : List PV) : Nat → Int → Option ((PV ⊕ Unit))
  | 0, _ => none
  | n + 1, x2427 =>
    brn (decide (x2427 < x2423)) (
      grd (0 ≤ x2427 ∧ x2427 < ((n2425 : Nat) : Int)) <|
      grd (2 ≤ List.length (List.drop ((Int.toNat x2427) * 2) c2426)) <|
      getA2 (.agg (List.take 2 (List.drop ((Int.toNat x2427) * 2) c2426))) fun p2433 p2434 =>
      grd (0 ≤ x2423 ∧ x2423 < ((n2425 : Nat) : Int)) <|
      grd (2 ≤ List.length (List.drop ((Int.toNat x2423) * 2) c2426)) <|
      getA2 (.agg (List.take 2 (List.drop ((Int.toNat x2423) * 2) c2426))) fun p2439 p2440 =>
      getI .i64 p2434 fun x2442 =>
      getI .i64 p2440 fun x2444 =>
      getI .i64 p2433 fun x2446 =>
      getI .i64 p2439 fun x2448 =>
      brn ((x2446 == x2448) && (x2442 == x2444)) (
        some (.inl (.bool false))) (
        m87_L0 N x2423 n2425 c2426 n (IntKind.i64.wrap (x2427 + 1)))) (
      some (.inr ()))
def m87_L2 (N : Nat) (x2423 : Int) (n2425 : Nat) (c2426 : List PV) (n2454 : Nat) (c2455 : List PV) (x2456 : Int) : Nat → Bool → Int → Option (Bool)
  | 0, _, _ => none
  | n + 1, b2458, x2459 =>
    brn (decide (x2459 < ((n2425 : Nat) : Int))) (
      brn b2458 (
        grd (0 ≤ x2459 ∧ x2459 < ((n2425 : Nat) : Int)) <|
        grd (2 ≤ List.length (List.drop ((Int.toNat x2459) * 2) c2426)) <|
        getA2 (.agg (List.take 2 (List.drop ((Int.toNat x2459) * 2) c2426))) fun p2466 p2467 =>
        grd (0 ≤ x2423 ∧ x2423 < ((n2425 : Nat) : Int)) <|
        grd (2 ≤ List.length (List.drop ((Int.toNat x2423) * 2) c2426)) <|
        getA2 (.agg (List.take 2 (List.drop ((Int.toNat x2423) * 2) c2426))) fun p2472 p2473 =>
        getI .i64 p2467 fun x2475 =>
        getI .i64 p2473 fun x2477 =>
        getI .i64 p2466 fun x2479 =>
        getI .i64 p2472 fun x2481 =>
        brn ((x2479 == x2481) && (x2475 == x2477)) (
          m87_L2 N x2423 n2425 c2426 n2454 c2455 x2456 n true (IntKind.i64.wrap (x2459 + 1))) (
          grd (0 ≤ x2456 ∧ x2456 < ((n2454 : Nat) : Int)) <|
          grd (2 ≤ List.length (List.drop ((Int.toNat x2456) * 2) c2455)) <|
          getA2 (.agg (List.take 2 (List.drop ((Int.toNat x2456) * 2) c2455))) fun p2487 p2488 =>
          bnd' (m62 N (.agg [(.int .i64 x2479), (.int .i64 x2475)]) (.agg [p2487, p2488])) fun p2489 =>
          getI .i64 p2489 fun x2492 =>
          bnd' (m62 N (.agg [(.int .i64 x2481), (.int .i64 x2477)]) (.agg [p2487, p2488])) fun p2493 =>
          getI .i64 p2493 fun x2496 =>
          m87_L2 N x2423 n2425 c2426 n2454 c2455 x2456 n (decide (x2492 < x2496)) (IntKind.i64.wrap (x2459 + 1)))) (
        m87_L2 N x2423 n2425 c2426 n2454 c2455 x2456 n false (IntKind.i64.wrap (x2459 + 1)))) (
      some b2458)
def m87_L1 (N : Nat) (x2423 : Int) (n2425 : Nat) (c2426 : List PV) (n2454 : Nat) (c2455 : List PV) : Nat → Int → Option ((PV ⊕ Unit))
  | 0, _ => none
  | n + 1, x2456 =>
    brn (decide (x2456 < ((n2454 : Nat) : Int))) (
      bnd' (m87_L2 N x2423 n2425 c2426 n2454 c2455 x2456 N true 0) fun b2497 =>
      brn b2497 (
        some (.inl (.bool true))) (
        m87_L1 N x2423 n2425 c2426 n2454 c2455 n (IntKind.i64.wrap (x2456 + 1)))) (
      some (.inr ()))
def m87 (N : Nat) (p2422 : PV) (x2423 : Int) : Option (PV) :=
  getL p2422 fun n2425 c2426 =>
  bnd' (m87_L0 N x2423 n2425 c2426 N 0) fun o =>
  match o with
  | .inl p2450 =>
    some p2450
  | .inr () =>
    bnd' (m71 N (.lst false n2425 c2426)) fun p2451 =>
    getL p2451 fun n2454 c2455 =>
    bnd' (m87_L1 N x2423 n2425 c2426 n2454 c2455 N 0) fun o =>
    match o with
    | .inl p2499 =>
      some p2499
    | .inr () =>
      some (.bool false)
theorem c87 (N : Nat) (p2422 : PV) (x2423 : Int) (r : PV)  (h : m87 N p2422 x2423 = some r) : FnP Try.prog 87 [p2422, (.int .i64 x2423)] r := by
  unfold m87 at h
  refine Fn_of (sz := 72) tab_ok [0, 1, 4, 5, 6, 7, 8, 9, 12, 23, 29, 35, 71] [.tmp 4] Try.func87 rfl rfl rfl (by simp) ?_
  simp only [initSt, initEnv, List.map_cons, List.map_nil, List.getD_cons_zero, List.getD_cons_succ, List.getD_nil]
  have hh := getL_some h; clear h; obtain ⟨n2425, c2426, h2424, h⟩ := hh
  refine W_sound tab_ok mixed 9 _ _ _ ?_
  simp -implicitDefEqProofs only [go_sem, ne_eq, not_false_eq_true, Nat.reduceBEq, Nat.reduceAdd, Nat.reduceSub, Nat.reduceMul, Nat.reduceLT, Nat.reduceLeDiff, Int.reduceLE, Int.reduceLT, Int.reduceToNat, Int.reduceBEq, Int.reduceBNe, Int.le_refl, Nat.le_refl, decide_true, decide_false, Int.cast_ofNat_Int, ↓reduceIte, h2424]
  repeat with_reducible refine And.intro (by first | kernel_rfl | decide) ?_
  have hh := bnd'_some h; clear h; obtain ⟨o2500, h2501, h2502⟩ := hh
  refine Wp_cut (fun s => (.inr ()) = o2500 ∧ s = ⟨[], [(0, .v (.lst false n2425 c2426)), (1, .v (.int .i64 x2423)), (4, .dead), (5, .dead), (6, .dead), (7, .dead), (8, .dead), (9, .dead), (12, .dead), (23, .dead), (29, .dead), (35, .dead), (71, .dead)], [], 0, []⟩) ?_ ?_
  · refine Wp_block ?_
    refine Wp_loopG (fun n s => ∃ x2427, m87_L0 N x2423 n2425 c2426 n x2427 = some o2500 ∧ s = ⟨[], [(0, .v (.lst false n2425 c2426)), (1, .v (.int .i64 x2423)), (4, .dead), (5, .v (.int .i64 x2427)), (6, .dead), (7, .dead), (8, .dead), (9, .dead), (12, .dead), (23, .dead), (29, .dead), (35, .dead), (71, .dead)], [], 0, []⟩) N _ ((Wk_le (.cons _ _ _ _ _ (.refl _) (.cons _ _ _ _ _ (.refl _) (.cons _ _ _ _ _ (.dead _) (.cons _ _ _ _ _ (.refl _) (.cons _ _ _ _ _ (.refl _) (.cons _ _ _ _ _ (.refl _) (.cons _ _ _ _ _ (.refl _) (.cons _ _ _ _ _ (.refl _) (.cons _ _ _ _ _ (.refl _) (.cons _ _ _ _ _ (.refl _) (.cons _ _ _ _ _ (.refl _) (.cons _ _ _ _ _ (.refl _) (.cons _ _ _ _ _ (.refl _) .nil))))))))))))) (OLe.refl _)).trans (cmpS_ok rfl)) ⟨_, h2501, rfl⟩ ?_
    clear h2501
    rintro n _ ⟨x2427, h2501, rfl⟩
    cases n with
    | zero => cases h2501
    | succ n =>
      rw [m87_L0] at h2501
      have hh := brn_some h2501; clear h2501; rcases hh with ⟨h2428, h2501⟩ | ⟨h2428, h2501⟩
      · have hh := grd_some h2501; clear h2501; obtain ⟨⟨g2429, g2430⟩, h2501⟩ := hh
        have hh := grd_some h2501; clear h2501; obtain ⟨g2431, h2501⟩ := hh
        have hh := getA2_some h2501; clear h2501; obtain ⟨p2433, p2434, h2432, h2501⟩ := hh
        injection h2432 with h2432
        have hh := grd_some h2501; clear h2501; obtain ⟨⟨g2435, g2436⟩, h2501⟩ := hh
        have hh := grd_some h2501; clear h2501; obtain ⟨g2437, h2501⟩ := hh
        have hh := getA2_some h2501; clear h2501; obtain ⟨p2439, p2440, h2438, h2501⟩ := hh
        injection h2438 with h2438
        have hh := getI_some h2501; clear h2501; obtain ⟨x2442, h2441, h2501⟩ := hh
        have hh := getI_some h2501; clear h2501; obtain ⟨x2444, h2443, h2501⟩ := hh
        have hh := getI_some h2501; clear h2501; obtain ⟨x2446, h2445, h2501⟩ := hh
        have hh := getI_some h2501; clear h2501; obtain ⟨x2448, h2447, h2501⟩ := hh
        have hh := brn_some h2501; clear h2501; rcases hh with ⟨h2449, h2501⟩ | ⟨h2449, h2501⟩
        · refine W_sound tab_ok mixed 30 _ _ _ ?_
          simp -implicitDefEqProofs only [go_sem, ne_eq, not_false_eq_true, Nat.reduceBEq, Nat.reduceAdd, Nat.reduceSub, Nat.reduceMul, Nat.reduceLT, Nat.reduceLeDiff, Int.reduceLE, Int.reduceLT, Int.reduceToNat, Int.reduceBEq, Int.reduceBNe, Int.le_refl, Nat.le_refl, decide_true, decide_false, Int.cast_ofNat_Int, ↓reduceIte, h2424, h2428, g2429, g2430, g2431, h2432, g2435, g2436, g2437, h2438, h2441, h2443, h2445, h2447, h2449]
          repeat with_reducible refine And.intro (by first | kernel_rfl | decide) ?_
          obtain rfl := Option.some.inj h2501
          (try dsimp only at h2502)
          obtain rfl := Option.some.inj h2502
          exact finC [(4, .v (.bool false))] [(4, .v (.bool false))] (by simp [leE, lk_cons]) (.cons _ _ _ _ _ (.v _ _ (.refl _)) .nil) (by rfl) (by simp [leE, lk_cons]) (by decide) (by decide) rfl (by simp only [go_sem, ne_eq, not_false_eq_true, Nat.reduceBEq, Nat.reduceAdd, Nat.reduceSub, Nat.reduceMul, Nat.reduceLT, Nat.reduceLeDiff, Int.reduceLE, Int.reduceLT, Int.reduceToNat, Int.reduceBEq, Int.reduceBNe, Int.le_refl, Nat.le_refl, decide_true, decide_false, Int.cast_ofNat_Int, ↓reduceIte, resQ_tmp, resQ_cell, resQ_nil, retD_one, retD_two, retD_three, retD_none]; try simp [R.val, retD_one, retD_two, retD_three, retD_none])
        · refine W_sound tab_ok mixed 31 _ _ _ ?_
          simp -implicitDefEqProofs only [go_sem, ne_eq, not_false_eq_true, Nat.reduceBEq, Nat.reduceAdd, Nat.reduceSub, Nat.reduceMul, Nat.reduceLT, Nat.reduceLeDiff, Int.reduceLE, Int.reduceLT, Int.reduceToNat, Int.reduceBEq, Int.reduceBNe, Int.le_refl, Nat.le_refl, decide_true, decide_false, Int.cast_ofNat_Int, ↓reduceIte, h2424, h2428, g2429, g2430, g2431, h2432, g2435, g2436, g2437, h2438, h2441, h2443, h2445, h2447, h2449]
          repeat with_reducible refine And.intro (by first | kernel_rfl | decide) ?_
          exact cutQ _ ((Wk_le (.cons _ _ _ _ _ (.refl _) (.cons _ _ _ _ _ (.refl _) (.cons _ _ _ _ _ (.refl _) (.cons _ _ _ _ _ (.refl _) (.cons _ _ _ _ _ (.refl _) (.cons _ _ _ _ _ (.refl _) (.cons _ _ _ _ _ (.refl _) (.cons _ _ _ _ _ (.refl _) (.cons _ _ _ _ _ (.dead _) (.cons _ _ _ _ _ (.dead _) (.cons _ _ _ _ _ (.refl _) (.cons _ _ _ _ _ (.refl _) (.cons _ _ _ _ _ (.refl _) .nil))))))))))))) (OLe.refl _)).trans (cmpS_ok rfl)) ⟨n, Nat.lt_succ_self n, _, h2501, rfl⟩
      · refine W_sound tab_ok mixed 9 _ _ _ ?_
        simp -implicitDefEqProofs only [go_sem, ne_eq, not_false_eq_true, Nat.reduceBEq, Nat.reduceAdd, Nat.reduceSub, Nat.reduceMul, Nat.reduceLT, Nat.reduceLeDiff, Int.reduceLE, Int.reduceLT, Int.reduceToNat, Int.reduceBEq, Int.reduceBNe, Int.le_refl, Nat.le_refl, decide_true, decide_false, Int.cast_ofNat_Int, ↓reduceIte, h2424, h2428]
        repeat with_reducible refine And.intro (by first | kernel_rfl | decide) ?_
        obtain rfl := Option.some.inj h2501
        exact cutQ _ ((Wk_le (.cons _ _ _ _ _ (.refl _) (.cons _ _ _ _ _ (.refl _) (.cons _ _ _ _ _ (.refl _) (.cons _ _ _ _ _ (.dead _) (.cons _ _ _ _ _ (.refl _) (.cons _ _ _ _ _ (.refl _) (.cons _ _ _ _ _ (.refl _) (.cons _ _ _ _ _ (.refl _) (.cons _ _ _ _ _ (.dead _) (.cons _ _ _ _ _ (.refl _) (.cons _ _ _ _ _ (.refl _) (.cons _ _ _ _ _ (.refl _) (.cons _ _ _ _ _ (.refl _) .nil))))))))))))) (OLe.refl _)).trans (cmpS_ok rfl)) ⟨rfl, rfl⟩
  · rintro _ ⟨rfl, rfl⟩
    (try dsimp only at h2502)
    have hh := bnd'_some h2502; clear h2502; obtain ⟨p2451, h2452, h2502⟩ := hh
    refine W_sound tab_ok mixed 3 _ _ _ ?_
    simp -implicitDefEqProofs only [go_sem, ne_eq, not_false_eq_true, Nat.reduceBEq, Nat.reduceAdd, Nat.reduceSub, Nat.reduceMul, Nat.reduceLT, Nat.reduceLeDiff, Int.reduceLE, Int.reduceLT, Int.reduceToNat, Int.reduceBEq, Int.reduceBNe, Int.le_refl, Nat.le_refl, decide_true, decide_false, Int.cast_ofNat_Int, ↓reduceIte, h2424]
    repeat with_reducible refine And.intro (by first | kernel_rfl | decide) ?_
    refine Wp_callP (c71 N _ _ h2452) (by kernel_rfl) rfl rfl rfl rfl (by decide) ?_
    have hh := getL_some h2502; clear h2502; obtain ⟨n2454, c2455, h2453, h2502⟩ := hh
    refine W_sound tab_ok mixed 7 _ _ _ ?_
    simp -implicitDefEqProofs only [go_sem, ne_eq, not_false_eq_true, Nat.reduceBEq, Nat.reduceAdd, Nat.reduceSub, Nat.reduceMul, Nat.reduceLT, Nat.reduceLeDiff, Int.reduceLE, Int.reduceLT, Int.reduceToNat, Int.reduceBEq, Int.reduceBNe, Int.le_refl, Nat.le_refl, decide_true, decide_false, Int.cast_ofNat_Int, ↓reduceIte, h2424, h2453]
    repeat with_reducible refine And.intro (by first | kernel_rfl | decide) ?_
    have hh := bnd'_some h2502; clear h2502; obtain ⟨o2503, h2504, h2505⟩ := hh
    refine Wp_cut (fun s => (.inr ()) = o2503 ∧ s = ⟨[], [(0, .dead), (1, .dead), (4, .dead), (5, .dead), (6, .dead), (7, .dead), (8, .dead), (9, .dead), (12, .dead), (23, .dead), (29, .dead), (35, .dead), (71, .dead)], [], 0, []⟩) ?_ ?_
    · refine Wp_block ?_
      refine Wp_loopG (fun n s => ∃ x2456, m87_L1 N x2423 n2425 c2426 n2454 c2455 n x2456 = some o2503 ∧ s = ⟨[], [(0, .v (.lst false n2425 c2426)), (1, .v (.int .i64 x2423)), (4, .dead), (5, .dead), (6, .v (.lst false n2454 c2455)), (7, .v (.int .i64 x2456)), (8, .dead), (9, .dead), (12, .dead), (23, .dead), (29, .dead), (35, .dead), (71, .dead)], [], 0, []⟩) N _ ((Wk_le (.cons _ _ _ _ _ (.refl _) (.cons _ _ _ _ _ (.refl _) (.cons _ _ _ _ _ (.refl _) (.cons _ _ _ _ _ (.refl _) (.cons _ _ _ _ _ (.refl _) (.cons _ _ _ _ _ (.refl _) (.cons _ _ _ _ _ (.refl _) (.cons _ _ _ _ _ (.refl _) (.cons _ _ _ _ _ (.refl _) (.cons _ _ _ _ _ (.refl _) (.cons _ _ _ _ _ (.refl _) (.cons _ _ _ _ _ (.refl _) (.cons _ _ _ _ _ (.refl _) .nil))))))))))))) (OLe.refl _)).trans (cmpS_ok rfl)) ⟨_, h2504, rfl⟩ ?_
      clear h2504
      rintro n _ ⟨x2456, h2504, rfl⟩
      cases n with
      | zero => cases h2504
      | succ n =>
        rw [m87_L1] at h2504
        have hh := brn_some h2504; clear h2504; rcases hh with ⟨h2457, h2504⟩ | ⟨h2457, h2504⟩
        · refine W_sound tab_ok mixed 21 _ _ _ ?_
          simp -implicitDefEqProofs only [go_sem, ne_eq, not_false_eq_true, Nat.reduceBEq, Nat.reduceAdd, Nat.reduceSub, Nat.reduceMul, Nat.reduceLT, Nat.reduceLeDiff, Int.reduceLE, Int.reduceLT, Int.reduceToNat, Int.reduceBEq, Int.reduceBNe, Int.le_refl, Nat.le_refl, decide_true, decide_false, Int.cast_ofNat_Int, ↓reduceIte, h2424, h2453, h2457]
          repeat with_reducible refine And.intro (by first | kernel_rfl | decide) ?_
          have hh := bnd'_some h2504; clear h2504; obtain ⟨o2506, h2507, h2508⟩ := hh
          refine Wp_cut (fun s => ∃ b2497, b2497 = o2506 ∧ s = ⟨[], [(0, .v (.lst false n2425 c2426)), (1, .v (.int .i64 x2423)), (4, .dead), (5, .dead), (6, .v (.lst false n2454 c2455)), (7, .v (.int .i64 x2456)), (8, .v (.bool b2497)), (9, .dead), (12, .dead), (23, .dead), (29, .dead), (35, .dead), (71, .dead)], [], 0, []⟩) ?_ ?_
          · refine Wp_block ?_
            refine Wp_loopG (fun n s => ∃ b2458, ∃ x2459, m87_L2 N x2423 n2425 c2426 n2454 c2455 x2456 n b2458 x2459 = some o2506 ∧ s = ⟨[], [(0, .v (.lst false n2425 c2426)), (1, .v (.int .i64 x2423)), (4, .dead), (5, .dead), (6, .v (.lst false n2454 c2455)), (7, .v (.int .i64 x2456)), (8, .v (.bool b2458)), (9, .v (.int .i64 x2459)), (12, .dead), (23, .dead), (29, .dead), (35, .dead), (71, .dead)], [], 0, []⟩) N _ ((Wk_le (.cons _ _ _ _ _ (.refl _) (.cons _ _ _ _ _ (.refl _) (.cons _ _ _ _ _ (.refl _) (.cons _ _ _ _ _ (.refl _) (.cons _ _ _ _ _ (.refl _) (.cons _ _ _ _ _ (.refl _) (.cons _ _ _ _ _ (.refl _) (.cons _ _ _ _ _ (.refl _) (.cons _ _ _ _ _ (.refl _) (.cons _ _ _ _ _ (.refl _) (.cons _ _ _ _ _ (.dead _) (.cons _ _ _ _ _ (.refl _) (.cons _ _ _ _ _ (.refl _) .nil))))))))))))) (OLe.refl _)).trans (cmpS_ok rfl)) ⟨_, _, h2507, rfl⟩ ?_
            clear h2507
            rintro n _ ⟨b2458, x2459, h2507, rfl⟩
            cases n with
            | zero => cases h2507
            | succ n =>
              rw [m87_L2] at h2507
              have hh := brn_some h2507; clear h2507; rcases hh with ⟨h2460, h2507⟩ | ⟨h2460, h2507⟩
              · have hh := brn_some h2507; clear h2507; rcases hh with ⟨h2461, h2507⟩ | ⟨h2461, h2507⟩
                · have hh := grd_some h2507; clear h2507; obtain ⟨⟨g2462, g2463⟩, h2507⟩ := hh
                  have hh := grd_some h2507; clear h2507; obtain ⟨g2464, h2507⟩ := hh
                  have hh := getA2_some h2507; clear h2507; obtain ⟨p2466, p2467, h2465, h2507⟩ := hh
                  injection h2465 with h2465
                  have hh := grd_some h2507; clear h2507; obtain ⟨⟨g2468, g2469⟩, h2507⟩ := hh
                  have hh := grd_some h2507; clear h2507; obtain ⟨g2470, h2507⟩ := hh
                  have hh := getA2_some h2507; clear h2507; obtain ⟨p2472, p2473, h2471, h2507⟩ := hh
                  injection h2471 with h2471
                  have hh := getI_some h2507; clear h2507; obtain ⟨x2475, h2474, h2507⟩ := hh
                  have hh := getI_some h2507; clear h2507; obtain ⟨x2477, h2476, h2507⟩ := hh
                  have hh := getI_some h2507; clear h2507; obtain ⟨x2479, h2478, h2507⟩ := hh
                  have hh := getI_some h2507; clear h2507; obtain ⟨x2481, h2480, h2507⟩ := hh
                  have hh := brn_some h2507; clear h2507; rcases hh with ⟨h2482, h2507⟩ | ⟨h2482, h2507⟩
                  · refine W_sound tab_ok mixed 54 _ _ _ ?_
                    simp -implicitDefEqProofs only [go_sem, ne_eq, not_false_eq_true, Nat.reduceBEq, Nat.reduceAdd, Nat.reduceSub, Nat.reduceMul, Nat.reduceLT, Nat.reduceLeDiff, Int.reduceLE, Int.reduceLT, Int.reduceToNat, Int.reduceBEq, Int.reduceBNe, Int.le_refl, Nat.le_refl, decide_true, decide_false, Int.cast_ofNat_Int, ↓reduceIte, h2424, h2453, h2457, h2460, h2461, g2462, g2463, g2464, h2465, g2468, g2469, g2470, h2471, h2474, h2476, h2478, h2480, h2482]
                    repeat with_reducible refine And.intro (by first | kernel_rfl | decide) ?_
                    exact cutQ _ ((Wk_le (.cons _ _ _ _ _ (.refl _) (.cons _ _ _ _ _ (.refl _) (.cons _ _ _ _ _ (.refl _) (.cons _ _ _ _ _ (.refl _) (.cons _ _ _ _ _ (.refl _) (.cons _ _ _ _ _ (.refl _) (.cons _ _ _ _ _ (.refl _) (.cons _ _ _ _ _ (.refl _) (.cons _ _ _ _ _ (.refl _) (.cons _ _ _ _ _ (.refl _) (.cons _ _ _ _ _ (.refl _) (.cons _ _ _ _ _ (.dead _) (.cons _ _ _ _ _ (.refl _) .nil))))))))))))) (OLe.refl _)).trans (cmpS_ok rfl)) ⟨n, Nat.lt_succ_self n, _, _, h2507, rfl⟩
                  · have hh := grd_some h2507; clear h2507; obtain ⟨⟨g2483, g2484⟩, h2507⟩ := hh
                    have hh := grd_some h2507; clear h2507; obtain ⟨g2485, h2507⟩ := hh
                    have hh := getA2_some h2507; clear h2507; obtain ⟨p2487, p2488, h2486, h2507⟩ := hh
                    injection h2486 with h2486
                    have hh := bnd'_some h2507; clear h2507; obtain ⟨p2489, h2490, h2507⟩ := hh
                    refine W_sound tab_ok mixed 33 _ _ _ ?_
                    simp -implicitDefEqProofs only [go_sem, ne_eq, not_false_eq_true, Nat.reduceBEq, Nat.reduceAdd, Nat.reduceSub, Nat.reduceMul, Nat.reduceLT, Nat.reduceLeDiff, Int.reduceLE, Int.reduceLT, Int.reduceToNat, Int.reduceBEq, Int.reduceBNe, Int.le_refl, Nat.le_refl, decide_true, decide_false, Int.cast_ofNat_Int, ↓reduceIte, h2424, h2453, h2457, h2460, h2461, g2462, g2463, g2464, h2465, g2468, g2469, g2470, h2471, h2474, h2476, h2478, h2480, h2482, g2483, g2484, g2485, h2486]
                    repeat with_reducible refine And.intro (by first | kernel_rfl | decide) ?_
                    refine Wp_callP (c62 N _ _ _ h2490) (by kernel_rfl) rfl rfl rfl rfl (by decide) ?_
                    have hh := getI_some h2507; clear h2507; obtain ⟨x2492, h2491, h2507⟩ := hh
                    have hh := bnd'_some h2507; clear h2507; obtain ⟨p2493, h2494, h2507⟩ := hh
                    refine W_sound tab_ok mixed 8 _ _ _ ?_
                    simp -implicitDefEqProofs only [go_sem, ne_eq, not_false_eq_true, Nat.reduceBEq, Nat.reduceAdd, Nat.reduceSub, Nat.reduceMul, Nat.reduceLT, Nat.reduceLeDiff, Int.reduceLE, Int.reduceLT, Int.reduceToNat, Int.reduceBEq, Int.reduceBNe, Int.le_refl, Nat.le_refl, decide_true, decide_false, Int.cast_ofNat_Int, ↓reduceIte, h2424, h2453, h2457, h2460, h2461, g2462, g2463, g2464, h2465, g2468, g2469, g2470, h2471, h2474, h2476, h2478, h2480, h2482, g2483, g2484, g2485, h2486, h2491]
                    repeat with_reducible refine And.intro (by first | kernel_rfl | decide) ?_
                    refine Wp_callP (c62 N _ _ _ h2494) (by kernel_rfl) rfl rfl rfl rfl (by decide) ?_
                    have hh := getI_some h2507; clear h2507; obtain ⟨x2496, h2495, h2507⟩ := hh
                    refine W_sound tab_ok mixed 11 _ _ _ ?_
                    simp -implicitDefEqProofs only [go_sem, ne_eq, not_false_eq_true, Nat.reduceBEq, Nat.reduceAdd, Nat.reduceSub, Nat.reduceMul, Nat.reduceLT, Nat.reduceLeDiff, Int.reduceLE, Int.reduceLT, Int.reduceToNat, Int.reduceBEq, Int.reduceBNe, Int.le_refl, Nat.le_refl, decide_true, decide_false, Int.cast_ofNat_Int, ↓reduceIte, h2424, h2453, h2457, h2460, h2461, g2462, g2463, g2464, h2465, g2468, g2469, g2470, h2471, h2474, h2476, h2478, h2480, h2482, g2483, g2484, g2485, h2486, h2491, h2495]
                    repeat with_reducible refine And.intro (by first | kernel_rfl | decide) ?_
                    exact cutQ _ ((Wk_le (.cons _ _ _ _ _ (.refl _) (.cons _ _ _ _ _ (.refl _) (.cons _ _ _ _ _ (.refl _) (.cons _ _ _ _ _ (.refl _) (.cons _ _ _ _ _ (.refl _) (.cons _ _ _ _ _ (.refl _) (.cons _ _ _ _ _ (.refl _) (.cons _ _ _ _ _ (.refl _) (.cons _ _ _ _ _ (.refl _) (.cons _ _ _ _ _ (.refl _) (.cons _ _ _ _ _ (.refl _) (.cons _ _ _ _ _ (.dead _) (.cons _ _ _ _ _ (.refl _) .nil))))))))))))) (OLe.refl _)).trans (cmpS_ok rfl)) ⟨n, Nat.lt_succ_self n, _, _, h2507, rfl⟩
                · refine W_sound tab_ok mixed 54 _ _ _ ?_
                  simp -implicitDefEqProofs only [go_sem, ne_eq, not_false_eq_true, Nat.reduceBEq, Nat.reduceAdd, Nat.reduceSub, Nat.reduceMul, Nat.reduceLT, Nat.reduceLeDiff, Int.reduceLE, Int.reduceLT, Int.reduceToNat, Int.reduceBEq, Int.reduceBNe, Int.le_refl, Nat.le_refl, decide_true, decide_false, Int.cast_ofNat_Int, ↓reduceIte, h2424, h2453, h2457, h2460, h2461]
                  repeat with_reducible refine And.intro (by first | kernel_rfl | decide) ?_
                  exact cutQ _ ((Wk_le (.cons _ _ _ _ _ (.refl _) (.cons _ _ _ _ _ (.refl _) (.cons _ _ _ _ _ (.refl _) (.cons _ _ _ _ _ (.refl _) (.cons _ _ _ _ _ (.refl _) (.cons _ _ _ _ _ (.refl _) (.cons _ _ _ _ _ (.refl _) (.cons _ _ _ _ _ (.refl _) (.cons _ _ _ _ _ (.refl _) (.cons _ _ _ _ _ (.refl _) (.cons _ _ _ _ _ (.refl _) (.cons _ _ _ _ _ (.dead _) (.cons _ _ _ _ _ (.refl _) .nil))))))))))))) (OLe.refl _)).trans (cmpS_ok rfl)) ⟨n, Nat.lt_succ_self n, _, _, h2507, rfl⟩
              · refine W_sound tab_ok mixed 10 _ _ _ ?_
                simp -implicitDefEqProofs only [go_sem, ne_eq, not_false_eq_true, Nat.reduceBEq, Nat.reduceAdd, Nat.reduceSub, Nat.reduceMul, Nat.reduceLT, Nat.reduceLeDiff, Int.reduceLE, Int.reduceLT, Int.reduceToNat, Int.reduceBEq, Int.reduceBNe, Int.le_refl, Nat.le_refl, decide_true, decide_false, Int.cast_ofNat_Int, ↓reduceIte, h2424, h2453, h2457, h2460]
                repeat with_reducible refine And.intro (by first | kernel_rfl | decide) ?_
                obtain rfl := Option.some.inj h2507
                exact cutQ _ ((Wk_le (.cons _ _ _ _ _ (.refl _) (.cons _ _ _ _ _ (.refl _) (.cons _ _ _ _ _ (.refl _) (.cons _ _ _ _ _ (.refl _) (.cons _ _ _ _ _ (.refl _) (.cons _ _ _ _ _ (.refl _) (.cons _ _ _ _ _ (.refl _) (.cons _ _ _ _ _ (.dead _) (.cons _ _ _ _ _ (.refl _) (.cons _ _ _ _ _ (.refl _) (.cons _ _ _ _ _ (.refl _) (.cons _ _ _ _ _ (.dead _) (.cons _ _ _ _ _ (.refl _) .nil))))))))))))) (OLe.refl _)).trans (cmpS_ok rfl)) ⟨_, rfl, rfl⟩
          · rintro _ ⟨b2497, rfl, rfl⟩
            have hh := brn_some h2508; clear h2508; rcases hh with ⟨h2498, h2508⟩ | ⟨h2498, h2508⟩
            · refine W_sound tab_ok mixed 11 _ _ _ ?_
              simp -implicitDefEqProofs only [go_sem, ne_eq, not_false_eq_true, Nat.reduceBEq, Nat.reduceAdd, Nat.reduceSub, Nat.reduceMul, Nat.reduceLT, Nat.reduceLeDiff, Int.reduceLE, Int.reduceLT, Int.reduceToNat, Int.reduceBEq, Int.reduceBNe, Int.le_refl, Nat.le_refl, decide_true, decide_false, Int.cast_ofNat_Int, ↓reduceIte, h2424, h2453, h2457, h2498]
              repeat with_reducible refine And.intro (by first | kernel_rfl | decide) ?_
              obtain rfl := Option.some.inj h2508
              (try dsimp only at h2505)
              obtain rfl := Option.some.inj h2505
              exact finC [(4, .v (.bool true))] [(4, .v (.bool true))] (by simp [leE, lk_cons]) (.cons _ _ _ _ _ (.v _ _ (.refl _)) .nil) (by rfl) (by simp [leE, lk_cons]) (by decide) (by decide) rfl (by simp only [go_sem, ne_eq, not_false_eq_true, Nat.reduceBEq, Nat.reduceAdd, Nat.reduceSub, Nat.reduceMul, Nat.reduceLT, Nat.reduceLeDiff, Int.reduceLE, Int.reduceLT, Int.reduceToNat, Int.reduceBEq, Int.reduceBNe, Int.le_refl, Nat.le_refl, decide_true, decide_false, Int.cast_ofNat_Int, ↓reduceIte, resQ_tmp, resQ_cell, resQ_nil, retD_one, retD_two, retD_three, retD_none]; try simp [R.val, retD_one, retD_two, retD_three, retD_none])
            · refine W_sound tab_ok mixed 12 _ _ _ ?_
              simp -implicitDefEqProofs only [go_sem, ne_eq, not_false_eq_true, Nat.reduceBEq, Nat.reduceAdd, Nat.reduceSub, Nat.reduceMul, Nat.reduceLT, Nat.reduceLeDiff, Int.reduceLE, Int.reduceLT, Int.reduceToNat, Int.reduceBEq, Int.reduceBNe, Int.le_refl, Nat.le_refl, decide_true, decide_false, Int.cast_ofNat_Int, ↓reduceIte, h2424, h2453, h2457, h2498]
              repeat with_reducible refine And.intro (by first | kernel_rfl | decide) ?_
              exact cutQ _ ((Wk_le (.cons _ _ _ _ _ (.refl _) (.cons _ _ _ _ _ (.refl _) (.cons _ _ _ _ _ (.refl _) (.cons _ _ _ _ _ (.refl _) (.cons _ _ _ _ _ (.refl _) (.cons _ _ _ _ _ (.refl _) (.cons _ _ _ _ _ (.dead _) (.cons _ _ _ _ _ (.refl _) (.cons _ _ _ _ _ (.refl _) (.cons _ _ _ _ _ (.refl _) (.cons _ _ _ _ _ (.refl _) (.cons _ _ _ _ _ (.refl _) (.cons _ _ _ _ _ (.dead _) .nil))))))))))))) (OLe.refl _)).trans (cmpS_ok rfl)) ⟨n, Nat.lt_succ_self n, _, h2508, rfl⟩
        · refine W_sound tab_ok mixed 10 _ _ _ ?_
          simp -implicitDefEqProofs only [go_sem, ne_eq, not_false_eq_true, Nat.reduceBEq, Nat.reduceAdd, Nat.reduceSub, Nat.reduceMul, Nat.reduceLT, Nat.reduceLeDiff, Int.reduceLE, Int.reduceLT, Int.reduceToNat, Int.reduceBEq, Int.reduceBNe, Int.le_refl, Nat.le_refl, decide_true, decide_false, Int.cast_ofNat_Int, ↓reduceIte, h2424, h2453, h2457]
          repeat with_reducible refine And.intro (by first | kernel_rfl | decide) ?_
          obtain rfl := Option.some.inj h2504
          exact cutQ _ ((Wk_le (.cons _ _ _ _ _ (.dead _) (.cons _ _ _ _ _ (.dead _) (.cons _ _ _ _ _ (.refl _) (.cons _ _ _ _ _ (.refl _) (.cons _ _ _ _ _ (.dead _) (.cons _ _ _ _ _ (.dead _) (.cons _ _ _ _ _ (.refl _) (.cons _ _ _ _ _ (.refl _) (.cons _ _ _ _ _ (.refl _) (.cons _ _ _ _ _ (.refl _) (.cons _ _ _ _ _ (.dead _) (.cons _ _ _ _ _ (.refl _) (.cons _ _ _ _ _ (.refl _) .nil))))))))))))) (OLe.refl _)).trans (cmpS_ok rfl)) ⟨rfl, rfl⟩
    · rintro _ ⟨rfl, rfl⟩
      (try dsimp only at h2505)
      refine W_sound tab_ok mixed 6 _ _ _ ?_
      simp -implicitDefEqProofs only [go_sem, ne_eq, not_false_eq_true, Nat.reduceBEq, Nat.reduceAdd, Nat.reduceSub, Nat.reduceMul, Nat.reduceLT, Nat.reduceLeDiff, Int.reduceLE, Int.reduceLT, Int.reduceToNat, Int.reduceBEq, Int.reduceBNe, Int.le_refl, Nat.le_refl, decide_true, decide_false, Int.cast_ofNat_Int, ↓reduceIte, h2424, h2453]
      repeat with_reducible refine And.intro (by first | kernel_rfl | decide) ?_
      obtain rfl := Option.some.inj h2505
      exact finC [(4, .v (.bool false))] [(4, .v (.bool false))] (by simp [leE, lk_cons]) (.cons _ _ _ _ _ (.v _ _ (.refl _)) .nil) (by rfl) (by simp [leE, lk_cons]) (by decide) (by decide) rfl (by simp only [go_sem, ne_eq, not_false_eq_true, Nat.reduceBEq, Nat.reduceAdd, Nat.reduceSub, Nat.reduceMul, Nat.reduceLT, Nat.reduceLeDiff, Int.reduceLE, Int.reduceLT, Int.reduceToNat, Int.reduceBEq, Int.reduceBNe, Int.le_refl, Nat.le_refl, decide_true, decide_false, Int.cast_ofNat_Int, ↓reduceIte, resQ_tmp, resQ_cell, resQ_nil, retD_one, retD_two, retD_three, retD_none]; try simp [R.val, retD_one, retD_two, retD_three, retD_none])

def m66_L1 (N : Nat) (n2511 : Nat) (c2512 : List PV) (n2562 : Nat) (x2563 : Int) (c2564 : List PV) : Nat → Int → Option (Int)
  | 0, _ => none
  | n + 1, x2571 =>
    brn (decide (x2571 < ((n2562 : Nat) : Int))) (
      grd (0 ≤ x2571 ∧ x2571 < ((n2562 : Nat) : Int)) <|
      grd ((Int.toNat x2571) < List.length c2564) <|
      getI .i64 (gp c2564 (Int.toNat x2571)) fun x2577 =>
      grd (0 ≤ x2577 ∧ x2577 < ((n2511 : Nat) : Int)) <|
      grd (0 < List.length (List.drop 1 (List.drop ((Int.toNat x2577) * 2) c2512))) <|
      getI .i64 (gp c2512 (((Int.toNat x2577) * 2) + 1)) fun x2582 =>
      grd (0 ≤ x2563 ∧ x2563 < ((n2511 : Nat) : Int)) <|
      grd (0 < List.length (List.drop 1 (List.drop ((Int.toNat x2563) * 2) c2512))) <|
      getI .i64 (gp c2512 (((Int.toNat x2563) * 2) + 1)) fun x2587 =>
      brn (decide (x2582 < x2587)) (
        m66_L1 N n2511 c2512 n2562 x2563 c2564 n (IntKind.i64.wrap (x2571 + 1))) (
        some x2571)) (
      some x2571)
def m66_L0 (N : Nat) (n2511 : Nat) (c2512 : List PV) : Nat → Nat → Int → List PV → Option ((Nat × List PV))
  | 0, _, _, _ => none
  | n + 1, n2562, x2563, c2564 =>
    brn (decide (x2563 < ((n2511 : Nat) : Int))) (
      bnd' (m87 N (.lst false n2511 c2512) x2563) fun p2566 =>
      getB p2566 fun b2569 =>
      brn b2569 (
        bnd' (m66_L1 N n2511 c2512 n2562 x2563 c2564 N 0) fun x2589 =>
        grd (0 ≤ x2589 ∧ x2589 ≤ ((n2562 : Nat) : Int)) <|
        grd (List.length (List.take (Int.toNat x2589) c2564) = (Int.toNat x2589)) <|
        brn (decide (0 < (Int.toNat x2589))) (
          grd ((Int.toNat x2589) ≤ 1099511627776) <|
          grd (((Int.toNat x2589) + 1) ≤ 1099511627776) <|
          grd (List.length (List.take (Int.toNat (((n2562 : Nat) : Int) - x2589)) (List.drop (Int.toNat x2589) c2564)) = (Int.toNat (((n2562 : Nat) : Int) - x2589))) <|
          grd ((((Int.toNat x2589) + 1) + (Int.toNat (((n2562 : Nat) : Int) - x2589))) ≤ 1099511627776) <|
          m66_L0 N n2511 c2512 n (((Int.toNat x2589) + 1) + (Int.toNat (((n2562 : Nat) : Int) - x2589))) (IntKind.i64.wrap (x2563 + 1)) (((List.take (Int.toNat x2589) c2564) ++ [(.int .i64 x2563)]) ++ (List.take (Int.toNat (((n2562 : Nat) : Int) - x2589)) (List.drop (Int.toNat x2589) c2564)))) (
          grd ((Int.toNat x2589) ≤ 1099511627776) <|
          grd (((Int.toNat x2589) + 1) ≤ 1099511627776) <|
          grd (List.length (List.take (Int.toNat (((n2562 : Nat) : Int) - x2589)) (List.drop (Int.toNat x2589) c2564)) = (Int.toNat (((n2562 : Nat) : Int) - x2589))) <|
          grd ((((Int.toNat x2589) + 1) + (Int.toNat (((n2562 : Nat) : Int) - x2589))) ≤ 1099511627776) <|
          m66_L0 N n2511 c2512 n (((Int.toNat x2589) + 1) + (Int.toNat (((n2562 : Nat) : Int) - x2589))) (IntKind.i64.wrap (x2563 + 1)) (((List.take (Int.toNat x2589) c2564) ++ [(.int .i64 x2563)]) ++ (List.take (Int.toNat (((n2562 : Nat) : Int) - x2589)) (List.drop (Int.toNat x2589) c2564))))) (
        m66_L0 N n2511 c2512 n n2562 (IntKind.i64.wrap (x2563 + 1)) c2564)) (
      some (n2562, c2564))
def m66 (N : Nat) (p2509 : PV) : Option (PV) :=
  getL p2509 fun n2511 c2512 =>
  bnd' (m66_L0 N n2511 c2512 N 0 0 []) fun o =>
  match o with
  | (n2602, c2603) =>
    grd (List.length c2603 = n2602) <|
    some (.lst false n2602 c2603)
theorem c66 (N : Nat) (p2509 : PV) (r : PV)  (h : m66 N p2509 = some r) : FnP Try.prog 66 [p2509] r := by
  unfold m66 at h
  refine Fn_of (sz := 54) tab_ok [0, 2, 3, 4, 5, 6, 10, 16, 36] [.tmp 2] Try.func66 rfl rfl rfl (by simp) ?_
  simp only [initSt, initEnv, List.map_cons, List.map_nil, List.getD_cons_zero, List.getD_cons_succ, List.getD_nil]
  have hh := getL_some h; clear h; obtain ⟨n2511, c2512, h2510, h⟩ := hh
  refine W_sound tab_ok mixed 13 _ _ _ ?_
  simp -implicitDefEqProofs only [go_sem, ne_eq, not_false_eq_true, Nat.reduceBEq, Nat.reduceAdd, Nat.reduceSub, Nat.reduceMul, Nat.reduceLT, Nat.reduceLeDiff, Int.reduceLE, Int.reduceLT, Int.reduceToNat, Int.reduceBEq, Int.reduceBNe, Int.le_refl, Nat.le_refl, decide_true, decide_false, Int.cast_ofNat_Int, ↓reduceIte, h2510]
  repeat with_reducible refine And.intro (by first | kernel_rfl | decide) ?_
  refine Wp_weaken (Wk_ownS 3 1 rfl (by decide) (by decide)) ?_
  simp -implicitDefEqProofs only [go_sem, ne_eq, not_false_eq_true, Nat.reduceBEq, Nat.reduceAdd, Nat.reduceSub, Nat.reduceMul, Nat.reduceLT, Nat.reduceLeDiff, Int.reduceLE, Int.reduceLT, Int.reduceToNat, Int.reduceBEq, Int.reduceBNe, Int.le_refl, Nat.le_refl, decide_true, decide_false, Int.cast_ofNat_Int, ↓reduceIte, h2510]
  have hh := bnd'_some h; clear h; obtain ⟨o2605, h2606, h2607⟩ := hh
  refine Wp_cut (fun s => ∃ n2602, ∃ c2603, (n2602, c2603) = o2605 ∧ s = ⟨[], [(0, .dead), (2, .dead), (3, .sl false 0 0 n2602 1), (4, .dead), (5, .dead), (6, .dead), (10, .dead), (16, .dead), (36, .dead)], [(0, .p c2603)], 1, []⟩) ?_ ?_
  · refine Wp_block ?_
    refine Wp_loopG (fun n s => ∃ n2562, ∃ x2563, ∃ c2564, m66_L0 N n2511 c2512 n n2562 x2563 c2564 = some o2605 ∧ s = ⟨[], [(0, .v (.lst false n2511 c2512)), (2, .dead), (3, .sl false 0 0 n2562 1), (4, .v (.int .i64 x2563)), (5, .dead), (6, .dead), (10, .dead), (16, .dead), (36, .dead)], [(0, .p c2564)], 1, []⟩) N _ ((Wk_le (.cons _ _ _ _ _ (.refl _) (.cons _ _ _ _ _ (.dead _) (.cons _ _ _ _ _ (.refl _) (.cons _ _ _ _ _ (.refl _) (.cons _ _ _ _ _ (.refl _) (.cons _ _ _ _ _ (.refl _) (.cons _ _ _ _ _ (.refl _) (.cons _ _ _ _ _ (.refl _) (.cons _ _ _ _ _ (.refl _) .nil))))))))) (OLe.refl _)).trans (cmpS_ok rfl)) ⟨_, _, _, h2606, rfl⟩ ?_
    clear h2606
    rintro n _ ⟨n2562, x2563, c2564, h2606, rfl⟩
    cases n with
    | zero => cases h2606
    | succ n =>
      rw [m66_L0] at h2606
      have hh := brn_some h2606; clear h2606; rcases hh with ⟨h2565, h2606⟩ | ⟨h2565, h2606⟩
      · have hh := bnd'_some h2606; clear h2606; obtain ⟨p2566, h2567, h2606⟩ := hh
        refine W_sound tab_ok mixed 17 _ _ _ ?_
        simp -implicitDefEqProofs only [go_sem, ne_eq, not_false_eq_true, Nat.reduceBEq, Nat.reduceAdd, Nat.reduceSub, Nat.reduceMul, Nat.reduceLT, Nat.reduceLeDiff, Int.reduceLE, Int.reduceLT, Int.reduceToNat, Int.reduceBEq, Int.reduceBNe, Int.le_refl, Nat.le_refl, decide_true, decide_false, Int.cast_ofNat_Int, ↓reduceIte, h2510, h2565]
        repeat with_reducible refine And.intro (by first | kernel_rfl | decide) ?_
        refine Wp_callP (c87 N _ _ _ h2567) (by kernel_rfl) rfl rfl rfl rfl (by decide) ?_
        have hh := getB_some h2606; clear h2606; obtain ⟨b2569, h2568, h2606⟩ := hh
        have hh := brn_some h2606; clear h2606; rcases hh with ⟨h2570, h2606⟩ | ⟨h2570, h2606⟩
        · refine W_sound tab_ok mixed 9 _ _ _ ?_
          simp -implicitDefEqProofs only [go_sem, ne_eq, not_false_eq_true, Nat.reduceBEq, Nat.reduceAdd, Nat.reduceSub, Nat.reduceMul, Nat.reduceLT, Nat.reduceLeDiff, Int.reduceLE, Int.reduceLT, Int.reduceToNat, Int.reduceBEq, Int.reduceBNe, Int.le_refl, Nat.le_refl, decide_true, decide_false, Int.cast_ofNat_Int, ↓reduceIte, h2510, h2565, h2568, h2570]
          repeat with_reducible refine And.intro (by first | kernel_rfl | decide) ?_
          have hh := bnd'_some h2606; clear h2606; obtain ⟨o2608, h2609, h2610⟩ := hh
          refine Wp_cut (fun s => ∃ x2589, x2589 = o2608 ∧ s = ⟨[], [(0, .v (.lst false n2511 c2512)), (2, .dead), (3, .sl false 0 0 n2562 1), (4, .v (.int .i64 x2563)), (5, .v (.int .i64 x2589)), (6, .dead), (10, .dead), (16, .dead), (36, .dead)], [(0, .p c2564)], 1, []⟩) ?_ ?_
          · refine Wp_block ?_
            refine Wp_loopG (fun n s => ∃ x2571, m66_L1 N n2511 c2512 n2562 x2563 c2564 n x2571 = some o2608 ∧ s = ⟨[], [(0, .v (.lst false n2511 c2512)), (2, .dead), (3, .sl false 0 0 n2562 1), (4, .v (.int .i64 x2563)), (5, .v (.int .i64 x2571)), (6, .dead), (10, .dead), (16, .dead), (36, .dead)], [(0, .p c2564)], 1, []⟩) N _ ((Wk_le (.cons _ _ _ _ _ (.refl _) (.cons _ _ _ _ _ (.refl _) (.cons _ _ _ _ _ (.refl _) (.cons _ _ _ _ _ (.refl _) (.cons _ _ _ _ _ (.refl _) (.cons _ _ _ _ _ (.refl _) (.cons _ _ _ _ _ (.dead _) (.cons _ _ _ _ _ (.dead _) (.cons _ _ _ _ _ (.refl _) .nil))))))))) (OLe.refl _)).trans (cmpS_ok rfl)) ⟨_, h2609, rfl⟩ ?_
            clear h2609
            rintro n _ ⟨x2571, h2609, rfl⟩
            cases n with
            | zero => cases h2609
            | succ n =>
              rw [m66_L1] at h2609
              have hh := brn_some h2609; clear h2609; rcases hh with ⟨h2572, h2609⟩ | ⟨h2572, h2609⟩
              · have hh := grd_some h2609; clear h2609; obtain ⟨⟨g2573, g2574⟩, h2609⟩ := hh
                have hh := grd_some h2609; clear h2609; obtain ⟨g2575, h2609⟩ := hh
                have hh := getI_some h2609; clear h2609; obtain ⟨x2577, h2576, h2609⟩ := hh
                have hh := grd_some h2609; clear h2609; obtain ⟨⟨g2578, g2579⟩, h2609⟩ := hh
                have hh := grd_some h2609; clear h2609; obtain ⟨g2580, h2609⟩ := hh
                have hh := getI_some h2609; clear h2609; obtain ⟨x2582, h2581, h2609⟩ := hh
                have hh := grd_some h2609; clear h2609; obtain ⟨⟨g2583, g2584⟩, h2609⟩ := hh
                have hh := grd_some h2609; clear h2609; obtain ⟨g2585, h2609⟩ := hh
                have hh := getI_some h2609; clear h2609; obtain ⟨x2587, h2586, h2609⟩ := hh
                have hh := brn_some h2609; clear h2609; rcases hh with ⟨h2588, h2609⟩ | ⟨h2588, h2609⟩
                · refine W_sound tab_ok mixed 33 _ _ _ ?_
                  simp -implicitDefEqProofs only [go_sem, ne_eq, not_false_eq_true, Nat.reduceBEq, Nat.reduceAdd, Nat.reduceSub, Nat.reduceMul, Nat.reduceLT, Nat.reduceLeDiff, Int.reduceLE, Int.reduceLT, Int.reduceToNat, Int.reduceBEq, Int.reduceBNe, Int.le_refl, Nat.le_refl, decide_true, decide_false, Int.cast_ofNat_Int, ↓reduceIte, h2510, h2565, h2568, h2570, h2572, g2573, g2574, g2575, h2576, g2578, g2579, g2580, h2581, g2583, g2584, g2585, h2586, h2588]
                  repeat with_reducible refine And.intro (by first | kernel_rfl | decide) ?_
                  exact cutQ _ ((Wk_le (.cons _ _ _ _ _ (.refl _) (.cons _ _ _ _ _ (.refl _) (.cons _ _ _ _ _ (.refl _) (.cons _ _ _ _ _ (.refl _) (.cons _ _ _ _ _ (.refl _) (.cons _ _ _ _ _ (.refl _) (.cons _ _ _ _ _ (.refl _) (.cons _ _ _ _ _ (.refl _) (.cons _ _ _ _ _ (.dead _) .nil))))))))) (OLe.refl _)).trans (cmpS_ok rfl)) ⟨n, Nat.lt_succ_self n, _, h2609, rfl⟩
                · refine W_sound tab_ok mixed 26 _ _ _ ?_
                  simp -implicitDefEqProofs only [go_sem, ne_eq, not_false_eq_true, Nat.reduceBEq, Nat.reduceAdd, Nat.reduceSub, Nat.reduceMul, Nat.reduceLT, Nat.reduceLeDiff, Int.reduceLE, Int.reduceLT, Int.reduceToNat, Int.reduceBEq, Int.reduceBNe, Int.le_refl, Nat.le_refl, decide_true, decide_false, Int.cast_ofNat_Int, ↓reduceIte, h2510, h2565, h2568, h2570, h2572, g2573, g2574, g2575, h2576, g2578, g2579, g2580, h2581, g2583, g2584, g2585, h2586, h2588]
                  repeat with_reducible refine And.intro (by first | kernel_rfl | decide) ?_
                  obtain rfl := Option.some.inj h2609
                  exact cutQ _ ((Wk_le (.cons _ _ _ _ _ (.refl _) (.cons _ _ _ _ _ (.refl _) (.cons _ _ _ _ _ (.refl _) (.cons _ _ _ _ _ (.refl _) (.cons _ _ _ _ _ (.refl _) (.cons _ _ _ _ _ (.refl _) (.cons _ _ _ _ _ (.refl _) (.cons _ _ _ _ _ (.refl _) (.cons _ _ _ _ _ (.dead _) .nil))))))))) (OLe.refl _)).trans (cmpS_ok rfl)) ⟨_, rfl, rfl⟩
              · refine W_sound tab_ok mixed 26 _ _ _ ?_
                simp -implicitDefEqProofs only [go_sem, ne_eq, not_false_eq_true, Nat.reduceBEq, Nat.reduceAdd, Nat.reduceSub, Nat.reduceMul, Nat.reduceLT, Nat.reduceLeDiff, Int.reduceLE, Int.reduceLT, Int.reduceToNat, Int.reduceBEq, Int.reduceBNe, Int.le_refl, Nat.le_refl, decide_true, decide_false, Int.cast_ofNat_Int, ↓reduceIte, h2510, h2565, h2568, h2570, h2572]
                repeat with_reducible refine And.intro (by first | kernel_rfl | decide) ?_
                obtain rfl := Option.some.inj h2609
                exact cutQ _ ((Wk_le (.cons _ _ _ _ _ (.refl _) (.cons _ _ _ _ _ (.refl _) (.cons _ _ _ _ _ (.refl _) (.cons _ _ _ _ _ (.refl _) (.cons _ _ _ _ _ (.refl _) (.cons _ _ _ _ _ (.refl _) (.cons _ _ _ _ _ (.refl _) (.cons _ _ _ _ _ (.refl _) (.cons _ _ _ _ _ (.dead _) .nil))))))))) (OLe.refl _)).trans (cmpS_ok rfl)) ⟨_, rfl, rfl⟩
          · rintro _ ⟨x2589, rfl, rfl⟩
            have hh := grd_some h2610; clear h2610; obtain ⟨⟨g2590, g2591⟩, h2610⟩ := hh
            have hh := grd_some h2610; clear h2610; obtain ⟨g2592, h2610⟩ := hh
            have hh := brn_some h2610; clear h2610; rcases hh with ⟨h2593, h2610⟩ | ⟨h2593, h2610⟩
            · have hh := grd_some h2610; clear h2610; obtain ⟨g2594, h2610⟩ := hh
              have hh := grd_some h2610; clear h2610; obtain ⟨g2595, h2610⟩ := hh
              have hh := grd_some h2610; clear h2610; obtain ⟨g2596, h2610⟩ := hh
              have hh := grd_some h2610; clear h2610; obtain ⟨g2597, h2610⟩ := hh
              refine W_sound tab_ok mixed 31 _ _ _ ?_
              simp -implicitDefEqProofs only [go_sem, ne_eq, not_false_eq_true, Nat.reduceBEq, Nat.reduceAdd, Nat.reduceSub, Nat.reduceMul, Nat.reduceLT, Nat.reduceLeDiff, Int.reduceLE, Int.reduceLT, Int.reduceToNat, Int.reduceBEq, Int.reduceBNe, Int.le_refl, Nat.le_refl, decide_true, decide_false, Int.cast_ofNat_Int, ↓reduceIte, h2510, h2565, h2568, h2570, g2590, g2591, g2592, h2593, g2594, g2595, g2596, g2597]
              repeat with_reducible refine And.intro (by first | kernel_rfl | decide) ?_
              exact cutQ _ ((Wk_le (.cons _ _ _ _ _ (.refl _) (.cons _ _ _ _ _ (.refl _) (.cons _ _ _ _ _ (.refl _) (.cons _ _ _ _ _ (.refl _) (.cons _ _ _ _ _ (.dead _) (.cons _ _ _ _ _ (.dead _) (.cons _ _ _ _ _ (.refl _) (.cons _ _ _ _ _ (.refl _) (.cons _ _ _ _ _ (.refl _) .nil))))))))) (OLe.refl _)).trans (cmpS_ok rfl)) ⟨n, Nat.lt_succ_self n, _, _, _, h2610, rfl⟩
            · have hh := grd_some h2610; clear h2610; obtain ⟨g2598, h2610⟩ := hh
              have hh := grd_some h2610; clear h2610; obtain ⟨g2599, h2610⟩ := hh
              have hh := grd_some h2610; clear h2610; obtain ⟨g2600, h2610⟩ := hh
              have hh := grd_some h2610; clear h2610; obtain ⟨g2601, h2610⟩ := hh
              refine W_sound tab_ok mixed 31 _ _ _ ?_
              simp -implicitDefEqProofs only [go_sem, ne_eq, not_false_eq_true, Nat.reduceBEq, Nat.reduceAdd, Nat.reduceSub, Nat.reduceMul, Nat.reduceLT, Nat.reduceLeDiff, Int.reduceLE, Int.reduceLT, Int.reduceToNat, Int.reduceBEq, Int.reduceBNe, Int.le_refl, Nat.le_refl, decide_true, decide_false, Int.cast_ofNat_Int, ↓reduceIte, h2510, h2565, h2568, h2570, g2590, g2591, g2592, h2593, g2598, g2599, g2600, g2601]
              repeat with_reducible refine And.intro (by first | kernel_rfl | decide) ?_
              exact cutQ _ ((Wk_le (.cons _ _ _ _ _ (.refl _) (.cons _ _ _ _ _ (.refl _) (.cons _ _ _ _ _ (.refl _) (.cons _ _ _ _ _ (.refl _) (.cons _ _ _ _ _ (.dead _) (.cons _ _ _ _ _ (.dead _) (.cons _ _ _ _ _ (.refl _) (.cons _ _ _ _ _ (.refl _) (.cons _ _ _ _ _ (.refl _) .nil))))))))) (OLe.refl _)).trans (cmpS_ok rfl)) ⟨n, Nat.lt_succ_self n, _, _, _, h2610, rfl⟩
        · refine W_sound tab_ok mixed 9 _ _ _ ?_
          simp -implicitDefEqProofs only [go_sem, ne_eq, not_false_eq_true, Nat.reduceBEq, Nat.reduceAdd, Nat.reduceSub, Nat.reduceMul, Nat.reduceLT, Nat.reduceLeDiff, Int.reduceLE, Int.reduceLT, Int.reduceToNat, Int.reduceBEq, Int.reduceBNe, Int.le_refl, Nat.le_refl, decide_true, decide_false, Int.cast_ofNat_Int, ↓reduceIte, h2510, h2565, h2568, h2570]
          repeat with_reducible refine And.intro (by first | kernel_rfl | decide) ?_
          exact cutQ _ ((Wk_le (.cons _ _ _ _ _ (.refl _) (.cons _ _ _ _ _ (.refl _) (.cons _ _ _ _ _ (.refl _) (.cons _ _ _ _ _ (.refl _) (.cons _ _ _ _ _ (.refl _) (.cons _ _ _ _ _ (.refl _) (.cons _ _ _ _ _ (.dead _) (.cons _ _ _ _ _ (.dead _) (.cons _ _ _ _ _ (.refl _) .nil))))))))) (OLe.refl _)).trans (cmpS_ok rfl)) ⟨n, Nat.lt_succ_self n, _, _, _, h2606, rfl⟩
      · refine W_sound tab_ok mixed 10 _ _ _ ?_
        simp -implicitDefEqProofs only [go_sem, ne_eq, not_false_eq_true, Nat.reduceBEq, Nat.reduceAdd, Nat.reduceSub, Nat.reduceMul, Nat.reduceLT, Nat.reduceLeDiff, Int.reduceLE, Int.reduceLT, Int.reduceToNat, Int.reduceBEq, Int.reduceBNe, Int.le_refl, Nat.le_refl, decide_true, decide_false, Int.cast_ofNat_Int, ↓reduceIte, h2510, h2565]
        repeat with_reducible refine And.intro (by first | kernel_rfl | decide) ?_
        obtain rfl := Option.some.inj h2606
        exact cutQ _ ((Wk_le (.cons _ _ _ _ _ (.dead _) (.cons _ _ _ _ _ (.refl _) (.cons _ _ _ _ _ (.refl _) (.cons _ _ _ _ _ (.dead _) (.cons _ _ _ _ _ (.refl _) (.cons _ _ _ _ _ (.refl _) (.cons _ _ _ _ _ (.dead _) (.cons _ _ _ _ _ (.refl _) (.cons _ _ _ _ _ (.refl _) .nil))))))))) (OLe.refl _)).trans (cmpS_ok rfl)) ⟨_, _, rfl, rfl⟩
  · rintro _ ⟨n2602, c2603, rfl, rfl⟩
    (try dsimp only at h2607)
    refine W_sound tab_ok mixed 7 _ _ _ ?_
    simp -implicitDefEqProofs only [go_sem, ne_eq, not_false_eq_true, Nat.reduceBEq, Nat.reduceAdd, Nat.reduceSub, Nat.reduceMul, Nat.reduceLT, Nat.reduceLeDiff, Int.reduceLE, Int.reduceLT, Int.reduceToNat, Int.reduceBEq, Int.reduceBNe, Int.le_refl, Nat.le_refl, decide_true, decide_false, Int.cast_ofNat_Int, ↓reduceIte, h2510]
    repeat with_reducible refine And.intro (by first | kernel_rfl | decide) ?_
    have hh := grd_some h2607; clear h2607; obtain ⟨g2604, h2607⟩ := hh
    refine FinQ_wk (Wk_freeze 0 c2603 (by rfl) (by decide) (by decide)) ?_
    simp -implicitDefEqProofs only [go_sem, ne_eq, not_false_eq_true, Nat.reduceBEq, Nat.reduceAdd, Nat.reduceSub, Nat.reduceMul, Nat.reduceLT, Nat.reduceLeDiff, Int.reduceLE, Int.reduceLT, Int.reduceToNat, Int.reduceBEq, Int.reduceBNe, Int.le_refl, Nat.le_refl, decide_true, decide_false, Int.cast_ofNat_Int, ↓reduceIte, h2510, g2604]
    obtain rfl := Option.some.inj h2607
    exact finC [(2, .v (.lst false n2602 c2603))] [(2, .v (.lst false n2602 c2603))] (by simp [leE, lk_cons]) (.cons _ _ _ _ _ (.v _ _ (.refl _)) .nil) (by rfl) (by simp [leE, lk_cons]) (by decide) (by decide) rfl (by simp only [go_sem, ne_eq, not_false_eq_true, Nat.reduceBEq, Nat.reduceAdd, Nat.reduceSub, Nat.reduceMul, Nat.reduceLT, Nat.reduceLeDiff, Int.reduceLE, Int.reduceLT, Int.reduceToNat, Int.reduceBEq, Int.reduceBNe, Int.le_refl, Nat.le_refl, decide_true, decide_false, Int.cast_ofNat_Int, ↓reduceIte, resQ_tmp, resQ_cell, resQ_nil, retD_one, retD_two, retD_three, retD_none]; try simp [R.val, retD_one, retD_two, retD_three, retD_none])

def m25 (N : Nat) (p2611 : PV) : Option (PV) :=
  getL p2611 fun n2613 c2614 =>
  bnd' (m23 N (.lst false n2613 c2614)) fun p2615 =>
  getI .i64 p2615 fun x2618 =>
  brn (x2618 != 0) (
    some (.tup [(.lst false 0 []), (.int .i64 x2618)])) (
    bnd' (m66 N (.lst false n2613 c2614)) fun p2620 =>
    getL p2620 fun n2623 c2624 =>
    some (.tup [(.lst false n2623 c2624), (.int .i64 0)]))
theorem c25 (N : Nat) (p2611 : PV) (r : PV)  (h : m25 N p2611 = some r) : FnP Try.prog 25 [p2611] r := by
  unfold m25 at h
  refine Fn_of (sz := 12) tab_ok [0, 2, 3, 4, 8] [.tmp 2, .tmp 3] Try.func25 rfl rfl rfl (by simp) ?_
  simp only [initSt, initEnv, List.map_cons, List.map_nil, List.getD_cons_zero, List.getD_cons_succ, List.getD_nil]
  have hh := getL_some h; clear h; obtain ⟨n2613, c2614, h2612, h⟩ := hh
  have hh := bnd'_some h; clear h; obtain ⟨p2615, h2616, h⟩ := hh
  refine W_sound tab_ok mixed 8 _ _ _ ?_
  simp -implicitDefEqProofs only [go_sem, ne_eq, not_false_eq_true, Nat.reduceBEq, Nat.reduceAdd, Nat.reduceSub, Nat.reduceMul, Nat.reduceLT, Nat.reduceLeDiff, Int.reduceLE, Int.reduceLT, Int.reduceToNat, Int.reduceBEq, Int.reduceBNe, Int.le_refl, Nat.le_refl, decide_true, decide_false, Int.cast_ofNat_Int, ↓reduceIte, h2612]
  repeat with_reducible refine And.intro (by first | kernel_rfl | decide) ?_
  refine Wp_callP (c23 N _ _ h2616) (by kernel_rfl) rfl rfl rfl rfl (by decide) ?_
  have hh := getI_some h; clear h; obtain ⟨x2618, h2617, h⟩ := hh
  have hh := brn_some h; clear h; rcases hh with ⟨h2619, h⟩ | ⟨h2619, h⟩
  · refine W_sound tab_ok mixed 17 _ _ _ ?_
    simp -implicitDefEqProofs only [go_sem, ne_eq, not_false_eq_true, Nat.reduceBEq, Nat.reduceAdd, Nat.reduceSub, Nat.reduceMul, Nat.reduceLT, Nat.reduceLeDiff, Int.reduceLE, Int.reduceLT, Int.reduceToNat, Int.reduceBEq, Int.reduceBNe, Int.le_refl, Nat.le_refl, decide_true, decide_false, Int.cast_ofNat_Int, ↓reduceIte, h2612, h2617, h2619]
    repeat with_reducible refine And.intro (by first | kernel_rfl | decide) ?_
    obtain rfl := Option.some.inj h
    exact finC [(2, .v .nl), (3, .v (.int .i64 x2618))] [(2, .v (.lst false 0 [])), (3, .v (.int .i64 x2618))] (by simp [leE, lk_cons]) (.cons _ _ _ _ _ (.v _ _ (.nl false)) (.cons _ _ _ _ _ (.v _ _ (.refl _)) .nil)) (by rfl) (by simp [leE, lk_cons]) (by decide) (by decide) rfl (by simp only [go_sem, ne_eq, not_false_eq_true, Nat.reduceBEq, Nat.reduceAdd, Nat.reduceSub, Nat.reduceMul, Nat.reduceLT, Nat.reduceLeDiff, Int.reduceLE, Int.reduceLT, Int.reduceToNat, Int.reduceBEq, Int.reduceBNe, Int.le_refl, Nat.le_refl, decide_true, decide_false, Int.cast_ofNat_Int, ↓reduceIte, resQ_tmp, resQ_cell, resQ_nil, retD_one, retD_two, retD_three, retD_none]; try simp [R.val, retD_one, retD_two, retD_three, retD_none])
  · have hh := bnd'_some h; clear h; obtain ⟨p2620, h2621, h⟩ := hh
    refine W_sound tab_ok mixed 13 _ _ _ ?_
    simp -implicitDefEqProofs only [go_sem, ne_eq, not_false_eq_true, Nat.reduceBEq, Nat.reduceAdd, Nat.reduceSub, Nat.reduceMul, Nat.reduceLT, Nat.reduceLeDiff, Int.reduceLE, Int.reduceLT, Int.reduceToNat, Int.reduceBEq, Int.reduceBNe, Int.le_refl, Nat.le_refl, decide_true, decide_false, Int.cast_ofNat_Int, ↓reduceIte, h2612, h2617, h2619]
    repeat with_reducible refine And.intro (by first | kernel_rfl | decide) ?_
    refine Wp_callP (c66 N _ _ h2621) (by kernel_rfl) rfl rfl rfl rfl (by decide) ?_
    have hh := getL_some h; clear h; obtain ⟨n2623, c2624, h2622, h⟩ := hh
    refine W_sound tab_ok mixed 5 _ _ _ ?_
    simp -implicitDefEqProofs only [go_sem, ne_eq, not_false_eq_true, Nat.reduceBEq, Nat.reduceAdd, Nat.reduceSub, Nat.reduceMul, Nat.reduceLT, Nat.reduceLeDiff, Int.reduceLE, Int.reduceLT, Int.reduceToNat, Int.reduceBEq, Int.reduceBNe, Int.le_refl, Nat.le_refl, decide_true, decide_false, Int.cast_ofNat_Int, ↓reduceIte, h2612, h2617, h2619, h2622]
    repeat with_reducible refine And.intro (by first | kernel_rfl | decide) ?_
    obtain rfl := Option.some.inj h
    exact finC [(2, .v (.lst false n2623 c2624)), (3, .v (.int .i64 0))] [(2, .v (.lst false n2623 c2624)), (3, .v (.int .i64 0))] (by simp [leE, lk_cons]) (.cons _ _ _ _ _ (.v _ _ (.refl _)) (.cons _ _ _ _ _ (.v _ _ (.refl _)) .nil)) (by rfl) (by simp [leE, lk_cons]) (by decide) (by decide) rfl (by simp only [go_sem, ne_eq, not_false_eq_true, Nat.reduceBEq, Nat.reduceAdd, Nat.reduceSub, Nat.reduceMul, Nat.reduceLT, Nat.reduceLeDiff, Int.reduceLE, Int.reduceLT, Int.reduceToNat, Int.reduceBEq, Int.reduceBNe, Int.le_refl, Nat.le_refl, decide_true, decide_false, Int.cast_ofNat_Int, ↓reduceIte, resQ_tmp, resQ_cell, resQ_nil, retD_one, retD_two, retD_three, retD_none]; try simp [R.val, retD_one, retD_two, retD_three, retD_none])

def m27_L1 (N : Nat) (n2627 : Nat) (c2628 : List PV) (n2637 : Nat) (c2638 : List PV) (n2642 : Nat) (c2643 : List PV) (n2722 : Nat) (x2723 : Int) (c2724 : List PV) : Nat → Int → Int → Option (Int)
  | 0, _, _ => none
  | n + 1, x2726, x2727 =>
    brn (decide (x2727 < ((n2637 : Nat) : Int))) (
      grd (0 ≤ x2727 ∧ x2727 < ((n2637 : Nat) : Int)) <|
      grd (0 < List.length (List.drop (Int.toNat x2727) c2638)) <|
      getI .i64 (gp c2638 (Int.toNat x2727)) fun x2733 =>
      grd (0 ≤ x2733 ∧ x2733 < ((n2627 : Nat) : Int)) <|
      grd (2 ≤ List.length (List.drop ((Int.toNat x2733) * 2) c2628)) <|
      getA2 (.agg (List.take 2 (List.drop ((Int.toNat x2733) * 2) c2628))) fun p2738 p2739 =>
      grd (0 ≤ x2723 ∧ x2723 < ((n2642 : Nat) : Int)) <|
      grd (2 ≤ List.length (List.drop ((Int.toNat x2723) * 2) c2643)) <|
      getA2 (.agg (List.take 2 (List.drop ((Int.toNat x2723) * 2) c2643))) fun p2744 p2745 =>
      bnd' (m62 N (.agg [p2738, p2739]) (.agg [p2744, p2745])) fun p2746 =>
      getI .i64 p2746 fun x2749 =>
      bnd' (m61 N (.lst false n2627 c2628) (.agg [p2744, p2745])) fun p2750 =>
      getI .i64 p2750 fun x2753 =>
      brn (x2749 == x2753) (
        m27_L1 N n2627 c2628 n2637 c2638 n2642 c2643 n2722 x2723 c2724 n (IntKind.i64.wrap (x2726 + 1)) (IntKind.i64.wrap (x2727 + 1))) (
        m27_L1 N n2627 c2628 n2637 c2638 n2642 c2643 n2722 x2723 c2724 n x2726 (IntKind.i64.wrap (x2727 + 1)))) (
      some x2726)
def m27_L0 (N : Nat) (n2627 : Nat) (c2628 : List PV) (n2637 : Nat) (c2638 : List PV) (n2642 : Nat) (c2643 : List PV) : Nat → Nat → Int → List PV → Option ((Nat × List PV))
  | 0, _, _, _ => none
  | n + 1, n2722, x2723, c2724 =>
    brn (decide (x2723 < ((n2642 : Nat) : Int))) (
      bnd' (m27_L1 N n2627 c2628 n2637 c2638 n2642 c2643 n2722 x2723 c2724 N 0 0) fun x2755 =>
      brn (decide (x2755 > 1)) (
        grd (0 ≤ x2723 ∧ x2723 < ((n2642 : Nat) : Int)) <|
        grd (2 ≤ List.length (List.drop ((Int.toNat x2723) * 2) c2643)) <|
        getA2 (.agg (List.take 2 (List.drop ((Int.toNat x2723) * 2) c2643))) fun p2761 p2762 =>
        grd ((n2722 + 1) ≤ 1099511627776) <|
        grd (List.length c2724 = (n2722 * 2)) <|
        m27_L0 N n2627 c2628 n2637 c2638 n2642 c2643 n (n2722 + 1) (IntKind.i64.wrap (x2723 + 1)) (c2724 ++ [p2761, p2762])) (
        m27_L0 N n2627 c2628 n2637 c2638 n2642 c2643 n n2722 (IntKind.i64.wrap (x2723 + 1)) c2724)) (
      some (n2722, c2724))
def m27 (N : Nat) (p2625 : PV) : Option (PV) :=
  getL p2625 fun n2627 c2628 =>
  bnd' (m23 N (.lst false n2627 c2628)) fun p2629 =>
  getI .i64 p2629 fun x2632 =>
  brn (x2632 != 0) (
    some (.tup [(.lst false 0 []), (.int .i64 x2632)])) (
    bnd' (m66 N (.lst false n2627 c2628)) fun p2634 =>
    getL p2634 fun n2637 c2638 =>
    bnd' (m68 N (.lst false n2627 c2628)) fun p2639 =>
    getL p2639 fun n2642 c2643 =>
    bnd' (m27_L0 N n2627 c2628 n2637 c2638 n2642 c2643 N 0 0 []) fun o =>
    match o with
    | (n2765, c2766) =>
      grd (List.length c2766 = (n2765 * 2)) <|
      some (.tup [(.lst false n2765 c2766), (.int .i64 0)]))
theorem c27 (N : Nat) (p2625 : PV) (r : PV)  (h : m27 N p2625 = some r) : FnP Try.prog 27 [p2625] r := by
  unfold m27 at h
  refine Fn_of (sz := 63) tab_ok [0, 2, 3, 4, 5, 6, 7, 8, 9, 10, 14, 23, 29, 50, 54] [.tmp 2, .tmp 3] Try.func27 rfl rfl rfl (by simp) ?_
  simp only [initSt, initEnv, List.map_cons, List.map_nil, List.getD_cons_zero, List.getD_cons_succ, List.getD_nil]
  have hh := getL_some h; clear h; obtain ⟨n2627, c2628, h2626, h⟩ := hh
  have hh := bnd'_some h; clear h; obtain ⟨p2629, h2630, h⟩ := hh
  refine W_sound tab_ok mixed 8 _ _ _ ?_
  simp -implicitDefEqProofs only [go_sem, ne_eq, not_false_eq_true, Nat.reduceBEq, Nat.reduceAdd, Nat.reduceSub, Nat.reduceMul, Nat.reduceLT, Nat.reduceLeDiff, Int.reduceLE, Int.reduceLT, Int.reduceToNat, Int.reduceBEq, Int.reduceBNe, Int.le_refl, Nat.le_refl, decide_true, decide_false, Int.cast_ofNat_Int, ↓reduceIte, h2626]
  repeat with_reducible refine And.intro (by first | kernel_rfl | decide) ?_
  refine Wp_callP (c23 N _ _ h2630) (by kernel_rfl) rfl rfl rfl rfl (by decide) ?_
  have hh := getI_some h; clear h; obtain ⟨x2632, h2631, h⟩ := hh
  have hh := brn_some h; clear h; rcases hh with ⟨h2633, h⟩ | ⟨h2633, h⟩
  · refine W_sound tab_ok mixed 17 _ _ _ ?_
    simp -implicitDefEqProofs only [go_sem, ne_eq, not_false_eq_true, Nat.reduceBEq, Nat.reduceAdd, Nat.reduceSub, Nat.reduceMul, Nat.reduceLT, Nat.reduceLeDiff, Int.reduceLE, Int.reduceLT, Int.reduceToNat, Int.reduceBEq, Int.reduceBNe, Int.le_refl, Nat.le_refl, decide_true, decide_false, Int.cast_ofNat_Int, ↓reduceIte, h2626, h2631, h2633]
    repeat with_reducible refine And.intro (by first | kernel_rfl | decide) ?_
    obtain rfl := Option.some.inj h
    exact finC [(2, .v .nl), (3, .v (.int .i64 x2632))] [(2, .v (.lst false 0 [])), (3, .v (.int .i64 x2632))] (by simp [leE, lk_cons]) (.cons _ _ _ _ _ (.v _ _ (.nl false)) (.cons _ _ _ _ _ (.v _ _ (.refl _)) .nil)) (by rfl) (by simp [leE, lk_cons]) (by decide) (by decide) rfl (by simp only [go_sem, ne_eq, not_false_eq_true, Nat.reduceBEq, Nat.reduceAdd, Nat.reduceSub, Nat.reduceMul, Nat.reduceLT, Nat.reduceLeDiff, Int.reduceLE, Int.reduceLT, Int.reduceToNat, Int.reduceBEq, Int.reduceBNe, Int.le_refl, Nat.le_refl, decide_true, decide_false, Int.cast_ofNat_Int, ↓reduceIte, resQ_tmp, resQ_cell, resQ_nil, retD_one, retD_two, retD_three, retD_none]; try simp [R.val, retD_one, retD_two, retD_three, retD_none])
  · have hh := bnd'_some h; clear h; obtain ⟨p2634, h2635, h⟩ := hh
    refine W_sound tab_ok mixed 13 _ _ _ ?_
    simp -implicitDefEqProofs only [go_sem, ne_eq, not_false_eq_true, Nat.reduceBEq, Nat.reduceAdd, Nat.reduceSub, Nat.reduceMul, Nat.reduceLT, Nat.reduceLeDiff, Int.reduceLE, Int.reduceLT, Int.reduceToNat, Int.reduceBEq, Int.reduceBNe, Int.le_refl, Nat.le_refl, decide_true, decide_false, Int.cast_ofNat_Int, ↓reduceIte, h2626, h2631, h2633]
    repeat with_reducible refine And.intro (by first | kernel_rfl | decide) ?_
    refine Wp_callP (c66 N _ _ h2635) (by kernel_rfl) rfl rfl rfl rfl (by decide) ?_
    have hh := getL_some h; clear h; obtain ⟨n2637, c2638, h2636, h⟩ := hh
    have hh := bnd'_some h; clear h; obtain ⟨p2639, h2640, h⟩ := hh
    refine W_sound tab_ok mixed 5 _ _ _ ?_
    simp -implicitDefEqProofs only [go_sem, ne_eq, not_false_eq_true, Nat.reduceBEq, Nat.reduceAdd, Nat.reduceSub, Nat.reduceMul, Nat.reduceLT, Nat.reduceLeDiff, Int.reduceLE, Int.reduceLT, Int.reduceToNat, Int.reduceBEq, Int.reduceBNe, Int.le_refl, Nat.le_refl, decide_true, decide_false, Int.cast_ofNat_Int, ↓reduceIte, h2626, h2631, h2633, h2636]
    repeat with_reducible refine And.intro (by first | kernel_rfl | decide) ?_
    refine Wp_callP (c68 N _ _ h2640) (by kernel_rfl) rfl rfl rfl rfl (by decide) ?_
    have hh := getL_some h; clear h; obtain ⟨n2642, c2643, h2641, h⟩ := hh
    refine W_sound tab_ok mixed 11 _ _ _ ?_
    simp -implicitDefEqProofs only [go_sem, ne_eq, not_false_eq_true, Nat.reduceBEq, Nat.reduceAdd, Nat.reduceSub, Nat.reduceMul, Nat.reduceLT, Nat.reduceLeDiff, Int.reduceLE, Int.reduceLT, Int.reduceToNat, Int.reduceBEq, Int.reduceBNe, Int.le_refl, Nat.le_refl, decide_true, decide_false, Int.cast_ofNat_Int, ↓reduceIte, h2626, h2631, h2633, h2636, h2641]
    repeat with_reducible refine And.intro (by first | kernel_rfl | decide) ?_
    refine Wp_weaken (Wk_ownS 7 2 rfl (by decide) (by decide)) ?_
    simp -implicitDefEqProofs only [go_sem, ne_eq, not_false_eq_true, Nat.reduceBEq, Nat.reduceAdd, Nat.reduceSub, Nat.reduceMul, Nat.reduceLT, Nat.reduceLeDiff, Int.reduceLE, Int.reduceLT, Int.reduceToNat, Int.reduceBEq, Int.reduceBNe, Int.le_refl, Nat.le_refl, decide_true, decide_false, Int.cast_ofNat_Int, ↓reduceIte, h2626, h2631, h2633, h2636, h2641]
    have hh := bnd'_some h; clear h; obtain ⟨o2768, h2769, h2770⟩ := hh
    refine Wp_cut (fun s => ∃ n2765, ∃ c2766, (n2765, c2766) = o2768 ∧ s = ⟨[], [(0, .dead), (2, .dead), (3, .dead), (4, .dead), (5, .dead), (6, .dead), (7, .sl false 0 0 n2765 2), (8, .dead), (9, .dead), (10, .dead), (14, .dead), (23, .dead), (29, .dead), (50, .dead), (54, .dead)], [(0, .p c2766)], 1, []⟩) ?_ ?_
    · refine Wp_block ?_
      refine Wp_loopG (fun n s => ∃ n2722, ∃ x2723, ∃ c2724, m27_L0 N n2627 c2628 n2637 c2638 n2642 c2643 n n2722 x2723 c2724 = some o2768 ∧ s = ⟨[], [(0, .v (.lst false n2627 c2628)), (2, .dead), (3, .dead), (4, .dead), (5, .v (.lst false n2637 c2638)), (6, .v (.lst false n2642 c2643)), (7, .sl false 0 0 n2722 2), (8, .v (.int .i64 x2723)), (9, .dead), (10, .dead), (14, .dead), (23, .dead), (29, .dead), (50, .dead), (54, .dead)], [(0, .p c2724)], 1, []⟩) N _ ((Wk_le (.cons _ _ _ _ _ (.refl _) (.cons _ _ _ _ _ (.dead _) (.cons _ _ _ _ _ (.dead _) (.cons _ _ _ _ _ (.dead _) (.cons _ _ _ _ _ (.refl _) (.cons _ _ _ _ _ (.refl _) (.cons _ _ _ _ _ (.refl _) (.cons _ _ _ _ _ (.refl _) (.cons _ _ _ _ _ (.refl _) (.cons _ _ _ _ _ (.refl _) (.cons _ _ _ _ _ (.dead _) (.cons _ _ _ _ _ (.refl _) (.cons _ _ _ _ _ (.refl _) (.cons _ _ _ _ _ (.refl _) (.cons _ _ _ _ _ (.refl _) .nil))))))))))))))) (OLe.refl _)).trans (cmpS_ok rfl)) ⟨_, _, _, h2769, rfl⟩ ?_
      clear h2769
      rintro n _ ⟨n2722, x2723, c2724, h2769, rfl⟩
      cases n with
      | zero => cases h2769
      | succ n =>
        rw [m27_L0] at h2769
        have hh := brn_some h2769; clear h2769; rcases hh with ⟨h2725, h2769⟩ | ⟨h2725, h2769⟩
        · refine W_sound tab_ok mixed 21 _ _ _ ?_
          simp -implicitDefEqProofs only [go_sem, ne_eq, not_false_eq_true, Nat.reduceBEq, Nat.reduceAdd, Nat.reduceSub, Nat.reduceMul, Nat.reduceLT, Nat.reduceLeDiff, Int.reduceLE, Int.reduceLT, Int.reduceToNat, Int.reduceBEq, Int.reduceBNe, Int.le_refl, Nat.le_refl, decide_true, decide_false, Int.cast_ofNat_Int, ↓reduceIte, h2626, h2631, h2633, h2636, h2641, h2725]
          repeat with_reducible refine And.intro (by first | kernel_rfl | decide) ?_
          have hh := bnd'_some h2769; clear h2769; obtain ⟨o2771, h2772, h2773⟩ := hh
          refine Wp_cut (fun s => ∃ x2755, x2755 = o2771 ∧ s = ⟨[], [(0, .v (.lst false n2627 c2628)), (2, .dead), (3, .dead), (4, .dead), (5, .v (.lst false n2637 c2638)), (6, .v (.lst false n2642 c2643)), (7, .sl false 0 0 n2722 2), (8, .v (.int .i64 x2723)), (9, .v (.int .i64 x2755)), (10, .dead), (14, .dead), (23, .dead), (29, .dead), (50, .dead), (54, .dead)], [(0, .p c2724)], 1, []⟩) ?_ ?_
          · refine Wp_block ?_
            refine Wp_loopG (fun n s => ∃ x2726, ∃ x2727, m27_L1 N n2627 c2628 n2637 c2638 n2642 c2643 n2722 x2723 c2724 n x2726 x2727 = some o2771 ∧ s = ⟨[], [(0, .v (.lst false n2627 c2628)), (2, .dead), (3, .dead), (4, .dead), (5, .v (.lst false n2637 c2638)), (6, .v (.lst false n2642 c2643)), (7, .sl false 0 0 n2722 2), (8, .v (.int .i64 x2723)), (9, .v (.int .i64 x2726)), (10, .v (.int .i64 x2727)), (14, .dead), (23, .dead), (29, .dead), (50, .dead), (54, .dead)], [(0, .p c2724)], 1, []⟩) N _ ((Wk_le (.cons _ _ _ _ _ (.refl _) (.cons _ _ _ _ _ (.refl _) (.cons _ _ _ _ _ (.refl _) (.cons _ _ _ _ _ (.refl _) (.cons _ _ _ _ _ (.refl _) (.cons _ _ _ _ _ (.refl _) (.cons _ _ _ _ _ (.refl _) (.cons _ _ _ _ _ (.refl _) (.cons _ _ _ _ _ (.refl _) (.cons _ _ _ _ _ (.refl _) (.cons _ _ _ _ _ (.refl _) (.cons _ _ _ _ _ (.dead _) (.cons _ _ _ _ _ (.refl _) (.cons _ _ _ _ _ (.refl _) (.cons _ _ _ _ _ (.refl _) .nil))))))))))))))) (OLe.refl _)).trans (cmpS_ok rfl)) ⟨_, _, h2772, rfl⟩ ?_
            clear h2772
            rintro n _ ⟨x2726, x2727, h2772, rfl⟩
            cases n with
            | zero => cases h2772
            | succ n =>
              rw [m27_L1] at h2772
              have hh := brn_some h2772; clear h2772; rcases hh with ⟨h2728, h2772⟩ | ⟨h2728, h2772⟩
              · have hh := grd_some h2772; clear h2772; obtain ⟨⟨g2729, g2730⟩, h2772⟩ := hh
                have hh := grd_some h2772; clear h2772; obtain ⟨g2731, h2772⟩ := hh
                have hh := getI_some h2772; clear h2772; obtain ⟨x2733, h2732, h2772⟩ := hh
                have hh := grd_some h2772; clear h2772; obtain ⟨⟨g2734, g2735⟩, h2772⟩ := hh
                have hh := grd_some h2772; clear h2772; obtain ⟨g2736, h2772⟩ := hh
                have hh := getA2_some h2772; clear h2772; obtain ⟨p2738, p2739, h2737, h2772⟩ := hh
                injection h2737 with h2737
                have hh := grd_some h2772; clear h2772; obtain ⟨⟨g2740, g2741⟩, h2772⟩ := hh
                have hh := grd_some h2772; clear h2772; obtain ⟨g2742, h2772⟩ := hh
                have hh := getA2_some h2772; clear h2772; obtain ⟨p2744, p2745, h2743, h2772⟩ := hh
                injection h2743 with h2743
                have hh := bnd'_some h2772; clear h2772; obtain ⟨p2746, h2747, h2772⟩ := hh
                refine W_sound tab_ok mixed 25 _ _ _ ?_
                simp -implicitDefEqProofs only [go_sem, ne_eq, not_false_eq_true, Nat.reduceBEq, Nat.reduceAdd, Nat.reduceSub, Nat.reduceMul, Nat.reduceLT, Nat.reduceLeDiff, Int.reduceLE, Int.reduceLT, Int.reduceToNat, Int.reduceBEq, Int.reduceBNe, Int.le_refl, Nat.le_refl, decide_true, decide_false, Int.cast_ofNat_Int, ↓reduceIte, h2626, h2631, h2633, h2636, h2641, h2725, h2728, g2729, g2730, g2731, h2732, g2734, g2735, g2736, h2737, g2740, g2741, g2742, h2743]
                repeat with_reducible refine And.intro (by first | kernel_rfl | decide) ?_
                refine Wp_callP (c62 N _ _ _ h2747) (by kernel_rfl) rfl rfl rfl rfl (by decide) ?_
                have hh := getI_some h2772; clear h2772; obtain ⟨x2749, h2748, h2772⟩ := hh
                have hh := bnd'_some h2772; clear h2772; obtain ⟨p2750, h2751, h2772⟩ := hh
                refine W_sound tab_ok mixed 5 _ _ _ ?_
                simp -implicitDefEqProofs only [go_sem, ne_eq, not_false_eq_true, Nat.reduceBEq, Nat.reduceAdd, Nat.reduceSub, Nat.reduceMul, Nat.reduceLT, Nat.reduceLeDiff, Int.reduceLE, Int.reduceLT, Int.reduceToNat, Int.reduceBEq, Int.reduceBNe, Int.le_refl, Nat.le_refl, decide_true, decide_false, Int.cast_ofNat_Int, ↓reduceIte, h2626, h2631, h2633, h2636, h2641, h2725, h2728, g2729, g2730, g2731, h2732, g2734, g2735, g2736, h2737, g2740, g2741, g2742, h2743, h2748]
                repeat with_reducible refine And.intro (by first | kernel_rfl | decide) ?_
                refine Wp_callP (c61 N _ _ _ h2751) (by kernel_rfl) rfl rfl rfl rfl (by decide) ?_
                have hh := getI_some h2772; clear h2772; obtain ⟨x2753, h2752, h2772⟩ := hh
                have hh := brn_some h2772; clear h2772; rcases hh with ⟨h2754, h2772⟩ | ⟨h2754, h2772⟩
                · refine W_sound tab_ok mixed 14 _ _ _ ?_
                  simp -implicitDefEqProofs only [go_sem, ne_eq, not_false_eq_true, Nat.reduceBEq, Nat.reduceAdd, Nat.reduceSub, Nat.reduceMul, Nat.reduceLT, Nat.reduceLeDiff, Int.reduceLE, Int.reduceLT, Int.reduceToNat, Int.reduceBEq, Int.reduceBNe, Int.le_refl, Nat.le_refl, decide_true, decide_false, Int.cast_ofNat_Int, ↓reduceIte, h2626, h2631, h2633, h2636, h2641, h2725, h2728, g2729, g2730, g2731, h2732, g2734, g2735, g2736, h2737, g2740, g2741, g2742, h2743, h2748, h2752, h2754]
                  repeat with_reducible refine And.intro (by first | kernel_rfl | decide) ?_
                  exact cutQ _ ((Wk_le (.cons _ _ _ _ _ (.refl _) (.cons _ _ _ _ _ (.refl _) (.cons _ _ _ _ _ (.refl _) (.cons _ _ _ _ _ (.refl _) (.cons _ _ _ _ _ (.refl _) (.cons _ _ _ _ _ (.refl _) (.cons _ _ _ _ _ (.refl _) (.cons _ _ _ _ _ (.refl _) (.cons _ _ _ _ _ (.refl _) (.cons _ _ _ _ _ (.refl _) (.cons _ _ _ _ _ (.refl _) (.cons _ _ _ _ _ (.refl _) (.cons _ _ _ _ _ (.dead _) (.cons _ _ _ _ _ (.dead _) (.cons _ _ _ _ _ (.refl _) .nil))))))))))))))) (OLe.refl _)).trans (cmpS_ok rfl)) ⟨n, Nat.lt_succ_self n, _, _, h2772, rfl⟩
                · refine W_sound tab_ok mixed 10 _ _ _ ?_
                  simp -implicitDefEqProofs only [go_sem, ne_eq, not_false_eq_true, Nat.reduceBEq, Nat.reduceAdd, Nat.reduceSub, Nat.reduceMul, Nat.reduceLT, Nat.reduceLeDiff, Int.reduceLE, Int.reduceLT, Int.reduceToNat, Int.reduceBEq, Int.reduceBNe, Int.le_refl, Nat.le_refl, decide_true, decide_false, Int.cast_ofNat_Int, ↓reduceIte, h2626, h2631, h2633, h2636, h2641, h2725, h2728, g2729, g2730, g2731, h2732, g2734, g2735, g2736, h2737, g2740, g2741, g2742, h2743, h2748, h2752, h2754]
                  repeat with_reducible refine And.intro (by first | kernel_rfl | decide) ?_
                  exact cutQ _ ((Wk_le (.cons _ _ _ _ _ (.refl _) (.cons _ _ _ _ _ (.refl _) (.cons _ _ _ _ _ (.refl _) (.cons _ _ _ _ _ (.refl _) (.cons _ _ _ _ _ (.refl _) (.cons _ _ _ _ _ (.refl _) (.cons _ _ _ _ _ (.refl _) (.cons _ _ _ _ _ (.refl _) (.cons _ _ _ _ _ (.refl _) (.cons _ _ _ _ _ (.refl _) (.cons _ _ _ _ _ (.refl _) (.cons _ _ _ _ _ (.refl _) (.cons _ _ _ _ _ (.dead _) (.cons _ _ _ _ _ (.dead _) (.cons _ _ _ _ _ (.refl _) .nil))))))))))))))) (OLe.refl _)).trans (cmpS_ok rfl)) ⟨n, Nat.lt_succ_self n, _, _, h2772, rfl⟩
              · refine W_sound tab_ok mixed 10 _ _ _ ?_
                simp -implicitDefEqProofs only [go_sem, ne_eq, not_false_eq_true, Nat.reduceBEq, Nat.reduceAdd, Nat.reduceSub, Nat.reduceMul, Nat.reduceLT, Nat.reduceLeDiff, Int.reduceLE, Int.reduceLT, Int.reduceToNat, Int.reduceBEq, Int.reduceBNe, Int.le_refl, Nat.le_refl, decide_true, decide_false, Int.cast_ofNat_Int, ↓reduceIte, h2626, h2631, h2633, h2636, h2641, h2725, h2728]
                repeat with_reducible refine And.intro (by first | kernel_rfl | decide) ?_
                obtain rfl := Option.some.inj h2772
                exact cutQ _ ((Wk_le (.cons _ _ _ _ _ (.refl _) (.cons _ _ _ _ _ (.refl _) (.cons _ _ _ _ _ (.refl _) (.cons _ _ _ _ _ (.refl _) (.cons _ _ _ _ _ (.refl _) (.cons _ _ _ _ _ (.refl _) (.cons _ _ _ _ _ (.refl _) (.cons _ _ _ _ _ (.refl _) (.cons _ _ _ _ _ (.refl _) (.cons _ _ _ _ _ (.dead _) (.cons _ _ _ _ _ (.refl _) (.cons _ _ _ _ _ (.refl _) (.cons _ _ _ _ _ (.dead _) (.cons _ _ _ _ _ (.refl _) (.cons _ _ _ _ _ (.refl _) .nil))))))))))))))) (OLe.refl _)).trans (cmpS_ok rfl)) ⟨_, rfl, rfl⟩
          · rintro _ ⟨x2755, rfl, rfl⟩
            have hh := brn_some h2773; clear h2773; rcases hh with ⟨h2756, h2773⟩ | ⟨h2756, h2773⟩
            · have hh := grd_some h2773; clear h2773; obtain ⟨⟨g2757, g2758⟩, h2773⟩ := hh
              have hh := grd_some h2773; clear h2773; obtain ⟨g2759, h2773⟩ := hh
              have hh := getA2_some h2773; clear h2773; obtain ⟨p2761, p2762, h2760, h2773⟩ := hh
              injection h2760 with h2760
              have hh := grd_some h2773; clear h2773; obtain ⟨g2763, h2773⟩ := hh
              have hh := grd_some h2773; clear h2773; obtain ⟨g2764, h2773⟩ := hh
              refine W_sound tab_ok mixed 22 _ _ _ ?_
              simp -implicitDefEqProofs only [go_sem, ne_eq, not_false_eq_true, Nat.reduceBEq, Nat.reduceAdd, Nat.reduceSub, Nat.reduceMul, Nat.reduceLT, Nat.reduceLeDiff, Int.reduceLE, Int.reduceLT, Int.reduceToNat, Int.reduceBEq, Int.reduceBNe, Int.le_refl, Nat.le_refl, decide_true, decide_false, Int.cast_ofNat_Int, ↓reduceIte, h2626, h2631, h2633, h2636, h2641, h2725, h2756, g2757, g2758, g2759, h2760, g2763, g2764]
              repeat with_reducible refine And.intro (by first | kernel_rfl | decide) ?_
              exact cutQ _ ((Wk_le (.cons _ _ _ _ _ (.refl _) (.cons _ _ _ _ _ (.refl _) (.cons _ _ _ _ _ (.refl _) (.cons _ _ _ _ _ (.refl _) (.cons _ _ _ _ _ (.refl _) (.cons _ _ _ _ _ (.refl _) (.cons _ _ _ _ _ (.refl _) (.cons _ _ _ _ _ (.refl _) (.cons _ _ _ _ _ (.dead _) (.cons _ _ _ _ _ (.refl _) (.cons _ _ _ _ _ (.refl _) (.cons _ _ _ _ _ (.refl _) (.cons _ _ _ _ _ (.refl _) (.cons _ _ _ _ _ (.refl _) (.cons _ _ _ _ _ (.dead _) .nil))))))))))))))) (OLe.refl _)).trans (cmpS_ok rfl)) ⟨n, Nat.lt_succ_self n, _, _, _, h2773, rfl⟩
            · refine W_sound tab_ok mixed 13 _ _ _ ?_
              simp -implicitDefEqProofs only [go_sem, ne_eq, not_false_eq_true, Nat.reduceBEq, Nat.reduceAdd, Nat.reduceSub, Nat.reduceMul, Nat.reduceLT, Nat.reduceLeDiff, Int.reduceLE, Int.reduceLT, Int.reduceToNat, Int.reduceBEq, Int.reduceBNe, Int.le_refl, Nat.le_refl, decide_true, decide_false, Int.cast_ofNat_Int, ↓reduceIte, h2626, h2631, h2633, h2636, h2641, h2725, h2756]
              repeat with_reducible refine And.intro (by first | kernel_rfl | decide) ?_
              exact cutQ _ ((Wk_le (.cons _ _ _ _ _ (.refl _) (.cons _ _ _ _ _ (.refl _) (.cons _ _ _ _ _ (.refl _) (.cons _ _ _ _ _ (.refl _) (.cons _ _ _ _ _ (.refl _) (.cons _ _ _ _ _ (.refl _) (.cons _ _ _ _ _ (.refl _) (.cons _ _ _ _ _ (.refl _) (.cons _ _ _ _ _ (.dead _) (.cons _ _ _ _ _ (.refl _) (.cons _ _ _ _ _ (.refl _) (.cons _ _ _ _ _ (.refl _) (.cons _ _ _ _ _ (.refl _) (.cons _ _ _ _ _ (.refl _) (.cons _ _ _ _ _ (.dead _) .nil))))))))))))))) (OLe.refl _)).trans (cmpS_ok rfl)) ⟨n, Nat.lt_succ_self n, _, _, _, h2773, rfl⟩
        · refine W_sound tab_ok mixed 10 _ _ _ ?_
          simp -implicitDefEqProofs only [go_sem, ne_eq, not_false_eq_true, Nat.reduceBEq, Nat.reduceAdd, Nat.reduceSub, Nat.reduceMul, Nat.reduceLT, Nat.reduceLeDiff, Int.reduceLE, Int.reduceLT, Int.reduceToNat, Int.reduceBEq, Int.reduceBNe, Int.le_refl, Nat.le_refl, decide_true, decide_false, Int.cast_ofNat_Int, ↓reduceIte, h2626, h2631, h2633, h2636, h2641, h2725]
          repeat with_reducible refine And.intro (by first | kernel_rfl | decide) ?_
          obtain rfl := Option.some.inj h2769
          exact cutQ _ ((Wk_le (.cons _ _ _ _ _ (.dead _) (.cons _ _ _ _ _ (.refl _) (.cons _ _ _ _ _ (.refl _) (.cons _ _ _ _ _ (.refl _) (.cons _ _ _ _ _ (.dead _) (.cons _ _ _ _ _ (.dead _) (.cons _ _ _ _ _ (.refl _) (.cons _ _ _ _ _ (.dead _) (.cons _ _ _ _ _ (.refl _) (.cons _ _ _ _ _ (.refl _) (.cons _ _ _ _ _ (.refl _) (.cons _ _ _ _ _ (.dead _) (.cons _ _ _ _ _ (.refl _) (.cons _ _ _ _ _ (.refl _) (.cons _ _ _ _ _ (.refl _) .nil))))))))))))))) (OLe.refl _)).trans (cmpS_ok rfl)) ⟨_, _, rfl, rfl⟩
    · rintro _ ⟨n2765, c2766, rfl, rfl⟩
      (try dsimp only at h2770)
      refine W_sound tab_ok mixed 8 _ _ _ ?_
      simp -implicitDefEqProofs only [go_sem, ne_eq, not_false_eq_true, Nat.reduceBEq, Nat.reduceAdd, Nat.reduceSub, Nat.reduceMul, Nat.reduceLT, Nat.reduceLeDiff, Int.reduceLE, Int.reduceLT, Int.reduceToNat, Int.reduceBEq, Int.reduceBNe, Int.le_refl, Nat.le_refl, decide_true, decide_false, Int.cast_ofNat_Int, ↓reduceIte, h2626, h2631, h2633, h2636, h2641]
      repeat with_reducible refine And.intro (by first | kernel_rfl | decide) ?_
      have hh := grd_some h2770; clear h2770; obtain ⟨g2767, h2770⟩ := hh
      refine FinQ_wk (Wk_freeze 0 c2766 (by rfl) (by decide) (by decide)) ?_
      simp -implicitDefEqProofs only [go_sem, ne_eq, not_false_eq_true, Nat.reduceBEq, Nat.reduceAdd, Nat.reduceSub, Nat.reduceMul, Nat.reduceLT, Nat.reduceLeDiff, Int.reduceLE, Int.reduceLT, Int.reduceToNat, Int.reduceBEq, Int.reduceBNe, Int.le_refl, Nat.le_refl, decide_true, decide_false, Int.cast_ofNat_Int, ↓reduceIte, h2626, h2631, h2633, h2636, h2641, g2767]
      obtain rfl := Option.some.inj h2770
      exact finC [(2, .v (.lst false n2765 c2766)), (3, .v (.int .i64 0))] [(2, .v (.lst false n2765 c2766)), (3, .v (.int .i64 0))] (by simp [leE, lk_cons]) (.cons _ _ _ _ _ (.v _ _ (.refl _)) (.cons _ _ _ _ _ (.v _ _ (.refl _)) .nil)) (by rfl) (by simp [leE, lk_cons]) (by decide) (by decide) rfl (by simp only [go_sem, ne_eq, not_false_eq_true, Nat.reduceBEq, Nat.reduceAdd, Nat.reduceSub, Nat.reduceMul, Nat.reduceLT, Nat.reduceLeDiff, Int.reduceLE, Int.reduceLT, Int.reduceToNat, Int.reduceBEq, Int.reduceBNe, Int.le_refl, Nat.le_refl, decide_true, decide_false, Int.cast_ofNat_Int, ↓reduceIte, resQ_tmp, resQ_cell, resQ_nil, retD_one, retD_two, retD_three, retD_none]; try simp [R.val, retD_one, retD_two, retD_three, retD_none])

def m4_L0 (N : Nat) (n2814 : Nat) (c2815 : List PV) (n2824 : Nat) (c2825 : List PV) : Nat → Int → Option ((PV ⊕ Unit))
  | 0, _ => none
  | n + 1, x2836 =>
    brn (decide (x2836 < ((n2814 : Nat) : Int))) (
      grd (0 ≤ x2836 ∧ x2836 < ((n2814 : Nat) : Int)) <|
      grd (2 ≤ List.length (List.drop ((Int.toNat x2836) * 2) c2815)) <|
      getA2 (.agg (List.take 2 (List.drop ((Int.toNat x2836) * 2) c2815))) fun p2842 p2843 =>
      grd (x2836 < ((n2824 : Nat) : Int)) <|
      grd (2 ≤ List.length (List.drop ((Int.toNat x2836) * 2) c2825)) <|
      getA2 (.agg (List.take 2 (List.drop ((Int.toNat x2836) * 2) c2825))) fun p2847 p2848 =>
      getI .i64 p2843 fun x2850 =>
      getI .i64 p2848 fun x2852 =>
      getI .i64 p2842 fun x2854 =>
      getI .i64 p2847 fun x2856 =>
      brn (!((x2854 == x2856) && (x2850 == x2852))) (
        some (.inl (.bool false))) (
        m4_L0 N n2814 c2815 n2824 c2825 n (IntKind.i64.wrap (x2836 + 1)))) (
      some (.inr ()))
def m4 (N : Nat) (p2774 : PV) : Option (PV) :=
  getL p2774 fun n2776 c2777 =>
  brn (decide (((n2776 : Nat) : Int) > 40)) (
    bnd' (m15 N ) fun p2779 =>
    getB p2779 fun b2782 =>
    some (.bool b2782)) (
    bnd' (m16 N (.lst false n2776 c2777)) fun p2783 =>
    getL p2783 fun n2786 c2787 =>
    bnd' (m24 N (.lst false n2776 c2777)) fun p2788 =>
    getT2 p2788 fun p2791 p2792 =>
    getL p2791 fun n2794 c2795 =>
    getI .i64 p2792 fun x2797 =>
    bnd' (m25 N (.lst false n2786 c2787)) fun p2798 =>
    getT2 p2798 fun p2801 p2802 =>
    getL p2801 fun n2804 c2805 =>
    getI .i64 p2802 fun x2807 =>
    bnd' (m26 N (.lst false n2776 c2777)) fun p2808 =>
    getT2 p2808 fun p2811 p2812 =>
    getL p2811 fun n2814 c2815 =>
    getI .i64 p2812 fun x2817 =>
    bnd' (m27 N (.lst false n2786 c2787)) fun p2818 =>
    getT2 p2818 fun p2821 p2822 =>
    getL p2821 fun n2824 c2825 =>
    getI .i64 p2822 fun x2827 =>
    bnd' (m21 N (.lst false n2794 c2795) (.lst false n2804 c2805)) fun p2828 =>
    getB p2828 fun b2831 =>
    brn b2831 (
      brn (x2797 != x2807) (
        some (.bool false)) (
        brn (x2817 != x2827) (
          some (.bool false)) (
          brn (((n2814 : Nat) : Int) != ((n2824 : Nat) : Int)) (
            some (.bool false)) (
            bnd' (m4_L0 N n2814 c2815 n2824 c2825 N 0) fun o =>
            match o with
            | .inl p2858 =>
              some p2858
            | .inr () =>
              bnd' (m15 N ) fun p2859 =>
              getB p2859 fun b2862 =>
              some (.bool b2862))))) (
      some (.bool false)))
theorem c4 (N : Nat) (p2774 : PV) (r : PV)  (h : m4 N p2774 = some r) : FnP Try.prog 4 [p2774] r := by
  unfold m4 at h
  refine Fn_of (sz := 76) tab_ok [0, 2, 3, 4, 5, 6, 7, 8, 9, 10, 11, 12, 15, 59, 63, 74] [.tmp 2] Try.func4 rfl rfl rfl (by simp) ?_
  simp only [initSt, initEnv, List.map_cons, List.map_nil, List.getD_cons_zero, List.getD_cons_succ, List.getD_nil]
  have hh := getL_some h; clear h; obtain ⟨n2776, c2777, h2775, h⟩ := hh
  have hh := brn_some h; clear h; rcases hh with ⟨h2778, h⟩ | ⟨h2778, h⟩
  · have hh := bnd'_some h; clear h; obtain ⟨p2779, h2780, h⟩ := hh
    refine W_sound tab_ok mixed 14 _ _ _ ?_
    simp -implicitDefEqProofs only [go_sem, ne_eq, not_false_eq_true, Nat.reduceBEq, Nat.reduceAdd, Nat.reduceSub, Nat.reduceMul, Nat.reduceLT, Nat.reduceLeDiff, Int.reduceLE, Int.reduceLT, Int.reduceToNat, Int.reduceBEq, Int.reduceBNe, Int.le_refl, Nat.le_refl, decide_true, decide_false, Int.cast_ofNat_Int, ↓reduceIte, h2775, h2778]
    repeat with_reducible refine And.intro (by first | kernel_rfl | decide) ?_
    refine Wp_callP (c15 N  _ h2780) (by kernel_rfl) rfl rfl rfl rfl (by decide) ?_
    have hh := getB_some h; clear h; obtain ⟨b2782, h2781, h⟩ := hh
    refine W_sound tab_ok mixed 4 _ _ _ ?_
    simp -implicitDefEqProofs only [go_sem, ne_eq, not_false_eq_true, Nat.reduceBEq, Nat.reduceAdd, Nat.reduceSub, Nat.reduceMul, Nat.reduceLT, Nat.reduceLeDiff, Int.reduceLE, Int.reduceLT, Int.reduceToNat, Int.reduceBEq, Int.reduceBNe, Int.le_refl, Nat.le_refl, decide_true, decide_false, Int.cast_ofNat_Int, ↓reduceIte, h2775, h2778, h2781]
    repeat with_reducible refine And.intro (by first | kernel_rfl | decide) ?_
    obtain rfl := Option.some.inj h
    exact finC [(2, .v (.bool b2782))] [(2, .v (.bool b2782))] (by simp [leE, lk_cons]) (.cons _ _ _ _ _ (.v _ _ (.refl _)) .nil) (by rfl) (by simp [leE, lk_cons]) (by decide) (by decide) rfl (by simp only [go_sem, ne_eq, not_false_eq_true, Nat.reduceBEq, Nat.reduceAdd, Nat.reduceSub, Nat.reduceMul, Nat.reduceLT, Nat.reduceLeDiff, Int.reduceLE, Int.reduceLT, Int.reduceToNat, Int.reduceBEq, Int.reduceBNe, Int.le_refl, Nat.le_refl, decide_true, decide_false, Int.cast_ofNat_Int, ↓reduceIte, resQ_tmp, resQ_cell, resQ_nil, retD_one, retD_two, retD_three, retD_none]; try simp [R.val, retD_one, retD_two, retD_three, retD_none])
  · have hh := bnd'_some h; clear h; obtain ⟨p2783, h2784, h⟩ := hh
    refine W_sound tab_ok mixed 16 _ _ _ ?_
    simp -implicitDefEqProofs only [go_sem, ne_eq, not_false_eq_true, Nat.reduceBEq, Nat.reduceAdd, Nat.reduceSub, Nat.reduceMul, Nat.reduceLT, Nat.reduceLeDiff, Int.reduceLE, Int.reduceLT, Int.reduceToNat, Int.reduceBEq, Int.reduceBNe, Int.le_refl, Nat.le_refl, decide_true, decide_false, Int.cast_ofNat_Int, ↓reduceIte, h2775, h2778]
    repeat with_reducible refine And.intro (by first | kernel_rfl | decide) ?_
    refine Wp_callP (c16 N _ _ h2784) (by kernel_rfl) rfl rfl rfl rfl (by decide) ?_
    have hh := getL_some h; clear h; obtain ⟨n2786, c2787, h2785, h⟩ := hh
    have hh := bnd'_some h; clear h; obtain ⟨p2788, h2789, h⟩ := hh
    refine W_sound tab_ok mixed 5 _ _ _ ?_
    simp -implicitDefEqProofs only [go_sem, ne_eq, not_false_eq_true, Nat.reduceBEq, Nat.reduceAdd, Nat.reduceSub, Nat.reduceMul, Nat.reduceLT, Nat.reduceLeDiff, Int.reduceLE, Int.reduceLT, Int.reduceToNat, Int.reduceBEq, Int.reduceBNe, Int.le_refl, Nat.le_refl, decide_true, decide_false, Int.cast_ofNat_Int, ↓reduceIte, h2775, h2778, h2785]
    repeat with_reducible refine And.intro (by first | kernel_rfl | decide) ?_
    refine Wp_callP (c24 N _ _ h2789) (by kernel_rfl) rfl rfl rfl rfl (by decide) ?_
    have hh := getT2_some h; clear h; obtain ⟨p2791, p2792, h2790, h⟩ := hh
    have hh := getL_some h; clear h; obtain ⟨n2794, c2795, h2793, h⟩ := hh
    have hh := getI_some h; clear h; obtain ⟨x2797, h2796, h⟩ := hh
    have hh := bnd'_some h; clear h; obtain ⟨p2798, h2799, h⟩ := hh
    refine W_sound tab_ok mixed 9 _ _ _ ?_
    simp -implicitDefEqProofs only [go_sem, ne_eq, not_false_eq_true, Nat.reduceBEq, Nat.reduceAdd, Nat.reduceSub, Nat.reduceMul, Nat.reduceLT, Nat.reduceLeDiff, Int.reduceLE, Int.reduceLT, Int.reduceToNat, Int.reduceBEq, Int.reduceBNe, Int.le_refl, Nat.le_refl, decide_true, decide_false, Int.cast_ofNat_Int, ↓reduceIte, h2775, h2778, h2785, h2790, h2793, h2796]
    repeat with_reducible refine And.intro (by first | kernel_rfl | decide) ?_
    refine Wp_callP (c25 N _ _ h2799) (by kernel_rfl) rfl rfl rfl rfl (by decide) ?_
    have hh := getT2_some h; clear h; obtain ⟨p2801, p2802, h2800, h⟩ := hh
    have hh := getL_some h; clear h; obtain ⟨n2804, c2805, h2803, h⟩ := hh
    have hh := getI_some h; clear h; obtain ⟨x2807, h2806, h⟩ := hh
    have hh := bnd'_some h; clear h; obtain ⟨p2808, h2809, h⟩ := hh
    refine W_sound tab_ok mixed 9 _ _ _ ?_
    simp -implicitDefEqProofs only [go_sem, ne_eq, not_false_eq_true, Nat.reduceBEq, Nat.reduceAdd, Nat.reduceSub, Nat.reduceMul, Nat.reduceLT, Nat.reduceLeDiff, Int.reduceLE, Int.reduceLT, Int.reduceToNat, Int.reduceBEq, Int.reduceBNe, Int.le_refl, Nat.le_refl, decide_true, decide_false, Int.cast_ofNat_Int, ↓reduceIte, h2775, h2778, h2785, h2790, h2793, h2796, h2800, h2803, h2806]
    repeat with_reducible refine And.intro (by first | kernel_rfl | decide) ?_
    refine Wp_callP (c26 N _ _ h2809) (by kernel_rfl) rfl rfl rfl rfl (by decide) ?_
    have hh := getT2_some h; clear h; obtain ⟨p2811, p2812, h2810, h⟩ := hh
    have hh := getL_some h; clear h; obtain ⟨n2814, c2815, h2813, h⟩ := hh
    have hh := getI_some h; clear h; obtain ⟨x2817, h2816, h⟩ := hh
    have hh := bnd'_some h; clear h; obtain ⟨p2818, h2819, h⟩ := hh
    refine W_sound tab_ok mixed 9 _ _ _ ?_
    simp -implicitDefEqProofs only [go_sem, ne_eq, not_false_eq_true, Nat.reduceBEq, Nat.reduceAdd, Nat.reduceSub, Nat.reduceMul, Nat.reduceLT, Nat.reduceLeDiff, Int.reduceLE, Int.reduceLT, Int.reduceToNat, Int.reduceBEq, Int.reduceBNe, Int.le_refl, Nat.le_refl, decide_true, decide_false, Int.cast_ofNat_Int, ↓reduceIte, h2775, h2778, h2785, h2790, h2793, h2796, h2800, h2803, h2806, h2810, h2813, h2816]
    repeat with_reducible refine And.intro (by first | kernel_rfl | decide) ?_
    refine Wp_callP (c27 N _ _ h2819) (by kernel_rfl) rfl rfl rfl rfl (by decide) ?_
    have hh := getT2_some h; clear h; obtain ⟨p2821, p2822, h2820, h⟩ := hh
    have hh := getL_some h; clear h; obtain ⟨n2824, c2825, h2823, h⟩ := hh
    have hh := getI_some h; clear h; obtain ⟨x2827, h2826, h⟩ := hh
    have hh := bnd'_some h; clear h; obtain ⟨p2828, h2829, h⟩ := hh
    refine W_sound tab_ok mixed 11 _ _ _ ?_
    simp -implicitDefEqProofs only [go_sem, ne_eq, not_false_eq_true, Nat.reduceBEq, Nat.reduceAdd, Nat.reduceSub, Nat.reduceMul, Nat.reduceLT, Nat.reduceLeDiff, Int.reduceLE, Int.reduceLT, Int.reduceToNat, Int.reduceBEq, Int.reduceBNe, Int.le_refl, Nat.le_refl, decide_true, decide_false, Int.cast_ofNat_Int, ↓reduceIte, h2775, h2778, h2785, h2790, h2793, h2796, h2800, h2803, h2806, h2810, h2813, h2816, h2820, h2823, h2826]
    repeat with_reducible refine And.intro (by first | kernel_rfl | decide) ?_
    refine Wp_callP (c21 N _ _ _ h2829) (by kernel_rfl) rfl rfl rfl rfl (by decide) ?_
    have hh := getB_some h; clear h; obtain ⟨b2831, h2830, h⟩ := hh
    have hh := brn_some h; clear h; rcases hh with ⟨h2832, h⟩ | ⟨h2832, h⟩
    · have hh := brn_some h; clear h; rcases hh with ⟨h2833, h⟩ | ⟨h2833, h⟩
      · refine W_sound tab_ok mixed 26 _ _ _ ?_
        simp -implicitDefEqProofs only [go_sem, ne_eq, not_false_eq_true, Nat.reduceBEq, Nat.reduceAdd, Nat.reduceSub, Nat.reduceMul, Nat.reduceLT, Nat.reduceLeDiff, Int.reduceLE, Int.reduceLT, Int.reduceToNat, Int.reduceBEq, Int.reduceBNe, Int.le_refl, Nat.le_refl, decide_true, decide_false, Int.cast_ofNat_Int, ↓reduceIte, h2775, h2778, h2785, h2790, h2793, h2796, h2800, h2803, h2806, h2810, h2813, h2816, h2820, h2823, h2826, h2830, h2832, h2833]
        repeat with_reducible refine And.intro (by first | kernel_rfl | decide) ?_
        obtain rfl := Option.some.inj h
        exact finC [(2, .v (.bool false))] [(2, .v (.bool false))] (by simp [leE, lk_cons]) (.cons _ _ _ _ _ (.v _ _ (.refl _)) .nil) (by rfl) (by simp [leE, lk_cons]) (by decide) (by decide) rfl (by simp only [go_sem, ne_eq, not_false_eq_true, Nat.reduceBEq, Nat.reduceAdd, Nat.reduceSub, Nat.reduceMul, Nat.reduceLT, Nat.reduceLeDiff, Int.reduceLE, Int.reduceLT, Int.reduceToNat, Int.reduceBEq, Int.reduceBNe, Int.le_refl, Nat.le_refl, decide_true, decide_false, Int.cast_ofNat_Int, ↓reduceIte, resQ_tmp, resQ_cell, resQ_nil, retD_one, retD_two, retD_three, retD_none]; try simp [R.val, retD_one, retD_two, retD_three, retD_none])
      · have hh := brn_some h; clear h; rcases hh with ⟨h2834, h⟩ | ⟨h2834, h⟩
        · refine W_sound tab_ok mixed 26 _ _ _ ?_
          simp -implicitDefEqProofs only [go_sem, ne_eq, not_false_eq_true, Nat.reduceBEq, Nat.reduceAdd, Nat.reduceSub, Nat.reduceMul, Nat.reduceLT, Nat.reduceLeDiff, Int.reduceLE, Int.reduceLT, Int.reduceToNat, Int.reduceBEq, Int.reduceBNe, Int.le_refl, Nat.le_refl, decide_true, decide_false, Int.cast_ofNat_Int, ↓reduceIte, h2775, h2778, h2785, h2790, h2793, h2796, h2800, h2803, h2806, h2810, h2813, h2816, h2820, h2823, h2826, h2830, h2832, h2833, h2834]
          repeat with_reducible refine And.intro (by first | kernel_rfl | decide) ?_
          obtain rfl := Option.some.inj h
          exact finC [(2, .v (.bool false))] [(2, .v (.bool false))] (by simp [leE, lk_cons]) (.cons _ _ _ _ _ (.v _ _ (.refl _)) .nil) (by rfl) (by simp [leE, lk_cons]) (by decide) (by decide) rfl (by simp only [go_sem, ne_eq, not_false_eq_true, Nat.reduceBEq, Nat.reduceAdd, Nat.reduceSub, Nat.reduceMul, Nat.reduceLT, Nat.reduceLeDiff, Int.reduceLE, Int.reduceLT, Int.reduceToNat, Int.reduceBEq, Int.reduceBNe, Int.le_refl, Nat.le_refl, decide_true, decide_false, Int.cast_ofNat_Int, ↓reduceIte, resQ_tmp, resQ_cell, resQ_nil, retD_one, retD_two, retD_three, retD_none]; try simp [R.val, retD_one, retD_two, retD_three, retD_none])
        · have hh := brn_some h; clear h; rcases hh with ⟨h2835, h⟩ | ⟨h2835, h⟩
          · refine W_sound tab_ok mixed 26 _ _ _ ?_
            simp -implicitDefEqProofs only [go_sem, ne_eq, not_false_eq_true, Nat.reduceBEq, Nat.reduceAdd, Nat.reduceSub, Nat.reduceMul, Nat.reduceLT, Nat.reduceLeDiff, Int.reduceLE, Int.reduceLT, Int.reduceToNat, Int.reduceBEq, Int.reduceBNe, Int.le_refl, Nat.le_refl, decide_true, decide_false, Int.cast_ofNat_Int, ↓reduceIte, h2775, h2778, h2785, h2790, h2793, h2796, h2800, h2803, h2806, h2810, h2813, h2816, h2820, h2823, h2826, h2830, h2832, h2833, h2834, h2835]
            repeat with_reducible refine And.intro (by first | kernel_rfl | decide) ?_
            obtain rfl := Option.some.inj h
            exact finC [(2, .v (.bool false))] [(2, .v (.bool false))] (by simp [leE, lk_cons]) (.cons _ _ _ _ _ (.v _ _ (.refl _)) .nil) (by rfl) (by simp [leE, lk_cons]) (by decide) (by decide) rfl (by simp only [go_sem, ne_eq, not_false_eq_true, Nat.reduceBEq, Nat.reduceAdd, Nat.reduceSub, Nat.reduceMul, Nat.reduceLT, Nat.reduceLeDiff, Int.reduceLE, Int.reduceLT, Int.reduceToNat, Int.reduceBEq, Int.reduceBNe, Int.le_refl, Nat.le_refl, decide_true, decide_false, Int.cast_ofNat_Int, ↓reduceIte, resQ_tmp, resQ_cell, resQ_nil, retD_one, retD_two, retD_three, retD_none]; try simp [R.val, retD_one, retD_two, retD_three, retD_none])
          · refine W_sound tab_ok mixed 26 _ _ _ ?_
            simp -implicitDefEqProofs only [go_sem, ne_eq, not_false_eq_true, Nat.reduceBEq, Nat.reduceAdd, Nat.reduceSub, Nat.reduceMul, Nat.reduceLT, Nat.reduceLeDiff, Int.reduceLE, Int.reduceLT, Int.reduceToNat, Int.reduceBEq, Int.reduceBNe, Int.le_refl, Nat.le_refl, decide_true, decide_false, Int.cast_ofNat_Int, ↓reduceIte, h2775, h2778, h2785, h2790, h2793, h2796, h2800, h2803, h2806, h2810, h2813, h2816, h2820, h2823, h2826, h2830, h2832, h2833, h2834, h2835]
            repeat with_reducible refine And.intro (by first | kernel_rfl | decide) ?_
            have hh := bnd'_some h; clear h; obtain ⟨o2863, h2864, h2865⟩ := hh
            refine Wp_cut (fun s => (.inr ()) = o2863 ∧ s = ⟨[], [(0, .dead), (2, .dead), (3, .dead), (4, .dead), (5, .dead), (6, .dead), (7, .dead), (8, .dead), (9, .dead), (10, .dead), (11, .dead), (12, .dead), (15, .dead), (59, .dead), (63, .dead), (74, .dead)], [], 0, []⟩) ?_ ?_
            · refine Wp_block ?_
              refine Wp_loopG (fun n s => ∃ x2836, m4_L0 N n2814 c2815 n2824 c2825 n x2836 = some o2863 ∧ s = ⟨[], [(0, .dead), (2, .dead), (3, .dead), (4, .dead), (5, .dead), (6, .dead), (7, .dead), (8, .v (.lst false n2814 c2815)), (9, .dead), (10, .v (.lst false n2824 c2825)), (11, .dead), (12, .v (.int .i64 x2836)), (15, .dead), (59, .dead), (63, .dead), (74, .dead)], [], 0, []⟩) N _ ((Wk_le (.cons _ _ _ _ _ (.dead _) (.cons _ _ _ _ _ (.dead _) (.cons _ _ _ _ _ (.dead _) (.cons _ _ _ _ _ (.dead _) (.cons _ _ _ _ _ (.dead _) (.cons _ _ _ _ _ (.dead _) (.cons _ _ _ _ _ (.dead _) (.cons _ _ _ _ _ (.refl _) (.cons _ _ _ _ _ (.dead _) (.cons _ _ _ _ _ (.refl _) (.cons _ _ _ _ _ (.dead _) (.cons _ _ _ _ _ (.refl _) (.cons _ _ _ _ _ (.dead _) (.cons _ _ _ _ _ (.dead _) (.cons _ _ _ _ _ (.refl _) (.cons _ _ _ _ _ (.refl _) .nil)))))))))))))))) (OLe.refl _)).trans (cmpS_ok rfl)) ⟨_, h2864, rfl⟩ ?_
              clear h2864
              rintro n _ ⟨x2836, h2864, rfl⟩
              cases n with
              | zero => cases h2864
              | succ n =>
                rw [m4_L0] at h2864
                have hh := brn_some h2864; clear h2864; rcases hh with ⟨h2837, h2864⟩ | ⟨h2837, h2864⟩
                · have hh := grd_some h2864; clear h2864; obtain ⟨⟨g2838, g2839⟩, h2864⟩ := hh
                  have hh := grd_some h2864; clear h2864; obtain ⟨g2840, h2864⟩ := hh
                  have hh := getA2_some h2864; clear h2864; obtain ⟨p2842, p2843, h2841, h2864⟩ := hh
                  injection h2841 with h2841
                  have hh := grd_some h2864; clear h2864; obtain ⟨g2844, h2864⟩ := hh
                  have hh := grd_some h2864; clear h2864; obtain ⟨g2845, h2864⟩ := hh
                  have hh := getA2_some h2864; clear h2864; obtain ⟨p2847, p2848, h2846, h2864⟩ := hh
                  injection h2846 with h2846
                  have hh := getI_some h2864; clear h2864; obtain ⟨x2850, h2849, h2864⟩ := hh
                  have hh := getI_some h2864; clear h2864; obtain ⟨x2852, h2851, h2864⟩ := hh
                  have hh := getI_some h2864; clear h2864; obtain ⟨x2854, h2853, h2864⟩ := hh
                  have hh := getI_some h2864; clear h2864; obtain ⟨x2856, h2855, h2864⟩ := hh
                  have hh := brn_some h2864; clear h2864; rcases hh with ⟨h2857, h2864⟩ | ⟨h2857, h2864⟩
                  · refine W_sound tab_ok mixed 31 _ _ _ ?_
                    simp -implicitDefEqProofs only [go_sem, ne_eq, not_false_eq_true, Nat.reduceBEq, Nat.reduceAdd, Nat.reduceSub, Nat.reduceMul, Nat.reduceLT, Nat.reduceLeDiff, Int.reduceLE, Int.reduceLT, Int.reduceToNat, Int.reduceBEq, Int.reduceBNe, Int.le_refl, Nat.le_refl, decide_true, decide_false, Int.cast_ofNat_Int, ↓reduceIte, h2775, h2778, h2785, h2790, h2793, h2796, h2800, h2803, h2806, h2810, h2813, h2816, h2820, h2823, h2826, h2830, h2832, h2833, h2834, h2835, h2837, g2838, g2839, g2840, h2841, g2844, g2845, h2846, h2849, h2851, h2853, h2855, h2857]
                    repeat with_reducible refine And.intro (by first | kernel_rfl | decide) ?_
                    obtain rfl := Option.some.inj h2864
                    (try dsimp only at h2865)
                    obtain rfl := Option.some.inj h2865
                    exact finC [(2, .v (.bool false))] [(2, .v (.bool false))] (by simp [leE, lk_cons]) (.cons _ _ _ _ _ (.v _ _ (.refl _)) .nil) (by rfl) (by simp [leE, lk_cons]) (by decide) (by decide) rfl (by simp only [go_sem, ne_eq, not_false_eq_true, Nat.reduceBEq, Nat.reduceAdd, Nat.reduceSub, Nat.reduceMul, Nat.reduceLT, Nat.reduceLeDiff, Int.reduceLE, Int.reduceLT, Int.reduceToNat, Int.reduceBEq, Int.reduceBNe, Int.le_refl, Nat.le_refl, decide_true, decide_false, Int.cast_ofNat_Int, ↓reduceIte, resQ_tmp, resQ_cell, resQ_nil, retD_one, retD_two, retD_three, retD_none]; try simp [R.val, retD_one, retD_two, retD_three, retD_none])
                  · refine W_sound tab_ok mixed 32 _ _ _ ?_
                    simp -implicitDefEqProofs only [go_sem, ne_eq, not_false_eq_true, Nat.reduceBEq, Nat.reduceAdd, Nat.reduceSub, Nat.reduceMul, Nat.reduceLT, Nat.reduceLeDiff, Int.reduceLE, Int.reduceLT, Int.reduceToNat, Int.reduceBEq, Int.reduceBNe, Int.le_refl, Nat.le_refl, decide_true, decide_false, Int.cast_ofNat_Int, ↓reduceIte, h2775, h2778, h2785, h2790, h2793, h2796, h2800, h2803, h2806, h2810, h2813, h2816, h2820, h2823, h2826, h2830, h2832, h2833, h2834, h2835, h2837, g2838, g2839, g2840, h2841, g2844, g2845, h2846, h2849, h2851, h2853, h2855, h2857]
                    repeat with_reducible refine And.intro (by first | kernel_rfl | decide) ?_
                    exact cutQ _ ((Wk_le (.cons _ _ _ _ _ (.refl _) (.cons _ _ _ _ _ (.refl _) (.cons _ _ _ _ _ (.refl _) (.cons _ _ _ _ _ (.refl _) (.cons _ _ _ _ _ (.refl _) (.cons _ _ _ _ _ (.refl _) (.cons _ _ _ _ _ (.refl _) (.cons _ _ _ _ _ (.refl _) (.cons _ _ _ _ _ (.refl _) (.cons _ _ _ _ _ (.refl _) (.cons _ _ _ _ _ (.refl _) (.cons _ _ _ _ _ (.refl _) (.cons _ _ _ _ _ (.refl _) (.cons _ _ _ _ _ (.refl _) (.cons _ _ _ _ _ (.dead _) (.cons _ _ _ _ _ (.dead _) .nil)))))))))))))))) (OLe.refl _)).trans (cmpS_ok rfl)) ⟨n, Nat.lt_succ_self n, _, h2864, rfl⟩
                · refine W_sound tab_ok mixed 10 _ _ _ ?_
                  simp -implicitDefEqProofs only [go_sem, ne_eq, not_false_eq_true, Nat.reduceBEq, Nat.reduceAdd, Nat.reduceSub, Nat.reduceMul, Nat.reduceLT, Nat.reduceLeDiff, Int.reduceLE, Int.reduceLT, Int.reduceToNat, Int.reduceBEq, Int.reduceBNe, Int.le_refl, Nat.le_refl, decide_true, decide_false, Int.cast_ofNat_Int, ↓reduceIte, h2775, h2778, h2785, h2790, h2793, h2796, h2800, h2803, h2806, h2810, h2813, h2816, h2820, h2823, h2826, h2830, h2832, h2833, h2834, h2835, h2837]
                  repeat with_reducible refine And.intro (by first | kernel_rfl | decide) ?_
                  obtain rfl := Option.some.inj h2864
                  exact cutQ _ ((Wk_le (.cons _ _ _ _ _ (.refl _) (.cons _ _ _ _ _ (.refl _) (.cons _ _ _ _ _ (.refl _) (.cons _ _ _ _ _ (.refl _) (.cons _ _ _ _ _ (.refl _) (.cons _ _ _ _ _ (.refl _) (.cons _ _ _ _ _ (.refl _) (.cons _ _ _ _ _ (.dead _) (.cons _ _ _ _ _ (.refl _) (.cons _ _ _ _ _ (.dead _) (.cons _ _ _ _ _ (.refl _) (.cons _ _ _ _ _ (.dead _) (.cons _ _ _ _ _ (.refl _) (.cons _ _ _ _ _ (.refl _) (.cons _ _ _ _ _ (.dead _) (.cons _ _ _ _ _ (.refl _) .nil)))))))))))))))) (OLe.refl _)).trans (cmpS_ok rfl)) ⟨rfl, rfl⟩
            · rintro _ ⟨rfl, rfl⟩
              (try dsimp only at h2865)
              have hh := bnd'_some h2865; clear h2865; obtain ⟨p2859, h2860, h2865⟩ := hh
              refine W_sound tab_ok mixed 2 _ _ _ ?_
              simp -implicitDefEqProofs only [go_sem, ne_eq, not_false_eq_true, Nat.reduceBEq, Nat.reduceAdd, Nat.reduceSub, Nat.reduceMul, Nat.reduceLT, Nat.reduceLeDiff, Int.reduceLE, Int.reduceLT, Int.reduceToNat, Int.reduceBEq, Int.reduceBNe, Int.le_refl, Nat.le_refl, decide_true, decide_false, Int.cast_ofNat_Int, ↓reduceIte, h2775, h2778, h2785, h2790, h2793, h2796, h2800, h2803, h2806, h2810, h2813, h2816, h2820, h2823, h2826, h2830, h2832, h2833, h2834, h2835]
              repeat with_reducible refine And.intro (by first | kernel_rfl | decide) ?_
              refine Wp_callP (c15 N  _ h2860) (by kernel_rfl) rfl rfl rfl rfl (by decide) ?_
              have hh := getB_some h2865; clear h2865; obtain ⟨b2862, h2861, h2865⟩ := hh
              refine W_sound tab_ok mixed 4 _ _ _ ?_
              simp -implicitDefEqProofs only [go_sem, ne_eq, not_false_eq_true, Nat.reduceBEq, Nat.reduceAdd, Nat.reduceSub, Nat.reduceMul, Nat.reduceLT, Nat.reduceLeDiff, Int.reduceLE, Int.reduceLT, Int.reduceToNat, Int.reduceBEq, Int.reduceBNe, Int.le_refl, Nat.le_refl, decide_true, decide_false, Int.cast_ofNat_Int, ↓reduceIte, h2775, h2778, h2785, h2790, h2793, h2796, h2800, h2803, h2806, h2810, h2813, h2816, h2820, h2823, h2826, h2830, h2832, h2833, h2834, h2835, h2861]
              repeat with_reducible refine And.intro (by first | kernel_rfl | decide) ?_
              obtain rfl := Option.some.inj h2865
              exact finC [(2, .v (.bool b2862))] [(2, .v (.bool b2862))] (by simp [leE, lk_cons]) (.cons _ _ _ _ _ (.v _ _ (.refl _)) .nil) (by rfl) (by simp [leE, lk_cons]) (by decide) (by decide) rfl (by simp only [go_sem, ne_eq, not_false_eq_true, Nat.reduceBEq, Nat.reduceAdd, Nat.reduceSub, Nat.reduceMul, Nat.reduceLT, Nat.reduceLeDiff, Int.reduceLE, Int.reduceLT, Int.reduceToNat, Int.reduceBEq, Int.reduceBNe, Int.le_refl, Nat.le_refl, decide_true, decide_false, Int.cast_ofNat_Int, ↓reduceIte, resQ_tmp, resQ_cell, resQ_nil, retD_one, retD_two, retD_three, retD_none]; try simp [R.val, retD_one, retD_two, retD_three, retD_none])
    · refine W_sound tab_ok mixed 26 _ _ _ ?_
      simp -implicitDefEqProofs only [go_sem, ne_eq, not_false_eq_true, Nat.reduceBEq, Nat.reduceAdd, Nat.reduceSub, Nat.reduceMul, Nat.reduceLT, Nat.reduceLeDiff, Int.reduceLE, Int.reduceLT, Int.reduceToNat, Int.reduceBEq, Int.reduceBNe, Int.le_refl, Nat.le_refl, decide_true, decide_false, Int.cast_ofNat_Int, ↓reduceIte, h2775, h2778, h2785, h2790, h2793, h2796, h2800, h2803, h2806, h2810, h2813, h2816, h2820, h2823, h2826, h2830, h2832]
      repeat with_reducible refine And.intro (by first | kernel_rfl | decide) ?_
      obtain rfl := Option.some.inj h
      exact finC [(2, .v (.bool false))] [(2, .v (.bool false))] (by simp [leE, lk_cons]) (.cons _ _ _ _ _ (.v _ _ (.refl _)) .nil) (by rfl) (by simp [leE, lk_cons]) (by decide) (by decide) rfl (by simp only [go_sem, ne_eq, not_false_eq_true, Nat.reduceBEq, Nat.reduceAdd, Nat.reduceSub, Nat.reduceMul, Nat.reduceLT, Nat.reduceLeDiff, Int.reduceLE, Int.reduceLT, Int.reduceToNat, Int.reduceBEq, Int.reduceBNe, Int.le_refl, Nat.le_refl, decide_true, decide_false, Int.cast_ofNat_Int, ↓reduceIte, resQ_tmp, resQ_cell, resQ_nil, retD_one, retD_two, retD_three, retD_none]; try simp [R.val, retD_one, retD_two, retD_three, retD_none])
end Go.Proofs.Ytgnphlpoofaojaa
