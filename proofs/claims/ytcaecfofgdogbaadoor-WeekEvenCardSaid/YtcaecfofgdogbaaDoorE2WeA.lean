/-
  Models and laws.
-/
import Derived.Test.YtcaecfofgdogbaaDoorE2WeK
import Derived.Test.YtcaecfofgdogbaaDoorE2V41
set_option linter.unusedSimpArgs false
set_option linter.unusedVariables false
namespace Go.Proofs.YtcaecfofgdogbaaDoor
open Go.V
set_option maxRecDepth 100000
set_option maxHeartbeats 4000000
set_option linter.unusedSimpArgs false
set_option linter.unusedVariables false
attribute [local go_sem] tl1 tl2 tl3 tl4 tl5 tl9 tl17 tl21 tl22 tl23 tl24 tl25 tl27 tl28 tl30 tl31 tl32 tl33 tl35 tl36 tl37 tl38 tl39 tl40 tl42 tl43 tl44 tl45 tl46 tl47 tl48 tl49 tl50 tl51 tl52 tl53 tl54 tl55 tl56 tl57 tl58 tl59 tl61 tl62 tl63 tl64 tl65 tl66 tl67 tl68 tl69 tl70 tl71 tl72 tl73 tl74 tl75 tl76 tl77 tl78 tl79 tl80 tl81 tl82 tl83 tl84 tl85 tl87 tl89 tl90 tl91 tl92 tl93 tl94 tl96 tl97 tl98 tl99 tl100 tl101 tl102 tl103 tl104 tl105 tl106 tl107 tl108 tl109 tl115 tl119 ne_eq not_false_eq_true Int.le_refl Nat.le_refl Int.cast_ofNat_Int
def getA5 {α : Type} (p : PV) (k : PV → PV → PV → PV → PV → Option α) : Option α := match p with | .agg [a0, a1, a2, a3, a4] => k a0 a1 a2 a3 a4 | _ => none
theorem getA5_some {α : Type} {p : PV} {k : PV → PV → PV → PV → PV → Option α} {r : α} (h : getA5 p k = some r) : ∃ a0 a1 a2 a3 a4, p = .agg [a0, a1, a2, a3, a4] ∧ k a0 a1 a2 a3 a4 = some r := by
 unfold getA5 at h; split at h
 ·exact ⟨_, _, _, _, _, rfl, h⟩
 ·cases h
noncomputable def m42_L1 (N : Nat) (x2166 : Int) (n2203 : Nat) (x2204 : Int) (c2205 : List PV) : Nat → Nat → Int → List PV → Option ((Nat × List PV))
 | 0, _, _, _ => none
 | n + 1, n2213, x2214, c2215 =>
  brn (decide (x2214 < x2166)) (
   grd (x2166 ≠ 0) <|
   grd ((n2213 + 1) ≤ 1099511627776) <|
   grd (List.length c2215 = n2213) <|
   m42_L1 N x2166 n2203 x2204 c2205 n (n2213 + 1) (IntKind.i64.wrap (x2214 + 1)) (c2215 ++ [(.int .i64 (Int.tmod (IntKind.i64.wrap (x2204 + x2214)) x2166))])) (
   some (n2213, c2215))
noncomputable def m42_L0 (N : Nat) (x2166 : Int) : Nat → Nat → Int → List PV → Option ((Nat × List PV))
 | 0, _, _, _ => none
 | n + 1, n2203, x2204, c2205 =>
  brn (decide (x2204 < x2166)) (
   bnd' (m42_L1 N x2166 n2203 x2204 c2205 N 0 0 []) fun o =>
   match o with
   | (n2220, c2221) =>
    grd ((n2203 + 1) ≤ 1099511627776) <|
    grd (List.length c2205 = n2203) <|
    grd (List.length c2221 = n2220) <|
    m42_L0 N x2166 n (n2203 + 1) (IntKind.i64.wrap (x2204 + 1)) (c2205 ++ [(.lst false n2220 c2221)])) (
   some (n2203, c2205))
noncomputable def m42 (N : Nat) (x2166 : Int) : Option (PV) :=
 bnd' (m42_L0 N x2166 N 0 0 []) fun o =>
 match o with
 | (n2225, c2226) =>
  grd (List.length c2226 = n2225) <|
  some (.lst false n2225 c2226)
theorem c42 (N : Nat) (x2166 : Int) (r : PV)  (h : m42 N x2166 = some r) : FnP Tryd.prog 42 [(.int .i64 x2166)] r := by
 unfold m42 at h
 refine Fn_of (sz := 30) tab_ok [0, 2, 3, 4, 5, 6, 9, 14] [.tmp 2] Tryd.func42 rfl rfl rfl (by simp) ?_
 simp only [initSt, initEnv, List.map_cons, List.map_nil, List.getD_cons_zero, List.getD_cons_succ, List.getD_nil]
 refine W_sound tab_ok mixed 13 _ _ _ ?_
 simp -implicitDefEqProofs only [go_sem, Nat.reduceBEq, Nat.reduceLT]
 repeat with_reducible refine And.intro (by first | kernel_rfl | decide) ?_
 refine Wp_weaken (Wk_ownS 3 1 rfl (by decide) (by decide)) ?_
 simp -implicitDefEqProofs only [go_sem, Nat.reduceBEq]
 replace h := bnd'_some h; obtain ⟨o2228, h2229, h2230⟩ := h
 refine Wp_cut (fun s => ∃ n2225, ∃ c2226, (n2225, c2226) = o2228 ∧ s = ⟨[], [(0, .dead), (2, .dead), (3, .sl false 0 0 n2225 1), (4, .dead), (5, .dead), (6, .dead), (9, .dead), (14, .dead)], [(0, .p c2226)], 1, []⟩) ?_ ?_
 ·refine Wp_block ?_
  refine Wp_loopG (fun n s => ∃ n2203, ∃ x2204, ∃ c2205, m42_L0 N x2166 n n2203 x2204 c2205 = some o2228 ∧ s = ⟨[], [(0, .v (.int .i64 x2166)), (2, .dead), (3, .sl false 0 0 n2203 1), (4, .v (.int .i64 x2204)), (5, .dead), (6, .dead), (9, .dead), (14, .dead)], [(0, .p c2205)], 1, []⟩) N _ ?_ ⟨_, _, _, h2229, rfl⟩ ?_
  ·exact Wk_keep [0, 3, 4] (by kernel_rfl)
  clear h2229
  rintro n _ ⟨n2203, x2204, c2205, h2229, rfl⟩
  cases n with
  | zero => cases h2229
  | succ n =>
   rw [m42_L0] at h2229
   replace h2229 := brn_some h2229; rcases h2229 with ⟨h2206, h2229⟩ | ⟨h2206, h2229⟩
   ·refine W_sound tab_ok mixed 20 _ _ _ ?_
    simp -implicitDefEqProofs only [go_sem, Nat.reduceBEq, Nat.reduceLT, ↓reduceIte, h2206]
    repeat with_reducible refine And.intro (by first | kernel_rfl | decide) ?_
    refine Wp_weaken (Wk_ownS 5 1 rfl (by decide) (by decide)) ?_
    simp -implicitDefEqProofs only [go_sem, Nat.reduceBEq, Nat.reduceAdd]
    replace h2229 := bnd'_some h2229; obtain ⟨o2231, h2232, h2233⟩ := h2229
    refine Wp_cut (fun s => ∃ n2220, ∃ c2221, (n2220, c2221) = o2231 ∧ s = ⟨[], [(0, .v (.int .i64 x2166)), (2, .dead), (3, .sl false 0 0 n2203 1), (4, .v (.int .i64 x2204)), (5, .sl false 1 0 n2220 1), (6, .dead), (9, .dead), (14, .dead)], [(0, .p c2205), (1, .p c2221)], 2, []⟩) ?_ ?_
    ·refine Wp_block ?_
     refine Wp_loopG (fun n s => ∃ n2213, ∃ x2214, ∃ c2215, m42_L1 N x2166 n2203 x2204 c2205 n n2213 x2214 c2215 = some o2231 ∧ s = ⟨[], [(0, .v (.int .i64 x2166)), (2, .dead), (3, .sl false 0 0 n2203 1), (4, .v (.int .i64 x2204)), (5, .sl false 1 0 n2213 1), (6, .v (.int .i64 x2214)), (9, .dead), (14, .dead)], [(0, .p c2205), (1, .p c2215)], 2, []⟩) N _ ?_ ⟨_, _, _, h2232, rfl⟩ ?_
     ·exact Wk_keep [0, 3, 4, 5, 6] (by kernel_rfl)
     clear h2232
     rintro n _ ⟨n2213, x2214, c2215, h2232, rfl⟩
     cases n with
     | zero => cases h2232
     | succ n =>
      rw [m42_L1] at h2232
      replace h2232 := brn_some h2232; rcases h2232 with ⟨h2216, h2232⟩ | ⟨h2216, h2232⟩
      ·replace h2232 := grd_some h2232; obtain ⟨g2217, h2232⟩ := h2232
       replace h2232 := grd_some h2232; obtain ⟨g2218, h2232⟩ := h2232
       replace h2232 := grd_some h2232; obtain ⟨g2219, h2232⟩ := h2232
       refine W_sound tab_ok mixed 28 _ _ _ ?_
       simp -implicitDefEqProofs only [go_sem, Nat.reduceBEq, Nat.reduceAdd, Nat.reduceLT, Nat.reduceLeDiff, Int.reduceLE, Int.reduceToNat, ↓reduceIte, h2216, g2217, g2218, g2219]
       repeat with_reducible refine And.intro (by first | kernel_rfl | decide) ?_
       refine cutQ _ ?_ ⟨n, Nat.lt_succ_self n, _, _, _, h2232, rfl⟩
       exact Wk_keep [0, 3, 4, 5, 6] (by kernel_rfl)
      ·refine W_sound tab_ok mixed 9 _ _ _ ?_
       simp -implicitDefEqProofs only [go_sem, Nat.reduceBEq, Nat.reduceLT, ↓reduceIte, h2216]
       repeat with_reducible refine And.intro (by first | kernel_rfl | decide) ?_
       obtain rfl := Option.some.inj h2232
       refine cutQ _ ?_ ⟨_, _, rfl, rfl⟩
       exact Wk_keep [0, 3, 4, 5] (by kernel_rfl)
    ·rintro _ ⟨n2220, c2221, rfl, rfl⟩
     (try dsimp only at h2233)
     replace h2233 := grd_some h2233; obtain ⟨g2222, h2233⟩ := h2233
     replace h2233 := grd_some h2233; obtain ⟨g2223, h2233⟩ := h2233
     refine W_sound tab_ok mixed 7 _ _ _ ?_
     simp -implicitDefEqProofs only [go_sem, Nat.reduceBEq, Nat.reduceAdd, Nat.reduceLT, Nat.reduceLeDiff, g2222, g2223]
     repeat with_reducible refine And.intro (by first | kernel_rfl | decide) ?_
     replace h2233 := grd_some h2233; obtain ⟨g2224, h2233⟩ := h2233
     refine Wp_wkK (Wk_freeze 1 c2221 (by rfl) (by decide) (by decide)) rfl ?_
     simp -implicitDefEqProofs only [go_sem, Nat.reduceBEq, g2224]
     refine W_sound tab_ok mixed 6 _ _ _ ?_
     simp -implicitDefEqProofs only [go_sem, Nat.reduceBEq, Nat.reduceLT, Int.reduceLE, Int.reduceToNat, ↓reduceIte]
     repeat with_reducible refine And.intro (by first | kernel_rfl | decide) ?_
     refine cutQ _ ?_ ⟨n, Nat.lt_succ_self n, _, _, _, h2233, rfl⟩
     exact Wk_keep [0, 3, 4] (by kernel_rfl)
   ·refine W_sound tab_ok mixed 9 _ _ _ ?_
    simp -implicitDefEqProofs only [go_sem, Nat.reduceBEq, Nat.reduceLT, ↓reduceIte, h2206]
    repeat with_reducible refine And.intro (by first | kernel_rfl | decide) ?_
    obtain rfl := Option.some.inj h2229
    refine cutQ _ ?_ ⟨_, _, rfl, rfl⟩
    exact Wk_keep [3] (by kernel_rfl)
 ·rintro _ ⟨n2225, c2226, rfl, rfl⟩
  (try dsimp only at h2230)
  refine W_sound tab_ok mixed 7 _ _ _ ?_
  simp -implicitDefEqProofs only [go_sem, Nat.reduceBEq, Nat.reduceLT]
  repeat with_reducible refine And.intro (by first | kernel_rfl | decide) ?_
  replace h2230 := grd_some h2230; obtain ⟨g2227, h2230⟩ := h2230
  refine FinQ_wk (Wk_freeze 0 c2226 (by rfl) (by decide) (by decide)) ?_
  simp -implicitDefEqProofs only [go_sem, Nat.reduceBEq, g2227]
  obtain rfl := Option.some.inj h2230
  exact finC [(2, .v (.lst false n2225 c2226))] [(2, .v (.lst false n2225 c2226))] (by simp [leE, lk_cons]) (.cons _ _ _ _ _ (.v _ _ (.refl _)) .nil) (by rfl) (by simp [leE, lk_cons]) (by decide) (by decide) rfl (by simp only [go_sem, Nat.reduceBEq, resQ_tmp, resQ_nil, retD_one]; try simp [R.val, retD_one, retD_two, retD_three, retD_none])
noncomputable def m22_2_L0 (N : Nat) (c2251 : List PV) (n2253 : Nat) (c2254 : List PV) : Nat → Int → Option ((PV ⊕ Unit))
 | 0, _ => none
 | n + 1, x2256 =>
  brn (decide (x2256 < 1)) (
   grd (0 ≤ x2256 ∧ x2256 < 1) <|
   grd ((Int.toNat x2256) < List.length c2251) <|
   getI .i64 (gp c2251 (Int.toNat x2256)) fun x2262 =>
   grd (x2256 < ((n2253 : Nat) : Int)) <|
   grd (0 < List.length (List.drop (Int.toNat x2256) c2254)) <|
   getI .i64 (gp c2254 (Int.toNat x2256)) fun x2266 =>
   brn (x2262 != x2266) (
    some (.inl (.bool false))) (
    m22_2_L0 N c2251 n2253 c2254 n (IntKind.i64.wrap (x2256 + 1)))) (
   some (.inr ()))
noncomputable def m22_2 (N : Nat) (p2250 : PV) (c2251 : List PV) : Option (PV) :=
 getL p2250 fun n2253 c2254 =>
 brn (1 != ((n2253 : Nat) : Int)) (
  some (.bool false)) (
  bnd' (m22_2_L0 N c2251 n2253 c2254 N 0) fun o =>
  match o with
  | .inl p2268 =>
   some p2268
  | .inr () =>
   some (.bool true))
theorem c22_2 (N : Nat) (p2250 : PV) (c2251 : List PV) (r : PV)  (h : m22_2 N p2250 c2251 = some r) : V.Fn Tryd.prog 22 1 [.sl false 0 0 1 1, .v p2250] [(0, .p c2251)] (fun d ob' => d = .v r ∧ ob' = [(0, .p c2251)]) := by
 unfold m22_2 at h
 refine Fn_of (sz := 26) tab_ok [0, 1, 4, 5, 10, 14, 25] [.tmp 4] Tryd.func22 rfl rfl rfl (by simp) ?_
 simp only [initSt, initEnv, List.getD_cons_zero, List.getD_cons_succ, List.getD_nil]
 replace h := getL_some h; obtain ⟨n2253, c2254, h2252, h⟩ := h
 replace h := brn_some h; rcases h with ⟨h2255, h⟩ | ⟨h2255, h⟩
 ·refine W_sound tab_ok mixed 20 _ _ _ ?_
  simp -implicitDefEqProofs only [go_sem, Nat.reduceBEq, Nat.reduceLT, ↓reduceIte, h2252, h2255]
  repeat with_reducible refine And.intro (by first | kernel_rfl | decide) ?_
  obtain rfl := Option.some.inj h
  exact finD (st' := ⟨[], [(0, .dead), (1, .dead), (4, .v (.bool false)), (5, .dead), (10, .dead), (14, .dead), (25, .dead)], [(0, .p c2251)], 1, []⟩) (keepE_le [4] _) (OLe.refl _) (by kernel_rfl) (by simp only [go_sem, Nat.reduceBEq, resQ_tmp, resQ_nil, retD_one]; try simp [R.val, retD_one, retD_two, retD_three, retD_none])
 ·refine W_sound tab_ok mixed 20 _ _ _ ?_
  simp -implicitDefEqProofs only [go_sem, Nat.reduceBEq, Nat.reduceLT, ↓reduceIte, h2252, h2255]
  repeat with_reducible refine And.intro (by first | kernel_rfl | decide) ?_
  replace h := bnd'_some h; obtain ⟨o2269, h2270, h2271⟩ := h
  refine Wp_cut (fun s => (.inr ()) = o2269 ∧ s = ⟨[], [(0, .dead), (1, .dead), (4, .dead), (5, .dead), (10, .dead), (14, .dead), (25, .dead)], [(0, .p c2251)], 1, []⟩) ?_ ?_
  ·refine Wp_block ?_
   refine Wp_loopG (fun n s => ∃ x2256, m22_2_L0 N c2251 n2253 c2254 n x2256 = some o2269 ∧ s = ⟨[], [(0, .sl false 0 0 1 1), (1, .v (.lst false n2253 c2254)), (4, .dead), (5, .v (.int .i64 x2256)), (10, .dead), (14, .dead), (25, .dead)], [(0, .p c2251)], 1, []⟩) N _ ?_ ⟨_, h2270, rfl⟩ ?_
   ·exact Wk_keep [0, 1, 5] (by kernel_rfl)
   clear h2270
   rintro n _ ⟨x2256, h2270, rfl⟩
   cases n with
   | zero => cases h2270
   | succ n =>
    rw [m22_2_L0] at h2270
    replace h2270 := brn_some h2270; rcases h2270 with ⟨h2257, h2270⟩ | ⟨h2257, h2270⟩
    ·replace h2270 := grd_some h2270; obtain ⟨⟨g2258, g2259⟩, h2270⟩ := h2270
     replace h2270 := grd_some h2270; obtain ⟨g2260, h2270⟩ := h2270
     replace h2270 := getI_some h2270; obtain ⟨x2262, h2261, h2270⟩ := h2270
     replace h2270 := grd_some h2270; obtain ⟨g2263, h2270⟩ := h2270
     replace h2270 := grd_some h2270; obtain ⟨g2264, h2270⟩ := h2270
     replace h2270 := getI_some h2270; obtain ⟨x2266, h2265, h2270⟩ := h2270
     replace h2270 := brn_some h2270; rcases h2270 with ⟨h2267, h2270⟩ | ⟨h2267, h2270⟩
     ·refine W_sound tab_ok mixed 31 _ _ _ ?_
      simp -implicitDefEqProofs only [go_sem, Nat.reduceBEq, Nat.reduceLT, Int.reduceLE, Int.reduceToNat, ↓reduceIte, g2258, g2259, g2260, h2261, g2263, g2264, h2265, h2267]
      repeat with_reducible refine And.intro (by first | kernel_rfl | decide) ?_
      obtain rfl := Option.some.inj h2270
      (try dsimp only at h2271)
      obtain rfl := Option.some.inj h2271
      exact finD (st' := ⟨[], [(0, .dead), (1, .dead), (4, .v (.bool false)), (5, .dead), (10, .dead), (14, .dead), (25, .dead)], [(0, .p c2251)], 1, []⟩) (keepE_le [4] _) (OLe.refl _) (by kernel_rfl) (by simp only [go_sem, Nat.reduceBEq, resQ_tmp, resQ_nil, retD_one]; try simp [R.val, retD_one, retD_two, retD_three, retD_none])
     ·refine W_sound tab_ok mixed 32 _ _ _ ?_
      simp -implicitDefEqProofs only [go_sem, Nat.reduceBEq, Nat.reduceLT, Int.reduceLE, Int.reduceToNat, ↓reduceIte, g2258, g2259, g2260, h2261, g2263, g2264, h2265, h2267]
      repeat with_reducible refine And.intro (by first | kernel_rfl | decide) ?_
      (try rw [h2261] at h2270)
      (try rw [h2265] at h2270)
      refine cutQ _ ?_ ⟨n, Nat.lt_succ_self n, _, h2270, rfl⟩
      exact Wk_keep [0, 1, 5] (by kernel_rfl)
    ·refine W_sound tab_ok mixed 10 _ _ _ ?_
     simp -implicitDefEqProofs only [go_sem, Nat.reduceBEq, Nat.reduceLT, Int.reduceLE, Int.reduceToNat, ↓reduceIte, h2257]
     repeat with_reducible refine And.intro (by first | kernel_rfl | decide) ?_
     obtain rfl := Option.some.inj h2270
     refine cutQ _ ?_ ⟨rfl, rfl⟩
     exact Wk_keep [] (by kernel_rfl)
  ·rintro _ ⟨rfl, rfl⟩
   (try dsimp only at h2271)
   refine W_sound tab_ok mixed 6 _ _ _ ?_
   simp -implicitDefEqProofs only [go_sem, Nat.reduceBEq, Nat.reduceLT]
   repeat with_reducible refine And.intro (by first | kernel_rfl | decide) ?_
   obtain rfl := Option.some.inj h2271
   exact finD (st' := ⟨[], [(0, .dead), (1, .dead), (4, .v (.bool true)), (5, .dead), (10, .dead), (14, .dead), (25, .dead)], [(0, .p c2251)], 1, []⟩) (keepE_le [4] _) (OLe.refl _) (by kernel_rfl) (by simp only [go_sem, Nat.reduceBEq, resQ_tmp, resQ_nil, retD_one]; try simp [R.val, retD_one, retD_two, retD_three, retD_none])
noncomputable def m21_2 (N : Nat) (p2239 : PV) (c2240 : List PV) : Option (PV) :=
 getL p2239 fun n2242 c2243 =>
 brn (1 != ((n2242 : Nat) : Int)) (
  some (.bool false)) (
  grd (0 < ((n2242 : Nat) : Int)) <|
  grd (0 < List.length c2243) <|
  getL (gp c2243 0) fun n2248 c2249 =>
  bnd' (m22_2 N (.lst false n2248 c2249) c2240) fun p2272 =>
  getB p2272 fun b2275 =>
  brn b2275 (
   some (.bool true)) (
   some (.bool false)))
theorem c21_2 (N : Nat) (p2239 : PV) (c2240 : List PV) (r : PV)  (h : m21_2 N p2239 c2240 = some r) : V.Fn Tryd.prog 21 2 [.sl false 0 0 1 1, .v p2239] [(0, .r [.sl false 1 0 1 1]), (1, .p c2240)] (fun d ob' => d = .v r ∧ ob' = [(0, .r [.sl false 1 0 1 1]), (1, .p c2240)]) := by
 unfold m21_2 at h
 refine Fn_of (sz := 27) tab_ok [0, 1, 4, 5, 10, 14, 26] [.tmp 4] Tryd.func21 rfl rfl rfl (by simp) ?_
 simp only [initSt, initEnv, List.getD_cons_zero, List.getD_cons_succ, List.getD_nil]
 replace h := getL_some h; obtain ⟨n2242, c2243, h2241, h⟩ := h
 replace h := brn_some h; rcases h with ⟨h2244, h⟩ | ⟨h2244, h⟩
 ·refine W_sound tab_ok mixed 20 _ _ _ ?_
  simp -implicitDefEqProofs only [go_sem, Nat.reduceBEq, Nat.reduceLT, ↓reduceIte, h2241, h2244]
  repeat with_reducible refine And.intro (by first | kernel_rfl | decide) ?_
  obtain rfl := Option.some.inj h
  exact finD (st' := ⟨[], [(0, .dead), (1, .dead), (4, .v (.bool false)), (5, .dead), (10, .dead), (14, .dead), (26, .dead)], [(0, .r [.sl false 1 0 1 1]), (1, .p c2240)], 2, []⟩) (keepE_le [4] _) (OLe.refl _) (by kernel_rfl) (by simp only [go_sem, Nat.reduceBEq, resQ_tmp, resQ_nil, retD_one]; try simp [R.val, retD_one, retD_two, retD_three, retD_none])
 ·refine W_sound tab_ok mixed 20 _ _ _ ?_
  simp -implicitDefEqProofs only [go_sem, Nat.reduceBEq, Nat.reduceLT, ↓reduceIte, h2241, h2244]
  repeat with_reducible refine And.intro (by first | kernel_rfl | decide) ?_
  refine Wp_block ?_
  refine Wp_loopL (WpL_step ?_)
  replace h := grd_some h; obtain ⟨g2245, h⟩ := h
  replace h := grd_some h; obtain ⟨g2246, h⟩ := h
  replace h := getL_some h; obtain ⟨n2248, c2249, h2247, h⟩ := h
  replace h := bnd'_some h; obtain ⟨p2272, h2273, h⟩ := h
  (try dsimp only at h)
  refine W_sound tab_ok mixed 22 _ _ _ ?_
  simp -implicitDefEqProofs only [go_sem, Nat.reduceBEq, Nat.reduceLT, Int.reduceLE, Int.reduceLT, Int.reduceToNat, ↓reduceIte, g2245, g2246, h2247]
  repeat with_reducible refine And.intro (by first | kernel_rfl | decide) ?_
  refine Wp_callD [1] (c22_2 N _ _ _ h2273) rfl rfl rfl (by first | rfl | (simp only [go_sem, Nat.reduceBEq, Nat.reduceAdd, Nat.reduceSub, Nat.reduceMul, Nat.reduceLT, Nat.reduceLeDiff, Int.reduceLE, Int.reduceLT, Int.reduceToNat, Int.reduceBEq, Int.reduceBNe, ↓reduceIte, Int.reduceAdd, Int.reduceSub, Int.reduceGT, Int.reduceGE, h2241, h2244, g2245, g2246, h2247] <;> rfl)) rfl (by kernel_rfl) ?_
  replace h := getB_some h; obtain ⟨b2275, h2274, h⟩ := h
  replace h := brn_some h; rcases h with ⟨h2276, h⟩ | ⟨h2276, h⟩
  ·refine W_sound tab_ok mixed 10 _ _ _ ?_
   simp -implicitDefEqProofs only [go_sem, Nat.reduceBEq, Nat.reduceAdd, Nat.reduceSub, Nat.reduceMul, Nat.reduceLT, Int.reduceLE, Int.reduceToNat, ↓reduceIte, Int.reduceAdd, h2274, h2276]
   repeat with_reducible refine And.intro (by first | kernel_rfl | decide) ?_
   refine again (Wk_keep (st' := ⟨[], [(0, .sl false 0 0 1 1), (1, .v (.lst false n2242 c2243)), (4, .dead), (5, .v (.int .i64 1)), (10, .dead), (14, .dead), (26, .dead)], [(0, .r [.sl false 1 0 1 1]), (1, .p c2240)], 2, []⟩) [0, 1, 5] (by kernel_rfl)) ?_
   refine W_sound tab_ok mixed 16 _ _ _ ?_
   simp -implicitDefEqProofs only [go_sem, Nat.reduceBEq, Nat.reduceLT, Int.reduceLE, Int.reduceLT, Int.reduceToNat, ↓reduceIte]
   repeat with_reducible refine And.intro (by first | kernel_rfl | decide) ?_
   obtain rfl := Option.some.inj h
   exact finD (st' := ⟨[], [(0, .dead), (1, .dead), (4, .v (.bool true)), (5, .dead), (10, .dead), (14, .dead), (26, .dead)], [(0, .r [.sl false 1 0 1 1]), (1, .p c2240)], 2, []⟩) (keepE_le [4] _) (OLe.refl _) (by kernel_rfl) (by simp only [go_sem, Nat.reduceBEq, resQ_tmp, resQ_nil, retD_one]; try simp [R.val, retD_one, retD_two, retD_three, retD_none])
  ·refine W_sound tab_ok mixed 9 _ _ _ ?_
   simp -implicitDefEqProofs only [go_sem, Nat.reduceBEq, Nat.reduceAdd, Nat.reduceSub, Nat.reduceMul, Nat.reduceLT, h2274, h2276]
   repeat with_reducible refine And.intro (by first | kernel_rfl | decide) ?_
   obtain rfl := Option.some.inj h
   exact finD (st' := ⟨[], [(0, .dead), (1, .dead), (4, .v (.bool false)), (5, .dead), (10, .dead), (14, .dead), (26, .dead)], [(0, .r [.sl false 1 0 1 1]), (1, .p c2240)], 2, []⟩) (keepE_le [4] _) (OLe.refl _) (by kernel_rfl) (by simp only [go_sem, Nat.reduceBEq, resQ_tmp, resQ_nil, retD_one]; try simp [R.val, retD_one, retD_two, retD_three, retD_none])
noncomputable def m31_L1 (N : Nat) (x2342 : Int) (x2373 : Int) : Nat → Int → List PV → Option (List PV)
 | 0, _, _ => none
 | n + 1, x2387, c2388 =>
  brn (decide (x2387 < x2342)) (
   brn (decide ((IntKind.i64.wrap (x2373 + x2387)) ≥ x2342)) (
    bnd' (m72 N x2373 x2387 (IntKind.i64.wrap ((IntKind.i64.wrap (x2373 + x2387)) - x2342)) c2388) fun (p2391, c2393) =>
    getT0 p2391 <|
    m31_L1 N x2342 x2373 n (IntKind.i64.wrap (x2387 + 1)) c2393) (
    bnd' (m72 N x2373 x2387 (IntKind.i64.wrap (x2373 + x2387)) c2388) fun (p2395, c2397) =>
    getT0 p2395 <|
    m31_L1 N x2342 x2373 n (IntKind.i64.wrap (x2387 + 1)) c2397)) (
   some c2388)
noncomputable def m31_L0 (N : Nat) (x2342 : Int) : Nat → Int → List PV → Option (List PV)
 | 0, _, _ => none
 | n + 1, x2373, c2374 =>
  brn (decide (x2373 < x2342)) (
   bnd' (m31_L1 N x2342 x2373 N 0 c2374) fun c2399 =>
   m31_L0 N x2342 n (IntKind.i64.wrap (x2373 + 1)) c2399) (
   some c2374)
noncomputable def m31 (N : Nat) (x2342 : Int) : Option (PV) :=
 brn (decide (x2342 < 1)) (
  some (.tup [(.lst false 0 []), (.int .i64 1)])) (
  brn (decide (x2342 > 5)) (
   some (.tup [(.lst false 0 []), (.int .i64 1)])) (
   bnd' (m71 N x2342) fun o =>
   match o with
   | c2346 =>
    bnd' (m31_L0 N x2342 N 0 c2346) fun c2400 =>
    grd (26 ≤ List.length c2400) <|
    bnd' (m65 N (.agg (List.take 25 (List.drop 1 c2400))) x2342) fun p2402 =>
    getL p2402 fun n2405 c2406 =>
    some (.tup [(.lst false n2405 c2406), (.int .i64 0)])))
theorem c31 (N : Nat) (x2342 : Int) (r : PV)  (h : m31 N x2342 = some r) : FnP Tryd.prog 31 [(.int .i64 x2342)] r := by
 unfold m31 at h
 refine Fn_of (sz := 46) tab_ok [0, 2, 3, 4, 5, 6, 7, 13, 16, 17, 18, 20, 21, 22, 29] [.tmp 2, .tmp 3] Tryd.func31 rfl rfl rfl (by simp) ?_
 simp only [initSt, initEnv, List.map_cons, List.map_nil, List.getD_cons_zero, List.getD_cons_succ, List.getD_nil]
 replace h := brn_some h; rcases h with ⟨h2343, h⟩ | ⟨h2343, h⟩
 ·refine W_sound tab_ok mixed 23 _ _ _ ?_
  simp -implicitDefEqProofs only [go_sem, Nat.reduceBEq, Nat.reduceLT, Int.reduceLE, Int.reduceToNat, ↓reduceIte, h2343]
  repeat with_reducible refine And.intro (by first | kernel_rfl | decide) ?_
  obtain rfl := Option.some.inj h
  exact finC [(2, .v .nl), (3, .v (.int .i64 1))] [(2, .v (.lst false 0 [])), (3, .v (.int .i64 1))] (by simp [leE, lk_cons]) (.cons _ _ _ _ _ (.v _ _ (.nl false)) (.cons _ _ _ _ _ (.v _ _ (.refl _)) .nil)) (by rfl) (by simp [leE, lk_cons]) (by decide) (by decide) rfl (by simp only [go_sem, Nat.reduceBEq, resQ_tmp, resQ_nil, retD_two]; try simp [R.val, retD_one, retD_two, retD_three, retD_none])
 ·replace h := brn_some h; rcases h with ⟨h2344, h⟩ | ⟨h2344, h⟩
  ·refine W_sound tab_ok mixed 23 _ _ _ ?_
   simp -implicitDefEqProofs only [go_sem, Nat.reduceBEq, Nat.reduceLT, Int.reduceLE, Int.reduceToNat, ↓reduceIte, h2343, h2344]
   repeat with_reducible refine And.intro (by first | kernel_rfl | decide) ?_
   obtain rfl := Option.some.inj h
   exact finC [(2, .v .nl), (3, .v (.int .i64 1))] [(2, .v (.lst false 0 [])), (3, .v (.int .i64 1))] (by simp [leE, lk_cons]) (.cons _ _ _ _ _ (.v _ _ (.nl false)) (.cons _ _ _ _ _ (.v _ _ (.refl _)) .nil)) (by rfl) (by simp [leE, lk_cons]) (by decide) (by decide) rfl (by simp only [go_sem, Nat.reduceBEq, resQ_tmp, resQ_nil, retD_two]; try simp [R.val, retD_one, retD_two, retD_three, retD_none])
  ·replace h := bnd'_some h; obtain ⟨c2346, h2345, h⟩ := h
   (try dsimp only at h)
   refine W_sound tab_ok mixed 20 _ _ _ ?_
   simp -implicitDefEqProofs only [go_sem, Nat.reduceBEq, Nat.reduceLT, Int.reduceLE, Int.reduceToNat, ↓reduceIte, h2343, h2344]
   repeat with_reducible refine And.intro (by first | kernel_rfl | decide) ?_
   refine Wp_callD [] (c71_a N _ _ h2345) rfl rfl rfl (by first | rfl | (simp only [go_sem, Nat.reduceBEq, Nat.reduceAdd, Nat.reduceSub, Nat.reduceMul, Nat.reduceLT, Nat.reduceLeDiff, Int.reduceLE, Int.reduceLT, Int.reduceToNat, Int.reduceBEq, Int.reduceBNe, ↓reduceIte, h2343, h2344] <;> rfl)) rfl (by kernel_rfl) ?_
   refine W_sound tab_ok mixed 8 _ _ _ ?_
   simp -implicitDefEqProofs only [go_sem, Nat.reduceBEq, Nat.reduceAdd, Nat.reduceSub, Nat.reduceMul, Nat.reduceLT, Nat.reduceLeDiff]
   repeat with_reducible refine And.intro (by first | kernel_rfl | decide) ?_
   replace h := bnd'_some h; obtain ⟨o2407, h2408, h2409⟩ := h
   refine Wp_cut (fun s => ∃ c2400, c2400 = o2407 ∧ s = ⟨[], [(0, .v (.int .i64 x2342)), (2, .dead), (3, .dead), (4, .ptr 0 0), (5, .dead), (6, .dead), (7, .dead), (13, .dead), (16, .dead), (17, .dead), (18, .dead), (20, .dead), (21, .dead), (22, .dead), (29, .dead)], [(0, .p c2400)], 1, []⟩) ?_ ?_
   ·refine Wp_block ?_
    refine Wp_loopG (fun n s => ∃ x2373, ∃ c2374, m31_L0 N x2342 n x2373 c2374 = some o2407 ∧ s = ⟨[], [(0, .v (.int .i64 x2342)), (2, .dead), (3, .dead), (4, .ptr 0 0), (5, .dead), (6, .dead), (7, .dead), (13, .dead), (16, .v (.int .i64 x2342)), (17, .v (.int .i64 x2373)), (18, .dead), (20, .dead), (21, .dead), (22, .dead), (29, .dead)], [(0, .p c2374)], 1, []⟩) N _ ?_ ⟨_, _, h2408, rfl⟩ ?_
    ·exact Wk_keep [0, 4, 16, 17] (by kernel_rfl)
    clear h2408
    rintro n _ ⟨x2373, c2374, h2408, rfl⟩
    cases n with
    | zero => cases h2408
    | succ n =>
     rw [m31_L0] at h2408
     replace h2408 := brn_some h2408; rcases h2408 with ⟨h2375, h2408⟩ | ⟨h2375, h2408⟩
     ·refine W_sound tab_ok mixed 19 _ _ _ ?_
      simp -implicitDefEqProofs only [go_sem, Nat.reduceBEq, Nat.reduceLT, ↓reduceIte, h2375]
      repeat with_reducible refine And.intro (by first | kernel_rfl | decide) ?_
      replace h2408 := bnd'_some h2408; obtain ⟨o2410, h2411, h2412⟩ := h2408
      refine Wp_cut (fun s => ∃ c2399, c2399 = o2410 ∧ s = ⟨[], [(0, .v (.int .i64 x2342)), (2, .dead), (3, .dead), (4, .ptr 0 0), (5, .dead), (6, .dead), (7, .dead), (13, .dead), (16, .v (.int .i64 x2342)), (17, .v (.int .i64 x2373)), (18, .dead), (20, .dead), (21, .dead), (22, .dead), (29, .dead)], [(0, .p c2399)], 1, []⟩) ?_ ?_
      ·refine Wp_block ?_
       refine Wp_loopG (fun n s => ∃ x2387, ∃ c2388, m31_L1 N x2342 x2373 n x2387 c2388 = some o2410 ∧ s = ⟨[], [(0, .v (.int .i64 x2342)), (2, .dead), (3, .dead), (4, .ptr 0 0), (5, .v (.int .i64 x2373)), (6, .dead), (7, .dead), (13, .dead), (16, .v (.int .i64 x2342)), (17, .v (.int .i64 x2373)), (18, .dead), (20, .v (.int .i64 x2342)), (21, .v (.int .i64 x2387)), (22, .dead), (29, .dead)], [(0, .p c2388)], 1, []⟩) N _ ?_ ⟨_, _, h2411, rfl⟩ ?_
       ·exact Wk_keep [0, 4, 5, 16, 17, 20, 21] (by kernel_rfl)
       clear h2411
       rintro n _ ⟨x2387, c2388, h2411, rfl⟩
       cases n with
       | zero => cases h2411
       | succ n =>
        rw [m31_L1] at h2411
        replace h2411 := brn_some h2411; rcases h2411 with ⟨h2389, h2411⟩ | ⟨h2389, h2411⟩
        ·replace h2411 := brn_some h2411; rcases h2411 with ⟨h2390, h2411⟩ | ⟨h2390, h2411⟩
         ·replace h2411 := bnd'_some h2411; obtain ⟨⟨p2391, c2393⟩, h2392, h2411⟩ := h2411
          (try dsimp only at h2411)
          refine W_sound tab_ok mixed 40 _ _ _ ?_
          simp -implicitDefEqProofs only [go_sem, Nat.reduceBEq, Nat.reduceLT, ↓reduceIte, h2389, h2390]
          repeat with_reducible refine And.intro (by first | kernel_rfl | decide) ?_
          refine Wp_callD [0] (c72 N _ _ _ _ _ _ h2392) rfl rfl rfl (by first | rfl | (simp only [go_sem, Nat.reduceBEq, Nat.reduceAdd, Nat.reduceSub, Nat.reduceMul, Nat.reduceLT, Nat.reduceLeDiff, Int.reduceLE, Int.reduceLT, Int.reduceToNat, Int.reduceBEq, Int.reduceBNe, ↓reduceIte, h2343, h2344, h2375, h2389, h2390] <;> rfl)) rfl (by kernel_rfl) ?_
          replace h2411 := getT0_some h2411; obtain ⟨h2394, h2411⟩ := h2411
          refine W_sound tab_ok mixed 6 _ _ _ ?_
          simp -implicitDefEqProofs only [go_sem, Nat.reduceBEq, Nat.reduceAdd, Nat.reduceSub, Nat.reduceMul, Nat.reduceLT, Int.reduceLE, Int.reduceToNat, ↓reduceIte, h2394]
          repeat with_reducible refine And.intro (by first | kernel_rfl | decide) ?_
          refine cutQ _ ?_ ⟨n, Nat.lt_succ_self n, _, _, h2411, rfl⟩
          exact Wk_keep [0, 4, 5, 16, 17, 20, 21] (by kernel_rfl)
         ·replace h2411 := bnd'_some h2411; obtain ⟨⟨p2395, c2397⟩, h2396, h2411⟩ := h2411
          (try dsimp only at h2411)
          refine W_sound tab_ok mixed 35 _ _ _ ?_
          simp -implicitDefEqProofs only [go_sem, Nat.reduceBEq, Nat.reduceLT, ↓reduceIte, h2389, h2390]
          repeat with_reducible refine And.intro (by first | kernel_rfl | decide) ?_
          refine Wp_callD [0] (c72 N _ _ _ _ _ _ h2396) rfl rfl rfl (by first | rfl | (simp only [go_sem, Nat.reduceBEq, Nat.reduceAdd, Nat.reduceSub, Nat.reduceMul, Nat.reduceLT, Nat.reduceLeDiff, Int.reduceLE, Int.reduceLT, Int.reduceToNat, Int.reduceBEq, Int.reduceBNe, ↓reduceIte, h2343, h2344, h2375, h2389, h2390] <;> rfl)) rfl (by kernel_rfl) ?_
          replace h2411 := getT0_some h2411; obtain ⟨h2398, h2411⟩ := h2411
          refine W_sound tab_ok mixed 6 _ _ _ ?_
          simp -implicitDefEqProofs only [go_sem, Nat.reduceBEq, Nat.reduceAdd, Nat.reduceSub, Nat.reduceMul, Nat.reduceLT, Int.reduceLE, Int.reduceToNat, ↓reduceIte, h2398]
          repeat with_reducible refine And.intro (by first | kernel_rfl | decide) ?_
          refine cutQ _ ?_ ⟨n, Nat.lt_succ_self n, _, _, h2411, rfl⟩
          exact Wk_keep [0, 4, 5, 16, 17, 20, 21] (by kernel_rfl)
        ·refine W_sound tab_ok mixed 7 _ _ _ ?_
         simp -implicitDefEqProofs only [go_sem, Nat.reduceBEq, Nat.reduceLT, ↓reduceIte, h2389]
         repeat with_reducible refine And.intro (by first | kernel_rfl | decide) ?_
         obtain rfl := Option.some.inj h2411
         refine cutQ _ ?_ ⟨_, rfl, rfl⟩
         exact Wk_keep [0, 4, 16, 17] (by kernel_rfl)
      ·rintro _ ⟨c2399, rfl, rfl⟩
       refine W_sound tab_ok mixed 5 _ _ _ ?_
       simp -implicitDefEqProofs only [go_sem, Nat.reduceBEq, Nat.reduceLT, Int.reduceLE, Int.reduceToNat, ↓reduceIte]
       repeat with_reducible refine And.intro (by first | kernel_rfl | decide) ?_
       refine cutQ _ ?_ ⟨n, Nat.lt_succ_self n, _, _, h2412, rfl⟩
       exact Wk_keep [0, 4, 16, 17] (by kernel_rfl)
     ·refine W_sound tab_ok mixed 7 _ _ _ ?_
      simp -implicitDefEqProofs only [go_sem, Nat.reduceBEq, Nat.reduceLT, ↓reduceIte, h2375]
      repeat with_reducible refine And.intro (by first | kernel_rfl | decide) ?_
      obtain rfl := Option.some.inj h2408
      refine cutQ _ ?_ ⟨_, rfl, rfl⟩
      exact Wk_keep [0, 4] (by kernel_rfl)
   ·rintro _ ⟨c2400, rfl, rfl⟩
    replace h2409 := grd_some h2409; obtain ⟨g2401, h2409⟩ := h2409
    replace h2409 := bnd'_some h2409; obtain ⟨p2402, h2403, h2409⟩ := h2409
    refine W_sound tab_ok mixed 7 _ _ _ ?_
    simp -implicitDefEqProofs only [go_sem, Nat.reduceBEq, Nat.reduceAdd, Nat.reduceLT, g2401]
    repeat with_reducible refine And.intro (by first | kernel_rfl | decide) ?_
    refine Wp_callP (c65 N _ _ _ h2403) (by kernel_rfl) rfl rfl rfl rfl (by decide) ?_
    replace h2409 := getL_some h2409; obtain ⟨n2405, c2406, h2404, h2409⟩ := h2409
    refine W_sound tab_ok mixed 5 _ _ _ ?_
    simp -implicitDefEqProofs only [go_sem, Nat.reduceBEq, Nat.reduceLT, h2404]
    repeat with_reducible refine And.intro (by first | kernel_rfl | decide) ?_
    obtain rfl := Option.some.inj h2409
    exact finC [(2, .v (.lst false n2405 c2406)), (3, .v (.int .i64 0))] [(2, .v (.lst false n2405 c2406)), (3, .v (.int .i64 0))] (by simp [leE, lk_cons]) (.cons _ _ _ _ _ (.v _ _ (.refl _)) (.cons _ _ _ _ _ (.v _ _ (.refl _)) .nil)) (by rfl) (by simp [leE, lk_cons]) (by decide) (by decide) rfl (by simp only [go_sem, Nat.reduceBEq, resQ_tmp, resQ_nil, retD_two]; try simp [R.val, retD_one, retD_two, retD_three, retD_none])
noncomputable def m43 (N : Nat) (p2424 : PV) : Option (PV) :=
 getL p2424 fun n2426 c2427 =>
 some (.lst false n2426 c2427)
theorem c43 (N : Nat) (p2424 : PV) (r : PV)  (h : m43 N p2424 = some r) : FnP Tryd.prog 43 [p2424] r := by
 unfold m43 at h
 refine Fn_of (sz := 4) tab_ok [0, 2] [.tmp 2] Tryd.func43 rfl rfl rfl (by simp) ?_
 simp only [initSt, initEnv, List.map_cons, List.map_nil, List.getD_cons_zero, List.getD_cons_succ, List.getD_nil]
 replace h := getL_some h; obtain ⟨n2426, c2427, h2425, h⟩ := h
 refine W_sound tab_ok mixed 11 _ _ _ ?_
 simp -implicitDefEqProofs only [go_sem, Nat.reduceBEq, Nat.reduceLT, h2425]
 repeat with_reducible refine And.intro (by first | kernel_rfl | decide) ?_
 obtain rfl := Option.some.inj h
 exact finC [(2, .v (.lst false n2426 c2427))] [(2, .v (.lst false n2426 c2427))] (by simp [leE, lk_cons]) (.cons _ _ _ _ _ (.v _ _ (.refl _)) .nil) (by rfl) (by simp [leE, lk_cons]) (by decide) (by decide) rfl (by simp only [go_sem, Nat.reduceBEq, resQ_tmp, resQ_nil, retD_one]; try simp [R.val, retD_one, retD_two, retD_three, retD_none])
noncomputable def m16 (N : Nat) : Option PV := some (.bool true)
theorem c16 (N : Nat) (r : PV) (h : m16 N = some r) : FnP Tryd.prog 16 [] r := by
 obtain rfl := Option.some.inj h
 exact k92
noncomputable def m22_3_L0 (N : Nat) (c2461 : List PV) (n2463 : Nat) (c2464 : List PV) : Nat → Int → Option ((PV ⊕ Unit))
 | 0, _ => none
 | n + 1, x2466 =>
  brn (decide (x2466 < 2)) (
   grd (0 ≤ x2466 ∧ x2466 < 2) <|
   grd ((Int.toNat x2466) < List.length c2461) <|
   getI .i64 (gp c2461 (Int.toNat x2466)) fun x2472 =>
   grd (x2466 < ((n2463 : Nat) : Int)) <|
   grd (0 < List.length (List.drop (Int.toNat x2466) c2464)) <|
   getI .i64 (gp c2464 (Int.toNat x2466)) fun x2476 =>
   brn (x2472 != x2476) (
    some (.inl (.bool false))) (
    m22_3_L0 N c2461 n2463 c2464 n (IntKind.i64.wrap (x2466 + 1)))) (
   some (.inr ()))
noncomputable def m22_3 (N : Nat) (p2460 : PV) (c2461 : List PV) : Option (PV) :=
 getL p2460 fun n2463 c2464 =>
 brn (2 != ((n2463 : Nat) : Int)) (
  some (.bool false)) (
  bnd' (m22_3_L0 N c2461 n2463 c2464 N 0) fun o =>
  match o with
  | .inl p2478 =>
   some p2478
  | .inr () =>
   some (.bool true))
theorem c22_3 (N : Nat) (p2460 : PV) (c2461 : List PV) (r : PV)  (h : m22_3 N p2460 c2461 = some r) : V.Fn Tryd.prog 22 1 [.sl false 0 0 2 1, .v p2460] [(0, .p c2461)] (fun d ob' => d = .v r ∧ ob' = [(0, .p c2461)]) := by
 unfold m22_3 at h
 refine Fn_of (sz := 26) tab_ok [0, 1, 4, 5, 10, 14, 25] [.tmp 4] Tryd.func22 rfl rfl rfl (by simp) ?_
 simp only [initSt, initEnv, List.getD_cons_zero, List.getD_cons_succ, List.getD_nil]
 replace h := getL_some h; obtain ⟨n2463, c2464, h2462, h⟩ := h
 replace h := brn_some h; rcases h with ⟨h2465, h⟩ | ⟨h2465, h⟩
 ·refine W_sound tab_ok mixed 20 _ _ _ ?_
  simp -implicitDefEqProofs only [go_sem, Nat.reduceBEq, Nat.reduceLT, ↓reduceIte, h2462, h2465]
  repeat with_reducible refine And.intro (by first | kernel_rfl | decide) ?_
  obtain rfl := Option.some.inj h
  exact finD (st' := ⟨[], [(0, .dead), (1, .dead), (4, .v (.bool false)), (5, .dead), (10, .dead), (14, .dead), (25, .dead)], [(0, .p c2461)], 1, []⟩) (keepE_le [4] _) (OLe.refl _) (by kernel_rfl) (by simp only [go_sem, Nat.reduceBEq, resQ_tmp, resQ_nil, retD_one]; try simp [R.val, retD_one, retD_two, retD_three, retD_none])
 ·refine W_sound tab_ok mixed 20 _ _ _ ?_
  simp -implicitDefEqProofs only [go_sem, Nat.reduceBEq, Nat.reduceLT, ↓reduceIte, h2462, h2465]
  repeat with_reducible refine And.intro (by first | kernel_rfl | decide) ?_
  replace h := bnd'_some h; obtain ⟨o2479, h2480, h2481⟩ := h
  refine Wp_cut (fun s => (.inr ()) = o2479 ∧ s = ⟨[], [(0, .dead), (1, .dead), (4, .dead), (5, .dead), (10, .dead), (14, .dead), (25, .dead)], [(0, .p c2461)], 1, []⟩) ?_ ?_
  ·refine Wp_block ?_
   refine Wp_loopG (fun n s => ∃ x2466, m22_3_L0 N c2461 n2463 c2464 n x2466 = some o2479 ∧ s = ⟨[], [(0, .sl false 0 0 2 1), (1, .v (.lst false n2463 c2464)), (4, .dead), (5, .v (.int .i64 x2466)), (10, .dead), (14, .dead), (25, .dead)], [(0, .p c2461)], 1, []⟩) N _ ?_ ⟨_, h2480, rfl⟩ ?_
   ·exact Wk_keep [0, 1, 5] (by kernel_rfl)
   clear h2480
   rintro n _ ⟨x2466, h2480, rfl⟩
   cases n with
   | zero => cases h2480
   | succ n =>
    rw [m22_3_L0] at h2480
    replace h2480 := brn_some h2480; rcases h2480 with ⟨h2467, h2480⟩ | ⟨h2467, h2480⟩
    ·replace h2480 := grd_some h2480; obtain ⟨⟨g2468, g2469⟩, h2480⟩ := h2480
     replace h2480 := grd_some h2480; obtain ⟨g2470, h2480⟩ := h2480
     replace h2480 := getI_some h2480; obtain ⟨x2472, h2471, h2480⟩ := h2480
     replace h2480 := grd_some h2480; obtain ⟨g2473, h2480⟩ := h2480
     replace h2480 := grd_some h2480; obtain ⟨g2474, h2480⟩ := h2480
     replace h2480 := getI_some h2480; obtain ⟨x2476, h2475, h2480⟩ := h2480
     replace h2480 := brn_some h2480; rcases h2480 with ⟨h2477, h2480⟩ | ⟨h2477, h2480⟩
     ·refine W_sound tab_ok mixed 31 _ _ _ ?_
      simp -implicitDefEqProofs only [go_sem, Nat.reduceBEq, Nat.reduceLT, Int.reduceLE, Int.reduceToNat, ↓reduceIte, g2468, g2469, g2470, h2471, g2473, g2474, h2475, h2477]
      repeat with_reducible refine And.intro (by first | kernel_rfl | decide) ?_
      obtain rfl := Option.some.inj h2480
      (try dsimp only at h2481)
      obtain rfl := Option.some.inj h2481
      exact finD (st' := ⟨[], [(0, .dead), (1, .dead), (4, .v (.bool false)), (5, .dead), (10, .dead), (14, .dead), (25, .dead)], [(0, .p c2461)], 1, []⟩) (keepE_le [4] _) (OLe.refl _) (by kernel_rfl) (by simp only [go_sem, Nat.reduceBEq, resQ_tmp, resQ_nil, retD_one]; try simp [R.val, retD_one, retD_two, retD_three, retD_none])
     ·refine W_sound tab_ok mixed 32 _ _ _ ?_
      simp -implicitDefEqProofs only [go_sem, Nat.reduceBEq, Nat.reduceLT, Int.reduceLE, Int.reduceToNat, ↓reduceIte, g2468, g2469, g2470, h2471, g2473, g2474, h2475, h2477]
      repeat with_reducible refine And.intro (by first | kernel_rfl | decide) ?_
      (try rw [h2471] at h2480)
      (try rw [h2475] at h2480)
      refine cutQ _ ?_ ⟨n, Nat.lt_succ_self n, _, h2480, rfl⟩
      exact Wk_keep [0, 1, 5] (by kernel_rfl)
    ·refine W_sound tab_ok mixed 10 _ _ _ ?_
     simp -implicitDefEqProofs only [go_sem, Nat.reduceBEq, Nat.reduceLT, Int.reduceLE, Int.reduceToNat, ↓reduceIte, h2467]
     repeat with_reducible refine And.intro (by first | kernel_rfl | decide) ?_
     obtain rfl := Option.some.inj h2480
     refine cutQ _ ?_ ⟨rfl, rfl⟩
     exact Wk_keep [] (by kernel_rfl)
  ·rintro _ ⟨rfl, rfl⟩
   (try dsimp only at h2481)
   refine W_sound tab_ok mixed 6 _ _ _ ?_
   simp -implicitDefEqProofs only [go_sem, Nat.reduceBEq, Nat.reduceLT]
   repeat with_reducible refine And.intro (by first | kernel_rfl | decide) ?_
   obtain rfl := Option.some.inj h2481
   exact finD (st' := ⟨[], [(0, .dead), (1, .dead), (4, .v (.bool true)), (5, .dead), (10, .dead), (14, .dead), (25, .dead)], [(0, .p c2461)], 1, []⟩) (keepE_le [4] _) (OLe.refl _) (by kernel_rfl) (by simp only [go_sem, Nat.reduceBEq, resQ_tmp, resQ_nil, retD_one]; try simp [R.val, retD_one, retD_two, retD_three, retD_none])
noncomputable def m21_3 (N : Nat) (p2448 : PV) (c2449 : List PV) (c2450 : List PV) : Option (PV) :=
 getL p2448 fun n2452 c2453 =>
 brn (2 != ((n2452 : Nat) : Int)) (
  some (.bool false)) (
  grd (0 < ((n2452 : Nat) : Int)) <|
  grd (0 < List.length c2453) <|
  getL (gp c2453 0) fun n2458 c2459 =>
  bnd' (m22_3 N (.lst false n2458 c2459) c2449) fun p2482 =>
  getB p2482 fun b2485 =>
  brn b2485 (
   grd (1 < ((n2452 : Nat) : Int)) <|
   grd (0 < List.length (List.drop 1 c2453)) <|
   getL (gp c2453 1) fun n2490 c2491 =>
   bnd' (m22_3 N (.lst false n2490 c2491) c2450) fun p2492 =>
   getB p2492 fun b2495 =>
   brn b2495 (
    some (.bool true)) (
    some (.bool false))) (
   some (.bool false)))
theorem c21_3 (N : Nat) (p2448 : PV) (c2449 : List PV) (c2450 : List PV) (r : PV)  (h : m21_3 N p2448 c2449 c2450 = some r) : V.Fn Tryd.prog 21 3 [.sl false 0 0 2 1, .v p2448] [(0, .r [.sl false 1 0 2 1, .sl false 2 0 2 1]), (1, .p c2449), (2, .p c2450)] (fun d ob' => d = .v r ∧ ob' = [(0, .r [.sl false 1 0 2 1, .sl false 2 0 2 1]), (1, .p c2449), (2, .p c2450)]) := by
 unfold m21_3 at h
 refine Fn_of (sz := 27) tab_ok [0, 1, 4, 5, 10, 14, 26] [.tmp 4] Tryd.func21 rfl rfl rfl (by simp) ?_
 simp only [initSt, initEnv, List.getD_cons_zero, List.getD_cons_succ, List.getD_nil]
 replace h := getL_some h; obtain ⟨n2452, c2453, h2451, h⟩ := h
 replace h := brn_some h; rcases h with ⟨h2454, h⟩ | ⟨h2454, h⟩
 ·refine W_sound tab_ok mixed 20 _ _ _ ?_
  simp -implicitDefEqProofs only [go_sem, Nat.reduceBEq, Nat.reduceLT, ↓reduceIte, h2451, h2454]
  repeat with_reducible refine And.intro (by first | kernel_rfl | decide) ?_
  obtain rfl := Option.some.inj h
  exact finD (st' := ⟨[], [(0, .dead), (1, .dead), (4, .v (.bool false)), (5, .dead), (10, .dead), (14, .dead), (26, .dead)], [(0, .r [.sl false 1 0 2 1, .sl false 2 0 2 1]), (1, .p c2449), (2, .p c2450)], 3, []⟩) (keepE_le [4] _) (OLe.refl _) (by kernel_rfl) (by simp only [go_sem, Nat.reduceBEq, resQ_tmp, resQ_nil, retD_one]; try simp [R.val, retD_one, retD_two, retD_three, retD_none])
 ·refine W_sound tab_ok mixed 20 _ _ _ ?_
  simp -implicitDefEqProofs only [go_sem, Nat.reduceBEq, Nat.reduceLT, ↓reduceIte, h2451, h2454]
  repeat with_reducible refine And.intro (by first | kernel_rfl | decide) ?_
  refine Wp_block ?_
  refine Wp_loopL (WpL_step ?_)
  replace h := grd_some h; obtain ⟨g2455, h⟩ := h
  replace h := grd_some h; obtain ⟨g2456, h⟩ := h
  replace h := getL_some h; obtain ⟨n2458, c2459, h2457, h⟩ := h
  replace h := bnd'_some h; obtain ⟨p2482, h2483, h⟩ := h
  (try dsimp only at h)
  refine W_sound tab_ok mixed 22 _ _ _ ?_
  simp -implicitDefEqProofs only [go_sem, Nat.reduceBEq, Nat.reduceAdd, Nat.reduceLT, Nat.reduceLeDiff, Int.reduceLE, Int.reduceLT, Int.reduceToNat, ↓reduceIte, g2455, g2456, h2457]
  repeat with_reducible refine And.intro (by first | kernel_rfl | decide) ?_
  refine Wp_callD [1] (c22_3 N _ _ _ h2483) rfl rfl rfl (by first | rfl | (simp only [go_sem, Nat.reduceBEq, Nat.reduceAdd, Nat.reduceSub, Nat.reduceMul, Nat.reduceLT, Nat.reduceLeDiff, Int.reduceLE, Int.reduceLT, Int.reduceToNat, Int.reduceBEq, Int.reduceBNe, ↓reduceIte, Int.reduceAdd, Int.reduceSub, Int.reduceGT, Int.reduceGE, h2451, h2454, g2455, g2456, h2457] <;> rfl)) rfl (by kernel_rfl) ?_
  replace h := getB_some h; obtain ⟨b2485, h2484, h⟩ := h
  replace h := brn_some h; rcases h with ⟨h2486, h⟩ | ⟨h2486, h⟩
  ·refine W_sound tab_ok mixed 10 _ _ _ ?_
   simp -implicitDefEqProofs only [go_sem, Nat.reduceBEq, Nat.reduceAdd, Nat.reduceSub, Nat.reduceMul, Nat.reduceLT, Int.reduceLE, Int.reduceToNat, ↓reduceIte, Int.reduceAdd, h2484, h2486]
   repeat with_reducible refine And.intro (by first | kernel_rfl | decide) ?_
   refine again (Wk_keep (st' := ⟨[], [(0, .sl false 0 0 2 1), (1, .v (.lst false n2452 c2453)), (4, .dead), (5, .v (.int .i64 1)), (10, .dead), (14, .dead), (26, .dead)], [(0, .r [.sl false 1 0 2 1, .sl false 2 0 2 1]), (1, .p c2449), (2, .p c2450)], 3, []⟩) [0, 1, 5] (by kernel_rfl)) ?_
   replace h := grd_some h; obtain ⟨g2487, h⟩ := h
   replace h := grd_some h; obtain ⟨g2488, h⟩ := h
   replace h := getL_some h; obtain ⟨n2490, c2491, h2489, h⟩ := h
   replace h := bnd'_some h; obtain ⟨p2492, h2493, h⟩ := h
   (try dsimp only at h)
   refine W_sound tab_ok mixed 22 _ _ _ ?_
   simp -implicitDefEqProofs only [go_sem, Nat.reduceBEq, Nat.reduceAdd, Nat.reduceLT, Int.reduceLE, Int.reduceLT, Int.reduceToNat, ↓reduceIte, g2487, g2488, h2489]
   repeat with_reducible refine And.intro (by first | kernel_rfl | decide) ?_
   refine Wp_callD [2] (c22_3 N _ _ _ h2493) rfl rfl rfl (by first | rfl | (simp only [go_sem, Nat.reduceBEq, Nat.reduceAdd, Nat.reduceSub, Nat.reduceMul, Nat.reduceLT, Nat.reduceLeDiff, Int.reduceLE, Int.reduceLT, Int.reduceToNat, Int.reduceBEq, Int.reduceBNe, ↓reduceIte, Int.reduceAdd, Int.reduceSub, Int.reduceGT, Int.reduceGE, h2451, h2454, g2455, g2456, h2457, h2484, h2486, g2487, g2488, h2489] <;> rfl)) rfl (by kernel_rfl) ?_
   replace h := getB_some h; obtain ⟨b2495, h2494, h⟩ := h
   replace h := brn_some h; rcases h with ⟨h2496, h⟩ | ⟨h2496, h⟩
   ·refine W_sound tab_ok mixed 10 _ _ _ ?_
    simp -implicitDefEqProofs only [go_sem, Nat.reduceBEq, Nat.reduceAdd, Nat.reduceSub, Nat.reduceMul, Nat.reduceLT, Int.reduceLE, Int.reduceToNat, ↓reduceIte, Int.reduceAdd, h2494, h2496]
    repeat with_reducible refine And.intro (by first | kernel_rfl | decide) ?_
    refine again (Wk_keep (st' := ⟨[], [(0, .sl false 0 0 2 1), (1, .v (.lst false n2452 c2453)), (4, .dead), (5, .v (.int .i64 2)), (10, .dead), (14, .dead), (26, .dead)], [(0, .r [.sl false 1 0 2 1, .sl false 2 0 2 1]), (1, .p c2449), (2, .p c2450)], 3, []⟩) [0, 1, 5] (by kernel_rfl)) ?_
    refine W_sound tab_ok mixed 16 _ _ _ ?_
    simp -implicitDefEqProofs only [go_sem, Nat.reduceBEq, Nat.reduceLT, Int.reduceLE, Int.reduceLT, Int.reduceToNat, ↓reduceIte]
    repeat with_reducible refine And.intro (by first | kernel_rfl | decide) ?_
    obtain rfl := Option.some.inj h
    exact finD (st' := ⟨[], [(0, .dead), (1, .dead), (4, .v (.bool true)), (5, .dead), (10, .dead), (14, .dead), (26, .dead)], [(0, .r [.sl false 1 0 2 1, .sl false 2 0 2 1]), (1, .p c2449), (2, .p c2450)], 3, []⟩) (keepE_le [4] _) (OLe.refl _) (by kernel_rfl) (by simp only [go_sem, Nat.reduceBEq, resQ_tmp, resQ_nil, retD_one]; try simp [R.val, retD_one, retD_two, retD_three, retD_none])
   ·refine W_sound tab_ok mixed 9 _ _ _ ?_
    simp -implicitDefEqProofs only [go_sem, Nat.reduceBEq, Nat.reduceAdd, Nat.reduceSub, Nat.reduceMul, Nat.reduceLT, h2494, h2496]
    repeat with_reducible refine And.intro (by first | kernel_rfl | decide) ?_
    obtain rfl := Option.some.inj h
    exact finD (st' := ⟨[], [(0, .dead), (1, .dead), (4, .v (.bool false)), (5, .dead), (10, .dead), (14, .dead), (26, .dead)], [(0, .r [.sl false 1 0 2 1, .sl false 2 0 2 1]), (1, .p c2449), (2, .p c2450)], 3, []⟩) (keepE_le [4] _) (OLe.refl _) (by kernel_rfl) (by simp only [go_sem, Nat.reduceBEq, resQ_tmp, resQ_nil, retD_one]; try simp [R.val, retD_one, retD_two, retD_three, retD_none])
  ·refine W_sound tab_ok mixed 9 _ _ _ ?_
   simp -implicitDefEqProofs only [go_sem, Nat.reduceBEq, Nat.reduceAdd, Nat.reduceSub, Nat.reduceMul, Nat.reduceLT, h2484, h2486]
   repeat with_reducible refine And.intro (by first | kernel_rfl | decide) ?_
   obtain rfl := Option.some.inj h
   exact finD (st' := ⟨[], [(0, .dead), (1, .dead), (4, .v (.bool false)), (5, .dead), (10, .dead), (14, .dead), (26, .dead)], [(0, .r [.sl false 1 0 2 1, .sl false 2 0 2 1]), (1, .p c2449), (2, .p c2450)], 3, []⟩) (keepE_le [4] _) (OLe.refl _) (by kernel_rfl) (by simp only [go_sem, Nat.reduceBEq, resQ_tmp, resQ_nil, retD_one]; try simp [R.val, retD_one, retD_two, retD_three, retD_none])
noncomputable def m22_4_L0 (N : Nat) (c2642 : List PV) (n2644 : Nat) (c2645 : List PV) : Nat → Int → Option ((PV ⊕ Unit))
 | 0, _ => none
 | n + 1, x2647 =>
  brn (decide (x2647 < 3)) (
   grd (0 ≤ x2647 ∧ x2647 < 3) <|
   grd ((Int.toNat x2647) < List.length c2642) <|
   getI .i64 (gp c2642 (Int.toNat x2647)) fun x2653 =>
   grd (x2647 < ((n2644 : Nat) : Int)) <|
   grd (0 < List.length (List.drop (Int.toNat x2647) c2645)) <|
   getI .i64 (gp c2645 (Int.toNat x2647)) fun x2657 =>
   brn (x2653 != x2657) (
    some (.inl (.bool false))) (
    m22_4_L0 N c2642 n2644 c2645 n (IntKind.i64.wrap (x2647 + 1)))) (
   some (.inr ()))
noncomputable def m22_4 (N : Nat) (p2641 : PV) (c2642 : List PV) : Option (PV) :=
 getL p2641 fun n2644 c2645 =>
 brn (3 != ((n2644 : Nat) : Int)) (
  some (.bool false)) (
  bnd' (m22_4_L0 N c2642 n2644 c2645 N 0) fun o =>
  match o with
  | .inl p2659 =>
   some p2659
  | .inr () =>
   some (.bool true))
theorem c22_4 (N : Nat) (p2641 : PV) (c2642 : List PV) (r : PV)  (h : m22_4 N p2641 c2642 = some r) : V.Fn Tryd.prog 22 1 [.sl false 0 0 3 1, .v p2641] [(0, .p c2642)] (fun d ob' => d = .v r ∧ ob' = [(0, .p c2642)]) := by
 unfold m22_4 at h
 refine Fn_of (sz := 26) tab_ok [0, 1, 4, 5, 10, 14, 25] [.tmp 4] Tryd.func22 rfl rfl rfl (by simp) ?_
 simp only [initSt, initEnv, List.getD_cons_zero, List.getD_cons_succ, List.getD_nil]
 replace h := getL_some h; obtain ⟨n2644, c2645, h2643, h⟩ := h
 replace h := brn_some h; rcases h with ⟨h2646, h⟩ | ⟨h2646, h⟩
 ·refine W_sound tab_ok mixed 20 _ _ _ ?_
  simp -implicitDefEqProofs only [go_sem, Nat.reduceBEq, Nat.reduceLT, ↓reduceIte, h2643, h2646]
  repeat with_reducible refine And.intro (by first | kernel_rfl | decide) ?_
  obtain rfl := Option.some.inj h
  exact finD (st' := ⟨[], [(0, .dead), (1, .dead), (4, .v (.bool false)), (5, .dead), (10, .dead), (14, .dead), (25, .dead)], [(0, .p c2642)], 1, []⟩) (keepE_le [4] _) (OLe.refl _) (by kernel_rfl) (by simp only [go_sem, Nat.reduceBEq, resQ_tmp, resQ_nil, retD_one]; try simp [R.val, retD_one, retD_two, retD_three, retD_none])
 ·refine W_sound tab_ok mixed 20 _ _ _ ?_
  simp -implicitDefEqProofs only [go_sem, Nat.reduceBEq, Nat.reduceLT, ↓reduceIte, h2643, h2646]
  repeat with_reducible refine And.intro (by first | kernel_rfl | decide) ?_
  replace h := bnd'_some h; obtain ⟨o2660, h2661, h2662⟩ := h
  refine Wp_cut (fun s => (.inr ()) = o2660 ∧ s = ⟨[], [(0, .dead), (1, .dead), (4, .dead), (5, .dead), (10, .dead), (14, .dead), (25, .dead)], [(0, .p c2642)], 1, []⟩) ?_ ?_
  ·refine Wp_block ?_
   refine Wp_loopG (fun n s => ∃ x2647, m22_4_L0 N c2642 n2644 c2645 n x2647 = some o2660 ∧ s = ⟨[], [(0, .sl false 0 0 3 1), (1, .v (.lst false n2644 c2645)), (4, .dead), (5, .v (.int .i64 x2647)), (10, .dead), (14, .dead), (25, .dead)], [(0, .p c2642)], 1, []⟩) N _ ?_ ⟨_, h2661, rfl⟩ ?_
   ·exact Wk_keep [0, 1, 5] (by kernel_rfl)
   clear h2661
   rintro n _ ⟨x2647, h2661, rfl⟩
   cases n with
   | zero => cases h2661
   | succ n =>
    rw [m22_4_L0] at h2661
    replace h2661 := brn_some h2661; rcases h2661 with ⟨h2648, h2661⟩ | ⟨h2648, h2661⟩
    ·replace h2661 := grd_some h2661; obtain ⟨⟨g2649, g2650⟩, h2661⟩ := h2661
     replace h2661 := grd_some h2661; obtain ⟨g2651, h2661⟩ := h2661
     replace h2661 := getI_some h2661; obtain ⟨x2653, h2652, h2661⟩ := h2661
     replace h2661 := grd_some h2661; obtain ⟨g2654, h2661⟩ := h2661
     replace h2661 := grd_some h2661; obtain ⟨g2655, h2661⟩ := h2661
     replace h2661 := getI_some h2661; obtain ⟨x2657, h2656, h2661⟩ := h2661
     replace h2661 := brn_some h2661; rcases h2661 with ⟨h2658, h2661⟩ | ⟨h2658, h2661⟩
     ·refine W_sound tab_ok mixed 31 _ _ _ ?_
      simp -implicitDefEqProofs only [go_sem, Nat.reduceBEq, Nat.reduceLT, Int.reduceLE, Int.reduceToNat, ↓reduceIte, g2649, g2650, g2651, h2652, g2654, g2655, h2656, h2658]
      repeat with_reducible refine And.intro (by first | kernel_rfl | decide) ?_
      obtain rfl := Option.some.inj h2661
      (try dsimp only at h2662)
      obtain rfl := Option.some.inj h2662
      exact finD (st' := ⟨[], [(0, .dead), (1, .dead), (4, .v (.bool false)), (5, .dead), (10, .dead), (14, .dead), (25, .dead)], [(0, .p c2642)], 1, []⟩) (keepE_le [4] _) (OLe.refl _) (by kernel_rfl) (by simp only [go_sem, Nat.reduceBEq, resQ_tmp, resQ_nil, retD_one]; try simp [R.val, retD_one, retD_two, retD_three, retD_none])
     ·refine W_sound tab_ok mixed 32 _ _ _ ?_
      simp -implicitDefEqProofs only [go_sem, Nat.reduceBEq, Nat.reduceLT, Int.reduceLE, Int.reduceToNat, ↓reduceIte, g2649, g2650, g2651, h2652, g2654, g2655, h2656, h2658]
      repeat with_reducible refine And.intro (by first | kernel_rfl | decide) ?_
      (try rw [h2652] at h2661)
      (try rw [h2656] at h2661)
      refine cutQ _ ?_ ⟨n, Nat.lt_succ_self n, _, h2661, rfl⟩
      exact Wk_keep [0, 1, 5] (by kernel_rfl)
    ·refine W_sound tab_ok mixed 10 _ _ _ ?_
     simp -implicitDefEqProofs only [go_sem, Nat.reduceBEq, Nat.reduceLT, Int.reduceLE, Int.reduceToNat, ↓reduceIte, h2648]
     repeat with_reducible refine And.intro (by first | kernel_rfl | decide) ?_
     obtain rfl := Option.some.inj h2661
     refine cutQ _ ?_ ⟨rfl, rfl⟩
     exact Wk_keep [] (by kernel_rfl)
  ·rintro _ ⟨rfl, rfl⟩
   (try dsimp only at h2662)
   refine W_sound tab_ok mixed 6 _ _ _ ?_
   simp -implicitDefEqProofs only [go_sem, Nat.reduceBEq, Nat.reduceLT]
   repeat with_reducible refine And.intro (by first | kernel_rfl | decide) ?_
   obtain rfl := Option.some.inj h2662
   exact finD (st' := ⟨[], [(0, .dead), (1, .dead), (4, .v (.bool true)), (5, .dead), (10, .dead), (14, .dead), (25, .dead)], [(0, .p c2642)], 1, []⟩) (keepE_le [4] _) (OLe.refl _) (by kernel_rfl) (by simp only [go_sem, Nat.reduceBEq, resQ_tmp, resQ_nil, retD_one]; try simp [R.val, retD_one, retD_two, retD_three, retD_none])
noncomputable def m21_4 (N : Nat) (p2628 : PV) (c2629 : List PV) (c2630 : List PV) (c2631 : List PV) : Option (PV) :=
 getL p2628 fun n2633 c2634 =>
 brn (3 != ((n2633 : Nat) : Int)) (
  some (.bool false)) (
  grd (0 < ((n2633 : Nat) : Int)) <|
  grd (0 < List.length c2634) <|
  getL (gp c2634 0) fun n2639 c2640 =>
  bnd' (m22_4 N (.lst false n2639 c2640) c2629) fun p2663 =>
  getB p2663 fun b2666 =>
  brn b2666 (
   grd (1 < ((n2633 : Nat) : Int)) <|
   grd (0 < List.length (List.drop 1 c2634)) <|
   getL (gp c2634 1) fun n2671 c2672 =>
   bnd' (m22_4 N (.lst false n2671 c2672) c2630) fun p2673 =>
   getB p2673 fun b2676 =>
   brn b2676 (
    grd (2 < ((n2633 : Nat) : Int)) <|
    grd (0 < List.length (List.drop 2 c2634)) <|
    getL (gp c2634 2) fun n2681 c2682 =>
    bnd' (m22_4 N (.lst false n2681 c2682) c2631) fun p2683 =>
    getB p2683 fun b2686 =>
    brn b2686 (
     some (.bool true)) (
     some (.bool false))) (
    some (.bool false))) (
   some (.bool false)))
theorem c21_4 (N : Nat) (p2628 : PV) (c2629 : List PV) (c2630 : List PV) (c2631 : List PV) (r : PV)  (h : m21_4 N p2628 c2629 c2630 c2631 = some r) : V.Fn Tryd.prog 21 4 [.sl false 0 0 3 1, .v p2628] [(0, .r [.sl false 1 0 3 1, .sl false 2 0 3 1, .sl false 3 0 3 1]), (1, .p c2629), (2, .p c2630), (3, .p c2631)] (fun d ob' => d = .v r ∧ ob' = [(0, .r [.sl false 1 0 3 1, .sl false 2 0 3 1, .sl false 3 0 3 1]), (1, .p c2629), (2, .p c2630), (3, .p c2631)]) := by
 unfold m21_4 at h
 refine Fn_of (sz := 27) tab_ok [0, 1, 4, 5, 10, 14, 26] [.tmp 4] Tryd.func21 rfl rfl rfl (by simp) ?_
 simp only [initSt, initEnv, List.getD_cons_zero, List.getD_cons_succ, List.getD_nil]
 replace h := getL_some h; obtain ⟨n2633, c2634, h2632, h⟩ := h
 replace h := brn_some h; rcases h with ⟨h2635, h⟩ | ⟨h2635, h⟩
 ·refine W_sound tab_ok mixed 20 _ _ _ ?_
  simp -implicitDefEqProofs only [go_sem, Nat.reduceBEq, Nat.reduceLT, ↓reduceIte, h2632, h2635]
  repeat with_reducible refine And.intro (by first | kernel_rfl | decide) ?_
  obtain rfl := Option.some.inj h
  exact finD (st' := ⟨[], [(0, .dead), (1, .dead), (4, .v (.bool false)), (5, .dead), (10, .dead), (14, .dead), (26, .dead)], [(0, .r [.sl false 1 0 3 1, .sl false 2 0 3 1, .sl false 3 0 3 1]), (1, .p c2629), (2, .p c2630), (3, .p c2631)], 4, []⟩) (keepE_le [4] _) (OLe.refl _) (by kernel_rfl) (by simp only [go_sem, Nat.reduceBEq, resQ_tmp, resQ_nil, retD_one]; try simp [R.val, retD_one, retD_two, retD_three, retD_none])
 ·refine W_sound tab_ok mixed 20 _ _ _ ?_
  simp -implicitDefEqProofs only [go_sem, Nat.reduceBEq, Nat.reduceLT, ↓reduceIte, h2632, h2635]
  repeat with_reducible refine And.intro (by first | kernel_rfl | decide) ?_
  refine Wp_block ?_
  refine Wp_loopL (WpL_step ?_)
  replace h := grd_some h; obtain ⟨g2636, h⟩ := h
  replace h := grd_some h; obtain ⟨g2637, h⟩ := h
  replace h := getL_some h; obtain ⟨n2639, c2640, h2638, h⟩ := h
  replace h := bnd'_some h; obtain ⟨p2663, h2664, h⟩ := h
  (try dsimp only at h)
  refine W_sound tab_ok mixed 22 _ _ _ ?_
  simp -implicitDefEqProofs only [go_sem, Nat.reduceBEq, Nat.reduceAdd, Nat.reduceLT, Nat.reduceLeDiff, Int.reduceLE, Int.reduceLT, Int.reduceToNat, ↓reduceIte, g2636, g2637, h2638]
  repeat with_reducible refine And.intro (by first | kernel_rfl | decide) ?_
  refine Wp_callD [1] (c22_4 N _ _ _ h2664) rfl rfl rfl (by first | rfl | (simp only [go_sem, Nat.reduceBEq, Nat.reduceAdd, Nat.reduceSub, Nat.reduceMul, Nat.reduceLT, Nat.reduceLeDiff, Int.reduceLE, Int.reduceLT, Int.reduceToNat, Int.reduceBEq, Int.reduceBNe, ↓reduceIte, Int.reduceAdd, Int.reduceSub, Int.reduceGT, Int.reduceGE, h2632, h2635, g2636, g2637, h2638] <;> rfl)) rfl (by kernel_rfl) ?_
  replace h := getB_some h; obtain ⟨b2666, h2665, h⟩ := h
  replace h := brn_some h; rcases h with ⟨h2667, h⟩ | ⟨h2667, h⟩
  ·refine W_sound tab_ok mixed 10 _ _ _ ?_
   simp -implicitDefEqProofs only [go_sem, Nat.reduceBEq, Nat.reduceAdd, Nat.reduceSub, Nat.reduceMul, Nat.reduceLT, Int.reduceLE, Int.reduceToNat, ↓reduceIte, Int.reduceAdd, h2665, h2667]
   repeat with_reducible refine And.intro (by first | kernel_rfl | decide) ?_
   refine again (Wk_keep (st' := ⟨[], [(0, .sl false 0 0 3 1), (1, .v (.lst false n2633 c2634)), (4, .dead), (5, .v (.int .i64 1)), (10, .dead), (14, .dead), (26, .dead)], [(0, .r [.sl false 1 0 3 1, .sl false 2 0 3 1, .sl false 3 0 3 1]), (1, .p c2629), (2, .p c2630), (3, .p c2631)], 4, []⟩) [0, 1, 5] (by kernel_rfl)) ?_
   replace h := grd_some h; obtain ⟨g2668, h⟩ := h
   replace h := grd_some h; obtain ⟨g2669, h⟩ := h
   replace h := getL_some h; obtain ⟨n2671, c2672, h2670, h⟩ := h
   replace h := bnd'_some h; obtain ⟨p2673, h2674, h⟩ := h
   (try dsimp only at h)
   refine W_sound tab_ok mixed 22 _ _ _ ?_
   simp -implicitDefEqProofs only [go_sem, Nat.reduceBEq, Nat.reduceAdd, Nat.reduceLT, Nat.reduceLeDiff, Int.reduceLE, Int.reduceLT, Int.reduceToNat, ↓reduceIte, g2668, g2669, h2670]
   repeat with_reducible refine And.intro (by first | kernel_rfl | decide) ?_
   refine Wp_callD [2] (c22_4 N _ _ _ h2674) rfl rfl rfl (by first | rfl | (simp only [go_sem, Nat.reduceBEq, Nat.reduceAdd, Nat.reduceSub, Nat.reduceMul, Nat.reduceLT, Nat.reduceLeDiff, Int.reduceLE, Int.reduceLT, Int.reduceToNat, Int.reduceBEq, Int.reduceBNe, ↓reduceIte, Int.reduceAdd, Int.reduceSub, Int.reduceGT, Int.reduceGE, h2632, h2635, g2636, g2637, h2638, h2665, h2667, g2668, g2669, h2670] <;> rfl)) rfl (by kernel_rfl) ?_
   replace h := getB_some h; obtain ⟨b2676, h2675, h⟩ := h
   replace h := brn_some h; rcases h with ⟨h2677, h⟩ | ⟨h2677, h⟩
   ·refine W_sound tab_ok mixed 10 _ _ _ ?_
    simp -implicitDefEqProofs only [go_sem, Nat.reduceBEq, Nat.reduceAdd, Nat.reduceSub, Nat.reduceMul, Nat.reduceLT, Int.reduceLE, Int.reduceToNat, ↓reduceIte, Int.reduceAdd, h2675, h2677]
    repeat with_reducible refine And.intro (by first | kernel_rfl | decide) ?_
    refine again (Wk_keep (st' := ⟨[], [(0, .sl false 0 0 3 1), (1, .v (.lst false n2633 c2634)), (4, .dead), (5, .v (.int .i64 2)), (10, .dead), (14, .dead), (26, .dead)], [(0, .r [.sl false 1 0 3 1, .sl false 2 0 3 1, .sl false 3 0 3 1]), (1, .p c2629), (2, .p c2630), (3, .p c2631)], 4, []⟩) [0, 1, 5] (by kernel_rfl)) ?_
    replace h := grd_some h; obtain ⟨g2678, h⟩ := h
    replace h := grd_some h; obtain ⟨g2679, h⟩ := h
    replace h := getL_some h; obtain ⟨n2681, c2682, h2680, h⟩ := h
    replace h := bnd'_some h; obtain ⟨p2683, h2684, h⟩ := h
    (try dsimp only at h)
    refine W_sound tab_ok mixed 22 _ _ _ ?_
    simp -implicitDefEqProofs only [go_sem, Nat.reduceBEq, Nat.reduceAdd, Nat.reduceLT, Int.reduceLE, Int.reduceLT, Int.reduceToNat, ↓reduceIte, g2678, g2679, h2680]
    repeat with_reducible refine And.intro (by first | kernel_rfl | decide) ?_
    refine Wp_callD [3] (c22_4 N _ _ _ h2684) rfl rfl rfl (by first | rfl | (simp only [go_sem, Nat.reduceBEq, Nat.reduceAdd, Nat.reduceSub, Nat.reduceMul, Nat.reduceLT, Nat.reduceLeDiff, Int.reduceLE, Int.reduceLT, Int.reduceToNat, Int.reduceBEq, Int.reduceBNe, ↓reduceIte, Int.reduceAdd, Int.reduceSub, Int.reduceGT, Int.reduceGE, h2632, h2635, g2636, g2637, h2638, h2665, h2667, g2668, g2669, h2670, h2675, h2677, g2678, g2679, h2680] <;> rfl)) rfl (by kernel_rfl) ?_
    replace h := getB_some h; obtain ⟨b2686, h2685, h⟩ := h
    replace h := brn_some h; rcases h with ⟨h2687, h⟩ | ⟨h2687, h⟩
    ·refine W_sound tab_ok mixed 10 _ _ _ ?_
     simp -implicitDefEqProofs only [go_sem, Nat.reduceBEq, Nat.reduceAdd, Nat.reduceSub, Nat.reduceMul, Nat.reduceLT, Int.reduceLE, Int.reduceToNat, ↓reduceIte, Int.reduceAdd, h2685, h2687]
     repeat with_reducible refine And.intro (by first | kernel_rfl | decide) ?_
     refine again (Wk_keep (st' := ⟨[], [(0, .sl false 0 0 3 1), (1, .v (.lst false n2633 c2634)), (4, .dead), (5, .v (.int .i64 3)), (10, .dead), (14, .dead), (26, .dead)], [(0, .r [.sl false 1 0 3 1, .sl false 2 0 3 1, .sl false 3 0 3 1]), (1, .p c2629), (2, .p c2630), (3, .p c2631)], 4, []⟩) [0, 1, 5] (by kernel_rfl)) ?_
     refine W_sound tab_ok mixed 16 _ _ _ ?_
     simp -implicitDefEqProofs only [go_sem, Nat.reduceBEq, Nat.reduceLT, Int.reduceLE, Int.reduceLT, Int.reduceToNat, ↓reduceIte]
     repeat with_reducible refine And.intro (by first | kernel_rfl | decide) ?_
     obtain rfl := Option.some.inj h
     exact finD (st' := ⟨[], [(0, .dead), (1, .dead), (4, .v (.bool true)), (5, .dead), (10, .dead), (14, .dead), (26, .dead)], [(0, .r [.sl false 1 0 3 1, .sl false 2 0 3 1, .sl false 3 0 3 1]), (1, .p c2629), (2, .p c2630), (3, .p c2631)], 4, []⟩) (keepE_le [4] _) (OLe.refl _) (by kernel_rfl) (by simp only [go_sem, Nat.reduceBEq, resQ_tmp, resQ_nil, retD_one]; try simp [R.val, retD_one, retD_two, retD_three, retD_none])
    ·refine W_sound tab_ok mixed 9 _ _ _ ?_
     simp -implicitDefEqProofs only [go_sem, Nat.reduceBEq, Nat.reduceAdd, Nat.reduceSub, Nat.reduceMul, Nat.reduceLT, h2685, h2687]
     repeat with_reducible refine And.intro (by first | kernel_rfl | decide) ?_
     obtain rfl := Option.some.inj h
     exact finD (st' := ⟨[], [(0, .dead), (1, .dead), (4, .v (.bool false)), (5, .dead), (10, .dead), (14, .dead), (26, .dead)], [(0, .r [.sl false 1 0 3 1, .sl false 2 0 3 1, .sl false 3 0 3 1]), (1, .p c2629), (2, .p c2630), (3, .p c2631)], 4, []⟩) (keepE_le [4] _) (OLe.refl _) (by kernel_rfl) (by simp only [go_sem, Nat.reduceBEq, resQ_tmp, resQ_nil, retD_one]; try simp [R.val, retD_one, retD_two, retD_three, retD_none])
   ·refine W_sound tab_ok mixed 9 _ _ _ ?_
    simp -implicitDefEqProofs only [go_sem, Nat.reduceBEq, Nat.reduceAdd, Nat.reduceSub, Nat.reduceMul, Nat.reduceLT, h2675, h2677]
    repeat with_reducible refine And.intro (by first | kernel_rfl | decide) ?_
    obtain rfl := Option.some.inj h
    exact finD (st' := ⟨[], [(0, .dead), (1, .dead), (4, .v (.bool false)), (5, .dead), (10, .dead), (14, .dead), (26, .dead)], [(0, .r [.sl false 1 0 3 1, .sl false 2 0 3 1, .sl false 3 0 3 1]), (1, .p c2629), (2, .p c2630), (3, .p c2631)], 4, []⟩) (keepE_le [4] _) (OLe.refl _) (by kernel_rfl) (by simp only [go_sem, Nat.reduceBEq, resQ_tmp, resQ_nil, retD_one]; try simp [R.val, retD_one, retD_two, retD_three, retD_none])
  ·refine W_sound tab_ok mixed 9 _ _ _ ?_
   simp -implicitDefEqProofs only [go_sem, Nat.reduceBEq, Nat.reduceAdd, Nat.reduceSub, Nat.reduceMul, Nat.reduceLT, h2665, h2667]
   repeat with_reducible refine And.intro (by first | kernel_rfl | decide) ?_
   obtain rfl := Option.some.inj h
   exact finD (st' := ⟨[], [(0, .dead), (1, .dead), (4, .v (.bool false)), (5, .dead), (10, .dead), (14, .dead), (26, .dead)], [(0, .r [.sl false 1 0 3 1, .sl false 2 0 3 1, .sl false 3 0 3 1]), (1, .p c2629), (2, .p c2630), (3, .p c2631)], 4, []⟩) (keepE_le [4] _) (OLe.refl _) (by kernel_rfl) (by simp only [go_sem, Nat.reduceBEq, resQ_tmp, resQ_nil, retD_one]; try simp [R.val, retD_one, retD_two, retD_three, retD_none])
noncomputable def m22_5_L0 (N : Nat) (c2857 : List PV) (n2859 : Nat) (c2860 : List PV) : Nat → Int → Option ((PV ⊕ Unit))
 | 0, _ => none
 | n + 1, x2862 =>
  brn (decide (x2862 < 4)) (
   grd (0 ≤ x2862 ∧ x2862 < 4) <|
   grd ((Int.toNat x2862) < List.length c2857) <|
   getI .i64 (gp c2857 (Int.toNat x2862)) fun x2868 =>
   grd (x2862 < ((n2859 : Nat) : Int)) <|
   grd (0 < List.length (List.drop (Int.toNat x2862) c2860)) <|
   getI .i64 (gp c2860 (Int.toNat x2862)) fun x2872 =>
   brn (x2868 != x2872) (
    some (.inl (.bool false))) (
    m22_5_L0 N c2857 n2859 c2860 n (IntKind.i64.wrap (x2862 + 1)))) (
   some (.inr ()))
noncomputable def m22_5 (N : Nat) (p2856 : PV) (c2857 : List PV) : Option (PV) :=
 getL p2856 fun n2859 c2860 =>
 brn (4 != ((n2859 : Nat) : Int)) (
  some (.bool false)) (
  bnd' (m22_5_L0 N c2857 n2859 c2860 N 0) fun o =>
  match o with
  | .inl p2874 =>
   some p2874
  | .inr () =>
   some (.bool true))
theorem c22_5 (N : Nat) (p2856 : PV) (c2857 : List PV) (r : PV)  (h : m22_5 N p2856 c2857 = some r) : V.Fn Tryd.prog 22 1 [.sl false 0 0 4 1, .v p2856] [(0, .p c2857)] (fun d ob' => d = .v r ∧ ob' = [(0, .p c2857)]) := by
 unfold m22_5 at h
 refine Fn_of (sz := 26) tab_ok [0, 1, 4, 5, 10, 14, 25] [.tmp 4] Tryd.func22 rfl rfl rfl (by simp) ?_
 simp only [initSt, initEnv, List.getD_cons_zero, List.getD_cons_succ, List.getD_nil]
 replace h := getL_some h; obtain ⟨n2859, c2860, h2858, h⟩ := h
 replace h := brn_some h; rcases h with ⟨h2861, h⟩ | ⟨h2861, h⟩
 ·refine W_sound tab_ok mixed 20 _ _ _ ?_
  simp -implicitDefEqProofs only [go_sem, Nat.reduceBEq, Nat.reduceLT, ↓reduceIte, h2858, h2861]
  repeat with_reducible refine And.intro (by first | kernel_rfl | decide) ?_
  obtain rfl := Option.some.inj h
  exact finD (st' := ⟨[], [(0, .dead), (1, .dead), (4, .v (.bool false)), (5, .dead), (10, .dead), (14, .dead), (25, .dead)], [(0, .p c2857)], 1, []⟩) (keepE_le [4] _) (OLe.refl _) (by kernel_rfl) (by simp only [go_sem, Nat.reduceBEq, resQ_tmp, resQ_nil, retD_one]; try simp [R.val, retD_one, retD_two, retD_three, retD_none])
 ·refine W_sound tab_ok mixed 20 _ _ _ ?_
  simp -implicitDefEqProofs only [go_sem, Nat.reduceBEq, Nat.reduceLT, ↓reduceIte, h2858, h2861]
  repeat with_reducible refine And.intro (by first | kernel_rfl | decide) ?_
  replace h := bnd'_some h; obtain ⟨o2875, h2876, h2877⟩ := h
  refine Wp_cut (fun s => (.inr ()) = o2875 ∧ s = ⟨[], [(0, .dead), (1, .dead), (4, .dead), (5, .dead), (10, .dead), (14, .dead), (25, .dead)], [(0, .p c2857)], 1, []⟩) ?_ ?_
  ·refine Wp_block ?_
   refine Wp_loopG (fun n s => ∃ x2862, m22_5_L0 N c2857 n2859 c2860 n x2862 = some o2875 ∧ s = ⟨[], [(0, .sl false 0 0 4 1), (1, .v (.lst false n2859 c2860)), (4, .dead), (5, .v (.int .i64 x2862)), (10, .dead), (14, .dead), (25, .dead)], [(0, .p c2857)], 1, []⟩) N _ ?_ ⟨_, h2876, rfl⟩ ?_
   ·exact Wk_keep [0, 1, 5] (by kernel_rfl)
   clear h2876
   rintro n _ ⟨x2862, h2876, rfl⟩
   cases n with
   | zero => cases h2876
   | succ n =>
    rw [m22_5_L0] at h2876
    replace h2876 := brn_some h2876; rcases h2876 with ⟨h2863, h2876⟩ | ⟨h2863, h2876⟩
    ·replace h2876 := grd_some h2876; obtain ⟨⟨g2864, g2865⟩, h2876⟩ := h2876
     replace h2876 := grd_some h2876; obtain ⟨g2866, h2876⟩ := h2876
     replace h2876 := getI_some h2876; obtain ⟨x2868, h2867, h2876⟩ := h2876
     replace h2876 := grd_some h2876; obtain ⟨g2869, h2876⟩ := h2876
     replace h2876 := grd_some h2876; obtain ⟨g2870, h2876⟩ := h2876
     replace h2876 := getI_some h2876; obtain ⟨x2872, h2871, h2876⟩ := h2876
     replace h2876 := brn_some h2876; rcases h2876 with ⟨h2873, h2876⟩ | ⟨h2873, h2876⟩
     ·refine W_sound tab_ok mixed 31 _ _ _ ?_
      simp -implicitDefEqProofs only [go_sem, Nat.reduceBEq, Nat.reduceLT, Int.reduceLE, Int.reduceToNat, ↓reduceIte, g2864, g2865, g2866, h2867, g2869, g2870, h2871, h2873]
      repeat with_reducible refine And.intro (by first | kernel_rfl | decide) ?_
      obtain rfl := Option.some.inj h2876
      (try dsimp only at h2877)
      obtain rfl := Option.some.inj h2877
      exact finD (st' := ⟨[], [(0, .dead), (1, .dead), (4, .v (.bool false)), (5, .dead), (10, .dead), (14, .dead), (25, .dead)], [(0, .p c2857)], 1, []⟩) (keepE_le [4] _) (OLe.refl _) (by kernel_rfl) (by simp only [go_sem, Nat.reduceBEq, resQ_tmp, resQ_nil, retD_one]; try simp [R.val, retD_one, retD_two, retD_three, retD_none])
     ·refine W_sound tab_ok mixed 32 _ _ _ ?_
      simp -implicitDefEqProofs only [go_sem, Nat.reduceBEq, Nat.reduceLT, Int.reduceLE, Int.reduceToNat, ↓reduceIte, g2864, g2865, g2866, h2867, g2869, g2870, h2871, h2873]
      repeat with_reducible refine And.intro (by first | kernel_rfl | decide) ?_
      (try rw [h2867] at h2876)
      (try rw [h2871] at h2876)
      refine cutQ _ ?_ ⟨n, Nat.lt_succ_self n, _, h2876, rfl⟩
      exact Wk_keep [0, 1, 5] (by kernel_rfl)
    ·refine W_sound tab_ok mixed 10 _ _ _ ?_
     simp -implicitDefEqProofs only [go_sem, Nat.reduceBEq, Nat.reduceLT, Int.reduceLE, Int.reduceToNat, ↓reduceIte, h2863]
     repeat with_reducible refine And.intro (by first | kernel_rfl | decide) ?_
     obtain rfl := Option.some.inj h2876
     refine cutQ _ ?_ ⟨rfl, rfl⟩
     exact Wk_keep [] (by kernel_rfl)
  ·rintro _ ⟨rfl, rfl⟩
   (try dsimp only at h2877)
   refine W_sound tab_ok mixed 6 _ _ _ ?_
   simp -implicitDefEqProofs only [go_sem, Nat.reduceBEq, Nat.reduceLT]
   repeat with_reducible refine And.intro (by first | kernel_rfl | decide) ?_
   obtain rfl := Option.some.inj h2877
   exact finD (st' := ⟨[], [(0, .dead), (1, .dead), (4, .v (.bool true)), (5, .dead), (10, .dead), (14, .dead), (25, .dead)], [(0, .p c2857)], 1, []⟩) (keepE_le [4] _) (OLe.refl _) (by kernel_rfl) (by simp only [go_sem, Nat.reduceBEq, resQ_tmp, resQ_nil, retD_one]; try simp [R.val, retD_one, retD_two, retD_three, retD_none])
noncomputable def m21_5 (N : Nat) (p2842 : PV) (c2843 : List PV) (c2844 : List PV) (c2845 : List PV) (c2846 : List PV) : Option (PV) :=
 getL p2842 fun n2848 c2849 =>
 brn (4 != ((n2848 : Nat) : Int)) (
  some (.bool false)) (
  grd (0 < ((n2848 : Nat) : Int)) <|
  grd (0 < List.length c2849) <|
  getL (gp c2849 0) fun n2854 c2855 =>
  bnd' (m22_5 N (.lst false n2854 c2855) c2843) fun p2878 =>
  getB p2878 fun b2881 =>
  brn b2881 (
   grd (1 < ((n2848 : Nat) : Int)) <|
   grd (0 < List.length (List.drop 1 c2849)) <|
   getL (gp c2849 1) fun n2886 c2887 =>
   bnd' (m22_5 N (.lst false n2886 c2887) c2844) fun p2888 =>
   getB p2888 fun b2891 =>
   brn b2891 (
    grd (2 < ((n2848 : Nat) : Int)) <|
    grd (0 < List.length (List.drop 2 c2849)) <|
    getL (gp c2849 2) fun n2896 c2897 =>
    bnd' (m22_5 N (.lst false n2896 c2897) c2845) fun p2898 =>
    getB p2898 fun b2901 =>
    brn b2901 (
     grd (3 < ((n2848 : Nat) : Int)) <|
     grd (0 < List.length (List.drop 3 c2849)) <|
     getL (gp c2849 3) fun n2906 c2907 =>
     bnd' (m22_5 N (.lst false n2906 c2907) c2846) fun p2908 =>
     getB p2908 fun b2911 =>
     brn b2911 (
      some (.bool true)) (
      some (.bool false))) (
     some (.bool false))) (
    some (.bool false))) (
   some (.bool false)))
theorem c21_5 (N : Nat) (p2842 : PV) (c2843 : List PV) (c2844 : List PV) (c2845 : List PV) (c2846 : List PV) (r : PV)  (h : m21_5 N p2842 c2843 c2844 c2845 c2846 = some r) : V.Fn Tryd.prog 21 5 [.sl false 0 0 4 1, .v p2842] [(0, .r [.sl false 1 0 4 1, .sl false 2 0 4 1, .sl false 3 0 4 1, .sl false 4 0 4 1]), (1, .p c2843), (2, .p c2844), (3, .p c2845), (4, .p c2846)] (fun d ob' => d = .v r ∧ ob' = [(0, .r [.sl false 1 0 4 1, .sl false 2 0 4 1, .sl false 3 0 4 1, .sl false 4 0 4 1]), (1, .p c2843), (2, .p c2844), (3, .p c2845), (4, .p c2846)]) := by
 unfold m21_5 at h
 refine Fn_of (sz := 27) tab_ok [0, 1, 4, 5, 10, 14, 26] [.tmp 4] Tryd.func21 rfl rfl rfl (by simp) ?_
 simp only [initSt, initEnv, List.getD_cons_zero, List.getD_cons_succ, List.getD_nil]
 replace h := getL_some h; obtain ⟨n2848, c2849, h2847, h⟩ := h
 replace h := brn_some h; rcases h with ⟨h2850, h⟩ | ⟨h2850, h⟩
 ·refine W_sound tab_ok mixed 20 _ _ _ ?_
  simp -implicitDefEqProofs only [go_sem, Nat.reduceBEq, Nat.reduceLT, ↓reduceIte, h2847, h2850]
  repeat with_reducible refine And.intro (by first | kernel_rfl | decide) ?_
  obtain rfl := Option.some.inj h
  exact finD (st' := ⟨[], [(0, .dead), (1, .dead), (4, .v (.bool false)), (5, .dead), (10, .dead), (14, .dead), (26, .dead)], [(0, .r [.sl false 1 0 4 1, .sl false 2 0 4 1, .sl false 3 0 4 1, .sl false 4 0 4 1]), (1, .p c2843), (2, .p c2844), (3, .p c2845), (4, .p c2846)], 5, []⟩) (keepE_le [4] _) (OLe.refl _) (by kernel_rfl) (by simp only [go_sem, Nat.reduceBEq, resQ_tmp, resQ_nil, retD_one]; try simp [R.val, retD_one, retD_two, retD_three, retD_none])
 ·refine W_sound tab_ok mixed 20 _ _ _ ?_
  simp -implicitDefEqProofs only [go_sem, Nat.reduceBEq, Nat.reduceLT, ↓reduceIte, h2847, h2850]
  repeat with_reducible refine And.intro (by first | kernel_rfl | decide) ?_
  refine Wp_block ?_
  refine Wp_loopL (WpL_step ?_)
  replace h := grd_some h; obtain ⟨g2851, h⟩ := h
  replace h := grd_some h; obtain ⟨g2852, h⟩ := h
  replace h := getL_some h; obtain ⟨n2854, c2855, h2853, h⟩ := h
  replace h := bnd'_some h; obtain ⟨p2878, h2879, h⟩ := h
  (try dsimp only at h)
  refine W_sound tab_ok mixed 22 _ _ _ ?_
  simp -implicitDefEqProofs only [go_sem, Nat.reduceBEq, Nat.reduceAdd, Nat.reduceLT, Nat.reduceLeDiff, Int.reduceLE, Int.reduceLT, Int.reduceToNat, ↓reduceIte, g2851, g2852, h2853]
  repeat with_reducible refine And.intro (by first | kernel_rfl | decide) ?_
  refine Wp_callD [1] (c22_5 N _ _ _ h2879) rfl rfl rfl (by first | rfl | (simp only [go_sem, Nat.reduceBEq, Nat.reduceAdd, Nat.reduceSub, Nat.reduceMul, Nat.reduceLT, Nat.reduceLeDiff, Int.reduceLE, Int.reduceLT, Int.reduceToNat, Int.reduceBEq, Int.reduceBNe, ↓reduceIte, Int.reduceAdd, Int.reduceSub, Int.reduceGT, Int.reduceGE, h2847, h2850, g2851, g2852, h2853] <;> rfl)) rfl (by kernel_rfl) ?_
  replace h := getB_some h; obtain ⟨b2881, h2880, h⟩ := h
  replace h := brn_some h; rcases h with ⟨h2882, h⟩ | ⟨h2882, h⟩
  ·refine W_sound tab_ok mixed 10 _ _ _ ?_
   simp -implicitDefEqProofs only [go_sem, Nat.reduceBEq, Nat.reduceAdd, Nat.reduceSub, Nat.reduceMul, Nat.reduceLT, Int.reduceLE, Int.reduceToNat, ↓reduceIte, Int.reduceAdd, h2880, h2882]
   repeat with_reducible refine And.intro (by first | kernel_rfl | decide) ?_
   refine again (Wk_keep (st' := ⟨[], [(0, .sl false 0 0 4 1), (1, .v (.lst false n2848 c2849)), (4, .dead), (5, .v (.int .i64 1)), (10, .dead), (14, .dead), (26, .dead)], [(0, .r [.sl false 1 0 4 1, .sl false 2 0 4 1, .sl false 3 0 4 1, .sl false 4 0 4 1]), (1, .p c2843), (2, .p c2844), (3, .p c2845), (4, .p c2846)], 5, []⟩) [0, 1, 5] (by kernel_rfl)) ?_
   replace h := grd_some h; obtain ⟨g2883, h⟩ := h
   replace h := grd_some h; obtain ⟨g2884, h⟩ := h
   replace h := getL_some h; obtain ⟨n2886, c2887, h2885, h⟩ := h
   replace h := bnd'_some h; obtain ⟨p2888, h2889, h⟩ := h
   (try dsimp only at h)
   refine W_sound tab_ok mixed 22 _ _ _ ?_
   simp -implicitDefEqProofs only [go_sem, Nat.reduceBEq, Nat.reduceAdd, Nat.reduceLT, Nat.reduceLeDiff, Int.reduceLE, Int.reduceLT, Int.reduceToNat, ↓reduceIte, g2883, g2884, h2885]
   repeat with_reducible refine And.intro (by first | kernel_rfl | decide) ?_
   refine Wp_callD [2] (c22_5 N _ _ _ h2889) rfl rfl rfl (by first | rfl | (simp only [go_sem, Nat.reduceBEq, Nat.reduceAdd, Nat.reduceSub, Nat.reduceMul, Nat.reduceLT, Nat.reduceLeDiff, Int.reduceLE, Int.reduceLT, Int.reduceToNat, Int.reduceBEq, Int.reduceBNe, ↓reduceIte, Int.reduceAdd, Int.reduceSub, Int.reduceGT, Int.reduceGE, h2847, h2850, g2851, g2852, h2853, h2880, h2882, g2883, g2884, h2885] <;> rfl)) rfl (by kernel_rfl) ?_
   replace h := getB_some h; obtain ⟨b2891, h2890, h⟩ := h
   replace h := brn_some h; rcases h with ⟨h2892, h⟩ | ⟨h2892, h⟩
   ·refine W_sound tab_ok mixed 10 _ _ _ ?_
    simp -implicitDefEqProofs only [go_sem, Nat.reduceBEq, Nat.reduceAdd, Nat.reduceSub, Nat.reduceMul, Nat.reduceLT, Int.reduceLE, Int.reduceToNat, ↓reduceIte, Int.reduceAdd, h2890, h2892]
    repeat with_reducible refine And.intro (by first | kernel_rfl | decide) ?_
    refine again (Wk_keep (st' := ⟨[], [(0, .sl false 0 0 4 1), (1, .v (.lst false n2848 c2849)), (4, .dead), (5, .v (.int .i64 2)), (10, .dead), (14, .dead), (26, .dead)], [(0, .r [.sl false 1 0 4 1, .sl false 2 0 4 1, .sl false 3 0 4 1, .sl false 4 0 4 1]), (1, .p c2843), (2, .p c2844), (3, .p c2845), (4, .p c2846)], 5, []⟩) [0, 1, 5] (by kernel_rfl)) ?_
    replace h := grd_some h; obtain ⟨g2893, h⟩ := h
    replace h := grd_some h; obtain ⟨g2894, h⟩ := h
    replace h := getL_some h; obtain ⟨n2896, c2897, h2895, h⟩ := h
    replace h := bnd'_some h; obtain ⟨p2898, h2899, h⟩ := h
    (try dsimp only at h)
    refine W_sound tab_ok mixed 22 _ _ _ ?_
    simp -implicitDefEqProofs only [go_sem, Nat.reduceBEq, Nat.reduceAdd, Nat.reduceLT, Nat.reduceLeDiff, Int.reduceLE, Int.reduceLT, Int.reduceToNat, ↓reduceIte, g2893, g2894, h2895]
    repeat with_reducible refine And.intro (by first | kernel_rfl | decide) ?_
    refine Wp_callD [3] (c22_5 N _ _ _ h2899) rfl rfl rfl (by first | rfl | (simp only [go_sem, Nat.reduceBEq, Nat.reduceAdd, Nat.reduceSub, Nat.reduceMul, Nat.reduceLT, Nat.reduceLeDiff, Int.reduceLE, Int.reduceLT, Int.reduceToNat, Int.reduceBEq, Int.reduceBNe, ↓reduceIte, Int.reduceAdd, Int.reduceSub, Int.reduceGT, Int.reduceGE, h2847, h2850, g2851, g2852, h2853, h2880, h2882, g2883, g2884, h2885, h2890, h2892, g2893, g2894, h2895] <;> rfl)) rfl (by kernel_rfl) ?_
    replace h := getB_some h; obtain ⟨b2901, h2900, h⟩ := h
    replace h := brn_some h; rcases h with ⟨h2902, h⟩ | ⟨h2902, h⟩
    ·refine W_sound tab_ok mixed 10 _ _ _ ?_
     simp -implicitDefEqProofs only [go_sem, Nat.reduceBEq, Nat.reduceAdd, Nat.reduceSub, Nat.reduceMul, Nat.reduceLT, Int.reduceLE, Int.reduceToNat, ↓reduceIte, Int.reduceAdd, h2900, h2902]
     repeat with_reducible refine And.intro (by first | kernel_rfl | decide) ?_
     refine again (Wk_keep (st' := ⟨[], [(0, .sl false 0 0 4 1), (1, .v (.lst false n2848 c2849)), (4, .dead), (5, .v (.int .i64 3)), (10, .dead), (14, .dead), (26, .dead)], [(0, .r [.sl false 1 0 4 1, .sl false 2 0 4 1, .sl false 3 0 4 1, .sl false 4 0 4 1]), (1, .p c2843), (2, .p c2844), (3, .p c2845), (4, .p c2846)], 5, []⟩) [0, 1, 5] (by kernel_rfl)) ?_
     replace h := grd_some h; obtain ⟨g2903, h⟩ := h
     replace h := grd_some h; obtain ⟨g2904, h⟩ := h
     replace h := getL_some h; obtain ⟨n2906, c2907, h2905, h⟩ := h
     replace h := bnd'_some h; obtain ⟨p2908, h2909, h⟩ := h
     (try dsimp only at h)
     refine W_sound tab_ok mixed 22 _ _ _ ?_
     simp -implicitDefEqProofs only [go_sem, Nat.reduceBEq, Nat.reduceAdd, Nat.reduceLT, Int.reduceLE, Int.reduceLT, Int.reduceToNat, ↓reduceIte, g2903, g2904, h2905]
     repeat with_reducible refine And.intro (by first | kernel_rfl | decide) ?_
     refine Wp_callD [4] (c22_5 N _ _ _ h2909) rfl rfl rfl (by first | rfl | (simp only [go_sem, Nat.reduceBEq, Nat.reduceAdd, Nat.reduceSub, Nat.reduceMul, Nat.reduceLT, Nat.reduceLeDiff, Int.reduceLE, Int.reduceLT, Int.reduceToNat, Int.reduceBEq, Int.reduceBNe, ↓reduceIte, Int.reduceAdd, Int.reduceSub, Int.reduceGT, Int.reduceGE, h2847, h2850, g2851, g2852, h2853, h2880, h2882, g2883, g2884, h2885, h2890, h2892, g2893, g2894, h2895, h2900, h2902, g2903, g2904, h2905] <;> rfl)) rfl (by kernel_rfl) ?_
     replace h := getB_some h; obtain ⟨b2911, h2910, h⟩ := h
     replace h := brn_some h; rcases h with ⟨h2912, h⟩ | ⟨h2912, h⟩
     ·refine W_sound tab_ok mixed 10 _ _ _ ?_
      simp -implicitDefEqProofs only [go_sem, Nat.reduceBEq, Nat.reduceAdd, Nat.reduceSub, Nat.reduceMul, Nat.reduceLT, Int.reduceLE, Int.reduceToNat, ↓reduceIte, Int.reduceAdd, h2910, h2912]
      repeat with_reducible refine And.intro (by first | kernel_rfl | decide) ?_
      refine again (Wk_keep (st' := ⟨[], [(0, .sl false 0 0 4 1), (1, .v (.lst false n2848 c2849)), (4, .dead), (5, .v (.int .i64 4)), (10, .dead), (14, .dead), (26, .dead)], [(0, .r [.sl false 1 0 4 1, .sl false 2 0 4 1, .sl false 3 0 4 1, .sl false 4 0 4 1]), (1, .p c2843), (2, .p c2844), (3, .p c2845), (4, .p c2846)], 5, []⟩) [0, 1, 5] (by kernel_rfl)) ?_
      refine W_sound tab_ok mixed 16 _ _ _ ?_
      simp -implicitDefEqProofs only [go_sem, Nat.reduceBEq, Nat.reduceLT, Int.reduceLE, Int.reduceLT, Int.reduceToNat, ↓reduceIte]
      repeat with_reducible refine And.intro (by first | kernel_rfl | decide) ?_
      obtain rfl := Option.some.inj h
      exact finD (st' := ⟨[], [(0, .dead), (1, .dead), (4, .v (.bool true)), (5, .dead), (10, .dead), (14, .dead), (26, .dead)], [(0, .r [.sl false 1 0 4 1, .sl false 2 0 4 1, .sl false 3 0 4 1, .sl false 4 0 4 1]), (1, .p c2843), (2, .p c2844), (3, .p c2845), (4, .p c2846)], 5, []⟩) (keepE_le [4] _) (OLe.refl _) (by kernel_rfl) (by simp only [go_sem, Nat.reduceBEq, resQ_tmp, resQ_nil, retD_one]; try simp [R.val, retD_one, retD_two, retD_three, retD_none])
     ·refine W_sound tab_ok mixed 9 _ _ _ ?_
      simp -implicitDefEqProofs only [go_sem, Nat.reduceBEq, Nat.reduceAdd, Nat.reduceSub, Nat.reduceMul, Nat.reduceLT, h2910, h2912]
      repeat with_reducible refine And.intro (by first | kernel_rfl | decide) ?_
      obtain rfl := Option.some.inj h
      exact finD (st' := ⟨[], [(0, .dead), (1, .dead), (4, .v (.bool false)), (5, .dead), (10, .dead), (14, .dead), (26, .dead)], [(0, .r [.sl false 1 0 4 1, .sl false 2 0 4 1, .sl false 3 0 4 1, .sl false 4 0 4 1]), (1, .p c2843), (2, .p c2844), (3, .p c2845), (4, .p c2846)], 5, []⟩) (keepE_le [4] _) (OLe.refl _) (by kernel_rfl) (by simp only [go_sem, Nat.reduceBEq, resQ_tmp, resQ_nil, retD_one]; try simp [R.val, retD_one, retD_two, retD_three, retD_none])
    ·refine W_sound tab_ok mixed 9 _ _ _ ?_
     simp -implicitDefEqProofs only [go_sem, Nat.reduceBEq, Nat.reduceAdd, Nat.reduceSub, Nat.reduceMul, Nat.reduceLT, h2900, h2902]
     repeat with_reducible refine And.intro (by first | kernel_rfl | decide) ?_
     obtain rfl := Option.some.inj h
     exact finD (st' := ⟨[], [(0, .dead), (1, .dead), (4, .v (.bool false)), (5, .dead), (10, .dead), (14, .dead), (26, .dead)], [(0, .r [.sl false 1 0 4 1, .sl false 2 0 4 1, .sl false 3 0 4 1, .sl false 4 0 4 1]), (1, .p c2843), (2, .p c2844), (3, .p c2845), (4, .p c2846)], 5, []⟩) (keepE_le [4] _) (OLe.refl _) (by kernel_rfl) (by simp only [go_sem, Nat.reduceBEq, resQ_tmp, resQ_nil, retD_one]; try simp [R.val, retD_one, retD_two, retD_three, retD_none])
   ·refine W_sound tab_ok mixed 9 _ _ _ ?_
    simp -implicitDefEqProofs only [go_sem, Nat.reduceBEq, Nat.reduceAdd, Nat.reduceSub, Nat.reduceMul, Nat.reduceLT, h2890, h2892]
    repeat with_reducible refine And.intro (by first | kernel_rfl | decide) ?_
    obtain rfl := Option.some.inj h
    exact finD (st' := ⟨[], [(0, .dead), (1, .dead), (4, .v (.bool false)), (5, .dead), (10, .dead), (14, .dead), (26, .dead)], [(0, .r [.sl false 1 0 4 1, .sl false 2 0 4 1, .sl false 3 0 4 1, .sl false 4 0 4 1]), (1, .p c2843), (2, .p c2844), (3, .p c2845), (4, .p c2846)], 5, []⟩) (keepE_le [4] _) (OLe.refl _) (by kernel_rfl) (by simp only [go_sem, Nat.reduceBEq, resQ_tmp, resQ_nil, retD_one]; try simp [R.val, retD_one, retD_two, retD_three, retD_none])
  ·refine W_sound tab_ok mixed 9 _ _ _ ?_
   simp -implicitDefEqProofs only [go_sem, Nat.reduceBEq, Nat.reduceAdd, Nat.reduceSub, Nat.reduceMul, Nat.reduceLT, h2880, h2882]
   repeat with_reducible refine And.intro (by first | kernel_rfl | decide) ?_
   obtain rfl := Option.some.inj h
   exact finD (st' := ⟨[], [(0, .dead), (1, .dead), (4, .v (.bool false)), (5, .dead), (10, .dead), (14, .dead), (26, .dead)], [(0, .r [.sl false 1 0 4 1, .sl false 2 0 4 1, .sl false 3 0 4 1, .sl false 4 0 4 1]), (1, .p c2843), (2, .p c2844), (3, .p c2845), (4, .p c2846)], 5, []⟩) (keepE_le [4] _) (OLe.refl _) (by kernel_rfl) (by simp only [go_sem, Nat.reduceBEq, resQ_tmp, resQ_nil, retD_one]; try simp [R.val, retD_one, retD_two, retD_three, retD_none])
noncomputable def m22_6_L0 (N : Nat) (c3106 : List PV) (n3108 : Nat) (c3109 : List PV) : Nat → Int → Option ((PV ⊕ Unit))
 | 0, _ => none
 | n + 1, x3111 =>
  brn (decide (x3111 < 5)) (
   grd (0 ≤ x3111 ∧ x3111 < 5) <|
   grd ((Int.toNat x3111) < List.length c3106) <|
   getI .i64 (gp c3106 (Int.toNat x3111)) fun x3117 =>
   grd (x3111 < ((n3108 : Nat) : Int)) <|
   grd (0 < List.length (List.drop (Int.toNat x3111) c3109)) <|
   getI .i64 (gp c3109 (Int.toNat x3111)) fun x3121 =>
   brn (x3117 != x3121) (
    some (.inl (.bool false))) (
    m22_6_L0 N c3106 n3108 c3109 n (IntKind.i64.wrap (x3111 + 1)))) (
   some (.inr ()))
noncomputable def m22_6 (N : Nat) (p3105 : PV) (c3106 : List PV) : Option (PV) :=
 getL p3105 fun n3108 c3109 =>
 brn (5 != ((n3108 : Nat) : Int)) (
  some (.bool false)) (
  bnd' (m22_6_L0 N c3106 n3108 c3109 N 0) fun o =>
  match o with
  | .inl p3123 =>
   some p3123
  | .inr () =>
   some (.bool true))
theorem c22_6 (N : Nat) (p3105 : PV) (c3106 : List PV) (r : PV)  (h : m22_6 N p3105 c3106 = some r) : V.Fn Tryd.prog 22 1 [.sl false 0 0 5 1, .v p3105] [(0, .p c3106)] (fun d ob' => d = .v r ∧ ob' = [(0, .p c3106)]) := by
 unfold m22_6 at h
 refine Fn_of (sz := 26) tab_ok [0, 1, 4, 5, 10, 14, 25] [.tmp 4] Tryd.func22 rfl rfl rfl (by simp) ?_
 simp only [initSt, initEnv, List.getD_cons_zero, List.getD_cons_succ, List.getD_nil]
 replace h := getL_some h; obtain ⟨n3108, c3109, h3107, h⟩ := h
 replace h := brn_some h; rcases h with ⟨h3110, h⟩ | ⟨h3110, h⟩
 ·refine W_sound tab_ok mixed 20 _ _ _ ?_
  simp -implicitDefEqProofs only [go_sem, Nat.reduceBEq, Nat.reduceLT, ↓reduceIte, h3107, h3110]
  repeat with_reducible refine And.intro (by first | kernel_rfl | decide) ?_
  obtain rfl := Option.some.inj h
  exact finD (st' := ⟨[], [(0, .dead), (1, .dead), (4, .v (.bool false)), (5, .dead), (10, .dead), (14, .dead), (25, .dead)], [(0, .p c3106)], 1, []⟩) (keepE_le [4] _) (OLe.refl _) (by kernel_rfl) (by simp only [go_sem, Nat.reduceBEq, resQ_tmp, resQ_nil, retD_one]; try simp [R.val, retD_one, retD_two, retD_three, retD_none])
 ·refine W_sound tab_ok mixed 20 _ _ _ ?_
  simp -implicitDefEqProofs only [go_sem, Nat.reduceBEq, Nat.reduceLT, ↓reduceIte, h3107, h3110]
  repeat with_reducible refine And.intro (by first | kernel_rfl | decide) ?_
  replace h := bnd'_some h; obtain ⟨o3124, h3125, h3126⟩ := h
  refine Wp_cut (fun s => (.inr ()) = o3124 ∧ s = ⟨[], [(0, .dead), (1, .dead), (4, .dead), (5, .dead), (10, .dead), (14, .dead), (25, .dead)], [(0, .p c3106)], 1, []⟩) ?_ ?_
  ·refine Wp_block ?_
   refine Wp_loopG (fun n s => ∃ x3111, m22_6_L0 N c3106 n3108 c3109 n x3111 = some o3124 ∧ s = ⟨[], [(0, .sl false 0 0 5 1), (1, .v (.lst false n3108 c3109)), (4, .dead), (5, .v (.int .i64 x3111)), (10, .dead), (14, .dead), (25, .dead)], [(0, .p c3106)], 1, []⟩) N _ ?_ ⟨_, h3125, rfl⟩ ?_
   ·exact Wk_keep [0, 1, 5] (by kernel_rfl)
   clear h3125
   rintro n _ ⟨x3111, h3125, rfl⟩
   cases n with
   | zero => cases h3125
   | succ n =>
    rw [m22_6_L0] at h3125
    replace h3125 := brn_some h3125; rcases h3125 with ⟨h3112, h3125⟩ | ⟨h3112, h3125⟩
    ·replace h3125 := grd_some h3125; obtain ⟨⟨g3113, g3114⟩, h3125⟩ := h3125
     replace h3125 := grd_some h3125; obtain ⟨g3115, h3125⟩ := h3125
     replace h3125 := getI_some h3125; obtain ⟨x3117, h3116, h3125⟩ := h3125
     replace h3125 := grd_some h3125; obtain ⟨g3118, h3125⟩ := h3125
     replace h3125 := grd_some h3125; obtain ⟨g3119, h3125⟩ := h3125
     replace h3125 := getI_some h3125; obtain ⟨x3121, h3120, h3125⟩ := h3125
     replace h3125 := brn_some h3125; rcases h3125 with ⟨h3122, h3125⟩ | ⟨h3122, h3125⟩
     ·refine W_sound tab_ok mixed 31 _ _ _ ?_
      simp -implicitDefEqProofs only [go_sem, Nat.reduceBEq, Nat.reduceLT, Int.reduceLE, Int.reduceToNat, ↓reduceIte, g3113, g3114, g3115, h3116, g3118, g3119, h3120, h3122]
      repeat with_reducible refine And.intro (by first | kernel_rfl | decide) ?_
      obtain rfl := Option.some.inj h3125
      (try dsimp only at h3126)
      obtain rfl := Option.some.inj h3126
      exact finD (st' := ⟨[], [(0, .dead), (1, .dead), (4, .v (.bool false)), (5, .dead), (10, .dead), (14, .dead), (25, .dead)], [(0, .p c3106)], 1, []⟩) (keepE_le [4] _) (OLe.refl _) (by kernel_rfl) (by simp only [go_sem, Nat.reduceBEq, resQ_tmp, resQ_nil, retD_one]; try simp [R.val, retD_one, retD_two, retD_three, retD_none])
     ·refine W_sound tab_ok mixed 32 _ _ _ ?_
      simp -implicitDefEqProofs only [go_sem, Nat.reduceBEq, Nat.reduceLT, Int.reduceLE, Int.reduceToNat, ↓reduceIte, g3113, g3114, g3115, h3116, g3118, g3119, h3120, h3122]
      repeat with_reducible refine And.intro (by first | kernel_rfl | decide) ?_
      (try rw [h3116] at h3125)
      (try rw [h3120] at h3125)
      refine cutQ _ ?_ ⟨n, Nat.lt_succ_self n, _, h3125, rfl⟩
      exact Wk_keep [0, 1, 5] (by kernel_rfl)
    ·refine W_sound tab_ok mixed 10 _ _ _ ?_
     simp -implicitDefEqProofs only [go_sem, Nat.reduceBEq, Nat.reduceLT, Int.reduceLE, Int.reduceToNat, ↓reduceIte, h3112]
     repeat with_reducible refine And.intro (by first | kernel_rfl | decide) ?_
     obtain rfl := Option.some.inj h3125
     refine cutQ _ ?_ ⟨rfl, rfl⟩
     exact Wk_keep [] (by kernel_rfl)
  ·rintro _ ⟨rfl, rfl⟩
   (try dsimp only at h3126)
   refine W_sound tab_ok mixed 6 _ _ _ ?_
   simp -implicitDefEqProofs only [go_sem, Nat.reduceBEq, Nat.reduceLT]
   repeat with_reducible refine And.intro (by first | kernel_rfl | decide) ?_
   obtain rfl := Option.some.inj h3126
   exact finD (st' := ⟨[], [(0, .dead), (1, .dead), (4, .v (.bool true)), (5, .dead), (10, .dead), (14, .dead), (25, .dead)], [(0, .p c3106)], 1, []⟩) (keepE_le [4] _) (OLe.refl _) (by kernel_rfl) (by simp only [go_sem, Nat.reduceBEq, resQ_tmp, resQ_nil, retD_one]; try simp [R.val, retD_one, retD_two, retD_three, retD_none])
noncomputable def m21_6 (N : Nat) (p3090 : PV) (c3091 : List PV) (c3092 : List PV) (c3093 : List PV) (c3094 : List PV) (c3095 : List PV) : Option (PV) :=
 getL p3090 fun n3097 c3098 =>
 brn (5 != ((n3097 : Nat) : Int)) (
  some (.bool false)) (
  grd (0 < ((n3097 : Nat) : Int)) <|
  grd (0 < List.length c3098) <|
  getL (gp c3098 0) fun n3103 c3104 =>
  bnd' (m22_6 N (.lst false n3103 c3104) c3091) fun p3127 =>
  getB p3127 fun b3130 =>
  brn b3130 (
   grd (1 < ((n3097 : Nat) : Int)) <|
   grd (0 < List.length (List.drop 1 c3098)) <|
   getL (gp c3098 1) fun n3135 c3136 =>
   bnd' (m22_6 N (.lst false n3135 c3136) c3092) fun p3137 =>
   getB p3137 fun b3140 =>
   brn b3140 (
    grd (2 < ((n3097 : Nat) : Int)) <|
    grd (0 < List.length (List.drop 2 c3098)) <|
    getL (gp c3098 2) fun n3145 c3146 =>
    bnd' (m22_6 N (.lst false n3145 c3146) c3093) fun p3147 =>
    getB p3147 fun b3150 =>
    brn b3150 (
     grd (3 < ((n3097 : Nat) : Int)) <|
     grd (0 < List.length (List.drop 3 c3098)) <|
     getL (gp c3098 3) fun n3155 c3156 =>
     bnd' (m22_6 N (.lst false n3155 c3156) c3094) fun p3157 =>
     getB p3157 fun b3160 =>
     brn b3160 (
      grd (4 < ((n3097 : Nat) : Int)) <|
      grd (0 < List.length (List.drop 4 c3098)) <|
      getL (gp c3098 4) fun n3165 c3166 =>
      bnd' (m22_6 N (.lst false n3165 c3166) c3095) fun p3167 =>
      getB p3167 fun b3170 =>
      brn b3170 (
       some (.bool true)) (
       some (.bool false))) (
      some (.bool false))) (
     some (.bool false))) (
    some (.bool false))) (
   some (.bool false)))
theorem c21_6 (N : Nat) (p3090 : PV) (c3091 : List PV) (c3092 : List PV) (c3093 : List PV) (c3094 : List PV) (c3095 : List PV) (r : PV)  (h : m21_6 N p3090 c3091 c3092 c3093 c3094 c3095 = some r) : V.Fn Tryd.prog 21 6 [.sl false 0 0 5 1, .v p3090] [(0, .r [.sl false 1 0 5 1, .sl false 2 0 5 1, .sl false 3 0 5 1, .sl false 4 0 5 1, .sl false 5 0 5 1]), (1, .p c3091), (2, .p c3092), (3, .p c3093), (4, .p c3094), (5, .p c3095)] (fun d ob' => d = .v r ∧ ob' = [(0, .r [.sl false 1 0 5 1, .sl false 2 0 5 1, .sl false 3 0 5 1, .sl false 4 0 5 1, .sl false 5 0 5 1]), (1, .p c3091), (2, .p c3092), (3, .p c3093), (4, .p c3094), (5, .p c3095)]) := by
 unfold m21_6 at h
 refine Fn_of (sz := 27) tab_ok [0, 1, 4, 5, 10, 14, 26] [.tmp 4] Tryd.func21 rfl rfl rfl (by simp) ?_
 simp only [initSt, initEnv, List.getD_cons_zero, List.getD_cons_succ, List.getD_nil]
 replace h := getL_some h; obtain ⟨n3097, c3098, h3096, h⟩ := h
 replace h := brn_some h; rcases h with ⟨h3099, h⟩ | ⟨h3099, h⟩
 ·refine W_sound tab_ok mixed 20 _ _ _ ?_
  simp -implicitDefEqProofs only [go_sem, Nat.reduceBEq, Nat.reduceLT, ↓reduceIte, h3096, h3099]
  repeat with_reducible refine And.intro (by first | kernel_rfl | decide) ?_
  obtain rfl := Option.some.inj h
  exact finD (st' := ⟨[], [(0, .dead), (1, .dead), (4, .v (.bool false)), (5, .dead), (10, .dead), (14, .dead), (26, .dead)], [(0, .r [.sl false 1 0 5 1, .sl false 2 0 5 1, .sl false 3 0 5 1, .sl false 4 0 5 1, .sl false 5 0 5 1]), (1, .p c3091), (2, .p c3092), (3, .p c3093), (4, .p c3094), (5, .p c3095)], 6, []⟩) (keepE_le [4] _) (OLe.refl _) (by kernel_rfl) (by simp only [go_sem, Nat.reduceBEq, resQ_tmp, resQ_nil, retD_one]; try simp [R.val, retD_one, retD_two, retD_three, retD_none])
 ·refine W_sound tab_ok mixed 20 _ _ _ ?_
  simp -implicitDefEqProofs only [go_sem, Nat.reduceBEq, Nat.reduceLT, ↓reduceIte, h3096, h3099]
  repeat with_reducible refine And.intro (by first | kernel_rfl | decide) ?_
  refine Wp_block ?_
  refine Wp_loopL (WpL_step ?_)
  replace h := grd_some h; obtain ⟨g3100, h⟩ := h
  replace h := grd_some h; obtain ⟨g3101, h⟩ := h
  replace h := getL_some h; obtain ⟨n3103, c3104, h3102, h⟩ := h
  replace h := bnd'_some h; obtain ⟨p3127, h3128, h⟩ := h
  (try dsimp only at h)
  refine W_sound tab_ok mixed 22 _ _ _ ?_
  simp -implicitDefEqProofs only [go_sem, Nat.reduceBEq, Nat.reduceAdd, Nat.reduceLT, Nat.reduceLeDiff, Int.reduceLE, Int.reduceLT, Int.reduceToNat, ↓reduceIte, g3100, g3101, h3102]
  repeat with_reducible refine And.intro (by first | kernel_rfl | decide) ?_
  refine Wp_callD [1] (c22_6 N _ _ _ h3128) rfl rfl rfl (by first | rfl | (simp only [go_sem, Nat.reduceBEq, Nat.reduceAdd, Nat.reduceSub, Nat.reduceMul, Nat.reduceLT, Nat.reduceLeDiff, Int.reduceLE, Int.reduceLT, Int.reduceToNat, Int.reduceBEq, Int.reduceBNe, ↓reduceIte, Int.reduceAdd, Int.reduceSub, Int.reduceGT, Int.reduceGE, h3096, h3099, g3100, g3101, h3102] <;> rfl)) rfl (by kernel_rfl) ?_
  replace h := getB_some h; obtain ⟨b3130, h3129, h⟩ := h
  replace h := brn_some h; rcases h with ⟨h3131, h⟩ | ⟨h3131, h⟩
  ·refine W_sound tab_ok mixed 10 _ _ _ ?_
   simp -implicitDefEqProofs only [go_sem, Nat.reduceBEq, Nat.reduceAdd, Nat.reduceSub, Nat.reduceMul, Nat.reduceLT, Int.reduceLE, Int.reduceToNat, ↓reduceIte, Int.reduceAdd, h3129, h3131]
   repeat with_reducible refine And.intro (by first | kernel_rfl | decide) ?_
   refine again (Wk_keep (st' := ⟨[], [(0, .sl false 0 0 5 1), (1, .v (.lst false n3097 c3098)), (4, .dead), (5, .v (.int .i64 1)), (10, .dead), (14, .dead), (26, .dead)], [(0, .r [.sl false 1 0 5 1, .sl false 2 0 5 1, .sl false 3 0 5 1, .sl false 4 0 5 1, .sl false 5 0 5 1]), (1, .p c3091), (2, .p c3092), (3, .p c3093), (4, .p c3094), (5, .p c3095)], 6, []⟩) [0, 1, 5] (by kernel_rfl)) ?_
   replace h := grd_some h; obtain ⟨g3132, h⟩ := h
   replace h := grd_some h; obtain ⟨g3133, h⟩ := h
   replace h := getL_some h; obtain ⟨n3135, c3136, h3134, h⟩ := h
   replace h := bnd'_some h; obtain ⟨p3137, h3138, h⟩ := h
   (try dsimp only at h)
   refine W_sound tab_ok mixed 22 _ _ _ ?_
   simp -implicitDefEqProofs only [go_sem, Nat.reduceBEq, Nat.reduceAdd, Nat.reduceLT, Nat.reduceLeDiff, Int.reduceLE, Int.reduceLT, Int.reduceToNat, ↓reduceIte, g3132, g3133, h3134]
   repeat with_reducible refine And.intro (by first | kernel_rfl | decide) ?_
   refine Wp_callD [2] (c22_6 N _ _ _ h3138) rfl rfl rfl (by first | rfl | (simp only [go_sem, Nat.reduceBEq, Nat.reduceAdd, Nat.reduceSub, Nat.reduceMul, Nat.reduceLT, Nat.reduceLeDiff, Int.reduceLE, Int.reduceLT, Int.reduceToNat, Int.reduceBEq, Int.reduceBNe, ↓reduceIte, Int.reduceAdd, Int.reduceSub, Int.reduceGT, Int.reduceGE, h3096, h3099, g3100, g3101, h3102, h3129, h3131, g3132, g3133, h3134] <;> rfl)) rfl (by kernel_rfl) ?_
   replace h := getB_some h; obtain ⟨b3140, h3139, h⟩ := h
   replace h := brn_some h; rcases h with ⟨h3141, h⟩ | ⟨h3141, h⟩
   ·refine W_sound tab_ok mixed 10 _ _ _ ?_
    simp -implicitDefEqProofs only [go_sem, Nat.reduceBEq, Nat.reduceAdd, Nat.reduceSub, Nat.reduceMul, Nat.reduceLT, Int.reduceLE, Int.reduceToNat, ↓reduceIte, Int.reduceAdd, h3139, h3141]
    repeat with_reducible refine And.intro (by first | kernel_rfl | decide) ?_
    refine again (Wk_keep (st' := ⟨[], [(0, .sl false 0 0 5 1), (1, .v (.lst false n3097 c3098)), (4, .dead), (5, .v (.int .i64 2)), (10, .dead), (14, .dead), (26, .dead)], [(0, .r [.sl false 1 0 5 1, .sl false 2 0 5 1, .sl false 3 0 5 1, .sl false 4 0 5 1, .sl false 5 0 5 1]), (1, .p c3091), (2, .p c3092), (3, .p c3093), (4, .p c3094), (5, .p c3095)], 6, []⟩) [0, 1, 5] (by kernel_rfl)) ?_
    replace h := grd_some h; obtain ⟨g3142, h⟩ := h
    replace h := grd_some h; obtain ⟨g3143, h⟩ := h
    replace h := getL_some h; obtain ⟨n3145, c3146, h3144, h⟩ := h
    replace h := bnd'_some h; obtain ⟨p3147, h3148, h⟩ := h
    (try dsimp only at h)
    refine W_sound tab_ok mixed 22 _ _ _ ?_
    simp -implicitDefEqProofs only [go_sem, Nat.reduceBEq, Nat.reduceAdd, Nat.reduceLT, Nat.reduceLeDiff, Int.reduceLE, Int.reduceLT, Int.reduceToNat, ↓reduceIte, g3142, g3143, h3144]
    repeat with_reducible refine And.intro (by first | kernel_rfl | decide) ?_
    refine Wp_callD [3] (c22_6 N _ _ _ h3148) rfl rfl rfl (by first | rfl | (simp only [go_sem, Nat.reduceBEq, Nat.reduceAdd, Nat.reduceSub, Nat.reduceMul, Nat.reduceLT, Nat.reduceLeDiff, Int.reduceLE, Int.reduceLT, Int.reduceToNat, Int.reduceBEq, Int.reduceBNe, ↓reduceIte, Int.reduceAdd, Int.reduceSub, Int.reduceGT, Int.reduceGE, h3096, h3099, g3100, g3101, h3102, h3129, h3131, g3132, g3133, h3134, h3139, h3141, g3142, g3143, h3144] <;> rfl)) rfl (by kernel_rfl) ?_
    replace h := getB_some h; obtain ⟨b3150, h3149, h⟩ := h
    replace h := brn_some h; rcases h with ⟨h3151, h⟩ | ⟨h3151, h⟩
    ·refine W_sound tab_ok mixed 10 _ _ _ ?_
     simp -implicitDefEqProofs only [go_sem, Nat.reduceBEq, Nat.reduceAdd, Nat.reduceSub, Nat.reduceMul, Nat.reduceLT, Int.reduceLE, Int.reduceToNat, ↓reduceIte, Int.reduceAdd, h3149, h3151]
     repeat with_reducible refine And.intro (by first | kernel_rfl | decide) ?_
     refine again (Wk_keep (st' := ⟨[], [(0, .sl false 0 0 5 1), (1, .v (.lst false n3097 c3098)), (4, .dead), (5, .v (.int .i64 3)), (10, .dead), (14, .dead), (26, .dead)], [(0, .r [.sl false 1 0 5 1, .sl false 2 0 5 1, .sl false 3 0 5 1, .sl false 4 0 5 1, .sl false 5 0 5 1]), (1, .p c3091), (2, .p c3092), (3, .p c3093), (4, .p c3094), (5, .p c3095)], 6, []⟩) [0, 1, 5] (by kernel_rfl)) ?_
     replace h := grd_some h; obtain ⟨g3152, h⟩ := h
     replace h := grd_some h; obtain ⟨g3153, h⟩ := h
     replace h := getL_some h; obtain ⟨n3155, c3156, h3154, h⟩ := h
     replace h := bnd'_some h; obtain ⟨p3157, h3158, h⟩ := h
     (try dsimp only at h)
     refine W_sound tab_ok mixed 22 _ _ _ ?_
     simp -implicitDefEqProofs only [go_sem, Nat.reduceBEq, Nat.reduceAdd, Nat.reduceLT, Nat.reduceLeDiff, Int.reduceLE, Int.reduceLT, Int.reduceToNat, ↓reduceIte, g3152, g3153, h3154]
     repeat with_reducible refine And.intro (by first | kernel_rfl | decide) ?_
     refine Wp_callD [4] (c22_6 N _ _ _ h3158) rfl rfl rfl (by first | rfl | (simp only [go_sem, Nat.reduceBEq, Nat.reduceAdd, Nat.reduceSub, Nat.reduceMul, Nat.reduceLT, Nat.reduceLeDiff, Int.reduceLE, Int.reduceLT, Int.reduceToNat, Int.reduceBEq, Int.reduceBNe, ↓reduceIte, Int.reduceAdd, Int.reduceSub, Int.reduceGT, Int.reduceGE, h3096, h3099, g3100, g3101, h3102, h3129, h3131, g3132, g3133, h3134, h3139, h3141, g3142, g3143, h3144, h3149, h3151, g3152, g3153, h3154] <;> rfl)) rfl (by kernel_rfl) ?_
     replace h := getB_some h; obtain ⟨b3160, h3159, h⟩ := h
     replace h := brn_some h; rcases h with ⟨h3161, h⟩ | ⟨h3161, h⟩
     ·refine W_sound tab_ok mixed 10 _ _ _ ?_
      simp -implicitDefEqProofs only [go_sem, Nat.reduceBEq, Nat.reduceAdd, Nat.reduceSub, Nat.reduceMul, Nat.reduceLT, Int.reduceLE, Int.reduceToNat, ↓reduceIte, Int.reduceAdd, h3159, h3161]
      repeat with_reducible refine And.intro (by first | kernel_rfl | decide) ?_
      refine again (Wk_keep (st' := ⟨[], [(0, .sl false 0 0 5 1), (1, .v (.lst false n3097 c3098)), (4, .dead), (5, .v (.int .i64 4)), (10, .dead), (14, .dead), (26, .dead)], [(0, .r [.sl false 1 0 5 1, .sl false 2 0 5 1, .sl false 3 0 5 1, .sl false 4 0 5 1, .sl false 5 0 5 1]), (1, .p c3091), (2, .p c3092), (3, .p c3093), (4, .p c3094), (5, .p c3095)], 6, []⟩) [0, 1, 5] (by kernel_rfl)) ?_
      replace h := grd_some h; obtain ⟨g3162, h⟩ := h
      replace h := grd_some h; obtain ⟨g3163, h⟩ := h
      replace h := getL_some h; obtain ⟨n3165, c3166, h3164, h⟩ := h
      replace h := bnd'_some h; obtain ⟨p3167, h3168, h⟩ := h
      (try dsimp only at h)
      refine W_sound tab_ok mixed 22 _ _ _ ?_
      simp -implicitDefEqProofs only [go_sem, Nat.reduceBEq, Nat.reduceAdd, Nat.reduceLT, Int.reduceLE, Int.reduceLT, Int.reduceToNat, ↓reduceIte, g3162, g3163, h3164]
      repeat with_reducible refine And.intro (by first | kernel_rfl | decide) ?_
      refine Wp_callD [5] (c22_6 N _ _ _ h3168) rfl rfl rfl (by first | rfl | (simp only [go_sem, Nat.reduceBEq, Nat.reduceAdd, Nat.reduceSub, Nat.reduceMul, Nat.reduceLT, Nat.reduceLeDiff, Int.reduceLE, Int.reduceLT, Int.reduceToNat, Int.reduceBEq, Int.reduceBNe, ↓reduceIte, Int.reduceAdd, Int.reduceSub, Int.reduceGT, Int.reduceGE, h3096, h3099, g3100, g3101, h3102, h3129, h3131, g3132, g3133, h3134, h3139, h3141, g3142, g3143, h3144, h3149, h3151, g3152, g3153, h3154, h3159, h3161, g3162, g3163, h3164] <;> rfl)) rfl (by kernel_rfl) ?_
      replace h := getB_some h; obtain ⟨b3170, h3169, h⟩ := h
      replace h := brn_some h; rcases h with ⟨h3171, h⟩ | ⟨h3171, h⟩
      ·refine W_sound tab_ok mixed 10 _ _ _ ?_
       simp -implicitDefEqProofs only [go_sem, Nat.reduceBEq, Nat.reduceAdd, Nat.reduceSub, Nat.reduceMul, Nat.reduceLT, Int.reduceLE, Int.reduceToNat, ↓reduceIte, Int.reduceAdd, h3169, h3171]
       repeat with_reducible refine And.intro (by first | kernel_rfl | decide) ?_
       refine again (Wk_keep (st' := ⟨[], [(0, .sl false 0 0 5 1), (1, .v (.lst false n3097 c3098)), (4, .dead), (5, .v (.int .i64 5)), (10, .dead), (14, .dead), (26, .dead)], [(0, .r [.sl false 1 0 5 1, .sl false 2 0 5 1, .sl false 3 0 5 1, .sl false 4 0 5 1, .sl false 5 0 5 1]), (1, .p c3091), (2, .p c3092), (3, .p c3093), (4, .p c3094), (5, .p c3095)], 6, []⟩) [0, 1, 5] (by kernel_rfl)) ?_
       refine W_sound tab_ok mixed 16 _ _ _ ?_
       simp -implicitDefEqProofs only [go_sem, Nat.reduceBEq, Nat.reduceLT, Int.reduceLE, Int.reduceLT, Int.reduceToNat, ↓reduceIte]
       repeat with_reducible refine And.intro (by first | kernel_rfl | decide) ?_
       obtain rfl := Option.some.inj h
       exact finD (st' := ⟨[], [(0, .dead), (1, .dead), (4, .v (.bool true)), (5, .dead), (10, .dead), (14, .dead), (26, .dead)], [(0, .r [.sl false 1 0 5 1, .sl false 2 0 5 1, .sl false 3 0 5 1, .sl false 4 0 5 1, .sl false 5 0 5 1]), (1, .p c3091), (2, .p c3092), (3, .p c3093), (4, .p c3094), (5, .p c3095)], 6, []⟩) (keepE_le [4] _) (OLe.refl _) (by kernel_rfl) (by simp only [go_sem, Nat.reduceBEq, resQ_tmp, resQ_nil, retD_one]; try simp [R.val, retD_one, retD_two, retD_three, retD_none])
      ·refine W_sound tab_ok mixed 9 _ _ _ ?_
       simp -implicitDefEqProofs only [go_sem, Nat.reduceBEq, Nat.reduceAdd, Nat.reduceSub, Nat.reduceMul, Nat.reduceLT, h3169, h3171]
       repeat with_reducible refine And.intro (by first | kernel_rfl | decide) ?_
       obtain rfl := Option.some.inj h
       exact finD (st' := ⟨[], [(0, .dead), (1, .dead), (4, .v (.bool false)), (5, .dead), (10, .dead), (14, .dead), (26, .dead)], [(0, .r [.sl false 1 0 5 1, .sl false 2 0 5 1, .sl false 3 0 5 1, .sl false 4 0 5 1, .sl false 5 0 5 1]), (1, .p c3091), (2, .p c3092), (3, .p c3093), (4, .p c3094), (5, .p c3095)], 6, []⟩) (keepE_le [4] _) (OLe.refl _) (by kernel_rfl) (by simp only [go_sem, Nat.reduceBEq, resQ_tmp, resQ_nil, retD_one]; try simp [R.val, retD_one, retD_two, retD_three, retD_none])
     ·refine W_sound tab_ok mixed 9 _ _ _ ?_
      simp -implicitDefEqProofs only [go_sem, Nat.reduceBEq, Nat.reduceAdd, Nat.reduceSub, Nat.reduceMul, Nat.reduceLT, h3159, h3161]
      repeat with_reducible refine And.intro (by first | kernel_rfl | decide) ?_
      obtain rfl := Option.some.inj h
      exact finD (st' := ⟨[], [(0, .dead), (1, .dead), (4, .v (.bool false)), (5, .dead), (10, .dead), (14, .dead), (26, .dead)], [(0, .r [.sl false 1 0 5 1, .sl false 2 0 5 1, .sl false 3 0 5 1, .sl false 4 0 5 1, .sl false 5 0 5 1]), (1, .p c3091), (2, .p c3092), (3, .p c3093), (4, .p c3094), (5, .p c3095)], 6, []⟩) (keepE_le [4] _) (OLe.refl _) (by kernel_rfl) (by simp only [go_sem, Nat.reduceBEq, resQ_tmp, resQ_nil, retD_one]; try simp [R.val, retD_one, retD_two, retD_three, retD_none])
    ·refine W_sound tab_ok mixed 9 _ _ _ ?_
     simp -implicitDefEqProofs only [go_sem, Nat.reduceBEq, Nat.reduceAdd, Nat.reduceSub, Nat.reduceMul, Nat.reduceLT, h3149, h3151]
     repeat with_reducible refine And.intro (by first | kernel_rfl | decide) ?_
     obtain rfl := Option.some.inj h
     exact finD (st' := ⟨[], [(0, .dead), (1, .dead), (4, .v (.bool false)), (5, .dead), (10, .dead), (14, .dead), (26, .dead)], [(0, .r [.sl false 1 0 5 1, .sl false 2 0 5 1, .sl false 3 0 5 1, .sl false 4 0 5 1, .sl false 5 0 5 1]), (1, .p c3091), (2, .p c3092), (3, .p c3093), (4, .p c3094), (5, .p c3095)], 6, []⟩) (keepE_le [4] _) (OLe.refl _) (by kernel_rfl) (by simp only [go_sem, Nat.reduceBEq, resQ_tmp, resQ_nil, retD_one]; try simp [R.val, retD_one, retD_two, retD_three, retD_none])
   ·refine W_sound tab_ok mixed 9 _ _ _ ?_
    simp -implicitDefEqProofs only [go_sem, Nat.reduceBEq, Nat.reduceAdd, Nat.reduceSub, Nat.reduceMul, Nat.reduceLT, h3139, h3141]
    repeat with_reducible refine And.intro (by first | kernel_rfl | decide) ?_
    obtain rfl := Option.some.inj h
    exact finD (st' := ⟨[], [(0, .dead), (1, .dead), (4, .v (.bool false)), (5, .dead), (10, .dead), (14, .dead), (26, .dead)], [(0, .r [.sl false 1 0 5 1, .sl false 2 0 5 1, .sl false 3 0 5 1, .sl false 4 0 5 1, .sl false 5 0 5 1]), (1, .p c3091), (2, .p c3092), (3, .p c3093), (4, .p c3094), (5, .p c3095)], 6, []⟩) (keepE_le [4] _) (OLe.refl _) (by kernel_rfl) (by simp only [go_sem, Nat.reduceBEq, resQ_tmp, resQ_nil, retD_one]; try simp [R.val, retD_one, retD_two, retD_three, retD_none])
  ·refine W_sound tab_ok mixed 9 _ _ _ ?_
   simp -implicitDefEqProofs only [go_sem, Nat.reduceBEq, Nat.reduceAdd, Nat.reduceSub, Nat.reduceMul, Nat.reduceLT, h3129, h3131]
   repeat with_reducible refine And.intro (by first | kernel_rfl | decide) ?_
   obtain rfl := Option.some.inj h
   exact finD (st' := ⟨[], [(0, .dead), (1, .dead), (4, .v (.bool false)), (5, .dead), (10, .dead), (14, .dead), (26, .dead)], [(0, .r [.sl false 1 0 5 1, .sl false 2 0 5 1, .sl false 3 0 5 1, .sl false 4 0 5 1, .sl false 5 0 5 1]), (1, .p c3091), (2, .p c3092), (3, .p c3093), (4, .p c3094), (5, .p c3095)], 6, []⟩) (keepE_le [4] _) (OLe.refl _) (by kernel_rfl) (by simp only [go_sem, Nat.reduceBEq, resQ_tmp, resQ_nil, retD_one]; try simp [R.val, retD_one, retD_two, retD_three, retD_none])
end Go.Proofs.YtcaecfofgdogbaaDoor
