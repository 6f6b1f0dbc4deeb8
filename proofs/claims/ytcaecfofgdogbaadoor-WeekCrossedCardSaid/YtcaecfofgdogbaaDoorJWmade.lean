/-
  The law's plan by numbers.
-/
import Derived.Test.YtcaecfofgdogbaaDoorJWrB
import Derived.Test.YtcaecfofgdogbaaDoorJV39
import Derived.Test.YtcaecfofgdogbaaDoorJV36
import Derived.Test.YtcaecfofgdogbaaDoorJWxA
import Derived.Test.YtcaecfofgdogbaaDoorJV41
set_option linter.unusedSimpArgs false
set_option linter.unusedVariables false
namespace Go.Proofs.YtcaecfofgdogbaaDoor
open Go.V
open Nat renaming reduceBEq → qa, reduceAdd → qb, reduceSub → qc, reduceMul → qd, reduceLT → qe, reduceLeDiff → qf
open Int renaming reduceLE → qg, reduceLT → qh, reduceToNat → qi, reduceBEq → qj, reduceBNe → qk
set_option maxRecDepth 100000
set_option maxHeartbeats 4000000
set_option linter.unusedSimpArgs false
set_option linter.unusedVariables false
attribute [local go_sem] tl1 tl2 tl3 tl4 tl5 tl9 tl17 tl21 tl22 tl23 tl24 tl25 tl27 tl28 tl30 tl31 tl32 tl33 tl35 tl36 tl37 tl38 tl39 tl40 tl42 tl43 tl44 tl45 tl46 tl47 tl48 tl49 tl50 tl51 tl52 tl53 tl54 tl55 tl56 tl57 tl58 tl59 tl61 tl62 tl63 tl64 tl65 tl66 tl67 tl68 tl69 tl70 tl71 tl72 tl73 tl74 tl75 tl76 tl77 tl78 tl79 tl80 tl81 tl82 tl83 tl84 tl85 tl87 tl89 tl90 tl91 tl92 tl93 tl94 tl96 tl97 tl98 tl99 tl100 tl101 tl102 tl103 tl104 tl105 tl106 tl107 tl108 tl109 tl115 tl119
def getA7 {α : Type} (p : PV) (k : PV → PV → PV → PV → PV → PV → PV → Option α) : Option α := match p with | .agg [a0, a1, a2, a3, a4, a5, a6] => k a0 a1 a2 a3 a4 a5 a6 | _ => none
theorem getA7_some {α : Type} {p : PV} {k : PV → PV → PV → PV → PV → PV → PV → Option α} {r : α} (h : getA7 p k = some r) : ∃ a0 a1 a2 a3 a4 a5 a6, p = .agg [a0, a1, a2, a3, a4, a5, a6] ∧ k a0 a1 a2 a3 a4 a5 a6 = some r := by
  unfold getA7 at h; split at h
  · exact ⟨_, _, _, _, _, _, _, rfl, h⟩
  · cases h
def m86_L0 (N : Nat) (x1244 : Int) (n1246 : Nat) (c1247 : List PV) : Nat → Int → Option ((PV ⊕ Unit))
  | 0, _ => none
  | n + 1, x1248 =>
    brn (decide (x1248 < ((n1246 : Nat) : Int))) (
      grd (0 ≤ x1248 ∧ x1248 < ((n1246 : Nat) : Int)) <|
      grd (0 < List.length (List.drop (Int.toNat x1248) c1247)) <|
      getI .i64 (gp c1247 (Int.toNat x1248)) fun x1254 =>
      brn (x1244 == x1254) (
        some (.inl (.int .i64 x1248))) (
        m86_L0 N x1244 n1246 c1247 n (IntKind.i64.wrap (x1248 + 1)))) (
      some (.inr ()))
def m86 (N : Nat) (p1243 : PV) (x1244 : Int) : Option (PV) :=
  getL p1243 fun n1246 c1247 =>
  bnd' (m86_L0 N x1244 n1246 c1247 N 0) fun o =>
  match o with
  | .inl p1256 =>
    some p1256
  | .inr () =>
    some (.int .i64 (-1))
theorem c86 (N : Nat) (p1243 : PV) (x1244 : Int) (r : PV)  (h : m86 N p1243 x1244 = some r) : FnP Tryd.prog 86 [p1243, (.int .i64 x1244)] r := by
  unfold m86 at h
  refine Fn_of (sz := 19) tab_ok [0, 1, 4, 5, 7, 8, 9, 16] [.tmp 4] Tryd.func86 rfl rfl rfl (by simp) ?_
  simp only [initSt, initEnv, List.map_cons, List.map_nil, List.getD_cons_zero, List.getD_cons_succ, List.getD_nil]
  have hh := getL_some h; clear h; obtain ⟨n1246, c1247, h1245, h⟩ := hh
  refine W_sound tab_ok mixed 11 _ _ _ ?_
  simp -implicitDefEqProofs only [go_sem, qa, qb, qc, qd, qe, qf, qg, qh, qi, qj, qk, ↓reduceIte, h1245]
  repeat with_reducible refine ⟨by first | kernel_rfl | decide, ?_⟩
  have hh := bnd'_some h; clear h; obtain ⟨o1257, h1258, h1259⟩ := hh
  refine Wp_cut (fun s => (.inr ()) = o1257 ∧ s = ⟨[], [(0, .dead), (1, .dead), (4, .dead), (5, .dead), (7, .dead), (8, .dead), (9, .dead), (16, .dead)], [], 0, []⟩) ?_ ?_
  · refine Wp_block ?_
    refine Wp_loopG (fun n s => ∃ x1248, m86_L0 N x1244 n1246 c1247 n x1248 = some o1257 ∧ s = ⟨[], [(0, .v (.lst false n1246 c1247)), (1, .v (.int .i64 x1244)), (4, .dead), (5, .dead), (7, .v (.int .i64 ((n1246 : Nat) : Int))), (8, .v (.int .i64 x1248)), (9, .dead), (16, .dead)], [], 0, []⟩) N _ ((Wk_le (.r (.r (.k (.r (.r (.r (.r (.r .nil)))))))) (OLe.refl _)).trans (cmpS_ok (st' := ⟨[], [(0, .v (.lst false n1246 c1247)), (1, .v (.int .i64 x1244)), (4, .dead), (5, .dead), (7, .v (.int .i64 ((n1246 : Nat) : Int))), (8, .v (.int .i64 0)), (9, .dead), (16, .dead)], [], 0, []⟩) (by kernel_rfl))) ⟨_, h1258, rfl⟩ ?_
    clear h1258
    rintro n _ ⟨x1248, h1258, rfl⟩
    cases n with
    | zero => cases h1258
    | succ n =>
      rw [m86_L0] at h1258
      have hh := brn_some h1258; clear h1258; rcases hh with ⟨h1249, h1258⟩ | ⟨h1249, h1258⟩
      · have hh := grd_some h1258; clear h1258; obtain ⟨⟨g1250, g1251⟩, h1258⟩ := hh
        have hh := grd_some h1258; clear h1258; obtain ⟨g1252, h1258⟩ := hh
        have hh := getI_some h1258; clear h1258; obtain ⟨x1254, h1253, h1258⟩ := hh
        have hh := brn_some h1258; clear h1258; rcases hh with ⟨h1255, h1258⟩ | ⟨h1255, h1258⟩
        · refine W_sound tab_ok mixed 31 _ _ _ ?_
          simp -implicitDefEqProofs only [go_sem, qa, qb, qc, qd, qe, qf, qg, qh, qi, qj, qk, ↓reduceIte, h1245, h1249, g1250, g1251, g1252, h1253, h1255]
          repeat with_reducible refine ⟨by first | kernel_rfl | decide, ?_⟩
          obtain rfl := Option.some.inj h1258
          (try dsimp only at h1259)
          obtain rfl := Option.some.inj h1259
          exact finC [(4, .v (.int .i64 x1248))] [(4, .v (.int .i64 x1248))] (by simp [leE, lk_cons]) (.cons _ _ _ _ _ (.v _ _ (.refl _)) .nil) (by rfl) (by simp [leE, lk_cons]) (by decide) (by decide) rfl (by simp only [go_sem, qa, qb, qc, qd, qe, qf, qg, qh, qi, qj, qk, ↓reduceIte, resQ_tmp, resQ_cell, resQ_nil, retD_one, retD_two, retD_three, retD_none]; try simp [R.val, retD_one, retD_two, retD_three, retD_none])
        · refine W_sound tab_ok mixed 30 _ _ _ ?_
          simp -implicitDefEqProofs only [go_sem, qa, qb, qc, qd, qe, qf, qg, qh, qi, qj, qk, ↓reduceIte, h1245, h1249, g1250, g1251, g1252, h1253, h1255]
          repeat with_reducible refine ⟨by first | kernel_rfl | decide, ?_⟩
          exact cutQ _ ((Wk_le (.r (.r (.r (.k (.r (.r (.k (.k .nil)))))))) (OLe.refl _)).trans (cmpS_ok (st' := ⟨[], [(0, .v (.lst false n1246 c1247)), (1, .v (.int .i64 x1244)), (4, .dead), (5, .dead), (7, .v (.int .i64 ((n1246 : Nat) : Int))), (8, .v (.int .i64 (IntKind.i64.wrap (x1248 + 1)))), (9, .dead), (16, .dead)], [], 0, []⟩) (by kernel_rfl))) ⟨n, Nat.lt_succ_self n, _, h1258, rfl⟩
      · refine W_sound tab_ok mixed 7 _ _ _ ?_
        simp -implicitDefEqProofs only [go_sem, qa, qb, qc, qd, qe, qf, qg, qh, qi, qj, qk, ↓reduceIte, h1245, h1249]
        repeat with_reducible refine ⟨by first | kernel_rfl | decide, ?_⟩
        obtain rfl := Option.some.inj h1258
        exact cutQ _ ((Wk_le (.k (.k (.r (.r (.k (.k (.k (.r .nil)))))))) (OLe.refl _)).trans (cmpS_ok (st' := ⟨[], [(0, .dead), (1, .dead), (4, .dead), (5, .dead), (7, .dead), (8, .dead), (9, .dead), (16, .dead)], [], 0, []⟩) (by kernel_rfl))) ⟨rfl, rfl⟩
  · rintro _ ⟨rfl, rfl⟩
    (try dsimp only at h1259)
    refine W_sound tab_ok mixed 6 _ _ _ ?_
    simp -implicitDefEqProofs only [go_sem, qa, qb, qc, qd, qe, qf, qg, qh, qi, qj, qk, ↓reduceIte, h1245]
    repeat with_reducible refine ⟨by first | kernel_rfl | decide, ?_⟩
    obtain rfl := Option.some.inj h1259
    exact finC [(4, .v (.int .i64 (-1)))] [(4, .v (.int .i64 (-1)))] (by simp [leE, lk_cons]) (.cons _ _ _ _ _ (.v _ _ (.refl _)) .nil) (by rfl) (by simp [leE, lk_cons]) (by decide) (by decide) rfl (by simp only [go_sem, qa, qb, qc, qd, qe, qf, qg, qh, qi, qj, qk, ↓reduceIte, resQ_tmp, resQ_cell, resQ_nil, retD_one, retD_two, retD_three, retD_none]; try simp [R.val, retD_one, retD_two, retD_three, retD_none])
def m57 (N : Nat) (p1238 : PV) (x1239 : Int) : Option (PV) :=
  getL p1238 fun n1241 c1242 =>
  bnd' (m86 N (.lst false n1241 c1242) x1239) fun p1260 =>
  getI .i64 p1260 fun x1263 =>
  some (.bool (decide (x1263 ≥ 0)))
theorem c57 (N : Nat) (p1238 : PV) (x1239 : Int) (r : PV)  (h : m57 N p1238 x1239 = some r) : FnP Tryd.prog 57 [p1238, (.int .i64 x1239)] r := by
  unfold m57 at h
  refine Fn_of (sz := 9) tab_ok [0, 1, 4] [.tmp 4] Tryd.func57 rfl rfl rfl (by simp) ?_
  simp only [initSt, initEnv, List.map_cons, List.map_nil, List.getD_cons_zero, List.getD_cons_succ, List.getD_nil]
  have hh := getL_some h; clear h; obtain ⟨n1241, c1242, h1240, h⟩ := hh
  have hh := bnd'_some h; clear h; obtain ⟨p1260, h1261, h⟩ := hh
  refine W_sound tab_ok mixed 8 _ _ _ ?_
  simp -implicitDefEqProofs only [go_sem, qa, qb, qc, qd, qe, qf, qg, qh, qi, qj, qk, ↓reduceIte, h1240]
  repeat with_reducible refine ⟨by first | kernel_rfl | decide, ?_⟩
  refine Wp_callP (c86 N _ _ _ h1261) (by kernel_rfl) rfl rfl rfl rfl (by decide) ?_
  have hh := getI_some h; clear h; obtain ⟨x1263, h1262, h⟩ := hh
  refine W_sound tab_ok mixed 5 _ _ _ ?_
  simp -implicitDefEqProofs only [go_sem, qa, qb, qc, qd, qe, qf, qg, qh, qi, qj, qk, ↓reduceIte, h1240, h1262]
  repeat with_reducible refine ⟨by first | kernel_rfl | decide, ?_⟩
  obtain rfl := Option.some.inj h
  exact finC [(4, .v (.bool (decide (x1263 ≥ 0))))] [(4, .v (.bool (decide (x1263 ≥ 0))))] (by simp [leE, lk_cons]) (.cons _ _ _ _ _ (.v _ _ (.refl _)) .nil) (by rfl) (by simp [leE, lk_cons]) (by decide) (by decide) rfl (by simp only [go_sem, qa, qb, qc, qd, qe, qf, qg, qh, qi, qj, qk, ↓reduceIte, resQ_tmp, resQ_cell, resQ_nil, retD_one, retD_two, retD_three, retD_none]; try simp [R.val, retD_one, retD_two, retD_three, retD_none])
def m79_9_L1 (N : Nat) (rec : PV → List PV → Nat → List PV → Nat → List PV → Option ((List PV × Nat × Nat × List PV × List PV))) (n2513 : Nat) (c2514 : List PV) (x2517 : Int) (x2559 : Int) (c2560 : List PV) (n2561 : Nat) (n2562 : Nat) (c2563 : List PV) (c2564 : List PV) : Nat → Bool → Int → Option (Bool)
  | 0, _, _ => none
  | n + 1, b2570, x2571 =>
    brn (decide (x2571 < ((n2562 : Nat) : Int))) (
      grd (0 ≤ x2571 ∧ x2571 < ((n2562 : Nat) : Int)) <|
      grd ((Int.toNat x2571) < List.length c2563) <|
      getL (gp c2563 (Int.toNat x2571)) fun n2577 c2578 =>
      brn b2570 (
        m79_9_L1 N rec n2513 c2514 x2517 x2559 c2560 n2561 n2562 c2563 c2564 n true (IntKind.i64.wrap (x2571 + 1))) (
        grd (0 ≤ ((n2513 : Nat) : Int) ∧ ((n2513 : Nat) : Int) < ((n2577 : Nat) : Int)) <|
        grd (0 < List.length (List.drop n2513 c2578)) <|
        getI .i64 (gp c2578 n2513) fun x2584 =>
        m79_9_L1 N rec n2513 c2514 x2517 x2559 c2560 n2561 n2562 c2563 c2564 n (x2584 == x2559) (IntKind.i64.wrap (x2571 + 1)))) (
      some b2570)
def m79_9_L0 (N : Nat) (rec : PV → List PV → Nat → List PV → Nat → List PV → Option ((List PV × Nat × Nat × List PV × List PV))) (n2513 : Nat) (c2514 : List PV) (x2517 : Int) : Nat → Int → List PV → Nat → Nat → List PV → List PV → Option ((List PV × Nat × Nat × List PV × List PV))
  | 0, _, _, _, _, _, _ => none
  | n + 1, x2559, c2560, n2561, n2562, c2563, c2564 =>
    brn (decide (x2559 < x2517)) (
      bnd' (m57 N (.lst false n2513 c2514) x2559) fun p2566 =>
      getB p2566 fun b2569 =>
      bnd' (m79_9_L1 N rec n2513 c2514 x2517 x2559 c2560 n2561 n2562 c2563 c2564 N b2569 0) fun b2585 =>
      brn b2585 (
        m79_9_L0 N rec n2513 c2514 x2517 n (IntKind.i64.wrap (x2559 + 1)) c2560 n2561 n2562 c2563 c2564) (
        grd (0 ≤ ((n2513 : Nat) : Int) ∧ ((n2513 : Nat) : Int) ≤ ((n2513 : Nat) : Int)) <|
        grd (List.length c2514 = n2513) <|
        grd ((n2513 + 1) ≤ 1099511627776) <|
        bnd' (rec (.lst false (n2513 + 1) (c2514 ++ [(.int .i64 x2559)])) c2560 n2561 c2564 n2562 c2563) fun o =>
        match o with
        | (c2592, n2593, n2594, c2595, c2596) =>
          m79_9_L0 N rec n2513 c2514 x2517 n (IntKind.i64.wrap (x2559 + 1)) c2592 n2593 n2594 c2595 c2596)) (
      some (c2560, n2561, n2562, c2563, c2564))
def m79_9 (N : Nat) : Nat → PV → List PV → Nat → List PV → Nat → List PV → Option ((List PV × Nat × Nat × List PV × List PV))
  | 0, _, _, _, _, _, _ => none
  | fu + 1, p2506, c2507, n2508, c2509, n2510, c2511 =>
    getL p2506 fun n2513 c2514 =>
    grd (0 < List.length c2507) <|
    getI .i64 (gp c2507 0) fun x2517 =>
    brn (((n2513 : Nat) : Int) == x2517) (
      grd ((n2508 + 1) ≤ 1099511627776) <|
      grd (List.length c2509 = n2508) <|
      some (c2507, (n2508 + 1), n2510, c2511, (c2509 ++ [(.lst false n2513 c2514)]))) (
      bnd' (m79_9_L0 N (m79_9 N fu) n2513 c2514 x2517 N 0 c2507 n2508 n2510 c2511 c2509) fun o =>
      match o with
      | (c2597, n2598, n2599, c2600, c2601) =>
        some (c2597, n2598, n2599, c2600, c2601))
theorem c79_9 (N : Nat) : ∀ (fu : Nat) (p2506 : PV) (c2507 : List PV) (n2508 : Nat) (c2509 : List PV) (n2510 : Nat) (c2511 : List PV) (r : (List PV × Nat × Nat × List PV × List PV))  (h : m79_9 N fu p2506 c2507 n2508 c2509 n2510 c2511 = some r), V.Fn Tryd.prog 79 6 [.v p2506, .ptr 0 0, .ptr 1 0, .ptr 3 0, .ptr 5 0] [(0, .p c2507), (1, .r [.sl false 2 0 n2508 1]), (2, .p c2509), (3, .r [.sl false 4 0 n2510 1]), (4, .p c2511), (5, .r [.fn 79 [.ptr 0 0, .ptr 1 0, .ptr 3 0, .ptr 5 0]])] (fun d ob' => match (generalizing := false) r with | (c2420, n2421, n2422, c2423, c2424) => d = .v (.tup []) ∧ ob' = [(0, .p c2420), (1, .r [.sl false 6 0 n2421 1]), (3, .r [.sl false 4 0 n2422 1]), (4, .p c2423), (5, .r [.fn 79 [.ptr 0 0, .ptr 1 0, .ptr 3 0, .ptr 5 0]]), (6, .p c2424)]) := by
  intro fu
  induction fu with
  | zero => intro p2506 c2507 n2508 c2509 n2510 c2511 r h; cases h
  | succ fu ih =>
    intro p2506 c2507 n2508 c2509 n2510 c2511 r h
    rw [m79_9] at h
    refine Fn_of (sz := 56) tab_ok [0, 1, 2, 3, 4, 6, 7, 9, 13, 18, 19, 20, 25, 26, 27, 28, 43] [] Tryd.func79 rfl rfl rfl (by simp) ?_
    simp only [initSt, initEnv, List.map_cons, List.map_nil, List.getD_cons_zero, List.getD_cons_succ, List.getD_nil]
    have hh := getL_some h; clear h; obtain ⟨n2513, c2514, h2512, h⟩ := hh
    simp only [h2512]
    refine Wp_wkK (cmpT_ok (st' := ⟨[], [(0, .v (.lst false n2513 c2514)), (1, .ptr 0 0), (2, .ptr 1 0), (3, .ptr 3 0), (4, .ptr 5 0), (6, .dead), (7, .dead), (9, .dead), (13, .dead), (18, .dead), (19, .dead), (20, .dead), (25, .dead), (26, .dead), (27, .dead), (28, .dead), (43, .dead)], [(0, .p c2507), (1, .r [.sl false 6 0 n2508 1]), (3, .r [.sl false 4 0 n2510 1]), (4, .p c2511), (5, .r [.fn 79 [.ptr 0 0, .ptr 1 0, .ptr 3 0, .ptr 5 0]]), (6, .p c2509)], 7, []⟩) [0, 1, 1000000002, 3, 4, 5, 2] (by kernel_rfl)) rfl ?_
    have hh := grd_some h; clear h; obtain ⟨g2515, h⟩ := hh
    have hh := getI_some h; clear h; obtain ⟨x2517, h2516, h⟩ := hh
    have hh := brn_some h; clear h; rcases hh with ⟨h2518, h⟩ | ⟨h2518, h⟩
    · have hh := grd_some h; clear h; obtain ⟨g2519, h⟩ := hh
      have hh := grd_some h; clear h; obtain ⟨g2520, h⟩ := hh
      refine W_sound tab_ok mixed 19 _ _ _ ?_
      simp -implicitDefEqProofs only [go_sem, qa, qb, qc, qd, qe, qf, qg, qh, qi, qj, qk, ↓reduceIte, h2512, g2515, h2516, h2518, g2519, g2520]
      repeat with_reducible refine ⟨by first | kernel_rfl | decide, ?_⟩
      obtain rfl := Option.some.inj h
      exact finD (e2 := [(0, .dead), (1, .dead), (2, .dead), (3, .dead), (4, .dead), (6, .dead), (7, .dead), (9, .dead), (13, .dead), (18, .dead), (19, .dead), (20, .dead), (25, .dead), (26, .dead), (27, .dead), (28, .dead), (43, .dead)]) (ob2 := [(0, .p c2507), (1, .r [.sl false 24 0 (n2508 + 1) 1]), (3, .r [.sl false 4 0 n2510 1]), (4, .p c2511), (5, .r [.fn 79 [.ptr 0 0, .ptr 1 0, .ptr 3 0, .ptr 5 0]]), (23, .p [(.lst false n2513 c2514)]), (24, .p (c2509 ++ [(.lst false n2513 c2514)]))]) (st' := ⟨[], [(0, .dead), (1, .dead), (2, .dead), (3, .dead), (4, .dead), (6, .dead), (7, .dead), (9, .dead), (13, .dead), (18, .dead), (19, .dead), (20, .dead), (25, .dead), (26, .dead), (27, .dead), (28, .dead), (43, .dead)], [(0, .p c2507), (1, .r [.sl false 6 0 (n2508 + 1) 1]), (3, .r [.sl false 4 0 n2510 1]), (4, .p c2511), (5, .r [.fn 79 [.ptr 0 0, .ptr 1 0, .ptr 3 0, .ptr 5 0]]), (6, .p (c2509 ++ [(.lst false n2513 c2514)]))], 7, []⟩) (.k (.k (.k (.k (.k (.r (.r (.r (.k (.r (.r (.r (.r (.r (.r (.r (.r .nil))))))))))))))))) (.cons _ _ _ _ _ (DLes.refl _) (.cons _ _ _ _ _ (DLes.refl _) (.cons _ _ _ _ _ (DLes.refl _) (.cons _ _ _ _ _ (DLes.refl _) (.cons _ _ _ _ _ (DLes.refl _) (.cons _ _ _ _ _ (DLes.refl _) (.cons _ _ _ _ _ (DLes.refl _) .nil))))))) (by kernel_rfl) (by simp only [go_sem, qa, qb, qc, qd, qe, qf, qg, qh, qi, qj, qk, ↓reduceIte, resQ_tmp, resQ_cell, resQ_nil, retD_one, retD_two, retD_three, retD_none] <;> first | rfl | exact ⟨rfl, rfl⟩ | (try simp [R.val, retD_one, retD_two, retD_three, retD_none]))
    · refine W_sound tab_ok mixed 15 _ _ _ ?_
      simp -implicitDefEqProofs only [go_sem, qa, qb, qc, qd, qe, qf, qg, qh, qi, qj, qk, ↓reduceIte, h2512, g2515, h2516, h2518]
      repeat with_reducible refine ⟨by first | kernel_rfl | decide, ?_⟩
      have hh := bnd'_some h; clear h; obtain ⟨o2607, h2608, h2609⟩ := hh
      refine Wp_cut (fun s => ∃ c2597, ∃ n2598, ∃ n2599, ∃ c2600, ∃ c2601, (c2597, n2598, n2599, c2600, c2601) = o2607 ∧ s = ⟨[], [(0, .dead), (1, .dead), (2, .dead), (3, .dead), (4, .dead), (6, .dead), (7, .dead), (9, .dead), (13, .dead), (18, .dead), (19, .dead), (20, .dead), (25, .dead), (26, .dead), (27, .dead), (28, .dead), (43, .dead)], [(0, .p c2597), (1, .r [.sl false 6 0 n2598 1]), (3, .r [.sl false 4 0 n2599 1]), (4, .p c2600), (5, .r [.fn 79 [.ptr 0 0, .ptr 1 0, .ptr 3 0, .ptr 5 0]]), (6, .p c2601)], 7, []⟩) ?_ ?_
      · refine Wp_block ?_
        refine Wp_loopG (fun n s => ∃ x2559, ∃ c2560, ∃ n2561, ∃ n2562, ∃ c2563, ∃ c2564, m79_9_L0 N (m79_9 N fu) n2513 c2514 x2517 n x2559 c2560 n2561 n2562 c2563 c2564 = some o2607 ∧ s = ⟨[], [(0, .v (.lst false n2513 c2514)), (1, .dead), (2, .dead), (3, .ptr 3 0), (4, .ptr 5 0), (6, .dead), (7, .dead), (9, .dead), (13, .dead), (18, .v (.int .i64 x2517)), (19, .v (.int .i64 x2559)), (20, .dead), (25, .dead), (26, .dead), (27, .dead), (28, .dead), (43, .dead)], [(0, .p c2560), (1, .r [.sl false 6 0 n2561 1]), (3, .r [.sl false 4 0 n2562 1]), (4, .p c2563), (5, .r [.fn 79 [.ptr 0 0, .ptr 1 0, .ptr 3 0, .ptr 5 0]]), (6, .p c2564)], 7, []⟩) N _ ((Wk_le (.r (.k (.k (.r (.r (.r (.r (.r (.k (.r (.r (.r (.r (.r (.r (.r (.r .nil))))))))))))))))) (OLe.refl _)).trans (cmpS_ok (st' := ⟨[], [(0, .v (.lst false n2513 c2514)), (1, .dead), (2, .dead), (3, .ptr 3 0), (4, .ptr 5 0), (6, .dead), (7, .dead), (9, .dead), (13, .dead), (18, .v (.int .i64 x2517)), (19, .v (.int .i64 0)), (20, .dead), (25, .dead), (26, .dead), (27, .dead), (28, .dead), (43, .dead)], [(0, .p c2507), (1, .r [.sl false 6 0 n2508 1]), (3, .r [.sl false 4 0 n2510 1]), (4, .p c2511), (5, .r [.fn 79 [.ptr 0 0, .ptr 1 0, .ptr 3 0, .ptr 5 0]]), (6, .p c2509)], 7, []⟩) (by kernel_rfl))) ⟨_, _, _, _, _, _, h2608, rfl⟩ ?_
        clear h2608
        rintro n _ ⟨x2559, c2560, n2561, n2562, c2563, c2564, h2608, rfl⟩
        cases n with
        | zero => cases h2608
        | succ n =>
          rw [m79_9_L0] at h2608
          have hh := brn_some h2608; clear h2608; rcases hh with ⟨h2565, h2608⟩ | ⟨h2565, h2608⟩
          · have hh := bnd'_some h2608; clear h2608; obtain ⟨p2566, h2567, h2608⟩ := hh
            refine W_sound tab_ok mixed 18 _ _ _ ?_
            simp -implicitDefEqProofs only [go_sem, qa, qb, qc, qd, qe, qf, qg, qh, qi, qj, qk, ↓reduceIte, h2512, g2515, h2516, h2518, h2565]
            repeat with_reducible refine ⟨by first | kernel_rfl | decide, ?_⟩
            refine Wp_callP (c57 N _ _ _ h2567) (by kernel_rfl) rfl rfl rfl rfl (by decide) ?_
            have hh := getB_some h2608; clear h2608; obtain ⟨b2569, h2568, h2608⟩ := hh
            refine W_sound tab_ok mixed 9 _ _ _ ?_
            simp -implicitDefEqProofs only [go_sem, qa, qb, qc, qd, qe, qf, qg, qh, qi, qj, qk, ↓reduceIte, h2512, g2515, h2516, h2518, h2565, h2568]
            repeat with_reducible refine ⟨by first | kernel_rfl | decide, ?_⟩
            have hh := bnd'_some h2608; clear h2608; obtain ⟨o2610, h2611, h2612⟩ := hh
            refine Wp_cut (fun s => ∃ b2585, b2585 = o2610 ∧ s = ⟨[], [(0, .v (.lst false n2513 c2514)), (1, .dead), (2, .dead), (3, .ptr 3 0), (4, .ptr 5 0), (6, .v (.int .i64 x2559)), (7, .v (.bool b2585)), (9, .dead), (13, .dead), (18, .v (.int .i64 x2517)), (19, .v (.int .i64 x2559)), (20, .dead), (25, .dead), (26, .dead), (27, .dead), (28, .dead), (43, .dead)], [(0, .p c2560), (1, .r [.sl false 6 0 n2561 1]), (3, .r [.sl false 4 0 n2562 1]), (4, .p c2563), (5, .r [.fn 79 [.ptr 0 0, .ptr 1 0, .ptr 3 0, .ptr 5 0]]), (6, .p c2564)], 7, []⟩) ?_ ?_
            · refine Wp_block ?_
              refine Wp_loopG (fun n s => ∃ b2570, ∃ x2571, m79_9_L1 N (m79_9 N fu) n2513 c2514 x2517 x2559 c2560 n2561 n2562 c2563 c2564 n b2570 x2571 = some o2610 ∧ s = ⟨[], [(0, .v (.lst false n2513 c2514)), (1, .dead), (2, .dead), (3, .ptr 3 0), (4, .ptr 5 0), (6, .v (.int .i64 x2559)), (7, .v (.bool b2570)), (9, .dead), (13, .dead), (18, .v (.int .i64 x2517)), (19, .v (.int .i64 x2559)), (20, .dead), (25, .sl false 4 0 n2562 1), (26, .v (.int .i64 ((n2562 : Nat) : Int))), (27, .v (.int .i64 x2571)), (28, .dead), (43, .dead)], [(0, .p c2560), (1, .r [.sl false 6 0 n2561 1]), (3, .r [.sl false 4 0 n2562 1]), (4, .p c2563), (5, .r [.fn 79 [.ptr 0 0, .ptr 1 0, .ptr 3 0, .ptr 5 0]]), (6, .p c2564)], 7, []⟩) N _ ((Wk_le (.r (.r (.r (.r (.r (.r (.r (.r (.r (.r (.r (.k (.r (.r (.r (.r (.r .nil))))))))))))))))) (OLe.refl _)).trans (cmpS_ok (st' := ⟨[], [(0, .v (.lst false n2513 c2514)), (1, .dead), (2, .dead), (3, .ptr 3 0), (4, .ptr 5 0), (6, .v (.int .i64 x2559)), (7, .v (.bool b2569)), (9, .dead), (13, .dead), (18, .v (.int .i64 x2517)), (19, .v (.int .i64 x2559)), (20, .dead), (25, .sl false 4 0 n2562 1), (26, .v (.int .i64 ((n2562 : Nat) : Int))), (27, .v (.int .i64 0)), (28, .dead), (43, .dead)], [(0, .p c2560), (1, .r [.sl false 6 0 n2561 1]), (3, .r [.sl false 4 0 n2562 1]), (4, .p c2563), (5, .r [.fn 79 [.ptr 0 0, .ptr 1 0, .ptr 3 0, .ptr 5 0]]), (6, .p c2564)], 7, []⟩) (by kernel_rfl))) ⟨_, _, h2611, rfl⟩ ?_
              clear h2611
              rintro n _ ⟨b2570, x2571, h2611, rfl⟩
              cases n with
              | zero => cases h2611
              | succ n =>
                rw [m79_9_L1] at h2611
                have hh := brn_some h2611; clear h2611; rcases hh with ⟨h2572, h2611⟩ | ⟨h2572, h2611⟩
                · have hh := grd_some h2611; clear h2611; obtain ⟨⟨g2573, g2574⟩, h2611⟩ := hh
                  have hh := grd_some h2611; clear h2611; obtain ⟨g2575, h2611⟩ := hh
                  have hh := getL_some h2611; clear h2611; obtain ⟨n2577, c2578, h2576, h2611⟩ := hh
                  have hh := brn_some h2611; clear h2611; rcases hh with ⟨h2579, h2611⟩ | ⟨h2579, h2611⟩
                  · refine W_sound tab_ok mixed 33 _ _ _ ?_
                    simp -implicitDefEqProofs only [go_sem, qa, qb, qc, qd, qe, qf, qg, qh, qi, qj, qk, ↓reduceIte, h2512, g2515, h2516, h2518, h2565, h2568, h2572, g2573, g2574, g2575, h2576, h2579]
                    repeat with_reducible refine ⟨by first | kernel_rfl | decide, ?_⟩
                    exact cutQ _ ((Wk_le (.r (.r (.r (.r (.r (.r (.r (.k (.r (.r (.r (.r (.r (.r (.r (.k (.r .nil))))))))))))))))) (OLe.refl _)).trans (cmpS_ok (st' := ⟨[], [(0, .v (.lst false n2513 c2514)), (1, .dead), (2, .dead), (3, .ptr 3 0), (4, .ptr 5 0), (6, .v (.int .i64 x2559)), (7, .v (.bool true)), (9, .dead), (13, .dead), (18, .v (.int .i64 x2517)), (19, .v (.int .i64 x2559)), (20, .dead), (25, .sl false 4 0 n2562 1), (26, .v (.int .i64 ((n2562 : Nat) : Int))), (27, .v (.int .i64 (IntKind.i64.wrap (x2571 + 1)))), (28, .dead), (43, .dead)], [(0, .p c2560), (1, .r [.sl false 6 0 n2561 1]), (3, .r [.sl false 4 0 n2562 1]), (4, .p c2563), (5, .r [.fn 79 [.ptr 0 0, .ptr 1 0, .ptr 3 0, .ptr 5 0]]), (6, .p c2564)], 7, []⟩) (by kernel_rfl))) ⟨n, Nat.lt_succ_self n, _, _, h2611, rfl⟩
                  · have hh := grd_some h2611; clear h2611; obtain ⟨⟨g2580, g2581⟩, h2611⟩ := hh
                    have hh := grd_some h2611; clear h2611; obtain ⟨g2582, h2611⟩ := hh
                    have hh := getI_some h2611; clear h2611; obtain ⟨x2584, h2583, h2611⟩ := hh
                    refine W_sound tab_ok mixed 33 _ _ _ ?_
                    simp -implicitDefEqProofs only [go_sem, qa, qb, qc, qd, qe, qf, qg, qh, qi, qj, qk, ↓reduceIte, h2512, g2515, h2516, h2518, h2565, h2568, h2572, g2573, g2574, g2575, h2576, h2579, g2580, g2581, g2582, h2583]
                    repeat with_reducible refine ⟨by first | kernel_rfl | decide, ?_⟩
                    exact cutQ _ ((Wk_le (.r (.r (.r (.r (.r (.r (.r (.k (.r (.r (.r (.r (.r (.r (.r (.k (.r .nil))))))))))))))))) (OLe.refl _)).trans (cmpS_ok (st' := ⟨[], [(0, .v (.lst false n2513 c2514)), (1, .dead), (2, .dead), (3, .ptr 3 0), (4, .ptr 5 0), (6, .v (.int .i64 x2559)), (7, .v (.bool (x2584 == x2559))), (9, .dead), (13, .dead), (18, .v (.int .i64 x2517)), (19, .v (.int .i64 x2559)), (20, .dead), (25, .sl false 4 0 n2562 1), (26, .v (.int .i64 ((n2562 : Nat) : Int))), (27, .v (.int .i64 (IntKind.i64.wrap (x2571 + 1)))), (28, .dead), (43, .dead)], [(0, .p c2560), (1, .r [.sl false 6 0 n2561 1]), (3, .r [.sl false 4 0 n2562 1]), (4, .p c2563), (5, .r [.fn 79 [.ptr 0 0, .ptr 1 0, .ptr 3 0, .ptr 5 0]]), (6, .p c2564)], 7, []⟩) (by kernel_rfl))) ⟨n, Nat.lt_succ_self n, _, _, h2611, rfl⟩
                · refine W_sound tab_ok mixed 7 _ _ _ ?_
                  simp -implicitDefEqProofs only [go_sem, qa, qb, qc, qd, qe, qf, qg, qh, qi, qj, qk, ↓reduceIte, h2512, g2515, h2516, h2518, h2565, h2568, h2572]
                  repeat with_reducible refine ⟨by first | kernel_rfl | decide, ?_⟩
                  obtain rfl := Option.some.inj h2611
                  exact cutQ _ ((Wk_le (.r (.r (.r (.r (.r (.r (.r (.r (.r (.r (.r (.r (.k (.k (.k (.k (.r .nil))))))))))))))))) (OLe.refl _)).trans (cmpS_ok (st' := ⟨[], [(0, .v (.lst false n2513 c2514)), (1, .dead), (2, .dead), (3, .ptr 3 0), (4, .ptr 5 0), (6, .v (.int .i64 x2559)), (7, .v (.bool b2570)), (9, .dead), (13, .dead), (18, .v (.int .i64 x2517)), (19, .v (.int .i64 x2559)), (20, .dead), (25, .dead), (26, .dead), (27, .dead), (28, .dead), (43, .dead)], [(0, .p c2560), (1, .r [.sl false 6 0 n2561 1]), (3, .r [.sl false 4 0 n2562 1]), (4, .p c2563), (5, .r [.fn 79 [.ptr 0 0, .ptr 1 0, .ptr 3 0, .ptr 5 0]]), (6, .p c2564)], 7, []⟩) (by kernel_rfl))) ⟨_, rfl, rfl⟩
            · rintro _ ⟨b2585, rfl, rfl⟩
              have hh := brn_some h2612; clear h2612; rcases hh with ⟨h2586, h2612⟩ | ⟨h2586, h2612⟩
              · refine W_sound tab_ok mixed 12 _ _ _ ?_
                simp -implicitDefEqProofs only [go_sem, qa, qb, qc, qd, qe, qf, qg, qh, qi, qj, qk, ↓reduceIte, h2512, g2515, h2516, h2518, h2565, h2568, h2586]
                repeat with_reducible refine ⟨by first | kernel_rfl | decide, ?_⟩
                exact cutQ _ ((Wk_le (.r (.r (.r (.r (.r (.k (.k (.r (.r (.r (.r (.r (.r (.r (.r (.r (.k .nil))))))))))))))))) (OLe.refl _)).trans (cmpS_ok (st' := ⟨[], [(0, .v (.lst false n2513 c2514)), (1, .dead), (2, .dead), (3, .ptr 3 0), (4, .ptr 5 0), (6, .dead), (7, .dead), (9, .dead), (13, .dead), (18, .v (.int .i64 x2517)), (19, .v (.int .i64 (IntKind.i64.wrap (x2559 + 1)))), (20, .dead), (25, .dead), (26, .dead), (27, .dead), (28, .dead), (43, .dead)], [(0, .p c2560), (1, .r [.sl false 6 0 n2561 1]), (3, .r [.sl false 4 0 n2562 1]), (4, .p c2563), (5, .r [.fn 79 [.ptr 0 0, .ptr 1 0, .ptr 3 0, .ptr 5 0]]), (6, .p c2564)], 7, []⟩) (by kernel_rfl))) ⟨n, Nat.lt_succ_self n, _, _, _, _, _, _, h2612, rfl⟩
              · have hh := grd_some h2612; clear h2612; obtain ⟨⟨g2587, g2588⟩, h2612⟩ := hh
                have hh := grd_some h2612; clear h2612; obtain ⟨g2589, h2612⟩ := hh
                have hh := grd_some h2612; clear h2612; obtain ⟨g2590, h2612⟩ := hh
                have hh := bnd'_some h2612; clear h2612; obtain ⟨⟨c2592, n2593, n2594, c2595, c2596⟩, h2591, h2612⟩ := hh
                (try dsimp only at h2612)
                refine W_sound tab_ok mixed 17 _ _ _ ?_
                simp -implicitDefEqProofs only [go_sem, qa, qb, qc, qd, qe, qf, qg, qh, qi, qj, qk, ↓reduceIte, h2512, g2515, h2516, h2518, h2565, h2568, h2586, g2587, g2588, g2589, g2590]
                repeat with_reducible refine ⟨by first | kernel_rfl | decide, ?_⟩
                refine Wp_callDF [(60, (c2514 ++ [(.int .i64 x2559)]))] [0, 1, 6, 3, 4, 5] (ih _ _ _ _ _ _ _ h2591) rfl rfl rfl (by first | rfl | (simp only [go_sem, qa, qb, qc, qd, qe, qf, qg, qh, qi, qj, qk, ↓reduceIte, h2512, g2515, h2516, h2518, h2565, h2568, h2586, g2587, g2588, g2589, g2590] <;> rfl)) rfl (by kernel_rfl) rfl rfl (by simp [roF, obL]) ?_
                refine W_sound tab_ok mixed 6 _ _ _ ?_
                simp -implicitDefEqProofs only [go_sem, qa, qb, qc, qd, qe, qf, qg, qh, qi, qj, qk, ↓reduceIte, h2512, g2515, h2516, h2518, h2565, h2568, h2586, g2587, g2588, g2589, g2590]
                repeat with_reducible refine ⟨by first | kernel_rfl | decide, ?_⟩
                exact cutQ _ ((Wk_le (.r (.r (.r (.r (.r (.k (.k (.r (.r (.r (.r (.r (.r (.r (.r (.r (.k .nil))))))))))))))))) (OLe.refl _)).trans (cmpS_ok (st' := ⟨[], [(0, .v (.lst false n2513 c2514)), (1, .dead), (2, .dead), (3, .ptr 3 0), (4, .ptr 5 0), (6, .dead), (7, .dead), (9, .dead), (13, .dead), (18, .v (.int .i64 x2517)), (19, .v (.int .i64 (IntKind.i64.wrap (x2559 + 1)))), (20, .dead), (25, .dead), (26, .dead), (27, .dead), (28, .dead), (43, .dead)], [(0, .p c2592), (1, .r [.sl false 6 0 n2593 1]), (3, .r [.sl false 4 0 n2594 1]), (4, .p c2595), (5, .r [.fn 79 [.ptr 0 0, .ptr 1 0, .ptr 3 0, .ptr 5 0]]), (6, .p c2596)], 7, []⟩) (by kernel_rfl))) ⟨n, Nat.lt_succ_self n, _, _, _, _, _, _, h2612, rfl⟩
          · refine W_sound tab_ok mixed 7 _ _ _ ?_
            simp -implicitDefEqProofs only [go_sem, qa, qb, qc, qd, qe, qf, qg, qh, qi, qj, qk, ↓reduceIte, h2512, g2515, h2516, h2518, h2565]
            repeat with_reducible refine ⟨by first | kernel_rfl | decide, ?_⟩
            obtain rfl := Option.some.inj h2608
            exact cutQ _ ((Wk_le (.k (.r (.r (.k (.k (.r (.r (.r (.r (.k (.k (.k (.r (.r (.r (.r (.r .nil))))))))))))))))) (OLe.refl _)).trans (cmpS_ok (st' := ⟨[], [(0, .dead), (1, .dead), (2, .dead), (3, .dead), (4, .dead), (6, .dead), (7, .dead), (9, .dead), (13, .dead), (18, .dead), (19, .dead), (20, .dead), (25, .dead), (26, .dead), (27, .dead), (28, .dead), (43, .dead)], [(0, .p c2560), (1, .r [.sl false 6 0 n2561 1]), (3, .r [.sl false 4 0 n2562 1]), (4, .p c2563), (5, .r [.fn 79 [.ptr 0 0, .ptr 1 0, .ptr 3 0, .ptr 5 0]]), (6, .p c2564)], 7, []⟩) (by kernel_rfl))) ⟨_, _, _, _, _, rfl, rfl⟩
      · rintro _ ⟨c2597, n2598, n2599, c2600, c2601, rfl, rfl⟩
        (try dsimp only at h2609)
        refine W_sound tab_ok mixed 1 _ _ _ ?_
        simp -implicitDefEqProofs only [go_sem, qa, qb, qc, qd, qe, qf, qg, qh, qi, qj, qk, ↓reduceIte, h2512, g2515, h2516, h2518]
        repeat with_reducible refine ⟨by first | kernel_rfl | decide, ?_⟩
        obtain rfl := Option.some.inj h2609
        exact finD (e2 := [(0, .dead), (1, .dead), (2, .dead), (3, .dead), (4, .dead), (6, .dead), (7, .dead), (9, .dead), (13, .dead), (18, .dead), (19, .dead), (20, .dead), (25, .dead), (26, .dead), (27, .dead), (28, .dead), (43, .dead)]) (ob2 := [(0, .p c2597), (1, .r [.sl false 6 0 n2598 1]), (3, .r [.sl false 4 0 n2599 1]), (4, .p c2600), (5, .r [.fn 79 [.ptr 0 0, .ptr 1 0, .ptr 3 0, .ptr 5 0]]), (6, .p c2601)]) (st' := ⟨[], [(0, .dead), (1, .dead), (2, .dead), (3, .dead), (4, .dead), (6, .dead), (7, .dead), (9, .dead), (13, .dead), (18, .dead), (19, .dead), (20, .dead), (25, .dead), (26, .dead), (27, .dead), (28, .dead), (43, .dead)], [(0, .p c2597), (1, .r [.sl false 6 0 n2598 1]), (3, .r [.sl false 4 0 n2599 1]), (4, .p c2600), (5, .r [.fn 79 [.ptr 0 0, .ptr 1 0, .ptr 3 0, .ptr 5 0]]), (6, .p c2601)], 7, []⟩) (.r (.r (.r (.r (.r (.r (.r (.r (.r (.r (.r (.r (.r (.r (.r (.r (.r .nil))))))))))))))))) (.cons _ _ _ _ _ (DLes.refl _) (.cons _ _ _ _ _ (DLes.refl _) (.cons _ _ _ _ _ (DLes.refl _) (.cons _ _ _ _ _ (DLes.refl _) (.cons _ _ _ _ _ (DLes.refl _) (.cons _ _ _ _ _ (DLes.refl _) .nil)))))) (by kernel_rfl) (by simp only [go_sem, qa, qb, qc, qd, qe, qf, qg, qh, qi, qj, qk, ↓reduceIte, resQ_tmp, resQ_cell, resQ_nil, retD_one, retD_two, retD_three, retD_none] <;> first | rfl | exact ⟨rfl, rfl⟩ | (try simp [R.val, retD_one, retD_two, retD_three, retD_none]))
theorem c79_9_a (N : Nat) (fu : Nat) (p2506 : PV) (c2507 : List PV) (n2508 : Nat) (c2509 : List PV) (n2510 : Nat) (c2511 : List PV) (c2420 : List PV) (n2421 : Nat) (n2422 : Nat) (c2423 : List PV) (c2424 : List PV) (h : m79_9 N fu p2506 c2507 n2508 c2509 n2510 c2511 = some (c2420, n2421, n2422, c2423, c2424)) : V.Fn Tryd.prog 79 6 [.v p2506, .ptr 0 0, .ptr 1 0, .ptr 3 0, .ptr 5 0] [(0, .p c2507), (1, .r [.sl false 2 0 n2508 1]), (2, .p c2509), (3, .r [.sl false 4 0 n2510 1]), (4, .p c2511), (5, .r [.fn 79 [.ptr 0 0, .ptr 1 0, .ptr 3 0, .ptr 5 0]])] (fun d ob' => d = .v (.tup []) ∧ ob' = [(0, .p c2420), (1, .r [.sl false 6 0 n2421 1]), (3, .r [.sl false 4 0 n2422 1]), (4, .p c2423), (5, .r [.fn 79 [.ptr 0 0, .ptr 1 0, .ptr 3 0, .ptr 5 0]]), (6, .p c2424)]) := c79_9 N fu p2506 c2507 n2508 c2509 n2510 c2511 _ h
def m79_7_L1 (N : Nat) (x2299 : Int) (x2742 : Int) (c2743 : List PV) (n2744 : Nat) (n2745 : Nat) (c2746 : List PV) (c2747 : List PV) : Nat → Bool → Int → Option (Bool)
  | 0, _, _ => none
  | n + 1, b2753, x2754 =>
    brn (decide (x2754 < ((n2745 : Nat) : Int))) (
      grd (0 ≤ x2754 ∧ x2754 < ((n2745 : Nat) : Int)) <|
      grd ((Int.toNat x2754) < List.length c2746) <|
      getL (gp c2746 (Int.toNat x2754)) fun n2760 c2761 =>
      brn b2753 (
        m79_7_L1 N x2299 x2742 c2743 n2744 n2745 c2746 c2747 n true (IntKind.i64.wrap (x2754 + 1))) (
        grd (0 < ((n2760 : Nat) : Int)) <|
        grd (0 < List.length c2761) <|
        getI .i64 (gp c2761 0) fun x2766 =>
        m79_7_L1 N x2299 x2742 c2743 n2744 n2745 c2746 c2747 n (x2766 == x2742) (IntKind.i64.wrap (x2754 + 1)))) (
      some b2753)
def m79_7_L0 (N : Nat) (x2299 : Int) : Nat → Int → List PV → Nat → Nat → List PV → List PV → Option ((List PV × Nat × Nat × List PV × List PV))
  | 0, _, _, _, _, _, _ => none
  | n + 1, x2742, c2743, n2744, n2745, c2746, c2747 =>
    brn (decide (x2742 < x2299)) (
      bnd' (m57 N (.lst false 0 []) x2742) fun p2749 =>
      getB p2749 fun b2752 =>
      bnd' (m79_7_L1 N x2299 x2742 c2743 n2744 n2745 c2746 c2747 N b2752 0) fun b2767 =>
      brn b2767 (
        m79_7_L0 N x2299 n (IntKind.i64.wrap (x2742 + 1)) c2743 n2744 n2745 c2746 c2747) (
        bnd' (m79_9 N N (.lst false 1 [(.int .i64 x2742)]) c2743 n2744 c2747 n2745 c2746) fun o =>
        match o with
        | (c2770, n2771, n2772, c2773, c2774) =>
          m79_7_L0 N x2299 n (IntKind.i64.wrap (x2742 + 1)) c2770 n2771 n2772 c2773 c2774)) (
      some (c2743, n2744, n2745, c2746, c2747))
def m79_7 (N : Nat) (x2299 : Int) (n2300 : Nat) (c2301 : List PV) : Option (((List PV × Nat × List PV × List PV) ⊕ (List PV × Nat × Nat × List PV × List PV))) :=
  brn (0 == x2299) (
    some (.inl ([(.int .i64 x2299)], n2300, c2301, [(.lst false 0 [])]))) (
    bnd' (m79_7_L0 N x2299 N 0 [(.int .i64 x2299)] 0 n2300 c2301 []) fun o =>
    match o with
    | (c2775, n2776, n2777, c2778, c2779) =>
      some (.inr (c2775, n2776, n2777, c2778, c2779)))
theorem c79_7 (N : Nat) (x2299 : Int) (n2300 : Nat) (c2301 : List PV) (r : ((List PV × Nat × List PV × List PV) ⊕ (List PV × Nat × Nat × List PV × List PV)))  (h : m79_7 N x2299 n2300 c2301 = some r) : V.Fn Tryd.prog 79 6 [.v .nl, .ptr 0 0, .ptr 1 0, .ptr 3 0, .ptr 5 0] [(0, .p [(.int .i64 x2299)]), (1, .r [.sl false 2 0 0 1]), (2, .p []), (3, .r [.sl false 4 0 n2300 1]), (4, .p c2301), (5, .r [.fn 79 [.ptr 0 0, .ptr 1 0, .ptr 3 0, .ptr 5 0]])] (fun d ob' => match (generalizing := false) r with | .inl (c2303, n2304, c2305, c2306) => d = .v (.tup []) ∧ ob' = [(0, .p c2303), (1, .r [.sl false 6 0 1 1]), (3, .r [.sl false 4 0 n2304 1]), (4, .p c2305), (5, .r [.fn 79 [.ptr 0 0, .ptr 1 0, .ptr 3 0, .ptr 5 0]]), (6, .p c2306)] | .inr (c2780, n2781, n2782, c2783, c2784) => d = .v (.tup []) ∧ ob' = [(0, .p c2780), (1, .r [.sl false 6 0 n2781 1]), (3, .r [.sl false 4 0 n2782 1]), (4, .p c2783), (5, .r [.fn 79 [.ptr 0 0, .ptr 1 0, .ptr 3 0, .ptr 5 0]]), (6, .p c2784)]) := by
  unfold m79_7 at h
  refine Fn_of (sz := 56) tab_ok [0, 1, 2, 3, 4, 6, 7, 9, 13, 18, 19, 20, 25, 26, 27, 28, 43] [] Tryd.func79 rfl rfl rfl (by simp) ?_
  simp only [initSt, initEnv, List.map_cons, List.map_nil, List.getD_cons_zero, List.getD_cons_succ, List.getD_nil]
  refine Wp_wkK (cmpT_ok (st' := ⟨[], [(0, .v .nl), (1, .ptr 0 0), (2, .ptr 1 0), (3, .ptr 3 0), (4, .ptr 5 0), (6, .dead), (7, .dead), (9, .dead), (13, .dead), (18, .dead), (19, .dead), (20, .dead), (25, .dead), (26, .dead), (27, .dead), (28, .dead), (43, .dead)], [(0, .p [(.int .i64 x2299)]), (1, .r [.sl false 6 0 0 1]), (3, .r [.sl false 4 0 n2300 1]), (4, .p c2301), (5, .r [.fn 79 [.ptr 0 0, .ptr 1 0, .ptr 3 0, .ptr 5 0]]), (6, .p [])], 7, []⟩) [0, 1, 1000000002, 3, 4, 5, 2] (by kernel_rfl)) rfl ?_
  have hh := brn_some h; clear h; rcases hh with ⟨h2302, h⟩ | ⟨h2302, h⟩
  · refine W_sound tab_ok mixed 19 _ _ _ ?_
    simp -implicitDefEqProofs only [go_sem, qa, qb, qc, qd, qe, qf, qg, qh, qi, qj, qk, ↓reduceIte, h2302]
    repeat with_reducible refine ⟨by first | kernel_rfl | decide, ?_⟩
    obtain rfl := Option.some.inj h
    exact finD (e2 := [(0, .dead), (1, .dead), (2, .dead), (3, .dead), (4, .dead), (6, .dead), (7, .dead), (9, .dead), (13, .dead), (18, .dead), (19, .dead), (20, .dead), (25, .dead), (26, .dead), (27, .dead), (28, .dead), (43, .dead)]) (ob2 := [(0, .p [(.int .i64 x2299)]), (1, .r [.sl false 24 0 1 1]), (3, .r [.sl false 4 0 n2300 1]), (4, .p c2301), (5, .r [.fn 79 [.ptr 0 0, .ptr 1 0, .ptr 3 0, .ptr 5 0]]), (23, .p [.nl]), (24, .p [(.lst false 0 [])])]) (st' := ⟨[], [(0, .dead), (1, .dead), (2, .dead), (3, .dead), (4, .dead), (6, .dead), (7, .dead), (9, .dead), (13, .dead), (18, .dead), (19, .dead), (20, .dead), (25, .dead), (26, .dead), (27, .dead), (28, .dead), (43, .dead)], [(0, .p [(.int .i64 x2299)]), (1, .r [.sl false 6 0 1 1]), (3, .r [.sl false 4 0 n2300 1]), (4, .p c2301), (5, .r [.fn 79 [.ptr 0 0, .ptr 1 0, .ptr 3 0, .ptr 5 0]]), (6, .p [(.lst false 0 [])])], 7, []⟩) (.k (.k (.k (.k (.k (.r (.r (.r (.k (.r (.r (.r (.r (.r (.r (.r (.r .nil))))))))))))))))) (.cons _ _ _ _ _ (DLes.refl _) (.cons _ _ _ _ _ (DLes.refl _) (.cons _ _ _ _ _ (DLes.refl _) (.cons _ _ _ _ _ (DLes.refl _) (.cons _ _ _ _ _ (DLes.refl _) (.cons _ _ _ _ _ (DLes.refl _) (.cons _ _ _ _ _ (DLes.of_p (.cons _ _ _ _ (.nl false) .nil)) .nil))))))) (by kernel_rfl) (by simp only [go_sem, qa, qb, qc, qd, qe, qf, qg, qh, qi, qj, qk, ↓reduceIte, resQ_tmp, resQ_cell, resQ_nil, retD_one, retD_two, retD_three, retD_none] <;> first | rfl | exact ⟨rfl, rfl⟩ | (try simp [R.val, retD_one, retD_two, retD_three, retD_none]))
  · refine W_sound tab_ok mixed 15 _ _ _ ?_
    simp -implicitDefEqProofs only [go_sem, qa, qb, qc, qd, qe, qf, qg, qh, qi, qj, qk, ↓reduceIte, h2302]
    repeat with_reducible refine ⟨by first | kernel_rfl | decide, ?_⟩
    have hh := bnd'_some h; clear h; obtain ⟨o2785, h2786, h2787⟩ := hh
    refine Wp_cut (fun s => ∃ c2775, ∃ n2776, ∃ n2777, ∃ c2778, ∃ c2779, (c2775, n2776, n2777, c2778, c2779) = o2785 ∧ s = ⟨[], [(0, .dead), (1, .dead), (2, .dead), (3, .dead), (4, .dead), (6, .dead), (7, .dead), (9, .dead), (13, .dead), (18, .dead), (19, .dead), (20, .dead), (25, .dead), (26, .dead), (27, .dead), (28, .dead), (43, .dead)], [(0, .p c2775), (1, .r [.sl false 6 0 n2776 1]), (3, .r [.sl false 4 0 n2777 1]), (4, .p c2778), (5, .r [.fn 79 [.ptr 0 0, .ptr 1 0, .ptr 3 0, .ptr 5 0]]), (6, .p c2779)], 7, []⟩) ?_ ?_
    · refine Wp_block ?_
      refine Wp_loopG (fun n s => ∃ x2742, ∃ c2743, ∃ n2744, ∃ n2745, ∃ c2746, ∃ c2747, m79_7_L0 N x2299 n x2742 c2743 n2744 n2745 c2746 c2747 = some o2785 ∧ s = ⟨[], [(0, .v .nl), (1, .dead), (2, .dead), (3, .ptr 3 0), (4, .ptr 5 0), (6, .dead), (7, .dead), (9, .dead), (13, .dead), (18, .v (.int .i64 x2299)), (19, .v (.int .i64 x2742)), (20, .dead), (25, .dead), (26, .dead), (27, .dead), (28, .dead), (43, .dead)], [(0, .p c2743), (1, .r [.sl false 6 0 n2744 1]), (3, .r [.sl false 4 0 n2745 1]), (4, .p c2746), (5, .r [.fn 79 [.ptr 0 0, .ptr 1 0, .ptr 3 0, .ptr 5 0]]), (6, .p c2747)], 7, []⟩) N _ ((Wk_le (.r (.k (.k (.r (.r (.r (.r (.r (.k (.r (.r (.r (.r (.r (.r (.r (.r .nil))))))))))))))))) (OLe.refl _)).trans (cmpS_ok (st' := ⟨[], [(0, .v .nl), (1, .dead), (2, .dead), (3, .ptr 3 0), (4, .ptr 5 0), (6, .dead), (7, .dead), (9, .dead), (13, .dead), (18, .v (.int .i64 x2299)), (19, .v (.int .i64 0)), (20, .dead), (25, .dead), (26, .dead), (27, .dead), (28, .dead), (43, .dead)], [(0, .p [(.int .i64 x2299)]), (1, .r [.sl false 6 0 0 1]), (3, .r [.sl false 4 0 n2300 1]), (4, .p c2301), (5, .r [.fn 79 [.ptr 0 0, .ptr 1 0, .ptr 3 0, .ptr 5 0]]), (6, .p [])], 7, []⟩) (by kernel_rfl))) ⟨_, _, _, _, _, _, h2786, rfl⟩ ?_
      clear h2786
      rintro n _ ⟨x2742, c2743, n2744, n2745, c2746, c2747, h2786, rfl⟩
      cases n with
      | zero => cases h2786
      | succ n =>
        rw [m79_7_L0] at h2786
        have hh := brn_some h2786; clear h2786; rcases hh with ⟨h2748, h2786⟩ | ⟨h2748, h2786⟩
        · have hh := bnd'_some h2786; clear h2786; obtain ⟨p2749, h2750, h2786⟩ := hh
          refine W_sound tab_ok mixed 18 _ _ _ ?_
          simp -implicitDefEqProofs only [go_sem, qa, qb, qc, qd, qe, qf, qg, qh, qi, qj, qk, ↓reduceIte, h2302, h2748]
          repeat with_reducible refine ⟨by first | kernel_rfl | decide, ?_⟩
          refine Wp_callP (FnP_le (c57 N _ _ _ h2750) (.cons _ _ _ _ (.nl false) (.cons _ _ _ _ (.refl _) .nil)) (.refl _)) (by kernel_rfl) rfl rfl rfl rfl (by decide) ?_
          have hh := getB_some h2786; clear h2786; obtain ⟨b2752, h2751, h2786⟩ := hh
          refine W_sound tab_ok mixed 9 _ _ _ ?_
          simp -implicitDefEqProofs only [go_sem, qa, qb, qc, qd, qe, qf, qg, qh, qi, qj, qk, ↓reduceIte, h2302, h2748, h2751]
          repeat with_reducible refine ⟨by first | kernel_rfl | decide, ?_⟩
          have hh := bnd'_some h2786; clear h2786; obtain ⟨o2788, h2789, h2790⟩ := hh
          refine Wp_cut (fun s => ∃ b2767, b2767 = o2788 ∧ s = ⟨[], [(0, .v .nl), (1, .dead), (2, .dead), (3, .ptr 3 0), (4, .ptr 5 0), (6, .v (.int .i64 x2742)), (7, .v (.bool b2767)), (9, .dead), (13, .dead), (18, .v (.int .i64 x2299)), (19, .v (.int .i64 x2742)), (20, .dead), (25, .dead), (26, .dead), (27, .dead), (28, .dead), (43, .dead)], [(0, .p c2743), (1, .r [.sl false 6 0 n2744 1]), (3, .r [.sl false 4 0 n2745 1]), (4, .p c2746), (5, .r [.fn 79 [.ptr 0 0, .ptr 1 0, .ptr 3 0, .ptr 5 0]]), (6, .p c2747)], 7, []⟩) ?_ ?_
          · refine Wp_block ?_
            refine Wp_loopG (fun n s => ∃ b2753, ∃ x2754, m79_7_L1 N x2299 x2742 c2743 n2744 n2745 c2746 c2747 n b2753 x2754 = some o2788 ∧ s = ⟨[], [(0, .v .nl), (1, .dead), (2, .dead), (3, .ptr 3 0), (4, .ptr 5 0), (6, .v (.int .i64 x2742)), (7, .v (.bool b2753)), (9, .dead), (13, .dead), (18, .v (.int .i64 x2299)), (19, .v (.int .i64 x2742)), (20, .dead), (25, .sl false 4 0 n2745 1), (26, .v (.int .i64 ((n2745 : Nat) : Int))), (27, .v (.int .i64 x2754)), (28, .dead), (43, .dead)], [(0, .p c2743), (1, .r [.sl false 6 0 n2744 1]), (3, .r [.sl false 4 0 n2745 1]), (4, .p c2746), (5, .r [.fn 79 [.ptr 0 0, .ptr 1 0, .ptr 3 0, .ptr 5 0]]), (6, .p c2747)], 7, []⟩) N _ ((Wk_le (.r (.r (.r (.r (.r (.r (.r (.r (.r (.r (.r (.k (.r (.r (.r (.r (.r .nil))))))))))))))))) (OLe.refl _)).trans (cmpS_ok (st' := ⟨[], [(0, .v .nl), (1, .dead), (2, .dead), (3, .ptr 3 0), (4, .ptr 5 0), (6, .v (.int .i64 x2742)), (7, .v (.bool b2752)), (9, .dead), (13, .dead), (18, .v (.int .i64 x2299)), (19, .v (.int .i64 x2742)), (20, .dead), (25, .sl false 4 0 n2745 1), (26, .v (.int .i64 ((n2745 : Nat) : Int))), (27, .v (.int .i64 0)), (28, .dead), (43, .dead)], [(0, .p c2743), (1, .r [.sl false 6 0 n2744 1]), (3, .r [.sl false 4 0 n2745 1]), (4, .p c2746), (5, .r [.fn 79 [.ptr 0 0, .ptr 1 0, .ptr 3 0, .ptr 5 0]]), (6, .p c2747)], 7, []⟩) (by kernel_rfl))) ⟨_, _, h2789, rfl⟩ ?_
            clear h2789
            rintro n _ ⟨b2753, x2754, h2789, rfl⟩
            cases n with
            | zero => cases h2789
            | succ n =>
              rw [m79_7_L1] at h2789
              have hh := brn_some h2789; clear h2789; rcases hh with ⟨h2755, h2789⟩ | ⟨h2755, h2789⟩
              · have hh := grd_some h2789; clear h2789; obtain ⟨⟨g2756, g2757⟩, h2789⟩ := hh
                have hh := grd_some h2789; clear h2789; obtain ⟨g2758, h2789⟩ := hh
                have hh := getL_some h2789; clear h2789; obtain ⟨n2760, c2761, h2759, h2789⟩ := hh
                have hh := brn_some h2789; clear h2789; rcases hh with ⟨h2762, h2789⟩ | ⟨h2762, h2789⟩
                · refine W_sound tab_ok mixed 33 _ _ _ ?_
                  simp -implicitDefEqProofs only [go_sem, qa, qb, qc, qd, qe, qf, qg, qh, qi, qj, qk, ↓reduceIte, h2302, h2748, h2751, h2755, g2756, g2757, g2758, h2759, h2762]
                  repeat with_reducible refine ⟨by first | kernel_rfl | decide, ?_⟩
                  exact cutQ _ ((Wk_le (.r (.r (.r (.r (.r (.r (.r (.k (.r (.r (.r (.r (.r (.r (.r (.k (.r .nil))))))))))))))))) (OLe.refl _)).trans (cmpS_ok (st' := ⟨[], [(0, .v .nl), (1, .dead), (2, .dead), (3, .ptr 3 0), (4, .ptr 5 0), (6, .v (.int .i64 x2742)), (7, .v (.bool true)), (9, .dead), (13, .dead), (18, .v (.int .i64 x2299)), (19, .v (.int .i64 x2742)), (20, .dead), (25, .sl false 4 0 n2745 1), (26, .v (.int .i64 ((n2745 : Nat) : Int))), (27, .v (.int .i64 (IntKind.i64.wrap (x2754 + 1)))), (28, .dead), (43, .dead)], [(0, .p c2743), (1, .r [.sl false 6 0 n2744 1]), (3, .r [.sl false 4 0 n2745 1]), (4, .p c2746), (5, .r [.fn 79 [.ptr 0 0, .ptr 1 0, .ptr 3 0, .ptr 5 0]]), (6, .p c2747)], 7, []⟩) (by kernel_rfl))) ⟨n, Nat.lt_succ_self n, _, _, h2789, rfl⟩
                · have hh := grd_some h2789; clear h2789; obtain ⟨g2763, h2789⟩ := hh
                  have hh := grd_some h2789; clear h2789; obtain ⟨g2764, h2789⟩ := hh
                  have hh := getI_some h2789; clear h2789; obtain ⟨x2766, h2765, h2789⟩ := hh
                  refine W_sound tab_ok mixed 33 _ _ _ ?_
                  simp -implicitDefEqProofs only [go_sem, qa, qb, qc, qd, qe, qf, qg, qh, qi, qj, qk, ↓reduceIte, h2302, h2748, h2751, h2755, g2756, g2757, g2758, h2759, h2762, g2763, g2764, h2765]
                  repeat with_reducible refine ⟨by first | kernel_rfl | decide, ?_⟩
                  exact cutQ _ ((Wk_le (.r (.r (.r (.r (.r (.r (.r (.k (.r (.r (.r (.r (.r (.r (.r (.k (.r .nil))))))))))))))))) (OLe.refl _)).trans (cmpS_ok (st' := ⟨[], [(0, .v .nl), (1, .dead), (2, .dead), (3, .ptr 3 0), (4, .ptr 5 0), (6, .v (.int .i64 x2742)), (7, .v (.bool (x2766 == x2742))), (9, .dead), (13, .dead), (18, .v (.int .i64 x2299)), (19, .v (.int .i64 x2742)), (20, .dead), (25, .sl false 4 0 n2745 1), (26, .v (.int .i64 ((n2745 : Nat) : Int))), (27, .v (.int .i64 (IntKind.i64.wrap (x2754 + 1)))), (28, .dead), (43, .dead)], [(0, .p c2743), (1, .r [.sl false 6 0 n2744 1]), (3, .r [.sl false 4 0 n2745 1]), (4, .p c2746), (5, .r [.fn 79 [.ptr 0 0, .ptr 1 0, .ptr 3 0, .ptr 5 0]]), (6, .p c2747)], 7, []⟩) (by kernel_rfl))) ⟨n, Nat.lt_succ_self n, _, _, h2789, rfl⟩
              · refine W_sound tab_ok mixed 7 _ _ _ ?_
                simp -implicitDefEqProofs only [go_sem, qa, qb, qc, qd, qe, qf, qg, qh, qi, qj, qk, ↓reduceIte, h2302, h2748, h2751, h2755]
                repeat with_reducible refine ⟨by first | kernel_rfl | decide, ?_⟩
                obtain rfl := Option.some.inj h2789
                exact cutQ _ ((Wk_le (.r (.r (.r (.r (.r (.r (.r (.r (.r (.r (.r (.r (.k (.k (.k (.k (.r .nil))))))))))))))))) (OLe.refl _)).trans (cmpS_ok (st' := ⟨[], [(0, .v .nl), (1, .dead), (2, .dead), (3, .ptr 3 0), (4, .ptr 5 0), (6, .v (.int .i64 x2742)), (7, .v (.bool b2753)), (9, .dead), (13, .dead), (18, .v (.int .i64 x2299)), (19, .v (.int .i64 x2742)), (20, .dead), (25, .dead), (26, .dead), (27, .dead), (28, .dead), (43, .dead)], [(0, .p c2743), (1, .r [.sl false 6 0 n2744 1]), (3, .r [.sl false 4 0 n2745 1]), (4, .p c2746), (5, .r [.fn 79 [.ptr 0 0, .ptr 1 0, .ptr 3 0, .ptr 5 0]]), (6, .p c2747)], 7, []⟩) (by kernel_rfl))) ⟨_, rfl, rfl⟩
          · rintro _ ⟨b2767, rfl, rfl⟩
            have hh := brn_some h2790; clear h2790; rcases hh with ⟨h2768, h2790⟩ | ⟨h2768, h2790⟩
            · refine W_sound tab_ok mixed 12 _ _ _ ?_
              simp -implicitDefEqProofs only [go_sem, qa, qb, qc, qd, qe, qf, qg, qh, qi, qj, qk, ↓reduceIte, h2302, h2748, h2751, h2768]
              repeat with_reducible refine ⟨by first | kernel_rfl | decide, ?_⟩
              exact cutQ _ ((Wk_le (.r (.r (.r (.r (.r (.k (.k (.r (.r (.r (.r (.r (.r (.r (.r (.r (.k .nil))))))))))))))))) (OLe.refl _)).trans (cmpS_ok (st' := ⟨[], [(0, .v .nl), (1, .dead), (2, .dead), (3, .ptr 3 0), (4, .ptr 5 0), (6, .dead), (7, .dead), (9, .dead), (13, .dead), (18, .v (.int .i64 x2299)), (19, .v (.int .i64 (IntKind.i64.wrap (x2742 + 1)))), (20, .dead), (25, .dead), (26, .dead), (27, .dead), (28, .dead), (43, .dead)], [(0, .p c2743), (1, .r [.sl false 6 0 n2744 1]), (3, .r [.sl false 4 0 n2745 1]), (4, .p c2746), (5, .r [.fn 79 [.ptr 0 0, .ptr 1 0, .ptr 3 0, .ptr 5 0]]), (6, .p c2747)], 7, []⟩) (by kernel_rfl))) ⟨n, Nat.lt_succ_self n, _, _, _, _, _, _, h2790, rfl⟩
            · have hh := bnd'_some h2790; clear h2790; obtain ⟨⟨c2770, n2771, n2772, c2773, c2774⟩, h2769, h2790⟩ := hh
              (try dsimp only at h2790)
              refine W_sound tab_ok mixed 17 _ _ _ ?_
              simp -implicitDefEqProofs only [go_sem, qa, qb, qc, qd, qe, qf, qg, qh, qi, qj, qk, ↓reduceIte, h2302, h2748, h2751, h2768]
              repeat with_reducible refine ⟨by first | kernel_rfl | decide, ?_⟩
              refine Wp_callDF [(60, [(.int .i64 x2742)])] [0, 1, 6, 3, 4, 5] (c79_9_a N N _ _ _ _ _ _ _ _ _ _ _ h2769) rfl rfl rfl (by first | rfl | (simp only [go_sem, qa, qb, qc, qd, qe, qf, qg, qh, qi, qj, qk, ↓reduceIte, h2302, h2748, h2751, h2768] <;> rfl)) rfl (by kernel_rfl) rfl rfl (by simp [roF, obL]) ?_
              refine W_sound tab_ok mixed 6 _ _ _ ?_
              simp -implicitDefEqProofs only [go_sem, qa, qb, qc, qd, qe, qf, qg, qh, qi, qj, qk, ↓reduceIte, h2302, h2748, h2751, h2768]
              repeat with_reducible refine ⟨by first | kernel_rfl | decide, ?_⟩
              exact cutQ _ ((Wk_le (.r (.r (.r (.r (.r (.k (.k (.r (.r (.r (.r (.r (.r (.r (.r (.r (.k .nil))))))))))))))))) (OLe.refl _)).trans (cmpS_ok (st' := ⟨[], [(0, .v .nl), (1, .dead), (2, .dead), (3, .ptr 3 0), (4, .ptr 5 0), (6, .dead), (7, .dead), (9, .dead), (13, .dead), (18, .v (.int .i64 x2299)), (19, .v (.int .i64 (IntKind.i64.wrap (x2742 + 1)))), (20, .dead), (25, .dead), (26, .dead), (27, .dead), (28, .dead), (43, .dead)], [(0, .p c2770), (1, .r [.sl false 6 0 n2771 1]), (3, .r [.sl false 4 0 n2772 1]), (4, .p c2773), (5, .r [.fn 79 [.ptr 0 0, .ptr 1 0, .ptr 3 0, .ptr 5 0]]), (6, .p c2774)], 7, []⟩) (by kernel_rfl))) ⟨n, Nat.lt_succ_self n, _, _, _, _, _, _, h2790, rfl⟩
        · refine W_sound tab_ok mixed 7 _ _ _ ?_
          simp -implicitDefEqProofs only [go_sem, qa, qb, qc, qd, qe, qf, qg, qh, qi, qj, qk, ↓reduceIte, h2302, h2748]
          repeat with_reducible refine ⟨by first | kernel_rfl | decide, ?_⟩
          obtain rfl := Option.some.inj h2786
          exact cutQ _ ((Wk_le (.k (.r (.r (.k (.k (.r (.r (.r (.r (.k (.k (.k (.r (.r (.r (.r (.r .nil))))))))))))))))) (OLe.refl _)).trans (cmpS_ok (st' := ⟨[], [(0, .dead), (1, .dead), (2, .dead), (3, .dead), (4, .dead), (6, .dead), (7, .dead), (9, .dead), (13, .dead), (18, .dead), (19, .dead), (20, .dead), (25, .dead), (26, .dead), (27, .dead), (28, .dead), (43, .dead)], [(0, .p c2743), (1, .r [.sl false 6 0 n2744 1]), (3, .r [.sl false 4 0 n2745 1]), (4, .p c2746), (5, .r [.fn 79 [.ptr 0 0, .ptr 1 0, .ptr 3 0, .ptr 5 0]]), (6, .p c2747)], 7, []⟩) (by kernel_rfl))) ⟨_, _, _, _, _, rfl, rfl⟩
    · rintro _ ⟨c2775, n2776, n2777, c2778, c2779, rfl, rfl⟩
      (try dsimp only at h2787)
      refine W_sound tab_ok mixed 1 _ _ _ ?_
      simp -implicitDefEqProofs only [go_sem, qa, qb, qc, qd, qe, qf, qg, qh, qi, qj, qk, ↓reduceIte, h2302]
      repeat with_reducible refine ⟨by first | kernel_rfl | decide, ?_⟩
      obtain rfl := Option.some.inj h2787
      exact finD (e2 := [(0, .dead), (1, .dead), (2, .dead), (3, .dead), (4, .dead), (6, .dead), (7, .dead), (9, .dead), (13, .dead), (18, .dead), (19, .dead), (20, .dead), (25, .dead), (26, .dead), (27, .dead), (28, .dead), (43, .dead)]) (ob2 := [(0, .p c2775), (1, .r [.sl false 6 0 n2776 1]), (3, .r [.sl false 4 0 n2777 1]), (4, .p c2778), (5, .r [.fn 79 [.ptr 0 0, .ptr 1 0, .ptr 3 0, .ptr 5 0]]), (6, .p c2779)]) (st' := ⟨[], [(0, .dead), (1, .dead), (2, .dead), (3, .dead), (4, .dead), (6, .dead), (7, .dead), (9, .dead), (13, .dead), (18, .dead), (19, .dead), (20, .dead), (25, .dead), (26, .dead), (27, .dead), (28, .dead), (43, .dead)], [(0, .p c2775), (1, .r [.sl false 6 0 n2776 1]), (3, .r [.sl false 4 0 n2777 1]), (4, .p c2778), (5, .r [.fn 79 [.ptr 0 0, .ptr 1 0, .ptr 3 0, .ptr 5 0]]), (6, .p c2779)], 7, []⟩) (.r (.r (.r (.r (.r (.r (.r (.r (.r (.r (.r (.r (.r (.r (.r (.r (.r .nil))))))))))))))))) (.cons _ _ _ _ _ (DLes.refl _) (.cons _ _ _ _ _ (DLes.refl _) (.cons _ _ _ _ _ (DLes.refl _) (.cons _ _ _ _ _ (DLes.refl _) (.cons _ _ _ _ _ (DLes.refl _) (.cons _ _ _ _ _ (DLes.refl _) .nil)))))) (by kernel_rfl) (by simp only [go_sem, qa, qb, qc, qd, qe, qf, qg, qh, qi, qj, qk, ↓reduceIte, resQ_tmp, resQ_cell, resQ_nil, retD_one, retD_two, retD_three, retD_none] <;> first | rfl | exact ⟨rfl, rfl⟩ | (try simp [R.val, retD_one, retD_two, retD_three, retD_none]))
theorem c79_7_a (N : Nat) (x2299 : Int) (n2300 : Nat) (c2301 : List PV) (c2303 : List PV) (n2304 : Nat) (c2305 : List PV) (c2306 : List PV) (h : m79_7 N x2299 n2300 c2301 = some (.inl (c2303, n2304, c2305, c2306))) : V.Fn Tryd.prog 79 6 [.v .nl, .ptr 0 0, .ptr 1 0, .ptr 3 0, .ptr 5 0] [(0, .p [(.int .i64 x2299)]), (1, .r [.sl false 2 0 0 1]), (2, .p []), (3, .r [.sl false 4 0 n2300 1]), (4, .p c2301), (5, .r [.fn 79 [.ptr 0 0, .ptr 1 0, .ptr 3 0, .ptr 5 0]])] (fun d ob' => d = .v (.tup []) ∧ ob' = [(0, .p c2303), (1, .r [.sl false 6 0 1 1]), (3, .r [.sl false 4 0 n2304 1]), (4, .p c2305), (5, .r [.fn 79 [.ptr 0 0, .ptr 1 0, .ptr 3 0, .ptr 5 0]]), (6, .p c2306)]) := c79_7 N x2299 n2300 c2301 _ h
theorem c79_7_b (N : Nat) (x2299 : Int) (n2300 : Nat) (c2301 : List PV) (c2780 : List PV) (n2781 : Nat) (n2782 : Nat) (c2783 : List PV) (c2784 : List PV) (h : m79_7 N x2299 n2300 c2301 = some (.inr (c2780, n2781, n2782, c2783, c2784))) : V.Fn Tryd.prog 79 6 [.v .nl, .ptr 0 0, .ptr 1 0, .ptr 3 0, .ptr 5 0] [(0, .p [(.int .i64 x2299)]), (1, .r [.sl false 2 0 0 1]), (2, .p []), (3, .r [.sl false 4 0 n2300 1]), (4, .p c2301), (5, .r [.fn 79 [.ptr 0 0, .ptr 1 0, .ptr 3 0, .ptr 5 0]])] (fun d ob' => d = .v (.tup []) ∧ ob' = [(0, .p c2780), (1, .r [.sl false 6 0 n2781 1]), (3, .r [.sl false 4 0 n2782 1]), (4, .p c2783), (5, .r [.fn 79 [.ptr 0 0, .ptr 1 0, .ptr 3 0, .ptr 5 0]]), (6, .p c2784)]) := c79_7 N x2299 n2300 c2301 _ h
def m38_3 (N : Nat) (x2804 : Int) (n2805 : Nat) (c2806 : List PV) : Option ((PV × List PV)) :=
  bnd' (m79_7 N x2804 n2805 c2806) fun o =>
  match o with
  | .inl (c2809, n2810, c2811, c2812) =>
    grd (List.length c2812 = 1) <|
    some ((.lst false 1 c2812), c2811)
  | .inr (c2814, n2815, n2816, c2817, c2818) =>
    grd (List.length c2818 = n2815) <|
    some ((.lst false n2815 c2818), c2817)
theorem c38_3 (N : Nat) (x2804 : Int) (n2805 : Nat) (c2806 : List PV) (r : PV) (c2821 : List PV) (h : m38_3 N x2804 n2805 c2806 = some (r, c2821)) : V.Fn Tryd.prog 38 1 [.v (.int .i64 x2804), .sl false 0 0 n2805 1] [(0, .p c2806)] (fun d ob' => d = .v r ∧ ob' = [(0, .p c2821)]) := by
  unfold m38_3 at h
  refine Fn_of (sz := 11) tab_ok [0, 1, 2, 3, 4, 5, 6] [.tmp 4] Tryd.func38 rfl rfl rfl (by simp) ?_
  simp only [initSt, initEnv, List.map_cons, List.map_nil, List.getD_cons_zero, List.getD_cons_succ, List.getD_nil]
  refine W_sound tab_ok mixed 20 _ _ _ ?_
  simp -implicitDefEqProofs only [go_sem, qa, qb, qc, qd, qe, qf, qg, qh, qi, qj, qk, ↓reduceIte]
  repeat with_reducible refine ⟨by first | kernel_rfl | decide, ?_⟩
  refine Wp_wkK (Wk_ownC 10 0 1 rfl rfl (by decide) (by decide)) rfl ?_
  simp -implicitDefEqProofs only [go_sem, qa, qb, qc, qd, qe, qf, qg, qh, qi, qj, qk, ↓reduceIte, setO]
  have hh := bnd'_some h; clear h; obtain ⟨oo, h2808, h⟩ := hh
  rcases oo with ⟨c2809, n2810, c2811, c2812⟩ | ⟨c2814, n2815, n2816, c2817, c2818⟩
  · (try dsimp only at h)
    refine W_sound tab_ok mixed 2 _ _ _ ?_
    simp -implicitDefEqProofs only [go_sem, qa, qb, qc, qd, qe, qf, qg, qh, qi, qj, qk, ↓reduceIte]
    repeat with_reducible refine ⟨by first | kernel_rfl | decide, ?_⟩
    refine Wp_callD [3, 10, 18, 4, 0, 17] (c79_7_a N _ _ _ _ _ _ _ h2808) rfl rfl rfl (by first | rfl | (simp only [go_sem, qa, qb, qc, qd, qe, qf, qg, qh, qi, qj, qk, ↓reduceIte] <;> rfl)) rfl (by kernel_rfl) ?_
    refine W_sound tab_ok mixed 8 _ _ _ ?_
    simp -implicitDefEqProofs only [go_sem, qa, qb, qc, qd, qe, qf, qg, qh, qi, qj, qk, ↓reduceIte]
    repeat with_reducible refine ⟨by first | kernel_rfl | decide, ?_⟩
    have hh := grd_some h; clear h; obtain ⟨g2813, h⟩ := hh
    refine FinQ_wk (Wk_freeze 28 c2812 (by rfl) (by decide) (by decide)) ?_
    simp -implicitDefEqProofs only [go_sem, qa, qb, qc, qd, qe, qf, qg, qh, qi, qj, qk, ↓reduceIte, g2813]
    simp only [Option.some.injEq, Prod.mk.injEq] at h; obtain ⟨rfl, rfl⟩ := h
    exact finD (e2 := [(0, .dead), (1, .dead), (2, .dead), (3, .dead), (4, .v (.lst false 1 c2812)), (5, .dead), (6, .dead)]) (ob2 := [(17, .r [.fn 79 [.ptr 3 0, .ptr 10 0, .ptr 4 0, .ptr 17 0]]), (0, .p c2811), (4, .r [.sl false 0 0 n2810 1]), (10, .p [(.lst false 1 c2812)]), (3, .p c2809)]) (st' := ⟨[], [(0, .dead), (1, .dead), (2, .dead), (3, .dead), (4, .v (.lst false 1 c2812)), (5, .dead), (6, .dead)], [(0, .p c2811)], 1, []⟩) (.k (.k (.k (.k (.r (.k (.k .nil))))))) (.cons _ _ _ _ _ (DLes.refl _) (.cons _ _ _ _ _ (DLes.refl _) (.cons _ _ _ _ _ (DLes.refl _) (.cons _ _ _ _ _ (DLes.refl _) (.cons _ _ _ _ _ (DLes.refl _) .nil))))) (by kernel_rfl) (by simp only [go_sem, qa, qb, qc, qd, qe, qf, qg, qh, qi, qj, qk, ↓reduceIte, resQ_tmp, resQ_cell, resQ_nil, retD_one, retD_two, retD_three, retD_none]; try simp [R.val, retD_one, retD_two, retD_three, retD_none])
  · (try dsimp only at h)
    refine W_sound tab_ok mixed 2 _ _ _ ?_
    simp -implicitDefEqProofs only [go_sem, qa, qb, qc, qd, qe, qf, qg, qh, qi, qj, qk, ↓reduceIte]
    repeat with_reducible refine ⟨by first | kernel_rfl | decide, ?_⟩
    refine Wp_callD [3, 10, 18, 4, 0, 17] (c79_7_b N _ _ _ _ _ _ _ _ h2808) rfl rfl rfl (by first | rfl | (simp only [go_sem, qa, qb, qc, qd, qe, qf, qg, qh, qi, qj, qk, ↓reduceIte] <;> rfl)) rfl (by kernel_rfl) ?_
    refine W_sound tab_ok mixed 8 _ _ _ ?_
    simp -implicitDefEqProofs only [go_sem, qa, qb, qc, qd, qe, qf, qg, qh, qi, qj, qk, ↓reduceIte]
    repeat with_reducible refine ⟨by first | kernel_rfl | decide, ?_⟩
    have hh := grd_some h; clear h; obtain ⟨g2819, h⟩ := hh
    refine FinQ_wk (Wk_freeze 28 c2818 (by rfl) (by decide) (by decide)) ?_
    simp -implicitDefEqProofs only [go_sem, qa, qb, qc, qd, qe, qf, qg, qh, qi, qj, qk, ↓reduceIte, g2819]
    simp only [Option.some.injEq, Prod.mk.injEq] at h; obtain ⟨rfl, rfl⟩ := h
    exact finD (e2 := [(0, .dead), (1, .dead), (2, .dead), (3, .dead), (4, .v (.lst false n2815 c2818)), (5, .dead), (6, .dead)]) (ob2 := [(17, .r [.fn 79 [.ptr 3 0, .ptr 10 0, .ptr 4 0, .ptr 17 0]]), (0, .p c2817), (4, .r [.sl false 0 0 n2816 1]), (10, .p [(.lst false n2815 c2818)]), (3, .p c2814)]) (st' := ⟨[], [(0, .dead), (1, .dead), (2, .dead), (3, .dead), (4, .v (.lst false n2815 c2818)), (5, .dead), (6, .dead)], [(0, .p c2817)], 1, []⟩) (.k (.k (.k (.k (.r (.k (.k .nil))))))) (.cons _ _ _ _ _ (DLes.refl _) (.cons _ _ _ _ _ (DLes.refl _) (.cons _ _ _ _ _ (DLes.refl _) (.cons _ _ _ _ _ (DLes.refl _) (.cons _ _ _ _ _ (DLes.refl _) .nil))))) (by kernel_rfl) (by simp only [go_sem, qa, qb, qc, qd, qe, qf, qg, qh, qi, qj, qk, ↓reduceIte, resQ_tmp, resQ_cell, resQ_nil, retD_one, retD_two, retD_three, retD_none]; try simp [R.val, retD_one, retD_two, retD_three, retD_none])
noncomputable def m37_2_L0 (N : Nat) (x3782 : Int) (p3786 : PV) (p3787 : PV) (p3788 : PV) (p3789 : PV) (p3790 : PV) (x3792 : Int) (x3795 : Int) : Nat → Nat → Int → List PV → Option ((Nat × List PV))
  | 0, _, _, _ => none
  | n + 1, n3837, x3838, c3839 =>
    brn (decide (x3838 < (Int.tmod (IntKind.i64.wrap x3795) (IntKind.i64.wrap ((IntKind.i64.wrap (1 + (Int.tmod (IntKind.i64.wrap x3792) x3782))) + 1))))) (
      bnd' (m38_3 N (IntKind.i64.wrap (1 + (Int.tmod (IntKind.i64.wrap x3792) x3782))) n3837 c3839) fun (p3841, c3843) =>
      getL p3841 fun n3845 c3846 =>
      grd (0 ≤ x3838 ∧ x3838 < 5) <|
      grd ((2 + (Int.toNat x3838)) < 7) <|
      getI .u8 (gp [(.int .u8 x3792), (.int .u8 x3795), p3786, p3787, p3788, p3789, p3790] (2 + (Int.toNat x3838))) fun x3851 =>
      grd (((n3845 : Nat) : Int) ≠ 0) <|
      grd (0 ≤ (Int.tmod (IntKind.i64.wrap x3851) ((n3845 : Nat) : Int)) ∧ (Int.tmod (IntKind.i64.wrap x3851) ((n3845 : Nat) : Int)) < ((n3845 : Nat) : Int)) <|
      grd (0 < List.length (List.drop (Int.toNat (Int.tmod (IntKind.i64.wrap x3851) ((n3845 : Nat) : Int))) c3846)) <|
      getL (gp c3846 (Int.toNat (Int.tmod (IntKind.i64.wrap x3851) ((n3845 : Nat) : Int)))) fun n3857 c3858 =>
      grd ((n3837 + 1) ≤ 1099511627776) <|
      grd (List.length c3843 = n3837) <|
      m37_2_L0 N x3782 p3786 p3787 p3788 p3789 p3790 x3792 x3795 n (n3837 + 1) (IntKind.i64.wrap (x3838 + 1)) (c3843 ++ [(.lst false n3857 c3858)])) (
      some (n3837, c3839))
noncomputable def m37_2 (N : Nat) (p3781 : PV) (x3782 : Int) : Option ((Int × Nat × List PV)) :=
  getA7 p3781 fun p3784 p3785 p3786 p3787 p3788 p3789 p3790 =>
  getI .u8 p3784 fun x3792 =>
  grd (x3782 ≠ 0) <|
  getI .u8 p3785 fun x3795 =>
  grd ((IntKind.i64.wrap ((IntKind.i64.wrap (1 + (Int.tmod (IntKind.i64.wrap x3792) x3782))) + 1)) ≠ 0) <|
  bnd' (m37_2_L0 N x3782 p3786 p3787 p3788 p3789 p3790 x3792 x3795 N 0 0 []) fun o =>
  match o with
  | (n3861, c3862) =>
    some ((IntKind.i64.wrap (1 + (Int.tmod (IntKind.i64.wrap x3792) x3782))), n3861, c3862)
theorem c37_2 (N : Nat) (p3781 : PV) (x3782 : Int) (r : (Int × Nat × List PV))  (h : m37_2 N p3781 x3782 = some r) : V.Fn Tryd.prog 37 0 [.v p3781, .v (.int .i64 x3782)] [] (fun d ob' => match (generalizing := false) r with | (x3863, n3864, c3865) => d = .tup [.v (.int .i64 x3863), .sl false 0 0 n3864 1] ∧ ob' = [(0, .p c3865)]) := by
  unfold m37_2 at h
  refine Fn_of (sz := 45) tab_ok [0, 1, 2, 4, 5, 6, 7, 8, 9, 21, 22, 23] [.tmp 4, .tmp 5] Tryd.func37 rfl rfl rfl (by simp) ?_
  simp only [initSt, initEnv, List.map_cons, List.map_nil, List.getD_cons_zero, List.getD_cons_succ, List.getD_nil]
  have hh := getA7_some h; clear h; obtain ⟨p3784, p3785, p3786, p3787, p3788, p3789, p3790, h3783, h⟩ := hh
  have hh := getI_some h; clear h; obtain ⟨x3792, h3791, h⟩ := hh
  have hh := grd_some h; clear h; obtain ⟨g3793, h⟩ := hh
  have hh := getI_some h; clear h; obtain ⟨x3795, h3794, h⟩ := hh
  have hh := grd_some h; clear h; obtain ⟨g3796, h⟩ := hh
  refine W_sound tab_ok mixed 31 _ _ _ ?_
  simp -implicitDefEqProofs only [go_sem, qa, qb, qc, qd, qe, qf, qg, qh, qi, qj, qk, ↓reduceIte, h3783, h3791, g3793, h3794, g3796]
  repeat with_reducible refine ⟨by first | kernel_rfl | decide, ?_⟩
  refine Wp_weaken (Wk_ownS 7 1 rfl (by decide) (by decide)) ?_
  simp -implicitDefEqProofs only [go_sem, qa, qb, qc, qd, qe, qf, qg, qh, qi, qj, qk, ↓reduceIte, h3783, h3791, g3793, h3794, g3796]
  have hh := bnd'_some h; clear h; obtain ⟨o3866, h3867, h3868⟩ := hh
  refine Wp_cut (fun s => ∃ n3861, ∃ c3862, (n3861, c3862) = o3866 ∧ s = ⟨[], [(0, .dead), (1, .dead), (2, .dead), (4, .dead), (5, .dead), (6, .v (.int .i64 (IntKind.i64.wrap (1 + (Int.tmod (IntKind.i64.wrap x3792) x3782))))), (7, .sl false 0 0 n3861 1), (8, .dead), (9, .dead), (21, .dead), (22, .dead), (23, .dead)], [(0, .p c3862)], 1, []⟩) ?_ ?_
  · refine Wp_block ?_
    refine Wp_loopG (fun n s => ∃ n3837, ∃ x3838, ∃ c3839, m37_2_L0 N x3782 p3786 p3787 p3788 p3789 p3790 x3792 x3795 n n3837 x3838 c3839 = some o3866 ∧ s = ⟨[], [(0, .dead), (1, .dead), (2, .ptr 0 0), (4, .dead), (5, .dead), (6, .v (.int .i64 (IntKind.i64.wrap (1 + (Int.tmod (IntKind.i64.wrap x3792) x3782))))), (7, .sl false 1 0 n3837 1), (8, .dead), (9, .dead), (21, .v (.int .i64 (Int.tmod (IntKind.i64.wrap x3795) (IntKind.i64.wrap ((IntKind.i64.wrap (1 + (Int.tmod (IntKind.i64.wrap x3792) x3782))) + 1))))), (22, .v (.int .i64 x3838)), (23, .dead)], [(0, .p [(.int .u8 x3792), (.int .u8 x3795), p3786, p3787, p3788, p3789, p3790]), (1, .p c3839)], 2, []⟩) N _ ((Wk_le (.k (.k (.r (.k (.k (.r (.r (.r (.r (.r (.r (.r .nil)))))))))))) (OLe.refl _)).trans (cmpS_ok (st' := ⟨[], [(0, .dead), (1, .dead), (2, .ptr 0 0), (4, .dead), (5, .dead), (6, .v (.int .i64 (IntKind.i64.wrap (1 + (Int.tmod (IntKind.i64.wrap x3792) x3782))))), (7, .sl false 1 0 0 1), (8, .dead), (9, .dead), (21, .v (.int .i64 (Int.tmod (IntKind.i64.wrap x3795) (IntKind.i64.wrap ((IntKind.i64.wrap (1 + (Int.tmod (IntKind.i64.wrap x3792) x3782))) + 1))))), (22, .v (.int .i64 0)), (23, .dead)], [(0, .p [(.int .u8 x3792), (.int .u8 x3795), p3786, p3787, p3788, p3789, p3790]), (1, .p [])], 2, []⟩) (by kernel_rfl))) ⟨_, _, _, h3867, rfl⟩ ?_
    clear h3867
    rintro n _ ⟨n3837, x3838, c3839, h3867, rfl⟩
    cases n with
    | zero => cases h3867
    | succ n =>
      rw [m37_2_L0] at h3867
      have hh := brn_some h3867; clear h3867; rcases hh with ⟨h3840, h3867⟩ | ⟨h3840, h3867⟩
      · have hh := bnd'_some h3867; clear h3867; obtain ⟨⟨p3841, c3843⟩, h3842, h3867⟩ := hh
        (try dsimp only at h3867)
        refine W_sound tab_ok mixed 18 _ _ _ ?_
        simp -implicitDefEqProofs only [go_sem, qa, qb, qc, qd, qe, qf, qg, qh, qi, qj, qk, ↓reduceIte, h3783, h3791, g3793, h3794, g3796, h3840]
        repeat with_reducible refine ⟨by first | kernel_rfl | decide, ?_⟩
        refine Wp_callD [1] (c38_3 N _ _ _ _ _ h3842) rfl rfl rfl (by first | rfl | (simp only [go_sem, qa, qb, qc, qd, qe, qf, qg, qh, qi, qj, qk, ↓reduceIte, h3783, h3791, g3793, h3794, g3796, h3840] <;> rfl)) rfl (by kernel_rfl) ?_
        have hh := getL_some h3867; clear h3867; obtain ⟨n3845, c3846, h3844, h3867⟩ := hh
        have hh := grd_some h3867; clear h3867; obtain ⟨⟨g3847, g3848⟩, h3867⟩ := hh
        have hh := grd_some h3867; clear h3867; obtain ⟨g3849, h3867⟩ := hh
        have hh := getI_some h3867; clear h3867; obtain ⟨x3851, h3850, h3867⟩ := hh
        have hh := grd_some h3867; clear h3867; obtain ⟨g3852, h3867⟩ := hh
        have hh := grd_some h3867; clear h3867; obtain ⟨⟨g3853, g3854⟩, h3867⟩ := hh
        have hh := grd_some h3867; clear h3867; obtain ⟨g3855, h3867⟩ := hh
        have hh := getL_some h3867; clear h3867; obtain ⟨n3857, c3858, h3856, h3867⟩ := hh
        have hh := grd_some h3867; clear h3867; obtain ⟨g3859, h3867⟩ := hh
        have hh := grd_some h3867; clear h3867; obtain ⟨g3860, h3867⟩ := hh
        refine W_sound tab_ok mixed 24 _ _ _ ?_
        simp -implicitDefEqProofs only [go_sem, qa, qb, qc, qd, qe, qf, qg, qh, qi, qj, qk, ↓reduceIte, h3783, h3791, g3793, h3794, g3796, h3840, h3844, g3847, g3848, g3849, h3850, g3852, g3853, g3854, g3855, h3856, g3859, g3860]
        repeat with_reducible refine ⟨by first | kernel_rfl | decide, ?_⟩
        exact cutQ _ ((Wk_le (.r (.r (.r (.r (.r (.r (.r (.k (.k (.r (.r (.k .nil)))))))))))) (OLe.refl _)).trans (cmpS_ok (st' := ⟨[], [(0, .dead), (1, .dead), (2, .ptr 0 0), (4, .dead), (5, .dead), (6, .v (.int .i64 (IntKind.i64.wrap (1 + (Int.tmod (IntKind.i64.wrap x3792) x3782))))), (7, .sl false 1 0 (n3837 + 1) 1), (8, .dead), (9, .dead), (21, .v (.int .i64 (Int.tmod (IntKind.i64.wrap x3795) (IntKind.i64.wrap ((IntKind.i64.wrap (1 + (Int.tmod (IntKind.i64.wrap x3792) x3782))) + 1))))), (22, .v (.int .i64 (IntKind.i64.wrap (x3838 + 1)))), (23, .dead)], [(0, .p [(.int .u8 x3792), (.int .u8 x3795), p3786, p3787, p3788, p3789, p3790]), (1, .p (c3843 ++ [(.lst false n3857 c3858)]))], 2, []⟩) (by kernel_rfl))) ⟨n, Nat.lt_succ_self n, _, _, _, h3867, rfl⟩
      · refine W_sound tab_ok mixed 7 _ _ _ ?_
        simp -implicitDefEqProofs only [go_sem, qa, qb, qc, qd, qe, qf, qg, qh, qi, qj, qk, ↓reduceIte, h3783, h3791, g3793, h3794, g3796, h3840]
        repeat with_reducible refine ⟨by first | kernel_rfl | decide, ?_⟩
        obtain rfl := Option.some.inj h3867
        exact cutQ _ ((Wk_le (.r (.r (.k (.r (.r (.r (.r (.r (.r (.k (.k (.k .nil)))))))))))) (OLe.refl _)).trans (cmpS_ok (st' := ⟨[], [(0, .dead), (1, .dead), (2, .dead), (4, .dead), (5, .dead), (6, .v (.int .i64 (IntKind.i64.wrap (1 + (Int.tmod (IntKind.i64.wrap x3792) x3782))))), (7, .sl false 0 0 n3837 1), (8, .dead), (9, .dead), (21, .dead), (22, .dead), (23, .dead)], [(0, .p c3839)], 1, []⟩) (by kernel_rfl))) ⟨_, _, rfl, rfl⟩
  · rintro _ ⟨n3861, c3862, rfl, rfl⟩
    (try dsimp only at h3868)
    refine W_sound tab_ok mixed 9 _ _ _ ?_
    simp -implicitDefEqProofs only [go_sem, qa, qb, qc, qd, qe, qf, qg, qh, qi, qj, qk, ↓reduceIte, h3783, h3791, g3793, h3794, g3796]
    repeat with_reducible refine ⟨by first | kernel_rfl | decide, ?_⟩
    obtain rfl := Option.some.inj h3868
    exact finD (e2 := [(0, .dead), (1, .dead), (2, .dead), (4, .v (.int .i64 (IntKind.i64.wrap (1 + (Int.tmod (IntKind.i64.wrap x3792) x3782))))), (5, .sl false 0 0 n3861 1), (6, .dead), (7, .dead), (8, .dead), (9, .dead), (21, .dead), (22, .dead), (23, .dead)]) (ob2 := [(0, .p c3862)]) (st' := ⟨[], [(0, .dead), (1, .dead), (2, .dead), (4, .v (.int .i64 (IntKind.i64.wrap (1 + (Int.tmod (IntKind.i64.wrap x3792) x3782))))), (5, .sl false 0 0 n3861 1), (6, .dead), (7, .dead), (8, .dead), (9, .dead), (21, .dead), (22, .dead), (23, .dead)], [(0, .p c3862)], 1, []⟩) (.r (.r (.r (.r (.r (.k (.k (.r (.r (.r (.r (.r .nil)))))))))))) (.cons _ _ _ _ _ (DLes.refl _) .nil) (by kernel_rfl) (by simp only [go_sem, qa, qb, qc, qd, qe, qf, qg, qh, qi, qj, qk, ↓reduceIte, resQ_tmp, resQ_cell, resQ_nil, retD_one, retD_two, retD_three, retD_none] <;> first | rfl | exact ⟨rfl, rfl⟩ | (try simp [R.val, retD_one, retD_two, retD_three, retD_none]))
theorem c37_2_a (N : Nat) (p3781 : PV) (x3782 : Int) (x3863 : Int) (n3864 : Nat) (c3865 : List PV) (h : m37_2 N p3781 x3782 = some (x3863, n3864, c3865)) : V.Fn Tryd.prog 37 0 [.v p3781, .v (.int .i64 x3782)] [] (fun d ob' => d = .tup [.v (.int .i64 x3863), .sl false 0 0 n3864 1] ∧ ob' = [(0, .p c3865)]) := c37_2 N p3781 x3782 _ h
noncomputable def m80_3_L0 (N : Nat) (rec : PV → PV → List PV → Nat → List PV → List PV → Option ((List PV × Nat × List PV × List PV))) (n4143 : Nat) (c4144 : List PV) (n4146 : Nat) (c4147 : List PV) (n4166 : Nat) (c4167 : List PV) : Nat → Int → List PV → Nat → List PV → List PV → Option ((List PV × Nat × List PV × List PV))
  | 0, _, _, _, _, _ => none
  | n + 1, x4197, c4198, n4199, c4200, c4201 =>
    brn (decide (x4197 < ((n4166 : Nat) : Int))) (
      grd (0 ≤ x4197 ∧ x4197 < ((n4166 : Nat) : Int)) <|
      grd (0 < List.length (List.drop (Int.toNat x4197) c4167)) <|
      getI .i64 (gp c4167 (Int.toNat x4197)) fun x4207 =>
      bnd' (m57 N (.lst false n4143 c4144) x4197) fun p4208 =>
      getB p4208 fun b4211 =>
      brn b4211 (
        m80_3_L0 N rec n4143 c4144 n4146 c4147 n4166 c4167 n (IntKind.i64.wrap (x4197 + 1)) c4198 n4199 c4200 c4201) (
        bnd' (m57 N (.lst false n4146 c4147) x4207) fun p4213 =>
        getB p4213 fun b4216 =>
        brn b4216 (
          m80_3_L0 N rec n4143 c4144 n4146 c4147 n4166 c4167 n (IntKind.i64.wrap (x4197 + 1)) c4198 n4199 c4200 c4201) (
          grd (((n4143 : Nat) : Int) ≤ ((n4143 : Nat) : Int)) <|
          grd (List.length c4144 = n4143) <|
          grd ((n4143 + 1) ≤ 1099511627776) <|
          grd (0 ≤ ((n4146 : Nat) : Int) ∧ ((n4146 : Nat) : Int) ≤ ((n4146 : Nat) : Int)) <|
          grd (List.length c4147 = n4146) <|
          grd ((n4146 + 1) ≤ 1099511627776) <|
          bnd' (rec (.lst false (n4143 + 1) (c4144 ++ [(.int .i64 x4197)])) (.lst false (n4146 + 1) (c4147 ++ [(.int .i64 x4207)])) c4198 n4199 c4201 c4200) fun o =>
          match o with
          | (c4226, n4227, c4228, c4229) =>
            m80_3_L0 N rec n4143 c4144 n4146 c4147 n4166 c4167 n (IntKind.i64.wrap (x4197 + 1)) c4226 n4227 c4228 c4229))) (
      some (c4198, n4199, c4200, c4201))
noncomputable def m80_3 (N : Nat) : Nat → PV → PV → List PV → Nat → List PV → List PV → Option ((List PV × Nat × List PV × List PV))
  | 0, _, _, _, _, _, _ => none
  | fu + 1, p4136, p4137, c4138, n4139, c4140, c4141 =>
    getL p4136 fun n4143 c4144 =>
    getL p4137 fun n4146 c4147 =>
    grd (0 < List.length c4138) <|
    getI .i64 (gp c4138 0) fun x4150 =>
    brn (((n4143 : Nat) : Int) == x4150) (
      grd ((n4139 + 1) ≤ 1099511627776) <|
      grd (List.length c4140 = n4139) <|
      some (c4138, (n4139 + 1), c4141, (c4140 ++ [(.lst false n4143 c4144)]))) (
      grd (0 < List.length c4141) <|
      getL (gp c4141 0) fun n4160 c4161 =>
      grd (0 ≤ ((n4143 : Nat) : Int) ∧ ((n4143 : Nat) : Int) < ((n4160 : Nat) : Int)) <|
      grd (0 < List.length (List.drop n4143 c4161)) <|
      getL (gp c4161 n4143) fun n4166 c4167 =>
      bnd' (m80_3_L0 N (m80_3 N fu) n4143 c4144 n4146 c4147 n4166 c4167 N 0 c4138 n4139 c4141 c4140) fun o =>
      match o with
      | (c4230, n4231, c4232, c4233) =>
        some (c4230, n4231, c4232, c4233))
theorem c80_3 (N : Nat) : ∀ (fu : Nat) (p4136 : PV) (p4137 : PV) (c4138 : List PV) (n4139 : Nat) (c4140 : List PV) (c4141 : List PV) (r : (List PV × Nat × List PV × List PV))  (h : m80_3 N fu p4136 p4137 c4138 n4139 c4140 c4141 = some r), V.Fn Tryd.prog 80 5 [.v p4136, .v p4137, .ptr 0 0, .ptr 1 0, .ptr 3 0, .ptr 4 0] [(0, .p c4138), (1, .r [.sl false 2 0 n4139 1]), (2, .p c4140), (3, .p c4141), (4, .r [.fn 80 [.ptr 0 0, .ptr 1 0, .ptr 3 0, .ptr 4 0]])] (fun d ob' => match (generalizing := false) r with | (c4052, n4053, c4054, c4055) => d = .v (.tup []) ∧ ob' = [(0, .p c4052), (1, .r [.sl false 5 0 n4053 1]), (3, .p c4054), (4, .r [.fn 80 [.ptr 0 0, .ptr 1 0, .ptr 3 0, .ptr 4 0]]), (5, .p c4055)]) := by
  intro fu
  induction fu with
  | zero => intro p4136 p4137 c4138 n4139 c4140 c4141 r h; cases h
  | succ fu ih =>
    intro p4136 p4137 c4138 n4139 c4140 c4141 r h
    rw [m80_3] at h
    refine Fn_of (sz := 60) tab_ok [0, 1, 2, 3, 4, 5, 8, 9, 13, 22, 23, 24, 25, 38] [] Tryd.func80 rfl rfl rfl (by simp) ?_
    simp only [initSt, initEnv, List.map_cons, List.map_nil, List.getD_cons_zero, List.getD_cons_succ, List.getD_nil]
    have hh := getL_some h; clear h; obtain ⟨n4143, c4144, h4142, h⟩ := hh
    have hh := getL_some h; clear h; obtain ⟨n4146, c4147, h4145, h⟩ := hh
    simp only [h4142, h4145]
    refine Wp_wkK (cmpT_ok (st' := ⟨[], [(0, .v (.lst false n4143 c4144)), (1, .v (.lst false n4146 c4147)), (2, .ptr 0 0), (3, .ptr 1 0), (4, .ptr 3 0), (5, .ptr 4 0), (8, .dead), (9, .dead), (13, .dead), (22, .dead), (23, .dead), (24, .dead), (25, .dead), (38, .dead)], [(0, .p c4138), (1, .r [.sl false 5 0 n4139 1]), (3, .p c4141), (4, .r [.fn 80 [.ptr 0 0, .ptr 1 0, .ptr 3 0, .ptr 4 0]]), (5, .p c4140)], 6, []⟩) [0, 1, 1000000002, 3, 4, 2] (by kernel_rfl)) rfl ?_
    have hh := grd_some h; clear h; obtain ⟨g4148, h⟩ := hh
    have hh := getI_some h; clear h; obtain ⟨x4150, h4149, h⟩ := hh
    have hh := brn_some h; clear h; rcases hh with ⟨h4151, h⟩ | ⟨h4151, h⟩
    · have hh := grd_some h; clear h; obtain ⟨g4152, h⟩ := hh
      have hh := grd_some h; clear h; obtain ⟨g4153, h⟩ := hh
      refine W_sound tab_ok mixed 19 _ _ _ ?_
      simp -implicitDefEqProofs only [go_sem, qa, qb, qc, qd, qe, qf, qg, qh, qi, qj, qk, ↓reduceIte, h4142, h4145, g4148, h4149, h4151, g4152, g4153]
      repeat with_reducible refine ⟨by first | kernel_rfl | decide, ?_⟩
      obtain rfl := Option.some.inj h
      exact finD (e2 := [(0, .dead), (1, .dead), (2, .dead), (3, .dead), (4, .dead), (5, .dead), (8, .dead), (9, .dead), (13, .dead), (22, .dead), (23, .dead), (24, .dead), (25, .dead), (38, .dead)]) (ob2 := [(0, .p c4138), (1, .r [.sl false 23 0 (n4139 + 1) 1]), (3, .p c4141), (4, .r [.fn 80 [.ptr 0 0, .ptr 1 0, .ptr 3 0, .ptr 4 0]]), (22, .p [(.lst false n4143 c4144)]), (23, .p (c4140 ++ [(.lst false n4143 c4144)]))]) (st' := ⟨[], [(0, .dead), (1, .dead), (2, .dead), (3, .dead), (4, .dead), (5, .dead), (8, .dead), (9, .dead), (13, .dead), (22, .dead), (23, .dead), (24, .dead), (25, .dead), (38, .dead)], [(0, .p c4138), (1, .r [.sl false 5 0 (n4139 + 1) 1]), (3, .p c4141), (4, .r [.fn 80 [.ptr 0 0, .ptr 1 0, .ptr 3 0, .ptr 4 0]]), (5, .p (c4140 ++ [(.lst false n4143 c4144)]))], 6, []⟩) (.k (.k (.k (.k (.k (.k (.r (.r (.k (.r (.r (.r (.r (.r .nil)))))))))))))) (.cons _ _ _ _ _ (DLes.refl _) (.cons _ _ _ _ _ (DLes.refl _) (.cons _ _ _ _ _ (DLes.refl _) (.cons _ _ _ _ _ (DLes.refl _) (.cons _ _ _ _ _ (DLes.refl _) (.cons _ _ _ _ _ (DLes.refl _) .nil)))))) (by kernel_rfl) (by simp only [go_sem, qa, qb, qc, qd, qe, qf, qg, qh, qi, qj, qk, ↓reduceIte, resQ_tmp, resQ_cell, resQ_nil, retD_one, retD_two, retD_three, retD_none] <;> first | rfl | exact ⟨rfl, rfl⟩ | (try simp [R.val, retD_one, retD_two, retD_three, retD_none]))
    · have hh := grd_some h; clear h; obtain ⟨g4158, h⟩ := hh
      have hh := getL_some h; clear h; obtain ⟨n4160, c4161, h4159, h⟩ := hh
      have hh := grd_some h; clear h; obtain ⟨⟨g4162, g4163⟩, h⟩ := hh
      have hh := grd_some h; clear h; obtain ⟨g4164, h⟩ := hh
      have hh := getL_some h; clear h; obtain ⟨n4166, c4167, h4165, h⟩ := hh
      refine W_sound tab_ok mixed 20 _ _ _ ?_
      simp -implicitDefEqProofs only [go_sem, qa, qb, qc, qd, qe, qf, qg, qh, qi, qj, qk, ↓reduceIte, h4142, h4145, g4148, h4149, h4151, g4158, h4159, g4162, g4163, g4164, h4165]
      repeat with_reducible refine ⟨by first | kernel_rfl | decide, ?_⟩
      have hh := bnd'_some h; clear h; obtain ⟨o4238, h4239, h4240⟩ := hh
      refine Wp_cut (fun s => ∃ c4230, ∃ n4231, ∃ c4232, ∃ c4233, (c4230, n4231, c4232, c4233) = o4238 ∧ s = ⟨[], [(0, .dead), (1, .dead), (2, .dead), (3, .dead), (4, .dead), (5, .dead), (8, .dead), (9, .dead), (13, .dead), (22, .dead), (23, .dead), (24, .dead), (25, .dead), (38, .dead)], [(0, .p c4230), (1, .r [.sl false 5 0 n4231 1]), (3, .p c4232), (4, .r [.fn 80 [.ptr 0 0, .ptr 1 0, .ptr 3 0, .ptr 4 0]]), (5, .p c4233)], 6, []⟩) ?_ ?_
      · refine Wp_block ?_
        refine Wp_loopG (fun n s => ∃ x4197, ∃ c4198, ∃ n4199, ∃ c4200, ∃ c4201, m80_3_L0 N (m80_3 N fu) n4143 c4144 n4146 c4147 n4166 c4167 n x4197 c4198 n4199 c4200 c4201 = some o4238 ∧ s = ⟨[], [(0, .v (.lst false n4143 c4144)), (1, .v (.lst false n4146 c4147)), (2, .dead), (3, .dead), (4, .dead), (5, .ptr 4 0), (8, .dead), (9, .dead), (13, .dead), (22, .v (.lst false n4166 c4167)), (23, .v (.int .i64 ((n4166 : Nat) : Int))), (24, .v (.int .i64 x4197)), (25, .dead), (38, .dead)], [(0, .p c4198), (1, .r [.sl false 5 0 n4199 1]), (3, .p c4200), (4, .r [.fn 80 [.ptr 0 0, .ptr 1 0, .ptr 3 0, .ptr 4 0]]), (5, .p c4201)], 6, []⟩) N _ ((Wk_le (.r (.r (.k (.k (.k (.r (.r (.r (.k (.r (.r (.r (.r (.r .nil)))))))))))))) (OLe.refl _)).trans (cmpS_ok (st' := ⟨[], [(0, .v (.lst false n4143 c4144)), (1, .v (.lst false n4146 c4147)), (2, .dead), (3, .dead), (4, .dead), (5, .ptr 4 0), (8, .dead), (9, .dead), (13, .dead), (22, .v (.lst false n4166 c4167)), (23, .v (.int .i64 ((n4166 : Nat) : Int))), (24, .v (.int .i64 0)), (25, .dead), (38, .dead)], [(0, .p c4138), (1, .r [.sl false 5 0 n4139 1]), (3, .p c4141), (4, .r [.fn 80 [.ptr 0 0, .ptr 1 0, .ptr 3 0, .ptr 4 0]]), (5, .p c4140)], 6, []⟩) (by kernel_rfl))) ⟨_, _, _, _, _, h4239, rfl⟩ ?_
        clear h4239
        rintro n _ ⟨x4197, c4198, n4199, c4200, c4201, h4239, rfl⟩
        cases n with
        | zero => cases h4239
        | succ n =>
          rw [m80_3_L0] at h4239
          have hh := brn_some h4239; clear h4239; rcases hh with ⟨h4202, h4239⟩ | ⟨h4202, h4239⟩
          · have hh := grd_some h4239; clear h4239; obtain ⟨⟨g4203, g4204⟩, h4239⟩ := hh
            have hh := grd_some h4239; clear h4239; obtain ⟨g4205, h4239⟩ := hh
            have hh := getI_some h4239; clear h4239; obtain ⟨x4207, h4206, h4239⟩ := hh
            have hh := bnd'_some h4239; clear h4239; obtain ⟨p4208, h4209, h4239⟩ := hh
            refine W_sound tab_ok mixed 21 _ _ _ ?_
            simp -implicitDefEqProofs only [go_sem, qa, qb, qc, qd, qe, qf, qg, qh, qi, qj, qk, ↓reduceIte, h4142, h4145, g4148, h4149, h4151, g4158, h4159, g4162, g4163, g4164, h4165, h4202, g4203, g4204, g4205, h4206]
            repeat with_reducible refine ⟨by first | kernel_rfl | decide, ?_⟩
            refine Wp_callP (c57 N _ _ _ h4209) (by kernel_rfl) rfl rfl rfl rfl (by decide) ?_
            have hh := getB_some h4239; clear h4239; obtain ⟨b4211, h4210, h4239⟩ := hh
            have hh := brn_some h4239; clear h4239; rcases hh with ⟨h4212, h4239⟩ | ⟨h4212, h4239⟩
            · refine W_sound tab_ok mixed 15 _ _ _ ?_
              simp -implicitDefEqProofs only [go_sem, qa, qb, qc, qd, qe, qf, qg, qh, qi, qj, qk, ↓reduceIte, h4142, h4145, g4148, h4149, h4151, g4158, h4159, g4162, g4163, g4164, h4165, h4202, g4203, g4204, g4205, h4206, h4210, h4212]
              repeat with_reducible refine ⟨by first | kernel_rfl | decide, ?_⟩
              exact cutQ _ ((Wk_le (.r (.r (.r (.r (.r (.r (.k (.k (.r (.r (.r (.r (.k (.k .nil)))))))))))))) (OLe.refl _)).trans (cmpS_ok (st' := ⟨[], [(0, .v (.lst false n4143 c4144)), (1, .v (.lst false n4146 c4147)), (2, .dead), (3, .dead), (4, .dead), (5, .ptr 4 0), (8, .dead), (9, .dead), (13, .dead), (22, .v (.lst false n4166 c4167)), (23, .v (.int .i64 ((n4166 : Nat) : Int))), (24, .v (.int .i64 (IntKind.i64.wrap (x4197 + 1)))), (25, .dead), (38, .dead)], [(0, .p c4198), (1, .r [.sl false 5 0 n4199 1]), (3, .p c4200), (4, .r [.fn 80 [.ptr 0 0, .ptr 1 0, .ptr 3 0, .ptr 4 0]]), (5, .p c4201)], 6, []⟩) (by kernel_rfl))) ⟨n, Nat.lt_succ_self n, _, _, _, _, _, h4239, rfl⟩
            · have hh := bnd'_some h4239; clear h4239; obtain ⟨p4213, h4214, h4239⟩ := hh
              refine W_sound tab_ok mixed 4 _ _ _ ?_
              simp -implicitDefEqProofs only [go_sem, qa, qb, qc, qd, qe, qf, qg, qh, qi, qj, qk, ↓reduceIte, h4142, h4145, g4148, h4149, h4151, g4158, h4159, g4162, g4163, g4164, h4165, h4202, g4203, g4204, g4205, h4206, h4210, h4212]
              repeat with_reducible refine ⟨by first | kernel_rfl | decide, ?_⟩
              refine Wp_callP (c57 N _ _ _ h4214) (by kernel_rfl) rfl rfl rfl rfl (by decide) ?_
              have hh := getB_some h4239; clear h4239; obtain ⟨b4216, h4215, h4239⟩ := hh
              have hh := brn_some h4239; clear h4239; rcases hh with ⟨h4217, h4239⟩ | ⟨h4217, h4239⟩
              · refine W_sound tab_ok mixed 10 _ _ _ ?_
                simp -implicitDefEqProofs only [go_sem, qa, qb, qc, qd, qe, qf, qg, qh, qi, qj, qk, ↓reduceIte, h4142, h4145, g4148, h4149, h4151, g4158, h4159, g4162, g4163, g4164, h4165, h4202, g4203, g4204, g4205, h4206, h4210, h4212, h4215, h4217]
                repeat with_reducible refine ⟨by first | kernel_rfl | decide, ?_⟩
                exact cutQ _ ((Wk_le (.r (.r (.r (.r (.r (.r (.k (.k (.r (.r (.r (.r (.k (.k .nil)))))))))))))) (OLe.refl _)).trans (cmpS_ok (st' := ⟨[], [(0, .v (.lst false n4143 c4144)), (1, .v (.lst false n4146 c4147)), (2, .dead), (3, .dead), (4, .dead), (5, .ptr 4 0), (8, .dead), (9, .dead), (13, .dead), (22, .v (.lst false n4166 c4167)), (23, .v (.int .i64 ((n4166 : Nat) : Int))), (24, .v (.int .i64 (IntKind.i64.wrap (x4197 + 1)))), (25, .dead), (38, .dead)], [(0, .p c4198), (1, .r [.sl false 5 0 n4199 1]), (3, .p c4200), (4, .r [.fn 80 [.ptr 0 0, .ptr 1 0, .ptr 3 0, .ptr 4 0]]), (5, .p c4201)], 6, []⟩) (by kernel_rfl))) ⟨n, Nat.lt_succ_self n, _, _, _, _, _, h4239, rfl⟩
              · have hh := grd_some h4239; clear h4239; obtain ⟨g4218, h4239⟩ := hh
                have hh := grd_some h4239; clear h4239; obtain ⟨g4219, h4239⟩ := hh
                have hh := grd_some h4239; clear h4239; obtain ⟨g4220, h4239⟩ := hh
                have hh := grd_some h4239; clear h4239; obtain ⟨⟨g4221, g4222⟩, h4239⟩ := hh
                have hh := grd_some h4239; clear h4239; obtain ⟨g4223, h4239⟩ := hh
                have hh := grd_some h4239; clear h4239; obtain ⟨g4224, h4239⟩ := hh
                have hh := bnd'_some h4239; clear h4239; obtain ⟨⟨c4226, n4227, c4228, c4229⟩, h4225, h4239⟩ := hh
                (try dsimp only at h4239)
                refine W_sound tab_ok mixed 24 _ _ _ ?_
                simp -implicitDefEqProofs only [go_sem, qa, qb, qc, qd, qe, qf, qg, qh, qi, qj, qk, ↓reduceIte, h4142, h4145, g4148, h4149, h4151, g4158, h4159, g4162, g4163, g4164, h4165, h4202, g4203, g4204, g4205, h4206, h4210, h4212, h4215, h4217, g4218, g4219, g4220, g4221, g4222, g4223, g4224]
                repeat with_reducible refine ⟨by first | kernel_rfl | decide, ?_⟩
                refine Wp_callDF [(54, (c4144 ++ [(.int .i64 x4197)])), (63, (c4147 ++ [(.int .i64 x4207)]))] [0, 1, 5, 3, 4] (ih _ _ _ _ _ _ _ h4225) rfl rfl rfl (by first | rfl | (simp only [go_sem, qa, qb, qc, qd, qe, qf, qg, qh, qi, qj, qk, ↓reduceIte, h4142, h4145, g4148, h4149, h4151, g4158, h4159, g4162, g4163, g4164, h4165, h4202, g4203, g4204, g4205, h4206, h4210, h4212, h4215, h4217, g4218, g4219, g4220, g4221, g4222, g4223, g4224] <;> rfl)) rfl (by kernel_rfl) rfl rfl (by simp [roF, obL]) ?_
                refine W_sound tab_ok mixed 6 _ _ _ ?_
                simp -implicitDefEqProofs only [go_sem, qa, qb, qc, qd, qe, qf, qg, qh, qi, qj, qk, ↓reduceIte, h4142, h4145, g4148, h4149, h4151, g4158, h4159, g4162, g4163, g4164, h4165, h4202, g4203, g4204, g4205, h4206, h4210, h4212, h4215, h4217, g4218, g4219, g4220, g4221, g4222, g4223, g4224]
                repeat with_reducible refine ⟨by first | kernel_rfl | decide, ?_⟩
                exact cutQ _ ((Wk_le (.r (.r (.r (.r (.r (.r (.k (.k (.r (.r (.r (.r (.k (.k .nil)))))))))))))) (OLe.refl _)).trans (cmpS_ok (st' := ⟨[], [(0, .v (.lst false n4143 c4144)), (1, .v (.lst false n4146 c4147)), (2, .dead), (3, .dead), (4, .dead), (5, .ptr 4 0), (8, .dead), (9, .dead), (13, .dead), (22, .v (.lst false n4166 c4167)), (23, .v (.int .i64 ((n4166 : Nat) : Int))), (24, .v (.int .i64 (IntKind.i64.wrap (x4197 + 1)))), (25, .dead), (38, .dead)], [(0, .p c4226), (1, .r [.sl false 5 0 n4227 1]), (3, .p c4228), (4, .r [.fn 80 [.ptr 0 0, .ptr 1 0, .ptr 3 0, .ptr 4 0]]), (5, .p c4229)], 6, []⟩) (by kernel_rfl))) ⟨n, Nat.lt_succ_self n, _, _, _, _, _, h4239, rfl⟩
          · refine W_sound tab_ok mixed 7 _ _ _ ?_
            simp -implicitDefEqProofs only [go_sem, qa, qb, qc, qd, qe, qf, qg, qh, qi, qj, qk, ↓reduceIte, h4142, h4145, g4148, h4149, h4151, g4158, h4159, g4162, g4163, g4164, h4165, h4202]
            repeat with_reducible refine ⟨by first | kernel_rfl | decide, ?_⟩
            obtain rfl := Option.some.inj h4239
            exact cutQ _ ((Wk_le (.k (.k (.r (.r (.r (.k (.r (.r (.r (.k (.k (.k (.k (.r .nil)))))))))))))) (OLe.refl _)).trans (cmpS_ok (st' := ⟨[], [(0, .dead), (1, .dead), (2, .dead), (3, .dead), (4, .dead), (5, .dead), (8, .dead), (9, .dead), (13, .dead), (22, .dead), (23, .dead), (24, .dead), (25, .dead), (38, .dead)], [(0, .p c4198), (1, .r [.sl false 5 0 n4199 1]), (3, .p c4200), (4, .r [.fn 80 [.ptr 0 0, .ptr 1 0, .ptr 3 0, .ptr 4 0]]), (5, .p c4201)], 6, []⟩) (by kernel_rfl))) ⟨_, _, _, _, rfl, rfl⟩
      · rintro _ ⟨c4230, n4231, c4232, c4233, rfl, rfl⟩
        (try dsimp only at h4240)
        refine W_sound tab_ok mixed 1 _ _ _ ?_
        simp -implicitDefEqProofs only [go_sem, qa, qb, qc, qd, qe, qf, qg, qh, qi, qj, qk, ↓reduceIte, h4142, h4145, g4148, h4149, h4151, g4158, h4159, g4162, g4163, g4164, h4165]
        repeat with_reducible refine ⟨by first | kernel_rfl | decide, ?_⟩
        obtain rfl := Option.some.inj h4240
        exact finD (e2 := [(0, .dead), (1, .dead), (2, .dead), (3, .dead), (4, .dead), (5, .dead), (8, .dead), (9, .dead), (13, .dead), (22, .dead), (23, .dead), (24, .dead), (25, .dead), (38, .dead)]) (ob2 := [(0, .p c4230), (1, .r [.sl false 5 0 n4231 1]), (3, .p c4232), (4, .r [.fn 80 [.ptr 0 0, .ptr 1 0, .ptr 3 0, .ptr 4 0]]), (5, .p c4233)]) (st' := ⟨[], [(0, .dead), (1, .dead), (2, .dead), (3, .dead), (4, .dead), (5, .dead), (8, .dead), (9, .dead), (13, .dead), (22, .dead), (23, .dead), (24, .dead), (25, .dead), (38, .dead)], [(0, .p c4230), (1, .r [.sl false 5 0 n4231 1]), (3, .p c4232), (4, .r [.fn 80 [.ptr 0 0, .ptr 1 0, .ptr 3 0, .ptr 4 0]]), (5, .p c4233)], 6, []⟩) (.r (.r (.r (.r (.r (.r (.r (.r (.r (.r (.r (.r (.r (.r .nil)))))))))))))) (.cons _ _ _ _ _ (DLes.refl _) (.cons _ _ _ _ _ (DLes.refl _) (.cons _ _ _ _ _ (DLes.refl _) (.cons _ _ _ _ _ (DLes.refl _) (.cons _ _ _ _ _ (DLes.refl _) .nil))))) (by kernel_rfl) (by simp only [go_sem, qa, qb, qc, qd, qe, qf, qg, qh, qi, qj, qk, ↓reduceIte, resQ_tmp, resQ_cell, resQ_nil, retD_one, retD_two, retD_three, retD_none] <;> first | rfl | exact ⟨rfl, rfl⟩ | (try simp [R.val, retD_one, retD_two, retD_three, retD_none]))
theorem c80_3_a (N : Nat) (fu : Nat) (p4136 : PV) (p4137 : PV) (c4138 : List PV) (n4139 : Nat) (c4140 : List PV) (c4141 : List PV) (c4052 : List PV) (n4053 : Nat) (c4054 : List PV) (c4055 : List PV) (h : m80_3 N fu p4136 p4137 c4138 n4139 c4140 c4141 = some (c4052, n4053, c4054, c4055)) : V.Fn Tryd.prog 80 5 [.v p4136, .v p4137, .ptr 0 0, .ptr 1 0, .ptr 3 0, .ptr 4 0] [(0, .p c4138), (1, .r [.sl false 2 0 n4139 1]), (2, .p c4140), (3, .p c4141), (4, .r [.fn 80 [.ptr 0 0, .ptr 1 0, .ptr 3 0, .ptr 4 0]])] (fun d ob' => d = .v (.tup []) ∧ ob' = [(0, .p c4052), (1, .r [.sl false 5 0 n4053 1]), (3, .p c4054), (4, .r [.fn 80 [.ptr 0 0, .ptr 1 0, .ptr 3 0, .ptr 4 0]]), (5, .p c4055)]) := c80_3 N fu p4136 p4137 c4138 n4139 c4140 c4141 _ h
noncomputable def m80_L0 (N : Nat) (n3936 : Nat) (c3937 : List PV) : Nat → Int → List PV → Nat → List PV → List PV → Option ((List PV × Nat × List PV × List PV))
  | 0, _, _, _, _, _ => none
  | n + 1, x4361, c4362, n4363, c4364, c4365 =>
    brn (decide (x4361 < ((n3936 : Nat) : Int))) (
      grd (0 ≤ x4361 ∧ x4361 < ((n3936 : Nat) : Int)) <|
      grd (0 < List.length (List.drop (Int.toNat x4361) c3937)) <|
      getI .i64 (gp c3937 (Int.toNat x4361)) fun x4371 =>
      bnd' (m57 N (.lst false 0 []) x4361) fun p4372 =>
      getB p4372 fun b4375 =>
      brn b4375 (
        m80_L0 N n3936 c3937 n (IntKind.i64.wrap (x4361 + 1)) c4362 n4363 c4364 c4365) (
        bnd' (m57 N (.lst false 0 []) x4371) fun p4377 =>
        getB p4377 fun b4380 =>
        brn b4380 (
          m80_L0 N n3936 c3937 n (IntKind.i64.wrap (x4361 + 1)) c4362 n4363 c4364 c4365) (
          bnd' (m80_3 N N (.lst false 1 [(.int .i64 x4361)]) (.lst false 1 [(.int .i64 x4371)]) c4362 n4363 c4365 c4364) fun o =>
          match o with
          | (c4383, n4384, c4385, c4386) =>
            m80_L0 N n3936 c3937 n (IntKind.i64.wrap (x4361 + 1)) c4383 n4384 c4385 c4386))) (
      some (c4362, n4363, c4364, c4365))
noncomputable def m80 (N : Nat) (x3924 : Int) (p3925 : PV) : Option (((List PV × List PV × List PV) ⊕ (List PV × Nat × List PV × List PV))) :=
  brn (0 == x3924) (
    some (.inl ([(.int .i64 x3924)], [p3925], [(.lst false 0 [])]))) (
    getL p3925 fun n3931 c3932 =>
    grd (0 < ((n3931 : Nat) : Int)) <|
    grd (0 < List.length c3932) <|
    getL (gp c3932 0) fun n3936 c3937 =>
    bnd' (m80_L0 N n3936 c3937 N 0 [(.int .i64 x3924)] 0 [(.lst false n3931 c3932)] []) fun o =>
    match o with
    | (c4387, n4388, c4389, c4390) =>
      some (.inr (c4387, n4388, c4389, c4390)))
theorem c80 (N : Nat) (x3924 : Int) (p3925 : PV) (r : ((List PV × List PV × List PV) ⊕ (List PV × Nat × List PV × List PV)))  (h : m80 N x3924 p3925 = some r) : V.Fn Tryd.prog 80 5 [.v .nl, .v .nl, .ptr 0 0, .ptr 1 0, .ptr 3 0, .ptr 4 0] [(0, .p [(.int .i64 x3924)]), (1, .r [.sl false 2 0 0 1]), (2, .p []), (3, .p [p3925]), (4, .r [.fn 80 [.ptr 0 0, .ptr 1 0, .ptr 3 0, .ptr 4 0]])] (fun d ob' => match (generalizing := false) r with | .inl (c3927, c3928, c3929) => d = .v (.tup []) ∧ ob' = [(0, .p c3927), (1, .r [.sl false 5 0 1 1]), (3, .p c3928), (4, .r [.fn 80 [.ptr 0 0, .ptr 1 0, .ptr 3 0, .ptr 4 0]]), (5, .p c3929)] | .inr (c4391, n4392, c4393, c4394) => d = .v (.tup []) ∧ ob' = [(0, .p c4391), (1, .r [.sl false 5 0 n4392 1]), (3, .p c4393), (4, .r [.fn 80 [.ptr 0 0, .ptr 1 0, .ptr 3 0, .ptr 4 0]]), (5, .p c4394)]) := by
  unfold m80 at h
  refine Fn_of (sz := 60) tab_ok [0, 1, 2, 3, 4, 5, 8, 9, 13, 22, 23, 24, 25, 38] [] Tryd.func80 rfl rfl rfl (by simp) ?_
  simp only [initSt, initEnv, List.map_cons, List.map_nil, List.getD_cons_zero, List.getD_cons_succ, List.getD_nil]
  refine Wp_wkK (cmpT_ok (st' := ⟨[], [(0, .v .nl), (1, .v .nl), (2, .ptr 0 0), (3, .ptr 1 0), (4, .ptr 3 0), (5, .ptr 4 0), (8, .dead), (9, .dead), (13, .dead), (22, .dead), (23, .dead), (24, .dead), (25, .dead), (38, .dead)], [(0, .p [(.int .i64 x3924)]), (1, .r [.sl false 5 0 0 1]), (3, .p [p3925]), (4, .r [.fn 80 [.ptr 0 0, .ptr 1 0, .ptr 3 0, .ptr 4 0]]), (5, .p [])], 6, []⟩) [0, 1, 1000000002, 3, 4, 2] (by kernel_rfl)) rfl ?_
  have hh := brn_some h; clear h; rcases hh with ⟨h3926, h⟩ | ⟨h3926, h⟩
  · refine W_sound tab_ok mixed 19 _ _ _ ?_
    simp -implicitDefEqProofs only [go_sem, qa, qb, qc, qd, qe, qf, qg, qh, qi, qj, qk, ↓reduceIte, h3926]
    repeat with_reducible refine ⟨by first | kernel_rfl | decide, ?_⟩
    obtain rfl := Option.some.inj h
    exact finD (e2 := [(0, .dead), (1, .dead), (2, .dead), (3, .dead), (4, .dead), (5, .dead), (8, .dead), (9, .dead), (13, .dead), (22, .dead), (23, .dead), (24, .dead), (25, .dead), (38, .dead)]) (ob2 := [(0, .p [(.int .i64 x3924)]), (1, .r [.sl false 23 0 1 1]), (3, .p [p3925]), (4, .r [.fn 80 [.ptr 0 0, .ptr 1 0, .ptr 3 0, .ptr 4 0]]), (22, .p [.nl]), (23, .p [(.lst false 0 [])])]) (st' := ⟨[], [(0, .dead), (1, .dead), (2, .dead), (3, .dead), (4, .dead), (5, .dead), (8, .dead), (9, .dead), (13, .dead), (22, .dead), (23, .dead), (24, .dead), (25, .dead), (38, .dead)], [(0, .p [(.int .i64 x3924)]), (1, .r [.sl false 5 0 1 1]), (3, .p [p3925]), (4, .r [.fn 80 [.ptr 0 0, .ptr 1 0, .ptr 3 0, .ptr 4 0]]), (5, .p [(.lst false 0 [])])], 6, []⟩) (.k (.k (.k (.k (.k (.k (.r (.r (.k (.r (.r (.r (.r (.r .nil)))))))))))))) (.cons _ _ _ _ _ (DLes.refl _) (.cons _ _ _ _ _ (DLes.refl _) (.cons _ _ _ _ _ (DLes.refl _) (.cons _ _ _ _ _ (DLes.refl _) (.cons _ _ _ _ _ (DLes.refl _) (.cons _ (.p _) (.p _) _ _ (DLes.of_p (.cons _ _ _ _ (.nl false) .nil)) .nil)))))) (by kernel_rfl) (by simp only [go_sem, qa, qb, qc, qd, qe, qf, qg, qh, qi, qj, qk, ↓reduceIte, resQ_tmp, resQ_cell, resQ_nil, retD_one, retD_two, retD_three, retD_none] <;> first | rfl | exact ⟨rfl, rfl⟩ | (try simp [R.val, retD_one, retD_two, retD_three, retD_none]))
  · have hh := getL_some h; clear h; obtain ⟨n3931, c3932, h3930, h⟩ := hh
    have hh := grd_some h; clear h; obtain ⟨g3933, h⟩ := hh
    have hh := grd_some h; clear h; obtain ⟨g3934, h⟩ := hh
    have hh := getL_some h; clear h; obtain ⟨n3936, c3937, h3935, h⟩ := hh
    refine W_sound tab_ok mixed 20 _ _ _ ?_
    simp -implicitDefEqProofs only [go_sem, qa, qb, qc, qd, qe, qf, qg, qh, qi, qj, qk, ↓reduceIte, h3926, h3930, g3933, g3934, h3935]
    repeat with_reducible refine ⟨by first | kernel_rfl | decide, ?_⟩
    have hh := bnd'_some h; clear h; obtain ⟨o4395, h4396, h4397⟩ := hh
    refine Wp_cut (fun s => ∃ c4387, ∃ n4388, ∃ c4389, ∃ c4390, (c4387, n4388, c4389, c4390) = o4395 ∧ s = ⟨[], [(0, .dead), (1, .dead), (2, .dead), (3, .dead), (4, .dead), (5, .dead), (8, .dead), (9, .dead), (13, .dead), (22, .dead), (23, .dead), (24, .dead), (25, .dead), (38, .dead)], [(0, .p c4387), (1, .r [.sl false 5 0 n4388 1]), (3, .p c4389), (4, .r [.fn 80 [.ptr 0 0, .ptr 1 0, .ptr 3 0, .ptr 4 0]]), (5, .p c4390)], 6, []⟩) ?_ ?_
    · refine Wp_block ?_
      refine Wp_loopG (fun n s => ∃ x4361, ∃ c4362, ∃ n4363, ∃ c4364, ∃ c4365, m80_L0 N n3936 c3937 n x4361 c4362 n4363 c4364 c4365 = some o4395 ∧ s = ⟨[], [(0, .v .nl), (1, .v .nl), (2, .dead), (3, .dead), (4, .dead), (5, .ptr 4 0), (8, .dead), (9, .dead), (13, .dead), (22, .v (.lst false n3936 c3937)), (23, .v (.int .i64 ((n3936 : Nat) : Int))), (24, .v (.int .i64 x4361)), (25, .dead), (38, .dead)], [(0, .p c4362), (1, .r [.sl false 5 0 n4363 1]), (3, .p c4364), (4, .r [.fn 80 [.ptr 0 0, .ptr 1 0, .ptr 3 0, .ptr 4 0]]), (5, .p c4365)], 6, []⟩) N _ ((Wk_le (.r (.r (.k (.k (.k (.r (.r (.r (.k (.r (.r (.r (.r (.r .nil)))))))))))))) (OLe.refl _)).trans (cmpS_ok (st' := ⟨[], [(0, .v .nl), (1, .v .nl), (2, .dead), (3, .dead), (4, .dead), (5, .ptr 4 0), (8, .dead), (9, .dead), (13, .dead), (22, .v (.lst false n3936 c3937)), (23, .v (.int .i64 ((n3936 : Nat) : Int))), (24, .v (.int .i64 0)), (25, .dead), (38, .dead)], [(0, .p [(.int .i64 x3924)]), (1, .r [.sl false 5 0 0 1]), (3, .p [(.lst false n3931 c3932)]), (4, .r [.fn 80 [.ptr 0 0, .ptr 1 0, .ptr 3 0, .ptr 4 0]]), (5, .p [])], 6, []⟩) (by kernel_rfl))) ⟨_, _, _, _, _, h4396, rfl⟩ ?_
      clear h4396
      rintro n _ ⟨x4361, c4362, n4363, c4364, c4365, h4396, rfl⟩
      cases n with
      | zero => cases h4396
      | succ n =>
        rw [m80_L0] at h4396
        have hh := brn_some h4396; clear h4396; rcases hh with ⟨h4366, h4396⟩ | ⟨h4366, h4396⟩
        · have hh := grd_some h4396; clear h4396; obtain ⟨⟨g4367, g4368⟩, h4396⟩ := hh
          have hh := grd_some h4396; clear h4396; obtain ⟨g4369, h4396⟩ := hh
          have hh := getI_some h4396; clear h4396; obtain ⟨x4371, h4370, h4396⟩ := hh
          have hh := bnd'_some h4396; clear h4396; obtain ⟨p4372, h4373, h4396⟩ := hh
          refine W_sound tab_ok mixed 21 _ _ _ ?_
          simp -implicitDefEqProofs only [go_sem, qa, qb, qc, qd, qe, qf, qg, qh, qi, qj, qk, ↓reduceIte, h3926, h3930, g3933, g3934, h3935, h4366, g4367, g4368, g4369, h4370]
          repeat with_reducible refine ⟨by first | kernel_rfl | decide, ?_⟩
          refine Wp_callP (FnP_le (c57 N _ _ _ h4373) (.cons _ _ _ _ (.nl false) (.cons _ _ _ _ (.refl _) .nil)) (.refl _)) (by kernel_rfl) rfl rfl rfl rfl (by decide) ?_
          have hh := getB_some h4396; clear h4396; obtain ⟨b4375, h4374, h4396⟩ := hh
          have hh := brn_some h4396; clear h4396; rcases hh with ⟨h4376, h4396⟩ | ⟨h4376, h4396⟩
          · refine W_sound tab_ok mixed 15 _ _ _ ?_
            simp -implicitDefEqProofs only [go_sem, qa, qb, qc, qd, qe, qf, qg, qh, qi, qj, qk, ↓reduceIte, h3926, h3930, g3933, g3934, h3935, h4366, g4367, g4368, g4369, h4370, h4374, h4376]
            repeat with_reducible refine ⟨by first | kernel_rfl | decide, ?_⟩
            exact cutQ _ ((Wk_le (.r (.r (.r (.r (.r (.r (.k (.k (.r (.r (.r (.r (.k (.k .nil)))))))))))))) (OLe.refl _)).trans (cmpS_ok (st' := ⟨[], [(0, .v .nl), (1, .v .nl), (2, .dead), (3, .dead), (4, .dead), (5, .ptr 4 0), (8, .dead), (9, .dead), (13, .dead), (22, .v (.lst false n3936 c3937)), (23, .v (.int .i64 ((n3936 : Nat) : Int))), (24, .v (.int .i64 (IntKind.i64.wrap (x4361 + 1)))), (25, .dead), (38, .dead)], [(0, .p c4362), (1, .r [.sl false 5 0 n4363 1]), (3, .p c4364), (4, .r [.fn 80 [.ptr 0 0, .ptr 1 0, .ptr 3 0, .ptr 4 0]]), (5, .p c4365)], 6, []⟩) (by kernel_rfl))) ⟨n, Nat.lt_succ_self n, _, _, _, _, _, h4396, rfl⟩
          · have hh := bnd'_some h4396; clear h4396; obtain ⟨p4377, h4378, h4396⟩ := hh
            refine W_sound tab_ok mixed 4 _ _ _ ?_
            simp -implicitDefEqProofs only [go_sem, qa, qb, qc, qd, qe, qf, qg, qh, qi, qj, qk, ↓reduceIte, h3926, h3930, g3933, g3934, h3935, h4366, g4367, g4368, g4369, h4370, h4374, h4376]
            repeat with_reducible refine ⟨by first | kernel_rfl | decide, ?_⟩
            refine Wp_callP (FnP_le (c57 N _ _ _ h4378) (.cons _ _ _ _ (.nl false) (.cons _ _ _ _ (.refl _) .nil)) (.refl _)) (by kernel_rfl) rfl rfl rfl rfl (by decide) ?_
            have hh := getB_some h4396; clear h4396; obtain ⟨b4380, h4379, h4396⟩ := hh
            have hh := brn_some h4396; clear h4396; rcases hh with ⟨h4381, h4396⟩ | ⟨h4381, h4396⟩
            · refine W_sound tab_ok mixed 10 _ _ _ ?_
              simp -implicitDefEqProofs only [go_sem, qa, qb, qc, qd, qe, qf, qg, qh, qi, qj, qk, ↓reduceIte, h3926, h3930, g3933, g3934, h3935, h4366, g4367, g4368, g4369, h4370, h4374, h4376, h4379, h4381]
              repeat with_reducible refine ⟨by first | kernel_rfl | decide, ?_⟩
              exact cutQ _ ((Wk_le (.r (.r (.r (.r (.r (.r (.k (.k (.r (.r (.r (.r (.k (.k .nil)))))))))))))) (OLe.refl _)).trans (cmpS_ok (st' := ⟨[], [(0, .v .nl), (1, .v .nl), (2, .dead), (3, .dead), (4, .dead), (5, .ptr 4 0), (8, .dead), (9, .dead), (13, .dead), (22, .v (.lst false n3936 c3937)), (23, .v (.int .i64 ((n3936 : Nat) : Int))), (24, .v (.int .i64 (IntKind.i64.wrap (x4361 + 1)))), (25, .dead), (38, .dead)], [(0, .p c4362), (1, .r [.sl false 5 0 n4363 1]), (3, .p c4364), (4, .r [.fn 80 [.ptr 0 0, .ptr 1 0, .ptr 3 0, .ptr 4 0]]), (5, .p c4365)], 6, []⟩) (by kernel_rfl))) ⟨n, Nat.lt_succ_self n, _, _, _, _, _, h4396, rfl⟩
            · have hh := bnd'_some h4396; clear h4396; obtain ⟨⟨c4383, n4384, c4385, c4386⟩, h4382, h4396⟩ := hh
              (try dsimp only at h4396)
              refine W_sound tab_ok mixed 24 _ _ _ ?_
              simp -implicitDefEqProofs only [go_sem, qa, qb, qc, qd, qe, qf, qg, qh, qi, qj, qk, ↓reduceIte, h3926, h3930, g3933, g3934, h3935, h4366, g4367, g4368, g4369, h4370, h4374, h4376, h4379, h4381]
              repeat with_reducible refine ⟨by first | kernel_rfl | decide, ?_⟩
              refine Wp_callDF [(54, [(.int .i64 x4361)]), (63, [(.int .i64 x4371)])] [0, 1, 5, 3, 4] (c80_3_a N N _ _ _ _ _ _ _ _ _ _ h4382) rfl rfl rfl (by first | rfl | (simp only [go_sem, qa, qb, qc, qd, qe, qf, qg, qh, qi, qj, qk, ↓reduceIte, h3926, h3930, g3933, g3934, h3935, h4366, g4367, g4368, g4369, h4370, h4374, h4376, h4379, h4381] <;> rfl)) rfl (by kernel_rfl) rfl rfl (by simp [roF, obL]) ?_
              refine W_sound tab_ok mixed 6 _ _ _ ?_
              simp -implicitDefEqProofs only [go_sem, qa, qb, qc, qd, qe, qf, qg, qh, qi, qj, qk, ↓reduceIte, h3926, h3930, g3933, g3934, h3935, h4366, g4367, g4368, g4369, h4370, h4374, h4376, h4379, h4381]
              repeat with_reducible refine ⟨by first | kernel_rfl | decide, ?_⟩
              exact cutQ _ ((Wk_le (.r (.r (.r (.r (.r (.r (.k (.k (.r (.r (.r (.r (.k (.k .nil)))))))))))))) (OLe.refl _)).trans (cmpS_ok (st' := ⟨[], [(0, .v .nl), (1, .v .nl), (2, .dead), (3, .dead), (4, .dead), (5, .ptr 4 0), (8, .dead), (9, .dead), (13, .dead), (22, .v (.lst false n3936 c3937)), (23, .v (.int .i64 ((n3936 : Nat) : Int))), (24, .v (.int .i64 (IntKind.i64.wrap (x4361 + 1)))), (25, .dead), (38, .dead)], [(0, .p c4383), (1, .r [.sl false 5 0 n4384 1]), (3, .p c4385), (4, .r [.fn 80 [.ptr 0 0, .ptr 1 0, .ptr 3 0, .ptr 4 0]]), (5, .p c4386)], 6, []⟩) (by kernel_rfl))) ⟨n, Nat.lt_succ_self n, _, _, _, _, _, h4396, rfl⟩
        · refine W_sound tab_ok mixed 7 _ _ _ ?_
          simp -implicitDefEqProofs only [go_sem, qa, qb, qc, qd, qe, qf, qg, qh, qi, qj, qk, ↓reduceIte, h3926, h3930, g3933, g3934, h3935, h4366]
          repeat with_reducible refine ⟨by first | kernel_rfl | decide, ?_⟩
          obtain rfl := Option.some.inj h4396
          exact cutQ _ ((Wk_le (.k (.k (.r (.r (.r (.k (.r (.r (.r (.k (.k (.k (.k (.r .nil)))))))))))))) (OLe.refl _)).trans (cmpS_ok (st' := ⟨[], [(0, .dead), (1, .dead), (2, .dead), (3, .dead), (4, .dead), (5, .dead), (8, .dead), (9, .dead), (13, .dead), (22, .dead), (23, .dead), (24, .dead), (25, .dead), (38, .dead)], [(0, .p c4362), (1, .r [.sl false 5 0 n4363 1]), (3, .p c4364), (4, .r [.fn 80 [.ptr 0 0, .ptr 1 0, .ptr 3 0, .ptr 4 0]]), (5, .p c4365)], 6, []⟩) (by kernel_rfl))) ⟨_, _, _, _, rfl, rfl⟩
    · rintro _ ⟨c4387, n4388, c4389, c4390, rfl, rfl⟩
      (try dsimp only at h4397)
      refine W_sound tab_ok mixed 1 _ _ _ ?_
      simp -implicitDefEqProofs only [go_sem, qa, qb, qc, qd, qe, qf, qg, qh, qi, qj, qk, ↓reduceIte, h3926, h3930, g3933, g3934, h3935]
      repeat with_reducible refine ⟨by first | kernel_rfl | decide, ?_⟩
      obtain rfl := Option.some.inj h4397
      exact finD (e2 := [(0, .dead), (1, .dead), (2, .dead), (3, .dead), (4, .dead), (5, .dead), (8, .dead), (9, .dead), (13, .dead), (22, .dead), (23, .dead), (24, .dead), (25, .dead), (38, .dead)]) (ob2 := [(0, .p c4387), (1, .r [.sl false 5 0 n4388 1]), (3, .p c4389), (4, .r [.fn 80 [.ptr 0 0, .ptr 1 0, .ptr 3 0, .ptr 4 0]]), (5, .p c4390)]) (st' := ⟨[], [(0, .dead), (1, .dead), (2, .dead), (3, .dead), (4, .dead), (5, .dead), (8, .dead), (9, .dead), (13, .dead), (22, .dead), (23, .dead), (24, .dead), (25, .dead), (38, .dead)], [(0, .p c4387), (1, .r [.sl false 5 0 n4388 1]), (3, .p c4389), (4, .r [.fn 80 [.ptr 0 0, .ptr 1 0, .ptr 3 0, .ptr 4 0]]), (5, .p c4390)], 6, []⟩) (.r (.r (.r (.r (.r (.r (.r (.r (.r (.r (.r (.r (.r (.r .nil)))))))))))))) (.cons _ _ _ _ _ (DLes.refl _) (.cons _ _ _ _ _ (DLes.refl _) (.cons _ _ _ _ _ (DLes.refl _) (.cons _ _ _ _ _ (DLes.refl _) (.cons _ _ _ _ _ (DLes.refl _) .nil))))) (by kernel_rfl) (by simp only [go_sem, qa, qb, qc, qd, qe, qf, qg, qh, qi, qj, qk, ↓reduceIte, resQ_tmp, resQ_cell, resQ_nil, retD_one, retD_two, retD_three, retD_none] <;> first | rfl | exact ⟨rfl, rfl⟩ | (try simp [R.val, retD_one, retD_two, retD_three, retD_none]))
theorem c80_a (N : Nat) (x3924 : Int) (p3925 : PV) (c3927 : List PV) (c3928 : List PV) (c3929 : List PV) (h : m80 N x3924 p3925 = some (.inl (c3927, c3928, c3929))) : V.Fn Tryd.prog 80 5 [.v .nl, .v .nl, .ptr 0 0, .ptr 1 0, .ptr 3 0, .ptr 4 0] [(0, .p [(.int .i64 x3924)]), (1, .r [.sl false 2 0 0 1]), (2, .p []), (3, .p [p3925]), (4, .r [.fn 80 [.ptr 0 0, .ptr 1 0, .ptr 3 0, .ptr 4 0]])] (fun d ob' => d = .v (.tup []) ∧ ob' = [(0, .p c3927), (1, .r [.sl false 5 0 1 1]), (3, .p c3928), (4, .r [.fn 80 [.ptr 0 0, .ptr 1 0, .ptr 3 0, .ptr 4 0]]), (5, .p c3929)]) := c80 N x3924 p3925 _ h
theorem c80_b (N : Nat) (x3924 : Int) (p3925 : PV) (c4391 : List PV) (n4392 : Nat) (c4393 : List PV) (c4394 : List PV) (h : m80 N x3924 p3925 = some (.inr (c4391, n4392, c4393, c4394))) : V.Fn Tryd.prog 80 5 [.v .nl, .v .nl, .ptr 0 0, .ptr 1 0, .ptr 3 0, .ptr 4 0] [(0, .p [(.int .i64 x3924)]), (1, .r [.sl false 2 0 0 1]), (2, .p []), (3, .p [p3925]), (4, .r [.fn 80 [.ptr 0 0, .ptr 1 0, .ptr 3 0, .ptr 4 0]])] (fun d ob' => d = .v (.tup []) ∧ ob' = [(0, .p c4391), (1, .r [.sl false 5 0 n4392 1]), (3, .p c4393), (4, .r [.fn 80 [.ptr 0 0, .ptr 1 0, .ptr 3 0, .ptr 4 0]]), (5, .p c4394)]) := c80 N x3924 p3925 _ h
noncomputable def m41 (N : Nat) (p3920 : PV) : Option (PV) :=
  getL p3920 fun n3922 c3923 =>
  bnd' (m80 N ((n3922 : Nat) : Int) (.lst false n3922 c3923)) fun o =>
  match o with
  | .inl (c4399, c4400, c4401) =>
    grd (List.length c4401 = 1) <|
    some (.lst false 1 c4401)
  | .inr (c4403, n4404, c4405, c4406) =>
    grd (List.length c4406 = n4404) <|
    some (.lst false n4404 c4406)
theorem c41 (N : Nat) (p3920 : PV) (r : PV)  (h : m41 N p3920 = some r) : FnP Tryd.prog 41 [p3920] r := by
  unfold m41 at h
  refine Fn_of (sz := 12) tab_ok [0, 1, 2, 3, 4, 5] [.tmp 2] Tryd.func41 rfl rfl rfl (by simp) ?_
  simp only [initSt, initEnv, List.map_cons, List.map_nil, List.getD_cons_zero, List.getD_cons_succ, List.getD_nil]
  have hh := getL_some h; clear h; obtain ⟨n3922, c3923, h3921, h⟩ := hh
  refine W_sound tab_ok mixed 26 _ _ _ ?_
  simp -implicitDefEqProofs only [go_sem, qa, qb, qc, qd, qe, qf, qg, qh, qi, qj, qk, ↓reduceIte, h3921]
  repeat with_reducible refine ⟨by first | kernel_rfl | decide, ?_⟩
  refine Wp_wkK (Wk_ownC 10 0 1 rfl rfl (by decide) (by decide)) rfl ?_
  simp -implicitDefEqProofs only [go_sem, qa, qb, qc, qd, qe, qf, qg, qh, qi, qj, qk, ↓reduceIte, setO, h3921]
  have hh := bnd'_some h; clear h; obtain ⟨oo, h4398, h⟩ := hh
  rcases oo with ⟨c4399, c4400, c4401⟩ | ⟨c4403, n4404, c4405, c4406⟩
  · (try dsimp only at h)
    refine W_sound tab_ok mixed 2 _ _ _ ?_
    simp -implicitDefEqProofs only [go_sem, qa, qb, qc, qd, qe, qf, qg, qh, qi, qj, qk, ↓reduceIte, h3921]
    repeat with_reducible refine ⟨by first | kernel_rfl | decide, ?_⟩
    refine Wp_callD [5, 10, 17, 1, 16] (c80_a N _ _ _ _ _ h4398) rfl rfl rfl (by first | rfl | (simp only [go_sem, qa, qb, qc, qd, qe, qf, qg, qh, qi, qj, qk, ↓reduceIte, h3921] <;> rfl)) rfl (by kernel_rfl) ?_
    refine W_sound tab_ok mixed 8 _ _ _ ?_
    simp -implicitDefEqProofs only [go_sem, qa, qb, qc, qd, qe, qf, qg, qh, qi, qj, qk, ↓reduceIte, h3921]
    repeat with_reducible refine ⟨by first | kernel_rfl | decide, ?_⟩
    have hh := grd_some h; clear h; obtain ⟨g4402, h⟩ := hh
    refine FinQ_wk (Wk_freeze 28 c4401 (by rfl) (by decide) (by decide)) ?_
    simp -implicitDefEqProofs only [go_sem, qa, qb, qc, qd, qe, qf, qg, qh, qi, qj, qk, ↓reduceIte, h3921, g4402]
    obtain rfl := Option.some.inj h
    exact finC [(2, .v (.lst false 1 c4401))] [(2, .v (.lst false 1 c4401))] (by simp [leE, lk_cons]) (.cons _ _ _ _ _ (.v _ _ (.refl _)) .nil) (by rfl) (by simp [leE, lk_cons]) (by decide) (by decide) rfl (by simp only [go_sem, qa, qb, qc, qd, qe, qf, qg, qh, qi, qj, qk, ↓reduceIte, resQ_tmp, resQ_cell, resQ_nil, retD_one, retD_two, retD_three, retD_none]; try simp [R.val, retD_one, retD_two, retD_three, retD_none])
  · (try dsimp only at h)
    refine W_sound tab_ok mixed 2 _ _ _ ?_
    simp -implicitDefEqProofs only [go_sem, qa, qb, qc, qd, qe, qf, qg, qh, qi, qj, qk, ↓reduceIte, h3921]
    repeat with_reducible refine ⟨by first | kernel_rfl | decide, ?_⟩
    refine Wp_callD [5, 10, 17, 1, 16] (c80_b N _ _ _ _ _ _ h4398) rfl rfl rfl (by first | rfl | (simp only [go_sem, qa, qb, qc, qd, qe, qf, qg, qh, qi, qj, qk, ↓reduceIte, h3921] <;> rfl)) rfl (by kernel_rfl) ?_
    refine W_sound tab_ok mixed 8 _ _ _ ?_
    simp -implicitDefEqProofs only [go_sem, qa, qb, qc, qd, qe, qf, qg, qh, qi, qj, qk, ↓reduceIte, h3921]
    repeat with_reducible refine ⟨by first | kernel_rfl | decide, ?_⟩
    have hh := grd_some h; clear h; obtain ⟨g4407, h⟩ := hh
    refine FinQ_wk (Wk_freeze 28 c4406 (by rfl) (by decide) (by decide)) ?_
    simp -implicitDefEqProofs only [go_sem, qa, qb, qc, qd, qe, qf, qg, qh, qi, qj, qk, ↓reduceIte, h3921, g4407]
    obtain rfl := Option.some.inj h
    exact finC [(2, .v (.lst false n4404 c4406))] [(2, .v (.lst false n4404 c4406))] (by simp [leE, lk_cons]) (.cons _ _ _ _ _ (.v _ _ (.refl _)) .nil) (by rfl) (by simp [leE, lk_cons]) (by decide) (by decide) rfl (by simp only [go_sem, qa, qb, qc, qd, qe, qf, qg, qh, qi, qj, qk, ↓reduceIte, resQ_tmp, resQ_cell, resQ_nil, retD_one, retD_two, retD_three, retD_none]; try simp [R.val, retD_one, retD_two, retD_three, retD_none])
noncomputable def m16 (N : Nat) : Option PV := some (.bool true)
theorem c16 (N : Nat) (r : PV) (h : m16 N = some r) : FnP Tryd.prog 16 [] r := by
  obtain rfl := Option.some.inj h
  exact k92
noncomputable def m8_L0 (N : Nat) (p3774 : PV) (p3776 : PV) (p3777 : PV) (p3778 : PV) (p3779 : PV) (p3780 : PV) (x3870 : Int) : Nat → Nat → List PV → Option ((Nat × List PV))
  | 0, _, _ => none
  | n + 1, n3894, c3895 =>
    brn (decide (((n3894 : Nat) : Int) < x3870)) (
      bnd' (m38_3 N x3870 n3894 c3895) fun (p3897, c3899) =>
      getL p3897 fun n3901 c3902 =>
      grd (0 ≤ ((n3894 : Nat) : Int) ∧ ((n3894 : Nat) : Int) < 5) <|
      grd ((2 + n3894) < 7) <|
      getI .u8 (gp [p3774, (.int .u8 255), p3776, p3777, p3778, p3779, p3780] (2 + n3894)) fun x3907 =>
      grd (((n3901 : Nat) : Int) ≠ 0) <|
      grd (0 ≤ (Int.tmod (IntKind.i64.wrap x3907) ((n3901 : Nat) : Int)) ∧ (Int.tmod (IntKind.i64.wrap x3907) ((n3901 : Nat) : Int)) < ((n3901 : Nat) : Int)) <|
      grd (0 < List.length (List.drop (Int.toNat (Int.tmod (IntKind.i64.wrap x3907) ((n3901 : Nat) : Int))) c3902)) <|
      getL (gp c3902 (Int.toNat (Int.tmod (IntKind.i64.wrap x3907) ((n3901 : Nat) : Int)))) fun n3913 c3914 =>
      grd ((n3894 + 1) ≤ 1099511627776) <|
      grd (List.length c3899 = n3894) <|
      m8_L0 N p3774 p3776 p3777 p3778 p3779 p3780 x3870 n (n3894 + 1) (c3899 ++ [(.lst false n3913 c3914)])) (
      some (n3894, c3895))
noncomputable def m8 (N : Nat) (p3772 : PV) : Option (PV) :=
  getA7 p3772 fun p3774 p3775 p3776 p3777 p3778 p3779 p3780 =>
  bnd' (m37_2 N (.agg [p3774, (.int .u8 255), p3776, p3777, p3778, p3779, p3780]) 5) fun o =>
  match o with
  | (x3870, n3871, c3872) =>
    bnd' (m8_L0 N p3774 p3776 p3777 p3778 p3779 p3780 x3870 N n3871 c3872) fun o =>
    match o with
    | (n3917, c3918) =>
      grd (List.length c3918 = n3917) <|
      bnd' (m41 N (.lst false n3917 c3918)) fun p4408 =>
      getL p4408 fun n4411 c4412 =>
      bnd' (m33 N x3870 (.lst false n3917 c3918)) fun p4413 =>
      getT2 p4413 fun p4416 p4417 =>
      getL p4416 fun n4419 c4420 =>
      getI .i64 p4417 fun x4422 =>
      bnd' (m35 N x3870 (.lst false n3917 c3918)) fun p4423 =>
      getT2 p4423 fun p4426 p4427 =>
      getI .i64 p4426 fun x4429 =>
      getI .i64 p4427 fun x4431 =>
      grd (1 ≤ ((n3917 : Nat) : Int)) <|
      bnd' (m33 N x3870 (.lst false (Int.toNat (((n3917 : Nat) : Int) - 1)) (List.drop 1 c3918))) fun p4433 =>
      getT2 p4433 fun p4436 p4437 =>
      getL p4436 fun n4439 c4440 =>
      getI .i64 p4437 fun x4442 =>
      brn (x4431 != 0) (
        some (.bool false)) (
        brn (x4429 != ((n4411 : Nat) : Int)) (
          some (.bool false)) (
          brn (x4442 != 21) (
            some (.bool false)) (
            brn (((n4411 : Nat) : Int) == 0) (
              brn (x4422 == 12) (
                brn (((n4419 : Nat) : Int) == 0) (
                  bnd' (m16 N ) fun p4449 =>
                  getB p4449 fun b4452 =>
                  some (.bool b4452)) (
                  some (.bool false))) (
                some (.bool false))) (
              brn (x4422 == 0) (
                grd (0 < ((n4411 : Nat) : Int)) <|
                grd (0 < List.length c4412) <|
                getL (gp c4412 0) fun n4457 c4458 =>
                bnd' (m22 N (.lst false n4419 c4420) (.lst false n4457 c4458)) fun p4459 =>
                getB p4459 fun b4462 =>
                brn b4462 (
                  bnd' (m16 N ) fun p4464 =>
                  getB p4464 fun b4467 =>
                  some (.bool b4467)) (
                  some (.bool false))) (
                some (.bool false))))))
theorem c8 (N : Nat) (p3772 : PV) (r : PV)  (h : m8 N p3772 = some r) : FnP Tryd.prog 8 [p3772] r := by
  unfold m8 at h
  refine Fn_of (sz := 99) tab_ok [0, 1, 2, 3, 4, 5, 6, 7, 8, 9, 10, 12, 22, 73, 76] [.tmp 2] Tryd.func8 rfl rfl rfl (by simp) ?_
  simp only [initSt, initEnv, List.map_cons, List.map_nil, List.getD_cons_zero, List.getD_cons_succ, List.getD_nil]
  have hh := getA7_some h; clear h; obtain ⟨p3774, p3775, p3776, p3777, p3778, p3779, p3780, h3773, h⟩ := hh
  have hh := bnd'_some h; clear h; obtain ⟨⟨x3870, n3871, c3872⟩, h3869, h⟩ := hh
  (try dsimp only at h)
  refine W_sound tab_ok mixed 13 _ _ _ ?_
  simp -implicitDefEqProofs only [go_sem, qa, qb, qc, qd, qe, qf, qg, qh, qi, qj, qk, ↓reduceIte, h3773]
  repeat with_reducible refine ⟨by first | kernel_rfl | decide, ?_⟩
  refine Wp_callD [] (c37_2_a N _ _ _ _ _ h3869) rfl rfl rfl (by first | rfl | (simp only [go_sem, qa, qb, qc, qd, qe, qf, qg, qh, qi, qj, qk, ↓reduceIte, h3773] <;> rfl)) rfl (by kernel_rfl) ?_
  refine W_sound tab_ok mixed 7 _ _ _ ?_
  simp -implicitDefEqProofs only [go_sem, qa, qb, qc, qd, qe, qf, qg, qh, qi, qj, qk, ↓reduceIte, h3773]
  repeat with_reducible refine ⟨by first | kernel_rfl | decide, ?_⟩
  have hh := bnd'_some h; clear h; obtain ⟨o4468, h4469, h4470⟩ := hh
  refine Wp_cut (fun s => ∃ n3917, ∃ c3918, (n3917, c3918) = o4468 ∧ s = ⟨[], [(0, .dead), (1, .dead), (2, .dead), (3, .v (.int .i64 x3870)), (4, .sl false 0 0 n3917 1), (5, .dead), (6, .dead), (7, .dead), (8, .dead), (9, .dead), (10, .dead), (12, .dead), (22, .dead), (73, .dead), (76, .dead)], [(0, .p c3918)], 1, []⟩) ?_ ?_
  · refine Wp_block ?_
    refine Wp_loopG (fun n s => ∃ n3894, ∃ c3895, m8_L0 N p3774 p3776 p3777 p3778 p3779 p3780 x3870 n n3894 c3895 = some o4468 ∧ s = ⟨[], [(0, .dead), (1, .ptr 0 0), (2, .dead), (3, .v (.int .i64 x3870)), (4, .sl false 1 0 n3894 1), (5, .dead), (6, .dead), (7, .dead), (8, .dead), (9, .dead), (10, .dead), (12, .dead), (22, .dead), (73, .dead), (76, .dead)], [(0, .p [p3774, (.int .u8 255), p3776, p3777, p3778, p3779, p3780]), (1, .p c3895)], 2, []⟩) N _ ((Wk_le (.k (.r (.k (.r (.r (.r (.r (.r (.r (.r (.r (.r (.r (.r (.r .nil))))))))))))))) (OLe.refl _)).trans (cmpS_ok (st' := ⟨[], [(0, .dead), (1, .ptr 0 0), (2, .dead), (3, .v (.int .i64 x3870)), (4, .sl false 1 0 n3871 1), (5, .dead), (6, .dead), (7, .dead), (8, .dead), (9, .dead), (10, .dead), (12, .dead), (22, .dead), (73, .dead), (76, .dead)], [(0, .p [p3774, (.int .u8 255), p3776, p3777, p3778, p3779, p3780]), (1, .p c3872)], 2, []⟩) (by kernel_rfl))) ⟨_, _, h4469, rfl⟩ ?_
    clear h4469
    rintro n _ ⟨n3894, c3895, h4469, rfl⟩
    cases n with
    | zero => cases h4469
    | succ n =>
      rw [m8_L0] at h4469
      have hh := brn_some h4469; clear h4469; rcases hh with ⟨h3896, h4469⟩ | ⟨h3896, h4469⟩
      · have hh := bnd'_some h4469; clear h4469; obtain ⟨⟨p3897, c3899⟩, h3898, h4469⟩ := hh
        (try dsimp only at h4469)
        refine W_sound tab_ok mixed 15 _ _ _ ?_
        simp -implicitDefEqProofs only [go_sem, qa, qb, qc, qd, qe, qf, qg, qh, qi, qj, qk, ↓reduceIte, h3773, h3896]
        repeat with_reducible refine ⟨by first | kernel_rfl | decide, ?_⟩
        refine Wp_callD [1] (c38_3 N _ _ _ _ _ h3898) rfl rfl rfl (by first | rfl | (simp only [go_sem, qa, qb, qc, qd, qe, qf, qg, qh, qi, qj, qk, ↓reduceIte, h3773, h3896] <;> rfl)) rfl (by kernel_rfl) ?_
        have hh := getL_some h4469; clear h4469; obtain ⟨n3901, c3902, h3900, h4469⟩ := hh
        have hh := grd_some h4469; clear h4469; obtain ⟨⟨g3903, g3904⟩, h4469⟩ := hh
        have hh := grd_some h4469; clear h4469; obtain ⟨g3905, h4469⟩ := hh
        have hh := getI_some h4469; clear h4469; obtain ⟨x3907, h3906, h4469⟩ := hh
        have hh := grd_some h4469; clear h4469; obtain ⟨g3908, h4469⟩ := hh
        have hh := grd_some h4469; clear h4469; obtain ⟨⟨g3909, g3910⟩, h4469⟩ := hh
        have hh := grd_some h4469; clear h4469; obtain ⟨g3911, h4469⟩ := hh
        have hh := getL_some h4469; clear h4469; obtain ⟨n3913, c3914, h3912, h4469⟩ := hh
        have hh := grd_some h4469; clear h4469; obtain ⟨g3915, h4469⟩ := hh
        have hh := grd_some h4469; clear h4469; obtain ⟨g3916, h4469⟩ := hh
        refine W_sound tab_ok mixed 21 _ _ _ ?_
        simp -implicitDefEqProofs only [go_sem, qa, qb, qc, qd, qe, qf, qg, qh, qi, qj, qk, ↓reduceIte, h3773, h3896, h3900, g3903, g3904, g3905, h3906, g3908, g3909, g3910, g3911, h3912, g3915, g3916]
        repeat with_reducible refine ⟨by first | kernel_rfl | decide, ?_⟩
        exact cutQ _ ((Wk_le (.r (.r (.r (.r (.r (.k (.r (.r (.r (.r (.r (.r (.k (.r (.r .nil))))))))))))))) (OLe.refl _)).trans (cmpS_ok (st' := ⟨[], [(0, .dead), (1, .ptr 0 0), (2, .dead), (3, .v (.int .i64 x3870)), (4, .sl false 1 0 (n3894 + 1) 1), (5, .dead), (6, .dead), (7, .dead), (8, .dead), (9, .dead), (10, .dead), (12, .dead), (22, .dead), (73, .dead), (76, .dead)], [(0, .p [p3774, (.int .u8 255), p3776, p3777, p3778, p3779, p3780]), (1, .p (c3899 ++ [(.lst false n3913 c3914)]))], 2, []⟩) (by kernel_rfl))) ⟨n, Nat.lt_succ_self n, _, _, h4469, rfl⟩
      · refine W_sound tab_ok mixed 10 _ _ _ ?_
        simp -implicitDefEqProofs only [go_sem, qa, qb, qc, qd, qe, qf, qg, qh, qi, qj, qk, ↓reduceIte, h3773, h3896]
        repeat with_reducible refine ⟨by first | kernel_rfl | decide, ?_⟩
        obtain rfl := Option.some.inj h4469
        exact cutQ _ ((Wk_le (.r (.k (.r (.r (.r (.r (.r (.r (.r (.r (.r (.r (.k (.r (.r .nil))))))))))))))) (OLe.refl _)).trans (cmpS_ok (st' := ⟨[], [(0, .dead), (1, .dead), (2, .dead), (3, .v (.int .i64 x3870)), (4, .sl false 0 0 n3894 1), (5, .dead), (6, .dead), (7, .dead), (8, .dead), (9, .dead), (10, .dead), (12, .dead), (22, .dead), (73, .dead), (76, .dead)], [(0, .p c3895)], 1, []⟩) (by kernel_rfl))) ⟨_, _, rfl, rfl⟩
  · rintro _ ⟨n3917, c3918, rfl, rfl⟩
    (try dsimp only at h4470)
    refine W_sound tab_ok mixed 1 _ _ _ ?_
    simp -implicitDefEqProofs only [go_sem, qa, qb, qc, qd, qe, qf, qg, qh, qi, qj, qk, ↓reduceIte, h3773]
    repeat with_reducible refine ⟨by first | kernel_rfl | decide, ?_⟩
    have hh := grd_some h4470; clear h4470; obtain ⟨g3919, h4470⟩ := hh
    refine Wp_wkK (Wk_freeze 0 c3918 (by rfl) (by decide) (by decide)) rfl ?_
    simp -implicitDefEqProofs only [go_sem, qa, qb, qc, qd, qe, qf, qg, qh, qi, qj, qk, ↓reduceIte, h3773, g3919]
    have hh := bnd'_some h4470; clear h4470; obtain ⟨p4408, h4409, h4470⟩ := hh
    refine W_sound tab_ok mixed 2 _ _ _ ?_
    simp -implicitDefEqProofs only [go_sem, qa, qb, qc, qd, qe, qf, qg, qh, qi, qj, qk, ↓reduceIte, h3773, g3919]
    repeat with_reducible refine ⟨by first | kernel_rfl | decide, ?_⟩
    refine Wp_callP (c41 N _ _ h4409) (by kernel_rfl) rfl rfl rfl rfl (by decide) ?_
    have hh := getL_some h4470; clear h4470; obtain ⟨n4411, c4412, h4410, h4470⟩ := hh
    have hh := bnd'_some h4470; clear h4470; obtain ⟨p4413, h4414, h4470⟩ := hh
    refine W_sound tab_ok mixed 6 _ _ _ ?_
    simp -implicitDefEqProofs only [go_sem, qa, qb, qc, qd, qe, qf, qg, qh, qi, qj, qk, ↓reduceIte, h3773, g3919, h4410]
    repeat with_reducible refine ⟨by first | kernel_rfl | decide, ?_⟩
    refine Wp_callP (c33 N _ _ _ h4414) (by kernel_rfl) rfl rfl rfl rfl (by decide) ?_
    have hh := getT2_some h4470; clear h4470; obtain ⟨p4416, p4417, h4415, h4470⟩ := hh
    have hh := getL_some h4470; clear h4470; obtain ⟨n4419, c4420, h4418, h4470⟩ := hh
    have hh := getI_some h4470; clear h4470; obtain ⟨x4422, h4421, h4470⟩ := hh
    have hh := bnd'_some h4470; clear h4470; obtain ⟨p4423, h4424, h4470⟩ := hh
    refine W_sound tab_ok mixed 10 _ _ _ ?_
    simp -implicitDefEqProofs only [go_sem, qa, qb, qc, qd, qe, qf, qg, qh, qi, qj, qk, ↓reduceIte, h3773, g3919, h4410, h4415, h4418, h4421]
    repeat with_reducible refine ⟨by first | kernel_rfl | decide, ?_⟩
    refine Wp_callP (c35 N _ _ _ h4424) (by kernel_rfl) rfl rfl rfl rfl (by decide) ?_
    have hh := getT2_some h4470; clear h4470; obtain ⟨p4426, p4427, h4425, h4470⟩ := hh
    have hh := getI_some h4470; clear h4470; obtain ⟨x4429, h4428, h4470⟩ := hh
    have hh := getI_some h4470; clear h4470; obtain ⟨x4431, h4430, h4470⟩ := hh
    have hh := grd_some h4470; clear h4470; obtain ⟨g4432, h4470⟩ := hh
    have hh := bnd'_some h4470; clear h4470; obtain ⟨p4433, h4434, h4470⟩ := hh
    refine W_sound tab_ok mixed 11 _ _ _ ?_
    simp -implicitDefEqProofs only [go_sem, qa, qb, qc, qd, qe, qf, qg, qh, qi, qj, qk, ↓reduceIte, h3773, g3919, h4410, h4415, h4418, h4421, h4425, h4428, h4430, g4432]
    repeat with_reducible refine ⟨by first | kernel_rfl | decide, ?_⟩
    refine Wp_callP (c33 N _ _ _ h4434) (by kernel_rfl) rfl rfl rfl rfl (by decide) ?_
    have hh := getT2_some h4470; clear h4470; obtain ⟨p4436, p4437, h4435, h4470⟩ := hh
    have hh := getL_some h4470; clear h4470; obtain ⟨n4439, c4440, h4438, h4470⟩ := hh
    have hh := getI_some h4470; clear h4470; obtain ⟨x4442, h4441, h4470⟩ := hh
    have hh := brn_some h4470; clear h4470; rcases hh with ⟨h4443, h4470⟩ | ⟨h4443, h4470⟩
    · refine W_sound tab_ok mixed 29 _ _ _ ?_
      simp -implicitDefEqProofs only [go_sem, qa, qb, qc, qd, qe, qf, qg, qh, qi, qj, qk, ↓reduceIte, h3773, g3919, h4410, h4415, h4418, h4421, h4425, h4428, h4430, g4432, h4435, h4438, h4441, h4443]
      repeat with_reducible refine ⟨by first | kernel_rfl | decide, ?_⟩
      obtain rfl := Option.some.inj h4470
      exact finC [(2, .v (.bool false))] [(2, .v (.bool false))] (by simp [leE, lk_cons]) (.cons _ _ _ _ _ (.v _ _ (.refl _)) .nil) (by rfl) (by simp [leE, lk_cons]) (by decide) (by decide) rfl (by simp only [go_sem, qa, qb, qc, qd, qe, qf, qg, qh, qi, qj, qk, ↓reduceIte, resQ_tmp, resQ_cell, resQ_nil, retD_one, retD_two, retD_three, retD_none]; try simp [R.val, retD_one, retD_two, retD_three, retD_none])
    · have hh := brn_some h4470; clear h4470; rcases hh with ⟨h4444, h4470⟩ | ⟨h4444, h4470⟩
      · refine W_sound tab_ok mixed 29 _ _ _ ?_
        simp -implicitDefEqProofs only [go_sem, qa, qb, qc, qd, qe, qf, qg, qh, qi, qj, qk, ↓reduceIte, h3773, g3919, h4410, h4415, h4418, h4421, h4425, h4428, h4430, g4432, h4435, h4438, h4441, h4443, h4444]
        repeat with_reducible refine ⟨by first | kernel_rfl | decide, ?_⟩
        obtain rfl := Option.some.inj h4470
        exact finC [(2, .v (.bool false))] [(2, .v (.bool false))] (by simp [leE, lk_cons]) (.cons _ _ _ _ _ (.v _ _ (.refl _)) .nil) (by rfl) (by simp [leE, lk_cons]) (by decide) (by decide) rfl (by simp only [go_sem, qa, qb, qc, qd, qe, qf, qg, qh, qi, qj, qk, ↓reduceIte, resQ_tmp, resQ_cell, resQ_nil, retD_one, retD_two, retD_three, retD_none]; try simp [R.val, retD_one, retD_two, retD_three, retD_none])
      · have hh := brn_some h4470; clear h4470; rcases hh with ⟨h4445, h4470⟩ | ⟨h4445, h4470⟩
        · refine W_sound tab_ok mixed 29 _ _ _ ?_
          simp -implicitDefEqProofs only [go_sem, qa, qb, qc, qd, qe, qf, qg, qh, qi, qj, qk, ↓reduceIte, h3773, g3919, h4410, h4415, h4418, h4421, h4425, h4428, h4430, g4432, h4435, h4438, h4441, h4443, h4444, h4445]
          repeat with_reducible refine ⟨by first | kernel_rfl | decide, ?_⟩
          obtain rfl := Option.some.inj h4470
          exact finC [(2, .v (.bool false))] [(2, .v (.bool false))] (by simp [leE, lk_cons]) (.cons _ _ _ _ _ (.v _ _ (.refl _)) .nil) (by rfl) (by simp [leE, lk_cons]) (by decide) (by decide) rfl (by simp only [go_sem, qa, qb, qc, qd, qe, qf, qg, qh, qi, qj, qk, ↓reduceIte, resQ_tmp, resQ_cell, resQ_nil, retD_one, retD_two, retD_three, retD_none]; try simp [R.val, retD_one, retD_two, retD_three, retD_none])
        · have hh := brn_some h4470; clear h4470; rcases hh with ⟨h4446, h4470⟩ | ⟨h4446, h4470⟩
          · have hh := brn_some h4470; clear h4470; rcases hh with ⟨h4447, h4470⟩ | ⟨h4447, h4470⟩
            · have hh := brn_some h4470; clear h4470; rcases hh with ⟨h4448, h4470⟩ | ⟨h4448, h4470⟩
              · have hh := bnd'_some h4470; clear h4470; obtain ⟨p4449, h4450, h4470⟩ := hh
                refine W_sound tab_ok mixed 42 _ _ _ ?_
                simp -implicitDefEqProofs only [go_sem, qa, qb, qc, qd, qe, qf, qg, qh, qi, qj, qk, ↓reduceIte, h3773, g3919, h4410, h4415, h4418, h4421, h4425, h4428, h4430, g4432, h4435, h4438, h4441, h4443, h4444, h4445, h4446, h4447, h4448]
                repeat with_reducible refine ⟨by first | kernel_rfl | decide, ?_⟩
                refine Wp_callP (c16 N  _ h4450) (by kernel_rfl) rfl rfl rfl rfl (by decide) ?_
                have hh := getB_some h4470; clear h4470; obtain ⟨b4452, h4451, h4470⟩ := hh
                refine W_sound tab_ok mixed 5 _ _ _ ?_
                simp -implicitDefEqProofs only [go_sem, qa, qb, qc, qd, qe, qf, qg, qh, qi, qj, qk, ↓reduceIte, h3773, g3919, h4410, h4415, h4418, h4421, h4425, h4428, h4430, g4432, h4435, h4438, h4441, h4443, h4444, h4445, h4446, h4447, h4448, h4451]
                repeat with_reducible refine ⟨by first | kernel_rfl | decide, ?_⟩
                obtain rfl := Option.some.inj h4470
                exact finC [(2, .v (.bool b4452))] [(2, .v (.bool b4452))] (by simp [leE, lk_cons]) (.cons _ _ _ _ _ (.v _ _ (.refl _)) .nil) (by rfl) (by simp [leE, lk_cons]) (by decide) (by decide) rfl (by simp only [go_sem, qa, qb, qc, qd, qe, qf, qg, qh, qi, qj, qk, ↓reduceIte, resQ_tmp, resQ_cell, resQ_nil, retD_one, retD_two, retD_three, retD_none]; try simp [R.val, retD_one, retD_two, retD_three, retD_none])
              · refine W_sound tab_ok mixed 48 _ _ _ ?_
                simp -implicitDefEqProofs only [go_sem, qa, qb, qc, qd, qe, qf, qg, qh, qi, qj, qk, ↓reduceIte, h3773, g3919, h4410, h4415, h4418, h4421, h4425, h4428, h4430, g4432, h4435, h4438, h4441, h4443, h4444, h4445, h4446, h4447, h4448]
                repeat with_reducible refine ⟨by first | kernel_rfl | decide, ?_⟩
                obtain rfl := Option.some.inj h4470
                exact finC [(2, .v (.bool false))] [(2, .v (.bool false))] (by simp [leE, lk_cons]) (.cons _ _ _ _ _ (.v _ _ (.refl _)) .nil) (by rfl) (by simp [leE, lk_cons]) (by decide) (by decide) rfl (by simp only [go_sem, qa, qb, qc, qd, qe, qf, qg, qh, qi, qj, qk, ↓reduceIte, resQ_tmp, resQ_cell, resQ_nil, retD_one, retD_two, retD_three, retD_none]; try simp [R.val, retD_one, retD_two, retD_three, retD_none])
            · refine W_sound tab_ok mixed 48 _ _ _ ?_
              simp -implicitDefEqProofs only [go_sem, qa, qb, qc, qd, qe, qf, qg, qh, qi, qj, qk, ↓reduceIte, h3773, g3919, h4410, h4415, h4418, h4421, h4425, h4428, h4430, g4432, h4435, h4438, h4441, h4443, h4444, h4445, h4446, h4447]
              repeat with_reducible refine ⟨by first | kernel_rfl | decide, ?_⟩
              obtain rfl := Option.some.inj h4470
              exact finC [(2, .v (.bool false))] [(2, .v (.bool false))] (by simp [leE, lk_cons]) (.cons _ _ _ _ _ (.v _ _ (.refl _)) .nil) (by rfl) (by simp [leE, lk_cons]) (by decide) (by decide) rfl (by simp only [go_sem, qa, qb, qc, qd, qe, qf, qg, qh, qi, qj, qk, ↓reduceIte, resQ_tmp, resQ_cell, resQ_nil, retD_one, retD_two, retD_three, retD_none]; try simp [R.val, retD_one, retD_two, retD_three, retD_none])
          · have hh := brn_some h4470; clear h4470; rcases hh with ⟨h4453, h4470⟩ | ⟨h4453, h4470⟩
            · have hh := grd_some h4470; clear h4470; obtain ⟨g4454, h4470⟩ := hh
              have hh := grd_some h4470; clear h4470; obtain ⟨g4455, h4470⟩ := hh
              have hh := getL_some h4470; clear h4470; obtain ⟨n4457, c4458, h4456, h4470⟩ := hh
              have hh := bnd'_some h4470; clear h4470; obtain ⟨p4459, h4460, h4470⟩ := hh
              refine W_sound tab_ok mixed 42 _ _ _ ?_
              simp -implicitDefEqProofs only [go_sem, qa, qb, qc, qd, qe, qf, qg, qh, qi, qj, qk, ↓reduceIte, h3773, g3919, h4410, h4415, h4418, h4421, h4425, h4428, h4430, g4432, h4435, h4438, h4441, h4443, h4444, h4445, h4446, h4453, g4454, g4455, h4456]
              repeat with_reducible refine ⟨by first | kernel_rfl | decide, ?_⟩
              refine Wp_callP (c22 N _ _ _ h4460) (by kernel_rfl) rfl rfl rfl rfl (by decide) ?_
              have hh := getB_some h4470; clear h4470; obtain ⟨b4462, h4461, h4470⟩ := hh
              have hh := brn_some h4470; clear h4470; rcases hh with ⟨h4463, h4470⟩ | ⟨h4463, h4470⟩
              · have hh := bnd'_some h4470; clear h4470; obtain ⟨p4464, h4465, h4470⟩ := hh
                refine W_sound tab_ok mixed 2 _ _ _ ?_
                simp -implicitDefEqProofs only [go_sem, qa, qb, qc, qd, qe, qf, qg, qh, qi, qj, qk, ↓reduceIte, h3773, g3919, h4410, h4415, h4418, h4421, h4425, h4428, h4430, g4432, h4435, h4438, h4441, h4443, h4444, h4445, h4446, h4453, g4454, g4455, h4456, h4461, h4463]
                repeat with_reducible refine ⟨by first | kernel_rfl | decide, ?_⟩
                refine Wp_callP (c16 N  _ h4465) (by kernel_rfl) rfl rfl rfl rfl (by decide) ?_
                have hh := getB_some h4470; clear h4470; obtain ⟨b4467, h4466, h4470⟩ := hh
                refine W_sound tab_ok mixed 5 _ _ _ ?_
                simp -implicitDefEqProofs only [go_sem, qa, qb, qc, qd, qe, qf, qg, qh, qi, qj, qk, ↓reduceIte, h3773, g3919, h4410, h4415, h4418, h4421, h4425, h4428, h4430, g4432, h4435, h4438, h4441, h4443, h4444, h4445, h4446, h4453, g4454, g4455, h4456, h4461, h4463, h4466]
                repeat with_reducible refine ⟨by first | kernel_rfl | decide, ?_⟩
                obtain rfl := Option.some.inj h4470
                exact finC [(2, .v (.bool b4467))] [(2, .v (.bool b4467))] (by simp [leE, lk_cons]) (.cons _ _ _ _ _ (.v _ _ (.refl _)) .nil) (by rfl) (by simp [leE, lk_cons]) (by decide) (by decide) rfl (by simp only [go_sem, qa, qb, qc, qd, qe, qf, qg, qh, qi, qj, qk, ↓reduceIte, resQ_tmp, resQ_cell, resQ_nil, retD_one, retD_two, retD_three, retD_none]; try simp [R.val, retD_one, retD_two, retD_three, retD_none])
              · refine W_sound tab_ok mixed 8 _ _ _ ?_
                simp -implicitDefEqProofs only [go_sem, qa, qb, qc, qd, qe, qf, qg, qh, qi, qj, qk, ↓reduceIte, h3773, g3919, h4410, h4415, h4418, h4421, h4425, h4428, h4430, g4432, h4435, h4438, h4441, h4443, h4444, h4445, h4446, h4453, g4454, g4455, h4456, h4461, h4463]
                repeat with_reducible refine ⟨by first | kernel_rfl | decide, ?_⟩
                obtain rfl := Option.some.inj h4470
                exact finC [(2, .v (.bool false))] [(2, .v (.bool false))] (by simp [leE, lk_cons]) (.cons _ _ _ _ _ (.v _ _ (.refl _)) .nil) (by rfl) (by simp [leE, lk_cons]) (by decide) (by decide) rfl (by simp only [go_sem, qa, qb, qc, qd, qe, qf, qg, qh, qi, qj, qk, ↓reduceIte, resQ_tmp, resQ_cell, resQ_nil, retD_one, retD_two, retD_three, retD_none]; try simp [R.val, retD_one, retD_two, retD_three, retD_none])
            · refine W_sound tab_ok mixed 51 _ _ _ ?_
              simp -implicitDefEqProofs only [go_sem, qa, qb, qc, qd, qe, qf, qg, qh, qi, qj, qk, ↓reduceIte, h3773, g3919, h4410, h4415, h4418, h4421, h4425, h4428, h4430, g4432, h4435, h4438, h4441, h4443, h4444, h4445, h4446, h4453]
              repeat with_reducible refine ⟨by first | kernel_rfl | decide, ?_⟩
              obtain rfl := Option.some.inj h4470
              exact finC [(2, .v (.bool false))] [(2, .v (.bool false))] (by simp [leE, lk_cons]) (.cons _ _ _ _ _ (.v _ _ (.refl _)) .nil) (by rfl) (by simp [leE, lk_cons]) (by decide) (by decide) rfl (by simp only [go_sem, qa, qb, qc, qd, qe, qf, qg, qh, qi, qj, qk, ↓reduceIte, resQ_tmp, resQ_cell, resQ_nil, retD_one, retD_two, retD_three, retD_none]; try simp [R.val, retD_one, retD_two, retD_three, retD_none])
end Go.Proofs.YtcaecfofgdogbaaDoor
namespace Go.Proofs.YtcaecfofgdogbaaDoor
open Go.V
set_option linter.unusedSectionVars false
theorem brn_t {α : Type} {b : Bool} {x y : Option α} (h : b = true) : brn b x y = x := by subst h; rfl
theorem brn_f {α : Type} {b : Bool} {x y : Option α} (h : b = false) : brn b x y = y := by subst h; rfl
theorem grd_t {α : Type} {p : Prop} [Decidable p] {k : Option α} (h : p) : grd p k = k := by simp [grd, h]
theorem brn_dt {α : Type} {p : Prop} [Decidable p] {x y : Option α} (h : p) : brn (decide p) x y = x := brn_t (decide_eq_true h)
theorem brn_df {α : Type} {p : Prop} [Decidable p] {x y : Option α} (h : ¬ p) : brn (decide p) x y = y := brn_f (decide_eq_false h)
theorem brn_et {α : Type} {a b : Int} {x y : Option α} (h : a = b) : brn (a == b) x y = x := brn_t (by simpa using h)
theorem brn_ef {α : Type} {a b : Int} {x y : Option α} (h : a ≠ b) : brn (a == b) x y = y := brn_f (by simpa using h)
theorem brn_nt {α : Type} {a b : Int} {x y : Option α} (h : a ≠ b) : brn (a != b) x y = x := brn_t (by simpa using h)
theorem brn_nf {α : Type} {a b : Int} {x y : Option α} (h : a = b) : brn (a != b) x y = y := brn_f (by simpa using h)
theorem bnd_t {α β : Type} {x : α} {f : α → Option β} : bnd' (some x) f = f x := rfl
theorem getI_t {α : Type} {k : IntKind} {x : Int} {f : Int → Option α} : getI k (.int k x) f = f x := by simp [getI]
theorem getB_t {α : Type} {b : Bool} {f : Bool → Option α} : getB (.bool b) f = f b := rfl
theorem getL_t {α : Type} {n : Nat} {c : List PV} {f : Nat → List PV → Option α} : getL (.lst false n c) f = f n c := rfl
theorem getT2_t {α : Type} {a b : PV} {f : PV → PV → Option α} : getT2 (.tup [a, b]) f = f a b := rfl
theorem getT0_t {α : Type} {k : Option α} : getT0 (.tup []) k = k := rfl
theorem wrapN {n : Nat} (h : n ≤ 100000) : IntKind.i64.wrap ((n : Int) + 1) = ((n + 1 : Nat) : Int) := by
  rw [wrap64 (by omega) (by omega)]; omega
theorem toNatN (n : Nat) : Int.toNat (n : Int) = n := by omega
theorem range'_step {i n : Nat} (h : i < n) : List.range' i (n - i) = i :: List.range' (i + 1) (n - (i + 1)) := by
  rw [show n - i = (n - (i + 1)) + 1 by omega, List.range'_succ]
def iL (X : List Int) : List PV := X.map (PV.int .i64)
theorem iL_len (X : List Int) : (iL X).length = X.length := by simp [iL]
def en (X : List Int) (i : Nat) : Int := X.getD i 0
theorem iL_gp {X : List Int} {i : Nat} (h : i < X.length) : gp (iL X) i = .int .i64 (en X i) := by
  simp [iL, gp, en, List.getD, h]
theorem iL_set (w : List Int) (j : Nat) (x : Int) : (iL w).set j (.int .i64 x) = iL (w.set j x) := by simp [iL, List.map_set]
theorem iL_app (X : List Int) (x : Int) : iL X ++ [.int .i64 x] = iL (X ++ [x]) := by simp [iL]
def rwP (r : List Int) : PV := .lst false r.length (iL r)
def rwsP (L : List (List Int)) : List PV := L.map rwP
theorem rws_len (L : List (List Int)) : (rwsP L).length = L.length := by simp [rwsP]
def ro (L : List (List Int)) (i : Nat) : List Int := L.getD i []
theorem rws_gp {L : List (List Int)} {i : Nat} (h : i < L.length) : gp (rwsP L) i = .lst false (ro L i).length (iL (ro L i)) := by
  simp [rwsP, gp, ro, rwP, List.getD, h]
theorem rws_app (L : List (List Int)) (r : List Int) : rwsP L ++ [rwP r] = rwsP (L ++ [r]) := by simp [rwsP]
theorem ro_mem {L : List (List Int)} {i : Nat} (h : i < L.length) : ro L i ∈ L := by
  simp [ro, List.getD, h]
theorem drop_ro {L : List (List Int)} {i : Nat} (h : i < L.length) : L.drop i = ro L i :: L.drop (i + 1) := by
  rw [List.drop_eq_getElem_cons h]; simp [ro, List.getD, h]
theorem drop_en {L : List Int} {i : Nat} (h : i < L.length) : L.drop i = en L i :: L.drop (i + 1) := by
  rw [List.drop_eq_getElem_cons h]; simp [en, List.getD, h]
theorem take_en {L : List Int} {i : Nat} (h : i < L.length) : L.take (i + 1) = L.take i ++ [en L i] := by
  rw [List.take_succ_eq_append_getElem h]; simp [en, List.getD, h]
theorem take_ro {L : List (List Int)} {i : Nat} (h : i < L.length) : L.take (i + 1) = L.take i ++ [ro L i] := by
  rw [List.take_succ_eq_append_getElem h]; simp [ro, List.getD, h]
theorem en_set {w : List Int} {j k : Nat} {x : Int} (hj : j < w.length) : en (w.set j x) k = if k = j then x else en w k := by
  unfold en
  by_cases h : k = j
  · subst h; simp [List.getD, hj]
  · rw [if_neg h]; simp [List.getD, List.getElem?_set_ne (Ne.symm h)]
theorem gI_n {α : Type} {X : List Int} {i : Nat} {f : Int → Option α} (h : i < X.length) : getI .i64 (gp (iL X) (Int.toNat (i : Int))) f = f (en X i) := by
  rw [toNatN, iL_gp h, getI_t]
theorem gL_n {α : Type} {L : List (List Int)} {i : Nat} {f : Nat → List PV → Option α} (h : i < L.length) : getL (gp (rwsP L) (Int.toNat (i : Int))) f = f (ro L i).length (iL (ro L i)) := by
  rw [toNatN, rws_gp h, getL_t]
theorem isame_L (N : Nat) (X : List Int) (hX : X.length ≤ 1000) : ∀ (s i fuel : Nat), X.length - i = s → s < fuel →
    m22_L0 N X.length (iL X) X.length (iL X) fuel (i : Int) = some (.inr ())
  | s, i, 0, _, h => by omega
  | s, i, f + 1, hs, hf => by
    rw [m22_L0]
    by_cases hi : i < X.length
    · have ih := isame_L N X hX (s - 1) (i + 1) f (by omega) (by omega)
      rw [brn_dt (by omega)]
      simp (disch := (try simp only [List.length_drop, iL_len, rws_len, toNatN]) <;> omega) only [↓grd_t, ↓gI_n]
      rw [brn_nf rfl, wrapN (by omega), ih]
    · rw [brn_df (by omega)]
theorem isame_ok (N : Nat) (hN : 2000 ≤ N) (X : List Int) (hX : X.length ≤ 1000) : m22 N (.lst false X.length (iL X)) (.lst false X.length (iL X)) = some (.bool true) := by
  have := isame_L N X hX X.length 0 N (by omega) (by omega)
  rw [m22, getL_t, getL_t, brn_nf rfl, show m22_L0 N X.length (iL X) X.length (iL X) N 0 = _ from this]
  rfl
theorem b_or : ∀ x : Nat, x < 32 → ∀ s : Nat, s < 5 → bitsI .or .u64 (x : Int) (IntKind.u64.wrap (1 * 2 ^ (min s 64))) = ((x ||| 2 ^ s : Nat) : Int) := by decide +kernel
theorem b_tst : ∀ x : Nat, x < 32 → ∀ s : Nat, s < 5 → (bitsI .and .u64 (Int.fdiv (x : Int) (2 ^ (min s 64))) 1 == 1) = x.testBit s := by decide +kernel
def bits (x : Nat) : List Nat := (List.range 5).filter fun s => x.testBit s
theorem or_lt : ∀ x : Nat, x < 32 → ∀ s : Nat, s < 5 → x ||| 2 ^ s < 32 := by decide +kernel
theorem tst_or : ∀ x : Nat, x < 32 → ∀ s : Nat, s < 5 → ∀ t : Nat, t < 5 → (x ||| 2 ^ s).testBit t = (x.testBit t || decide (t = s)) := by decide +kernel
def uL (X : List Nat) : List PV := X.map fun (b : Nat) => PV.int .u64 (b : Int)
def bn (X : List Nat) (i : Nat) : Nat := X.getD i 0
def tblP (n : Nat) (A : List Int) (B D : List Nat) : List PV := .int .i64 (n : Int) :: (iL A ++ (uL B ++ uL D))
structure Tb (A : List Int) (B D : List Nat) : Prop where
  la : A.length = 25
  lb : B.length = 5
  ld : D.length = 5
  b32 : ∀ i, i < 5 → bn B i < 32
  d32 : ∀ i, i < 5 → bn D i < 32
theorem uL_len (X : List Nat) : (uL X).length = X.length := by simp [uL]
theorem bn_set {w : List Nat} {j k : Nat} {x : Nat} (hj : j < w.length) : bn (w.set j x) k = if k = j then x else bn w k := by
  unfold bn
  by_cases h : k = j
  · subst h; simp [List.getD, hj]
  · rw [if_neg h]; simp [List.getD, List.getElem?_set_ne (Ne.symm h)]
theorem tbl_len {n : Nat} {A : List Int} {B D : List Nat} (h : Tb A B D) : (tblP n A B D).length = 36 := by
  have := h.la; have := h.lb; have := h.ld
  simp only [tblP, List.length_cons, List.length_append, iL_len, uL_len]; omega
theorem gp_cons {p : PV} {l : List PV} {i : Nat} : gp (p :: l) (i + 1) = gp l i := by simp [gp]
theorem gp_left {l m : List PV} {i : Nat} (h : i < l.length) : gp (l ++ m) i = gp l i := by simp [gp, List.getD, List.getElem?_append_left h]
theorem gp_right {l m : List PV} {i j : Nat} (h : i = l.length + j) : gp (l ++ m) i = gp m j := by
  subst h; simp [gp, List.getD, List.getElem?_append_right]
theorem uL_gp {X : List Nat} {i : Nat} (h : i < X.length) : gp (uL X) i = .int .u64 (bn X i : Int) := by
  simp [uL, gp, bn, List.getD, h]
theorem gp_a {n : Nat} {A : List Int} {B D : List Nat} (h : Tb A B D) {j : Nat} (hj : j < 25) : gp (tblP n A B D) (1 + j) = .int .i64 (en A j) := by
  have := h.la
  rw [Nat.add_comm, tblP, gp_cons, gp_left (by rw [iL_len]; omega), iL_gp (by omega)]
theorem gp_b {n : Nat} {A : List Int} {B D : List Nat} (h : Tb A B D) {i : Nat} (hi : i < 5) : gp (tblP n A B D) (26 + i) = .int .u64 (bn B i : Int) := by
  have := h.la; have := h.lb
  rw [show 26 + i = (25 + i) + 1 by omega, tblP, gp_cons, gp_right (j := i) (by rw [iL_len]; omega), gp_left (by rw [uL_len]; omega), uL_gp (by omega)]
theorem gp_d {n : Nat} {A : List Int} {B D : List Nat} (h : Tb A B D) {i : Nat} (hi : i < 5) : gp (tblP n A B D) (31 + i) = .int .u64 (bn D i : Int) := by
  have := h.la; have := h.lb; have := h.ld
  rw [show 31 + i = (30 + i) + 1 by omega, tblP, gp_cons, gp_right (j := 5 + i) (by rw [iL_len]; omega), gp_right (j := i) (by rw [uL_len]; omega), uL_gp (by omega)]
theorem uL_set (w : List Nat) (j : Nat) (x : Nat) : (uL w).set j (.int .u64 (x : Int)) = uL (w.set j x) := by simp [uL, List.map_set]
theorem set_a {n : Nat} {A : List Int} {B D : List Nat} (h : Tb A B D) {j : Nat} {x : Int} (hj : j < 25) : (tblP n A B D).set (1 + j) (.int .i64 x) = tblP n (A.set j x) B D := by
  have := h.la
  rw [Nat.add_comm, tblP, List.set_cons_succ, List.set_append_left _ _ (by rw [iL_len]; omega), iL_set]; rfl
theorem set_b {n : Nat} {A : List Int} {B D : List Nat} (h : Tb A B D) {i : Nat} {x : Nat} (hi : i < 5) : (tblP n A B D).set (26 + i) (.int .u64 (x : Int)) = tblP n A (B.set i x) D := by
  have := h.la; have := h.lb
  rw [show 26 + i = (25 + i) + 1 by omega, tblP, List.set_cons_succ, List.set_append_right _ _ (by rw [iL_len]; omega), iL_len, show 25 + i - A.length = i by omega, List.set_append_left _ _ (by rw [uL_len]; omega), uL_set]; rfl
theorem set_d {n : Nat} {A : List Int} {B D : List Nat} (h : Tb A B D) {i : Nat} {x : Nat} (hi : i < 5) : (tblP n A B D).set (31 + i) (.int .u64 (x : Int)) = tblP n A B (D.set i x) := by
  have := h.la; have := h.lb; have := h.ld
  rw [show 31 + i = (30 + i) + 1 by omega, tblP, List.set_cons_succ, List.set_append_right _ _ (by rw [iL_len]; omega), iL_len, List.set_append_right _ _ (by rw [uL_len]; omega), uL_len, show 30 + i - A.length - B.length = i by omega, uL_set]; rfl
def putT (T : List Int × List Nat × List Nat) (i k s : Nat) : List Int × List Nat × List Nat := (T.1.set (i * 5 + k) (s : Int), T.2.1.set i (bn T.2.1 i ||| 2 ^ s), T.2.2.set k (bn T.2.2 k ||| 2 ^ s))
theorem Tb.seta {A : List Int} {B D : List Nat} (h : Tb A B D) {j : Nat} {x : Int} : Tb (A.set j x) B D := ⟨by rw [List.length_set]; exact h.la, h.lb, h.ld, h.b32, h.d32⟩
theorem Tb.setb {A : List Int} {B D : List Nat} (h : Tb A B D) {j x : Nat} (hj : j < 5) (hx : x < 32) : Tb A (B.set j x) D := ⟨h.la, by rw [List.length_set]; exact h.lb, h.ld, fun i hi => by
  rw [bn_set (by have := h.lb; omega)]; split
  · exact hx
  · exact h.b32 i hi, h.d32⟩
theorem Tb.setd {A : List Int} {B D : List Nat} (h : Tb A B D) {j x : Nat} (hj : j < 5) (hx : x < 32) : Tb A B (D.set j x) := ⟨h.la, h.lb, by rw [List.length_set]; exact h.ld, h.b32, fun i hi => by
  rw [bn_set (by have := h.ld; omega)]; split
  · exact hx
  · exact h.d32 i hi⟩
theorem Tb.put {A : List Int} {B D : List Nat} (h : Tb A B D) {i k s : Nat} (hi : i < 5) (hk : k < 5) (hs : s < 5) : Tb (putT (A, B, D) i k s).1 (putT (A, B, D) i k s).2.1 (putT (A, B, D) i k s).2.2 :=
  (h.seta.setb hi (or_lt _ (h.b32 i hi) s hs)).setd hk (or_lt _ (h.d32 k hk) s hs)
theorem getU_t {α : Type} {x : Int} {f : Int → Option α} : getI .u64 (.int .u64 x) f = f x := by simp [getI]
theorem put_ok (N n : Nat) {A : List Int} {B D : List Nat} (h : Tb A B D) {i k s : Nat} (hi : i < 5) (hk : k < 5) (hs : s < 5) :
    m72 N (i : Int) (k : Int) (s : Int) (tblP n A B D) = some (.tup [], tblP n (putT (A, B, D) i k s).1 (putT (A, B, D) i k s).2.1 (putT (A, B, D) i k s).2.2) := by
  have hl := tbl_len (n := n) h
  have h1 : Tb (A.set (i * 5 + k) (s : Int)) B D := h.seta
  have h2 := h1.setb hi (or_lt _ (h.b32 i hi) s hs)
  rw [m72, toNatN, toNatN, toNatN, grd_t ⟨by omega, by omega⟩, grd_t ⟨by omega, by omega⟩, grd_t (by omega), grd_t (by omega), show 1 + i * 5 + k = 1 + (i * 5 + k) by omega, set_a h (by omega), gp_b h1 hi, getU_t, grd_t (by omega), grd_t (by omega), grd_t (by omega), b_or _ (h.b32 i hi) s hs, set_b h1 hi, gp_d h2 hk, getU_t, grd_t (by omega), b_or _ (h.d32 k hk) s hs, set_d h2 hk]
  rfl
abbrev T3 := List Int × List Nat × List Nat
def tP (n : Nat) (T : T3) : List PV := tblP n T.1 T.2.1 T.2.2
structure Tv (T : T3) : Prop where
  tb : Tb T.1 T.2.1 T.2.2
  a1 : ∀ j, j < 25 → -1 ≤ en T.1 j
theorem Tv.put {T : T3} (h : Tv T) {i k s : Nat} (hi : i < 5) (hk : k < 5) (hs : s < 5) : Tv (putT T i k s) := ⟨h.tb.put hi hk hs, fun j hj => by
  have la := h.tb.la
  show -1 ≤ en (T.1.set (i * 5 + k) (s : Int)) j
  rw [en_set (by omega)]; split
  · omega
  · exact h.a1 j hj⟩
def dayE (n : Int) (P : List (List Int)) (r : List Int) : Nat → Nat → Int
  | 0, _ => 0
  | f + 1, k => if en r k < 0 then 2 else if n ≤ en r k then 2 else if en r k ∈ r.take k then 6 else if P.any (fun q => decide (k < q.length) && (en q k == en r k)) then 13 else dayE n P r f (k + 1)
def rowE (n w : Int) (L : List (List Int)) : Nat → Nat → Int
  | 0, _ => 0
  | f + 1, i => if ((ro L i).length : Int) ≠ w then 5 else if n < w then 5 else if dayE n (L.take i) (ro L i) (ro L i).length 0 ≠ 0 then dayE n (L.take i) (ro L i) (ro L i).length 0 else rowE n w L f (i + 1)
def chkE (n w : Int) (L : List (List Int)) : Int := if n < 1 then 1 else if 5 < n then 1 else if n < (L.length : Int) then 3 else rowE n w L L.length 0
structure Rp (P : List (List Int)) (i : Nat) (r : List Int) (k : Nat) (T : T3) : Prop where
  tv : Tv T
  b : ∀ s, s < 5 → ((bn T.2.1 i).testBit s = true ↔ (s : Int) ∈ r.take k)
  bz : ∀ j, i < j → j < 5 → bn T.2.1 j = 0
  d : ∀ d s, d < 5 → s < 5 → ((bn T.2.2 d).testBit s = true ↔ (∃ q ∈ P, d < q.length ∧ en q d = (s : Int)) ∨ (d < k ∧ en r d = (s : Int)))
  a : ∀ j d, j < 5 → d < 5 → en T.1 (j * 5 + d) = if j < i then (if d < (ro P j).length then en (ro P j) d else -1) else if j = i ∧ d < k then en r d else -1
theorem Rp.put {P : List (List Int)} {i : Nat} {r : List Int} {k : Nat} {T : T3} (h : Rp P i r k T) (hi : i < 5) (hk : k < 5) (hr : k < r.length) {s : Nat} (hs : s < 5) (he : en r k = (s : Int)) : Rp P i r (k + 1) (putT T i k s) := by
  have la := h.tv.tb.la; have lb := h.tv.tb.lb; have ld := h.tv.tb.ld
  refine ⟨h.tv.put hi hk hs, fun t ht => ?_, fun j hj h5 => ?_, fun d t hd ht => ?_, fun j d hj hd => ?_⟩
  · show (bn (T.2.1.set i (bn T.2.1 i ||| 2 ^ s)) i).testBit t = true ↔ _
    rw [bn_set (by omega), if_pos rfl, tst_or _ (h.tv.tb.b32 i hi) s hs t ht, Bool.or_eq_true, h.b t ht, decide_eq_true_eq, take_en hr, List.mem_append, List.mem_singleton, he]
    constructor
    · rintro (h1 | rfl)
      · exact .inl h1
      · exact .inr rfl
    · rintro (h1 | h1)
      · exact .inl h1
      · exact .inr (by omega)
  · show bn (T.2.1.set i (bn T.2.1 i ||| 2 ^ s)) j = 0
    rw [bn_set (by omega), if_neg (by omega)]; exact h.bz j hj h5
  · show (bn (T.2.2.set k (bn T.2.2 k ||| 2 ^ s)) d).testBit t = true ↔ _
    rw [bn_set (by omega)]
    by_cases hdk : d = k
    · subst hdk
      rw [if_pos rfl, tst_or _ (h.tv.tb.d32 d hd) s hs t ht, Bool.or_eq_true, h.d d t hd ht, decide_eq_true_eq, he]
      constructor
      · rintro ((h1 | h1) | rfl)
        · exact .inl h1
        · omega
        · exact .inr ⟨by omega, rfl⟩
      · rintro (h1 | h1)
        · exact .inl (.inl h1)
        · exact .inr (by omega)
    · rw [if_neg hdk, h.d d t hd ht]
      constructor
      · rintro (h1 | h1)
        · exact .inl h1
        · exact .inr ⟨by omega, h1.2⟩
      · rintro (h1 | h1)
        · exact .inl h1
        · exact .inr ⟨by omega, h1.2⟩
  · show en (T.1.set (i * 5 + k) (s : Int)) (j * 5 + d) = _
    rw [en_set (by omega), h.a j d hj hd]
    by_cases hx : j * 5 + d = i * 5 + k
    · have : j = i ∧ d = k := by omega
      obtain ⟨rfl, rfl⟩ := this
      rw [if_pos hx, if_neg (by omega), if_pos ⟨rfl, by omega⟩, he]
    · rw [if_neg hx]
      by_cases h1 : j < i
      · rw [if_pos h1, if_pos h1]
      · rw [if_neg h1, if_neg h1]
        by_cases h2 : j = i ∧ d < k
        · rw [if_pos h2, if_pos ⟨h2.1, by omega⟩]
        · rw [if_neg h2, if_neg (by omega)]
theorem Rp.next {P : List (List Int)} {i : Nat} {r : List Int} {T : T3} (h : Rp P i r r.length T) (hi : P.length = i) (hr : r.length ≤ 5) (r' : List Int) : Rp (P ++ [r]) (i + 1) r' 0 T := by
  refine ⟨h.tv, fun s hs => ?_, fun j hj h5 => h.bz j (by omega) h5, fun d s hd hs => ?_, fun j d hj hd => ?_⟩
  · rw [List.take_zero]
    by_cases h5 : i + 1 < 5
    · rw [h.bz (i + 1) (by omega) h5]; simp
    · have : bn T.2.1 (i + 1) = 0 := by
        have := h.tv.tb.lb
        unfold bn; rw [List.getD, List.getElem?_eq_none (by omega)]; rfl
      rw [this]; simp
  · rw [h.d d s hd hs]
    constructor
    · rintro (⟨q, hq, h1⟩ | h1)
      · exact .inl ⟨q, List.mem_append_left _ hq, h1⟩
      · exact .inl ⟨r, List.mem_append_right _ (.head _), h1⟩
    · rintro (⟨q, hq, h1⟩ | h1)
      · rcases List.mem_append.1 hq with hq | hq
        · exact .inl ⟨q, hq, h1⟩
        · obtain rfl := List.mem_singleton.1 hq
          exact .inr h1
      · omega
  · rw [h.a j d hj hd]
    by_cases h1 : j < i
    · rw [if_pos h1, if_pos (show j < i + 1 by omega)]
      have : ro (P ++ [r]) j = ro P j := by simp [ro, List.getD, List.getElem?_append_left (show j < P.length by omega)]
      rw [this]
    · rw [if_neg h1]
      by_cases h2 : j = i
      · have : ro (P ++ [r]) j = r := by
          subst h2; rw [← hi]; simp [ro, List.getD]
        rw [if_pos (show j < i + 1 by omega), this]
        by_cases h3 : d < r.length
        · rw [if_pos (show j = i ∧ d < r.length from ⟨h2, h3⟩), if_pos h3]
        · rw [if_neg (show ¬ (j = i ∧ d < r.length) by omega), if_neg h3]
      · rw [if_neg (show ¬ (j = i ∧ d < r.length) by omega), if_neg (show ¬ j < i + 1 by omega), if_neg (show ¬ (j = i + 1 ∧ d < 0) by omega)]
def outR (n : Nat) (e : Int) (T : T3) : (Int ⊕ (Int × List PV)) ⊕ List PV := if e = 0 then .inr (tP n T) else .inl (.inl e)
theorem open_L1 (N n : Nat) (hn : n ≤ 5) (w : Int) (L : List (List Int)) (P : List (List Int)) (r : List Int) (i : Nat) (hi : i < 5) (hr : r.length ≤ 5) : ∀ (f k fuel : Nat) (T : T3), r.length - k = f → f < fuel → k ≤ r.length → Rp P i r k T →
    ∃ T', m61_L1 N (n : Int) w L.length (rwsP L) (i : Int) r.length (iL r) fuel (k : Int) (tP n T) = some (outR n (dayE n P r f k) T') ∧ (dayE n P r f k = 0 → Rp P i r r.length T')
  | f, k, 0, _, _, h, _, _ => by omega
  | 0, k, fuel + 1, T, hf, _, hk, hT => by
    have : k = r.length := by omega
    subst this
    refine ⟨T, ?_, fun _ => hT⟩
    rw [m61_L1, brn_df (by omega)]; rfl
  | f + 1, k, fuel + 1, T, hf, hfu, hk, hT => by
    have hl := tbl_len (n := n) hT.tv.tb
    have h1 : k < r.length := by omega
    rw [m61_L1, brn_dt (by omega), dayE]
    rw [grd_t (p := 0 ≤ (k : Int) ∧ (k : Int) < ((r.length : Nat) : Int)) ⟨by omega, by omega⟩, grd_t (p := 0 < List.length (List.drop (Int.toNat (k : Int)) (iL r))) (by rw [List.length_drop, iL_len, toNatN]; omega), gI_n h1]
    by_cases h2 : en r k < 0
    · rw [brn_dt h2, if_pos h2]; exact ⟨T, rfl, fun h => by cases h⟩
    · rw [brn_df h2, if_neg h2]
      by_cases h3 : (n : Int) ≤ en r k
      · rw [brn_dt (by omega), if_pos h3]; exact ⟨T, rfl, fun h => by cases h⟩
      · obtain ⟨s, hs⟩ : ∃ s : Nat, en r k = (s : Int) := ⟨(en r k).toNat, by omega⟩
        have s5 : s < 5 := by omega
        rw [brn_df (by omega), if_neg h3, hs, toNatN, toNatN, toNatN, grd_t (by omega), grd_t (by unfold tP; omega)]
        rw [show gp (tP n T) (26 + i) = .int .u64 (bn T.2.1 i : Int) from gp_b hT.tv.tb hi, getU_t, grd_t (by omega), b_tst _ (hT.tv.tb.b32 i hi) s s5]
        by_cases h4 : (s : Int) ∈ r.take k
        · rw [brn_t ((hT.b s s5).2 h4), if_pos h4]; exact ⟨T, rfl, fun h => by cases h⟩
        · rw [brn_f (by rw [Bool.eq_false_iff]; intro h; exact h4 ((hT.b s s5).1 h)), if_neg h4, grd_t (by omega), grd_t (by unfold tP; omega)]
          rw [show gp (tP n T) (31 + k) = .int .u64 (bn T.2.2 k : Int) from gp_d hT.tv.tb (by omega), getU_t, b_tst _ (hT.tv.tb.d32 k (by omega)) s s5]
          have hd : (bn T.2.2 k).testBit s = P.any (fun q => decide (k < q.length) && (en q k == (s : Int))) := by
            rw [Bool.eq_iff_iff, hT.d k s (by omega) s5, List.any_eq_true]
            constructor
            · rintro (⟨q, hq, h5, h6⟩ | h5)
              · exact ⟨q, hq, by simp [h5, h6]⟩
              · omega
            · rintro ⟨q, hq, h5⟩
              simp only [Bool.and_eq_true, decide_eq_true_eq, beq_iff_eq] at h5
              exact .inl ⟨q, hq, h5⟩
          rw [hd]
          cases h5 : P.any (fun q => decide (k < q.length) && (en q k == (s : Int))) with
          | true => rw [brn_t rfl, if_pos rfl]; exact ⟨T, rfl, fun h => by cases h⟩
          | false =>
            rw [brn_f rfl, if_neg (by simp)]
            obtain ⟨T', e1, e2⟩ := open_L1 N n hn w L P r i hi hr f (k + 1) fuel (putT T i k s) (by omega) (by omega) (by omega) (hT.put hi (by omega) h1 s5 hs)
            refine ⟨T', ?_, e2⟩
            rw [show m72 N (i : Int) (k : Int) (s : Int) (tP n T) = _ from put_ok N n hT.tv.tb hi (by omega) s5, bnd_t]
            show getT0 (.tup []) _ = _
            rw [getT0_t, wrapN (by omega)]
            exact e1
theorem open_L0 (N n : Nat) (hN : 2000 ≤ N) (hn : n ≤ 5) (w : Int) (L : List (List Int)) (hL : L.length ≤ n) (hr20 : ∀ r ∈ L, r.length ≤ 1000) : ∀ (f i fuel : Nat) (T : T3), L.length - i = f → f < fuel → i ≤ L.length → (∀ r', Rp (L.take i) i r' 0 T) →
    ∃ T', m61_L0 N (n : Int) w L.length (rwsP L) fuel (i : Int) (tP n T) = some (outR n (rowE n w L f i) T') ∧ (rowE n w L f i = 0 → ∀ r', Rp L L.length r' 0 T')
  | f, i, 0, _, _, h, _, _ => by omega
  | 0, i, fuel + 1, T, hf, _, hi, hT => by
    have : i = L.length := by omega
    subst this
    refine ⟨T, ?_, fun _ r' => by have := hT r'; rwa [List.take_length] at this⟩
    rw [m61_L0, brn_df (by omega)]; rfl
  | f + 1, i, fuel + 1, T, hf, hfu, hi, hT => by
    have h1 : i < L.length := by omega
    have hrl := hr20 _ (ro_mem h1)
    rw [m61_L0, brn_dt (by omega), rowE]
    simp (disch := (try simp only [List.length_drop, iL_len, rws_len, toNatN]) <;> omega) only [↓grd_t, ↓gL_n]
    by_cases h2 : ((ro L i).length : Int) = w
    · rw [brn_nf h2, if_neg (by simpa using h2)]
      by_cases h3 : (n : Int) < w
      · rw [brn_dt (by omega), if_pos h3]; exact ⟨T, rfl, fun h => by cases h⟩
      · rw [brn_df (by omega), if_neg h3]
        obtain ⟨T', e1, e2⟩ := open_L1 N n hn w L (L.take i) (ro L i) i (by omega) (by omega) (ro L i).length 0 N T (by omega) (by omega) (by omega) (hT _)
        rw [show m61_L1 N (n : Int) w L.length (rwsP L) (i : Int) (ro L i).length (iL (ro L i)) N 0 (tP n T) = _ from e1, bnd_t]
        by_cases h4 : dayE n (L.take i) (ro L i) (ro L i).length 0 = 0
        · rw [if_neg (by simpa using h4), wrapN (by omega)]
          unfold outR
          rw [if_pos h4]
          have h5 := (e2 h4).next (by rw [List.length_take]; omega) (by omega)
          rw [← take_ro h1] at h5
          exact open_L0 N n hN hn w L hL hr20 f (i + 1) fuel T' (by omega) (by omega) (by omega) h5
        · unfold outR
          simp only [if_neg h4, if_pos (show dayE (n : Int) (L.take i) (ro L i) (ro L i).length 0 ≠ 0 from h4)]
          exact ⟨T, by trivial, fun h => absurd h h4⟩
    · rw [brn_nt h2, if_pos h2]; exact ⟨T, rfl, fun h => by cases h⟩
def T0 : T3 := (List.replicate 25 (-1), List.replicate 5 0, List.replicate 5 0)
theorem T0_rp (r : List Int) : Rp [] 0 r 0 T0 := by
  have hb : ∀ j, j < 5 → bn (List.replicate 5 0) j = 0 := by decide
  have ha : ∀ j, j < 25 → en (List.replicate 25 (-1)) j = -1 := by decide
  refine ⟨⟨⟨rfl, rfl, rfl, fun i hi => by show bn (List.replicate 5 0) i < 32; rw [hb i hi]; omega, fun i hi => by show bn (List.replicate 5 0) i < 32; rw [hb i hi]; omega⟩, fun j hj => by show -1 ≤ en (List.replicate 25 (-1)) j; rw [ha j hj]; omega⟩, fun s hs => ?_, fun j _ h5 => hb j h5, fun d s hd hs => ?_, fun j d hj hd => ?_⟩
  · show (bn (List.replicate 5 0) 0).testBit s = true ↔ _
    rw [hb 0 (by omega)]; simp
  · show (bn (List.replicate 5 0) d).testBit s = true ↔ _
    rw [hb d hd]; simp
  · show en (List.replicate 25 (-1)) (j * 5 + d) = _
    rw [ha _ (by omega), if_neg (by omega), if_neg (by omega)]
def zA (i k : Nat) : List Int := List.replicate (i * 5 + k) (-1) ++ List.replicate (25 - (i * 5 + k)) 0
theorem zA_set {i k : Nat} (h : i * 5 + k < 25) : (zA i k).set (i * 5 + k) (-1) = zA i (k + 1) := by
  unfold zA
  rw [List.set_append_right _ _ (by simp), List.length_replicate, Nat.sub_self, show 25 - (i * 5 + k) = (25 - (i * 5 + (k + 1))) + 1 by omega, List.replicate_succ, List.set_cons_zero, show i * 5 + (k + 1) = i * 5 + k + 1 by omega, List.replicate_succ']
  simp
theorem beg_L1 (N n i : Nat) (hi : i < 5) : ∀ (f k fuel : Nat), 5 - k = f → f < fuel → k ≤ 5 →
    m71_L1 N (i : Int) fuel (k : Int) (tblP n (zA i k) (List.replicate 5 0) (List.replicate 5 0)) = some (tblP n (zA i 5) (List.replicate 5 0) (List.replicate 5 0))
  | f, k, 0, _, h, _ => by omega
  | 0, k, fuel + 1, hf, _, hk => by
    have : k = 5 := by omega
    subst this
    rw [m71_L1, brn_df (by omega)]
  | f + 1, k, fuel + 1, hf, hfu, hk => by
    have hb : ∀ j, j < 5 → bn (List.replicate 5 0) j = 0 := by decide
    have tb : Tb (zA i k) (List.replicate 5 0) (List.replicate 5 0) := ⟨by simp [zA]; omega, rfl, rfl, fun i hi => by rw [hb i hi]; omega, fun i hi => by rw [hb i hi]; omega⟩
    have hl := tbl_len (n := n) tb
    rw [m71_L1, brn_dt (by omega), grd_t ⟨by omega, by omega⟩, grd_t ⟨by omega, by omega⟩, toNatN, toNatN, grd_t (by omega), wrapN (by omega), show 1 + i * 5 + k = 1 + (i * 5 + k) by omega, set_a tb (by omega), zA_set (by omega)]
    exact beg_L1 N n i hi f (k + 1) fuel (by omega) (by omega) (by omega)
theorem beg_L0 (N n : Nat) (hN : 2000 ≤ N) : ∀ (f i fuel : Nat), 5 - i = f → f < fuel → i ≤ 5 →
    m71_L0 N fuel (i : Int) (tblP n (zA i 0) (List.replicate 5 0) (List.replicate 5 0)) = some (tP n T0)
  | f, i, 0, _, h, _ => by omega
  | 0, i, fuel + 1, hf, _, hi => by
    have : i = 5 := by omega
    subst this
    rw [m71_L0, brn_df (by omega)]; rfl
  | f + 1, i, fuel + 1, hf, hfu, hi => by
    rw [m71_L0, brn_dt (by omega), show m71_L1 N (i : Int) N 0 (tblP n (zA i 0) (List.replicate 5 0) (List.replicate 5 0)) = _ from beg_L1 N n i (by omega) 5 0 N (by omega) (by omega) (by omega), bnd_t, wrapN (by omega)]
    have e : zA i 5 = zA (i + 1) 0 := by
      unfold zA
      rw [show i * 5 + 5 = (i + 1) * 5 + 0 by omega]
    rw [e]
    exact beg_L0 N n hN f (i + 1) fuel (by omega) (by omega) (by omega)
theorem begun_ok (N n : Nat) (hN : 2000 ≤ N) : m71 N (n : Int) = some (tP n T0) := by
  have := beg_L0 N n hN 5 0 N (by omega) (by omega) (by omega)
  rw [m71]
  show bnd' (m71_L0 N N ((0 : Nat) : Int) (tblP n (zA 0 0) (List.replicate 5 0) (List.replicate 5 0))) _ = _
  rw [this, bnd_t]
def opE (n : Nat) (e : Int) (T : T3) : Int ⊕ (Int × List PV) := if e = 0 then .inr (0, tP n T) else .inl e
theorem opened_ok (N : Nat) (hN : 2000 ≤ N) (x w : Int) (L : List (List Int)) (hL : L.length ≤ 1000) (hr : ∀ r ∈ L, r.length ≤ 1000) :
    ∃ T, m61 N x (.lst false L.length (rwsP L)) w = some (opE x.toNat (chkE x w L) T) ∧ (chkE x w L = 0 → ∀ r', Rp L L.length r' 0 T) := by
  rw [m61, getL_t]
  unfold chkE
  by_cases h1 : x < 1
  · rw [brn_dt h1, if_pos h1]; exact ⟨T0, rfl, fun h => by cases h⟩
  · rw [brn_df h1, if_neg h1]
    by_cases h2 : 5 < x
    · rw [brn_dt (by omega), if_pos h2]; exact ⟨T0, rfl, fun h => by cases h⟩
    · rw [brn_df (by omega), if_neg h2]
      by_cases h3 : x < (L.length : Int)
      · rw [brn_dt (by omega), if_pos h3]; exact ⟨T0, rfl, fun h => by cases h⟩
      · obtain ⟨n, rfl⟩ : ∃ n : Nat, x = (n : Int) := ⟨x.toNat, by omega⟩
        rw [brn_df (by omega), if_neg h3, begun_ok N n hN, bnd_t]
        obtain ⟨T, e1, e2⟩ := open_L0 N n hN (by omega) w L (by omega) hr L.length 0 N T0 (by omega) (by omega) (by omega) (fun r' => by rw [List.take_zero]; exact T0_rp r')
        refine ⟨T, ?_, e2⟩
        show bnd' (m61_L0 N (n : Int) w L.length (rwsP L) N 0 (tP n T0)) _ = _
        rw [show m61_L0 N (n : Int) w L.length (rwsP L) N 0 (tP n T0) = _ from e1, bnd_t, toNatN]
        unfold outR opE
        by_cases h4 : rowE (n : Int) w L L.length 0 = 0
        · simp only [if_pos h4]
        · simp only [if_neg h4]
def metB (P : List (List Int)) (k : Nat) (s : Int) : Bool := P.any fun q => decide (k < q.length) && (en q k == s)
def ext (n : Nat) : Nat → List Nat → List (List Nat)
  | 0, l => [l]
  | f + 1, l => (List.range n).flatMap fun s => if s ∈ l then [] else ext n f (l ++ [s])
def nL (l : List Nat) : List Int := l.map fun (s : Nat) => (s : Int)
def gn (l : List Nat) (d : Nat) : Nat := l.getD d 0
def fitB (P : List (List Int)) (l : List Nat) : Nat → Nat → Bool
  | 0, _ => true
  | f + 1, d => !metB P d (gn l d : Nat) && fitB P l f (d + 1)
def fitn (n : Nat) (P : List (List Int)) : List (List Nat) := (ext n n []).filter fun l => fitB P l n 0
theorem nL_len (l : List Nat) : (nL l).length = l.length := by simp [nL]
theorem nL_en {l : List Nat} {d : Nat} (h : d < l.length) : en (nL l) d = (gn l d : Int) := by
  simp [nL, en, gn, List.getD, h]
theorem gn_app1 {l m : List Nat} {d : Nat} (h : d < l.length) : gn (l ++ m) d = gn l d := by
  simp [gn, List.getD, List.getElem?_append_left h]
theorem gn_app2 {l : List Nat} {s : Nat} : gn (l ++ [s]) l.length = s := by simp [gn, List.getD]
theorem ext_get {n : Nat} : ∀ {f : Nat} {l x : List Nat}, x ∈ ext n f l → x.length = l.length + f ∧ (∀ d, d < l.length → gn x d = gn l d)
  | 0, l, x, h => by
    obtain rfl := List.mem_singleton.1 h
    exact ⟨rfl, fun _ _ => rfl⟩
  | f + 1, l, x, h => by
    rw [ext, List.mem_flatMap] at h
    obtain ⟨s, hs, h⟩ := h
    by_cases g : s ∈ l
    · rw [if_pos g] at h; cases h
    · rw [if_neg g] at h
      obtain ⟨h1, h2⟩ := ext_get h
      rw [List.length_append, List.length_singleton] at h1 h2
      exact ⟨by omega, fun d hd => by rw [h2 d (by omega), gn_app1 hd]⟩
theorem ext_lt {n : Nat} : ∀ {f : Nat} {l x : List Nat}, (∀ s ∈ l, s < n) → x ∈ ext n f l → ∀ s ∈ x, s < n
  | 0, l, x, hl, h => by
    obtain rfl := List.mem_singleton.1 h
    exact hl
  | f + 1, l, x, hl, h => by
    rw [ext, List.mem_flatMap] at h
    obtain ⟨s, hs, h⟩ := h
    by_cases g : s ∈ l
    · rw [if_pos g] at h; cases h
    · rw [if_neg g] at h
      refine ext_lt (fun t ht => ?_) h
      rcases List.mem_append.1 ht with ht | ht
      · exact hl t ht
      · obtain rfl := List.mem_singleton.1 ht
        exact List.mem_range.1 hs
theorem flen_le {α β : Type} {b : Nat} {g : α → List β} : ∀ (L : List α), (∀ x ∈ L, (g x).length ≤ b) → (L.flatMap g).length ≤ L.length * b
  | [], _ => by simp
  | x :: L, h => by
    have h1 := h x (.head _)
    have ih := flen_le L fun y hy => h y (.tail _ hy)
    rw [List.flatMap_cons, List.length_append, List.length_cons, Nat.add_mul, Nat.one_mul]; omega
theorem ext_card {n : Nat} : ∀ (f : Nat) (l : List Nat), (ext n f l).length ≤ n ^ f
  | 0, l => by simp [ext]
  | f + 1, l => by
    have := flen_le (b := n ^ f) (g := fun s => if s ∈ l then [] else ext n f (l ++ [s])) (List.range n) (fun s _ => by
      by_cases g : s ∈ l
      · simp only [if_pos g]; simp
      · simp only [if_neg g]; exact ext_card f _)
    rw [List.length_range] at this
    rw [ext, Nat.pow_succ, Nat.mul_comm]; exact this
theorem pow5 {n f : Nat} (hn : n ≤ 5) (hf : f ≤ 5) : n ^ f ≤ 3125 := by
  have h : ∀ n : Nat, n < 6 → ∀ f : Nat, f < 6 → n ^ f ≤ 3125 := by decide
  exact h n (by omega) f (by omega)
theorem filter_fm {α β : Type} {p : β → Bool} {g : α → List β} : ∀ L : List α, (L.flatMap g).filter p = L.flatMap fun s => (g s).filter p
  | [] => rfl
  | x :: L => by rw [List.flatMap_cons, List.flatMap_cons, List.filter_append, filter_fm L]
theorem fm_congr {α β : Type} {g h : α → List β} : ∀ {L : List α}, (∀ x ∈ L, g x = h x) → L.flatMap g = L.flatMap h
  | [], _ => rfl
  | x :: L, hh => by rw [List.flatMap_cons, List.flatMap_cons, hh x (.head _), fm_congr fun y hy => hh y (.tail _ hy)]
theorem filter_congr' {α : Type} {p q : α → Bool} : ∀ {L : List α}, (∀ x ∈ L, p x = q x) → L.filter p = L.filter q
  | [], _ => rfl
  | x :: L, h => by rw [List.filter_cons, List.filter_cons, h x (.head _), filter_congr' fun y hy => h y (.tail _ hy)]
theorem Rp.congr {P : List (List Int)} {i k : Nat} {r r' : List Int} {T : T3} (h : Rp P i r k T) (h1 : r.take k = r'.take k) (h2 : ∀ d, d < k → en r d = en r' d) : Rp P i r' k T := by
  refine ⟨h.tv, fun s hs => by rw [← h1]; exact h.b s hs, h.bz, fun d s hd hs => ?_, fun j d hj hd => ?_⟩
  · rw [h.d d s hd hs]
    constructor
    · rintro (h3 | h3)
      · exact .inl h3
      · exact .inr ⟨h3.1, by rw [← h2 d h3.1]; exact h3.2⟩
    · rintro (h3 | h3)
      · exact .inl h3
      · exact .inr ⟨h3.1, by rw [h2 d h3.1]; exact h3.2⟩
  · rw [h.a j d hj hd]
    by_cases h3 : j < i
    · rw [if_pos h3, if_pos h3]
    · rw [if_neg h3, if_neg h3]
      by_cases h4 : j = i ∧ d < k
      · rw [if_pos h4, if_pos h4, h2 d h4.2]
      · rw [if_neg h4, if_neg h4]
end Go.Proofs.YtcaecfofgdogbaaDoor
namespace Go.Proofs.YtcaecfofgdogbaaDoor
open Go.V
set_option linter.unusedSectionVars false
set_option maxRecDepth 100000
def pc (x : Nat) : Nat := (bits x).length
def subs : Nat → Nat → List Nat
  | 1, 0 => [0]
  | 1, 1 => [1]
  | 2, 0 => [0]
  | 2, 1 => [1, 2]
  | 2, 2 => [3]
  | 3, 0 => [0]
  | 3, 1 => [1, 2, 4]
  | 3, 2 => [3, 5, 6]
  | 3, 3 => [7]
  | 4, 0 => [0]
  | 4, 1 => [1, 2, 4, 8]
  | 4, 2 => [3, 5, 6, 9, 10, 12]
  | 4, 3 => [7, 11, 13, 14]
  | 4, 4 => [15]
  | 5, 0 => [0]
  | 5, 1 => [1, 2, 4, 8, 16]
  | 5, 2 => [3, 5, 6, 9, 10, 12, 17, 18, 20, 24]
  | 5, 3 => [7, 11, 13, 14, 19, 21, 22, 25, 26, 28]
  | 5, 4 => [15, 23, 27, 29, 30]
  | 5, 5 => [31]
  | _, _ => []
def prm (n : Nat) : List Nat → Nat → Nat
  | [], _ => 1
  | M :: D, u => ((List.range n).map fun s => bif (M ||| u).testBit s then 0 else prm n D (u ||| 2 ^ s)).sum
def fac : Nat → Nat
  | 0 => 1
  | n + 1 => (n + 1) * fac n
def okC (M : Nat) : Nat → List Nat → Bool
  | _, [] => true
  | s, c :: l => (bif M.testBit s then !(c == 0) else true) && okC M (s + 1) l
def sbC (M : Nat) : Nat → List Nat → List Nat
  | _, [] => []
  | s, c :: l => (bif M.testBit s then c - 1 else c) :: sbC M (s + 1) l
def hallB (n k : Nat) : Nat → List Nat → List Nat → Bool
  | 0, cols, D => !(cols.all (· == 0)) || Nat.ble (fac (n - k)) (prm n D 0)
  | d + 1, cols, D => (subs n k).all fun M => !(okC M 0 cols) || hallB n k d (sbC M 0 cols) (D ++ [M])
theorem hall1_0 : hallB 1 0 1 (List.replicate 1 0) [] = true := by decide +kernel
theorem hall2_0 : hallB 2 0 2 (List.replicate 2 0) [] = true := by decide +kernel
theorem hall2_1 : hallB 2 1 2 (List.replicate 2 1) [] = true := by decide +kernel
theorem hall3_0 : hallB 3 0 3 (List.replicate 3 0) [] = true := by decide +kernel
theorem hall3_1 : hallB 3 1 3 (List.replicate 3 1) [] = true := by decide +kernel
theorem hall3_2 : hallB 3 2 3 (List.replicate 3 2) [] = true := by decide +kernel
theorem hall4_0 : hallB 4 0 4 (List.replicate 4 0) [] = true := by decide +kernel
theorem hall4_1 : hallB 4 1 4 (List.replicate 4 1) [] = true := by decide +kernel
theorem hall4_2 : hallB 4 2 4 (List.replicate 4 2) [] = true := by decide +kernel
theorem hall4_3 : hallB 4 3 4 (List.replicate 4 3) [] = true := by decide +kernel
theorem hall5_0 : hallB 5 0 5 (List.replicate 5 0) [] = true := by decide +kernel
theorem hall5_1 : hallB 5 1 5 (List.replicate 5 1) [] = true := by decide +kernel
theorem hall5_2 : hallB 5 2 5 (List.replicate 5 2) [] = true := by decide +kernel
theorem hall5_3 : hallB 5 3 5 (List.replicate 5 3) [] = true := by decide +kernel
theorem hall5_4 : hallB 5 4 5 (List.replicate 5 4) [] = true := by decide +kernel
end Go.Proofs.YtcaecfofgdogbaaDoor
namespace Go.Proofs.YtcaecfofgdogbaaDoor
open Go.V
set_option linter.unusedSectionVars false
def cc (D : List Nat) (s : Nat) : Nat := (D.filter fun M => M.testBit s).length
theorem cc_cons (M : Nat) (D : List Nat) (s : Nat) : cc (M :: D) s = (if M.testBit s then 1 else 0) + cc D s := by
  unfold cc
  rw [List.filter_cons]
  split <;> simp <;> omega
theorem okC_ok (M : Nat) : ∀ (l : List Nat) (s0 : Nat), (∀ j, j < l.length → M.testBit (s0 + j) = true → gn l j ≠ 0) → okC M s0 l = true
  | [], _, _ => rfl
  | c :: l, s0, h => by
    have h0 := h 0 (by simp)
    have ih := okC_ok M l (s0 + 1) fun j hj ht => by
      have := h (j + 1) (by simpa using hj) (by rw [show s0 + (j + 1) = s0 + 1 + j by omega]; exact ht)
      simpa [gn] using this
    rw [okC, ih, Bool.and_true]
    cases hb : M.testBit s0 with
    | false => rfl
    | true =>
      have := h0 (by simpa using hb)
      simp [gn] at this
      simp [this]
theorem sbC_len (M : Nat) : ∀ (l : List Nat) (s0 : Nat), (sbC M s0 l).length = l.length
  | [], _ => rfl
  | c :: l, s0 => by rw [sbC, List.length_cons, sbC_len M l, List.length_cons]
theorem sbC_get (M : Nat) : ∀ (l : List Nat) (s0 j : Nat), j < l.length → gn (sbC M s0 l) j = if M.testBit (s0 + j) then gn l j - 1 else gn l j
  | [], _, j, h => by simp at h
  | c :: l, s0, 0, _ => by
    rw [sbC]
    show (bif M.testBit s0 then c - 1 else c) = if M.testBit s0 = true then c - 1 else c
    cases M.testBit s0 <;> rfl
  | c :: l, s0, j + 1, h => by
    have ih := sbC_get M l (s0 + 1) j (by simpa using h)
    rw [sbC, show s0 + (j + 1) = s0 + 1 + j by omega]
    simpa [gn] using ih
theorem hall_sound (n k : Nat) : ∀ (d : Nat) (cols acc rest : List Nat), rest.length = d → (∀ M ∈ rest, M ∈ subs n k) → (∀ s, s < cols.length → gn cols s = cc rest s) → hallB n k d cols acc = true → fac (n - k) ≤ prm n (acc ++ rest) 0
  | 0, cols, acc, rest, hr, _, hc, hh => by
    have : rest = [] := List.eq_nil_of_length_eq_zero hr
    subst this
    rw [hallB] at hh
    have hz : cols.all (· == 0) = true := by
      rw [List.all_eq_true]
      intro c hcm
      obtain ⟨j, hj, rfl⟩ := List.getElem_of_mem hcm
      have := hc j hj
      simp [gn, cc, List.getD, hj] at this
      simp [this]
    rw [hz, Bool.not_true, Bool.false_or, Nat.ble_eq] at hh
    simpa using hh
  | d + 1, cols, acc, [], hr, _, _, _ => by simp at hr
  | d + 1, cols, acc, M :: rest, hr, hs, hc, hh => by
    rw [hallB, List.all_eq_true] at hh
    have h1 := hh M (hs M (.head _))
    have h2 : okC M 0 cols = true := okC_ok M cols 0 fun j hj ht => by
      rw [Nat.zero_add] at ht
      rw [hc j hj, cc_cons, if_pos ht]; omega
    rw [h2, Bool.not_true, Bool.false_or] at h1
    have := hall_sound n k d (sbC M 0 cols) (acc ++ [M]) rest (by simpa using hr) (fun M' h => hs M' (.tail _ h)) (fun s h => by
      rw [sbC_len] at h
      rw [sbC_get M cols 0 s h, Nat.zero_add, hc s h, cc_cons]
      split <;> omega) h1
    rwa [List.append_assoc, List.singleton_append] at this
theorem hall_all {n k : Nat} (hn : n ≤ 5) (hk : k < n) : hallB n k n (List.replicate n k) [] = true := by
  rcases (show n = 1 ∨ n = 2 ∨ n = 3 ∨ n = 4 ∨ n = 5 by omega) with rfl | rfl | rfl | rfl | rfl
  · obtain rfl : k = 0 := by omega
    exact hall1_0
  · rcases (show k = 0 ∨ k = 1 by omega) with rfl | rfl
    · exact hall2_0
    · exact hall2_1
  · rcases (show k = 0 ∨ k = 1 ∨ k = 2 by omega) with rfl | rfl | rfl
    · exact hall3_0
    · exact hall3_1
    · exact hall3_2
  · rcases (show k = 0 ∨ k = 1 ∨ k = 2 ∨ k = 3 by omega) with rfl | rfl | rfl | rfl
    · exact hall4_0
    · exact hall4_1
    · exact hall4_2
    · exact hall4_3
  · rcases (show k = 0 ∨ k = 1 ∨ k = 2 ∨ k = 3 ∨ k = 4 by omega) with rfl | rfl | rfl | rfl | rfl
    · exact hall5_0
    · exact hall5_1
    · exact hall5_2
    · exact hall5_3
    · exact hall5_4
def stp (D x : List Nat) : List Nat := List.zipWith (fun M s => M ||| 2 ^ s) D x
inductive Vp (n : Nat) : List (List Nat) → List Nat → Prop
  | nil : Vp n [] (List.replicate n 0)
  | snoc (X : List (List Nat)) (D x : List Nat) (h : Vp n X D) (hx : x ∈ ext n n []) (hf : fitB (X.map nL) x n 0 = true) : Vp n (X ++ [x]) (stp D x)
theorem pc_or : ∀ M : Nat, M < 32 → ∀ s : Nat, s < 5 → M.testBit s = false → pc (M ||| 2 ^ s) = pc M + 1 := by decide +kernel
theorem or_ltn : ∀ n : Nat, n < 6 → ∀ M : Nat, M < 2 ^ n → ∀ s : Nat, s < n → M ||| 2 ^ s < 2 ^ n := by decide +kernel
theorem subs_mem : ∀ n : Nat, n < 6 → 1 ≤ n → ∀ M : Nat, M < 2 ^ n → M ∈ subs n (pc M) := by decide +kernel
theorem pow_lt : ∀ n : Nat, n < 6 → 2 ^ n ≤ 32 := by decide
theorem ext_cnt : ∀ n : Nat, n < 6 → ∀ x ∈ ext n n [], ∀ s : Nat, s < n → x.count s = 1 := by decide +kernel
theorem gn_stp {D x : List Nat} {d : Nat} (h1 : d < D.length) (h2 : d < x.length) : gn (stp D x) d = gn D d ||| 2 ^ gn x d := by
  simp [gn, stp, List.getD, List.getElem?_zipWith, h1, h2]
theorem cc_stp (s : Nat) (hs : s < 5) : ∀ (D x : List Nat), D.length = x.length → (∀ d, d < D.length → gn D d < 32 ∧ gn x d < 5 ∧ (gn D d).testBit (gn x d) = false) → cc (stp D x) s = cc D s + x.count s
  | [], [], _, _ => rfl
  | [], _ :: _, h, _ => by simp at h
  | _ :: _, [], h, _ => by simp at h
  | M :: D, t :: x, h, hd => by
    have h0 := hd 0 (by simp)
    simp only [gn, List.getD_cons_zero] at h0
    have ih := cc_stp s hs D x (by simpa using h) fun d hd' => by
      have := hd (d + 1) (by simpa using hd')
      simpa [gn] using this
    show cc ((M ||| 2 ^ t) :: stp D x) s = _
    rw [cc_cons, cc_cons, ih, tst_or M h0.1 t h0.2.1 s hs, List.count_cons]
    by_cases e : s = t
    · subst e
      rw [h0.2.2]
      simp; omega
    · have : (t == s) = false := by simpa using fun h => e h.symm
      rw [this, decide_eq_false e]
      simp; omega
theorem metB_app (P : List (List Int)) (r : List Int) (d : Nat) (s : Int) : metB (P ++ [r]) d s = (metB P d s || (decide (d < r.length) && (en r d == s))) := by
  simp [metB, List.any_append]
theorem fitB_get {P : List (List Int)} {x : List Nat} : ∀ {f d : Nat}, fitB P x f d = true → ∀ j, d ≤ j → j < d + f → metB P j (gn x j : Nat) = false
  | 0, d, _, j, h1, h2 => by omega
  | f + 1, d, h, j, h1, h2 => by
    rw [fitB, Bool.and_eq_true, Bool.not_eq_true'] at h
    by_cases e : j = d
    · subst e; exact h.1
    · exact fitB_get h.2 j (by omega) (by omega)
structure Vd (n : Nat) (X : List (List Nat)) (D : List Nat) : Prop where
  len : D.length = n
  lt : ∀ d, d < n → gn D d < 2 ^ n
  pc : ∀ d, d < n → pc (gn D d) = X.length
  cc : ∀ s, s < n → cc D s = X.length
  met : ∀ d s, d < n → s < 5 → (gn D d).testBit s = metB (X.map nL) d (s : Nat)
theorem gn_mem {l : List Nat} {d : Nat} (h : d < l.length) : gn l d ∈ l := by simp [gn, List.getD, h]
theorem Vp.vd {n : Nat} (hn : n ≤ 5) {X : List (List Nat)} {D : List Nat} (h : Vp n X D) : Vd n X D := by
  induction h with
  | nil =>
    have hz : ∀ d, gn (List.replicate n 0) d = 0 := fun d => by simp [gn, List.getD, List.getElem?_replicate]; split <;> rfl
    refine ⟨by simp, fun d _ => by rw [hz]; exact Nat.two_pow_pos n, fun d _ => by rw [hz]; decide, fun s _ => ?_, fun d s _ _ => by rw [hz]; simp [metB]⟩
    simp [Go.Proofs.YtcaecfofgdogbaaDoor.cc]
  | snoc X D x h hx hf ih =>
    obtain ⟨e1, _⟩ := ext_get hx
    have hxl : x.length = n := by simpa using e1
    have hlt := ext_lt (n := n) (by simp) hx
    have h2 := pow_lt n (by omega)
    have hnot : ∀ d, d < n → (gn D d).testBit (gn x d) = false := fun d hd => by
      have := hlt _ (gn_mem (l := x) (d := d) (by omega))
      rw [ih.met d _ hd (by omega)]
      exact fitB_get hf d (by omega) (by omega)
    have hg : ∀ d, d < n → gn (stp D x) d = gn D d ||| 2 ^ gn x d := fun d hd => gn_stp (by rw [ih.len]; exact hd) (by omega)
    have hx5 : ∀ d, d < n → gn x d < n := fun d hd => hlt _ (gn_mem (by omega))
    refine ⟨by simp [stp, ih.len, hxl], fun d hd => ?_, fun d hd => ?_, fun s hs => ?_, fun d s hd hs => ?_⟩
    · rw [hg d hd]; exact or_ltn n (by omega) _ (ih.lt d hd) _ (hx5 d hd)
    · have := ih.lt d hd
      have := hx5 d hd
      rw [hg d hd, pc_or _ (by omega) _ (by omega) (hnot d hd), ih.pc d hd]; simp
    · rw [cc_stp s (by omega) D x (by rw [ih.len, hxl]) fun d hd => by
        rw [ih.len] at hd
        have := ih.lt d hd
        have := hx5 d hd
        exact ⟨by omega, by omega, hnot d hd⟩, ih.cc s hs, ext_cnt n (by omega) x hx s hs]
      simp
    · have := ih.lt d hd
      have hx' := hx5 d hd
      rw [hg d hd, tst_or _ (by omega) _ (by omega) s hs, ih.met d s hd hs, List.map_append, List.map_singleton, metB_app, nL_len, decide_eq_true (show d < x.length by omega), Bool.true_and, nL_en (by omega)]
      congr 1
      rw [Bool.eq_iff_iff, decide_eq_true_eq, beq_iff_eq]
      constructor
      · intro h; omega
      · intro h; omega
theorem sum_len {α β : Type} {g : α → List β} : ∀ L : List α, (L.flatMap g).length = (L.map fun x => (g x).length).sum
  | [] => rfl
  | x :: L => by rw [List.flatMap_cons, List.length_append, List.map_cons, List.sum_cons, sum_len L]
theorem prm_ok (n : Nat) (hn : n ≤ 5) (X : List (List Nat)) (D : List Nat) (hD : Vd n X D) : ∀ (f : Nat) (l : List Nat) (u : Nat), l.length + f = n → u < 32 → (∀ s ∈ l, s < n) → (∀ s, s < 5 → u.testBit s = decide (s ∈ l)) →
    ((ext n f l).filter fun x => fitB (X.map nL) x f l.length).length = prm n (D.drop l.length) u
  | 0, l, u, hl, _, _, _ => by
    rw [List.drop_eq_nil_of_le (by rw [hD.len]; omega)]
    simp [ext, fitB, prm]
  | f + 1, l, u, hl, hu, hs, hb => by
    have hd : l.length < n := by omega
    have ed : D.drop l.length = gn D l.length :: D.drop (l.length + 1) := by
      rw [List.drop_eq_getElem_cons (by rw [hD.len]; exact hd)]
      simp [gn, List.getD, hD.len, hd]
    have h2 := pow_lt n (by omega)
    have hM := hD.lt l.length hd
    rw [ext, filter_fm, sum_len, ed, prm]
    congr 1
    refine List.map_congr_left fun s hs' => ?_
    have hsn := List.mem_range.1 hs'
    rw [Nat.testBit_or, hb s (by omega), hD.met l.length s hd (by omega)]
    by_cases g : s ∈ l
    · rw [if_pos g, decide_eq_true g, Bool.or_true]; rfl
    · rw [if_neg g, decide_eq_false g, Bool.or_false]
      have hx : ∀ x ∈ ext n f (l ++ [s]), gn x l.length = s := fun x hx => by
        rw [(ext_get hx).2 l.length (by simp), gn_app2]
      have hq : (ext n f (l ++ [s])).filter (fun x => fitB (X.map nL) x (f + 1) l.length) = (ext n f (l ++ [s])).filter (fun x => !metB (X.map nL) l.length (s : Nat) && fitB (X.map nL) x f (l.length + 1)) := filter_congr' fun x h => by
        show (!metB (X.map nL) l.length (gn x l.length : Nat) && _) = _
        rw [hx x h]
      rw [hq]
      cases metB (X.map nL) l.length (s : Nat) with
      | true => simp
      | false =>
        have hl1 : (l ++ [s]).length = l.length + 1 := by simp
        have ih := prm_ok n hn X D hD f (l ++ [s]) (u ||| 2 ^ s) (by omega) (or_lt u hu s (by omega)) (fun t ht => by
          rcases List.mem_append.1 ht with ht | ht
          · exact hs t ht
          · obtain rfl := List.mem_singleton.1 ht
            exact hsn) (fun t ht => by
          rw [tst_or u hu s (by omega) t ht, hb t ht, Bool.eq_iff_iff]
          simp)
        rw [hl1] at ih
        simpa using ih
theorem fit_many {n : Nat} (hn : n ≤ 5) {X : List (List Nat)} {D : List Nat} (h : Vp n X D) (hk : X.length < n) : fac (n - X.length) ≤ (fitn n (X.map nL)).length := by
  have hD := h.vd hn
  have e := prm_ok n hn X D hD n [] 0 (by simp) (by omega) (by simp) (fun s _ => by simp)
  rw [show (fitn n (X.map nL)).length = _ from e, List.length_nil, List.drop_zero]
  have := hall_sound n X.length n (List.replicate n X.length) [] D hD.len (fun M hM => by
    obtain ⟨d, hd, rfl⟩ := List.getElem_of_mem hM
    rw [hD.len] at hd
    have e2 : D[d]'(by rw [hD.len]; exact hd) = gn D d := by simp [gn, List.getD, hD.len, hd]
    rw [e2, ← hD.pc d hd]
    exact subs_mem n (by omega) (by omega) _ (hD.lt d hd)) (fun s hs => by
    rw [List.length_replicate] at hs
    rw [hD.cc s hs]
    simp [gn, List.getD, hs]) (hall_all hn hk)
  simpa using this
theorem fitn_le {n : Nat} (hn : n ≤ 5) (L : List (List Int)) : (fitn n L).length ≤ 3125 := by
  have h1 := ext_card (n := n) n []
  have h2 := pow5 (f := n) hn hn
  have h3 := List.length_filter_le (fun l => fitB L l n 0) (ext n n [])
  unfold fitn; omega
def fl (n : Nat) (P : List (List Int)) (f : Nat) (l : List Nat) : List (List Nat) := (ext n f l).filter fun x => fitB P x f l.length
def fitG (n : Nat) (P : List (List Int)) (f : Nat) (l : List Nat) (s : Nat) : List (List Nat) := if (decide (s ∈ l) || metB P l.length (s : Nat)) = true then [] else fl n P f (l ++ [s])
theorem fl_step (n : Nat) (P : List (List Int)) (f : Nat) (l : List Nat) : fl n P (f + 1) l = (List.range n).flatMap (fitG n P f l) := by
  unfold fl
  rw [ext, filter_fm]
  refine fm_congr fun s _ => ?_
  unfold fitG fl
  by_cases g : s ∈ l
  · rw [if_pos g, decide_eq_true g, Bool.true_or, if_pos rfl]; rfl
  · rw [if_neg g, decide_eq_false g, Bool.false_or]
    have hx : ∀ x ∈ ext n f (l ++ [s]), gn x l.length = s := fun x hx => by
      rw [(ext_get hx).2 l.length (by simp), gn_app2]
    have hq : (ext n f (l ++ [s])).filter (fun x => fitB P x (f + 1) l.length) = (ext n f (l ++ [s])).filter (fun x => !metB P l.length (s : Nat) && fitB P x f (l.length + 1)) := filter_congr' fun x h => by
      show (!metB P l.length (gn x l.length : Nat) && _) = _
      rw [hx x h]
    rw [hq]
    cases metB P l.length (s : Nat) with
    | true => simp
    | false => simp
theorem idx_L (N : Nat) (s : Int) (X : List Int) (hX : X.length ≤ 1000) : ∀ (f i fuel : Nat), X.length - i = f → f < fuel → ∃ o, m86_L0 N s X.length (iL X) fuel (i : Int) = some o ∧ (s ∈ X.drop i → ∃ j : Nat, o = .inl (.int .i64 (j : Int))) ∧ (s ∉ X.drop i → o = .inr ())
  | f, i, 0, _, h => by omega
  | f, i, fuel + 1, hf, hfu => by
    rw [m86_L0]
    by_cases h : i < X.length
    · obtain ⟨o, o1, o2, o3⟩ := idx_L N s X hX (f - 1) (i + 1) fuel (by omega) (by omega)
      rw [brn_dt (by omega), grd_t ⟨by omega, by omega⟩, toNatN, grd_t (by rw [List.length_drop, iL_len]; omega), iL_gp h, getI_t, drop_en h]
      by_cases e : s = en X i
      · rw [brn_et e]
        exact ⟨_, rfl, fun _ => ⟨i, rfl⟩, fun g => absurd (by rw [← e]; exact .head _) g⟩
      · rw [brn_ef e, wrapN (by omega)]
        refine ⟨o, o1, fun g => o2 ?_, fun g => o3 fun g2 => g (.tail _ g2)⟩
        rcases List.mem_cons.1 g with g | g
        · exact absurd g e
        · exact g
    · rw [brn_df (by omega), List.drop_eq_nil_of_le (by omega)]
      exact ⟨_, rfl, fun g => absurd g (by simp), fun _ => rfl⟩
theorem cont_ok (N : Nat) (hN : 2000 ≤ N) (s : Int) (X : List Int) (hX : X.length ≤ 1000) : m57 N (rwP X) s = some (.bool (decide (s ∈ X))) := by
  obtain ⟨o, o1, o2, o3⟩ := idx_L N s X hX X.length 0 N (by omega) (by omega)
  rw [List.drop_zero] at o2 o3
  unfold rwP
  rw [m57, getL_t, m86, getL_t, show m86_L0 N s X.length (iL X) N 0 = _ from o1, bnd_t]
  by_cases h : s ∈ X
  · obtain ⟨j, rfl⟩ := o2 h
    show bnd' (some (PV.int .i64 (j : Int))) _ = _
    rw [bnd_t, getI_t, decide_eq_true h, decide_eq_true (show (j : Int) ≥ 0 by omega)]
  · rw [o3 h, decide_eq_false h]; rfl
theorem nL_mem {s : Nat} {l : List Nat} : decide ((s : Int) ∈ nL l) = decide (s ∈ l) := by
  refine decide_eq_decide.2 ?_
  unfold nL
  rw [List.mem_map]
  constructor
  · rintro ⟨t, ht, e⟩
    have : t = s := by omega
    exact this ▸ ht
  · exact fun h => ⟨s, h, rfl⟩
theorem clash9_L1 (N n : Nat) (hn : n ≤ 5) (P : List (List Int)) (hP : P.length ≤ 1000) (hPn : ∀ q ∈ P, q.length = n) (rec : PV → List PV → Nat → List PV → Nat → List PV → Option (List PV × Nat × Nat × List PV × List PV)) (k : Nat) (hk : k < n) (cl : List PV) (s : Int) (cc oc pc : List PV) (on : Nat) : ∀ (f i fuel : Nat) (b : Bool), P.length - i = f → f < fuel → i ≤ P.length →
    m79_9_L1 N rec k cl (n : Int) s cc on P.length (rwsP P) oc fuel b (i : Int) = some (b || metB (P.drop i) k s)
  | f, i, 0, _, _, h, _ => by omega
  | 0, i, fuel + 1, b, hf, _, hi => by
    rw [m79_9_L1, brn_df (by omega), List.drop_eq_nil_of_le (by omega)]; simp [metB]
  | f + 1, i, fuel + 1, b, hf, hfu, hi => by
    have h1 : i < P.length := by omega
    have hq := hPn _ (ro_mem h1)
    have ih := fun b => clash9_L1 N n hn P hP hPn rec k hk cl s cc oc pc on f (i + 1) fuel b (by omega) (by omega) (by omega)
    have em : metB (P.drop i) k s = ((en (ro P i) k == s) || metB (P.drop (i + 1)) k s) := by
      rw [drop_ro h1]
      unfold metB
      rw [List.any_cons, decide_eq_true (show k < (ro P i).length by omega), Bool.true_and]
    rw [m79_9_L1, brn_dt (by omega), grd_t ⟨by omega, by omega⟩, toNatN, grd_t (by rw [rws_len]; omega), rws_gp h1, getL_t, wrapN (by omega), em]
    cases b with
    | true => rw [brn_t rfl, ih]; simp
    | false =>
      rw [brn_f rfl, grd_t ⟨by omega, by omega⟩, grd_t (by rw [List.length_drop, iL_len]; omega), iL_gp (by omega), getI_t, ih, Bool.false_or]
theorem fit9_L0 (N n : Nat) (hN : 5000 ≤ N) (hn : n ≤ 5) (P : List (List Int)) (hP : P.length ≤ 1000) (hPn : ∀ q ∈ P, q.length = n) (rec : PV → List PV → Nat → List PV → Nat → List PV → Option (List PV × Nat × Nat × List PV × List PV)) (f : Nat) (l : List Nat) (hl : l.length + (f + 1) = n)
    (hrec : ∀ s (A : List (List Nat)), A.length + (fl n P f (l ++ [s])).length ≤ 100000 → rec (rwP (nL (l ++ [s]))) [.int .i64 (n : Int)] A.length (rwsP (A.map nL)) P.length (rwsP P) = some (([.int .i64 (n : Int)], (A ++ fl n P f (l ++ [s])).length, P.length, rwsP P, rwsP ((A ++ fl n P f (l ++ [s])).map nL)))) : ∀ (g s fuel : Nat) (A : List (List Nat)), n - s = g → g < fuel → A.length + ((List.range' s (n - s)).flatMap (fitG n P f l)).length ≤ 100000 →
    m79_9_L0 N rec l.length (iL (nL l)) (n : Int) fuel (s : Int) [.int .i64 (n : Int)] A.length P.length (rwsP P) (rwsP (A.map nL)) = some (([.int .i64 (n : Int)], (A ++ (List.range' s (n - s)).flatMap (fitG n P f l)).length, P.length, rwsP P, rwsP ((A ++ (List.range' s (n - s)).flatMap (fitG n P f l)).map nL)))
  | g, s, 0, _, _, h, _ => by omega
  | g, s, fuel + 1, A, hg, hfu, hA => by
    rw [m79_9_L0]
    by_cases h : s < n
    · have hc := cont_ok N (by omega) (s : Int) (nL l) (by rw [nL_len]; omega)
      unfold rwP at hc
      rw [nL_len, nL_mem] at hc
      rw [range'_step h, List.flatMap_cons, List.length_append] at hA
      rw [brn_dt (by omega), hc, bnd_t, getB_t, show m79_9_L1 N rec l.length (iL (nL l)) (n : Int) (s : Int) [.int .i64 (n : Int)] A.length P.length (rwsP P) (rwsP (A.map nL)) N (decide (s ∈ l)) 0 = _ from clash9_L1 N n hn P hP hPn rec l.length (by omega) (iL (nL l)) (s : Int) [.int .i64 (n : Int)] (rwsP (A.map nL)) [] A.length P.length 0 N (decide (s ∈ l)) (by omega) (by omega) (by omega), List.drop_zero, bnd_t, range'_step h, List.flatMap_cons, wrapN (by omega)]
      by_cases g1 : (decide (s ∈ l) || metB P l.length (s : Nat)) = true
      · have e : fitG n P f l s = [] := by unfold fitG; rw [if_pos g1]
        rw [e] at hA ⊢
        rw [brn_t g1, List.nil_append]
        exact fit9_L0 N n hN hn P hP hPn rec f l hl hrec (g - 1) (s + 1) fuel A (by omega) (by omega) (by simpa using hA)
      · have e : fitG n P f l s = fl n P f (l ++ [s]) := by unfold fitG; rw [if_neg g1]
        rw [e] at hA ⊢
        have ih := fit9_L0 N n hN hn P hP hPn rec f l hl hrec (g - 1) (s + 1) fuel (A ++ fl n P f (l ++ [s])) (by omega) (by omega) (by rw [List.length_append]; omega)
        have hr := hrec s A (by omega)
        have e2 : PV.lst false (l.length + 1) (iL (nL l) ++ [.int .i64 (s : Int)]) = rwP (nL (l ++ [s])) := by
          rw [iL_app, show nL l ++ [(s : Int)] = nL (l ++ [s]) by simp [nL]]
          unfold rwP; rw [nL_len, List.length_append, List.length_singleton]
        rw [List.append_assoc] at ih
        rw [brn_f (by simpa using g1), grd_t ⟨by omega, by omega⟩, grd_t (by rw [iL_len, nL_len]), grd_t (by omega), e2, hr, bnd_t]
        exact ih
    · rw [brn_df (by omega), show n - s = 0 by omega]; simp
theorem fit9_ok (N n : Nat) (hN : 5000 ≤ N) (hn : n ≤ 5) (P : List (List Int)) (hP : P.length ≤ 1000) (hPn : ∀ q ∈ P, q.length = n) : ∀ (f fu : Nat) (l : List Nat) (A : List (List Nat)), l.length + f = n → f < fu → A.length + (fl n P f l).length ≤ 100000 →
    m79_9 N fu (rwP (nL l)) [.int .i64 (n : Int)] A.length (rwsP (A.map nL)) P.length (rwsP P) = some (([.int .i64 (n : Int)], (A ++ fl n P f l).length, P.length, rwsP P, rwsP ((A ++ fl n P f l).map nL)))
  | f, 0, _, _, _, h, _ => by omega
  | 0, fu + 1, l, A, hl, _, hA => by
    have hll := nL_len l
    have e0 : fl n P 0 l = [l] := by simp [fl, ext, fitB]
    rw [e0] at hA ⊢
    rw [m79_9]
    unfold rwP
    rw [getL_t, grd_t (by simp), show gp [PV.int .i64 (n : Int)] 0 = .int .i64 (n : Int) from rfl, getI_t, brn_et (by omega), grd_t (by simp at hA; omega), grd_t (by rw [rws_len]; simp)]
    rw [show rwsP (A.map nL) ++ [PV.lst false (nL l).length (iL (nL l))] = rwsP ((A ++ [l]).map nL) by simp [rwsP, rwP], List.length_append, List.length_singleton]
  | f + 1, fu + 1, l, A, hl, hf, hA => by
    have hll := nL_len l
    have hs := fl_step n P f l
    rw [hs] at hA ⊢
    rw [m79_9]
    unfold rwP
    have e := fit9_L0 N n hN hn P hP hPn (m79_9 N fu) f l hl (fun s A hA => fit9_ok N n hN hn P hP hPn f fu (l ++ [s]) A (by simp; omega) (by omega) hA) n 0 N A (by omega) (by omega) (by rw [Nat.sub_zero, ← List.range_eq_range']; exact hA)
    rw [Nat.sub_zero, ← List.range_eq_range'] at e
    rw [getL_t, grd_t (by simp), show gp [PV.int .i64 (n : Int)] 0 = .int .i64 (n : Int) from rfl, getI_t, brn_ef (by omega), hll]
    rw [show m79_9_L0 N (m79_9 N fu) l.length (iL (nL l)) (n : Int) N 0 [.int .i64 (n : Int)] A.length P.length (rwsP P) (rwsP (A.map nL)) = _ from e, bnd_t]
theorem met_hd {P : List (List Int)} {i n : Nat} (hn1 : 1 ≤ n) (h1 : i < P.length) (hq : (ro P i).length = n) (s : Int) : metB (P.drop i) 0 s = ((en (ro P i) 0 == s) || metB (P.drop (i + 1)) 0 s) := by
  rw [drop_ro h1]
  unfold metB
  rw [List.any_cons, decide_eq_true (show 0 < (ro P i).length by omega), Bool.true_and]
theorem topB_L1 (N n : Nat) (hn1 : 1 ≤ n) (P : List (List Int)) (hP : P.length ≤ 1000) (hPn : ∀ q ∈ P, q.length = n) (s : Int) (c0 c3 : List PV) (a : Nat) : ∀ (f i fuel : Nat) (b : Bool), P.length - i = f → f < fuel → i ≤ P.length →
    m79_7_L1 N (n : Int) s c0 a P.length (rwsP P) c3 fuel b (i : Int) = some (b || metB (P.drop i) 0 s)
  | f, i, 0, _, _, h, _ => by omega
  | 0, i, fuel + 1, b, hf, _, hi => by
    rw [m79_7_L1, brn_df (by omega), List.drop_eq_nil_of_le (by omega)]; simp [metB]
  | f + 1, i, fuel + 1, b, hf, hfu, hi => by
    have h1 : i < P.length := by omega
    have hq := hPn _ (ro_mem h1)
    have ih := fun b => topB_L1 N n hn1 P hP hPn s c0 c3 a f (i + 1) fuel b (by omega) (by omega) (by omega)
    rw [m79_7_L1, brn_dt (by omega), grd_t ⟨by omega, by omega⟩, toNatN, grd_t (by rw [rws_len]; omega), rws_gp h1, getL_t, wrapN (by omega), met_hd hn1 h1 hq]
    cases b with
    | true => rw [brn_t rfl, ih]; simp
    | false =>
      rw [brn_f rfl, grd_t (by omega), grd_t (by rw [iL_len]; omega), iL_gp (by omega), getI_t, ih, Bool.false_or]
theorem topB_L0 (N n : Nat) (hN : 5000 ≤ N) (hn1 : 1 ≤ n) (hn : n ≤ 5) (P : List (List Int)) (hP : P.length ≤ 1000) (hPn : ∀ q ∈ P, q.length = n) : ∀ (g s fuel : Nat) (A : List (List Nat)), n - s = g → g < fuel → A.length + ((List.range' s (n - s)).flatMap (fitG n P (n - 1) [])).length ≤ 100000 →
    m79_7_L0 N (n : Int) fuel (s : Int) [.int .i64 (n : Int)] A.length P.length (rwsP P) (rwsP (A.map nL)) = some ([.int .i64 (n : Int)], (A ++ (List.range' s (n - s)).flatMap (fitG n P (n - 1) [])).length, P.length, rwsP P, rwsP ((A ++ (List.range' s (n - s)).flatMap (fitG n P (n - 1) [])).map nL))
  | g, s, 0, _, _, h, _ => by omega
  | g, s, fuel + 1, A, hg, hfu, hA => by
    rw [m79_7_L0]
    by_cases h : s < n
    · have hc := cont_ok N (by omega) (s : Int) [] (by simp)
      rw [show rwP [] = PV.lst false 0 [] from rfl, decide_eq_false (show ¬ (s : Int) ∈ ([] : List Int) by simp)] at hc
      rw [range'_step h, List.flatMap_cons, List.length_append] at hA
      have hm := topB_L1 N n hn1 P hP hPn (s : Int) [.int .i64 (n : Int)] (rwsP (A.map nL)) A.length P.length 0 N false (by omega) (by omega) (by omega)
      rw [Bool.false_or, List.drop_zero] at hm
      rw [brn_dt (by omega), hc, bnd_t, getB_t, show m79_7_L1 N (n : Int) (s : Int) [.int .i64 (n : Int)] A.length P.length (rwsP P) (rwsP (A.map nL)) N false 0 = _ from hm, bnd_t, wrapN (by omega), range'_step h, List.flatMap_cons]
      by_cases g1 : metB P 0 (s : Nat) = true
      · have e : fitG n P (n - 1) [] s = [] := by unfold fitG; rw [if_pos (by simpa using g1)]
        rw [e] at hA ⊢
        rw [brn_t g1, List.nil_append]
        exact topB_L0 N n hN hn1 hn P hP hPn (g - 1) (s + 1) fuel A (by omega) (by omega) (by simpa using hA)
      · have e : fitG n P (n - 1) [] s = fl n P (n - 1) [s] := by unfold fitG; rw [if_neg (by simpa using g1)]; rfl
        rw [e] at hA ⊢
        have ih := topB_L0 N n hN hn1 hn P hP hPn (g - 1) (s + 1) fuel (A ++ fl n P (n - 1) [s]) (by omega) (by omega) (by rw [List.length_append]; omega)
        have hr := fit9_ok N n hN hn P hP hPn (n - 1) N [s] A (by simp; omega) (by omega) (by omega)
        rw [List.append_assoc] at ih
        rw [brn_f (by simpa using g1), show PV.lst false 1 [PV.int .i64 (s : Int)] = rwP (nL [s]) from rfl, hr, bnd_t]
        exact ih
    · rw [brn_df (by omega), show n - s = 0 by omega]; simp
theorem fl_all {n : Nat} (hn1 : 1 ≤ n) (P : List (List Int)) : (List.range' 0 (n - 0)).flatMap (fitG n P (n - 1) []) = fitn n P := by
  have := fl_step n P (n - 1) []
  rw [Nat.sub_zero, ← List.range_eq_range', ← this, show n - 1 + 1 = n by omega]; rfl
theorem m38_3_ok (N n : Nat) (hN : 5000 ≤ N) (hn1 : 1 ≤ n) (hn : n ≤ 5) (P : List (List Int)) (hP : P.length ≤ 1000) (hPn : ∀ q ∈ P, q.length = n) : m38_3 N (n : Int) P.length (rwsP P) = some (.lst false (fitn n P).length (rwsP ((fitn n P).map nL)), rwsP P) := by
  have h := topB_L0 N n hN hn1 hn P hP hPn n 0 N [] (by omega) (by omega) (by rw [fl_all hn1]; have := fitn_le hn P; simp; omega)
  rw [fl_all hn1, List.nil_append] at h
  rw [m38_3, m79_7, brn_ef (by omega), show m79_7_L0 N (n : Int) N 0 [.int .i64 (n : Int)] 0 P.length (rwsP P) [] = _ from h, bnd_t, bnd_t]
  show grd _ _ = _
  rw [grd_t (by rw [rws_len, List.length_map])]
theorem ext_dis : ∀ n : Nat, n < 6 → ∀ x ∈ ext n n [], ∀ k : Nat, k < n → gn x k ∉ x.take k := by decide +kernel
theorem mem_nL {s : Nat} {l : List Nat} : (s : Int) ∈ nL l ↔ s ∈ l := by
  have := @nL_mem s l
  exact ⟨fun h => by simpa [h] using this, fun h => by simpa [h] using this⟩
theorem dayE_mk {n : Int} {P : List (List Int)} {r : List Int} : ∀ {f k : Nat}, (∀ j, k ≤ j → j < k + f → 0 ≤ en r j ∧ en r j < n ∧ en r j ∉ r.take j ∧ metB P j (en r j) = false) → dayE n P r f k = 0
  | 0, k, _ => rfl
  | f + 1, k, h => by
    obtain ⟨h1, h2, h3, h4⟩ := h k (by omega) (by omega)
    unfold metB at h4
    rw [dayE, if_neg (by omega), if_neg (by omega), if_neg h3, if_neg (by simpa using h4)]
    exact dayE_mk fun j g1 g2 => h j (by omega) (by omega)
theorem rowE_mk {n : Nat} {L : List (List Int)} : ∀ {f i : Nat}, (∀ j, i ≤ j → j < i + f → (ro L j).length = n ∧ dayE n (L.take j) (ro L j) (ro L j).length 0 = 0) → rowE n n L f i = 0
  | 0, i, _ => rfl
  | f + 1, i, h => by
    obtain ⟨h1, h2⟩ := h i (by omega) (by omega)
    rw [rowE, if_neg (by omega), if_neg (by omega), if_neg (by rw [h2]; simp)]
    exact rowE_mk fun j g1 g2 => h j (by omega) (by omega)
theorem vp_rows {n : Nat} (hn : n ≤ 5) {X : List (List Nat)} {D : List Nat} (h : Vp n X D) : ∀ j, j < X.length → (ro (X.map nL) j).length = n ∧ dayE n ((X.map nL).take j) (ro (X.map nL) j) (ro (X.map nL) j).length 0 = 0 := by
  induction h with
  | nil => intro j hj; simp at hj
  | snoc X D x h hx hf ih =>
    intro j hj
    rw [List.map_append, List.map_singleton]
    by_cases e : j < X.length
    · have e1 : ro (X.map nL ++ [nL x]) j = ro (X.map nL) j := by
        unfold ro; rw [List.getD, List.getElem?_append_left (by simpa using e)]; rfl
      rw [e1, List.take_append_of_le_length (by simp; omega)]
      exact ih j e
    · have ej : j = (X.map nL).length := by simp at hj ⊢; omega
      have e1 : ro (X.map nL ++ [nL x]) j = nL x := by subst ej; simp [ro]
      have hl := (ext_get hx).1
      have hlt := ext_lt (fun s hs => absurd hs (by simp)) hx
      simp at hl
      rw [e1, List.take_append_of_le_length (by omega), ej, List.take_length, nL_len]
      refine ⟨hl, dayE_mk fun k _ hk => ?_⟩
      have hk' : k < x.length := by omega
      have hd := ext_dis n (by omega) x hx k (by omega)
      have hm := hlt _ (gn_mem hk')
      rw [nL_en hk']
      refine ⟨by omega, by omega, ?_, fitB_get hf k (by omega) (by omega)⟩
      rw [show (nL x).take k = nL (x.take k) by simp [nL], mem_nL]
      exact hd
theorem vp_chk {n : Nat} (hn1 : 1 ≤ n) (hn : n ≤ 5) {X : List (List Nat)} {D : List Nat} (h : Vp n X D) (hX : X.length ≤ n) : chkE n n (X.map nL) = 0 := by
  unfold chkE
  rw [if_neg (by omega), if_neg (by omega), if_neg (by simp; omega)]
  exact rowE_mk fun j _ hj => vp_rows hn h j (by simpa using hj)
theorem vp_len {n : Nat} {X : List (List Nat)} {D : List Nat} (h : Vp n X D) : ∀ q ∈ X.map nL, q.length = n := by
  induction h with
  | nil => intro q hq; simp at hq
  | snoc X D x h hx hf ih =>
    intro q hq
    rw [List.map_append, List.mem_append] at hq
    rcases hq with hq | hq
    · exact ih q hq
    · simp at hq; subst hq
      rw [nL_len]; simpa using (ext_get hx).1
theorem fac_pos : ∀ n : Nat, 1 ≤ fac n
  | 0 => Nat.le_refl 1
  | n + 1 => by rw [fac]; exact Nat.le_trans (fac_pos n) (Nat.le_mul_of_pos_left _ (by omega))
theorem getA7_t {α : Type} {a b c d e f g : PV} {k : PV → PV → PV → PV → PV → PV → PV → Option α} : getA7 (.agg [a, b, c, d, e, f, g]) k = k a b c d e f g := rfl
theorem wr8 : ∀ a : Nat, a < 256 → IntKind.i64.wrap (1 + Int.tmod (IntKind.i64.wrap (a : Int)) 5) = ((1 + a % 5 : Nat) : Int) := by decide +kernel
theorem wr9 : ∀ n : Nat, n < 6 → ∀ b : Nat, b < 256 → Int.tmod (IntKind.i64.wrap (b : Int)) (IntKind.i64.wrap ((n : Int) + 1)) = ((b % (n + 1) : Nat) : Int) := by decide +kernel
theorem wr0 {b m : Nat} (hb : b < 256) : Int.tmod (IntKind.i64.wrap (b : Int)) (m : Int) = ((b % m : Nat) : Int) := by
  have : IntKind.i64.wrap (b : Int) = (b : Int) := by
    cases b with
    | zero => decide
    | succ b => exact wrapN (by omega)
  rw [this]; rfl
def u8s (l : List Nat) : List PV := l.map fun (x : Nat) => PV.int .u8 (x : Int)
theorem u8_gp {l : List Nat} {i : Nat} (h : i < l.length) : gp (u8s l) i = .int .u8 (gn l i : Int) := by simp [u8s, gp, gn, List.getD, h]
end Go.Proofs.YtcaecfofgdogbaaDoor
