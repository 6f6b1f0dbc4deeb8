/-
  Models and laws.
-/
import Derived.Test.YtcaecfofgdogbaaDoorEWpB
import Derived.Test.YtcaecfofgdogbaaDoorEV39
import Derived.Test.YtcaecfofgdogbaaDoorEV36
set_option linter.unusedSimpArgs false
set_option linter.unusedVariables false
namespace Go.Proofs.YtcaecfofgdogbaaDoor
open Go.V
open Nat renaming reduceBEq → qa, reduceAdd → qb, reduceSub → qc, reduceMul → qd, reduceLT → qe, reduceLeDiff → qf
open Int renaming reduceLE → qg, reduceLT → qh, reduceToNat → qi, reduceBEq → qj, reduceBNe → qk
set_option maxRecDepth 100000
set_option maxHeartbeats 4000000
set_option linter.unusedSimpArgs false
set_option linter.unusedVariables false
attribute [local go_sem] tl1 tl2 tl3 tl4 tl5 tl9 tl17 tl21 tl22 tl23 tl24 tl25 tl27 tl28 tl30 tl31 tl32 tl33 tl35 tl36 tl37 tl38 tl39 tl40 tl42 tl43 tl44 tl45 tl46 tl47 tl48 tl49 tl50 tl51 tl52 tl53 tl54 tl55 tl56 tl57 tl58 tl59 tl61 tl62 tl63 tl64 tl65 tl66 tl67 tl68 tl69 tl70 tl71 tl72 tl73 tl74 tl75 tl76 tl77 tl78 tl79 tl80 tl81 tl82 tl83 tl84 tl85 tl87 tl89 tl90 tl91 tl92 tl93 tl94 tl96 tl97 tl98 tl99 tl100 tl101 tl102 tl103 tl104 tl105 tl106 tl107 tl108 tl109 tl115 tl119
def m73 (N : Nat) (x1236 : Int) (x1237 : Int) (x1238 : Int) : Option (PV) :=
  brn (decide (x1236 ≥ x1237)) (
    some (.bool (decide (x1236 ≤ x1238)))) (
    some (.bool false))
theorem c73 (N : Nat) (x1236 : Int) (x1237 : Int) (x1238 : Int) (r : PV)  (h : m73 N x1236 x1237 x1238 = some r) : FnP Tryd.prog 73 [(.int .i64 x1236), (.int .i64 x1237), (.int .i64 x1238)] r := by
  unfold m73 at h
  refine Fn_of (sz := 15) tab_ok [0, 1, 2, 6] [.tmp 6] Tryd.func73 rfl rfl rfl (by simp) ?_
  simp only [initSt, initEnv, List.map_cons, List.map_nil, List.getD_cons_zero, List.getD_cons_succ, List.getD_nil]
  have hh := brn_some h; clear h; rcases hh with ⟨h1239, h⟩ | ⟨h1239, h⟩
  · refine W_sound tab_ok mixed 18 _ _ _ ?_
    simp -implicitDefEqProofs only [go_sem, qa, qb, qc, qd, qe, qf, qg, qh, qi, qj, qk, ↓reduceIte, h1239]
    repeat with_reducible refine ⟨by first | kernel_rfl | decide, ?_⟩
    obtain rfl := Option.some.inj h
    exact finC [(6, .v (.bool (decide (x1236 ≤ x1238))))] [(6, .v (.bool (decide (x1236 ≤ x1238))))] (by simp [leE, lk_cons]) (.cons _ _ _ _ _ (.v _ _ (.refl _)) .nil) (by rfl) (by simp [leE, lk_cons]) (by decide) (by decide) rfl (by simp only [go_sem, qa, qb, qc, qd, qe, qf, qg, qh, qi, qj, qk, ↓reduceIte, resQ_tmp, resQ_cell, resQ_nil, retD_one, retD_two, retD_three, retD_none]; try simp [R.val, retD_one, retD_two, retD_three, retD_none])
  · refine W_sound tab_ok mixed 18 _ _ _ ?_
    simp -implicitDefEqProofs only [go_sem, qa, qb, qc, qd, qe, qf, qg, qh, qi, qj, qk, ↓reduceIte, h1239]
    repeat with_reducible refine ⟨by first | kernel_rfl | decide, ?_⟩
    obtain rfl := Option.some.inj h
    exact finC [(6, .v (.bool false))] [(6, .v (.bool false))] (by simp [leE, lk_cons]) (.cons _ _ _ _ _ (.v _ _ (.refl _)) .nil) (by rfl) (by simp [leE, lk_cons]) (by decide) (by decide) rfl (by simp only [go_sem, qa, qb, qc, qd, qe, qf, qg, qh, qi, qj, qk, ↓reduceIte, resQ_tmp, resQ_cell, resQ_nil, retD_one, retD_two, retD_three, retD_none]; try simp [R.val, retD_one, retD_two, retD_three, retD_none])
def m92_L0 (N : Nat) (x1271 : Int) (n1273 : Nat) (c1274 : List PV) : Nat → Int → Option ((PV ⊕ Unit))
  | 0, _ => none
  | n + 1, x1275 =>
    brn (decide (x1275 < ((n1273 : Nat) : Int))) (
      grd (0 ≤ x1275 ∧ x1275 < ((n1273 : Nat) : Int)) <|
      grd (0 < List.length (List.drop (Int.toNat x1275) c1274)) <|
      getI .i64 (gp c1274 (Int.toNat x1275)) fun x1281 =>
      brn (x1281 == x1271) (
        some (.inl (.bool true))) (
        m92_L0 N x1271 n1273 c1274 n (IntKind.i64.wrap (x1275 + 1)))) (
      some (.inr ()))
def m92 (N : Nat) (p1270 : PV) (x1271 : Int) : Option (PV) :=
  getL p1270 fun n1273 c1274 =>
  bnd' (m92_L0 N x1271 n1273 c1274 N 0) fun o =>
  match o with
  | .inl p1283 =>
    some p1283
  | .inr () =>
    some (.bool false)
theorem c92 (N : Nat) (p1270 : PV) (x1271 : Int) (r : PV)  (h : m92 N p1270 x1271 = some r) : FnP Tryd.prog 92 [p1270, (.int .i64 x1271)] r := by
  unfold m92 at h
  refine Fn_of (sz := 18) tab_ok [0, 1, 4, 5, 9, 17] [.tmp 4] Tryd.func92 rfl rfl rfl (by simp) ?_
  simp only [initSt, initEnv, List.map_cons, List.map_nil, List.getD_cons_zero, List.getD_cons_succ, List.getD_nil]
  have hh := getL_some h; clear h; obtain ⟨n1273, c1274, h1272, h⟩ := hh
  refine W_sound tab_ok mixed 9 _ _ _ ?_
  simp -implicitDefEqProofs only [go_sem, qa, qb, qc, qd, qe, qf, qg, qh, qi, qj, qk, ↓reduceIte, h1272]
  repeat with_reducible refine ⟨by first | kernel_rfl | decide, ?_⟩
  have hh := bnd'_some h; clear h; obtain ⟨o1284, h1285, h1286⟩ := hh
  refine Wp_cut (fun s => (.inr ()) = o1284 ∧ s = ⟨[], [(0, .dead), (1, .dead), (4, .dead), (5, .dead), (9, .dead), (17, .dead)], [], 0, []⟩) ?_ ?_
  · refine Wp_block ?_
    refine Wp_loopG (fun n s => ∃ x1275, m92_L0 N x1271 n1273 c1274 n x1275 = some o1284 ∧ s = ⟨[], [(0, .v (.lst false n1273 c1274)), (1, .v (.int .i64 x1271)), (4, .dead), (5, .v (.int .i64 x1275)), (9, .dead), (17, .dead)], [], 0, []⟩) N _ ((Wk_le (.r (.r (.k (.r (.r (.r .nil)))))) (OLe.refl _)).trans (cmpS_ok rfl)) ⟨_, h1285, rfl⟩ ?_
    clear h1285
    rintro n _ ⟨x1275, h1285, rfl⟩
    cases n with
    | zero => cases h1285
    | succ n =>
      rw [m92_L0] at h1285
      have hh := brn_some h1285; clear h1285; rcases hh with ⟨h1276, h1285⟩ | ⟨h1276, h1285⟩
      · have hh := grd_some h1285; clear h1285; obtain ⟨⟨g1277, g1278⟩, h1285⟩ := hh
        have hh := grd_some h1285; clear h1285; obtain ⟨g1279, h1285⟩ := hh
        have hh := getI_some h1285; clear h1285; obtain ⟨x1281, h1280, h1285⟩ := hh
        have hh := brn_some h1285; clear h1285; rcases hh with ⟨h1282, h1285⟩ | ⟨h1282, h1285⟩
        · refine W_sound tab_ok mixed 28 _ _ _ ?_
          simp -implicitDefEqProofs only [go_sem, qa, qb, qc, qd, qe, qf, qg, qh, qi, qj, qk, ↓reduceIte, h1272, h1276, g1277, g1278, g1279, h1280, h1282]
          repeat with_reducible refine ⟨by first | kernel_rfl | decide, ?_⟩
          obtain rfl := Option.some.inj h1285
          (try dsimp only at h1286)
          obtain rfl := Option.some.inj h1286
          exact finC [(4, .v (.bool true))] [(4, .v (.bool true))] (by simp [leE, lk_cons]) (.cons _ _ _ _ _ (.v _ _ (.refl _)) .nil) (by rfl) (by simp [leE, lk_cons]) (by decide) (by decide) rfl (by simp only [go_sem, qa, qb, qc, qd, qe, qf, qg, qh, qi, qj, qk, ↓reduceIte, resQ_tmp, resQ_cell, resQ_nil, retD_one, retD_two, retD_three, retD_none]; try simp [R.val, retD_one, retD_two, retD_three, retD_none])
        · refine W_sound tab_ok mixed 29 _ _ _ ?_
          simp -implicitDefEqProofs only [go_sem, qa, qb, qc, qd, qe, qf, qg, qh, qi, qj, qk, ↓reduceIte, h1272, h1276, g1277, g1278, g1279, h1280, h1282]
          repeat with_reducible refine ⟨by first | kernel_rfl | decide, ?_⟩
          exact cutQ _ ((Wk_le (.r (.r (.r (.r (.k (.k .nil)))))) (OLe.refl _)).trans (cmpS_ok rfl)) ⟨n, Nat.lt_succ_self n, _, h1285, rfl⟩
      · refine W_sound tab_ok mixed 10 _ _ _ ?_
        simp -implicitDefEqProofs only [go_sem, qa, qb, qc, qd, qe, qf, qg, qh, qi, qj, qk, ↓reduceIte, h1272, h1276]
        repeat with_reducible refine ⟨by first | kernel_rfl | decide, ?_⟩
        obtain rfl := Option.some.inj h1285
        exact cutQ _ ((Wk_le (.k (.k (.r (.k (.k (.r .nil)))))) (OLe.refl _)).trans (cmpS_ok rfl)) ⟨rfl, rfl⟩
  · rintro _ ⟨rfl, rfl⟩
    (try dsimp only at h1286)
    refine W_sound tab_ok mixed 6 _ _ _ ?_
    simp -implicitDefEqProofs only [go_sem, qa, qb, qc, qd, qe, qf, qg, qh, qi, qj, qk, ↓reduceIte, h1272]
    repeat with_reducible refine ⟨by first | kernel_rfl | decide, ?_⟩
    obtain rfl := Option.some.inj h1286
    exact finC [(4, .v (.bool false))] [(4, .v (.bool false))] (by simp [leE, lk_cons]) (.cons _ _ _ _ _ (.v _ _ (.refl _)) .nil) (by rfl) (by simp [leE, lk_cons]) (by decide) (by decide) rfl (by simp only [go_sem, qa, qb, qc, qd, qe, qf, qg, qh, qi, qj, qk, ↓reduceIte, resQ_tmp, resQ_cell, resQ_nil, retD_one, retD_two, retD_three, retD_none]; try simp [R.val, retD_one, retD_two, retD_three, retD_none])
def m63_L0 (N : Nat) (x1295 : Int) (x1296 : Int) (n1298 : Nat) (c1299 : List PV) : Nat → Int → Option ((PV ⊕ Unit))
  | 0, _ => none
  | n + 1, x1300 =>
    brn (decide (x1300 < ((n1298 : Nat) : Int))) (
      grd (0 ≤ x1300 ∧ x1300 < ((n1298 : Nat) : Int)) <|
      grd (0 < List.length (List.drop (Int.toNat x1300) c1299)) <|
      getL (gp c1299 (Int.toNat x1300)) fun n1306 c1307 =>
      brn (decide (x1295 < ((n1306 : Nat) : Int))) (
        grd (0 ≤ x1295 ∧ x1295 < ((n1306 : Nat) : Int)) <|
        grd (0 < List.length (List.drop (Int.toNat x1295) c1307)) <|
        getI .i64 (gp c1307 (Int.toNat x1295)) fun x1313 =>
        brn (x1313 == x1296) (
          some (.inl (.bool true))) (
          m63_L0 N x1295 x1296 n1298 c1299 n (IntKind.i64.wrap (x1300 + 1)))) (
        m63_L0 N x1295 x1296 n1298 c1299 n (IntKind.i64.wrap (x1300 + 1)))) (
      some (.inr ()))
def m63 (N : Nat) (p1294 : PV) (x1295 : Int) (x1296 : Int) : Option (PV) :=
  getL p1294 fun n1298 c1299 =>
  bnd' (m63_L0 N x1295 x1296 n1298 c1299 N 0) fun o =>
  match o with
  | .inl p1315 =>
    some p1315
  | .inr () =>
    some (.bool false)
theorem c63 (N : Nat) (p1294 : PV) (x1295 : Int) (x1296 : Int) (r : PV)  (h : m63 N p1294 x1295 x1296 = some r) : FnP Tryd.prog 63 [p1294, (.int .i64 x1295), (.int .i64 x1296)] r := by
  unfold m63 at h
  refine Fn_of (sz := 32) tab_ok [0, 1, 2, 6, 7, 11, 31] [.tmp 6] Tryd.func63 rfl rfl rfl (by simp) ?_
  simp only [initSt, initEnv, List.map_cons, List.map_nil, List.getD_cons_zero, List.getD_cons_succ, List.getD_nil]
  have hh := getL_some h; clear h; obtain ⟨n1298, c1299, h1297, h⟩ := hh
  refine W_sound tab_ok mixed 9 _ _ _ ?_
  simp -implicitDefEqProofs only [go_sem, qa, qb, qc, qd, qe, qf, qg, qh, qi, qj, qk, ↓reduceIte, h1297]
  repeat with_reducible refine ⟨by first | kernel_rfl | decide, ?_⟩
  have hh := bnd'_some h; clear h; obtain ⟨o1316, h1317, h1318⟩ := hh
  refine Wp_cut (fun s => (.inr ()) = o1316 ∧ s = ⟨[], [(0, .dead), (1, .dead), (2, .dead), (6, .dead), (7, .dead), (11, .dead), (31, .dead)], [], 0, []⟩) ?_ ?_
  · refine Wp_block ?_
    refine Wp_loopG (fun n s => ∃ x1300, m63_L0 N x1295 x1296 n1298 c1299 n x1300 = some o1316 ∧ s = ⟨[], [(0, .v (.lst false n1298 c1299)), (1, .v (.int .i64 x1295)), (2, .v (.int .i64 x1296)), (6, .dead), (7, .v (.int .i64 x1300)), (11, .dead), (31, .dead)], [], 0, []⟩) N _ ((Wk_le (.r (.r (.r (.k (.r (.r (.r .nil))))))) (OLe.refl _)).trans (cmpS_ok (st' := ⟨[], [(0, .v (.lst false n1298 c1299)), (1, .v (.int .i64 x1295)), (2, .v (.int .i64 x1296)), (6, .dead), (7, .v (.int .i64 0)), (11, .dead), (31, .dead)], [], 0, []⟩) (by kernel_rfl))) ⟨_, h1317, rfl⟩ ?_
    clear h1317
    rintro n _ ⟨x1300, h1317, rfl⟩
    cases n with
    | zero => cases h1317
    | succ n =>
      rw [m63_L0] at h1317
      have hh := brn_some h1317; clear h1317; rcases hh with ⟨h1301, h1317⟩ | ⟨h1301, h1317⟩
      · have hh := grd_some h1317; clear h1317; obtain ⟨⟨g1302, g1303⟩, h1317⟩ := hh
        have hh := grd_some h1317; clear h1317; obtain ⟨g1304, h1317⟩ := hh
        have hh := getL_some h1317; clear h1317; obtain ⟨n1306, c1307, h1305, h1317⟩ := hh
        have hh := brn_some h1317; clear h1317; rcases hh with ⟨h1308, h1317⟩ | ⟨h1308, h1317⟩
        · have hh := grd_some h1317; clear h1317; obtain ⟨⟨g1309, g1310⟩, h1317⟩ := hh
          have hh := grd_some h1317; clear h1317; obtain ⟨g1311, h1317⟩ := hh
          have hh := getI_some h1317; clear h1317; obtain ⟨x1313, h1312, h1317⟩ := hh
          have hh := brn_some h1317; clear h1317; rcases hh with ⟨h1314, h1317⟩ | ⟨h1314, h1317⟩
          · refine W_sound tab_ok mixed 40 _ _ _ ?_
            simp -implicitDefEqProofs only [go_sem, qa, qb, qc, qd, qe, qf, qg, qh, qi, qj, qk, ↓reduceIte, h1297, h1301, g1302, g1303, g1304, h1305, h1308, g1309, g1310, g1311, h1312, h1314]
            repeat with_reducible refine ⟨by first | kernel_rfl | decide, ?_⟩
            obtain rfl := Option.some.inj h1317
            (try dsimp only at h1318)
            obtain rfl := Option.some.inj h1318
            exact finC [(6, .v (.bool true))] [(6, .v (.bool true))] (by simp [leE, lk_cons]) (.cons _ _ _ _ _ (.v _ _ (.refl _)) .nil) (by rfl) (by simp [leE, lk_cons]) (by decide) (by decide) rfl (by simp only [go_sem, qa, qb, qc, qd, qe, qf, qg, qh, qi, qj, qk, ↓reduceIte, resQ_tmp, resQ_cell, resQ_nil, retD_one, retD_two, retD_three, retD_none]; try simp [R.val, retD_one, retD_two, retD_three, retD_none])
          · refine W_sound tab_ok mixed 41 _ _ _ ?_
            simp -implicitDefEqProofs only [go_sem, qa, qb, qc, qd, qe, qf, qg, qh, qi, qj, qk, ↓reduceIte, h1297, h1301, g1302, g1303, g1304, h1305, h1308, g1309, g1310, g1311, h1312, h1314]
            repeat with_reducible refine ⟨by first | kernel_rfl | decide, ?_⟩
            exact cutQ _ ((Wk_le (.r (.r (.r (.r (.r (.k (.k .nil))))))) (OLe.refl _)).trans (cmpS_ok (st' := ⟨[], [(0, .v (.lst false n1298 c1299)), (1, .v (.int .i64 x1295)), (2, .v (.int .i64 x1296)), (6, .dead), (7, .v (.int .i64 (IntKind.i64.wrap (x1300 + 1)))), (11, .dead), (31, .dead)], [], 0, []⟩) (by kernel_rfl))) ⟨n, Nat.lt_succ_self n, _, h1317, rfl⟩
        · refine W_sound tab_ok mixed 41 _ _ _ ?_
          simp -implicitDefEqProofs only [go_sem, qa, qb, qc, qd, qe, qf, qg, qh, qi, qj, qk, ↓reduceIte, h1297, h1301, g1302, g1303, g1304, h1305, h1308]
          repeat with_reducible refine ⟨by first | kernel_rfl | decide, ?_⟩
          exact cutQ _ ((Wk_le (.r (.r (.r (.r (.r (.k (.k .nil))))))) (OLe.refl _)).trans (cmpS_ok (st' := ⟨[], [(0, .v (.lst false n1298 c1299)), (1, .v (.int .i64 x1295)), (2, .v (.int .i64 x1296)), (6, .dead), (7, .v (.int .i64 (IntKind.i64.wrap (x1300 + 1)))), (11, .dead), (31, .dead)], [], 0, []⟩) (by kernel_rfl))) ⟨n, Nat.lt_succ_self n, _, h1317, rfl⟩
      · refine W_sound tab_ok mixed 10 _ _ _ ?_
        simp -implicitDefEqProofs only [go_sem, qa, qb, qc, qd, qe, qf, qg, qh, qi, qj, qk, ↓reduceIte, h1297, h1301]
        repeat with_reducible refine ⟨by first | kernel_rfl | decide, ?_⟩
        obtain rfl := Option.some.inj h1317
        exact cutQ _ ((Wk_le (.k (.k (.k (.r (.k (.k (.r .nil))))))) (OLe.refl _)).trans (cmpS_ok (st' := ⟨[], [(0, .dead), (1, .dead), (2, .dead), (6, .dead), (7, .dead), (11, .dead), (31, .dead)], [], 0, []⟩) (by kernel_rfl))) ⟨rfl, rfl⟩
  · rintro _ ⟨rfl, rfl⟩
    (try dsimp only at h1318)
    refine W_sound tab_ok mixed 6 _ _ _ ?_
    simp -implicitDefEqProofs only [go_sem, qa, qb, qc, qd, qe, qf, qg, qh, qi, qj, qk, ↓reduceIte, h1297]
    repeat with_reducible refine ⟨by first | kernel_rfl | decide, ?_⟩
    obtain rfl := Option.some.inj h1318
    exact finC [(6, .v (.bool false))] [(6, .v (.bool false))] (by simp [leE, lk_cons]) (.cons _ _ _ _ _ (.v _ _ (.refl _)) .nil) (by rfl) (by simp [leE, lk_cons]) (by decide) (by decide) rfl (by simp only [go_sem, qa, qb, qc, qd, qe, qf, qg, qh, qi, qj, qk, ↓reduceIte, resQ_tmp, resQ_cell, resQ_nil, retD_one, retD_two, retD_three, retD_none]; try simp [R.val, retD_one, retD_two, retD_three, retD_none])
def m68_L1 (N : Nat) (x1230 : Int) (x1232 : Int) (n1234 : Nat) (c1235 : List PV) (x1246 : Int) (n1252 : Nat) (c1253 : List PV) : Nat → Int → Option ((PV ⊕ Unit))
  | 0, _ => none
  | n + 1, x1256 =>
    brn (decide (x1256 < x1232)) (
      grd (0 ≤ x1256 ∧ x1256 < ((n1252 : Nat) : Int)) <|
      grd (0 < List.length (List.drop (Int.toNat x1256) c1253)) <|
      getI .i64 (gp c1253 (Int.toNat x1256)) fun x1262 =>
      bnd' (m73 N x1262 0 (IntKind.i64.wrap (x1230 - 1))) fun p1263 =>
      getB p1263 fun b1266 =>
      brn b1266 (
        grd (x1256 ≤ ((n1252 : Nat) : Int)) <|
        grd (List.length c1253 = n1252) <|
        bnd' (m92 N (.lst false (Int.toNat x1256) (List.take (Int.toNat x1256) c1253)) x1262) fun p1287 =>
        getB p1287 fun b1290 =>
        brn b1290 (
          some (.inl (.int .i64 6))) (
          grd (x1246 ≤ ((n1234 : Nat) : Int)) <|
          grd (List.length c1235 = n1234) <|
          bnd' (m63 N (.lst false (Int.toNat x1246) (List.take (Int.toNat x1246) c1235)) x1256 x1262) fun p1319 =>
          getB p1319 fun b1322 =>
          brn b1322 (
            some (.inl (.int .i64 13))) (
            m68_L1 N x1230 x1232 n1234 c1235 x1246 n1252 c1253 n (IntKind.i64.wrap (x1256 + 1))))) (
        some (.inl (.int .i64 2)))) (
      some (.inr ()))
def m68_L0 (N : Nat) (x1230 : Int) (x1232 : Int) (n1234 : Nat) (c1235 : List PV) : Nat → Int → Option ((PV ⊕ Unit))
  | 0, _ => none
  | n + 1, x1246 =>
    brn (decide (x1246 < ((n1234 : Nat) : Int))) (
      grd (0 ≤ x1246 ∧ x1246 < ((n1234 : Nat) : Int)) <|
      grd (0 < List.length (List.drop (Int.toNat x1246) c1235)) <|
      getL (gp c1235 (Int.toNat x1246)) fun n1252 c1253 =>
      brn (((n1252 : Nat) : Int) != x1232) (
        some (.inl (.int .i64 5))) (
        brn (decide (x1232 > x1230)) (
          some (.inl (.int .i64 5))) (
          bnd' (m68_L1 N x1230 x1232 n1234 c1235 x1246 n1252 c1253 N 0) fun o =>
          match o with
          | .inl p1324 =>
            some (.inl p1324)
          | .inr () =>
            m68_L0 N x1230 x1232 n1234 c1235 n (IntKind.i64.wrap (x1246 + 1))))) (
      some (.inr ()))
def m68 (N : Nat) (x1230 : Int) (p1231 : PV) (x1232 : Int) : Option (PV) :=
  getL p1231 fun n1234 c1235 =>
  bnd' (m73 N x1230 1 5) fun p1240 =>
  getB p1240 fun b1243 =>
  brn b1243 (
    brn (decide (((n1234 : Nat) : Int) > x1230)) (
      some (.int .i64 3)) (
      bnd' (m68_L0 N x1230 x1232 n1234 c1235 N 0) fun o =>
      match o with
      | .inl p1325 =>
        some p1325
      | .inr () =>
        some (.int .i64 0))) (
    some (.int .i64 1))
theorem c68 (N : Nat) (x1230 : Int) (p1231 : PV) (x1232 : Int) (r : PV)  (h : m68 N x1230 p1231 x1232 = some r) : FnP Tryd.prog 68 [(.int .i64 x1230), p1231, (.int .i64 x1232)] r := by
  unfold m68 at h
  refine Fn_of (sz := 76) tab_ok [0, 1, 2, 6, 7, 8, 11, 15, 19, 33, 36, 49, 63, 75] [.tmp 6] Tryd.func68 rfl rfl rfl (by simp) ?_
  simp only [initSt, initEnv, List.map_cons, List.map_nil, List.getD_cons_zero, List.getD_cons_succ, List.getD_nil]
  have hh := getL_some h; clear h; obtain ⟨n1234, c1235, h1233, h⟩ := hh
  have hh := bnd'_some h; clear h; obtain ⟨p1240, h1241, h⟩ := hh
  refine W_sound tab_ok mixed 8 _ _ _ ?_
  simp -implicitDefEqProofs only [go_sem, qa, qb, qc, qd, qe, qf, qg, qh, qi, qj, qk, ↓reduceIte, h1233]
  repeat with_reducible refine ⟨by first | kernel_rfl | decide, ?_⟩
  refine Wp_callP (c73 N _ _ _ _ h1241) (by kernel_rfl) rfl rfl rfl rfl (by decide) ?_
  have hh := getB_some h; clear h; obtain ⟨b1243, h1242, h⟩ := hh
  have hh := brn_some h; clear h; rcases hh with ⟨h1244, h⟩ | ⟨h1244, h⟩
  · have hh := brn_some h; clear h; rcases hh with ⟨h1245, h⟩ | ⟨h1245, h⟩
    · refine W_sound tab_ok mixed 19 _ _ _ ?_
      simp -implicitDefEqProofs only [go_sem, qa, qb, qc, qd, qe, qf, qg, qh, qi, qj, qk, ↓reduceIte, h1233, h1242, h1244, h1245]
      repeat with_reducible refine ⟨by first | kernel_rfl | decide, ?_⟩
      obtain rfl := Option.some.inj h
      exact finC [(6, .v (.int .i64 3))] [(6, .v (.int .i64 3))] (by simp [leE, lk_cons]) (.cons _ _ _ _ _ (.v _ _ (.refl _)) .nil) (by rfl) (by simp [leE, lk_cons]) (by decide) (by decide) rfl (by simp only [go_sem, qa, qb, qc, qd, qe, qf, qg, qh, qi, qj, qk, ↓reduceIte, resQ_tmp, resQ_cell, resQ_nil, retD_one, retD_two, retD_three, retD_none]; try simp [R.val, retD_one, retD_two, retD_three, retD_none])
    · refine W_sound tab_ok mixed 19 _ _ _ ?_
      simp -implicitDefEqProofs only [go_sem, qa, qb, qc, qd, qe, qf, qg, qh, qi, qj, qk, ↓reduceIte, h1233, h1242, h1244, h1245]
      repeat with_reducible refine ⟨by first | kernel_rfl | decide, ?_⟩
      have hh := bnd'_some h; clear h; obtain ⟨o1326, h1327, h1328⟩ := hh
      refine Wp_cut (fun s => (.inr ()) = o1326 ∧ s = ⟨[], [(0, .dead), (1, .dead), (2, .dead), (6, .dead), (7, .dead), (8, .dead), (11, .dead), (15, .dead), (19, .dead), (33, .dead), (36, .dead), (49, .dead), (63, .dead), (75, .dead)], [], 0, []⟩) ?_ ?_
      · refine Wp_block ?_
        refine Wp_loopG (fun n s => ∃ x1246, m68_L0 N x1230 x1232 n1234 c1235 n x1246 = some o1326 ∧ s = ⟨[], [(0, .v (.int .i64 x1230)), (1, .v (.lst false n1234 c1235)), (2, .v (.int .i64 x1232)), (6, .dead), (7, .v (.int .i64 x1246)), (8, .dead), (11, .dead), (15, .dead), (19, .dead), (33, .dead), (36, .dead), (49, .dead), (63, .dead), (75, .dead)], [], 0, []⟩) N _ ((Wk_le (.r (.r (.r (.k (.r (.r (.k (.k (.r (.r (.r (.r (.r (.r .nil)))))))))))))) (OLe.refl _)).trans (cmpS_ok (st' := ⟨[], [(0, .v (.int .i64 x1230)), (1, .v (.lst false n1234 c1235)), (2, .v (.int .i64 x1232)), (6, .dead), (7, .v (.int .i64 0)), (8, .dead), (11, .dead), (15, .dead), (19, .dead), (33, .dead), (36, .dead), (49, .dead), (63, .dead), (75, .dead)], [], 0, []⟩) (by kernel_rfl))) ⟨_, h1327, rfl⟩ ?_
        clear h1327
        rintro n _ ⟨x1246, h1327, rfl⟩
        cases n with
        | zero => cases h1327
        | succ n =>
          rw [m68_L0] at h1327
          have hh := brn_some h1327; clear h1327; rcases hh with ⟨h1247, h1327⟩ | ⟨h1247, h1327⟩
          · have hh := grd_some h1327; clear h1327; obtain ⟨⟨g1248, g1249⟩, h1327⟩ := hh
            have hh := grd_some h1327; clear h1327; obtain ⟨g1250, h1327⟩ := hh
            have hh := getL_some h1327; clear h1327; obtain ⟨n1252, c1253, h1251, h1327⟩ := hh
            have hh := brn_some h1327; clear h1327; rcases hh with ⟨h1254, h1327⟩ | ⟨h1254, h1327⟩
            · refine W_sound tab_ok mixed 35 _ _ _ ?_
              simp -implicitDefEqProofs only [go_sem, qa, qb, qc, qd, qe, qf, qg, qh, qi, qj, qk, ↓reduceIte, h1233, h1242, h1244, h1245, h1247, g1248, g1249, g1250, h1251, h1254]
              repeat with_reducible refine ⟨by first | kernel_rfl | decide, ?_⟩
              obtain rfl := Option.some.inj h1327
              (try dsimp only at h1328)
              obtain rfl := Option.some.inj h1328
              exact finC [(6, .v (.int .i64 5))] [(6, .v (.int .i64 5))] (by simp [leE, lk_cons]) (.cons _ _ _ _ _ (.v _ _ (.refl _)) .nil) (by rfl) (by simp [leE, lk_cons]) (by decide) (by decide) rfl (by simp only [go_sem, qa, qb, qc, qd, qe, qf, qg, qh, qi, qj, qk, ↓reduceIte, resQ_tmp, resQ_cell, resQ_nil, retD_one, retD_two, retD_three, retD_none]; try simp [R.val, retD_one, retD_two, retD_three, retD_none])
            · have hh := brn_some h1327; clear h1327; rcases hh with ⟨h1255, h1327⟩ | ⟨h1255, h1327⟩
              · refine W_sound tab_ok mixed 35 _ _ _ ?_
                simp -implicitDefEqProofs only [go_sem, qa, qb, qc, qd, qe, qf, qg, qh, qi, qj, qk, ↓reduceIte, h1233, h1242, h1244, h1245, h1247, g1248, g1249, g1250, h1251, h1254, h1255]
                repeat with_reducible refine ⟨by first | kernel_rfl | decide, ?_⟩
                obtain rfl := Option.some.inj h1327
                (try dsimp only at h1328)
                obtain rfl := Option.some.inj h1328
                exact finC [(6, .v (.int .i64 5))] [(6, .v (.int .i64 5))] (by simp [leE, lk_cons]) (.cons _ _ _ _ _ (.v _ _ (.refl _)) .nil) (by rfl) (by simp [leE, lk_cons]) (by decide) (by decide) rfl (by simp only [go_sem, qa, qb, qc, qd, qe, qf, qg, qh, qi, qj, qk, ↓reduceIte, resQ_tmp, resQ_cell, resQ_nil, retD_one, retD_two, retD_three, retD_none]; try simp [R.val, retD_one, retD_two, retD_three, retD_none])
              · refine W_sound tab_ok mixed 34 _ _ _ ?_
                simp -implicitDefEqProofs only [go_sem, qa, qb, qc, qd, qe, qf, qg, qh, qi, qj, qk, ↓reduceIte, h1233, h1242, h1244, h1245, h1247, g1248, g1249, g1250, h1251, h1254, h1255]
                repeat with_reducible refine ⟨by first | kernel_rfl | decide, ?_⟩
                have hh := bnd'_some h1327; clear h1327; obtain ⟨o1329, h1330, h1331⟩ := hh
                refine Wp_cut (fun s => (.inr ()) = o1329 ∧ s = ⟨[], [(0, .v (.int .i64 x1230)), (1, .v (.lst false n1234 c1235)), (2, .v (.int .i64 x1232)), (6, .dead), (7, .v (.int .i64 x1246)), (8, .dead), (11, .dead), (15, .dead), (19, .dead), (33, .dead), (36, .dead), (49, .dead), (63, .dead), (75, .dead)], [], 0, []⟩) ?_ ?_
                · refine Wp_block ?_
                  refine Wp_loopG (fun n s => ∃ x1256, m68_L1 N x1230 x1232 n1234 c1235 x1246 n1252 c1253 n x1256 = some o1329 ∧ s = ⟨[], [(0, .v (.int .i64 x1230)), (1, .v (.lst false n1234 c1235)), (2, .v (.int .i64 x1232)), (6, .dead), (7, .v (.int .i64 x1246)), (8, .v (.int .i64 x1256)), (11, .dead), (15, .dead), (19, .dead), (33, .dead), (36, .dead), (49, .dead), (63, .dead), (75, .dead)], [], 0, []⟩) N _ ((Wk_le (.r (.r (.r (.r (.r (.r (.r (.r (.k (.k (.r (.r (.r (.r .nil)))))))))))))) (OLe.refl _)).trans (cmpS_ok (st' := ⟨[], [(0, .v (.int .i64 x1230)), (1, .v (.lst false n1234 c1235)), (2, .v (.int .i64 x1232)), (6, .dead), (7, .v (.int .i64 x1246)), (8, .v (.int .i64 0)), (11, .dead), (15, .dead), (19, .dead), (33, .dead), (36, .dead), (49, .dead), (63, .dead), (75, .dead)], [], 0, []⟩) (by kernel_rfl))) ⟨_, h1330, rfl⟩ ?_
                  clear h1330
                  rintro n _ ⟨x1256, h1330, rfl⟩
                  cases n with
                  | zero => cases h1330
                  | succ n =>
                    rw [m68_L1] at h1330
                    have hh := brn_some h1330; clear h1330; rcases hh with ⟨h1257, h1330⟩ | ⟨h1257, h1330⟩
                    · have hh := grd_some h1330; clear h1330; obtain ⟨⟨g1258, g1259⟩, h1330⟩ := hh
                      have hh := grd_some h1330; clear h1330; obtain ⟨g1260, h1330⟩ := hh
                      have hh := getI_some h1330; clear h1330; obtain ⟨x1262, h1261, h1330⟩ := hh
                      have hh := bnd'_some h1330; clear h1330; obtain ⟨p1263, h1264, h1330⟩ := hh
                      refine W_sound tab_ok mixed 23 _ _ _ ?_
                      simp -implicitDefEqProofs only [go_sem, qa, qb, qc, qd, qe, qf, qg, qh, qi, qj, qk, ↓reduceIte, h1233, h1242, h1244, h1245, h1247, g1248, g1249, g1250, h1251, h1254, h1255, h1257, g1258, g1259, g1260, h1261]
                      repeat with_reducible refine ⟨by first | kernel_rfl | decide, ?_⟩
                      refine Wp_callP (c73 N _ _ _ _ h1264) (by kernel_rfl) rfl rfl rfl rfl (by decide) ?_
                      have hh := getB_some h1330; clear h1330; obtain ⟨b1266, h1265, h1330⟩ := hh
                      have hh := brn_some h1330; clear h1330; rcases hh with ⟨h1267, h1330⟩ | ⟨h1267, h1330⟩
                      · have hh := grd_some h1330; clear h1330; obtain ⟨g1268, h1330⟩ := hh
                        have hh := grd_some h1330; clear h1330; obtain ⟨g1269, h1330⟩ := hh
                        have hh := bnd'_some h1330; clear h1330; obtain ⟨p1287, h1288, h1330⟩ := hh
                        refine W_sound tab_ok mixed 20 _ _ _ ?_
                        simp -implicitDefEqProofs only [go_sem, qa, qb, qc, qd, qe, qf, qg, qh, qi, qj, qk, ↓reduceIte, h1233, h1242, h1244, h1245, h1247, g1248, g1249, g1250, h1251, h1254, h1255, h1257, g1258, g1259, g1260, h1261, h1265, h1267, g1268, g1269]
                        repeat with_reducible refine ⟨by first | kernel_rfl | decide, ?_⟩
                        refine Wp_callP (c92 N _ _ _ h1288) (by kernel_rfl) rfl rfl rfl rfl (by decide) ?_
                        have hh := getB_some h1330; clear h1330; obtain ⟨b1290, h1289, h1330⟩ := hh
                        have hh := brn_some h1330; clear h1330; rcases hh with ⟨h1291, h1330⟩ | ⟨h1291, h1330⟩
                        · refine W_sound tab_ok mixed 8 _ _ _ ?_
                          simp -implicitDefEqProofs only [go_sem, qa, qb, qc, qd, qe, qf, qg, qh, qi, qj, qk, ↓reduceIte, h1233, h1242, h1244, h1245, h1247, g1248, g1249, g1250, h1251, h1254, h1255, h1257, g1258, g1259, g1260, h1261, h1265, h1267, g1268, g1269, h1289, h1291]
                          repeat with_reducible refine ⟨by first | kernel_rfl | decide, ?_⟩
                          obtain rfl := Option.some.inj h1330
                          (try dsimp only at h1331)
                          obtain rfl := Option.some.inj h1331
                          (try dsimp only at h1328)
                          obtain rfl := Option.some.inj h1328
                          exact finC [(6, .v (.int .i64 6))] [(6, .v (.int .i64 6))] (by simp [leE, lk_cons]) (.cons _ _ _ _ _ (.v _ _ (.refl _)) .nil) (by rfl) (by simp [leE, lk_cons]) (by decide) (by decide) rfl (by simp only [go_sem, qa, qb, qc, qd, qe, qf, qg, qh, qi, qj, qk, ↓reduceIte, resQ_tmp, resQ_cell, resQ_nil, retD_one, retD_two, retD_three, retD_none]; try simp [R.val, retD_one, retD_two, retD_three, retD_none])
                        · have hh := grd_some h1330; clear h1330; obtain ⟨g1292, h1330⟩ := hh
                          have hh := grd_some h1330; clear h1330; obtain ⟨g1293, h1330⟩ := hh
                          have hh := bnd'_some h1330; clear h1330; obtain ⟨p1319, h1320, h1330⟩ := hh
                          refine W_sound tab_ok mixed 16 _ _ _ ?_
                          simp -implicitDefEqProofs only [go_sem, qa, qb, qc, qd, qe, qf, qg, qh, qi, qj, qk, ↓reduceIte, h1233, h1242, h1244, h1245, h1247, g1248, g1249, g1250, h1251, h1254, h1255, h1257, g1258, g1259, g1260, h1261, h1265, h1267, g1268, g1269, h1289, h1291, g1292, g1293]
                          repeat with_reducible refine ⟨by first | kernel_rfl | decide, ?_⟩
                          refine Wp_callP (c63 N _ _ _ _ h1320) (by kernel_rfl) rfl rfl rfl rfl (by decide) ?_
                          have hh := getB_some h1330; clear h1330; obtain ⟨b1322, h1321, h1330⟩ := hh
                          have hh := brn_some h1330; clear h1330; rcases hh with ⟨h1323, h1330⟩ | ⟨h1323, h1330⟩
                          · refine W_sound tab_ok mixed 8 _ _ _ ?_
                            simp -implicitDefEqProofs only [go_sem, qa, qb, qc, qd, qe, qf, qg, qh, qi, qj, qk, ↓reduceIte, h1233, h1242, h1244, h1245, h1247, g1248, g1249, g1250, h1251, h1254, h1255, h1257, g1258, g1259, g1260, h1261, h1265, h1267, g1268, g1269, h1289, h1291, g1292, g1293, h1321, h1323]
                            repeat with_reducible refine ⟨by first | kernel_rfl | decide, ?_⟩
                            obtain rfl := Option.some.inj h1330
                            (try dsimp only at h1331)
                            obtain rfl := Option.some.inj h1331
                            (try dsimp only at h1328)
                            obtain rfl := Option.some.inj h1328
                            exact finC [(6, .v (.int .i64 13))] [(6, .v (.int .i64 13))] (by simp [leE, lk_cons]) (.cons _ _ _ _ _ (.v _ _ (.refl _)) .nil) (by rfl) (by simp [leE, lk_cons]) (by decide) (by decide) rfl (by simp only [go_sem, qa, qb, qc, qd, qe, qf, qg, qh, qi, qj, qk, ↓reduceIte, resQ_tmp, resQ_cell, resQ_nil, retD_one, retD_two, retD_three, retD_none]; try simp [R.val, retD_one, retD_two, retD_three, retD_none])
                          · refine W_sound tab_ok mixed 9 _ _ _ ?_
                            simp -implicitDefEqProofs only [go_sem, qa, qb, qc, qd, qe, qf, qg, qh, qi, qj, qk, ↓reduceIte, h1233, h1242, h1244, h1245, h1247, g1248, g1249, g1250, h1251, h1254, h1255, h1257, g1258, g1259, g1260, h1261, h1265, h1267, g1268, g1269, h1289, h1291, g1292, g1293, h1321, h1323]
                            repeat with_reducible refine ⟨by first | kernel_rfl | decide, ?_⟩
                            exact cutQ _ ((Wk_le (.r (.r (.r (.r (.r (.r (.r (.r (.r (.r (.k (.k (.k (.k .nil)))))))))))))) (OLe.refl _)).trans (cmpS_ok (st' := ⟨[], [(0, .v (.int .i64 x1230)), (1, .v (.lst false n1234 c1235)), (2, .v (.int .i64 x1232)), (6, .dead), (7, .v (.int .i64 x1246)), (8, .v (.int .i64 (IntKind.i64.wrap (x1256 + 1)))), (11, .dead), (15, .dead), (19, .dead), (33, .dead), (36, .dead), (49, .dead), (63, .dead), (75, .dead)], [], 0, []⟩) (by kernel_rfl))) ⟨n, Nat.lt_succ_self n, _, h1330, rfl⟩
                      · refine W_sound tab_ok mixed 9 _ _ _ ?_
                        simp -implicitDefEqProofs only [go_sem, qa, qb, qc, qd, qe, qf, qg, qh, qi, qj, qk, ↓reduceIte, h1233, h1242, h1244, h1245, h1247, g1248, g1249, g1250, h1251, h1254, h1255, h1257, g1258, g1259, g1260, h1261, h1265, h1267]
                        repeat with_reducible refine ⟨by first | kernel_rfl | decide, ?_⟩
                        obtain rfl := Option.some.inj h1330
                        (try dsimp only at h1331)
                        obtain rfl := Option.some.inj h1331
                        (try dsimp only at h1328)
                        obtain rfl := Option.some.inj h1328
                        exact finC [(6, .v (.int .i64 2))] [(6, .v (.int .i64 2))] (by simp [leE, lk_cons]) (.cons _ _ _ _ _ (.v _ _ (.refl _)) .nil) (by rfl) (by simp [leE, lk_cons]) (by decide) (by decide) rfl (by simp only [go_sem, qa, qb, qc, qd, qe, qf, qg, qh, qi, qj, qk, ↓reduceIte, resQ_tmp, resQ_cell, resQ_nil, retD_one, retD_two, retD_three, retD_none]; try simp [R.val, retD_one, retD_two, retD_three, retD_none])
                    · refine W_sound tab_ok mixed 9 _ _ _ ?_
                      simp -implicitDefEqProofs only [go_sem, qa, qb, qc, qd, qe, qf, qg, qh, qi, qj, qk, ↓reduceIte, h1233, h1242, h1244, h1245, h1247, g1248, g1249, g1250, h1251, h1254, h1255, h1257]
                      repeat with_reducible refine ⟨by first | kernel_rfl | decide, ?_⟩
                      obtain rfl := Option.some.inj h1330
                      exact cutQ _ ((Wk_le (.r (.r (.r (.r (.r (.k (.r (.r (.r (.r (.k (.r (.r (.r .nil)))))))))))))) (OLe.refl _)).trans (cmpS_ok (st' := ⟨[], [(0, .v (.int .i64 x1230)), (1, .v (.lst false n1234 c1235)), (2, .v (.int .i64 x1232)), (6, .dead), (7, .v (.int .i64 x1246)), (8, .dead), (11, .dead), (15, .dead), (19, .dead), (33, .dead), (36, .dead), (49, .dead), (63, .dead), (75, .dead)], [], 0, []⟩) (by kernel_rfl))) ⟨rfl, rfl⟩
                · rintro _ ⟨rfl, rfl⟩
                  (try dsimp only at h1331)
                  refine W_sound tab_ok mixed 6 _ _ _ ?_
                  simp -implicitDefEqProofs only [go_sem, qa, qb, qc, qd, qe, qf, qg, qh, qi, qj, qk, ↓reduceIte, h1233, h1242, h1244, h1245, h1247, g1248, g1249, g1250, h1251, h1254, h1255]
                  repeat with_reducible refine ⟨by first | kernel_rfl | decide, ?_⟩
                  exact cutQ _ ((Wk_le (.r (.r (.r (.r (.r (.r (.r (.r (.r (.r (.r (.r (.r (.r .nil)))))))))))))) (OLe.refl _)).trans (cmpS_ok (st' := ⟨[], [(0, .v (.int .i64 x1230)), (1, .v (.lst false n1234 c1235)), (2, .v (.int .i64 x1232)), (6, .dead), (7, .v (.int .i64 (IntKind.i64.wrap (x1246 + 1)))), (8, .dead), (11, .dead), (15, .dead), (19, .dead), (33, .dead), (36, .dead), (49, .dead), (63, .dead), (75, .dead)], [], 0, []⟩) (by kernel_rfl))) ⟨n, Nat.lt_succ_self n, _, h1331, rfl⟩
          · refine W_sound tab_ok mixed 10 _ _ _ ?_
            simp -implicitDefEqProofs only [go_sem, qa, qb, qc, qd, qe, qf, qg, qh, qi, qj, qk, ↓reduceIte, h1233, h1242, h1244, h1245, h1247]
            repeat with_reducible refine ⟨by first | kernel_rfl | decide, ?_⟩
            obtain rfl := Option.some.inj h1327
            exact cutQ _ ((Wk_le (.k (.k (.k (.r (.k (.r (.r (.r (.k (.r (.r (.r (.r (.r .nil)))))))))))))) (OLe.refl _)).trans (cmpS_ok (st' := ⟨[], [(0, .dead), (1, .dead), (2, .dead), (6, .dead), (7, .dead), (8, .dead), (11, .dead), (15, .dead), (19, .dead), (33, .dead), (36, .dead), (49, .dead), (63, .dead), (75, .dead)], [], 0, []⟩) (by kernel_rfl))) ⟨rfl, rfl⟩
      · rintro _ ⟨rfl, rfl⟩
        (try dsimp only at h1328)
        refine W_sound tab_ok mixed 6 _ _ _ ?_
        simp -implicitDefEqProofs only [go_sem, qa, qb, qc, qd, qe, qf, qg, qh, qi, qj, qk, ↓reduceIte, h1233, h1242, h1244, h1245]
        repeat with_reducible refine ⟨by first | kernel_rfl | decide, ?_⟩
        obtain rfl := Option.some.inj h1328
        exact finC [(6, .v (.int .i64 0))] [(6, .v (.int .i64 0))] (by simp [leE, lk_cons]) (.cons _ _ _ _ _ (.v _ _ (.refl _)) .nil) (by rfl) (by simp [leE, lk_cons]) (by decide) (by decide) rfl (by simp only [go_sem, qa, qb, qc, qd, qe, qf, qg, qh, qi, qj, qk, ↓reduceIte, resQ_tmp, resQ_cell, resQ_nil, retD_one, retD_two, retD_three, retD_none]; try simp [R.val, retD_one, retD_two, retD_three, retD_none])
  · refine W_sound tab_ok mixed 9 _ _ _ ?_
    simp -implicitDefEqProofs only [go_sem, qa, qb, qc, qd, qe, qf, qg, qh, qi, qj, qk, ↓reduceIte, h1233, h1242, h1244]
    repeat with_reducible refine ⟨by first | kernel_rfl | decide, ?_⟩
    obtain rfl := Option.some.inj h
    exact finC [(6, .v (.int .i64 1))] [(6, .v (.int .i64 1))] (by simp [leE, lk_cons]) (.cons _ _ _ _ _ (.v _ _ (.refl _)) .nil) (by rfl) (by simp [leE, lk_cons]) (by decide) (by decide) rfl (by simp only [go_sem, qa, qb, qc, qd, qe, qf, qg, qh, qi, qj, qk, ↓reduceIte, resQ_tmp, resQ_cell, resQ_nil, retD_one, retD_two, retD_three, retD_none]; try simp [R.val, retD_one, retD_two, retD_three, retD_none])
def m91_L0 (N : Nat) (rec : Int → PV → Option (PV)) (x1475 : Int) (n1478 : Nat) (c1479 : List PV) : Nat → Nat → Int → List PV → Option ((Nat × List PV))
  | 0, _, _, _ => none
  | n + 1, n1535, x1536, c1537 =>
    brn (decide (x1536 < x1475)) (
      bnd' (m92 N (.lst false n1478 c1479) x1536) fun p1539 =>
      getB p1539 fun b1542 =>
      brn b1542 (
        m91_L0 N rec x1475 n1478 c1479 n n1535 (IntKind.i64.wrap (x1536 + 1)) c1537) (
        grd (List.length c1479 = n1478) <|
        brn (decide (0 < n1478)) (
          grd (n1478 ≤ 1099511627776) <|
          grd ((n1478 + 1) ≤ 1099511627776) <|
          bnd' (rec x1475 (.lst false (n1478 + 1) (c1479 ++ [(.int .i64 x1536)]))) fun p1548 =>
          getL p1548 fun n1551 c1552 =>
          grd (List.length c1552 = n1551) <|
          grd ((n1535 + n1551) ≤ 1099511627776) <|
          grd (List.length c1537 = n1535) <|
          m91_L0 N rec x1475 n1478 c1479 n (n1535 + n1551) (IntKind.i64.wrap (x1536 + 1)) (c1537 ++ c1552)) (
          grd (n1478 ≤ 1099511627776) <|
          grd ((n1478 + 1) ≤ 1099511627776) <|
          bnd' (rec x1475 (.lst false (n1478 + 1) (c1479 ++ [(.int .i64 x1536)]))) fun p1558 =>
          getL p1558 fun n1561 c1562 =>
          grd (List.length c1562 = n1561) <|
          grd ((n1535 + n1561) ≤ 1099511627776) <|
          grd (List.length c1537 = n1535) <|
          m91_L0 N rec x1475 n1478 c1479 n (n1535 + n1561) (IntKind.i64.wrap (x1536 + 1)) (c1537 ++ c1562)))) (
      some (n1535, c1537))
def m91 (N : Nat) : Nat → Int → PV → Option (PV)
  | 0, _, _ => none
  | fu + 1, x1475, p1476 =>
    getL p1476 fun n1478 c1479 =>
    brn (((n1478 : Nat) : Int) == x1475) (
      some (.lst false 1 [(.lst false n1478 c1479)])) (
      bnd' (m91_L0 N (m91 N fu) x1475 n1478 c1479 N 0 0 []) fun o =>
      match o with
      | (n1566, c1567) =>
        grd (List.length c1567 = n1566) <|
        some (.lst false n1566 c1567))
theorem c91 (N : Nat) : ∀ (fu : Nat) (x1475 : Int) (p1476 : PV) (r : PV)  (h : m91 N fu x1475 p1476 = some r), FnP Tryd.prog 91 [(.int .i64 x1475), p1476] r := by
  intro fu
  induction fu with
  | zero => intro x1475 p1476 r h; cases h
  | succ fu ih =>
    intro x1475 p1476 r h
    rw [m91] at h
    refine Fn_of (sz := 33) tab_ok [0, 1, 4, 5, 6, 10, 15, 21] [.tmp 4] Tryd.func91 rfl rfl rfl (by simp) ?_
    simp only [initSt, initEnv, List.map_cons, List.map_nil, List.getD_cons_zero, List.getD_cons_succ, List.getD_nil]
    have hh := getL_some h; clear h; obtain ⟨n1478, c1479, h1477, h⟩ := hh
    have hh := brn_some h; clear h; rcases hh with ⟨h1480, h⟩ | ⟨h1480, h⟩
    · refine W_sound tab_ok mixed 21 _ _ _ ?_
      simp -implicitDefEqProofs only [go_sem, qa, qb, qc, qd, qe, qf, qg, qh, qi, qj, qk, ↓reduceIte, h1477, h1480]
      repeat with_reducible refine ⟨by first | kernel_rfl | decide, ?_⟩
      refine FinQ_wk (Wk_freeze 12 [(.lst false n1478 c1479)] (by rfl) (by decide) (by decide)) ?_
      simp -implicitDefEqProofs only [go_sem, qa, qb, qc, qd, qe, qf, qg, qh, qi, qj, qk, ↓reduceIte, h1477, h1480]
      obtain rfl := Option.some.inj h
      exact finC [(4, .v (.lst true 1 [(.lst false n1478 c1479)]))] [(4, .v (.lst false 1 [(.lst false n1478 c1479)]))] (by simp [leE, lk_cons]) (.cons _ _ _ _ _ (.v _ _ (.lst true false _ _ _ (fun h => by first | exact h | cases h) (PLes.refl _))) .nil) (by rfl) (by simp [leE, lk_cons]) (by decide) (by decide) rfl (by simp only [go_sem, qa, qb, qc, qd, qe, qf, qg, qh, qi, qj, qk, ↓reduceIte, resQ_tmp, resQ_cell, resQ_nil, retD_one, retD_two, retD_three, retD_none]; try simp [R.val, retD_one, retD_two, retD_three, retD_none])
    · refine W_sound tab_ok mixed 23 _ _ _ ?_
      simp -implicitDefEqProofs only [go_sem, qa, qb, qc, qd, qe, qf, qg, qh, qi, qj, qk, ↓reduceIte, h1477, h1480]
      repeat with_reducible refine ⟨by first | kernel_rfl | decide, ?_⟩
      refine Wp_weaken (Wk_ownS 5 1 rfl (by decide) (by decide)) ?_
      simp -implicitDefEqProofs only [go_sem, qa, qb, qc, qd, qe, qf, qg, qh, qi, qj, qk, ↓reduceIte, h1477, h1480]
      have hh := bnd'_some h; clear h; obtain ⟨o1569, h1570, h1571⟩ := hh
      refine Wp_cut (fun s => ∃ n1566, ∃ c1567, (n1566, c1567) = o1569 ∧ s = ⟨[], [(0, .dead), (1, .dead), (4, .dead), (5, .sl false 0 0 n1566 1), (6, .dead), (10, .dead), (15, .dead), (21, .dead)], [(0, .p c1567)], 1, []⟩) ?_ ?_
      · refine Wp_block ?_
        refine Wp_loopG (fun n s => ∃ n1535, ∃ x1536, ∃ c1537, m91_L0 N (m91 N fu) x1475 n1478 c1479 n n1535 x1536 c1537 = some o1569 ∧ s = ⟨[], [(0, .v (.int .i64 x1475)), (1, .v (.lst false n1478 c1479)), (4, .dead), (5, .sl false 0 0 n1535 1), (6, .v (.int .i64 x1536)), (10, .dead), (15, .dead), (21, .dead)], [(0, .p c1537)], 1, []⟩) N _ ((Wk_le (.r (.r (.k (.r (.r (.k (.r (.r .nil)))))))) (OLe.refl _)).trans (cmpS_ok (st' := ⟨[], [(0, .v (.int .i64 x1475)), (1, .v (.lst false n1478 c1479)), (4, .dead), (5, .sl false 0 0 0 1), (6, .v (.int .i64 0)), (10, .dead), (15, .dead), (21, .dead)], [(0, .p [])], 1, []⟩) (by kernel_rfl))) ⟨_, _, _, h1570, rfl⟩ ?_
        clear h1570
        rintro n _ ⟨n1535, x1536, c1537, h1570, rfl⟩
        cases n with
        | zero => cases h1570
        | succ n =>
          rw [m91_L0] at h1570
          have hh := brn_some h1570; clear h1570; rcases hh with ⟨h1538, h1570⟩ | ⟨h1538, h1570⟩
          · have hh := bnd'_some h1570; clear h1570; obtain ⟨p1539, h1540, h1570⟩ := hh
            refine W_sound tab_ok mixed 15 _ _ _ ?_
            simp -implicitDefEqProofs only [go_sem, qa, qb, qc, qd, qe, qf, qg, qh, qi, qj, qk, ↓reduceIte, h1477, h1480, h1538]
            repeat with_reducible refine ⟨by first | kernel_rfl | decide, ?_⟩
            refine Wp_callP (c92 N _ _ _ h1540) (by kernel_rfl) rfl rfl rfl rfl (by decide) ?_
            have hh := getB_some h1570; clear h1570; obtain ⟨b1542, h1541, h1570⟩ := hh
            have hh := brn_some h1570; clear h1570; rcases hh with ⟨h1543, h1570⟩ | ⟨h1543, h1570⟩
            · refine W_sound tab_ok mixed 10 _ _ _ ?_
              simp -implicitDefEqProofs only [go_sem, qa, qb, qc, qd, qe, qf, qg, qh, qi, qj, qk, ↓reduceIte, h1477, h1480, h1538, h1541, h1543]
              repeat with_reducible refine ⟨by first | kernel_rfl | decide, ?_⟩
              exact cutQ _ ((Wk_le (.r (.r (.r (.r (.r (.r (.k (.k .nil)))))))) (OLe.refl _)).trans (cmpS_ok (st' := ⟨[], [(0, .v (.int .i64 x1475)), (1, .v (.lst false n1478 c1479)), (4, .dead), (5, .sl false 0 0 n1535 1), (6, .v (.int .i64 (IntKind.i64.wrap (x1536 + 1)))), (10, .dead), (15, .dead), (21, .dead)], [(0, .p c1537)], 1, []⟩) (by kernel_rfl))) ⟨n, Nat.lt_succ_self n, _, _, _, h1570, rfl⟩
            · have hh := grd_some h1570; clear h1570; obtain ⟨g1544, h1570⟩ := hh
              have hh := brn_some h1570; clear h1570; rcases hh with ⟨h1545, h1570⟩ | ⟨h1545, h1570⟩
              · have hh := grd_some h1570; clear h1570; obtain ⟨g1546, h1570⟩ := hh
                have hh := grd_some h1570; clear h1570; obtain ⟨g1547, h1570⟩ := hh
                have hh := bnd'_some h1570; clear h1570; obtain ⟨p1548, h1549, h1570⟩ := hh
                refine W_sound tab_ok mixed 12 _ _ _ ?_
                simp -implicitDefEqProofs only [go_sem, qa, qb, qc, qd, qe, qf, qg, qh, qi, qj, qk, ↓reduceIte, h1477, h1480, h1538, h1541, h1543, g1544, h1545, g1546, g1547]
                repeat with_reducible refine ⟨by first | kernel_rfl | decide, ?_⟩
                refine Wp_callF [(30, (c1479 ++ [(.int .i64 x1536)]))] (ih _ _ _ h1549) (by kernel_rfl) rfl rfl rfl (by simp only [go_sem, qa, qb, qc, qd, qe, qf, qg, qh, qi, qj, qk, ↓reduceIte, h1477, h1480, h1538, h1541, h1543, g1544, h1545, g1546, g1547] <;> rfl) (by decide) rfl (by simp [roF, obL]) rfl ?_
                have hh := getL_some h1570; clear h1570; obtain ⟨n1551, c1552, h1550, h1570⟩ := hh
                have hh := grd_some h1570; clear h1570; obtain ⟨g1553, h1570⟩ := hh
                have hh := grd_some h1570; clear h1570; obtain ⟨g1554, h1570⟩ := hh
                have hh := grd_some h1570; clear h1570; obtain ⟨g1555, h1570⟩ := hh
                refine W_sound tab_ok mixed 9 _ _ _ ?_
                simp -implicitDefEqProofs only [go_sem, qa, qb, qc, qd, qe, qf, qg, qh, qi, qj, qk, ↓reduceIte, h1477, h1480, h1538, h1541, h1543, g1544, h1545, g1546, g1547, h1550, g1553, g1554, g1555]
                repeat with_reducible refine ⟨by first | kernel_rfl | decide, ?_⟩
                exact cutQ _ ((Wk_le (.r (.r (.r (.r (.r (.r (.k (.k .nil)))))))) (OLe.refl _)).trans (cmpS_ok (st' := ⟨[], [(0, .v (.int .i64 x1475)), (1, .v (.lst false n1478 c1479)), (4, .dead), (5, .sl false 0 0 (n1535 + n1551) 1), (6, .v (.int .i64 (IntKind.i64.wrap (x1536 + 1)))), (10, .dead), (15, .dead), (21, .dead)], [(0, .p (c1537 ++ c1552))], 1, []⟩) (by kernel_rfl))) ⟨n, Nat.lt_succ_self n, _, _, _, h1570, rfl⟩
              · have hh := grd_some h1570; clear h1570; obtain ⟨g1556, h1570⟩ := hh
                have hh := grd_some h1570; clear h1570; obtain ⟨g1557, h1570⟩ := hh
                have hh := bnd'_some h1570; clear h1570; obtain ⟨p1558, h1559, h1570⟩ := hh
                refine W_sound tab_ok mixed 12 _ _ _ ?_
                simp -implicitDefEqProofs only [go_sem, qa, qb, qc, qd, qe, qf, qg, qh, qi, qj, qk, ↓reduceIte, h1477, h1480, h1538, h1541, h1543, g1544, h1545, g1556, g1557]
                repeat with_reducible refine ⟨by first | kernel_rfl | decide, ?_⟩
                refine Wp_callF [(30, (c1479 ++ [(.int .i64 x1536)]))] (ih _ _ _ h1559) (by kernel_rfl) rfl rfl rfl (by simp only [go_sem, qa, qb, qc, qd, qe, qf, qg, qh, qi, qj, qk, ↓reduceIte, h1477, h1480, h1538, h1541, h1543, g1544, h1545, g1556, g1557] <;> rfl) (by decide) rfl (by simp [roF, obL]) rfl ?_
                have hh := getL_some h1570; clear h1570; obtain ⟨n1561, c1562, h1560, h1570⟩ := hh
                have hh := grd_some h1570; clear h1570; obtain ⟨g1563, h1570⟩ := hh
                have hh := grd_some h1570; clear h1570; obtain ⟨g1564, h1570⟩ := hh
                have hh := grd_some h1570; clear h1570; obtain ⟨g1565, h1570⟩ := hh
                refine W_sound tab_ok mixed 9 _ _ _ ?_
                simp -implicitDefEqProofs only [go_sem, qa, qb, qc, qd, qe, qf, qg, qh, qi, qj, qk, ↓reduceIte, h1477, h1480, h1538, h1541, h1543, g1544, h1545, g1556, g1557, h1560, g1563, g1564, g1565]
                repeat with_reducible refine ⟨by first | kernel_rfl | decide, ?_⟩
                exact cutQ _ ((Wk_le (.r (.r (.r (.r (.r (.r (.k (.k .nil)))))))) (OLe.refl _)).trans (cmpS_ok (st' := ⟨[], [(0, .v (.int .i64 x1475)), (1, .v (.lst false n1478 c1479)), (4, .dead), (5, .sl false 0 0 (n1535 + n1561) 1), (6, .v (.int .i64 (IntKind.i64.wrap (x1536 + 1)))), (10, .dead), (15, .dead), (21, .dead)], [(0, .p (c1537 ++ c1562))], 1, []⟩) (by kernel_rfl))) ⟨n, Nat.lt_succ_self n, _, _, _, h1570, rfl⟩
          · refine W_sound tab_ok mixed 9 _ _ _ ?_
            simp -implicitDefEqProofs only [go_sem, qa, qb, qc, qd, qe, qf, qg, qh, qi, qj, qk, ↓reduceIte, h1477, h1480, h1538]
            repeat with_reducible refine ⟨by first | kernel_rfl | decide, ?_⟩
            obtain rfl := Option.some.inj h1570
            exact cutQ _ ((Wk_le (.k (.k (.r (.r (.k (.r (.k (.r .nil)))))))) (OLe.refl _)).trans (cmpS_ok (st' := ⟨[], [(0, .dead), (1, .dead), (4, .dead), (5, .sl false 0 0 n1535 1), (6, .dead), (10, .dead), (15, .dead), (21, .dead)], [(0, .p c1537)], 1, []⟩) (by kernel_rfl))) ⟨_, _, rfl, rfl⟩
      · rintro _ ⟨n1566, c1567, rfl, rfl⟩
        (try dsimp only at h1571)
        refine W_sound tab_ok mixed 7 _ _ _ ?_
        simp -implicitDefEqProofs only [go_sem, qa, qb, qc, qd, qe, qf, qg, qh, qi, qj, qk, ↓reduceIte, h1477, h1480]
        repeat with_reducible refine ⟨by first | kernel_rfl | decide, ?_⟩
        have hh := grd_some h1571; clear h1571; obtain ⟨g1568, h1571⟩ := hh
        refine FinQ_wk (Wk_freeze 0 c1567 (by rfl) (by decide) (by decide)) ?_
        simp -implicitDefEqProofs only [go_sem, qa, qb, qc, qd, qe, qf, qg, qh, qi, qj, qk, ↓reduceIte, h1477, h1480, g1568]
        obtain rfl := Option.some.inj h1571
        exact finC [(4, .v (.lst false n1566 c1567))] [(4, .v (.lst false n1566 c1567))] (by simp [leE, lk_cons]) (.cons _ _ _ _ _ (.v _ _ (.refl _)) .nil) (by rfl) (by simp [leE, lk_cons]) (by decide) (by decide) rfl (by simp only [go_sem, qa, qb, qc, qd, qe, qf, qg, qh, qi, qj, qk, ↓reduceIte, resQ_tmp, resQ_cell, resQ_nil, retD_one, retD_two, retD_three, retD_none]; try simp [R.val, retD_one, retD_two, retD_three, retD_none])
def m86_L0 (N : Nat) (x1244 : Int) (n1246 : Nat) (c1247 : List PV) : Nat → Int → Option ((PV ⊕ Unit))
  | 0, _ => none
  | n + 1, x1248 =>
    brn (decide (x1248 < ((n1246 : Nat) : Int))) (
      grd (0 ≤ x1248 ∧ x1248 < ((n1246 : Nat) : Int)) <|
      grd (0 < List.length (List.drop (Int.toNat x1248) c1247)) <|
      getI .i64 (gp c1247 (Int.toNat x1248)) fun x1254 =>
      brn (x1244 == x1254) (
        some (.inl (.int .i64 x1248))) (
        m86_L0 N x1244 n1246 c1247 n (IntKind.i64.wrap (x1248 + 1)))) (
      some (.inr ()))
def m86 (N : Nat) (p1243 : PV) (x1244 : Int) : Option (PV) :=
  getL p1243 fun n1246 c1247 =>
  bnd' (m86_L0 N x1244 n1246 c1247 N 0) fun o =>
  match o with
  | .inl p1256 =>
    some p1256
  | .inr () =>
    some (.int .i64 (-1))
theorem c86 (N : Nat) (p1243 : PV) (x1244 : Int) (r : PV)  (h : m86 N p1243 x1244 = some r) : FnP Tryd.prog 86 [p1243, (.int .i64 x1244)] r := by
  unfold m86 at h
  refine Fn_of (sz := 19) tab_ok [0, 1, 4, 5, 7, 8, 9, 16] [.tmp 4] Tryd.func86 rfl rfl rfl (by simp) ?_
  simp only [initSt, initEnv, List.map_cons, List.map_nil, List.getD_cons_zero, List.getD_cons_succ, List.getD_nil]
  have hh := getL_some h; clear h; obtain ⟨n1246, c1247, h1245, h⟩ := hh
  refine W_sound tab_ok mixed 11 _ _ _ ?_
  simp -implicitDefEqProofs only [go_sem, qa, qb, qc, qd, qe, qf, qg, qh, qi, qj, qk, ↓reduceIte, h1245]
  repeat with_reducible refine ⟨by first | kernel_rfl | decide, ?_⟩
  have hh := bnd'_some h; clear h; obtain ⟨o1257, h1258, h1259⟩ := hh
  refine Wp_cut (fun s => (.inr ()) = o1257 ∧ s = ⟨[], [(0, .dead), (1, .dead), (4, .dead), (5, .dead), (7, .dead), (8, .dead), (9, .dead), (16, .dead)], [], 0, []⟩) ?_ ?_
  · refine Wp_block ?_
    refine Wp_loopG (fun n s => ∃ x1248, m86_L0 N x1244 n1246 c1247 n x1248 = some o1257 ∧ s = ⟨[], [(0, .v (.lst false n1246 c1247)), (1, .v (.int .i64 x1244)), (4, .dead), (5, .dead), (7, .v (.int .i64 ((n1246 : Nat) : Int))), (8, .v (.int .i64 x1248)), (9, .dead), (16, .dead)], [], 0, []⟩) N _ ((Wk_le (.r (.r (.k (.r (.r (.r (.r (.r .nil)))))))) (OLe.refl _)).trans (cmpS_ok (st' := ⟨[], [(0, .v (.lst false n1246 c1247)), (1, .v (.int .i64 x1244)), (4, .dead), (5, .dead), (7, .v (.int .i64 ((n1246 : Nat) : Int))), (8, .v (.int .i64 0)), (9, .dead), (16, .dead)], [], 0, []⟩) (by kernel_rfl))) ⟨_, h1258, rfl⟩ ?_
    clear h1258
    rintro n _ ⟨x1248, h1258, rfl⟩
    cases n with
    | zero => cases h1258
    | succ n =>
      rw [m86_L0] at h1258
      have hh := brn_some h1258; clear h1258; rcases hh with ⟨h1249, h1258⟩ | ⟨h1249, h1258⟩
      · have hh := grd_some h1258; clear h1258; obtain ⟨⟨g1250, g1251⟩, h1258⟩ := hh
        have hh := grd_some h1258; clear h1258; obtain ⟨g1252, h1258⟩ := hh
        have hh := getI_some h1258; clear h1258; obtain ⟨x1254, h1253, h1258⟩ := hh
        have hh := brn_some h1258; clear h1258; rcases hh with ⟨h1255, h1258⟩ | ⟨h1255, h1258⟩
        · refine W_sound tab_ok mixed 31 _ _ _ ?_
          simp -implicitDefEqProofs only [go_sem, qa, qb, qc, qd, qe, qf, qg, qh, qi, qj, qk, ↓reduceIte, h1245, h1249, g1250, g1251, g1252, h1253, h1255]
          repeat with_reducible refine ⟨by first | kernel_rfl | decide, ?_⟩
          obtain rfl := Option.some.inj h1258
          (try dsimp only at h1259)
          obtain rfl := Option.some.inj h1259
          exact finC [(4, .v (.int .i64 x1248))] [(4, .v (.int .i64 x1248))] (by simp [leE, lk_cons]) (.cons _ _ _ _ _ (.v _ _ (.refl _)) .nil) (by rfl) (by simp [leE, lk_cons]) (by decide) (by decide) rfl (by simp only [go_sem, qa, qb, qc, qd, qe, qf, qg, qh, qi, qj, qk, ↓reduceIte, resQ_tmp, resQ_cell, resQ_nil, retD_one, retD_two, retD_three, retD_none]; try simp [R.val, retD_one, retD_two, retD_three, retD_none])
        · refine W_sound tab_ok mixed 30 _ _ _ ?_
          simp -implicitDefEqProofs only [go_sem, qa, qb, qc, qd, qe, qf, qg, qh, qi, qj, qk, ↓reduceIte, h1245, h1249, g1250, g1251, g1252, h1253, h1255]
          repeat with_reducible refine ⟨by first | kernel_rfl | decide, ?_⟩
          exact cutQ _ ((Wk_le (.r (.r (.r (.k (.r (.r (.k (.k .nil)))))))) (OLe.refl _)).trans (cmpS_ok (st' := ⟨[], [(0, .v (.lst false n1246 c1247)), (1, .v (.int .i64 x1244)), (4, .dead), (5, .dead), (7, .v (.int .i64 ((n1246 : Nat) : Int))), (8, .v (.int .i64 (IntKind.i64.wrap (x1248 + 1)))), (9, .dead), (16, .dead)], [], 0, []⟩) (by kernel_rfl))) ⟨n, Nat.lt_succ_self n, _, h1258, rfl⟩
      · refine W_sound tab_ok mixed 7 _ _ _ ?_
        simp -implicitDefEqProofs only [go_sem, qa, qb, qc, qd, qe, qf, qg, qh, qi, qj, qk, ↓reduceIte, h1245, h1249]
        repeat with_reducible refine ⟨by first | kernel_rfl | decide, ?_⟩
        obtain rfl := Option.some.inj h1258
        exact cutQ _ ((Wk_le (.k (.k (.r (.r (.k (.k (.k (.r .nil)))))))) (OLe.refl _)).trans (cmpS_ok (st' := ⟨[], [(0, .dead), (1, .dead), (4, .dead), (5, .dead), (7, .dead), (8, .dead), (9, .dead), (16, .dead)], [], 0, []⟩) (by kernel_rfl))) ⟨rfl, rfl⟩
  · rintro _ ⟨rfl, rfl⟩
    (try dsimp only at h1259)
    refine W_sound tab_ok mixed 6 _ _ _ ?_
    simp -implicitDefEqProofs only [go_sem, qa, qb, qc, qd, qe, qf, qg, qh, qi, qj, qk, ↓reduceIte, h1245]
    repeat with_reducible refine ⟨by first | kernel_rfl | decide, ?_⟩
    obtain rfl := Option.some.inj h1259
    exact finC [(4, .v (.int .i64 (-1)))] [(4, .v (.int .i64 (-1)))] (by simp [leE, lk_cons]) (.cons _ _ _ _ _ (.v _ _ (.refl _)) .nil) (by rfl) (by simp [leE, lk_cons]) (by decide) (by decide) rfl (by simp only [go_sem, qa, qb, qc, qd, qe, qf, qg, qh, qi, qj, qk, ↓reduceIte, resQ_tmp, resQ_cell, resQ_nil, retD_one, retD_two, retD_three, retD_none]; try simp [R.val, retD_one, retD_two, retD_three, retD_none])
def m57 (N : Nat) (p1238 : PV) (x1239 : Int) : Option (PV) :=
  getL p1238 fun n1241 c1242 =>
  bnd' (m86 N (.lst false n1241 c1242) x1239) fun p1260 =>
  getI .i64 p1260 fun x1263 =>
  some (.bool (decide (x1263 ≥ 0)))
theorem c57 (N : Nat) (p1238 : PV) (x1239 : Int) (r : PV)  (h : m57 N p1238 x1239 = some r) : FnP Tryd.prog 57 [p1238, (.int .i64 x1239)] r := by
  unfold m57 at h
  refine Fn_of (sz := 9) tab_ok [0, 1, 4] [.tmp 4] Tryd.func57 rfl rfl rfl (by simp) ?_
  simp only [initSt, initEnv, List.map_cons, List.map_nil, List.getD_cons_zero, List.getD_cons_succ, List.getD_nil]
  have hh := getL_some h; clear h; obtain ⟨n1241, c1242, h1240, h⟩ := hh
  have hh := bnd'_some h; clear h; obtain ⟨p1260, h1261, h⟩ := hh
  refine W_sound tab_ok mixed 8 _ _ _ ?_
  simp -implicitDefEqProofs only [go_sem, qa, qb, qc, qd, qe, qf, qg, qh, qi, qj, qk, ↓reduceIte, h1240]
  repeat with_reducible refine ⟨by first | kernel_rfl | decide, ?_⟩
  refine Wp_callP (c86 N _ _ _ h1261) (by kernel_rfl) rfl rfl rfl rfl (by decide) ?_
  have hh := getI_some h; clear h; obtain ⟨x1263, h1262, h⟩ := hh
  refine W_sound tab_ok mixed 5 _ _ _ ?_
  simp -implicitDefEqProofs only [go_sem, qa, qb, qc, qd, qe, qf, qg, qh, qi, qj, qk, ↓reduceIte, h1240, h1262]
  repeat with_reducible refine ⟨by first | kernel_rfl | decide, ?_⟩
  obtain rfl := Option.some.inj h
  exact finC [(4, .v (.bool (decide (x1263 ≥ 0))))] [(4, .v (.bool (decide (x1263 ≥ 0))))] (by simp [leE, lk_cons]) (.cons _ _ _ _ _ (.v _ _ (.refl _)) .nil) (by rfl) (by simp [leE, lk_cons]) (by decide) (by decide) rfl (by simp only [go_sem, qa, qb, qc, qd, qe, qf, qg, qh, qi, qj, qk, ↓reduceIte, resQ_tmp, resQ_cell, resQ_nil, retD_one, retD_two, retD_three, retD_none]; try simp [R.val, retD_one, retD_two, retD_three, retD_none])
def m83 (N : Nat) (x1235 : Int) (p1236 : PV) : Option (((Int × Int) ⊕ (Int × Int × List PV))) :=
  getL p1236 fun n1238 c1239 =>
  brn (decide (((n1238 : Nat) : Int) > 0)) (
    grd (0 < ((n1238 : Nat) : Int)) <|
    grd (0 < List.length c1239) <|
    getL (gp c1239 0) fun n1244 c1245 =>
    bnd' (m61 N x1235 (.lst false n1238 c1239) ((n1244 : Nat) : Int)) fun o =>
    match o with
    | .inl x1247 =>
      some (.inl (((n1244 : Nat) : Int), x1247))
    | .inr (x1250, c1251) =>
      some (.inr (((n1244 : Nat) : Int), x1250, c1251))) (
    bnd' (m61 N x1235 (.lst false n1238 c1239) 0) fun o =>
    match o with
    | .inl x1256 =>
      some (.inl (0, x1256))
    | .inr (x1259, c1260) =>
      some (.inr (0, x1259, c1260)))
theorem c83 (N : Nat) (x1235 : Int) (p1236 : PV) (r : ((Int × Int) ⊕ (Int × Int × List PV)))  (h : m83 N x1235 p1236 = some r) : V.Fn Tryd.prog 83 0 [.v (.int .i64 x1235), .v p1236] [] (fun d ob' => match (generalizing := false) r with | .inl (x1248, x1249) => d = .v (.tup [(.fn 999999 [.bool true]), (.int .i64 x1248), (.int .i64 x1249)]) ∧ ob' = [] | .inr (x1252, x1253, c1254) => d = .tup [.ptr 0 0, .v (.int .i64 x1252), .v (.int .i64 x1253)] ∧ ob' = [(0, .p c1254)]) := by
  unfold m83 at h
  refine Fn_of (sz := 27) tab_ok [0, 1, 4, 5, 6, 7, 8, 9, 12] [.tmp 4, .tmp 5, .tmp 6] Tryd.func83 rfl rfl rfl (by simp) ?_
  simp only [initSt, initEnv, List.map_cons, List.map_nil, List.getD_cons_zero, List.getD_cons_succ, List.getD_nil]
  have hh := getL_some h; clear h; obtain ⟨n1238, c1239, h1237, h⟩ := hh
  have hh := brn_some h; clear h; rcases hh with ⟨h1240, h⟩ | ⟨h1240, h⟩
  · have hh := grd_some h; clear h; obtain ⟨g1241, h⟩ := hh
    have hh := grd_some h; clear h; obtain ⟨g1242, h⟩ := hh
    have hh := getL_some h; clear h; obtain ⟨n1244, c1245, h1243, h⟩ := hh
    have hh := bnd'_some h; clear h; obtain ⟨oo, h1246, h⟩ := hh
    rcases oo with x1247 | ⟨x1250, c1251⟩
    · (try dsimp only at h)
      refine W_sound tab_ok mixed 30 _ _ _ ?_
      simp -implicitDefEqProofs only [go_sem, qa, qb, qc, qd, qe, qf, qg, qh, qi, qj, qk, ↓reduceIte, h1237, h1240, g1241, g1242, h1243]
      repeat with_reducible refine ⟨by first | kernel_rfl | decide, ?_⟩
      refine Wp_callD [] (c61_a N _ _ _ _ h1246) rfl rfl rfl (by first | rfl | (simp only [go_sem, qa, qb, qc, qd, qe, qf, qg, qh, qi, qj, qk, ↓reduceIte, h1237, h1240, g1241, g1242, h1243] <;> rfl)) rfl (by kernel_rfl) ?_
      refine W_sound tab_ok mixed 17 _ _ _ ?_
      simp -implicitDefEqProofs only [go_sem, qa, qb, qc, qd, qe, qf, qg, qh, qi, qj, qk, ↓reduceIte, h1237, h1240, g1241, g1242, h1243]
      repeat with_reducible refine ⟨by first | kernel_rfl | decide, ?_⟩
      obtain rfl := Option.some.inj h
      exact finD (e2 := [(0, .dead), (1, .dead), (4, .v (.fn 999999 [.bool true])), (5, .v (.int .i64 ((n1244 : Nat) : Int))), (6, .v (.int .i64 x1247)), (7, .dead), (8, .dead), (9, .dead), (12, .dead)]) (ob2 := []) (st' := ⟨[], [(0, .dead), (1, .dead), (4, .v (.fn 999999 [.bool true])), (5, .v (.int .i64 ((n1244 : Nat) : Int))), (6, .v (.int .i64 x1247)), (7, .dead), (8, .dead), (9, .dead), (12, .dead)], [], 0, []⟩) (.k (.k (.r (.r (.r (.k (.k (.k (.k .nil))))))))) .nil (by kernel_rfl) (by simp only [go_sem, qa, qb, qc, qd, qe, qf, qg, qh, qi, qj, qk, ↓reduceIte, resQ_tmp, resQ_cell, resQ_nil, retD_one, retD_two, retD_three, retD_none] <;> first | rfl | exact ⟨rfl, rfl⟩ | (try simp [R.val, retD_one, retD_two, retD_three, retD_none]))
    · (try dsimp only at h)
      refine W_sound tab_ok mixed 30 _ _ _ ?_
      simp -implicitDefEqProofs only [go_sem, qa, qb, qc, qd, qe, qf, qg, qh, qi, qj, qk, ↓reduceIte, h1237, h1240, g1241, g1242, h1243]
      repeat with_reducible refine ⟨by first | kernel_rfl | decide, ?_⟩
      refine Wp_callD [] (c61_b N _ _ _ _ _ h1246) rfl rfl rfl (by first | rfl | (simp only [go_sem, qa, qb, qc, qd, qe, qf, qg, qh, qi, qj, qk, ↓reduceIte, h1237, h1240, g1241, g1242, h1243] <;> rfl)) rfl (by kernel_rfl) ?_
      refine W_sound tab_ok mixed 17 _ _ _ ?_
      simp -implicitDefEqProofs only [go_sem, qa, qb, qc, qd, qe, qf, qg, qh, qi, qj, qk, ↓reduceIte, h1237, h1240, g1241, g1242, h1243]
      repeat with_reducible refine ⟨by first | kernel_rfl | decide, ?_⟩
      obtain rfl := Option.some.inj h
      exact finD (e2 := [(0, .dead), (1, .dead), (4, .ptr 21 0), (5, .v (.int .i64 ((n1244 : Nat) : Int))), (6, .v (.int .i64 x1250)), (7, .dead), (8, .dead), (9, .dead), (12, .dead)]) (ob2 := [(21, .p c1251)]) (st' := ⟨[], [(0, .dead), (1, .dead), (4, .ptr 0 0), (5, .v (.int .i64 ((n1244 : Nat) : Int))), (6, .v (.int .i64 x1250)), (7, .dead), (8, .dead), (9, .dead), (12, .dead)], [(0, .p c1251)], 1, []⟩) (.k (.k (.r (.r (.r (.k (.k (.k (.k .nil))))))))) (.cons _ _ _ _ _ (DLes.refl _) .nil) (by kernel_rfl) (by simp only [go_sem, qa, qb, qc, qd, qe, qf, qg, qh, qi, qj, qk, ↓reduceIte, resQ_tmp, resQ_cell, resQ_nil, retD_one, retD_two, retD_three, retD_none] <;> first | rfl | exact ⟨rfl, rfl⟩ | (try simp [R.val, retD_one, retD_two, retD_three, retD_none]))
  · have hh := bnd'_some h; clear h; obtain ⟨oo, h1255, h⟩ := hh
    rcases oo with x1256 | ⟨x1259, c1260⟩
    · (try dsimp only at h)
      refine W_sound tab_ok mixed 24 _ _ _ ?_
      simp -implicitDefEqProofs only [go_sem, qa, qb, qc, qd, qe, qf, qg, qh, qi, qj, qk, ↓reduceIte, h1237, h1240]
      repeat with_reducible refine ⟨by first | kernel_rfl | decide, ?_⟩
      refine Wp_callD [] (c61_a N _ _ _ _ h1255) rfl rfl rfl (by first | rfl | (simp only [go_sem, qa, qb, qc, qd, qe, qf, qg, qh, qi, qj, qk, ↓reduceIte, h1237, h1240] <;> rfl)) rfl (by kernel_rfl) ?_
      refine W_sound tab_ok mixed 17 _ _ _ ?_
      simp -implicitDefEqProofs only [go_sem, qa, qb, qc, qd, qe, qf, qg, qh, qi, qj, qk, ↓reduceIte, h1237, h1240]
      repeat with_reducible refine ⟨by first | kernel_rfl | decide, ?_⟩
      obtain rfl := Option.some.inj h
      exact finD (e2 := [(0, .dead), (1, .dead), (4, .v (.fn 999999 [.bool true])), (5, .v (.int .i64 0)), (6, .v (.int .i64 x1256)), (7, .dead), (8, .dead), (9, .dead), (12, .dead)]) (ob2 := []) (st' := ⟨[], [(0, .dead), (1, .dead), (4, .v (.fn 999999 [.bool true])), (5, .v (.int .i64 0)), (6, .v (.int .i64 x1256)), (7, .dead), (8, .dead), (9, .dead), (12, .dead)], [], 0, []⟩) (.k (.k (.r (.r (.r (.k (.k (.k (.k .nil))))))))) .nil (by kernel_rfl) (by simp only [go_sem, qa, qb, qc, qd, qe, qf, qg, qh, qi, qj, qk, ↓reduceIte, resQ_tmp, resQ_cell, resQ_nil, retD_one, retD_two, retD_three, retD_none] <;> first | rfl | exact ⟨rfl, rfl⟩ | (try simp [R.val, retD_one, retD_two, retD_three, retD_none]))
    · (try dsimp only at h)
      refine W_sound tab_ok mixed 24 _ _ _ ?_
      simp -implicitDefEqProofs only [go_sem, qa, qb, qc, qd, qe, qf, qg, qh, qi, qj, qk, ↓reduceIte, h1237, h1240]
      repeat with_reducible refine ⟨by first | kernel_rfl | decide, ?_⟩
      refine Wp_callD [] (c61_b N _ _ _ _ _ h1255) rfl rfl rfl (by first | rfl | (simp only [go_sem, qa, qb, qc, qd, qe, qf, qg, qh, qi, qj, qk, ↓reduceIte, h1237, h1240] <;> rfl)) rfl (by kernel_rfl) ?_
      refine W_sound tab_ok mixed 17 _ _ _ ?_
      simp -implicitDefEqProofs only [go_sem, qa, qb, qc, qd, qe, qf, qg, qh, qi, qj, qk, ↓reduceIte, h1237, h1240]
      repeat with_reducible refine ⟨by first | kernel_rfl | decide, ?_⟩
      obtain rfl := Option.some.inj h
      exact finD (e2 := [(0, .dead), (1, .dead), (4, .ptr 21 0), (5, .v (.int .i64 0)), (6, .v (.int .i64 x1259)), (7, .dead), (8, .dead), (9, .dead), (12, .dead)]) (ob2 := [(21, .p c1260)]) (st' := ⟨[], [(0, .dead), (1, .dead), (4, .ptr 0 0), (5, .v (.int .i64 0)), (6, .v (.int .i64 x1259)), (7, .dead), (8, .dead), (9, .dead), (12, .dead)], [(0, .p c1260)], 1, []⟩) (.k (.k (.r (.r (.r (.k (.k (.k (.k .nil))))))))) (.cons _ _ _ _ _ (DLes.refl _) .nil) (by kernel_rfl) (by simp only [go_sem, qa, qb, qc, qd, qe, qf, qg, qh, qi, qj, qk, ↓reduceIte, resQ_tmp, resQ_cell, resQ_nil, retD_one, retD_two, retD_three, retD_none] <;> first | rfl | exact ⟨rfl, rfl⟩ | (try simp [R.val, retD_one, retD_two, retD_three, retD_none]))
theorem c83_a (N : Nat) (x1235 : Int) (p1236 : PV) (x1248 : Int) (x1249 : Int) (h : m83 N x1235 p1236 = some (.inl (x1248, x1249))) : V.Fn Tryd.prog 83 0 [.v (.int .i64 x1235), .v p1236] [] (fun d ob' => d = .v (.tup [(.fn 999999 [.bool true]), (.int .i64 x1248), (.int .i64 x1249)]) ∧ ob' = []) := c83 N x1235 p1236 _ h
theorem c83_b (N : Nat) (x1235 : Int) (p1236 : PV) (x1252 : Int) (x1253 : Int) (c1254 : List PV) (h : m83 N x1235 p1236 = some (.inr (x1252, x1253, c1254))) : V.Fn Tryd.prog 83 0 [.v (.int .i64 x1235), .v p1236] [] (fun d ob' => d = .tup [.ptr 0 0, .v (.int .i64 x1252), .v (.int .i64 x1253)] ∧ ob' = [(0, .p c1254)]) := c83 N x1235 p1236 _ h
def m81_L1 (N : Nat) (x1230 : Int) (n1233 : Nat) (c1234 : List PV) (x1265 : Int) (n1282 : Nat) (x1283 : Int) (c1284 : List PV) : Nat → Int → Int → Option (Int)
  | 0, _, _ => none
  | n + 1, x1286, x1287 =>
    brn (decide (x1287 < ((n1233 : Nat) : Int))) (
      none) (
      some x1286)
def m81_L0 (N : Nat) (x1230 : Int) (n1233 : Nat) (c1234 : List PV) (x1265 : Int) : Nat → Nat → Int → List PV → Option ((Nat × List PV))
  | 0, _, _, _ => none
  | n + 1, n1282, x1283, c1284 =>
    brn (decide (x1283 < x1230)) (
      bnd' (m81_L1 N x1230 n1233 c1234 x1265 n1282 x1283 c1284 N 0 0) fun x1289 =>
      brn (decide (x1289 < (IntKind.i64.wrap ((IntKind.i64.wrap (((n1233 : Nat) : Int) + x1265)) - x1230)))) (
        grd ((n1282 + 1) ≤ 1099511627776) <|
        grd (List.length c1284 = n1282) <|
        m81_L0 N x1230 n1233 c1234 x1265 n (n1282 + 1) (IntKind.i64.wrap (x1283 + 1)) (c1284 ++ [(.int .i64 x1283)])) (
        m81_L0 N x1230 n1233 c1234 x1265 n n1282 (IntKind.i64.wrap (x1283 + 1)) c1284)) (
      some (n1282, c1284))
def m81_L3 (N : Nat) (x1230 : Int) (n1233 : Nat) (c1234 : List PV) (x1296 : Int) (c1298 : List PV) (n1326 : Nat) (x1327 : Int) (c1328 : List PV) : Nat → Int → Int → Option (Int)
  | 0, _, _ => none
  | n + 1, x1330, x1331 =>
    brn (decide (x1331 < ((n1233 : Nat) : Int))) (
      grd (0 ≤ x1331 ∧ x1331 < 5) <|
      grd ((26 + (Int.toNat x1331)) < List.length c1298) <|
      getI .u64 (gp c1298 (26 + (Int.toNat x1331))) fun x1337 =>
      grd (0 ≤ x1327) <|
      m81_L3 N x1230 n1233 c1234 x1296 c1298 n1326 x1327 c1328 n (IntKind.i64.wrap (x1330 + (IntKind.i64.wrap (bitsI .and .u64 (Int.fdiv x1337 (2 ^ (min (Int.toNat x1327) 64))) 1)))) (IntKind.i64.wrap (x1331 + 1))) (
      some x1330)
def m81_L2 (N : Nat) (x1230 : Int) (n1233 : Nat) (c1234 : List PV) (x1296 : Int) (c1298 : List PV) : Nat → Nat → Int → List PV → Option ((Nat × List PV))
  | 0, _, _, _ => none
  | n + 1, n1326, x1327, c1328 =>
    brn (decide (x1327 < x1230)) (
      bnd' (m81_L3 N x1230 n1233 c1234 x1296 c1298 n1326 x1327 c1328 N 0 0) fun x1339 =>
      brn (decide (x1339 < (IntKind.i64.wrap ((IntKind.i64.wrap (((n1233 : Nat) : Int) + x1296)) - x1230)))) (
        grd ((n1326 + 1) ≤ 1099511627776) <|
        grd (List.length c1328 = n1326) <|
        m81_L2 N x1230 n1233 c1234 x1296 c1298 n (n1326 + 1) (IntKind.i64.wrap (x1327 + 1)) (c1328 ++ [(.int .i64 x1327)])) (
        m81_L2 N x1230 n1233 c1234 x1296 c1298 n n1326 (IntKind.i64.wrap (x1327 + 1)) c1328)) (
      some (n1326, c1328))
def m81 (N : Nat) (x1230 : Int) (p1231 : PV) : Option (PV) :=
  getL p1231 fun n1233 c1234 =>
  bnd' (m83 N x1230 (.lst false n1233 c1234)) fun o =>
  match o with
  | .inl (x1265, x1266) =>
    brn (x1266 != 0) (
      some (.tup [(.lst false 0 []), (.int .i64 x1266)])) (
      bnd' (m81_L0 N x1230 n1233 c1234 x1265 N 0 0 []) fun o =>
      match o with
      | (n1293, c1294) =>
        grd (List.length c1294 = n1293) <|
        some (.tup [(.lst false n1293 c1294), (.int .i64 0)]))
  | .inr (x1296, x1297, c1298) =>
    brn (x1297 != 0) (
      some (.tup [(.lst false 0 []), (.int .i64 x1297)])) (
      bnd' (m81_L2 N x1230 n1233 c1234 x1296 c1298 N 0 0 []) fun o =>
      match o with
      | (n1343, c1344) =>
        grd (List.length c1344 = n1343) <|
        some (.tup [(.lst false n1343 c1344), (.int .i64 0)]))
theorem c81 (N : Nat) (x1230 : Int) (p1231 : PV) (r : PV)  (h : m81 N x1230 p1231 = some r) : FnP Tryd.prog 81 [(.int .i64 x1230), p1231] r := by
  unfold m81 at h
  refine Fn_of (sz := 59) tab_ok [0, 1, 4, 5, 6, 7, 8, 9, 10, 11, 12, 21, 23, 24, 25, 28, 29, 30, 52] [.tmp 4, .tmp 5] Tryd.func81 rfl rfl rfl (by simp) ?_
  simp only [initSt, initEnv, List.map_cons, List.map_nil, List.getD_cons_zero, List.getD_cons_succ, List.getD_nil]
  have hh := getL_some h; clear h; obtain ⟨n1233, c1234, h1232, h⟩ := hh
  have hh := bnd'_some h; clear h; obtain ⟨oo, h1264, h⟩ := hh
  rcases oo with ⟨x1265, x1266⟩ | ⟨x1296, x1297, c1298⟩
  · (try dsimp only at h)
    refine W_sound tab_ok mixed 9 _ _ _ ?_
    simp -implicitDefEqProofs only [go_sem, qa, qb, qc, qd, qe, qf, qg, qh, qi, qj, qk, ↓reduceIte, h1232]
    repeat with_reducible refine ⟨by first | kernel_rfl | decide, ?_⟩
    refine Wp_callD [] (c83_a N _ _ _ _ h1264) rfl rfl rfl (by first | rfl | (simp only [go_sem, qa, qb, qc, qd, qe, qf, qg, qh, qi, qj, qk, ↓reduceIte, h1232] <;> rfl)) rfl (by kernel_rfl) ?_
    have hh := brn_some h; clear h; rcases hh with ⟨h1267, h⟩ | ⟨h1267, h⟩
    · refine W_sound tab_ok mixed 23 _ _ _ ?_
      simp -implicitDefEqProofs only [go_sem, qa, qb, qc, qd, qe, qf, qg, qh, qi, qj, qk, ↓reduceIte, h1232, h1267]
      repeat with_reducible refine ⟨by first | kernel_rfl | decide, ?_⟩
      obtain rfl := Option.some.inj h
      exact finC [(4, .v .nl), (5, .v (.int .i64 x1266))] [(4, .v (.lst false 0 [])), (5, .v (.int .i64 x1266))] (by simp [leE, lk_cons]) (.cons _ _ _ _ _ (.v _ _ (.nl false)) (.cons _ _ _ _ _ (.v _ _ (.refl _)) .nil)) (by rfl) (by simp [leE, lk_cons]) (by decide) (by decide) rfl (by simp only [go_sem, qa, qb, qc, qd, qe, qf, qg, qh, qi, qj, qk, ↓reduceIte, resQ_tmp, resQ_cell, resQ_nil, retD_one, retD_two, retD_three, retD_none]; try simp [R.val, retD_one, retD_two, retD_three, retD_none])
    · refine W_sound tab_ok mixed 26 _ _ _ ?_
      simp -implicitDefEqProofs only [go_sem, qa, qb, qc, qd, qe, qf, qg, qh, qi, qj, qk, ↓reduceIte, h1232, h1267]
      repeat with_reducible refine ⟨by first | kernel_rfl | decide, ?_⟩
      refine Wp_weaken (Wk_ownS 9 1 rfl (by decide) (by decide)) ?_
      simp -implicitDefEqProofs only [go_sem, qa, qb, qc, qd, qe, qf, qg, qh, qi, qj, qk, ↓reduceIte, h1232, h1267]
      have hh := bnd'_some h; clear h; obtain ⟨o1346, h1347, h1348⟩ := hh
      refine Wp_cut (fun s => ∃ n1293, ∃ c1294, (n1293, c1294) = o1346 ∧ s = ⟨[], [(0, .dead), (1, .dead), (4, .dead), (5, .dead), (6, .dead), (7, .dead), (8, .dead), (9, .sl false 0 0 n1293 1), (10, .dead), (11, .dead), (12, .dead), (21, .dead), (23, .dead), (24, .dead), (25, .dead), (28, .dead), (29, .dead), (30, .dead), (52, .dead)], [(0, .p c1294)], 1, []⟩) ?_ ?_
      · refine Wp_block ?_
        refine Wp_loopG (fun n s => ∃ n1282, ∃ x1283, ∃ c1284, m81_L0 N x1230 n1233 c1234 x1265 n n1282 x1283 c1284 = some o1346 ∧ s = ⟨[], [(0, .v (.int .i64 x1230)), (1, .v (.lst false n1233 c1234)), (4, .dead), (5, .dead), (6, .v (.fn 999999 [.bool true])), (7, .v (.int .i64 x1265)), (8, .dead), (9, .sl false 0 0 n1282 1), (10, .dead), (11, .dead), (12, .dead), (21, .dead), (23, .v (.int .i64 x1230)), (24, .v (.int .i64 x1283)), (25, .dead), (28, .dead), (29, .dead), (30, .dead), (52, .dead)], [(0, .p c1284)], 1, []⟩) N _ ((Wk_le (.r (.r (.k (.k (.r (.r (.k (.r (.r (.r (.r (.k (.r (.r (.r (.r (.r (.r (.r .nil))))))))))))))))))) (OLe.refl _)).trans (cmpS_ok (st' := ⟨[], [(0, .v (.int .i64 x1230)), (1, .v (.lst false n1233 c1234)), (4, .dead), (5, .dead), (6, .v (.fn 999999 [.bool true])), (7, .v (.int .i64 x1265)), (8, .dead), (9, .sl false 0 0 0 1), (10, .dead), (11, .dead), (12, .dead), (21, .dead), (23, .v (.int .i64 x1230)), (24, .v (.int .i64 0)), (25, .dead), (28, .dead), (29, .dead), (30, .dead), (52, .dead)], [(0, .p [])], 1, []⟩) (by kernel_rfl))) ⟨_, _, _, h1347, rfl⟩ ?_
        clear h1347
        rintro n _ ⟨n1282, x1283, c1284, h1347, rfl⟩
        cases n with
        | zero => cases h1347
        | succ n =>
          rw [m81_L0] at h1347
          have hh := brn_some h1347; clear h1347; rcases hh with ⟨h1285, h1347⟩ | ⟨h1285, h1347⟩
          · refine W_sound tab_ok mixed 25 _ _ _ ?_
            simp -implicitDefEqProofs only [go_sem, qa, qb, qc, qd, qe, qf, qg, qh, qi, qj, qk, ↓reduceIte, h1232, h1267, h1285]
            repeat with_reducible refine ⟨by first | kernel_rfl | decide, ?_⟩
            have hh := bnd'_some h1347; clear h1347; obtain ⟨o1349, h1350, h1351⟩ := hh
            refine Wp_cut (fun s => ∃ x1289, x1289 = o1349 ∧ s = ⟨[], [(0, .v (.int .i64 x1230)), (1, .v (.lst false n1233 c1234)), (4, .dead), (5, .dead), (6, .v (.fn 999999 [.bool true])), (7, .v (.int .i64 x1265)), (8, .dead), (9, .sl false 0 0 n1282 1), (10, .v (.int .i64 x1283)), (11, .v (.int .i64 x1289)), (12, .dead), (21, .dead), (23, .v (.int .i64 x1230)), (24, .v (.int .i64 x1283)), (25, .dead), (28, .dead), (29, .dead), (30, .dead), (52, .dead)], [(0, .p c1284)], 1, []⟩) ?_ ?_
            · refine Wp_block ?_
              refine Wp_loopG (fun n s => ∃ x1286, ∃ x1287, m81_L1 N x1230 n1233 c1234 x1265 n1282 x1283 c1284 n x1286 x1287 = some o1349 ∧ s = ⟨[], [(0, .v (.int .i64 x1230)), (1, .v (.lst false n1233 c1234)), (4, .dead), (5, .dead), (6, .v (.fn 999999 [.bool true])), (7, .v (.int .i64 x1265)), (8, .dead), (9, .sl false 0 0 n1282 1), (10, .v (.int .i64 x1283)), (11, .v (.int .i64 x1286)), (12, .dead), (21, .dead), (23, .v (.int .i64 x1230)), (24, .v (.int .i64 x1283)), (25, .dead), (28, .v (.int .i64 ((n1233 : Nat) : Int))), (29, .v (.int .i64 x1287)), (30, .dead), (52, .dead)], [(0, .p c1284)], 1, []⟩) N _ ((Wk_le (.r (.r (.r (.r (.r (.r (.r (.r (.r (.r (.r (.r (.r (.r (.k (.r (.r (.r (.r .nil))))))))))))))))))) (OLe.refl _)).trans (cmpS_ok (st' := ⟨[], [(0, .v (.int .i64 x1230)), (1, .v (.lst false n1233 c1234)), (4, .dead), (5, .dead), (6, .v (.fn 999999 [.bool true])), (7, .v (.int .i64 x1265)), (8, .dead), (9, .sl false 0 0 n1282 1), (10, .v (.int .i64 x1283)), (11, .v (.int .i64 0)), (12, .dead), (21, .dead), (23, .v (.int .i64 x1230)), (24, .v (.int .i64 x1283)), (25, .dead), (28, .v (.int .i64 ((n1233 : Nat) : Int))), (29, .v (.int .i64 0)), (30, .dead), (52, .dead)], [(0, .p c1284)], 1, []⟩) (by kernel_rfl))) ⟨_, _, h1350, rfl⟩ ?_
              clear h1350
              rintro n _ ⟨x1286, x1287, h1350, rfl⟩
              cases n with
              | zero => cases h1350
              | succ n =>
                rw [m81_L1] at h1350
                have hh := brn_some h1350; clear h1350; rcases hh with ⟨h1288, h1350⟩ | ⟨h1288, h1350⟩
                · cases h1350
                · refine W_sound tab_ok mixed 7 _ _ _ ?_
                  simp -implicitDefEqProofs only [go_sem, qa, qb, qc, qd, qe, qf, qg, qh, qi, qj, qk, ↓reduceIte, h1232, h1267, h1285, h1288]
                  repeat with_reducible refine ⟨by first | kernel_rfl | decide, ?_⟩
                  obtain rfl := Option.some.inj h1350
                  exact cutQ _ ((Wk_le (.r (.r (.r (.r (.r (.r (.r (.r (.r (.r (.r (.r (.r (.r (.r (.k (.k (.k (.r .nil))))))))))))))))))) (OLe.refl _)).trans (cmpS_ok (st' := ⟨[], [(0, .v (.int .i64 x1230)), (1, .v (.lst false n1233 c1234)), (4, .dead), (5, .dead), (6, .v (.fn 999999 [.bool true])), (7, .v (.int .i64 x1265)), (8, .dead), (9, .sl false 0 0 n1282 1), (10, .v (.int .i64 x1283)), (11, .v (.int .i64 x1286)), (12, .dead), (21, .dead), (23, .v (.int .i64 x1230)), (24, .v (.int .i64 x1283)), (25, .dead), (28, .dead), (29, .dead), (30, .dead), (52, .dead)], [(0, .p c1284)], 1, []⟩) (by kernel_rfl))) ⟨_, rfl, rfl⟩
            · rintro _ ⟨x1289, rfl, rfl⟩
              have hh := brn_some h1351; clear h1351; rcases hh with ⟨h1290, h1351⟩ | ⟨h1290, h1351⟩
              · have hh := grd_some h1351; clear h1351; obtain ⟨g1291, h1351⟩ := hh
                have hh := grd_some h1351; clear h1351; obtain ⟨g1292, h1351⟩ := hh
                refine W_sound tab_ok mixed 24 _ _ _ ?_
                simp -implicitDefEqProofs only [go_sem, qa, qb, qc, qd, qe, qf, qg, qh, qi, qj, qk, ↓reduceIte, h1232, h1267, h1285, h1290, g1291, g1292]
                repeat with_reducible refine ⟨by first | kernel_rfl | decide, ?_⟩
                exact cutQ _ ((Wk_le (.r (.r (.r (.r (.r (.r (.r (.r (.k (.k (.r (.r (.r (.r (.r (.r (.r (.r (.k .nil))))))))))))))))))) (OLe.refl _)).trans (cmpS_ok (st' := ⟨[], [(0, .v (.int .i64 x1230)), (1, .v (.lst false n1233 c1234)), (4, .dead), (5, .dead), (6, .v (.fn 999999 [.bool true])), (7, .v (.int .i64 x1265)), (8, .dead), (9, .sl false 0 0 (n1282 + 1) 1), (10, .dead), (11, .dead), (12, .dead), (21, .dead), (23, .v (.int .i64 x1230)), (24, .v (.int .i64 (IntKind.i64.wrap (x1283 + 1)))), (25, .dead), (28, .dead), (29, .dead), (30, .dead), (52, .dead)], [(0, .p (c1284 ++ [(.int .i64 x1283)]))], 1, []⟩) (by kernel_rfl))) ⟨n, Nat.lt_succ_self n, _, _, _, h1351, rfl⟩
              · refine W_sound tab_ok mixed 18 _ _ _ ?_
                simp -implicitDefEqProofs only [go_sem, qa, qb, qc, qd, qe, qf, qg, qh, qi, qj, qk, ↓reduceIte, h1232, h1267, h1285, h1290]
                repeat with_reducible refine ⟨by first | kernel_rfl | decide, ?_⟩
                exact cutQ _ ((Wk_le (.r (.r (.r (.r (.r (.r (.r (.r (.k (.k (.r (.r (.r (.r (.r (.r (.r (.r (.k .nil))))))))))))))))))) (OLe.refl _)).trans (cmpS_ok (st' := ⟨[], [(0, .v (.int .i64 x1230)), (1, .v (.lst false n1233 c1234)), (4, .dead), (5, .dead), (6, .v (.fn 999999 [.bool true])), (7, .v (.int .i64 x1265)), (8, .dead), (9, .sl false 0 0 n1282 1), (10, .dead), (11, .dead), (12, .dead), (21, .dead), (23, .v (.int .i64 x1230)), (24, .v (.int .i64 (IntKind.i64.wrap (x1283 + 1)))), (25, .dead), (28, .dead), (29, .dead), (30, .dead), (52, .dead)], [(0, .p c1284)], 1, []⟩) (by kernel_rfl))) ⟨n, Nat.lt_succ_self n, _, _, _, h1351, rfl⟩
          · refine W_sound tab_ok mixed 7 _ _ _ ?_
            simp -implicitDefEqProofs only [go_sem, qa, qb, qc, qd, qe, qf, qg, qh, qi, qj, qk, ↓reduceIte, h1232, h1267, h1285]
            repeat with_reducible refine ⟨by first | kernel_rfl | decide, ?_⟩
            obtain rfl := Option.some.inj h1347
            exact cutQ _ ((Wk_le (.k (.k (.r (.r (.k (.k (.r (.r (.r (.r (.r (.r (.k (.k (.k (.r (.r (.r (.r .nil))))))))))))))))))) (OLe.refl _)).trans (cmpS_ok (st' := ⟨[], [(0, .dead), (1, .dead), (4, .dead), (5, .dead), (6, .dead), (7, .dead), (8, .dead), (9, .sl false 0 0 n1282 1), (10, .dead), (11, .dead), (12, .dead), (21, .dead), (23, .dead), (24, .dead), (25, .dead), (28, .dead), (29, .dead), (30, .dead), (52, .dead)], [(0, .p c1284)], 1, []⟩) (by kernel_rfl))) ⟨_, _, rfl, rfl⟩
      · rintro _ ⟨n1293, c1294, rfl, rfl⟩
        (try dsimp only at h1348)
        refine W_sound tab_ok mixed 8 _ _ _ ?_
        simp -implicitDefEqProofs only [go_sem, qa, qb, qc, qd, qe, qf, qg, qh, qi, qj, qk, ↓reduceIte, h1232, h1267]
        repeat with_reducible refine ⟨by first | kernel_rfl | decide, ?_⟩
        have hh := grd_some h1348; clear h1348; obtain ⟨g1295, h1348⟩ := hh
        refine FinQ_wk (Wk_freeze 0 c1294 (by rfl) (by decide) (by decide)) ?_
        simp -implicitDefEqProofs only [go_sem, qa, qb, qc, qd, qe, qf, qg, qh, qi, qj, qk, ↓reduceIte, h1232, h1267, g1295]
        obtain rfl := Option.some.inj h1348
        exact finC [(4, .v (.lst false n1293 c1294)), (5, .v (.int .i64 0))] [(4, .v (.lst false n1293 c1294)), (5, .v (.int .i64 0))] (by simp [leE, lk_cons]) (.cons _ _ _ _ _ (.v _ _ (.refl _)) (.cons _ _ _ _ _ (.v _ _ (.refl _)) .nil)) (by rfl) (by simp [leE, lk_cons]) (by decide) (by decide) rfl (by simp only [go_sem, qa, qb, qc, qd, qe, qf, qg, qh, qi, qj, qk, ↓reduceIte, resQ_tmp, resQ_cell, resQ_nil, retD_one, retD_two, retD_three, retD_none]; try simp [R.val, retD_one, retD_two, retD_three, retD_none])
  · (try dsimp only at h)
    refine W_sound tab_ok mixed 9 _ _ _ ?_
    simp -implicitDefEqProofs only [go_sem, qa, qb, qc, qd, qe, qf, qg, qh, qi, qj, qk, ↓reduceIte, h1232]
    repeat with_reducible refine ⟨by first | kernel_rfl | decide, ?_⟩
    refine Wp_callD [] (c83_b N _ _ _ _ _ h1264) rfl rfl rfl (by first | rfl | (simp only [go_sem, qa, qb, qc, qd, qe, qf, qg, qh, qi, qj, qk, ↓reduceIte, h1232] <;> rfl)) rfl (by kernel_rfl) ?_
    have hh := brn_some h; clear h; rcases hh with ⟨h1299, h⟩ | ⟨h1299, h⟩
    · refine W_sound tab_ok mixed 23 _ _ _ ?_
      simp -implicitDefEqProofs only [go_sem, qa, qb, qc, qd, qe, qf, qg, qh, qi, qj, qk, ↓reduceIte, h1232, h1299]
      repeat with_reducible refine ⟨by first | kernel_rfl | decide, ?_⟩
      obtain rfl := Option.some.inj h
      exact finC [(4, .v .nl), (5, .v (.int .i64 x1297))] [(4, .v (.lst false 0 [])), (5, .v (.int .i64 x1297))] (by simp [leE, lk_cons]) (.cons _ _ _ _ _ (.v _ _ (.nl false)) (.cons _ _ _ _ _ (.v _ _ (.refl _)) .nil)) (by rfl) (by simp [leE, lk_cons]) (by decide) (by decide) rfl (by simp only [go_sem, qa, qb, qc, qd, qe, qf, qg, qh, qi, qj, qk, ↓reduceIte, resQ_tmp, resQ_cell, resQ_nil, retD_one, retD_two, retD_three, retD_none]; try simp [R.val, retD_one, retD_two, retD_three, retD_none])
    · refine W_sound tab_ok mixed 26 _ _ _ ?_
      simp -implicitDefEqProofs only [go_sem, qa, qb, qc, qd, qe, qf, qg, qh, qi, qj, qk, ↓reduceIte, h1232, h1299]
      repeat with_reducible refine ⟨by first | kernel_rfl | decide, ?_⟩
      refine Wp_weaken (Wk_ownS 9 1 rfl (by decide) (by decide)) ?_
      simp -implicitDefEqProofs only [go_sem, qa, qb, qc, qd, qe, qf, qg, qh, qi, qj, qk, ↓reduceIte, h1232, h1299]
      have hh := bnd'_some h; clear h; obtain ⟨o1352, h1353, h1354⟩ := hh
      refine Wp_cut (fun s => ∃ n1343, ∃ c1344, (n1343, c1344) = o1352 ∧ s = ⟨[], [(0, .dead), (1, .dead), (4, .dead), (5, .dead), (6, .dead), (7, .dead), (8, .dead), (9, .sl false 0 0 n1343 1), (10, .dead), (11, .dead), (12, .dead), (21, .dead), (23, .dead), (24, .dead), (25, .dead), (28, .dead), (29, .dead), (30, .dead), (52, .dead)], [(0, .p c1344)], 1, []⟩) ?_ ?_
      · refine Wp_block ?_
        refine Wp_loopG (fun n s => ∃ n1326, ∃ x1327, ∃ c1328, m81_L2 N x1230 n1233 c1234 x1296 c1298 n n1326 x1327 c1328 = some o1352 ∧ s = ⟨[], [(0, .v (.int .i64 x1230)), (1, .v (.lst false n1233 c1234)), (4, .dead), (5, .dead), (6, .ptr 0 0), (7, .v (.int .i64 x1296)), (8, .dead), (9, .sl false 1 0 n1326 1), (10, .dead), (11, .dead), (12, .dead), (21, .dead), (23, .v (.int .i64 x1230)), (24, .v (.int .i64 x1327)), (25, .dead), (28, .dead), (29, .dead), (30, .dead), (52, .dead)], [(0, .p c1298), (1, .p c1328)], 2, []⟩) N _ ((Wk_le (.r (.r (.k (.k (.r (.r (.k (.r (.r (.r (.r (.k (.r (.r (.r (.r (.r (.r (.r .nil))))))))))))))))))) (OLe.refl _)).trans (cmpS_ok (st' := ⟨[], [(0, .v (.int .i64 x1230)), (1, .v (.lst false n1233 c1234)), (4, .dead), (5, .dead), (6, .ptr 0 0), (7, .v (.int .i64 x1296)), (8, .dead), (9, .sl false 1 0 0 1), (10, .dead), (11, .dead), (12, .dead), (21, .dead), (23, .v (.int .i64 x1230)), (24, .v (.int .i64 0)), (25, .dead), (28, .dead), (29, .dead), (30, .dead), (52, .dead)], [(0, .p c1298), (1, .p [])], 2, []⟩) (by kernel_rfl))) ⟨_, _, _, h1353, rfl⟩ ?_
        clear h1353
        rintro n _ ⟨n1326, x1327, c1328, h1353, rfl⟩
        cases n with
        | zero => cases h1353
        | succ n =>
          rw [m81_L2] at h1353
          have hh := brn_some h1353; clear h1353; rcases hh with ⟨h1329, h1353⟩ | ⟨h1329, h1353⟩
          · refine W_sound tab_ok mixed 25 _ _ _ ?_
            simp -implicitDefEqProofs only [go_sem, qa, qb, qc, qd, qe, qf, qg, qh, qi, qj, qk, ↓reduceIte, h1232, h1299, h1329]
            repeat with_reducible refine ⟨by first | kernel_rfl | decide, ?_⟩
            have hh := bnd'_some h1353; clear h1353; obtain ⟨o1355, h1356, h1357⟩ := hh
            refine Wp_cut (fun s => ∃ x1339, x1339 = o1355 ∧ s = ⟨[], [(0, .v (.int .i64 x1230)), (1, .v (.lst false n1233 c1234)), (4, .dead), (5, .dead), (6, .ptr 0 0), (7, .v (.int .i64 x1296)), (8, .dead), (9, .sl false 1 0 n1326 1), (10, .v (.int .i64 x1327)), (11, .v (.int .i64 x1339)), (12, .dead), (21, .dead), (23, .v (.int .i64 x1230)), (24, .v (.int .i64 x1327)), (25, .dead), (28, .dead), (29, .dead), (30, .dead), (52, .dead)], [(0, .p c1298), (1, .p c1328)], 2, []⟩) ?_ ?_
            · refine Wp_block ?_
              refine Wp_loopG (fun n s => ∃ x1330, ∃ x1331, m81_L3 N x1230 n1233 c1234 x1296 c1298 n1326 x1327 c1328 n x1330 x1331 = some o1355 ∧ s = ⟨[], [(0, .v (.int .i64 x1230)), (1, .v (.lst false n1233 c1234)), (4, .dead), (5, .dead), (6, .ptr 0 0), (7, .v (.int .i64 x1296)), (8, .dead), (9, .sl false 1 0 n1326 1), (10, .v (.int .i64 x1327)), (11, .v (.int .i64 x1330)), (12, .dead), (21, .dead), (23, .v (.int .i64 x1230)), (24, .v (.int .i64 x1327)), (25, .dead), (28, .v (.int .i64 ((n1233 : Nat) : Int))), (29, .v (.int .i64 x1331)), (30, .dead), (52, .dead)], [(0, .p c1298), (1, .p c1328)], 2, []⟩) N _ ((Wk_le (.r (.r (.r (.r (.r (.r (.r (.r (.r (.r (.r (.r (.r (.r (.k (.r (.r (.r (.r .nil))))))))))))))))))) (OLe.refl _)).trans (cmpS_ok (st' := ⟨[], [(0, .v (.int .i64 x1230)), (1, .v (.lst false n1233 c1234)), (4, .dead), (5, .dead), (6, .ptr 0 0), (7, .v (.int .i64 x1296)), (8, .dead), (9, .sl false 1 0 n1326 1), (10, .v (.int .i64 x1327)), (11, .v (.int .i64 0)), (12, .dead), (21, .dead), (23, .v (.int .i64 x1230)), (24, .v (.int .i64 x1327)), (25, .dead), (28, .v (.int .i64 ((n1233 : Nat) : Int))), (29, .v (.int .i64 0)), (30, .dead), (52, .dead)], [(0, .p c1298), (1, .p c1328)], 2, []⟩) (by kernel_rfl))) ⟨_, _, h1356, rfl⟩ ?_
              clear h1356
              rintro n _ ⟨x1330, x1331, h1356, rfl⟩
              cases n with
              | zero => cases h1356
              | succ n =>
                rw [m81_L3] at h1356
                have hh := brn_some h1356; clear h1356; rcases hh with ⟨h1332, h1356⟩ | ⟨h1332, h1356⟩
                · have hh := grd_some h1356; clear h1356; obtain ⟨⟨g1333, g1334⟩, h1356⟩ := hh
                  have hh := grd_some h1356; clear h1356; obtain ⟨g1335, h1356⟩ := hh
                  have hh := getI_some h1356; clear h1356; obtain ⟨x1337, h1336, h1356⟩ := hh
                  have hh := grd_some h1356; clear h1356; obtain ⟨g1338, h1356⟩ := hh
                  refine W_sound tab_ok mixed 34 _ _ _ ?_
                  simp -implicitDefEqProofs only [go_sem, qa, qb, qc, qd, qe, qf, qg, qh, qi, qj, qk, ↓reduceIte, h1232, h1299, h1329, h1332, g1333, g1334, g1335, h1336, g1338]
                  repeat with_reducible refine ⟨by first | kernel_rfl | decide, ?_⟩
                  exact cutQ _ ((Wk_le (.r (.r (.r (.r (.r (.r (.r (.r (.r (.r (.k (.r (.r (.r (.r (.r (.r (.k (.r .nil))))))))))))))))))) (OLe.refl _)).trans (cmpS_ok (st' := ⟨[], [(0, .v (.int .i64 x1230)), (1, .v (.lst false n1233 c1234)), (4, .dead), (5, .dead), (6, .ptr 0 0), (7, .v (.int .i64 x1296)), (8, .dead), (9, .sl false 1 0 n1326 1), (10, .v (.int .i64 x1327)), (11, .v (.int .i64 (IntKind.i64.wrap (x1330 + (IntKind.i64.wrap (bitsI .and .u64 (Int.fdiv x1337 (2 ^ (min (Int.toNat x1327) 64))) 1)))))), (12, .dead), (21, .dead), (23, .v (.int .i64 x1230)), (24, .v (.int .i64 x1327)), (25, .dead), (28, .v (.int .i64 ((n1233 : Nat) : Int))), (29, .v (.int .i64 (IntKind.i64.wrap (x1331 + 1)))), (30, .dead), (52, .dead)], [(0, .p c1298), (1, .p c1328)], 2, []⟩) (by kernel_rfl))) ⟨n, Nat.lt_succ_self n, _, _, h1356, rfl⟩
                · refine W_sound tab_ok mixed 7 _ _ _ ?_
                  simp -implicitDefEqProofs only [go_sem, qa, qb, qc, qd, qe, qf, qg, qh, qi, qj, qk, ↓reduceIte, h1232, h1299, h1329, h1332]
                  repeat with_reducible refine ⟨by first | kernel_rfl | decide, ?_⟩
                  obtain rfl := Option.some.inj h1356
                  exact cutQ _ ((Wk_le (.r (.r (.r (.r (.r (.r (.r (.r (.r (.r (.r (.r (.r (.r (.r (.k (.k (.k (.r .nil))))))))))))))))))) (OLe.refl _)).trans (cmpS_ok (st' := ⟨[], [(0, .v (.int .i64 x1230)), (1, .v (.lst false n1233 c1234)), (4, .dead), (5, .dead), (6, .ptr 0 0), (7, .v (.int .i64 x1296)), (8, .dead), (9, .sl false 1 0 n1326 1), (10, .v (.int .i64 x1327)), (11, .v (.int .i64 x1330)), (12, .dead), (21, .dead), (23, .v (.int .i64 x1230)), (24, .v (.int .i64 x1327)), (25, .dead), (28, .dead), (29, .dead), (30, .dead), (52, .dead)], [(0, .p c1298), (1, .p c1328)], 2, []⟩) (by kernel_rfl))) ⟨_, rfl, rfl⟩
            · rintro _ ⟨x1339, rfl, rfl⟩
              have hh := brn_some h1357; clear h1357; rcases hh with ⟨h1340, h1357⟩ | ⟨h1340, h1357⟩
              · have hh := grd_some h1357; clear h1357; obtain ⟨g1341, h1357⟩ := hh
                have hh := grd_some h1357; clear h1357; obtain ⟨g1342, h1357⟩ := hh
                refine W_sound tab_ok mixed 24 _ _ _ ?_
                simp -implicitDefEqProofs only [go_sem, qa, qb, qc, qd, qe, qf, qg, qh, qi, qj, qk, ↓reduceIte, h1232, h1299, h1329, h1340, g1341, g1342]
                repeat with_reducible refine ⟨by first | kernel_rfl | decide, ?_⟩
                exact cutQ _ ((Wk_le (.r (.r (.r (.r (.r (.r (.r (.r (.k (.k (.r (.r (.r (.r (.r (.r (.r (.r (.k .nil))))))))))))))))))) (OLe.refl _)).trans (cmpS_ok (st' := ⟨[], [(0, .v (.int .i64 x1230)), (1, .v (.lst false n1233 c1234)), (4, .dead), (5, .dead), (6, .ptr 0 0), (7, .v (.int .i64 x1296)), (8, .dead), (9, .sl false 1 0 (n1326 + 1) 1), (10, .dead), (11, .dead), (12, .dead), (21, .dead), (23, .v (.int .i64 x1230)), (24, .v (.int .i64 (IntKind.i64.wrap (x1327 + 1)))), (25, .dead), (28, .dead), (29, .dead), (30, .dead), (52, .dead)], [(0, .p c1298), (1, .p (c1328 ++ [(.int .i64 x1327)]))], 2, []⟩) (by kernel_rfl))) ⟨n, Nat.lt_succ_self n, _, _, _, h1357, rfl⟩
              · refine W_sound tab_ok mixed 18 _ _ _ ?_
                simp -implicitDefEqProofs only [go_sem, qa, qb, qc, qd, qe, qf, qg, qh, qi, qj, qk, ↓reduceIte, h1232, h1299, h1329, h1340]
                repeat with_reducible refine ⟨by first | kernel_rfl | decide, ?_⟩
                exact cutQ _ ((Wk_le (.r (.r (.r (.r (.r (.r (.r (.r (.k (.k (.r (.r (.r (.r (.r (.r (.r (.r (.k .nil))))))))))))))))))) (OLe.refl _)).trans (cmpS_ok (st' := ⟨[], [(0, .v (.int .i64 x1230)), (1, .v (.lst false n1233 c1234)), (4, .dead), (5, .dead), (6, .ptr 0 0), (7, .v (.int .i64 x1296)), (8, .dead), (9, .sl false 1 0 n1326 1), (10, .dead), (11, .dead), (12, .dead), (21, .dead), (23, .v (.int .i64 x1230)), (24, .v (.int .i64 (IntKind.i64.wrap (x1327 + 1)))), (25, .dead), (28, .dead), (29, .dead), (30, .dead), (52, .dead)], [(0, .p c1298), (1, .p c1328)], 2, []⟩) (by kernel_rfl))) ⟨n, Nat.lt_succ_self n, _, _, _, h1357, rfl⟩
          · refine W_sound tab_ok mixed 7 _ _ _ ?_
            simp -implicitDefEqProofs only [go_sem, qa, qb, qc, qd, qe, qf, qg, qh, qi, qj, qk, ↓reduceIte, h1232, h1299, h1329]
            repeat with_reducible refine ⟨by first | kernel_rfl | decide, ?_⟩
            obtain rfl := Option.some.inj h1353
            exact cutQ _ ((Wk_le (.k (.k (.r (.r (.k (.k (.r (.r (.r (.r (.r (.r (.k (.k (.k (.r (.r (.r (.r .nil))))))))))))))))))) (OLe.refl _)).trans (cmpS_ok (st' := ⟨[], [(0, .dead), (1, .dead), (4, .dead), (5, .dead), (6, .dead), (7, .dead), (8, .dead), (9, .sl false 0 0 n1326 1), (10, .dead), (11, .dead), (12, .dead), (21, .dead), (23, .dead), (24, .dead), (25, .dead), (28, .dead), (29, .dead), (30, .dead), (52, .dead)], [(0, .p c1328)], 1, []⟩) (by kernel_rfl))) ⟨_, _, rfl, rfl⟩
      · rintro _ ⟨n1343, c1344, rfl, rfl⟩
        (try dsimp only at h1354)
        refine W_sound tab_ok mixed 8 _ _ _ ?_
        simp -implicitDefEqProofs only [go_sem, qa, qb, qc, qd, qe, qf, qg, qh, qi, qj, qk, ↓reduceIte, h1232, h1299]
        repeat with_reducible refine ⟨by first | kernel_rfl | decide, ?_⟩
        have hh := grd_some h1354; clear h1354; obtain ⟨g1345, h1354⟩ := hh
        refine FinQ_wk (Wk_freeze 0 c1344 (by rfl) (by decide) (by decide)) ?_
        simp -implicitDefEqProofs only [go_sem, qa, qb, qc, qd, qe, qf, qg, qh, qi, qj, qk, ↓reduceIte, h1232, h1299, g1345]
        obtain rfl := Option.some.inj h1354
        exact finC [(4, .v (.lst false n1343 c1344)), (5, .v (.int .i64 0))] [(4, .v (.lst false n1343 c1344)), (5, .v (.int .i64 0))] (by simp [leE, lk_cons]) (.cons _ _ _ _ _ (.v _ _ (.refl _)) (.cons _ _ _ _ _ (.v _ _ (.refl _)) .nil)) (by rfl) (by simp [leE, lk_cons]) (by decide) (by decide) rfl (by simp only [go_sem, qa, qb, qc, qd, qe, qf, qg, qh, qi, qj, qk, ↓reduceIte, resQ_tmp, resQ_cell, resQ_nil, retD_one, retD_two, retD_three, retD_none]; try simp [R.val, retD_one, retD_two, retD_three, retD_none])
def m45 (N : Nat) (x1225 : Int) (p1226 : PV) : Option (PV) :=
  getL p1226 fun n1228 c1229 =>
  bnd' (m81 N x1225 (.lst false n1228 c1229)) fun p1358 =>
  getT2 p1358 fun p1361 p1362 =>
  getL p1361 fun n1364 c1365 =>
  getI .i64 p1362 fun x1367 =>
  brn (x1367 != 0) (
    some (.tup [(.int .i64 0), (.int .i64 x1367)])) (
    brn (((n1364 : Nat) : Int) == 0) (
      some (.tup [(.int .i64 0), (.int .i64 13)])) (
      grd (0 < ((n1364 : Nat) : Int)) <|
      grd (0 < List.length c1365) <|
      getI .i64 (gp c1365 0) fun x1373 =>
      some (.tup [(.int .i64 x1373), (.int .i64 0)])))
theorem c45 (N : Nat) (x1225 : Int) (p1226 : PV) (r : PV)  (h : m45 N x1225 p1226 = some r) : FnP Tryd.prog 45 [(.int .i64 x1225), p1226] r := by
  unfold m45 at h
  refine Fn_of (sz := 25) tab_ok [0, 1, 4, 5, 6, 7, 14, 18] [.tmp 4, .tmp 5] Tryd.func45 rfl rfl rfl (by simp) ?_
  simp only [initSt, initEnv, List.map_cons, List.map_nil, List.getD_cons_zero, List.getD_cons_succ, List.getD_nil]
  have hh := getL_some h; clear h; obtain ⟨n1228, c1229, h1227, h⟩ := hh
  have hh := bnd'_some h; clear h; obtain ⟨p1358, h1359, h⟩ := hh
  refine W_sound tab_ok mixed 9 _ _ _ ?_
  simp -implicitDefEqProofs only [go_sem, qa, qb, qc, qd, qe, qf, qg, qh, qi, qj, qk, ↓reduceIte, h1227]
  repeat with_reducible refine ⟨by first | kernel_rfl | decide, ?_⟩
  refine Wp_callP (c81 N _ _ _ h1359) (by kernel_rfl) rfl rfl rfl rfl (by decide) ?_
  have hh := getT2_some h; clear h; obtain ⟨p1361, p1362, h1360, h⟩ := hh
  have hh := getL_some h; clear h; obtain ⟨n1364, c1365, h1363, h⟩ := hh
  have hh := getI_some h; clear h; obtain ⟨x1367, h1366, h⟩ := hh
  have hh := brn_some h; clear h; rcases hh with ⟨h1368, h⟩ | ⟨h1368, h⟩
  · refine W_sound tab_ok mixed 23 _ _ _ ?_
    simp -implicitDefEqProofs only [go_sem, qa, qb, qc, qd, qe, qf, qg, qh, qi, qj, qk, ↓reduceIte, h1227, h1360, h1363, h1366, h1368]
    repeat with_reducible refine ⟨by first | kernel_rfl | decide, ?_⟩
    obtain rfl := Option.some.inj h
    exact finC [(4, .v (.int .i64 0)), (5, .v (.int .i64 x1367))] [(4, .v (.int .i64 0)), (5, .v (.int .i64 x1367))] (by simp [leE, lk_cons]) (.cons _ _ _ _ _ (.v _ _ (.refl _)) (.cons _ _ _ _ _ (.v _ _ (.refl _)) .nil)) (by rfl) (by simp [leE, lk_cons]) (by decide) (by decide) rfl (by simp only [go_sem, qa, qb, qc, qd, qe, qf, qg, qh, qi, qj, qk, ↓reduceIte, resQ_tmp, resQ_cell, resQ_nil, retD_one, retD_two, retD_three, retD_none]; try simp [R.val, retD_one, retD_two, retD_three, retD_none])
  · have hh := brn_some h; clear h; rcases hh with ⟨h1369, h⟩ | ⟨h1369, h⟩
    · refine W_sound tab_ok mixed 30 _ _ _ ?_
      simp -implicitDefEqProofs only [go_sem, qa, qb, qc, qd, qe, qf, qg, qh, qi, qj, qk, ↓reduceIte, h1227, h1360, h1363, h1366, h1368, h1369]
      repeat with_reducible refine ⟨by first | kernel_rfl | decide, ?_⟩
      obtain rfl := Option.some.inj h
      exact finC [(4, .v (.int .i64 0)), (5, .v (.int .i64 13))] [(4, .v (.int .i64 0)), (5, .v (.int .i64 13))] (by simp [leE, lk_cons]) (.cons _ _ _ _ _ (.v _ _ (.refl _)) (.cons _ _ _ _ _ (.v _ _ (.refl _)) .nil)) (by rfl) (by simp [leE, lk_cons]) (by decide) (by decide) rfl (by simp only [go_sem, qa, qb, qc, qd, qe, qf, qg, qh, qi, qj, qk, ↓reduceIte, resQ_tmp, resQ_cell, resQ_nil, retD_one, retD_two, retD_three, retD_none]; try simp [R.val, retD_one, retD_two, retD_three, retD_none])
    · have hh := grd_some h; clear h; obtain ⟨g1370, h⟩ := hh
      have hh := grd_some h; clear h; obtain ⟨g1371, h⟩ := hh
      have hh := getI_some h; clear h; obtain ⟨x1373, h1372, h⟩ := hh
      refine W_sound tab_ok mixed 35 _ _ _ ?_
      simp -implicitDefEqProofs only [go_sem, qa, qb, qc, qd, qe, qf, qg, qh, qi, qj, qk, ↓reduceIte, h1227, h1360, h1363, h1366, h1368, h1369, g1370, g1371, h1372]
      repeat with_reducible refine ⟨by first | kernel_rfl | decide, ?_⟩
      obtain rfl := Option.some.inj h
      exact finC [(4, .v (.int .i64 x1373)), (5, .v (.int .i64 0))] [(4, .v (.int .i64 x1373)), (5, .v (.int .i64 0))] (by simp [leE, lk_cons]) (.cons _ _ _ _ _ (.v _ _ (.refl _)) (.cons _ _ _ _ _ (.v _ _ (.refl _)) .nil)) (by rfl) (by simp [leE, lk_cons]) (by decide) (by decide) rfl (by simp only [go_sem, qa, qb, qc, qd, qe, qf, qg, qh, qi, qj, qk, ↓reduceIte, resQ_tmp, resQ_cell, resQ_nil, retD_one, retD_two, retD_three, retD_none]; try simp [R.val, retD_one, retD_two, retD_three, retD_none])
def m69_2 (N : Nat) (c1392 : List PV) : Option (PV) :=
  grd (0 < List.length (List.drop 2 c1392)) <|
  getB (gp c1392 2) fun b1395 =>
  brn b1395 (
    some (.int .i64 1)) (
    some (.int .i64 0))
theorem c69_2 (N : Nat) (c1392 : List PV) (r : PV)  (h : m69_2 N c1392 = some r) : FnP Tryd.prog 69 [(.fn 1000070 [(.ipt c1392)])] r := by
  unfold m69_2 at h
  refine Fn_of (sz := 20) tab_ok [0, 2, 3, 4, 5, 7, 8, 14, 15, 19] [.tmp 2] Tryd.func69 rfl rfl rfl (by simp) ?_
  simp only [initSt, initEnv, List.map_cons, List.map_nil, List.getD_cons_zero, List.getD_cons_succ, List.getD_nil]
  have hh := grd_some h; clear h; obtain ⟨g1393, h⟩ := hh
  have hh := getB_some h; clear h; obtain ⟨b1395, h1394, h⟩ := hh
  have hh := brn_some h; clear h; rcases hh with ⟨h1396, h⟩ | ⟨h1396, h⟩
  · refine W_sound tab_ok mixed 42 _ _ _ ?_
    simp -implicitDefEqProofs only [go_sem, qa, qb, qc, qd, qe, qf, qg, qh, qi, qj, qk, ↓reduceIte, g1393, h1394, h1396]
    repeat with_reducible refine ⟨by first | kernel_rfl | decide, ?_⟩
    obtain rfl := Option.some.inj h
    exact finC [(2, .v (.int .i64 1))] [(2, .v (.int .i64 1))] (by simp [leE, lk_cons]) (.cons _ _ _ _ _ (.v _ _ (.refl _)) .nil) (by rfl) (by simp [leE, lk_cons]) (by decide) (by decide) rfl (by simp only [go_sem, qa, qb, qc, qd, qe, qf, qg, qh, qi, qj, qk, ↓reduceIte, resQ_tmp, resQ_cell, resQ_nil, retD_one, retD_two, retD_three, retD_none]; try simp [R.val, retD_one, retD_two, retD_three, retD_none])
  · refine W_sound tab_ok mixed 44 _ _ _ ?_
    simp -implicitDefEqProofs only [go_sem, qa, qb, qc, qd, qe, qf, qg, qh, qi, qj, qk, ↓reduceIte, g1393, h1394, h1396]
    repeat with_reducible refine ⟨by first | kernel_rfl | decide, ?_⟩
    obtain rfl := Option.some.inj h
    exact finC [(2, .v (.int .i64 0))] [(2, .v (.int .i64 0))] (by simp [leE, lk_cons]) (.cons _ _ _ _ _ (.v _ _ (.refl _)) .nil) (by rfl) (by simp [leE, lk_cons]) (by decide) (by decide) rfl (by simp only [go_sem, qa, qb, qc, qd, qe, qf, qg, qh, qi, qj, qk, ↓reduceIte, resQ_tmp, resQ_cell, resQ_nil, retD_one, retD_two, retD_three, retD_none]; try simp [R.val, retD_one, retD_two, retD_three, retD_none])
def m47 (N : Nat) (x1374 : Int) (p1375 : PV) : Option (PV) :=
  getL p1375 fun n1377 c1378 =>
  bnd' (m83 N x1374 (.lst false n1377 c1378)) fun o =>
  match o with
  | .inl (x1380, x1381) =>
    brn (x1381 != 0) (
      some (.tup [(.lst false 0 []), (.int .i64 x1381)])) (
      none)
  | .inr (x1383, x1384, c1385) =>
    brn (x1384 != 0) (
      some (.tup [(.lst false 0 []), (.int .i64 x1384)])) (
      bnd' (m64 N c1385 [(.int .i64 0), (.int .i64 x1374), (.bool false), (.int .i64 0), (.int .i64 0), (.int .i64 0), (.int .i64 0), (.int .i64 0), (.int .i64 0), (.int .i64 0), (.int .i64 0), (.int .i64 0), (.int .i64 0), (.int .i64 0), (.int .i64 0), (.int .i64 0), (.int .i64 0), (.int .i64 0), (.int .i64 0), (.int .i64 0), (.int .i64 0), (.int .i64 0), (.int .i64 0), (.int .i64 0), (.int .i64 0), (.int .i64 0), (.int .i64 0), (.int .i64 0)]) fun (p1387, c1389, c1390) =>
      getT0 p1387 <|
      bnd' (m69_2 N c1390) fun p1397 =>
      getI .i64 p1397 fun x1400 =>
      brn (x1400 == 0) (
        some (.tup [(.lst false 0 []), (.int .i64 12)])) (
        grd (25 ≤ List.length (List.drop 3 c1390)) <|
        bnd' (m65 N (.agg (List.take 25 (List.drop 3 c1390))) x1374) fun p1403 =>
        getL p1403 fun n1406 c1407 =>
        some (.tup [(.lst false n1406 c1407), (.int .i64 0)])))
theorem c47 (N : Nat) (x1374 : Int) (p1375 : PV) (r : PV)  (h : m47 N x1374 p1375 = some r) : FnP Tryd.prog 47 [(.int .i64 x1374), p1375] r := by
  unfold m47 at h
  refine Fn_of (sz := 37) tab_ok [0, 1, 4, 5, 6, 8, 9, 18, 30] [.tmp 4, .tmp 5] Tryd.func47 rfl rfl rfl (by simp) ?_
  simp only [initSt, initEnv, List.map_cons, List.map_nil, List.getD_cons_zero, List.getD_cons_succ, List.getD_nil]
  have hh := getL_some h; clear h; obtain ⟨n1377, c1378, h1376, h⟩ := hh
  have hh := bnd'_some h; clear h; obtain ⟨oo, h1379, h⟩ := hh
  rcases oo with ⟨x1380, x1381⟩ | ⟨x1383, x1384, c1385⟩
  · (try dsimp only at h)
    refine W_sound tab_ok mixed 9 _ _ _ ?_
    simp -implicitDefEqProofs only [go_sem, qa, qb, qc, qd, qe, qf, qg, qh, qi, qj, qk, ↓reduceIte, h1376]
    repeat with_reducible refine ⟨by first | kernel_rfl | decide, ?_⟩
    refine Wp_callD [] (c83_a N _ _ _ _ h1379) rfl rfl rfl (by first | rfl | (simp only [go_sem, qa, qb, qc, qd, qe, qf, qg, qh, qi, qj, qk, ↓reduceIte, h1376] <;> rfl)) rfl (by kernel_rfl) ?_
    have hh := brn_some h; clear h; rcases hh with ⟨h1382, h⟩ | ⟨h1382, h⟩
    · refine W_sound tab_ok mixed 23 _ _ _ ?_
      simp -implicitDefEqProofs only [go_sem, qa, qb, qc, qd, qe, qf, qg, qh, qi, qj, qk, ↓reduceIte, h1376, h1382]
      repeat with_reducible refine ⟨by first | kernel_rfl | decide, ?_⟩
      obtain rfl := Option.some.inj h
      exact finC [(4, .v .nl), (5, .v (.int .i64 x1381))] [(4, .v (.lst false 0 [])), (5, .v (.int .i64 x1381))] (by simp [leE, lk_cons]) (.cons _ _ _ _ _ (.v _ _ (.nl false)) (.cons _ _ _ _ _ (.v _ _ (.refl _)) .nil)) (by rfl) (by simp [leE, lk_cons]) (by decide) (by decide) rfl (by simp only [go_sem, qa, qb, qc, qd, qe, qf, qg, qh, qi, qj, qk, ↓reduceIte, resQ_tmp, resQ_cell, resQ_nil, retD_one, retD_two, retD_three, retD_none]; try simp [R.val, retD_one, retD_two, retD_three, retD_none])
    · cases h
  · (try dsimp only at h)
    refine W_sound tab_ok mixed 9 _ _ _ ?_
    simp -implicitDefEqProofs only [go_sem, qa, qb, qc, qd, qe, qf, qg, qh, qi, qj, qk, ↓reduceIte, h1376]
    repeat with_reducible refine ⟨by first | kernel_rfl | decide, ?_⟩
    refine Wp_callD [] (c83_b N _ _ _ _ _ h1379) rfl rfl rfl (by first | rfl | (simp only [go_sem, qa, qb, qc, qd, qe, qf, qg, qh, qi, qj, qk, ↓reduceIte, h1376] <;> rfl)) rfl (by kernel_rfl) ?_
    have hh := brn_some h; clear h; rcases hh with ⟨h1386, h⟩ | ⟨h1386, h⟩
    · refine W_sound tab_ok mixed 23 _ _ _ ?_
      simp -implicitDefEqProofs only [go_sem, qa, qb, qc, qd, qe, qf, qg, qh, qi, qj, qk, ↓reduceIte, h1376, h1386]
      repeat with_reducible refine ⟨by first | kernel_rfl | decide, ?_⟩
      obtain rfl := Option.some.inj h
      exact finC [(4, .v .nl), (5, .v (.int .i64 x1384))] [(4, .v (.lst false 0 [])), (5, .v (.int .i64 x1384))] (by simp [leE, lk_cons]) (.cons _ _ _ _ _ (.v _ _ (.nl false)) (.cons _ _ _ _ _ (.v _ _ (.refl _)) .nil)) (by rfl) (by simp [leE, lk_cons]) (by decide) (by decide) rfl (by simp only [go_sem, qa, qb, qc, qd, qe, qf, qg, qh, qi, qj, qk, ↓reduceIte, resQ_tmp, resQ_cell, resQ_nil, retD_one, retD_two, retD_three, retD_none]; try simp [R.val, retD_one, retD_two, retD_three, retD_none])
    · have hh := bnd'_some h; clear h; obtain ⟨⟨p1387, c1389, c1390⟩, h1388, h⟩ := hh
      (try dsimp only at h)
      refine W_sound tab_ok mixed 28 _ _ _ ?_
      simp -implicitDefEqProofs only [go_sem, qa, qb, qc, qd, qe, qf, qg, qh, qi, qj, qk, ↓reduceIte, h1376, h1386]
      repeat with_reducible refine ⟨by first | kernel_rfl | decide, ?_⟩
      refine Wp_callD [13, 36] (c64 N _ _ _ _ _ h1388) rfl rfl rfl (by first | rfl | (simp only [go_sem, qa, qb, qc, qd, qe, qf, qg, qh, qi, qj, qk, ↓reduceIte, h1376, h1386] <;> rfl)) rfl (by kernel_rfl) ?_
      have hh := getT0_some h; clear h; obtain ⟨h1391, h⟩ := hh
      refine W_sound tab_ok mixed 3 _ _ _ ?_
      simp -implicitDefEqProofs only [go_sem, qa, qb, qc, qd, qe, qf, qg, qh, qi, qj, qk, ↓reduceIte, h1376, h1386, h1391]
      repeat with_reducible refine ⟨by first | kernel_rfl | decide, ?_⟩
      refine Wp_wkK (Wk_freeze 36 c1390 (by rfl) (by decide) (by decide)) rfl ?_
      simp -implicitDefEqProofs only [go_sem, qa, qb, qc, qd, qe, qf, qg, qh, qi, qj, qk, ↓reduceIte, h1376, h1386, h1391]
      have hh := bnd'_some h; clear h; obtain ⟨p1397, h1398, h⟩ := hh
      refine W_sound tab_ok mixed 3 _ _ _ ?_
      simp -implicitDefEqProofs only [go_sem, qa, qb, qc, qd, qe, qf, qg, qh, qi, qj, qk, ↓reduceIte, h1376, h1386, h1391]
      repeat with_reducible refine ⟨by first | kernel_rfl | decide, ?_⟩
      refine Wp_callP (c69_2 N _ _ h1398) (by kernel_rfl) rfl rfl rfl rfl (by decide) ?_
      have hh := getI_some h; clear h; obtain ⟨x1400, h1399, h⟩ := hh
      have hh := brn_some h; clear h; rcases hh with ⟨h1401, h⟩ | ⟨h1401, h⟩
      · refine W_sound tab_ok mixed 10 _ _ _ ?_
        simp -implicitDefEqProofs only [go_sem, qa, qb, qc, qd, qe, qf, qg, qh, qi, qj, qk, ↓reduceIte, h1376, h1386, h1391, h1399, h1401]
        repeat with_reducible refine ⟨by first | kernel_rfl | decide, ?_⟩
        obtain rfl := Option.some.inj h
        exact finC [(4, .v .nl), (5, .v (.int .i64 12))] [(4, .v (.lst false 0 [])), (5, .v (.int .i64 12))] (by simp [leE, lk_cons]) (.cons _ _ _ _ _ (.v _ _ (.nl false)) (.cons _ _ _ _ _ (.v _ _ (.refl _)) .nil)) (by rfl) (by simp [leE, lk_cons]) (by decide) (by decide) rfl (by simp only [go_sem, qa, qb, qc, qd, qe, qf, qg, qh, qi, qj, qk, ↓reduceIte, resQ_tmp, resQ_cell, resQ_nil, retD_one, retD_two, retD_three, retD_none]; try simp [R.val, retD_one, retD_two, retD_three, retD_none])
      · have hh := grd_some h; clear h; obtain ⟨g1402, h⟩ := hh
        have hh := bnd'_some h; clear h; obtain ⟨p1403, h1404, h⟩ := hh
        refine W_sound tab_ok mixed 11 _ _ _ ?_
        simp -implicitDefEqProofs only [go_sem, qa, qb, qc, qd, qe, qf, qg, qh, qi, qj, qk, ↓reduceIte, h1376, h1386, h1391, h1399, h1401, g1402]
        repeat with_reducible refine ⟨by first | kernel_rfl | decide, ?_⟩
        refine Wp_callP (c65 N _ _ _ h1404) (by kernel_rfl) rfl rfl rfl rfl (by decide) ?_
        have hh := getL_some h; clear h; obtain ⟨n1406, c1407, h1405, h⟩ := hh
        refine W_sound tab_ok mixed 5 _ _ _ ?_
        simp -implicitDefEqProofs only [go_sem, qa, qb, qc, qd, qe, qf, qg, qh, qi, qj, qk, ↓reduceIte, h1376, h1386, h1391, h1399, h1401, g1402, h1405]
        repeat with_reducible refine ⟨by first | kernel_rfl | decide, ?_⟩
        obtain rfl := Option.some.inj h
        exact finC [(4, .v (.lst false n1406 c1407)), (5, .v (.int .i64 0))] [(4, .v (.lst false n1406 c1407)), (5, .v (.int .i64 0))] (by simp [leE, lk_cons]) (.cons _ _ _ _ _ (.v _ _ (.refl _)) (.cons _ _ _ _ _ (.v _ _ (.refl _)) .nil)) (by rfl) (by simp [leE, lk_cons]) (by decide) (by decide) rfl (by simp only [go_sem, qa, qb, qc, qd, qe, qf, qg, qh, qi, qj, qk, ↓reduceIte, resQ_tmp, resQ_cell, resQ_nil, retD_one, retD_two, retD_three, retD_none]; try simp [R.val, retD_one, retD_two, retD_three, retD_none])
end Go.Proofs.YtcaecfofgdogbaaDoor
