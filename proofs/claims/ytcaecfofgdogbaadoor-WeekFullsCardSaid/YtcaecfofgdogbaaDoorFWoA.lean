/-
  Models and laws.
-/
import Derived.Test.YtcaecfofgdogbaaDoorFWpB
import Derived.Test.YtcaecfofgdogbaaDoorFV39
import Derived.Test.YtcaecfofgdogbaaDoorFV36
set_option linter.unusedSimpArgs false
set_option linter.unusedVariables false
namespace Go.Proofs.YtcaecfofgdogbaaDoor
open Go.V
open Nat renaming reduceBEq → qa, reduceAdd → qb, reduceSub → qc, reduceMul → qd, reduceLT → qe, reduceLeDiff → qf
open Int renaming reduceLE → qg, reduceLT → qh, reduceToNat → qi, reduceBEq → qj, reduceBNe → qk
set_option maxRecDepth 100000
set_option maxHeartbeats 4000000
set_option linter.unusedSimpArgs false
set_option linter.unusedVariables false
attribute [local go_sem] tl1 tl2 tl3 tl4 tl5 tl9 tl17 tl21 tl22 tl23 tl24 tl25 tl27 tl28 tl30 tl31 tl32 tl33 tl35 tl36 tl37 tl38 tl39 tl40 tl42 tl43 tl44 tl45 tl46 tl47 tl48 tl49 tl50 tl51 tl52 tl53 tl54 tl55 tl56 tl57 tl58 tl59 tl61 tl62 tl63 tl64 tl65 tl66 tl67 tl68 tl69 tl70 tl71 tl72 tl73 tl74 tl75 tl76 tl77 tl78 tl79 tl80 tl81 tl82 tl83 tl84 tl85 tl87 tl89 tl90 tl91 tl92 tl93 tl94 tl96 tl97 tl98 tl99 tl100 tl101 tl102 tl103 tl104 tl105 tl106 tl107 tl108 tl109 tl115 tl119
def m73 (N : Nat) (x1236 : Int) (x1237 : Int) (x1238 : Int) : Option (PV) :=
  brn (decide (x1236 ≥ x1237)) (
    some (.bool (decide (x1236 ≤ x1238)))) (
    some (.bool false))
theorem c73 (N : Nat) (x1236 : Int) (x1237 : Int) (x1238 : Int) (r : PV)  (h : m73 N x1236 x1237 x1238 = some r) : FnP Tryd.prog 73 [(.int .i64 x1236), (.int .i64 x1237), (.int .i64 x1238)] r := by
  unfold m73 at h
  refine Fn_of (sz := 15) tab_ok [0, 1, 2, 6] [.tmp 6] Tryd.func73 rfl rfl rfl (by simp) ?_
  simp only [initSt, initEnv, List.map_cons, List.map_nil, List.getD_cons_zero, List.getD_cons_succ, List.getD_nil]
  have hh := brn_some h; clear h; rcases hh with ⟨h1239, h⟩ | ⟨h1239, h⟩
  · refine W_sound tab_ok mixed 18 _ _ _ ?_
    simp -implicitDefEqProofs only [go_sem, qa, qb, qc, qd, qe, qf, qg, qh, qi, qj, qk, ↓reduceIte, h1239]
    repeat with_reducible refine ⟨by first | kernel_rfl | decide, ?_⟩
    obtain rfl := Option.some.inj h
    exact finC [(6, .v (.bool (decide (x1236 ≤ x1238))))] [(6, .v (.bool (decide (x1236 ≤ x1238))))] (by simp [leE, lk_cons]) (.cons _ _ _ _ _ (.v _ _ (.refl _)) .nil) (by rfl) (by simp [leE, lk_cons]) (by decide) (by decide) rfl (by simp only [go_sem, qa, qb, qc, qd, qe, qf, qg, qh, qi, qj, qk, ↓reduceIte, resQ_tmp, resQ_cell, resQ_nil, retD_one, retD_two, retD_three, retD_none]; try simp [R.val, retD_one, retD_two, retD_three, retD_none])
  · refine W_sound tab_ok mixed 18 _ _ _ ?_
    simp -implicitDefEqProofs only [go_sem, qa, qb, qc, qd, qe, qf, qg, qh, qi, qj, qk, ↓reduceIte, h1239]
    repeat with_reducible refine ⟨by first | kernel_rfl | decide, ?_⟩
    obtain rfl := Option.some.inj h
    exact finC [(6, .v (.bool false))] [(6, .v (.bool false))] (by simp [leE, lk_cons]) (.cons _ _ _ _ _ (.v _ _ (.refl _)) .nil) (by rfl) (by simp [leE, lk_cons]) (by decide) (by decide) rfl (by simp only [go_sem, qa, qb, qc, qd, qe, qf, qg, qh, qi, qj, qk, ↓reduceIte, resQ_tmp, resQ_cell, resQ_nil, retD_one, retD_two, retD_three, retD_none]; try simp [R.val, retD_one, retD_two, retD_three, retD_none])
def m92_L0 (N : Nat) (x1271 : Int) (n1273 : Nat) (c1274 : List PV) : Nat → Int → Option ((PV ⊕ Unit))
  | 0, _ => none
  | n + 1, x1275 =>
    brn (decide (x1275 < ((n1273 : Nat) : Int))) (
      grd (0 ≤ x1275 ∧ x1275 < ((n1273 : Nat) : Int)) <|
      grd (0 < List.length (List.drop (Int.toNat x1275) c1274)) <|
      getI .i64 (gp c1274 (Int.toNat x1275)) fun x1281 =>
      brn (x1281 == x1271) (
        some (.inl (.bool true))) (
        m92_L0 N x1271 n1273 c1274 n (IntKind.i64.wrap (x1275 + 1)))) (
      some (.inr ()))
def m92 (N : Nat) (p1270 : PV) (x1271 : Int) : Option (PV) :=
  getL p1270 fun n1273 c1274 =>
  bnd' (m92_L0 N x1271 n1273 c1274 N 0) fun o =>
  match o with
  | .inl p1283 =>
    some p1283
  | .inr () =>
    some (.bool false)
theorem c92 (N : Nat) (p1270 : PV) (x1271 : Int) (r : PV)  (h : m92 N p1270 x1271 = some r) : FnP Tryd.prog 92 [p1270, (.int .i64 x1271)] r := by
  unfold m92 at h
  refine Fn_of (sz := 18) tab_ok [0, 1, 4, 5, 9, 17] [.tmp 4] Tryd.func92 rfl rfl rfl (by simp) ?_
  simp only [initSt, initEnv, List.map_cons, List.map_nil, List.getD_cons_zero, List.getD_cons_succ, List.getD_nil]
  have hh := getL_some h; clear h; obtain ⟨n1273, c1274, h1272, h⟩ := hh
  refine W_sound tab_ok mixed 9 _ _ _ ?_
  simp -implicitDefEqProofs only [go_sem, qa, qb, qc, qd, qe, qf, qg, qh, qi, qj, qk, ↓reduceIte, h1272]
  repeat with_reducible refine ⟨by first | kernel_rfl | decide, ?_⟩
  have hh := bnd'_some h; clear h; obtain ⟨o1284, h1285, h1286⟩ := hh
  refine Wp_cut (fun s => (.inr ()) = o1284 ∧ s = ⟨[], [(0, .dead), (1, .dead), (4, .dead), (5, .dead), (9, .dead), (17, .dead)], [], 0, []⟩) ?_ ?_
  · refine Wp_block ?_
    refine Wp_loopG (fun n s => ∃ x1275, m92_L0 N x1271 n1273 c1274 n x1275 = some o1284 ∧ s = ⟨[], [(0, .v (.lst false n1273 c1274)), (1, .v (.int .i64 x1271)), (4, .dead), (5, .v (.int .i64 x1275)), (9, .dead), (17, .dead)], [], 0, []⟩) N _ ((Wk_le (.r (.r (.k (.r (.r (.r .nil)))))) (OLe.refl _)).trans (cmpS_ok rfl)) ⟨_, h1285, rfl⟩ ?_
    clear h1285
    rintro n _ ⟨x1275, h1285, rfl⟩
    cases n with
    | zero => cases h1285
    | succ n =>
      rw [m92_L0] at h1285
      have hh := brn_some h1285; clear h1285; rcases hh with ⟨h1276, h1285⟩ | ⟨h1276, h1285⟩
      · have hh := grd_some h1285; clear h1285; obtain ⟨⟨g1277, g1278⟩, h1285⟩ := hh
        have hh := grd_some h1285; clear h1285; obtain ⟨g1279, h1285⟩ := hh
        have hh := getI_some h1285; clear h1285; obtain ⟨x1281, h1280, h1285⟩ := hh
        have hh := brn_some h1285; clear h1285; rcases hh with ⟨h1282, h1285⟩ | ⟨h1282, h1285⟩
        · refine W_sound tab_ok mixed 28 _ _ _ ?_
          simp -implicitDefEqProofs only [go_sem, qa, qb, qc, qd, qe, qf, qg, qh, qi, qj, qk, ↓reduceIte, h1272, h1276, g1277, g1278, g1279, h1280, h1282]
          repeat with_reducible refine ⟨by first | kernel_rfl | decide, ?_⟩
          obtain rfl := Option.some.inj h1285
          (try dsimp only at h1286)
          obtain rfl := Option.some.inj h1286
          exact finC [(4, .v (.bool true))] [(4, .v (.bool true))] (by simp [leE, lk_cons]) (.cons _ _ _ _ _ (.v _ _ (.refl _)) .nil) (by rfl) (by simp [leE, lk_cons]) (by decide) (by decide) rfl (by simp only [go_sem, qa, qb, qc, qd, qe, qf, qg, qh, qi, qj, qk, ↓reduceIte, resQ_tmp, resQ_cell, resQ_nil, retD_one, retD_two, retD_three, retD_none]; try simp [R.val, retD_one, retD_two, retD_three, retD_none])
        · refine W_sound tab_ok mixed 29 _ _ _ ?_
          simp -implicitDefEqProofs only [go_sem, qa, qb, qc, qd, qe, qf, qg, qh, qi, qj, qk, ↓reduceIte, h1272, h1276, g1277, g1278, g1279, h1280, h1282]
          repeat with_reducible refine ⟨by first | kernel_rfl | decide, ?_⟩
          exact cutQ _ ((Wk_le (.r (.r (.r (.r (.k (.k .nil)))))) (OLe.refl _)).trans (cmpS_ok rfl)) ⟨n, Nat.lt_succ_self n, _, h1285, rfl⟩
      · refine W_sound tab_ok mixed 10 _ _ _ ?_
        simp -implicitDefEqProofs only [go_sem, qa, qb, qc, qd, qe, qf, qg, qh, qi, qj, qk, ↓reduceIte, h1272, h1276]
        repeat with_reducible refine ⟨by first | kernel_rfl | decide, ?_⟩
        obtain rfl := Option.some.inj h1285
        exact cutQ _ ((Wk_le (.k (.k (.r (.k (.k (.r .nil)))))) (OLe.refl _)).trans (cmpS_ok rfl)) ⟨rfl, rfl⟩
  · rintro _ ⟨rfl, rfl⟩
    (try dsimp only at h1286)
    refine W_sound tab_ok mixed 6 _ _ _ ?_
    simp -implicitDefEqProofs only [go_sem, qa, qb, qc, qd, qe, qf, qg, qh, qi, qj, qk, ↓reduceIte, h1272]
    repeat with_reducible refine ⟨by first | kernel_rfl | decide, ?_⟩
    obtain rfl := Option.some.inj h1286
    exact finC [(4, .v (.bool false))] [(4, .v (.bool false))] (by simp [leE, lk_cons]) (.cons _ _ _ _ _ (.v _ _ (.refl _)) .nil) (by rfl) (by simp [leE, lk_cons]) (by decide) (by decide) rfl (by simp only [go_sem, qa, qb, qc, qd, qe, qf, qg, qh, qi, qj, qk, ↓reduceIte, resQ_tmp, resQ_cell, resQ_nil, retD_one, retD_two, retD_three, retD_none]; try simp [R.val, retD_one, retD_two, retD_three, retD_none])
def m63_L0 (N : Nat) (x1295 : Int) (x1296 : Int) (n1298 : Nat) (c1299 : List PV) : Nat → Int → Option ((PV ⊕ Unit))
  | 0, _ => none
  | n + 1, x1300 =>
    brn (decide (x1300 < ((n1298 : Nat) : Int))) (
      grd (0 ≤ x1300 ∧ x1300 < ((n1298 : Nat) : Int)) <|
      grd (0 < List.length (List.drop (Int.toNat x1300) c1299)) <|
      getL (gp c1299 (Int.toNat x1300)) fun n1306 c1307 =>
      brn (decide (x1295 < ((n1306 : Nat) : Int))) (
        grd (0 ≤ x1295 ∧ x1295 < ((n1306 : Nat) : Int)) <|
        grd (0 < List.length (List.drop (Int.toNat x1295) c1307)) <|
        getI .i64 (gp c1307 (Int.toNat x1295)) fun x1313 =>
        brn (x1313 == x1296) (
          some (.inl (.bool true))) (
          m63_L0 N x1295 x1296 n1298 c1299 n (IntKind.i64.wrap (x1300 + 1)))) (
        m63_L0 N x1295 x1296 n1298 c1299 n (IntKind.i64.wrap (x1300 + 1)))) (
      some (.inr ()))
def m63 (N : Nat) (p1294 : PV) (x1295 : Int) (x1296 : Int) : Option (PV) :=
  getL p1294 fun n1298 c1299 =>
  bnd' (m63_L0 N x1295 x1296 n1298 c1299 N 0) fun o =>
  match o with
  | .inl p1315 =>
    some p1315
  | .inr () =>
    some (.bool false)
theorem c63 (N : Nat) (p1294 : PV) (x1295 : Int) (x1296 : Int) (r : PV)  (h : m63 N p1294 x1295 x1296 = some r) : FnP Tryd.prog 63 [p1294, (.int .i64 x1295), (.int .i64 x1296)] r := by
  unfold m63 at h
  refine Fn_of (sz := 32) tab_ok [0, 1, 2, 6, 7, 11, 31] [.tmp 6] Tryd.func63 rfl rfl rfl (by simp) ?_
  simp only [initSt, initEnv, List.map_cons, List.map_nil, List.getD_cons_zero, List.getD_cons_succ, List.getD_nil]
  have hh := getL_some h; clear h; obtain ⟨n1298, c1299, h1297, h⟩ := hh
  refine W_sound tab_ok mixed 9 _ _ _ ?_
  simp -implicitDefEqProofs only [go_sem, qa, qb, qc, qd, qe, qf, qg, qh, qi, qj, qk, ↓reduceIte, h1297]
  repeat with_reducible refine ⟨by first | kernel_rfl | decide, ?_⟩
  have hh := bnd'_some h; clear h; obtain ⟨o1316, h1317, h1318⟩ := hh
  refine Wp_cut (fun s => (.inr ()) = o1316 ∧ s = ⟨[], [(0, .dead), (1, .dead), (2, .dead), (6, .dead), (7, .dead), (11, .dead), (31, .dead)], [], 0, []⟩) ?_ ?_
  · refine Wp_block ?_
    refine Wp_loopG (fun n s => ∃ x1300, m63_L0 N x1295 x1296 n1298 c1299 n x1300 = some o1316 ∧ s = ⟨[], [(0, .v (.lst false n1298 c1299)), (1, .v (.int .i64 x1295)), (2, .v (.int .i64 x1296)), (6, .dead), (7, .v (.int .i64 x1300)), (11, .dead), (31, .dead)], [], 0, []⟩) N _ ((Wk_le (.r (.r (.r (.k (.r (.r (.r .nil))))))) (OLe.refl _)).trans (cmpS_ok (st' := ⟨[], [(0, .v (.lst false n1298 c1299)), (1, .v (.int .i64 x1295)), (2, .v (.int .i64 x1296)), (6, .dead), (7, .v (.int .i64 0)), (11, .dead), (31, .dead)], [], 0, []⟩) (by kernel_rfl))) ⟨_, h1317, rfl⟩ ?_
    clear h1317
    rintro n _ ⟨x1300, h1317, rfl⟩
    cases n with
    | zero => cases h1317
    | succ n =>
      rw [m63_L0] at h1317
      have hh := brn_some h1317; clear h1317; rcases hh with ⟨h1301, h1317⟩ | ⟨h1301, h1317⟩
      · have hh := grd_some h1317; clear h1317; obtain ⟨⟨g1302, g1303⟩, h1317⟩ := hh
        have hh := grd_some h1317; clear h1317; obtain ⟨g1304, h1317⟩ := hh
        have hh := getL_some h1317; clear h1317; obtain ⟨n1306, c1307, h1305, h1317⟩ := hh
        have hh := brn_some h1317; clear h1317; rcases hh with ⟨h1308, h1317⟩ | ⟨h1308, h1317⟩
        · have hh := grd_some h1317; clear h1317; obtain ⟨⟨g1309, g1310⟩, h1317⟩ := hh
          have hh := grd_some h1317; clear h1317; obtain ⟨g1311, h1317⟩ := hh
          have hh := getI_some h1317; clear h1317; obtain ⟨x1313, h1312, h1317⟩ := hh
          have hh := brn_some h1317; clear h1317; rcases hh with ⟨h1314, h1317⟩ | ⟨h1314, h1317⟩
          · refine W_sound tab_ok mixed 40 _ _ _ ?_
            simp -implicitDefEqProofs only [go_sem, qa, qb, qc, qd, qe, qf, qg, qh, qi, qj, qk, ↓reduceIte, h1297, h1301, g1302, g1303, g1304, h1305, h1308, g1309, g1310, g1311, h1312, h1314]
            repeat with_reducible refine ⟨by first | kernel_rfl | decide, ?_⟩
            obtain rfl := Option.some.inj h1317
            (try dsimp only at h1318)
            obtain rfl := Option.some.inj h1318
            exact finC [(6, .v (.bool true))] [(6, .v (.bool true))] (by simp [leE, lk_cons]) (.cons _ _ _ _ _ (.v _ _ (.refl _)) .nil) (by rfl) (by simp [leE, lk_cons]) (by decide) (by decide) rfl (by simp only [go_sem, qa, qb, qc, qd, qe, qf, qg, qh, qi, qj, qk, ↓reduceIte, resQ_tmp, resQ_cell, resQ_nil, retD_one, retD_two, retD_three, retD_none]; try simp [R.val, retD_one, retD_two, retD_three, retD_none])
          · refine W_sound tab_ok mixed 41 _ _ _ ?_
            simp -implicitDefEqProofs only [go_sem, qa, qb, qc, qd, qe, qf, qg, qh, qi, qj, qk, ↓reduceIte, h1297, h1301, g1302, g1303, g1304, h1305, h1308, g1309, g1310, g1311, h1312, h1314]
            repeat with_reducible refine ⟨by first | kernel_rfl | decide, ?_⟩
            exact cutQ _ ((Wk_le (.r (.r (.r (.r (.r (.k (.k .nil))))))) (OLe.refl _)).trans (cmpS_ok (st' := ⟨[], [(0, .v (.lst false n1298 c1299)), (1, .v (.int .i64 x1295)), (2, .v (.int .i64 x1296)), (6, .dead), (7, .v (.int .i64 (IntKind.i64.wrap (x1300 + 1)))), (11, .dead), (31, .dead)], [], 0, []⟩) (by kernel_rfl))) ⟨n, Nat.lt_succ_self n, _, h1317, rfl⟩
        · refine W_sound tab_ok mixed 41 _ _ _ ?_
          simp -implicitDefEqProofs only [go_sem, qa, qb, qc, qd, qe, qf, qg, qh, qi, qj, qk, ↓reduceIte, h1297, h1301, g1302, g1303, g1304, h1305, h1308]
          repeat with_reducible refine ⟨by first | kernel_rfl | decide, ?_⟩
          exact cutQ _ ((Wk_le (.r (.r (.r (.r (.r (.k (.k .nil))))))) (OLe.refl _)).trans (cmpS_ok (st' := ⟨[], [(0, .v (.lst false n1298 c1299)), (1, .v (.int .i64 x1295)), (2, .v (.int .i64 x1296)), (6, .dead), (7, .v (.int .i64 (IntKind.i64.wrap (x1300 + 1)))), (11, .dead), (31, .dead)], [], 0, []⟩) (by kernel_rfl))) ⟨n, Nat.lt_succ_self n, _, h1317, rfl⟩
      · refine W_sound tab_ok mixed 10 _ _ _ ?_
        simp -implicitDefEqProofs only [go_sem, qa, qb, qc, qd, qe, qf, qg, qh, qi, qj, qk, ↓reduceIte, h1297, h1301]
        repeat with_reducible refine ⟨by first | kernel_rfl | decide, ?_⟩
        obtain rfl := Option.some.inj h1317
        exact cutQ _ ((Wk_le (.k (.k (.k (.r (.k (.k (.r .nil))))))) (OLe.refl _)).trans (cmpS_ok (st' := ⟨[], [(0, .dead), (1, .dead), (2, .dead), (6, .dead), (7, .dead), (11, .dead), (31, .dead)], [], 0, []⟩) (by kernel_rfl))) ⟨rfl, rfl⟩
  · rintro _ ⟨rfl, rfl⟩
    (try dsimp only at h1318)
    refine W_sound tab_ok mixed 6 _ _ _ ?_
    simp -implicitDefEqProofs only [go_sem, qa, qb, qc, qd, qe, qf, qg, qh, qi, qj, qk, ↓reduceIte, h1297]
    repeat with_reducible refine ⟨by first | kernel_rfl | decide, ?_⟩
    obtain rfl := Option.some.inj h1318
    exact finC [(6, .v (.bool false))] [(6, .v (.bool false))] (by simp [leE, lk_cons]) (.cons _ _ _ _ _ (.v _ _ (.refl _)) .nil) (by rfl) (by simp [leE, lk_cons]) (by decide) (by decide) rfl (by simp only [go_sem, qa, qb, qc, qd, qe, qf, qg, qh, qi, qj, qk, ↓reduceIte, resQ_tmp, resQ_cell, resQ_nil, retD_one, retD_two, retD_three, retD_none]; try simp [R.val, retD_one, retD_two, retD_three, retD_none])
def m68_L1 (N : Nat) (x1230 : Int) (x1232 : Int) (n1234 : Nat) (c1235 : List PV) (x1246 : Int) (n1252 : Nat) (c1253 : List PV) : Nat → Int → Option ((PV ⊕ Unit))
  | 0, _ => none
  | n + 1, x1256 =>
    brn (decide (x1256 < x1232)) (
      grd (0 ≤ x1256 ∧ x1256 < ((n1252 : Nat) : Int)) <|
      grd (0 < List.length (List.drop (Int.toNat x1256) c1253)) <|
      getI .i64 (gp c1253 (Int.toNat x1256)) fun x1262 =>
      bnd' (m73 N x1262 0 (IntKind.i64.wrap (x1230 - 1))) fun p1263 =>
      getB p1263 fun b1266 =>
      brn b1266 (
        grd (x1256 ≤ ((n1252 : Nat) : Int)) <|
        grd (List.length c1253 = n1252) <|
        bnd' (m92 N (.lst false (Int.toNat x1256) (List.take (Int.toNat x1256) c1253)) x1262) fun p1287 =>
        getB p1287 fun b1290 =>
        brn b1290 (
          some (.inl (.int .i64 6))) (
          grd (x1246 ≤ ((n1234 : Nat) : Int)) <|
          grd (List.length c1235 = n1234) <|
          bnd' (m63 N (.lst false (Int.toNat x1246) (List.take (Int.toNat x1246) c1235)) x1256 x1262) fun p1319 =>
          getB p1319 fun b1322 =>
          brn b1322 (
            some (.inl (.int .i64 13))) (
            m68_L1 N x1230 x1232 n1234 c1235 x1246 n1252 c1253 n (IntKind.i64.wrap (x1256 + 1))))) (
        some (.inl (.int .i64 2)))) (
      some (.inr ()))
def m68_L0 (N : Nat) (x1230 : Int) (x1232 : Int) (n1234 : Nat) (c1235 : List PV) : Nat → Int → Option ((PV ⊕ Unit))
  | 0, _ => none
  | n + 1, x1246 =>
    brn (decide (x1246 < ((n1234 : Nat) : Int))) (
      grd (0 ≤ x1246 ∧ x1246 < ((n1234 : Nat) : Int)) <|
      grd (0 < List.length (List.drop (Int.toNat x1246) c1235)) <|
      getL (gp c1235 (Int.toNat x1246)) fun n1252 c1253 =>
      brn (((n1252 : Nat) : Int) != x1232) (
        some (.inl (.int .i64 5))) (
        brn (decide (x1232 > x1230)) (
          some (.inl (.int .i64 5))) (
          bnd' (m68_L1 N x1230 x1232 n1234 c1235 x1246 n1252 c1253 N 0) fun o =>
          match o with
          | .inl p1324 =>
            some (.inl p1324)
          | .inr () =>
            m68_L0 N x1230 x1232 n1234 c1235 n (IntKind.i64.wrap (x1246 + 1))))) (
      some (.inr ()))
def m68 (N : Nat) (x1230 : Int) (p1231 : PV) (x1232 : Int) : Option (PV) :=
  getL p1231 fun n1234 c1235 =>
  bnd' (m73 N x1230 1 5) fun p1240 =>
  getB p1240 fun b1243 =>
  brn b1243 (
    brn (decide (((n1234 : Nat) : Int) > x1230)) (
      some (.int .i64 3)) (
      bnd' (m68_L0 N x1230 x1232 n1234 c1235 N 0) fun o =>
      match o with
      | .inl p1325 =>
        some p1325
      | .inr () =>
        some (.int .i64 0))) (
    some (.int .i64 1))
theorem c68 (N : Nat) (x1230 : Int) (p1231 : PV) (x1232 : Int) (r : PV)  (h : m68 N x1230 p1231 x1232 = some r) : FnP Tryd.prog 68 [(.int .i64 x1230), p1231, (.int .i64 x1232)] r := by
  unfold m68 at h
  refine Fn_of (sz := 76) tab_ok [0, 1, 2, 6, 7, 8, 11, 15, 19, 33, 36, 49, 63, 75] [.tmp 6] Tryd.func68 rfl rfl rfl (by simp) ?_
  simp only [initSt, initEnv, List.map_cons, List.map_nil, List.getD_cons_zero, List.getD_cons_succ, List.getD_nil]
  have hh := getL_some h; clear h; obtain ⟨n1234, c1235, h1233, h⟩ := hh
  have hh := bnd'_some h; clear h; obtain ⟨p1240, h1241, h⟩ := hh
  refine W_sound tab_ok mixed 8 _ _ _ ?_
  simp -implicitDefEqProofs only [go_sem, qa, qb, qc, qd, qe, qf, qg, qh, qi, qj, qk, ↓reduceIte, h1233]
  repeat with_reducible refine ⟨by first | kernel_rfl | decide, ?_⟩
  refine Wp_callP (c73 N _ _ _ _ h1241) (by kernel_rfl) rfl rfl rfl rfl (by decide) ?_
  have hh := getB_some h; clear h; obtain ⟨b1243, h1242, h⟩ := hh
  have hh := brn_some h; clear h; rcases hh with ⟨h1244, h⟩ | ⟨h1244, h⟩
  · have hh := brn_some h; clear h; rcases hh with ⟨h1245, h⟩ | ⟨h1245, h⟩
    · refine W_sound tab_ok mixed 19 _ _ _ ?_
      simp -implicitDefEqProofs only [go_sem, qa, qb, qc, qd, qe, qf, qg, qh, qi, qj, qk, ↓reduceIte, h1233, h1242, h1244, h1245]
      repeat with_reducible refine ⟨by first | kernel_rfl | decide, ?_⟩
      obtain rfl := Option.some.inj h
      exact finC [(6, .v (.int .i64 3))] [(6, .v (.int .i64 3))] (by simp [leE, lk_cons]) (.cons _ _ _ _ _ (.v _ _ (.refl _)) .nil) (by rfl) (by simp [leE, lk_cons]) (by decide) (by decide) rfl (by simp only [go_sem, qa, qb, qc, qd, qe, qf, qg, qh, qi, qj, qk, ↓reduceIte, resQ_tmp, resQ_cell, resQ_nil, retD_one, retD_two, retD_three, retD_none]; try simp [R.val, retD_one, retD_two, retD_three, retD_none])
    · refine W_sound tab_ok mixed 19 _ _ _ ?_
      simp -implicitDefEqProofs only [go_sem, qa, qb, qc, qd, qe, qf, qg, qh, qi, qj, qk, ↓reduceIte, h1233, h1242, h1244, h1245]
      repeat with_reducible refine ⟨by first | kernel_rfl | decide, ?_⟩
      have hh := bnd'_some h; clear h; obtain ⟨o1326, h1327, h1328⟩ := hh
      refine Wp_cut (fun s => (.inr ()) = o1326 ∧ s = ⟨[], [(0, .dead), (1, .dead), (2, .dead), (6, .dead), (7, .dead), (8, .dead), (11, .dead), (15, .dead), (19, .dead), (33, .dead), (36, .dead), (49, .dead), (63, .dead), (75, .dead)], [], 0, []⟩) ?_ ?_
      · refine Wp_block ?_
        refine Wp_loopG (fun n s => ∃ x1246, m68_L0 N x1230 x1232 n1234 c1235 n x1246 = some o1326 ∧ s = ⟨[], [(0, .v (.int .i64 x1230)), (1, .v (.lst false n1234 c1235)), (2, .v (.int .i64 x1232)), (6, .dead), (7, .v (.int .i64 x1246)), (8, .dead), (11, .dead), (15, .dead), (19, .dead), (33, .dead), (36, .dead), (49, .dead), (63, .dead), (75, .dead)], [], 0, []⟩) N _ ((Wk_le (.r (.r (.r (.k (.r (.r (.k (.k (.r (.r (.r (.r (.r (.r .nil)))))))))))))) (OLe.refl _)).trans (cmpS_ok (st' := ⟨[], [(0, .v (.int .i64 x1230)), (1, .v (.lst false n1234 c1235)), (2, .v (.int .i64 x1232)), (6, .dead), (7, .v (.int .i64 0)), (8, .dead), (11, .dead), (15, .dead), (19, .dead), (33, .dead), (36, .dead), (49, .dead), (63, .dead), (75, .dead)], [], 0, []⟩) (by kernel_rfl))) ⟨_, h1327, rfl⟩ ?_
        clear h1327
        rintro n _ ⟨x1246, h1327, rfl⟩
        cases n with
        | zero => cases h1327
        | succ n =>
          rw [m68_L0] at h1327
          have hh := brn_some h1327; clear h1327; rcases hh with ⟨h1247, h1327⟩ | ⟨h1247, h1327⟩
          · have hh := grd_some h1327; clear h1327; obtain ⟨⟨g1248, g1249⟩, h1327⟩ := hh
            have hh := grd_some h1327; clear h1327; obtain ⟨g1250, h1327⟩ := hh
            have hh := getL_some h1327; clear h1327; obtain ⟨n1252, c1253, h1251, h1327⟩ := hh
            have hh := brn_some h1327; clear h1327; rcases hh with ⟨h1254, h1327⟩ | ⟨h1254, h1327⟩
            · refine W_sound tab_ok mixed 35 _ _ _ ?_
              simp -implicitDefEqProofs only [go_sem, qa, qb, qc, qd, qe, qf, qg, qh, qi, qj, qk, ↓reduceIte, h1233, h1242, h1244, h1245, h1247, g1248, g1249, g1250, h1251, h1254]
              repeat with_reducible refine ⟨by first | kernel_rfl | decide, ?_⟩
              obtain rfl := Option.some.inj h1327
              (try dsimp only at h1328)
              obtain rfl := Option.some.inj h1328
              exact finC [(6, .v (.int .i64 5))] [(6, .v (.int .i64 5))] (by simp [leE, lk_cons]) (.cons _ _ _ _ _ (.v _ _ (.refl _)) .nil) (by rfl) (by simp [leE, lk_cons]) (by decide) (by decide) rfl (by simp only [go_sem, qa, qb, qc, qd, qe, qf, qg, qh, qi, qj, qk, ↓reduceIte, resQ_tmp, resQ_cell, resQ_nil, retD_one, retD_two, retD_three, retD_none]; try simp [R.val, retD_one, retD_two, retD_three, retD_none])
            · have hh := brn_some h1327; clear h1327; rcases hh with ⟨h1255, h1327⟩ | ⟨h1255, h1327⟩
              · refine W_sound tab_ok mixed 35 _ _ _ ?_
                simp -implicitDefEqProofs only [go_sem, qa, qb, qc, qd, qe, qf, qg, qh, qi, qj, qk, ↓reduceIte, h1233, h1242, h1244, h1245, h1247, g1248, g1249, g1250, h1251, h1254, h1255]
                repeat with_reducible refine ⟨by first | kernel_rfl | decide, ?_⟩
                obtain rfl := Option.some.inj h1327
                (try dsimp only at h1328)
                obtain rfl := Option.some.inj h1328
                exact finC [(6, .v (.int .i64 5))] [(6, .v (.int .i64 5))] (by simp [leE, lk_cons]) (.cons _ _ _ _ _ (.v _ _ (.refl _)) .nil) (by rfl) (by simp [leE, lk_cons]) (by decide) (by decide) rfl (by simp only [go_sem, qa, qb, qc, qd, qe, qf, qg, qh, qi, qj, qk, ↓reduceIte, resQ_tmp, resQ_cell, resQ_nil, retD_one, retD_two, retD_three, retD_none]; try simp [R.val, retD_one, retD_two, retD_three, retD_none])
              · refine W_sound tab_ok mixed 34 _ _ _ ?_
                simp -implicitDefEqProofs only [go_sem, qa, qb, qc, qd, qe, qf, qg, qh, qi, qj, qk, ↓reduceIte, h1233, h1242, h1244, h1245, h1247, g1248, g1249, g1250, h1251, h1254, h1255]
                repeat with_reducible refine ⟨by first | kernel_rfl | decide, ?_⟩
                have hh := bnd'_some h1327; clear h1327; obtain ⟨o1329, h1330, h1331⟩ := hh
                refine Wp_cut (fun s => (.inr ()) = o1329 ∧ s = ⟨[], [(0, .v (.int .i64 x1230)), (1, .v (.lst false n1234 c1235)), (2, .v (.int .i64 x1232)), (6, .dead), (7, .v (.int .i64 x1246)), (8, .dead), (11, .dead), (15, .dead), (19, .dead), (33, .dead), (36, .dead), (49, .dead), (63, .dead), (75, .dead)], [], 0, []⟩) ?_ ?_
                · refine Wp_block ?_
                  refine Wp_loopG (fun n s => ∃ x1256, m68_L1 N x1230 x1232 n1234 c1235 x1246 n1252 c1253 n x1256 = some o1329 ∧ s = ⟨[], [(0, .v (.int .i64 x1230)), (1, .v (.lst false n1234 c1235)), (2, .v (.int .i64 x1232)), (6, .dead), (7, .v (.int .i64 x1246)), (8, .v (.int .i64 x1256)), (11, .dead), (15, .dead), (19, .dead), (33, .dead), (36, .dead), (49, .dead), (63, .dead), (75, .dead)], [], 0, []⟩) N _ ((Wk_le (.r (.r (.r (.r (.r (.r (.r (.r (.k (.k (.r (.r (.r (.r .nil)))))))))))))) (OLe.refl _)).trans (cmpS_ok (st' := ⟨[], [(0, .v (.int .i64 x1230)), (1, .v (.lst false n1234 c1235)), (2, .v (.int .i64 x1232)), (6, .dead), (7, .v (.int .i64 x1246)), (8, .v (.int .i64 0)), (11, .dead), (15, .dead), (19, .dead), (33, .dead), (36, .dead), (49, .dead), (63, .dead), (75, .dead)], [], 0, []⟩) (by kernel_rfl))) ⟨_, h1330, rfl⟩ ?_
                  clear h1330
                  rintro n _ ⟨x1256, h1330, rfl⟩
                  cases n with
                  | zero => cases h1330
                  | succ n =>
                    rw [m68_L1] at h1330
                    have hh := brn_some h1330; clear h1330; rcases hh with ⟨h1257, h1330⟩ | ⟨h1257, h1330⟩
                    · have hh := grd_some h1330; clear h1330; obtain ⟨⟨g1258, g1259⟩, h1330⟩ := hh
                      have hh := grd_some h1330; clear h1330; obtain ⟨g1260, h1330⟩ := hh
                      have hh := getI_some h1330; clear h1330; obtain ⟨x1262, h1261, h1330⟩ := hh
                      have hh := bnd'_some h1330; clear h1330; obtain ⟨p1263, h1264, h1330⟩ := hh
                      refine W_sound tab_ok mixed 23 _ _ _ ?_
                      simp -implicitDefEqProofs only [go_sem, qa, qb, qc, qd, qe, qf, qg, qh, qi, qj, qk, ↓reduceIte, h1233, h1242, h1244, h1245, h1247, g1248, g1249, g1250, h1251, h1254, h1255, h1257, g1258, g1259, g1260, h1261]
                      repeat with_reducible refine ⟨by first | kernel_rfl | decide, ?_⟩
                      refine Wp_callP (c73 N _ _ _ _ h1264) (by kernel_rfl) rfl rfl rfl rfl (by decide) ?_
                      have hh := getB_some h1330; clear h1330; obtain ⟨b1266, h1265, h1330⟩ := hh
                      have hh := brn_some h1330; clear h1330; rcases hh with ⟨h1267, h1330⟩ | ⟨h1267, h1330⟩
                      · have hh := grd_some h1330; clear h1330; obtain ⟨g1268, h1330⟩ := hh
                        have hh := grd_some h1330; clear h1330; obtain ⟨g1269, h1330⟩ := hh
                        have hh := bnd'_some h1330; clear h1330; obtain ⟨p1287, h1288, h1330⟩ := hh
                        refine W_sound tab_ok mixed 20 _ _ _ ?_
                        simp -implicitDefEqProofs only [go_sem, qa, qb, qc, qd, qe, qf, qg, qh, qi, qj, qk, ↓reduceIte, h1233, h1242, h1244, h1245, h1247, g1248, g1249, g1250, h1251, h1254, h1255, h1257, g1258, g1259, g1260, h1261, h1265, h1267, g1268, g1269]
                        repeat with_reducible refine ⟨by first | kernel_rfl | decide, ?_⟩
                        refine Wp_callP (c92 N _ _ _ h1288) (by kernel_rfl) rfl rfl rfl rfl (by decide) ?_
                        have hh := getB_some h1330; clear h1330; obtain ⟨b1290, h1289, h1330⟩ := hh
                        have hh := brn_some h1330; clear h1330; rcases hh with ⟨h1291, h1330⟩ | ⟨h1291, h1330⟩
                        · refine W_sound tab_ok mixed 8 _ _ _ ?_
                          simp -implicitDefEqProofs only [go_sem, qa, qb, qc, qd, qe, qf, qg, qh, qi, qj, qk, ↓reduceIte, h1233, h1242, h1244, h1245, h1247, g1248, g1249, g1250, h1251, h1254, h1255, h1257, g1258, g1259, g1260, h1261, h1265, h1267, g1268, g1269, h1289, h1291]
                          repeat with_reducible refine ⟨by first | kernel_rfl | decide, ?_⟩
                          obtain rfl := Option.some.inj h1330
                          (try dsimp only at h1331)
                          obtain rfl := Option.some.inj h1331
                          (try dsimp only at h1328)
                          obtain rfl := Option.some.inj h1328
                          exact finC [(6, .v (.int .i64 6))] [(6, .v (.int .i64 6))] (by simp [leE, lk_cons]) (.cons _ _ _ _ _ (.v _ _ (.refl _)) .nil) (by rfl) (by simp [leE, lk_cons]) (by decide) (by decide) rfl (by simp only [go_sem, qa, qb, qc, qd, qe, qf, qg, qh, qi, qj, qk, ↓reduceIte, resQ_tmp, resQ_cell, resQ_nil, retD_one, retD_two, retD_three, retD_none]; try simp [R.val, retD_one, retD_two, retD_three, retD_none])
                        · have hh := grd_some h1330; clear h1330; obtain ⟨g1292, h1330⟩ := hh
                          have hh := grd_some h1330; clear h1330; obtain ⟨g1293, h1330⟩ := hh
                          have hh := bnd'_some h1330; clear h1330; obtain ⟨p1319, h1320, h1330⟩ := hh
                          refine W_sound tab_ok mixed 16 _ _ _ ?_
                          simp -implicitDefEqProofs only [go_sem, qa, qb, qc, qd, qe, qf, qg, qh, qi, qj, qk, ↓reduceIte, h1233, h1242, h1244, h1245, h1247, g1248, g1249, g1250, h1251, h1254, h1255, h1257, g1258, g1259, g1260, h1261, h1265, h1267, g1268, g1269, h1289, h1291, g1292, g1293]
                          repeat with_reducible refine ⟨by first | kernel_rfl | decide, ?_⟩
                          refine Wp_callP (c63 N _ _ _ _ h1320) (by kernel_rfl) rfl rfl rfl rfl (by decide) ?_
                          have hh := getB_some h1330; clear h1330; obtain ⟨b1322, h1321, h1330⟩ := hh
                          have hh := brn_some h1330; clear h1330; rcases hh with ⟨h1323, h1330⟩ | ⟨h1323, h1330⟩
                          · refine W_sound tab_ok mixed 8 _ _ _ ?_
                            simp -implicitDefEqProofs only [go_sem, qa, qb, qc, qd, qe, qf, qg, qh, qi, qj, qk, ↓reduceIte, h1233, h1242, h1244, h1245, h1247, g1248, g1249, g1250, h1251, h1254, h1255, h1257, g1258, g1259, g1260, h1261, h1265, h1267, g1268, g1269, h1289, h1291, g1292, g1293, h1321, h1323]
                            repeat with_reducible refine ⟨by first | kernel_rfl | decide, ?_⟩
                            obtain rfl := Option.some.inj h1330
                            (try dsimp only at h1331)
                            obtain rfl := Option.some.inj h1331
                            (try dsimp only at h1328)
                            obtain rfl := Option.some.inj h1328
                            exact finC [(6, .v (.int .i64 13))] [(6, .v (.int .i64 13))] (by simp [leE, lk_cons]) (.cons _ _ _ _ _ (.v _ _ (.refl _)) .nil) (by rfl) (by simp [leE, lk_cons]) (by decide) (by decide) rfl (by simp only [go_sem, qa, qb, qc, qd, qe, qf, qg, qh, qi, qj, qk, ↓reduceIte, resQ_tmp, resQ_cell, resQ_nil, retD_one, retD_two, retD_three, retD_none]; try simp [R.val, retD_one, retD_two, retD_three, retD_none])
                          · refine W_sound tab_ok mixed 9 _ _ _ ?_
                            simp -implicitDefEqProofs only [go_sem, qa, qb, qc, qd, qe, qf, qg, qh, qi, qj, qk, ↓reduceIte, h1233, h1242, h1244, h1245, h1247, g1248, g1249, g1250, h1251, h1254, h1255, h1257, g1258, g1259, g1260, h1261, h1265, h1267, g1268, g1269, h1289, h1291, g1292, g1293, h1321, h1323]
                            repeat with_reducible refine ⟨by first | kernel_rfl | decide, ?_⟩
                            exact cutQ _ ((Wk_le (.r (.r (.r (.r (.r (.r (.r (.r (.r (.r (.k (.k (.k (.k .nil)))))))))))))) (OLe.refl _)).trans (cmpS_ok (st' := ⟨[], [(0, .v (.int .i64 x1230)), (1, .v (.lst false n1234 c1235)), (2, .v (.int .i64 x1232)), (6, .dead), (7, .v (.int .i64 x1246)), (8, .v (.int .i64 (IntKind.i64.wrap (x1256 + 1)))), (11, .dead), (15, .dead), (19, .dead), (33, .dead), (36, .dead), (49, .dead), (63, .dead), (75, .dead)], [], 0, []⟩) (by kernel_rfl))) ⟨n, Nat.lt_succ_self n, _, h1330, rfl⟩
                      · refine W_sound tab_ok mixed 9 _ _ _ ?_
                        simp -implicitDefEqProofs only [go_sem, qa, qb, qc, qd, qe, qf, qg, qh, qi, qj, qk, ↓reduceIte, h1233, h1242, h1244, h1245, h1247, g1248, g1249, g1250, h1251, h1254, h1255, h1257, g1258, g1259, g1260, h1261, h1265, h1267]
                        repeat with_reducible refine ⟨by first | kernel_rfl | decide, ?_⟩
                        obtain rfl := Option.some.inj h1330
                        (try dsimp only at h1331)
                        obtain rfl := Option.some.inj h1331
                        (try dsimp only at h1328)
                        obtain rfl := Option.some.inj h1328
                        exact finC [(6, .v (.int .i64 2))] [(6, .v (.int .i64 2))] (by simp [leE, lk_cons]) (.cons _ _ _ _ _ (.v _ _ (.refl _)) .nil) (by rfl) (by simp [leE, lk_cons]) (by decide) (by decide) rfl (by simp only [go_sem, qa, qb, qc, qd, qe, qf, qg, qh, qi, qj, qk, ↓reduceIte, resQ_tmp, resQ_cell, resQ_nil, retD_one, retD_two, retD_three, retD_none]; try simp [R.val, retD_one, retD_two, retD_three, retD_none])
                    · refine W_sound tab_ok mixed 9 _ _ _ ?_
                      simp -implicitDefEqProofs only [go_sem, qa, qb, qc, qd, qe, qf, qg, qh, qi, qj, qk, ↓reduceIte, h1233, h1242, h1244, h1245, h1247, g1248, g1249, g1250, h1251, h1254, h1255, h1257]
                      repeat with_reducible refine ⟨by first | kernel_rfl | decide, ?_⟩
                      obtain rfl := Option.some.inj h1330
                      exact cutQ _ ((Wk_le (.r (.r (.r (.r (.r (.k (.r (.r (.r (.r (.k (.r (.r (.r .nil)))))))))))))) (OLe.refl _)).trans (cmpS_ok (st' := ⟨[], [(0, .v (.int .i64 x1230)), (1, .v (.lst false n1234 c1235)), (2, .v (.int .i64 x1232)), (6, .dead), (7, .v (.int .i64 x1246)), (8, .dead), (11, .dead), (15, .dead), (19, .dead), (33, .dead), (36, .dead), (49, .dead), (63, .dead), (75, .dead)], [], 0, []⟩) (by kernel_rfl))) ⟨rfl, rfl⟩
                · rintro _ ⟨rfl, rfl⟩
                  (try dsimp only at h1331)
                  refine W_sound tab_ok mixed 6 _ _ _ ?_
                  simp -implicitDefEqProofs only [go_sem, qa, qb, qc, qd, qe, qf, qg, qh, qi, qj, qk, ↓reduceIte, h1233, h1242, h1244, h1245, h1247, g1248, g1249, g1250, h1251, h1254, h1255]
                  repeat with_reducible refine ⟨by first | kernel_rfl | decide, ?_⟩
                  exact cutQ _ ((Wk_le (.r (.r (.r (.r (.r (.r (.r (.r (.r (.r (.r (.r (.r (.r .nil)))))))))))))) (OLe.refl _)).trans (cmpS_ok (st' := ⟨[], [(0, .v (.int .i64 x1230)), (1, .v (.lst false n1234 c1235)), (2, .v (.int .i64 x1232)), (6, .dead), (7, .v (.int .i64 (IntKind.i64.wrap (x1246 + 1)))), (8, .dead), (11, .dead), (15, .dead), (19, .dead), (33, .dead), (36, .dead), (49, .dead), (63, .dead), (75, .dead)], [], 0, []⟩) (by kernel_rfl))) ⟨n, Nat.lt_succ_self n, _, h1331, rfl⟩
          · refine W_sound tab_ok mixed 10 _ _ _ ?_
            simp -implicitDefEqProofs only [go_sem, qa, qb, qc, qd, qe, qf, qg, qh, qi, qj, qk, ↓reduceIte, h1233, h1242, h1244, h1245, h1247]
            repeat with_reducible refine ⟨by first | kernel_rfl | decide, ?_⟩
            obtain rfl := Option.some.inj h1327
            exact cutQ _ ((Wk_le (.k (.k (.k (.r (.k (.r (.r (.r (.k (.r (.r (.r (.r (.r .nil)))))))))))))) (OLe.refl _)).trans (cmpS_ok (st' := ⟨[], [(0, .dead), (1, .dead), (2, .dead), (6, .dead), (7, .dead), (8, .dead), (11, .dead), (15, .dead), (19, .dead), (33, .dead), (36, .dead), (49, .dead), (63, .dead), (75, .dead)], [], 0, []⟩) (by kernel_rfl))) ⟨rfl, rfl⟩
      · rintro _ ⟨rfl, rfl⟩
        (try dsimp only at h1328)
        refine W_sound tab_ok mixed 6 _ _ _ ?_
        simp -implicitDefEqProofs only [go_sem, qa, qb, qc, qd, qe, qf, qg, qh, qi, qj, qk, ↓reduceIte, h1233, h1242, h1244, h1245]
        repeat with_reducible refine ⟨by first | kernel_rfl | decide, ?_⟩
        obtain rfl := Option.some.inj h1328
        exact finC [(6, .v (.int .i64 0))] [(6, .v (.int .i64 0))] (by simp [leE, lk_cons]) (.cons _ _ _ _ _ (.v _ _ (.refl _)) .nil) (by rfl) (by simp [leE, lk_cons]) (by decide) (by decide) rfl (by simp only [go_sem, qa, qb, qc, qd, qe, qf, qg, qh, qi, qj, qk, ↓reduceIte, resQ_tmp, resQ_cell, resQ_nil, retD_one, retD_two, retD_three, retD_none]; try simp [R.val, retD_one, retD_two, retD_three, retD_none])
  · refine W_sound tab_ok mixed 9 _ _ _ ?_
    simp -implicitDefEqProofs only [go_sem, qa, qb, qc, qd, qe, qf, qg, qh, qi, qj, qk, ↓reduceIte, h1233, h1242, h1244]
    repeat with_reducible refine ⟨by first | kernel_rfl | decide, ?_⟩
    obtain rfl := Option.some.inj h
    exact finC [(6, .v (.int .i64 1))] [(6, .v (.int .i64 1))] (by simp [leE, lk_cons]) (.cons _ _ _ _ _ (.v _ _ (.refl _)) .nil) (by rfl) (by simp [leE, lk_cons]) (by decide) (by decide) rfl (by simp only [go_sem, qa, qb, qc, qd, qe, qf, qg, qh, qi, qj, qk, ↓reduceIte, resQ_tmp, resQ_cell, resQ_nil, retD_one, retD_two, retD_three, retD_none]; try simp [R.val, retD_one, retD_two, retD_three, retD_none])
def m24 (N : Nat) (x1225 : Int) (p1226 : PV) : Option (PV) :=
  getL p1226 fun n1228 c1229 =>
  bnd' (m68 N x1225 (.lst false n1228 c1229) x1225) fun p1332 =>
  getI .i64 p1332 fun x1335 =>
  some (.int .i64 x1335)
theorem c24 (N : Nat) (x1225 : Int) (p1226 : PV) (r : PV)  (h : m24 N x1225 p1226 = some r) : FnP Tryd.prog 24 [(.int .i64 x1225), p1226] r := by
  unfold m24 at h
  refine Fn_of (sz := 9) tab_ok [0, 1, 4] [.tmp 4] Tryd.func24 rfl rfl rfl (by simp) ?_
  simp only [initSt, initEnv, List.map_cons, List.map_nil, List.getD_cons_zero, List.getD_cons_succ, List.getD_nil]
  have hh := getL_some h; clear h; obtain ⟨n1228, c1229, h1227, h⟩ := hh
  have hh := bnd'_some h; clear h; obtain ⟨p1332, h1333, h⟩ := hh
  refine W_sound tab_ok mixed 9 _ _ _ ?_
  simp -implicitDefEqProofs only [go_sem, qa, qb, qc, qd, qe, qf, qg, qh, qi, qj, qk, ↓reduceIte, h1227]
  repeat with_reducible refine ⟨by first | kernel_rfl | decide, ?_⟩
  refine Wp_callP (c68 N _ _ _ _ h1333) (by kernel_rfl) rfl rfl rfl rfl (by decide) ?_
  have hh := getI_some h; clear h; obtain ⟨x1335, h1334, h⟩ := hh
  refine W_sound tab_ok mixed 4 _ _ _ ?_
  simp -implicitDefEqProofs only [go_sem, qa, qb, qc, qd, qe, qf, qg, qh, qi, qj, qk, ↓reduceIte, h1227, h1334]
  repeat with_reducible refine ⟨by first | kernel_rfl | decide, ?_⟩
  obtain rfl := Option.some.inj h
  exact finC [(4, .v (.int .i64 x1335))] [(4, .v (.int .i64 x1335))] (by simp [leE, lk_cons]) (.cons _ _ _ _ _ (.v _ _ (.refl _)) .nil) (by rfl) (by simp [leE, lk_cons]) (by decide) (by decide) rfl (by simp only [go_sem, qa, qb, qc, qd, qe, qf, qg, qh, qi, qj, qk, ↓reduceIte, resQ_tmp, resQ_cell, resQ_nil, retD_one, retD_two, retD_three, retD_none]; try simp [R.val, retD_one, retD_two, retD_three, retD_none])
def m91_L0 (N : Nat) (rec : Int → PV → Option (PV)) (x1475 : Int) (n1478 : Nat) (c1479 : List PV) : Nat → Nat → Int → List PV → Option ((Nat × List PV))
  | 0, _, _, _ => none
  | n + 1, n1535, x1536, c1537 =>
    brn (decide (x1536 < x1475)) (
      bnd' (m92 N (.lst false n1478 c1479) x1536) fun p1539 =>
      getB p1539 fun b1542 =>
      brn b1542 (
        m91_L0 N rec x1475 n1478 c1479 n n1535 (IntKind.i64.wrap (x1536 + 1)) c1537) (
        grd (List.length c1479 = n1478) <|
        brn (decide (0 < n1478)) (
          grd (n1478 ≤ 1099511627776) <|
          grd ((n1478 + 1) ≤ 1099511627776) <|
          bnd' (rec x1475 (.lst false (n1478 + 1) (c1479 ++ [(.int .i64 x1536)]))) fun p1548 =>
          getL p1548 fun n1551 c1552 =>
          grd (List.length c1552 = n1551) <|
          grd ((n1535 + n1551) ≤ 1099511627776) <|
          grd (List.length c1537 = n1535) <|
          m91_L0 N rec x1475 n1478 c1479 n (n1535 + n1551) (IntKind.i64.wrap (x1536 + 1)) (c1537 ++ c1552)) (
          grd (n1478 ≤ 1099511627776) <|
          grd ((n1478 + 1) ≤ 1099511627776) <|
          bnd' (rec x1475 (.lst false (n1478 + 1) (c1479 ++ [(.int .i64 x1536)]))) fun p1558 =>
          getL p1558 fun n1561 c1562 =>
          grd (List.length c1562 = n1561) <|
          grd ((n1535 + n1561) ≤ 1099511627776) <|
          grd (List.length c1537 = n1535) <|
          m91_L0 N rec x1475 n1478 c1479 n (n1535 + n1561) (IntKind.i64.wrap (x1536 + 1)) (c1537 ++ c1562)))) (
      some (n1535, c1537))
def m91 (N : Nat) : Nat → Int → PV → Option (PV)
  | 0, _, _ => none
  | fu + 1, x1475, p1476 =>
    getL p1476 fun n1478 c1479 =>
    brn (((n1478 : Nat) : Int) == x1475) (
      some (.lst false 1 [(.lst false n1478 c1479)])) (
      bnd' (m91_L0 N (m91 N fu) x1475 n1478 c1479 N 0 0 []) fun o =>
      match o with
      | (n1566, c1567) =>
        grd (List.length c1567 = n1566) <|
        some (.lst false n1566 c1567))
theorem c91 (N : Nat) : ∀ (fu : Nat) (x1475 : Int) (p1476 : PV) (r : PV)  (h : m91 N fu x1475 p1476 = some r), FnP Tryd.prog 91 [(.int .i64 x1475), p1476] r := by
  intro fu
  induction fu with
  | zero => intro x1475 p1476 r h; cases h
  | succ fu ih =>
    intro x1475 p1476 r h
    rw [m91] at h
    refine Fn_of (sz := 33) tab_ok [0, 1, 4, 5, 6, 10, 15, 21] [.tmp 4] Tryd.func91 rfl rfl rfl (by simp) ?_
    simp only [initSt, initEnv, List.map_cons, List.map_nil, List.getD_cons_zero, List.getD_cons_succ, List.getD_nil]
    have hh := getL_some h; clear h; obtain ⟨n1478, c1479, h1477, h⟩ := hh
    have hh := brn_some h; clear h; rcases hh with ⟨h1480, h⟩ | ⟨h1480, h⟩
    · refine W_sound tab_ok mixed 21 _ _ _ ?_
      simp -implicitDefEqProofs only [go_sem, qa, qb, qc, qd, qe, qf, qg, qh, qi, qj, qk, ↓reduceIte, h1477, h1480]
      repeat with_reducible refine ⟨by first | kernel_rfl | decide, ?_⟩
      refine FinQ_wk (Wk_freeze 12 [(.lst false n1478 c1479)] (by rfl) (by decide) (by decide)) ?_
      simp -implicitDefEqProofs only [go_sem, qa, qb, qc, qd, qe, qf, qg, qh, qi, qj, qk, ↓reduceIte, h1477, h1480]
      obtain rfl := Option.some.inj h
      exact finC [(4, .v (.lst true 1 [(.lst false n1478 c1479)]))] [(4, .v (.lst false 1 [(.lst false n1478 c1479)]))] (by simp [leE, lk_cons]) (.cons _ _ _ _ _ (.v _ _ (.lst true false _ _ _ (fun h => by first | exact h | cases h) (PLes.refl _))) .nil) (by rfl) (by simp [leE, lk_cons]) (by decide) (by decide) rfl (by simp only [go_sem, qa, qb, qc, qd, qe, qf, qg, qh, qi, qj, qk, ↓reduceIte, resQ_tmp, resQ_cell, resQ_nil, retD_one, retD_two, retD_three, retD_none]; try simp [R.val, retD_one, retD_two, retD_three, retD_none])
    · refine W_sound tab_ok mixed 23 _ _ _ ?_
      simp -implicitDefEqProofs only [go_sem, qa, qb, qc, qd, qe, qf, qg, qh, qi, qj, qk, ↓reduceIte, h1477, h1480]
      repeat with_reducible refine ⟨by first | kernel_rfl | decide, ?_⟩
      refine Wp_weaken (Wk_ownS 5 1 rfl (by decide) (by decide)) ?_
      simp -implicitDefEqProofs only [go_sem, qa, qb, qc, qd, qe, qf, qg, qh, qi, qj, qk, ↓reduceIte, h1477, h1480]
      have hh := bnd'_some h; clear h; obtain ⟨o1569, h1570, h1571⟩ := hh
      refine Wp_cut (fun s => ∃ n1566, ∃ c1567, (n1566, c1567) = o1569 ∧ s = ⟨[], [(0, .dead), (1, .dead), (4, .dead), (5, .sl false 0 0 n1566 1), (6, .dead), (10, .dead), (15, .dead), (21, .dead)], [(0, .p c1567)], 1, []⟩) ?_ ?_
      · refine Wp_block ?_
        refine Wp_loopG (fun n s => ∃ n1535, ∃ x1536, ∃ c1537, m91_L0 N (m91 N fu) x1475 n1478 c1479 n n1535 x1536 c1537 = some o1569 ∧ s = ⟨[], [(0, .v (.int .i64 x1475)), (1, .v (.lst false n1478 c1479)), (4, .dead), (5, .sl false 0 0 n1535 1), (6, .v (.int .i64 x1536)), (10, .dead), (15, .dead), (21, .dead)], [(0, .p c1537)], 1, []⟩) N _ ((Wk_le (.r (.r (.k (.r (.r (.k (.r (.r .nil)))))))) (OLe.refl _)).trans (cmpS_ok (st' := ⟨[], [(0, .v (.int .i64 x1475)), (1, .v (.lst false n1478 c1479)), (4, .dead), (5, .sl false 0 0 0 1), (6, .v (.int .i64 0)), (10, .dead), (15, .dead), (21, .dead)], [(0, .p [])], 1, []⟩) (by kernel_rfl))) ⟨_, _, _, h1570, rfl⟩ ?_
        clear h1570
        rintro n _ ⟨n1535, x1536, c1537, h1570, rfl⟩
        cases n with
        | zero => cases h1570
        | succ n =>
          rw [m91_L0] at h1570
          have hh := brn_some h1570; clear h1570; rcases hh with ⟨h1538, h1570⟩ | ⟨h1538, h1570⟩
          · have hh := bnd'_some h1570; clear h1570; obtain ⟨p1539, h1540, h1570⟩ := hh
            refine W_sound tab_ok mixed 15 _ _ _ ?_
            simp -implicitDefEqProofs only [go_sem, qa, qb, qc, qd, qe, qf, qg, qh, qi, qj, qk, ↓reduceIte, h1477, h1480, h1538]
            repeat with_reducible refine ⟨by first | kernel_rfl | decide, ?_⟩
            refine Wp_callP (c92 N _ _ _ h1540) (by kernel_rfl) rfl rfl rfl rfl (by decide) ?_
            have hh := getB_some h1570; clear h1570; obtain ⟨b1542, h1541, h1570⟩ := hh
            have hh := brn_some h1570; clear h1570; rcases hh with ⟨h1543, h1570⟩ | ⟨h1543, h1570⟩
            · refine W_sound tab_ok mixed 10 _ _ _ ?_
              simp -implicitDefEqProofs only [go_sem, qa, qb, qc, qd, qe, qf, qg, qh, qi, qj, qk, ↓reduceIte, h1477, h1480, h1538, h1541, h1543]
              repeat with_reducible refine ⟨by first | kernel_rfl | decide, ?_⟩
              exact cutQ _ ((Wk_le (.r (.r (.r (.r (.r (.r (.k (.k .nil)))))))) (OLe.refl _)).trans (cmpS_ok (st' := ⟨[], [(0, .v (.int .i64 x1475)), (1, .v (.lst false n1478 c1479)), (4, .dead), (5, .sl false 0 0 n1535 1), (6, .v (.int .i64 (IntKind.i64.wrap (x1536 + 1)))), (10, .dead), (15, .dead), (21, .dead)], [(0, .p c1537)], 1, []⟩) (by kernel_rfl))) ⟨n, Nat.lt_succ_self n, _, _, _, h1570, rfl⟩
            · have hh := grd_some h1570; clear h1570; obtain ⟨g1544, h1570⟩ := hh
              have hh := brn_some h1570; clear h1570; rcases hh with ⟨h1545, h1570⟩ | ⟨h1545, h1570⟩
              · have hh := grd_some h1570; clear h1570; obtain ⟨g1546, h1570⟩ := hh
                have hh := grd_some h1570; clear h1570; obtain ⟨g1547, h1570⟩ := hh
                have hh := bnd'_some h1570; clear h1570; obtain ⟨p1548, h1549, h1570⟩ := hh
                refine W_sound tab_ok mixed 12 _ _ _ ?_
                simp -implicitDefEqProofs only [go_sem, qa, qb, qc, qd, qe, qf, qg, qh, qi, qj, qk, ↓reduceIte, h1477, h1480, h1538, h1541, h1543, g1544, h1545, g1546, g1547]
                repeat with_reducible refine ⟨by first | kernel_rfl | decide, ?_⟩
                refine Wp_callF [(30, (c1479 ++ [(.int .i64 x1536)]))] (ih _ _ _ h1549) (by kernel_rfl) rfl rfl rfl (by simp only [go_sem, qa, qb, qc, qd, qe, qf, qg, qh, qi, qj, qk, ↓reduceIte, h1477, h1480, h1538, h1541, h1543, g1544, h1545, g1546, g1547] <;> rfl) (by decide) rfl (by simp [roF, obL]) rfl ?_
                have hh := getL_some h1570; clear h1570; obtain ⟨n1551, c1552, h1550, h1570⟩ := hh
                have hh := grd_some h1570; clear h1570; obtain ⟨g1553, h1570⟩ := hh
                have hh := grd_some h1570; clear h1570; obtain ⟨g1554, h1570⟩ := hh
                have hh := grd_some h1570; clear h1570; obtain ⟨g1555, h1570⟩ := hh
                refine W_sound tab_ok mixed 9 _ _ _ ?_
                simp -implicitDefEqProofs only [go_sem, qa, qb, qc, qd, qe, qf, qg, qh, qi, qj, qk, ↓reduceIte, h1477, h1480, h1538, h1541, h1543, g1544, h1545, g1546, g1547, h1550, g1553, g1554, g1555]
                repeat with_reducible refine ⟨by first | kernel_rfl | decide, ?_⟩
                exact cutQ _ ((Wk_le (.r (.r (.r (.r (.r (.r (.k (.k .nil)))))))) (OLe.refl _)).trans (cmpS_ok (st' := ⟨[], [(0, .v (.int .i64 x1475)), (1, .v (.lst false n1478 c1479)), (4, .dead), (5, .sl false 0 0 (n1535 + n1551) 1), (6, .v (.int .i64 (IntKind.i64.wrap (x1536 + 1)))), (10, .dead), (15, .dead), (21, .dead)], [(0, .p (c1537 ++ c1552))], 1, []⟩) (by kernel_rfl))) ⟨n, Nat.lt_succ_self n, _, _, _, h1570, rfl⟩
              · have hh := grd_some h1570; clear h1570; obtain ⟨g1556, h1570⟩ := hh
                have hh := grd_some h1570; clear h1570; obtain ⟨g1557, h1570⟩ := hh
                have hh := bnd'_some h1570; clear h1570; obtain ⟨p1558, h1559, h1570⟩ := hh
                refine W_sound tab_ok mixed 12 _ _ _ ?_
                simp -implicitDefEqProofs only [go_sem, qa, qb, qc, qd, qe, qf, qg, qh, qi, qj, qk, ↓reduceIte, h1477, h1480, h1538, h1541, h1543, g1544, h1545, g1556, g1557]
                repeat with_reducible refine ⟨by first | kernel_rfl | decide, ?_⟩
                refine Wp_callF [(30, (c1479 ++ [(.int .i64 x1536)]))] (ih _ _ _ h1559) (by kernel_rfl) rfl rfl rfl (by simp only [go_sem, qa, qb, qc, qd, qe, qf, qg, qh, qi, qj, qk, ↓reduceIte, h1477, h1480, h1538, h1541, h1543, g1544, h1545, g1556, g1557] <;> rfl) (by decide) rfl (by simp [roF, obL]) rfl ?_
                have hh := getL_some h1570; clear h1570; obtain ⟨n1561, c1562, h1560, h1570⟩ := hh
                have hh := grd_some h1570; clear h1570; obtain ⟨g1563, h1570⟩ := hh
                have hh := grd_some h1570; clear h1570; obtain ⟨g1564, h1570⟩ := hh
                have hh := grd_some h1570; clear h1570; obtain ⟨g1565, h1570⟩ := hh
                refine W_sound tab_ok mixed 9 _ _ _ ?_
                simp -implicitDefEqProofs only [go_sem, qa, qb, qc, qd, qe, qf, qg, qh, qi, qj, qk, ↓reduceIte, h1477, h1480, h1538, h1541, h1543, g1544, h1545, g1556, g1557, h1560, g1563, g1564, g1565]
                repeat with_reducible refine ⟨by first | kernel_rfl | decide, ?_⟩
                exact cutQ _ ((Wk_le (.r (.r (.r (.r (.r (.r (.k (.k .nil)))))))) (OLe.refl _)).trans (cmpS_ok (st' := ⟨[], [(0, .v (.int .i64 x1475)), (1, .v (.lst false n1478 c1479)), (4, .dead), (5, .sl false 0 0 (n1535 + n1561) 1), (6, .v (.int .i64 (IntKind.i64.wrap (x1536 + 1)))), (10, .dead), (15, .dead), (21, .dead)], [(0, .p (c1537 ++ c1562))], 1, []⟩) (by kernel_rfl))) ⟨n, Nat.lt_succ_self n, _, _, _, h1570, rfl⟩
          · refine W_sound tab_ok mixed 9 _ _ _ ?_
            simp -implicitDefEqProofs only [go_sem, qa, qb, qc, qd, qe, qf, qg, qh, qi, qj, qk, ↓reduceIte, h1477, h1480, h1538]
            repeat with_reducible refine ⟨by first | kernel_rfl | decide, ?_⟩
            obtain rfl := Option.some.inj h1570
            exact cutQ _ ((Wk_le (.k (.k (.r (.r (.k (.r (.k (.r .nil)))))))) (OLe.refl _)).trans (cmpS_ok (st' := ⟨[], [(0, .dead), (1, .dead), (4, .dead), (5, .sl false 0 0 n1535 1), (6, .dead), (10, .dead), (15, .dead), (21, .dead)], [(0, .p c1537)], 1, []⟩) (by kernel_rfl))) ⟨_, _, rfl, rfl⟩
      · rintro _ ⟨n1566, c1567, rfl, rfl⟩
        (try dsimp only at h1571)
        refine W_sound tab_ok mixed 7 _ _ _ ?_
        simp -implicitDefEqProofs only [go_sem, qa, qb, qc, qd, qe, qf, qg, qh, qi, qj, qk, ↓reduceIte, h1477, h1480]
        repeat with_reducible refine ⟨by first | kernel_rfl | decide, ?_⟩
        have hh := grd_some h1571; clear h1571; obtain ⟨g1568, h1571⟩ := hh
        refine FinQ_wk (Wk_freeze 0 c1567 (by rfl) (by decide) (by decide)) ?_
        simp -implicitDefEqProofs only [go_sem, qa, qb, qc, qd, qe, qf, qg, qh, qi, qj, qk, ↓reduceIte, h1477, h1480, g1568]
        obtain rfl := Option.some.inj h1571
        exact finC [(4, .v (.lst false n1566 c1567))] [(4, .v (.lst false n1566 c1567))] (by simp [leE, lk_cons]) (.cons _ _ _ _ _ (.v _ _ (.refl _)) .nil) (by rfl) (by simp [leE, lk_cons]) (by decide) (by decide) rfl (by simp only [go_sem, qa, qb, qc, qd, qe, qf, qg, qh, qi, qj, qk, ↓reduceIte, resQ_tmp, resQ_cell, resQ_nil, retD_one, retD_two, retD_three, retD_none]; try simp [R.val, retD_one, retD_two, retD_three, retD_none])
end Go.Proofs.YtcaecfofgdogbaaDoor
namespace Go.Proofs.YtcaecfofgdogbaaDoor
open Go.V
set_option maxRecDepth 100000
set_option maxHeartbeats 4000000
set_option linter.unusedSimpArgs false
set_option linter.unusedVariables false
attribute [local go_sem] tl1 tl2 tl3 tl4 tl5 tl9 tl17 tl21 tl22 tl23 tl24 tl25 tl27 tl28 tl30 tl31 tl32 tl33 tl35 tl36 tl37 tl38 tl39 tl40 tl42 tl43 tl44 tl45 tl46 tl47 tl48 tl49 tl50 tl51 tl52 tl53 tl54 tl55 tl56 tl57 tl58 tl59 tl61 tl62 tl63 tl64 tl65 tl66 tl67 tl68 tl69 tl70 tl71 tl72 tl73 tl74 tl75 tl76 tl77 tl78 tl79 tl80 tl81 tl82 tl83 tl84 tl85 tl87 tl89 tl90 tl91 tl92 tl93 tl94 tl96 tl97 tl98 tl99 tl100 tl101 tl102 tl103 tl104 tl105 tl106 tl107 tl108 tl109 tl115 tl119
end Go.Proofs.YtcaecfofgdogbaaDoor
namespace Go.Proofs.YtcaecfofgdogbaaDoor
open Go.V
open Nat renaming reduceBEq → qa, reduceAdd → qb, reduceSub → qc, reduceMul → qd, reduceLT → qe, reduceLeDiff → qf
open Int renaming reduceLE → qg, reduceLT → qh, reduceToNat → qi, reduceBEq → qj, reduceBNe → qk
set_option maxRecDepth 100000
set_option maxHeartbeats 4000000
set_option linter.unusedSimpArgs false
set_option linter.unusedVariables false
attribute [local go_sem] tl1 tl2 tl3 tl4 tl5 tl9 tl17 tl21 tl22 tl23 tl24 tl25 tl27 tl28 tl30 tl31 tl32 tl33 tl35 tl36 tl37 tl38 tl39 tl40 tl42 tl43 tl44 tl45 tl46 tl47 tl48 tl49 tl50 tl51 tl52 tl53 tl54 tl55 tl56 tl57 tl58 tl59 tl61 tl62 tl63 tl64 tl65 tl66 tl67 tl68 tl69 tl70 tl71 tl72 tl73 tl74 tl75 tl76 tl77 tl78 tl79 tl80 tl81 tl82 tl83 tl84 tl85 tl87 tl89 tl90 tl91 tl92 tl93 tl94 tl96 tl97 tl98 tl99 tl100 tl101 tl102 tl103 tl104 tl105 tl106 tl107 tl108 tl109 tl115 tl119
def m16 (N : Nat) : Option PV := some (.bool true)
theorem c16 (N : Nat) (r : PV) (h : m16 N = some r) : FnP Tryd.prog 16 [] r := by
  obtain rfl := Option.some.inj h
  exact k92
def m93_L0 (N : Nat) (n3834 : Nat) (c3835 : List PV) : Nat → Nat → Int → List PV → Option ((Nat × List PV))
  | 0, _, _, _ => none
  | n + 1, n3860, x3861, c3862 =>
    brn (decide (x3861 < ((n3834 : Nat) : Int))) (
      grd (0 ≤ x3861 ∧ x3861 < ((n3834 : Nat) : Int)) <|
      grd (0 < List.length (List.drop (Int.toNat x3861) c3835)) <|
      getL (gp c3835 (Int.toNat x3861)) fun n3868 c3869 =>
      grd (List.length c3869 = n3868) <|
      brn (decide (0 < n3868)) (
        grd (n3868 ≤ 1099511627776) <|
        grd ((n3860 + 1) ≤ 1099511627776) <|
        grd (List.length c3862 = n3860) <|
        m93_L0 N n3834 c3835 n (n3860 + 1) (IntKind.i64.wrap (x3861 + 1)) (c3862 ++ [(.lst false n3868 c3869)])) (
        grd (n3868 ≤ 1099511627776) <|
        grd ((n3860 + 1) ≤ 1099511627776) <|
        grd (List.length c3862 = n3860) <|
        m93_L0 N n3834 c3835 n (n3860 + 1) (IntKind.i64.wrap (x3861 + 1)) (c3862 ++ [(.lst false n3868 c3869)]))) (
      some (n3860, c3862))
def m93 (N : Nat) (p3832 : PV) : Option (Nat × List PV) :=
  getL p3832 fun n3834 c3835 =>
  bnd' (m93_L0 N n3834 c3835 N 0 0 []) fun o =>
  match o with
  | (n3878, c3879) =>
    some (n3878, c3879)
theorem c93 (N : Nat) (p3832 : PV) (rn : Nat) (rc : List PV) (h : m93 N p3832 = some (rn, rc)) : V.Fn Tryd.prog 93 0 [.v p3832] [] (fun d ob' => d = .sl false 0 0 rn 1 ∧ ob' = [(0, .p rc)]) := by
  unfold m93 at h
  refine Fn_of (sz := 21) tab_ok [0, 2, 3, 4, 8] [.tmp 2] Tryd.func93 rfl rfl rfl (by simp) ?_
  simp only [initSt, initEnv, List.map_cons, List.map_nil, List.getD_cons_zero, List.getD_cons_succ, List.getD_nil]
  have hh := getL_some h; clear h; obtain ⟨n3834, c3835, h3833, h⟩ := hh
  refine W_sound tab_ok mixed 13 _ _ _ ?_
  simp -implicitDefEqProofs only [go_sem, qa, qb, qc, qd, qe, qf, qg, qh, qi, qj, qk, ↓reduceIte, h3833]
  repeat with_reducible refine ⟨by first | kernel_rfl | decide, ?_⟩
  refine Wp_weaken (Wk_ownS 3 1 rfl (by decide) (by decide)) ?_
  simp -implicitDefEqProofs only [go_sem, qa, qb, qc, qd, qe, qf, qg, qh, qi, qj, qk, ↓reduceIte, h3833]
  have hh := bnd'_some h; clear h; obtain ⟨o3880, h3881, h3882⟩ := hh
  refine Wp_cut (fun s => ∃ n3878, ∃ c3879, (n3878, c3879) = o3880 ∧ s = ⟨[], [(0, .dead), (2, .dead), (3, .sl false 0 0 n3878 1), (4, .dead), (8, .dead)], [(0, .p c3879)], 1, []⟩) ?_ ?_
  · refine Wp_block ?_
    refine Wp_loopG (fun n s => ∃ n3860, ∃ x3861, ∃ c3862, m93_L0 N n3834 c3835 n n3860 x3861 c3862 = some o3880 ∧ s = ⟨[], [(0, .v (.lst false n3834 c3835)), (2, .dead), (3, .sl false 0 0 n3860 1), (4, .v (.int .i64 x3861)), (8, .dead)], [(0, .p c3862)], 1, []⟩) N _ ((Wk_le (.r (.k (.r (.r (.r .nil))))) (OLe.refl _)).trans (cmpS_ok rfl)) ⟨_, _, _, h3881, rfl⟩ ?_
    clear h3881
    rintro n _ ⟨n3860, x3861, c3862, h3881, rfl⟩
    cases n with
    | zero => cases h3881
    | succ n =>
      rw [m93_L0] at h3881
      have hh := brn_some h3881; clear h3881; rcases hh with ⟨h3863, h3881⟩ | ⟨h3863, h3881⟩
      · have hh := grd_some h3881; clear h3881; obtain ⟨⟨g3864, g3865⟩, h3881⟩ := hh
        have hh := grd_some h3881; clear h3881; obtain ⟨g3866, h3881⟩ := hh
        have hh := getL_some h3881; clear h3881; obtain ⟨n3868, c3869, h3867, h3881⟩ := hh
        have hh := grd_some h3881; clear h3881; obtain ⟨g3870, h3881⟩ := hh
        have hh := brn_some h3881; clear h3881; rcases hh with ⟨h3871, h3881⟩ | ⟨h3871, h3881⟩
        · have hh := grd_some h3881; clear h3881; obtain ⟨g3872, h3881⟩ := hh
          have hh := grd_some h3881; clear h3881; obtain ⟨g3873, h3881⟩ := hh
          have hh := grd_some h3881; clear h3881; obtain ⟨g3874, h3881⟩ := hh
          refine W_sound tab_ok mixed 24 _ _ _ ?_
          simp -implicitDefEqProofs only [go_sem, qa, qb, qc, qd, qe, qf, qg, qh, qi, qj, qk, ↓reduceIte, h3833, h3863, g3864, g3865, g3866, h3867, g3870, h3871, g3872, g3873, g3874]
          repeat with_reducible refine ⟨by first | kernel_rfl | decide, ?_⟩
          refine Wp_wkK (Wk_freeze 18 c3869 (by rfl) (by decide) (by decide)) rfl ?_
          simp -implicitDefEqProofs only [go_sem, qa, qb, qc, qd, qe, qf, qg, qh, qi, qj, qk, ↓reduceIte, h3833, h3863, g3864, g3865, g3866, h3867, g3870, h3871, g3872, g3873, g3874]
          refine W_sound tab_ok mixed 6 _ _ _ ?_
          simp -implicitDefEqProofs only [go_sem, qa, qb, qc, qd, qe, qf, qg, qh, qi, qj, qk, ↓reduceIte, h3833, h3863, g3864, g3865, g3866, h3867, g3870, h3871, g3872, g3873, g3874]
          repeat with_reducible refine ⟨by first | kernel_rfl | decide, ?_⟩
          exact cutQ _ ((Wk_le (.r (.r (.r (.r (.k .nil))))) (OLe.refl _)).trans (cmpS_ok (st' := ⟨[], [(0, .v (.lst false n3834 c3835)), (2, .dead), (3, .sl false 0 0 (n3860 + 1) 1), (4, .v (.int .i64 (IntKind.i64.wrap (x3861 + 1)))), (8, .dead)], [(0, .p (c3862 ++ [(.lst false n3868 c3869)]))], 1, []⟩) (by kernel_rfl))) ⟨n, Nat.lt_succ_self n, _, _, _, h3881, rfl⟩
        · have hh := grd_some h3881; clear h3881; obtain ⟨g3875, h3881⟩ := hh
          have hh := grd_some h3881; clear h3881; obtain ⟨g3876, h3881⟩ := hh
          have hh := grd_some h3881; clear h3881; obtain ⟨g3877, h3881⟩ := hh
          refine W_sound tab_ok mixed 24 _ _ _ ?_
          simp -implicitDefEqProofs only [go_sem, qa, qb, qc, qd, qe, qf, qg, qh, qi, qj, qk, ↓reduceIte, h3833, h3863, g3864, g3865, g3866, h3867, g3870, h3871, g3875, g3876, g3877]
          repeat with_reducible refine ⟨by first | kernel_rfl | decide, ?_⟩
          refine Wp_wkK (Wk_freeze 18 c3869 (by rfl) (by decide) (by decide)) rfl ?_
          simp -implicitDefEqProofs only [go_sem, qa, qb, qc, qd, qe, qf, qg, qh, qi, qj, qk, ↓reduceIte, h3833, h3863, g3864, g3865, g3866, h3867, g3870, h3871, g3875, g3876, g3877]
          refine W_sound tab_ok mixed 6 _ _ _ ?_
          simp -implicitDefEqProofs only [go_sem, qa, qb, qc, qd, qe, qf, qg, qh, qi, qj, qk, ↓reduceIte, h3833, h3863, g3864, g3865, g3866, h3867, g3870, h3871, g3875, g3876, g3877]
          repeat with_reducible refine ⟨by first | kernel_rfl | decide, ?_⟩
          exact cutQ _ ((Wk_le (.r (.r (.r (.r (.k .nil))))) (OLe.refl _)).trans (cmpS_ok rfl)) ⟨n, Nat.lt_succ_self n, _, _, _, h3881, rfl⟩
      · refine W_sound tab_ok mixed 10 _ _ _ ?_
        simp -implicitDefEqProofs only [go_sem, qa, qb, qc, qd, qe, qf, qg, qh, qi, qj, qk, ↓reduceIte, h3833, h3863]
        repeat with_reducible refine ⟨by first | kernel_rfl | decide, ?_⟩
        obtain rfl := Option.some.inj h3881
        exact cutQ _ ((Wk_le (.k (.r (.r (.k (.k .nil))))) (OLe.refl _)).trans (cmpS_ok rfl)) ⟨_, _, rfl, rfl⟩
  · rintro _ ⟨n3878, c3879, rfl, rfl⟩
    (try dsimp only at h3882)
    refine W_sound tab_ok mixed 7 _ _ _ ?_
    simp -implicitDefEqProofs only [go_sem, qa, qb, qc, qd, qe, qf, qg, qh, qi, qj, qk, ↓reduceIte, h3833]
    repeat with_reducible refine ⟨by first | kernel_rfl | decide, ?_⟩
    simp only [Option.some.injEq, Prod.mk.injEq] at h3882; obtain ⟨rfl, rfl⟩ := h3882
    exact finD (e2 := [(0, .dead), (2, .sl false 0 0 n3878 1), (3, .dead), (4, .dead), (8, .dead)]) (ob2 := [(0, .p c3879)]) (st' := ⟨[], [(0, .dead), (2, .sl false 0 0 n3878 1), (3, .dead), (4, .dead), (8, .dead)], [(0, .p c3879)], 1, []⟩) (.r (.r (.k (.r (.r .nil))))) (.cons _ _ _ _ _ (DLes.refl _) .nil) (by kernel_rfl) (by simp only [go_sem, qa, qb, qc, qd, qe, qf, qg, qh, qi, qj, qk, ↓reduceIte, resQ_tmp, resQ_cell, resQ_nil, retD_one, retD_two, retD_three, retD_none]; first | done | exact ⟨rfl, rfl⟩ | (try simp [R.val, retD_one]))
def m63_2_L0 (N : Nat) (n3957 : Nat) (x3958 : Int) (x3959 : Int) (c3960 : List PV) : Nat → Int → Option ((PV ⊕ Unit))
  | 0, _ => none
  | n + 1, x3961 =>
    brn (decide (x3961 < ((n3957 : Nat) : Int))) (
      grd (0 ≤ x3961 ∧ x3961 < ((n3957 : Nat) : Int)) <|
      grd ((Int.toNat x3961) < List.length c3960) <|
      getL (gp c3960 (Int.toNat x3961)) fun n3967 c3968 =>
      brn (decide (x3958 < ((n3967 : Nat) : Int))) (
        grd (0 ≤ x3958 ∧ x3958 < ((n3967 : Nat) : Int)) <|
        grd (0 < List.length (List.drop (Int.toNat x3958) c3968)) <|
        getI .i64 (gp c3968 (Int.toNat x3958)) fun x3974 =>
        brn (x3974 == x3959) (
          some (.inl (.bool true))) (
          m63_2_L0 N n3957 x3958 x3959 c3960 n (IntKind.i64.wrap (x3961 + 1)))) (
        m63_2_L0 N n3957 x3958 x3959 c3960 n (IntKind.i64.wrap (x3961 + 1)))) (
      some (.inr ()))
def m63_2 (N : Nat) (n3957 : Nat) (x3958 : Int) (x3959 : Int) (c3960 : List PV) : Option (PV) :=
  bnd' (m63_2_L0 N n3957 x3958 x3959 c3960 N 0) fun o =>
  match o with
  | .inl p3976 =>
    some p3976
  | .inr () =>
    some (.bool false)
theorem c63_2 (N : Nat) (n3957 : Nat) (x3958 : Int) (x3959 : Int) (c3960 : List PV) (r : PV)  (h : m63_2 N n3957 x3958 x3959 c3960 = some r) : V.Fn Tryd.prog 63 1 [.sl false 0 0 n3957 1, .v (.int .i64 x3958), .v (.int .i64 x3959)] [(0, .p c3960)] (fun d ob' => d = .v r ∧ ob' = [(0, .p c3960)]) := by
  unfold m63_2 at h
  refine Fn_of (sz := 32) tab_ok [0, 1, 2, 6, 7, 11, 31] [.tmp 6] Tryd.func63 rfl rfl rfl (by simp) ?_
  simp only [initSt, initEnv, List.map_cons, List.map_nil, List.getD_cons_zero, List.getD_cons_succ, List.getD_nil]
  refine W_sound tab_ok mixed 9 _ _ _ ?_
  simp -implicitDefEqProofs only [go_sem, qa, qb, qc, qd, qe, qf, qg, qh, qi, qj, qk, ↓reduceIte]
  repeat with_reducible refine ⟨by first | kernel_rfl | decide, ?_⟩
  have hh := bnd'_some h; clear h; obtain ⟨o3977, h3978, h3979⟩ := hh
  refine Wp_cut (fun s => (.inr ()) = o3977 ∧ s = ⟨[], [(0, .dead), (1, .dead), (2, .dead), (6, .dead), (7, .dead), (11, .dead), (31, .dead)], [(0, .p c3960)], 1, []⟩) ?_ ?_
  · refine Wp_block ?_
    refine Wp_loopG (fun n s => ∃ x3961, m63_2_L0 N n3957 x3958 x3959 c3960 n x3961 = some o3977 ∧ s = ⟨[], [(0, .sl false 0 0 n3957 1), (1, .v (.int .i64 x3958)), (2, .v (.int .i64 x3959)), (6, .dead), (7, .v (.int .i64 x3961)), (11, .dead), (31, .dead)], [(0, .p c3960)], 1, []⟩) N _ ((Wk_le (.r (.r (.r (.k (.r (.r (.r .nil))))))) (OLe.refl _)).trans (cmpS_ok (st' := ⟨[], [(0, .sl false 0 0 n3957 1), (1, .v (.int .i64 x3958)), (2, .v (.int .i64 x3959)), (6, .dead), (7, .v (.int .i64 0)), (11, .dead), (31, .dead)], [(0, .p c3960)], 1, []⟩) (by kernel_rfl))) ⟨_, h3978, rfl⟩ ?_
    clear h3978
    rintro n _ ⟨x3961, h3978, rfl⟩
    cases n with
    | zero => cases h3978
    | succ n =>
      rw [m63_2_L0] at h3978
      have hh := brn_some h3978; clear h3978; rcases hh with ⟨h3962, h3978⟩ | ⟨h3962, h3978⟩
      · have hh := grd_some h3978; clear h3978; obtain ⟨⟨g3963, g3964⟩, h3978⟩ := hh
        have hh := grd_some h3978; clear h3978; obtain ⟨g3965, h3978⟩ := hh
        have hh := getL_some h3978; clear h3978; obtain ⟨n3967, c3968, h3966, h3978⟩ := hh
        have hh := brn_some h3978; clear h3978; rcases hh with ⟨h3969, h3978⟩ | ⟨h3969, h3978⟩
        · have hh := grd_some h3978; clear h3978; obtain ⟨⟨g3970, g3971⟩, h3978⟩ := hh
          have hh := grd_some h3978; clear h3978; obtain ⟨g3972, h3978⟩ := hh
          have hh := getI_some h3978; clear h3978; obtain ⟨x3974, h3973, h3978⟩ := hh
          have hh := brn_some h3978; clear h3978; rcases hh with ⟨h3975, h3978⟩ | ⟨h3975, h3978⟩
          · refine W_sound tab_ok mixed 40 _ _ _ ?_
            simp -implicitDefEqProofs only [go_sem, qa, qb, qc, qd, qe, qf, qg, qh, qi, qj, qk, ↓reduceIte, h3962, g3963, g3964, g3965, h3966, h3969, g3970, g3971, g3972, h3973, h3975]
            repeat with_reducible refine ⟨by first | kernel_rfl | decide, ?_⟩
            obtain rfl := Option.some.inj h3978
            (try dsimp only at h3979)
            obtain rfl := Option.some.inj h3979
            exact finD (e2 := [(0, .dead), (1, .dead), (2, .dead), (6, .v (.bool true)), (7, .dead), (11, .dead), (31, .dead)]) (ob2 := [(0, .p c3960)]) (st' := ⟨[], [(0, .dead), (1, .dead), (2, .dead), (6, .v (.bool true)), (7, .dead), (11, .dead), (31, .dead)], [(0, .p c3960)], 1, []⟩) (.k (.k (.k (.r (.k (.k (.k .nil))))))) (.cons _ _ _ _ _ (DLes.refl _) .nil) (by kernel_rfl) (by simp only [go_sem, qa, qb, qc, qd, qe, qf, qg, qh, qi, qj, qk, ↓reduceIte, resQ_tmp, resQ_cell, resQ_nil, retD_one, retD_two, retD_three, retD_none]; try simp [R.val, retD_one, retD_two, retD_three, retD_none])
          · refine W_sound tab_ok mixed 41 _ _ _ ?_
            simp -implicitDefEqProofs only [go_sem, qa, qb, qc, qd, qe, qf, qg, qh, qi, qj, qk, ↓reduceIte, h3962, g3963, g3964, g3965, h3966, h3969, g3970, g3971, g3972, h3973, h3975]
            repeat with_reducible refine ⟨by first | kernel_rfl | decide, ?_⟩
            exact cutQ _ ((Wk_le (.r (.r (.r (.r (.r (.k (.k .nil))))))) (OLe.refl _)).trans (cmpS_ok (st' := ⟨[], [(0, .sl false 0 0 n3957 1), (1, .v (.int .i64 x3958)), (2, .v (.int .i64 x3959)), (6, .dead), (7, .v (.int .i64 (IntKind.i64.wrap (x3961 + 1)))), (11, .dead), (31, .dead)], [(0, .p c3960)], 1, []⟩) (by kernel_rfl))) ⟨n, Nat.lt_succ_self n, _, h3978, rfl⟩
        · refine W_sound tab_ok mixed 41 _ _ _ ?_
          simp -implicitDefEqProofs only [go_sem, qa, qb, qc, qd, qe, qf, qg, qh, qi, qj, qk, ↓reduceIte, h3962, g3963, g3964, g3965, h3966, h3969]
          repeat with_reducible refine ⟨by first | kernel_rfl | decide, ?_⟩
          exact cutQ _ ((Wk_le (.r (.r (.r (.r (.r (.k (.k .nil))))))) (OLe.refl _)).trans (cmpS_ok (st' := ⟨[], [(0, .sl false 0 0 n3957 1), (1, .v (.int .i64 x3958)), (2, .v (.int .i64 x3959)), (6, .dead), (7, .v (.int .i64 (IntKind.i64.wrap (x3961 + 1)))), (11, .dead), (31, .dead)], [(0, .p c3960)], 1, []⟩) (by kernel_rfl))) ⟨n, Nat.lt_succ_self n, _, h3978, rfl⟩
      · refine W_sound tab_ok mixed 10 _ _ _ ?_
        simp -implicitDefEqProofs only [go_sem, qa, qb, qc, qd, qe, qf, qg, qh, qi, qj, qk, ↓reduceIte, h3962]
        repeat with_reducible refine ⟨by first | kernel_rfl | decide, ?_⟩
        obtain rfl := Option.some.inj h3978
        exact cutQ _ ((Wk_le (.k (.k (.k (.r (.k (.k (.r .nil))))))) (OLe.refl _)).trans (cmpS_ok (st' := ⟨[], [(0, .dead), (1, .dead), (2, .dead), (6, .dead), (7, .dead), (11, .dead), (31, .dead)], [(0, .p c3960)], 1, []⟩) (by kernel_rfl))) ⟨rfl, rfl⟩
  · rintro _ ⟨rfl, rfl⟩
    (try dsimp only at h3979)
    refine W_sound tab_ok mixed 6 _ _ _ ?_
    simp -implicitDefEqProofs only [go_sem, qa, qb, qc, qd, qe, qf, qg, qh, qi, qj, qk, ↓reduceIte]
    repeat with_reducible refine ⟨by first | kernel_rfl | decide, ?_⟩
    obtain rfl := Option.some.inj h3979
    exact finD (e2 := [(0, .dead), (1, .dead), (2, .dead), (6, .v (.bool false)), (7, .dead), (11, .dead), (31, .dead)]) (ob2 := [(0, .p c3960)]) (st' := ⟨[], [(0, .dead), (1, .dead), (2, .dead), (6, .v (.bool false)), (7, .dead), (11, .dead), (31, .dead)], [(0, .p c3960)], 1, []⟩) (.r (.r (.r (.r (.r (.r (.r .nil))))))) (.cons _ _ _ _ _ (DLes.refl _) .nil) (by kernel_rfl) (by simp only [go_sem, qa, qb, qc, qd, qe, qf, qg, qh, qi, qj, qk, ↓reduceIte, resQ_tmp, resQ_cell, resQ_nil, retD_one, retD_two, retD_three, retD_none]; try simp [R.val, retD_one, retD_two, retD_three, retD_none])
def m67_2_L1 (N : Nat) (x3932 : Int) (n3933 : Nat) (c3934 : List PV) (n3938 : Nat) (c3939 : List PV) (n4023 : Nat) (x4024 : Int) (c4025 : List PV) : Nat → Bool → Int → Option (Bool)
  | 0, _, _ => none
  | n + 1, b4027, x4028 =>
    brn (decide (x4028 < x3932)) (
      brn b4027 (
        grd (0 ≤ x4024 ∧ x4024 < ((n3938 : Nat) : Int)) <|
        grd (0 < List.length (List.drop (Int.toNat x4024) c3939)) <|
        getL (gp c3939 (Int.toNat x4024)) fun n4035 c4036 =>
        grd (0 ≤ x4028 ∧ x4028 < ((n4035 : Nat) : Int)) <|
        grd (0 < List.length (List.drop (Int.toNat x4028) c4036)) <|
        getI .i64 (gp c4036 (Int.toNat x4028)) fun x4041 =>
        bnd' (m63_2 N n3933 x4028 x4041 c3934) fun p4042 =>
        getB p4042 fun b4045 =>
        brn b4045 (
          m67_2_L1 N x3932 n3933 c3934 n3938 c3939 n4023 x4024 c4025 n false (IntKind.i64.wrap (x4028 + 1))) (
          m67_2_L1 N x3932 n3933 c3934 n3938 c3939 n4023 x4024 c4025 n true (IntKind.i64.wrap (x4028 + 1)))) (
        m67_2_L1 N x3932 n3933 c3934 n3938 c3939 n4023 x4024 c4025 n false (IntKind.i64.wrap (x4028 + 1)))) (
      some b4027)
def m67_2_L0 (N : Nat) (x3932 : Int) (n3933 : Nat) (c3934 : List PV) (n3938 : Nat) (c3939 : List PV) : Nat → Nat → Int → List PV → Option ((Nat × List PV))
  | 0, _, _, _ => none
  | n + 1, n4023, x4024, c4025 =>
    brn (decide (x4024 < ((n3938 : Nat) : Int))) (
      bnd' (m67_2_L1 N x3932 n3933 c3934 n3938 c3939 n4023 x4024 c4025 N true 0) fun b4047 =>
      brn b4047 (
        grd (0 ≤ x4024 ∧ x4024 < ((n3938 : Nat) : Int)) <|
        grd (0 < List.length (List.drop (Int.toNat x4024) c3939)) <|
        getL (gp c3939 (Int.toNat x4024)) fun n4053 c4054 =>
        grd ((n4023 + 1) ≤ 1099511627776) <|
        grd (List.length c4025 = n4023) <|
        m67_2_L0 N x3932 n3933 c3934 n3938 c3939 n (n4023 + 1) (IntKind.i64.wrap (x4024 + 1)) (c4025 ++ [(.lst false n4053 c4054)])) (
        m67_2_L0 N x3932 n3933 c3934 n3938 c3939 n n4023 (IntKind.i64.wrap (x4024 + 1)) c4025)) (
      some (n4023, c4025))
def m67_2 (N : Nat) (x3932 : Int) (n3933 : Nat) (c3934 : List PV) : Option (PV) :=
  bnd' (m91 N N x3932 (.lst false 0 [])) fun p3935 =>
  getL p3935 fun n3938 c3939 =>
  bnd' (m67_2_L0 N x3932 n3933 c3934 n3938 c3939 N 0 0 []) fun o =>
  match o with
  | (n4057, c4058) =>
    grd (List.length c4058 = n4057) <|
    some (.lst false n4057 c4058)
theorem c67_2 (N : Nat) (x3932 : Int) (n3933 : Nat) (c3934 : List PV) (r : PV)  (h : m67_2 N x3932 n3933 c3934 = some r) : V.Fn Tryd.prog 67 1 [.v (.int .i64 x3932), .sl false 0 0 n3933 1] [(0, .p c3934)] (fun d ob' => d = .v r ∧ ob' = [(0, .p c3934)]) := by
  unfold m67_2 at h
  refine Fn_of (sz := 46) tab_ok [0, 1, 4, 5, 6, 7, 8, 9, 15, 20, 37] [.tmp 4] Tryd.func67 rfl rfl rfl (by simp) ?_
  simp only [initSt, initEnv, List.map_cons, List.map_nil, List.getD_cons_zero, List.getD_cons_succ, List.getD_nil]
  have hh := bnd'_some h; clear h; obtain ⟨p3935, h3936, h⟩ := hh
  refine W_sound tab_ok mixed 11 _ _ _ ?_
  simp -implicitDefEqProofs only [go_sem, qa, qb, qc, qd, qe, qf, qg, qh, qi, qj, qk, ↓reduceIte]
  repeat with_reducible refine ⟨by first | kernel_rfl | decide, ?_⟩
  refine Wp_callP (FnP_le (c91 N N _ _ _ h3936) (.cons _ _ _ _ (.refl _) (.cons _ _ _ _ (.nl false) .nil)) (.refl _)) (by kernel_rfl) rfl rfl rfl rfl (by decide) ?_
  have hh := getL_some h; clear h; obtain ⟨n3938, c3939, h3937, h⟩ := hh
  refine W_sound tab_ok mixed 7 _ _ _ ?_
  simp -implicitDefEqProofs only [go_sem, qa, qb, qc, qd, qe, qf, qg, qh, qi, qj, qk, ↓reduceIte, h3937]
  repeat with_reducible refine ⟨by first | kernel_rfl | decide, ?_⟩
  refine Wp_weaken (Wk_ownS 5 1 rfl (by decide) (by decide)) ?_
  simp -implicitDefEqProofs only [go_sem, qa, qb, qc, qd, qe, qf, qg, qh, qi, qj, qk, ↓reduceIte, h3937]
  have hh := bnd'_some h; clear h; obtain ⟨o4060, h4061, h4062⟩ := hh
  refine Wp_cut (fun s => ∃ n4057, ∃ c4058, (n4057, c4058) = o4060 ∧ s = ⟨[], [(0, .dead), (1, .dead), (4, .dead), (5, .sl false 1 0 n4057 1), (6, .dead), (7, .dead), (8, .dead), (9, .dead), (15, .dead), (20, .dead), (37, .dead)], [(0, .p c3934), (1, .p c4058)], 2, []⟩) ?_ ?_
  · refine Wp_block ?_
    refine Wp_loopG (fun n s => ∃ n4023, ∃ x4024, ∃ c4025, m67_2_L0 N x3932 n3933 c3934 n3938 c3939 n n4023 x4024 c4025 = some o4060 ∧ s = ⟨[], [(0, .v (.int .i64 x3932)), (1, .sl false 0 0 n3933 1), (4, .dead), (5, .sl false 1 0 n4023 1), (6, .v (.lst false n3938 c3939)), (7, .v (.int .i64 x4024)), (8, .dead), (9, .dead), (15, .dead), (20, .dead), (37, .dead)], [(0, .p c3934), (1, .p c4025)], 2, []⟩) N _ ((Wk_le (.r (.r (.k (.r (.r (.r (.r (.r (.r (.r (.r .nil))))))))))) (OLe.refl _)).trans (cmpS_ok (st' := ⟨[], [(0, .v (.int .i64 x3932)), (1, .sl false 0 0 n3933 1), (4, .dead), (5, .sl false 1 0 0 1), (6, .v (.lst false n3938 c3939)), (7, .v (.int .i64 0)), (8, .dead), (9, .dead), (15, .dead), (20, .dead), (37, .dead)], [(0, .p c3934), (1, .p [])], 2, []⟩) (by kernel_rfl))) ⟨_, _, _, h4061, rfl⟩ ?_
    clear h4061
    rintro n _ ⟨n4023, x4024, c4025, h4061, rfl⟩
    cases n with
    | zero => cases h4061
    | succ n =>
      rw [m67_2_L0] at h4061
      have hh := brn_some h4061; clear h4061; rcases hh with ⟨h4026, h4061⟩ | ⟨h4026, h4061⟩
      · refine W_sound tab_ok mixed 21 _ _ _ ?_
        simp -implicitDefEqProofs only [go_sem, qa, qb, qc, qd, qe, qf, qg, qh, qi, qj, qk, ↓reduceIte, h3937, h4026]
        repeat with_reducible refine ⟨by first | kernel_rfl | decide, ?_⟩
        have hh := bnd'_some h4061; clear h4061; obtain ⟨o4063, h4064, h4065⟩ := hh
        refine Wp_cut (fun s => ∃ b4047, b4047 = o4063 ∧ s = ⟨[], [(0, .v (.int .i64 x3932)), (1, .sl false 0 0 n3933 1), (4, .dead), (5, .sl false 1 0 n4023 1), (6, .v (.lst false n3938 c3939)), (7, .v (.int .i64 x4024)), (8, .v (.bool b4047)), (9, .dead), (15, .dead), (20, .dead), (37, .dead)], [(0, .p c3934), (1, .p c4025)], 2, []⟩) ?_ ?_
        · refine Wp_block ?_
          refine Wp_loopG (fun n s => ∃ b4027, ∃ x4028, m67_2_L1 N x3932 n3933 c3934 n3938 c3939 n4023 x4024 c4025 n b4027 x4028 = some o4063 ∧ s = ⟨[], [(0, .v (.int .i64 x3932)), (1, .sl false 0 0 n3933 1), (4, .dead), (5, .sl false 1 0 n4023 1), (6, .v (.lst false n3938 c3939)), (7, .v (.int .i64 x4024)), (8, .v (.bool b4027)), (9, .v (.int .i64 x4028)), (15, .dead), (20, .dead), (37, .dead)], [(0, .p c3934), (1, .p c4025)], 2, []⟩) N _ ((Wk_le (.r (.r (.r (.r (.r (.r (.r (.r (.k (.r (.r .nil))))))))))) (OLe.refl _)).trans (cmpS_ok (st' := ⟨[], [(0, .v (.int .i64 x3932)), (1, .sl false 0 0 n3933 1), (4, .dead), (5, .sl false 1 0 n4023 1), (6, .v (.lst false n3938 c3939)), (7, .v (.int .i64 x4024)), (8, .v (.bool true)), (9, .v (.int .i64 0)), (15, .dead), (20, .dead), (37, .dead)], [(0, .p c3934), (1, .p c4025)], 2, []⟩) (by kernel_rfl))) ⟨_, _, h4064, rfl⟩ ?_
          clear h4064
          rintro n _ ⟨b4027, x4028, h4064, rfl⟩
          cases n with
          | zero => cases h4064
          | succ n =>
            rw [m67_2_L1] at h4064
            have hh := brn_some h4064; clear h4064; rcases hh with ⟨h4029, h4064⟩ | ⟨h4029, h4064⟩
            · have hh := brn_some h4064; clear h4064; rcases hh with ⟨h4030, h4064⟩ | ⟨h4030, h4064⟩
              · have hh := grd_some h4064; clear h4064; obtain ⟨⟨g4031, g4032⟩, h4064⟩ := hh
                have hh := grd_some h4064; clear h4064; obtain ⟨g4033, h4064⟩ := hh
                have hh := getL_some h4064; clear h4064; obtain ⟨n4035, c4036, h4034, h4064⟩ := hh
                have hh := grd_some h4064; clear h4064; obtain ⟨⟨g4037, g4038⟩, h4064⟩ := hh
                have hh := grd_some h4064; clear h4064; obtain ⟨g4039, h4064⟩ := hh
                have hh := getI_some h4064; clear h4064; obtain ⟨x4041, h4040, h4064⟩ := hh
                have hh := bnd'_some h4064; clear h4064; obtain ⟨p4042, h4043, h4064⟩ := hh
                (try dsimp only at h4064)
                refine W_sound tab_ok mixed 23 _ _ _ ?_
                simp -implicitDefEqProofs only [go_sem, qa, qb, qc, qd, qe, qf, qg, qh, qi, qj, qk, ↓reduceIte, h3937, h4026, h4029, h4030, g4031, g4032, g4033, h4034, g4037, g4038, g4039, h4040]
                repeat with_reducible refine ⟨by first | kernel_rfl | decide, ?_⟩
                refine Wp_callD [0] (c63_2 N _ _ _ _ _ h4043) rfl rfl rfl (by first | rfl | (simp only [go_sem, qa, qb, qc, qd, qe, qf, qg, qh, qi, qj, qk, ↓reduceIte, h3937, h4026, h4029, h4030, g4031, g4032, g4033, h4034, g4037, g4038, g4039, h4040] <;> rfl)) rfl (by kernel_rfl) ?_
                have hh := getB_some h4064; clear h4064; obtain ⟨b4045, h4044, h4064⟩ := hh
                have hh := brn_some h4064; clear h4064; rcases hh with ⟨h4046, h4064⟩ | ⟨h4046, h4064⟩
                · refine W_sound tab_ok mixed 10 _ _ _ ?_
                  simp -implicitDefEqProofs only [go_sem, qa, qb, qc, qd, qe, qf, qg, qh, qi, qj, qk, ↓reduceIte, h3937, h4026, h4029, h4030, g4031, g4032, g4033, h4034, g4037, g4038, g4039, h4040, h4044, h4046]
                  repeat with_reducible refine ⟨by first | kernel_rfl | decide, ?_⟩
                  exact cutQ _ ((Wk_le (.r (.r (.r (.r (.r (.r (.r (.r (.r (.k (.r .nil))))))))))) (OLe.refl _)).trans (cmpS_ok (st' := ⟨[], [(0, .v (.int .i64 x3932)), (1, .sl false 0 0 n3933 1), (4, .dead), (5, .sl false 1 0 n4023 1), (6, .v (.lst false n3938 c3939)), (7, .v (.int .i64 x4024)), (8, .v (.bool false)), (9, .v (.int .i64 (IntKind.i64.wrap (x4028 + 1)))), (15, .dead), (20, .dead), (37, .dead)], [(0, .p c3934), (1, .p c4025)], 2, []⟩) (by kernel_rfl))) ⟨n, Nat.lt_succ_self n, _, _, h4064, rfl⟩
                · refine W_sound tab_ok mixed 10 _ _ _ ?_
                  simp -implicitDefEqProofs only [go_sem, qa, qb, qc, qd, qe, qf, qg, qh, qi, qj, qk, ↓reduceIte, h3937, h4026, h4029, h4030, g4031, g4032, g4033, h4034, g4037, g4038, g4039, h4040, h4044, h4046]
                  repeat with_reducible refine ⟨by first | kernel_rfl | decide, ?_⟩
                  exact cutQ _ ((Wk_le (.r (.r (.r (.r (.r (.r (.r (.r (.r (.k (.r .nil))))))))))) (OLe.refl _)).trans (cmpS_ok (st' := ⟨[], [(0, .v (.int .i64 x3932)), (1, .sl false 0 0 n3933 1), (4, .dead), (5, .sl false 1 0 n4023 1), (6, .v (.lst false n3938 c3939)), (7, .v (.int .i64 x4024)), (8, .v (.bool true)), (9, .v (.int .i64 (IntKind.i64.wrap (x4028 + 1)))), (15, .dead), (20, .dead), (37, .dead)], [(0, .p c3934), (1, .p c4025)], 2, []⟩) (by kernel_rfl))) ⟨n, Nat.lt_succ_self n, _, _, h4064, rfl⟩
              · refine W_sound tab_ok mixed 34 _ _ _ ?_
                simp -implicitDefEqProofs only [go_sem, qa, qb, qc, qd, qe, qf, qg, qh, qi, qj, qk, ↓reduceIte, h3937, h4026, h4029, h4030]
                repeat with_reducible refine ⟨by first | kernel_rfl | decide, ?_⟩
                exact cutQ _ ((Wk_le (.r (.r (.r (.r (.r (.r (.r (.r (.r (.k (.r .nil))))))))))) (OLe.refl _)).trans (cmpS_ok (st' := ⟨[], [(0, .v (.int .i64 x3932)), (1, .sl false 0 0 n3933 1), (4, .dead), (5, .sl false 1 0 n4023 1), (6, .v (.lst false n3938 c3939)), (7, .v (.int .i64 x4024)), (8, .v (.bool false)), (9, .v (.int .i64 (IntKind.i64.wrap (x4028 + 1)))), (15, .dead), (20, .dead), (37, .dead)], [(0, .p c3934), (1, .p c4025)], 2, []⟩) (by kernel_rfl))) ⟨n, Nat.lt_succ_self n, _, _, h4064, rfl⟩
            · refine W_sound tab_ok mixed 9 _ _ _ ?_
              simp -implicitDefEqProofs only [go_sem, qa, qb, qc, qd, qe, qf, qg, qh, qi, qj, qk, ↓reduceIte, h3937, h4026, h4029]
              repeat with_reducible refine ⟨by first | kernel_rfl | decide, ?_⟩
              obtain rfl := Option.some.inj h4064
              exact cutQ _ ((Wk_le (.r (.r (.r (.r (.r (.r (.r (.k (.r (.k (.r .nil))))))))))) (OLe.refl _)).trans (cmpS_ok (st' := ⟨[], [(0, .v (.int .i64 x3932)), (1, .sl false 0 0 n3933 1), (4, .dead), (5, .sl false 1 0 n4023 1), (6, .v (.lst false n3938 c3939)), (7, .v (.int .i64 x4024)), (8, .v (.bool b4027)), (9, .dead), (15, .dead), (20, .dead), (37, .dead)], [(0, .p c3934), (1, .p c4025)], 2, []⟩) (by kernel_rfl))) ⟨_, rfl, rfl⟩
        · rintro _ ⟨b4047, rfl, rfl⟩
          have hh := brn_some h4065; clear h4065; rcases hh with ⟨h4048, h4065⟩ | ⟨h4048, h4065⟩
          · have hh := grd_some h4065; clear h4065; obtain ⟨⟨g4049, g4050⟩, h4065⟩ := hh
            have hh := grd_some h4065; clear h4065; obtain ⟨g4051, h4065⟩ := hh
            have hh := getL_some h4065; clear h4065; obtain ⟨n4053, c4054, h4052, h4065⟩ := hh
            have hh := grd_some h4065; clear h4065; obtain ⟨g4055, h4065⟩ := hh
            have hh := grd_some h4065; clear h4065; obtain ⟨g4056, h4065⟩ := hh
            refine W_sound tab_ok mixed 21 _ _ _ ?_
            simp -implicitDefEqProofs only [go_sem, qa, qb, qc, qd, qe, qf, qg, qh, qi, qj, qk, ↓reduceIte, h3937, h4026, h4048, g4049, g4050, g4051, h4052, g4055, g4056]
            repeat with_reducible refine ⟨by first | kernel_rfl | decide, ?_⟩
            exact cutQ _ ((Wk_le (.r (.r (.r (.r (.r (.r (.k (.r (.r (.r (.k .nil))))))))))) (OLe.refl _)).trans (cmpS_ok (st' := ⟨[], [(0, .v (.int .i64 x3932)), (1, .sl false 0 0 n3933 1), (4, .dead), (5, .sl false 1 0 (n4023 + 1) 1), (6, .v (.lst false n3938 c3939)), (7, .v (.int .i64 (IntKind.i64.wrap (x4024 + 1)))), (8, .dead), (9, .dead), (15, .dead), (20, .dead), (37, .dead)], [(0, .p c3934), (1, .p (c4025 ++ [(.lst false n4053 c4054)]))], 2, []⟩) (by kernel_rfl))) ⟨n, Nat.lt_succ_self n, _, _, _, h4065, rfl⟩
          · refine W_sound tab_ok mixed 12 _ _ _ ?_
            simp -implicitDefEqProofs only [go_sem, qa, qb, qc, qd, qe, qf, qg, qh, qi, qj, qk, ↓reduceIte, h3937, h4026, h4048]
            repeat with_reducible refine ⟨by first | kernel_rfl | decide, ?_⟩
            exact cutQ _ ((Wk_le (.r (.r (.r (.r (.r (.r (.k (.r (.r (.r (.k .nil))))))))))) (OLe.refl _)).trans (cmpS_ok (st' := ⟨[], [(0, .v (.int .i64 x3932)), (1, .sl false 0 0 n3933 1), (4, .dead), (5, .sl false 1 0 n4023 1), (6, .v (.lst false n3938 c3939)), (7, .v (.int .i64 (IntKind.i64.wrap (x4024 + 1)))), (8, .dead), (9, .dead), (15, .dead), (20, .dead), (37, .dead)], [(0, .p c3934), (1, .p c4025)], 2, []⟩) (by kernel_rfl))) ⟨n, Nat.lt_succ_self n, _, _, _, h4065, rfl⟩
      · refine W_sound tab_ok mixed 10 _ _ _ ?_
        simp -implicitDefEqProofs only [go_sem, qa, qb, qc, qd, qe, qf, qg, qh, qi, qj, qk, ↓reduceIte, h3937, h4026]
        repeat with_reducible refine ⟨by first | kernel_rfl | decide, ?_⟩
        obtain rfl := Option.some.inj h4061
        exact cutQ _ ((Wk_le (.k (.k (.r (.r (.k (.k (.r (.r (.k (.r (.r .nil))))))))))) (OLe.refl _)).trans (cmpS_ok (st' := ⟨[], [(0, .dead), (1, .dead), (4, .dead), (5, .sl false 1 0 n4023 1), (6, .dead), (7, .dead), (8, .dead), (9, .dead), (15, .dead), (20, .dead), (37, .dead)], [(0, .p c3934), (1, .p c4025)], 2, []⟩) (by kernel_rfl))) ⟨_, _, rfl, rfl⟩
  · rintro _ ⟨n4057, c4058, rfl, rfl⟩
    (try dsimp only at h4062)
    refine W_sound tab_ok mixed 7 _ _ _ ?_
    simp -implicitDefEqProofs only [go_sem, qa, qb, qc, qd, qe, qf, qg, qh, qi, qj, qk, ↓reduceIte, h3937]
    repeat with_reducible refine ⟨by first | kernel_rfl | decide, ?_⟩
    have hh := grd_some h4062; clear h4062; obtain ⟨g4059, h4062⟩ := hh
    refine FinQ_wk (Wk_freeze 1 c4058 (by rfl) (by decide) (by decide)) ?_
    simp -implicitDefEqProofs only [go_sem, qa, qb, qc, qd, qe, qf, qg, qh, qi, qj, qk, ↓reduceIte, h3937, g4059]
    obtain rfl := Option.some.inj h4062
    exact finD (e2 := [(0, .dead), (1, .dead), (4, .v (.lst false n4057 c4058)), (5, .dead), (6, .dead), (7, .dead), (8, .dead), (9, .dead), (15, .dead), (20, .dead), (37, .dead)]) (ob2 := [(0, .p c3934)]) (st' := ⟨[], [(0, .dead), (1, .dead), (4, .v (.lst false n4057 c4058)), (5, .dead), (6, .dead), (7, .dead), (8, .dead), (9, .dead), (15, .dead), (20, .dead), (37, .dead)], [(0, .p c3934)], 1, []⟩) (.r (.r (.r (.k (.r (.r (.r (.r (.r (.r (.r .nil))))))))))) (.cons _ _ _ _ _ (DLes.refl _) .nil) (by kernel_rfl) (by simp only [go_sem, qa, qb, qc, qd, qe, qf, qg, qh, qi, qj, qk, ↓reduceIte, resQ_tmp, resQ_cell, resQ_nil, retD_one, retD_two, retD_three, retD_none]; try simp [R.val, retD_one, retD_two, retD_three, retD_none])
def m70_L0 (N : Nat) (x3923 : Int) : Nat → Nat → List PV → Option ((Nat × List PV))
  | 0, _, _ => none
  | n + 1, n4078, c4079 =>
    brn (decide (((n4078 : Nat) : Int) < x3923)) (
      bnd' (m67_2 N x3923 n4078 c4079) fun p4081 =>
      getL p4081 fun n4084 c4085 =>
      grd (0 < ((n4084 : Nat) : Int)) <|
      grd (0 < List.length c4085) <|
      getL (gp c4085 0) fun n4089 c4090 =>
      grd ((n4078 + 1) ≤ 1099511627776) <|
      grd (List.length c4079 = n4078) <|
      m70_L0 N x3923 n (n4078 + 1) (c4079 ++ [(.lst false n4089 c4090)])) (
      some (n4078, c4079))
def m70 (N : Nat) (x3923 : Int) (p3924 : PV) : Option (PV) :=
  getL p3924 fun n3926 c3927 =>
  bnd' (m93 N (.lst false n3926 c3927)) fun (n3928, c3929) =>
  bnd' (m70_L0 N x3923 N n3928 c3929) fun o =>
  match o with
  | (n4093, c4094) =>
    grd (List.length c4094 = n4093) <|
    some (.lst false n4093 c4094)
theorem c70 (N : Nat) (x3923 : Int) (p3924 : PV) (r : PV)  (h : m70 N x3923 p3924 = some r) : FnP Tryd.prog 70 [(.int .i64 x3923), p3924] r := by
  unfold m70 at h
  refine Fn_of (sz := 21) tab_ok [0, 1, 4, 5, 11] [.tmp 4] Tryd.func70 rfl rfl rfl (by simp) ?_
  simp only [initSt, initEnv, List.map_cons, List.map_nil, List.getD_cons_zero, List.getD_cons_succ, List.getD_nil]
  have hh := getL_some h; clear h; obtain ⟨n3926, c3927, h3925, h⟩ := hh
  have hh := bnd'_some h; clear h; obtain ⟨⟨n3928, c3929⟩, h3930, h⟩ := hh
  (try dsimp only at h)
  refine W_sound tab_ok mixed 7 _ _ _ ?_
  simp -implicitDefEqProofs only [go_sem, qa, qb, qc, qd, qe, qf, qg, qh, qi, qj, qk, ↓reduceIte, h3925]
  repeat with_reducible refine ⟨by first | kernel_rfl | decide, ?_⟩
  refine Wp_callD [] (c93 N _ _ _ h3930) rfl rfl rfl (by first | rfl | (simp only [go_sem, qa, qb, qc, qd, qe, qf, qg, qh, qi, qj, qk, ↓reduceIte, h3925] <;> rfl)) rfl (by kernel_rfl) ?_
  refine W_sound tab_ok mixed 3 _ _ _ ?_
  simp -implicitDefEqProofs only [go_sem, qa, qb, qc, qd, qe, qf, qg, qh, qi, qj, qk, ↓reduceIte, h3925]
  repeat with_reducible refine ⟨by first | kernel_rfl | decide, ?_⟩
  have hh := bnd'_some h; clear h; obtain ⟨o4096, h4097, h4098⟩ := hh
  refine Wp_cut (fun s => ∃ n4093, ∃ c4094, (n4093, c4094) = o4096 ∧ s = ⟨[], [(0, .dead), (1, .dead), (4, .dead), (5, .sl false 0 0 n4093 1), (11, .dead)], [(0, .p c4094)], 1, []⟩) ?_ ?_
  · refine Wp_block ?_
    refine Wp_loopG (fun n s => ∃ n4078, ∃ c4079, m70_L0 N x3923 n n4078 c4079 = some o4096 ∧ s = ⟨[], [(0, .v (.int .i64 x3923)), (1, .dead), (4, .dead), (5, .sl false 0 0 n4078 1), (11, .dead)], [(0, .p c4079)], 1, []⟩) N _ ((Wk_le (.r (.k (.k (.r (.r .nil))))) (OLe.refl _)).trans (cmpS_ok rfl)) ⟨_, _, h4097, rfl⟩ ?_
    clear h4097
    rintro n _ ⟨n4078, c4079, h4097, rfl⟩
    cases n with
    | zero => cases h4097
    | succ n =>
      rw [m70_L0] at h4097
      have hh := brn_some h4097; clear h4097; rcases hh with ⟨h4080, h4097⟩ | ⟨h4080, h4097⟩
      · have hh := bnd'_some h4097; clear h4097; obtain ⟨p4081, h4082, h4097⟩ := hh
        (try dsimp only at h4097)
        refine W_sound tab_ok mixed 15 _ _ _ ?_
        simp -implicitDefEqProofs only [go_sem, qa, qb, qc, qd, qe, qf, qg, qh, qi, qj, qk, ↓reduceIte, h3925, h4080]
        repeat with_reducible refine ⟨by first | kernel_rfl | decide, ?_⟩
        refine Wp_callD [0] (c67_2 N _ _ _ _ h4082) rfl rfl rfl (by first | rfl | (simp only [go_sem, qa, qb, qc, qd, qe, qf, qg, qh, qi, qj, qk, ↓reduceIte, h3925, h4080] <;> rfl)) rfl (by kernel_rfl) ?_
        have hh := getL_some h4097; clear h4097; obtain ⟨n4084, c4085, h4083, h4097⟩ := hh
        have hh := grd_some h4097; clear h4097; obtain ⟨g4086, h4097⟩ := hh
        have hh := grd_some h4097; clear h4097; obtain ⟨g4087, h4097⟩ := hh
        have hh := getL_some h4097; clear h4097; obtain ⟨n4089, c4090, h4088, h4097⟩ := hh
        have hh := grd_some h4097; clear h4097; obtain ⟨g4091, h4097⟩ := hh
        have hh := grd_some h4097; clear h4097; obtain ⟨g4092, h4097⟩ := hh
        refine W_sound tab_ok mixed 7 _ _ _ ?_
        simp -implicitDefEqProofs only [go_sem, qa, qb, qc, qd, qe, qf, qg, qh, qi, qj, qk, ↓reduceIte, h3925, h4080, h4083, g4086, g4087, h4088, g4091, g4092]
        repeat with_reducible refine ⟨by first | kernel_rfl | decide, ?_⟩
        exact cutQ _ ((Wk_le (.r (.r (.r (.r (.k .nil))))) (OLe.refl _)).trans (cmpS_ok rfl)) ⟨n, Nat.lt_succ_self n, _, _, h4097, rfl⟩
      · refine W_sound tab_ok mixed 10 _ _ _ ?_
        simp -implicitDefEqProofs only [go_sem, qa, qb, qc, qd, qe, qf, qg, qh, qi, qj, qk, ↓reduceIte, h3925, h4080]
        repeat with_reducible refine ⟨by first | kernel_rfl | decide, ?_⟩
        obtain rfl := Option.some.inj h4097
        exact cutQ _ ((Wk_le (.k (.r (.r (.r (.k .nil))))) (OLe.refl _)).trans (cmpS_ok rfl)) ⟨_, _, rfl, rfl⟩
  · rintro _ ⟨n4093, c4094, rfl, rfl⟩
    (try dsimp only at h4098)
    refine W_sound tab_ok mixed 7 _ _ _ ?_
    simp -implicitDefEqProofs only [go_sem, qa, qb, qc, qd, qe, qf, qg, qh, qi, qj, qk, ↓reduceIte, h3925]
    repeat with_reducible refine ⟨by first | kernel_rfl | decide, ?_⟩
    have hh := grd_some h4098; clear h4098; obtain ⟨g4095, h4098⟩ := hh
    refine FinQ_wk (Wk_freeze 0 c4094 (by rfl) (by decide) (by decide)) ?_
    simp -implicitDefEqProofs only [go_sem, qa, qb, qc, qd, qe, qf, qg, qh, qi, qj, qk, ↓reduceIte, h3925, g4095]
    obtain rfl := Option.some.inj h4098
    exact finC [(4, .v (.lst false n4093 c4094))] [(4, .v (.lst false n4093 c4094))] (by simp [leE, lk_cons]) (.cons _ _ _ _ _ (.v _ _ (.refl _)) .nil) (by rfl) (by simp [leE, lk_cons]) (by decide) (by decide) rfl (by simp only [go_sem, qa, qb, qc, qd, qe, qf, qg, qh, qi, qj, qk, ↓reduceIte, resQ_tmp, resQ_cell, resQ_nil, retD_one, retD_two, retD_three, retD_none]; try simp [R.val, retD_one, retD_two, retD_three, retD_none])
end Go.Proofs.YtcaecfofgdogbaaDoor
