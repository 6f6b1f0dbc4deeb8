/-
  Models and laws.
-/
import Derived.Test.YtcaecfofgdogbaaDoorYWpB
import Derived.Test.YtcaecfofgdogbaaDoorYV39
import Derived.Test.YtcaecfofgdogbaaDoorYV36
set_option linter.unusedSimpArgs false
set_option linter.unusedVariables false
namespace Go.Proofs.YtcaecfofgdogbaaDoor
open Go.V
set_option maxRecDepth 100000
set_option maxHeartbeats 4000000
set_option linter.unusedSimpArgs false
set_option linter.unusedVariables false
attribute [local go_sem] tl1 tl2 tl3 tl4 tl5 tl9 tl17 tl21 tl22 tl23 tl24 tl25 tl27 tl28 tl30 tl31 tl32 tl33 tl35 tl36 tl37 tl38 tl39 tl40 tl42 tl43 tl44 tl45 tl46 tl47 tl48 tl49 tl50 tl51 tl52 tl53 tl54 tl55 tl56 tl57 tl58 tl59 tl61 tl62 tl63 tl64 tl65 tl66 tl67 tl68 tl69 tl70 tl71 tl72 tl73 tl74 tl75 tl76 tl77 tl78 tl79 tl80 tl81 tl82 tl83 tl84 tl85 tl87 tl89 tl90 tl91 tl92 tl93 tl94 tl96 tl97 tl98 tl99 tl100 tl101 tl102 tl103 tl104 tl105 tl106 tl107 tl108 tl109 tl115 tl119
def m73 (N : Nat) (x1236 : Int) (x1237 : Int) (x1238 : Int) : Option (PV) :=
  brn (decide (x1236 ≥ x1237)) (
    some (.bool (decide (x1236 ≤ x1238)))) (
    some (.bool false))
def m92_L0 (N : Nat) (x1271 : Int) (n1273 : Nat) (c1274 : List PV) : Nat → Int → Option ((PV ⊕ Unit))
  | 0, _ => none
  | n + 1, x1275 =>
    brn (decide (x1275 < ((n1273 : Nat) : Int))) (
      grd (0 ≤ x1275 ∧ x1275 < ((n1273 : Nat) : Int)) <|
      grd (0 < List.length (List.drop (Int.toNat x1275) c1274)) <|
      getI .i64 (gp c1274 (Int.toNat x1275)) fun x1281 =>
      brn (x1281 == x1271) (
        some (.inl (.bool true))) (
        m92_L0 N x1271 n1273 c1274 n (IntKind.i64.wrap (x1275 + 1)))) (
      some (.inr ()))
def m92 (N : Nat) (p1270 : PV) (x1271 : Int) : Option (PV) :=
  getL p1270 fun n1273 c1274 =>
  bnd' (m92_L0 N x1271 n1273 c1274 N 0) fun o =>
  match o with
  | .inl p1283 =>
    some p1283
  | .inr () =>
    some (.bool false)
def m63_L0 (N : Nat) (x1295 : Int) (x1296 : Int) (n1298 : Nat) (c1299 : List PV) : Nat → Int → Option ((PV ⊕ Unit))
  | 0, _ => none
  | n + 1, x1300 =>
    brn (decide (x1300 < ((n1298 : Nat) : Int))) (
      grd (0 ≤ x1300 ∧ x1300 < ((n1298 : Nat) : Int)) <|
      grd (0 < List.length (List.drop (Int.toNat x1300) c1299)) <|
      getL (gp c1299 (Int.toNat x1300)) fun n1306 c1307 =>
      brn (decide (x1295 < ((n1306 : Nat) : Int))) (
        grd (0 ≤ x1295 ∧ x1295 < ((n1306 : Nat) : Int)) <|
        grd (0 < List.length (List.drop (Int.toNat x1295) c1307)) <|
        getI .i64 (gp c1307 (Int.toNat x1295)) fun x1313 =>
        brn (x1313 == x1296) (
          some (.inl (.bool true))) (
          m63_L0 N x1295 x1296 n1298 c1299 n (IntKind.i64.wrap (x1300 + 1)))) (
        m63_L0 N x1295 x1296 n1298 c1299 n (IntKind.i64.wrap (x1300 + 1)))) (
      some (.inr ()))
def m63 (N : Nat) (p1294 : PV) (x1295 : Int) (x1296 : Int) : Option (PV) :=
  getL p1294 fun n1298 c1299 =>
  bnd' (m63_L0 N x1295 x1296 n1298 c1299 N 0) fun o =>
  match o with
  | .inl p1315 =>
    some p1315
  | .inr () =>
    some (.bool false)
def m68_L1 (N : Nat) (x1230 : Int) (x1232 : Int) (n1234 : Nat) (c1235 : List PV) (x1246 : Int) (n1252 : Nat) (c1253 : List PV) : Nat → Int → Option ((PV ⊕ Unit))
  | 0, _ => none
  | n + 1, x1256 =>
    brn (decide (x1256 < x1232)) (
      grd (0 ≤ x1256 ∧ x1256 < ((n1252 : Nat) : Int)) <|
      grd (0 < List.length (List.drop (Int.toNat x1256) c1253)) <|
      getI .i64 (gp c1253 (Int.toNat x1256)) fun x1262 =>
      bnd' (m73 N x1262 0 (IntKind.i64.wrap (x1230 - 1))) fun p1263 =>
      getB p1263 fun b1266 =>
      brn b1266 (
        grd (x1256 ≤ ((n1252 : Nat) : Int)) <|
        grd (List.length c1253 = n1252) <|
        bnd' (m92 N (.lst false (Int.toNat x1256) (List.take (Int.toNat x1256) c1253)) x1262) fun p1287 =>
        getB p1287 fun b1290 =>
        brn b1290 (
          some (.inl (.int .i64 6))) (
          grd (x1246 ≤ ((n1234 : Nat) : Int)) <|
          grd (List.length c1235 = n1234) <|
          bnd' (m63 N (.lst false (Int.toNat x1246) (List.take (Int.toNat x1246) c1235)) x1256 x1262) fun p1319 =>
          getB p1319 fun b1322 =>
          brn b1322 (
            some (.inl (.int .i64 13))) (
            m68_L1 N x1230 x1232 n1234 c1235 x1246 n1252 c1253 n (IntKind.i64.wrap (x1256 + 1))))) (
        some (.inl (.int .i64 2)))) (
      some (.inr ()))
def m68_L0 (N : Nat) (x1230 : Int) (x1232 : Int) (n1234 : Nat) (c1235 : List PV) : Nat → Int → Option ((PV ⊕ Unit))
  | 0, _ => none
  | n + 1, x1246 =>
    brn (decide (x1246 < ((n1234 : Nat) : Int))) (
      grd (0 ≤ x1246 ∧ x1246 < ((n1234 : Nat) : Int)) <|
      grd (0 < List.length (List.drop (Int.toNat x1246) c1235)) <|
      getL (gp c1235 (Int.toNat x1246)) fun n1252 c1253 =>
      brn (((n1252 : Nat) : Int) != x1232) (
        some (.inl (.int .i64 5))) (
        brn (decide (x1232 > x1230)) (
          some (.inl (.int .i64 5))) (
          bnd' (m68_L1 N x1230 x1232 n1234 c1235 x1246 n1252 c1253 N 0) fun o =>
          match o with
          | .inl p1324 =>
            some (.inl p1324)
          | .inr () =>
            m68_L0 N x1230 x1232 n1234 c1235 n (IntKind.i64.wrap (x1246 + 1))))) (
      some (.inr ()))
def m68 (N : Nat) (x1230 : Int) (p1231 : PV) (x1232 : Int) : Option (PV) :=
  getL p1231 fun n1234 c1235 =>
  bnd' (m73 N x1230 1 5) fun p1240 =>
  getB p1240 fun b1243 =>
  brn b1243 (
    brn (decide (((n1234 : Nat) : Int) > x1230)) (
      some (.int .i64 3)) (
      bnd' (m68_L0 N x1230 x1232 n1234 c1235 N 0) fun o =>
      match o with
      | .inl p1325 =>
        some p1325
      | .inr () =>
        some (.int .i64 0))) (
    some (.int .i64 1))
def m24 (N : Nat) (x1225 : Int) (p1226 : PV) : Option (PV) :=
  getL p1226 fun n1228 c1229 =>
  bnd' (m68 N x1225 (.lst false n1228 c1229) x1225) fun p1332 =>
  getI .i64 p1332 fun x1335 =>
  some (.int .i64 x1335)
def m18_L1 (N : Nat) (x1336 : Int) (n1339 : Nat) (c1340 : List PV) (n1406 : Nat) (x1407 : Int) (c1408 : List PV) : Nat → Nat → Int → List PV → Option ((Nat × List PV))
  | 0, _, _, _ => none
  | n + 1, n1424, x1425, c1426 =>
    brn (decide (x1425 < x1336)) (
      bnd' (m63 N (.lst false n1339 c1340) x1407 x1425) fun p1428 =>
      getB p1428 fun b1431 =>
      brn b1431 (
        m18_L1 N x1336 n1339 c1340 n1406 x1407 c1408 n n1424 (IntKind.i64.wrap (x1425 + 1)) c1426) (
        grd ((n1424 + 1) ≤ 1099511627776) <|
        grd (List.length c1426 = n1424) <|
        m18_L1 N x1336 n1339 c1340 n1406 x1407 c1408 n (n1424 + 1) (IntKind.i64.wrap (x1425 + 1)) (c1426 ++ [(.int .i64 x1425)]))) (
      some (n1424, c1426))
def m18_L0 (N : Nat) (x1336 : Int) (n1339 : Nat) (c1340 : List PV) : Nat → Nat → Int → List PV → Option ((Nat × List PV))
  | 0, _, _, _ => none
  | n + 1, n1406, x1407, c1408 =>
    brn (decide (x1407 < x1336)) (
      bnd' (m18_L1 N x1336 n1339 c1340 n1406 x1407 c1408 N 0 0 []) fun o =>
      match o with
      | (n1435, c1436) =>
        grd ((n1406 + 1) ≤ 1099511627776) <|
        grd (List.length c1408 = n1406) <|
        grd (List.length c1436 = n1435) <|
        m18_L0 N x1336 n1339 c1340 n (n1406 + 1) (IntKind.i64.wrap (x1407 + 1)) (c1408 ++ [(.lst false n1435 c1436)])) (
      some (n1406, c1408))
def m18 (N : Nat) (x1336 : Int) (p1337 : PV) : Option (PV) :=
  getL p1337 fun n1339 c1340 =>
  bnd' (m24 N x1336 (.lst false n1339 c1340)) fun p1341 =>
  getI .i64 p1341 fun x1344 =>
  brn (x1344 != 0) (
    some (.tup [(.lst false 0 []), (.int .i64 x1344)])) (
    bnd' (m18_L0 N x1336 n1339 c1340 N 0 0 []) fun o =>
    match o with
    | (n1440, c1441) =>
      grd (List.length c1441 = n1440) <|
      some (.tup [(.lst false n1440 c1441), (.int .i64 0)]))
end Go.Proofs.YtcaecfofgdogbaaDoor
namespace Go.Proofs.YtcaecfofgdogbaaDoor
open Go.V
open Nat renaming reduceBEq → qa, reduceAdd → qb, reduceSub → qc, reduceMul → qd, reduceLT → qe, reduceLeDiff → qf
open Int renaming reduceLE → qg, reduceLT → qh, reduceToNat → qi, reduceBEq → qj, reduceBNe → qk
set_option maxRecDepth 100000
set_option maxHeartbeats 4000000
set_option linter.unusedSimpArgs false
set_option linter.unusedVariables false
attribute [local go_sem] tl1 tl2 tl3 tl4 tl5 tl9 tl17 tl21 tl22 tl23 tl24 tl25 tl27 tl28 tl30 tl31 tl32 tl33 tl35 tl36 tl37 tl38 tl39 tl40 tl42 tl43 tl44 tl45 tl46 tl47 tl48 tl49 tl50 tl51 tl52 tl53 tl54 tl55 tl56 tl57 tl58 tl59 tl61 tl62 tl63 tl64 tl65 tl66 tl67 tl68 tl69 tl70 tl71 tl72 tl73 tl74 tl75 tl76 tl77 tl78 tl79 tl80 tl81 tl82 tl83 tl84 tl85 tl87 tl89 tl90 tl91 tl92 tl93 tl94 tl96 tl97 tl98 tl99 tl100 tl101 tl102 tl103 tl104 tl105 tl106 tl107 tl108 tl109 tl115 tl119
def getA7 {α : Type} (p : PV) (k : PV → PV → PV → PV → PV → PV → PV → Option α) : Option α := match p with | .agg [a0, a1, a2, a3, a4, a5, a6] => k a0 a1 a2 a3 a4 a5 a6 | _ => none
theorem getA7_some {α : Type} {p : PV} {k : PV → PV → PV → PV → PV → PV → PV → Option α} {r : α} (h : getA7 p k = some r) : ∃ a0 a1 a2 a3 a4 a5 a6, p = .agg [a0, a1, a2, a3, a4, a5, a6] ∧ k a0 a1 a2 a3 a4 a5 a6 = some r := by
  unfold getA7 at h; split at h
  · exact ⟨_, _, _, _, _, _, _, rfl, h⟩
  · cases h
def m86_L0 (N : Nat) (x1244 : Int) (n1246 : Nat) (c1247 : List PV) : Nat → Int → Option ((PV ⊕ Unit))
  | 0, _ => none
  | n + 1, x1248 =>
    brn (decide (x1248 < ((n1246 : Nat) : Int))) (
      grd (0 ≤ x1248 ∧ x1248 < ((n1246 : Nat) : Int)) <|
      grd (0 < List.length (List.drop (Int.toNat x1248) c1247)) <|
      getI .i64 (gp c1247 (Int.toNat x1248)) fun x1254 =>
      brn (x1244 == x1254) (
        some (.inl (.int .i64 x1248))) (
        m86_L0 N x1244 n1246 c1247 n (IntKind.i64.wrap (x1248 + 1)))) (
      some (.inr ()))
def m86 (N : Nat) (p1243 : PV) (x1244 : Int) : Option (PV) :=
  getL p1243 fun n1246 c1247 =>
  bnd' (m86_L0 N x1244 n1246 c1247 N 0) fun o =>
  match o with
  | .inl p1256 =>
    some p1256
  | .inr () =>
    some (.int .i64 (-1))
theorem c86 (N : Nat) (p1243 : PV) (x1244 : Int) (r : PV)  (h : m86 N p1243 x1244 = some r) : FnP Tryd.prog 86 [p1243, (.int .i64 x1244)] r := by
  unfold m86 at h
  refine Fn_of (sz := 19) tab_ok [0, 1, 4, 5, 7, 8, 9, 16] [.tmp 4] Tryd.func86 rfl rfl rfl (by simp) ?_
  simp only [initSt, initEnv, List.map_cons, List.map_nil, List.getD_cons_zero, List.getD_cons_succ, List.getD_nil]
  have hh := getL_some h; clear h; obtain ⟨n1246, c1247, h1245, h⟩ := hh
  refine W_sound tab_ok mixed 11 _ _ _ ?_
  simp -implicitDefEqProofs only [go_sem, qa, qb, qc, qd, qe, qf, qg, qh, qi, qj, qk, ↓reduceIte, h1245]
  repeat with_reducible refine ⟨by first | kernel_rfl | decide, ?_⟩
  have hh := bnd'_some h; clear h; obtain ⟨o1257, h1258, h1259⟩ := hh
  refine Wp_cut (fun s => (.inr ()) = o1257 ∧ s = ⟨[], [(0, .dead), (1, .dead), (4, .dead), (5, .dead), (7, .dead), (8, .dead), (9, .dead), (16, .dead)], [], 0, []⟩) ?_ ?_
  · refine Wp_block ?_
    refine Wp_loopG (fun n s => ∃ x1248, m86_L0 N x1244 n1246 c1247 n x1248 = some o1257 ∧ s = ⟨[], [(0, .v (.lst false n1246 c1247)), (1, .v (.int .i64 x1244)), (4, .dead), (5, .dead), (7, .v (.int .i64 ((n1246 : Nat) : Int))), (8, .v (.int .i64 x1248)), (9, .dead), (16, .dead)], [], 0, []⟩) N _ ((Wk_le (.r (.r (.k (.r (.r (.r (.r (.r .nil)))))))) (OLe.refl _)).trans (cmpS_ok (st' := ⟨[], [(0, .v (.lst false n1246 c1247)), (1, .v (.int .i64 x1244)), (4, .dead), (5, .dead), (7, .v (.int .i64 ((n1246 : Nat) : Int))), (8, .v (.int .i64 0)), (9, .dead), (16, .dead)], [], 0, []⟩) (by kernel_rfl))) ⟨_, h1258, rfl⟩ ?_
    clear h1258
    rintro n _ ⟨x1248, h1258, rfl⟩
    cases n with
    | zero => cases h1258
    | succ n =>
      rw [m86_L0] at h1258
      have hh := brn_some h1258; clear h1258; rcases hh with ⟨h1249, h1258⟩ | ⟨h1249, h1258⟩
      · have hh := grd_some h1258; clear h1258; obtain ⟨⟨g1250, g1251⟩, h1258⟩ := hh
        have hh := grd_some h1258; clear h1258; obtain ⟨g1252, h1258⟩ := hh
        have hh := getI_some h1258; clear h1258; obtain ⟨x1254, h1253, h1258⟩ := hh
        have hh := brn_some h1258; clear h1258; rcases hh with ⟨h1255, h1258⟩ | ⟨h1255, h1258⟩
        · refine W_sound tab_ok mixed 31 _ _ _ ?_
          simp -implicitDefEqProofs only [go_sem, qa, qb, qc, qd, qe, qf, qg, qh, qi, qj, qk, ↓reduceIte, h1245, h1249, g1250, g1251, g1252, h1253, h1255]
          repeat with_reducible refine ⟨by first | kernel_rfl | decide, ?_⟩
          obtain rfl := Option.some.inj h1258
          (try dsimp only at h1259)
          obtain rfl := Option.some.inj h1259
          exact finC [(4, .v (.int .i64 x1248))] [(4, .v (.int .i64 x1248))] (by simp [leE, lk_cons]) (.cons _ _ _ _ _ (.v _ _ (.refl _)) .nil) (by rfl) (by simp [leE, lk_cons]) (by decide) (by decide) rfl (by simp only [go_sem, qa, qb, qc, qd, qe, qf, qg, qh, qi, qj, qk, ↓reduceIte, resQ_tmp, resQ_cell, resQ_nil, retD_one, retD_two, retD_three, retD_none]; try simp [R.val, retD_one, retD_two, retD_three, retD_none])
        · refine W_sound tab_ok mixed 30 _ _ _ ?_
          simp -implicitDefEqProofs only [go_sem, qa, qb, qc, qd, qe, qf, qg, qh, qi, qj, qk, ↓reduceIte, h1245, h1249, g1250, g1251, g1252, h1253, h1255]
          repeat with_reducible refine ⟨by first | kernel_rfl | decide, ?_⟩
          exact cutQ _ ((Wk_le (.r (.r (.r (.k (.r (.r (.k (.k .nil)))))))) (OLe.refl _)).trans (cmpS_ok (st' := ⟨[], [(0, .v (.lst false n1246 c1247)), (1, .v (.int .i64 x1244)), (4, .dead), (5, .dead), (7, .v (.int .i64 ((n1246 : Nat) : Int))), (8, .v (.int .i64 (IntKind.i64.wrap (x1248 + 1)))), (9, .dead), (16, .dead)], [], 0, []⟩) (by kernel_rfl))) ⟨n, Nat.lt_succ_self n, _, h1258, rfl⟩
      · refine W_sound tab_ok mixed 7 _ _ _ ?_
        simp -implicitDefEqProofs only [go_sem, qa, qb, qc, qd, qe, qf, qg, qh, qi, qj, qk, ↓reduceIte, h1245, h1249]
        repeat with_reducible refine ⟨by first | kernel_rfl | decide, ?_⟩
        obtain rfl := Option.some.inj h1258
        exact cutQ _ ((Wk_le (.k (.k (.r (.r (.k (.k (.k (.r .nil)))))))) (OLe.refl _)).trans (cmpS_ok (st' := ⟨[], [(0, .dead), (1, .dead), (4, .dead), (5, .dead), (7, .dead), (8, .dead), (9, .dead), (16, .dead)], [], 0, []⟩) (by kernel_rfl))) ⟨rfl, rfl⟩
  · rintro _ ⟨rfl, rfl⟩
    (try dsimp only at h1259)
    refine W_sound tab_ok mixed 6 _ _ _ ?_
    simp -implicitDefEqProofs only [go_sem, qa, qb, qc, qd, qe, qf, qg, qh, qi, qj, qk, ↓reduceIte, h1245]
    repeat with_reducible refine ⟨by first | kernel_rfl | decide, ?_⟩
    obtain rfl := Option.some.inj h1259
    exact finC [(4, .v (.int .i64 (-1)))] [(4, .v (.int .i64 (-1)))] (by simp [leE, lk_cons]) (.cons _ _ _ _ _ (.v _ _ (.refl _)) .nil) (by rfl) (by simp [leE, lk_cons]) (by decide) (by decide) rfl (by simp only [go_sem, qa, qb, qc, qd, qe, qf, qg, qh, qi, qj, qk, ↓reduceIte, resQ_tmp, resQ_cell, resQ_nil, retD_one, retD_two, retD_three, retD_none]; try simp [R.val, retD_one, retD_two, retD_three, retD_none])
def m57 (N : Nat) (p1238 : PV) (x1239 : Int) : Option (PV) :=
  getL p1238 fun n1241 c1242 =>
  bnd' (m86 N (.lst false n1241 c1242) x1239) fun p1260 =>
  getI .i64 p1260 fun x1263 =>
  some (.bool (decide (x1263 ≥ 0)))
theorem c57 (N : Nat) (p1238 : PV) (x1239 : Int) (r : PV)  (h : m57 N p1238 x1239 = some r) : FnP Tryd.prog 57 [p1238, (.int .i64 x1239)] r := by
  unfold m57 at h
  refine Fn_of (sz := 9) tab_ok [0, 1, 4] [.tmp 4] Tryd.func57 rfl rfl rfl (by simp) ?_
  simp only [initSt, initEnv, List.map_cons, List.map_nil, List.getD_cons_zero, List.getD_cons_succ, List.getD_nil]
  have hh := getL_some h; clear h; obtain ⟨n1241, c1242, h1240, h⟩ := hh
  have hh := bnd'_some h; clear h; obtain ⟨p1260, h1261, h⟩ := hh
  refine W_sound tab_ok mixed 8 _ _ _ ?_
  simp -implicitDefEqProofs only [go_sem, qa, qb, qc, qd, qe, qf, qg, qh, qi, qj, qk, ↓reduceIte, h1240]
  repeat with_reducible refine ⟨by first | kernel_rfl | decide, ?_⟩
  refine Wp_callP (c86 N _ _ _ h1261) (by kernel_rfl) rfl rfl rfl rfl (by decide) ?_
  have hh := getI_some h; clear h; obtain ⟨x1263, h1262, h⟩ := hh
  refine W_sound tab_ok mixed 5 _ _ _ ?_
  simp -implicitDefEqProofs only [go_sem, qa, qb, qc, qd, qe, qf, qg, qh, qi, qj, qk, ↓reduceIte, h1240, h1262]
  repeat with_reducible refine ⟨by first | kernel_rfl | decide, ?_⟩
  obtain rfl := Option.some.inj h
  exact finC [(4, .v (.bool (decide (x1263 ≥ 0))))] [(4, .v (.bool (decide (x1263 ≥ 0))))] (by simp [leE, lk_cons]) (.cons _ _ _ _ _ (.v _ _ (.refl _)) .nil) (by rfl) (by simp [leE, lk_cons]) (by decide) (by decide) rfl (by simp only [go_sem, qa, qb, qc, qd, qe, qf, qg, qh, qi, qj, qk, ↓reduceIte, resQ_tmp, resQ_cell, resQ_nil, retD_one, retD_two, retD_three, retD_none]; try simp [R.val, retD_one, retD_two, retD_three, retD_none])
def m79_9_L1 (N : Nat) (rec : PV → List PV → Nat → List PV → Nat → List PV → Option ((List PV × Nat × Nat × List PV × List PV))) (n2513 : Nat) (c2514 : List PV) (x2517 : Int) (x2559 : Int) (c2560 : List PV) (n2561 : Nat) (n2562 : Nat) (c2563 : List PV) (c2564 : List PV) : Nat → Bool → Int → Option (Bool)
  | 0, _, _ => none
  | n + 1, b2570, x2571 =>
    brn (decide (x2571 < ((n2562 : Nat) : Int))) (
      grd (0 ≤ x2571 ∧ x2571 < ((n2562 : Nat) : Int)) <|
      grd ((Int.toNat x2571) < List.length c2563) <|
      getL (gp c2563 (Int.toNat x2571)) fun n2577 c2578 =>
      brn b2570 (
        m79_9_L1 N rec n2513 c2514 x2517 x2559 c2560 n2561 n2562 c2563 c2564 n true (IntKind.i64.wrap (x2571 + 1))) (
        grd (0 ≤ ((n2513 : Nat) : Int) ∧ ((n2513 : Nat) : Int) < ((n2577 : Nat) : Int)) <|
        grd (0 < List.length (List.drop n2513 c2578)) <|
        getI .i64 (gp c2578 n2513) fun x2584 =>
        m79_9_L1 N rec n2513 c2514 x2517 x2559 c2560 n2561 n2562 c2563 c2564 n (x2584 == x2559) (IntKind.i64.wrap (x2571 + 1)))) (
      some b2570)
def m79_9_L0 (N : Nat) (rec : PV → List PV → Nat → List PV → Nat → List PV → Option ((List PV × Nat × Nat × List PV × List PV))) (n2513 : Nat) (c2514 : List PV) (x2517 : Int) : Nat → Int → List PV → Nat → Nat → List PV → List PV → Option ((List PV × Nat × Nat × List PV × List PV))
  | 0, _, _, _, _, _, _ => none
  | n + 1, x2559, c2560, n2561, n2562, c2563, c2564 =>
    brn (decide (x2559 < x2517)) (
      bnd' (m57 N (.lst false n2513 c2514) x2559) fun p2566 =>
      getB p2566 fun b2569 =>
      bnd' (m79_9_L1 N rec n2513 c2514 x2517 x2559 c2560 n2561 n2562 c2563 c2564 N b2569 0) fun b2585 =>
      brn b2585 (
        m79_9_L0 N rec n2513 c2514 x2517 n (IntKind.i64.wrap (x2559 + 1)) c2560 n2561 n2562 c2563 c2564) (
        grd (0 ≤ ((n2513 : Nat) : Int) ∧ ((n2513 : Nat) : Int) ≤ ((n2513 : Nat) : Int)) <|
        grd (List.length c2514 = n2513) <|
        grd ((n2513 + 1) ≤ 1099511627776) <|
        bnd' (rec (.lst false (n2513 + 1) (c2514 ++ [(.int .i64 x2559)])) c2560 n2561 c2564 n2562 c2563) fun o =>
        match o with
        | (c2592, n2593, n2594, c2595, c2596) =>
          m79_9_L0 N rec n2513 c2514 x2517 n (IntKind.i64.wrap (x2559 + 1)) c2592 n2593 n2594 c2595 c2596)) (
      some (c2560, n2561, n2562, c2563, c2564))
def m79_9 (N : Nat) : Nat → PV → List PV → Nat → List PV → Nat → List PV → Option ((List PV × Nat × Nat × List PV × List PV))
  | 0, _, _, _, _, _, _ => none
  | fu + 1, p2506, c2507, n2508, c2509, n2510, c2511 =>
    getL p2506 fun n2513 c2514 =>
    grd (0 < List.length c2507) <|
    getI .i64 (gp c2507 0) fun x2517 =>
    brn (((n2513 : Nat) : Int) == x2517) (
      grd ((n2508 + 1) ≤ 1099511627776) <|
      grd (List.length c2509 = n2508) <|
      some (c2507, (n2508 + 1), n2510, c2511, (c2509 ++ [(.lst false n2513 c2514)]))) (
      bnd' (m79_9_L0 N (m79_9 N fu) n2513 c2514 x2517 N 0 c2507 n2508 n2510 c2511 c2509) fun o =>
      match o with
      | (c2597, n2598, n2599, c2600, c2601) =>
        some (c2597, n2598, n2599, c2600, c2601))
theorem c79_9 (N : Nat) : ∀ (fu : Nat) (p2506 : PV) (c2507 : List PV) (n2508 : Nat) (c2509 : List PV) (n2510 : Nat) (c2511 : List PV) (r : (List PV × Nat × Nat × List PV × List PV))  (h : m79_9 N fu p2506 c2507 n2508 c2509 n2510 c2511 = some r), V.Fn Tryd.prog 79 6 [.v p2506, .ptr 0 0, .ptr 1 0, .ptr 3 0, .ptr 5 0] [(0, .p c2507), (1, .r [.sl false 2 0 n2508 1]), (2, .p c2509), (3, .r [.sl false 4 0 n2510 1]), (4, .p c2511), (5, .r [.fn 79 [.ptr 0 0, .ptr 1 0, .ptr 3 0, .ptr 5 0]])] (fun d ob' => match (generalizing := false) r with | (c2420, n2421, n2422, c2423, c2424) => d = .v (.tup []) ∧ ob' = [(0, .p c2420), (1, .r [.sl false 6 0 n2421 1]), (3, .r [.sl false 4 0 n2422 1]), (4, .p c2423), (5, .r [.fn 79 [.ptr 0 0, .ptr 1 0, .ptr 3 0, .ptr 5 0]]), (6, .p c2424)]) := by
  intro fu
  induction fu with
  | zero => intro p2506 c2507 n2508 c2509 n2510 c2511 r h; cases h
  | succ fu ih =>
    intro p2506 c2507 n2508 c2509 n2510 c2511 r h
    rw [m79_9] at h
    refine Fn_of (sz := 56) tab_ok [0, 1, 2, 3, 4, 6, 7, 9, 13, 18, 19, 20, 25, 26, 27, 28, 43] [] Tryd.func79 rfl rfl rfl (by simp) ?_
    simp only [initSt, initEnv, List.map_cons, List.map_nil, List.getD_cons_zero, List.getD_cons_succ, List.getD_nil]
    have hh := getL_some h; clear h; obtain ⟨n2513, c2514, h2512, h⟩ := hh
    simp only [h2512]
    refine Wp_wkK (cmpT_ok (st' := ⟨[], [(0, .v (.lst false n2513 c2514)), (1, .ptr 0 0), (2, .ptr 1 0), (3, .ptr 3 0), (4, .ptr 5 0), (6, .dead), (7, .dead), (9, .dead), (13, .dead), (18, .dead), (19, .dead), (20, .dead), (25, .dead), (26, .dead), (27, .dead), (28, .dead), (43, .dead)], [(0, .p c2507), (1, .r [.sl false 6 0 n2508 1]), (3, .r [.sl false 4 0 n2510 1]), (4, .p c2511), (5, .r [.fn 79 [.ptr 0 0, .ptr 1 0, .ptr 3 0, .ptr 5 0]]), (6, .p c2509)], 7, []⟩) [0, 1, 1000000002, 3, 4, 5, 2] (by kernel_rfl)) rfl ?_
    have hh := grd_some h; clear h; obtain ⟨g2515, h⟩ := hh
    have hh := getI_some h; clear h; obtain ⟨x2517, h2516, h⟩ := hh
    have hh := brn_some h; clear h; rcases hh with ⟨h2518, h⟩ | ⟨h2518, h⟩
    · have hh := grd_some h; clear h; obtain ⟨g2519, h⟩ := hh
      have hh := grd_some h; clear h; obtain ⟨g2520, h⟩ := hh
      refine W_sound tab_ok mixed 19 _ _ _ ?_
      simp -implicitDefEqProofs only [go_sem, qa, qb, qc, qd, qe, qf, qg, qh, qi, qj, qk, ↓reduceIte, h2512, g2515, h2516, h2518, g2519, g2520]
      repeat with_reducible refine ⟨by first | kernel_rfl | decide, ?_⟩
      obtain rfl := Option.some.inj h
      exact finD (e2 := [(0, .dead), (1, .dead), (2, .dead), (3, .dead), (4, .dead), (6, .dead), (7, .dead), (9, .dead), (13, .dead), (18, .dead), (19, .dead), (20, .dead), (25, .dead), (26, .dead), (27, .dead), (28, .dead), (43, .dead)]) (ob2 := [(0, .p c2507), (1, .r [.sl false 24 0 (n2508 + 1) 1]), (3, .r [.sl false 4 0 n2510 1]), (4, .p c2511), (5, .r [.fn 79 [.ptr 0 0, .ptr 1 0, .ptr 3 0, .ptr 5 0]]), (23, .p [(.lst false n2513 c2514)]), (24, .p (c2509 ++ [(.lst false n2513 c2514)]))]) (st' := ⟨[], [(0, .dead), (1, .dead), (2, .dead), (3, .dead), (4, .dead), (6, .dead), (7, .dead), (9, .dead), (13, .dead), (18, .dead), (19, .dead), (20, .dead), (25, .dead), (26, .dead), (27, .dead), (28, .dead), (43, .dead)], [(0, .p c2507), (1, .r [.sl false 6 0 (n2508 + 1) 1]), (3, .r [.sl false 4 0 n2510 1]), (4, .p c2511), (5, .r [.fn 79 [.ptr 0 0, .ptr 1 0, .ptr 3 0, .ptr 5 0]]), (6, .p (c2509 ++ [(.lst false n2513 c2514)]))], 7, []⟩) (.k (.k (.k (.k (.k (.r (.r (.r (.k (.r (.r (.r (.r (.r (.r (.r (.r .nil))))))))))))))))) (.cons _ _ _ _ _ (DLes.refl _) (.cons _ _ _ _ _ (DLes.refl _) (.cons _ _ _ _ _ (DLes.refl _) (.cons _ _ _ _ _ (DLes.refl _) (.cons _ _ _ _ _ (DLes.refl _) (.cons _ _ _ _ _ (DLes.refl _) (.cons _ _ _ _ _ (DLes.refl _) .nil))))))) (by kernel_rfl) (by simp only [go_sem, qa, qb, qc, qd, qe, qf, qg, qh, qi, qj, qk, ↓reduceIte, resQ_tmp, resQ_cell, resQ_nil, retD_one, retD_two, retD_three, retD_none] <;> first | rfl | exact ⟨rfl, rfl⟩ | (try simp [R.val, retD_one, retD_two, retD_three, retD_none]))
    · refine W_sound tab_ok mixed 15 _ _ _ ?_
      simp -implicitDefEqProofs only [go_sem, qa, qb, qc, qd, qe, qf, qg, qh, qi, qj, qk, ↓reduceIte, h2512, g2515, h2516, h2518]
      repeat with_reducible refine ⟨by first | kernel_rfl | decide, ?_⟩
      have hh := bnd'_some h; clear h; obtain ⟨o2607, h2608, h2609⟩ := hh
      refine Wp_cut (fun s => ∃ c2597, ∃ n2598, ∃ n2599, ∃ c2600, ∃ c2601, (c2597, n2598, n2599, c2600, c2601) = o2607 ∧ s = ⟨[], [(0, .dead), (1, .dead), (2, .dead), (3, .dead), (4, .dead), (6, .dead), (7, .dead), (9, .dead), (13, .dead), (18, .dead), (19, .dead), (20, .dead), (25, .dead), (26, .dead), (27, .dead), (28, .dead), (43, .dead)], [(0, .p c2597), (1, .r [.sl false 6 0 n2598 1]), (3, .r [.sl false 4 0 n2599 1]), (4, .p c2600), (5, .r [.fn 79 [.ptr 0 0, .ptr 1 0, .ptr 3 0, .ptr 5 0]]), (6, .p c2601)], 7, []⟩) ?_ ?_
      · refine Wp_block ?_
        refine Wp_loopG (fun n s => ∃ x2559, ∃ c2560, ∃ n2561, ∃ n2562, ∃ c2563, ∃ c2564, m79_9_L0 N (m79_9 N fu) n2513 c2514 x2517 n x2559 c2560 n2561 n2562 c2563 c2564 = some o2607 ∧ s = ⟨[], [(0, .v (.lst false n2513 c2514)), (1, .dead), (2, .dead), (3, .ptr 3 0), (4, .ptr 5 0), (6, .dead), (7, .dead), (9, .dead), (13, .dead), (18, .v (.int .i64 x2517)), (19, .v (.int .i64 x2559)), (20, .dead), (25, .dead), (26, .dead), (27, .dead), (28, .dead), (43, .dead)], [(0, .p c2560), (1, .r [.sl false 6 0 n2561 1]), (3, .r [.sl false 4 0 n2562 1]), (4, .p c2563), (5, .r [.fn 79 [.ptr 0 0, .ptr 1 0, .ptr 3 0, .ptr 5 0]]), (6, .p c2564)], 7, []⟩) N _ ((Wk_le (.r (.k (.k (.r (.r (.r (.r (.r (.k (.r (.r (.r (.r (.r (.r (.r (.r .nil))))))))))))))))) (OLe.refl _)).trans (cmpS_ok (st' := ⟨[], [(0, .v (.lst false n2513 c2514)), (1, .dead), (2, .dead), (3, .ptr 3 0), (4, .ptr 5 0), (6, .dead), (7, .dead), (9, .dead), (13, .dead), (18, .v (.int .i64 x2517)), (19, .v (.int .i64 0)), (20, .dead), (25, .dead), (26, .dead), (27, .dead), (28, .dead), (43, .dead)], [(0, .p c2507), (1, .r [.sl false 6 0 n2508 1]), (3, .r [.sl false 4 0 n2510 1]), (4, .p c2511), (5, .r [.fn 79 [.ptr 0 0, .ptr 1 0, .ptr 3 0, .ptr 5 0]]), (6, .p c2509)], 7, []⟩) (by kernel_rfl))) ⟨_, _, _, _, _, _, h2608, rfl⟩ ?_
        clear h2608
        rintro n _ ⟨x2559, c2560, n2561, n2562, c2563, c2564, h2608, rfl⟩
        cases n with
        | zero => cases h2608
        | succ n =>
          rw [m79_9_L0] at h2608
          have hh := brn_some h2608; clear h2608; rcases hh with ⟨h2565, h2608⟩ | ⟨h2565, h2608⟩
          · have hh := bnd'_some h2608; clear h2608; obtain ⟨p2566, h2567, h2608⟩ := hh
            refine W_sound tab_ok mixed 18 _ _ _ ?_
            simp -implicitDefEqProofs only [go_sem, qa, qb, qc, qd, qe, qf, qg, qh, qi, qj, qk, ↓reduceIte, h2512, g2515, h2516, h2518, h2565]
            repeat with_reducible refine ⟨by first | kernel_rfl | decide, ?_⟩
            refine Wp_callP (c57 N _ _ _ h2567) (by kernel_rfl) rfl rfl rfl rfl (by decide) ?_
            have hh := getB_some h2608; clear h2608; obtain ⟨b2569, h2568, h2608⟩ := hh
            refine W_sound tab_ok mixed 9 _ _ _ ?_
            simp -implicitDefEqProofs only [go_sem, qa, qb, qc, qd, qe, qf, qg, qh, qi, qj, qk, ↓reduceIte, h2512, g2515, h2516, h2518, h2565, h2568]
            repeat with_reducible refine ⟨by first | kernel_rfl | decide, ?_⟩
            have hh := bnd'_some h2608; clear h2608; obtain ⟨o2610, h2611, h2612⟩ := hh
            refine Wp_cut (fun s => ∃ b2585, b2585 = o2610 ∧ s = ⟨[], [(0, .v (.lst false n2513 c2514)), (1, .dead), (2, .dead), (3, .ptr 3 0), (4, .ptr 5 0), (6, .v (.int .i64 x2559)), (7, .v (.bool b2585)), (9, .dead), (13, .dead), (18, .v (.int .i64 x2517)), (19, .v (.int .i64 x2559)), (20, .dead), (25, .dead), (26, .dead), (27, .dead), (28, .dead), (43, .dead)], [(0, .p c2560), (1, .r [.sl false 6 0 n2561 1]), (3, .r [.sl false 4 0 n2562 1]), (4, .p c2563), (5, .r [.fn 79 [.ptr 0 0, .ptr 1 0, .ptr 3 0, .ptr 5 0]]), (6, .p c2564)], 7, []⟩) ?_ ?_
            · refine Wp_block ?_
              refine Wp_loopG (fun n s => ∃ b2570, ∃ x2571, m79_9_L1 N (m79_9 N fu) n2513 c2514 x2517 x2559 c2560 n2561 n2562 c2563 c2564 n b2570 x2571 = some o2610 ∧ s = ⟨[], [(0, .v (.lst false n2513 c2514)), (1, .dead), (2, .dead), (3, .ptr 3 0), (4, .ptr 5 0), (6, .v (.int .i64 x2559)), (7, .v (.bool b2570)), (9, .dead), (13, .dead), (18, .v (.int .i64 x2517)), (19, .v (.int .i64 x2559)), (20, .dead), (25, .sl false 4 0 n2562 1), (26, .v (.int .i64 ((n2562 : Nat) : Int))), (27, .v (.int .i64 x2571)), (28, .dead), (43, .dead)], [(0, .p c2560), (1, .r [.sl false 6 0 n2561 1]), (3, .r [.sl false 4 0 n2562 1]), (4, .p c2563), (5, .r [.fn 79 [.ptr 0 0, .ptr 1 0, .ptr 3 0, .ptr 5 0]]), (6, .p c2564)], 7, []⟩) N _ ((Wk_le (.r (.r (.r (.r (.r (.r (.r (.r (.r (.r (.r (.k (.r (.r (.r (.r (.r .nil))))))))))))))))) (OLe.refl _)).trans (cmpS_ok (st' := ⟨[], [(0, .v (.lst false n2513 c2514)), (1, .dead), (2, .dead), (3, .ptr 3 0), (4, .ptr 5 0), (6, .v (.int .i64 x2559)), (7, .v (.bool b2569)), (9, .dead), (13, .dead), (18, .v (.int .i64 x2517)), (19, .v (.int .i64 x2559)), (20, .dead), (25, .sl false 4 0 n2562 1), (26, .v (.int .i64 ((n2562 : Nat) : Int))), (27, .v (.int .i64 0)), (28, .dead), (43, .dead)], [(0, .p c2560), (1, .r [.sl false 6 0 n2561 1]), (3, .r [.sl false 4 0 n2562 1]), (4, .p c2563), (5, .r [.fn 79 [.ptr 0 0, .ptr 1 0, .ptr 3 0, .ptr 5 0]]), (6, .p c2564)], 7, []⟩) (by kernel_rfl))) ⟨_, _, h2611, rfl⟩ ?_
              clear h2611
              rintro n _ ⟨b2570, x2571, h2611, rfl⟩
              cases n with
              | zero => cases h2611
              | succ n =>
                rw [m79_9_L1] at h2611
                have hh := brn_some h2611; clear h2611; rcases hh with ⟨h2572, h2611⟩ | ⟨h2572, h2611⟩
                · have hh := grd_some h2611; clear h2611; obtain ⟨⟨g2573, g2574⟩, h2611⟩ := hh
                  have hh := grd_some h2611; clear h2611; obtain ⟨g2575, h2611⟩ := hh
                  have hh := getL_some h2611; clear h2611; obtain ⟨n2577, c2578, h2576, h2611⟩ := hh
                  have hh := brn_some h2611; clear h2611; rcases hh with ⟨h2579, h2611⟩ | ⟨h2579, h2611⟩
                  · refine W_sound tab_ok mixed 33 _ _ _ ?_
                    simp -implicitDefEqProofs only [go_sem, qa, qb, qc, qd, qe, qf, qg, qh, qi, qj, qk, ↓reduceIte, h2512, g2515, h2516, h2518, h2565, h2568, h2572, g2573, g2574, g2575, h2576, h2579]
                    repeat with_reducible refine ⟨by first | kernel_rfl | decide, ?_⟩
                    exact cutQ _ ((Wk_le (.r (.r (.r (.r (.r (.r (.r (.k (.r (.r (.r (.r (.r (.r (.r (.k (.r .nil))))))))))))))))) (OLe.refl _)).trans (cmpS_ok (st' := ⟨[], [(0, .v (.lst false n2513 c2514)), (1, .dead), (2, .dead), (3, .ptr 3 0), (4, .ptr 5 0), (6, .v (.int .i64 x2559)), (7, .v (.bool true)), (9, .dead), (13, .dead), (18, .v (.int .i64 x2517)), (19, .v (.int .i64 x2559)), (20, .dead), (25, .sl false 4 0 n2562 1), (26, .v (.int .i64 ((n2562 : Nat) : Int))), (27, .v (.int .i64 (IntKind.i64.wrap (x2571 + 1)))), (28, .dead), (43, .dead)], [(0, .p c2560), (1, .r [.sl false 6 0 n2561 1]), (3, .r [.sl false 4 0 n2562 1]), (4, .p c2563), (5, .r [.fn 79 [.ptr 0 0, .ptr 1 0, .ptr 3 0, .ptr 5 0]]), (6, .p c2564)], 7, []⟩) (by kernel_rfl))) ⟨n, Nat.lt_succ_self n, _, _, h2611, rfl⟩
                  · have hh := grd_some h2611; clear h2611; obtain ⟨⟨g2580, g2581⟩, h2611⟩ := hh
                    have hh := grd_some h2611; clear h2611; obtain ⟨g2582, h2611⟩ := hh
                    have hh := getI_some h2611; clear h2611; obtain ⟨x2584, h2583, h2611⟩ := hh
                    refine W_sound tab_ok mixed 33 _ _ _ ?_
                    simp -implicitDefEqProofs only [go_sem, qa, qb, qc, qd, qe, qf, qg, qh, qi, qj, qk, ↓reduceIte, h2512, g2515, h2516, h2518, h2565, h2568, h2572, g2573, g2574, g2575, h2576, h2579, g2580, g2581, g2582, h2583]
                    repeat with_reducible refine ⟨by first | kernel_rfl | decide, ?_⟩
                    exact cutQ _ ((Wk_le (.r (.r (.r (.r (.r (.r (.r (.k (.r (.r (.r (.r (.r (.r (.r (.k (.r .nil))))))))))))))))) (OLe.refl _)).trans (cmpS_ok (st' := ⟨[], [(0, .v (.lst false n2513 c2514)), (1, .dead), (2, .dead), (3, .ptr 3 0), (4, .ptr 5 0), (6, .v (.int .i64 x2559)), (7, .v (.bool (x2584 == x2559))), (9, .dead), (13, .dead), (18, .v (.int .i64 x2517)), (19, .v (.int .i64 x2559)), (20, .dead), (25, .sl false 4 0 n2562 1), (26, .v (.int .i64 ((n2562 : Nat) : Int))), (27, .v (.int .i64 (IntKind.i64.wrap (x2571 + 1)))), (28, .dead), (43, .dead)], [(0, .p c2560), (1, .r [.sl false 6 0 n2561 1]), (3, .r [.sl false 4 0 n2562 1]), (4, .p c2563), (5, .r [.fn 79 [.ptr 0 0, .ptr 1 0, .ptr 3 0, .ptr 5 0]]), (6, .p c2564)], 7, []⟩) (by kernel_rfl))) ⟨n, Nat.lt_succ_self n, _, _, h2611, rfl⟩
                · refine W_sound tab_ok mixed 7 _ _ _ ?_
                  simp -implicitDefEqProofs only [go_sem, qa, qb, qc, qd, qe, qf, qg, qh, qi, qj, qk, ↓reduceIte, h2512, g2515, h2516, h2518, h2565, h2568, h2572]
                  repeat with_reducible refine ⟨by first | kernel_rfl | decide, ?_⟩
                  obtain rfl := Option.some.inj h2611
                  exact cutQ _ ((Wk_le (.r (.r (.r (.r (.r (.r (.r (.r (.r (.r (.r (.r (.k (.k (.k (.k (.r .nil))))))))))))))))) (OLe.refl _)).trans (cmpS_ok (st' := ⟨[], [(0, .v (.lst false n2513 c2514)), (1, .dead), (2, .dead), (3, .ptr 3 0), (4, .ptr 5 0), (6, .v (.int .i64 x2559)), (7, .v (.bool b2570)), (9, .dead), (13, .dead), (18, .v (.int .i64 x2517)), (19, .v (.int .i64 x2559)), (20, .dead), (25, .dead), (26, .dead), (27, .dead), (28, .dead), (43, .dead)], [(0, .p c2560), (1, .r [.sl false 6 0 n2561 1]), (3, .r [.sl false 4 0 n2562 1]), (4, .p c2563), (5, .r [.fn 79 [.ptr 0 0, .ptr 1 0, .ptr 3 0, .ptr 5 0]]), (6, .p c2564)], 7, []⟩) (by kernel_rfl))) ⟨_, rfl, rfl⟩
            · rintro _ ⟨b2585, rfl, rfl⟩
              have hh := brn_some h2612; clear h2612; rcases hh with ⟨h2586, h2612⟩ | ⟨h2586, h2612⟩
              · refine W_sound tab_ok mixed 12 _ _ _ ?_
                simp -implicitDefEqProofs only [go_sem, qa, qb, qc, qd, qe, qf, qg, qh, qi, qj, qk, ↓reduceIte, h2512, g2515, h2516, h2518, h2565, h2568, h2586]
                repeat with_reducible refine ⟨by first | kernel_rfl | decide, ?_⟩
                exact cutQ _ ((Wk_le (.r (.r (.r (.r (.r (.k (.k (.r (.r (.r (.r (.r (.r (.r (.r (.r (.k .nil))))))))))))))))) (OLe.refl _)).trans (cmpS_ok (st' := ⟨[], [(0, .v (.lst false n2513 c2514)), (1, .dead), (2, .dead), (3, .ptr 3 0), (4, .ptr 5 0), (6, .dead), (7, .dead), (9, .dead), (13, .dead), (18, .v (.int .i64 x2517)), (19, .v (.int .i64 (IntKind.i64.wrap (x2559 + 1)))), (20, .dead), (25, .dead), (26, .dead), (27, .dead), (28, .dead), (43, .dead)], [(0, .p c2560), (1, .r [.sl false 6 0 n2561 1]), (3, .r [.sl false 4 0 n2562 1]), (4, .p c2563), (5, .r [.fn 79 [.ptr 0 0, .ptr 1 0, .ptr 3 0, .ptr 5 0]]), (6, .p c2564)], 7, []⟩) (by kernel_rfl))) ⟨n, Nat.lt_succ_self n, _, _, _, _, _, _, h2612, rfl⟩
              · have hh := grd_some h2612; clear h2612; obtain ⟨⟨g2587, g2588⟩, h2612⟩ := hh
                have hh := grd_some h2612; clear h2612; obtain ⟨g2589, h2612⟩ := hh
                have hh := grd_some h2612; clear h2612; obtain ⟨g2590, h2612⟩ := hh
                have hh := bnd'_some h2612; clear h2612; obtain ⟨⟨c2592, n2593, n2594, c2595, c2596⟩, h2591, h2612⟩ := hh
                (try dsimp only at h2612)
                refine W_sound tab_ok mixed 17 _ _ _ ?_
                simp -implicitDefEqProofs only [go_sem, qa, qb, qc, qd, qe, qf, qg, qh, qi, qj, qk, ↓reduceIte, h2512, g2515, h2516, h2518, h2565, h2568, h2586, g2587, g2588, g2589, g2590]
                repeat with_reducible refine ⟨by first | kernel_rfl | decide, ?_⟩
                refine Wp_callDF [(60, (c2514 ++ [(.int .i64 x2559)]))] [0, 1, 6, 3, 4, 5] (ih _ _ _ _ _ _ _ h2591) rfl rfl rfl (by first | rfl | (simp only [go_sem, qa, qb, qc, qd, qe, qf, qg, qh, qi, qj, qk, ↓reduceIte, h2512, g2515, h2516, h2518, h2565, h2568, h2586, g2587, g2588, g2589, g2590] <;> rfl)) rfl (by kernel_rfl) rfl rfl (by simp [roF, obL]) ?_
                refine W_sound tab_ok mixed 6 _ _ _ ?_
                simp -implicitDefEqProofs only [go_sem, qa, qb, qc, qd, qe, qf, qg, qh, qi, qj, qk, ↓reduceIte, h2512, g2515, h2516, h2518, h2565, h2568, h2586, g2587, g2588, g2589, g2590]
                repeat with_reducible refine ⟨by first | kernel_rfl | decide, ?_⟩
                exact cutQ _ ((Wk_le (.r (.r (.r (.r (.r (.k (.k (.r (.r (.r (.r (.r (.r (.r (.r (.r (.k .nil))))))))))))))))) (OLe.refl _)).trans (cmpS_ok (st' := ⟨[], [(0, .v (.lst false n2513 c2514)), (1, .dead), (2, .dead), (3, .ptr 3 0), (4, .ptr 5 0), (6, .dead), (7, .dead), (9, .dead), (13, .dead), (18, .v (.int .i64 x2517)), (19, .v (.int .i64 (IntKind.i64.wrap (x2559 + 1)))), (20, .dead), (25, .dead), (26, .dead), (27, .dead), (28, .dead), (43, .dead)], [(0, .p c2592), (1, .r [.sl false 6 0 n2593 1]), (3, .r [.sl false 4 0 n2594 1]), (4, .p c2595), (5, .r [.fn 79 [.ptr 0 0, .ptr 1 0, .ptr 3 0, .ptr 5 0]]), (6, .p c2596)], 7, []⟩) (by kernel_rfl))) ⟨n, Nat.lt_succ_self n, _, _, _, _, _, _, h2612, rfl⟩
          · refine W_sound tab_ok mixed 7 _ _ _ ?_
            simp -implicitDefEqProofs only [go_sem, qa, qb, qc, qd, qe, qf, qg, qh, qi, qj, qk, ↓reduceIte, h2512, g2515, h2516, h2518, h2565]
            repeat with_reducible refine ⟨by first | kernel_rfl | decide, ?_⟩
            obtain rfl := Option.some.inj h2608
            exact cutQ _ ((Wk_le (.k (.r (.r (.k (.k (.r (.r (.r (.r (.k (.k (.k (.r (.r (.r (.r (.r .nil))))))))))))))))) (OLe.refl _)).trans (cmpS_ok (st' := ⟨[], [(0, .dead), (1, .dead), (2, .dead), (3, .dead), (4, .dead), (6, .dead), (7, .dead), (9, .dead), (13, .dead), (18, .dead), (19, .dead), (20, .dead), (25, .dead), (26, .dead), (27, .dead), (28, .dead), (43, .dead)], [(0, .p c2560), (1, .r [.sl false 6 0 n2561 1]), (3, .r [.sl false 4 0 n2562 1]), (4, .p c2563), (5, .r [.fn 79 [.ptr 0 0, .ptr 1 0, .ptr 3 0, .ptr 5 0]]), (6, .p c2564)], 7, []⟩) (by kernel_rfl))) ⟨_, _, _, _, _, rfl, rfl⟩
      · rintro _ ⟨c2597, n2598, n2599, c2600, c2601, rfl, rfl⟩
        (try dsimp only at h2609)
        refine W_sound tab_ok mixed 1 _ _ _ ?_
        simp -implicitDefEqProofs only [go_sem, qa, qb, qc, qd, qe, qf, qg, qh, qi, qj, qk, ↓reduceIte, h2512, g2515, h2516, h2518]
        repeat with_reducible refine ⟨by first | kernel_rfl | decide, ?_⟩
        obtain rfl := Option.some.inj h2609
        exact finD (e2 := [(0, .dead), (1, .dead), (2, .dead), (3, .dead), (4, .dead), (6, .dead), (7, .dead), (9, .dead), (13, .dead), (18, .dead), (19, .dead), (20, .dead), (25, .dead), (26, .dead), (27, .dead), (28, .dead), (43, .dead)]) (ob2 := [(0, .p c2597), (1, .r [.sl false 6 0 n2598 1]), (3, .r [.sl false 4 0 n2599 1]), (4, .p c2600), (5, .r [.fn 79 [.ptr 0 0, .ptr 1 0, .ptr 3 0, .ptr 5 0]]), (6, .p c2601)]) (st' := ⟨[], [(0, .dead), (1, .dead), (2, .dead), (3, .dead), (4, .dead), (6, .dead), (7, .dead), (9, .dead), (13, .dead), (18, .dead), (19, .dead), (20, .dead), (25, .dead), (26, .dead), (27, .dead), (28, .dead), (43, .dead)], [(0, .p c2597), (1, .r [.sl false 6 0 n2598 1]), (3, .r [.sl false 4 0 n2599 1]), (4, .p c2600), (5, .r [.fn 79 [.ptr 0 0, .ptr 1 0, .ptr 3 0, .ptr 5 0]]), (6, .p c2601)], 7, []⟩) (.r (.r (.r (.r (.r (.r (.r (.r (.r (.r (.r (.r (.r (.r (.r (.r (.r .nil))))))))))))))))) (.cons _ _ _ _ _ (DLes.refl _) (.cons _ _ _ _ _ (DLes.refl _) (.cons _ _ _ _ _ (DLes.refl _) (.cons _ _ _ _ _ (DLes.refl _) (.cons _ _ _ _ _ (DLes.refl _) (.cons _ _ _ _ _ (DLes.refl _) .nil)))))) (by kernel_rfl) (by simp only [go_sem, qa, qb, qc, qd, qe, qf, qg, qh, qi, qj, qk, ↓reduceIte, resQ_tmp, resQ_cell, resQ_nil, retD_one, retD_two, retD_three, retD_none] <;> first | rfl | exact ⟨rfl, rfl⟩ | (try simp [R.val, retD_one, retD_two, retD_three, retD_none]))
theorem c79_9_a (N : Nat) (fu : Nat) (p2506 : PV) (c2507 : List PV) (n2508 : Nat) (c2509 : List PV) (n2510 : Nat) (c2511 : List PV) (c2420 : List PV) (n2421 : Nat) (n2422 : Nat) (c2423 : List PV) (c2424 : List PV) (h : m79_9 N fu p2506 c2507 n2508 c2509 n2510 c2511 = some (c2420, n2421, n2422, c2423, c2424)) : V.Fn Tryd.prog 79 6 [.v p2506, .ptr 0 0, .ptr 1 0, .ptr 3 0, .ptr 5 0] [(0, .p c2507), (1, .r [.sl false 2 0 n2508 1]), (2, .p c2509), (3, .r [.sl false 4 0 n2510 1]), (4, .p c2511), (5, .r [.fn 79 [.ptr 0 0, .ptr 1 0, .ptr 3 0, .ptr 5 0]])] (fun d ob' => d = .v (.tup []) ∧ ob' = [(0, .p c2420), (1, .r [.sl false 6 0 n2421 1]), (3, .r [.sl false 4 0 n2422 1]), (4, .p c2423), (5, .r [.fn 79 [.ptr 0 0, .ptr 1 0, .ptr 3 0, .ptr 5 0]]), (6, .p c2424)]) := c79_9 N fu p2506 c2507 n2508 c2509 n2510 c2511 _ h
def m79_7_L1 (N : Nat) (x2299 : Int) (x2742 : Int) (c2743 : List PV) (n2744 : Nat) (n2745 : Nat) (c2746 : List PV) (c2747 : List PV) : Nat → Bool → Int → Option (Bool)
  | 0, _, _ => none
  | n + 1, b2753, x2754 =>
    brn (decide (x2754 < ((n2745 : Nat) : Int))) (
      grd (0 ≤ x2754 ∧ x2754 < ((n2745 : Nat) : Int)) <|
      grd ((Int.toNat x2754) < List.length c2746) <|
      getL (gp c2746 (Int.toNat x2754)) fun n2760 c2761 =>
      brn b2753 (
        m79_7_L1 N x2299 x2742 c2743 n2744 n2745 c2746 c2747 n true (IntKind.i64.wrap (x2754 + 1))) (
        grd (0 < ((n2760 : Nat) : Int)) <|
        grd (0 < List.length c2761) <|
        getI .i64 (gp c2761 0) fun x2766 =>
        m79_7_L1 N x2299 x2742 c2743 n2744 n2745 c2746 c2747 n (x2766 == x2742) (IntKind.i64.wrap (x2754 + 1)))) (
      some b2753)
def m79_7_L0 (N : Nat) (x2299 : Int) : Nat → Int → List PV → Nat → Nat → List PV → List PV → Option ((List PV × Nat × Nat × List PV × List PV))
  | 0, _, _, _, _, _, _ => none
  | n + 1, x2742, c2743, n2744, n2745, c2746, c2747 =>
    brn (decide (x2742 < x2299)) (
      bnd' (m57 N (.lst false 0 []) x2742) fun p2749 =>
      getB p2749 fun b2752 =>
      bnd' (m79_7_L1 N x2299 x2742 c2743 n2744 n2745 c2746 c2747 N b2752 0) fun b2767 =>
      brn b2767 (
        m79_7_L0 N x2299 n (IntKind.i64.wrap (x2742 + 1)) c2743 n2744 n2745 c2746 c2747) (
        bnd' (m79_9 N N (.lst false 1 [(.int .i64 x2742)]) c2743 n2744 c2747 n2745 c2746) fun o =>
        match o with
        | (c2770, n2771, n2772, c2773, c2774) =>
          m79_7_L0 N x2299 n (IntKind.i64.wrap (x2742 + 1)) c2770 n2771 n2772 c2773 c2774)) (
      some (c2743, n2744, n2745, c2746, c2747))
def m79_7 (N : Nat) (x2299 : Int) (n2300 : Nat) (c2301 : List PV) : Option (((List PV × Nat × List PV × List PV) ⊕ (List PV × Nat × Nat × List PV × List PV))) :=
  brn (0 == x2299) (
    some (.inl ([(.int .i64 x2299)], n2300, c2301, [(.lst false 0 [])]))) (
    bnd' (m79_7_L0 N x2299 N 0 [(.int .i64 x2299)] 0 n2300 c2301 []) fun o =>
    match o with
    | (c2775, n2776, n2777, c2778, c2779) =>
      some (.inr (c2775, n2776, n2777, c2778, c2779)))
theorem c79_7 (N : Nat) (x2299 : Int) (n2300 : Nat) (c2301 : List PV) (r : ((List PV × Nat × List PV × List PV) ⊕ (List PV × Nat × Nat × List PV × List PV)))  (h : m79_7 N x2299 n2300 c2301 = some r) : V.Fn Tryd.prog 79 6 [.v .nl, .ptr 0 0, .ptr 1 0, .ptr 3 0, .ptr 5 0] [(0, .p [(.int .i64 x2299)]), (1, .r [.sl false 2 0 0 1]), (2, .p []), (3, .r [.sl false 4 0 n2300 1]), (4, .p c2301), (5, .r [.fn 79 [.ptr 0 0, .ptr 1 0, .ptr 3 0, .ptr 5 0]])] (fun d ob' => match (generalizing := false) r with | .inl (c2303, n2304, c2305, c2306) => d = .v (.tup []) ∧ ob' = [(0, .p c2303), (1, .r [.sl false 6 0 1 1]), (3, .r [.sl false 4 0 n2304 1]), (4, .p c2305), (5, .r [.fn 79 [.ptr 0 0, .ptr 1 0, .ptr 3 0, .ptr 5 0]]), (6, .p c2306)] | .inr (c2780, n2781, n2782, c2783, c2784) => d = .v (.tup []) ∧ ob' = [(0, .p c2780), (1, .r [.sl false 6 0 n2781 1]), (3, .r [.sl false 4 0 n2782 1]), (4, .p c2783), (5, .r [.fn 79 [.ptr 0 0, .ptr 1 0, .ptr 3 0, .ptr 5 0]]), (6, .p c2784)]) := by
  unfold m79_7 at h
  refine Fn_of (sz := 56) tab_ok [0, 1, 2, 3, 4, 6, 7, 9, 13, 18, 19, 20, 25, 26, 27, 28, 43] [] Tryd.func79 rfl rfl rfl (by simp) ?_
  simp only [initSt, initEnv, List.map_cons, List.map_nil, List.getD_cons_zero, List.getD_cons_succ, List.getD_nil]
  refine Wp_wkK (cmpT_ok (st' := ⟨[], [(0, .v .nl), (1, .ptr 0 0), (2, .ptr 1 0), (3, .ptr 3 0), (4, .ptr 5 0), (6, .dead), (7, .dead), (9, .dead), (13, .dead), (18, .dead), (19, .dead), (20, .dead), (25, .dead), (26, .dead), (27, .dead), (28, .dead), (43, .dead)], [(0, .p [(.int .i64 x2299)]), (1, .r [.sl false 6 0 0 1]), (3, .r [.sl false 4 0 n2300 1]), (4, .p c2301), (5, .r [.fn 79 [.ptr 0 0, .ptr 1 0, .ptr 3 0, .ptr 5 0]]), (6, .p [])], 7, []⟩) [0, 1, 1000000002, 3, 4, 5, 2] (by kernel_rfl)) rfl ?_
  have hh := brn_some h; clear h; rcases hh with ⟨h2302, h⟩ | ⟨h2302, h⟩
  · refine W_sound tab_ok mixed 19 _ _ _ ?_
    simp -implicitDefEqProofs only [go_sem, qa, qb, qc, qd, qe, qf, qg, qh, qi, qj, qk, ↓reduceIte, h2302]
    repeat with_reducible refine ⟨by first | kernel_rfl | decide, ?_⟩
    obtain rfl := Option.some.inj h
    exact finD (e2 := [(0, .dead), (1, .dead), (2, .dead), (3, .dead), (4, .dead), (6, .dead), (7, .dead), (9, .dead), (13, .dead), (18, .dead), (19, .dead), (20, .dead), (25, .dead), (26, .dead), (27, .dead), (28, .dead), (43, .dead)]) (ob2 := [(0, .p [(.int .i64 x2299)]), (1, .r [.sl false 24 0 1 1]), (3, .r [.sl false 4 0 n2300 1]), (4, .p c2301), (5, .r [.fn 79 [.ptr 0 0, .ptr 1 0, .ptr 3 0, .ptr 5 0]]), (23, .p [.nl]), (24, .p [(.lst false 0 [])])]) (st' := ⟨[], [(0, .dead), (1, .dead), (2, .dead), (3, .dead), (4, .dead), (6, .dead), (7, .dead), (9, .dead), (13, .dead), (18, .dead), (19, .dead), (20, .dead), (25, .dead), (26, .dead), (27, .dead), (28, .dead), (43, .dead)], [(0, .p [(.int .i64 x2299)]), (1, .r [.sl false 6 0 1 1]), (3, .r [.sl false 4 0 n2300 1]), (4, .p c2301), (5, .r [.fn 79 [.ptr 0 0, .ptr 1 0, .ptr 3 0, .ptr 5 0]]), (6, .p [(.lst false 0 [])])], 7, []⟩) (.k (.k (.k (.k (.k (.r (.r (.r (.k (.r (.r (.r (.r (.r (.r (.r (.r .nil))))))))))))))))) (.cons _ _ _ _ _ (DLes.refl _) (.cons _ _ _ _ _ (DLes.refl _) (.cons _ _ _ _ _ (DLes.refl _) (.cons _ _ _ _ _ (DLes.refl _) (.cons _ _ _ _ _ (DLes.refl _) (.cons _ _ _ _ _ (DLes.refl _) (.cons _ _ _ _ _ (DLes.of_p (.cons _ _ _ _ (.nl false) .nil)) .nil))))))) (by kernel_rfl) (by simp only [go_sem, qa, qb, qc, qd, qe, qf, qg, qh, qi, qj, qk, ↓reduceIte, resQ_tmp, resQ_cell, resQ_nil, retD_one, retD_two, retD_three, retD_none] <;> first | rfl | exact ⟨rfl, rfl⟩ | (try simp [R.val, retD_one, retD_two, retD_three, retD_none]))
  · refine W_sound tab_ok mixed 15 _ _ _ ?_
    simp -implicitDefEqProofs only [go_sem, qa, qb, qc, qd, qe, qf, qg, qh, qi, qj, qk, ↓reduceIte, h2302]
    repeat with_reducible refine ⟨by first | kernel_rfl | decide, ?_⟩
    have hh := bnd'_some h; clear h; obtain ⟨o2785, h2786, h2787⟩ := hh
    refine Wp_cut (fun s => ∃ c2775, ∃ n2776, ∃ n2777, ∃ c2778, ∃ c2779, (c2775, n2776, n2777, c2778, c2779) = o2785 ∧ s = ⟨[], [(0, .dead), (1, .dead), (2, .dead), (3, .dead), (4, .dead), (6, .dead), (7, .dead), (9, .dead), (13, .dead), (18, .dead), (19, .dead), (20, .dead), (25, .dead), (26, .dead), (27, .dead), (28, .dead), (43, .dead)], [(0, .p c2775), (1, .r [.sl false 6 0 n2776 1]), (3, .r [.sl false 4 0 n2777 1]), (4, .p c2778), (5, .r [.fn 79 [.ptr 0 0, .ptr 1 0, .ptr 3 0, .ptr 5 0]]), (6, .p c2779)], 7, []⟩) ?_ ?_
    · refine Wp_block ?_
      refine Wp_loopG (fun n s => ∃ x2742, ∃ c2743, ∃ n2744, ∃ n2745, ∃ c2746, ∃ c2747, m79_7_L0 N x2299 n x2742 c2743 n2744 n2745 c2746 c2747 = some o2785 ∧ s = ⟨[], [(0, .v .nl), (1, .dead), (2, .dead), (3, .ptr 3 0), (4, .ptr 5 0), (6, .dead), (7, .dead), (9, .dead), (13, .dead), (18, .v (.int .i64 x2299)), (19, .v (.int .i64 x2742)), (20, .dead), (25, .dead), (26, .dead), (27, .dead), (28, .dead), (43, .dead)], [(0, .p c2743), (1, .r [.sl false 6 0 n2744 1]), (3, .r [.sl false 4 0 n2745 1]), (4, .p c2746), (5, .r [.fn 79 [.ptr 0 0, .ptr 1 0, .ptr 3 0, .ptr 5 0]]), (6, .p c2747)], 7, []⟩) N _ ((Wk_le (.r (.k (.k (.r (.r (.r (.r (.r (.k (.r (.r (.r (.r (.r (.r (.r (.r .nil))))))))))))))))) (OLe.refl _)).trans (cmpS_ok (st' := ⟨[], [(0, .v .nl), (1, .dead), (2, .dead), (3, .ptr 3 0), (4, .ptr 5 0), (6, .dead), (7, .dead), (9, .dead), (13, .dead), (18, .v (.int .i64 x2299)), (19, .v (.int .i64 0)), (20, .dead), (25, .dead), (26, .dead), (27, .dead), (28, .dead), (43, .dead)], [(0, .p [(.int .i64 x2299)]), (1, .r [.sl false 6 0 0 1]), (3, .r [.sl false 4 0 n2300 1]), (4, .p c2301), (5, .r [.fn 79 [.ptr 0 0, .ptr 1 0, .ptr 3 0, .ptr 5 0]]), (6, .p [])], 7, []⟩) (by kernel_rfl))) ⟨_, _, _, _, _, _, h2786, rfl⟩ ?_
      clear h2786
      rintro n _ ⟨x2742, c2743, n2744, n2745, c2746, c2747, h2786, rfl⟩
      cases n with
      | zero => cases h2786
      | succ n =>
        rw [m79_7_L0] at h2786
        have hh := brn_some h2786; clear h2786; rcases hh with ⟨h2748, h2786⟩ | ⟨h2748, h2786⟩
        · have hh := bnd'_some h2786; clear h2786; obtain ⟨p2749, h2750, h2786⟩ := hh
          refine W_sound tab_ok mixed 18 _ _ _ ?_
          simp -implicitDefEqProofs only [go_sem, qa, qb, qc, qd, qe, qf, qg, qh, qi, qj, qk, ↓reduceIte, h2302, h2748]
          repeat with_reducible refine ⟨by first | kernel_rfl | decide, ?_⟩
          refine Wp_callP (FnP_le (c57 N _ _ _ h2750) (.cons _ _ _ _ (.nl false) (.cons _ _ _ _ (.refl _) .nil)) (.refl _)) (by kernel_rfl) rfl rfl rfl rfl (by decide) ?_
          have hh := getB_some h2786; clear h2786; obtain ⟨b2752, h2751, h2786⟩ := hh
          refine W_sound tab_ok mixed 9 _ _ _ ?_
          simp -implicitDefEqProofs only [go_sem, qa, qb, qc, qd, qe, qf, qg, qh, qi, qj, qk, ↓reduceIte, h2302, h2748, h2751]
          repeat with_reducible refine ⟨by first | kernel_rfl | decide, ?_⟩
          have hh := bnd'_some h2786; clear h2786; obtain ⟨o2788, h2789, h2790⟩ := hh
          refine Wp_cut (fun s => ∃ b2767, b2767 = o2788 ∧ s = ⟨[], [(0, .v .nl), (1, .dead), (2, .dead), (3, .ptr 3 0), (4, .ptr 5 0), (6, .v (.int .i64 x2742)), (7, .v (.bool b2767)), (9, .dead), (13, .dead), (18, .v (.int .i64 x2299)), (19, .v (.int .i64 x2742)), (20, .dead), (25, .dead), (26, .dead), (27, .dead), (28, .dead), (43, .dead)], [(0, .p c2743), (1, .r [.sl false 6 0 n2744 1]), (3, .r [.sl false 4 0 n2745 1]), (4, .p c2746), (5, .r [.fn 79 [.ptr 0 0, .ptr 1 0, .ptr 3 0, .ptr 5 0]]), (6, .p c2747)], 7, []⟩) ?_ ?_
          · refine Wp_block ?_
            refine Wp_loopG (fun n s => ∃ b2753, ∃ x2754, m79_7_L1 N x2299 x2742 c2743 n2744 n2745 c2746 c2747 n b2753 x2754 = some o2788 ∧ s = ⟨[], [(0, .v .nl), (1, .dead), (2, .dead), (3, .ptr 3 0), (4, .ptr 5 0), (6, .v (.int .i64 x2742)), (7, .v (.bool b2753)), (9, .dead), (13, .dead), (18, .v (.int .i64 x2299)), (19, .v (.int .i64 x2742)), (20, .dead), (25, .sl false 4 0 n2745 1), (26, .v (.int .i64 ((n2745 : Nat) : Int))), (27, .v (.int .i64 x2754)), (28, .dead), (43, .dead)], [(0, .p c2743), (1, .r [.sl false 6 0 n2744 1]), (3, .r [.sl false 4 0 n2745 1]), (4, .p c2746), (5, .r [.fn 79 [.ptr 0 0, .ptr 1 0, .ptr 3 0, .ptr 5 0]]), (6, .p c2747)], 7, []⟩) N _ ((Wk_le (.r (.r (.r (.r (.r (.r (.r (.r (.r (.r (.r (.k (.r (.r (.r (.r (.r .nil))))))))))))))))) (OLe.refl _)).trans (cmpS_ok (st' := ⟨[], [(0, .v .nl), (1, .dead), (2, .dead), (3, .ptr 3 0), (4, .ptr 5 0), (6, .v (.int .i64 x2742)), (7, .v (.bool b2752)), (9, .dead), (13, .dead), (18, .v (.int .i64 x2299)), (19, .v (.int .i64 x2742)), (20, .dead), (25, .sl false 4 0 n2745 1), (26, .v (.int .i64 ((n2745 : Nat) : Int))), (27, .v (.int .i64 0)), (28, .dead), (43, .dead)], [(0, .p c2743), (1, .r [.sl false 6 0 n2744 1]), (3, .r [.sl false 4 0 n2745 1]), (4, .p c2746), (5, .r [.fn 79 [.ptr 0 0, .ptr 1 0, .ptr 3 0, .ptr 5 0]]), (6, .p c2747)], 7, []⟩) (by kernel_rfl))) ⟨_, _, h2789, rfl⟩ ?_
            clear h2789
            rintro n _ ⟨b2753, x2754, h2789, rfl⟩
            cases n with
            | zero => cases h2789
            | succ n =>
              rw [m79_7_L1] at h2789
              have hh := brn_some h2789; clear h2789; rcases hh with ⟨h2755, h2789⟩ | ⟨h2755, h2789⟩
              · have hh := grd_some h2789; clear h2789; obtain ⟨⟨g2756, g2757⟩, h2789⟩ := hh
                have hh := grd_some h2789; clear h2789; obtain ⟨g2758, h2789⟩ := hh
                have hh := getL_some h2789; clear h2789; obtain ⟨n2760, c2761, h2759, h2789⟩ := hh
                have hh := brn_some h2789; clear h2789; rcases hh with ⟨h2762, h2789⟩ | ⟨h2762, h2789⟩
                · refine W_sound tab_ok mixed 33 _ _ _ ?_
                  simp -implicitDefEqProofs only [go_sem, qa, qb, qc, qd, qe, qf, qg, qh, qi, qj, qk, ↓reduceIte, h2302, h2748, h2751, h2755, g2756, g2757, g2758, h2759, h2762]
                  repeat with_reducible refine ⟨by first | kernel_rfl | decide, ?_⟩
                  exact cutQ _ ((Wk_le (.r (.r (.r (.r (.r (.r (.r (.k (.r (.r (.r (.r (.r (.r (.r (.k (.r .nil))))))))))))))))) (OLe.refl _)).trans (cmpS_ok (st' := ⟨[], [(0, .v .nl), (1, .dead), (2, .dead), (3, .ptr 3 0), (4, .ptr 5 0), (6, .v (.int .i64 x2742)), (7, .v (.bool true)), (9, .dead), (13, .dead), (18, .v (.int .i64 x2299)), (19, .v (.int .i64 x2742)), (20, .dead), (25, .sl false 4 0 n2745 1), (26, .v (.int .i64 ((n2745 : Nat) : Int))), (27, .v (.int .i64 (IntKind.i64.wrap (x2754 + 1)))), (28, .dead), (43, .dead)], [(0, .p c2743), (1, .r [.sl false 6 0 n2744 1]), (3, .r [.sl false 4 0 n2745 1]), (4, .p c2746), (5, .r [.fn 79 [.ptr 0 0, .ptr 1 0, .ptr 3 0, .ptr 5 0]]), (6, .p c2747)], 7, []⟩) (by kernel_rfl))) ⟨n, Nat.lt_succ_self n, _, _, h2789, rfl⟩
                · have hh := grd_some h2789; clear h2789; obtain ⟨g2763, h2789⟩ := hh
                  have hh := grd_some h2789; clear h2789; obtain ⟨g2764, h2789⟩ := hh
                  have hh := getI_some h2789; clear h2789; obtain ⟨x2766, h2765, h2789⟩ := hh
                  refine W_sound tab_ok mixed 33 _ _ _ ?_
                  simp -implicitDefEqProofs only [go_sem, qa, qb, qc, qd, qe, qf, qg, qh, qi, qj, qk, ↓reduceIte, h2302, h2748, h2751, h2755, g2756, g2757, g2758, h2759, h2762, g2763, g2764, h2765]
                  repeat with_reducible refine ⟨by first | kernel_rfl | decide, ?_⟩
                  exact cutQ _ ((Wk_le (.r (.r (.r (.r (.r (.r (.r (.k (.r (.r (.r (.r (.r (.r (.r (.k (.r .nil))))))))))))))))) (OLe.refl _)).trans (cmpS_ok (st' := ⟨[], [(0, .v .nl), (1, .dead), (2, .dead), (3, .ptr 3 0), (4, .ptr 5 0), (6, .v (.int .i64 x2742)), (7, .v (.bool (x2766 == x2742))), (9, .dead), (13, .dead), (18, .v (.int .i64 x2299)), (19, .v (.int .i64 x2742)), (20, .dead), (25, .sl false 4 0 n2745 1), (26, .v (.int .i64 ((n2745 : Nat) : Int))), (27, .v (.int .i64 (IntKind.i64.wrap (x2754 + 1)))), (28, .dead), (43, .dead)], [(0, .p c2743), (1, .r [.sl false 6 0 n2744 1]), (3, .r [.sl false 4 0 n2745 1]), (4, .p c2746), (5, .r [.fn 79 [.ptr 0 0, .ptr 1 0, .ptr 3 0, .ptr 5 0]]), (6, .p c2747)], 7, []⟩) (by kernel_rfl))) ⟨n, Nat.lt_succ_self n, _, _, h2789, rfl⟩
              · refine W_sound tab_ok mixed 7 _ _ _ ?_
                simp -implicitDefEqProofs only [go_sem, qa, qb, qc, qd, qe, qf, qg, qh, qi, qj, qk, ↓reduceIte, h2302, h2748, h2751, h2755]
                repeat with_reducible refine ⟨by first | kernel_rfl | decide, ?_⟩
                obtain rfl := Option.some.inj h2789
                exact cutQ _ ((Wk_le (.r (.r (.r (.r (.r (.r (.r (.r (.r (.r (.r (.r (.k (.k (.k (.k (.r .nil))))))))))))))))) (OLe.refl _)).trans (cmpS_ok (st' := ⟨[], [(0, .v .nl), (1, .dead), (2, .dead), (3, .ptr 3 0), (4, .ptr 5 0), (6, .v (.int .i64 x2742)), (7, .v (.bool b2753)), (9, .dead), (13, .dead), (18, .v (.int .i64 x2299)), (19, .v (.int .i64 x2742)), (20, .dead), (25, .dead), (26, .dead), (27, .dead), (28, .dead), (43, .dead)], [(0, .p c2743), (1, .r [.sl false 6 0 n2744 1]), (3, .r [.sl false 4 0 n2745 1]), (4, .p c2746), (5, .r [.fn 79 [.ptr 0 0, .ptr 1 0, .ptr 3 0, .ptr 5 0]]), (6, .p c2747)], 7, []⟩) (by kernel_rfl))) ⟨_, rfl, rfl⟩
          · rintro _ ⟨b2767, rfl, rfl⟩
            have hh := brn_some h2790; clear h2790; rcases hh with ⟨h2768, h2790⟩ | ⟨h2768, h2790⟩
            · refine W_sound tab_ok mixed 12 _ _ _ ?_
              simp -implicitDefEqProofs only [go_sem, qa, qb, qc, qd, qe, qf, qg, qh, qi, qj, qk, ↓reduceIte, h2302, h2748, h2751, h2768]
              repeat with_reducible refine ⟨by first | kernel_rfl | decide, ?_⟩
              exact cutQ _ ((Wk_le (.r (.r (.r (.r (.r (.k (.k (.r (.r (.r (.r (.r (.r (.r (.r (.r (.k .nil))))))))))))))))) (OLe.refl _)).trans (cmpS_ok (st' := ⟨[], [(0, .v .nl), (1, .dead), (2, .dead), (3, .ptr 3 0), (4, .ptr 5 0), (6, .dead), (7, .dead), (9, .dead), (13, .dead), (18, .v (.int .i64 x2299)), (19, .v (.int .i64 (IntKind.i64.wrap (x2742 + 1)))), (20, .dead), (25, .dead), (26, .dead), (27, .dead), (28, .dead), (43, .dead)], [(0, .p c2743), (1, .r [.sl false 6 0 n2744 1]), (3, .r [.sl false 4 0 n2745 1]), (4, .p c2746), (5, .r [.fn 79 [.ptr 0 0, .ptr 1 0, .ptr 3 0, .ptr 5 0]]), (6, .p c2747)], 7, []⟩) (by kernel_rfl))) ⟨n, Nat.lt_succ_self n, _, _, _, _, _, _, h2790, rfl⟩
            · have hh := bnd'_some h2790; clear h2790; obtain ⟨⟨c2770, n2771, n2772, c2773, c2774⟩, h2769, h2790⟩ := hh
              (try dsimp only at h2790)
              refine W_sound tab_ok mixed 17 _ _ _ ?_
              simp -implicitDefEqProofs only [go_sem, qa, qb, qc, qd, qe, qf, qg, qh, qi, qj, qk, ↓reduceIte, h2302, h2748, h2751, h2768]
              repeat with_reducible refine ⟨by first | kernel_rfl | decide, ?_⟩
              refine Wp_callDF [(60, [(.int .i64 x2742)])] [0, 1, 6, 3, 4, 5] (c79_9_a N N _ _ _ _ _ _ _ _ _ _ _ h2769) rfl rfl rfl (by first | rfl | (simp only [go_sem, qa, qb, qc, qd, qe, qf, qg, qh, qi, qj, qk, ↓reduceIte, h2302, h2748, h2751, h2768] <;> rfl)) rfl (by kernel_rfl) rfl rfl (by simp [roF, obL]) ?_
              refine W_sound tab_ok mixed 6 _ _ _ ?_
              simp -implicitDefEqProofs only [go_sem, qa, qb, qc, qd, qe, qf, qg, qh, qi, qj, qk, ↓reduceIte, h2302, h2748, h2751, h2768]
              repeat with_reducible refine ⟨by first | kernel_rfl | decide, ?_⟩
              exact cutQ _ ((Wk_le (.r (.r (.r (.r (.r (.k (.k (.r (.r (.r (.r (.r (.r (.r (.r (.r (.k .nil))))))))))))))))) (OLe.refl _)).trans (cmpS_ok (st' := ⟨[], [(0, .v .nl), (1, .dead), (2, .dead), (3, .ptr 3 0), (4, .ptr 5 0), (6, .dead), (7, .dead), (9, .dead), (13, .dead), (18, .v (.int .i64 x2299)), (19, .v (.int .i64 (IntKind.i64.wrap (x2742 + 1)))), (20, .dead), (25, .dead), (26, .dead), (27, .dead), (28, .dead), (43, .dead)], [(0, .p c2770), (1, .r [.sl false 6 0 n2771 1]), (3, .r [.sl false 4 0 n2772 1]), (4, .p c2773), (5, .r [.fn 79 [.ptr 0 0, .ptr 1 0, .ptr 3 0, .ptr 5 0]]), (6, .p c2774)], 7, []⟩) (by kernel_rfl))) ⟨n, Nat.lt_succ_self n, _, _, _, _, _, _, h2790, rfl⟩
        · refine W_sound tab_ok mixed 7 _ _ _ ?_
          simp -implicitDefEqProofs only [go_sem, qa, qb, qc, qd, qe, qf, qg, qh, qi, qj, qk, ↓reduceIte, h2302, h2748]
          repeat with_reducible refine ⟨by first | kernel_rfl | decide, ?_⟩
          obtain rfl := Option.some.inj h2786
          exact cutQ _ ((Wk_le (.k (.r (.r (.k (.k (.r (.r (.r (.r (.k (.k (.k (.r (.r (.r (.r (.r .nil))))))))))))))))) (OLe.refl _)).trans (cmpS_ok (st' := ⟨[], [(0, .dead), (1, .dead), (2, .dead), (3, .dead), (4, .dead), (6, .dead), (7, .dead), (9, .dead), (13, .dead), (18, .dead), (19, .dead), (20, .dead), (25, .dead), (26, .dead), (27, .dead), (28, .dead), (43, .dead)], [(0, .p c2743), (1, .r [.sl false 6 0 n2744 1]), (3, .r [.sl false 4 0 n2745 1]), (4, .p c2746), (5, .r [.fn 79 [.ptr 0 0, .ptr 1 0, .ptr 3 0, .ptr 5 0]]), (6, .p c2747)], 7, []⟩) (by kernel_rfl))) ⟨_, _, _, _, _, rfl, rfl⟩
    · rintro _ ⟨c2775, n2776, n2777, c2778, c2779, rfl, rfl⟩
      (try dsimp only at h2787)
      refine W_sound tab_ok mixed 1 _ _ _ ?_
      simp -implicitDefEqProofs only [go_sem, qa, qb, qc, qd, qe, qf, qg, qh, qi, qj, qk, ↓reduceIte, h2302]
      repeat with_reducible refine ⟨by first | kernel_rfl | decide, ?_⟩
      obtain rfl := Option.some.inj h2787
      exact finD (e2 := [(0, .dead), (1, .dead), (2, .dead), (3, .dead), (4, .dead), (6, .dead), (7, .dead), (9, .dead), (13, .dead), (18, .dead), (19, .dead), (20, .dead), (25, .dead), (26, .dead), (27, .dead), (28, .dead), (43, .dead)]) (ob2 := [(0, .p c2775), (1, .r [.sl false 6 0 n2776 1]), (3, .r [.sl false 4 0 n2777 1]), (4, .p c2778), (5, .r [.fn 79 [.ptr 0 0, .ptr 1 0, .ptr 3 0, .ptr 5 0]]), (6, .p c2779)]) (st' := ⟨[], [(0, .dead), (1, .dead), (2, .dead), (3, .dead), (4, .dead), (6, .dead), (7, .dead), (9, .dead), (13, .dead), (18, .dead), (19, .dead), (20, .dead), (25, .dead), (26, .dead), (27, .dead), (28, .dead), (43, .dead)], [(0, .p c2775), (1, .r [.sl false 6 0 n2776 1]), (3, .r [.sl false 4 0 n2777 1]), (4, .p c2778), (5, .r [.fn 79 [.ptr 0 0, .ptr 1 0, .ptr 3 0, .ptr 5 0]]), (6, .p c2779)], 7, []⟩) (.r (.r (.r (.r (.r (.r (.r (.r (.r (.r (.r (.r (.r (.r (.r (.r (.r .nil))))))))))))))))) (.cons _ _ _ _ _ (DLes.refl _) (.cons _ _ _ _ _ (DLes.refl _) (.cons _ _ _ _ _ (DLes.refl _) (.cons _ _ _ _ _ (DLes.refl _) (.cons _ _ _ _ _ (DLes.refl _) (.cons _ _ _ _ _ (DLes.refl _) .nil)))))) (by kernel_rfl) (by simp only [go_sem, qa, qb, qc, qd, qe, qf, qg, qh, qi, qj, qk, ↓reduceIte, resQ_tmp, resQ_cell, resQ_nil, retD_one, retD_two, retD_three, retD_none] <;> first | rfl | exact ⟨rfl, rfl⟩ | (try simp [R.val, retD_one, retD_two, retD_three, retD_none]))
theorem c79_7_a (N : Nat) (x2299 : Int) (n2300 : Nat) (c2301 : List PV) (c2303 : List PV) (n2304 : Nat) (c2305 : List PV) (c2306 : List PV) (h : m79_7 N x2299 n2300 c2301 = some (.inl (c2303, n2304, c2305, c2306))) : V.Fn Tryd.prog 79 6 [.v .nl, .ptr 0 0, .ptr 1 0, .ptr 3 0, .ptr 5 0] [(0, .p [(.int .i64 x2299)]), (1, .r [.sl false 2 0 0 1]), (2, .p []), (3, .r [.sl false 4 0 n2300 1]), (4, .p c2301), (5, .r [.fn 79 [.ptr 0 0, .ptr 1 0, .ptr 3 0, .ptr 5 0]])] (fun d ob' => d = .v (.tup []) ∧ ob' = [(0, .p c2303), (1, .r [.sl false 6 0 1 1]), (3, .r [.sl false 4 0 n2304 1]), (4, .p c2305), (5, .r [.fn 79 [.ptr 0 0, .ptr 1 0, .ptr 3 0, .ptr 5 0]]), (6, .p c2306)]) := c79_7 N x2299 n2300 c2301 _ h
theorem c79_7_b (N : Nat) (x2299 : Int) (n2300 : Nat) (c2301 : List PV) (c2780 : List PV) (n2781 : Nat) (n2782 : Nat) (c2783 : List PV) (c2784 : List PV) (h : m79_7 N x2299 n2300 c2301 = some (.inr (c2780, n2781, n2782, c2783, c2784))) : V.Fn Tryd.prog 79 6 [.v .nl, .ptr 0 0, .ptr 1 0, .ptr 3 0, .ptr 5 0] [(0, .p [(.int .i64 x2299)]), (1, .r [.sl false 2 0 0 1]), (2, .p []), (3, .r [.sl false 4 0 n2300 1]), (4, .p c2301), (5, .r [.fn 79 [.ptr 0 0, .ptr 1 0, .ptr 3 0, .ptr 5 0]])] (fun d ob' => d = .v (.tup []) ∧ ob' = [(0, .p c2780), (1, .r [.sl false 6 0 n2781 1]), (3, .r [.sl false 4 0 n2782 1]), (4, .p c2783), (5, .r [.fn 79 [.ptr 0 0, .ptr 1 0, .ptr 3 0, .ptr 5 0]]), (6, .p c2784)]) := c79_7 N x2299 n2300 c2301 _ h
def m38_3 (N : Nat) (x2804 : Int) (n2805 : Nat) (c2806 : List PV) : Option ((PV × List PV)) :=
  bnd' (m79_7 N x2804 n2805 c2806) fun o =>
  match o with
  | .inl (c2809, n2810, c2811, c2812) =>
    grd (List.length c2812 = 1) <|
    some ((.lst false 1 c2812), c2811)
  | .inr (c2814, n2815, n2816, c2817, c2818) =>
    grd (List.length c2818 = n2815) <|
    some ((.lst false n2815 c2818), c2817)
theorem c38_3 (N : Nat) (x2804 : Int) (n2805 : Nat) (c2806 : List PV) (r : PV) (c2821 : List PV) (h : m38_3 N x2804 n2805 c2806 = some (r, c2821)) : V.Fn Tryd.prog 38 1 [.v (.int .i64 x2804), .sl false 0 0 n2805 1] [(0, .p c2806)] (fun d ob' => d = .v r ∧ ob' = [(0, .p c2821)]) := by
  unfold m38_3 at h
  refine Fn_of (sz := 11) tab_ok [0, 1, 2, 3, 4, 5, 6] [.tmp 4] Tryd.func38 rfl rfl rfl (by simp) ?_
  simp only [initSt, initEnv, List.map_cons, List.map_nil, List.getD_cons_zero, List.getD_cons_succ, List.getD_nil]
  refine W_sound tab_ok mixed 20 _ _ _ ?_
  simp -implicitDefEqProofs only [go_sem, qa, qb, qc, qd, qe, qf, qg, qh, qi, qj, qk, ↓reduceIte]
  repeat with_reducible refine ⟨by first | kernel_rfl | decide, ?_⟩
  refine Wp_wkK (Wk_ownC 10 0 1 rfl rfl (by decide) (by decide)) rfl ?_
  simp -implicitDefEqProofs only [go_sem, qa, qb, qc, qd, qe, qf, qg, qh, qi, qj, qk, ↓reduceIte, setO]
  have hh := bnd'_some h; clear h; obtain ⟨oo, h2808, h⟩ := hh
  rcases oo with ⟨c2809, n2810, c2811, c2812⟩ | ⟨c2814, n2815, n2816, c2817, c2818⟩
  · (try dsimp only at h)
    refine W_sound tab_ok mixed 2 _ _ _ ?_
    simp -implicitDefEqProofs only [go_sem, qa, qb, qc, qd, qe, qf, qg, qh, qi, qj, qk, ↓reduceIte]
    repeat with_reducible refine ⟨by first | kernel_rfl | decide, ?_⟩
    refine Wp_callD [3, 10, 18, 4, 0, 17] (c79_7_a N _ _ _ _ _ _ _ h2808) rfl rfl rfl (by first | rfl | (simp only [go_sem, qa, qb, qc, qd, qe, qf, qg, qh, qi, qj, qk, ↓reduceIte] <;> rfl)) rfl (by kernel_rfl) ?_
    refine W_sound tab_ok mixed 8 _ _ _ ?_
    simp -implicitDefEqProofs only [go_sem, qa, qb, qc, qd, qe, qf, qg, qh, qi, qj, qk, ↓reduceIte]
    repeat with_reducible refine ⟨by first | kernel_rfl | decide, ?_⟩
    have hh := grd_some h; clear h; obtain ⟨g2813, h⟩ := hh
    refine FinQ_wk (Wk_freeze 28 c2812 (by rfl) (by decide) (by decide)) ?_
    simp -implicitDefEqProofs only [go_sem, qa, qb, qc, qd, qe, qf, qg, qh, qi, qj, qk, ↓reduceIte, g2813]
    simp only [Option.some.injEq, Prod.mk.injEq] at h; obtain ⟨rfl, rfl⟩ := h
    exact finD (e2 := [(0, .dead), (1, .dead), (2, .dead), (3, .dead), (4, .v (.lst false 1 c2812)), (5, .dead), (6, .dead)]) (ob2 := [(17, .r [.fn 79 [.ptr 3 0, .ptr 10 0, .ptr 4 0, .ptr 17 0]]), (0, .p c2811), (4, .r [.sl false 0 0 n2810 1]), (10, .p [(.lst false 1 c2812)]), (3, .p c2809)]) (st' := ⟨[], [(0, .dead), (1, .dead), (2, .dead), (3, .dead), (4, .v (.lst false 1 c2812)), (5, .dead), (6, .dead)], [(0, .p c2811)], 1, []⟩) (.k (.k (.k (.k (.r (.k (.k .nil))))))) (.cons _ _ _ _ _ (DLes.refl _) (.cons _ _ _ _ _ (DLes.refl _) (.cons _ _ _ _ _ (DLes.refl _) (.cons _ _ _ _ _ (DLes.refl _) (.cons _ _ _ _ _ (DLes.refl _) .nil))))) (by kernel_rfl) (by simp only [go_sem, qa, qb, qc, qd, qe, qf, qg, qh, qi, qj, qk, ↓reduceIte, resQ_tmp, resQ_cell, resQ_nil, retD_one, retD_two, retD_three, retD_none]; try simp [R.val, retD_one, retD_two, retD_three, retD_none])
  · (try dsimp only at h)
    refine W_sound tab_ok mixed 2 _ _ _ ?_
    simp -implicitDefEqProofs only [go_sem, qa, qb, qc, qd, qe, qf, qg, qh, qi, qj, qk, ↓reduceIte]
    repeat with_reducible refine ⟨by first | kernel_rfl | decide, ?_⟩
    refine Wp_callD [3, 10, 18, 4, 0, 17] (c79_7_b N _ _ _ _ _ _ _ _ h2808) rfl rfl rfl (by first | rfl | (simp only [go_sem, qa, qb, qc, qd, qe, qf, qg, qh, qi, qj, qk, ↓reduceIte] <;> rfl)) rfl (by kernel_rfl) ?_
    refine W_sound tab_ok mixed 8 _ _ _ ?_
    simp -implicitDefEqProofs only [go_sem, qa, qb, qc, qd, qe, qf, qg, qh, qi, qj, qk, ↓reduceIte]
    repeat with_reducible refine ⟨by first | kernel_rfl | decide, ?_⟩
    have hh := grd_some h; clear h; obtain ⟨g2819, h⟩ := hh
    refine FinQ_wk (Wk_freeze 28 c2818 (by rfl) (by decide) (by decide)) ?_
    simp -implicitDefEqProofs only [go_sem, qa, qb, qc, qd, qe, qf, qg, qh, qi, qj, qk, ↓reduceIte, g2819]
    simp only [Option.some.injEq, Prod.mk.injEq] at h; obtain ⟨rfl, rfl⟩ := h
    exact finD (e2 := [(0, .dead), (1, .dead), (2, .dead), (3, .dead), (4, .v (.lst false n2815 c2818)), (5, .dead), (6, .dead)]) (ob2 := [(17, .r [.fn 79 [.ptr 3 0, .ptr 10 0, .ptr 4 0, .ptr 17 0]]), (0, .p c2817), (4, .r [.sl false 0 0 n2816 1]), (10, .p [(.lst false n2815 c2818)]), (3, .p c2814)]) (st' := ⟨[], [(0, .dead), (1, .dead), (2, .dead), (3, .dead), (4, .v (.lst false n2815 c2818)), (5, .dead), (6, .dead)], [(0, .p c2817)], 1, []⟩) (.k (.k (.k (.k (.r (.k (.k .nil))))))) (.cons _ _ _ _ _ (DLes.refl _) (.cons _ _ _ _ _ (DLes.refl _) (.cons _ _ _ _ _ (DLes.refl _) (.cons _ _ _ _ _ (DLes.refl _) (.cons _ _ _ _ _ (DLes.refl _) .nil))))) (by kernel_rfl) (by simp only [go_sem, qa, qb, qc, qd, qe, qf, qg, qh, qi, qj, qk, ↓reduceIte, resQ_tmp, resQ_cell, resQ_nil, retD_one, retD_two, retD_three, retD_none]; try simp [R.val, retD_one, retD_two, retD_three, retD_none])
def m37_L0 (N : Nat) (x1759 : Int) (p1763 : PV) (p1764 : PV) (p1765 : PV) (p1766 : PV) (p1767 : PV) (x1769 : Int) (x1772 : Int) : Nat → Nat → Int → List PV → Option ((Nat × List PV))
  | 0, _, _, _ => none
  | n + 1, n2292, x2293, c2294 =>
    brn (decide (x2293 < (Int.tmod (IntKind.i64.wrap x1772) (IntKind.i64.wrap ((IntKind.i64.wrap (1 + (Int.tmod (IntKind.i64.wrap x1769) x1759))) + 1))))) (
      bnd' (m38_3 N (IntKind.i64.wrap (1 + (Int.tmod (IntKind.i64.wrap x1769) x1759))) n2292 c2294) fun (p2822, c2824) =>
      getL p2822 fun n2826 c2827 =>
      grd (0 ≤ x2293 ∧ x2293 < 5) <|
      grd ((2 + (Int.toNat x2293)) < 7) <|
      getI .u8 (gp [(.int .u8 x1769), (.int .u8 x1772), p1763, p1764, p1765, p1766, p1767] (2 + (Int.toNat x2293))) fun x2832 =>
      grd (((n2826 : Nat) : Int) ≠ 0) <|
      grd (0 ≤ (Int.tmod (IntKind.i64.wrap x2832) ((n2826 : Nat) : Int)) ∧ (Int.tmod (IntKind.i64.wrap x2832) ((n2826 : Nat) : Int)) < ((n2826 : Nat) : Int)) <|
      grd (0 < List.length (List.drop (Int.toNat (Int.tmod (IntKind.i64.wrap x2832) ((n2826 : Nat) : Int))) c2827)) <|
      getL (gp c2827 (Int.toNat (Int.tmod (IntKind.i64.wrap x2832) ((n2826 : Nat) : Int)))) fun n2838 c2839 =>
      grd ((n2292 + 1) ≤ 1099511627776) <|
      grd (List.length c2824 = n2292) <|
      m37_L0 N x1759 p1763 p1764 p1765 p1766 p1767 x1769 x1772 n (n2292 + 1) (IntKind.i64.wrap (x2293 + 1)) (c2824 ++ [(.lst false n2838 c2839)])) (
      some (n2292, c2294))
def m37 (N : Nat) (p1758 : PV) (x1759 : Int) : Option (PV) :=
  getA7 p1758 fun p1761 p1762 p1763 p1764 p1765 p1766 p1767 =>
  getI .u8 p1761 fun x1769 =>
  grd (x1759 ≠ 0) <|
  getI .u8 p1762 fun x1772 =>
  grd ((IntKind.i64.wrap ((IntKind.i64.wrap (1 + (Int.tmod (IntKind.i64.wrap x1769) x1759))) + 1)) ≠ 0) <|
  bnd' (m37_L0 N x1759 p1763 p1764 p1765 p1766 p1767 x1769 x1772 N 0 0 []) fun o =>
  match o with
  | (n2842, c2843) =>
    grd (List.length c2843 = n2842) <|
    some (.tup [(.int .i64 (IntKind.i64.wrap (1 + (Int.tmod (IntKind.i64.wrap x1769) x1759)))), (.lst false n2842 c2843)])
theorem c37 (N : Nat) (p1758 : PV) (x1759 : Int) (r : PV)  (h : m37 N p1758 x1759 = some r) : FnP Tryd.prog 37 [p1758, (.int .i64 x1759)] r := by
  unfold m37 at h
  refine Fn_of (sz := 45) tab_ok [0, 1, 2, 4, 5, 6, 7, 8, 9, 21, 22, 23] [.tmp 4, .tmp 5] Tryd.func37 rfl rfl rfl (by simp) ?_
  simp only [initSt, initEnv, List.map_cons, List.map_nil, List.getD_cons_zero, List.getD_cons_succ, List.getD_nil]
  have hh := getA7_some h; clear h; obtain ⟨p1761, p1762, p1763, p1764, p1765, p1766, p1767, h1760, h⟩ := hh
  have hh := getI_some h; clear h; obtain ⟨x1769, h1768, h⟩ := hh
  have hh := grd_some h; clear h; obtain ⟨g1770, h⟩ := hh
  have hh := getI_some h; clear h; obtain ⟨x1772, h1771, h⟩ := hh
  have hh := grd_some h; clear h; obtain ⟨g1773, h⟩ := hh
  refine W_sound tab_ok mixed 31 _ _ _ ?_
  simp -implicitDefEqProofs only [go_sem, qa, qb, qc, qd, qe, qf, qg, qh, qi, qj, qk, ↓reduceIte, h1760, h1768, g1770, h1771, g1773]
  repeat with_reducible refine ⟨by first | kernel_rfl | decide, ?_⟩
  refine Wp_weaken (Wk_ownS 7 1 rfl (by decide) (by decide)) ?_
  simp -implicitDefEqProofs only [go_sem, qa, qb, qc, qd, qe, qf, qg, qh, qi, qj, qk, ↓reduceIte, h1760, h1768, g1770, h1771, g1773]
  have hh := bnd'_some h; clear h; obtain ⟨o2845, h2846, h2847⟩ := hh
  refine Wp_cut (fun s => ∃ n2842, ∃ c2843, (n2842, c2843) = o2845 ∧ s = ⟨[], [(0, .dead), (1, .dead), (2, .dead), (4, .dead), (5, .dead), (6, .v (.int .i64 (IntKind.i64.wrap (1 + (Int.tmod (IntKind.i64.wrap x1769) x1759))))), (7, .sl false 0 0 n2842 1), (8, .dead), (9, .dead), (21, .dead), (22, .dead), (23, .dead)], [(0, .p c2843)], 1, []⟩) ?_ ?_
  · refine Wp_block ?_
    refine Wp_loopG (fun n s => ∃ n2292, ∃ x2293, ∃ c2294, m37_L0 N x1759 p1763 p1764 p1765 p1766 p1767 x1769 x1772 n n2292 x2293 c2294 = some o2845 ∧ s = ⟨[], [(0, .dead), (1, .dead), (2, .ptr 0 0), (4, .dead), (5, .dead), (6, .v (.int .i64 (IntKind.i64.wrap (1 + (Int.tmod (IntKind.i64.wrap x1769) x1759))))), (7, .sl false 1 0 n2292 1), (8, .dead), (9, .dead), (21, .v (.int .i64 (Int.tmod (IntKind.i64.wrap x1772) (IntKind.i64.wrap ((IntKind.i64.wrap (1 + (Int.tmod (IntKind.i64.wrap x1769) x1759))) + 1))))), (22, .v (.int .i64 x2293)), (23, .dead)], [(0, .p [(.int .u8 x1769), (.int .u8 x1772), p1763, p1764, p1765, p1766, p1767]), (1, .p c2294)], 2, []⟩) N _ ((Wk_le (.k (.k (.r (.k (.k (.r (.r (.r (.r (.r (.r (.r .nil)))))))))))) (OLe.refl _)).trans (cmpS_ok (st' := ⟨[], [(0, .dead), (1, .dead), (2, .ptr 0 0), (4, .dead), (5, .dead), (6, .v (.int .i64 (IntKind.i64.wrap (1 + (Int.tmod (IntKind.i64.wrap x1769) x1759))))), (7, .sl false 1 0 0 1), (8, .dead), (9, .dead), (21, .v (.int .i64 (Int.tmod (IntKind.i64.wrap x1772) (IntKind.i64.wrap ((IntKind.i64.wrap (1 + (Int.tmod (IntKind.i64.wrap x1769) x1759))) + 1))))), (22, .v (.int .i64 0)), (23, .dead)], [(0, .p [(.int .u8 x1769), (.int .u8 x1772), p1763, p1764, p1765, p1766, p1767]), (1, .p [])], 2, []⟩) (by kernel_rfl))) ⟨_, _, _, h2846, rfl⟩ ?_
    clear h2846
    rintro n _ ⟨n2292, x2293, c2294, h2846, rfl⟩
    cases n with
    | zero => cases h2846
    | succ n =>
      rw [m37_L0] at h2846
      have hh := brn_some h2846; clear h2846; rcases hh with ⟨h2295, h2846⟩ | ⟨h2295, h2846⟩
      · have hh := bnd'_some h2846; clear h2846; obtain ⟨⟨p2822, c2824⟩, h2823, h2846⟩ := hh
        (try dsimp only at h2846)
        refine W_sound tab_ok mixed 18 _ _ _ ?_
        simp -implicitDefEqProofs only [go_sem, qa, qb, qc, qd, qe, qf, qg, qh, qi, qj, qk, ↓reduceIte, h1760, h1768, g1770, h1771, g1773, h2295]
        repeat with_reducible refine ⟨by first | kernel_rfl | decide, ?_⟩
        refine Wp_callD [1] (c38_3 N _ _ _ _ _ h2823) rfl rfl rfl (by first | rfl | (simp only [go_sem, qa, qb, qc, qd, qe, qf, qg, qh, qi, qj, qk, ↓reduceIte, h1760, h1768, g1770, h1771, g1773, h2295] <;> rfl)) rfl (by kernel_rfl) ?_
        have hh := getL_some h2846; clear h2846; obtain ⟨n2826, c2827, h2825, h2846⟩ := hh
        have hh := grd_some h2846; clear h2846; obtain ⟨⟨g2828, g2829⟩, h2846⟩ := hh
        have hh := grd_some h2846; clear h2846; obtain ⟨g2830, h2846⟩ := hh
        have hh := getI_some h2846; clear h2846; obtain ⟨x2832, h2831, h2846⟩ := hh
        have hh := grd_some h2846; clear h2846; obtain ⟨g2833, h2846⟩ := hh
        have hh := grd_some h2846; clear h2846; obtain ⟨⟨g2834, g2835⟩, h2846⟩ := hh
        have hh := grd_some h2846; clear h2846; obtain ⟨g2836, h2846⟩ := hh
        have hh := getL_some h2846; clear h2846; obtain ⟨n2838, c2839, h2837, h2846⟩ := hh
        have hh := grd_some h2846; clear h2846; obtain ⟨g2840, h2846⟩ := hh
        have hh := grd_some h2846; clear h2846; obtain ⟨g2841, h2846⟩ := hh
        refine W_sound tab_ok mixed 24 _ _ _ ?_
        simp -implicitDefEqProofs only [go_sem, qa, qb, qc, qd, qe, qf, qg, qh, qi, qj, qk, ↓reduceIte, h1760, h1768, g1770, h1771, g1773, h2295, h2825, g2828, g2829, g2830, h2831, g2833, g2834, g2835, g2836, h2837, g2840, g2841]
        repeat with_reducible refine ⟨by first | kernel_rfl | decide, ?_⟩
        exact cutQ _ ((Wk_le (.r (.r (.r (.r (.r (.r (.r (.k (.k (.r (.r (.k .nil)))))))))))) (OLe.refl _)).trans (cmpS_ok (st' := ⟨[], [(0, .dead), (1, .dead), (2, .ptr 0 0), (4, .dead), (5, .dead), (6, .v (.int .i64 (IntKind.i64.wrap (1 + (Int.tmod (IntKind.i64.wrap x1769) x1759))))), (7, .sl false 1 0 (n2292 + 1) 1), (8, .dead), (9, .dead), (21, .v (.int .i64 (Int.tmod (IntKind.i64.wrap x1772) (IntKind.i64.wrap ((IntKind.i64.wrap (1 + (Int.tmod (IntKind.i64.wrap x1769) x1759))) + 1))))), (22, .v (.int .i64 (IntKind.i64.wrap (x2293 + 1)))), (23, .dead)], [(0, .p [(.int .u8 x1769), (.int .u8 x1772), p1763, p1764, p1765, p1766, p1767]), (1, .p (c2824 ++ [(.lst false n2838 c2839)]))], 2, []⟩) (by kernel_rfl))) ⟨n, Nat.lt_succ_self n, _, _, _, h2846, rfl⟩
      · refine W_sound tab_ok mixed 7 _ _ _ ?_
        simp -implicitDefEqProofs only [go_sem, qa, qb, qc, qd, qe, qf, qg, qh, qi, qj, qk, ↓reduceIte, h1760, h1768, g1770, h1771, g1773, h2295]
        repeat with_reducible refine ⟨by first | kernel_rfl | decide, ?_⟩
        obtain rfl := Option.some.inj h2846
        exact cutQ _ ((Wk_le (.r (.r (.k (.r (.r (.r (.r (.r (.r (.k (.k (.k .nil)))))))))))) (OLe.refl _)).trans (cmpS_ok (st' := ⟨[], [(0, .dead), (1, .dead), (2, .dead), (4, .dead), (5, .dead), (6, .v (.int .i64 (IntKind.i64.wrap (1 + (Int.tmod (IntKind.i64.wrap x1769) x1759))))), (7, .sl false 0 0 n2292 1), (8, .dead), (9, .dead), (21, .dead), (22, .dead), (23, .dead)], [(0, .p c2294)], 1, []⟩) (by kernel_rfl))) ⟨_, _, rfl, rfl⟩
  · rintro _ ⟨n2842, c2843, rfl, rfl⟩
    (try dsimp only at h2847)
    refine W_sound tab_ok mixed 9 _ _ _ ?_
    simp -implicitDefEqProofs only [go_sem, qa, qb, qc, qd, qe, qf, qg, qh, qi, qj, qk, ↓reduceIte, h1760, h1768, g1770, h1771, g1773]
    repeat with_reducible refine ⟨by first | kernel_rfl | decide, ?_⟩
    have hh := grd_some h2847; clear h2847; obtain ⟨g2844, h2847⟩ := hh
    refine FinQ_wk (Wk_freeze 0 c2843 (by rfl) (by decide) (by decide)) ?_
    simp -implicitDefEqProofs only [go_sem, qa, qb, qc, qd, qe, qf, qg, qh, qi, qj, qk, ↓reduceIte, h1760, h1768, g1770, h1771, g1773, g2844]
    obtain rfl := Option.some.inj h2847
    exact finC [(4, .v (.int .i64 (IntKind.i64.wrap (1 + (Int.tmod (IntKind.i64.wrap x1769) x1759))))), (5, .v (.lst false n2842 c2843))] [(4, .v (.int .i64 (IntKind.i64.wrap (1 + (Int.tmod (IntKind.i64.wrap x1769) x1759))))), (5, .v (.lst false n2842 c2843))] (by simp [leE, lk_cons]) (.cons _ _ _ _ _ (.v _ _ (.refl _)) (.cons _ _ _ _ _ (.v _ _ (.refl _)) .nil)) (by rfl) (by simp [leE, lk_cons]) (by decide) (by decide) rfl (by simp only [go_sem, qa, qb, qc, qd, qe, qf, qg, qh, qi, qj, qk, ↓reduceIte, resQ_tmp, resQ_cell, resQ_nil, retD_one, retD_two, retD_three, retD_none]; try simp [R.val, retD_one, retD_two, retD_three, retD_none])
def m40_L2 (N : Nat) (x2848 : Int) (n2851 : Nat) (c2852 : List PV) (x2854 : Int) (n2860 : Nat) (c2861 : List PV) (x2863 : Int) (x2869 : Int) : Nat → Int → Option ((PV ⊕ Unit))
  | 0, _ => none
  | n + 1, x2881 =>
    brn (decide (x2881 < (((Int.toNat x2854) : Nat) : Int))) (
      grd (0 ≤ x2881 ∧ x2881 < (((Int.toNat x2854) : Nat) : Int)) <|
      grd (0 < List.length (List.drop (Int.toNat x2881) (List.take (Int.toNat x2854) c2852)) ∧ (Int.toNat x2881) < (Int.toNat x2854)) <|
      getL (gp c2852 (Int.toNat x2881)) fun n2888 c2889 =>
      grd (x2863 < ((n2888 : Nat) : Int)) <|
      grd (0 < List.length (List.drop (Int.toNat x2863) c2889)) <|
      getI .i64 (gp c2889 (Int.toNat x2863)) fun x2893 =>
      brn (x2893 == x2869) (
        some (.inl (.bool false))) (
        m40_L2 N x2848 n2851 c2852 x2854 n2860 c2861 x2863 x2869 n (IntKind.i64.wrap (x2881 + 1)))) (
      some (.inr ()))
def m40_L1 (N : Nat) (x2848 : Int) (n2851 : Nat) (c2852 : List PV) (x2854 : Int) (n2860 : Nat) (c2861 : List PV) : Nat → Int → Option ((PV ⊕ Unit))
  | 0, _ => none
  | n + 1, x2863 =>
    brn (decide (x2863 < ((n2860 : Nat) : Int))) (
      grd (0 ≤ x2863 ∧ x2863 < ((n2860 : Nat) : Int)) <|
      grd (0 < List.length (List.drop (Int.toNat x2863) c2861)) <|
      getI .i64 (gp c2861 (Int.toNat x2863)) fun x2869 =>
      brn (decide (x2869 < 0)) (
        some (.inl (.bool false))) (
        brn (decide (x2869 ≥ x2848)) (
          some (.inl (.bool false))) (
          grd (x2863 ≤ ((n2860 : Nat) : Int)) <|
          grd (List.length c2861 = n2860) <|
          bnd' (m57 N (.lst false (Int.toNat x2863) (List.take (Int.toNat x2863) c2861)) x2869) fun p2874 =>
          getB p2874 fun b2877 =>
          brn b2877 (
            some (.inl (.bool false))) (
            grd (x2854 ≤ ((n2851 : Nat) : Int)) <|
            grd (List.length c2852 = n2851) <|
            bnd' (m40_L2 N x2848 n2851 c2852 x2854 n2860 c2861 x2863 x2869 N 0) fun o =>
            match o with
            | .inl p2895 =>
              some (.inl p2895)
            | .inr () =>
              m40_L1 N x2848 n2851 c2852 x2854 n2860 c2861 n (IntKind.i64.wrap (x2863 + 1)))))) (
      some (.inr ()))
def m40_L0 (N : Nat) (x2848 : Int) (n2851 : Nat) (c2852 : List PV) : Nat → Int → Option ((PV ⊕ Unit))
  | 0, _ => none
  | n + 1, x2854 =>
    brn (decide (x2854 < ((n2851 : Nat) : Int))) (
      grd (0 ≤ x2854 ∧ x2854 < ((n2851 : Nat) : Int)) <|
      grd (0 < List.length (List.drop (Int.toNat x2854) c2852)) <|
      getL (gp c2852 (Int.toNat x2854)) fun n2860 c2861 =>
      brn (((n2860 : Nat) : Int) != x2848) (
        some (.inl (.bool false))) (
        bnd' (m40_L1 N x2848 n2851 c2852 x2854 n2860 c2861 N 0) fun o =>
        match o with
        | .inl p2896 =>
          some (.inl p2896)
        | .inr () =>
          m40_L0 N x2848 n2851 c2852 n (IntKind.i64.wrap (x2854 + 1)))) (
      some (.inr ()))
def m40 (N : Nat) (x2848 : Int) (p2849 : PV) : Option (PV) :=
  getL p2849 fun n2851 c2852 =>
  brn (decide (((n2851 : Nat) : Int) > x2848)) (
    some (.bool false)) (
    bnd' (m40_L0 N x2848 n2851 c2852 N 0) fun o =>
    match o with
    | .inl p2897 =>
      some p2897
    | .inr () =>
      some (.bool true))
theorem c40 (N : Nat) (x2848 : Int) (p2849 : PV) (r : PV)  (h : m40 N x2848 p2849 = some r) : FnP Tryd.prog 40 [(.int .i64 x2848), p2849] r := by
  unfold m40 at h
  refine Fn_of (sz := 64) tab_ok [0, 1, 4, 5, 6, 7, 8, 10, 14, 15, 16, 17, 18, 25, 26, 27, 28, 29, 46, 49, 50, 51, 52, 60] [.tmp 4] Tryd.func40 rfl rfl rfl (by simp) ?_
  simp only [initSt, initEnv, List.map_cons, List.map_nil, List.getD_cons_zero, List.getD_cons_succ, List.getD_nil]
  have hh := getL_some h; clear h; obtain ⟨n2851, c2852, h2850, h⟩ := hh
  have hh := brn_some h; clear h; rcases hh with ⟨h2853, h⟩ | ⟨h2853, h⟩
  · refine W_sound tab_ok mixed 19 _ _ _ ?_
    simp -implicitDefEqProofs only [go_sem, qa, qb, qc, qd, qe, qf, qg, qh, qi, qj, qk, ↓reduceIte, h2850, h2853]
    repeat with_reducible refine ⟨by first | kernel_rfl | decide, ?_⟩
    obtain rfl := Option.some.inj h
    exact finC [(4, .v (.bool false))] [(4, .v (.bool false))] (by simp [leE, lk_cons]) (.cons _ _ _ _ _ (.v _ _ (.refl _)) .nil) (by rfl) (by simp [leE, lk_cons]) (by decide) (by decide) rfl (by simp only [go_sem, qa, qb, qc, qd, qe, qf, qg, qh, qi, qj, qk, ↓reduceIte, resQ_tmp, resQ_cell, resQ_nil, retD_one, retD_two, retD_three, retD_none]; try simp [R.val, retD_one, retD_two, retD_three, retD_none])
  · refine W_sound tab_ok mixed 21 _ _ _ ?_
    simp -implicitDefEqProofs only [go_sem, qa, qb, qc, qd, qe, qf, qg, qh, qi, qj, qk, ↓reduceIte, h2850, h2853]
    repeat with_reducible refine ⟨by first | kernel_rfl | decide, ?_⟩
    have hh := bnd'_some h; clear h; obtain ⟨o2898, h2899, h2900⟩ := hh
    refine Wp_cut (fun s => (.inr ()) = o2898 ∧ s = ⟨[], [(0, .dead), (1, .dead), (4, .dead), (5, .dead), (6, .dead), (7, .dead), (8, .dead), (10, .dead), (14, .dead), (15, .dead), (16, .dead), (17, .dead), (18, .dead), (25, .dead), (26, .dead), (27, .dead), (28, .dead), (29, .dead), (46, .dead), (49, .dead), (50, .dead), (51, .dead), (52, .dead), (60, .dead)], [], 0, []⟩) ?_ ?_
    · refine Wp_block ?_
      refine Wp_loopG (fun n s => ∃ x2854, m40_L0 N x2848 n2851 c2852 n x2854 = some o2898 ∧ s = ⟨[], [(0, .v (.int .i64 x2848)), (1, .v (.lst false n2851 c2852)), (4, .dead), (5, .dead), (6, .dead), (7, .dead), (8, .dead), (10, .dead), (14, .dead), (15, .v (.lst false n2851 c2852)), (16, .v (.int .i64 ((n2851 : Nat) : Int))), (17, .v (.int .i64 x2854)), (18, .dead), (25, .dead), (26, .dead), (27, .dead), (28, .dead), (29, .dead), (46, .dead), (49, .dead), (50, .dead), (51, .dead), (52, .dead), (60, .dead)], [], 0, []⟩) N _ ((Wk_le (.r (.r (.k (.r (.r (.r (.r (.r (.k (.r (.r (.r (.r (.r (.r (.r (.r (.r (.r (.r (.r (.r (.r (.r .nil)))))))))))))))))))))))) (OLe.refl _)).trans (cmpS_ok (st' := ⟨[], [(0, .v (.int .i64 x2848)), (1, .v (.lst false n2851 c2852)), (4, .dead), (5, .dead), (6, .dead), (7, .dead), (8, .dead), (10, .dead), (14, .dead), (15, .v (.lst false n2851 c2852)), (16, .v (.int .i64 ((n2851 : Nat) : Int))), (17, .v (.int .i64 0)), (18, .dead), (25, .dead), (26, .dead), (27, .dead), (28, .dead), (29, .dead), (46, .dead), (49, .dead), (50, .dead), (51, .dead), (52, .dead), (60, .dead)], [], 0, []⟩) (by kernel_rfl))) ⟨_, h2899, rfl⟩ ?_
      clear h2899
      rintro n _ ⟨x2854, h2899, rfl⟩
      cases n with
      | zero => cases h2899
      | succ n =>
        rw [m40_L0] at h2899
        have hh := brn_some h2899; clear h2899; rcases hh with ⟨h2855, h2899⟩ | ⟨h2855, h2899⟩
        · have hh := grd_some h2899; clear h2899; obtain ⟨⟨g2856, g2857⟩, h2899⟩ := hh
          have hh := grd_some h2899; clear h2899; obtain ⟨g2858, h2899⟩ := hh
          have hh := getL_some h2899; clear h2899; obtain ⟨n2860, c2861, h2859, h2899⟩ := hh
          have hh := brn_some h2899; clear h2899; rcases hh with ⟨h2862, h2899⟩ | ⟨h2862, h2899⟩
          · refine W_sound tab_ok mixed 32 _ _ _ ?_
            simp -implicitDefEqProofs only [go_sem, qa, qb, qc, qd, qe, qf, qg, qh, qi, qj, qk, ↓reduceIte, h2850, h2853, h2855, g2856, g2857, g2858, h2859, h2862]
            repeat with_reducible refine ⟨by first | kernel_rfl | decide, ?_⟩
            obtain rfl := Option.some.inj h2899
            (try dsimp only at h2900)
            obtain rfl := Option.some.inj h2900
            exact finC [(4, .v (.bool false))] [(4, .v (.bool false))] (by simp [leE, lk_cons]) (.cons _ _ _ _ _ (.v _ _ (.refl _)) .nil) (by rfl) (by simp [leE, lk_cons]) (by decide) (by decide) rfl (by simp only [go_sem, qa, qb, qc, qd, qe, qf, qg, qh, qi, qj, qk, ↓reduceIte, resQ_tmp, resQ_cell, resQ_nil, retD_one, retD_two, retD_three, retD_none]; try simp [R.val, retD_one, retD_two, retD_three, retD_none])
          · refine W_sound tab_ok mixed 33 _ _ _ ?_
            simp -implicitDefEqProofs only [go_sem, qa, qb, qc, qd, qe, qf, qg, qh, qi, qj, qk, ↓reduceIte, h2850, h2853, h2855, g2856, g2857, g2858, h2859, h2862]
            repeat with_reducible refine ⟨by first | kernel_rfl | decide, ?_⟩
            have hh := bnd'_some h2899; clear h2899; obtain ⟨o2901, h2902, h2903⟩ := hh
            refine Wp_cut (fun s => (.inr ()) = o2901 ∧ s = ⟨[], [(0, .v (.int .i64 x2848)), (1, .v (.lst false n2851 c2852)), (4, .dead), (5, .dead), (6, .dead), (7, .dead), (8, .dead), (10, .dead), (14, .dead), (15, .v (.lst false n2851 c2852)), (16, .v (.int .i64 ((n2851 : Nat) : Int))), (17, .v (.int .i64 x2854)), (18, .dead), (25, .dead), (26, .dead), (27, .dead), (28, .dead), (29, .dead), (46, .dead), (49, .dead), (50, .dead), (51, .dead), (52, .dead), (60, .dead)], [], 0, []⟩) ?_ ?_
            · refine Wp_block ?_
              refine Wp_loopG (fun n s => ∃ x2863, m40_L1 N x2848 n2851 c2852 x2854 n2860 c2861 n x2863 = some o2901 ∧ s = ⟨[], [(0, .v (.int .i64 x2848)), (1, .v (.lst false n2851 c2852)), (4, .dead), (5, .v (.int .i64 x2854)), (6, .v (.lst false n2860 c2861)), (7, .dead), (8, .dead), (10, .dead), (14, .dead), (15, .v (.lst false n2851 c2852)), (16, .v (.int .i64 ((n2851 : Nat) : Int))), (17, .v (.int .i64 x2854)), (18, .dead), (25, .dead), (26, .v (.lst false n2860 c2861)), (27, .v (.int .i64 ((n2860 : Nat) : Int))), (28, .v (.int .i64 x2863)), (29, .dead), (46, .dead), (49, .dead), (50, .dead), (51, .dead), (52, .dead), (60, .dead)], [], 0, []⟩) N _ ((Wk_le (.r (.r (.r (.r (.r (.r (.r (.r (.r (.r (.r (.r (.k (.k (.r (.r (.r (.r (.r (.r (.r (.r (.r (.r .nil)))))))))))))))))))))))) (OLe.refl _)).trans (cmpS_ok (st' := ⟨[], [(0, .v (.int .i64 x2848)), (1, .v (.lst false n2851 c2852)), (4, .dead), (5, .v (.int .i64 x2854)), (6, .v (.lst false n2860 c2861)), (7, .dead), (8, .dead), (10, .dead), (14, .dead), (15, .v (.lst false n2851 c2852)), (16, .v (.int .i64 ((n2851 : Nat) : Int))), (17, .v (.int .i64 x2854)), (18, .dead), (25, .dead), (26, .v (.lst false n2860 c2861)), (27, .v (.int .i64 ((n2860 : Nat) : Int))), (28, .v (.int .i64 0)), (29, .dead), (46, .dead), (49, .dead), (50, .dead), (51, .dead), (52, .dead), (60, .dead)], [], 0, []⟩) (by kernel_rfl))) ⟨_, h2902, rfl⟩ ?_
              clear h2902
              rintro n _ ⟨x2863, h2902, rfl⟩
              cases n with
              | zero => cases h2902
              | succ n =>
                rw [m40_L1] at h2902
                have hh := brn_some h2902; clear h2902; rcases hh with ⟨h2864, h2902⟩ | ⟨h2864, h2902⟩
                · have hh := grd_some h2902; clear h2902; obtain ⟨⟨g2865, g2866⟩, h2902⟩ := hh
                  have hh := grd_some h2902; clear h2902; obtain ⟨g2867, h2902⟩ := hh
                  have hh := getI_some h2902; clear h2902; obtain ⟨x2869, h2868, h2902⟩ := hh
                  have hh := brn_some h2902; clear h2902; rcases hh with ⟨h2870, h2902⟩ | ⟨h2870, h2902⟩
                  · refine W_sound tab_ok mixed 42 _ _ _ ?_
                    simp -implicitDefEqProofs only [go_sem, qa, qb, qc, qd, qe, qf, qg, qh, qi, qj, qk, ↓reduceIte, h2850, h2853, h2855, g2856, g2857, g2858, h2859, h2862, h2864, g2865, g2866, g2867, h2868, h2870]
                    repeat with_reducible refine ⟨by first | kernel_rfl | decide, ?_⟩
                    obtain rfl := Option.some.inj h2902
                    (try dsimp only at h2903)
                    obtain rfl := Option.some.inj h2903
                    (try dsimp only at h2900)
                    obtain rfl := Option.some.inj h2900
                    exact finC [(4, .v (.bool false))] [(4, .v (.bool false))] (by simp [leE, lk_cons]) (.cons _ _ _ _ _ (.v _ _ (.refl _)) .nil) (by rfl) (by simp [leE, lk_cons]) (by decide) (by decide) rfl (by simp only [go_sem, qa, qb, qc, qd, qe, qf, qg, qh, qi, qj, qk, ↓reduceIte, resQ_tmp, resQ_cell, resQ_nil, retD_one, retD_two, retD_three, retD_none]; try simp [R.val, retD_one, retD_two, retD_three, retD_none])
                  · have hh := brn_some h2902; clear h2902; rcases hh with ⟨h2871, h2902⟩ | ⟨h2871, h2902⟩
                    · refine W_sound tab_ok mixed 42 _ _ _ ?_
                      simp -implicitDefEqProofs only [go_sem, qa, qb, qc, qd, qe, qf, qg, qh, qi, qj, qk, ↓reduceIte, h2850, h2853, h2855, g2856, g2857, g2858, h2859, h2862, h2864, g2865, g2866, g2867, h2868, h2870, h2871]
                      repeat with_reducible refine ⟨by first | kernel_rfl | decide, ?_⟩
                      obtain rfl := Option.some.inj h2902
                      (try dsimp only at h2903)
                      obtain rfl := Option.some.inj h2903
                      (try dsimp only at h2900)
                      obtain rfl := Option.some.inj h2900
                      exact finC [(4, .v (.bool false))] [(4, .v (.bool false))] (by simp [leE, lk_cons]) (.cons _ _ _ _ _ (.v _ _ (.refl _)) .nil) (by rfl) (by simp [leE, lk_cons]) (by decide) (by decide) rfl (by simp only [go_sem, qa, qb, qc, qd, qe, qf, qg, qh, qi, qj, qk, ↓reduceIte, resQ_tmp, resQ_cell, resQ_nil, retD_one, retD_two, retD_three, retD_none]; try simp [R.val, retD_one, retD_two, retD_three, retD_none])
                    · have hh := grd_some h2902; clear h2902; obtain ⟨g2872, h2902⟩ := hh
                      have hh := grd_some h2902; clear h2902; obtain ⟨g2873, h2902⟩ := hh
                      have hh := bnd'_some h2902; clear h2902; obtain ⟨p2874, h2875, h2902⟩ := hh
                      refine W_sound tab_ok mixed 32 _ _ _ ?_
                      simp -implicitDefEqProofs only [go_sem, qa, qb, qc, qd, qe, qf, qg, qh, qi, qj, qk, ↓reduceIte, h2850, h2853, h2855, g2856, g2857, g2858, h2859, h2862, h2864, g2865, g2866, g2867, h2868, h2870, h2871, g2872, g2873]
                      repeat with_reducible refine ⟨by first | kernel_rfl | decide, ?_⟩
                      refine Wp_callP (c57 N _ _ _ h2875) (by kernel_rfl) rfl rfl rfl rfl (by decide) ?_
                      have hh := getB_some h2902; clear h2902; obtain ⟨b2877, h2876, h2902⟩ := hh
                      have hh := brn_some h2902; clear h2902; rcases hh with ⟨h2878, h2902⟩ | ⟨h2878, h2902⟩
                      · refine W_sound tab_ok mixed 9 _ _ _ ?_
                        simp -implicitDefEqProofs only [go_sem, qa, qb, qc, qd, qe, qf, qg, qh, qi, qj, qk, ↓reduceIte, h2850, h2853, h2855, g2856, g2857, g2858, h2859, h2862, h2864, g2865, g2866, g2867, h2868, h2870, h2871, g2872, g2873, h2876, h2878]
                        repeat with_reducible refine ⟨by first | kernel_rfl | decide, ?_⟩
                        obtain rfl := Option.some.inj h2902
                        (try dsimp only at h2903)
                        obtain rfl := Option.some.inj h2903
                        (try dsimp only at h2900)
                        obtain rfl := Option.some.inj h2900
                        exact finC [(4, .v (.bool false))] [(4, .v (.bool false))] (by simp [leE, lk_cons]) (.cons _ _ _ _ _ (.v _ _ (.refl _)) .nil) (by rfl) (by simp [leE, lk_cons]) (by decide) (by decide) rfl (by simp only [go_sem, qa, qb, qc, qd, qe, qf, qg, qh, qi, qj, qk, ↓reduceIte, resQ_tmp, resQ_cell, resQ_nil, retD_one, retD_two, retD_three, retD_none]; try simp [R.val, retD_one, retD_two, retD_three, retD_none])
                      · have hh := grd_some h2902; clear h2902; obtain ⟨g2879, h2902⟩ := hh
                        have hh := grd_some h2902; clear h2902; obtain ⟨g2880, h2902⟩ := hh
                        refine W_sound tab_ok mixed 12 _ _ _ ?_
                        simp -implicitDefEqProofs only [go_sem, qa, qb, qc, qd, qe, qf, qg, qh, qi, qj, qk, ↓reduceIte, h2850, h2853, h2855, g2856, g2857, g2858, h2859, h2862, h2864, g2865, g2866, g2867, h2868, h2870, h2871, g2872, g2873, h2876, h2878, g2879, g2880]
                        repeat with_reducible refine ⟨by first | kernel_rfl | decide, ?_⟩
                        have hh := bnd'_some h2902; clear h2902; obtain ⟨o2904, h2905, h2906⟩ := hh
                        refine Wp_cut (fun s => (.inr ()) = o2904 ∧ s = ⟨[], [(0, .v (.int .i64 x2848)), (1, .v (.lst false n2851 c2852)), (4, .dead), (5, .v (.int .i64 x2854)), (6, .v (.lst false n2860 c2861)), (7, .dead), (8, .dead), (10, .dead), (14, .dead), (15, .v (.lst false n2851 c2852)), (16, .v (.int .i64 ((n2851 : Nat) : Int))), (17, .v (.int .i64 x2854)), (18, .dead), (25, .dead), (26, .v (.lst false n2860 c2861)), (27, .v (.int .i64 ((n2860 : Nat) : Int))), (28, .v (.int .i64 x2863)), (29, .dead), (46, .dead), (49, .dead), (50, .dead), (51, .dead), (52, .dead), (60, .dead)], [], 0, []⟩) ?_ ?_
                        · refine Wp_block ?_
                          refine Wp_loopG (fun n s => ∃ x2881, m40_L2 N x2848 n2851 c2852 x2854 n2860 c2861 x2863 x2869 n x2881 = some o2904 ∧ s = ⟨[], [(0, .v (.int .i64 x2848)), (1, .v (.lst false n2851 c2852)), (4, .dead), (5, .v (.int .i64 x2854)), (6, .v (.lst false n2860 c2861)), (7, .v (.int .i64 x2863)), (8, .v (.int .i64 x2869)), (10, .dead), (14, .dead), (15, .v (.lst false n2851 c2852)), (16, .v (.int .i64 ((n2851 : Nat) : Int))), (17, .v (.int .i64 x2854)), (18, .dead), (25, .dead), (26, .v (.lst false n2860 c2861)), (27, .v (.int .i64 ((n2860 : Nat) : Int))), (28, .v (.int .i64 x2863)), (29, .dead), (46, .dead), (49, .v (.lst false (Int.toNat x2854) (List.take (Int.toNat x2854) c2852))), (50, .v (.int .i64 (((Int.toNat x2854) : Nat) : Int))), (51, .v (.int .i64 x2881)), (52, .dead), (60, .dead)], [], 0, []⟩) N _ ((Wk_le (.r (.r (.r (.r (.r (.r (.r (.r (.r (.r (.r (.r (.r (.r (.r (.r (.r (.k (.k (.r (.r (.r (.r (.r .nil)))))))))))))))))))))))) (OLe.refl _)).trans (cmpS_ok (st' := ⟨[], [(0, .v (.int .i64 x2848)), (1, .v (.lst false n2851 c2852)), (4, .dead), (5, .v (.int .i64 x2854)), (6, .v (.lst false n2860 c2861)), (7, .v (.int .i64 x2863)), (8, .v (.int .i64 x2869)), (10, .dead), (14, .dead), (15, .v (.lst false n2851 c2852)), (16, .v (.int .i64 ((n2851 : Nat) : Int))), (17, .v (.int .i64 x2854)), (18, .dead), (25, .dead), (26, .v (.lst false n2860 c2861)), (27, .v (.int .i64 ((n2860 : Nat) : Int))), (28, .v (.int .i64 x2863)), (29, .dead), (46, .dead), (49, .v (.lst false (Int.toNat x2854) (List.take (Int.toNat x2854) c2852))), (50, .v (.int .i64 (((Int.toNat x2854) : Nat) : Int))), (51, .v (.int .i64 0)), (52, .dead), (60, .dead)], [], 0, []⟩) (by kernel_rfl))) ⟨_, h2905, rfl⟩ ?_
                          clear h2905
                          rintro n _ ⟨x2881, h2905, rfl⟩
                          cases n with
                          | zero => cases h2905
                          | succ n =>
                            rw [m40_L2] at h2905
                            have hh := brn_some h2905; clear h2905; rcases hh with ⟨h2882, h2905⟩ | ⟨h2882, h2905⟩
                            · have hh := grd_some h2905; clear h2905; obtain ⟨⟨g2883, g2884⟩, h2905⟩ := hh
                              have hh := grd_some h2905; clear h2905; obtain ⟨⟨g2885, g2886⟩, h2905⟩ := hh
                              have hh := getL_some h2905; clear h2905; obtain ⟨n2888, c2889, h2887, h2905⟩ := hh
                              have hh := grd_some h2905; clear h2905; obtain ⟨g2890, h2905⟩ := hh
                              have hh := grd_some h2905; clear h2905; obtain ⟨g2891, h2905⟩ := hh
                              have hh := getI_some h2905; clear h2905; obtain ⟨x2893, h2892, h2905⟩ := hh
                              have hh := brn_some h2905; clear h2905; rcases hh with ⟨h2894, h2905⟩ | ⟨h2894, h2905⟩
                              · refine W_sound tab_ok mixed 31 _ _ _ ?_
                                simp -implicitDefEqProofs only [go_sem, qa, qb, qc, qd, qe, qf, qg, qh, qi, qj, qk, ↓reduceIte, h2850, h2853, h2855, g2856, g2857, g2858, h2859, h2862, h2864, g2865, g2866, g2867, h2868, h2870, h2871, g2872, g2873, h2876, h2878, g2879, g2880, h2882, g2883, g2884, g2885, g2886, h2887, g2890, g2891, h2892, h2894]
                                repeat with_reducible refine ⟨by first | kernel_rfl | decide, ?_⟩
                                obtain rfl := Option.some.inj h2905
                                (try dsimp only at h2906)
                                obtain rfl := Option.some.inj h2906
                                (try dsimp only at h2903)
                                obtain rfl := Option.some.inj h2903
                                (try dsimp only at h2900)
                                obtain rfl := Option.some.inj h2900
                                exact finC [(4, .v (.bool false))] [(4, .v (.bool false))] (by simp [leE, lk_cons]) (.cons _ _ _ _ _ (.v _ _ (.refl _)) .nil) (by rfl) (by simp [leE, lk_cons]) (by decide) (by decide) rfl (by simp only [go_sem, qa, qb, qc, qd, qe, qf, qg, qh, qi, qj, qk, ↓reduceIte, resQ_tmp, resQ_cell, resQ_nil, retD_one, retD_two, retD_three, retD_none]; try simp [R.val, retD_one, retD_two, retD_three, retD_none])
                              · refine W_sound tab_ok mixed 31 _ _ _ ?_
                                simp -implicitDefEqProofs only [go_sem, qa, qb, qc, qd, qe, qf, qg, qh, qi, qj, qk, ↓reduceIte, h2850, h2853, h2855, g2856, g2857, g2858, h2859, h2862, h2864, g2865, g2866, g2867, h2868, h2870, h2871, g2872, g2873, h2876, h2878, g2879, g2880, h2882, g2883, g2884, g2885, g2886, h2887, g2890, g2891, h2892, h2894]
                                repeat with_reducible refine ⟨by first | kernel_rfl | decide, ?_⟩
                                exact cutQ _ ((Wk_le (.r (.r (.r (.r (.r (.r (.r (.k (.r (.r (.r (.r (.r (.r (.r (.r (.r (.r (.r (.r (.r (.r (.k (.k .nil)))))))))))))))))))))))) (OLe.refl _)).trans (cmpS_ok (st' := ⟨[], [(0, .v (.int .i64 x2848)), (1, .v (.lst false n2851 c2852)), (4, .dead), (5, .v (.int .i64 x2854)), (6, .v (.lst false n2860 c2861)), (7, .v (.int .i64 x2863)), (8, .v (.int .i64 x2869)), (10, .dead), (14, .dead), (15, .v (.lst false n2851 c2852)), (16, .v (.int .i64 ((n2851 : Nat) : Int))), (17, .v (.int .i64 x2854)), (18, .dead), (25, .dead), (26, .v (.lst false n2860 c2861)), (27, .v (.int .i64 ((n2860 : Nat) : Int))), (28, .v (.int .i64 x2863)), (29, .dead), (46, .dead), (49, .v (.lst false (Int.toNat x2854) (List.take (Int.toNat x2854) c2852))), (50, .v (.int .i64 (((Int.toNat x2854) : Nat) : Int))), (51, .v (.int .i64 (IntKind.i64.wrap (x2881 + 1)))), (52, .dead), (60, .dead)], [], 0, []⟩) (by kernel_rfl))) ⟨n, Nat.lt_succ_self n, _, h2905, rfl⟩
                            · refine W_sound tab_ok mixed 7 _ _ _ ?_
                              simp -implicitDefEqProofs only [go_sem, qa, qb, qc, qd, qe, qf, qg, qh, qi, qj, qk, ↓reduceIte, h2850, h2853, h2855, g2856, g2857, g2858, h2859, h2862, h2864, g2865, g2866, g2867, h2868, h2870, h2871, g2872, g2873, h2876, h2878, g2879, g2880, h2882]
                              repeat with_reducible refine ⟨by first | kernel_rfl | decide, ?_⟩
                              obtain rfl := Option.some.inj h2905
                              exact cutQ _ ((Wk_le (.r (.r (.r (.r (.r (.k (.k (.r (.r (.r (.r (.r (.r (.r (.r (.r (.r (.r (.r (.k (.k (.k (.k (.r .nil)))))))))))))))))))))))) (OLe.refl _)).trans (cmpS_ok (st' := ⟨[], [(0, .v (.int .i64 x2848)), (1, .v (.lst false n2851 c2852)), (4, .dead), (5, .v (.int .i64 x2854)), (6, .v (.lst false n2860 c2861)), (7, .dead), (8, .dead), (10, .dead), (14, .dead), (15, .v (.lst false n2851 c2852)), (16, .v (.int .i64 ((n2851 : Nat) : Int))), (17, .v (.int .i64 x2854)), (18, .dead), (25, .dead), (26, .v (.lst false n2860 c2861)), (27, .v (.int .i64 ((n2860 : Nat) : Int))), (28, .v (.int .i64 x2863)), (29, .dead), (46, .dead), (49, .dead), (50, .dead), (51, .dead), (52, .dead), (60, .dead)], [], 0, []⟩) (by kernel_rfl))) ⟨rfl, rfl⟩
                        · rintro _ ⟨rfl, rfl⟩
                          (try dsimp only at h2906)
                          refine W_sound tab_ok mixed 5 _ _ _ ?_
                          simp -implicitDefEqProofs only [go_sem, qa, qb, qc, qd, qe, qf, qg, qh, qi, qj, qk, ↓reduceIte, h2850, h2853, h2855, g2856, g2857, g2858, h2859, h2862, h2864, g2865, g2866, g2867, h2868, h2870, h2871, g2872, g2873, h2876, h2878, g2879, g2880]
                          repeat with_reducible refine ⟨by first | kernel_rfl | decide, ?_⟩
                          exact cutQ _ ((Wk_le (.r (.r (.r (.r (.r (.r (.r (.r (.r (.r (.r (.r (.r (.r (.r (.r (.r (.r (.r (.r (.r (.r (.r (.r .nil)))))))))))))))))))))))) (OLe.refl _)).trans (cmpS_ok (st' := ⟨[], [(0, .v (.int .i64 x2848)), (1, .v (.lst false n2851 c2852)), (4, .dead), (5, .v (.int .i64 x2854)), (6, .v (.lst false n2860 c2861)), (7, .dead), (8, .dead), (10, .dead), (14, .dead), (15, .v (.lst false n2851 c2852)), (16, .v (.int .i64 ((n2851 : Nat) : Int))), (17, .v (.int .i64 x2854)), (18, .dead), (25, .dead), (26, .v (.lst false n2860 c2861)), (27, .v (.int .i64 ((n2860 : Nat) : Int))), (28, .v (.int .i64 (IntKind.i64.wrap (x2863 + 1)))), (29, .dead), (46, .dead), (49, .dead), (50, .dead), (51, .dead), (52, .dead), (60, .dead)], [], 0, []⟩) (by kernel_rfl))) ⟨n, Nat.lt_succ_self n, _, h2906, rfl⟩
                · refine W_sound tab_ok mixed 7 _ _ _ ?_
                  simp -implicitDefEqProofs only [go_sem, qa, qb, qc, qd, qe, qf, qg, qh, qi, qj, qk, ↓reduceIte, h2850, h2853, h2855, g2856, g2857, g2858, h2859, h2862, h2864]
                  repeat with_reducible refine ⟨by first | kernel_rfl | decide, ?_⟩
                  obtain rfl := Option.some.inj h2902
                  exact cutQ _ ((Wk_le (.r (.r (.r (.k (.k (.r (.r (.r (.r (.r (.r (.r (.r (.r (.k (.k (.k (.k (.r (.r (.r (.r (.r (.r .nil)))))))))))))))))))))))) (OLe.refl _)).trans (cmpS_ok (st' := ⟨[], [(0, .v (.int .i64 x2848)), (1, .v (.lst false n2851 c2852)), (4, .dead), (5, .dead), (6, .dead), (7, .dead), (8, .dead), (10, .dead), (14, .dead), (15, .v (.lst false n2851 c2852)), (16, .v (.int .i64 ((n2851 : Nat) : Int))), (17, .v (.int .i64 x2854)), (18, .dead), (25, .dead), (26, .dead), (27, .dead), (28, .dead), (29, .dead), (46, .dead), (49, .dead), (50, .dead), (51, .dead), (52, .dead), (60, .dead)], [], 0, []⟩) (by kernel_rfl))) ⟨rfl, rfl⟩
            · rintro _ ⟨rfl, rfl⟩
              (try dsimp only at h2903)
              refine W_sound tab_ok mixed 5 _ _ _ ?_
              simp -implicitDefEqProofs only [go_sem, qa, qb, qc, qd, qe, qf, qg, qh, qi, qj, qk, ↓reduceIte, h2850, h2853, h2855, g2856, g2857, g2858, h2859, h2862]
              repeat with_reducible refine ⟨by first | kernel_rfl | decide, ?_⟩
              exact cutQ _ ((Wk_le (.r (.r (.r (.r (.r (.r (.r (.r (.r (.r (.r (.r (.r (.r (.r (.r (.r (.r (.r (.r (.r (.r (.r (.r .nil)))))))))))))))))))))))) (OLe.refl _)).trans (cmpS_ok (st' := ⟨[], [(0, .v (.int .i64 x2848)), (1, .v (.lst false n2851 c2852)), (4, .dead), (5, .dead), (6, .dead), (7, .dead), (8, .dead), (10, .dead), (14, .dead), (15, .v (.lst false n2851 c2852)), (16, .v (.int .i64 ((n2851 : Nat) : Int))), (17, .v (.int .i64 (IntKind.i64.wrap (x2854 + 1)))), (18, .dead), (25, .dead), (26, .dead), (27, .dead), (28, .dead), (29, .dead), (46, .dead), (49, .dead), (50, .dead), (51, .dead), (52, .dead), (60, .dead)], [], 0, []⟩) (by kernel_rfl))) ⟨n, Nat.lt_succ_self n, _, h2903, rfl⟩
        · refine W_sound tab_ok mixed 7 _ _ _ ?_
          simp -implicitDefEqProofs only [go_sem, qa, qb, qc, qd, qe, qf, qg, qh, qi, qj, qk, ↓reduceIte, h2850, h2853, h2855]
          repeat with_reducible refine ⟨by first | kernel_rfl | decide, ?_⟩
          obtain rfl := Option.some.inj h2899
          exact cutQ _ ((Wk_le (.k (.k (.r (.r (.r (.r (.r (.r (.r (.k (.k (.k (.k (.r (.r (.r (.r (.r (.r (.r (.r (.r (.r (.r .nil)))))))))))))))))))))))) (OLe.refl _)).trans (cmpS_ok (st' := ⟨[], [(0, .dead), (1, .dead), (4, .dead), (5, .dead), (6, .dead), (7, .dead), (8, .dead), (10, .dead), (14, .dead), (15, .dead), (16, .dead), (17, .dead), (18, .dead), (25, .dead), (26, .dead), (27, .dead), (28, .dead), (29, .dead), (46, .dead), (49, .dead), (50, .dead), (51, .dead), (52, .dead), (60, .dead)], [], 0, []⟩) (by kernel_rfl))) ⟨rfl, rfl⟩
    · rintro _ ⟨rfl, rfl⟩
      (try dsimp only at h2900)
      refine W_sound tab_ok mixed 6 _ _ _ ?_
      simp -implicitDefEqProofs only [go_sem, qa, qb, qc, qd, qe, qf, qg, qh, qi, qj, qk, ↓reduceIte, h2850, h2853]
      repeat with_reducible refine ⟨by first | kernel_rfl | decide, ?_⟩
      obtain rfl := Option.some.inj h2900
      exact finC [(4, .v (.bool true))] [(4, .v (.bool true))] (by simp [leE, lk_cons]) (.cons _ _ _ _ _ (.v _ _ (.refl _)) .nil) (by rfl) (by simp [leE, lk_cons]) (by decide) (by decide) rfl (by simp only [go_sem, qa, qb, qc, qd, qe, qf, qg, qh, qi, qj, qk, ↓reduceIte, resQ_tmp, resQ_cell, resQ_nil, retD_one, retD_two, retD_three, retD_none]; try simp [R.val, retD_one, retD_two, retD_three, retD_none])
def m39p (N : Nat) (p2907 : PV) : Option (Nat × List PV) :=
  getL p2907 fun n2909 c2910 =>
  grd (0 < n2909) <|
  grd (List.length c2910 = n2909) <|
  grd (n2909 ≤ 1099511627776) <|
  some (n2909, c2910)
theorem c39p (N : Nat) (p2907 : PV) (rn : Nat) (rc : List PV) (h   : m39p N p2907 = some (rn, rc)) : V.Fn Tryd.prog 39 0 [.v p2907] [] (fun d ob' => d = .sl false 0 0 rn 1 ∧ ob' = [(0, .p rc)]) := by
  unfold m39p at h
  refine Fn_of (sz := 8) tab_ok [0, 2, 4] [.tmp 2] Tryd.func39 rfl rfl rfl (by simp) ?_
  simp only [initSt, initEnv, List.map_cons, List.map_nil, List.getD_cons_zero, List.getD_cons_succ, List.getD_nil]
  have hh := getL_some h; clear h; obtain ⟨n2909, c2910, h2908, h⟩ := hh
  have hh := grd_some h; clear h; obtain ⟨g2911, h⟩ := hh
  have hh := grd_some h; clear h; obtain ⟨g2912, h⟩ := hh
  have hh := grd_some h; clear h; obtain ⟨g2913, h⟩ := hh
  refine W_sound tab_ok mixed 21 _ _ _ ?_
  simp -implicitDefEqProofs only [go_sem, qa, qb, qc, qd, qe, qf, qg, qh, qi, qj, qk, ↓reduceIte, h2908, g2911, g2912, g2913]
  repeat with_reducible refine ⟨by first | kernel_rfl | decide, ?_⟩
  simp only [Option.some.injEq, Prod.mk.injEq] at h; obtain ⟨rfl, rfl⟩ := h
  exact finD (e2 := [(0, .dead), (2, .sl false 7 0 n2909 1), (4, .dead)]) (ob2 := [(5, .p []), (7, .p c2910)]) (st' := ⟨[], [(0, .dead), (2, .sl false 0 0 n2909 1), (4, .dead)], [(0, .p c2910)], 1, []⟩) (.k (.r (.k .nil))) (.cons _ _ _ _ _ (DLes.refl _) (.cons _ _ _ _ _ (DLes.refl _) .nil)) (by kernel_rfl) (by simp only [go_sem, qa, qb, qc, qd, qe, qf, qg, qh, qi, qj, qk, ↓reduceIte, resQ_tmp, resQ_cell, resQ_nil, retD_one, retD_two, retD_three, retD_none]; first | done | exact ⟨rfl, rfl⟩ | (try simp [R.val, retD_one]))
theorem Fn_nil {P : Program} {f bs : Nat} {ob : Obs} {Q : D → Obs → Prop} {g : Bool} (h1 : V.Fn P f bs [.v .nl] ob Q) (h2 : V.Fn P f bs [.v nnP] ob Q) : V.Fn P f bs [.v (.lst g 0 [])] ob Q := by
  intro fr hfr vals w ρ a1 a2 a3
  have key : RDs w (Own ρ (ovl (obL ob) fr)) ρ vals.toList [.v .nl] ∨ RDs w (Own ρ (ovl (obL ob) fr)) ρ vals.toList [.v nnP] := by
    generalize vals.toList = vs at a2
    cases a2 with
    | cons v d vs l hv hvs =>
      cases hv with | v _ _ hv =>
      rcases RP_lst_nn hv with h | h
      · exact .inl (.cons _ _ _ _ (.v _ _ h) hvs)
      · exact .inr (.cons _ _ _ _ (.v _ _ h) hvs)
  rcases key with h | h
  · exact h1 fr hfr vals w ρ a1 h a3
  · exact h2 fr hfr vals w ρ a1 h a3
theorem c39n : V.Fn Tryd.prog 39 0 [.v .nl] [] (fun d ob' => d = .sl false 0 0 0 1 ∧ ob' = [(0, .p [])]) := by
  refine Fn_of (sz := 8) tab_ok [0, 2, 4] [.tmp 2] Tryd.func39 rfl rfl rfl (by simp) ?_
  simp only [initSt, initEnv, List.map_cons, List.map_nil, List.getD_cons_zero, List.getD_cons_succ, List.getD_nil]
  refine W_sound tab_ok mixed 15 _ _ _ ?_
  simp -implicitDefEqProofs only [go_sem, qa, qb, qc, qd, qe, qf, qg, qh, qi, qj, qk, ↓reduceIte]
  repeat with_reducible refine ⟨by first | kernel_rfl | decide, ?_⟩
  refine Wp_weaken (Wk_ownS 2 1 rfl (by decide) (by decide)) ?_
  simp -implicitDefEqProofs only [go_sem, qa, qb, qc, qd, qe, qf, qg, qh, qi, qj, qk, ↓reduceIte]
  refine W_sound tab_ok mixed 3 _ _ _ ?_
  simp -implicitDefEqProofs only [go_sem, qa, qb, qc, qd, qe, qf, qg, qh, qi, qj, qk, ↓reduceIte]
  exact finD (e2 := [(0, .dead), (2, .sl false 0 0 0 1), (4, .dead)]) (ob2 := [(0, .p [])]) (st' := ⟨[], [(0, .dead), (2, .sl false 0 0 0 1), (4, .dead)], [(0, .p [])], 1, []⟩) (.k (.r (.k .nil))) (.cons _ _ _ _ _ (DLes.refl _) .nil) (by kernel_rfl) (by simp only [go_sem, resQ_tmp, resQ_cell, resQ_nil, retD_one, retD_two, retD_three, retD_none]; first | done | exact ⟨rfl, rfl⟩ | (try simp [R.val, retD_one]))
theorem c39e : V.Fn Tryd.prog 39 0 [.v nnP] [] (fun d ob' => d = .sl false 0 0 0 1 ∧ ob' = [(0, .p [])]) := by
  refine Fn_of (sz := 8) tab_ok [0, 2, 4] [.tmp 2] Tryd.func39 rfl rfl rfl (by simp) ?_
  simp only [initSt, initEnv, List.map_cons, List.map_nil, List.getD_cons_zero, List.getD_cons_succ, List.getD_nil]
  refine W_sound tab_ok mixed 21 _ _ _ ?_
  simp -implicitDefEqProofs only [go_sem, qa, qb, qc, qd, qe, qf, qg, qh, qi, qj, qk, ↓reduceIte]
  repeat with_reducible refine ⟨by first | kernel_rfl | decide, ?_⟩
  exact finD (e2 := [(0, .dead), (2, .sl false 5 0 0 1), (4, .dead)]) (ob2 := [(5, .p [])]) (st' := ⟨[], [(0, .dead), (2, .sl false 0 0 0 1), (4, .dead)], [(0, .p [])], 1, []⟩) (.k (.cons _ _ _ _ _ (.sl _ _ _ _ _) (.k .nil))) (.cons _ _ _ _ _ (DLes.refl _) .nil) (by kernel_rfl) (by simp only [go_sem, resQ_tmp, resQ_cell, resQ_nil, retD_one, retD_two, retD_three, retD_none]; first | done | exact ⟨rfl, rfl⟩ | (try simp [R.val, retD_one]))
def m39 (N : Nat) (p : PV) : Option (Nat × List PV) :=
  getL p fun n c =>
  grd (List.length c = n) <|
  grd (n ≤ 1099511627776) <|
  some (n, c)
theorem c39 (N : Nat) (p : PV) (rn : Nat) (rc : List PV) (h : m39 N p = some (rn, rc)) : V.Fn Tryd.prog 39 0 [.v p] [] (fun d ob' => d = .sl false 0 0 rn 1 ∧ ob' = [(0, .p rc)]) := by
  unfold m39 at h
  obtain ⟨n, c, rfl, h⟩ := getL_some h
  obtain ⟨g1, h⟩ := grd_some h
  obtain ⟨g2, h⟩ := grd_some h
  simp only [Option.some.injEq, Prod.mk.injEq] at h; obtain ⟨rfl, rfl⟩ := h
  by_cases e : 0 < n
  · exact c39p N _ _ _ (by unfold m39p; simp [getL, grd, e, g1, g2])
  · obtain rfl : n = 0 := by omega
    obtain rfl : c = [] := List.eq_nil_of_length_eq_zero g1
    exact Fn_nil c39n c39e
end Go.Proofs.YtcaecfofgdogbaaDoor
