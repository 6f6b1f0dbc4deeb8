/-
  Models and laws.
-/
import Derived.Test.YteidcinajdehkaaPOrdA
import Derived.Test.YteidcinajdehkaaPCstA
import Derived.Test.YteidcinajdehkaaPV38
import Derived.Test.YteidcinajdehkaaPV36
set_option linter.unusedSimpArgs false
set_option linter.unusedVariables false
namespace Go.Proofs.Yteidcinajdehkaa
open Go.V
open Nat renaming reduceBEq → qa, reduceAdd → qb, reduceSub → qc, reduceMul → qd, reduceLT → qe, reduceLeDiff → qf
open Int renaming reduceLE → qg, reduceLT → qh, reduceToNat → qi, reduceBEq → qj, reduceBNe → qk
set_option maxRecDepth 100000
set_option maxHeartbeats 4000000
set_option linter.unusedSimpArgs false
set_option linter.unusedVariables false
attribute [local go_sem] tl1 tl2 tl3 tl4 tl5 tl9 tl17 tl21 tl22 tl23 tl24 tl25 tl26 tl27 tl28 tl29 tl30 tl32 tl33 tl35 tl36 tl37 tl38 tl39 tl40 tl41 tl42 tl43 tl44 tl46 tl48 tl50 tl51 tl52 tl53 tl54 tl56 tl58 tl59 tl60 tl61 tl62 tl63 tl64 tl65 tl66 tl67 tl68 tl69 tl70 tl72 tl74 tl75 tl76 tl77 tl78 tl79 tl80 tl81 tl82 tl83 tl84 tl85 tl86 tl87 tl88 tl89 tl90 tl91 tl92 tl93 tl94 tl95 tl96 tl97 tl98 tl99 tl100 tl101 tl102 tl103 tl104 tl105 tl106 tl107 tl108 tl109 tl110 tl111 tl112 tl113 tl114 tl115 tl116 tl117 tl118 tl119 tl120 tl121 tl122 tl128 tl129 tl133
def m83_2 (N : Nat) (x1196 : Int) (x1197 : Int) (x1198 : Int) (p1199 : PV) (n1200 : Nat) (n1201 : Nat) (c1202 : List PV) (c1203 : List PV) : Option ((PV × Nat × Nat × List PV × List PV)) :=
  brn (x1197 == ((n1201 : Nat) : Int)) (
    getL p1199 fun n1206 c1207 =>
    grd (0 ≤ x1196 ∧ x1196 < ((n1206 : Nat) : Int)) <|
    grd (0 < List.length (List.drop (Int.toNat x1196) c1207)) <|
    getL (gp c1207 (Int.toNat x1196)) fun n1212 c1213 =>
    grd (0 ≤ x1197 ∧ x1197 < ((n1212 : Nat) : Int)) <|
    grd (0 < List.length (List.drop (Int.toNat x1197) c1213)) <|
    getI .i64 (gp c1213 (Int.toNat x1197)) fun x1218 =>
    grd (x1196 < ((n1200 : Nat) : Int)) <|
    grd ((Int.toNat x1196) < List.length c1202) <|
    getI .i64 (gp c1202 (Int.toNat x1196)) fun x1222 =>
    grd ((n1201 + 1) ≤ 1099511627776) <|
    grd (List.length c1203 = n1201) <|
    some ((.tup []), n1200, (n1201 + 1), c1202, (c1203 ++ [(.int .i64 (IntKind.i64.wrap (x1218 - x1222)))]))) (
    getL p1199 fun n1226 c1227 =>
    grd (0 ≤ x1196 ∧ x1196 < ((n1226 : Nat) : Int)) <|
    grd (0 < List.length (List.drop (Int.toNat x1196) c1227)) <|
    getL (gp c1227 (Int.toNat x1196)) fun n1232 c1233 =>
    grd (0 ≤ x1197 ∧ x1197 < ((n1232 : Nat) : Int)) <|
    grd (0 < List.length (List.drop (Int.toNat x1197) c1233)) <|
    getI .i64 (gp c1233 (Int.toNat x1197)) fun x1238 =>
    grd (x1197 < ((n1201 : Nat) : Int)) <|
    grd ((Int.toNat x1197) < List.length c1203) <|
    getI .i64 (gp c1203 (Int.toNat x1197)) fun x1242 =>
    grd ((n1200 + 1) ≤ 1099511627776) <|
    grd (List.length c1202 = n1200) <|
    some ((.tup []), (n1200 + 1), n1201, (c1202 ++ [(.int .i64 (IntKind.i64.wrap (x1238 - x1242)))]), c1203))
theorem c83_2 (N : Nat) (x1196 : Int) (x1197 : Int) (x1198 : Int) (p1199 : PV) (n1200 : Nat) (n1201 : Nat) (c1202 : List PV) (c1203 : List PV) (r : PV) (n1245 : Nat) (n1246 : Nat) (c1247 : List PV) (c1248 : List PV) (h : m83_2 N x1196 x1197 x1198 p1199 n1200 n1201 c1202 c1203 = some (r, n1245, n1246, c1247, c1248)) : V.Fn Try.prog 83 3 [.v (.int .i64 x1196), .v (.int .i64 x1197), .v (.int .i64 x1198), .ptr 0 0, .v (.ipt [p1199])] [(0, .r [.sl false 1 0 n1200 1, .sl false 2 0 n1201 1]), (1, .p c1202), (2, .p c1203)] (fun d ob' => d = .v r ∧ ob' = [(0, .r [.sl false 3 0 n1245 1, .sl false 4 0 n1246 1]), (3, .p c1247), (4, .p c1248)]) := by
  unfold m83_2 at h
  refine Fn_of (sz := 49) tab_ok [0, 1, 2, 3, 4, 12] [] Try.func83 rfl rfl rfl (by simp) ?_
  simp only [initSt, initEnv, List.map_cons, List.map_nil, List.getD_cons_zero, List.getD_cons_succ, List.getD_nil]
  refine Wp_wkK (cmpT_ok (st' := ⟨[], [(0, .v (.int .i64 x1196)), (1, .v (.int .i64 x1197)), (2, .v (.int .i64 x1198)), (3, .ptr 0 0), (4, .v (.ipt [p1199])), (12, .dead)], [(0, .r [.sl false 3 0 n1200 1, .sl false 4 0 n1201 1]), (3, .p c1202), (4, .p c1203)], 5, []⟩) [0, 1000000001, 1000000002, 1, 2] (by kernel_rfl)) rfl ?_
  have hh := brn_some h; clear h; rcases hh with ⟨h1204, h⟩ | ⟨h1204, h⟩
  · have hh := getL_some h; clear h; obtain ⟨n1206, c1207, h1205, h⟩ := hh
    have hh := grd_some h; clear h; obtain ⟨⟨g1208, g1209⟩, h⟩ := hh
    have hh := grd_some h; clear h; obtain ⟨g1210, h⟩ := hh
    have hh := getL_some h; clear h; obtain ⟨n1212, c1213, h1211, h⟩ := hh
    have hh := grd_some h; clear h; obtain ⟨⟨g1214, g1215⟩, h⟩ := hh
    have hh := grd_some h; clear h; obtain ⟨g1216, h⟩ := hh
    have hh := getI_some h; clear h; obtain ⟨x1218, h1217, h⟩ := hh
    have hh := grd_some h; clear h; obtain ⟨g1219, h⟩ := hh
    have hh := grd_some h; clear h; obtain ⟨g1220, h⟩ := hh
    have hh := getI_some h; clear h; obtain ⟨x1222, h1221, h⟩ := hh
    have hh := grd_some h; clear h; obtain ⟨g1223, h⟩ := hh
    have hh := grd_some h; clear h; obtain ⟨g1224, h⟩ := hh
    refine W_sound tab_ok mixed 31 _ _ _ ?_
    simp -implicitDefEqProofs only [go_sem, qa, qb, qc, qd, qe, qf, qg, qh, qi, qj, qk, ↓reduceIte, h1204, h1205, g1208, g1209, g1210, h1211, g1214, g1215, g1216, h1217, g1219, g1220, h1221, g1223, g1224]
    repeat with_reducible refine ⟨by first | kernel_rfl | decide, ?_⟩
    simp only [Option.some.injEq, Prod.mk.injEq] at h; obtain ⟨rfl, rfl, rfl, rfl, rfl⟩ := h
    exact finD (e2 := [(0, .dead), (1, .dead), (2, .dead), (3, .dead), (4, .dead), (12, .dead)]) (ob2 := [(0, .r [.sl false 3 0 n1200 1, .sl false 34 0 (n1201 + 1) 1]), (3, .p c1202), (33, .p [(.int .i64 (IntKind.i64.wrap (x1218 - x1222)))]), (34, .p (c1203 ++ [(.int .i64 (IntKind.i64.wrap (x1218 - x1222)))]))]) (st' := ⟨[], [(0, .dead), (1, .dead), (2, .dead), (3, .dead), (4, .dead), (12, .dead)], [(0, .r [.sl false 3 0 n1200 1, .sl false 4 0 (n1201 + 1) 1]), (3, .p c1202), (4, .p (c1203 ++ [(.int .i64 (IntKind.i64.wrap (x1218 - x1222)))]))], 5, []⟩) (.k (.k (.k (.k (.k (.k .nil)))))) (.cons _ _ _ _ _ (DLes.refl _) (.cons _ _ _ _ _ (DLes.refl _) (.cons _ _ _ _ _ (DLes.refl _) (.cons _ _ _ _ _ (DLes.refl _) .nil)))) (by kernel_rfl) (by simp only [go_sem, qa, qb, qc, qd, qe, qf, qg, qh, qi, qj, qk, ↓reduceIte, resQ_tmp, resQ_cell, resQ_nil, retD_one, retD_two, retD_three, retD_none]; try simp [R.val, retD_one, retD_two, retD_three, retD_none])
  · have hh := getL_some h; clear h; obtain ⟨n1226, c1227, h1225, h⟩ := hh
    have hh := grd_some h; clear h; obtain ⟨⟨g1228, g1229⟩, h⟩ := hh
    have hh := grd_some h; clear h; obtain ⟨g1230, h⟩ := hh
    have hh := getL_some h; clear h; obtain ⟨n1232, c1233, h1231, h⟩ := hh
    have hh := grd_some h; clear h; obtain ⟨⟨g1234, g1235⟩, h⟩ := hh
    have hh := grd_some h; clear h; obtain ⟨g1236, h⟩ := hh
    have hh := getI_some h; clear h; obtain ⟨x1238, h1237, h⟩ := hh
    have hh := grd_some h; clear h; obtain ⟨g1239, h⟩ := hh
    have hh := grd_some h; clear h; obtain ⟨g1240, h⟩ := hh
    have hh := getI_some h; clear h; obtain ⟨x1242, h1241, h⟩ := hh
    have hh := grd_some h; clear h; obtain ⟨g1243, h⟩ := hh
    have hh := grd_some h; clear h; obtain ⟨g1244, h⟩ := hh
    refine W_sound tab_ok mixed 31 _ _ _ ?_
    simp -implicitDefEqProofs only [go_sem, qa, qb, qc, qd, qe, qf, qg, qh, qi, qj, qk, ↓reduceIte, h1204, h1225, g1228, g1229, g1230, h1231, g1234, g1235, g1236, h1237, g1239, g1240, h1241, g1243, g1244]
    repeat with_reducible refine ⟨by first | kernel_rfl | decide, ?_⟩
    simp only [Option.some.injEq, Prod.mk.injEq] at h; obtain ⟨rfl, rfl, rfl, rfl, rfl⟩ := h
    exact finD (e2 := [(0, .dead), (1, .dead), (2, .dead), (3, .dead), (4, .dead), (12, .dead)]) (ob2 := [(0, .r [.sl false 52 0 (n1200 + 1) 1, .sl false 4 0 n1201 1]), (4, .p c1203), (51, .p [(.int .i64 (IntKind.i64.wrap (x1238 - x1242)))]), (52, .p (c1202 ++ [(.int .i64 (IntKind.i64.wrap (x1238 - x1242)))]))]) (st' := ⟨[], [(0, .dead), (1, .dead), (2, .dead), (3, .dead), (4, .dead), (12, .dead)], [(0, .r [.sl false 3 0 (n1200 + 1) 1, .sl false 4 0 n1201 1]), (3, .p (c1202 ++ [(.int .i64 (IntKind.i64.wrap (x1238 - x1242)))])), (4, .p c1203)], 5, []⟩) (.k (.k (.k (.k (.k (.k .nil)))))) (.cons _ _ _ _ _ (DLes.refl _) (.cons _ _ _ _ _ (DLes.refl _) (.cons _ _ _ _ _ (DLes.refl _) (.cons _ _ _ _ _ (DLes.refl _) .nil)))) (by kernel_rfl) (by simp only [go_sem, qa, qb, qc, qd, qe, qf, qg, qh, qi, qj, qk, ↓reduceIte, resQ_tmp, resQ_cell, resQ_nil, retD_one, retD_two, retD_three, retD_none]; try simp [R.val, retD_one, retD_two, retD_three, retD_none])
def m61_L0 (N : Nat) (p1093 : PV) (n1099 : Nat) (c1100 : List PV) (n1106 : Nat) (c1107 : List PV) : Nat → Int → Int → Int → Int → Nat → Nat → List PV → List PV → Option ((PV × Nat × Nat × List PV × List PV))
  | 0, _, _, _, _, _, _, _, _ => none
  | n + 1, x1188, x1189, x1190, x1191, n1192, n1193, c1194, c1195 =>
    bnd' (m83_2 N x1188 x1189 (minI x1190 x1191) p1093 n1192 n1193 c1194 c1195) fun (p1249, n1251, n1252, c1253, c1254) =>
    getT0 p1249 <|
    brn ((IntKind.i64.wrap (x1190 - (minI x1190 x1191))) == 0) (
      brn (decide (x1188 < (IntKind.i64.wrap (((n1099 : Nat) : Int) - 1)))) (
        grd (0 ≤ (IntKind.i64.wrap (x1188 + 1)) ∧ (IntKind.i64.wrap (x1188 + 1)) < ((n1099 : Nat) : Int)) <|
        grd (0 < List.length (List.drop (Int.toNat (IntKind.i64.wrap (x1188 + 1))) c1100)) <|
        getI .i64 (gp c1100 (Int.toNat (IntKind.i64.wrap (x1188 + 1)))) fun x1262 =>
        m61_L0 N p1093 n1099 c1100 n1106 c1107 n (IntKind.i64.wrap (x1188 + 1)) x1189 x1262 (IntKind.i64.wrap (x1191 - (minI x1190 x1191))) n1251 n1252 c1253 c1254) (
        brn (decide (x1189 < (IntKind.i64.wrap (((n1106 : Nat) : Int) - 1)))) (
          grd (0 ≤ (IntKind.i64.wrap (x1189 + 1)) ∧ (IntKind.i64.wrap (x1189 + 1)) < ((n1106 : Nat) : Int)) <|
          grd (0 < List.length (List.drop (Int.toNat (IntKind.i64.wrap (x1189 + 1))) c1107)) <|
          getI .i64 (gp c1107 (Int.toNat (IntKind.i64.wrap (x1189 + 1)))) fun x1268 =>
          m61_L0 N p1093 n1099 c1100 n1106 c1107 n x1188 (IntKind.i64.wrap (x1189 + 1)) (IntKind.i64.wrap (x1190 - (minI x1190 x1191))) x1268 n1251 n1252 c1253 c1254) (
          some ((.tup []), n1251, n1252, c1253, c1254)))) (
      brn (decide (x1189 < (IntKind.i64.wrap (((n1106 : Nat) : Int) - 1)))) (
        grd (0 ≤ (IntKind.i64.wrap (x1189 + 1)) ∧ (IntKind.i64.wrap (x1189 + 1)) < ((n1106 : Nat) : Int)) <|
        grd (0 < List.length (List.drop (Int.toNat (IntKind.i64.wrap (x1189 + 1))) c1107)) <|
        getI .i64 (gp c1107 (Int.toNat (IntKind.i64.wrap (x1189 + 1)))) fun x1274 =>
        m61_L0 N p1093 n1099 c1100 n1106 c1107 n x1188 (IntKind.i64.wrap (x1189 + 1)) (IntKind.i64.wrap (x1190 - (minI x1190 x1191))) x1274 n1251 n1252 c1253 c1254) (
        some ((.tup []), n1251, n1252, c1253, c1254)))
def m61 (N : Nat) (p1092 : PV) (p1093 : PV) (x1094 : Int) : Option ((PV × Nat × Nat × List PV × List PV)) :=
  getA2 p1092 fun p1096 p1097 =>
  getL p1096 fun n1099 c1100 =>
  grd (0 < ((n1099 : Nat) : Int)) <|
  grd (0 < List.length c1100) <|
  getI .i64 (gp c1100 0) fun x1104 =>
  getL p1097 fun n1106 c1107 =>
  grd (0 < ((n1106 : Nat) : Int)) <|
  grd (0 < List.length c1107) <|
  getI .i64 (gp c1107 0) fun x1111 =>
  bnd' (m61_L0 N p1093 n1099 c1100 n1106 c1107 N 0 0 x1104 x1111 1 0 [(.int .i64 x1094)] []) fun o =>
  match o with
  | p1275 =>
    some p1275
theorem c61 (N : Nat) (p1092 : PV) (p1093 : PV) (x1094 : Int) (r : PV) (n1276 : Nat) (n1277 : Nat) (c1278 : List PV) (c1279 : List PV) (h : m61 N p1092 p1093 x1094 = some (r, n1276, n1277, c1278, c1279)) : V.Fn Try.prog 61 3 [.v p1092, .fn 83 [.ptr 0 0, .v (.ipt [p1093])]] [(0, .r [.sl true 1 0 1 1, .sl false 2 0 0 1]), (1, .p [(.int .i64 x1094)]), (2, .p [])] (fun d ob' => d = .v r ∧ ob' = [(0, .r [.sl false 3 0 n1276 1, .sl false 4 0 n1277 1]), (3, .p c1278), (4, .p c1279)]) := by
  unfold m61 at h
  refine Fn_of (sz := 63) tab_ok [0, 1, 2, 4, 5, 6, 7, 8, 31, 49] [] Try.func61 rfl rfl rfl (by simp) ?_
  simp only [initSt, initEnv, List.map_cons, List.map_nil, List.getD_cons_zero, List.getD_cons_succ, List.getD_nil]
  have hh := getA2_some h; clear h; obtain ⟨p1096, p1097, h1095, h⟩ := hh
  simp only [h1095]
  refine Wp_wkK (cmpT_ok (st' := ⟨[], [(0, .v (.agg [p1096, p1097])), (1, .fn 83 [.ptr 0 0, .v (.ipt [p1093])]), (2, .dead), (4, .dead), (5, .dead), (6, .dead), (7, .dead), (8, .dead), (31, .dead), (49, .dead)], [(0, .r [.sl true 3 0 1 1, .sl false 4 0 0 1]), (3, .p [(.int .i64 x1094)]), (4, .p [])], 5, []⟩) [0, 1000000001, 1000000002, 1, 2] (by kernel_rfl)) rfl ?_
  have hh := getL_some h; clear h; obtain ⟨n1099, c1100, h1098, h⟩ := hh
  have hh := grd_some h; clear h; obtain ⟨g1101, h⟩ := hh
  have hh := grd_some h; clear h; obtain ⟨g1102, h⟩ := hh
  have hh := getI_some h; clear h; obtain ⟨x1104, h1103, h⟩ := hh
  have hh := getL_some h; clear h; obtain ⟨n1106, c1107, h1105, h⟩ := hh
  have hh := grd_some h; clear h; obtain ⟨g1108, h⟩ := hh
  have hh := grd_some h; clear h; obtain ⟨g1109, h⟩ := hh
  have hh := getI_some h; clear h; obtain ⟨x1111, h1110, h⟩ := hh
  refine W_sound tab_ok mixed 22 _ _ _ ?_
  simp -implicitDefEqProofs only [go_sem, qa, qb, qc, qd, qe, qf, qg, qh, qi, qj, qk, ↓reduceIte, h1095, h1098, g1101, g1102, h1103, h1105, g1108, g1109, h1110]
  repeat with_reducible refine ⟨by first | kernel_rfl | decide, ?_⟩
  have hh := bnd'_some h; clear h; obtain ⟨o1280, h1281, h1282⟩ := hh
  refine Wp_cut (fun _ => False) ?_ ?_
  · refine Wp_block ?_
    refine Wp_loopG (fun n s => ∃ x1188, ∃ x1189, ∃ x1190, ∃ x1191, ∃ n1192, ∃ n1193, ∃ c1194, ∃ c1195, m61_L0 N p1093 n1099 c1100 n1106 c1107 n x1188 x1189 x1190 x1191 n1192 n1193 c1194 c1195 = some o1280 ∧ s = ⟨[], [(0, .dead), (1, .fn 83 [.ptr 0 0, .v (.ipt [p1093])]), (2, .ptr 3 0), (4, .v (.int .i64 x1188)), (5, .v (.int .i64 x1189)), (6, .v (.int .i64 x1190)), (7, .v (.int .i64 x1191)), (8, .dead), (31, .dead), (49, .dead)], [(0, .r [.sl false 4 0 n1192 1, .sl false 5 0 n1193 1]), (3, .p [(.lst false n1099 c1100), (.lst false n1106 c1107)]), (4, .p c1194), (5, .p c1195)], 6, []⟩) N _ ((Wk_le (.k (.r (.r (.r (.r (.r (.r (.r (.r (.r .nil)))))))))) (.cons _ (.r _) (.r _) _ _ (.cons _ _ _ _ (.sl _ _ _ _ _) (.cons _ _ _ _ (.refl  _) .nil)) (.cons _ _ _ _ _ (DLes.refl _) (.cons _ _ _ _ _ (DLes.refl _) (.cons _ _ _ _ _ (DLes.refl _) .nil))))).trans (cmpS_ok (st' := ⟨[], [(0, .dead), (1, .fn 83 [.ptr 0 0, .v (.ipt [p1093])]), (2, .ptr 3 0), (4, .v (.int .i64 0)), (5, .v (.int .i64 0)), (6, .v (.int .i64 x1104)), (7, .v (.int .i64 x1111)), (8, .dead), (31, .dead), (49, .dead)], [(0, .r [.sl false 4 0 1 1, .sl false 5 0 0 1]), (3, .p [(.lst false n1099 c1100), (.lst false n1106 c1107)]), (4, .p [(.int .i64 x1094)]), (5, .p [])], 6, []⟩) (by kernel_rfl))) ⟨_, _, _, _, _, _, _, _, h1281, rfl⟩ ?_
    clear h1281
    rintro n _ ⟨x1188, x1189, x1190, x1191, n1192, n1193, c1194, c1195, h1281, rfl⟩
    cases n with
    | zero => cases h1281
    | succ n =>
      rw [m61_L0] at h1281
      have hh := bnd'_some h1281; clear h1281; obtain ⟨⟨p1249, n1251, n1252, c1253, c1254⟩, h1250, h1281⟩ := hh
      (try dsimp only at h1281)
      refine W_sound tab_ok mixed 14 _ _ _ ?_
      simp -implicitDefEqProofs only [go_sem, qa, qb, qc, qd, qe, qf, qg, qh, qi, qj, qk, ↓reduceIte, h1095, h1098, g1101, g1102, h1103, h1105, g1108, g1109, h1110]
      repeat with_reducible refine ⟨by first | kernel_rfl | decide, ?_⟩
      refine Wp_callD [0, 4, 5] (c83_2 N _ _ _ _ _ _ _ _ _ _ _ _ _ h1250) rfl rfl rfl (by first | rfl | (simp only [go_sem, qa, qb, qc, qd, qe, qf, qg, qh, qi, qj, qk, ↓reduceIte, h1095, h1098, g1101, g1102, h1103, h1105, g1108, g1109, h1110] <;> rfl)) rfl (by kernel_rfl) ?_
      have hh := getT0_some h1281; clear h1281; obtain ⟨h1255, h1281⟩ := hh
      have hh := brn_some h1281; clear h1281; rcases hh with ⟨h1256, h1281⟩ | ⟨h1256, h1281⟩
      · have hh := brn_some h1281; clear h1281; rcases hh with ⟨h1257, h1281⟩ | ⟨h1257, h1281⟩
        · have hh := grd_some h1281; clear h1281; obtain ⟨⟨g1258, g1259⟩, h1281⟩ := hh
          have hh := grd_some h1281; clear h1281; obtain ⟨g1260, h1281⟩ := hh
          have hh := getI_some h1281; clear h1281; obtain ⟨x1262, h1261, h1281⟩ := hh
          refine W_sound tab_ok mixed 44 _ _ _ ?_
          simp -implicitDefEqProofs only [go_sem, qa, qb, qc, qd, qe, qf, qg, qh, qi, qj, qk, ↓reduceIte, h1095, h1098, g1101, g1102, h1103, h1105, g1108, g1109, h1110, h1255, h1256, h1257, g1258, g1259, g1260, h1261]
          repeat with_reducible refine ⟨by first | kernel_rfl | decide, ?_⟩
          exact cutQ _ ((Wk_le (.r (.r (.r (.r (.r (.r (.r (.k (.k (.r .nil)))))))))) (OLe.refl _)).trans (cmpS_ok (st' := ⟨[], [(0, .dead), (1, .fn 83 [.ptr 0 0, .v (.ipt [p1093])]), (2, .ptr 3 0), (4, .v (.int .i64 (IntKind.i64.wrap (x1188 + 1)))), (5, .v (.int .i64 x1189)), (6, .v (.int .i64 x1262)), (7, .v (.int .i64 (IntKind.i64.wrap (x1191 - (minI x1190 x1191))))), (8, .dead), (31, .dead), (49, .dead)], [(0, .r [.sl false 4 0 n1251 1, .sl false 5 0 n1252 1]), (3, .p [(.lst false n1099 c1100), (.lst false n1106 c1107)]), (4, .p c1253), (5, .p c1254)], 6, []⟩) (by kernel_rfl))) ⟨n, Nat.lt_succ_self n, _, _, _, _, _, _, _, _, h1281, rfl⟩
        · have hh := brn_some h1281; clear h1281; rcases hh with ⟨h1263, h1281⟩ | ⟨h1263, h1281⟩
          · have hh := grd_some h1281; clear h1281; obtain ⟨⟨g1264, g1265⟩, h1281⟩ := hh
            have hh := grd_some h1281; clear h1281; obtain ⟨g1266, h1281⟩ := hh
            have hh := getI_some h1281; clear h1281; obtain ⟨x1268, h1267, h1281⟩ := hh
            refine W_sound tab_ok mixed 55 _ _ _ ?_
            simp -implicitDefEqProofs only [go_sem, qa, qb, qc, qd, qe, qf, qg, qh, qi, qj, qk, ↓reduceIte, h1095, h1098, g1101, g1102, h1103, h1105, g1108, g1109, h1110, h1255, h1256, h1257, h1263, g1264, g1265, g1266, h1267]
            repeat with_reducible refine ⟨by first | kernel_rfl | decide, ?_⟩
            exact cutQ _ ((Wk_le (.r (.r (.r (.r (.r (.r (.r (.k (.k (.k .nil)))))))))) (OLe.refl _)).trans (cmpS_ok (st' := ⟨[], [(0, .dead), (1, .fn 83 [.ptr 0 0, .v (.ipt [p1093])]), (2, .ptr 3 0), (4, .v (.int .i64 x1188)), (5, .v (.int .i64 (IntKind.i64.wrap (x1189 + 1)))), (6, .v (.int .i64 (IntKind.i64.wrap (x1190 - (minI x1190 x1191))))), (7, .v (.int .i64 x1268)), (8, .dead), (31, .dead), (49, .dead)], [(0, .r [.sl false 4 0 n1251 1, .sl false 5 0 n1252 1]), (3, .p [(.lst false n1099 c1100), (.lst false n1106 c1107)]), (4, .p c1253), (5, .p c1254)], 6, []⟩) (by kernel_rfl))) ⟨n, Nat.lt_succ_self n, _, _, _, _, _, _, _, _, h1281, rfl⟩
          · refine W_sound tab_ok mixed 41 _ _ _ ?_
            simp -implicitDefEqProofs only [go_sem, qa, qb, qc, qd, qe, qf, qg, qh, qi, qj, qk, ↓reduceIte, h1095, h1098, g1101, g1102, h1103, h1105, g1108, g1109, h1110, h1255, h1256, h1257, h1263]
            repeat with_reducible refine ⟨by first | kernel_rfl | decide, ?_⟩
            obtain rfl := Option.some.inj h1281
            (try dsimp only at h1282)
            simp only [Option.some.injEq, Prod.mk.injEq] at h1282; obtain ⟨rfl, rfl, rfl, rfl, rfl⟩ := h1282
            exact finD (e2 := [(0, .dead), (1, .dead), (2, .dead), (4, .dead), (5, .dead), (6, .dead), (7, .dead), (8, .dead), (31, .dead), (49, .dead)]) (ob2 := [(3, .p [(.lst false n1099 c1100), (.lst false n1106 c1107)]), (1030, .p c1254), (30, .p c1253), (0, .r [.sl false 30 0 n1251 1, .sl false 1030 0 n1252 1])]) (st' := ⟨[], [(0, .dead), (1, .dead), (2, .dead), (4, .dead), (5, .dead), (6, .dead), (7, .dead), (8, .dead), (31, .dead), (49, .dead)], [(0, .r [.sl false 3 0 n1251 1, .sl false 4 0 n1252 1]), (3, .p c1253), (4, .p c1254)], 5, []⟩) (.r (.k (.k (.k (.k (.k (.k (.k (.k (.k .nil)))))))))) (.cons _ _ _ _ _ (DLes.refl _) (.cons _ _ _ _ _ (DLes.refl _) (.cons _ _ _ _ _ (DLes.refl _) (.cons _ _ _ _ _ (DLes.refl _) .nil)))) (by kernel_rfl) (by simp only [go_sem, qa, qb, qc, qd, qe, qf, qg, qh, qi, qj, qk, ↓reduceIte, resQ_tmp, resQ_cell, resQ_nil, retD_one, retD_two, retD_three, retD_none]; try simp [R.val, retD_one, retD_two, retD_three, retD_none])
      · have hh := brn_some h1281; clear h1281; rcases hh with ⟨h1269, h1281⟩ | ⟨h1269, h1281⟩
        · have hh := grd_some h1281; clear h1281; obtain ⟨⟨g1270, g1271⟩, h1281⟩ := hh
          have hh := grd_some h1281; clear h1281; obtain ⟨g1272, h1281⟩ := hh
          have hh := getI_some h1281; clear h1281; obtain ⟨x1274, h1273, h1281⟩ := hh
          refine W_sound tab_ok mixed 55 _ _ _ ?_
          simp -implicitDefEqProofs only [go_sem, qa, qb, qc, qd, qe, qf, qg, qh, qi, qj, qk, ↓reduceIte, h1095, h1098, g1101, g1102, h1103, h1105, g1108, g1109, h1110, h1255, h1256, h1269, g1270, g1271, g1272, h1273]
          repeat with_reducible refine ⟨by first | kernel_rfl | decide, ?_⟩
          exact cutQ _ ((Wk_le (.r (.r (.r (.r (.r (.r (.r (.k (.k (.k .nil)))))))))) (OLe.refl _)).trans (cmpS_ok (st' := ⟨[], [(0, .dead), (1, .fn 83 [.ptr 0 0, .v (.ipt [p1093])]), (2, .ptr 3 0), (4, .v (.int .i64 x1188)), (5, .v (.int .i64 (IntKind.i64.wrap (x1189 + 1)))), (6, .v (.int .i64 (IntKind.i64.wrap (x1190 - (minI x1190 x1191))))), (7, .v (.int .i64 x1274)), (8, .dead), (31, .dead), (49, .dead)], [(0, .r [.sl false 4 0 n1251 1, .sl false 5 0 n1252 1]), (3, .p [(.lst false n1099 c1100), (.lst false n1106 c1107)]), (4, .p c1253), (5, .p c1254)], 6, []⟩) (by kernel_rfl))) ⟨n, Nat.lt_succ_self n, _, _, _, _, _, _, _, _, h1281, rfl⟩
        · refine W_sound tab_ok mixed 41 _ _ _ ?_
          simp -implicitDefEqProofs only [go_sem, qa, qb, qc, qd, qe, qf, qg, qh, qi, qj, qk, ↓reduceIte, h1095, h1098, g1101, g1102, h1103, h1105, g1108, g1109, h1110, h1255, h1256, h1269]
          repeat with_reducible refine ⟨by first | kernel_rfl | decide, ?_⟩
          obtain rfl := Option.some.inj h1281
          (try dsimp only at h1282)
          simp only [Option.some.injEq, Prod.mk.injEq] at h1282; obtain ⟨rfl, rfl, rfl, rfl, rfl⟩ := h1282
          exact finD (e2 := [(0, .dead), (1, .dead), (2, .dead), (4, .dead), (5, .dead), (6, .dead), (7, .dead), (8, .dead), (31, .dead), (49, .dead)]) (ob2 := [(3, .p [(.lst false n1099 c1100), (.lst false n1106 c1107)]), (1030, .p c1254), (30, .p c1253), (0, .r [.sl false 30 0 n1251 1, .sl false 1030 0 n1252 1])]) (st' := ⟨[], [(0, .dead), (1, .dead), (2, .dead), (4, .dead), (5, .dead), (6, .dead), (7, .dead), (8, .dead), (31, .dead), (49, .dead)], [(0, .r [.sl false 3 0 n1251 1, .sl false 4 0 n1252 1]), (3, .p c1253), (4, .p c1254)], 5, []⟩) (.r (.k (.k (.k (.k (.k (.k (.k (.k (.k .nil)))))))))) (.cons _ _ _ _ _ (DLes.refl _) (.cons _ _ _ _ _ (DLes.refl _) (.cons _ _ _ _ _ (DLes.refl _) (.cons _ _ _ _ _ (DLes.refl _) .nil)))) (by kernel_rfl) (by simp only [go_sem, qa, qb, qc, qd, qe, qf, qg, qh, qi, qj, qk, ↓reduceIte, resQ_tmp, resQ_cell, resQ_nil, retD_one, retD_two, retD_three, retD_none]; try simp [R.val, retD_one, retD_two, retD_three, retD_none])
  · intro _ hf; exact hf.elim
def m38 (N : Nat) (p1069 : PV) (p1070 : PV) : Option (PV) :=
  getL p1069 fun n1072 c1073 =>
  getA2 p1070 fun p1075 p1076 =>
  bnd' (m25 N (.lst false n1072 c1073) (.agg [p1075, p1076])) fun p1077 =>
  getI .i64 p1077 fun x1080 =>
  brn (x1080 != 0) (
    some (.tup [(.agg [(.lst false 0 []), (.lst false 0 [])]), (.int .i64 x1080)])) (
    bnd' (m31 N (.lst false n1072 c1073)) fun p1082 =>
    getT2 p1082 fun p1085 p1086 =>
    getB p1085 fun b1088 =>
    getI .i64 p1086 fun x1090 =>
    brn b1088 (
      bnd' (m61 N (.agg [p1075, p1076]) (.lst false n1072 c1073) 0) fun (p1283, n1285, n1286, c1287, c1288) =>
      getT0 p1283 <|
      grd (List.length c1287 = n1285) <|
      grd (List.length c1288 = n1286) <|
      some (.tup [(.agg [(.lst false n1285 c1287), (.lst false n1286 c1288)]), (.int .i64 0)])) (
      some (.tup [(.agg [(.lst false 0 []), (.lst false 0 [])]), (.int .i64 13)])))
theorem c38 (N : Nat) (p1069 : PV) (p1070 : PV) (r : PV)  (h : m38 N p1069 p1070 = some r) : FnP Try.prog 38 [p1069, p1070] r := by
  unfold m38 at h
  refine Fn_of (sz := 31) tab_ok [0, 1, 2, 3, 4, 5, 6, 7, 9, 14, 23] [.cell 4 53, .tmp 5] Try.func38 rfl rfl rfl (by simp) ?_
  simp only [initSt, initEnv, List.map_cons, List.map_nil, List.getD_cons_zero, List.getD_cons_succ, List.getD_nil]
  have hh := getL_some h; clear h; obtain ⟨n1072, c1073, h1071, h⟩ := hh
  have hh := getA2_some h; clear h; obtain ⟨p1075, p1076, h1074, h⟩ := hh
  have hh := bnd'_some h; clear h; obtain ⟨p1077, h1078, h⟩ := hh
  refine W_sound tab_ok mixed 12 _ _ _ ?_
  simp -implicitDefEqProofs only [go_sem, qa, qb, qc, qd, qe, qf, qg, qh, qi, qj, qk, ↓reduceIte, h1071, h1074]
  repeat with_reducible refine ⟨by first | kernel_rfl | decide, ?_⟩
  refine Wp_callP (c25 N _ _ _ h1078) (by kernel_rfl) rfl rfl rfl rfl (by decide) ?_
  have hh := getI_some h; clear h; obtain ⟨x1080, h1079, h⟩ := hh
  have hh := brn_some h; clear h; rcases hh with ⟨h1081, h⟩ | ⟨h1081, h⟩
  · refine W_sound tab_ok mixed 17 _ _ _ ?_
    simp -implicitDefEqProofs only [go_sem, qa, qb, qc, qd, qe, qf, qg, qh, qi, qj, qk, ↓reduceIte, h1071, h1074, h1079, h1081]
    repeat with_reducible refine ⟨by first | kernel_rfl | decide, ?_⟩
    refine FinQ_wk (Wk_freeze 4 [.nl, .nl] (by rfl) (by decide) (by decide)) ?_
    simp -implicitDefEqProofs only [go_sem, qa, qb, qc, qd, qe, qf, qg, qh, qi, qj, qk, ↓reduceIte, h1071, h1074, h1079, h1081]
    obtain rfl := Option.some.inj h
    exact finC [(4, .v (.ipt [.nl, .nl])), (5, .v (.int .i64 x1080))] [(4, .v (.ipt [(.lst false 0 []), (.lst false 0 [])])), (5, .v (.int .i64 x1080))] (by simp [leE, lk_cons]) (.cons _ _ _ _ _ (.v _ _ (.ipt _ _ (.cons _ _ _ _ (.nl false) (.cons _ _ _ _ (.nl false) .nil)))) (.cons _ _ _ _ _ (.v _ _ (.refl _)) .nil)) (by rfl) (by simp [leE, lk_cons]) (by decide) (by decide) rfl (by simp only [go_sem, qa, qb, qc, qd, qe, qf, qg, qh, qi, qj, qk, ↓reduceIte, resQ_tmp, resQ_cell, resQ_nil, retD_one, retD_two, retD_three, retD_none]; try simp [R.val, retD_one, retD_two, retD_three, retD_none])
  · have hh := bnd'_some h; clear h; obtain ⟨p1082, h1083, h⟩ := hh
    refine W_sound tab_ok mixed 13 _ _ _ ?_
    simp -implicitDefEqProofs only [go_sem, qa, qb, qc, qd, qe, qf, qg, qh, qi, qj, qk, ↓reduceIte, h1071, h1074, h1079, h1081]
    repeat with_reducible refine ⟨by first | kernel_rfl | decide, ?_⟩
    refine Wp_callP (c31 N _ _ h1083) (by kernel_rfl) rfl rfl rfl rfl (by decide) ?_
    have hh := getT2_some h; clear h; obtain ⟨p1085, p1086, h1084, h⟩ := hh
    have hh := getB_some h; clear h; obtain ⟨b1088, h1087, h⟩ := hh
    have hh := getI_some h; clear h; obtain ⟨x1090, h1089, h⟩ := hh
    have hh := brn_some h; clear h; rcases hh with ⟨h1091, h⟩ | ⟨h1091, h⟩
    · refine W_sound tab_ok mixed 21 _ _ _ ?_
      simp -implicitDefEqProofs only [go_sem, qa, qb, qc, qd, qe, qf, qg, qh, qi, qj, qk, ↓reduceIte, h1071, h1074, h1079, h1081, h1084, h1087, h1089, h1091]
      repeat with_reducible refine ⟨by first | kernel_rfl | decide, ?_⟩
      refine Wp_wkK (Wk_ownC 14 1 1 rfl rfl (by decide) (by decide)) rfl ?_
      simp -implicitDefEqProofs only [go_sem, qa, qb, qc, qd, qe, qf, qg, qh, qi, qj, qk, ↓reduceIte, setO, h1071, h1074, h1079, h1081, h1084, h1087, h1089, h1091]
      (try simp -implicitDefEqProofs only [go_sem, qa, qb, qc, qd, qe, qf, qg, qh, qi, qj, qk, ↓reduceIte, h1071, h1074, h1079, h1081, h1084, h1087, h1089, h1091])
      refine Wp_wkK (Wk_freeze 2 [(.lst false n1072 c1073)] (by rfl) (by decide) (by decide)) rfl ?_
      simp -implicitDefEqProofs only [go_sem, qa, qb, qc, qd, qe, qf, qg, qh, qi, qj, qk, ↓reduceIte, h1071, h1074, h1079, h1081, h1084, h1087, h1089, h1091]
      have hh := bnd'_some h; clear h; obtain ⟨⟨p1283, n1285, n1286, c1287, c1288⟩, h1284, h⟩ := hh
      (try dsimp only at h)
      refine W_sound tab_ok mixed 3 _ _ _ ?_
      simp -implicitDefEqProofs only [go_sem, qa, qb, qc, qd, qe, qf, qg, qh, qi, qj, qk, ↓reduceIte, h1071, h1074, h1079, h1081, h1084, h1087, h1089, h1091]
      repeat with_reducible refine ⟨by first | kernel_rfl | decide, ?_⟩
      refine Wp_callD [14, 30, 31] (c61 N _ _ _ _ _ _ _ _ h1284) rfl rfl rfl (by first | rfl | (simp only [go_sem, qa, qb, qc, qd, qe, qf, qg, qh, qi, qj, qk, ↓reduceIte, h1071, h1074, h1079, h1081, h1084, h1087, h1089, h1091] <;> rfl)) rfl (by kernel_rfl) ?_
      have hh := getT0_some h; clear h; obtain ⟨h1289, h⟩ := hh
      refine W_sound tab_ok mixed 9 _ _ _ ?_
      simp -implicitDefEqProofs only [go_sem, qa, qb, qc, qd, qe, qf, qg, qh, qi, qj, qk, ↓reduceIte, h1071, h1074, h1079, h1081, h1084, h1087, h1089, h1091, h1289]
      repeat with_reducible refine ⟨by first | kernel_rfl | decide, ?_⟩
      have hh := grd_some h; clear h; obtain ⟨g1290, h⟩ := hh
      refine FinQ_wk (Wk_freeze 61 c1287 (by rfl) (by decide) (by decide)) ?_
      simp -implicitDefEqProofs only [go_sem, qa, qb, qc, qd, qe, qf, qg, qh, qi, qj, qk, ↓reduceIte, h1071, h1074, h1079, h1081, h1084, h1087, h1089, h1091, h1289, g1290]
      have hh := grd_some h; clear h; obtain ⟨g1291, h⟩ := hh
      refine FinQ_wk (Wk_freeze 1061 c1288 (by rfl) (by decide) (by decide)) ?_
      simp -implicitDefEqProofs only [go_sem, qa, qb, qc, qd, qe, qf, qg, qh, qi, qj, qk, ↓reduceIte, h1071, h1074, h1079, h1081, h1084, h1087, h1089, h1091, h1289, g1290, g1291]
      refine FinQ_wk (Wk_freeze 4 [(.lst false n1285 c1287), (.lst false n1286 c1288)] (by rfl) (by decide) (by decide)) ?_
      simp -implicitDefEqProofs only [go_sem, qa, qb, qc, qd, qe, qf, qg, qh, qi, qj, qk, ↓reduceIte, h1071, h1074, h1079, h1081, h1084, h1087, h1089, h1091, h1289, g1290, g1291]
      obtain rfl := Option.some.inj h
      exact finC [(4, .v (.ipt [(.lst false n1285 c1287), (.lst false n1286 c1288)])), (5, .v (.int .i64 0))] [(4, .v (.ipt [(.lst false n1285 c1287), (.lst false n1286 c1288)])), (5, .v (.int .i64 0))] (by simp [leE, lk_cons]) (.cons _ _ _ _ _ (.v _ _ (.refl _)) (.cons _ _ _ _ _ (.v _ _ (.refl _)) .nil)) (by rfl) (by simp [leE, lk_cons]) (by decide) (by decide) rfl (by simp only [go_sem, qa, qb, qc, qd, qe, qf, qg, qh, qi, qj, qk, ↓reduceIte, resQ_tmp, resQ_cell, resQ_nil, retD_one, retD_two, retD_three, retD_none]; try simp [R.val, retD_one, retD_two, retD_three, retD_none])
    · refine W_sound tab_ok mixed 20 _ _ _ ?_
      simp -implicitDefEqProofs only [go_sem, qa, qb, qc, qd, qe, qf, qg, qh, qi, qj, qk, ↓reduceIte, h1071, h1074, h1079, h1081, h1084, h1087, h1089, h1091]
      repeat with_reducible refine ⟨by first | kernel_rfl | decide, ?_⟩
      refine FinQ_wk (Wk_freeze 4 [.nl, .nl] (by rfl) (by decide) (by decide)) ?_
      simp -implicitDefEqProofs only [go_sem, qa, qb, qc, qd, qe, qf, qg, qh, qi, qj, qk, ↓reduceIte, h1071, h1074, h1079, h1081, h1084, h1087, h1089, h1091]
      obtain rfl := Option.some.inj h
      exact finC [(4, .v (.ipt [.nl, .nl])), (5, .v (.int .i64 13))] [(4, .v (.ipt [(.lst false 0 []), (.lst false 0 [])])), (5, .v (.int .i64 13))] (by simp [leE, lk_cons]) (.cons _ _ _ _ _ (.v _ _ (.ipt _ _ (.cons _ _ _ _ (.nl false) (.cons _ _ _ _ (.nl false) .nil)))) (.cons _ _ _ _ _ (.v _ _ (.refl _)) .nil)) (by rfl) (by simp [leE, lk_cons]) (by decide) (by decide) rfl (by simp only [go_sem, qa, qb, qc, qd, qe, qf, qg, qh, qi, qj, qk, ↓reduceIte, resQ_tmp, resQ_cell, resQ_nil, retD_one, retD_two, retD_three, retD_none]; try simp [R.val, retD_one, retD_two, retD_three, retD_none])
def m63_L0 (N : Nat) (n1329 : Nat) (n1335 : Nat) : Nat → Nat → Int → Int → List PV → List PV → List PV → Option ((Nat × List PV))
  | 0, _, _, _, _, _, _ => none
  | n + 1, n1378, x1379, x1380, c1381, c1382, c1383 =>
    brn (decide (x1380 < ((n1335 : Nat) : Int))) (
      grd ((n1378 + 1) ≤ 1099511627776) <|
      grd (List.length c1381 = (n1378 * 2)) <|
      grd (0 ≤ x1379 ∧ x1379 < ((n1329 : Nat) : Int)) <|
      grd ((Int.toNat x1379) < List.length c1382) <|
      getI .i64 (gp c1382 (Int.toNat x1379)) fun x1391 =>
      grd (0 ≤ x1380 ∧ x1380 < ((n1335 : Nat) : Int)) <|
      grd ((Int.toNat x1380) < List.length c1383) <|
      getI .i64 (gp c1383 (Int.toNat x1380)) fun x1396 =>
      grd (((Int.toNat x1379) + 1) ≤ List.length c1382) <|
      grd (((Int.toNat x1380) + 1) ≤ List.length c1383) <|
      getI .i64 (gp (List.set c1382 (Int.toNat x1379) (.int .i64 (IntKind.i64.wrap (x1391 - (minI x1391 x1396))))) (Int.toNat x1379)) fun x1400 =>
      brn (x1400 == 0) (
        brn (decide ((IntKind.i64.wrap (x1379 + 1)) < ((n1329 : Nat) : Int))) (
          m63_L0 N n1329 n1335 n (n1378 + 1) (IntKind.i64.wrap (x1379 + 1)) x1380 (c1381 ++ [(.int .i64 x1379), (.int .i64 x1380)]) (List.set c1382 (Int.toNat x1379) (.int .i64 (IntKind.i64.wrap (x1391 - (minI x1391 x1396))))) (List.set c1383 (Int.toNat x1380) (.int .i64 (IntKind.i64.wrap (x1396 - (minI x1391 x1396)))))) (
          m63_L0 N n1329 n1335 n (n1378 + 1) x1379 (IntKind.i64.wrap (x1380 + 1)) (c1381 ++ [(.int .i64 x1379), (.int .i64 x1380)]) (List.set c1382 (Int.toNat x1379) (.int .i64 (IntKind.i64.wrap (x1391 - (minI x1391 x1396))))) (List.set c1383 (Int.toNat x1380) (.int .i64 (IntKind.i64.wrap (x1396 - (minI x1391 x1396))))))) (
        m63_L0 N n1329 n1335 n (n1378 + 1) x1379 (IntKind.i64.wrap (x1380 + 1)) (c1381 ++ [(.int .i64 x1379), (.int .i64 x1380)]) (List.set c1382 (Int.toNat x1379) (.int .i64 (IntKind.i64.wrap (x1391 - (minI x1391 x1396))))) (List.set c1383 (Int.toNat x1380) (.int .i64 (IntKind.i64.wrap (x1396 - (minI x1391 x1396))))))) (
      some (n1378, c1381))
def m63_L1 (N : Nat) (n1329 : Nat) (n1335 : Nat) : Nat → Nat → Int → Int → List PV → List PV → List PV → Option ((Nat × List PV))
  | 0, _, _, _, _, _, _ => none
  | n + 1, n1445, x1446, x1447, c1448, c1449, c1450 =>
    brn (decide (x1447 < ((n1335 : Nat) : Int))) (
      grd ((n1445 + 1) ≤ 1099511627776) <|
      grd (List.length c1448 = (n1445 * 2)) <|
      grd (0 ≤ x1446 ∧ x1446 < ((n1329 : Nat) : Int)) <|
      grd ((Int.toNat x1446) < List.length c1449) <|
      getI .i64 (gp c1449 (Int.toNat x1446)) fun x1458 =>
      grd (0 ≤ x1447 ∧ x1447 < ((n1335 : Nat) : Int)) <|
      grd ((Int.toNat x1447) < List.length c1450) <|
      getI .i64 (gp c1450 (Int.toNat x1447)) fun x1463 =>
      grd (((Int.toNat x1446) + 1) ≤ List.length c1449) <|
      grd (((Int.toNat x1447) + 1) ≤ List.length c1450) <|
      getI .i64 (gp (List.set c1449 (Int.toNat x1446) (.int .i64 (IntKind.i64.wrap (x1458 - (minI x1458 x1463))))) (Int.toNat x1446)) fun x1467 =>
      brn (x1467 == 0) (
        brn (decide ((IntKind.i64.wrap (x1446 + 1)) < ((n1329 : Nat) : Int))) (
          m63_L1 N n1329 n1335 n (n1445 + 1) (IntKind.i64.wrap (x1446 + 1)) x1447 (c1448 ++ [(.int .i64 x1446), (.int .i64 x1447)]) (List.set c1449 (Int.toNat x1446) (.int .i64 (IntKind.i64.wrap (x1458 - (minI x1458 x1463))))) (List.set c1450 (Int.toNat x1447) (.int .i64 (IntKind.i64.wrap (x1463 - (minI x1458 x1463)))))) (
          m63_L1 N n1329 n1335 n (n1445 + 1) x1446 (IntKind.i64.wrap (x1447 + 1)) (c1448 ++ [(.int .i64 x1446), (.int .i64 x1447)]) (List.set c1449 (Int.toNat x1446) (.int .i64 (IntKind.i64.wrap (x1458 - (minI x1458 x1463))))) (List.set c1450 (Int.toNat x1447) (.int .i64 (IntKind.i64.wrap (x1463 - (minI x1458 x1463))))))) (
        m63_L1 N n1329 n1335 n (n1445 + 1) x1446 (IntKind.i64.wrap (x1447 + 1)) (c1448 ++ [(.int .i64 x1446), (.int .i64 x1447)]) (List.set c1449 (Int.toNat x1446) (.int .i64 (IntKind.i64.wrap (x1458 - (minI x1458 x1463))))) (List.set c1450 (Int.toNat x1447) (.int .i64 (IntKind.i64.wrap (x1463 - (minI x1458 x1463))))))) (
      some (n1445, c1448))
def m63_L2 (N : Nat) (n1329 : Nat) (n1475 : Nat) : Nat → Nat → Int → Int → List PV → List PV → List PV → Option ((Nat × List PV))
  | 0, _, _, _, _, _, _ => none
  | n + 1, n1518, x1519, x1520, c1521, c1522, c1523 =>
    brn (decide (x1520 < ((n1475 : Nat) : Int))) (
      grd ((n1518 + 1) ≤ 1099511627776) <|
      grd (List.length c1521 = (n1518 * 2)) <|
      grd (0 ≤ x1519 ∧ x1519 < ((n1329 : Nat) : Int)) <|
      grd ((Int.toNat x1519) < List.length c1522) <|
      getI .i64 (gp c1522 (Int.toNat x1519)) fun x1531 =>
      grd (0 ≤ x1520 ∧ x1520 < ((n1475 : Nat) : Int)) <|
      grd ((Int.toNat x1520) < List.length c1523) <|
      getI .i64 (gp c1523 (Int.toNat x1520)) fun x1536 =>
      grd (((Int.toNat x1519) + 1) ≤ List.length c1522) <|
      grd (((Int.toNat x1520) + 1) ≤ List.length c1523) <|
      getI .i64 (gp (List.set c1522 (Int.toNat x1519) (.int .i64 (IntKind.i64.wrap (x1531 - (minI x1531 x1536))))) (Int.toNat x1519)) fun x1540 =>
      brn (x1540 == 0) (
        brn (decide ((IntKind.i64.wrap (x1519 + 1)) < ((n1329 : Nat) : Int))) (
          m63_L2 N n1329 n1475 n (n1518 + 1) (IntKind.i64.wrap (x1519 + 1)) x1520 (c1521 ++ [(.int .i64 x1519), (.int .i64 x1520)]) (List.set c1522 (Int.toNat x1519) (.int .i64 (IntKind.i64.wrap (x1531 - (minI x1531 x1536))))) (List.set c1523 (Int.toNat x1520) (.int .i64 (IntKind.i64.wrap (x1536 - (minI x1531 x1536)))))) (
          m63_L2 N n1329 n1475 n (n1518 + 1) x1519 (IntKind.i64.wrap (x1520 + 1)) (c1521 ++ [(.int .i64 x1519), (.int .i64 x1520)]) (List.set c1522 (Int.toNat x1519) (.int .i64 (IntKind.i64.wrap (x1531 - (minI x1531 x1536))))) (List.set c1523 (Int.toNat x1520) (.int .i64 (IntKind.i64.wrap (x1536 - (minI x1531 x1536))))))) (
        m63_L2 N n1329 n1475 n (n1518 + 1) x1519 (IntKind.i64.wrap (x1520 + 1)) (c1521 ++ [(.int .i64 x1519), (.int .i64 x1520)]) (List.set c1522 (Int.toNat x1519) (.int .i64 (IntKind.i64.wrap (x1531 - (minI x1531 x1536))))) (List.set c1523 (Int.toNat x1520) (.int .i64 (IntKind.i64.wrap (x1536 - (minI x1531 x1536))))))) (
      some (n1518, c1521))
def m63_L3 (N : Nat) (n1329 : Nat) (n1475 : Nat) : Nat → Nat → Int → Int → List PV → List PV → List PV → Option ((Nat × List PV))
  | 0, _, _, _, _, _, _ => none
  | n + 1, n1585, x1586, x1587, c1588, c1589, c1590 =>
    brn (decide (x1587 < ((n1475 : Nat) : Int))) (
      grd ((n1585 + 1) ≤ 1099511627776) <|
      grd (List.length c1588 = (n1585 * 2)) <|
      grd (0 ≤ x1586 ∧ x1586 < ((n1329 : Nat) : Int)) <|
      grd ((Int.toNat x1586) < List.length c1589) <|
      getI .i64 (gp c1589 (Int.toNat x1586)) fun x1598 =>
      grd (0 ≤ x1587 ∧ x1587 < ((n1475 : Nat) : Int)) <|
      grd ((Int.toNat x1587) < List.length c1590) <|
      getI .i64 (gp c1590 (Int.toNat x1587)) fun x1603 =>
      grd (((Int.toNat x1586) + 1) ≤ List.length c1589) <|
      grd (((Int.toNat x1587) + 1) ≤ List.length c1590) <|
      getI .i64 (gp (List.set c1589 (Int.toNat x1586) (.int .i64 (IntKind.i64.wrap (x1598 - (minI x1598 x1603))))) (Int.toNat x1586)) fun x1607 =>
      brn (x1607 == 0) (
        brn (decide ((IntKind.i64.wrap (x1586 + 1)) < ((n1329 : Nat) : Int))) (
          m63_L3 N n1329 n1475 n (n1585 + 1) (IntKind.i64.wrap (x1586 + 1)) x1587 (c1588 ++ [(.int .i64 x1586), (.int .i64 x1587)]) (List.set c1589 (Int.toNat x1586) (.int .i64 (IntKind.i64.wrap (x1598 - (minI x1598 x1603))))) (List.set c1590 (Int.toNat x1587) (.int .i64 (IntKind.i64.wrap (x1603 - (minI x1598 x1603)))))) (
          m63_L3 N n1329 n1475 n (n1585 + 1) x1586 (IntKind.i64.wrap (x1587 + 1)) (c1588 ++ [(.int .i64 x1586), (.int .i64 x1587)]) (List.set c1589 (Int.toNat x1586) (.int .i64 (IntKind.i64.wrap (x1598 - (minI x1598 x1603))))) (List.set c1590 (Int.toNat x1587) (.int .i64 (IntKind.i64.wrap (x1603 - (minI x1598 x1603))))))) (
        m63_L3 N n1329 n1475 n (n1585 + 1) x1586 (IntKind.i64.wrap (x1587 + 1)) (c1588 ++ [(.int .i64 x1586), (.int .i64 x1587)]) (List.set c1589 (Int.toNat x1586) (.int .i64 (IntKind.i64.wrap (x1598 - (minI x1598 x1603))))) (List.set c1590 (Int.toNat x1587) (.int .i64 (IntKind.i64.wrap (x1603 - (minI x1598 x1603))))))) (
      some (n1585, c1588))
def m63 (N : Nat) (p1324 : PV) : Option (PV) :=
  getA2 p1324 fun p1326 p1327 =>
  getL p1326 fun n1329 c1330 =>
  grd (List.length c1330 = n1329) <|
  brn (decide (0 < n1329)) (
    grd (n1329 ≤ 1099511627776) <|
    getL p1327 fun n1335 c1336 =>
    grd (List.length c1336 = n1335) <|
    brn (decide (0 < n1335)) (
      grd (n1335 ≤ 1099511627776) <|
      bnd' (m63_L0 N n1329 n1335 N 0 0 0 [] c1330 c1336) fun o =>
      match o with
      | (n1403, c1404) =>
        grd (List.length c1404 = (n1403 * 2)) <|
        some (.lst false n1403 c1404)) (
      grd (n1335 ≤ 1099511627776) <|
      bnd' (m63_L1 N n1329 n1335 N 0 0 0 [] c1330 c1336) fun o =>
      match o with
      | (n1470, c1471) =>
        grd (List.length c1471 = (n1470 * 2)) <|
        some (.lst false n1470 c1471))) (
    grd (n1329 ≤ 1099511627776) <|
    getL p1327 fun n1475 c1476 =>
    grd (List.length c1476 = n1475) <|
    brn (decide (0 < n1475)) (
      grd (n1475 ≤ 1099511627776) <|
      bnd' (m63_L2 N n1329 n1475 N 0 0 0 [] c1330 c1476) fun o =>
      match o with
      | (n1543, c1544) =>
        grd (List.length c1544 = (n1543 * 2)) <|
        some (.lst false n1543 c1544)) (
      grd (n1475 ≤ 1099511627776) <|
      bnd' (m63_L3 N n1329 n1475 N 0 0 0 [] c1330 c1476) fun o =>
      match o with
      | (n1610, c1611) =>
        grd (List.length c1611 = (n1610 * 2)) <|
        some (.lst false n1610 c1611)))
theorem c63 (N : Nat) (p1324 : PV) (r : PV)  (h : m63 N p1324 = some r) : FnP Try.prog 63 [p1324] r := by
  unfold m63 at h
  refine Fn_of (sz := 67) tab_ok [0, 1, 2, 3, 4, 5, 6, 7, 8, 20, 61] [.tmp 2] Try.func63 rfl rfl rfl (by simp) ?_
  simp only [initSt, initEnv, List.map_cons, List.map_nil, List.getD_cons_zero, List.getD_cons_succ, List.getD_nil]
  have hh := getA2_some h; clear h; obtain ⟨p1326, p1327, h1325, h⟩ := hh
  have hh := getL_some h; clear h; obtain ⟨n1329, c1330, h1328, h⟩ := hh
  have hh := grd_some h; clear h; obtain ⟨g1331, h⟩ := hh
  have hh := brn_some h; clear h; rcases hh with ⟨h1332, h⟩ | ⟨h1332, h⟩
  · have hh := grd_some h; clear h; obtain ⟨g1333, h⟩ := hh
    have hh := getL_some h; clear h; obtain ⟨n1335, c1336, h1334, h⟩ := hh
    have hh := grd_some h; clear h; obtain ⟨g1337, h⟩ := hh
    have hh := brn_some h; clear h; rcases hh with ⟨h1338, h⟩ | ⟨h1338, h⟩
    · have hh := grd_some h; clear h; obtain ⟨g1339, h⟩ := hh
      refine W_sound tab_ok mixed 31 _ _ _ ?_
      simp -implicitDefEqProofs only [go_sem, qa, qb, qc, qd, qe, qf, qg, qh, qi, qj, qk, ↓reduceIte, h1325, h1328, g1331, h1332, g1333, h1334, g1337, h1338, g1339]
      repeat with_reducible refine ⟨by first | kernel_rfl | decide, ?_⟩
      refine Wp_weaken (Wk_ownS 3 2 rfl (by decide) (by decide)) ?_
      simp -implicitDefEqProofs only [go_sem, qa, qb, qc, qd, qe, qf, qg, qh, qi, qj, qk, ↓reduceIte, h1325, h1328, g1331, h1332, g1333, h1334, g1337, h1338, g1339]
      have hh := bnd'_some h; clear h; obtain ⟨o1613, h1614, h1615⟩ := hh
      refine Wp_cut (fun s => ∃ n1403, ∃ c1404, (n1403, c1404) = o1613 ∧ s = ⟨[], [(0, .dead), (1, .dead), (2, .dead), (3, .sl false 0 0 n1403 2), (4, .dead), (5, .dead), (6, .dead), (7, .dead), (8, .dead), (20, .dead), (61, .dead)], [(0, .p c1404)], 1, []⟩) ?_ ?_
      · refine Wp_block ?_
        refine Wp_loopG (fun n s => ∃ n1378, ∃ x1379, ∃ x1380, ∃ c1381, ∃ c1382, ∃ c1383, m63_L0 N n1329 n1335 n n1378 x1379 x1380 c1381 c1382 c1383 = some o1613 ∧ s = ⟨[], [(0, .dead), (1, .dead), (2, .dead), (3, .sl false 0 0 n1378 2), (4, .sl false 1 0 n1329 1), (5, .sl false 2 0 n1335 1), (6, .v (.int .i64 x1379)), (7, .v (.int .i64 x1380)), (8, .dead), (20, .dead), (61, .dead)], [(0, .p c1381), (1, .p c1382), (2, .p c1383)], 3, []⟩) N _ ((Wk_le (.k (.k (.k (.r (.r (.r (.r (.r (.r (.r (.r .nil))))))))))) (OLe.refl _)).trans (cmpS_ok (st' := ⟨[], [(0, .dead), (1, .dead), (2, .dead), (3, .sl false 0 0 0 2), (4, .sl false 1 0 n1329 1), (5, .sl false 2 0 n1335 1), (6, .v (.int .i64 0)), (7, .v (.int .i64 0)), (8, .dead), (20, .dead), (61, .dead)], [(0, .p []), (1, .p c1330), (2, .p c1336)], 3, []⟩) (by kernel_rfl))) ⟨_, _, _, _, _, _, h1614, rfl⟩ ?_
        clear h1614
        rintro n _ ⟨n1378, x1379, x1380, c1381, c1382, c1383, h1614, rfl⟩
        cases n with
        | zero => cases h1614
        | succ n =>
          rw [m63_L0] at h1614
          have hh := brn_some h1614; clear h1614; rcases hh with ⟨h1384, h1614⟩ | ⟨h1384, h1614⟩
          · have hh := grd_some h1614; clear h1614; obtain ⟨g1385, h1614⟩ := hh
            have hh := grd_some h1614; clear h1614; obtain ⟨g1386, h1614⟩ := hh
            have hh := grd_some h1614; clear h1614; obtain ⟨⟨g1387, g1388⟩, h1614⟩ := hh
            have hh := grd_some h1614; clear h1614; obtain ⟨g1389, h1614⟩ := hh
            have hh := getI_some h1614; clear h1614; obtain ⟨x1391, h1390, h1614⟩ := hh
            have hh := grd_some h1614; clear h1614; obtain ⟨⟨g1392, g1393⟩, h1614⟩ := hh
            have hh := grd_some h1614; clear h1614; obtain ⟨g1394, h1614⟩ := hh
            have hh := getI_some h1614; clear h1614; obtain ⟨x1396, h1395, h1614⟩ := hh
            have hh := grd_some h1614; clear h1614; obtain ⟨g1397, h1614⟩ := hh
            have hh := grd_some h1614; clear h1614; obtain ⟨g1398, h1614⟩ := hh
            have hh := getI_some h1614; clear h1614; obtain ⟨x1400, h1399, h1614⟩ := hh
            have hh := brn_some h1614; clear h1614; rcases hh with ⟨h1401, h1614⟩ | ⟨h1401, h1614⟩
            · have hh := brn_some h1614; clear h1614; rcases hh with ⟨h1402, h1614⟩ | ⟨h1402, h1614⟩
              · refine W_sound tab_ok mixed 78 _ _ _ ?_
                simp -implicitDefEqProofs only [go_sem, qa, qb, qc, qd, qe, qf, qg, qh, qi, qj, qk, ↓reduceIte, h1325, h1328, g1331, h1332, g1333, h1334, g1337, h1338, g1339, h1384, g1385, g1386, g1387, g1388, g1389, h1390, g1392, g1393, g1394, h1395, g1397, g1398, h1399, h1401, h1402]
                repeat with_reducible refine ⟨by first | kernel_rfl | decide, ?_⟩
                exact cutQ _ ((Wk_le (.r (.r (.r (.r (.r (.r (.r (.r (.k (.k (.k .nil))))))))))) (OLe.refl _)).trans (cmpS_ok (st' := ⟨[], [(0, .dead), (1, .dead), (2, .dead), (3, .sl false 0 0 (n1378 + 1) 2), (4, .sl false 1 0 n1329 1), (5, .sl false 2 0 n1335 1), (6, .v (.int .i64 (IntKind.i64.wrap (x1379 + 1)))), (7, .v (.int .i64 x1380)), (8, .dead), (20, .dead), (61, .dead)], [(0, .p (c1381 ++ [(.int .i64 x1379), (.int .i64 x1380)])), (1, .p (List.set c1382 (Int.toNat x1379) (.int .i64 (IntKind.i64.wrap (x1391 - (minI x1391 x1396)))))), (2, .p (List.set c1383 (Int.toNat x1380) (.int .i64 (IntKind.i64.wrap (x1396 - (minI x1391 x1396))))))], 3, []⟩) (by kernel_rfl))) ⟨n, Nat.lt_succ_self n, _, _, _, _, _, _, h1614, rfl⟩
              · refine W_sound tab_ok mixed 78 _ _ _ ?_
                simp -implicitDefEqProofs only [go_sem, qa, qb, qc, qd, qe, qf, qg, qh, qi, qj, qk, ↓reduceIte, h1325, h1328, g1331, h1332, g1333, h1334, g1337, h1338, g1339, h1384, g1385, g1386, g1387, g1388, g1389, h1390, g1392, g1393, g1394, h1395, g1397, g1398, h1399, h1401, h1402]
                repeat with_reducible refine ⟨by first | kernel_rfl | decide, ?_⟩
                exact cutQ _ ((Wk_le (.r (.r (.r (.r (.r (.r (.r (.r (.k (.k (.k .nil))))))))))) (OLe.refl _)).trans (cmpS_ok (st' := ⟨[], [(0, .dead), (1, .dead), (2, .dead), (3, .sl false 0 0 (n1378 + 1) 2), (4, .sl false 1 0 n1329 1), (5, .sl false 2 0 n1335 1), (6, .v (.int .i64 x1379)), (7, .v (.int .i64 (IntKind.i64.wrap (x1380 + 1)))), (8, .dead), (20, .dead), (61, .dead)], [(0, .p (c1381 ++ [(.int .i64 x1379), (.int .i64 x1380)])), (1, .p (List.set c1382 (Int.toNat x1379) (.int .i64 (IntKind.i64.wrap (x1391 - (minI x1391 x1396)))))), (2, .p (List.set c1383 (Int.toNat x1380) (.int .i64 (IntKind.i64.wrap (x1396 - (minI x1391 x1396))))))], 3, []⟩) (by kernel_rfl))) ⟨n, Nat.lt_succ_self n, _, _, _, _, _, _, h1614, rfl⟩
            · refine W_sound tab_ok mixed 78 _ _ _ ?_
              simp -implicitDefEqProofs only [go_sem, qa, qb, qc, qd, qe, qf, qg, qh, qi, qj, qk, ↓reduceIte, h1325, h1328, g1331, h1332, g1333, h1334, g1337, h1338, g1339, h1384, g1385, g1386, g1387, g1388, g1389, h1390, g1392, g1393, g1394, h1395, g1397, g1398, h1399, h1401]
              repeat with_reducible refine ⟨by first | kernel_rfl | decide, ?_⟩
              exact cutQ _ ((Wk_le (.r (.r (.r (.r (.r (.r (.r (.r (.k (.k (.k .nil))))))))))) (OLe.refl _)).trans (cmpS_ok (st' := ⟨[], [(0, .dead), (1, .dead), (2, .dead), (3, .sl false 0 0 (n1378 + 1) 2), (4, .sl false 1 0 n1329 1), (5, .sl false 2 0 n1335 1), (6, .v (.int .i64 x1379)), (7, .v (.int .i64 (IntKind.i64.wrap (x1380 + 1)))), (8, .dead), (20, .dead), (61, .dead)], [(0, .p (c1381 ++ [(.int .i64 x1379), (.int .i64 x1380)])), (1, .p (List.set c1382 (Int.toNat x1379) (.int .i64 (IntKind.i64.wrap (x1391 - (minI x1391 x1396)))))), (2, .p (List.set c1383 (Int.toNat x1380) (.int .i64 (IntKind.i64.wrap (x1396 - (minI x1391 x1396))))))], 3, []⟩) (by kernel_rfl))) ⟨n, Nat.lt_succ_self n, _, _, _, _, _, _, h1614, rfl⟩
          · refine W_sound tab_ok mixed 10 _ _ _ ?_
            simp -implicitDefEqProofs only [go_sem, qa, qb, qc, qd, qe, qf, qg, qh, qi, qj, qk, ↓reduceIte, h1325, h1328, g1331, h1332, g1333, h1334, g1337, h1338, g1339, h1384]
            repeat with_reducible refine ⟨by first | kernel_rfl | decide, ?_⟩
            obtain rfl := Option.some.inj h1614
            exact cutQ _ ((Wk_le (.r (.r (.r (.r (.k (.k (.k (.k (.r (.k (.r .nil))))))))))) (OLe.refl _)).trans (cmpS_ok (st' := ⟨[], [(0, .dead), (1, .dead), (2, .dead), (3, .sl false 0 0 n1378 2), (4, .dead), (5, .dead), (6, .dead), (7, .dead), (8, .dead), (20, .dead), (61, .dead)], [(0, .p c1381)], 1, []⟩) (by kernel_rfl))) ⟨_, _, rfl, rfl⟩
      · rintro _ ⟨n1403, c1404, rfl, rfl⟩
        (try dsimp only at h1615)
        refine W_sound tab_ok mixed 7 _ _ _ ?_
        simp -implicitDefEqProofs only [go_sem, qa, qb, qc, qd, qe, qf, qg, qh, qi, qj, qk, ↓reduceIte, h1325, h1328, g1331, h1332, g1333, h1334, g1337, h1338, g1339]
        repeat with_reducible refine ⟨by first | kernel_rfl | decide, ?_⟩
        have hh := grd_some h1615; clear h1615; obtain ⟨g1405, h1615⟩ := hh
        refine FinQ_wk (Wk_freeze 0 c1404 (by rfl) (by decide) (by decide)) ?_
        simp -implicitDefEqProofs only [go_sem, qa, qb, qc, qd, qe, qf, qg, qh, qi, qj, qk, ↓reduceIte, h1325, h1328, g1331, h1332, g1333, h1334, g1337, h1338, g1339, g1405]
        obtain rfl := Option.some.inj h1615
        exact finC [(2, .v (.lst false n1403 c1404))] [(2, .v (.lst false n1403 c1404))] (by simp [leE, lk_cons]) (.cons _ _ _ _ _ (.v _ _ (.refl _)) .nil) (by rfl) (by simp [leE, lk_cons]) (by decide) (by decide) rfl (by simp only [go_sem, qa, qb, qc, qd, qe, qf, qg, qh, qi, qj, qk, ↓reduceIte, resQ_tmp, resQ_cell, resQ_nil, retD_one, retD_two, retD_three, retD_none]; try simp [R.val, retD_one, retD_two, retD_three, retD_none])
    · have hh := grd_some h; clear h; obtain ⟨g1406, h⟩ := hh
      refine W_sound tab_ok mixed 31 _ _ _ ?_
      simp -implicitDefEqProofs only [go_sem, qa, qb, qc, qd, qe, qf, qg, qh, qi, qj, qk, ↓reduceIte, h1325, h1328, g1331, h1332, g1333, h1334, g1337, h1338, g1406]
      repeat with_reducible refine ⟨by first | kernel_rfl | decide, ?_⟩
      refine Wp_weaken (Wk_ownS 3 2 rfl (by decide) (by decide)) ?_
      simp -implicitDefEqProofs only [go_sem, qa, qb, qc, qd, qe, qf, qg, qh, qi, qj, qk, ↓reduceIte, h1325, h1328, g1331, h1332, g1333, h1334, g1337, h1338, g1406]
      have hh := bnd'_some h; clear h; obtain ⟨o1616, h1617, h1618⟩ := hh
      refine Wp_cut (fun s => ∃ n1470, ∃ c1471, (n1470, c1471) = o1616 ∧ s = ⟨[], [(0, .dead), (1, .dead), (2, .dead), (3, .sl false 0 0 n1470 2), (4, .dead), (5, .dead), (6, .dead), (7, .dead), (8, .dead), (20, .dead), (61, .dead)], [(0, .p c1471)], 1, []⟩) ?_ ?_
      · refine Wp_block ?_
        refine Wp_loopG (fun n s => ∃ n1445, ∃ x1446, ∃ x1447, ∃ c1448, ∃ c1449, ∃ c1450, m63_L1 N n1329 n1335 n n1445 x1446 x1447 c1448 c1449 c1450 = some o1616 ∧ s = ⟨[], [(0, .dead), (1, .dead), (2, .dead), (3, .sl false 0 0 n1445 2), (4, .sl false 1 0 n1329 1), (5, .sl false 2 0 n1335 1), (6, .v (.int .i64 x1446)), (7, .v (.int .i64 x1447)), (8, .dead), (20, .dead), (61, .dead)], [(0, .p c1448), (1, .p c1449), (2, .p c1450)], 3, []⟩) N _ ((Wk_le (.k (.k (.k (.r (.r (.r (.r (.r (.r (.r (.r .nil))))))))))) (OLe.refl _)).trans (cmpS_ok (st' := ⟨[], [(0, .dead), (1, .dead), (2, .dead), (3, .sl false 0 0 0 2), (4, .sl false 1 0 n1329 1), (5, .sl false 2 0 n1335 1), (6, .v (.int .i64 0)), (7, .v (.int .i64 0)), (8, .dead), (20, .dead), (61, .dead)], [(0, .p []), (1, .p c1330), (2, .p c1336)], 3, []⟩) (by kernel_rfl))) ⟨_, _, _, _, _, _, h1617, rfl⟩ ?_
        clear h1617
        rintro n _ ⟨n1445, x1446, x1447, c1448, c1449, c1450, h1617, rfl⟩
        cases n with
        | zero => cases h1617
        | succ n =>
          rw [m63_L1] at h1617
          have hh := brn_some h1617; clear h1617; rcases hh with ⟨h1451, h1617⟩ | ⟨h1451, h1617⟩
          · have hh := grd_some h1617; clear h1617; obtain ⟨g1452, h1617⟩ := hh
            have hh := grd_some h1617; clear h1617; obtain ⟨g1453, h1617⟩ := hh
            have hh := grd_some h1617; clear h1617; obtain ⟨⟨g1454, g1455⟩, h1617⟩ := hh
            have hh := grd_some h1617; clear h1617; obtain ⟨g1456, h1617⟩ := hh
            have hh := getI_some h1617; clear h1617; obtain ⟨x1458, h1457, h1617⟩ := hh
            have hh := grd_some h1617; clear h1617; obtain ⟨⟨g1459, g1460⟩, h1617⟩ := hh
            have hh := grd_some h1617; clear h1617; obtain ⟨g1461, h1617⟩ := hh
            have hh := getI_some h1617; clear h1617; obtain ⟨x1463, h1462, h1617⟩ := hh
            have hh := grd_some h1617; clear h1617; obtain ⟨g1464, h1617⟩ := hh
            have hh := grd_some h1617; clear h1617; obtain ⟨g1465, h1617⟩ := hh
            have hh := getI_some h1617; clear h1617; obtain ⟨x1467, h1466, h1617⟩ := hh
            have hh := brn_some h1617; clear h1617; rcases hh with ⟨h1468, h1617⟩ | ⟨h1468, h1617⟩
            · have hh := brn_some h1617; clear h1617; rcases hh with ⟨h1469, h1617⟩ | ⟨h1469, h1617⟩
              · refine W_sound tab_ok mixed 78 _ _ _ ?_
                simp -implicitDefEqProofs only [go_sem, qa, qb, qc, qd, qe, qf, qg, qh, qi, qj, qk, ↓reduceIte, h1325, h1328, g1331, h1332, g1333, h1334, g1337, h1338, g1406, h1451, g1452, g1453, g1454, g1455, g1456, h1457, g1459, g1460, g1461, h1462, g1464, g1465, h1466, h1468, h1469]
                repeat with_reducible refine ⟨by first | kernel_rfl | decide, ?_⟩
                exact cutQ _ ((Wk_le (.r (.r (.r (.r (.r (.r (.r (.r (.k (.k (.k .nil))))))))))) (OLe.refl _)).trans (cmpS_ok (st' := ⟨[], [(0, .dead), (1, .dead), (2, .dead), (3, .sl false 0 0 (n1445 + 1) 2), (4, .sl false 1 0 n1329 1), (5, .sl false 2 0 n1335 1), (6, .v (.int .i64 (IntKind.i64.wrap (x1446 + 1)))), (7, .v (.int .i64 x1447)), (8, .dead), (20, .dead), (61, .dead)], [(0, .p (c1448 ++ [(.int .i64 x1446), (.int .i64 x1447)])), (1, .p (List.set c1449 (Int.toNat x1446) (.int .i64 (IntKind.i64.wrap (x1458 - (minI x1458 x1463)))))), (2, .p (List.set c1450 (Int.toNat x1447) (.int .i64 (IntKind.i64.wrap (x1463 - (minI x1458 x1463))))))], 3, []⟩) (by kernel_rfl))) ⟨n, Nat.lt_succ_self n, _, _, _, _, _, _, h1617, rfl⟩
              · refine W_sound tab_ok mixed 78 _ _ _ ?_
                simp -implicitDefEqProofs only [go_sem, qa, qb, qc, qd, qe, qf, qg, qh, qi, qj, qk, ↓reduceIte, h1325, h1328, g1331, h1332, g1333, h1334, g1337, h1338, g1406, h1451, g1452, g1453, g1454, g1455, g1456, h1457, g1459, g1460, g1461, h1462, g1464, g1465, h1466, h1468, h1469]
                repeat with_reducible refine ⟨by first | kernel_rfl | decide, ?_⟩
                exact cutQ _ ((Wk_le (.r (.r (.r (.r (.r (.r (.r (.r (.k (.k (.k .nil))))))))))) (OLe.refl _)).trans (cmpS_ok (st' := ⟨[], [(0, .dead), (1, .dead), (2, .dead), (3, .sl false 0 0 (n1445 + 1) 2), (4, .sl false 1 0 n1329 1), (5, .sl false 2 0 n1335 1), (6, .v (.int .i64 x1446)), (7, .v (.int .i64 (IntKind.i64.wrap (x1447 + 1)))), (8, .dead), (20, .dead), (61, .dead)], [(0, .p (c1448 ++ [(.int .i64 x1446), (.int .i64 x1447)])), (1, .p (List.set c1449 (Int.toNat x1446) (.int .i64 (IntKind.i64.wrap (x1458 - (minI x1458 x1463)))))), (2, .p (List.set c1450 (Int.toNat x1447) (.int .i64 (IntKind.i64.wrap (x1463 - (minI x1458 x1463))))))], 3, []⟩) (by kernel_rfl))) ⟨n, Nat.lt_succ_self n, _, _, _, _, _, _, h1617, rfl⟩
            · refine W_sound tab_ok mixed 78 _ _ _ ?_
              simp -implicitDefEqProofs only [go_sem, qa, qb, qc, qd, qe, qf, qg, qh, qi, qj, qk, ↓reduceIte, h1325, h1328, g1331, h1332, g1333, h1334, g1337, h1338, g1406, h1451, g1452, g1453, g1454, g1455, g1456, h1457, g1459, g1460, g1461, h1462, g1464, g1465, h1466, h1468]
              repeat with_reducible refine ⟨by first | kernel_rfl | decide, ?_⟩
              exact cutQ _ ((Wk_le (.r (.r (.r (.r (.r (.r (.r (.r (.k (.k (.k .nil))))))))))) (OLe.refl _)).trans (cmpS_ok (st' := ⟨[], [(0, .dead), (1, .dead), (2, .dead), (3, .sl false 0 0 (n1445 + 1) 2), (4, .sl false 1 0 n1329 1), (5, .sl false 2 0 n1335 1), (6, .v (.int .i64 x1446)), (7, .v (.int .i64 (IntKind.i64.wrap (x1447 + 1)))), (8, .dead), (20, .dead), (61, .dead)], [(0, .p (c1448 ++ [(.int .i64 x1446), (.int .i64 x1447)])), (1, .p (List.set c1449 (Int.toNat x1446) (.int .i64 (IntKind.i64.wrap (x1458 - (minI x1458 x1463)))))), (2, .p (List.set c1450 (Int.toNat x1447) (.int .i64 (IntKind.i64.wrap (x1463 - (minI x1458 x1463))))))], 3, []⟩) (by kernel_rfl))) ⟨n, Nat.lt_succ_self n, _, _, _, _, _, _, h1617, rfl⟩
          · refine W_sound tab_ok mixed 10 _ _ _ ?_
            simp -implicitDefEqProofs only [go_sem, qa, qb, qc, qd, qe, qf, qg, qh, qi, qj, qk, ↓reduceIte, h1325, h1328, g1331, h1332, g1333, h1334, g1337, h1338, g1406, h1451]
            repeat with_reducible refine ⟨by first | kernel_rfl | decide, ?_⟩
            obtain rfl := Option.some.inj h1617
            exact cutQ _ ((Wk_le (.r (.r (.r (.r (.k (.k (.k (.k (.r (.k (.r .nil))))))))))) (OLe.refl _)).trans (cmpS_ok (st' := ⟨[], [(0, .dead), (1, .dead), (2, .dead), (3, .sl false 0 0 n1445 2), (4, .dead), (5, .dead), (6, .dead), (7, .dead), (8, .dead), (20, .dead), (61, .dead)], [(0, .p c1448)], 1, []⟩) (by kernel_rfl))) ⟨_, _, rfl, rfl⟩
      · rintro _ ⟨n1470, c1471, rfl, rfl⟩
        (try dsimp only at h1618)
        refine W_sound tab_ok mixed 7 _ _ _ ?_
        simp -implicitDefEqProofs only [go_sem, qa, qb, qc, qd, qe, qf, qg, qh, qi, qj, qk, ↓reduceIte, h1325, h1328, g1331, h1332, g1333, h1334, g1337, h1338, g1406]
        repeat with_reducible refine ⟨by first | kernel_rfl | decide, ?_⟩
        have hh := grd_some h1618; clear h1618; obtain ⟨g1472, h1618⟩ := hh
        refine FinQ_wk (Wk_freeze 0 c1471 (by rfl) (by decide) (by decide)) ?_
        simp -implicitDefEqProofs only [go_sem, qa, qb, qc, qd, qe, qf, qg, qh, qi, qj, qk, ↓reduceIte, h1325, h1328, g1331, h1332, g1333, h1334, g1337, h1338, g1406, g1472]
        obtain rfl := Option.some.inj h1618
        exact finC [(2, .v (.lst false n1470 c1471))] [(2, .v (.lst false n1470 c1471))] (by simp [leE, lk_cons]) (.cons _ _ _ _ _ (.v _ _ (.refl _)) .nil) (by rfl) (by simp [leE, lk_cons]) (by decide) (by decide) rfl (by simp only [go_sem, qa, qb, qc, qd, qe, qf, qg, qh, qi, qj, qk, ↓reduceIte, resQ_tmp, resQ_cell, resQ_nil, retD_one, retD_two, retD_three, retD_none]; try simp [R.val, retD_one, retD_two, retD_three, retD_none])
  · have hh := grd_some h; clear h; obtain ⟨g1473, h⟩ := hh
    have hh := getL_some h; clear h; obtain ⟨n1475, c1476, h1474, h⟩ := hh
    have hh := grd_some h; clear h; obtain ⟨g1477, h⟩ := hh
    have hh := brn_some h; clear h; rcases hh with ⟨h1478, h⟩ | ⟨h1478, h⟩
    · have hh := grd_some h; clear h; obtain ⟨g1479, h⟩ := hh
      refine W_sound tab_ok mixed 31 _ _ _ ?_
      simp -implicitDefEqProofs only [go_sem, qa, qb, qc, qd, qe, qf, qg, qh, qi, qj, qk, ↓reduceIte, h1325, h1328, g1331, h1332, g1473, h1474, g1477, h1478, g1479]
      repeat with_reducible refine ⟨by first | kernel_rfl | decide, ?_⟩
      refine Wp_weaken (Wk_ownS 3 2 rfl (by decide) (by decide)) ?_
      simp -implicitDefEqProofs only [go_sem, qa, qb, qc, qd, qe, qf, qg, qh, qi, qj, qk, ↓reduceIte, h1325, h1328, g1331, h1332, g1473, h1474, g1477, h1478, g1479]
      have hh := bnd'_some h; clear h; obtain ⟨o1619, h1620, h1621⟩ := hh
      refine Wp_cut (fun s => ∃ n1543, ∃ c1544, (n1543, c1544) = o1619 ∧ s = ⟨[], [(0, .dead), (1, .dead), (2, .dead), (3, .sl false 0 0 n1543 2), (4, .dead), (5, .dead), (6, .dead), (7, .dead), (8, .dead), (20, .dead), (61, .dead)], [(0, .p c1544)], 1, []⟩) ?_ ?_
      · refine Wp_block ?_
        refine Wp_loopG (fun n s => ∃ n1518, ∃ x1519, ∃ x1520, ∃ c1521, ∃ c1522, ∃ c1523, m63_L2 N n1329 n1475 n n1518 x1519 x1520 c1521 c1522 c1523 = some o1619 ∧ s = ⟨[], [(0, .dead), (1, .dead), (2, .dead), (3, .sl false 0 0 n1518 2), (4, .sl false 1 0 n1329 1), (5, .sl false 2 0 n1475 1), (6, .v (.int .i64 x1519)), (7, .v (.int .i64 x1520)), (8, .dead), (20, .dead), (61, .dead)], [(0, .p c1521), (1, .p c1522), (2, .p c1523)], 3, []⟩) N _ ((Wk_le (.k (.k (.k (.r (.r (.r (.r (.r (.r (.r (.r .nil))))))))))) (OLe.refl _)).trans (cmpS_ok (st' := ⟨[], [(0, .dead), (1, .dead), (2, .dead), (3, .sl false 0 0 0 2), (4, .sl false 1 0 n1329 1), (5, .sl false 2 0 n1475 1), (6, .v (.int .i64 0)), (7, .v (.int .i64 0)), (8, .dead), (20, .dead), (61, .dead)], [(0, .p []), (1, .p c1330), (2, .p c1476)], 3, []⟩) (by kernel_rfl))) ⟨_, _, _, _, _, _, h1620, rfl⟩ ?_
        clear h1620
        rintro n _ ⟨n1518, x1519, x1520, c1521, c1522, c1523, h1620, rfl⟩
        cases n with
        | zero => cases h1620
        | succ n =>
          rw [m63_L2] at h1620
          have hh := brn_some h1620; clear h1620; rcases hh with ⟨h1524, h1620⟩ | ⟨h1524, h1620⟩
          · have hh := grd_some h1620; clear h1620; obtain ⟨g1525, h1620⟩ := hh
            have hh := grd_some h1620; clear h1620; obtain ⟨g1526, h1620⟩ := hh
            have hh := grd_some h1620; clear h1620; obtain ⟨⟨g1527, g1528⟩, h1620⟩ := hh
            have hh := grd_some h1620; clear h1620; obtain ⟨g1529, h1620⟩ := hh
            have hh := getI_some h1620; clear h1620; obtain ⟨x1531, h1530, h1620⟩ := hh
            have hh := grd_some h1620; clear h1620; obtain ⟨⟨g1532, g1533⟩, h1620⟩ := hh
            have hh := grd_some h1620; clear h1620; obtain ⟨g1534, h1620⟩ := hh
            have hh := getI_some h1620; clear h1620; obtain ⟨x1536, h1535, h1620⟩ := hh
            have hh := grd_some h1620; clear h1620; obtain ⟨g1537, h1620⟩ := hh
            have hh := grd_some h1620; clear h1620; obtain ⟨g1538, h1620⟩ := hh
            have hh := getI_some h1620; clear h1620; obtain ⟨x1540, h1539, h1620⟩ := hh
            have hh := brn_some h1620; clear h1620; rcases hh with ⟨h1541, h1620⟩ | ⟨h1541, h1620⟩
            · have hh := brn_some h1620; clear h1620; rcases hh with ⟨h1542, h1620⟩ | ⟨h1542, h1620⟩
              · refine W_sound tab_ok mixed 78 _ _ _ ?_
                simp -implicitDefEqProofs only [go_sem, qa, qb, qc, qd, qe, qf, qg, qh, qi, qj, qk, ↓reduceIte, h1325, h1328, g1331, h1332, g1473, h1474, g1477, h1478, g1479, h1524, g1525, g1526, g1527, g1528, g1529, h1530, g1532, g1533, g1534, h1535, g1537, g1538, h1539, h1541, h1542]
                repeat with_reducible refine ⟨by first | kernel_rfl | decide, ?_⟩
                exact cutQ _ ((Wk_le (.r (.r (.r (.r (.r (.r (.r (.r (.k (.k (.k .nil))))))))))) (OLe.refl _)).trans (cmpS_ok (st' := ⟨[], [(0, .dead), (1, .dead), (2, .dead), (3, .sl false 0 0 (n1518 + 1) 2), (4, .sl false 1 0 n1329 1), (5, .sl false 2 0 n1475 1), (6, .v (.int .i64 (IntKind.i64.wrap (x1519 + 1)))), (7, .v (.int .i64 x1520)), (8, .dead), (20, .dead), (61, .dead)], [(0, .p (c1521 ++ [(.int .i64 x1519), (.int .i64 x1520)])), (1, .p (List.set c1522 (Int.toNat x1519) (.int .i64 (IntKind.i64.wrap (x1531 - (minI x1531 x1536)))))), (2, .p (List.set c1523 (Int.toNat x1520) (.int .i64 (IntKind.i64.wrap (x1536 - (minI x1531 x1536))))))], 3, []⟩) (by kernel_rfl))) ⟨n, Nat.lt_succ_self n, _, _, _, _, _, _, h1620, rfl⟩
              · refine W_sound tab_ok mixed 78 _ _ _ ?_
                simp -implicitDefEqProofs only [go_sem, qa, qb, qc, qd, qe, qf, qg, qh, qi, qj, qk, ↓reduceIte, h1325, h1328, g1331, h1332, g1473, h1474, g1477, h1478, g1479, h1524, g1525, g1526, g1527, g1528, g1529, h1530, g1532, g1533, g1534, h1535, g1537, g1538, h1539, h1541, h1542]
                repeat with_reducible refine ⟨by first | kernel_rfl | decide, ?_⟩
                exact cutQ _ ((Wk_le (.r (.r (.r (.r (.r (.r (.r (.r (.k (.k (.k .nil))))))))))) (OLe.refl _)).trans (cmpS_ok (st' := ⟨[], [(0, .dead), (1, .dead), (2, .dead), (3, .sl false 0 0 (n1518 + 1) 2), (4, .sl false 1 0 n1329 1), (5, .sl false 2 0 n1475 1), (6, .v (.int .i64 x1519)), (7, .v (.int .i64 (IntKind.i64.wrap (x1520 + 1)))), (8, .dead), (20, .dead), (61, .dead)], [(0, .p (c1521 ++ [(.int .i64 x1519), (.int .i64 x1520)])), (1, .p (List.set c1522 (Int.toNat x1519) (.int .i64 (IntKind.i64.wrap (x1531 - (minI x1531 x1536)))))), (2, .p (List.set c1523 (Int.toNat x1520) (.int .i64 (IntKind.i64.wrap (x1536 - (minI x1531 x1536))))))], 3, []⟩) (by kernel_rfl))) ⟨n, Nat.lt_succ_self n, _, _, _, _, _, _, h1620, rfl⟩
            · refine W_sound tab_ok mixed 78 _ _ _ ?_
              simp -implicitDefEqProofs only [go_sem, qa, qb, qc, qd, qe, qf, qg, qh, qi, qj, qk, ↓reduceIte, h1325, h1328, g1331, h1332, g1473, h1474, g1477, h1478, g1479, h1524, g1525, g1526, g1527, g1528, g1529, h1530, g1532, g1533, g1534, h1535, g1537, g1538, h1539, h1541]
              repeat with_reducible refine ⟨by first | kernel_rfl | decide, ?_⟩
              exact cutQ _ ((Wk_le (.r (.r (.r (.r (.r (.r (.r (.r (.k (.k (.k .nil))))))))))) (OLe.refl _)).trans (cmpS_ok (st' := ⟨[], [(0, .dead), (1, .dead), (2, .dead), (3, .sl false 0 0 (n1518 + 1) 2), (4, .sl false 1 0 n1329 1), (5, .sl false 2 0 n1475 1), (6, .v (.int .i64 x1519)), (7, .v (.int .i64 (IntKind.i64.wrap (x1520 + 1)))), (8, .dead), (20, .dead), (61, .dead)], [(0, .p (c1521 ++ [(.int .i64 x1519), (.int .i64 x1520)])), (1, .p (List.set c1522 (Int.toNat x1519) (.int .i64 (IntKind.i64.wrap (x1531 - (minI x1531 x1536)))))), (2, .p (List.set c1523 (Int.toNat x1520) (.int .i64 (IntKind.i64.wrap (x1536 - (minI x1531 x1536))))))], 3, []⟩) (by kernel_rfl))) ⟨n, Nat.lt_succ_self n, _, _, _, _, _, _, h1620, rfl⟩
          · refine W_sound tab_ok mixed 10 _ _ _ ?_
            simp -implicitDefEqProofs only [go_sem, qa, qb, qc, qd, qe, qf, qg, qh, qi, qj, qk, ↓reduceIte, h1325, h1328, g1331, h1332, g1473, h1474, g1477, h1478, g1479, h1524]
            repeat with_reducible refine ⟨by first | kernel_rfl | decide, ?_⟩
            obtain rfl := Option.some.inj h1620
            exact cutQ _ ((Wk_le (.r (.r (.r (.r (.k (.k (.k (.k (.r (.k (.r .nil))))))))))) (OLe.refl _)).trans (cmpS_ok (st' := ⟨[], [(0, .dead), (1, .dead), (2, .dead), (3, .sl false 0 0 n1518 2), (4, .dead), (5, .dead), (6, .dead), (7, .dead), (8, .dead), (20, .dead), (61, .dead)], [(0, .p c1521)], 1, []⟩) (by kernel_rfl))) ⟨_, _, rfl, rfl⟩
      · rintro _ ⟨n1543, c1544, rfl, rfl⟩
        (try dsimp only at h1621)
        refine W_sound tab_ok mixed 7 _ _ _ ?_
        simp -implicitDefEqProofs only [go_sem, qa, qb, qc, qd, qe, qf, qg, qh, qi, qj, qk, ↓reduceIte, h1325, h1328, g1331, h1332, g1473, h1474, g1477, h1478, g1479]
        repeat with_reducible refine ⟨by first | kernel_rfl | decide, ?_⟩
        have hh := grd_some h1621; clear h1621; obtain ⟨g1545, h1621⟩ := hh
        refine FinQ_wk (Wk_freeze 0 c1544 (by rfl) (by decide) (by decide)) ?_
        simp -implicitDefEqProofs only [go_sem, qa, qb, qc, qd, qe, qf, qg, qh, qi, qj, qk, ↓reduceIte, h1325, h1328, g1331, h1332, g1473, h1474, g1477, h1478, g1479, g1545]
        obtain rfl := Option.some.inj h1621
        exact finC [(2, .v (.lst false n1543 c1544))] [(2, .v (.lst false n1543 c1544))] (by simp [leE, lk_cons]) (.cons _ _ _ _ _ (.v _ _ (.refl _)) .nil) (by rfl) (by simp [leE, lk_cons]) (by decide) (by decide) rfl (by simp only [go_sem, qa, qb, qc, qd, qe, qf, qg, qh, qi, qj, qk, ↓reduceIte, resQ_tmp, resQ_cell, resQ_nil, retD_one, retD_two, retD_three, retD_none]; try simp [R.val, retD_one, retD_two, retD_three, retD_none])
    · have hh := grd_some h; clear h; obtain ⟨g1546, h⟩ := hh
      refine W_sound tab_ok mixed 31 _ _ _ ?_
      simp -implicitDefEqProofs only [go_sem, qa, qb, qc, qd, qe, qf, qg, qh, qi, qj, qk, ↓reduceIte, h1325, h1328, g1331, h1332, g1473, h1474, g1477, h1478, g1546]
      repeat with_reducible refine ⟨by first | kernel_rfl | decide, ?_⟩
      refine Wp_weaken (Wk_ownS 3 2 rfl (by decide) (by decide)) ?_
      simp -implicitDefEqProofs only [go_sem, qa, qb, qc, qd, qe, qf, qg, qh, qi, qj, qk, ↓reduceIte, h1325, h1328, g1331, h1332, g1473, h1474, g1477, h1478, g1546]
      have hh := bnd'_some h; clear h; obtain ⟨o1622, h1623, h1624⟩ := hh
      refine Wp_cut (fun s => ∃ n1610, ∃ c1611, (n1610, c1611) = o1622 ∧ s = ⟨[], [(0, .dead), (1, .dead), (2, .dead), (3, .sl false 0 0 n1610 2), (4, .dead), (5, .dead), (6, .dead), (7, .dead), (8, .dead), (20, .dead), (61, .dead)], [(0, .p c1611)], 1, []⟩) ?_ ?_
      · refine Wp_block ?_
        refine Wp_loopG (fun n s => ∃ n1585, ∃ x1586, ∃ x1587, ∃ c1588, ∃ c1589, ∃ c1590, m63_L3 N n1329 n1475 n n1585 x1586 x1587 c1588 c1589 c1590 = some o1622 ∧ s = ⟨[], [(0, .dead), (1, .dead), (2, .dead), (3, .sl false 0 0 n1585 2), (4, .sl false 1 0 n1329 1), (5, .sl false 2 0 n1475 1), (6, .v (.int .i64 x1586)), (7, .v (.int .i64 x1587)), (8, .dead), (20, .dead), (61, .dead)], [(0, .p c1588), (1, .p c1589), (2, .p c1590)], 3, []⟩) N _ ((Wk_le (.k (.k (.k (.r (.r (.r (.r (.r (.r (.r (.r .nil))))))))))) (OLe.refl _)).trans (cmpS_ok (st' := ⟨[], [(0, .dead), (1, .dead), (2, .dead), (3, .sl false 0 0 0 2), (4, .sl false 1 0 n1329 1), (5, .sl false 2 0 n1475 1), (6, .v (.int .i64 0)), (7, .v (.int .i64 0)), (8, .dead), (20, .dead), (61, .dead)], [(0, .p []), (1, .p c1330), (2, .p c1476)], 3, []⟩) (by kernel_rfl))) ⟨_, _, _, _, _, _, h1623, rfl⟩ ?_
        clear h1623
        rintro n _ ⟨n1585, x1586, x1587, c1588, c1589, c1590, h1623, rfl⟩
        cases n with
        | zero => cases h1623
        | succ n =>
          rw [m63_L3] at h1623
          have hh := brn_some h1623; clear h1623; rcases hh with ⟨h1591, h1623⟩ | ⟨h1591, h1623⟩
          · have hh := grd_some h1623; clear h1623; obtain ⟨g1592, h1623⟩ := hh
            have hh := grd_some h1623; clear h1623; obtain ⟨g1593, h1623⟩ := hh
            have hh := grd_some h1623; clear h1623; obtain ⟨⟨g1594, g1595⟩, h1623⟩ := hh
            have hh := grd_some h1623; clear h1623; obtain ⟨g1596, h1623⟩ := hh
            have hh := getI_some h1623; clear h1623; obtain ⟨x1598, h1597, h1623⟩ := hh
            have hh := grd_some h1623; clear h1623; obtain ⟨⟨g1599, g1600⟩, h1623⟩ := hh
            have hh := grd_some h1623; clear h1623; obtain ⟨g1601, h1623⟩ := hh
            have hh := getI_some h1623; clear h1623; obtain ⟨x1603, h1602, h1623⟩ := hh
            have hh := grd_some h1623; clear h1623; obtain ⟨g1604, h1623⟩ := hh
            have hh := grd_some h1623; clear h1623; obtain ⟨g1605, h1623⟩ := hh
            have hh := getI_some h1623; clear h1623; obtain ⟨x1607, h1606, h1623⟩ := hh
            have hh := brn_some h1623; clear h1623; rcases hh with ⟨h1608, h1623⟩ | ⟨h1608, h1623⟩
            · have hh := brn_some h1623; clear h1623; rcases hh with ⟨h1609, h1623⟩ | ⟨h1609, h1623⟩
              · refine W_sound tab_ok mixed 78 _ _ _ ?_
                simp -implicitDefEqProofs only [go_sem, qa, qb, qc, qd, qe, qf, qg, qh, qi, qj, qk, ↓reduceIte, h1325, h1328, g1331, h1332, g1473, h1474, g1477, h1478, g1546, h1591, g1592, g1593, g1594, g1595, g1596, h1597, g1599, g1600, g1601, h1602, g1604, g1605, h1606, h1608, h1609]
                repeat with_reducible refine ⟨by first | kernel_rfl | decide, ?_⟩
                exact cutQ _ ((Wk_le (.r (.r (.r (.r (.r (.r (.r (.r (.k (.k (.k .nil))))))))))) (OLe.refl _)).trans (cmpS_ok (st' := ⟨[], [(0, .dead), (1, .dead), (2, .dead), (3, .sl false 0 0 (n1585 + 1) 2), (4, .sl false 1 0 n1329 1), (5, .sl false 2 0 n1475 1), (6, .v (.int .i64 (IntKind.i64.wrap (x1586 + 1)))), (7, .v (.int .i64 x1587)), (8, .dead), (20, .dead), (61, .dead)], [(0, .p (c1588 ++ [(.int .i64 x1586), (.int .i64 x1587)])), (1, .p (List.set c1589 (Int.toNat x1586) (.int .i64 (IntKind.i64.wrap (x1598 - (minI x1598 x1603)))))), (2, .p (List.set c1590 (Int.toNat x1587) (.int .i64 (IntKind.i64.wrap (x1603 - (minI x1598 x1603))))))], 3, []⟩) (by kernel_rfl))) ⟨n, Nat.lt_succ_self n, _, _, _, _, _, _, h1623, rfl⟩
              · refine W_sound tab_ok mixed 78 _ _ _ ?_
                simp -implicitDefEqProofs only [go_sem, qa, qb, qc, qd, qe, qf, qg, qh, qi, qj, qk, ↓reduceIte, h1325, h1328, g1331, h1332, g1473, h1474, g1477, h1478, g1546, h1591, g1592, g1593, g1594, g1595, g1596, h1597, g1599, g1600, g1601, h1602, g1604, g1605, h1606, h1608, h1609]
                repeat with_reducible refine ⟨by first | kernel_rfl | decide, ?_⟩
                exact cutQ _ ((Wk_le (.r (.r (.r (.r (.r (.r (.r (.r (.k (.k (.k .nil))))))))))) (OLe.refl _)).trans (cmpS_ok (st' := ⟨[], [(0, .dead), (1, .dead), (2, .dead), (3, .sl false 0 0 (n1585 + 1) 2), (4, .sl false 1 0 n1329 1), (5, .sl false 2 0 n1475 1), (6, .v (.int .i64 x1586)), (7, .v (.int .i64 (IntKind.i64.wrap (x1587 + 1)))), (8, .dead), (20, .dead), (61, .dead)], [(0, .p (c1588 ++ [(.int .i64 x1586), (.int .i64 x1587)])), (1, .p (List.set c1589 (Int.toNat x1586) (.int .i64 (IntKind.i64.wrap (x1598 - (minI x1598 x1603)))))), (2, .p (List.set c1590 (Int.toNat x1587) (.int .i64 (IntKind.i64.wrap (x1603 - (minI x1598 x1603))))))], 3, []⟩) (by kernel_rfl))) ⟨n, Nat.lt_succ_self n, _, _, _, _, _, _, h1623, rfl⟩
            · refine W_sound tab_ok mixed 78 _ _ _ ?_
              simp -implicitDefEqProofs only [go_sem, qa, qb, qc, qd, qe, qf, qg, qh, qi, qj, qk, ↓reduceIte, h1325, h1328, g1331, h1332, g1473, h1474, g1477, h1478, g1546, h1591, g1592, g1593, g1594, g1595, g1596, h1597, g1599, g1600, g1601, h1602, g1604, g1605, h1606, h1608]
              repeat with_reducible refine ⟨by first | kernel_rfl | decide, ?_⟩
              exact cutQ _ ((Wk_le (.r (.r (.r (.r (.r (.r (.r (.r (.k (.k (.k .nil))))))))))) (OLe.refl _)).trans (cmpS_ok (st' := ⟨[], [(0, .dead), (1, .dead), (2, .dead), (3, .sl false 0 0 (n1585 + 1) 2), (4, .sl false 1 0 n1329 1), (5, .sl false 2 0 n1475 1), (6, .v (.int .i64 x1586)), (7, .v (.int .i64 (IntKind.i64.wrap (x1587 + 1)))), (8, .dead), (20, .dead), (61, .dead)], [(0, .p (c1588 ++ [(.int .i64 x1586), (.int .i64 x1587)])), (1, .p (List.set c1589 (Int.toNat x1586) (.int .i64 (IntKind.i64.wrap (x1598 - (minI x1598 x1603)))))), (2, .p (List.set c1590 (Int.toNat x1587) (.int .i64 (IntKind.i64.wrap (x1603 - (minI x1598 x1603))))))], 3, []⟩) (by kernel_rfl))) ⟨n, Nat.lt_succ_self n, _, _, _, _, _, _, h1623, rfl⟩
          · refine W_sound tab_ok mixed 10 _ _ _ ?_
            simp -implicitDefEqProofs only [go_sem, qa, qb, qc, qd, qe, qf, qg, qh, qi, qj, qk, ↓reduceIte, h1325, h1328, g1331, h1332, g1473, h1474, g1477, h1478, g1546, h1591]
            repeat with_reducible refine ⟨by first | kernel_rfl | decide, ?_⟩
            obtain rfl := Option.some.inj h1623
            exact cutQ _ ((Wk_le (.r (.r (.r (.r (.k (.k (.k (.k (.r (.k (.r .nil))))))))))) (OLe.refl _)).trans (cmpS_ok (st' := ⟨[], [(0, .dead), (1, .dead), (2, .dead), (3, .sl false 0 0 n1585 2), (4, .dead), (5, .dead), (6, .dead), (7, .dead), (8, .dead), (20, .dead), (61, .dead)], [(0, .p c1588)], 1, []⟩) (by kernel_rfl))) ⟨_, _, rfl, rfl⟩
      · rintro _ ⟨n1610, c1611, rfl, rfl⟩
        (try dsimp only at h1624)
        refine W_sound tab_ok mixed 7 _ _ _ ?_
        simp -implicitDefEqProofs only [go_sem, qa, qb, qc, qd, qe, qf, qg, qh, qi, qj, qk, ↓reduceIte, h1325, h1328, g1331, h1332, g1473, h1474, g1477, h1478, g1546]
        repeat with_reducible refine ⟨by first | kernel_rfl | decide, ?_⟩
        have hh := grd_some h1624; clear h1624; obtain ⟨g1612, h1624⟩ := hh
        refine FinQ_wk (Wk_freeze 0 c1611 (by rfl) (by decide) (by decide)) ?_
        simp -implicitDefEqProofs only [go_sem, qa, qb, qc, qd, qe, qf, qg, qh, qi, qj, qk, ↓reduceIte, h1325, h1328, g1331, h1332, g1473, h1474, g1477, h1478, g1546, g1612]
        obtain rfl := Option.some.inj h1624
        exact finC [(2, .v (.lst false n1610 c1611))] [(2, .v (.lst false n1610 c1611))] (by simp [leE, lk_cons]) (.cons _ _ _ _ _ (.v _ _ (.refl _)) .nil) (by rfl) (by simp [leE, lk_cons]) (by decide) (by decide) rfl (by simp only [go_sem, qa, qb, qc, qd, qe, qf, qg, qh, qi, qj, qk, ↓reduceIte, resQ_tmp, resQ_cell, resQ_nil, retD_one, retD_two, retD_three, retD_none]; try simp [R.val, retD_one, retD_two, retD_three, retD_none])
def m39_L0 (N : Nat) (n1295 : Nat) (c1296 : List PV) (n1313 : Nat) (n1319 : Nat) (n1628 : Nat) (c1629 : List PV) : Nat → Int → List PV → List PV → Option ((List PV × List PV))
  | 0, _, _, _ => none
  | n + 1, x1691, c1692, c1693 =>
    brn (decide (x1691 < ((n1628 : Nat) : Int))) (
      grd (0 ≤ x1691 ∧ x1691 < ((n1628 : Nat) : Int)) <|
      grd (0 < List.length (List.drop ((Int.toNat x1691) * 2) c1629)) <|
      getI .i64 (gp c1629 ((Int.toNat x1691) * 2)) fun x1699 =>
      grd (0 < List.length (List.drop 1 (List.drop ((Int.toNat x1691) * 2) c1629))) <|
      getI .i64 (gp c1629 (((Int.toNat x1691) * 2) + 1)) fun x1702 =>
      grd (0 ≤ (IntKind.i64.wrap (x1691 - 1)) ∧ (IntKind.i64.wrap (x1691 - 1)) < ((n1628 : Nat) : Int)) <|
      grd (0 < List.length (List.drop 1 (List.drop ((Int.toNat (IntKind.i64.wrap (x1691 - 1))) * 2) c1629))) <|
      getI .i64 (gp c1629 (((Int.toNat (IntKind.i64.wrap (x1691 - 1))) * 2) + 1)) fun x1707 =>
      brn (decide (x1702 > x1707)) (
        grd (0 ≤ x1699 ∧ x1699 < ((n1295 : Nat) : Int)) <|
        grd (0 < List.length (List.drop (Int.toNat x1699) c1296)) <|
        getL (gp c1296 (Int.toNat x1699)) fun n1713 c1714 =>
        grd (0 ≤ x1702 ∧ x1702 < ((n1713 : Nat) : Int)) <|
        grd (0 < List.length (List.drop (Int.toNat x1702) c1714)) <|
        getI .i64 (gp c1714 (Int.toNat x1702)) fun x1719 =>
        grd (x1699 < ((n1313 : Nat) : Int)) <|
        grd ((Int.toNat x1699) < List.length c1692) <|
        getI .i64 (gp c1692 (Int.toNat x1699)) fun x1723 =>
        grd (x1702 < ((n1319 : Nat) : Int)) <|
        grd (((Int.toNat x1702) + 1) ≤ List.length c1693) <|
        m39_L0 N n1295 c1296 n1313 n1319 n1628 c1629 n (IntKind.i64.wrap (x1691 + 1)) c1692 (List.set c1693 (Int.toNat x1702) (.int .i64 (IntKind.i64.wrap (x1719 - x1723))))) (
        grd (0 ≤ x1699 ∧ x1699 < ((n1295 : Nat) : Int)) <|
        grd (0 < List.length (List.drop (Int.toNat x1699) c1296)) <|
        getL (gp c1296 (Int.toNat x1699)) fun n1730 c1731 =>
        grd (0 ≤ x1702 ∧ x1702 < ((n1730 : Nat) : Int)) <|
        grd (0 < List.length (List.drop (Int.toNat x1702) c1731)) <|
        getI .i64 (gp c1731 (Int.toNat x1702)) fun x1736 =>
        grd (x1702 < ((n1319 : Nat) : Int)) <|
        grd ((Int.toNat x1702) < List.length c1693) <|
        getI .i64 (gp c1693 (Int.toNat x1702)) fun x1740 =>
        grd (x1699 < ((n1313 : Nat) : Int)) <|
        grd (((Int.toNat x1699) + 1) ≤ List.length c1692) <|
        m39_L0 N n1295 c1296 n1313 n1319 n1628 c1629 n (IntKind.i64.wrap (x1691 + 1)) (List.set c1692 (Int.toNat x1699) (.int .i64 (IntKind.i64.wrap (x1736 - x1740)))) c1693)) (
      some (c1692, c1693))
def m39_L1 (N : Nat) (n1295 : Nat) (c1296 : List PV) (n1749 : Nat) (n1755 : Nat) (n1763 : Nat) (c1764 : List PV) : Nat → Int → List PV → List PV → Option ((List PV × List PV))
  | 0, _, _, _ => none
  | n + 1, x1826, c1827, c1828 =>
    brn (decide (x1826 < ((n1763 : Nat) : Int))) (
      grd (0 ≤ x1826 ∧ x1826 < ((n1763 : Nat) : Int)) <|
      grd (0 < List.length (List.drop ((Int.toNat x1826) * 2) c1764)) <|
      getI .i64 (gp c1764 ((Int.toNat x1826) * 2)) fun x1834 =>
      grd (0 < List.length (List.drop 1 (List.drop ((Int.toNat x1826) * 2) c1764))) <|
      getI .i64 (gp c1764 (((Int.toNat x1826) * 2) + 1)) fun x1837 =>
      grd (0 ≤ (IntKind.i64.wrap (x1826 - 1)) ∧ (IntKind.i64.wrap (x1826 - 1)) < ((n1763 : Nat) : Int)) <|
      grd (0 < List.length (List.drop 1 (List.drop ((Int.toNat (IntKind.i64.wrap (x1826 - 1))) * 2) c1764))) <|
      getI .i64 (gp c1764 (((Int.toNat (IntKind.i64.wrap (x1826 - 1))) * 2) + 1)) fun x1842 =>
      brn (decide (x1837 > x1842)) (
        grd (0 ≤ x1834 ∧ x1834 < ((n1295 : Nat) : Int)) <|
        grd (0 < List.length (List.drop (Int.toNat x1834) c1296)) <|
        getL (gp c1296 (Int.toNat x1834)) fun n1848 c1849 =>
        grd (0 ≤ x1837 ∧ x1837 < ((n1848 : Nat) : Int)) <|
        grd (0 < List.length (List.drop (Int.toNat x1837) c1849)) <|
        getI .i64 (gp c1849 (Int.toNat x1837)) fun x1854 =>
        grd (x1834 < ((n1749 : Nat) : Int)) <|
        grd ((Int.toNat x1834) < List.length c1827) <|
        getI .i64 (gp c1827 (Int.toNat x1834)) fun x1858 =>
        grd (x1837 < ((n1755 : Nat) : Int)) <|
        grd (((Int.toNat x1837) + 1) ≤ List.length c1828) <|
        m39_L1 N n1295 c1296 n1749 n1755 n1763 c1764 n (IntKind.i64.wrap (x1826 + 1)) c1827 (List.set c1828 (Int.toNat x1837) (.int .i64 (IntKind.i64.wrap (x1854 - x1858))))) (
        grd (0 ≤ x1834 ∧ x1834 < ((n1295 : Nat) : Int)) <|
        grd (0 < List.length (List.drop (Int.toNat x1834) c1296)) <|
        getL (gp c1296 (Int.toNat x1834)) fun n1865 c1866 =>
        grd (0 ≤ x1837 ∧ x1837 < ((n1865 : Nat) : Int)) <|
        grd (0 < List.length (List.drop (Int.toNat x1837) c1866)) <|
        getI .i64 (gp c1866 (Int.toNat x1837)) fun x1871 =>
        grd (x1837 < ((n1755 : Nat) : Int)) <|
        grd ((Int.toNat x1837) < List.length c1828) <|
        getI .i64 (gp c1828 (Int.toNat x1837)) fun x1875 =>
        grd (x1834 < ((n1749 : Nat) : Int)) <|
        grd (((Int.toNat x1834) + 1) ≤ List.length c1827) <|
        m39_L1 N n1295 c1296 n1749 n1755 n1763 c1764 n (IntKind.i64.wrap (x1826 + 1)) (List.set c1827 (Int.toNat x1834) (.int .i64 (IntKind.i64.wrap (x1871 - x1875)))) c1828)) (
      some (c1827, c1828))
def m39 (N : Nat) (p1292 : PV) (p1293 : PV) : Option (PV) :=
  getL p1292 fun n1295 c1296 =>
  getA2 p1293 fun p1298 p1299 =>
  bnd' (m26 N (.lst false n1295 c1296) (.agg [p1298, p1299])) fun p1300 =>
  getI .i64 p1300 fun x1303 =>
  brn (x1303 == 0) (
    bnd' (m78 N (.lst false n1295 c1296)) fun p1305 =>
    getL p1305 fun n1308 c1309 =>
    brn (decide (((n1308 : Nat) : Int) > 0)) (
      some (.tup [(.agg [(.lst false 0 []), (.lst false 0 [])]), (.int .i64 13)])) (
      brn (x1303 != 0) (
        some (.tup [(.agg [(.lst false 0 []), (.lst false 0 [])]), (.int .i64 x1303)])) (
        getL p1298 fun n1313 c1314 =>
        grd (0 ≤ ((n1313 : Nat) : Int) ∧ ((n1313 : Nat) : Int) ≤ ((n1313 : Nat) : Int) ∧ ((n1313 : Nat) : Int) ≤ 1099511627776) <|
        getL p1299 fun n1319 c1320 =>
        grd (0 ≤ ((n1319 : Nat) : Int) ∧ ((n1319 : Nat) : Int) ≤ ((n1319 : Nat) : Int) ∧ ((n1319 : Nat) : Int) ≤ 1099511627776) <|
        bnd' (m63 N (.agg [(.lst false n1313 c1314), (.lst false n1319 c1320)])) fun p1625 =>
        getL p1625 fun n1628 c1629 =>
        grd (0 < ((n1295 : Nat) : Int)) <|
        grd (0 < List.length c1296) <|
        getL (gp c1296 0) fun n1633 c1634 =>
        grd (0 < ((n1633 : Nat) : Int)) <|
        grd (0 < List.length c1634) <|
        getI .i64 (gp c1634 0) fun x1638 =>
        grd (0 < ((n1319 : Nat) : Int)) <|
        grd (1 ≤ n1319) <|
        bnd' (m39_L0 N n1295 c1296 n1313 n1319 n1628 c1629 N 1 (List.replicate n1313 (.int .i64 0)) (List.set (List.replicate n1319 (.int .i64 0)) 0 (.int .i64 x1638))) fun o =>
        match o with
        | (c1743, c1744) =>
          grd (List.length c1743 = n1313) <|
          grd (List.length c1744 = n1319) <|
          some (.tup [(.agg [(.lst false n1313 c1743), (.lst false n1319 c1744)]), (.int .i64 0)])))) (
    brn (x1303 != 0) (
      some (.tup [(.agg [(.lst false 0 []), (.lst false 0 [])]), (.int .i64 x1303)])) (
      getL p1298 fun n1749 c1750 =>
      grd (0 ≤ ((n1749 : Nat) : Int) ∧ ((n1749 : Nat) : Int) ≤ ((n1749 : Nat) : Int) ∧ ((n1749 : Nat) : Int) ≤ 1099511627776) <|
      getL p1299 fun n1755 c1756 =>
      grd (0 ≤ ((n1755 : Nat) : Int) ∧ ((n1755 : Nat) : Int) ≤ ((n1755 : Nat) : Int) ∧ ((n1755 : Nat) : Int) ≤ 1099511627776) <|
      bnd' (m63 N (.agg [(.lst false n1749 c1750), (.lst false n1755 c1756)])) fun p1760 =>
      getL p1760 fun n1763 c1764 =>
      grd (0 < ((n1295 : Nat) : Int)) <|
      grd (0 < List.length c1296) <|
      getL (gp c1296 0) fun n1768 c1769 =>
      grd (0 < ((n1768 : Nat) : Int)) <|
      grd (0 < List.length c1769) <|
      getI .i64 (gp c1769 0) fun x1773 =>
      grd (0 < ((n1755 : Nat) : Int)) <|
      grd (1 ≤ n1755) <|
      bnd' (m39_L1 N n1295 c1296 n1749 n1755 n1763 c1764 N 1 (List.replicate n1749 (.int .i64 0)) (List.set (List.replicate n1755 (.int .i64 0)) 0 (.int .i64 x1773))) fun o =>
      match o with
      | (c1878, c1879) =>
        grd (List.length c1878 = n1749) <|
        grd (List.length c1879 = n1755) <|
        some (.tup [(.agg [(.lst false n1749 c1878), (.lst false n1755 c1879)]), (.int .i64 0)])))
theorem c39 (N : Nat) (p1292 : PV) (p1293 : PV) (r : PV)  (h : m39 N p1292 p1293 = some r) : FnP Try.prog 39 [p1292, p1293] r := by
  unfold m39 at h
  refine Fn_of (sz := 105) tab_ok [0, 1, 3, 4, 5, 6, 7, 8, 9, 10, 11, 22, 24, 49, 69] [.cell 4 54, .tmp 5] Try.func39 rfl rfl rfl (by simp) ?_
  simp only [initSt, initEnv, List.map_cons, List.map_nil, List.getD_cons_zero, List.getD_cons_succ, List.getD_nil]
  have hh := getL_some h; clear h; obtain ⟨n1295, c1296, h1294, h⟩ := hh
  have hh := getA2_some h; clear h; obtain ⟨p1298, p1299, h1297, h⟩ := hh
  have hh := bnd'_some h; clear h; obtain ⟨p1300, h1301, h⟩ := hh
  refine W_sound tab_ok mixed 10 _ _ _ ?_
  simp -implicitDefEqProofs only [go_sem, qa, qb, qc, qd, qe, qf, qg, qh, qi, qj, qk, ↓reduceIte, h1294, h1297]
  repeat with_reducible refine ⟨by first | kernel_rfl | decide, ?_⟩
  refine Wp_callP (c26 N _ _ _ h1301) (by kernel_rfl) rfl rfl rfl rfl (by decide) ?_
  have hh := getI_some h; clear h; obtain ⟨x1303, h1302, h⟩ := hh
  have hh := brn_some h; clear h; rcases hh with ⟨h1304, h⟩ | ⟨h1304, h⟩
  · have hh := bnd'_some h; clear h; obtain ⟨p1305, h1306, h⟩ := hh
    refine W_sound tab_ok mixed 9 _ _ _ ?_
    simp -implicitDefEqProofs only [go_sem, qa, qb, qc, qd, qe, qf, qg, qh, qi, qj, qk, ↓reduceIte, h1294, h1297, h1302, h1304]
    repeat with_reducible refine ⟨by first | kernel_rfl | decide, ?_⟩
    refine Wp_callP (c78 N _ _ h1306) (by kernel_rfl) rfl rfl rfl rfl (by decide) ?_
    have hh := getL_some h; clear h; obtain ⟨n1308, c1309, h1307, h⟩ := hh
    have hh := brn_some h; clear h; rcases hh with ⟨h1310, h⟩ | ⟨h1310, h⟩
    · refine W_sound tab_ok mixed 24 _ _ _ ?_
      simp -implicitDefEqProofs only [go_sem, qa, qb, qc, qd, qe, qf, qg, qh, qi, qj, qk, ↓reduceIte, h1294, h1297, h1302, h1304, h1307, h1310]
      repeat with_reducible refine ⟨by first | kernel_rfl | decide, ?_⟩
      refine FinQ_wk (Wk_freeze 4 [.nl, .nl] (by rfl) (by decide) (by decide)) ?_
      simp -implicitDefEqProofs only [go_sem, qa, qb, qc, qd, qe, qf, qg, qh, qi, qj, qk, ↓reduceIte, h1294, h1297, h1302, h1304, h1307, h1310]
      obtain rfl := Option.some.inj h
      exact finC [(4, .v (.ipt [.nl, .nl])), (5, .v (.int .i64 13))] [(4, .v (.ipt [(.lst false 0 []), (.lst false 0 [])])), (5, .v (.int .i64 13))] (by simp [leE, lk_cons]) (.cons _ _ _ _ _ (.v _ _ (.ipt _ _ (.cons _ _ _ _ (.nl false) (.cons _ _ _ _ (.nl false) .nil)))) (.cons _ _ _ _ _ (.v _ _ (.refl _)) .nil)) (by rfl) (by simp [leE, lk_cons]) (by decide) (by decide) rfl (by simp only [go_sem, qa, qb, qc, qd, qe, qf, qg, qh, qi, qj, qk, ↓reduceIte, resQ_tmp, resQ_cell, resQ_nil, retD_one, retD_two, retD_three, retD_none]; try simp [R.val, retD_one, retD_two, retD_three, retD_none])
    · have hh := brn_some h; clear h; rcases hh with ⟨h1311, h⟩ | ⟨h1311, h⟩
      · refine W_sound tab_ok mixed 22 _ _ _ ?_
        simp -implicitDefEqProofs only [go_sem, qa, qb, qc, qd, qe, qf, qg, qh, qi, qj, qk, ↓reduceIte, h1294, h1297, h1302, h1304, h1307, h1310, h1311]
        repeat with_reducible refine ⟨by first | kernel_rfl | decide, ?_⟩
        refine FinQ_wk (Wk_freeze 4 [.nl, .nl] (by rfl) (by decide) (by decide)) ?_
        simp -implicitDefEqProofs only [go_sem, qa, qb, qc, qd, qe, qf, qg, qh, qi, qj, qk, ↓reduceIte, h1294, h1297, h1302, h1304, h1307, h1310, h1311]
        obtain rfl := Option.some.inj h
        exact finC [(4, .v (.ipt [.nl, .nl])), (5, .v (.int .i64 x1303))] [(4, .v (.ipt [(.lst false 0 []), (.lst false 0 [])])), (5, .v (.int .i64 x1303))] (by simp [leE, lk_cons]) (.cons _ _ _ _ _ (.v _ _ (.ipt _ _ (.cons _ _ _ _ (.nl false) (.cons _ _ _ _ (.nl false) .nil)))) (.cons _ _ _ _ _ (.v _ _ (.refl _)) .nil)) (by rfl) (by simp [leE, lk_cons]) (by decide) (by decide) rfl (by simp only [go_sem, qa, qb, qc, qd, qe, qf, qg, qh, qi, qj, qk, ↓reduceIte, resQ_tmp, resQ_cell, resQ_nil, retD_one, retD_two, retD_three, retD_none]; try simp [R.val, retD_one, retD_two, retD_three, retD_none])
      · have hh := getL_some h; clear h; obtain ⟨n1313, c1314, h1312, h⟩ := hh
        have hh := grd_some h; clear h; obtain ⟨⟨g1315, g1316, g1317⟩, h⟩ := hh
        have hh := getL_some h; clear h; obtain ⟨n1319, c1320, h1318, h⟩ := hh
        have hh := grd_some h; clear h; obtain ⟨⟨g1321, g1322, g1323⟩, h⟩ := hh
        have hh := bnd'_some h; clear h; obtain ⟨p1625, h1626, h⟩ := hh
        refine W_sound tab_ok mixed 31 _ _ _ ?_
        simp -implicitDefEqProofs only [go_sem, qa, qb, qc, qd, qe, qf, qg, qh, qi, qj, qk, ↓reduceIte, h1294, h1297, h1302, h1304, h1307, h1310, h1311, h1312, g1315, g1316, g1317, h1318, g1321, g1322, g1323]
        repeat with_reducible refine ⟨by first | kernel_rfl | decide, ?_⟩
        refine Wp_callP (c63 N _ _ h1626) (by kernel_rfl) rfl rfl rfl rfl (by decide) ?_
        have hh := getL_some h; clear h; obtain ⟨n1628, c1629, h1627, h⟩ := hh
        have hh := grd_some h; clear h; obtain ⟨g1630, h⟩ := hh
        have hh := grd_some h; clear h; obtain ⟨g1631, h⟩ := hh
        have hh := getL_some h; clear h; obtain ⟨n1633, c1634, h1632, h⟩ := hh
        have hh := grd_some h; clear h; obtain ⟨g1635, h⟩ := hh
        have hh := grd_some h; clear h; obtain ⟨g1636, h⟩ := hh
        have hh := getI_some h; clear h; obtain ⟨x1638, h1637, h⟩ := hh
        have hh := grd_some h; clear h; obtain ⟨g1639, h⟩ := hh
        have hh := grd_some h; clear h; obtain ⟨g1640, h⟩ := hh
        refine W_sound tab_ok mixed 19 _ _ _ ?_
        simp -implicitDefEqProofs only [go_sem, qa, qb, qc, qd, qe, qf, qg, qh, qi, qj, qk, ↓reduceIte, h1294, h1297, h1302, h1304, h1307, h1310, h1311, h1312, g1315, g1316, g1317, h1318, g1321, g1322, g1323, h1627, g1630, g1631, h1632, g1635, g1636, h1637, g1639, g1640]
        repeat with_reducible refine ⟨by first | kernel_rfl | decide, ?_⟩
        have hh := bnd'_some h; clear h; obtain ⟨o1882, h1883, h1884⟩ := hh
        refine Wp_cut (fun s => ∃ c1743, ∃ c1744, (c1743, c1744) = o1882 ∧ s = ⟨[], [(0, .dead), (1, .dead), (3, .dead), (4, .ptr 0 0), (5, .dead), (6, .dead), (7, .ptr 1 0), (8, .dead), (9, .dead), (10, .dead), (11, .dead), (22, .dead), (24, .dead), (49, .dead), (69, .dead)], [(0, .p [.nl, .nl]), (1, .r [.sl false 2 0 n1313 1, .sl false 3 0 n1319 1]), (2, .p c1743), (3, .p c1744)], 4, []⟩) ?_ ?_
        · refine Wp_block ?_
          refine Wp_loopG (fun n s => ∃ x1691, ∃ c1692, ∃ c1693, m39_L0 N n1295 c1296 n1313 n1319 n1628 c1629 n x1691 c1692 c1693 = some o1882 ∧ s = ⟨[], [(0, .v (.lst false n1295 c1296)), (1, .dead), (3, .dead), (4, .ptr 0 0), (5, .dead), (6, .dead), (7, .ptr 1 0), (8, .v (.lst false n1628 c1629)), (9, .v (.int .i64 x1691)), (10, .dead), (11, .dead), (22, .dead), (24, .dead), (49, .dead), (69, .dead)], [(0, .p [.nl, .nl]), (1, .r [.sl false 2 0 n1313 1, .sl false 3 0 n1319 1]), (2, .p c1692), (3, .p c1693)], 4, []⟩) N _ ((Wk_le (.r (.k (.k (.r (.k (.k (.r (.r (.r (.r (.r (.k (.k (.r (.r .nil))))))))))))))) (OLe.refl _)).trans (cmpS_ok (st' := ⟨[], [(0, .v (.lst false n1295 c1296)), (1, .dead), (3, .dead), (4, .ptr 0 0), (5, .dead), (6, .dead), (7, .ptr 1 0), (8, .v (.lst false n1628 c1629)), (9, .v (.int .i64 1)), (10, .dead), (11, .dead), (22, .dead), (24, .dead), (49, .dead), (69, .dead)], [(0, .p [.nl, .nl]), (1, .r [.sl false 2 0 n1313 1, .sl false 3 0 n1319 1]), (2, .p (List.replicate n1313 (.int .i64 0))), (3, .p (List.set (List.replicate n1319 (.int .i64 0)) 0 (.int .i64 x1638)))], 4, []⟩) (by kernel_rfl))) ⟨_, _, _, h1883, rfl⟩ ?_
          clear h1883
          rintro n _ ⟨x1691, c1692, c1693, h1883, rfl⟩
          cases n with
          | zero => cases h1883
          | succ n =>
            rw [m39_L0] at h1883
            have hh := brn_some h1883; clear h1883; rcases hh with ⟨h1694, h1883⟩ | ⟨h1694, h1883⟩
            · have hh := grd_some h1883; clear h1883; obtain ⟨⟨g1695, g1696⟩, h1883⟩ := hh
              have hh := grd_some h1883; clear h1883; obtain ⟨g1697, h1883⟩ := hh
              have hh := getI_some h1883; clear h1883; obtain ⟨x1699, h1698, h1883⟩ := hh
              have hh := grd_some h1883; clear h1883; obtain ⟨g1700, h1883⟩ := hh
              have hh := getI_some h1883; clear h1883; obtain ⟨x1702, h1701, h1883⟩ := hh
              have hh := grd_some h1883; clear h1883; obtain ⟨⟨g1703, g1704⟩, h1883⟩ := hh
              have hh := grd_some h1883; clear h1883; obtain ⟨g1705, h1883⟩ := hh
              have hh := getI_some h1883; clear h1883; obtain ⟨x1707, h1706, h1883⟩ := hh
              have hh := brn_some h1883; clear h1883; rcases hh with ⟨h1708, h1883⟩ | ⟨h1708, h1883⟩
              · have hh := grd_some h1883; clear h1883; obtain ⟨⟨g1709, g1710⟩, h1883⟩ := hh
                have hh := grd_some h1883; clear h1883; obtain ⟨g1711, h1883⟩ := hh
                have hh := getL_some h1883; clear h1883; obtain ⟨n1713, c1714, h1712, h1883⟩ := hh
                have hh := grd_some h1883; clear h1883; obtain ⟨⟨g1715, g1716⟩, h1883⟩ := hh
                have hh := grd_some h1883; clear h1883; obtain ⟨g1717, h1883⟩ := hh
                have hh := getI_some h1883; clear h1883; obtain ⟨x1719, h1718, h1883⟩ := hh
                have hh := grd_some h1883; clear h1883; obtain ⟨g1720, h1883⟩ := hh
                have hh := grd_some h1883; clear h1883; obtain ⟨g1721, h1883⟩ := hh
                have hh := getI_some h1883; clear h1883; obtain ⟨x1723, h1722, h1883⟩ := hh
                have hh := grd_some h1883; clear h1883; obtain ⟨g1724, h1883⟩ := hh
                have hh := grd_some h1883; clear h1883; obtain ⟨g1725, h1883⟩ := hh
                refine W_sound tab_ok mixed 65 _ _ _ ?_
                simp -implicitDefEqProofs only [go_sem, qa, qb, qc, qd, qe, qf, qg, qh, qi, qj, qk, ↓reduceIte, h1294, h1297, h1302, h1304, h1307, h1310, h1311, h1312, g1315, g1316, g1317, h1318, g1321, g1322, g1323, h1627, g1630, g1631, h1632, g1635, g1636, h1637, g1639, g1640, h1694, g1695, g1696, g1697, h1698, g1700, h1701, g1703, g1704, g1705, h1706, h1708, g1709, g1710, g1711, h1712, g1715, g1716, g1717, h1718, g1720, g1721, h1722, g1724, g1725]
                repeat with_reducible refine ⟨by first | kernel_rfl | decide, ?_⟩
                exact cutQ _ ((Wk_le (.r (.r (.r (.r (.r (.r (.r (.r (.r (.k (.k (.r (.r (.k (.k .nil))))))))))))))) (OLe.refl _)).trans (cmpS_ok (st' := ⟨[], [(0, .v (.lst false n1295 c1296)), (1, .dead), (3, .dead), (4, .ptr 0 0), (5, .dead), (6, .dead), (7, .ptr 1 0), (8, .v (.lst false n1628 c1629)), (9, .v (.int .i64 (IntKind.i64.wrap (x1691 + 1)))), (10, .dead), (11, .dead), (22, .dead), (24, .dead), (49, .dead), (69, .dead)], [(0, .p [.nl, .nl]), (1, .r [.sl false 2 0 n1313 1, .sl false 3 0 n1319 1]), (2, .p c1692), (3, .p (List.set c1693 (Int.toNat x1702) (.int .i64 (IntKind.i64.wrap (x1719 - x1723)))))], 4, []⟩) (by kernel_rfl))) ⟨n, Nat.lt_succ_self n, _, _, _, h1883, rfl⟩
              · have hh := grd_some h1883; clear h1883; obtain ⟨⟨g1726, g1727⟩, h1883⟩ := hh
                have hh := grd_some h1883; clear h1883; obtain ⟨g1728, h1883⟩ := hh
                have hh := getL_some h1883; clear h1883; obtain ⟨n1730, c1731, h1729, h1883⟩ := hh
                have hh := grd_some h1883; clear h1883; obtain ⟨⟨g1732, g1733⟩, h1883⟩ := hh
                have hh := grd_some h1883; clear h1883; obtain ⟨g1734, h1883⟩ := hh
                have hh := getI_some h1883; clear h1883; obtain ⟨x1736, h1735, h1883⟩ := hh
                have hh := grd_some h1883; clear h1883; obtain ⟨g1737, h1883⟩ := hh
                have hh := grd_some h1883; clear h1883; obtain ⟨g1738, h1883⟩ := hh
                have hh := getI_some h1883; clear h1883; obtain ⟨x1740, h1739, h1883⟩ := hh
                have hh := grd_some h1883; clear h1883; obtain ⟨g1741, h1883⟩ := hh
                have hh := grd_some h1883; clear h1883; obtain ⟨g1742, h1883⟩ := hh
                refine W_sound tab_ok mixed 65 _ _ _ ?_
                simp -implicitDefEqProofs only [go_sem, qa, qb, qc, qd, qe, qf, qg, qh, qi, qj, qk, ↓reduceIte, h1294, h1297, h1302, h1304, h1307, h1310, h1311, h1312, g1315, g1316, g1317, h1318, g1321, g1322, g1323, h1627, g1630, g1631, h1632, g1635, g1636, h1637, g1639, g1640, h1694, g1695, g1696, g1697, h1698, g1700, h1701, g1703, g1704, g1705, h1706, h1708, g1726, g1727, g1728, h1729, g1732, g1733, g1734, h1735, g1737, g1738, h1739, g1741, g1742]
                repeat with_reducible refine ⟨by first | kernel_rfl | decide, ?_⟩
                exact cutQ _ ((Wk_le (.r (.r (.r (.r (.r (.r (.r (.r (.r (.k (.k (.r (.r (.k (.k .nil))))))))))))))) (OLe.refl _)).trans (cmpS_ok (st' := ⟨[], [(0, .v (.lst false n1295 c1296)), (1, .dead), (3, .dead), (4, .ptr 0 0), (5, .dead), (6, .dead), (7, .ptr 1 0), (8, .v (.lst false n1628 c1629)), (9, .v (.int .i64 (IntKind.i64.wrap (x1691 + 1)))), (10, .dead), (11, .dead), (22, .dead), (24, .dead), (49, .dead), (69, .dead)], [(0, .p [.nl, .nl]), (1, .r [.sl false 2 0 n1313 1, .sl false 3 0 n1319 1]), (2, .p (List.set c1692 (Int.toNat x1699) (.int .i64 (IntKind.i64.wrap (x1736 - x1740))))), (3, .p c1693)], 4, []⟩) (by kernel_rfl))) ⟨n, Nat.lt_succ_self n, _, _, _, h1883, rfl⟩
            · refine W_sound tab_ok mixed 10 _ _ _ ?_
              simp -implicitDefEqProofs only [go_sem, qa, qb, qc, qd, qe, qf, qg, qh, qi, qj, qk, ↓reduceIte, h1294, h1297, h1302, h1304, h1307, h1310, h1311, h1312, g1315, g1316, g1317, h1318, g1321, g1322, g1323, h1627, g1630, g1631, h1632, g1635, g1636, h1637, g1639, g1640, h1694]
              repeat with_reducible refine ⟨by first | kernel_rfl | decide, ?_⟩
              obtain rfl := Option.some.inj h1883
              exact cutQ _ ((Wk_le (.k (.r (.r (.r (.r (.r (.r (.k (.k (.r (.r (.r (.r (.k (.r .nil))))))))))))))) (OLe.refl _)).trans (cmpS_ok (st' := ⟨[], [(0, .dead), (1, .dead), (3, .dead), (4, .ptr 0 0), (5, .dead), (6, .dead), (7, .ptr 1 0), (8, .dead), (9, .dead), (10, .dead), (11, .dead), (22, .dead), (24, .dead), (49, .dead), (69, .dead)], [(0, .p [.nl, .nl]), (1, .r [.sl false 2 0 n1313 1, .sl false 3 0 n1319 1]), (2, .p c1692), (3, .p c1693)], 4, []⟩) (by kernel_rfl))) ⟨_, _, rfl, rfl⟩
        · rintro _ ⟨c1743, c1744, rfl, rfl⟩
          (try dsimp only at h1884)
          refine W_sound tab_ok mixed 8 _ _ _ ?_
          simp -implicitDefEqProofs only [go_sem, qa, qb, qc, qd, qe, qf, qg, qh, qi, qj, qk, ↓reduceIte, h1294, h1297, h1302, h1304, h1307, h1310, h1311, h1312, g1315, g1316, g1317, h1318, g1321, g1322, g1323, h1627, g1630, g1631, h1632, g1635, g1636, h1637, g1639, g1640]
          repeat with_reducible refine ⟨by first | kernel_rfl | decide, ?_⟩
          have hh := grd_some h1884; clear h1884; obtain ⟨g1745, h1884⟩ := hh
          refine FinQ_wk (Wk_freeze 2 c1743 (by rfl) (by decide) (by decide)) ?_
          simp -implicitDefEqProofs only [go_sem, qa, qb, qc, qd, qe, qf, qg, qh, qi, qj, qk, ↓reduceIte, h1294, h1297, h1302, h1304, h1307, h1310, h1311, h1312, g1315, g1316, g1317, h1318, g1321, g1322, g1323, h1627, g1630, g1631, h1632, g1635, g1636, h1637, g1639, g1640, g1745]
          have hh := grd_some h1884; clear h1884; obtain ⟨g1746, h1884⟩ := hh
          refine FinQ_wk (Wk_freeze 3 c1744 (by rfl) (by decide) (by decide)) ?_
          simp -implicitDefEqProofs only [go_sem, qa, qb, qc, qd, qe, qf, qg, qh, qi, qj, qk, ↓reduceIte, h1294, h1297, h1302, h1304, h1307, h1310, h1311, h1312, g1315, g1316, g1317, h1318, g1321, g1322, g1323, h1627, g1630, g1631, h1632, g1635, g1636, h1637, g1639, g1640, g1745, g1746]
          refine FinQ_wk (Wk_freeze 0 [(.lst false n1313 c1743), (.lst false n1319 c1744)] (by rfl) (by decide) (by decide)) ?_
          simp -implicitDefEqProofs only [go_sem, qa, qb, qc, qd, qe, qf, qg, qh, qi, qj, qk, ↓reduceIte, h1294, h1297, h1302, h1304, h1307, h1310, h1311, h1312, g1315, g1316, g1317, h1318, g1321, g1322, g1323, h1627, g1630, g1631, h1632, g1635, g1636, h1637, g1639, g1640, g1745, g1746]
          obtain rfl := Option.some.inj h1884
          exact finC [(4, .v (.ipt [(.lst false n1313 c1743), (.lst false n1319 c1744)])), (5, .v (.int .i64 0))] [(4, .v (.ipt [(.lst false n1313 c1743), (.lst false n1319 c1744)])), (5, .v (.int .i64 0))] (by simp [leE, lk_cons]) (.cons _ _ _ _ _ (.v _ _ (.refl _)) (.cons _ _ _ _ _ (.v _ _ (.refl _)) .nil)) (by rfl) (by simp [leE, lk_cons]) (by decide) (by decide) rfl (by simp only [go_sem, qa, qb, qc, qd, qe, qf, qg, qh, qi, qj, qk, ↓reduceIte, resQ_tmp, resQ_cell, resQ_nil, retD_one, retD_two, retD_three, retD_none]; try simp [R.val, retD_one, retD_two, retD_three, retD_none])
  · have hh := brn_some h; clear h; rcases hh with ⟨h1747, h⟩ | ⟨h1747, h⟩
    · refine W_sound tab_ok mixed 32 _ _ _ ?_
      simp -implicitDefEqProofs only [go_sem, qa, qb, qc, qd, qe, qf, qg, qh, qi, qj, qk, ↓reduceIte, h1294, h1297, h1302, h1304, h1747]
      repeat with_reducible refine ⟨by first | kernel_rfl | decide, ?_⟩
      refine FinQ_wk (Wk_freeze 4 [.nl, .nl] (by rfl) (by decide) (by decide)) ?_
      simp -implicitDefEqProofs only [go_sem, qa, qb, qc, qd, qe, qf, qg, qh, qi, qj, qk, ↓reduceIte, h1294, h1297, h1302, h1304, h1747]
      obtain rfl := Option.some.inj h
      exact finC [(4, .v (.ipt [.nl, .nl])), (5, .v (.int .i64 x1303))] [(4, .v (.ipt [(.lst false 0 []), (.lst false 0 [])])), (5, .v (.int .i64 x1303))] (by simp [leE, lk_cons]) (.cons _ _ _ _ _ (.v _ _ (.ipt _ _ (.cons _ _ _ _ (.nl false) (.cons _ _ _ _ (.nl false) .nil)))) (.cons _ _ _ _ _ (.v _ _ (.refl _)) .nil)) (by rfl) (by simp [leE, lk_cons]) (by decide) (by decide) rfl (by simp only [go_sem, qa, qb, qc, qd, qe, qf, qg, qh, qi, qj, qk, ↓reduceIte, resQ_tmp, resQ_cell, resQ_nil, retD_one, retD_two, retD_three, retD_none]; try simp [R.val, retD_one, retD_two, retD_three, retD_none])
    · have hh := getL_some h; clear h; obtain ⟨n1749, c1750, h1748, h⟩ := hh
      have hh := grd_some h; clear h; obtain ⟨⟨g1751, g1752, g1753⟩, h⟩ := hh
      have hh := getL_some h; clear h; obtain ⟨n1755, c1756, h1754, h⟩ := hh
      have hh := grd_some h; clear h; obtain ⟨⟨g1757, g1758, g1759⟩, h⟩ := hh
      have hh := bnd'_some h; clear h; obtain ⟨p1760, h1761, h⟩ := hh
      refine W_sound tab_ok mixed 41 _ _ _ ?_
      simp -implicitDefEqProofs only [go_sem, qa, qb, qc, qd, qe, qf, qg, qh, qi, qj, qk, ↓reduceIte, h1294, h1297, h1302, h1304, h1747, h1748, g1751, g1752, g1753, h1754, g1757, g1758, g1759]
      repeat with_reducible refine ⟨by first | kernel_rfl | decide, ?_⟩
      refine Wp_callP (c63 N _ _ h1761) (by kernel_rfl) rfl rfl rfl rfl (by decide) ?_
      have hh := getL_some h; clear h; obtain ⟨n1763, c1764, h1762, h⟩ := hh
      have hh := grd_some h; clear h; obtain ⟨g1765, h⟩ := hh
      have hh := grd_some h; clear h; obtain ⟨g1766, h⟩ := hh
      have hh := getL_some h; clear h; obtain ⟨n1768, c1769, h1767, h⟩ := hh
      have hh := grd_some h; clear h; obtain ⟨g1770, h⟩ := hh
      have hh := grd_some h; clear h; obtain ⟨g1771, h⟩ := hh
      have hh := getI_some h; clear h; obtain ⟨x1773, h1772, h⟩ := hh
      have hh := grd_some h; clear h; obtain ⟨g1774, h⟩ := hh
      have hh := grd_some h; clear h; obtain ⟨g1775, h⟩ := hh
      refine W_sound tab_ok mixed 19 _ _ _ ?_
      simp -implicitDefEqProofs only [go_sem, qa, qb, qc, qd, qe, qf, qg, qh, qi, qj, qk, ↓reduceIte, h1294, h1297, h1302, h1304, h1747, h1748, g1751, g1752, g1753, h1754, g1757, g1758, g1759, h1762, g1765, g1766, h1767, g1770, g1771, h1772, g1774, g1775]
      repeat with_reducible refine ⟨by first | kernel_rfl | decide, ?_⟩
      have hh := bnd'_some h; clear h; obtain ⟨o1885, h1886, h1887⟩ := hh
      refine Wp_cut (fun s => ∃ c1878, ∃ c1879, (c1878, c1879) = o1885 ∧ s = ⟨[], [(0, .dead), (1, .dead), (3, .dead), (4, .ptr 0 0), (5, .dead), (6, .dead), (7, .ptr 1 0), (8, .dead), (9, .dead), (10, .dead), (11, .dead), (22, .dead), (24, .dead), (49, .dead), (69, .dead)], [(0, .p [.nl, .nl]), (1, .r [.sl false 2 0 n1749 1, .sl false 3 0 n1755 1]), (2, .p c1878), (3, .p c1879)], 4, []⟩) ?_ ?_
      · refine Wp_block ?_
        refine Wp_loopG (fun n s => ∃ x1826, ∃ c1827, ∃ c1828, m39_L1 N n1295 c1296 n1749 n1755 n1763 c1764 n x1826 c1827 c1828 = some o1885 ∧ s = ⟨[], [(0, .v (.lst false n1295 c1296)), (1, .dead), (3, .dead), (4, .ptr 0 0), (5, .dead), (6, .dead), (7, .ptr 1 0), (8, .v (.lst false n1763 c1764)), (9, .v (.int .i64 x1826)), (10, .dead), (11, .dead), (22, .dead), (24, .dead), (49, .dead), (69, .dead)], [(0, .p [.nl, .nl]), (1, .r [.sl false 2 0 n1749 1, .sl false 3 0 n1755 1]), (2, .p c1827), (3, .p c1828)], 4, []⟩) N _ ((Wk_le (.r (.k (.k (.r (.k (.k (.r (.r (.r (.r (.r (.k (.k (.r (.r .nil))))))))))))))) (OLe.refl _)).trans (cmpS_ok (st' := ⟨[], [(0, .v (.lst false n1295 c1296)), (1, .dead), (3, .dead), (4, .ptr 0 0), (5, .dead), (6, .dead), (7, .ptr 1 0), (8, .v (.lst false n1763 c1764)), (9, .v (.int .i64 1)), (10, .dead), (11, .dead), (22, .dead), (24, .dead), (49, .dead), (69, .dead)], [(0, .p [.nl, .nl]), (1, .r [.sl false 2 0 n1749 1, .sl false 3 0 n1755 1]), (2, .p (List.replicate n1749 (.int .i64 0))), (3, .p (List.set (List.replicate n1755 (.int .i64 0)) 0 (.int .i64 x1773)))], 4, []⟩) (by kernel_rfl))) ⟨_, _, _, h1886, rfl⟩ ?_
        clear h1886
        rintro n _ ⟨x1826, c1827, c1828, h1886, rfl⟩
        cases n with
        | zero => cases h1886
        | succ n =>
          rw [m39_L1] at h1886
          have hh := brn_some h1886; clear h1886; rcases hh with ⟨h1829, h1886⟩ | ⟨h1829, h1886⟩
          · have hh := grd_some h1886; clear h1886; obtain ⟨⟨g1830, g1831⟩, h1886⟩ := hh
            have hh := grd_some h1886; clear h1886; obtain ⟨g1832, h1886⟩ := hh
            have hh := getI_some h1886; clear h1886; obtain ⟨x1834, h1833, h1886⟩ := hh
            have hh := grd_some h1886; clear h1886; obtain ⟨g1835, h1886⟩ := hh
            have hh := getI_some h1886; clear h1886; obtain ⟨x1837, h1836, h1886⟩ := hh
            have hh := grd_some h1886; clear h1886; obtain ⟨⟨g1838, g1839⟩, h1886⟩ := hh
            have hh := grd_some h1886; clear h1886; obtain ⟨g1840, h1886⟩ := hh
            have hh := getI_some h1886; clear h1886; obtain ⟨x1842, h1841, h1886⟩ := hh
            have hh := brn_some h1886; clear h1886; rcases hh with ⟨h1843, h1886⟩ | ⟨h1843, h1886⟩
            · have hh := grd_some h1886; clear h1886; obtain ⟨⟨g1844, g1845⟩, h1886⟩ := hh
              have hh := grd_some h1886; clear h1886; obtain ⟨g1846, h1886⟩ := hh
              have hh := getL_some h1886; clear h1886; obtain ⟨n1848, c1849, h1847, h1886⟩ := hh
              have hh := grd_some h1886; clear h1886; obtain ⟨⟨g1850, g1851⟩, h1886⟩ := hh
              have hh := grd_some h1886; clear h1886; obtain ⟨g1852, h1886⟩ := hh
              have hh := getI_some h1886; clear h1886; obtain ⟨x1854, h1853, h1886⟩ := hh
              have hh := grd_some h1886; clear h1886; obtain ⟨g1855, h1886⟩ := hh
              have hh := grd_some h1886; clear h1886; obtain ⟨g1856, h1886⟩ := hh
              have hh := getI_some h1886; clear h1886; obtain ⟨x1858, h1857, h1886⟩ := hh
              have hh := grd_some h1886; clear h1886; obtain ⟨g1859, h1886⟩ := hh
              have hh := grd_some h1886; clear h1886; obtain ⟨g1860, h1886⟩ := hh
              refine W_sound tab_ok mixed 65 _ _ _ ?_
              simp -implicitDefEqProofs only [go_sem, qa, qb, qc, qd, qe, qf, qg, qh, qi, qj, qk, ↓reduceIte, h1294, h1297, h1302, h1304, h1747, h1748, g1751, g1752, g1753, h1754, g1757, g1758, g1759, h1762, g1765, g1766, h1767, g1770, g1771, h1772, g1774, g1775, h1829, g1830, g1831, g1832, h1833, g1835, h1836, g1838, g1839, g1840, h1841, h1843, g1844, g1845, g1846, h1847, g1850, g1851, g1852, h1853, g1855, g1856, h1857, g1859, g1860]
              repeat with_reducible refine ⟨by first | kernel_rfl | decide, ?_⟩
              exact cutQ _ ((Wk_le (.r (.r (.r (.r (.r (.r (.r (.r (.r (.k (.k (.r (.r (.k (.k .nil))))))))))))))) (OLe.refl _)).trans (cmpS_ok (st' := ⟨[], [(0, .v (.lst false n1295 c1296)), (1, .dead), (3, .dead), (4, .ptr 0 0), (5, .dead), (6, .dead), (7, .ptr 1 0), (8, .v (.lst false n1763 c1764)), (9, .v (.int .i64 (IntKind.i64.wrap (x1826 + 1)))), (10, .dead), (11, .dead), (22, .dead), (24, .dead), (49, .dead), (69, .dead)], [(0, .p [.nl, .nl]), (1, .r [.sl false 2 0 n1749 1, .sl false 3 0 n1755 1]), (2, .p c1827), (3, .p (List.set c1828 (Int.toNat x1837) (.int .i64 (IntKind.i64.wrap (x1854 - x1858)))))], 4, []⟩) (by kernel_rfl))) ⟨n, Nat.lt_succ_self n, _, _, _, h1886, rfl⟩
            · have hh := grd_some h1886; clear h1886; obtain ⟨⟨g1861, g1862⟩, h1886⟩ := hh
              have hh := grd_some h1886; clear h1886; obtain ⟨g1863, h1886⟩ := hh
              have hh := getL_some h1886; clear h1886; obtain ⟨n1865, c1866, h1864, h1886⟩ := hh
              have hh := grd_some h1886; clear h1886; obtain ⟨⟨g1867, g1868⟩, h1886⟩ := hh
              have hh := grd_some h1886; clear h1886; obtain ⟨g1869, h1886⟩ := hh
              have hh := getI_some h1886; clear h1886; obtain ⟨x1871, h1870, h1886⟩ := hh
              have hh := grd_some h1886; clear h1886; obtain ⟨g1872, h1886⟩ := hh
              have hh := grd_some h1886; clear h1886; obtain ⟨g1873, h1886⟩ := hh
              have hh := getI_some h1886; clear h1886; obtain ⟨x1875, h1874, h1886⟩ := hh
              have hh := grd_some h1886; clear h1886; obtain ⟨g1876, h1886⟩ := hh
              have hh := grd_some h1886; clear h1886; obtain ⟨g1877, h1886⟩ := hh
              refine W_sound tab_ok mixed 65 _ _ _ ?_
              simp -implicitDefEqProofs only [go_sem, qa, qb, qc, qd, qe, qf, qg, qh, qi, qj, qk, ↓reduceIte, h1294, h1297, h1302, h1304, h1747, h1748, g1751, g1752, g1753, h1754, g1757, g1758, g1759, h1762, g1765, g1766, h1767, g1770, g1771, h1772, g1774, g1775, h1829, g1830, g1831, g1832, h1833, g1835, h1836, g1838, g1839, g1840, h1841, h1843, g1861, g1862, g1863, h1864, g1867, g1868, g1869, h1870, g1872, g1873, h1874, g1876, g1877]
              repeat with_reducible refine ⟨by first | kernel_rfl | decide, ?_⟩
              exact cutQ _ ((Wk_le (.r (.r (.r (.r (.r (.r (.r (.r (.r (.k (.k (.r (.r (.k (.k .nil))))))))))))))) (OLe.refl _)).trans (cmpS_ok (st' := ⟨[], [(0, .v (.lst false n1295 c1296)), (1, .dead), (3, .dead), (4, .ptr 0 0), (5, .dead), (6, .dead), (7, .ptr 1 0), (8, .v (.lst false n1763 c1764)), (9, .v (.int .i64 (IntKind.i64.wrap (x1826 + 1)))), (10, .dead), (11, .dead), (22, .dead), (24, .dead), (49, .dead), (69, .dead)], [(0, .p [.nl, .nl]), (1, .r [.sl false 2 0 n1749 1, .sl false 3 0 n1755 1]), (2, .p (List.set c1827 (Int.toNat x1834) (.int .i64 (IntKind.i64.wrap (x1871 - x1875))))), (3, .p c1828)], 4, []⟩) (by kernel_rfl))) ⟨n, Nat.lt_succ_self n, _, _, _, h1886, rfl⟩
          · refine W_sound tab_ok mixed 10 _ _ _ ?_
            simp -implicitDefEqProofs only [go_sem, qa, qb, qc, qd, qe, qf, qg, qh, qi, qj, qk, ↓reduceIte, h1294, h1297, h1302, h1304, h1747, h1748, g1751, g1752, g1753, h1754, g1757, g1758, g1759, h1762, g1765, g1766, h1767, g1770, g1771, h1772, g1774, g1775, h1829]
            repeat with_reducible refine ⟨by first | kernel_rfl | decide, ?_⟩
            obtain rfl := Option.some.inj h1886
            exact cutQ _ ((Wk_le (.k (.r (.r (.r (.r (.r (.r (.k (.k (.r (.r (.r (.r (.k (.r .nil))))))))))))))) (OLe.refl _)).trans (cmpS_ok (st' := ⟨[], [(0, .dead), (1, .dead), (3, .dead), (4, .ptr 0 0), (5, .dead), (6, .dead), (7, .ptr 1 0), (8, .dead), (9, .dead), (10, .dead), (11, .dead), (22, .dead), (24, .dead), (49, .dead), (69, .dead)], [(0, .p [.nl, .nl]), (1, .r [.sl false 2 0 n1749 1, .sl false 3 0 n1755 1]), (2, .p c1827), (3, .p c1828)], 4, []⟩) (by kernel_rfl))) ⟨_, _, rfl, rfl⟩
      · rintro _ ⟨c1878, c1879, rfl, rfl⟩
        (try dsimp only at h1887)
        refine W_sound tab_ok mixed 8 _ _ _ ?_
        simp -implicitDefEqProofs only [go_sem, qa, qb, qc, qd, qe, qf, qg, qh, qi, qj, qk, ↓reduceIte, h1294, h1297, h1302, h1304, h1747, h1748, g1751, g1752, g1753, h1754, g1757, g1758, g1759, h1762, g1765, g1766, h1767, g1770, g1771, h1772, g1774, g1775]
        repeat with_reducible refine ⟨by first | kernel_rfl | decide, ?_⟩
        have hh := grd_some h1887; clear h1887; obtain ⟨g1880, h1887⟩ := hh
        refine FinQ_wk (Wk_freeze 2 c1878 (by rfl) (by decide) (by decide)) ?_
        simp -implicitDefEqProofs only [go_sem, qa, qb, qc, qd, qe, qf, qg, qh, qi, qj, qk, ↓reduceIte, h1294, h1297, h1302, h1304, h1747, h1748, g1751, g1752, g1753, h1754, g1757, g1758, g1759, h1762, g1765, g1766, h1767, g1770, g1771, h1772, g1774, g1775, g1880]
        have hh := grd_some h1887; clear h1887; obtain ⟨g1881, h1887⟩ := hh
        refine FinQ_wk (Wk_freeze 3 c1879 (by rfl) (by decide) (by decide)) ?_
        simp -implicitDefEqProofs only [go_sem, qa, qb, qc, qd, qe, qf, qg, qh, qi, qj, qk, ↓reduceIte, h1294, h1297, h1302, h1304, h1747, h1748, g1751, g1752, g1753, h1754, g1757, g1758, g1759, h1762, g1765, g1766, h1767, g1770, g1771, h1772, g1774, g1775, g1880, g1881]
        refine FinQ_wk (Wk_freeze 0 [(.lst false n1749 c1878), (.lst false n1755 c1879)] (by rfl) (by decide) (by decide)) ?_
        simp -implicitDefEqProofs only [go_sem, qa, qb, qc, qd, qe, qf, qg, qh, qi, qj, qk, ↓reduceIte, h1294, h1297, h1302, h1304, h1747, h1748, g1751, g1752, g1753, h1754, g1757, g1758, g1759, h1762, g1765, g1766, h1767, g1770, g1771, h1772, g1774, g1775, g1880, g1881]
        obtain rfl := Option.some.inj h1887
        exact finC [(4, .v (.ipt [(.lst false n1749 c1878), (.lst false n1755 c1879)])), (5, .v (.int .i64 0))] [(4, .v (.ipt [(.lst false n1749 c1878), (.lst false n1755 c1879)])), (5, .v (.int .i64 0))] (by simp [leE, lk_cons]) (.cons _ _ _ _ _ (.v _ _ (.refl _)) (.cons _ _ _ _ _ (.v _ _ (.refl _)) .nil)) (by rfl) (by simp [leE, lk_cons]) (by decide) (by decide) rfl (by simp only [go_sem, qa, qb, qc, qd, qe, qf, qg, qh, qi, qj, qk, ↓reduceIte, resQ_tmp, resQ_cell, resQ_nil, retD_one, retD_two, retD_three, retD_none]; try simp [R.val, retD_one, retD_two, retD_three, retD_none])
def m40_L1 (N : Nat) (n1891 : Nat) (c1892 : List PV) (n1902 : Nat) (c1903 : List PV) (n1906 : Nat) (c1907 : List PV) (x1924 : Int) (n1930 : Nat) (c1931 : List PV) : Nat → Int → Option ((PV ⊕ Unit))
  | 0, _ => none
  | n + 1, x1932 =>
    brn (decide (x1932 < ((n1930 : Nat) : Int))) (
      grd (0 ≤ x1932 ∧ x1932 < ((n1930 : Nat) : Int)) <|
      grd (0 < List.length (List.drop (Int.toNat x1932) c1931)) <|
      getI .i64 (gp c1931 (Int.toNat x1932)) fun x1938 =>
      grd (x1924 < ((n1902 : Nat) : Int)) <|
      grd (0 < List.length (List.drop (Int.toNat x1924) c1903)) <|
      getI .i64 (gp c1903 (Int.toNat x1924)) fun x1942 =>
      grd (x1932 < ((n1906 : Nat) : Int)) <|
      grd (0 < List.length (List.drop (Int.toNat x1932) c1907)) <|
      getI .i64 (gp c1907 (Int.toNat x1932)) fun x1946 =>
      brn (decide (x1938 < (IntKind.i64.wrap (x1942 + x1946)))) (
        some (.inl (.int .i64 15))) (
        m40_L1 N n1891 c1892 n1902 c1903 n1906 c1907 x1924 n1930 c1931 n (IntKind.i64.wrap (x1932 + 1)))) (
      some (.inr ()))
def m40_L0 (N : Nat) (n1891 : Nat) (c1892 : List PV) (n1902 : Nat) (c1903 : List PV) (n1906 : Nat) (c1907 : List PV) : Nat → Int → Option ((PV ⊕ Unit))
  | 0, _ => none
  | n + 1, x1924 =>
    brn (decide (x1924 < ((n1891 : Nat) : Int))) (
      grd (0 ≤ x1924 ∧ x1924 < ((n1891 : Nat) : Int)) <|
      grd (0 < List.length (List.drop (Int.toNat x1924) c1892)) <|
      getL (gp c1892 (Int.toNat x1924)) fun n1930 c1931 =>
      bnd' (m40_L1 N n1891 c1892 n1902 c1903 n1906 c1907 x1924 n1930 c1931 N 0) fun o =>
      match o with
      | .inl p1948 =>
        some (.inl p1948)
      | .inr () =>
        m40_L0 N n1891 c1892 n1902 c1903 n1906 c1907 n (IntKind.i64.wrap (x1924 + 1))) (
      some (.inr ()))
def m40 (N : Nat) (p1888 : PV) (p1889 : PV) : Option (PV) :=
  getL p1888 fun n1891 c1892 =>
  getA2 p1889 fun p1894 p1895 =>
  bnd' (m23 N (.lst false n1891 c1892)) fun p1896 =>
  getI .i64 p1896 fun x1899 =>
  brn (x1899 != 0) (
    some (.int .i64 x1899)) (
    getL p1894 fun n1902 c1903 =>
    brn (((n1902 : Nat) : Int) != ((n1891 : Nat) : Int)) (
      some (.int .i64 5)) (
      getL p1895 fun n1906 c1907 =>
      grd (0 < ((n1891 : Nat) : Int)) <|
      grd (0 < List.length c1892) <|
      getL (gp c1892 0) fun n1911 c1912 =>
      brn (((n1906 : Nat) : Int) != ((n1911 : Nat) : Int)) (
        some (.int .i64 5)) (
        bnd' (m68 N (.lst false n1902 c1903) (-1000) 1000) fun p1914 =>
        getB p1914 fun b1917 =>
        brn b1917 (
          some (.int .i64 1)) (
          bnd' (m68 N (.lst false n1906 c1907) (-1000) 1000) fun p1919 =>
          getB p1919 fun b1922 =>
          brn b1922 (
            some (.int .i64 1)) (
            bnd' (m40_L0 N n1891 c1892 n1902 c1903 n1906 c1907 N 0) fun o =>
            match o with
            | .inl p1949 =>
              some p1949
            | .inr () =>
              some (.int .i64 0))))))
theorem c40 (N : Nat) (p1888 : PV) (p1889 : PV) (r : PV)  (h : m40 N p1888 p1889 = some r) : FnP Try.prog 40 [p1888, p1889] r := by
  unfold m40 at h
  refine Fn_of (sz := 71) tab_ok [0, 1, 3, 4, 5, 6, 7, 8, 9, 12, 16, 33, 42, 43, 44, 45, 49, 50, 51, 52, 68] [.tmp 4] Try.func40 rfl rfl rfl (by simp) ?_
  simp only [initSt, initEnv, List.map_cons, List.map_nil, List.getD_cons_zero, List.getD_cons_succ, List.getD_nil]
  have hh := getL_some h; clear h; obtain ⟨n1891, c1892, h1890, h⟩ := hh
  have hh := getA2_some h; clear h; obtain ⟨p1894, p1895, h1893, h⟩ := hh
  have hh := bnd'_some h; clear h; obtain ⟨p1896, h1897, h⟩ := hh
  refine W_sound tab_ok mixed 8 _ _ _ ?_
  simp -implicitDefEqProofs only [go_sem, qa, qb, qc, qd, qe, qf, qg, qh, qi, qj, qk, ↓reduceIte, h1890, h1893]
  repeat with_reducible refine ⟨by first | kernel_rfl | decide, ?_⟩
  refine Wp_callP (c23 N _ _ h1897) (by kernel_rfl) rfl rfl rfl rfl (by decide) ?_
  have hh := getI_some h; clear h; obtain ⟨x1899, h1898, h⟩ := hh
  have hh := brn_some h; clear h; rcases hh with ⟨h1900, h⟩ | ⟨h1900, h⟩
  · refine W_sound tab_ok mixed 18 _ _ _ ?_
    simp -implicitDefEqProofs only [go_sem, qa, qb, qc, qd, qe, qf, qg, qh, qi, qj, qk, ↓reduceIte, h1890, h1893, h1898, h1900]
    repeat with_reducible refine ⟨by first | kernel_rfl | decide, ?_⟩
    obtain rfl := Option.some.inj h
    exact finC [(4, .v (.int .i64 x1899))] [(4, .v (.int .i64 x1899))] (by simp [leE, lk_cons]) (.cons _ _ _ _ _ (.v _ _ (.refl _)) .nil) (by rfl) (by simp [leE, lk_cons]) (by decide) (by decide) rfl (by simp only [go_sem, qa, qb, qc, qd, qe, qf, qg, qh, qi, qj, qk, ↓reduceIte, resQ_tmp, resQ_cell, resQ_nil, retD_one, retD_two, retD_three, retD_none]; try simp [R.val, retD_one, retD_two, retD_three, retD_none])
  · have hh := getL_some h; clear h; obtain ⟨n1902, c1903, h1901, h⟩ := hh
    have hh := brn_some h; clear h; rcases hh with ⟨h1904, h⟩ | ⟨h1904, h⟩
    · refine W_sound tab_ok mixed 38 _ _ _ ?_
      simp -implicitDefEqProofs only [go_sem, qa, qb, qc, qd, qe, qf, qg, qh, qi, qj, qk, ↓reduceIte, h1890, h1893, h1898, h1900, h1901, h1904]
      repeat with_reducible refine ⟨by first | kernel_rfl | decide, ?_⟩
      obtain rfl := Option.some.inj h
      exact finC [(4, .v (.int .i64 5))] [(4, .v (.int .i64 5))] (by simp [leE, lk_cons]) (.cons _ _ _ _ _ (.v _ _ (.refl _)) .nil) (by rfl) (by simp [leE, lk_cons]) (by decide) (by decide) rfl (by simp only [go_sem, qa, qb, qc, qd, qe, qf, qg, qh, qi, qj, qk, ↓reduceIte, resQ_tmp, resQ_cell, resQ_nil, retD_one, retD_two, retD_three, retD_none]; try simp [R.val, retD_one, retD_two, retD_three, retD_none])
    · have hh := getL_some h; clear h; obtain ⟨n1906, c1907, h1905, h⟩ := hh
      have hh := grd_some h; clear h; obtain ⟨g1908, h⟩ := hh
      have hh := grd_some h; clear h; obtain ⟨g1909, h⟩ := hh
      have hh := getL_some h; clear h; obtain ⟨n1911, c1912, h1910, h⟩ := hh
      have hh := brn_some h; clear h; rcases hh with ⟨h1913, h⟩ | ⟨h1913, h⟩
      · refine W_sound tab_ok mixed 38 _ _ _ ?_
        simp -implicitDefEqProofs only [go_sem, qa, qb, qc, qd, qe, qf, qg, qh, qi, qj, qk, ↓reduceIte, h1890, h1893, h1898, h1900, h1901, h1904, h1905, g1908, g1909, h1910, h1913]
        repeat with_reducible refine ⟨by first | kernel_rfl | decide, ?_⟩
        obtain rfl := Option.some.inj h
        exact finC [(4, .v (.int .i64 5))] [(4, .v (.int .i64 5))] (by simp [leE, lk_cons]) (.cons _ _ _ _ _ (.v _ _ (.refl _)) .nil) (by rfl) (by simp [leE, lk_cons]) (by decide) (by decide) rfl (by simp only [go_sem, qa, qb, qc, qd, qe, qf, qg, qh, qi, qj, qk, ↓reduceIte, resQ_tmp, resQ_cell, resQ_nil, retD_one, retD_two, retD_three, retD_none]; try simp [R.val, retD_one, retD_two, retD_three, retD_none])
      · have hh := bnd'_some h; clear h; obtain ⟨p1914, h1915, h⟩ := hh
        refine W_sound tab_ok mixed 36 _ _ _ ?_
        simp -implicitDefEqProofs only [go_sem, qa, qb, qc, qd, qe, qf, qg, qh, qi, qj, qk, ↓reduceIte, h1890, h1893, h1898, h1900, h1901, h1904, h1905, g1908, g1909, h1910, h1913]
        repeat with_reducible refine ⟨by first | kernel_rfl | decide, ?_⟩
        refine Wp_callP (c68 N _ _ _ _ h1915) (by kernel_rfl) rfl rfl rfl rfl (by decide) ?_
        have hh := getB_some h; clear h; obtain ⟨b1917, h1916, h⟩ := hh
        have hh := brn_some h; clear h; rcases hh with ⟨h1918, h⟩ | ⟨h1918, h⟩
        · refine W_sound tab_ok mixed 14 _ _ _ ?_
          simp -implicitDefEqProofs only [go_sem, qa, qb, qc, qd, qe, qf, qg, qh, qi, qj, qk, ↓reduceIte, h1890, h1893, h1898, h1900, h1901, h1904, h1905, g1908, g1909, h1910, h1913, h1916, h1918]
          repeat with_reducible refine ⟨by first | kernel_rfl | decide, ?_⟩
          obtain rfl := Option.some.inj h
          exact finC [(4, .v (.int .i64 1))] [(4, .v (.int .i64 1))] (by simp [leE, lk_cons]) (.cons _ _ _ _ _ (.v _ _ (.refl _)) .nil) (by rfl) (by simp [leE, lk_cons]) (by decide) (by decide) rfl (by simp only [go_sem, qa, qb, qc, qd, qe, qf, qg, qh, qi, qj, qk, ↓reduceIte, resQ_tmp, resQ_cell, resQ_nil, retD_one, retD_two, retD_three, retD_none]; try simp [R.val, retD_one, retD_two, retD_three, retD_none])
        · have hh := bnd'_some h; clear h; obtain ⟨p1919, h1920, h⟩ := hh
          refine W_sound tab_ok mixed 3 _ _ _ ?_
          simp -implicitDefEqProofs only [go_sem, qa, qb, qc, qd, qe, qf, qg, qh, qi, qj, qk, ↓reduceIte, h1890, h1893, h1898, h1900, h1901, h1904, h1905, g1908, g1909, h1910, h1913, h1916, h1918]
          repeat with_reducible refine ⟨by first | kernel_rfl | decide, ?_⟩
          refine Wp_callP (c68 N _ _ _ _ h1920) (by kernel_rfl) rfl rfl rfl rfl (by decide) ?_
          have hh := getB_some h; clear h; obtain ⟨b1922, h1921, h⟩ := hh
          have hh := brn_some h; clear h; rcases hh with ⟨h1923, h⟩ | ⟨h1923, h⟩
          · refine W_sound tab_ok mixed 10 _ _ _ ?_
            simp -implicitDefEqProofs only [go_sem, qa, qb, qc, qd, qe, qf, qg, qh, qi, qj, qk, ↓reduceIte, h1890, h1893, h1898, h1900, h1901, h1904, h1905, g1908, g1909, h1910, h1913, h1916, h1918, h1921, h1923]
            repeat with_reducible refine ⟨by first | kernel_rfl | decide, ?_⟩
            obtain rfl := Option.some.inj h
            exact finC [(4, .v (.int .i64 1))] [(4, .v (.int .i64 1))] (by simp [leE, lk_cons]) (.cons _ _ _ _ _ (.v _ _ (.refl _)) .nil) (by rfl) (by simp [leE, lk_cons]) (by decide) (by decide) rfl (by simp only [go_sem, qa, qb, qc, qd, qe, qf, qg, qh, qi, qj, qk, ↓reduceIte, resQ_tmp, resQ_cell, resQ_nil, retD_one, retD_two, retD_three, retD_none]; try simp [R.val, retD_one, retD_two, retD_three, retD_none])
          · refine W_sound tab_ok mixed 13 _ _ _ ?_
            simp -implicitDefEqProofs only [go_sem, qa, qb, qc, qd, qe, qf, qg, qh, qi, qj, qk, ↓reduceIte, h1890, h1893, h1898, h1900, h1901, h1904, h1905, g1908, g1909, h1910, h1913, h1916, h1918, h1921, h1923]
            repeat with_reducible refine ⟨by first | kernel_rfl | decide, ?_⟩
            have hh := bnd'_some h; clear h; obtain ⟨o1950, h1951, h1952⟩ := hh
            refine Wp_cut (fun s => (.inr ()) = o1950 ∧ s = ⟨[], [(0, .dead), (1, .dead), (3, .dead), (4, .dead), (5, .dead), (6, .dead), (7, .dead), (8, .dead), (9, .dead), (12, .dead), (16, .dead), (33, .dead), (42, .dead), (43, .dead), (44, .dead), (45, .dead), (49, .dead), (50, .dead), (51, .dead), (52, .dead), (68, .dead)], [], 0, []⟩) ?_ ?_
            · refine Wp_block ?_
              refine Wp_loopG (fun n s => ∃ x1924, m40_L0 N n1891 c1892 n1902 c1903 n1906 c1907 n x1924 = some o1950 ∧ s = ⟨[], [(0, .dead), (1, .dead), (3, .ptr 0 0), (4, .dead), (5, .dead), (6, .dead), (7, .dead), (8, .dead), (9, .dead), (12, .dead), (16, .dead), (33, .dead), (42, .v (.lst false n1891 c1892)), (43, .v (.int .i64 ((n1891 : Nat) : Int))), (44, .v (.int .i64 x1924)), (45, .dead), (49, .dead), (50, .dead), (51, .dead), (52, .dead), (68, .dead)], [(0, .p [(.lst false n1902 c1903), (.lst false n1906 c1907)])], 1, []⟩) N _ ((Wk_le (.k (.k (.r (.k (.k (.r (.r (.r (.r (.k (.k (.k (.r (.r (.r (.r (.r (.r (.r (.r (.r .nil))))))))))))))))))))) (OLe.refl _)).trans (cmpS_ok (st' := ⟨[], [(0, .dead), (1, .dead), (3, .ptr 0 0), (4, .dead), (5, .dead), (6, .dead), (7, .dead), (8, .dead), (9, .dead), (12, .dead), (16, .dead), (33, .dead), (42, .v (.lst false n1891 c1892)), (43, .v (.int .i64 ((n1891 : Nat) : Int))), (44, .v (.int .i64 0)), (45, .dead), (49, .dead), (50, .dead), (51, .dead), (52, .dead), (68, .dead)], [(0, .p [(.lst false n1902 c1903), (.lst false n1906 c1907)])], 1, []⟩) (by kernel_rfl))) ⟨_, h1951, rfl⟩ ?_
              clear h1951
              rintro n _ ⟨x1924, h1951, rfl⟩
              cases n with
              | zero => cases h1951
              | succ n =>
                rw [m40_L0] at h1951
                have hh := brn_some h1951; clear h1951; rcases hh with ⟨h1925, h1951⟩ | ⟨h1925, h1951⟩
                · have hh := grd_some h1951; clear h1951; obtain ⟨⟨g1926, g1927⟩, h1951⟩ := hh
                  have hh := grd_some h1951; clear h1951; obtain ⟨g1928, h1951⟩ := hh
                  have hh := getL_some h1951; clear h1951; obtain ⟨n1930, c1931, h1929, h1951⟩ := hh
                  refine W_sound tab_ok mixed 23 _ _ _ ?_
                  simp -implicitDefEqProofs only [go_sem, qa, qb, qc, qd, qe, qf, qg, qh, qi, qj, qk, ↓reduceIte, h1890, h1893, h1898, h1900, h1901, h1904, h1905, g1908, g1909, h1910, h1913, h1916, h1918, h1921, h1923, h1925, g1926, g1927, g1928, h1929]
                  repeat with_reducible refine ⟨by first | kernel_rfl | decide, ?_⟩
                  have hh := bnd'_some h1951; clear h1951; obtain ⟨o1953, h1954, h1955⟩ := hh
                  refine Wp_cut (fun s => (.inr ()) = o1953 ∧ s = ⟨[], [(0, .dead), (1, .dead), (3, .ptr 0 0), (4, .dead), (5, .dead), (6, .dead), (7, .dead), (8, .dead), (9, .dead), (12, .dead), (16, .dead), (33, .dead), (42, .v (.lst false n1891 c1892)), (43, .v (.int .i64 ((n1891 : Nat) : Int))), (44, .v (.int .i64 x1924)), (45, .dead), (49, .dead), (50, .dead), (51, .dead), (52, .dead), (68, .dead)], [(0, .p [(.lst false n1902 c1903), (.lst false n1906 c1907)])], 1, []⟩) ?_ ?_
                  · refine Wp_block ?_
                    refine Wp_loopG (fun n s => ∃ x1932, m40_L1 N n1891 c1892 n1902 c1903 n1906 c1907 x1924 n1930 c1931 n x1932 = some o1953 ∧ s = ⟨[], [(0, .dead), (1, .dead), (3, .ptr 0 0), (4, .dead), (5, .dead), (6, .v (.int .i64 x1924)), (7, .dead), (8, .dead), (9, .dead), (12, .dead), (16, .dead), (33, .dead), (42, .v (.lst false n1891 c1892)), (43, .v (.int .i64 ((n1891 : Nat) : Int))), (44, .v (.int .i64 x1924)), (45, .dead), (49, .v (.lst false n1930 c1931)), (50, .v (.int .i64 ((n1930 : Nat) : Int))), (51, .v (.int .i64 x1932)), (52, .dead), (68, .dead)], [(0, .p [(.lst false n1902 c1903), (.lst false n1906 c1907)])], 1, []⟩) N _ ((Wk_le (.r (.r (.r (.r (.r (.r (.k (.r (.r (.r (.r (.r (.r (.r (.r (.k (.r (.r (.r (.r (.r .nil))))))))))))))))))))) (OLe.refl _)).trans (cmpS_ok (st' := ⟨[], [(0, .dead), (1, .dead), (3, .ptr 0 0), (4, .dead), (5, .dead), (6, .v (.int .i64 x1924)), (7, .dead), (8, .dead), (9, .dead), (12, .dead), (16, .dead), (33, .dead), (42, .v (.lst false n1891 c1892)), (43, .v (.int .i64 ((n1891 : Nat) : Int))), (44, .v (.int .i64 x1924)), (45, .dead), (49, .v (.lst false n1930 c1931)), (50, .v (.int .i64 ((n1930 : Nat) : Int))), (51, .v (.int .i64 0)), (52, .dead), (68, .dead)], [(0, .p [(.lst false n1902 c1903), (.lst false n1906 c1907)])], 1, []⟩) (by kernel_rfl))) ⟨_, h1954, rfl⟩ ?_
                    clear h1954
                    rintro n _ ⟨x1932, h1954, rfl⟩
                    cases n with
                    | zero => cases h1954
                    | succ n =>
                      rw [m40_L1] at h1954
                      have hh := brn_some h1954; clear h1954; rcases hh with ⟨h1933, h1954⟩ | ⟨h1933, h1954⟩
                      · have hh := grd_some h1954; clear h1954; obtain ⟨⟨g1934, g1935⟩, h1954⟩ := hh
                        have hh := grd_some h1954; clear h1954; obtain ⟨g1936, h1954⟩ := hh
                        have hh := getI_some h1954; clear h1954; obtain ⟨x1938, h1937, h1954⟩ := hh
                        have hh := grd_some h1954; clear h1954; obtain ⟨g1939, h1954⟩ := hh
                        have hh := grd_some h1954; clear h1954; obtain ⟨g1940, h1954⟩ := hh
                        have hh := getI_some h1954; clear h1954; obtain ⟨x1942, h1941, h1954⟩ := hh
                        have hh := grd_some h1954; clear h1954; obtain ⟨g1943, h1954⟩ := hh
                        have hh := grd_some h1954; clear h1954; obtain ⟨g1944, h1954⟩ := hh
                        have hh := getI_some h1954; clear h1954; obtain ⟨x1946, h1945, h1954⟩ := hh
                        have hh := brn_some h1954; clear h1954; rcases hh with ⟨h1947, h1954⟩ | ⟨h1947, h1954⟩
                        · refine W_sound tab_ok mixed 40 _ _ _ ?_
                          simp -implicitDefEqProofs only [go_sem, qa, qb, qc, qd, qe, qf, qg, qh, qi, qj, qk, ↓reduceIte, h1890, h1893, h1898, h1900, h1901, h1904, h1905, g1908, g1909, h1910, h1913, h1916, h1918, h1921, h1923, h1925, g1926, g1927, g1928, h1929, h1933, g1934, g1935, g1936, h1937, g1939, g1940, h1941, g1943, g1944, h1945, h1947]
                          repeat with_reducible refine ⟨by first | kernel_rfl | decide, ?_⟩
                          obtain rfl := Option.some.inj h1954
                          (try dsimp only at h1955)
                          obtain rfl := Option.some.inj h1955
                          (try dsimp only at h1952)
                          obtain rfl := Option.some.inj h1952
                          exact finC [(4, .v (.int .i64 15))] [(4, .v (.int .i64 15))] (by simp [leE, lk_cons]) (.cons _ _ _ _ _ (.v _ _ (.refl _)) .nil) (by rfl) (by simp [leE, lk_cons]) (by decide) (by decide) rfl (by simp only [go_sem, qa, qb, qc, qd, qe, qf, qg, qh, qi, qj, qk, ↓reduceIte, resQ_tmp, resQ_cell, resQ_nil, retD_one, retD_two, retD_three, retD_none]; try simp [R.val, retD_one, retD_two, retD_three, retD_none])
                        · refine W_sound tab_ok mixed 40 _ _ _ ?_
                          simp -implicitDefEqProofs only [go_sem, qa, qb, qc, qd, qe, qf, qg, qh, qi, qj, qk, ↓reduceIte, h1890, h1893, h1898, h1900, h1901, h1904, h1905, g1908, g1909, h1910, h1913, h1916, h1918, h1921, h1923, h1925, g1926, g1927, g1928, h1929, h1933, g1934, g1935, g1936, h1937, g1939, g1940, h1941, g1943, g1944, h1945, h1947]
                          repeat with_reducible refine ⟨by first | kernel_rfl | decide, ?_⟩
                          exact cutQ _ ((Wk_le (.r (.r (.r (.r (.r (.r (.r (.k (.k (.r (.r (.r (.r (.r (.r (.r (.r (.r (.r (.k (.k .nil))))))))))))))))))))) (OLe.refl _)).trans (cmpS_ok (st' := ⟨[], [(0, .dead), (1, .dead), (3, .ptr 0 0), (4, .dead), (5, .dead), (6, .v (.int .i64 x1924)), (7, .dead), (8, .dead), (9, .dead), (12, .dead), (16, .dead), (33, .dead), (42, .v (.lst false n1891 c1892)), (43, .v (.int .i64 ((n1891 : Nat) : Int))), (44, .v (.int .i64 x1924)), (45, .dead), (49, .v (.lst false n1930 c1931)), (50, .v (.int .i64 ((n1930 : Nat) : Int))), (51, .v (.int .i64 (IntKind.i64.wrap (x1932 + 1)))), (52, .dead), (68, .dead)], [(0, .p [(.lst false n1902 c1903), (.lst false n1906 c1907)])], 1, []⟩) (by kernel_rfl))) ⟨n, Nat.lt_succ_self n, _, h1954, rfl⟩
                      · refine W_sound tab_ok mixed 7 _ _ _ ?_
                        simp -implicitDefEqProofs only [go_sem, qa, qb, qc, qd, qe, qf, qg, qh, qi, qj, qk, ↓reduceIte, h1890, h1893, h1898, h1900, h1901, h1904, h1905, g1908, g1909, h1910, h1913, h1916, h1918, h1921, h1923, h1925, g1926, g1927, g1928, h1929, h1933]
                        repeat with_reducible refine ⟨by first | kernel_rfl | decide, ?_⟩
                        obtain rfl := Option.some.inj h1954
                        exact cutQ _ ((Wk_le (.r (.r (.r (.r (.r (.k (.r (.r (.r (.r (.r (.r (.r (.r (.r (.r (.k (.k (.k (.k (.r .nil))))))))))))))))))))) (OLe.refl _)).trans (cmpS_ok (st' := ⟨[], [(0, .dead), (1, .dead), (3, .ptr 0 0), (4, .dead), (5, .dead), (6, .dead), (7, .dead), (8, .dead), (9, .dead), (12, .dead), (16, .dead), (33, .dead), (42, .v (.lst false n1891 c1892)), (43, .v (.int .i64 ((n1891 : Nat) : Int))), (44, .v (.int .i64 x1924)), (45, .dead), (49, .dead), (50, .dead), (51, .dead), (52, .dead), (68, .dead)], [(0, .p [(.lst false n1902 c1903), (.lst false n1906 c1907)])], 1, []⟩) (by kernel_rfl))) ⟨rfl, rfl⟩
                  · rintro _ ⟨rfl, rfl⟩
                    (try dsimp only at h1955)
                    refine W_sound tab_ok mixed 5 _ _ _ ?_
                    simp -implicitDefEqProofs only [go_sem, qa, qb, qc, qd, qe, qf, qg, qh, qi, qj, qk, ↓reduceIte, h1890, h1893, h1898, h1900, h1901, h1904, h1905, g1908, g1909, h1910, h1913, h1916, h1918, h1921, h1923, h1925, g1926, g1927, g1928, h1929]
                    repeat with_reducible refine ⟨by first | kernel_rfl | decide, ?_⟩
                    exact cutQ _ ((Wk_le (.r (.r (.r (.r (.r (.r (.r (.r (.r (.r (.r (.r (.r (.r (.r (.r (.r (.r (.r (.r (.r .nil))))))))))))))))))))) (OLe.refl _)).trans (cmpS_ok (st' := ⟨[], [(0, .dead), (1, .dead), (3, .ptr 0 0), (4, .dead), (5, .dead), (6, .dead), (7, .dead), (8, .dead), (9, .dead), (12, .dead), (16, .dead), (33, .dead), (42, .v (.lst false n1891 c1892)), (43, .v (.int .i64 ((n1891 : Nat) : Int))), (44, .v (.int .i64 (IntKind.i64.wrap (x1924 + 1)))), (45, .dead), (49, .dead), (50, .dead), (51, .dead), (52, .dead), (68, .dead)], [(0, .p [(.lst false n1902 c1903), (.lst false n1906 c1907)])], 1, []⟩) (by kernel_rfl))) ⟨n, Nat.lt_succ_self n, _, h1955, rfl⟩
                · refine W_sound tab_ok mixed 7 _ _ _ ?_
                  simp -implicitDefEqProofs only [go_sem, qa, qb, qc, qd, qe, qf, qg, qh, qi, qj, qk, ↓reduceIte, h1890, h1893, h1898, h1900, h1901, h1904, h1905, g1908, g1909, h1910, h1913, h1916, h1918, h1921, h1923, h1925]
                  repeat with_reducible refine ⟨by first | kernel_rfl | decide, ?_⟩
                  obtain rfl := Option.some.inj h1951
                  exact cutQ _ ((Wk_le (.r (.r (.k (.r (.r (.r (.r (.r (.r (.r (.r (.r (.k (.k (.k (.k (.r (.r (.r (.r (.r .nil))))))))))))))))))))) (OLe.refl _)).trans (cmpS_ok (st' := ⟨[], [(0, .dead), (1, .dead), (3, .dead), (4, .dead), (5, .dead), (6, .dead), (7, .dead), (8, .dead), (9, .dead), (12, .dead), (16, .dead), (33, .dead), (42, .dead), (43, .dead), (44, .dead), (45, .dead), (49, .dead), (50, .dead), (51, .dead), (52, .dead), (68, .dead)], [], 0, []⟩) (by kernel_rfl))) ⟨rfl, rfl⟩
            · rintro _ ⟨rfl, rfl⟩
              (try dsimp only at h1952)
              refine W_sound tab_ok mixed 6 _ _ _ ?_
              simp -implicitDefEqProofs only [go_sem, qa, qb, qc, qd, qe, qf, qg, qh, qi, qj, qk, ↓reduceIte, h1890, h1893, h1898, h1900, h1901, h1904, h1905, g1908, g1909, h1910, h1913, h1916, h1918, h1921, h1923]
              repeat with_reducible refine ⟨by first | kernel_rfl | decide, ?_⟩
              obtain rfl := Option.some.inj h1952
              exact finC [(4, .v (.int .i64 0))] [(4, .v (.int .i64 0))] (by simp [leE, lk_cons]) (.cons _ _ _ _ _ (.v _ _ (.refl _)) .nil) (by rfl) (by simp [leE, lk_cons]) (by decide) (by decide) rfl (by simp only [go_sem, qa, qb, qc, qd, qe, qf, qg, qh, qi, qj, qk, ↓reduceIte, resQ_tmp, resQ_cell, resQ_nil, retD_one, retD_two, retD_three, retD_none]; try simp [R.val, retD_one, retD_two, retD_three, retD_none])
def m84_L1 (N : Nat) (n1972 : Nat) (c1973 : List PV) (n1978 : Nat) (c1979 : List PV) (n1982 : Nat) (c1983 : List PV) (x2000 : Int) : Nat → Int → Option ((PV ⊕ Unit))
  | 0, _ => none
  | n + 1, x2002 =>
    grd (0 ≤ x2000 ∧ x2000 < ((n1972 : Nat) : Int)) <|
    grd (0 < List.length (List.drop (Int.toNat x2000) c1973)) <|
    getL (gp c1973 (Int.toNat x2000)) fun n2007 c2008 =>
    brn (decide (x2002 < ((n2007 : Nat) : Int))) (
      grd (x2000 < ((n1978 : Nat) : Int)) <|
      grd (0 < List.length (List.drop (Int.toNat x2000) c1979)) <|
      getI .i64 (gp c1979 (Int.toNat x2000)) fun x2013 =>
      grd (0 ≤ x2002 ∧ x2002 < ((n1982 : Nat) : Int)) <|
      grd (0 < List.length (List.drop (Int.toNat x2002) c1983)) <|
      getI .i64 (gp c1983 (Int.toNat x2002)) fun x2018 =>
      grd (x2002 < ((n2007 : Nat) : Int)) <|
      grd (0 < List.length (List.drop (Int.toNat x2002) c2008)) <|
      getI .i64 (gp c2008 (Int.toNat x2002)) fun x2022 =>
      brn (decide ((IntKind.i64.wrap (x2013 + x2018)) > x2022)) (
        some (.inl (.int .i64 15))) (
        m84_L1 N n1972 c1973 n1978 c1979 n1982 c1983 x2000 n (IntKind.i64.wrap (x2002 + 1)))) (
      some (.inr ()))
def m84_L0 (N : Nat) (n1972 : Nat) (c1973 : List PV) (n1978 : Nat) (c1979 : List PV) (n1982 : Nat) (c1983 : List PV) : Nat → Int → Option ((PV ⊕ Unit))
  | 0, _ => none
  | n + 1, x2000 =>
    brn (decide (x2000 < ((n1972 : Nat) : Int))) (
      bnd' (m84_L1 N n1972 c1973 n1978 c1979 n1982 c1983 x2000 N 0) fun o =>
      match o with
      | .inl p2024 =>
        some (.inl p2024)
      | .inr () =>
        m84_L0 N n1972 c1973 n1978 c1979 n1982 c1983 n (IntKind.i64.wrap (x2000 + 1))) (
      some (.inr ()))
def m84 (N : Nat) (p1969 : PV) (p1970 : PV) : Option (PV) :=
  getL p1969 fun n1972 c1973 =>
  getA2 p1970 fun p1975 p1976 =>
  getL p1975 fun n1978 c1979 =>
  brn (((n1978 : Nat) : Int) != ((n1972 : Nat) : Int)) (
    some (.int .i64 5)) (
    getL p1976 fun n1982 c1983 =>
    grd (0 < ((n1972 : Nat) : Int)) <|
    grd (0 < List.length c1973) <|
    getL (gp c1973 0) fun n1987 c1988 =>
    brn (((n1982 : Nat) : Int) != ((n1987 : Nat) : Int)) (
      some (.int .i64 5)) (
      bnd' (m70 N (.lst false n1978 c1979) (-1000) 1000) fun p1990 =>
      getB p1990 fun b1993 =>
      brn b1993 (
        bnd' (m70 N (.lst false n1982 c1983) (-1000) 1000) fun p1995 =>
        getB p1995 fun b1998 =>
        brn b1998 (
          bnd' (m84_L0 N n1972 c1973 n1978 c1979 n1982 c1983 N 0) fun o =>
          match o with
          | .inl p2025 =>
            some p2025
          | .inr () =>
            some (.int .i64 0)) (
          some (.int .i64 1))) (
        some (.int .i64 1))))
theorem c84 (N : Nat) (p1969 : PV) (p1970 : PV) (r : PV)  (h : m84 N p1969 p1970 = some r) : FnP Try.prog 84 [p1969, p1970] r := by
  unfold m84 at h
  refine Fn_of (sz := 67) tab_ok [0, 1, 3, 4, 5, 6, 22, 32, 36, 45, 66] [.tmp 4] Try.func84 rfl rfl rfl (by simp) ?_
  simp only [initSt, initEnv, List.map_cons, List.map_nil, List.getD_cons_zero, List.getD_cons_succ, List.getD_nil]
  have hh := getL_some h; clear h; obtain ⟨n1972, c1973, h1971, h⟩ := hh
  have hh := getA2_some h; clear h; obtain ⟨p1975, p1976, h1974, h⟩ := hh
  have hh := getL_some h; clear h; obtain ⟨n1978, c1979, h1977, h⟩ := hh
  have hh := brn_some h; clear h; rcases hh with ⟨h1980, h⟩ | ⟨h1980, h⟩
  · refine W_sound tab_ok mixed 32 _ _ _ ?_
    simp -implicitDefEqProofs only [go_sem, qa, qb, qc, qd, qe, qf, qg, qh, qi, qj, qk, ↓reduceIte, h1971, h1974, h1977, h1980]
    repeat with_reducible refine ⟨by first | kernel_rfl | decide, ?_⟩
    obtain rfl := Option.some.inj h
    exact finC [(4, .v (.int .i64 5))] [(4, .v (.int .i64 5))] (by simp [leE, lk_cons]) (.cons _ _ _ _ _ (.v _ _ (.refl _)) .nil) (by rfl) (by simp [leE, lk_cons]) (by decide) (by decide) rfl (by simp only [go_sem, qa, qb, qc, qd, qe, qf, qg, qh, qi, qj, qk, ↓reduceIte, resQ_tmp, resQ_cell, resQ_nil, retD_one, retD_two, retD_three, retD_none]; try simp [R.val, retD_one, retD_two, retD_three, retD_none])
  · have hh := getL_some h; clear h; obtain ⟨n1982, c1983, h1981, h⟩ := hh
    have hh := grd_some h; clear h; obtain ⟨g1984, h⟩ := hh
    have hh := grd_some h; clear h; obtain ⟨g1985, h⟩ := hh
    have hh := getL_some h; clear h; obtain ⟨n1987, c1988, h1986, h⟩ := hh
    have hh := brn_some h; clear h; rcases hh with ⟨h1989, h⟩ | ⟨h1989, h⟩
    · refine W_sound tab_ok mixed 32 _ _ _ ?_
      simp -implicitDefEqProofs only [go_sem, qa, qb, qc, qd, qe, qf, qg, qh, qi, qj, qk, ↓reduceIte, h1971, h1974, h1977, h1980, h1981, g1984, g1985, h1986, h1989]
      repeat with_reducible refine ⟨by first | kernel_rfl | decide, ?_⟩
      obtain rfl := Option.some.inj h
      exact finC [(4, .v (.int .i64 5))] [(4, .v (.int .i64 5))] (by simp [leE, lk_cons]) (.cons _ _ _ _ _ (.v _ _ (.refl _)) .nil) (by rfl) (by simp [leE, lk_cons]) (by decide) (by decide) rfl (by simp only [go_sem, qa, qb, qc, qd, qe, qf, qg, qh, qi, qj, qk, ↓reduceIte, resQ_tmp, resQ_cell, resQ_nil, retD_one, retD_two, retD_three, retD_none]; try simp [R.val, retD_one, retD_two, retD_three, retD_none])
    · have hh := bnd'_some h; clear h; obtain ⟨p1990, h1991, h⟩ := hh
      refine W_sound tab_ok mixed 32 _ _ _ ?_
      simp -implicitDefEqProofs only [go_sem, qa, qb, qc, qd, qe, qf, qg, qh, qi, qj, qk, ↓reduceIte, h1971, h1974, h1977, h1980, h1981, g1984, g1985, h1986, h1989]
      repeat with_reducible refine ⟨by first | kernel_rfl | decide, ?_⟩
      refine Wp_callP (c70 N _ _ _ _ h1991) (by kernel_rfl) rfl rfl rfl rfl (by decide) ?_
      have hh := getB_some h; clear h; obtain ⟨b1993, h1992, h⟩ := hh
      have hh := brn_some h; clear h; rcases hh with ⟨h1994, h⟩ | ⟨h1994, h⟩
      · have hh := bnd'_some h; clear h; obtain ⟨p1995, h1996, h⟩ := hh
        refine W_sound tab_ok mixed 4 _ _ _ ?_
        simp -implicitDefEqProofs only [go_sem, qa, qb, qc, qd, qe, qf, qg, qh, qi, qj, qk, ↓reduceIte, h1971, h1974, h1977, h1980, h1981, g1984, g1985, h1986, h1989, h1992, h1994]
        repeat with_reducible refine ⟨by first | kernel_rfl | decide, ?_⟩
        refine Wp_callP (c70 N _ _ _ _ h1996) (by kernel_rfl) rfl rfl rfl rfl (by decide) ?_
        have hh := getB_some h; clear h; obtain ⟨b1998, h1997, h⟩ := hh
        have hh := brn_some h; clear h; rcases hh with ⟨h1999, h⟩ | ⟨h1999, h⟩
        · refine W_sound tab_ok mixed 10 _ _ _ ?_
          simp -implicitDefEqProofs only [go_sem, qa, qb, qc, qd, qe, qf, qg, qh, qi, qj, qk, ↓reduceIte, h1971, h1974, h1977, h1980, h1981, g1984, g1985, h1986, h1989, h1992, h1994, h1997, h1999]
          repeat with_reducible refine ⟨by first | kernel_rfl | decide, ?_⟩
          have hh := bnd'_some h; clear h; obtain ⟨o2026, h2027, h2028⟩ := hh
          refine Wp_cut (fun s => (.inr ()) = o2026 ∧ s = ⟨[], [(0, .dead), (1, .dead), (3, .dead), (4, .dead), (5, .dead), (6, .dead), (22, .dead), (32, .dead), (36, .dead), (45, .dead), (66, .dead)], [], 0, []⟩) ?_ ?_
          · refine Wp_block ?_
            refine Wp_loopG (fun n s => ∃ x2000, m84_L0 N n1972 c1973 n1978 c1979 n1982 c1983 n x2000 = some o2026 ∧ s = ⟨[], [(0, .v (.lst false n1972 c1973)), (1, .dead), (3, .ptr 0 0), (4, .dead), (5, .v (.int .i64 x2000)), (6, .dead), (22, .dead), (32, .dead), (36, .dead), (45, .dead), (66, .dead)], [(0, .p [(.lst false n1978 c1979), (.lst false n1982 c1983)])], 1, []⟩) N _ ((Wk_le (.r (.k (.r (.k (.r (.r (.k (.k (.r (.r (.r .nil))))))))))) (OLe.refl _)).trans (cmpS_ok (st' := ⟨[], [(0, .v (.lst false n1972 c1973)), (1, .dead), (3, .ptr 0 0), (4, .dead), (5, .v (.int .i64 0)), (6, .dead), (22, .dead), (32, .dead), (36, .dead), (45, .dead), (66, .dead)], [(0, .p [(.lst false n1978 c1979), (.lst false n1982 c1983)])], 1, []⟩) (by kernel_rfl))) ⟨_, h2027, rfl⟩ ?_
            clear h2027
            rintro n _ ⟨x2000, h2027, rfl⟩
            cases n with
            | zero => cases h2027
            | succ n =>
              rw [m84_L0] at h2027
              have hh := brn_some h2027; clear h2027; rcases hh with ⟨h2001, h2027⟩ | ⟨h2001, h2027⟩
              · refine W_sound tab_ok mixed 16 _ _ _ ?_
                simp -implicitDefEqProofs only [go_sem, qa, qb, qc, qd, qe, qf, qg, qh, qi, qj, qk, ↓reduceIte, h1971, h1974, h1977, h1980, h1981, g1984, g1985, h1986, h1989, h1992, h1994, h1997, h1999, h2001]
                repeat with_reducible refine ⟨by first | kernel_rfl | decide, ?_⟩
                have hh := bnd'_some h2027; clear h2027; obtain ⟨o2029, h2030, h2031⟩ := hh
                refine Wp_cut (fun s => (.inr ()) = o2029 ∧ s = ⟨[], [(0, .v (.lst false n1972 c1973)), (1, .dead), (3, .ptr 0 0), (4, .dead), (5, .v (.int .i64 x2000)), (6, .dead), (22, .dead), (32, .dead), (36, .dead), (45, .dead), (66, .dead)], [(0, .p [(.lst false n1978 c1979), (.lst false n1982 c1983)])], 1, []⟩) ?_ ?_
                · refine Wp_block ?_
                  refine Wp_loopG (fun n s => ∃ x2002, m84_L1 N n1972 c1973 n1978 c1979 n1982 c1983 x2000 n x2002 = some o2029 ∧ s = ⟨[], [(0, .v (.lst false n1972 c1973)), (1, .dead), (3, .ptr 0 0), (4, .dead), (5, .v (.int .i64 x2000)), (6, .v (.int .i64 x2002)), (22, .dead), (32, .dead), (36, .dead), (45, .dead), (66, .dead)], [(0, .p [(.lst false n1978 c1979), (.lst false n1982 c1983)])], 1, []⟩) N _ ((Wk_le (.r (.r (.r (.r (.r (.r (.r (.r (.k (.r (.r .nil))))))))))) (OLe.refl _)).trans (cmpS_ok (st' := ⟨[], [(0, .v (.lst false n1972 c1973)), (1, .dead), (3, .ptr 0 0), (4, .dead), (5, .v (.int .i64 x2000)), (6, .v (.int .i64 0)), (22, .dead), (32, .dead), (36, .dead), (45, .dead), (66, .dead)], [(0, .p [(.lst false n1978 c1979), (.lst false n1982 c1983)])], 1, []⟩) (by kernel_rfl))) ⟨_, h2030, rfl⟩ ?_
                  clear h2030
                  rintro n _ ⟨x2002, h2030, rfl⟩
                  cases n with
                  | zero => cases h2030
                  | succ n =>
                    rw [m84_L1] at h2030
                    have hh := grd_some h2030; clear h2030; obtain ⟨⟨g2003, g2004⟩, h2030⟩ := hh
                    have hh := grd_some h2030; clear h2030; obtain ⟨g2005, h2030⟩ := hh
                    have hh := getL_some h2030; clear h2030; obtain ⟨n2007, c2008, h2006, h2030⟩ := hh
                    have hh := brn_some h2030; clear h2030; rcases hh with ⟨h2009, h2030⟩ | ⟨h2009, h2030⟩
                    · have hh := grd_some h2030; clear h2030; obtain ⟨g2010, h2030⟩ := hh
                      have hh := grd_some h2030; clear h2030; obtain ⟨g2011, h2030⟩ := hh
                      have hh := getI_some h2030; clear h2030; obtain ⟨x2013, h2012, h2030⟩ := hh
                      have hh := grd_some h2030; clear h2030; obtain ⟨⟨g2014, g2015⟩, h2030⟩ := hh
                      have hh := grd_some h2030; clear h2030; obtain ⟨g2016, h2030⟩ := hh
                      have hh := getI_some h2030; clear h2030; obtain ⟨x2018, h2017, h2030⟩ := hh
                      have hh := grd_some h2030; clear h2030; obtain ⟨g2019, h2030⟩ := hh
                      have hh := grd_some h2030; clear h2030; obtain ⟨g2020, h2030⟩ := hh
                      have hh := getI_some h2030; clear h2030; obtain ⟨x2022, h2021, h2030⟩ := hh
                      have hh := brn_some h2030; clear h2030; rcases hh with ⟨h2023, h2030⟩ | ⟨h2023, h2030⟩
                      · refine W_sound tab_ok mixed 44 _ _ _ ?_
                        simp -implicitDefEqProofs only [go_sem, qa, qb, qc, qd, qe, qf, qg, qh, qi, qj, qk, ↓reduceIte, h1971, h1974, h1977, h1980, h1981, g1984, g1985, h1986, h1989, h1992, h1994, h1997, h1999, h2001, g2003, g2004, g2005, h2006, h2009, g2010, g2011, h2012, g2014, g2015, g2016, h2017, g2019, g2020, h2021, h2023]
                        repeat with_reducible refine ⟨by first | kernel_rfl | decide, ?_⟩
                        obtain rfl := Option.some.inj h2030
                        (try dsimp only at h2031)
                        obtain rfl := Option.some.inj h2031
                        (try dsimp only at h2028)
                        obtain rfl := Option.some.inj h2028
                        exact finC [(4, .v (.int .i64 15))] [(4, .v (.int .i64 15))] (by simp [leE, lk_cons]) (.cons _ _ _ _ _ (.v _ _ (.refl _)) .nil) (by rfl) (by simp [leE, lk_cons]) (by decide) (by decide) rfl (by simp only [go_sem, qa, qb, qc, qd, qe, qf, qg, qh, qi, qj, qk, ↓reduceIte, resQ_tmp, resQ_cell, resQ_nil, retD_one, retD_two, retD_three, retD_none]; try simp [R.val, retD_one, retD_two, retD_three, retD_none])
                      · refine W_sound tab_ok mixed 45 _ _ _ ?_
                        simp -implicitDefEqProofs only [go_sem, qa, qb, qc, qd, qe, qf, qg, qh, qi, qj, qk, ↓reduceIte, h1971, h1974, h1977, h1980, h1981, g1984, g1985, h1986, h1989, h1992, h1994, h1997, h1999, h2001, g2003, g2004, g2005, h2006, h2009, g2010, g2011, h2012, g2014, g2015, g2016, h2017, g2019, g2020, h2021, h2023]
                        repeat with_reducible refine ⟨by first | kernel_rfl | decide, ?_⟩
                        exact cutQ _ ((Wk_le (.r (.r (.r (.r (.r (.r (.r (.r (.r (.k (.k .nil))))))))))) (OLe.refl _)).trans (cmpS_ok (st' := ⟨[], [(0, .v (.lst false n1972 c1973)), (1, .dead), (3, .ptr 0 0), (4, .dead), (5, .v (.int .i64 x2000)), (6, .v (.int .i64 (IntKind.i64.wrap (x2002 + 1)))), (22, .dead), (32, .dead), (36, .dead), (45, .dead), (66, .dead)], [(0, .p [(.lst false n1978 c1979), (.lst false n1982 c1983)])], 1, []⟩) (by kernel_rfl))) ⟨n, Nat.lt_succ_self n, _, h2030, rfl⟩
                    · refine W_sound tab_ok mixed 13 _ _ _ ?_
                      simp -implicitDefEqProofs only [go_sem, qa, qb, qc, qd, qe, qf, qg, qh, qi, qj, qk, ↓reduceIte, h1971, h1974, h1977, h1980, h1981, g1984, g1985, h1986, h1989, h1992, h1994, h1997, h1999, h2001, g2003, g2004, g2005, h2006, h2009]
                      repeat with_reducible refine ⟨by first | kernel_rfl | decide, ?_⟩
                      obtain rfl := Option.some.inj h2030
                      exact cutQ _ ((Wk_le (.r (.r (.r (.r (.r (.k (.r (.r (.r (.k (.r .nil))))))))))) (OLe.refl _)).trans (cmpS_ok (st' := ⟨[], [(0, .v (.lst false n1972 c1973)), (1, .dead), (3, .ptr 0 0), (4, .dead), (5, .v (.int .i64 x2000)), (6, .dead), (22, .dead), (32, .dead), (36, .dead), (45, .dead), (66, .dead)], [(0, .p [(.lst false n1978 c1979), (.lst false n1982 c1983)])], 1, []⟩) (by kernel_rfl))) ⟨rfl, rfl⟩
                · rintro _ ⟨rfl, rfl⟩
                  (try dsimp only at h2031)
                  refine W_sound tab_ok mixed 6 _ _ _ ?_
                  simp -implicitDefEqProofs only [go_sem, qa, qb, qc, qd, qe, qf, qg, qh, qi, qj, qk, ↓reduceIte, h1971, h1974, h1977, h1980, h1981, g1984, g1985, h1986, h1989, h1992, h1994, h1997, h1999, h2001]
                  repeat with_reducible refine ⟨by first | kernel_rfl | decide, ?_⟩
                  exact cutQ _ ((Wk_le (.r (.r (.r (.r (.r (.r (.r (.r (.r (.r (.r .nil))))))))))) (OLe.refl _)).trans (cmpS_ok (st' := ⟨[], [(0, .v (.lst false n1972 c1973)), (1, .dead), (3, .ptr 0 0), (4, .dead), (5, .v (.int .i64 (IntKind.i64.wrap (x2000 + 1)))), (6, .dead), (22, .dead), (32, .dead), (36, .dead), (45, .dead), (66, .dead)], [(0, .p [(.lst false n1978 c1979), (.lst false n1982 c1983)])], 1, []⟩) (by kernel_rfl))) ⟨n, Nat.lt_succ_self n, _, h2031, rfl⟩
              · refine W_sound tab_ok mixed 10 _ _ _ ?_
                simp -implicitDefEqProofs only [go_sem, qa, qb, qc, qd, qe, qf, qg, qh, qi, qj, qk, ↓reduceIte, h1971, h1974, h1977, h1980, h1981, g1984, g1985, h1986, h1989, h1992, h1994, h1997, h1999, h2001]
                repeat with_reducible refine ⟨by first | kernel_rfl | decide, ?_⟩
                obtain rfl := Option.some.inj h2027
                exact cutQ _ ((Wk_le (.k (.r (.k (.r (.k (.r (.r (.r (.k (.r (.r .nil))))))))))) (OLe.refl _)).trans (cmpS_ok (st' := ⟨[], [(0, .dead), (1, .dead), (3, .dead), (4, .dead), (5, .dead), (6, .dead), (22, .dead), (32, .dead), (36, .dead), (45, .dead), (66, .dead)], [], 0, []⟩) (by kernel_rfl))) ⟨rfl, rfl⟩
          · rintro _ ⟨rfl, rfl⟩
            (try dsimp only at h2028)
            refine W_sound tab_ok mixed 6 _ _ _ ?_
            simp -implicitDefEqProofs only [go_sem, qa, qb, qc, qd, qe, qf, qg, qh, qi, qj, qk, ↓reduceIte, h1971, h1974, h1977, h1980, h1981, g1984, g1985, h1986, h1989, h1992, h1994, h1997, h1999]
            repeat with_reducible refine ⟨by first | kernel_rfl | decide, ?_⟩
            obtain rfl := Option.some.inj h2028
            exact finC [(4, .v (.int .i64 0))] [(4, .v (.int .i64 0))] (by simp [leE, lk_cons]) (.cons _ _ _ _ _ (.v _ _ (.refl _)) .nil) (by rfl) (by simp [leE, lk_cons]) (by decide) (by decide) rfl (by simp only [go_sem, qa, qb, qc, qd, qe, qf, qg, qh, qi, qj, qk, ↓reduceIte, resQ_tmp, resQ_cell, resQ_nil, retD_one, retD_two, retD_three, retD_none]; try simp [R.val, retD_one, retD_two, retD_three, retD_none])
        · refine W_sound tab_ok mixed 10 _ _ _ ?_
          simp -implicitDefEqProofs only [go_sem, qa, qb, qc, qd, qe, qf, qg, qh, qi, qj, qk, ↓reduceIte, h1971, h1974, h1977, h1980, h1981, g1984, g1985, h1986, h1989, h1992, h1994, h1997, h1999]
          repeat with_reducible refine ⟨by first | kernel_rfl | decide, ?_⟩
          obtain rfl := Option.some.inj h
          exact finC [(4, .v (.int .i64 1))] [(4, .v (.int .i64 1))] (by simp [leE, lk_cons]) (.cons _ _ _ _ _ (.v _ _ (.refl _)) .nil) (by rfl) (by simp [leE, lk_cons]) (by decide) (by decide) rfl (by simp only [go_sem, qa, qb, qc, qd, qe, qf, qg, qh, qi, qj, qk, ↓reduceIte, resQ_tmp, resQ_cell, resQ_nil, retD_one, retD_two, retD_three, retD_none]; try simp [R.val, retD_one, retD_two, retD_three, retD_none])
      · refine W_sound tab_ok mixed 15 _ _ _ ?_
        simp -implicitDefEqProofs only [go_sem, qa, qb, qc, qd, qe, qf, qg, qh, qi, qj, qk, ↓reduceIte, h1971, h1974, h1977, h1980, h1981, g1984, g1985, h1986, h1989, h1992, h1994]
        repeat with_reducible refine ⟨by first | kernel_rfl | decide, ?_⟩
        obtain rfl := Option.some.inj h
        exact finC [(4, .v (.int .i64 1))] [(4, .v (.int .i64 1))] (by simp [leE, lk_cons]) (.cons _ _ _ _ _ (.v _ _ (.refl _)) .nil) (by rfl) (by simp [leE, lk_cons]) (by decide) (by decide) rfl (by simp only [go_sem, qa, qb, qc, qd, qe, qf, qg, qh, qi, qj, qk, ↓reduceIte, resQ_tmp, resQ_cell, resQ_nil, retD_one, retD_two, retD_three, retD_none]; try simp [R.val, retD_one, retD_two, retD_three, retD_none])
def m41 (N : Nat) (p1956 : PV) (p1957 : PV) : Option (PV) :=
  getL p1956 fun n1959 c1960 =>
  getA2 p1957 fun p1962 p1963 =>
  bnd' (m24 N (.lst false n1959 c1960)) fun p1964 =>
  getI .i64 p1964 fun x1967 =>
  brn (x1967 != 0) (
    some (.int .i64 x1967)) (
    bnd' (m84 N (.lst false n1959 c1960) (.agg [p1962, p1963])) fun p2032 =>
    getI .i64 p2032 fun x2035 =>
    some (.int .i64 x2035))
theorem c41 (N : Nat) (p1956 : PV) (p1957 : PV) (r : PV)  (h : m41 N p1956 p1957 = some r) : FnP Try.prog 41 [p1956, p1957] r := by
  unfold m41 at h
  refine Fn_of (sz := 14) tab_ok [0, 1, 3, 4, 5, 9] [.tmp 4] Try.func41 rfl rfl rfl (by simp) ?_
  simp only [initSt, initEnv, List.map_cons, List.map_nil, List.getD_cons_zero, List.getD_cons_succ, List.getD_nil]
  have hh := getL_some h; clear h; obtain ⟨n1959, c1960, h1958, h⟩ := hh
  have hh := getA2_some h; clear h; obtain ⟨p1962, p1963, h1961, h⟩ := hh
  have hh := bnd'_some h; clear h; obtain ⟨p1964, h1965, h⟩ := hh
  refine W_sound tab_ok mixed 8 _ _ _ ?_
  simp -implicitDefEqProofs only [go_sem, qa, qb, qc, qd, qe, qf, qg, qh, qi, qj, qk, ↓reduceIte, h1958, h1961]
  repeat with_reducible refine ⟨by first | kernel_rfl | decide, ?_⟩
  refine Wp_callP (c24 N _ _ h1965) (by kernel_rfl) rfl rfl rfl rfl (by decide) ?_
  have hh := getI_some h; clear h; obtain ⟨x1967, h1966, h⟩ := hh
  have hh := brn_some h; clear h; rcases hh with ⟨h1968, h⟩ | ⟨h1968, h⟩
  · refine W_sound tab_ok mixed 16 _ _ _ ?_
    simp -implicitDefEqProofs only [go_sem, qa, qb, qc, qd, qe, qf, qg, qh, qi, qj, qk, ↓reduceIte, h1958, h1961, h1966, h1968]
    repeat with_reducible refine ⟨by first | kernel_rfl | decide, ?_⟩
    obtain rfl := Option.some.inj h
    exact finC [(4, .v (.int .i64 x1967))] [(4, .v (.int .i64 x1967))] (by simp [leE, lk_cons]) (.cons _ _ _ _ _ (.v _ _ (.refl _)) .nil) (by rfl) (by simp [leE, lk_cons]) (by decide) (by decide) rfl (by simp only [go_sem, qa, qb, qc, qd, qe, qf, qg, qh, qi, qj, qk, ↓reduceIte, resQ_tmp, resQ_cell, resQ_nil, retD_one, retD_two, retD_three, retD_none]; try simp [R.val, retD_one, retD_two, retD_three, retD_none])
  · have hh := bnd'_some h; clear h; obtain ⟨p2032, h2033, h⟩ := hh
    refine W_sound tab_ok mixed 14 _ _ _ ?_
    simp -implicitDefEqProofs only [go_sem, qa, qb, qc, qd, qe, qf, qg, qh, qi, qj, qk, ↓reduceIte, h1958, h1961, h1966, h1968]
    repeat with_reducible refine ⟨by first | kernel_rfl | decide, ?_⟩
    refine Wp_callP (c84 N _ _ _ h2033) (by kernel_rfl) rfl rfl rfl rfl (by decide) ?_
    have hh := getI_some h; clear h; obtain ⟨x2035, h2034, h⟩ := hh
    refine W_sound tab_ok mixed 4 _ _ _ ?_
    simp -implicitDefEqProofs only [go_sem, qa, qb, qc, qd, qe, qf, qg, qh, qi, qj, qk, ↓reduceIte, h1958, h1961, h1966, h1968, h2034]
    repeat with_reducible refine ⟨by first | kernel_rfl | decide, ?_⟩
    obtain rfl := Option.some.inj h
    exact finC [(4, .v (.int .i64 x2035))] [(4, .v (.int .i64 x2035))] (by simp [leE, lk_cons]) (.cons _ _ _ _ _ (.v _ _ (.refl _)) .nil) (by rfl) (by simp [leE, lk_cons]) (by decide) (by decide) rfl (by simp only [go_sem, qa, qb, qc, qd, qe, qf, qg, qh, qi, qj, qk, ↓reduceIte, resQ_tmp, resQ_cell, resQ_nil, retD_one, retD_two, retD_three, retD_none]; try simp [R.val, retD_one, retD_two, retD_three, retD_none])
def m42_L0 (N : Nat) (p2045 : PV) (p2051 : PV) (n2068 : Nat) (c2069 : List PV) : Nat → Int → Int → PV → Option ((Int × PV))
  | 0, _, _, _ => none
  | n + 1, x2085, x2086, p2087 =>
    brn (decide (x2086 < ((n2068 : Nat) : Int))) (
      grd (0 ≤ x2086 ∧ x2086 < ((n2068 : Nat) : Int)) <|
      grd (0 < List.length (List.drop (Int.toNat x2086) c2069)) <|
      getI .i64 (gp c2069 (Int.toNat x2086)) fun x2093 =>
      getL p2087 fun n2095 c2096 =>
      grd (x2086 < ((n2095 : Nat) : Int)) <|
      grd (0 < List.length (List.drop (Int.toNat x2086) c2096)) <|
      getI .i64 (gp c2096 (Int.toNat x2086)) fun x2100 =>
      m42_L0 N p2045 p2051 n2068 c2069 n (IntKind.i64.wrap (x2085 - (IntKind.i64.wrap (x2093 * x2100)))) (IntKind.i64.wrap (x2086 + 1)) (.lst false n2095 c2096)) (
      some (x2085, p2087))
def m42_L1 (N : Nat) (p2102 : PV) (n2104 : Nat) (c2105 : List PV) : Nat → Int → Int → PV → Option (Int)
  | 0, _, _, _ => none
  | n + 1, x2121, x2122, p2123 =>
    brn (decide (x2122 < ((n2104 : Nat) : Int))) (
      grd (0 ≤ x2122 ∧ x2122 < ((n2104 : Nat) : Int)) <|
      grd (0 < List.length (List.drop (Int.toNat x2122) c2105)) <|
      getI .i64 (gp c2105 (Int.toNat x2122)) fun x2129 =>
      getL p2123 fun n2131 c2132 =>
      grd (x2122 < ((n2131 : Nat) : Int)) <|
      grd (0 < List.length (List.drop (Int.toNat x2122) c2132)) <|
      getI .i64 (gp c2132 (Int.toNat x2122)) fun x2136 =>
      m42_L1 N p2102 n2104 c2105 n (IntKind.i64.wrap (x2121 - (IntKind.i64.wrap (x2129 * x2136)))) (IntKind.i64.wrap (x2122 + 1)) (.lst false n2131 c2132)) (
      some x2121)
def m42 (N : Nat) (p2036 : PV) (p2037 : PV) (p2038 : PV) (p2039 : PV) : Option (PV) :=
  getL p2036 fun n2041 c2042 =>
  getA2 p2037 fun p2044 p2045 =>
  getL p2038 fun n2047 c2048 =>
  getA2 p2039 fun p2050 p2051 =>
  bnd' (m20 N (.lst false n2041 c2042) (.agg [p2044, p2045]) (.lst false n2047 c2048)) fun p2052 =>
  getT2 p2052 fun p2055 p2056 =>
  getI .i64 p2055 fun x2058 =>
  getI .i64 p2056 fun x2060 =>
  brn (x2060 != 0) (
    some (.int .i64 x2060)) (
    bnd' (m40 N (.lst false n2041 c2042) (.agg [p2050, p2051])) fun p2062 =>
    getI .i64 p2062 fun x2065 =>
    brn (x2065 != 0) (
      some (.int .i64 x2065)) (
      getL p2044 fun n2068 c2069 =>
      bnd' (m42_L0 N p2045 p2051 n2068 c2069 N x2058 0 p2050) fun o =>
      match o with
      | (x2101, p2102) =>
        getL p2045 fun n2104 c2105 =>
        bnd' (m42_L1 N p2102 n2104 c2105 N x2101 0 p2051) fun x2137 =>
        brn (x2137 != 0) (
          some (.int .i64 14)) (
          some (.int .i64 0))))
theorem c42 (N : Nat) (p2036 : PV) (p2037 : PV) (p2038 : PV) (p2039 : PV) (r : PV)  (h : m42 N p2036 p2037 p2038 p2039 = some r) : FnP Try.prog 42 [p2036, p2037, p2038, p2039] r := by
  unfold m42 at h
  refine Fn_of (sz := 70) tab_ok [0, 1, 2, 3, 5, 7, 8, 9, 10, 11, 12, 13, 14, 15, 24, 30, 33, 34, 35, 36, 51, 52, 53, 54, 69] [.tmp 8] Try.func42 rfl rfl rfl (by simp) ?_
  simp only [initSt, initEnv, List.map_cons, List.map_nil, List.getD_cons_zero, List.getD_cons_succ, List.getD_nil]
  have hh := getL_some h; clear h; obtain ⟨n2041, c2042, h2040, h⟩ := hh
  have hh := getA2_some h; clear h; obtain ⟨p2044, p2045, h2043, h⟩ := hh
  have hh := getL_some h; clear h; obtain ⟨n2047, c2048, h2046, h⟩ := hh
  have hh := getA2_some h; clear h; obtain ⟨p2050, p2051, h2049, h⟩ := hh
  have hh := bnd'_some h; clear h; obtain ⟨p2052, h2053, h⟩ := hh
  refine W_sound tab_ok mixed 11 _ _ _ ?_
  simp -implicitDefEqProofs only [go_sem, qa, qb, qc, qd, qe, qf, qg, qh, qi, qj, qk, ↓reduceIte, h2040, h2043, h2046, h2049]
  repeat with_reducible refine ⟨by first | kernel_rfl | decide, ?_⟩
  refine Wp_callP (c20 N _ _ _ _ h2053) (by kernel_rfl) rfl rfl rfl rfl (by decide) ?_
  have hh := getT2_some h; clear h; obtain ⟨p2055, p2056, h2054, h⟩ := hh
  have hh := getI_some h; clear h; obtain ⟨x2058, h2057, h⟩ := hh
  have hh := getI_some h; clear h; obtain ⟨x2060, h2059, h⟩ := hh
  have hh := brn_some h; clear h; rcases hh with ⟨h2061, h⟩ | ⟨h2061, h⟩
  · refine W_sound tab_ok mixed 20 _ _ _ ?_
    simp -implicitDefEqProofs only [go_sem, qa, qb, qc, qd, qe, qf, qg, qh, qi, qj, qk, ↓reduceIte, h2040, h2043, h2046, h2049, h2054, h2057, h2059, h2061]
    repeat with_reducible refine ⟨by first | kernel_rfl | decide, ?_⟩
    obtain rfl := Option.some.inj h
    exact finC [(8, .v (.int .i64 x2060))] [(8, .v (.int .i64 x2060))] (by simp [leE, lk_cons]) (.cons _ _ _ _ _ (.v _ _ (.refl _)) .nil) (by rfl) (by simp [leE, lk_cons]) (by decide) (by decide) rfl (by simp only [go_sem, qa, qb, qc, qd, qe, qf, qg, qh, qi, qj, qk, ↓reduceIte, resQ_tmp, resQ_cell, resQ_nil, retD_one, retD_two, retD_three, retD_none]; try simp [R.val, retD_one, retD_two, retD_three, retD_none])
  · have hh := bnd'_some h; clear h; obtain ⟨p2062, h2063, h⟩ := hh
    refine W_sound tab_ok mixed 19 _ _ _ ?_
    simp -implicitDefEqProofs only [go_sem, qa, qb, qc, qd, qe, qf, qg, qh, qi, qj, qk, ↓reduceIte, h2040, h2043, h2046, h2049, h2054, h2057, h2059, h2061]
    repeat with_reducible refine ⟨by first | kernel_rfl | decide, ?_⟩
    refine Wp_callP (c40 N _ _ _ h2063) (by kernel_rfl) rfl rfl rfl rfl (by decide) ?_
    have hh := getI_some h; clear h; obtain ⟨x2065, h2064, h⟩ := hh
    have hh := brn_some h; clear h; rcases hh with ⟨h2066, h⟩ | ⟨h2066, h⟩
    · refine W_sound tab_ok mixed 15 _ _ _ ?_
      simp -implicitDefEqProofs only [go_sem, qa, qb, qc, qd, qe, qf, qg, qh, qi, qj, qk, ↓reduceIte, h2040, h2043, h2046, h2049, h2054, h2057, h2059, h2061, h2064, h2066]
      repeat with_reducible refine ⟨by first | kernel_rfl | decide, ?_⟩
      obtain rfl := Option.some.inj h
      exact finC [(8, .v (.int .i64 x2065))] [(8, .v (.int .i64 x2065))] (by simp [leE, lk_cons]) (.cons _ _ _ _ _ (.v _ _ (.refl _)) .nil) (by rfl) (by simp [leE, lk_cons]) (by decide) (by decide) rfl (by simp only [go_sem, qa, qb, qc, qd, qe, qf, qg, qh, qi, qj, qk, ↓reduceIte, resQ_tmp, resQ_cell, resQ_nil, retD_one, retD_two, retD_three, retD_none]; try simp [R.val, retD_one, retD_two, retD_three, retD_none])
    · have hh := getL_some h; clear h; obtain ⟨n2068, c2069, h2067, h⟩ := hh
      refine W_sound tab_ok mixed 17 _ _ _ ?_
      simp -implicitDefEqProofs only [go_sem, qa, qb, qc, qd, qe, qf, qg, qh, qi, qj, qk, ↓reduceIte, h2040, h2043, h2046, h2049, h2054, h2057, h2059, h2061, h2064, h2066, h2067]
      repeat with_reducible refine ⟨by first | kernel_rfl | decide, ?_⟩
      have hh := bnd'_some h; clear h; obtain ⟨o2139, h2140, h2141⟩ := hh
      refine Wp_cut (fun s => ∃ x2101, ∃ p2102, (x2101, p2102) = o2139 ∧ s = ⟨[], [(0, .dead), (1, .dead), (2, .dead), (3, .dead), (5, .ptr 0 0), (7, .ptr 1 0), (8, .dead), (9, .v (.int .i64 x2101)), (10, .dead), (11, .dead), (12, .dead), (13, .dead), (14, .dead), (15, .dead), (24, .dead), (30, .dead), (33, .dead), (34, .dead), (35, .dead), (36, .dead), (51, .dead), (52, .dead), (53, .dead), (54, .dead), (69, .dead)], [(0, .p [(.lst false n2068 c2069), p2045]), (1, .p [p2102, p2051])], 2, []⟩) ?_ ?_
      · refine Wp_block ?_
        refine Wp_loopG (fun n s => ∃ x2085, ∃ x2086, ∃ p2087, m42_L0 N p2045 p2051 n2068 c2069 n x2085 x2086 p2087 = some o2139 ∧ s = ⟨[], [(0, .dead), (1, .dead), (2, .dead), (3, .dead), (5, .ptr 0 0), (7, .ptr 1 0), (8, .dead), (9, .v (.int .i64 x2085)), (10, .dead), (11, .dead), (12, .dead), (13, .dead), (14, .dead), (15, .dead), (24, .dead), (30, .dead), (33, .v (.lst false n2068 c2069)), (34, .v (.int .i64 ((n2068 : Nat) : Int))), (35, .v (.int .i64 x2086)), (36, .dead), (51, .dead), (52, .dead), (53, .dead), (54, .dead), (69, .dead)], [(0, .p [(.lst false n2068 c2069), p2045]), (1, .p [p2087, p2051])], 2, []⟩) N _ ((Wk_le (.k (.k (.k (.k (.r (.r (.k (.r (.k (.k (.r (.r (.r (.r (.k (.k (.r (.r (.r (.r (.r (.r (.r (.r (.r .nil))))))))))))))))))))))))) (OLe.refl _)).trans (cmpS_ok (st' := ⟨[], [(0, .dead), (1, .dead), (2, .dead), (3, .dead), (5, .ptr 0 0), (7, .ptr 1 0), (8, .dead), (9, .v (.int .i64 x2058)), (10, .dead), (11, .dead), (12, .dead), (13, .dead), (14, .dead), (15, .dead), (24, .dead), (30, .dead), (33, .v (.lst false n2068 c2069)), (34, .v (.int .i64 ((n2068 : Nat) : Int))), (35, .v (.int .i64 0)), (36, .dead), (51, .dead), (52, .dead), (53, .dead), (54, .dead), (69, .dead)], [(0, .p [(.lst false n2068 c2069), p2045]), (1, .p [p2050, p2051])], 2, []⟩) (by kernel_rfl))) ⟨_, _, _, h2140, rfl⟩ ?_
        clear h2140
        rintro n _ ⟨x2085, x2086, p2087, h2140, rfl⟩
        cases n with
        | zero => cases h2140
        | succ n =>
          rw [m42_L0] at h2140
          have hh := brn_some h2140; clear h2140; rcases hh with ⟨h2088, h2140⟩ | ⟨h2088, h2140⟩
          · have hh := grd_some h2140; clear h2140; obtain ⟨⟨g2089, g2090⟩, h2140⟩ := hh
            have hh := grd_some h2140; clear h2140; obtain ⟨g2091, h2140⟩ := hh
            have hh := getI_some h2140; clear h2140; obtain ⟨x2093, h2092, h2140⟩ := hh
            have hh := getL_some h2140; clear h2140; obtain ⟨n2095, c2096, h2094, h2140⟩ := hh
            have hh := grd_some h2140; clear h2140; obtain ⟨g2097, h2140⟩ := hh
            have hh := grd_some h2140; clear h2140; obtain ⟨g2098, h2140⟩ := hh
            have hh := getI_some h2140; clear h2140; obtain ⟨x2100, h2099, h2140⟩ := hh
            refine W_sound tab_ok mixed 34 _ _ _ ?_
            simp -implicitDefEqProofs only [go_sem, qa, qb, qc, qd, qe, qf, qg, qh, qi, qj, qk, ↓reduceIte, h2040, h2043, h2046, h2049, h2054, h2057, h2059, h2061, h2064, h2066, h2067, h2088, g2089, g2090, g2091, h2092, h2094, g2097, g2098, h2099]
            repeat with_reducible refine ⟨by first | kernel_rfl | decide, ?_⟩
            exact cutQ _ ((Wk_le (.r (.r (.r (.r (.r (.r (.r (.r (.r (.r (.k (.k (.r (.r (.r (.r (.r (.r (.r (.k (.r (.r (.r (.r (.r .nil))))))))))))))))))))))))) (OLe.refl _)).trans (cmpS_ok (st' := ⟨[], [(0, .dead), (1, .dead), (2, .dead), (3, .dead), (5, .ptr 0 0), (7, .ptr 1 0), (8, .dead), (9, .v (.int .i64 (IntKind.i64.wrap (x2085 - (IntKind.i64.wrap (x2093 * x2100)))))), (10, .dead), (11, .dead), (12, .dead), (13, .dead), (14, .dead), (15, .dead), (24, .dead), (30, .dead), (33, .v (.lst false n2068 c2069)), (34, .v (.int .i64 ((n2068 : Nat) : Int))), (35, .v (.int .i64 (IntKind.i64.wrap (x2086 + 1)))), (36, .dead), (51, .dead), (52, .dead), (53, .dead), (54, .dead), (69, .dead)], [(0, .p [(.lst false n2068 c2069), p2045]), (1, .p [(.lst false n2095 c2096), p2051])], 2, []⟩) (by kernel_rfl))) ⟨n, Nat.lt_succ_self n, _, _, _, h2140, rfl⟩
          · refine W_sound tab_ok mixed 7 _ _ _ ?_
            simp -implicitDefEqProofs only [go_sem, qa, qb, qc, qd, qe, qf, qg, qh, qi, qj, qk, ↓reduceIte, h2040, h2043, h2046, h2049, h2054, h2057, h2059, h2061, h2064, h2066, h2067, h2088]
            repeat with_reducible refine ⟨by first | kernel_rfl | decide, ?_⟩
            obtain rfl := Option.some.inj h2140
            exact cutQ _ ((Wk_le (.r (.r (.r (.r (.r (.r (.r (.r (.r (.r (.r (.r (.r (.r (.r (.r (.k (.k (.k (.k (.r (.r (.r (.r (.r .nil))))))))))))))))))))))))) (OLe.refl _)).trans (cmpS_ok (st' := ⟨[], [(0, .dead), (1, .dead), (2, .dead), (3, .dead), (5, .ptr 0 0), (7, .ptr 1 0), (8, .dead), (9, .v (.int .i64 x2085)), (10, .dead), (11, .dead), (12, .dead), (13, .dead), (14, .dead), (15, .dead), (24, .dead), (30, .dead), (33, .dead), (34, .dead), (35, .dead), (36, .dead), (51, .dead), (52, .dead), (53, .dead), (54, .dead), (69, .dead)], [(0, .p [(.lst false n2068 c2069), p2045]), (1, .p [p2087, p2051])], 2, []⟩) (by kernel_rfl))) ⟨_, _, rfl, rfl⟩
      · rintro _ ⟨x2101, p2102, rfl, rfl⟩
        (try dsimp only at h2141)
        have hh := getL_some h2141; clear h2141; obtain ⟨n2104, c2105, h2103, h2141⟩ := hh
        refine W_sound tab_ok mixed 8 _ _ _ ?_
        simp -implicitDefEqProofs only [go_sem, qa, qb, qc, qd, qe, qf, qg, qh, qi, qj, qk, ↓reduceIte, h2040, h2043, h2046, h2049, h2054, h2057, h2059, h2061, h2064, h2066, h2067, h2103]
        repeat with_reducible refine ⟨by first | kernel_rfl | decide, ?_⟩
        have hh := bnd'_some h2141; clear h2141; obtain ⟨o2142, h2143, h2144⟩ := hh
        refine Wp_cut (fun s => ∃ x2137, x2137 = o2142 ∧ s = ⟨[], [(0, .dead), (1, .dead), (2, .dead), (3, .dead), (5, .dead), (7, .dead), (8, .dead), (9, .v (.int .i64 x2137)), (10, .dead), (11, .dead), (12, .dead), (13, .dead), (14, .dead), (15, .dead), (24, .dead), (30, .dead), (33, .dead), (34, .dead), (35, .dead), (36, .dead), (51, .dead), (52, .dead), (53, .dead), (54, .dead), (69, .dead)], [], 0, []⟩) ?_ ?_
        · refine Wp_block ?_
          refine Wp_loopG (fun n s => ∃ x2121, ∃ x2122, ∃ p2123, m42_L1 N p2102 n2104 c2105 n x2121 x2122 p2123 = some o2142 ∧ s = ⟨[], [(0, .dead), (1, .dead), (2, .dead), (3, .dead), (5, .dead), (7, .ptr 0 0), (8, .dead), (9, .v (.int .i64 x2121)), (10, .dead), (11, .dead), (12, .dead), (13, .dead), (14, .dead), (15, .dead), (24, .dead), (30, .dead), (33, .dead), (34, .dead), (35, .dead), (36, .dead), (51, .v (.lst false n2104 c2105)), (52, .v (.int .i64 ((n2104 : Nat) : Int))), (53, .v (.int .i64 x2122)), (54, .dead), (69, .dead)], [(0, .p [p2102, p2123])], 1, []⟩) N _ ((Wk_le (.r (.r (.r (.r (.k (.r (.r (.r (.r (.r (.r (.r (.r (.r (.r (.r (.r (.r (.r (.r (.r (.r (.r (.r (.r .nil))))))))))))))))))))))))) (OLe.refl _)).trans (cmpS_ok (st' := ⟨[], [(0, .dead), (1, .dead), (2, .dead), (3, .dead), (5, .dead), (7, .ptr 0 0), (8, .dead), (9, .v (.int .i64 x2101)), (10, .dead), (11, .dead), (12, .dead), (13, .dead), (14, .dead), (15, .dead), (24, .dead), (30, .dead), (33, .dead), (34, .dead), (35, .dead), (36, .dead), (51, .v (.lst false n2104 c2105)), (52, .v (.int .i64 ((n2104 : Nat) : Int))), (53, .v (.int .i64 0)), (54, .dead), (69, .dead)], [(0, .p [p2102, p2051])], 1, []⟩) (by kernel_rfl))) ⟨_, _, _, h2143, rfl⟩ ?_
          clear h2143
          rintro n _ ⟨x2121, x2122, p2123, h2143, rfl⟩
          cases n with
          | zero => cases h2143
          | succ n =>
            rw [m42_L1] at h2143
            have hh := brn_some h2143; clear h2143; rcases hh with ⟨h2124, h2143⟩ | ⟨h2124, h2143⟩
            · have hh := grd_some h2143; clear h2143; obtain ⟨⟨g2125, g2126⟩, h2143⟩ := hh
              have hh := grd_some h2143; clear h2143; obtain ⟨g2127, h2143⟩ := hh
              have hh := getI_some h2143; clear h2143; obtain ⟨x2129, h2128, h2143⟩ := hh
              have hh := getL_some h2143; clear h2143; obtain ⟨n2131, c2132, h2130, h2143⟩ := hh
              have hh := grd_some h2143; clear h2143; obtain ⟨g2133, h2143⟩ := hh
              have hh := grd_some h2143; clear h2143; obtain ⟨g2134, h2143⟩ := hh
              have hh := getI_some h2143; clear h2143; obtain ⟨x2136, h2135, h2143⟩ := hh
              refine W_sound tab_ok mixed 34 _ _ _ ?_
              simp -implicitDefEqProofs only [go_sem, qa, qb, qc, qd, qe, qf, qg, qh, qi, qj, qk, ↓reduceIte, h2040, h2043, h2046, h2049, h2054, h2057, h2059, h2061, h2064, h2066, h2067, h2103, h2124, g2125, g2126, g2127, h2128, h2130, g2133, g2134, h2135]
              repeat with_reducible refine ⟨by first | kernel_rfl | decide, ?_⟩
              exact cutQ _ ((Wk_le (.r (.r (.r (.r (.r (.r (.r (.r (.r (.r (.r (.r (.k (.k (.r (.r (.r (.r (.r (.r (.r (.r (.r (.k (.r .nil))))))))))))))))))))))))) (OLe.refl _)).trans (cmpS_ok (st' := ⟨[], [(0, .dead), (1, .dead), (2, .dead), (3, .dead), (5, .dead), (7, .ptr 0 0), (8, .dead), (9, .v (.int .i64 (IntKind.i64.wrap (x2121 - (IntKind.i64.wrap (x2129 * x2136)))))), (10, .dead), (11, .dead), (12, .dead), (13, .dead), (14, .dead), (15, .dead), (24, .dead), (30, .dead), (33, .dead), (34, .dead), (35, .dead), (36, .dead), (51, .v (.lst false n2104 c2105)), (52, .v (.int .i64 ((n2104 : Nat) : Int))), (53, .v (.int .i64 (IntKind.i64.wrap (x2122 + 1)))), (54, .dead), (69, .dead)], [(0, .p [p2102, (.lst false n2131 c2132)])], 1, []⟩) (by kernel_rfl))) ⟨n, Nat.lt_succ_self n, _, _, _, h2143, rfl⟩
            · refine W_sound tab_ok mixed 7 _ _ _ ?_
              simp -implicitDefEqProofs only [go_sem, qa, qb, qc, qd, qe, qf, qg, qh, qi, qj, qk, ↓reduceIte, h2040, h2043, h2046, h2049, h2054, h2057, h2059, h2061, h2064, h2066, h2067, h2103, h2124]
              repeat with_reducible refine ⟨by first | kernel_rfl | decide, ?_⟩
              obtain rfl := Option.some.inj h2143
              exact cutQ _ ((Wk_le (.r (.r (.r (.r (.r (.k (.r (.r (.r (.r (.r (.r (.r (.r (.r (.r (.r (.r (.r (.r (.k (.k (.k (.k (.r .nil))))))))))))))))))))))))) (OLe.refl _)).trans (cmpS_ok (st' := ⟨[], [(0, .dead), (1, .dead), (2, .dead), (3, .dead), (5, .dead), (7, .dead), (8, .dead), (9, .v (.int .i64 x2121)), (10, .dead), (11, .dead), (12, .dead), (13, .dead), (14, .dead), (15, .dead), (24, .dead), (30, .dead), (33, .dead), (34, .dead), (35, .dead), (36, .dead), (51, .dead), (52, .dead), (53, .dead), (54, .dead), (69, .dead)], [], 0, []⟩) (by kernel_rfl))) ⟨_, rfl, rfl⟩
        · rintro _ ⟨x2137, rfl, rfl⟩
          have hh := brn_some h2144; clear h2144; rcases hh with ⟨h2138, h2144⟩ | ⟨h2138, h2144⟩
          · refine W_sound tab_ok mixed 13 _ _ _ ?_
            simp -implicitDefEqProofs only [go_sem, qa, qb, qc, qd, qe, qf, qg, qh, qi, qj, qk, ↓reduceIte, h2040, h2043, h2046, h2049, h2054, h2057, h2059, h2061, h2064, h2066, h2067, h2103, h2138]
            repeat with_reducible refine ⟨by first | kernel_rfl | decide, ?_⟩
            obtain rfl := Option.some.inj h2144
            exact finC [(8, .v (.int .i64 14))] [(8, .v (.int .i64 14))] (by simp [leE, lk_cons]) (.cons _ _ _ _ _ (.v _ _ (.refl _)) .nil) (by rfl) (by simp [leE, lk_cons]) (by decide) (by decide) rfl (by simp only [go_sem, qa, qb, qc, qd, qe, qf, qg, qh, qi, qj, qk, ↓reduceIte, resQ_tmp, resQ_cell, resQ_nil, retD_one, retD_two, retD_three, retD_none]; try simp [R.val, retD_one, retD_two, retD_three, retD_none])
          · refine W_sound tab_ok mixed 14 _ _ _ ?_
            simp -implicitDefEqProofs only [go_sem, qa, qb, qc, qd, qe, qf, qg, qh, qi, qj, qk, ↓reduceIte, h2040, h2043, h2046, h2049, h2054, h2057, h2059, h2061, h2064, h2066, h2067, h2103, h2138]
            repeat with_reducible refine ⟨by first | kernel_rfl | decide, ?_⟩
            obtain rfl := Option.some.inj h2144
            exact finC [(8, .v (.int .i64 0))] [(8, .v (.int .i64 0))] (by simp [leE, lk_cons]) (.cons _ _ _ _ _ (.v _ _ (.refl _)) .nil) (by rfl) (by simp [leE, lk_cons]) (by decide) (by decide) rfl (by simp only [go_sem, qa, qb, qc, qd, qe, qf, qg, qh, qi, qj, qk, ↓reduceIte, resQ_tmp, resQ_cell, resQ_nil, retD_one, retD_two, retD_three, retD_none]; try simp [R.val, retD_one, retD_two, retD_three, retD_none])
def m43_L0 (N : Nat) (p2154 : PV) (p2160 : PV) (x2167 : Int) : Nat → Int → Int → PV → PV → Option ((Int × PV × PV))
  | 0, _, _, _, _ => none
  | n + 1, x2194, x2195, p2196, p2197 =>
    getL p2196 fun n2199 c2200 =>
    brn (decide (x2195 < ((n2199 : Nat) : Int))) (
      grd (0 ≤ x2195 ∧ x2195 < ((n2199 : Nat) : Int)) <|
      grd (0 < List.length (List.drop (Int.toNat x2195) c2200)) <|
      getI .i64 (gp c2200 (Int.toNat x2195)) fun x2206 =>
      getL p2197 fun n2208 c2209 =>
      grd (x2195 < ((n2208 : Nat) : Int)) <|
      grd (0 < List.length (List.drop (Int.toNat x2195) c2209)) <|
      getI .i64 (gp c2209 (Int.toNat x2195)) fun x2213 =>
      m43_L0 N p2154 p2160 x2167 n (IntKind.i64.wrap (x2194 + (IntKind.i64.wrap (x2206 * x2213)))) (IntKind.i64.wrap (x2195 + 1)) (.lst false n2199 c2200) (.lst false n2208 c2209)) (
      some (x2194, (.lst false n2199 c2200), p2197))
def m43_L1 (N : Nat) (x2167 : Int) (p2215 : PV) (p2216 : PV) : Nat → Int → Int → PV → PV → Option (Int)
  | 0, _, _, _, _ => none
  | n + 1, x2235, x2236, p2237, p2238 =>
    getL p2237 fun n2240 c2241 =>
    brn (decide (x2236 < ((n2240 : Nat) : Int))) (
      grd (0 ≤ x2236 ∧ x2236 < ((n2240 : Nat) : Int)) <|
      grd (0 < List.length (List.drop (Int.toNat x2236) c2241)) <|
      getI .i64 (gp c2241 (Int.toNat x2236)) fun x2247 =>
      getL p2238 fun n2249 c2250 =>
      grd (x2236 < ((n2249 : Nat) : Int)) <|
      grd (0 < List.length (List.drop (Int.toNat x2236) c2250)) <|
      getI .i64 (gp c2250 (Int.toNat x2236)) fun x2254 =>
      m43_L1 N x2167 p2215 p2216 n (IntKind.i64.wrap (x2235 + (IntKind.i64.wrap (x2247 * x2254)))) (IntKind.i64.wrap (x2236 + 1)) (.lst false n2240 c2241) (.lst false n2249 c2250)) (
      some x2235)
def m43_L2 (N : Nat) (p2154 : PV) (p2160 : PV) (x2167 : Int) : Nat → Int → Int → PV → PV → Option ((Int × PV × PV))
  | 0, _, _, _, _ => none
  | n + 1, x2276, x2277, p2278, p2279 =>
    getL p2278 fun n2281 c2282 =>
    brn (decide (x2277 < ((n2281 : Nat) : Int))) (
      grd (0 ≤ x2277 ∧ x2277 < ((n2281 : Nat) : Int)) <|
      grd (0 < List.length (List.drop (Int.toNat x2277) c2282)) <|
      getI .i64 (gp c2282 (Int.toNat x2277)) fun x2288 =>
      getL p2279 fun n2290 c2291 =>
      grd (x2277 < ((n2290 : Nat) : Int)) <|
      grd (0 < List.length (List.drop (Int.toNat x2277) c2291)) <|
      getI .i64 (gp c2291 (Int.toNat x2277)) fun x2295 =>
      m43_L2 N p2154 p2160 x2167 n (IntKind.i64.wrap (x2276 + (IntKind.i64.wrap (x2288 * x2295)))) (IntKind.i64.wrap (x2277 + 1)) (.lst false n2281 c2282) (.lst false n2290 c2291)) (
      some (x2276, (.lst false n2281 c2282), p2279))
def m43_L3 (N : Nat) (x2167 : Int) (p2297 : PV) (p2298 : PV) : Nat → Int → Int → PV → PV → Option (Int)
  | 0, _, _, _, _ => none
  | n + 1, x2317, x2318, p2319, p2320 =>
    getL p2319 fun n2322 c2323 =>
    brn (decide (x2318 < ((n2322 : Nat) : Int))) (
      grd (0 ≤ x2318 ∧ x2318 < ((n2322 : Nat) : Int)) <|
      grd (0 < List.length (List.drop (Int.toNat x2318) c2323)) <|
      getI .i64 (gp c2323 (Int.toNat x2318)) fun x2329 =>
      getL p2320 fun n2331 c2332 =>
      grd (x2318 < ((n2331 : Nat) : Int)) <|
      grd (0 < List.length (List.drop (Int.toNat x2318) c2332)) <|
      getI .i64 (gp c2332 (Int.toNat x2318)) fun x2336 =>
      m43_L3 N x2167 p2297 p2298 n (IntKind.i64.wrap (x2317 + (IntKind.i64.wrap (x2329 * x2336)))) (IntKind.i64.wrap (x2318 + 1)) (.lst false n2322 c2323) (.lst false n2331 c2332)) (
      some x2317)
def m43 (N : Nat) (p2145 : PV) (p2146 : PV) (p2147 : PV) (p2148 : PV) : Option (PV) :=
  getL p2145 fun n2150 c2151 =>
  getA2 p2146 fun p2153 p2154 =>
  getL p2147 fun n2156 c2157 =>
  getA2 p2148 fun p2159 p2160 =>
  bnd' (m21 N (.lst false n2150 c2151) (.agg [p2153, p2154]) (.lst false n2156 c2157)) fun p2161 =>
  getT2 p2161 fun p2164 p2165 =>
  getI .i64 p2164 fun x2167 =>
  getI .i64 p2165 fun x2169 =>
  brn (x2169 == 0) (
    bnd' (m84 N (.lst false n2150 c2151) (.agg [p2159, p2160])) fun p2171 =>
    getI .i64 p2171 fun x2174 =>
    brn (x2174 != 0) (
      some (.int .i64 x2174)) (
      bnd' (m43_L0 N p2154 p2160 x2167 N 0 0 p2153 p2159) fun o =>
      match o with
      | (x2214, p2215, p2216) =>
        bnd' (m43_L1 N x2167 p2215 p2216 N x2214 0 p2154 p2160) fun x2255 =>
        brn (x2255 != x2167) (
          some (.int .i64 14)) (
          some (.int .i64 0)))) (
    brn (x2169 != 0) (
      some (.int .i64 x2169)) (
      bnd' (m43_L2 N p2154 p2160 x2167 N 0 0 p2153 p2159) fun o =>
      match o with
      | (x2296, p2297, p2298) =>
        bnd' (m43_L3 N x2167 p2297 p2298 N x2296 0 p2154 p2160) fun x2337 =>
        brn (x2337 != x2167) (
          some (.int .i64 14)) (
          some (.int .i64 0))))
theorem c43 (N : Nat) (p2145 : PV) (p2146 : PV) (p2147 : PV) (p2148 : PV) (r : PV)  (h : m43 N p2145 p2146 p2147 p2148 = some r) : FnP Try.prog 43 [p2145, p2146, p2147, p2148] r := by
  unfold m43 at h
  refine Fn_of (sz := 72) tab_ok [0, 1, 2, 3, 5, 7, 8, 9, 10, 11, 12, 13, 22, 27, 33, 53, 71] [.tmp 8] Try.func43 rfl rfl rfl (by simp) ?_
  simp only [initSt, initEnv, List.map_cons, List.map_nil, List.getD_cons_zero, List.getD_cons_succ, List.getD_nil]
  have hh := getL_some h; clear h; obtain ⟨n2150, c2151, h2149, h⟩ := hh
  have hh := getA2_some h; clear h; obtain ⟨p2153, p2154, h2152, h⟩ := hh
  have hh := getL_some h; clear h; obtain ⟨n2156, c2157, h2155, h⟩ := hh
  have hh := getA2_some h; clear h; obtain ⟨p2159, p2160, h2158, h⟩ := hh
  have hh := bnd'_some h; clear h; obtain ⟨p2161, h2162, h⟩ := hh
  refine W_sound tab_ok mixed 11 _ _ _ ?_
  simp -implicitDefEqProofs only [go_sem, qa, qb, qc, qd, qe, qf, qg, qh, qi, qj, qk, ↓reduceIte, h2149, h2152, h2155, h2158]
  repeat with_reducible refine ⟨by first | kernel_rfl | decide, ?_⟩
  refine Wp_callP (c21 N _ _ _ _ h2162) (by kernel_rfl) rfl rfl rfl rfl (by decide) ?_
  have hh := getT2_some h; clear h; obtain ⟨p2164, p2165, h2163, h⟩ := hh
  have hh := getI_some h; clear h; obtain ⟨x2167, h2166, h⟩ := hh
  have hh := getI_some h; clear h; obtain ⟨x2169, h2168, h⟩ := hh
  have hh := brn_some h; clear h; rcases hh with ⟨h2170, h⟩ | ⟨h2170, h⟩
  · have hh := bnd'_some h; clear h; obtain ⟨p2171, h2172, h⟩ := hh
    refine W_sound tab_ok mixed 16 _ _ _ ?_
    simp -implicitDefEqProofs only [go_sem, qa, qb, qc, qd, qe, qf, qg, qh, qi, qj, qk, ↓reduceIte, h2149, h2152, h2155, h2158, h2163, h2166, h2168, h2170]
    repeat with_reducible refine ⟨by first | kernel_rfl | decide, ?_⟩
    refine Wp_callP (c84 N _ _ _ h2172) (by kernel_rfl) rfl rfl rfl rfl (by decide) ?_
    have hh := getI_some h; clear h; obtain ⟨x2174, h2173, h⟩ := hh
    have hh := brn_some h; clear h; rcases hh with ⟨h2175, h⟩ | ⟨h2175, h⟩
    · refine W_sound tab_ok mixed 16 _ _ _ ?_
      simp -implicitDefEqProofs only [go_sem, qa, qb, qc, qd, qe, qf, qg, qh, qi, qj, qk, ↓reduceIte, h2149, h2152, h2155, h2158, h2163, h2166, h2168, h2170, h2173, h2175]
      repeat with_reducible refine ⟨by first | kernel_rfl | decide, ?_⟩
      obtain rfl := Option.some.inj h
      exact finC [(8, .v (.int .i64 x2174))] [(8, .v (.int .i64 x2174))] (by simp [leE, lk_cons]) (.cons _ _ _ _ _ (.v _ _ (.refl _)) .nil) (by rfl) (by simp [leE, lk_cons]) (by decide) (by decide) rfl (by simp only [go_sem, qa, qb, qc, qd, qe, qf, qg, qh, qi, qj, qk, ↓reduceIte, resQ_tmp, resQ_cell, resQ_nil, retD_one, retD_two, retD_three, retD_none]; try simp [R.val, retD_one, retD_two, retD_three, retD_none])
    · refine W_sound tab_ok mixed 19 _ _ _ ?_
      simp -implicitDefEqProofs only [go_sem, qa, qb, qc, qd, qe, qf, qg, qh, qi, qj, qk, ↓reduceIte, h2149, h2152, h2155, h2158, h2163, h2166, h2168, h2170, h2173, h2175]
      repeat with_reducible refine ⟨by first | kernel_rfl | decide, ?_⟩
      have hh := bnd'_some h; clear h; obtain ⟨o2339, h2340, h2341⟩ := hh
      refine Wp_cut (fun s => ∃ x2214, ∃ p2215, ∃ p2216, (x2214, p2215, p2216) = o2339 ∧ s = ⟨[], [(0, .dead), (1, .dead), (2, .dead), (3, .dead), (5, .ptr 0 0), (7, .ptr 1 0), (8, .dead), (9, .v (.int .i64 x2167)), (10, .dead), (11, .v (.int .i64 x2214)), (12, .dead), (13, .dead), (22, .dead), (27, .dead), (33, .dead), (53, .dead), (71, .dead)], [(0, .p [p2215, p2154]), (1, .p [p2216, p2160])], 2, []⟩) ?_ ?_
      · refine Wp_block ?_
        refine Wp_loopG (fun n s => ∃ x2194, ∃ x2195, ∃ p2196, ∃ p2197, m43_L0 N p2154 p2160 x2167 n x2194 x2195 p2196 p2197 = some o2339 ∧ s = ⟨[], [(0, .dead), (1, .dead), (2, .dead), (3, .dead), (5, .ptr 0 0), (7, .ptr 1 0), (8, .dead), (9, .v (.int .i64 x2167)), (10, .dead), (11, .v (.int .i64 x2194)), (12, .v (.int .i64 x2195)), (13, .dead), (22, .dead), (27, .dead), (33, .dead), (53, .dead), (71, .dead)], [(0, .p [p2196, p2154]), (1, .p [p2197, p2160])], 2, []⟩) N _ ((Wk_le (.k (.k (.k (.k (.r (.r (.k (.r (.k (.r (.r (.r (.k (.k (.r (.r (.r .nil))))))))))))))))) (OLe.refl _)).trans (cmpS_ok (st' := ⟨[], [(0, .dead), (1, .dead), (2, .dead), (3, .dead), (5, .ptr 0 0), (7, .ptr 1 0), (8, .dead), (9, .v (.int .i64 x2167)), (10, .dead), (11, .v (.int .i64 0)), (12, .v (.int .i64 0)), (13, .dead), (22, .dead), (27, .dead), (33, .dead), (53, .dead), (71, .dead)], [(0, .p [p2153, p2154]), (1, .p [p2159, p2160])], 2, []⟩) (by kernel_rfl))) ⟨_, _, _, _, h2340, rfl⟩ ?_
        clear h2340
        rintro n _ ⟨x2194, x2195, p2196, p2197, h2340, rfl⟩
        cases n with
        | zero => cases h2340
        | succ n =>
          rw [m43_L0] at h2340
          have hh := getL_some h2340; clear h2340; obtain ⟨n2199, c2200, h2198, h2340⟩ := hh
          have hh := brn_some h2340; clear h2340; rcases hh with ⟨h2201, h2340⟩ | ⟨h2201, h2340⟩
          · have hh := grd_some h2340; clear h2340; obtain ⟨⟨g2202, g2203⟩, h2340⟩ := hh
            have hh := grd_some h2340; clear h2340; obtain ⟨g2204, h2340⟩ := hh
            have hh := getI_some h2340; clear h2340; obtain ⟨x2206, h2205, h2340⟩ := hh
            have hh := getL_some h2340; clear h2340; obtain ⟨n2208, c2209, h2207, h2340⟩ := hh
            have hh := grd_some h2340; clear h2340; obtain ⟨g2210, h2340⟩ := hh
            have hh := grd_some h2340; clear h2340; obtain ⟨g2211, h2340⟩ := hh
            have hh := getI_some h2340; clear h2340; obtain ⟨x2213, h2212, h2340⟩ := hh
            refine W_sound tab_ok mixed 35 _ _ _ ?_
            simp -implicitDefEqProofs only [go_sem, qa, qb, qc, qd, qe, qf, qg, qh, qi, qj, qk, ↓reduceIte, h2149, h2152, h2155, h2158, h2163, h2166, h2168, h2170, h2173, h2175, h2198, h2201, g2202, g2203, g2204, h2205, h2207, g2210, g2211, h2212]
            repeat with_reducible refine ⟨by first | kernel_rfl | decide, ?_⟩
            exact cutQ _ ((Wk_le (.r (.r (.r (.r (.r (.r (.r (.r (.r (.r (.r (.r (.r (.r (.k (.r (.r .nil))))))))))))))))) (OLe.refl _)).trans (cmpS_ok (st' := ⟨[], [(0, .dead), (1, .dead), (2, .dead), (3, .dead), (5, .ptr 0 0), (7, .ptr 1 0), (8, .dead), (9, .v (.int .i64 x2167)), (10, .dead), (11, .v (.int .i64 (IntKind.i64.wrap (x2194 + (IntKind.i64.wrap (x2206 * x2213)))))), (12, .v (.int .i64 (IntKind.i64.wrap (x2195 + 1)))), (13, .dead), (22, .dead), (27, .dead), (33, .dead), (53, .dead), (71, .dead)], [(0, .p [(.lst false n2199 c2200), p2154]), (1, .p [(.lst false n2208 c2209), p2160])], 2, []⟩) (by kernel_rfl))) ⟨n, Nat.lt_succ_self n, _, _, _, _, h2340, rfl⟩
          · refine W_sound tab_ok mixed 11 _ _ _ ?_
            simp -implicitDefEqProofs only [go_sem, qa, qb, qc, qd, qe, qf, qg, qh, qi, qj, qk, ↓reduceIte, h2149, h2152, h2155, h2158, h2163, h2166, h2168, h2170, h2173, h2175, h2198, h2201]
            repeat with_reducible refine ⟨by first | kernel_rfl | decide, ?_⟩
            obtain rfl := Option.some.inj h2340
            exact cutQ _ ((Wk_le (.r (.r (.r (.r (.r (.r (.r (.r (.r (.r (.k (.r (.r (.r (.k (.r (.r .nil))))))))))))))))) (OLe.refl _)).trans (cmpS_ok (st' := ⟨[], [(0, .dead), (1, .dead), (2, .dead), (3, .dead), (5, .ptr 0 0), (7, .ptr 1 0), (8, .dead), (9, .v (.int .i64 x2167)), (10, .dead), (11, .v (.int .i64 x2194)), (12, .dead), (13, .dead), (22, .dead), (27, .dead), (33, .dead), (53, .dead), (71, .dead)], [(0, .p [(.lst false n2199 c2200), p2154]), (1, .p [p2197, p2160])], 2, []⟩) (by kernel_rfl))) ⟨_, _, _, rfl, rfl⟩
      · rintro _ ⟨x2214, p2215, p2216, rfl, rfl⟩
        (try dsimp only at h2341)
        refine W_sound tab_ok mixed 5 _ _ _ ?_
        simp -implicitDefEqProofs only [go_sem, qa, qb, qc, qd, qe, qf, qg, qh, qi, qj, qk, ↓reduceIte, h2149, h2152, h2155, h2158, h2163, h2166, h2168, h2170, h2173, h2175]
        repeat with_reducible refine ⟨by first | kernel_rfl | decide, ?_⟩
        have hh := bnd'_some h2341; clear h2341; obtain ⟨o2342, h2343, h2344⟩ := hh
        refine Wp_cut (fun s => ∃ x2255, x2255 = o2342 ∧ s = ⟨[], [(0, .dead), (1, .dead), (2, .dead), (3, .dead), (5, .dead), (7, .dead), (8, .dead), (9, .v (.int .i64 x2167)), (10, .dead), (11, .v (.int .i64 x2255)), (12, .dead), (13, .dead), (22, .dead), (27, .dead), (33, .dead), (53, .dead), (71, .dead)], [], 0, []⟩) ?_ ?_
        · refine Wp_block ?_
          refine Wp_loopG (fun n s => ∃ x2235, ∃ x2236, ∃ p2237, ∃ p2238, m43_L1 N x2167 p2215 p2216 n x2235 x2236 p2237 p2238 = some o2342 ∧ s = ⟨[], [(0, .dead), (1, .dead), (2, .dead), (3, .dead), (5, .ptr 0 0), (7, .ptr 1 0), (8, .dead), (9, .v (.int .i64 x2167)), (10, .dead), (11, .v (.int .i64 x2235)), (12, .dead), (13, .v (.int .i64 x2236)), (22, .dead), (27, .dead), (33, .dead), (53, .dead), (71, .dead)], [(0, .p [p2215, p2237]), (1, .p [p2216, p2238])], 2, []⟩) N _ ((Wk_le (.r (.r (.r (.r (.r (.r (.r (.r (.r (.r (.r (.r (.r (.r (.r (.r (.r .nil))))))))))))))))) (OLe.refl _)).trans (cmpS_ok (st' := ⟨[], [(0, .dead), (1, .dead), (2, .dead), (3, .dead), (5, .ptr 0 0), (7, .ptr 1 0), (8, .dead), (9, .v (.int .i64 x2167)), (10, .dead), (11, .v (.int .i64 x2214)), (12, .dead), (13, .v (.int .i64 0)), (22, .dead), (27, .dead), (33, .dead), (53, .dead), (71, .dead)], [(0, .p [p2215, p2154]), (1, .p [p2216, p2160])], 2, []⟩) (by kernel_rfl))) ⟨_, _, _, _, h2343, rfl⟩ ?_
          clear h2343
          rintro n _ ⟨x2235, x2236, p2237, p2238, h2343, rfl⟩
          cases n with
          | zero => cases h2343
          | succ n =>
            rw [m43_L1] at h2343
            have hh := getL_some h2343; clear h2343; obtain ⟨n2240, c2241, h2239, h2343⟩ := hh
            have hh := brn_some h2343; clear h2343; rcases hh with ⟨h2242, h2343⟩ | ⟨h2242, h2343⟩
            · have hh := grd_some h2343; clear h2343; obtain ⟨⟨g2243, g2244⟩, h2343⟩ := hh
              have hh := grd_some h2343; clear h2343; obtain ⟨g2245, h2343⟩ := hh
              have hh := getI_some h2343; clear h2343; obtain ⟨x2247, h2246, h2343⟩ := hh
              have hh := getL_some h2343; clear h2343; obtain ⟨n2249, c2250, h2248, h2343⟩ := hh
              have hh := grd_some h2343; clear h2343; obtain ⟨g2251, h2343⟩ := hh
              have hh := grd_some h2343; clear h2343; obtain ⟨g2252, h2343⟩ := hh
              have hh := getI_some h2343; clear h2343; obtain ⟨x2254, h2253, h2343⟩ := hh
              refine W_sound tab_ok mixed 35 _ _ _ ?_
              simp -implicitDefEqProofs only [go_sem, qa, qb, qc, qd, qe, qf, qg, qh, qi, qj, qk, ↓reduceIte, h2149, h2152, h2155, h2158, h2163, h2166, h2168, h2170, h2173, h2175, h2239, h2242, g2243, g2244, g2245, h2246, h2248, g2251, g2252, h2253]
              repeat with_reducible refine ⟨by first | kernel_rfl | decide, ?_⟩
              exact cutQ _ ((Wk_le (.r (.r (.r (.r (.r (.r (.r (.r (.r (.r (.r (.r (.r (.r (.r (.k (.r .nil))))))))))))))))) (OLe.refl _)).trans (cmpS_ok (st' := ⟨[], [(0, .dead), (1, .dead), (2, .dead), (3, .dead), (5, .ptr 0 0), (7, .ptr 1 0), (8, .dead), (9, .v (.int .i64 x2167)), (10, .dead), (11, .v (.int .i64 (IntKind.i64.wrap (x2235 + (IntKind.i64.wrap (x2247 * x2254)))))), (12, .dead), (13, .v (.int .i64 (IntKind.i64.wrap (x2236 + 1)))), (22, .dead), (27, .dead), (33, .dead), (53, .dead), (71, .dead)], [(0, .p [p2215, (.lst false n2240 c2241)]), (1, .p [p2216, (.lst false n2249 c2250)])], 2, []⟩) (by kernel_rfl))) ⟨n, Nat.lt_succ_self n, _, _, _, _, h2343, rfl⟩
            · refine W_sound tab_ok mixed 11 _ _ _ ?_
              simp -implicitDefEqProofs only [go_sem, qa, qb, qc, qd, qe, qf, qg, qh, qi, qj, qk, ↓reduceIte, h2149, h2152, h2155, h2158, h2163, h2166, h2168, h2170, h2173, h2175, h2239, h2242]
              repeat with_reducible refine ⟨by first | kernel_rfl | decide, ?_⟩
              obtain rfl := Option.some.inj h2343
              exact cutQ _ ((Wk_le (.r (.r (.r (.r (.k (.k (.r (.r (.r (.r (.r (.k (.r (.r (.r (.k (.r .nil))))))))))))))))) (OLe.refl _)).trans (cmpS_ok (st' := ⟨[], [(0, .dead), (1, .dead), (2, .dead), (3, .dead), (5, .dead), (7, .dead), (8, .dead), (9, .v (.int .i64 x2167)), (10, .dead), (11, .v (.int .i64 x2235)), (12, .dead), (13, .dead), (22, .dead), (27, .dead), (33, .dead), (53, .dead), (71, .dead)], [], 0, []⟩) (by kernel_rfl))) ⟨_, rfl, rfl⟩
        · rintro _ ⟨x2255, rfl, rfl⟩
          have hh := brn_some h2344; clear h2344; rcases hh with ⟨h2256, h2344⟩ | ⟨h2256, h2344⟩
          · refine W_sound tab_ok mixed 14 _ _ _ ?_
            simp -implicitDefEqProofs only [go_sem, qa, qb, qc, qd, qe, qf, qg, qh, qi, qj, qk, ↓reduceIte, h2149, h2152, h2155, h2158, h2163, h2166, h2168, h2170, h2173, h2175, h2256]
            repeat with_reducible refine ⟨by first | kernel_rfl | decide, ?_⟩
            obtain rfl := Option.some.inj h2344
            exact finC [(8, .v (.int .i64 14))] [(8, .v (.int .i64 14))] (by simp [leE, lk_cons]) (.cons _ _ _ _ _ (.v _ _ (.refl _)) .nil) (by rfl) (by simp [leE, lk_cons]) (by decide) (by decide) rfl (by simp only [go_sem, qa, qb, qc, qd, qe, qf, qg, qh, qi, qj, qk, ↓reduceIte, resQ_tmp, resQ_cell, resQ_nil, retD_one, retD_two, retD_three, retD_none]; try simp [R.val, retD_one, retD_two, retD_three, retD_none])
          · refine W_sound tab_ok mixed 15 _ _ _ ?_
            simp -implicitDefEqProofs only [go_sem, qa, qb, qc, qd, qe, qf, qg, qh, qi, qj, qk, ↓reduceIte, h2149, h2152, h2155, h2158, h2163, h2166, h2168, h2170, h2173, h2175, h2256]
            repeat with_reducible refine ⟨by first | kernel_rfl | decide, ?_⟩
            obtain rfl := Option.some.inj h2344
            exact finC [(8, .v (.int .i64 0))] [(8, .v (.int .i64 0))] (by simp [leE, lk_cons]) (.cons _ _ _ _ _ (.v _ _ (.refl _)) .nil) (by rfl) (by simp [leE, lk_cons]) (by decide) (by decide) rfl (by simp only [go_sem, qa, qb, qc, qd, qe, qf, qg, qh, qi, qj, qk, ↓reduceIte, resQ_tmp, resQ_cell, resQ_nil, retD_one, retD_two, retD_three, retD_none]; try simp [R.val, retD_one, retD_two, retD_three, retD_none])
  · have hh := brn_some h; clear h; rcases hh with ⟨h2257, h⟩ | ⟨h2257, h⟩
    · refine W_sound tab_ok mixed 28 _ _ _ ?_
      simp -implicitDefEqProofs only [go_sem, qa, qb, qc, qd, qe, qf, qg, qh, qi, qj, qk, ↓reduceIte, h2149, h2152, h2155, h2158, h2163, h2166, h2168, h2170, h2257]
      repeat with_reducible refine ⟨by first | kernel_rfl | decide, ?_⟩
      obtain rfl := Option.some.inj h
      exact finC [(8, .v (.int .i64 x2169))] [(8, .v (.int .i64 x2169))] (by simp [leE, lk_cons]) (.cons _ _ _ _ _ (.v _ _ (.refl _)) .nil) (by rfl) (by simp [leE, lk_cons]) (by decide) (by decide) rfl (by simp only [go_sem, qa, qb, qc, qd, qe, qf, qg, qh, qi, qj, qk, ↓reduceIte, resQ_tmp, resQ_cell, resQ_nil, retD_one, retD_two, retD_three, retD_none]; try simp [R.val, retD_one, retD_two, retD_three, retD_none])
    · refine W_sound tab_ok mixed 31 _ _ _ ?_
      simp -implicitDefEqProofs only [go_sem, qa, qb, qc, qd, qe, qf, qg, qh, qi, qj, qk, ↓reduceIte, h2149, h2152, h2155, h2158, h2163, h2166, h2168, h2170, h2257]
      repeat with_reducible refine ⟨by first | kernel_rfl | decide, ?_⟩
      have hh := bnd'_some h; clear h; obtain ⟨o2345, h2346, h2347⟩ := hh
      refine Wp_cut (fun s => ∃ x2296, ∃ p2297, ∃ p2298, (x2296, p2297, p2298) = o2345 ∧ s = ⟨[], [(0, .dead), (1, .dead), (2, .dead), (3, .dead), (5, .ptr 0 0), (7, .ptr 1 0), (8, .dead), (9, .v (.int .i64 x2167)), (10, .dead), (11, .v (.int .i64 x2296)), (12, .dead), (13, .dead), (22, .dead), (27, .dead), (33, .dead), (53, .dead), (71, .dead)], [(0, .p [p2297, p2154]), (1, .p [p2298, p2160])], 2, []⟩) ?_ ?_
      · refine Wp_block ?_
        refine Wp_loopG (fun n s => ∃ x2276, ∃ x2277, ∃ p2278, ∃ p2279, m43_L2 N p2154 p2160 x2167 n x2276 x2277 p2278 p2279 = some o2345 ∧ s = ⟨[], [(0, .dead), (1, .dead), (2, .dead), (3, .dead), (5, .ptr 0 0), (7, .ptr 1 0), (8, .dead), (9, .v (.int .i64 x2167)), (10, .dead), (11, .v (.int .i64 x2276)), (12, .v (.int .i64 x2277)), (13, .dead), (22, .dead), (27, .dead), (33, .dead), (53, .dead), (71, .dead)], [(0, .p [p2278, p2154]), (1, .p [p2279, p2160])], 2, []⟩) N _ ((Wk_le (.k (.k (.k (.k (.r (.r (.k (.r (.k (.r (.r (.r (.k (.k (.r (.r (.r .nil))))))))))))))))) (OLe.refl _)).trans (cmpS_ok (st' := ⟨[], [(0, .dead), (1, .dead), (2, .dead), (3, .dead), (5, .ptr 0 0), (7, .ptr 1 0), (8, .dead), (9, .v (.int .i64 x2167)), (10, .dead), (11, .v (.int .i64 0)), (12, .v (.int .i64 0)), (13, .dead), (22, .dead), (27, .dead), (33, .dead), (53, .dead), (71, .dead)], [(0, .p [p2153, p2154]), (1, .p [p2159, p2160])], 2, []⟩) (by kernel_rfl))) ⟨_, _, _, _, h2346, rfl⟩ ?_
        clear h2346
        rintro n _ ⟨x2276, x2277, p2278, p2279, h2346, rfl⟩
        cases n with
        | zero => cases h2346
        | succ n =>
          rw [m43_L2] at h2346
          have hh := getL_some h2346; clear h2346; obtain ⟨n2281, c2282, h2280, h2346⟩ := hh
          have hh := brn_some h2346; clear h2346; rcases hh with ⟨h2283, h2346⟩ | ⟨h2283, h2346⟩
          · have hh := grd_some h2346; clear h2346; obtain ⟨⟨g2284, g2285⟩, h2346⟩ := hh
            have hh := grd_some h2346; clear h2346; obtain ⟨g2286, h2346⟩ := hh
            have hh := getI_some h2346; clear h2346; obtain ⟨x2288, h2287, h2346⟩ := hh
            have hh := getL_some h2346; clear h2346; obtain ⟨n2290, c2291, h2289, h2346⟩ := hh
            have hh := grd_some h2346; clear h2346; obtain ⟨g2292, h2346⟩ := hh
            have hh := grd_some h2346; clear h2346; obtain ⟨g2293, h2346⟩ := hh
            have hh := getI_some h2346; clear h2346; obtain ⟨x2295, h2294, h2346⟩ := hh
            refine W_sound tab_ok mixed 35 _ _ _ ?_
            simp -implicitDefEqProofs only [go_sem, qa, qb, qc, qd, qe, qf, qg, qh, qi, qj, qk, ↓reduceIte, h2149, h2152, h2155, h2158, h2163, h2166, h2168, h2170, h2257, h2280, h2283, g2284, g2285, g2286, h2287, h2289, g2292, g2293, h2294]
            repeat with_reducible refine ⟨by first | kernel_rfl | decide, ?_⟩
            exact cutQ _ ((Wk_le (.r (.r (.r (.r (.r (.r (.r (.r (.r (.r (.r (.r (.r (.r (.k (.r (.r .nil))))))))))))))))) (OLe.refl _)).trans (cmpS_ok (st' := ⟨[], [(0, .dead), (1, .dead), (2, .dead), (3, .dead), (5, .ptr 0 0), (7, .ptr 1 0), (8, .dead), (9, .v (.int .i64 x2167)), (10, .dead), (11, .v (.int .i64 (IntKind.i64.wrap (x2276 + (IntKind.i64.wrap (x2288 * x2295)))))), (12, .v (.int .i64 (IntKind.i64.wrap (x2277 + 1)))), (13, .dead), (22, .dead), (27, .dead), (33, .dead), (53, .dead), (71, .dead)], [(0, .p [(.lst false n2281 c2282), p2154]), (1, .p [(.lst false n2290 c2291), p2160])], 2, []⟩) (by kernel_rfl))) ⟨n, Nat.lt_succ_self n, _, _, _, _, h2346, rfl⟩
          · refine W_sound tab_ok mixed 11 _ _ _ ?_
            simp -implicitDefEqProofs only [go_sem, qa, qb, qc, qd, qe, qf, qg, qh, qi, qj, qk, ↓reduceIte, h2149, h2152, h2155, h2158, h2163, h2166, h2168, h2170, h2257, h2280, h2283]
            repeat with_reducible refine ⟨by first | kernel_rfl | decide, ?_⟩
            obtain rfl := Option.some.inj h2346
            exact cutQ _ ((Wk_le (.r (.r (.r (.r (.r (.r (.r (.r (.r (.r (.k (.r (.r (.r (.k (.r (.r .nil))))))))))))))))) (OLe.refl _)).trans (cmpS_ok (st' := ⟨[], [(0, .dead), (1, .dead), (2, .dead), (3, .dead), (5, .ptr 0 0), (7, .ptr 1 0), (8, .dead), (9, .v (.int .i64 x2167)), (10, .dead), (11, .v (.int .i64 x2276)), (12, .dead), (13, .dead), (22, .dead), (27, .dead), (33, .dead), (53, .dead), (71, .dead)], [(0, .p [(.lst false n2281 c2282), p2154]), (1, .p [p2279, p2160])], 2, []⟩) (by kernel_rfl))) ⟨_, _, _, rfl, rfl⟩
      · rintro _ ⟨x2296, p2297, p2298, rfl, rfl⟩
        (try dsimp only at h2347)
        refine W_sound tab_ok mixed 5 _ _ _ ?_
        simp -implicitDefEqProofs only [go_sem, qa, qb, qc, qd, qe, qf, qg, qh, qi, qj, qk, ↓reduceIte, h2149, h2152, h2155, h2158, h2163, h2166, h2168, h2170, h2257]
        repeat with_reducible refine ⟨by first | kernel_rfl | decide, ?_⟩
        have hh := bnd'_some h2347; clear h2347; obtain ⟨o2348, h2349, h2350⟩ := hh
        refine Wp_cut (fun s => ∃ x2337, x2337 = o2348 ∧ s = ⟨[], [(0, .dead), (1, .dead), (2, .dead), (3, .dead), (5, .dead), (7, .dead), (8, .dead), (9, .v (.int .i64 x2167)), (10, .dead), (11, .v (.int .i64 x2337)), (12, .dead), (13, .dead), (22, .dead), (27, .dead), (33, .dead), (53, .dead), (71, .dead)], [], 0, []⟩) ?_ ?_
        · refine Wp_block ?_
          refine Wp_loopG (fun n s => ∃ x2317, ∃ x2318, ∃ p2319, ∃ p2320, m43_L3 N x2167 p2297 p2298 n x2317 x2318 p2319 p2320 = some o2348 ∧ s = ⟨[], [(0, .dead), (1, .dead), (2, .dead), (3, .dead), (5, .ptr 0 0), (7, .ptr 1 0), (8, .dead), (9, .v (.int .i64 x2167)), (10, .dead), (11, .v (.int .i64 x2317)), (12, .dead), (13, .v (.int .i64 x2318)), (22, .dead), (27, .dead), (33, .dead), (53, .dead), (71, .dead)], [(0, .p [p2297, p2319]), (1, .p [p2298, p2320])], 2, []⟩) N _ ((Wk_le (.r (.r (.r (.r (.r (.r (.r (.r (.r (.r (.r (.r (.r (.r (.r (.r (.r .nil))))))))))))))))) (OLe.refl _)).trans (cmpS_ok (st' := ⟨[], [(0, .dead), (1, .dead), (2, .dead), (3, .dead), (5, .ptr 0 0), (7, .ptr 1 0), (8, .dead), (9, .v (.int .i64 x2167)), (10, .dead), (11, .v (.int .i64 x2296)), (12, .dead), (13, .v (.int .i64 0)), (22, .dead), (27, .dead), (33, .dead), (53, .dead), (71, .dead)], [(0, .p [p2297, p2154]), (1, .p [p2298, p2160])], 2, []⟩) (by kernel_rfl))) ⟨_, _, _, _, h2349, rfl⟩ ?_
          clear h2349
          rintro n _ ⟨x2317, x2318, p2319, p2320, h2349, rfl⟩
          cases n with
          | zero => cases h2349
          | succ n =>
            rw [m43_L3] at h2349
            have hh := getL_some h2349; clear h2349; obtain ⟨n2322, c2323, h2321, h2349⟩ := hh
            have hh := brn_some h2349; clear h2349; rcases hh with ⟨h2324, h2349⟩ | ⟨h2324, h2349⟩
            · have hh := grd_some h2349; clear h2349; obtain ⟨⟨g2325, g2326⟩, h2349⟩ := hh
              have hh := grd_some h2349; clear h2349; obtain ⟨g2327, h2349⟩ := hh
              have hh := getI_some h2349; clear h2349; obtain ⟨x2329, h2328, h2349⟩ := hh
              have hh := getL_some h2349; clear h2349; obtain ⟨n2331, c2332, h2330, h2349⟩ := hh
              have hh := grd_some h2349; clear h2349; obtain ⟨g2333, h2349⟩ := hh
              have hh := grd_some h2349; clear h2349; obtain ⟨g2334, h2349⟩ := hh
              have hh := getI_some h2349; clear h2349; obtain ⟨x2336, h2335, h2349⟩ := hh
              refine W_sound tab_ok mixed 35 _ _ _ ?_
              simp -implicitDefEqProofs only [go_sem, qa, qb, qc, qd, qe, qf, qg, qh, qi, qj, qk, ↓reduceIte, h2149, h2152, h2155, h2158, h2163, h2166, h2168, h2170, h2257, h2321, h2324, g2325, g2326, g2327, h2328, h2330, g2333, g2334, h2335]
              repeat with_reducible refine ⟨by first | kernel_rfl | decide, ?_⟩
              exact cutQ _ ((Wk_le (.r (.r (.r (.r (.r (.r (.r (.r (.r (.r (.r (.r (.r (.r (.r (.k (.r .nil))))))))))))))))) (OLe.refl _)).trans (cmpS_ok (st' := ⟨[], [(0, .dead), (1, .dead), (2, .dead), (3, .dead), (5, .ptr 0 0), (7, .ptr 1 0), (8, .dead), (9, .v (.int .i64 x2167)), (10, .dead), (11, .v (.int .i64 (IntKind.i64.wrap (x2317 + (IntKind.i64.wrap (x2329 * x2336)))))), (12, .dead), (13, .v (.int .i64 (IntKind.i64.wrap (x2318 + 1)))), (22, .dead), (27, .dead), (33, .dead), (53, .dead), (71, .dead)], [(0, .p [p2297, (.lst false n2322 c2323)]), (1, .p [p2298, (.lst false n2331 c2332)])], 2, []⟩) (by kernel_rfl))) ⟨n, Nat.lt_succ_self n, _, _, _, _, h2349, rfl⟩
            · refine W_sound tab_ok mixed 11 _ _ _ ?_
              simp -implicitDefEqProofs only [go_sem, qa, qb, qc, qd, qe, qf, qg, qh, qi, qj, qk, ↓reduceIte, h2149, h2152, h2155, h2158, h2163, h2166, h2168, h2170, h2257, h2321, h2324]
              repeat with_reducible refine ⟨by first | kernel_rfl | decide, ?_⟩
              obtain rfl := Option.some.inj h2349
              exact cutQ _ ((Wk_le (.r (.r (.r (.r (.k (.k (.r (.r (.r (.r (.r (.k (.r (.r (.r (.k (.r .nil))))))))))))))))) (OLe.refl _)).trans (cmpS_ok (st' := ⟨[], [(0, .dead), (1, .dead), (2, .dead), (3, .dead), (5, .dead), (7, .dead), (8, .dead), (9, .v (.int .i64 x2167)), (10, .dead), (11, .v (.int .i64 x2317)), (12, .dead), (13, .dead), (22, .dead), (27, .dead), (33, .dead), (53, .dead), (71, .dead)], [], 0, []⟩) (by kernel_rfl))) ⟨_, rfl, rfl⟩
        · rintro _ ⟨x2337, rfl, rfl⟩
          have hh := brn_some h2350; clear h2350; rcases hh with ⟨h2338, h2350⟩ | ⟨h2338, h2350⟩
          · refine W_sound tab_ok mixed 14 _ _ _ ?_
            simp -implicitDefEqProofs only [go_sem, qa, qb, qc, qd, qe, qf, qg, qh, qi, qj, qk, ↓reduceIte, h2149, h2152, h2155, h2158, h2163, h2166, h2168, h2170, h2257, h2338]
            repeat with_reducible refine ⟨by first | kernel_rfl | decide, ?_⟩
            obtain rfl := Option.some.inj h2350
            exact finC [(8, .v (.int .i64 14))] [(8, .v (.int .i64 14))] (by simp [leE, lk_cons]) (.cons _ _ _ _ _ (.v _ _ (.refl _)) .nil) (by rfl) (by simp [leE, lk_cons]) (by decide) (by decide) rfl (by simp only [go_sem, qa, qb, qc, qd, qe, qf, qg, qh, qi, qj, qk, ↓reduceIte, resQ_tmp, resQ_cell, resQ_nil, retD_one, retD_two, retD_three, retD_none]; try simp [R.val, retD_one, retD_two, retD_three, retD_none])
          · refine W_sound tab_ok mixed 15 _ _ _ ?_
            simp -implicitDefEqProofs only [go_sem, qa, qb, qc, qd, qe, qf, qg, qh, qi, qj, qk, ↓reduceIte, h2149, h2152, h2155, h2158, h2163, h2166, h2168, h2170, h2257, h2338]
            repeat with_reducible refine ⟨by first | kernel_rfl | decide, ?_⟩
            obtain rfl := Option.some.inj h2350
            exact finC [(8, .v (.int .i64 0))] [(8, .v (.int .i64 0))] (by simp [leE, lk_cons]) (.cons _ _ _ _ _ (.v _ _ (.refl _)) .nil) (by rfl) (by simp [leE, lk_cons]) (by decide) (by decide) rfl (by simp only [go_sem, qa, qb, qc, qd, qe, qf, qg, qh, qi, qj, qk, ↓reduceIte, resQ_tmp, resQ_cell, resQ_nil, retD_one, retD_two, retD_three, retD_none]; try simp [R.val, retD_one, retD_two, retD_three, retD_none])
def m6 (N : Nat) (p2351 : PV) (p2352 : PV) (p2353 : PV) (p2354 : PV) : Option (PV) :=
  getL p2351 fun n2356 c2357 =>
  getA2 p2352 fun p2359 p2360 =>
  getL p2353 fun n2362 c2363 =>
  getA2 p2354 fun p2365 p2366 =>
  bnd' (m15 N (.lst false n2356 c2357)) fun p2367 =>
  getB p2367 fun b2370 =>
  brn b2370 (
    bnd' (m17 N ) fun p2372 =>
    getB p2372 fun b2375 =>
    some (.bool b2375)) (
    bnd' (m16 N (.agg [p2359, p2360])) fun p2376 =>
    getB p2376 fun b2379 =>
    brn b2379 (
      bnd' (m17 N ) fun p2381 =>
      getB p2381 fun b2384 =>
      some (.bool b2384)) (
      bnd' (m15 N (.lst false n2362 c2363)) fun p2385 =>
      getB p2385 fun b2388 =>
      brn b2388 (
        bnd' (m17 N ) fun p2390 =>
        getB p2390 fun b2393 =>
        some (.bool b2393)) (
        getL p2365 fun n2395 c2396 =>
        brn (decide (((n2395 : Nat) : Int) > 20)) (
          bnd' (m17 N ) fun p2398 =>
          getB p2398 fun b2401 =>
          some (.bool b2401)) (
          getL p2366 fun n2403 c2404 =>
          brn (decide (((n2403 : Nat) : Int) > 20)) (
            bnd' (m17 N ) fun p2406 =>
            getB p2406 fun b2409 =>
            some (.bool b2409)) (
            bnd' (m38 N (.lst false n2356 c2357) (.agg [p2359, p2360])) fun p2410 =>
            getT2 p2410 fun p2413 p2414 =>
            getA2 p2413 fun p2416 p2417 =>
            getI .i64 p2414 fun x2419 =>
            bnd' (m39 N (.lst false n2356 c2357) (.agg [p2359, p2360])) fun p2420 =>
            getT2 p2420 fun p2423 p2424 =>
            getA2 p2423 fun p2426 p2427 =>
            getI .i64 p2424 fun x2429 =>
            getL p2416 fun n2431 c2432 =>
            getL p2426 fun n2434 c2435 =>
            bnd' (m37 N (.lst false n2431 c2432) (.lst false n2434 c2435)) fun p2436 =>
            getB p2436 fun b2439 =>
            brn b2439 (
              getL p2417 fun n2442 c2443 =>
              getL p2427 fun n2445 c2446 =>
              bnd' (m37 N (.lst false n2442 c2443) (.lst false n2445 c2446)) fun p2447 =>
              getB p2447 fun b2450 =>
              brn b2450 (
                brn (x2419 == x2429) (
                  bnd' (m40 N (.lst false n2356 c2357) (.agg [(.lst false n2395 c2396), (.lst false n2403 c2404)])) fun p2453 =>
                  getI .i64 p2453 fun x2456 =>
                  bnd' (m41 N (.lst false n2356 c2357) (.agg [(.lst false n2395 c2396), (.lst false n2403 c2404)])) fun p2457 =>
                  getI .i64 p2457 fun x2460 =>
                  brn (x2456 == x2460) (
                    bnd' (m42 N (.lst false n2356 c2357) (.agg [p2359, p2360]) (.lst false n2362 c2363) (.agg [(.lst false n2395 c2396), (.lst false n2403 c2404)])) fun p2462 =>
                    getI .i64 p2462 fun x2465 =>
                    bnd' (m43 N (.lst false n2356 c2357) (.agg [p2359, p2360]) (.lst false n2362 c2363) (.agg [(.lst false n2395 c2396), (.lst false n2403 c2404)])) fun p2466 =>
                    getI .i64 p2466 fun x2469 =>
                    brn (x2465 == x2469) (
                      bnd' (m17 N ) fun p2471 =>
                      getB p2471 fun b2474 =>
                      some (.bool b2474)) (
                      some (.bool false))) (
                    some (.bool false))) (
                  some (.bool false))) (
                some (.bool false))) (
              some (.bool false)))))))
theorem c6 (N : Nat) (p2351 : PV) (p2352 : PV) (p2353 : PV) (p2354 : PV) (r : PV)  (h : m6 N p2351 p2352 p2353 p2354 = some r) : FnP Try.prog 6 [p2351, p2352, p2353, p2354] r := by
  unfold m6 at h
  refine Fn_of (sz := 94) tab_ok [0, 1, 2, 3, 5, 7, 8, 9, 10, 11, 12, 13, 14, 36] [.tmp 8] Try.func6 rfl rfl rfl (by simp) ?_
  simp only [initSt, initEnv, List.map_cons, List.map_nil, List.getD_cons_zero, List.getD_cons_succ, List.getD_nil]
  have hh := getL_some h; clear h; obtain ⟨n2356, c2357, h2355, h⟩ := hh
  have hh := getA2_some h; clear h; obtain ⟨p2359, p2360, h2358, h⟩ := hh
  have hh := getL_some h; clear h; obtain ⟨n2362, c2363, h2361, h⟩ := hh
  have hh := getA2_some h; clear h; obtain ⟨p2365, p2366, h2364, h⟩ := hh
  have hh := bnd'_some h; clear h; obtain ⟨p2367, h2368, h⟩ := hh
  refine W_sound tab_ok mixed 10 _ _ _ ?_
  simp -implicitDefEqProofs only [go_sem, qa, qb, qc, qd, qe, qf, qg, qh, qi, qj, qk, ↓reduceIte, h2355, h2358, h2361, h2364]
  repeat with_reducible refine ⟨by first | kernel_rfl | decide, ?_⟩
  refine Wp_callP (c15 N _ _ h2368) (by kernel_rfl) rfl rfl rfl rfl (by decide) ?_
  have hh := getB_some h; clear h; obtain ⟨b2370, h2369, h⟩ := hh
  have hh := brn_some h; clear h; rcases hh with ⟨h2371, h⟩ | ⟨h2371, h⟩
  · have hh := bnd'_some h; clear h; obtain ⟨p2372, h2373, h⟩ := hh
    refine W_sound tab_ok mixed 24 _ _ _ ?_
    simp -implicitDefEqProofs only [go_sem, qa, qb, qc, qd, qe, qf, qg, qh, qi, qj, qk, ↓reduceIte, h2355, h2358, h2361, h2364, h2369, h2371]
    repeat with_reducible refine ⟨by first | kernel_rfl | decide, ?_⟩
    refine Wp_callP (c17 N  _ h2373) (by kernel_rfl) rfl rfl rfl rfl (by decide) ?_
    have hh := getB_some h; clear h; obtain ⟨b2375, h2374, h⟩ := hh
    refine W_sound tab_ok mixed 4 _ _ _ ?_
    simp -implicitDefEqProofs only [go_sem, qa, qb, qc, qd, qe, qf, qg, qh, qi, qj, qk, ↓reduceIte, h2355, h2358, h2361, h2364, h2369, h2371, h2374]
    repeat with_reducible refine ⟨by first | kernel_rfl | decide, ?_⟩
    obtain rfl := Option.some.inj h
    exact finC [(8, .v (.bool b2375))] [(8, .v (.bool b2375))] (by simp [leE, lk_cons]) (.cons _ _ _ _ _ (.v _ _ (.refl _)) .nil) (by rfl) (by simp [leE, lk_cons]) (by decide) (by decide) rfl (by simp only [go_sem, qa, qb, qc, qd, qe, qf, qg, qh, qi, qj, qk, ↓reduceIte, resQ_tmp, resQ_cell, resQ_nil, retD_one, retD_two, retD_three, retD_none]; try simp [R.val, retD_one, retD_two, retD_three, retD_none])
  · have hh := bnd'_some h; clear h; obtain ⟨p2376, h2377, h⟩ := hh
    refine W_sound tab_ok mixed 2 _ _ _ ?_
    simp -implicitDefEqProofs only [go_sem, qa, qb, qc, qd, qe, qf, qg, qh, qi, qj, qk, ↓reduceIte, h2355, h2358, h2361, h2364, h2369, h2371]
    repeat with_reducible refine ⟨by first | kernel_rfl | decide, ?_⟩
    refine Wp_callP (c16 N _ _ h2377) (by kernel_rfl) rfl rfl rfl rfl (by decide) ?_
    have hh := getB_some h; clear h; obtain ⟨b2379, h2378, h⟩ := hh
    have hh := brn_some h; clear h; rcases hh with ⟨h2380, h⟩ | ⟨h2380, h⟩
    · have hh := bnd'_some h; clear h; obtain ⟨p2381, h2382, h⟩ := hh
      refine W_sound tab_ok mixed 21 _ _ _ ?_
      simp -implicitDefEqProofs only [go_sem, qa, qb, qc, qd, qe, qf, qg, qh, qi, qj, qk, ↓reduceIte, h2355, h2358, h2361, h2364, h2369, h2371, h2378, h2380]
      repeat with_reducible refine ⟨by first | kernel_rfl | decide, ?_⟩
      refine Wp_callP (c17 N  _ h2382) (by kernel_rfl) rfl rfl rfl rfl (by decide) ?_
      have hh := getB_some h; clear h; obtain ⟨b2384, h2383, h⟩ := hh
      refine W_sound tab_ok mixed 4 _ _ _ ?_
      simp -implicitDefEqProofs only [go_sem, qa, qb, qc, qd, qe, qf, qg, qh, qi, qj, qk, ↓reduceIte, h2355, h2358, h2361, h2364, h2369, h2371, h2378, h2380, h2383]
      repeat with_reducible refine ⟨by first | kernel_rfl | decide, ?_⟩
      obtain rfl := Option.some.inj h
      exact finC [(8, .v (.bool b2384))] [(8, .v (.bool b2384))] (by simp [leE, lk_cons]) (.cons _ _ _ _ _ (.v _ _ (.refl _)) .nil) (by rfl) (by simp [leE, lk_cons]) (by decide) (by decide) rfl (by simp only [go_sem, qa, qb, qc, qd, qe, qf, qg, qh, qi, qj, qk, ↓reduceIte, resQ_tmp, resQ_cell, resQ_nil, retD_one, retD_two, retD_three, retD_none]; try simp [R.val, retD_one, retD_two, retD_three, retD_none])
    · have hh := bnd'_some h; clear h; obtain ⟨p2385, h2386, h⟩ := hh
      refine W_sound tab_ok mixed 3 _ _ _ ?_
      simp -implicitDefEqProofs only [go_sem, qa, qb, qc, qd, qe, qf, qg, qh, qi, qj, qk, ↓reduceIte, h2355, h2358, h2361, h2364, h2369, h2371, h2378, h2380]
      repeat with_reducible refine ⟨by first | kernel_rfl | decide, ?_⟩
      refine Wp_callP (c15 N _ _ h2386) (by kernel_rfl) rfl rfl rfl rfl (by decide) ?_
      have hh := getB_some h; clear h; obtain ⟨b2388, h2387, h⟩ := hh
      have hh := brn_some h; clear h; rcases hh with ⟨h2389, h⟩ | ⟨h2389, h⟩
      · have hh := bnd'_some h; clear h; obtain ⟨p2390, h2391, h⟩ := hh
        refine W_sound tab_ok mixed 17 _ _ _ ?_
        simp -implicitDefEqProofs only [go_sem, qa, qb, qc, qd, qe, qf, qg, qh, qi, qj, qk, ↓reduceIte, h2355, h2358, h2361, h2364, h2369, h2371, h2378, h2380, h2387, h2389]
        repeat with_reducible refine ⟨by first | kernel_rfl | decide, ?_⟩
        refine Wp_callP (c17 N  _ h2391) (by kernel_rfl) rfl rfl rfl rfl (by decide) ?_
        have hh := getB_some h; clear h; obtain ⟨b2393, h2392, h⟩ := hh
        refine W_sound tab_ok mixed 4 _ _ _ ?_
        simp -implicitDefEqProofs only [go_sem, qa, qb, qc, qd, qe, qf, qg, qh, qi, qj, qk, ↓reduceIte, h2355, h2358, h2361, h2364, h2369, h2371, h2378, h2380, h2387, h2389, h2392]
        repeat with_reducible refine ⟨by first | kernel_rfl | decide, ?_⟩
        obtain rfl := Option.some.inj h
        exact finC [(8, .v (.bool b2393))] [(8, .v (.bool b2393))] (by simp [leE, lk_cons]) (.cons _ _ _ _ _ (.v _ _ (.refl _)) .nil) (by rfl) (by simp [leE, lk_cons]) (by decide) (by decide) rfl (by simp only [go_sem, qa, qb, qc, qd, qe, qf, qg, qh, qi, qj, qk, ↓reduceIte, resQ_tmp, resQ_cell, resQ_nil, retD_one, retD_two, retD_three, retD_none]; try simp [R.val, retD_one, retD_two, retD_three, retD_none])
      · have hh := getL_some h; clear h; obtain ⟨n2395, c2396, h2394, h⟩ := hh
        have hh := brn_some h; clear h; rcases hh with ⟨h2397, h⟩ | ⟨h2397, h⟩
        · have hh := bnd'_some h; clear h; obtain ⟨p2398, h2399, h⟩ := hh
          refine W_sound tab_ok mixed 17 _ _ _ ?_
          simp -implicitDefEqProofs only [go_sem, qa, qb, qc, qd, qe, qf, qg, qh, qi, qj, qk, ↓reduceIte, h2355, h2358, h2361, h2364, h2369, h2371, h2378, h2380, h2387, h2389, h2394, h2397]
          repeat with_reducible refine ⟨by first | kernel_rfl | decide, ?_⟩
          refine Wp_callP (c17 N  _ h2399) (by kernel_rfl) rfl rfl rfl rfl (by decide) ?_
          have hh := getB_some h; clear h; obtain ⟨b2401, h2400, h⟩ := hh
          refine W_sound tab_ok mixed 4 _ _ _ ?_
          simp -implicitDefEqProofs only [go_sem, qa, qb, qc, qd, qe, qf, qg, qh, qi, qj, qk, ↓reduceIte, h2355, h2358, h2361, h2364, h2369, h2371, h2378, h2380, h2387, h2389, h2394, h2397, h2400]
          repeat with_reducible refine ⟨by first | kernel_rfl | decide, ?_⟩
          obtain rfl := Option.some.inj h
          exact finC [(8, .v (.bool b2401))] [(8, .v (.bool b2401))] (by simp [leE, lk_cons]) (.cons _ _ _ _ _ (.v _ _ (.refl _)) .nil) (by rfl) (by simp [leE, lk_cons]) (by decide) (by decide) rfl (by simp only [go_sem, qa, qb, qc, qd, qe, qf, qg, qh, qi, qj, qk, ↓reduceIte, resQ_tmp, resQ_cell, resQ_nil, retD_one, retD_two, retD_three, retD_none]; try simp [R.val, retD_one, retD_two, retD_three, retD_none])
        · have hh := getL_some h; clear h; obtain ⟨n2403, c2404, h2402, h⟩ := hh
          have hh := brn_some h; clear h; rcases hh with ⟨h2405, h⟩ | ⟨h2405, h⟩
          · have hh := bnd'_some h; clear h; obtain ⟨p2406, h2407, h⟩ := hh
            refine W_sound tab_ok mixed 17 _ _ _ ?_
            simp -implicitDefEqProofs only [go_sem, qa, qb, qc, qd, qe, qf, qg, qh, qi, qj, qk, ↓reduceIte, h2355, h2358, h2361, h2364, h2369, h2371, h2378, h2380, h2387, h2389, h2394, h2397, h2402, h2405]
            repeat with_reducible refine ⟨by first | kernel_rfl | decide, ?_⟩
            refine Wp_callP (c17 N  _ h2407) (by kernel_rfl) rfl rfl rfl rfl (by decide) ?_
            have hh := getB_some h; clear h; obtain ⟨b2409, h2408, h⟩ := hh
            refine W_sound tab_ok mixed 4 _ _ _ ?_
            simp -implicitDefEqProofs only [go_sem, qa, qb, qc, qd, qe, qf, qg, qh, qi, qj, qk, ↓reduceIte, h2355, h2358, h2361, h2364, h2369, h2371, h2378, h2380, h2387, h2389, h2394, h2397, h2402, h2405, h2408]
            repeat with_reducible refine ⟨by first | kernel_rfl | decide, ?_⟩
            obtain rfl := Option.some.inj h
            exact finC [(8, .v (.bool b2409))] [(8, .v (.bool b2409))] (by simp [leE, lk_cons]) (.cons _ _ _ _ _ (.v _ _ (.refl _)) .nil) (by rfl) (by simp [leE, lk_cons]) (by decide) (by decide) rfl (by simp only [go_sem, qa, qb, qc, qd, qe, qf, qg, qh, qi, qj, qk, ↓reduceIte, resQ_tmp, resQ_cell, resQ_nil, retD_one, retD_two, retD_three, retD_none]; try simp [R.val, retD_one, retD_two, retD_three, retD_none])
          · have hh := bnd'_some h; clear h; obtain ⟨p2410, h2411, h⟩ := hh
            refine W_sound tab_ok mixed 29 _ _ _ ?_
            simp -implicitDefEqProofs only [go_sem, qa, qb, qc, qd, qe, qf, qg, qh, qi, qj, qk, ↓reduceIte, h2355, h2358, h2361, h2364, h2369, h2371, h2378, h2380, h2387, h2389, h2394, h2397, h2402, h2405]
            repeat with_reducible refine ⟨by first | kernel_rfl | decide, ?_⟩
            refine Wp_callP (c38 N _ _ _ h2411) (by kernel_rfl) rfl rfl rfl rfl (by decide) ?_
            have hh := getT2_some h; clear h; obtain ⟨p2413, p2414, h2412, h⟩ := hh
            have hh := getA2_some h; clear h; obtain ⟨p2416, p2417, h2415, h⟩ := hh
            have hh := getI_some h; clear h; obtain ⟨x2419, h2418, h⟩ := hh
            have hh := bnd'_some h; clear h; obtain ⟨p2420, h2421, h⟩ := hh
            refine W_sound tab_ok mixed 11 _ _ _ ?_
            simp -implicitDefEqProofs only [go_sem, qa, qb, qc, qd, qe, qf, qg, qh, qi, qj, qk, ↓reduceIte, h2355, h2358, h2361, h2364, h2369, h2371, h2378, h2380, h2387, h2389, h2394, h2397, h2402, h2405, h2412, h2415, h2418]
            repeat with_reducible refine ⟨by first | kernel_rfl | decide, ?_⟩
            refine Wp_callP (c39 N _ _ _ h2421) (by kernel_rfl) rfl rfl rfl rfl (by decide) ?_
            have hh := getT2_some h; clear h; obtain ⟨p2423, p2424, h2422, h⟩ := hh
            have hh := getA2_some h; clear h; obtain ⟨p2426, p2427, h2425, h⟩ := hh
            have hh := getI_some h; clear h; obtain ⟨x2429, h2428, h⟩ := hh
            have hh := getL_some h; clear h; obtain ⟨n2431, c2432, h2430, h⟩ := hh
            have hh := getL_some h; clear h; obtain ⟨n2434, c2435, h2433, h⟩ := hh
            have hh := bnd'_some h; clear h; obtain ⟨p2436, h2437, h⟩ := hh
            refine W_sound tab_ok mixed 13 _ _ _ ?_
            simp -implicitDefEqProofs only [go_sem, qa, qb, qc, qd, qe, qf, qg, qh, qi, qj, qk, ↓reduceIte, h2355, h2358, h2361, h2364, h2369, h2371, h2378, h2380, h2387, h2389, h2394, h2397, h2402, h2405, h2412, h2415, h2418, h2422, h2425, h2428, h2430, h2433]
            repeat with_reducible refine ⟨by first | kernel_rfl | decide, ?_⟩
            refine Wp_callP (c37 N _ _ _ h2437) (by kernel_rfl) rfl rfl rfl rfl (by decide) ?_
            have hh := getB_some h; clear h; obtain ⟨b2439, h2438, h⟩ := hh
            have hh := brn_some h; clear h; rcases hh with ⟨h2440, h⟩ | ⟨h2440, h⟩
            · have hh := getL_some h; clear h; obtain ⟨n2442, c2443, h2441, h⟩ := hh
              have hh := getL_some h; clear h; obtain ⟨n2445, c2446, h2444, h⟩ := hh
              have hh := bnd'_some h; clear h; obtain ⟨p2447, h2448, h⟩ := hh
              refine W_sound tab_ok mixed 5 _ _ _ ?_
              simp -implicitDefEqProofs only [go_sem, qa, qb, qc, qd, qe, qf, qg, qh, qi, qj, qk, ↓reduceIte, h2355, h2358, h2361, h2364, h2369, h2371, h2378, h2380, h2387, h2389, h2394, h2397, h2402, h2405, h2412, h2415, h2418, h2422, h2425, h2428, h2430, h2433, h2438, h2440, h2441, h2444]
              repeat with_reducible refine ⟨by first | kernel_rfl | decide, ?_⟩
              refine Wp_callP (c37 N _ _ _ h2448) (by kernel_rfl) rfl rfl rfl rfl (by decide) ?_
              have hh := getB_some h; clear h; obtain ⟨b2450, h2449, h⟩ := hh
              have hh := brn_some h; clear h; rcases hh with ⟨h2451, h⟩ | ⟨h2451, h⟩
              · have hh := brn_some h; clear h; rcases hh with ⟨h2452, h⟩ | ⟨h2452, h⟩
                · have hh := bnd'_some h; clear h; obtain ⟨p2453, h2454, h⟩ := hh
                  refine W_sound tab_ok mixed 9 _ _ _ ?_
                  simp -implicitDefEqProofs only [go_sem, qa, qb, qc, qd, qe, qf, qg, qh, qi, qj, qk, ↓reduceIte, h2355, h2358, h2361, h2364, h2369, h2371, h2378, h2380, h2387, h2389, h2394, h2397, h2402, h2405, h2412, h2415, h2418, h2422, h2425, h2428, h2430, h2433, h2438, h2440, h2441, h2444, h2449, h2451, h2452]
                  repeat with_reducible refine ⟨by first | kernel_rfl | decide, ?_⟩
                  refine Wp_callP (c40 N _ _ _ h2454) (by kernel_rfl) rfl rfl rfl rfl (by decide) ?_
                  have hh := getI_some h; clear h; obtain ⟨x2456, h2455, h⟩ := hh
                  have hh := bnd'_some h; clear h; obtain ⟨p2457, h2458, h⟩ := hh
                  refine W_sound tab_ok mixed 2 _ _ _ ?_
                  simp -implicitDefEqProofs only [go_sem, qa, qb, qc, qd, qe, qf, qg, qh, qi, qj, qk, ↓reduceIte, h2355, h2358, h2361, h2364, h2369, h2371, h2378, h2380, h2387, h2389, h2394, h2397, h2402, h2405, h2412, h2415, h2418, h2422, h2425, h2428, h2430, h2433, h2438, h2440, h2441, h2444, h2449, h2451, h2452, h2455]
                  repeat with_reducible refine ⟨by first | kernel_rfl | decide, ?_⟩
                  refine Wp_callP (c41 N _ _ _ h2458) (by kernel_rfl) rfl rfl rfl rfl (by decide) ?_
                  have hh := getI_some h; clear h; obtain ⟨x2460, h2459, h⟩ := hh
                  have hh := brn_some h; clear h; rcases hh with ⟨h2461, h⟩ | ⟨h2461, h⟩
                  · have hh := bnd'_some h; clear h; obtain ⟨p2462, h2463, h⟩ := hh
                    refine W_sound tab_ok mixed 7 _ _ _ ?_
                    simp -implicitDefEqProofs only [go_sem, qa, qb, qc, qd, qe, qf, qg, qh, qi, qj, qk, ↓reduceIte, h2355, h2358, h2361, h2364, h2369, h2371, h2378, h2380, h2387, h2389, h2394, h2397, h2402, h2405, h2412, h2415, h2418, h2422, h2425, h2428, h2430, h2433, h2438, h2440, h2441, h2444, h2449, h2451, h2452, h2455, h2459, h2461]
                    repeat with_reducible refine ⟨by first | kernel_rfl | decide, ?_⟩
                    refine Wp_callP (c42 N _ _ _ _ _ h2463) (by kernel_rfl) rfl rfl rfl rfl (by decide) ?_
                    have hh := getI_some h; clear h; obtain ⟨x2465, h2464, h⟩ := hh
                    have hh := bnd'_some h; clear h; obtain ⟨p2466, h2467, h⟩ := hh
                    refine W_sound tab_ok mixed 4 _ _ _ ?_
                    simp -implicitDefEqProofs only [go_sem, qa, qb, qc, qd, qe, qf, qg, qh, qi, qj, qk, ↓reduceIte, h2355, h2358, h2361, h2364, h2369, h2371, h2378, h2380, h2387, h2389, h2394, h2397, h2402, h2405, h2412, h2415, h2418, h2422, h2425, h2428, h2430, h2433, h2438, h2440, h2441, h2444, h2449, h2451, h2452, h2455, h2459, h2461, h2464]
                    repeat with_reducible refine ⟨by first | kernel_rfl | decide, ?_⟩
                    refine Wp_callP (c43 N _ _ _ _ _ h2467) (by kernel_rfl) rfl rfl rfl rfl (by decide) ?_
                    have hh := getI_some h; clear h; obtain ⟨x2469, h2468, h⟩ := hh
                    have hh := brn_some h; clear h; rcases hh with ⟨h2470, h⟩ | ⟨h2470, h⟩
                    · have hh := bnd'_some h; clear h; obtain ⟨p2471, h2472, h⟩ := hh
                      refine W_sound tab_ok mixed 3 _ _ _ ?_
                      simp -implicitDefEqProofs only [go_sem, qa, qb, qc, qd, qe, qf, qg, qh, qi, qj, qk, ↓reduceIte, h2355, h2358, h2361, h2364, h2369, h2371, h2378, h2380, h2387, h2389, h2394, h2397, h2402, h2405, h2412, h2415, h2418, h2422, h2425, h2428, h2430, h2433, h2438, h2440, h2441, h2444, h2449, h2451, h2452, h2455, h2459, h2461, h2464, h2468, h2470]
                      repeat with_reducible refine ⟨by first | kernel_rfl | decide, ?_⟩
                      refine Wp_callP (c17 N  _ h2472) (by kernel_rfl) rfl rfl rfl rfl (by decide) ?_
                      have hh := getB_some h; clear h; obtain ⟨b2474, h2473, h⟩ := hh
                      refine W_sound tab_ok mixed 5 _ _ _ ?_
                      simp -implicitDefEqProofs only [go_sem, qa, qb, qc, qd, qe, qf, qg, qh, qi, qj, qk, ↓reduceIte, h2355, h2358, h2361, h2364, h2369, h2371, h2378, h2380, h2387, h2389, h2394, h2397, h2402, h2405, h2412, h2415, h2418, h2422, h2425, h2428, h2430, h2433, h2438, h2440, h2441, h2444, h2449, h2451, h2452, h2455, h2459, h2461, h2464, h2468, h2470, h2473]
                      repeat with_reducible refine ⟨by first | kernel_rfl | decide, ?_⟩
                      obtain rfl := Option.some.inj h
                      exact finC [(8, .v (.bool b2474))] [(8, .v (.bool b2474))] (by simp [leE, lk_cons]) (.cons _ _ _ _ _ (.v _ _ (.refl _)) .nil) (by rfl) (by simp [leE, lk_cons]) (by decide) (by decide) rfl (by simp only [go_sem, qa, qb, qc, qd, qe, qf, qg, qh, qi, qj, qk, ↓reduceIte, resQ_tmp, resQ_cell, resQ_nil, retD_one, retD_two, retD_three, retD_none]; try simp [R.val, retD_one, retD_two, retD_three, retD_none])
                    · refine W_sound tab_ok mixed 9 _ _ _ ?_
                      simp -implicitDefEqProofs only [go_sem, qa, qb, qc, qd, qe, qf, qg, qh, qi, qj, qk, ↓reduceIte, h2355, h2358, h2361, h2364, h2369, h2371, h2378, h2380, h2387, h2389, h2394, h2397, h2402, h2405, h2412, h2415, h2418, h2422, h2425, h2428, h2430, h2433, h2438, h2440, h2441, h2444, h2449, h2451, h2452, h2455, h2459, h2461, h2464, h2468, h2470]
                      repeat with_reducible refine ⟨by first | kernel_rfl | decide, ?_⟩
                      obtain rfl := Option.some.inj h
                      exact finC [(8, .v (.bool false))] [(8, .v (.bool false))] (by simp [leE, lk_cons]) (.cons _ _ _ _ _ (.v _ _ (.refl _)) .nil) (by rfl) (by simp [leE, lk_cons]) (by decide) (by decide) rfl (by simp only [go_sem, qa, qb, qc, qd, qe, qf, qg, qh, qi, qj, qk, ↓reduceIte, resQ_tmp, resQ_cell, resQ_nil, retD_one, retD_two, retD_three, retD_none]; try simp [R.val, retD_one, retD_two, retD_three, retD_none])
                  · refine W_sound tab_ok mixed 22 _ _ _ ?_
                    simp -implicitDefEqProofs only [go_sem, qa, qb, qc, qd, qe, qf, qg, qh, qi, qj, qk, ↓reduceIte, h2355, h2358, h2361, h2364, h2369, h2371, h2378, h2380, h2387, h2389, h2394, h2397, h2402, h2405, h2412, h2415, h2418, h2422, h2425, h2428, h2430, h2433, h2438, h2440, h2441, h2444, h2449, h2451, h2452, h2455, h2459, h2461]
                    repeat with_reducible refine ⟨by first | kernel_rfl | decide, ?_⟩
                    obtain rfl := Option.some.inj h
                    exact finC [(8, .v (.bool false))] [(8, .v (.bool false))] (by simp [leE, lk_cons]) (.cons _ _ _ _ _ (.v _ _ (.refl _)) .nil) (by rfl) (by simp [leE, lk_cons]) (by decide) (by decide) rfl (by simp only [go_sem, qa, qb, qc, qd, qe, qf, qg, qh, qi, qj, qk, ↓reduceIte, resQ_tmp, resQ_cell, resQ_nil, retD_one, retD_two, retD_three, retD_none]; try simp [R.val, retD_one, retD_two, retD_three, retD_none])
                · refine W_sound tab_ok mixed 35 _ _ _ ?_
                  simp -implicitDefEqProofs only [go_sem, qa, qb, qc, qd, qe, qf, qg, qh, qi, qj, qk, ↓reduceIte, h2355, h2358, h2361, h2364, h2369, h2371, h2378, h2380, h2387, h2389, h2394, h2397, h2402, h2405, h2412, h2415, h2418, h2422, h2425, h2428, h2430, h2433, h2438, h2440, h2441, h2444, h2449, h2451, h2452]
                  repeat with_reducible refine ⟨by first | kernel_rfl | decide, ?_⟩
                  obtain rfl := Option.some.inj h
                  exact finC [(8, .v (.bool false))] [(8, .v (.bool false))] (by simp [leE, lk_cons]) (.cons _ _ _ _ _ (.v _ _ (.refl _)) .nil) (by rfl) (by simp [leE, lk_cons]) (by decide) (by decide) rfl (by simp only [go_sem, qa, qb, qc, qd, qe, qf, qg, qh, qi, qj, qk, ↓reduceIte, resQ_tmp, resQ_cell, resQ_nil, retD_one, retD_two, retD_three, retD_none]; try simp [R.val, retD_one, retD_two, retD_three, retD_none])
              · refine W_sound tab_ok mixed 35 _ _ _ ?_
                simp -implicitDefEqProofs only [go_sem, qa, qb, qc, qd, qe, qf, qg, qh, qi, qj, qk, ↓reduceIte, h2355, h2358, h2361, h2364, h2369, h2371, h2378, h2380, h2387, h2389, h2394, h2397, h2402, h2405, h2412, h2415, h2418, h2422, h2425, h2428, h2430, h2433, h2438, h2440, h2441, h2444, h2449, h2451]
                repeat with_reducible refine ⟨by first | kernel_rfl | decide, ?_⟩
                obtain rfl := Option.some.inj h
                exact finC [(8, .v (.bool false))] [(8, .v (.bool false))] (by simp [leE, lk_cons]) (.cons _ _ _ _ _ (.v _ _ (.refl _)) .nil) (by rfl) (by simp [leE, lk_cons]) (by decide) (by decide) rfl (by simp only [go_sem, qa, qb, qc, qd, qe, qf, qg, qh, qi, qj, qk, ↓reduceIte, resQ_tmp, resQ_cell, resQ_nil, retD_one, retD_two, retD_three, retD_none]; try simp [R.val, retD_one, retD_two, retD_three, retD_none])
            · refine W_sound tab_ok mixed 41 _ _ _ ?_
              simp -implicitDefEqProofs only [go_sem, qa, qb, qc, qd, qe, qf, qg, qh, qi, qj, qk, ↓reduceIte, h2355, h2358, h2361, h2364, h2369, h2371, h2378, h2380, h2387, h2389, h2394, h2397, h2402, h2405, h2412, h2415, h2418, h2422, h2425, h2428, h2430, h2433, h2438, h2440]
              repeat with_reducible refine ⟨by first | kernel_rfl | decide, ?_⟩
              obtain rfl := Option.some.inj h
              exact finC [(8, .v (.bool false))] [(8, .v (.bool false))] (by simp [leE, lk_cons]) (.cons _ _ _ _ _ (.v _ _ (.refl _)) .nil) (by rfl) (by simp [leE, lk_cons]) (by decide) (by decide) rfl (by simp only [go_sem, qa, qb, qc, qd, qe, qf, qg, qh, qi, qj, qk, ↓reduceIte, resQ_tmp, resQ_cell, resQ_nil, retD_one, retD_two, retD_three, retD_none]; try simp [R.val, retD_one, retD_two, retD_three, retD_none])
end Go.Proofs.Yteidcinajdehkaa
