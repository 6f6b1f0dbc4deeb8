/-
  Models and laws.
-/
import Derived.Test.YteidcinajdehkaaQFCstA
import Derived.Test.YteidcinajdehkaaQFV42
set_option linter.unusedSimpArgs false
set_option linter.unusedVariables false
namespace Go.Proofs.Yteidcinajdehkaa
open Go.V
set_option maxRecDepth 100000
set_option maxHeartbeats 4000000
set_option linter.unusedSimpArgs false
set_option linter.unusedVariables false
attribute [local go_sem] tl1 tl2 tl3 tl4 tl5 tl9 tl17 tl21 tl22 tl23 tl24 tl25 tl26 tl27 tl28 tl29 tl30 tl32 tl33 tl35 tl36 tl37 tl38 tl39 tl40 tl41 tl42 tl43 tl44 tl46 tl48 tl50 tl51 tl52 tl53 tl54 tl56 tl58 tl59 tl60 tl61 tl62 tl63 tl64 tl65 tl66 tl67 tl68 tl69 tl70 tl72 tl74 tl75 tl76 tl77 tl78 tl79 tl80 tl81 tl82 tl83 tl84 tl85 tl86 tl87 tl88 tl89 tl90 tl91 tl92 tl93 tl94 tl95 tl96 tl97 tl98 tl99 tl100 tl101 tl102 tl103 tl104 tl105 tl106 tl107 tl108 tl109 tl110 tl111 tl112 tl113 tl114 tl115 tl116 tl117 tl118 tl119 tl120 tl121 tl122 tl128 tl129 tl133 ne_eq not_false_eq_true Int.le_refl Nat.le_refl Int.cast_ofNat_Int
noncomputable def m60 (N : Nat) (c1094 : List PV) (p1095 : PV) : Option ((Nat × Nat × List PV)) :=
 getL p1095 fun n1097 c1098 =>
 grd (0 ≤ (IntKind.i64.wrap (1 * ((n1097 : Nat) : Int))) ∧ (IntKind.i64.wrap (1 * ((n1097 : Nat) : Int))) ≤ (IntKind.i64.wrap (1 * ((n1097 : Nat) : Int))) ∧ (IntKind.i64.wrap (1 * ((n1097 : Nat) : Int))) ≤ 1099511627776) <|
 grd (0 ≤ (IntKind.i64.wrap (0 * ((n1097 : Nat) : Int))) ∧ (IntKind.i64.wrap (0 * ((n1097 : Nat) : Int))) ≤ (IntKind.i64.wrap (1 * ((n1097 : Nat) : Int))) ∧ (IntKind.i64.wrap (1 * ((n1097 : Nat) : Int))) ≤ (((Int.toNat (IntKind.i64.wrap (1 * ((n1097 : Nat) : Int)))) : Nat) : Int)) <|
 some ((Int.toNat (IntKind.i64.wrap (0 * ((n1097 : Nat) : Int)))), (Int.toNat ((IntKind.i64.wrap (1 * ((n1097 : Nat) : Int))) - (IntKind.i64.wrap (0 * ((n1097 : Nat) : Int))))), (List.replicate (Int.toNat (IntKind.i64.wrap (1 * ((n1097 : Nat) : Int)))) (.int .i64 0)))
theorem c60 (N : Nat) (c1094 : List PV) (p1095 : PV) (r : (Nat × Nat × List PV))  (h : m60 N c1094 p1095 = some r) : V.Fn Try.prog 60 0 [.v (.agg [(.lst false 1 c1094), p1095])] [] (fun d ob' => match (generalizing := false) r with | (n1105, n1106, c1107) => d = .sl false 0 0 1 1 ∧ ob' = [(0, .r [.sl true 1 n1105 n1106 1]), (1, .p c1107)]) := by
 unfold m60 at h
 refine Fn_of (sz := 40) tab_ok [0, 1, 2, 3, 4, 5, 6, 18, 19, 20] [.tmp 2] Try.func60 rfl rfl rfl (by simp) ?_
 simp only [initSt, initEnv, List.getD_cons_zero, List.getD_cons_succ, List.getD_nil]
 replace h := getL_some h; obtain ⟨n1097, c1098, h1096, h⟩ := h
 replace h := grd_some h; obtain ⟨⟨g1099, g1100, g1101⟩, h⟩ := h
 refine W_sound tab_ok mixed 34 _ _ _ ?_
 simp -implicitDefEqProofs only [go_sem, Nat.reduceBEq, Nat.reduceAdd, Nat.reduceLT, Nat.reduceLeDiff, ↓reduceIte, h1096, g1099, g1100, g1101]
 repeat with_reducible refine And.intro (by first | kernel_rfl | decide) ?_
 refine Wp_block ?_
 refine Wp_loopL (WpL_step ?_)
 replace h := grd_some h; obtain ⟨⟨g1102, g1103, g1104⟩, h⟩ := h
 refine W_sound tab_ok mixed 38 _ _ _ ?_
 simp -implicitDefEqProofs only [go_sem, Nat.reduceBEq, Nat.reduceAdd, Nat.reduceLT, Nat.reduceLeDiff, Int.reduceLE, Int.reduceLT, Int.reduceToNat, ↓reduceIte, Int.reduceAdd, g1100, g1102, g1103, g1104]
 repeat with_reducible refine And.intro (by first | kernel_rfl | decide) ?_
 refine again (Wk_keep (st' := ⟨[], [(0, .dead), (1, .dead), (2, .dead), (3, .v (.int .i64 ((n1097 : Nat) : Int))), (4, .sl false 0 0 (Int.toNat (IntKind.i64.wrap (1 * ((n1097 : Nat) : Int)))) 1), (5, .sl false 1 0 1 1), (6, .dead), (18, .v (.int .i64 1)), (19, .v (.int .i64 1)), (20, .dead)], [(0, .p (List.replicate (Int.toNat (IntKind.i64.wrap (1 * ((n1097 : Nat) : Int)))) (.int .i64 0))), (1, .r [.sl true 0 (Int.toNat (IntKind.i64.wrap (0 * ((n1097 : Nat) : Int)))) (Int.toNat ((IntKind.i64.wrap (1 * ((n1097 : Nat) : Int))) - (IntKind.i64.wrap (0 * ((n1097 : Nat) : Int))))) 1])], 2, []⟩) [3, 4, 5, 18, 19] (by kernel_rfl)) ?_
 refine W_sound tab_ok mixed 14 _ _ _ ?_
 simp -implicitDefEqProofs only [go_sem, Nat.reduceBEq, Nat.reduceLT, Int.reduceLE, Int.reduceLT, Int.reduceToNat, ↓reduceIte]
 repeat with_reducible refine And.intro (by first | kernel_rfl | decide) ?_
 obtain rfl := Option.some.inj h
 exact finD (st' := ⟨[], [(0, .dead), (1, .dead), (2, .sl false 0 0 1 1), (3, .dead), (4, .dead), (5, .dead), (6, .dead), (18, .dead), (19, .dead), (20, .dead)], [(0, .r [.sl true 1 (Int.toNat (IntKind.i64.wrap (0 * ((n1097 : Nat) : Int)))) (Int.toNat ((IntKind.i64.wrap (1 * ((n1097 : Nat) : Int))) - (IntKind.i64.wrap (0 * ((n1097 : Nat) : Int))))) 1]), (1, .p (List.replicate (Int.toNat (IntKind.i64.wrap (1 * ((n1097 : Nat) : Int)))) (.int .i64 0)))], 2, []⟩) (keepE_le [2] _) (OLe.refl _) (by kernel_rfl) (by simp only [go_sem, Nat.reduceBEq, resQ_tmp, resQ_nil, retD_one] <;> first | rfl | exact ⟨rfl, rfl⟩ | (try simp [R.val, retD_one, retD_two, retD_three, retD_none]))
theorem c60_a (N : Nat) (c1094 : List PV) (p1095 : PV) (n1105 : Nat) (n1106 : Nat) (c1107 : List PV) (h : m60 N c1094 p1095 = some (n1105, n1106, c1107)) : V.Fn Try.prog 60 0 [.v (.agg [(.lst false 1 c1094), p1095])] [] (fun d ob' => d = .sl false 0 0 1 1 ∧ ob' = [(0, .r [.sl true 1 n1105 n1106 1]), (1, .p c1107)]) := c60 N c1094 p1095 _ h
noncomputable def m95_L0 (N : Nat) (n1158 : Nat) (n1159 : Nat) (n1165 : Nat) (c1166 : List PV) : Nat → Int → Int → List PV → Option (List PV)
 | 0, _, _, _ => none
 | n + 1, x1180, x1181, c1182 =>
  brn (decide (x1181 ≥ 0)) (
   grd (0 ≤ x1181 ∧ x1181 < ((n1165 : Nat) : Int)) <|
   grd (0 < List.length (List.drop (Int.toNat x1181) c1166)) <|
   getI .i64 (gp c1166 (Int.toNat x1181)) fun x1188 =>
   grd (x1181 < ((n1159 : Nat) : Int)) <|
   grd (((n1158 + (Int.toNat x1181)) + 1) ≤ List.length c1182) <|
   grd ((n1158 + (Int.toNat x1181)) < List.length c1182) <|
   getI .i64 (gp (List.set c1182 (n1158 + (Int.toNat x1181)) (.int .i64 (minI x1180 x1188))) (n1158 + (Int.toNat x1181))) fun x1193 =>
   m95_L0 N n1158 n1159 n1165 c1166 n (IntKind.i64.wrap (x1180 - x1193)) (IntKind.i64.wrap (x1181 - 1)) (List.set c1182 (n1158 + (Int.toNat x1181)) (.int .i64 (minI x1180 x1188)))) (
   some c1182)
noncomputable def m95 (N : Nat) (n1158 : Nat) (n1159 : Nat) (p1160 : PV) (x1161 : Int) (c1162 : List PV) : Option ((PV × List PV)) :=
 getL p1160 fun n1165 c1166 =>
 bnd' (m95_L0 N n1158 n1159 n1165 c1166 N x1161 (IntKind.i64.wrap (((n1159 : Nat) : Int) - 1)) c1162) fun c1194 =>
 some ((.tup []), c1194)
theorem c95 (N : Nat) (n1158 : Nat) (n1159 : Nat) (p1160 : PV) (x1161 : Int) (c1162 : List PV) (r : PV) (c1196 : List PV) (h : m95 N n1158 n1159 p1160 x1161 c1162 = some (r, c1196)) : V.Fn Try.prog 95 1 [.sl true 0 n1158 n1159 1, .v p1160, .v (.int .i64 x1161)] [(0, .p c1162)] (fun d ob' => d = .v r ∧ ob' = [(0, .p c1196)]) := by
 unfold m95 at h
 refine Fn_of (sz := 29) tab_ok [0, 1, 2, 6, 11] [] Try.func95 rfl rfl rfl (by simp) ?_
 simp only [initSt, initEnv, List.getD_cons_zero, List.getD_cons_succ, List.getD_nil]
 replace h := getL_some h; obtain ⟨n1165, c1166, h1164, h⟩ := h
 refine W_sound tab_ok mixed 7 _ _ _ ?_
 simp -implicitDefEqProofs only [go_sem, Nat.reduceBEq, Nat.reduceLT, Int.reduceLE, Int.reduceToNat, ↓reduceIte, h1164]
 repeat with_reducible refine And.intro (by first | kernel_rfl | decide) ?_
 replace h := bnd'_some h; obtain ⟨o1197, h1198, h1199⟩ := h
 refine Wp_cut (fun s => ∃ c1194, c1194 = o1197 ∧ s = ⟨[], [(0, .dead), (1, .dead), (2, .dead), (6, .dead), (11, .dead)], [(0, .p c1194)], 1, []⟩) ?_ ?_
 ·refine Wp_block ?_
  refine Wp_loopG (fun n s => ∃ x1180, ∃ x1181, ∃ c1182, m95_L0 N n1158 n1159 n1165 c1166 n x1180 x1181 c1182 = some o1197 ∧ s = ⟨[], [(0, .sl true 0 n1158 n1159 1), (1, .v (.lst false n1165 c1166)), (2, .v (.int .i64 x1180)), (6, .v (.int .i64 x1181)), (11, .dead)], [(0, .p c1182)], 1, []⟩) N _ ?_ ⟨_, _, _, h1198, rfl⟩ ?_
  ·exact Wk_keep [0, 1, 2, 6] (by kernel_rfl)
  clear h1198
  rintro n _ ⟨x1180, x1181, c1182, h1198, rfl⟩
  cases n with
  | zero => cases h1198
  | succ n =>
   rw [m95_L0] at h1198
   replace h1198 := brn_some h1198; rcases h1198 with ⟨h1183, h1198⟩ | ⟨h1183, h1198⟩
   ·replace h1198 := grd_some h1198; obtain ⟨⟨g1184, g1185⟩, h1198⟩ := h1198
    replace h1198 := grd_some h1198; obtain ⟨g1186, h1198⟩ := h1198
    replace h1198 := getI_some h1198; obtain ⟨x1188, h1187, h1198⟩ := h1198
    replace h1198 := grd_some h1198; obtain ⟨g1189, h1198⟩ := h1198
    replace h1198 := grd_some h1198; obtain ⟨g1190, h1198⟩ := h1198
    replace h1198 := grd_some h1198; obtain ⟨g1191, h1198⟩ := h1198
    replace h1198 := getI_some h1198; obtain ⟨x1193, h1192, h1198⟩ := h1198
    refine W_sound tab_ok mixed 38 _ _ _ ?_
    simp -implicitDefEqProofs only [go_sem, Nat.reduceBEq, Nat.reduceLT, Int.reduceLE, Int.reduceToNat, ↓reduceIte, g1184, g1185, g1186, h1187, g1189, g1190, g1191, h1192]
    repeat with_reducible refine And.intro (by first | kernel_rfl | decide) ?_
    refine cutQ _ ?_ ⟨n, Nat.lt_succ_self n, _, _, _, h1198, rfl⟩
    exact Wk_keep [0, 1, 2, 6] (by kernel_rfl)
   ·refine W_sound tab_ok mixed 8 _ _ _ ?_
    simp -implicitDefEqProofs only [go_sem, Nat.reduceBEq, Nat.reduceLT, ↓reduceIte, h1183]
    repeat with_reducible refine And.intro (by first | kernel_rfl | decide) ?_
    obtain rfl := Option.some.inj h1198
    refine cutQ _ ?_ ⟨_, rfl, rfl⟩
    exact Wk_keep [] (by kernel_rfl)
 ·rintro _ ⟨c1194, rfl, rfl⟩
  refine W_sound tab_ok mixed 1 _ _ _ ?_
  simp -implicitDefEqProofs only [go_sem]
  repeat with_reducible refine And.intro (by first | kernel_rfl | decide) ?_
  simp only [Option.some.injEq, Prod.mk.injEq] at h1199; obtain ⟨rfl, rfl⟩ := h1199
  exact finD (st' := ⟨[], [(0, .dead), (1, .dead), (2, .dead), (6, .dead), (11, .dead)], [(0, .p c1194)], 1, []⟩) (keepE_le [] _) (OLe.refl _) (by kernel_rfl) (by simp only [go_sem, resQ_nil, retD_none]; (try simp [R.val, retD_one, retD_two, retD_three, retD_none]); try assumption)
noncomputable def m75 (N : Nat) (n1211 : Nat) (n1212 : Nat) (c1213 : List PV) (x1214 : Int) : Option ((PV × Int)) :=
 some ((.tup []), (IntKind.i64.wrap (x1214 + 1)))
theorem c75 (N : Nat) (n1211 : Nat) (n1212 : Nat) (c1213 : List PV) (x1214 : Int) (r : PV) (x1216 : Int) (h : m75 N n1211 n1212 c1213 x1214 = some (r, x1216)) : V.Fn Try.prog 75 3 [.sl false 0 0 1 1, .ptr 2 0] [(0, .r [.sl true 1 n1211 n1212 1]), (1, .p c1213), (2, .p [(.int .i64 x1214)])] (fun d ob' => d = .v r ∧ ob' = [(0, .r [.sl true 1 n1211 n1212 1]), (1, .p c1213), (2, .p [(.int .i64 x1216)])]) := by
 unfold m75 at h
 refine Fn_of (sz := 5) tab_ok [0, 1] [] Try.func75 rfl rfl rfl (by simp) ?_
 simp only [initSt, initEnv, List.getD_cons_zero, List.getD_cons_succ]
 refine W_sound tab_ok mixed 6 _ _ _ ?_
 simp -implicitDefEqProofs only [go_sem, Nat.reduceBEq, Nat.reduceLT, Int.reduceLE, Int.reduceToNat, ↓reduceIte]
 repeat with_reducible refine And.intro (by first | kernel_rfl | decide) ?_
 simp only [Option.some.injEq, Prod.mk.injEq] at h; obtain ⟨rfl, rfl⟩ := h
 exact finD (st' := ⟨[], [(0, .dead), (1, .dead)], [(0, .r [.sl true 1 n1211 n1212 1]), (1, .p c1213), (2, .p [(.int .i64 (IntKind.i64.wrap (x1214 + 1)))])], 3, []⟩) (keepE_le [] _) (OLe.refl _) (by kernel_rfl) (by simp only [go_sem, resQ_nil, retD_none]; (try simp [R.val, retD_one, retD_two, retD_three, retD_none]); try assumption)
noncomputable def m96_L0 (N : Nat) (n1260 : Nat) (n1261 : Nat) (c1263 : List PV) (n1266 : Nat) (c1267 : List PV) : Nat → Int → Int → Option (((PV × List PV) ⊕ Unit))
 | 0, _, _ => none
 | n + 1, x1268, x1269 =>
  brn (decide (x1269 ≥ 0)) (
   brn (decide (x1268 > 0)) (
    grd (0 ≤ x1269 ∧ x1269 < ((n1261 : Nat) : Int)) <|
    grd ((n1260 + (Int.toNat x1269)) < List.length c1263) <|
    getI .i64 (gp c1263 (n1260 + (Int.toNat x1269))) fun x1276 =>
    grd (x1269 < ((n1266 : Nat) : Int)) <|
    grd (0 < List.length (List.drop (Int.toNat x1269) c1267)) <|
    getI .i64 (gp c1267 (Int.toNat x1269)) fun x1280 =>
    brn (decide (x1276 < x1280)) (
     grd (((n1260 + (Int.toNat x1269)) + 1) ≤ List.length c1263) <|
     grd (0 ≤ (IntKind.i64.wrap (x1269 + 1)) ∧ (IntKind.i64.wrap (x1269 + 1)) ≤ ((n1261 : Nat) : Int)) <|
     grd ((IntKind.i64.wrap (x1269 + 1)) ≤ ((n1266 : Nat) : Int)) <|
     grd (List.length c1267 = n1266) <|
     bnd' (m95 N (n1260 + (Int.toNat (IntKind.i64.wrap (x1269 + 1)))) (Int.toNat (((n1261 : Nat) : Int) - (IntKind.i64.wrap (x1269 + 1)))) (.lst false (Int.toNat (((n1266 : Nat) : Int) - (IntKind.i64.wrap (x1269 + 1)))) (List.drop (Int.toNat (IntKind.i64.wrap (x1269 + 1))) c1267)) (IntKind.i64.wrap (x1268 - 1)) (List.set c1263 (n1260 + (Int.toNat x1269)) (.int .i64 (IntKind.i64.wrap (x1276 + 1))))) fun (p1287, c1289) =>
     getT0 p1287 <|
     some (.inl ((.bool true), c1289))) (
     m96_L0 N n1260 n1261 c1263 n1266 c1267 n (IntKind.i64.wrap (x1268 + x1276)) (IntKind.i64.wrap (x1269 - 1)))) (
    grd (0 ≤ x1269 ∧ x1269 < ((n1261 : Nat) : Int)) <|
    grd ((n1260 + (Int.toNat x1269)) < List.length c1263) <|
    getI .i64 (gp c1263 (n1260 + (Int.toNat x1269))) fun x1295 =>
    m96_L0 N n1260 n1261 c1263 n1266 c1267 n (IntKind.i64.wrap (x1268 + x1295)) (IntKind.i64.wrap (x1269 - 1)))) (
   some (.inr ()))
noncomputable def m96 (N : Nat) (n1260 : Nat) (n1261 : Nat) (p1262 : PV) (c1263 : List PV) : Option ((PV × List PV)) :=
 getL p1262 fun n1266 c1267 =>
 bnd' (m96_L0 N n1260 n1261 c1263 n1266 c1267 N 0 (IntKind.i64.wrap (((n1261 : Nat) : Int) - 1))) fun o =>
 match o with
 | .inl p1296 =>
  some p1296
 | .inr () =>
  some ((.bool false), c1263)
theorem c96 (N : Nat) (n1260 : Nat) (n1261 : Nat) (p1262 : PV) (c1263 : List PV) (r : PV) (c1298 : List PV) (h : m96 N n1260 n1261 p1262 c1263 = some (r, c1298)) : V.Fn Try.prog 96 1 [.sl true 0 n1260 n1261 1, .v p1262] [(0, .p c1263)] (fun d ob' => d = .v r ∧ ob' = [(0, .p c1298)]) := by
 unfold m96 at h
 refine Fn_of (sz := 50) tab_ok [0, 1, 4, 5, 6, 11, 26] [.tmp 4] Try.func96 rfl rfl rfl (by simp) ?_
 simp only [initSt, initEnv, List.getD_cons_zero, List.getD_cons_succ, List.getD_nil]
 replace h := getL_some h; obtain ⟨n1266, c1267, h1265, h⟩ := h
 refine W_sound tab_ok mixed 16 _ _ _ ?_
 simp -implicitDefEqProofs only [go_sem, Nat.reduceBEq, Nat.reduceLT, Int.reduceLE, Int.reduceToNat, ↓reduceIte, h1265]
 repeat with_reducible refine And.intro (by first | kernel_rfl | decide) ?_
 replace h := bnd'_some h; obtain ⟨o1299, h1300, h1301⟩ := h
 refine Wp_cut (fun s => (.inr ()) = o1299 ∧ s = ⟨[], [(0, .dead), (1, .dead), (4, .dead), (5, .dead), (6, .dead), (11, .dead), (26, .dead)], [(0, .p c1263)], 1, []⟩) ?_ ?_
 ·refine Wp_block ?_
  refine Wp_loopG (fun n s => ∃ x1268, ∃ x1269, m96_L0 N n1260 n1261 c1263 n1266 c1267 n x1268 x1269 = some o1299 ∧ s = ⟨[], [(0, .sl true 0 n1260 n1261 1), (1, .v (.lst false n1266 c1267)), (4, .dead), (5, .v (.int .i64 x1268)), (6, .v (.int .i64 x1269)), (11, .dead), (26, .dead)], [(0, .p c1263)], 1, []⟩) N _ ?_ ⟨_, _, h1300, rfl⟩ ?_
  ·exact Wk_keep [0, 1, 5, 6] (by kernel_rfl)
  clear h1300
  rintro n _ ⟨x1268, x1269, h1300, rfl⟩
  cases n with
  | zero => cases h1300
  | succ n =>
   rw [m96_L0] at h1300
   replace h1300 := brn_some h1300; rcases h1300 with ⟨h1270, h1300⟩ | ⟨h1270, h1300⟩
   ·replace h1300 := brn_some h1300; rcases h1300 with ⟨h1271, h1300⟩ | ⟨h1271, h1300⟩
    ·replace h1300 := grd_some h1300; obtain ⟨⟨g1272, g1273⟩, h1300⟩ := h1300
     replace h1300 := grd_some h1300; obtain ⟨g1274, h1300⟩ := h1300
     replace h1300 := getI_some h1300; obtain ⟨x1276, h1275, h1300⟩ := h1300
     replace h1300 := grd_some h1300; obtain ⟨g1277, h1300⟩ := h1300
     replace h1300 := grd_some h1300; obtain ⟨g1278, h1300⟩ := h1300
     replace h1300 := getI_some h1300; obtain ⟨x1280, h1279, h1300⟩ := h1300
     replace h1300 := brn_some h1300; rcases h1300 with ⟨h1281, h1300⟩ | ⟨h1281, h1300⟩
     ·replace h1300 := grd_some h1300; obtain ⟨g1282, h1300⟩ := h1300
      replace h1300 := grd_some h1300; obtain ⟨⟨g1283, g1284⟩, h1300⟩ := h1300
      replace h1300 := grd_some h1300; obtain ⟨g1285, h1300⟩ := h1300
      replace h1300 := grd_some h1300; obtain ⟨g1286, h1300⟩ := h1300
      replace h1300 := bnd'_some h1300; obtain ⟨⟨p1287, c1289⟩, h1288, h1300⟩ := h1300
      (try dsimp only at h1300)
      refine W_sound tab_ok mixed 50 _ _ _ ?_
      simp -implicitDefEqProofs only [go_sem, Nat.reduceBEq, Nat.reduceLT, Int.reduceLE, Int.reduceToNat, ↓reduceIte, h1271, g1272, g1273, g1274, h1275, g1277, g1278, h1279, h1281, g1282, g1283, g1284, g1285, g1286]
      repeat with_reducible refine And.intro (by first | kernel_rfl | decide) ?_
      refine Wp_callD [0] (c95 N _ _ _ _ _ _ _ h1288) rfl rfl rfl (by first | rfl | (simp only [go_sem, Nat.reduceBEq, Nat.reduceAdd, Nat.reduceSub, Nat.reduceMul, Nat.reduceLT, Nat.reduceLeDiff, Int.reduceLE, Int.reduceLT, Int.reduceToNat, Int.reduceBEq, Int.reduceBNe, ↓reduceIte, h1265, h1270, h1271, g1272, g1273, g1274, h1275, g1277, g1278, h1279, h1281, g1282, g1283, g1284, g1285, g1286] <;> rfl)) rfl (by kernel_rfl) ?_
      replace h1300 := getT0_some h1300; obtain ⟨h1290, h1300⟩ := h1300
      refine W_sound tab_ok mixed 7 _ _ _ ?_
      simp -implicitDefEqProofs only [go_sem, Nat.reduceBEq, Nat.reduceAdd, Nat.reduceSub, Nat.reduceMul, Nat.reduceLT, h1290]
      repeat with_reducible refine And.intro (by first | kernel_rfl | decide) ?_
      obtain rfl := Option.some.inj h1300
      (try dsimp only at h1301)
      simp only [Option.some.injEq, Prod.mk.injEq] at h1301; obtain ⟨rfl, rfl⟩ := h1301
      exact finD (st' := ⟨[], [(0, .dead), (1, .dead), (4, .v (.bool true)), (5, .dead), (6, .dead), (11, .dead), (26, .dead)], [(0, .p c1289)], 1, []⟩) (keepE_le [4] _) (OLe.refl _) (by kernel_rfl) (by simp only [go_sem, Nat.reduceBEq, resQ_tmp, resQ_nil, retD_one]; (try simp [R.val, retD_one, retD_two, retD_three, retD_none]); try assumption)
     ·refine W_sound tab_ok mixed 44 _ _ _ ?_
      simp -implicitDefEqProofs only [go_sem, Nat.reduceBEq, Nat.reduceLT, Int.reduceLE, Int.reduceToNat, ↓reduceIte, h1271, g1272, g1273, g1274, h1275, g1277, g1278, h1279, h1281]
      repeat with_reducible refine And.intro (by first | kernel_rfl | decide) ?_
      refine cutQ _ ?_ ⟨n, Nat.lt_succ_self n, _, _, h1300, rfl⟩
      exact Wk_keep [0, 1, 5, 6] (by kernel_rfl)
    ·replace h1300 := grd_some h1300; obtain ⟨⟨g1291, g1292⟩, h1300⟩ := h1300
     replace h1300 := grd_some h1300; obtain ⟨g1293, h1300⟩ := h1300
     replace h1300 := getI_some h1300; obtain ⟨x1295, h1294, h1300⟩ := h1300
     refine W_sound tab_ok mixed 44 _ _ _ ?_
     simp -implicitDefEqProofs only [go_sem, Nat.reduceBEq, Nat.reduceLT, Int.reduceLE, Int.reduceToNat, ↓reduceIte, h1271, g1291, g1292, g1293, h1294]
     repeat with_reducible refine And.intro (by first | kernel_rfl | decide) ?_
     refine cutQ _ ?_ ⟨n, Nat.lt_succ_self n, _, _, h1300, rfl⟩
     exact Wk_keep [0, 1, 5, 6] (by kernel_rfl)
   ·refine W_sound tab_ok mixed 8 _ _ _ ?_
    simp -implicitDefEqProofs only [go_sem, Nat.reduceBEq, Nat.reduceLT, ↓reduceIte, h1270]
    repeat with_reducible refine And.intro (by first | kernel_rfl | decide) ?_
    obtain rfl := Option.some.inj h1300
    refine cutQ _ ?_ ⟨rfl, rfl⟩
    exact Wk_keep [] (by kernel_rfl)
 ·rintro _ ⟨rfl, rfl⟩
  (try dsimp only at h1301)
  refine W_sound tab_ok mixed 6 _ _ _ ?_
  simp -implicitDefEqProofs only [go_sem, Nat.reduceBEq, Nat.reduceLT]
  repeat with_reducible refine And.intro (by first | kernel_rfl | decide) ?_
  simp only [Option.some.injEq, Prod.mk.injEq] at h1301; obtain ⟨rfl, rfl⟩ := h1301
  exact finD (st' := ⟨[], [(0, .dead), (1, .dead), (4, .v (.bool false)), (5, .dead), (6, .dead), (11, .dead), (26, .dead)], [(0, .p c1263)], 1, []⟩) (keepE_le [4] _) (OLe.refl _) (by kernel_rfl) (by simp only [go_sem, Nat.reduceBEq, resQ_tmp, resQ_nil, retD_one]; (try simp [R.val, retD_one, retD_two, retD_three, retD_none]); try assumption)
noncomputable def m53_2 (N : Nat)  : Option (Nat × List PV) :=
 some (0, [])
theorem c53_2 (N : Nat)  (rn : Nat) (rc : List PV) (h : m53_2 N  = some (rn, rc)) : V.Fn Try.prog 53 0 [.v .nl] [] (fun d ob' => d = .sl false 0 0 rn 1 ∧ ob' = [(0, .p rc)]) := by
 unfold m53_2 at h
 refine Fn_of (sz := 8) tab_ok [0, 2, 4] [.tmp 2] Try.func53 rfl rfl rfl (by simp) ?_
 simp only [initSt, initEnv, List.getD_cons_zero, List.getD_cons_succ, List.getD_nil]
 refine W_sound tab_ok mixed 17 _ _ _ ?_
 simp -implicitDefEqProofs only [go_sem, Nat.reduceBEq, Nat.reduceLT]
 repeat with_reducible refine And.intro (by first | kernel_rfl | decide) ?_
 refine FinQ_wk (Wk_ownS 2 1 rfl (by decide) (by decide)) ?_
 simp -implicitDefEqProofs only [go_sem, Nat.reduceBEq]
 simp only [Option.some.injEq, Prod.mk.injEq] at h; obtain ⟨rfl, rfl⟩ := h
 exact finD (e2 := [(0, .dead), (2, .sl false 0 0 0 1), (4, .dead)]) (ob2 := [(0, .p [])]) (st' := ⟨[], [(0, .dead), (2, .sl false 0 0 0 1), (4, .dead)], [(0, .p [])], 1, []⟩) (.cons _ _ _ _ _ (.dead _) (.cons _ _ _ _ _ (.refl _) (.cons _ _ _ _ _ (.dead _) .nil))) (.cons _ _ _ _ _ (DLes.refl _) .nil) (by kernel_rfl) (by simp only [go_sem, Nat.reduceBEq, resQ_tmp, resQ_nil, retD_one]; first | done | exact ⟨rfl, rfl⟩ | (try simp [R.val, retD_one]))
noncomputable def m60_2 (N : Nat) (c1350 : List PV) (p1351 : PV) : Option ((Nat × Nat × Nat × Nat × List PV)) :=
 getL p1351 fun n1353 c1354 =>
 grd (0 ≤ (IntKind.i64.wrap (2 * ((n1353 : Nat) : Int))) ∧ (IntKind.i64.wrap (2 * ((n1353 : Nat) : Int))) ≤ (IntKind.i64.wrap (2 * ((n1353 : Nat) : Int))) ∧ (IntKind.i64.wrap (2 * ((n1353 : Nat) : Int))) ≤ 1099511627776) <|
 grd (0 ≤ (IntKind.i64.wrap (0 * ((n1353 : Nat) : Int))) ∧ (IntKind.i64.wrap (0 * ((n1353 : Nat) : Int))) ≤ (IntKind.i64.wrap (1 * ((n1353 : Nat) : Int))) ∧ (IntKind.i64.wrap (1 * ((n1353 : Nat) : Int))) ≤ (((Int.toNat (IntKind.i64.wrap (2 * ((n1353 : Nat) : Int)))) : Nat) : Int)) <|
 grd (0 ≤ (IntKind.i64.wrap (1 * ((n1353 : Nat) : Int))) ∧ (IntKind.i64.wrap (1 * ((n1353 : Nat) : Int))) ≤ (IntKind.i64.wrap (2 * ((n1353 : Nat) : Int))) ∧ (IntKind.i64.wrap (2 * ((n1353 : Nat) : Int))) ≤ (((Int.toNat (IntKind.i64.wrap (2 * ((n1353 : Nat) : Int)))) : Nat) : Int)) <|
 some ((Int.toNat (IntKind.i64.wrap (0 * ((n1353 : Nat) : Int)))), (Int.toNat ((IntKind.i64.wrap (1 * ((n1353 : Nat) : Int))) - (IntKind.i64.wrap (0 * ((n1353 : Nat) : Int))))), (Int.toNat (IntKind.i64.wrap (1 * ((n1353 : Nat) : Int)))), (Int.toNat ((IntKind.i64.wrap (2 * ((n1353 : Nat) : Int))) - (IntKind.i64.wrap (1 * ((n1353 : Nat) : Int))))), (List.replicate (Int.toNat (IntKind.i64.wrap (2 * ((n1353 : Nat) : Int)))) (.int .i64 0)))
theorem c60_2 (N : Nat) (c1350 : List PV) (p1351 : PV) (r : (Nat × Nat × Nat × Nat × List PV))  (h : m60_2 N c1350 p1351 = some r) : V.Fn Try.prog 60 0 [.v (.agg [(.lst false 2 c1350), p1351])] [] (fun d ob' => match (generalizing := false) r with | (n1364, n1365, n1366, n1367, c1368) => d = .sl false 0 0 2 1 ∧ ob' = [(0, .r [.sl true 1 n1364 n1365 1, .sl true 1 n1366 n1367 1]), (1, .p c1368)]) := by
 unfold m60_2 at h
 refine Fn_of (sz := 40) tab_ok [0, 1, 2, 3, 4, 5, 6, 18, 19, 20] [.tmp 2] Try.func60 rfl rfl rfl (by simp) ?_
 simp only [initSt, initEnv, List.getD_cons_zero, List.getD_cons_succ, List.getD_nil]
 replace h := getL_some h; obtain ⟨n1353, c1354, h1352, h⟩ := h
 replace h := grd_some h; obtain ⟨⟨g1355, g1356, g1357⟩, h⟩ := h
 refine W_sound tab_ok mixed 34 _ _ _ ?_
 simp -implicitDefEqProofs only [go_sem, Nat.reduceBEq, Nat.reduceAdd, Nat.reduceLT, Nat.reduceLeDiff, ↓reduceIte, h1352, g1355, g1356, g1357]
 repeat with_reducible refine And.intro (by first | kernel_rfl | decide) ?_
 refine Wp_block ?_
 refine Wp_loopL (WpL_step ?_)
 replace h := grd_some h; obtain ⟨⟨g1358, g1359, g1360⟩, h⟩ := h
 refine W_sound tab_ok mixed 38 _ _ _ ?_
 simp -implicitDefEqProofs only [go_sem, Nat.reduceBEq, Nat.reduceAdd, Nat.reduceLT, Nat.reduceLeDiff, Int.reduceLE, Int.reduceLT, Int.reduceToNat, ↓reduceIte, Int.reduceAdd, g1358, g1359, g1360]
 repeat with_reducible refine And.intro (by first | kernel_rfl | decide) ?_
 refine again (Wk_keep (st' := ⟨[], [(0, .dead), (1, .dead), (2, .dead), (3, .v (.int .i64 ((n1353 : Nat) : Int))), (4, .sl false 0 0 (Int.toNat (IntKind.i64.wrap (2 * ((n1353 : Nat) : Int)))) 1), (5, .sl false 1 0 1 1), (6, .dead), (18, .v (.int .i64 2)), (19, .v (.int .i64 1)), (20, .dead)], [(0, .p (List.replicate (Int.toNat (IntKind.i64.wrap (2 * ((n1353 : Nat) : Int)))) (.int .i64 0))), (1, .r [.sl true 0 (Int.toNat (IntKind.i64.wrap (0 * ((n1353 : Nat) : Int)))) (Int.toNat ((IntKind.i64.wrap (1 * ((n1353 : Nat) : Int))) - (IntKind.i64.wrap (0 * ((n1353 : Nat) : Int))))) 1])], 2, []⟩) [3, 4, 5, 18, 19] (by kernel_rfl)) ?_
 replace h := grd_some h; obtain ⟨⟨g1361, g1362, g1363⟩, h⟩ := h
 refine W_sound tab_ok mixed 38 _ _ _ ?_
 simp -implicitDefEqProofs only [go_sem, Nat.reduceBEq, Nat.reduceAdd, Nat.reduceLT, Nat.reduceLeDiff, Int.reduceLE, Int.reduceLT, Int.reduceToNat, ↓reduceIte, Int.reduceAdd, g1356, g1361, g1362, g1363]
 repeat with_reducible refine And.intro (by first | kernel_rfl | decide) ?_
 refine again (Wk_keep (st' := ⟨[], [(0, .dead), (1, .dead), (2, .dead), (3, .v (.int .i64 ((n1353 : Nat) : Int))), (4, .sl false 0 0 (Int.toNat (IntKind.i64.wrap (2 * ((n1353 : Nat) : Int)))) 1), (5, .sl false 1 0 2 1), (6, .dead), (18, .v (.int .i64 2)), (19, .v (.int .i64 2)), (20, .dead)], [(0, .p (List.replicate (Int.toNat (IntKind.i64.wrap (2 * ((n1353 : Nat) : Int)))) (.int .i64 0))), (1, .r [.sl true 0 (Int.toNat (IntKind.i64.wrap (0 * ((n1353 : Nat) : Int)))) (Int.toNat ((IntKind.i64.wrap (1 * ((n1353 : Nat) : Int))) - (IntKind.i64.wrap (0 * ((n1353 : Nat) : Int))))) 1, .sl true 0 (Int.toNat (IntKind.i64.wrap (1 * ((n1353 : Nat) : Int)))) (Int.toNat ((IntKind.i64.wrap (2 * ((n1353 : Nat) : Int))) - (IntKind.i64.wrap (1 * ((n1353 : Nat) : Int))))) 1])], 2, []⟩) [3, 4, 5, 18, 19] (by kernel_rfl)) ?_
 refine W_sound tab_ok mixed 14 _ _ _ ?_
 simp -implicitDefEqProofs only [go_sem, Nat.reduceBEq, Nat.reduceLT, Int.reduceLE, Int.reduceLT, Int.reduceToNat, ↓reduceIte]
 repeat with_reducible refine And.intro (by first | kernel_rfl | decide) ?_
 obtain rfl := Option.some.inj h
 exact finD (st' := ⟨[], [(0, .dead), (1, .dead), (2, .sl false 0 0 2 1), (3, .dead), (4, .dead), (5, .dead), (6, .dead), (18, .dead), (19, .dead), (20, .dead)], [(0, .r [.sl true 1 (Int.toNat (IntKind.i64.wrap (0 * ((n1353 : Nat) : Int)))) (Int.toNat ((IntKind.i64.wrap (1 * ((n1353 : Nat) : Int))) - (IntKind.i64.wrap (0 * ((n1353 : Nat) : Int))))) 1, .sl true 1 (Int.toNat (IntKind.i64.wrap (1 * ((n1353 : Nat) : Int)))) (Int.toNat ((IntKind.i64.wrap (2 * ((n1353 : Nat) : Int))) - (IntKind.i64.wrap (1 * ((n1353 : Nat) : Int))))) 1]), (1, .p (List.replicate (Int.toNat (IntKind.i64.wrap (2 * ((n1353 : Nat) : Int)))) (.int .i64 0)))], 2, []⟩) (keepE_le [2] _) (OLe.refl _) (by kernel_rfl) (by simp only [go_sem, Nat.reduceBEq, resQ_tmp, resQ_nil, retD_one] <;> first | rfl | exact ⟨rfl, rfl⟩ | (try simp [R.val, retD_one, retD_two, retD_three, retD_none]))
theorem c60_2_a (N : Nat) (c1350 : List PV) (p1351 : PV) (n1364 : Nat) (n1365 : Nat) (n1366 : Nat) (n1367 : Nat) (c1368 : List PV) (h : m60_2 N c1350 p1351 = some (n1364, n1365, n1366, n1367, c1368)) : V.Fn Try.prog 60 0 [.v (.agg [(.lst false 2 c1350), p1351])] [] (fun d ob' => d = .sl false 0 0 2 1 ∧ ob' = [(0, .r [.sl true 1 n1364 n1365 1, .sl true 1 n1366 n1367 1]), (1, .p c1368)]) := c60_2 N c1350 p1351 _ h
noncomputable def m75_2 (N : Nat) (n1414 : Nat) (n1415 : Nat) (n1416 : Nat) (n1417 : Nat) (c1418 : List PV) (x1419 : Int) : Option ((PV × Int)) :=
 some ((.tup []), (IntKind.i64.wrap (x1419 + 1)))
theorem c75_2 (N : Nat) (n1414 : Nat) (n1415 : Nat) (n1416 : Nat) (n1417 : Nat) (c1418 : List PV) (x1419 : Int) (r : PV) (x1421 : Int) (h : m75_2 N n1414 n1415 n1416 n1417 c1418 x1419 = some (r, x1421)) : V.Fn Try.prog 75 3 [.sl false 0 0 2 1, .ptr 2 0] [(0, .r [.sl true 1 n1414 n1415 1, .sl true 1 n1416 n1417 1]), (1, .p c1418), (2, .p [(.int .i64 x1419)])] (fun d ob' => d = .v r ∧ ob' = [(0, .r [.sl true 1 n1414 n1415 1, .sl true 1 n1416 n1417 1]), (1, .p c1418), (2, .p [(.int .i64 x1421)])]) := by
 unfold m75_2 at h
 refine Fn_of (sz := 5) tab_ok [0, 1] [] Try.func75 rfl rfl rfl (by simp) ?_
 simp only [initSt, initEnv, List.getD_cons_zero, List.getD_cons_succ]
 refine W_sound tab_ok mixed 6 _ _ _ ?_
 simp -implicitDefEqProofs only [go_sem, Nat.reduceBEq, Nat.reduceLT, Int.reduceLE, Int.reduceToNat, ↓reduceIte]
 repeat with_reducible refine And.intro (by first | kernel_rfl | decide) ?_
 simp only [Option.some.injEq, Prod.mk.injEq] at h; obtain ⟨rfl, rfl⟩ := h
 exact finD (st' := ⟨[], [(0, .dead), (1, .dead)], [(0, .r [.sl true 1 n1414 n1415 1, .sl true 1 n1416 n1417 1]), (1, .p c1418), (2, .p [(.int .i64 (IntKind.i64.wrap (x1419 + 1)))])], 3, []⟩) (keepE_le [] _) (OLe.refl _) (by kernel_rfl) (by simp only [go_sem, resQ_nil, retD_none]; (try simp [R.val, retD_one, retD_two, retD_three, retD_none]); try assumption)
noncomputable def m60_3 (N : Nat) (c1762 : List PV) (p1763 : PV) : Option ((Nat × Nat × Nat × Nat × Nat × Nat × List PV)) :=
 getL p1763 fun n1765 c1766 =>
 grd (0 ≤ (IntKind.i64.wrap (3 * ((n1765 : Nat) : Int))) ∧ (IntKind.i64.wrap (3 * ((n1765 : Nat) : Int))) ≤ (IntKind.i64.wrap (3 * ((n1765 : Nat) : Int))) ∧ (IntKind.i64.wrap (3 * ((n1765 : Nat) : Int))) ≤ 1099511627776) <|
 grd (0 ≤ (IntKind.i64.wrap (0 * ((n1765 : Nat) : Int))) ∧ (IntKind.i64.wrap (0 * ((n1765 : Nat) : Int))) ≤ (IntKind.i64.wrap (1 * ((n1765 : Nat) : Int))) ∧ (IntKind.i64.wrap (1 * ((n1765 : Nat) : Int))) ≤ (((Int.toNat (IntKind.i64.wrap (3 * ((n1765 : Nat) : Int)))) : Nat) : Int)) <|
 grd (0 ≤ (IntKind.i64.wrap (1 * ((n1765 : Nat) : Int))) ∧ (IntKind.i64.wrap (1 * ((n1765 : Nat) : Int))) ≤ (IntKind.i64.wrap (2 * ((n1765 : Nat) : Int))) ∧ (IntKind.i64.wrap (2 * ((n1765 : Nat) : Int))) ≤ (((Int.toNat (IntKind.i64.wrap (3 * ((n1765 : Nat) : Int)))) : Nat) : Int)) <|
 grd (0 ≤ (IntKind.i64.wrap (2 * ((n1765 : Nat) : Int))) ∧ (IntKind.i64.wrap (2 * ((n1765 : Nat) : Int))) ≤ (IntKind.i64.wrap (3 * ((n1765 : Nat) : Int))) ∧ (IntKind.i64.wrap (3 * ((n1765 : Nat) : Int))) ≤ (((Int.toNat (IntKind.i64.wrap (3 * ((n1765 : Nat) : Int)))) : Nat) : Int)) <|
 some ((Int.toNat (IntKind.i64.wrap (0 * ((n1765 : Nat) : Int)))), (Int.toNat ((IntKind.i64.wrap (1 * ((n1765 : Nat) : Int))) - (IntKind.i64.wrap (0 * ((n1765 : Nat) : Int))))), (Int.toNat (IntKind.i64.wrap (1 * ((n1765 : Nat) : Int)))), (Int.toNat ((IntKind.i64.wrap (2 * ((n1765 : Nat) : Int))) - (IntKind.i64.wrap (1 * ((n1765 : Nat) : Int))))), (Int.toNat (IntKind.i64.wrap (2 * ((n1765 : Nat) : Int)))), (Int.toNat ((IntKind.i64.wrap (3 * ((n1765 : Nat) : Int))) - (IntKind.i64.wrap (2 * ((n1765 : Nat) : Int))))), (List.replicate (Int.toNat (IntKind.i64.wrap (3 * ((n1765 : Nat) : Int)))) (.int .i64 0)))
theorem c60_3 (N : Nat) (c1762 : List PV) (p1763 : PV) (r : (Nat × Nat × Nat × Nat × Nat × Nat × List PV))  (h : m60_3 N c1762 p1763 = some r) : V.Fn Try.prog 60 0 [.v (.agg [(.lst false 3 c1762), p1763])] [] (fun d ob' => match (generalizing := false) r with | (n1779, n1780, n1781, n1782, n1783, n1784, c1785) => d = .sl false 0 0 3 1 ∧ ob' = [(0, .r [.sl true 1 n1779 n1780 1, .sl true 1 n1781 n1782 1, .sl true 1 n1783 n1784 1]), (1, .p c1785)]) := by
 unfold m60_3 at h
 refine Fn_of (sz := 40) tab_ok [0, 1, 2, 3, 4, 5, 6, 18, 19, 20] [.tmp 2] Try.func60 rfl rfl rfl (by simp) ?_
 simp only [initSt, initEnv, List.getD_cons_zero, List.getD_cons_succ, List.getD_nil]
 replace h := getL_some h; obtain ⟨n1765, c1766, h1764, h⟩ := h
 replace h := grd_some h; obtain ⟨⟨g1767, g1768, g1769⟩, h⟩ := h
 refine W_sound tab_ok mixed 34 _ _ _ ?_
 simp -implicitDefEqProofs only [go_sem, Nat.reduceBEq, Nat.reduceAdd, Nat.reduceLT, Nat.reduceLeDiff, ↓reduceIte, h1764, g1767, g1768, g1769]
 repeat with_reducible refine And.intro (by first | kernel_rfl | decide) ?_
 refine Wp_block ?_
 refine Wp_loopL (WpL_step ?_)
 replace h := grd_some h; obtain ⟨⟨g1770, g1771, g1772⟩, h⟩ := h
 refine W_sound tab_ok mixed 38 _ _ _ ?_
 simp -implicitDefEqProofs only [go_sem, Nat.reduceBEq, Nat.reduceAdd, Nat.reduceLT, Nat.reduceLeDiff, Int.reduceLE, Int.reduceLT, Int.reduceToNat, ↓reduceIte, Int.reduceAdd, g1770, g1771, g1772]
 repeat with_reducible refine And.intro (by first | kernel_rfl | decide) ?_
 refine again (Wk_keep (st' := ⟨[], [(0, .dead), (1, .dead), (2, .dead), (3, .v (.int .i64 ((n1765 : Nat) : Int))), (4, .sl false 0 0 (Int.toNat (IntKind.i64.wrap (3 * ((n1765 : Nat) : Int)))) 1), (5, .sl false 1 0 1 1), (6, .dead), (18, .v (.int .i64 3)), (19, .v (.int .i64 1)), (20, .dead)], [(0, .p (List.replicate (Int.toNat (IntKind.i64.wrap (3 * ((n1765 : Nat) : Int)))) (.int .i64 0))), (1, .r [.sl true 0 (Int.toNat (IntKind.i64.wrap (0 * ((n1765 : Nat) : Int)))) (Int.toNat ((IntKind.i64.wrap (1 * ((n1765 : Nat) : Int))) - (IntKind.i64.wrap (0 * ((n1765 : Nat) : Int))))) 1])], 2, []⟩) [3, 4, 5, 18, 19] (by kernel_rfl)) ?_
 replace h := grd_some h; obtain ⟨⟨g1773, g1774, g1775⟩, h⟩ := h
 refine W_sound tab_ok mixed 38 _ _ _ ?_
 simp -implicitDefEqProofs only [go_sem, Nat.reduceBEq, Nat.reduceAdd, Nat.reduceLT, Nat.reduceLeDiff, Int.reduceLE, Int.reduceLT, Int.reduceToNat, ↓reduceIte, Int.reduceAdd, g1773, g1774, g1775]
 repeat with_reducible refine And.intro (by first | kernel_rfl | decide) ?_
 refine again (Wk_keep (st' := ⟨[], [(0, .dead), (1, .dead), (2, .dead), (3, .v (.int .i64 ((n1765 : Nat) : Int))), (4, .sl false 0 0 (Int.toNat (IntKind.i64.wrap (3 * ((n1765 : Nat) : Int)))) 1), (5, .sl false 1 0 2 1), (6, .dead), (18, .v (.int .i64 3)), (19, .v (.int .i64 2)), (20, .dead)], [(0, .p (List.replicate (Int.toNat (IntKind.i64.wrap (3 * ((n1765 : Nat) : Int)))) (.int .i64 0))), (1, .r [.sl true 0 (Int.toNat (IntKind.i64.wrap (0 * ((n1765 : Nat) : Int)))) (Int.toNat ((IntKind.i64.wrap (1 * ((n1765 : Nat) : Int))) - (IntKind.i64.wrap (0 * ((n1765 : Nat) : Int))))) 1, .sl true 0 (Int.toNat (IntKind.i64.wrap (1 * ((n1765 : Nat) : Int)))) (Int.toNat ((IntKind.i64.wrap (2 * ((n1765 : Nat) : Int))) - (IntKind.i64.wrap (1 * ((n1765 : Nat) : Int))))) 1])], 2, []⟩) [3, 4, 5, 18, 19] (by kernel_rfl)) ?_
 replace h := grd_some h; obtain ⟨⟨g1776, g1777, g1778⟩, h⟩ := h
 refine W_sound tab_ok mixed 38 _ _ _ ?_
 simp -implicitDefEqProofs only [go_sem, Nat.reduceBEq, Nat.reduceAdd, Nat.reduceLT, Nat.reduceLeDiff, Int.reduceLE, Int.reduceLT, Int.reduceToNat, ↓reduceIte, Int.reduceAdd, g1768, g1776, g1777, g1778]
 repeat with_reducible refine And.intro (by first | kernel_rfl | decide) ?_
 refine again (Wk_keep (st' := ⟨[], [(0, .dead), (1, .dead), (2, .dead), (3, .v (.int .i64 ((n1765 : Nat) : Int))), (4, .sl false 0 0 (Int.toNat (IntKind.i64.wrap (3 * ((n1765 : Nat) : Int)))) 1), (5, .sl false 1 0 3 1), (6, .dead), (18, .v (.int .i64 3)), (19, .v (.int .i64 3)), (20, .dead)], [(0, .p (List.replicate (Int.toNat (IntKind.i64.wrap (3 * ((n1765 : Nat) : Int)))) (.int .i64 0))), (1, .r [.sl true 0 (Int.toNat (IntKind.i64.wrap (0 * ((n1765 : Nat) : Int)))) (Int.toNat ((IntKind.i64.wrap (1 * ((n1765 : Nat) : Int))) - (IntKind.i64.wrap (0 * ((n1765 : Nat) : Int))))) 1, .sl true 0 (Int.toNat (IntKind.i64.wrap (1 * ((n1765 : Nat) : Int)))) (Int.toNat ((IntKind.i64.wrap (2 * ((n1765 : Nat) : Int))) - (IntKind.i64.wrap (1 * ((n1765 : Nat) : Int))))) 1, .sl true 0 (Int.toNat (IntKind.i64.wrap (2 * ((n1765 : Nat) : Int)))) (Int.toNat ((IntKind.i64.wrap (3 * ((n1765 : Nat) : Int))) - (IntKind.i64.wrap (2 * ((n1765 : Nat) : Int))))) 1])], 2, []⟩) [3, 4, 5, 18, 19] (by kernel_rfl)) ?_
 refine W_sound tab_ok mixed 14 _ _ _ ?_
 simp -implicitDefEqProofs only [go_sem, Nat.reduceBEq, Nat.reduceLT, Int.reduceLE, Int.reduceLT, Int.reduceToNat, ↓reduceIte]
 repeat with_reducible refine And.intro (by first | kernel_rfl | decide) ?_
 obtain rfl := Option.some.inj h
 exact finD (st' := ⟨[], [(0, .dead), (1, .dead), (2, .sl false 0 0 3 1), (3, .dead), (4, .dead), (5, .dead), (6, .dead), (18, .dead), (19, .dead), (20, .dead)], [(0, .r [.sl true 1 (Int.toNat (IntKind.i64.wrap (0 * ((n1765 : Nat) : Int)))) (Int.toNat ((IntKind.i64.wrap (1 * ((n1765 : Nat) : Int))) - (IntKind.i64.wrap (0 * ((n1765 : Nat) : Int))))) 1, .sl true 1 (Int.toNat (IntKind.i64.wrap (1 * ((n1765 : Nat) : Int)))) (Int.toNat ((IntKind.i64.wrap (2 * ((n1765 : Nat) : Int))) - (IntKind.i64.wrap (1 * ((n1765 : Nat) : Int))))) 1, .sl true 1 (Int.toNat (IntKind.i64.wrap (2 * ((n1765 : Nat) : Int)))) (Int.toNat ((IntKind.i64.wrap (3 * ((n1765 : Nat) : Int))) - (IntKind.i64.wrap (2 * ((n1765 : Nat) : Int))))) 1]), (1, .p (List.replicate (Int.toNat (IntKind.i64.wrap (3 * ((n1765 : Nat) : Int)))) (.int .i64 0)))], 2, []⟩) (keepE_le [2] _) (OLe.refl _) (by kernel_rfl) (by simp only [go_sem, Nat.reduceBEq, resQ_tmp, resQ_nil, retD_one] <;> first | rfl | exact ⟨rfl, rfl⟩ | (try simp [R.val, retD_one, retD_two, retD_three, retD_none]))
theorem c60_3_a (N : Nat) (c1762 : List PV) (p1763 : PV) (n1779 : Nat) (n1780 : Nat) (n1781 : Nat) (n1782 : Nat) (n1783 : Nat) (n1784 : Nat) (c1785 : List PV) (h : m60_3 N c1762 p1763 = some (n1779, n1780, n1781, n1782, n1783, n1784, c1785)) : V.Fn Try.prog 60 0 [.v (.agg [(.lst false 3 c1762), p1763])] [] (fun d ob' => d = .sl false 0 0 3 1 ∧ ob' = [(0, .r [.sl true 1 n1779 n1780 1, .sl true 1 n1781 n1782 1, .sl true 1 n1783 n1784 1]), (1, .p c1785)]) := c60_3 N c1762 p1763 _ h
noncomputable def m75_3 (N : Nat) (n1831 : Nat) (n1832 : Nat) (n1833 : Nat) (n1834 : Nat) (n1835 : Nat) (n1836 : Nat) (c1837 : List PV) (x1838 : Int) : Option ((PV × Int)) :=
 some ((.tup []), (IntKind.i64.wrap (x1838 + 1)))
theorem c75_3 (N : Nat) (n1831 : Nat) (n1832 : Nat) (n1833 : Nat) (n1834 : Nat) (n1835 : Nat) (n1836 : Nat) (c1837 : List PV) (x1838 : Int) (r : PV) (x1840 : Int) (h : m75_3 N n1831 n1832 n1833 n1834 n1835 n1836 c1837 x1838 = some (r, x1840)) : V.Fn Try.prog 75 3 [.sl false 0 0 3 1, .ptr 2 0] [(0, .r [.sl true 1 n1831 n1832 1, .sl true 1 n1833 n1834 1, .sl true 1 n1835 n1836 1]), (1, .p c1837), (2, .p [(.int .i64 x1838)])] (fun d ob' => d = .v r ∧ ob' = [(0, .r [.sl true 1 n1831 n1832 1, .sl true 1 n1833 n1834 1, .sl true 1 n1835 n1836 1]), (1, .p c1837), (2, .p [(.int .i64 x1840)])]) := by
 unfold m75_3 at h
 refine Fn_of (sz := 5) tab_ok [0, 1] [] Try.func75 rfl rfl rfl (by simp) ?_
 simp only [initSt, initEnv, List.getD_cons_zero, List.getD_cons_succ]
 refine W_sound tab_ok mixed 6 _ _ _ ?_
 simp -implicitDefEqProofs only [go_sem, Nat.reduceBEq, Nat.reduceLT, Int.reduceLE, Int.reduceToNat, ↓reduceIte]
 repeat with_reducible refine And.intro (by first | kernel_rfl | decide) ?_
 simp only [Option.some.injEq, Prod.mk.injEq] at h; obtain ⟨rfl, rfl⟩ := h
 exact finD (st' := ⟨[], [(0, .dead), (1, .dead)], [(0, .r [.sl true 1 n1831 n1832 1, .sl true 1 n1833 n1834 1, .sl true 1 n1835 n1836 1]), (1, .p c1837), (2, .p [(.int .i64 (IntKind.i64.wrap (x1838 + 1)))])], 3, []⟩) (keepE_le [] _) (OLe.refl _) (by kernel_rfl) (by simp only [go_sem, resQ_nil, retD_none]; (try simp [R.val, retD_one, retD_two, retD_three, retD_none]); try assumption)
noncomputable def m72_L1 (N : Nat) (c2348 : List PV) (n2777 : Nat) (n2778 : Nat) (n2779 : Nat) (n2780 : Nat) (n2781 : Nat) (n2782 : Nat) (n2784 : Nat) (c2785 : List PV) (x2997 : Int) (p2999 : PV) (p3000 : PV) (c3001 : List PV) : Option ((Int × PV × PV × List PV)) :=
  casI x2997 0 (
   grd (0 < List.length c2348) <|
   getI .i64 (gp c2348 0) fun x3005 =>
   bnd' (m95 N n2777 n2778 (.lst false n2784 c2785) x3005 c3001) fun (p3006, c3008) =>
   getT0 p3006 <|
   some (0, p2999, p3000, c3008)) (
  casI x2997 1 (
   getL p2999 fun n3011 c3012 =>
   grd (0 < List.length (List.drop 1 c2348)) <|
   getI .i64 (gp c2348 1) fun x3015 =>
   bnd' (m95 N n2779 n2780 (.lst false n3011 c3012) x3015 c3001) fun (p3016, c3018) =>
   getT0 p3016 <|
   some (1, (.lst false n3011 c3012), p3000, c3018)) (
  casI x2997 2 (
   getL p3000 fun n3021 c3022 =>
   grd (0 < List.length (List.drop 2 c2348)) <|
   getI .i64 (gp c2348 2) fun x3025 =>
   bnd' (m95 N n2781 n2782 (.lst false n3021 c3022) x3025 c3001) fun (p3026, c3028) =>
   getT0 p3026 <|
   some (2, p2999, (.lst false n3021 c3022), c3028)) (
  none)))
noncomputable def m72_L3 (N : Nat) (c2348 : List PV) (n2350 : Nat) (c2351 : List PV) (n2777 : Nat) (n2778 : Nat) (n2779 : Nat) (n2780 : Nat) (n2781 : Nat) (n2782 : Nat) (n2784 : Nat) (c2785 : List PV) (x3175 : Int) : Nat → Int → PV → PV → List PV → Option (((Int × PV × PV × List PV) ⊕ (PV × Int)))
 | 0, _, _, _, _ => none
 | n + 1, x3203, p3204, p3205, c3206 =>
  casI x3203 0 (
   bnd' (m96 N n2777 n2778 (.lst false n2784 c2785) c3206) fun (p3208, c3210) =>
   getB p3208 fun b3212 =>
   brn b3212 (
    some (.inl (0, p3204, p3205, c3210))) (
    some (.inr ((.tup []), x3175)))) (
  casI x3203 1 (
   getL p3204 fun n3215 c3216 =>
   bnd' (m96 N n2779 n2780 (.lst false n3215 c3216) c3206) fun (p3217, c3219) =>
   getB p3217 fun b3221 =>
   brn b3221 (
    some (.inl (1, (.lst false n3215 c3216), p3205, c3219))) (
    m72_L3 N c2348 n2350 c2351 n2777 n2778 n2779 n2780 n2781 n2782 n2784 c2785 x3175 n 0 (.lst false n3215 c3216) p3205 c3219)) (
  casI x3203 2 (
   getL p3205 fun n3224 c3225 =>
   bnd' (m96 N n2781 n2782 (.lst false n3224 c3225) c3206) fun (p3226, c3228) =>
   getB p3226 fun b3230 =>
   brn b3230 (
    some (.inl (2, p3204, (.lst false n3224 c3225), c3228))) (
    m72_L3 N c2348 n2350 c2351 n2777 n2778 n2779 n2780 n2781 n2782 n2784 c2785 x3175 n 1 p3204 (.lst false n3224 c3225) c3228)) (
  none)))
noncomputable def m72_L4 (N : Nat) (c2348 : List PV) (n2350 : Nat) (c2351 : List PV) (n2777 : Nat) (n2778 : Nat) (n2779 : Nat) (n2780 : Nat) (n2781 : Nat) (n2782 : Nat) (n2784 : Nat) (c2785 : List PV) (x3168 : Int) (c3171 : List PV) (n3269 : Nat) (c3270 : List PV) (n3271 : Nat) : Nat → Int → List PV → Option (List PV)
 | 0, _, _ => none
 | n + 1, x3286, c3287 =>
  brn (decide (x3286 < ((n2780 : Nat) : Int))) (
   grd (0 ≤ x3286 ∧ x3286 < ((n2780 : Nat) : Int)) <|
   grd ((n2779 + (Int.toNat x3286)) < List.length c3171) <|
   getI .i64 (gp c3171 (n2779 + (Int.toNat x3286))) fun x3293 =>
   grd (x3286 < ((n3271 : Nat) : Int)) <|
   grd ((Int.toNat x3286) < List.length c3287) <|
   getI .i64 (gp c3287 (Int.toNat x3286)) fun x3297 =>
   grd (((Int.toNat x3286) + 1) ≤ List.length c3287) <|
   m72_L4 N c2348 n2350 c2351 n2777 n2778 n2779 n2780 n2781 n2782 n2784 c2785 x3168 c3171 n3269 c3270 n3271 n (IntKind.i64.wrap (x3286 + 1)) (List.set c3287 (Int.toNat x3286) (.int .i64 (IntKind.i64.wrap (x3297 - x3293))))) (
   some c3287)
noncomputable def m72_L5 (N : Nat) (c2348 : List PV) (n2350 : Nat) (c2351 : List PV) (n2777 : Nat) (n2778 : Nat) (n2779 : Nat) (n2780 : Nat) (n2781 : Nat) (n2782 : Nat) (n2784 : Nat) (c2785 : List PV) (x3168 : Int) (p3170 : PV) (c3171 : List PV) (n3238 : Nat) : Nat → Int → List PV → Option (List PV)
 | 0, _, _ => none
 | n + 1, x3253, c3254 =>
  brn (decide (x3253 < ((n2778 : Nat) : Int))) (
   grd (0 ≤ x3253 ∧ x3253 < ((n2778 : Nat) : Int)) <|
   grd ((n2777 + (Int.toNat x3253)) < List.length c3171) <|
   getI .i64 (gp c3171 (n2777 + (Int.toNat x3253))) fun x3260 =>
   grd (x3253 < ((n3238 : Nat) : Int)) <|
   grd ((Int.toNat x3253) < List.length c3254) <|
   getI .i64 (gp c3254 (Int.toNat x3253)) fun x3264 =>
   grd (((Int.toNat x3253) + 1) ≤ List.length c3254) <|
   m72_L5 N c2348 n2350 c2351 n2777 n2778 n2779 n2780 n2781 n2782 n2784 c2785 x3168 p3170 c3171 n3238 n (IntKind.i64.wrap (x3253 + 1)) (List.set c3254 (Int.toNat x3253) (.int .i64 (IntKind.i64.wrap (x3264 - x3260))))) (
   some c3254)
noncomputable def m72_L2 (N : Nat) (c2348 : List PV) (n2350 : Nat) (c2351 : List PV) (n2777 : Nat) (n2778 : Nat) (n2779 : Nat) (n2780 : Nat) (n2781 : Nat) (n2782 : Nat) (n2784 : Nat) (c2785 : List PV) : Nat → Int → Int → PV → PV → List PV → Option (((PV × Int) ⊕ (Int × Int × PV × PV × List PV)))
 | 0, _, _, _, _, _ => none
 | n + 1, x3167, x3168, p3169, p3170, c3171 =>
  brn (x3167 == 2) (
   bnd' (m75_3 N n2777 n2778 n2779 n2780 n2781 n2782 c3171 x3168) fun (p3173, x3175) =>
   getT0 p3173 <|
   bnd' (m72_L3 N c2348 n2350 c2351 n2777 n2778 n2779 n2780 n2781 n2782 n2784 c2785 x3175 N x3167 p3169 p3170 c3171) fun o =>
   match o with
   | .inl (x3232, p3233, p3234, c3235) =>
    m72_L2 N c2348 n2350 c2351 n2777 n2778 n2779 n2780 n2781 n2782 n2784 c2785 n x3232 x3175 p3233 p3234 c3235
   | .inr p3236 =>
    some (.inl p3236)) (
   casI x3167 0 (
    bnd' (m53 N (.lst false n2784 c2785)) fun (n3238, c3239) =>
    bnd' (m72_L5 N c2348 n2350 c2351 n2777 n2778 n2779 n2780 n2781 n2782 n2784 c2785 x3168 p3170 c3171 n3238 N 0 c3239) fun c3266 =>
    grd (List.length c3266 = n3238) <|
    some (.inr (1, x3168, (.lst false n3238 c3266), p3170, c3171))) (
   casI x3167 1 (
    getL p3169 fun n3269 c3270 =>
    bnd' (m53 N (.lst false n3269 c3270)) fun (n3271, c3272) =>
    bnd' (m72_L4 N c2348 n2350 c2351 n2777 n2778 n2779 n2780 n2781 n2782 n2784 c2785 x3168 c3171 n3269 c3270 n3271 N 0 c3272) fun c3299 =>
    grd (List.length c3299 = n3271) <|
    some (.inr (2, x3168, (.lst false n3269 c3270), (.lst false n3271 c3299), c3171))) (
   casI x3167 2 (
    none) (
   casI x3167 3 (
    bnd' (m53_2 N ) fun (n3301, c3302) =>
    none) (
   none)))))
noncomputable def m72_L0 (N : Nat) (c2348 : List PV) (n2350 : Nat) (c2351 : List PV) (n2777 : Nat) (n2778 : Nat) (n2779 : Nat) (n2780 : Nat) (n2781 : Nat) (n2782 : Nat) (n2784 : Nat) (c2785 : List PV) : Nat → Int → Int → PV → PV → List PV → Option ((PV × Int))
 | 0, _, _, _, _, _ => none
 | n + 1, x2997, x2998, p2999, p3000, c3001 =>
  bnd' (m72_L1 N c2348 n2777 n2778 n2779 n2780 n2781 n2782 n2784 c2785 x2997 p2999 p3000 c3001) fun o =>
  match o with
  | (x3030, p3031, p3032, c3033) =>
   bnd' (m72_L2 N c2348 n2350 c2351 n2777 n2778 n2779 n2780 n2781 n2782 n2784 c2785 N x3030 x2998 p3031 p3032 c3033) fun o =>
   match o with
   | .inl p3304 =>
    some p3304
   | .inr (x3305, x3306, p3307, p3308, c3309) =>
    m72_L0 N c2348 n2350 c2351 n2777 n2778 n2779 n2780 n2781 n2782 n2784 c2785 n x3305 x3306 p3307 p3308 c3309
noncomputable def m72_L7 (N : Nat) (c2348 : List PV) (n2428 : Nat) (n2429 : Nat) (n2430 : Nat) (n2431 : Nat) (n2433 : Nat) (c2434 : List PV) (x2576 : Int) (p2578 : PV) (c2579 : List PV) : Option ((Int × PV × List PV)) :=
  casI x2576 0 (
   grd (0 < List.length c2348) <|
   getI .i64 (gp c2348 0) fun x2583 =>
   bnd' (m95 N n2428 n2429 (.lst false n2433 c2434) x2583 c2579) fun (p2584, c2586) =>
   getT0 p2584 <|
   some (0, p2578, c2586)) (
  casI x2576 1 (
   getL p2578 fun n2589 c2590 =>
   grd (0 < List.length (List.drop 1 c2348)) <|
   getI .i64 (gp c2348 1) fun x2593 =>
   bnd' (m95 N n2430 n2431 (.lst false n2589 c2590) x2593 c2579) fun (p2594, c2596) =>
   getT0 p2594 <|
   some (1, (.lst false n2589 c2590), c2596)) (
  none))
noncomputable def m72_L9 (N : Nat) (c2348 : List PV) (n2350 : Nat) (c2351 : List PV) (n2428 : Nat) (n2429 : Nat) (n2430 : Nat) (n2431 : Nat) (n2433 : Nat) (c2434 : List PV) (x2691 : Int) : Nat → Int → PV → List PV → Option (((Int × PV × List PV) ⊕ (PV × Int)))
 | 0, _, _, _ => none
 | n + 1, x2710, p2711, c2712 =>
  casI x2710 0 (
   bnd' (m96 N n2428 n2429 (.lst false n2433 c2434) c2712) fun (p2714, c2716) =>
   getB p2714 fun b2718 =>
   brn b2718 (
    some (.inl (0, p2711, c2716))) (
    some (.inr ((.tup []), x2691)))) (
  casI x2710 1 (
   getL p2711 fun n2721 c2722 =>
   bnd' (m96 N n2430 n2431 (.lst false n2721 c2722) c2712) fun (p2723, c2725) =>
   getB p2723 fun b2727 =>
   brn b2727 (
    some (.inl (1, (.lst false n2721 c2722), c2725))) (
    m72_L9 N c2348 n2350 c2351 n2428 n2429 n2430 n2431 n2433 c2434 x2691 n 0 (.lst false n2721 c2722) c2725)) (
  none))
noncomputable def m72_L10 (N : Nat) (c2348 : List PV) (n2350 : Nat) (c2351 : List PV) (n2428 : Nat) (n2429 : Nat) (n2430 : Nat) (n2431 : Nat) (n2433 : Nat) (c2434 : List PV) (x2685 : Int) (c2687 : List PV) (n2734 : Nat) : Nat → Int → List PV → Option (List PV)
 | 0, _, _ => none
 | n + 1, x2749, c2750 =>
  brn (decide (x2749 < ((n2429 : Nat) : Int))) (
   grd (0 ≤ x2749 ∧ x2749 < ((n2429 : Nat) : Int)) <|
   grd ((n2428 + (Int.toNat x2749)) < List.length c2687) <|
   getI .i64 (gp c2687 (n2428 + (Int.toNat x2749))) fun x2756 =>
   grd (x2749 < ((n2734 : Nat) : Int)) <|
   grd ((Int.toNat x2749) < List.length c2750) <|
   getI .i64 (gp c2750 (Int.toNat x2749)) fun x2760 =>
   grd (((Int.toNat x2749) + 1) ≤ List.length c2750) <|
   m72_L10 N c2348 n2350 c2351 n2428 n2429 n2430 n2431 n2433 c2434 x2685 c2687 n2734 n (IntKind.i64.wrap (x2749 + 1)) (List.set c2750 (Int.toNat x2749) (.int .i64 (IntKind.i64.wrap (x2760 - x2756))))) (
   some c2750)
noncomputable def m72_L8 (N : Nat) (c2348 : List PV) (n2350 : Nat) (c2351 : List PV) (n2428 : Nat) (n2429 : Nat) (n2430 : Nat) (n2431 : Nat) (n2433 : Nat) (c2434 : List PV) : Nat → Int → Int → PV → List PV → Option (((PV × Int) ⊕ (Int × Int × PV × List PV)))
 | 0, _, _, _, _ => none
 | n + 1, x2684, x2685, p2686, c2687 =>
  brn (x2684 == 1) (
   bnd' (m75_2 N n2428 n2429 n2430 n2431 c2687 x2685) fun (p2689, x2691) =>
   getT0 p2689 <|
   bnd' (m72_L9 N c2348 n2350 c2351 n2428 n2429 n2430 n2431 n2433 c2434 x2691 N x2684 p2686 c2687) fun o =>
   match o with
   | .inl (x2729, p2730, c2731) =>
    m72_L8 N c2348 n2350 c2351 n2428 n2429 n2430 n2431 n2433 c2434 n x2729 x2691 p2730 c2731
   | .inr p2732 =>
    some (.inl p2732)) (
   casI x2684 0 (
    bnd' (m53 N (.lst false n2433 c2434)) fun (n2734, c2735) =>
    bnd' (m72_L10 N c2348 n2350 c2351 n2428 n2429 n2430 n2431 n2433 c2434 x2685 c2687 n2734 N 0 c2735) fun c2762 =>
    grd (List.length c2762 = n2734) <|
    some (.inr (1, x2685, (.lst false n2734 c2762), c2687))) (
   casI x2684 1 (
    none) (
   casI x2684 2 (
    bnd' (m53_2 N ) fun (n2764, c2765) =>
    none) (
   casI x2684 3 (
    bnd' (m53_2 N ) fun (n2767, c2768) =>
    none) (
   none)))))
noncomputable def m72_L6 (N : Nat) (c2348 : List PV) (n2350 : Nat) (c2351 : List PV) (n2428 : Nat) (n2429 : Nat) (n2430 : Nat) (n2431 : Nat) (n2433 : Nat) (c2434 : List PV) : Nat → Int → Int → PV → List PV → Option ((PV × Int))
 | 0, _, _, _, _ => none
 | n + 1, x2576, x2577, p2578, c2579 =>
  bnd' (m72_L7 N c2348 n2428 n2429 n2430 n2431 n2433 c2434 x2576 p2578 c2579) fun o =>
  match o with
  | (x2598, p2599, c2600) =>
   bnd' (m72_L8 N c2348 n2350 c2351 n2428 n2429 n2430 n2431 n2433 c2434 N x2598 x2577 p2599 c2600) fun o =>
   match o with
   | .inl p2770 =>
    some p2770
   | .inr (x2771, x2772, p2773, c2774) =>
    m72_L6 N c2348 n2350 c2351 n2428 n2429 n2430 n2431 n2433 c2434 n x2771 x2772 p2773 c2774
noncomputable def m72_L12 (N : Nat) (c2348 : List PV) (n2354 : Nat) (n2355 : Nat) (c2356 : List PV) (n2357 : Nat) (c2358 : List PV) (x2361 : Int) : Option (List PV) :=
  casI x2361 0 (
   grd (0 < List.length c2348) <|
   getI .i64 (gp c2348 0) fun x2365 =>
   bnd' (m95 N n2354 n2355 (.lst false n2357 c2358) x2365 c2356) fun (p2366, c2368) =>
   getT0 p2366 <|
   some c2368) (
  none)
noncomputable def m72_L14 (N : Nat) (c2348 : List PV) (n2350 : Nat) (c2351 : List PV) (n2354 : Nat) (n2355 : Nat) (n2357 : Nat) (c2358 : List PV) (c2399 : List PV) (x2403 : Int) : Nat → Int → Option ((List PV ⊕ (PV × Int)))
 | 0, _ => none
 | n + 1, x2405 =>
  casI x2405 0 (
   bnd' (m96 N n2354 n2355 (.lst false n2357 c2358) c2399) fun (p2407, c2409) =>
   getB p2407 fun b2411 =>
   brn b2411 (
    some (.inl c2409)) (
    some (.inr ((.tup []), x2403)))) (
  none)
noncomputable def m72_L13 (N : Nat) (c2348 : List PV) (n2350 : Nat) (c2351 : List PV) (n2354 : Nat) (n2355 : Nat) (n2357 : Nat) (c2358 : List PV) : Nat → Int → Int → List PV → Option ((PV × Int))
 | 0, _, _, _ => none
 | n + 1, x2397, x2398, c2399 =>
  brn (x2397 == 0) (
   bnd' (m75 N n2354 n2355 c2399 x2398) fun (p2401, x2403) =>
   getT0 p2401 <|
   bnd' (m72_L14 N c2348 n2350 c2351 n2354 n2355 n2357 c2358 c2399 x2403 N x2397) fun o =>
   match o with
   | .inl c2413 =>
    m72_L13 N c2348 n2350 c2351 n2354 n2355 n2357 c2358 n 0 x2403 c2413
   | .inr p2414 =>
    some p2414) (
   casI x2397 0 (
    none) (
   casI x2397 1 (
    bnd' (m53_2 N ) fun (n2416, c2417) =>
    none) (
   casI x2397 2 (
    bnd' (m53_2 N ) fun (n2419, c2420) =>
    none) (
   casI x2397 3 (
    bnd' (m53_2 N ) fun (n2422, c2423) =>
    none) (
   none)))))
noncomputable def m72_L11 (N : Nat) (x2341 : Int) (c2348 : List PV) (n2350 : Nat) (c2351 : List PV) (n2354 : Nat) (n2355 : Nat) (c2356 : List PV) (n2357 : Nat) (c2358 : List PV) : Nat → Int → Option ((PV × Int))
 | 0, _ => none
 | n + 1, x2361 =>
  bnd' (m72_L12 N c2348 n2354 n2355 c2356 n2357 c2358 x2361) fun c2370 =>
  bnd' (m72_L13 N c2348 n2350 c2351 n2354 n2355 n2357 c2358 N 0 x2341 c2370) fun o =>
  match o with
  | p2425 =>
   some p2425
noncomputable def m72 (N : Nat) (p2340 : PV) (x2341 : Int) : Option ((PV × Int)) :=
 getA2 p2340 fun p2344 p2345 =>
 getL p2344 fun n2347 c2348 =>
 getL p2345 fun n2350 c2351 =>
 casN n2347 1 (
  bnd' (m60 N c2348 (.lst false n2350 c2351)) fun o =>
  match o with
  | (n2354, n2355, c2356) =>
   bnd' (m53 N (.lst false n2350 c2351)) fun (n2357, c2358) =>
   grd (List.length c2358 = n2357) <|
   bnd' (m72_L11 N x2341 c2348 n2350 c2351 n2354 n2355 c2356 n2357 c2358 N 0) fun o =>
   match o with
   | p2426 =>
    some p2426) (
 casN n2347 2 (
  bnd' (m60_2 N c2348 (.lst false n2350 c2351)) fun o =>
  match o with
  | (n2428, n2429, n2430, n2431, c2432) =>
   bnd' (m53 N (.lst false n2350 c2351)) fun (n2433, c2434) =>
   grd (List.length c2434 = n2433) <|
   bnd' (m72_L6 N c2348 n2350 c2351 n2428 n2429 n2430 n2431 n2433 c2434 N 0 x2341 (.lst false 0 []) c2432) fun o =>
   match o with
   | p2775 =>
    some p2775) (
 casN n2347 3 (
  bnd' (m60_3 N c2348 (.lst false n2350 c2351)) fun o =>
  match o with
  | (n2777, n2778, n2779, n2780, n2781, n2782, c2783) =>
   bnd' (m53 N (.lst false n2350 c2351)) fun (n2784, c2785) =>
   grd (List.length c2785 = n2784) <|
   bnd' (m72_L0 N c2348 n2350 c2351 n2777 n2778 n2779 n2780 n2781 n2782 n2784 c2785 N 0 x2341 (.lst false 0 []) (.lst false 0 []) c2783) fun o =>
   match o with
   | p3310 =>
    some p3310) (
 none)))
theorem c72 (N : Nat) (p2340 : PV) (x2341 : Int) (r : PV) (x3312 : Int) (h : m72 N p2340 x2341 = some (r, x3312)) : V.Fn Try.prog 72 1 [.v p2340, .fn 75 [.ptr 0 0]] [(0, .p [(.int .i64 x2341)])] (fun d ob' => d = .v r ∧ ob' = [(0, .p [(.int .i64 x3312)])]) := by
 unfold m72 at h
 refine Fn_of (sz := 80) tab_ok [0, 1, 2, 4, 5, 6, 7, 8, 33, 47, 48, 49, 50, 75, 79] [] Try.func72 rfl rfl rfl (by simp) ?_
 simp only [initSt, initEnv, List.getD_cons_zero, List.getD_cons_succ, List.getD_nil]
 replace h := getA2_some h; obtain ⟨p2344, p2345, h2343, h⟩ := h
 replace h := getL_some h; obtain ⟨n2347, c2348, h2346, h⟩ := h
 replace h := getL_some h; obtain ⟨n2350, c2351, h2349, h⟩ := h
 refine W_sound tab_ok mixed 4 _ _ _ ?_
 simp -implicitDefEqProofs only [go_sem, Nat.reduceBEq, Nat.reduceAdd, Nat.reduceLT, Nat.reduceLeDiff, h2343, h2346, h2349]
 repeat with_reducible refine And.intro (by first | kernel_rfl | decide) ?_
 refine Wp_scopeS (l := 0) rfl ?_
 replace h := casN_some h; rcases h with ⟨rfl, h⟩ | ⟨_, h⟩
 ·replace h := bnd'_some h; obtain ⟨⟨n2354, n2355, c2356⟩, h2353, h⟩ := h
  (try dsimp only at h)
  refine W_sound tab_ok mixed 3 _ _ _ ?_
  simp -implicitDefEqProofs only [go_sem, Nat.reduceBEq, Nat.reduceAdd, Nat.reduceLT]
  repeat with_reducible refine And.intro (by first | kernel_rfl | decide) ?_
  refine Wp_callD [] (c60_a N _ _ _ _ _ h2353) rfl rfl rfl (by first | rfl | (simp only [go_sem, Nat.reduceBEq, Nat.reduceAdd, Nat.reduceSub, Nat.reduceMul, Nat.reduceLT, Nat.reduceLeDiff, Int.reduceLE, Int.reduceLT, Int.reduceToNat, Int.reduceBEq, Int.reduceBNe, ↓reduceIte, Int.reduceAdd, Int.reduceSub, Int.reduceGT, Int.reduceGE, h2343, h2346, h2349] <;> rfl)) rfl (by kernel_rfl) ?_
  replace h := bnd'_some h; obtain ⟨⟨n2357, c2358⟩, h2359, h⟩ := h
  (try dsimp only at h)
  refine W_sound tab_ok mixed 6 _ _ _ ?_
  simp -implicitDefEqProofs only [go_sem, Nat.reduceBEq, Nat.reduceAdd, Nat.reduceSub, Nat.reduceMul, Nat.reduceLT, Nat.reduceLeDiff]
  repeat with_reducible refine And.intro (by first | kernel_rfl | decide) ?_
  refine Wp_callD [] (c53 N _ _ _ h2359) rfl rfl rfl (by first | rfl | (simp only [go_sem, Nat.reduceBEq, Nat.reduceAdd, Nat.reduceSub, Nat.reduceMul, Nat.reduceLT, Nat.reduceLeDiff, Int.reduceLE, Int.reduceLT, Int.reduceToNat, Int.reduceBEq, Int.reduceBNe, ↓reduceIte, Int.reduceAdd, Int.reduceSub, Int.reduceGT, Int.reduceGE, h2343, h2346, h2349] <;> rfl)) rfl (by kernel_rfl) ?_
  refine W_sound tab_ok mixed 8 _ _ _ ?_
  simp -implicitDefEqProofs only [go_sem, Nat.reduceBEq, Nat.reduceAdd, Nat.reduceSub, Nat.reduceMul, Nat.reduceLT, Nat.reduceLeDiff]
  repeat with_reducible refine And.intro (by first | kernel_rfl | decide) ?_
  replace h := grd_some h; obtain ⟨g2360, h⟩ := h
  refine Wp_wkK (Wk_freeze 1028 c2358 (by rfl) (by decide) (by decide)) rfl ?_
  simp -implicitDefEqProofs only [go_sem, Nat.reduceBEq, g2360]
  (try simp -implicitDefEqProofs only [go_sem, Nat.reduceBEq, Nat.reduceAdd, Nat.reduceSub, Nat.reduceMul, Nat.reduceLT, Nat.reduceLeDiff, Int.reduceLE, Int.reduceLT, Int.reduceToNat, Int.reduceBEq, Int.reduceBNe, ↓reduceIte, Int.reduceAdd, Int.reduceSub, Int.reduceGT, Int.reduceGE, h2343, h2346, h2349, g2360])
  replace h := bnd'_some h; obtain ⟨o3313, h3314, h3315⟩ := h
  refine Wp_labelS (fun n s => ∃ x2361, m72_L11 N x2341 c2348 n2350 c2351 n2354 n2355 c2356 n2357 c2358 n x2361 = some o3313 ∧ s = ⟨[], [(0, .dead), (1, .fn 75 [.ptr 0 0]), (2, .ptr 1 0), (4, .sl false 2 0 1 1), (5, .ptr 3 0), (6, .v (.int .i64 x2361)), (7, .dead), (8, .dead), (33, .dead), (47, .dead), (48, .dead), (49, .dead), (50, .dead), (75, .dead), (79, .dead)], [(0, .p [(.int .i64 x2341)]), (1, .p [(.lst false 1 c2348), (.lst false n2350 c2351)]), (2, .r [.sl true 4 n2354 n2355 1]), (3, .p [(.lst false n2357 c2358), .nl, .nl, .nl]), (4, .p c2356)], 5, []⟩) N _ (by kernel_rfl) (Wk_keep (st' := ⟨[], [(0, .dead), (1, .fn 75 [.ptr 0 0]), (2, .ptr 1 0), (4, .sl false 2 0 1 1), (5, .ptr 3 0), (6, .v (.int .i64 0)), (7, .dead), (8, .dead), (33, .dead), (47, .dead), (48, .dead), (49, .dead), (50, .dead), (75, .dead), (79, .dead)], [(0, .p [(.int .i64 x2341)]), (1, .p [(.lst false 1 c2348), (.lst false n2350 c2351)]), (2, .r [.sl true 4 n2354 n2355 1]), (3, .p [(.lst false n2357 c2358), .nl, .nl, .nl]), (4, .p c2356)], 5, []⟩) [1, 2, 4, 5, 6] (by kernel_rfl)) ⟨_, h3314, rfl⟩ ?_
  clear h3314
  rintro n _ ⟨x2361, h3314, rfl⟩
  cases n with
  | zero => cases h3314
  | succ n =>
   rw [m72_L11] at h3314
   (try simp -implicitDefEqProofs only [go_sem, Nat.reduceBEq, Nat.reduceAdd, Nat.reduceSub, Nat.reduceMul, Nat.reduceLT, Nat.reduceLeDiff, Int.reduceLE, Int.reduceLT, Int.reduceToNat, Int.reduceBEq, Int.reduceBNe, ↓reduceIte, Int.reduceAdd, Int.reduceSub, Int.reduceGT, Int.reduceGE, h2343, h2346, h2349, g2360])
   replace h3314 := bnd'_some h3314; obtain ⟨o3316, h3317, h3318⟩ := h3314
   refine Wp_seq1 (fun s => ∃ c2370, c2370 = o3316 ∧ s = ⟨[], [(0, .dead), (1, .fn 75 [.ptr 0 0]), (2, .ptr 1 0), (4, .sl false 2 0 1 1), (5, .ptr 3 0), (6, .v (.int .i64 0)), (7, .dead), (8, .dead), (33, .dead), (47, .dead), (48, .dead), (49, .dead), (50, .dead), (75, .dead), (79, .dead)], [(0, .p [(.int .i64 x2341)]), (1, .p [(.lst false 1 c2348), (.lst false n2350 c2351)]), (2, .r [.sl true 4 n2354 n2355 1]), (3, .p [(.lst false n2357 c2358), .nl, .nl, .nl]), (4, .p c2370)], 5, []⟩) ?_ ?_
   ·clear h3318
    unfold m72_L12 at h3317
    replace h3317 := casI_some h3317; rcases h3317 with ⟨rfl, h3317⟩ | ⟨_, h3317⟩
    ·replace h3317 := grd_some h3317; obtain ⟨g2363, h3317⟩ := h3317
     replace h3317 := getI_some h3317; obtain ⟨x2365, h2364, h3317⟩ := h3317
     replace h3317 := bnd'_some h3317; obtain ⟨⟨p2366, c2368⟩, h2367, h3317⟩ := h3317
     (try dsimp only at h3317)
     refine W_sound tab_ok mixed 13 _ _ _ ?_
     simp -implicitDefEqProofs only [go_sem, Nat.reduceBEq, Nat.reduceAdd, Nat.reduceLT, Nat.reduceLeDiff, Int.reduceLT, g2363, h2364]
     repeat with_reducible refine And.intro (by first | kernel_rfl | decide) ?_
     refine Wp_callD [4] (c95 N _ _ _ _ _ _ _ h2367) rfl rfl rfl (by first | rfl | (simp only [go_sem, Nat.reduceBEq, Nat.reduceAdd, Nat.reduceSub, Nat.reduceMul, Nat.reduceLT, Nat.reduceLeDiff, Int.reduceLE, Int.reduceLT, Int.reduceToNat, Int.reduceBEq, Int.reduceBNe, ↓reduceIte, Int.reduceAdd, Int.reduceSub, Int.reduceGT, Int.reduceGE, h2343, h2346, h2349, g2360, g2363, h2364] <;> rfl)) rfl (by kernel_rfl) ?_
     replace h3317 := getT0_some h3317; obtain ⟨h2369, h3317⟩ := h3317
     refine W_sound tab_ok mixed 1 _ _ _ ?_
     simp -implicitDefEqProofs only [go_sem, Nat.reduceBEq, Nat.reduceAdd, Nat.reduceSub, Nat.reduceMul, Nat.reduceLT, h2369]
     repeat with_reducible refine And.intro (by first | kernel_rfl | decide) ?_
     obtain rfl := Option.some.inj h3317
     refine cutQ _ ?_ ⟨_, rfl, rfl⟩
     exact Wk_keep [1, 2, 4, 5, 6] (by kernel_rfl)
    ·skip
     cases h3317
   ·rintro _ ⟨c2370, rfl, rfl⟩
    (try simp -implicitDefEqProofs only [go_sem, Nat.reduceBEq, Nat.reduceAdd, Nat.reduceSub, Nat.reduceMul, Nat.reduceLT, Nat.reduceLeDiff, Int.reduceLE, Int.reduceLT, Int.reduceToNat, Int.reduceBEq, Int.reduceBNe, ↓reduceIte, Int.reduceAdd, Int.reduceSub, Int.reduceGT, Int.reduceGE, h2343, h2346, h2349, g2360])
    replace h3318 := bnd'_some h3318; obtain ⟨o3319, h3320, h3321⟩ := h3318
    refine Wp_cut (fun _ => False) ?_ ?_
    ·refine Wp_block ?_
     refine Wp_loopG (fun n s => ∃ x2397, ∃ x2398, ∃ c2399, m72_L13 N c2348 n2350 c2351 n2354 n2355 n2357 c2358 n x2397 x2398 c2399 = some o3319 ∧ s = ⟨[], [(0, .dead), (1, .fn 75 [.ptr 0 0]), (2, .ptr 1 0), (4, .sl false 2 0 1 1), (5, .ptr 3 0), (6, .v (.int .i64 x2397)), (7, .dead), (8, .dead), (33, .dead), (47, .dead), (48, .dead), (49, .dead), (50, .dead), (75, .dead), (79, .dead)], [(0, .p [(.int .i64 x2398)]), (1, .p [(.lst false 1 c2348), (.lst false n2350 c2351)]), (2, .r [.sl true 4 n2354 n2355 1]), (3, .p [(.lst false n2357 c2358), .nl, .nl, .nl]), (4, .p c2399)], 5, []⟩) N _ ?_ ⟨_, _, _, h3320, rfl⟩ ?_
     ·exact Wk_keep [1, 2, 4, 5, 6] (by kernel_rfl)
     clear h3320
     rintro n _ ⟨x2397, x2398, c2399, h3320, rfl⟩
     cases n with
     | zero => cases h3320
     | succ n =>
      rw [m72_L13] at h3320
      replace h3320 := brn_some h3320; rcases h3320 with ⟨h2400, h3320⟩ | ⟨h2400, h3320⟩
      ·replace h3320 := bnd'_some h3320; obtain ⟨⟨p2401, x2403⟩, h2402, h3320⟩ := h3320
       (try dsimp only at h3320)
       refine W_sound tab_ok mixed 15 _ _ _ ?_
       simp -implicitDefEqProofs only [go_sem, Nat.reduceBEq, Nat.reduceAdd, Nat.reduceLT, Nat.reduceLeDiff, Int.reduceLE, Int.reduceToNat, ↓reduceIte, Int.reduceSub, h2400]
       repeat with_reducible refine And.intro (by first | kernel_rfl | decide) ?_
       refine Wp_callD [2, 4, 0] (c75 N _ _ _ _ _ _ h2402) rfl rfl rfl (by first | rfl | (simp only [go_sem, Nat.reduceBEq, Nat.reduceAdd, Nat.reduceSub, Nat.reduceMul, Nat.reduceLT, Nat.reduceLeDiff, Int.reduceLE, Int.reduceLT, Int.reduceToNat, Int.reduceBEq, Int.reduceBNe, ↓reduceIte, Int.reduceAdd, Int.reduceSub, Int.reduceGT, Int.reduceGE, h2343, h2346, h2349, g2360, h2400] <;> rfl)) rfl (by kernel_rfl) ?_
       replace h3320 := getT0_some h3320; obtain ⟨h2404, h3320⟩ := h3320
       refine W_sound tab_ok mixed 1 _ _ _ ?_
       simp -implicitDefEqProofs only [go_sem, Nat.reduceBEq, Nat.reduceAdd, Nat.reduceSub, Nat.reduceMul, Nat.reduceLT, h2404]
       repeat with_reducible refine And.intro (by first | kernel_rfl | decide) ?_
       replace h3320 := bnd'_some h3320; obtain ⟨o3322, h3323, h3324⟩ := h3320
       refine Wp_cut (fun s => ∃ c2413, (.inl c2413) = o3322 ∧ s = ⟨[], [(0, .dead), (1, .fn 75 [.ptr 0 0]), (2, .ptr 1 0), (4, .sl false 2 0 1 1), (5, .ptr 3 0), (6, .v (.int .i64 0)), (7, .dead), (8, .dead), (33, .dead), (47, .dead), (48, .dead), (49, .dead), (50, .dead), (75, .dead), (79, .dead)], [(0, .p [(.int .i64 x2403)]), (1, .p [(.lst false 1 c2348), (.lst false n2350 c2351)]), (2, .r [.sl true 4 n2354 n2355 1]), (3, .p [(.lst false n2357 c2358), .nl, .nl, .nl]), (4, .p c2413)], 5, []⟩) ?_ ?_
       ·refine Wp_block ?_
        refine Wp_loopG (fun n s => ∃ x2405, m72_L14 N c2348 n2350 c2351 n2354 n2355 n2357 c2358 c2399 x2403 n x2405 = some o3322 ∧ s = ⟨[], [(0, .dead), (1, .fn 75 [.ptr 0 0]), (2, .ptr 1 0), (4, .sl false 2 0 1 1), (5, .ptr 3 0), (6, .v (.int .i64 x2405)), (7, .dead), (8, .dead), (33, .dead), (47, .dead), (48, .dead), (49, .dead), (50, .dead), (75, .dead), (79, .dead)], [(0, .p [(.int .i64 x2403)]), (1, .p [(.lst false 1 c2348), (.lst false n2350 c2351)]), (2, .r [.sl true 4 n2354 n2355 1]), (3, .p [(.lst false n2357 c2358), .nl, .nl, .nl]), (4, .p c2399)], 5, []⟩) N _ ?_ ⟨_, h3323, rfl⟩ ?_
        ·exact Wk_keep [1, 2, 4, 5, 6] (by kernel_rfl)
        clear h3323
        rintro n _ ⟨x2405, h3323, rfl⟩
        cases n with
        | zero => cases h3323
        | succ n =>
         rw [m72_L14] at h3323
         replace h3323 := casI_some h3323; rcases h3323 with ⟨rfl, h3323⟩ | ⟨_, h3323⟩
         ·replace h3323 := bnd'_some h3323; obtain ⟨⟨p2407, c2409⟩, h2408, h3323⟩ := h3323
          (try dsimp only at h3323)
          refine W_sound tab_ok mixed 10 _ _ _ ?_
          simp -implicitDefEqProofs only [go_sem, Nat.reduceBEq, Nat.reduceAdd, Nat.reduceLT, Nat.reduceLeDiff, Int.reduceLT]
          repeat with_reducible refine And.intro (by first | kernel_rfl | decide) ?_
          refine Wp_callD [4] (c96 N _ _ _ _ _ _ h2408) rfl rfl rfl (by first | rfl | (simp only [go_sem, Nat.reduceBEq, Nat.reduceAdd, Nat.reduceSub, Nat.reduceMul, Nat.reduceLT, Nat.reduceLeDiff, Int.reduceLE, Int.reduceLT, Int.reduceToNat, Int.reduceBEq, Int.reduceBNe, ↓reduceIte, Int.reduceAdd, Int.reduceSub, Int.reduceGT, Int.reduceGE, h2343, h2346, h2349, g2360, h2400, h2404] <;> rfl)) rfl (by kernel_rfl) ?_
          replace h3323 := getB_some h3323; obtain ⟨b2411, h2410, h3323⟩ := h3323
          replace h3323 := brn_some h3323; rcases h3323 with ⟨h2412, h3323⟩ | ⟨h2412, h3323⟩
          ·refine W_sound tab_ok mixed 4 _ _ _ ?_
           simp -implicitDefEqProofs only [go_sem, Nat.reduceBEq, Nat.reduceAdd, Nat.reduceSub, Nat.reduceMul, Nat.reduceLT, h2410, h2412]
           repeat with_reducible refine And.intro (by first | kernel_rfl | decide) ?_
           obtain rfl := Option.some.inj h3323
           refine cutQ _ ?_ ⟨_, rfl, rfl⟩
           exact Wk_keep [1, 2, 4, 5, 6] (by kernel_rfl)
          ·refine W_sound tab_ok mixed 19 _ _ _ ?_
           simp -implicitDefEqProofs only [go_sem, Nat.reduceBEq, Nat.reduceAdd, Nat.reduceSub, Nat.reduceMul, Nat.reduceLT, Int.reduceLE, Int.reduceLT, Int.reduceToNat, ↓reduceIte, Int.reduceSub, h2410, h2412]
           repeat with_reducible refine And.intro (by first | kernel_rfl | decide) ?_
           obtain rfl := Option.some.inj h3323
           (try dsimp only at h3324)
           obtain rfl := Option.some.inj h3324
           (try dsimp only at h3321)
           obtain rfl := Option.some.inj h3321
           (try dsimp only at h3315)
           simp only [Option.some.injEq, Prod.mk.injEq] at h3315; obtain ⟨rfl, rfl⟩ := h3315
           exact finD (st' := ⟨[], [(0, .dead), (1, .dead), (2, .dead), (4, .dead), (5, .dead), (6, .dead), (7, .dead), (8, .dead), (33, .dead), (47, .dead), (48, .dead), (49, .dead), (50, .dead), (75, .dead), (79, .dead)], [(0, .p [(.int .i64 x2403)])], 1, []⟩) (keepE_le [] _) (OLe.refl _) (by kernel_rfl) (by simp only [go_sem, resQ_nil, retD_none]; (try simp [R.val, retD_one, retD_two, retD_three, retD_none]); try assumption)
         ·skip
          cases h3323
       ·rintro _ ⟨c2413, rfl, rfl⟩
        (try dsimp only at h3324)
        refine W_sound tab_ok mixed 1 _ _ _ ?_
        simp -implicitDefEqProofs only [go_sem]
        repeat with_reducible refine And.intro (by first | kernel_rfl | decide) ?_
        refine cutQ _ ?_ ⟨n, Nat.lt_succ_self n, _, _, _, h3324, rfl⟩
        exact Wk_keep [1, 2, 4, 5, 6] (by kernel_rfl)
      ·replace h3320 := casI_some h3320; rcases h3320 with ⟨rfl, h3320⟩ | ⟨_, h3320⟩
       ·cases h3320
       ·skip
        replace h3320 := casI_some h3320; rcases h3320 with ⟨rfl, h3320⟩ | ⟨_, h3320⟩
        ·replace h3320 := bnd'_some h3320; obtain ⟨⟨n2416, c2417⟩, h2418, h3320⟩ := h3320
         (try dsimp only at h3320)
         refine W_sound tab_ok mixed 19 _ _ _ ?_
         simp -implicitDefEqProofs only [go_sem, Nat.reduceBEq, Nat.reduceAdd, Nat.reduceLT, Nat.reduceLeDiff, Int.reduceLE, Int.reduceLT, Int.reduceToNat, ↓reduceIte, Int.reduceAdd, Int.reduceSub, h2400]
         repeat with_reducible refine And.intro (by first | kernel_rfl | decide) ?_
         refine Wp_callD [] (c53_2 N  _ _ h2418) rfl rfl rfl (by first | rfl | (simp only [go_sem, Nat.reduceBEq, Nat.reduceAdd, Nat.reduceSub, Nat.reduceMul, Nat.reduceLT, Nat.reduceLeDiff, Int.reduceLE, Int.reduceLT, Int.reduceToNat, Int.reduceBEq, Int.reduceBNe, ↓reduceIte, Int.reduceAdd, Int.reduceSub, Int.reduceGT, Int.reduceGE, h2343, h2346, h2349, g2360, h2400] <;> rfl)) rfl (by kernel_rfl) ?_
         cases h3320
        ·skip
         replace h3320 := casI_some h3320; rcases h3320 with ⟨rfl, h3320⟩ | ⟨_, h3320⟩
         ·replace h3320 := bnd'_some h3320; obtain ⟨⟨n2419, c2420⟩, h2421, h3320⟩ := h3320
          (try dsimp only at h3320)
          refine W_sound tab_ok mixed 19 _ _ _ ?_
          simp -implicitDefEqProofs only [go_sem, Nat.reduceBEq, Nat.reduceAdd, Nat.reduceLT, Nat.reduceLeDiff, Int.reduceLE, Int.reduceLT, Int.reduceToNat, ↓reduceIte, Int.reduceAdd, Int.reduceSub, h2400]
          repeat with_reducible refine And.intro (by first | kernel_rfl | decide) ?_
          refine Wp_callD [] (c53_2 N  _ _ h2421) rfl rfl rfl (by first | rfl | (simp only [go_sem, Nat.reduceBEq, Nat.reduceAdd, Nat.reduceSub, Nat.reduceMul, Nat.reduceLT, Nat.reduceLeDiff, Int.reduceLE, Int.reduceLT, Int.reduceToNat, Int.reduceBEq, Int.reduceBNe, ↓reduceIte, Int.reduceAdd, Int.reduceSub, Int.reduceGT, Int.reduceGE, h2343, h2346, h2349, g2360, h2400] <;> rfl)) rfl (by kernel_rfl) ?_
          cases h3320
         ·skip
          replace h3320 := casI_some h3320; rcases h3320 with ⟨rfl, h3320⟩ | ⟨_, h3320⟩
          ·replace h3320 := bnd'_some h3320; obtain ⟨⟨n2422, c2423⟩, h2424, h3320⟩ := h3320
           (try dsimp only at h3320)
           refine W_sound tab_ok mixed 19 _ _ _ ?_
           simp -implicitDefEqProofs only [go_sem, Nat.reduceBEq, Nat.reduceAdd, Nat.reduceLT, Nat.reduceLeDiff, Int.reduceLE, Int.reduceLT, Int.reduceToNat, ↓reduceIte, Int.reduceAdd, Int.reduceSub, h2400]
           repeat with_reducible refine And.intro (by first | kernel_rfl | decide) ?_
           refine Wp_callD [] (c53_2 N  _ _ h2424) rfl rfl rfl (by first | rfl | (simp only [go_sem, Nat.reduceBEq, Nat.reduceAdd, Nat.reduceSub, Nat.reduceMul, Nat.reduceLT, Nat.reduceLeDiff, Int.reduceLE, Int.reduceLT, Int.reduceToNat, Int.reduceBEq, Int.reduceBNe, ↓reduceIte, Int.reduceAdd, Int.reduceSub, Int.reduceGT, Int.reduceGE, h2343, h2346, h2349, g2360, h2400] <;> rfl)) rfl (by kernel_rfl) ?_
           cases h3320
          ·skip
           cases h3320
    ·intro _ hf; exact hf.elim
 ·skip
  replace h := casN_some h; rcases h with ⟨rfl, h⟩ | ⟨_, h⟩
  ·replace h := bnd'_some h; obtain ⟨⟨n2428, n2429, n2430, n2431, c2432⟩, h2427, h⟩ := h
   (try dsimp only at h)
   refine W_sound tab_ok mixed 3 _ _ _ ?_
   simp -implicitDefEqProofs only [go_sem, Nat.reduceBEq, Nat.reduceAdd, Nat.reduceLT]
   repeat with_reducible refine And.intro (by first | kernel_rfl | decide) ?_
   refine Wp_callD [] (c60_2_a N _ _ _ _ _ _ _ h2427) rfl rfl rfl (by first | rfl | (simp only [go_sem, Nat.reduceBEq, Nat.reduceAdd, Nat.reduceSub, Nat.reduceMul, Nat.reduceLT, Nat.reduceLeDiff, Int.reduceLE, Int.reduceLT, Int.reduceToNat, Int.reduceBEq, Int.reduceBNe, ↓reduceIte, Int.reduceAdd, Int.reduceSub, Int.reduceGT, Int.reduceGE, h2343, h2346, h2349] <;> rfl)) rfl (by kernel_rfl) ?_
   replace h := bnd'_some h; obtain ⟨⟨n2433, c2434⟩, h2435, h⟩ := h
   (try dsimp only at h)
   refine W_sound tab_ok mixed 6 _ _ _ ?_
   simp -implicitDefEqProofs only [go_sem, Nat.reduceBEq, Nat.reduceAdd, Nat.reduceSub, Nat.reduceMul, Nat.reduceLT, Nat.reduceLeDiff]
   repeat with_reducible refine And.intro (by first | kernel_rfl | decide) ?_
   refine Wp_callD [] (c53 N _ _ _ h2435) rfl rfl rfl (by first | rfl | (simp only [go_sem, Nat.reduceBEq, Nat.reduceAdd, Nat.reduceSub, Nat.reduceMul, Nat.reduceLT, Nat.reduceLeDiff, Int.reduceLE, Int.reduceLT, Int.reduceToNat, Int.reduceBEq, Int.reduceBNe, ↓reduceIte, Int.reduceAdd, Int.reduceSub, Int.reduceGT, Int.reduceGE, h2343, h2346, h2349] <;> rfl)) rfl (by kernel_rfl) ?_
   refine W_sound tab_ok mixed 8 _ _ _ ?_
   simp -implicitDefEqProofs only [go_sem, Nat.reduceBEq, Nat.reduceAdd, Nat.reduceSub, Nat.reduceMul, Nat.reduceLT, Nat.reduceLeDiff]
   repeat with_reducible refine And.intro (by first | kernel_rfl | decide) ?_
   replace h := grd_some h; obtain ⟨g2436, h⟩ := h
   refine Wp_wkK (Wk_freeze 1028 c2434 (by rfl) (by decide) (by decide)) rfl ?_
   simp -implicitDefEqProofs only [go_sem, Nat.reduceBEq, g2436]
   (try simp -implicitDefEqProofs only [go_sem, Nat.reduceBEq, Nat.reduceAdd, Nat.reduceSub, Nat.reduceMul, Nat.reduceLT, Nat.reduceLeDiff, Int.reduceLE, Int.reduceLT, Int.reduceToNat, Int.reduceBEq, Int.reduceBNe, ↓reduceIte, Int.reduceAdd, Int.reduceSub, Int.reduceGT, Int.reduceGE, h2343, h2346, h2349, g2436])
   replace h := bnd'_some h; obtain ⟨o3325, h3326, h3327⟩ := h
   refine Wp_labelS (fun n s => ∃ x2576, ∃ x2577, ∃ p2578, ∃ c2579, m72_L6 N c2348 n2350 c2351 n2428 n2429 n2430 n2431 n2433 c2434 n x2576 x2577 p2578 c2579 = some o3325 ∧ s = ⟨[], [(0, .dead), (1, .fn 75 [.ptr 0 0]), (2, .ptr 1 0), (4, .sl false 2 0 2 1), (5, .ptr 3 0), (6, .v (.int .i64 x2576)), (7, .dead), (8, .dead), (33, .dead), (47, .dead), (48, .dead), (49, .dead), (50, .dead), (75, .dead), (79, .dead)], [(0, .p [(.int .i64 x2577)]), (1, .p [(.lst false 2 c2348), (.lst false n2350 c2351)]), (2, .r [.sl true 4 n2428 n2429 1, .sl true 4 n2430 n2431 1]), (3, .p [(.lst false n2433 c2434), p2578, .nl, .nl]), (4, .p c2579)], 5, []⟩) N _ (by kernel_rfl) ((Wk_le (.cons _ _ _ _ _ (.dead _) (.cons _ _ _ _ _ (.refl _) (.cons _ _ _ _ _ (.refl _) (.cons _ _ _ _ _ (.refl _) (.cons _ _ _ _ _ (.refl _) (.cons _ _ _ _ _ (.refl _) (.cons _ _ _ _ _ (.refl _) (.cons _ _ _ _ _ (.refl _) (.cons _ _ _ _ _ (.refl _) (.cons _ _ _ _ _ (.refl _) (.cons _ _ _ _ _ (.refl _) (.cons _ _ _ _ _ (.refl _) (.cons _ _ _ _ _ (.refl _) (.cons _ _ _ _ _ (.refl _) (.cons _ _ _ _ _ (.refl _) .nil))))))))))))))) (.cons _ _ _ _ _ (DLes.refl _) (.cons _ _ _ _ _ (DLes.refl _) (.cons _ _ _ _ _ (DLes.refl _) (.cons _ _ _ _ _ (DLes.refl _) (.cons _ (.p _) (.p _) _ _ (DLes.of_p (.cons _ _ _ _ (.refl _) (.cons _ _ _ _ (.nl false) (.cons _ _ _ _ (.refl _) (.cons _ _ _ _ (.refl _) .nil))))) .nil)))))).trans (cmpS_ok (st' := ⟨[], [(0, .dead), (1, .fn 75 [.ptr 0 0]), (2, .ptr 1 0), (4, .sl false 2 0 2 1), (5, .ptr 3 0), (6, .v (.int .i64 0)), (7, .dead), (8, .dead), (33, .dead), (47, .dead), (48, .dead), (49, .dead), (50, .dead), (75, .dead), (79, .dead)], [(0, .p [(.int .i64 x2341)]), (1, .p [(.lst false 2 c2348), (.lst false n2350 c2351)]), (2, .r [.sl true 4 n2428 n2429 1, .sl true 4 n2430 n2431 1]), (3, .p [(.lst false n2433 c2434), (.lst false 0 []), .nl, .nl]), (4, .p c2432)], 5, []⟩) (by kernel_rfl))) ⟨_, _, _, _, h3326, rfl⟩ ?_
   clear h3326
   rintro n _ ⟨x2576, x2577, p2578, c2579, h3326, rfl⟩
   cases n with
   | zero => cases h3326
   | succ n =>
    rw [m72_L6] at h3326
    (try simp -implicitDefEqProofs only [go_sem, Nat.reduceBEq, Nat.reduceAdd, Nat.reduceSub, Nat.reduceMul, Nat.reduceLT, Nat.reduceLeDiff, Int.reduceLE, Int.reduceLT, Int.reduceToNat, Int.reduceBEq, Int.reduceBNe, ↓reduceIte, Int.reduceAdd, Int.reduceSub, Int.reduceGT, Int.reduceGE, h2343, h2346, h2349, g2436])
    replace h3326 := bnd'_some h3326; obtain ⟨o3328, h3329, h3330⟩ := h3326
    refine Wp_seq1 (fun s => ∃ x2598, ∃ p2599, ∃ c2600, (x2598, p2599, c2600) = o3328 ∧ s = ⟨[], [(0, .dead), (1, .fn 75 [.ptr 0 0]), (2, .ptr 1 0), (4, .sl false 2 0 2 1), (5, .ptr 3 0), (6, .v (.int .i64 x2598)), (7, .dead), (8, .dead), (33, .dead), (47, .dead), (48, .dead), (49, .dead), (50, .dead), (75, .dead), (79, .dead)], [(0, .p [(.int .i64 x2577)]), (1, .p [(.lst false 2 c2348), (.lst false n2350 c2351)]), (2, .r [.sl true 4 n2428 n2429 1, .sl true 4 n2430 n2431 1]), (3, .p [(.lst false n2433 c2434), p2599, .nl, .nl]), (4, .p c2600)], 5, []⟩) ?_ ?_
    ·clear h3330
     unfold m72_L7 at h3329
     replace h3329 := casI_some h3329; rcases h3329 with ⟨rfl, h3329⟩ | ⟨_, h3329⟩
     ·replace h3329 := grd_some h3329; obtain ⟨g2581, h3329⟩ := h3329
      replace h3329 := getI_some h3329; obtain ⟨x2583, h2582, h3329⟩ := h3329
      replace h3329 := bnd'_some h3329; obtain ⟨⟨p2584, c2586⟩, h2585, h3329⟩ := h3329
      (try dsimp only at h3329)
      refine W_sound tab_ok mixed 13 _ _ _ ?_
      simp -implicitDefEqProofs only [go_sem, Nat.reduceBEq, Nat.reduceAdd, Nat.reduceLT, Nat.reduceLeDiff, Int.reduceLT, g2581, h2582]
      repeat with_reducible refine And.intro (by first | kernel_rfl | decide) ?_
      refine Wp_callD [4] (c95 N _ _ _ _ _ _ _ h2585) rfl rfl rfl (by first | rfl | (simp only [go_sem, Nat.reduceBEq, Nat.reduceAdd, Nat.reduceSub, Nat.reduceMul, Nat.reduceLT, Nat.reduceLeDiff, Int.reduceLE, Int.reduceLT, Int.reduceToNat, Int.reduceBEq, Int.reduceBNe, ↓reduceIte, Int.reduceAdd, Int.reduceSub, Int.reduceGT, Int.reduceGE, h2343, h2346, h2349, g2436, g2581, h2582] <;> rfl)) rfl (by kernel_rfl) ?_
      replace h3329 := getT0_some h3329; obtain ⟨h2587, h3329⟩ := h3329
      refine W_sound tab_ok mixed 1 _ _ _ ?_
      simp -implicitDefEqProofs only [go_sem, Nat.reduceBEq, Nat.reduceAdd, Nat.reduceSub, Nat.reduceMul, Nat.reduceLT, h2587]
      repeat with_reducible refine And.intro (by first | kernel_rfl | decide) ?_
      obtain rfl := Option.some.inj h3329
      refine cutQ _ ?_ ⟨_, _, _, rfl, rfl⟩
      exact Wk_keep [1, 2, 4, 5, 6] (by kernel_rfl)
     ·skip
      replace h3329 := casI_some h3329; rcases h3329 with ⟨rfl, h3329⟩ | ⟨_, h3329⟩
      ·replace h3329 := getL_some h3329; obtain ⟨n2589, c2590, h2588, h3329⟩ := h3329
       replace h3329 := grd_some h3329; obtain ⟨g2591, h3329⟩ := h3329
       replace h3329 := getI_some h3329; obtain ⟨x2593, h2592, h3329⟩ := h3329
       replace h3329 := bnd'_some h3329; obtain ⟨⟨p2594, c2596⟩, h2595, h3329⟩ := h3329
       (try dsimp only at h3329)
       refine W_sound tab_ok mixed 13 _ _ _ ?_
       simp -implicitDefEqProofs only [go_sem, Nat.reduceBEq, Nat.reduceAdd, Nat.reduceLT, Nat.reduceLeDiff, Int.reduceLE, Int.reduceLT, Int.reduceToNat, h2588, g2591, h2592]
       repeat with_reducible refine And.intro (by first | kernel_rfl | decide) ?_
       refine Wp_callD [4] (c95 N _ _ _ _ _ _ _ h2595) rfl rfl rfl (by first | rfl | (simp only [go_sem, Nat.reduceBEq, Nat.reduceAdd, Nat.reduceSub, Nat.reduceMul, Nat.reduceLT, Nat.reduceLeDiff, Int.reduceLE, Int.reduceLT, Int.reduceToNat, Int.reduceBEq, Int.reduceBNe, ↓reduceIte, Int.reduceAdd, Int.reduceSub, Int.reduceGT, Int.reduceGE, h2343, h2346, h2349, g2436, h2588, g2591, h2592] <;> rfl)) rfl (by kernel_rfl) ?_
       replace h3329 := getT0_some h3329; obtain ⟨h2597, h3329⟩ := h3329
       refine W_sound tab_ok mixed 1 _ _ _ ?_
       simp -implicitDefEqProofs only [go_sem, Nat.reduceBEq, Nat.reduceAdd, Nat.reduceSub, Nat.reduceMul, Nat.reduceLT, h2597]
       repeat with_reducible refine And.intro (by first | kernel_rfl | decide) ?_
       obtain rfl := Option.some.inj h3329
       refine cutQ _ ?_ ⟨_, _, _, rfl, rfl⟩
       exact Wk_keep [1, 2, 4, 5, 6] (by kernel_rfl)
      ·skip
       cases h3329
    ·rintro _ ⟨x2598, p2599, c2600, rfl, rfl⟩
     (try dsimp only at h3330)
     (try simp -implicitDefEqProofs only [go_sem, Nat.reduceBEq, Nat.reduceAdd, Nat.reduceSub, Nat.reduceMul, Nat.reduceLT, Nat.reduceLeDiff, Int.reduceLE, Int.reduceLT, Int.reduceToNat, Int.reduceBEq, Int.reduceBNe, ↓reduceIte, Int.reduceAdd, Int.reduceSub, Int.reduceGT, Int.reduceGE, h2343, h2346, h2349, g2436])
     replace h3330 := bnd'_some h3330; obtain ⟨o3331, h3332, h3333⟩ := h3330
     refine Wp_cut (fun _ => False) ?_ ?_
     ·refine Wp_block ?_
      refine Wp_loopG (fun n s => ∃ x2684, ∃ x2685, ∃ p2686, ∃ c2687, m72_L8 N c2348 n2350 c2351 n2428 n2429 n2430 n2431 n2433 c2434 n x2684 x2685 p2686 c2687 = some o3331 ∧ s = ⟨[], [(0, .dead), (1, .fn 75 [.ptr 0 0]), (2, .ptr 1 0), (4, .sl false 2 0 2 1), (5, .ptr 3 0), (6, .v (.int .i64 x2684)), (7, .dead), (8, .dead), (33, .dead), (47, .dead), (48, .dead), (49, .dead), (50, .dead), (75, .dead), (79, .dead)], [(0, .p [(.int .i64 x2685)]), (1, .p [(.lst false 2 c2348), (.lst false n2350 c2351)]), (2, .r [.sl true 4 n2428 n2429 1, .sl true 4 n2430 n2431 1]), (3, .p [(.lst false n2433 c2434), p2686, .nl, .nl]), (4, .p c2687)], 5, []⟩) N _ ?_ ⟨_, _, _, _, h3332, rfl⟩ ?_
      ·exact Wk_keep [1, 2, 4, 5, 6] (by kernel_rfl)
      clear h3332
      rintro n _ ⟨x2684, x2685, p2686, c2687, h3332, rfl⟩
      cases n with
      | zero => cases h3332
      | succ n =>
       rw [m72_L8] at h3332
       replace h3332 := brn_some h3332; rcases h3332 with ⟨h2688, h3332⟩ | ⟨h2688, h3332⟩
       ·replace h3332 := bnd'_some h3332; obtain ⟨⟨p2689, x2691⟩, h2690, h3332⟩ := h3332
        (try dsimp only at h3332)
        refine W_sound tab_ok mixed 15 _ _ _ ?_
        simp -implicitDefEqProofs only [go_sem, Nat.reduceBEq, Nat.reduceAdd, Nat.reduceLT, Nat.reduceLeDiff, Int.reduceLE, Int.reduceToNat, ↓reduceIte, Int.reduceSub, h2688]
        repeat with_reducible refine And.intro (by first | kernel_rfl | decide) ?_
        refine Wp_callD [2, 4, 0] (c75_2 N _ _ _ _ _ _ _ _ h2690) rfl rfl rfl (by first | rfl | (simp only [go_sem, Nat.reduceBEq, Nat.reduceAdd, Nat.reduceSub, Nat.reduceMul, Nat.reduceLT, Nat.reduceLeDiff, Int.reduceLE, Int.reduceLT, Int.reduceToNat, Int.reduceBEq, Int.reduceBNe, ↓reduceIte, Int.reduceAdd, Int.reduceSub, Int.reduceGT, Int.reduceGE, h2343, h2346, h2349, g2436, h2688] <;> rfl)) rfl (by kernel_rfl) ?_
        replace h3332 := getT0_some h3332; obtain ⟨h2692, h3332⟩ := h3332
        refine W_sound tab_ok mixed 1 _ _ _ ?_
        simp -implicitDefEqProofs only [go_sem, Nat.reduceBEq, Nat.reduceAdd, Nat.reduceSub, Nat.reduceMul, Nat.reduceLT, h2692]
        repeat with_reducible refine And.intro (by first | kernel_rfl | decide) ?_
        replace h3332 := bnd'_some h3332; obtain ⟨o3334, h3335, h3336⟩ := h3332
        refine Wp_cut (fun s => ∃ x2729, ∃ p2730, ∃ c2731, (.inl (x2729, p2730, c2731)) = o3334 ∧ s = ⟨[], [(0, .dead), (1, .fn 75 [.ptr 0 0]), (2, .ptr 1 0), (4, .sl false 2 0 2 1), (5, .ptr 3 0), (6, .v (.int .i64 x2729)), (7, .dead), (8, .dead), (33, .dead), (47, .dead), (48, .dead), (49, .dead), (50, .dead), (75, .dead), (79, .dead)], [(0, .p [(.int .i64 x2691)]), (1, .p [(.lst false 2 c2348), (.lst false n2350 c2351)]), (2, .r [.sl true 4 n2428 n2429 1, .sl true 4 n2430 n2431 1]), (3, .p [(.lst false n2433 c2434), p2730, .nl, .nl]), (4, .p c2731)], 5, []⟩) ?_ ?_
        ·refine Wp_block ?_
         refine Wp_loopG (fun n s => ∃ x2710, ∃ p2711, ∃ c2712, m72_L9 N c2348 n2350 c2351 n2428 n2429 n2430 n2431 n2433 c2434 x2691 n x2710 p2711 c2712 = some o3334 ∧ s = ⟨[], [(0, .dead), (1, .fn 75 [.ptr 0 0]), (2, .ptr 1 0), (4, .sl false 2 0 2 1), (5, .ptr 3 0), (6, .v (.int .i64 x2710)), (7, .dead), (8, .dead), (33, .dead), (47, .dead), (48, .dead), (49, .dead), (50, .dead), (75, .dead), (79, .dead)], [(0, .p [(.int .i64 x2691)]), (1, .p [(.lst false 2 c2348), (.lst false n2350 c2351)]), (2, .r [.sl true 4 n2428 n2429 1, .sl true 4 n2430 n2431 1]), (3, .p [(.lst false n2433 c2434), p2711, .nl, .nl]), (4, .p c2712)], 5, []⟩) N _ ?_ ⟨_, _, _, h3335, rfl⟩ ?_
         ·exact Wk_keep [1, 2, 4, 5, 6] (by kernel_rfl)
         clear h3335
         rintro n _ ⟨x2710, p2711, c2712, h3335, rfl⟩
         cases n with
         | zero => cases h3335
         | succ n =>
          rw [m72_L9] at h3335
          replace h3335 := casI_some h3335; rcases h3335 with ⟨rfl, h3335⟩ | ⟨_, h3335⟩
          ·replace h3335 := bnd'_some h3335; obtain ⟨⟨p2714, c2716⟩, h2715, h3335⟩ := h3335
           (try dsimp only at h3335)
           refine W_sound tab_ok mixed 10 _ _ _ ?_
           simp -implicitDefEqProofs only [go_sem, Nat.reduceBEq, Nat.reduceAdd, Nat.reduceLT, Nat.reduceLeDiff, Int.reduceLT]
           repeat with_reducible refine And.intro (by first | kernel_rfl | decide) ?_
           refine Wp_callD [4] (c96 N _ _ _ _ _ _ h2715) rfl rfl rfl (by first | rfl | (simp only [go_sem, Nat.reduceBEq, Nat.reduceAdd, Nat.reduceSub, Nat.reduceMul, Nat.reduceLT, Nat.reduceLeDiff, Int.reduceLE, Int.reduceLT, Int.reduceToNat, Int.reduceBEq, Int.reduceBNe, ↓reduceIte, Int.reduceAdd, Int.reduceSub, Int.reduceGT, Int.reduceGE, h2343, h2346, h2349, g2436, h2688, h2692] <;> rfl)) rfl (by kernel_rfl) ?_
           replace h3335 := getB_some h3335; obtain ⟨b2718, h2717, h3335⟩ := h3335
           replace h3335 := brn_some h3335; rcases h3335 with ⟨h2719, h3335⟩ | ⟨h2719, h3335⟩
           ·refine W_sound tab_ok mixed 4 _ _ _ ?_
            simp -implicitDefEqProofs only [go_sem, Nat.reduceBEq, Nat.reduceAdd, Nat.reduceSub, Nat.reduceMul, Nat.reduceLT, h2717, h2719]
            repeat with_reducible refine And.intro (by first | kernel_rfl | decide) ?_
            obtain rfl := Option.some.inj h3335
            refine cutQ _ ?_ ⟨_, _, _, rfl, rfl⟩
            exact Wk_keep [1, 2, 4, 5, 6] (by kernel_rfl)
           ·refine W_sound tab_ok mixed 19 _ _ _ ?_
            simp -implicitDefEqProofs only [go_sem, Nat.reduceBEq, Nat.reduceAdd, Nat.reduceSub, Nat.reduceMul, Nat.reduceLT, Int.reduceLE, Int.reduceLT, Int.reduceToNat, ↓reduceIte, Int.reduceSub, h2717, h2719]
            repeat with_reducible refine And.intro (by first | kernel_rfl | decide) ?_
            obtain rfl := Option.some.inj h3335
            (try dsimp only at h3336)
            obtain rfl := Option.some.inj h3336
            (try dsimp only at h3333)
            obtain rfl := Option.some.inj h3333
            (try dsimp only at h3327)
            simp only [Option.some.injEq, Prod.mk.injEq] at h3327; obtain ⟨rfl, rfl⟩ := h3327
            exact finD (st' := ⟨[], [(0, .dead), (1, .dead), (2, .dead), (4, .dead), (5, .dead), (6, .dead), (7, .dead), (8, .dead), (33, .dead), (47, .dead), (48, .dead), (49, .dead), (50, .dead), (75, .dead), (79, .dead)], [(0, .p [(.int .i64 x2691)])], 1, []⟩) (keepE_le [] _) (OLe.refl _) (by kernel_rfl) (by simp only [go_sem, resQ_nil, retD_none]; (try simp [R.val, retD_one, retD_two, retD_three, retD_none]); try assumption)
          ·skip
           replace h3335 := casI_some h3335; rcases h3335 with ⟨rfl, h3335⟩ | ⟨_, h3335⟩
           ·replace h3335 := getL_some h3335; obtain ⟨n2721, c2722, h2720, h3335⟩ := h3335
            replace h3335 := bnd'_some h3335; obtain ⟨⟨p2723, c2725⟩, h2724, h3335⟩ := h3335
            (try dsimp only at h3335)
            refine W_sound tab_ok mixed 10 _ _ _ ?_
            simp -implicitDefEqProofs only [go_sem, Nat.reduceBEq, Nat.reduceAdd, Nat.reduceLT, Nat.reduceLeDiff, Int.reduceLE, Int.reduceLT, Int.reduceToNat, h2720]
            repeat with_reducible refine And.intro (by first | kernel_rfl | decide) ?_
            refine Wp_callD [4] (c96 N _ _ _ _ _ _ h2724) rfl rfl rfl (by first | rfl | (simp only [go_sem, Nat.reduceBEq, Nat.reduceAdd, Nat.reduceSub, Nat.reduceMul, Nat.reduceLT, Nat.reduceLeDiff, Int.reduceLE, Int.reduceLT, Int.reduceToNat, Int.reduceBEq, Int.reduceBNe, ↓reduceIte, Int.reduceAdd, Int.reduceSub, Int.reduceGT, Int.reduceGE, h2343, h2346, h2349, g2436, h2688, h2692, h2720] <;> rfl)) rfl (by kernel_rfl) ?_
            replace h3335 := getB_some h3335; obtain ⟨b2727, h2726, h3335⟩ := h3335
            replace h3335 := brn_some h3335; rcases h3335 with ⟨h2728, h3335⟩ | ⟨h2728, h3335⟩
            ·refine W_sound tab_ok mixed 4 _ _ _ ?_
             simp -implicitDefEqProofs only [go_sem, Nat.reduceBEq, Nat.reduceAdd, Nat.reduceSub, Nat.reduceMul, Nat.reduceLT, h2726, h2728]
             repeat with_reducible refine And.intro (by first | kernel_rfl | decide) ?_
             obtain rfl := Option.some.inj h3335
             refine cutQ _ ?_ ⟨_, _, _, rfl, rfl⟩
             exact Wk_keep [1, 2, 4, 5, 6] (by kernel_rfl)
            ·refine W_sound tab_ok mixed 19 _ _ _ ?_
             simp -implicitDefEqProofs only [go_sem, Nat.reduceBEq, Nat.reduceAdd, Nat.reduceSub, Nat.reduceMul, Nat.reduceLT, Int.reduceLE, Int.reduceLT, Int.reduceToNat, ↓reduceIte, Int.reduceSub, h2726, h2728]
             repeat with_reducible refine And.intro (by first | kernel_rfl | decide) ?_
             refine cutQ _ ?_ ⟨n, Nat.lt_succ_self n, _, _, _, h3335, rfl⟩
             exact Wk_keep [1, 2, 4, 5, 6] (by kernel_rfl)
           ·skip
            cases h3335
        ·rintro _ ⟨x2729, p2730, c2731, rfl, rfl⟩
         (try dsimp only at h3336)
         refine W_sound tab_ok mixed 1 _ _ _ ?_
         simp -implicitDefEqProofs only [go_sem]
         repeat with_reducible refine And.intro (by first | kernel_rfl | decide) ?_
         refine cutQ _ ?_ ⟨n, Nat.lt_succ_self n, _, _, _, _, h3336, rfl⟩
         exact Wk_keep [1, 2, 4, 5, 6] (by kernel_rfl)
       ·replace h3332 := casI_some h3332; rcases h3332 with ⟨rfl, h3332⟩ | ⟨_, h3332⟩
        ·replace h3332 := bnd'_some h3332; obtain ⟨⟨n2734, c2735⟩, h2736, h3332⟩ := h3332
         (try dsimp only at h3332)
         refine W_sound tab_ok mixed 19 _ _ _ ?_
         simp -implicitDefEqProofs only [go_sem, Nat.reduceBEq, Nat.reduceAdd, Nat.reduceLT, Nat.reduceLeDiff, Int.reduceLE, Int.reduceLT, Int.reduceToNat, ↓reduceIte, Int.reduceAdd, Int.reduceSub, h2688]
         repeat with_reducible refine And.intro (by first | kernel_rfl | decide) ?_
         refine Wp_callD [] (c53 N _ _ _ h2736) rfl rfl rfl (by first | rfl | (simp only [go_sem, Nat.reduceBEq, Nat.reduceAdd, Nat.reduceSub, Nat.reduceMul, Nat.reduceLT, Nat.reduceLeDiff, Int.reduceLE, Int.reduceLT, Int.reduceToNat, Int.reduceBEq, Int.reduceBNe, ↓reduceIte, Int.reduceAdd, Int.reduceSub, Int.reduceGT, Int.reduceGE, h2343, h2346, h2349, g2436, h2688] <;> rfl)) rfl (by kernel_rfl) ?_
         refine W_sound tab_ok mixed 13 _ _ _ ?_
         simp -implicitDefEqProofs only [go_sem, Nat.reduceBEq, Nat.reduceAdd, Nat.reduceSub, Nat.reduceMul, Nat.reduceLT, Nat.reduceLeDiff, Int.reduceLE, Int.reduceLT, Int.reduceToNat]
         repeat with_reducible refine And.intro (by first | kernel_rfl | decide) ?_
         replace h3332 := bnd'_some h3332; obtain ⟨o3337, h3338, h3339⟩ := h3332
         refine Wp_cut (fun s => ∃ c2762, c2762 = o3337 ∧ s = ⟨[], [(0, .dead), (1, .fn 75 [.ptr 0 0]), (2, .ptr 1 0), (4, .sl false 2 0 2 1), (5, .ptr 3 0), (6, .v (.int .i64 0)), (7, .dead), (8, .dead), (33, .dead), (47, .dead), (48, .dead), (49, .dead), (50, .dead), (75, .dead), (79, .dead)], [(0, .p [(.int .i64 x2685)]), (1, .p [(.lst false 2 c2348), (.lst false n2350 c2351)]), (2, .r [.sl true 4 n2428 n2429 1, .sl true 4 n2430 n2431 1]), (3, .r [.v (.lst false n2433 c2434), .sl false 5 0 n2734 1, .v .nl, .v .nl]), (4, .p c2687), (5, .p c2762)], 6, []⟩) ?_ ?_
         ·refine Wp_block ?_
          refine Wp_loopG (fun n s => ∃ x2749, ∃ c2750, m72_L10 N c2348 n2350 c2351 n2428 n2429 n2430 n2431 n2433 c2434 x2685 c2687 n2734 n x2749 c2750 = some o3337 ∧ s = ⟨[], [(0, .dead), (1, .fn 75 [.ptr 0 0]), (2, .ptr 1 0), (4, .sl false 2 0 2 1), (5, .ptr 3 0), (6, .v (.int .i64 0)), (7, .dead), (8, .dead), (33, .dead), (47, .sl true 4 n2428 n2429 1), (48, .v (.int .i64 ((n2429 : Nat) : Int))), (49, .v (.int .i64 x2749)), (50, .dead), (75, .dead), (79, .dead)], [(0, .p [(.int .i64 x2685)]), (1, .p [(.lst false 2 c2348), (.lst false n2350 c2351)]), (2, .r [.sl true 4 n2428 n2429 1, .sl true 4 n2430 n2431 1]), (3, .r [.v (.lst false n2433 c2434), .sl false 5 0 n2734 1, .v .nl, .v .nl]), (4, .p c2687), (5, .p c2750)], 6, []⟩) N _ ?_ ⟨_, _, h3338, rfl⟩ ?_
          ·exact Wk_keep [1, 2, 4, 5, 6, 47, 48, 49] (by kernel_rfl)
          clear h3338
          rintro n _ ⟨x2749, c2750, h3338, rfl⟩
          cases n with
          | zero => cases h3338
          | succ n =>
           rw [m72_L10] at h3338
           replace h3338 := brn_some h3338; rcases h3338 with ⟨h2751, h3338⟩ | ⟨h2751, h3338⟩
           ·replace h3338 := grd_some h3338; obtain ⟨⟨g2752, g2753⟩, h3338⟩ := h3338
            replace h3338 := grd_some h3338; obtain ⟨g2754, h3338⟩ := h3338
            replace h3338 := getI_some h3338; obtain ⟨x2756, h2755, h3338⟩ := h3338
            replace h3338 := grd_some h3338; obtain ⟨g2757, h3338⟩ := h3338
            replace h3338 := grd_some h3338; obtain ⟨g2758, h3338⟩ := h3338
            replace h3338 := getI_some h3338; obtain ⟨x2760, h2759, h3338⟩ := h3338
            replace h3338 := grd_some h3338; obtain ⟨g2761, h3338⟩ := h3338
            refine W_sound tab_ok mixed 35 _ _ _ ?_
            simp -implicitDefEqProofs only [go_sem, Nat.reduceBEq, Nat.reduceAdd, Nat.reduceLT, Nat.reduceLeDiff, Int.reduceLE, Int.reduceLT, Int.reduceToNat, ↓reduceIte, Int.reduceAdd, g2752, g2753, g2754, h2755, g2757, g2758, h2759, g2761]
            repeat with_reducible refine And.intro (by first | kernel_rfl | decide) ?_
            (try rw [h2755] at h3338)
            (try rw [h2759] at h3338)
            refine cutQ _ ?_ ⟨n, Nat.lt_succ_self n, _, _, h3338, rfl⟩
            exact Wk_keep [1, 2, 4, 5, 6, 47, 48, 49] (by kernel_rfl)
           ·refine W_sound tab_ok mixed 7 _ _ _ ?_
            simp -implicitDefEqProofs only [go_sem, Nat.reduceBEq, Nat.reduceLT, ↓reduceIte, h2751]
            repeat with_reducible refine And.intro (by first | kernel_rfl | decide) ?_
            obtain rfl := Option.some.inj h3338
            refine cutQ _ ?_ ⟨_, rfl, rfl⟩
            exact Wk_keep [1, 2, 4, 5, 6] (by kernel_rfl)
         ·rintro _ ⟨c2762, rfl, rfl⟩
          refine W_sound tab_ok mixed 7 _ _ _ ?_
          simp -implicitDefEqProofs only [go_sem, Nat.reduceBEq, Nat.reduceLT, Int.reduceLE, Int.reduceToNat, ↓reduceIte, Int.reduceAdd]
          repeat with_reducible refine And.intro (by first | kernel_rfl | decide) ?_
          replace h3339 := grd_some h3339; obtain ⟨g2763, h3339⟩ := h3339
          refine Wp_wkK (Wk_freeze 5 c2762 (by rfl) (by decide) (by decide)) rfl ?_
          simp -implicitDefEqProofs only [go_sem, Nat.reduceBEq, g2763]
          (try simp -implicitDefEqProofs only [go_sem, Nat.reduceBEq, Nat.reduceAdd, Nat.reduceSub, Nat.reduceMul, Nat.reduceLT, Nat.reduceLeDiff, Int.reduceLE, Int.reduceLT, Int.reduceToNat, Int.reduceBEq, Int.reduceBNe, ↓reduceIte, Int.reduceAdd, Int.reduceSub, Int.reduceGT, Int.reduceGE, h2343, h2346, h2349, g2436, h2688, g2763])
          obtain rfl := Option.some.inj h3339
          (try dsimp only at h3333)
          refine Wp_goto _ rfl ?_ ⟨_, Nat.lt_succ_self _, _, _, _, _, h3333, rfl⟩
          exact Wk_keep (st' := ⟨[], [(0, .dead), (1, .fn 75 [.ptr 0 0]), (2, .ptr 1 0), (4, .sl false 2 0 2 1), (5, .ptr 3 0), (6, .v (.int .i64 1)), (7, .dead), (8, .dead), (33, .dead), (47, .dead), (48, .dead), (49, .dead), (50, .dead), (75, .dead), (79, .dead)], [(0, .p [(.int .i64 x2685)]), (1, .p [(.lst false 2 c2348), (.lst false n2350 c2351)]), (2, .r [.sl true 4 n2428 n2429 1, .sl true 4 n2430 n2431 1]), (3, .p [(.lst false n2433 c2434), (.lst false n2734 c2762), .nl, .nl]), (4, .p c2687)], 5, []⟩) [1, 2, 4, 5, 6] (by kernel_rfl)
        ·skip
         replace h3332 := casI_some h3332; rcases h3332 with ⟨rfl, h3332⟩ | ⟨_, h3332⟩
         ·cases h3332
         ·skip
          replace h3332 := casI_some h3332; rcases h3332 with ⟨rfl, h3332⟩ | ⟨_, h3332⟩
          ·replace h3332 := bnd'_some h3332; obtain ⟨⟨n2764, c2765⟩, h2766, h3332⟩ := h3332
           (try dsimp only at h3332)
           refine W_sound tab_ok mixed 19 _ _ _ ?_
           simp -implicitDefEqProofs only [go_sem, Nat.reduceBEq, Nat.reduceAdd, Nat.reduceLT, Nat.reduceLeDiff, Int.reduceLE, Int.reduceLT, Int.reduceToNat, ↓reduceIte, Int.reduceAdd, Int.reduceSub, h2688]
           repeat with_reducible refine And.intro (by first | kernel_rfl | decide) ?_
           refine Wp_callD [] (c53_2 N  _ _ h2766) rfl rfl rfl (by first | rfl | (simp only [go_sem, Nat.reduceBEq, Nat.reduceAdd, Nat.reduceSub, Nat.reduceMul, Nat.reduceLT, Nat.reduceLeDiff, Int.reduceLE, Int.reduceLT, Int.reduceToNat, Int.reduceBEq, Int.reduceBNe, ↓reduceIte, Int.reduceAdd, Int.reduceSub, Int.reduceGT, Int.reduceGE, h2343, h2346, h2349, g2436, h2688] <;> rfl)) rfl (by kernel_rfl) ?_
           cases h3332
          ·skip
           replace h3332 := casI_some h3332; rcases h3332 with ⟨rfl, h3332⟩ | ⟨_, h3332⟩
           ·replace h3332 := bnd'_some h3332; obtain ⟨⟨n2767, c2768⟩, h2769, h3332⟩ := h3332
            (try dsimp only at h3332)
            refine W_sound tab_ok mixed 19 _ _ _ ?_
            simp -implicitDefEqProofs only [go_sem, Nat.reduceBEq, Nat.reduceAdd, Nat.reduceLT, Nat.reduceLeDiff, Int.reduceLE, Int.reduceLT, Int.reduceToNat, ↓reduceIte, Int.reduceAdd, Int.reduceSub, h2688]
            repeat with_reducible refine And.intro (by first | kernel_rfl | decide) ?_
            refine Wp_callD [] (c53_2 N  _ _ h2769) rfl rfl rfl (by first | rfl | (simp only [go_sem, Nat.reduceBEq, Nat.reduceAdd, Nat.reduceSub, Nat.reduceMul, Nat.reduceLT, Nat.reduceLeDiff, Int.reduceLE, Int.reduceLT, Int.reduceToNat, Int.reduceBEq, Int.reduceBNe, ↓reduceIte, Int.reduceAdd, Int.reduceSub, Int.reduceGT, Int.reduceGE, h2343, h2346, h2349, g2436, h2688] <;> rfl)) rfl (by kernel_rfl) ?_
            cases h3332
           ·skip
            cases h3332
     ·intro _ hf; exact hf.elim
  ·skip
   replace h := casN_some h; rcases h with ⟨rfl, h⟩ | ⟨_, h⟩
   ·replace h := bnd'_some h; obtain ⟨⟨n2777, n2778, n2779, n2780, n2781, n2782, c2783⟩, h2776, h⟩ := h
    (try dsimp only at h)
    refine W_sound tab_ok mixed 3 _ _ _ ?_
    simp -implicitDefEqProofs only [go_sem, Nat.reduceBEq, Nat.reduceAdd, Nat.reduceLT]
    repeat with_reducible refine And.intro (by first | kernel_rfl | decide) ?_
    refine Wp_callD [] (c60_3_a N _ _ _ _ _ _ _ _ _ h2776) rfl rfl rfl (by first | rfl | (simp only [go_sem, Nat.reduceBEq, Nat.reduceAdd, Nat.reduceSub, Nat.reduceMul, Nat.reduceLT, Nat.reduceLeDiff, Int.reduceLE, Int.reduceLT, Int.reduceToNat, Int.reduceBEq, Int.reduceBNe, ↓reduceIte, Int.reduceAdd, Int.reduceSub, Int.reduceGT, Int.reduceGE, h2343, h2346, h2349] <;> rfl)) rfl (by kernel_rfl) ?_
    replace h := bnd'_some h; obtain ⟨⟨n2784, c2785⟩, h2786, h⟩ := h
    (try dsimp only at h)
    refine W_sound tab_ok mixed 6 _ _ _ ?_
    simp -implicitDefEqProofs only [go_sem, Nat.reduceBEq, Nat.reduceAdd, Nat.reduceSub, Nat.reduceMul, Nat.reduceLT, Nat.reduceLeDiff]
    repeat with_reducible refine And.intro (by first | kernel_rfl | decide) ?_
    refine Wp_callD [] (c53 N _ _ _ h2786) rfl rfl rfl (by first | rfl | (simp only [go_sem, Nat.reduceBEq, Nat.reduceAdd, Nat.reduceSub, Nat.reduceMul, Nat.reduceLT, Nat.reduceLeDiff, Int.reduceLE, Int.reduceLT, Int.reduceToNat, Int.reduceBEq, Int.reduceBNe, ↓reduceIte, Int.reduceAdd, Int.reduceSub, Int.reduceGT, Int.reduceGE, h2343, h2346, h2349] <;> rfl)) rfl (by kernel_rfl) ?_
    refine W_sound tab_ok mixed 8 _ _ _ ?_
    simp -implicitDefEqProofs only [go_sem, Nat.reduceBEq, Nat.reduceAdd, Nat.reduceSub, Nat.reduceMul, Nat.reduceLT, Nat.reduceLeDiff]
    repeat with_reducible refine And.intro (by first | kernel_rfl | decide) ?_
    replace h := grd_some h; obtain ⟨g2787, h⟩ := h
    refine Wp_wkK (Wk_freeze 1028 c2785 (by rfl) (by decide) (by decide)) rfl ?_
    simp -implicitDefEqProofs only [go_sem, Nat.reduceBEq, g2787]
    (try simp -implicitDefEqProofs only [go_sem, Nat.reduceBEq, Nat.reduceAdd, Nat.reduceSub, Nat.reduceMul, Nat.reduceLT, Nat.reduceLeDiff, Int.reduceLE, Int.reduceLT, Int.reduceToNat, Int.reduceBEq, Int.reduceBNe, ↓reduceIte, Int.reduceAdd, Int.reduceSub, Int.reduceGT, Int.reduceGE, h2343, h2346, h2349, g2787])
    replace h := bnd'_some h; obtain ⟨o3340, h3341, h3342⟩ := h
    refine Wp_labelS (fun n s => ∃ x2997, ∃ x2998, ∃ p2999, ∃ p3000, ∃ c3001, m72_L0 N c2348 n2350 c2351 n2777 n2778 n2779 n2780 n2781 n2782 n2784 c2785 n x2997 x2998 p2999 p3000 c3001 = some o3340 ∧ s = ⟨[], [(0, .dead), (1, .fn 75 [.ptr 0 0]), (2, .ptr 1 0), (4, .sl false 2 0 3 1), (5, .ptr 3 0), (6, .v (.int .i64 x2997)), (7, .dead), (8, .dead), (33, .dead), (47, .dead), (48, .dead), (49, .dead), (50, .dead), (75, .dead), (79, .dead)], [(0, .p [(.int .i64 x2998)]), (1, .p [(.lst false 3 c2348), (.lst false n2350 c2351)]), (2, .r [.sl true 4 n2777 n2778 1, .sl true 4 n2779 n2780 1, .sl true 4 n2781 n2782 1]), (3, .p [(.lst false n2784 c2785), p2999, p3000, .nl]), (4, .p c3001)], 5, []⟩) N _ (by kernel_rfl) ((Wk_le (.cons _ _ _ _ _ (.dead _) (.cons _ _ _ _ _ (.refl _) (.cons _ _ _ _ _ (.refl _) (.cons _ _ _ _ _ (.refl _) (.cons _ _ _ _ _ (.refl _) (.cons _ _ _ _ _ (.refl _) (.cons _ _ _ _ _ (.refl _) (.cons _ _ _ _ _ (.refl _) (.cons _ _ _ _ _ (.refl _) (.cons _ _ _ _ _ (.refl _) (.cons _ _ _ _ _ (.refl _) (.cons _ _ _ _ _ (.refl _) (.cons _ _ _ _ _ (.refl _) (.cons _ _ _ _ _ (.refl _) (.cons _ _ _ _ _ (.refl _) .nil))))))))))))))) (.cons _ _ _ _ _ (DLes.refl _) (.cons _ _ _ _ _ (DLes.refl _) (.cons _ _ _ _ _ (DLes.refl _) (.cons _ _ _ _ _ (DLes.refl _) (.cons _ (.p _) (.p _) _ _ (DLes.of_p (.cons _ _ _ _ (.refl _) (.cons _ _ _ _ (.nl false) (.cons _ _ _ _ (.nl false) (.cons _ _ _ _ (.refl _) .nil))))) .nil)))))).trans (cmpS_ok (st' := ⟨[], [(0, .dead), (1, .fn 75 [.ptr 0 0]), (2, .ptr 1 0), (4, .sl false 2 0 3 1), (5, .ptr 3 0), (6, .v (.int .i64 0)), (7, .dead), (8, .dead), (33, .dead), (47, .dead), (48, .dead), (49, .dead), (50, .dead), (75, .dead), (79, .dead)], [(0, .p [(.int .i64 x2341)]), (1, .p [(.lst false 3 c2348), (.lst false n2350 c2351)]), (2, .r [.sl true 4 n2777 n2778 1, .sl true 4 n2779 n2780 1, .sl true 4 n2781 n2782 1]), (3, .p [(.lst false n2784 c2785), (.lst false 0 []), (.lst false 0 []), .nl]), (4, .p c2783)], 5, []⟩) (by kernel_rfl))) ⟨_, _, _, _, _, h3341, rfl⟩ ?_
    clear h3341
    rintro n _ ⟨x2997, x2998, p2999, p3000, c3001, h3341, rfl⟩
    cases n with
    | zero => cases h3341
    | succ n =>
     rw [m72_L0] at h3341
     (try simp -implicitDefEqProofs only [go_sem, Nat.reduceBEq, Nat.reduceAdd, Nat.reduceSub, Nat.reduceMul, Nat.reduceLT, Nat.reduceLeDiff, Int.reduceLE, Int.reduceLT, Int.reduceToNat, Int.reduceBEq, Int.reduceBNe, ↓reduceIte, Int.reduceAdd, Int.reduceSub, Int.reduceGT, Int.reduceGE, h2343, h2346, h2349, g2787])
     replace h3341 := bnd'_some h3341; obtain ⟨o3343, h3344, h3345⟩ := h3341
     refine Wp_seq1 (fun s => ∃ x3030, ∃ p3031, ∃ p3032, ∃ c3033, (x3030, p3031, p3032, c3033) = o3343 ∧ s = ⟨[], [(0, .dead), (1, .fn 75 [.ptr 0 0]), (2, .ptr 1 0), (4, .sl false 2 0 3 1), (5, .ptr 3 0), (6, .v (.int .i64 x3030)), (7, .dead), (8, .dead), (33, .dead), (47, .dead), (48, .dead), (49, .dead), (50, .dead), (75, .dead), (79, .dead)], [(0, .p [(.int .i64 x2998)]), (1, .p [(.lst false 3 c2348), (.lst false n2350 c2351)]), (2, .r [.sl true 4 n2777 n2778 1, .sl true 4 n2779 n2780 1, .sl true 4 n2781 n2782 1]), (3, .p [(.lst false n2784 c2785), p3031, p3032, .nl]), (4, .p c3033)], 5, []⟩) ?_ ?_
     ·clear h3345
      unfold m72_L1 at h3344
      replace h3344 := casI_some h3344; rcases h3344 with ⟨rfl, h3344⟩ | ⟨_, h3344⟩
      ·replace h3344 := grd_some h3344; obtain ⟨g3003, h3344⟩ := h3344
       replace h3344 := getI_some h3344; obtain ⟨x3005, h3004, h3344⟩ := h3344
       replace h3344 := bnd'_some h3344; obtain ⟨⟨p3006, c3008⟩, h3007, h3344⟩ := h3344
       (try dsimp only at h3344)
       refine W_sound tab_ok mixed 13 _ _ _ ?_
       simp -implicitDefEqProofs only [go_sem, Nat.reduceBEq, Nat.reduceAdd, Nat.reduceLT, Nat.reduceLeDiff, Int.reduceLT, g3003, h3004]
       repeat with_reducible refine And.intro (by first | kernel_rfl | decide) ?_
       refine Wp_callD [4] (c95 N _ _ _ _ _ _ _ h3007) rfl rfl rfl (by first | rfl | (simp only [go_sem, Nat.reduceBEq, Nat.reduceAdd, Nat.reduceSub, Nat.reduceMul, Nat.reduceLT, Nat.reduceLeDiff, Int.reduceLE, Int.reduceLT, Int.reduceToNat, Int.reduceBEq, Int.reduceBNe, ↓reduceIte, Int.reduceAdd, Int.reduceSub, Int.reduceGT, Int.reduceGE, h2343, h2346, h2349, g2787, g3003, h3004] <;> rfl)) rfl (by kernel_rfl) ?_
       replace h3344 := getT0_some h3344; obtain ⟨h3009, h3344⟩ := h3344
       refine W_sound tab_ok mixed 1 _ _ _ ?_
       simp -implicitDefEqProofs only [go_sem, Nat.reduceBEq, Nat.reduceAdd, Nat.reduceSub, Nat.reduceMul, Nat.reduceLT, h3009]
       repeat with_reducible refine And.intro (by first | kernel_rfl | decide) ?_
       obtain rfl := Option.some.inj h3344
       refine cutQ _ ?_ ⟨_, _, _, _, rfl, rfl⟩
       exact Wk_keep [1, 2, 4, 5, 6] (by kernel_rfl)
      ·skip
       replace h3344 := casI_some h3344; rcases h3344 with ⟨rfl, h3344⟩ | ⟨_, h3344⟩
       ·replace h3344 := getL_some h3344; obtain ⟨n3011, c3012, h3010, h3344⟩ := h3344
        replace h3344 := grd_some h3344; obtain ⟨g3013, h3344⟩ := h3344
        replace h3344 := getI_some h3344; obtain ⟨x3015, h3014, h3344⟩ := h3344
        replace h3344 := bnd'_some h3344; obtain ⟨⟨p3016, c3018⟩, h3017, h3344⟩ := h3344
        (try dsimp only at h3344)
        refine W_sound tab_ok mixed 13 _ _ _ ?_
        simp -implicitDefEqProofs only [go_sem, Nat.reduceBEq, Nat.reduceAdd, Nat.reduceLT, Nat.reduceLeDiff, Int.reduceLE, Int.reduceLT, Int.reduceToNat, h3010, g3013, h3014]
        repeat with_reducible refine And.intro (by first | kernel_rfl | decide) ?_
        refine Wp_callD [4] (c95 N _ _ _ _ _ _ _ h3017) rfl rfl rfl (by first | rfl | (simp only [go_sem, Nat.reduceBEq, Nat.reduceAdd, Nat.reduceSub, Nat.reduceMul, Nat.reduceLT, Nat.reduceLeDiff, Int.reduceLE, Int.reduceLT, Int.reduceToNat, Int.reduceBEq, Int.reduceBNe, ↓reduceIte, Int.reduceAdd, Int.reduceSub, Int.reduceGT, Int.reduceGE, h2343, h2346, h2349, g2787, h3010, g3013, h3014] <;> rfl)) rfl (by kernel_rfl) ?_
        replace h3344 := getT0_some h3344; obtain ⟨h3019, h3344⟩ := h3344
        refine W_sound tab_ok mixed 1 _ _ _ ?_
        simp -implicitDefEqProofs only [go_sem, Nat.reduceBEq, Nat.reduceAdd, Nat.reduceSub, Nat.reduceMul, Nat.reduceLT, h3019]
        repeat with_reducible refine And.intro (by first | kernel_rfl | decide) ?_
        obtain rfl := Option.some.inj h3344
        refine cutQ _ ?_ ⟨_, _, _, _, rfl, rfl⟩
        exact Wk_keep [1, 2, 4, 5, 6] (by kernel_rfl)
       ·skip
        replace h3344 := casI_some h3344; rcases h3344 with ⟨rfl, h3344⟩ | ⟨_, h3344⟩
        ·replace h3344 := getL_some h3344; obtain ⟨n3021, c3022, h3020, h3344⟩ := h3344
         replace h3344 := grd_some h3344; obtain ⟨g3023, h3344⟩ := h3344
         replace h3344 := getI_some h3344; obtain ⟨x3025, h3024, h3344⟩ := h3344
         replace h3344 := bnd'_some h3344; obtain ⟨⟨p3026, c3028⟩, h3027, h3344⟩ := h3344
         (try dsimp only at h3344)
         refine W_sound tab_ok mixed 13 _ _ _ ?_
         simp -implicitDefEqProofs only [go_sem, Nat.reduceBEq, Nat.reduceAdd, Nat.reduceLT, Nat.reduceLeDiff, Int.reduceLE, Int.reduceLT, Int.reduceToNat, h3020, g3023, h3024]
         repeat with_reducible refine And.intro (by first | kernel_rfl | decide) ?_
         refine Wp_callD [4] (c95 N _ _ _ _ _ _ _ h3027) rfl rfl rfl (by first | rfl | (simp only [go_sem, Nat.reduceBEq, Nat.reduceAdd, Nat.reduceSub, Nat.reduceMul, Nat.reduceLT, Nat.reduceLeDiff, Int.reduceLE, Int.reduceLT, Int.reduceToNat, Int.reduceBEq, Int.reduceBNe, ↓reduceIte, Int.reduceAdd, Int.reduceSub, Int.reduceGT, Int.reduceGE, h2343, h2346, h2349, g2787, h3020, g3023, h3024] <;> rfl)) rfl (by kernel_rfl) ?_
         replace h3344 := getT0_some h3344; obtain ⟨h3029, h3344⟩ := h3344
         refine W_sound tab_ok mixed 1 _ _ _ ?_
         simp -implicitDefEqProofs only [go_sem, Nat.reduceBEq, Nat.reduceAdd, Nat.reduceSub, Nat.reduceMul, Nat.reduceLT, h3029]
         repeat with_reducible refine And.intro (by first | kernel_rfl | decide) ?_
         obtain rfl := Option.some.inj h3344
         refine cutQ _ ?_ ⟨_, _, _, _, rfl, rfl⟩
         exact Wk_keep [1, 2, 4, 5, 6] (by kernel_rfl)
        ·skip
         cases h3344
     ·rintro _ ⟨x3030, p3031, p3032, c3033, rfl, rfl⟩
      (try dsimp only at h3345)
      (try simp -implicitDefEqProofs only [go_sem, Nat.reduceBEq, Nat.reduceAdd, Nat.reduceSub, Nat.reduceMul, Nat.reduceLT, Nat.reduceLeDiff, Int.reduceLE, Int.reduceLT, Int.reduceToNat, Int.reduceBEq, Int.reduceBNe, ↓reduceIte, Int.reduceAdd, Int.reduceSub, Int.reduceGT, Int.reduceGE, h2343, h2346, h2349, g2787])
      replace h3345 := bnd'_some h3345; obtain ⟨o3346, h3347, h3348⟩ := h3345
      refine Wp_cut (fun _ => False) ?_ ?_
      ·refine Wp_block ?_
       refine Wp_loopG (fun n s => ∃ x3167, ∃ x3168, ∃ p3169, ∃ p3170, ∃ c3171, m72_L2 N c2348 n2350 c2351 n2777 n2778 n2779 n2780 n2781 n2782 n2784 c2785 n x3167 x3168 p3169 p3170 c3171 = some o3346 ∧ s = ⟨[], [(0, .dead), (1, .fn 75 [.ptr 0 0]), (2, .ptr 1 0), (4, .sl false 2 0 3 1), (5, .ptr 3 0), (6, .v (.int .i64 x3167)), (7, .dead), (8, .dead), (33, .dead), (47, .dead), (48, .dead), (49, .dead), (50, .dead), (75, .dead), (79, .dead)], [(0, .p [(.int .i64 x3168)]), (1, .p [(.lst false 3 c2348), (.lst false n2350 c2351)]), (2, .r [.sl true 4 n2777 n2778 1, .sl true 4 n2779 n2780 1, .sl true 4 n2781 n2782 1]), (3, .p [(.lst false n2784 c2785), p3169, p3170, .nl]), (4, .p c3171)], 5, []⟩) N _ ?_ ⟨_, _, _, _, _, h3347, rfl⟩ ?_
       ·exact Wk_keep [1, 2, 4, 5, 6] (by kernel_rfl)
       clear h3347
       rintro n _ ⟨x3167, x3168, p3169, p3170, c3171, h3347, rfl⟩
       cases n with
       | zero => cases h3347
       | succ n =>
        rw [m72_L2] at h3347
        replace h3347 := brn_some h3347; rcases h3347 with ⟨h3172, h3347⟩ | ⟨h3172, h3347⟩
        ·replace h3347 := bnd'_some h3347; obtain ⟨⟨p3173, x3175⟩, h3174, h3347⟩ := h3347
         (try dsimp only at h3347)
         refine W_sound tab_ok mixed 15 _ _ _ ?_
         simp -implicitDefEqProofs only [go_sem, Nat.reduceBEq, Nat.reduceAdd, Nat.reduceLT, Nat.reduceLeDiff, Int.reduceLE, Int.reduceToNat, ↓reduceIte, Int.reduceSub, h3172]
         repeat with_reducible refine And.intro (by first | kernel_rfl | decide) ?_
         refine Wp_callD [2, 4, 0] (c75_3 N _ _ _ _ _ _ _ _ _ _ h3174) rfl rfl rfl (by first | rfl | (simp only [go_sem, Nat.reduceBEq, Nat.reduceAdd, Nat.reduceSub, Nat.reduceMul, Nat.reduceLT, Nat.reduceLeDiff, Int.reduceLE, Int.reduceLT, Int.reduceToNat, Int.reduceBEq, Int.reduceBNe, ↓reduceIte, Int.reduceAdd, Int.reduceSub, Int.reduceGT, Int.reduceGE, h2343, h2346, h2349, g2787, h3172] <;> rfl)) rfl (by kernel_rfl) ?_
         replace h3347 := getT0_some h3347; obtain ⟨h3176, h3347⟩ := h3347
         refine W_sound tab_ok mixed 1 _ _ _ ?_
         simp -implicitDefEqProofs only [go_sem, Nat.reduceBEq, Nat.reduceAdd, Nat.reduceSub, Nat.reduceMul, Nat.reduceLT, h3176]
         repeat with_reducible refine And.intro (by first | kernel_rfl | decide) ?_
         replace h3347 := bnd'_some h3347; obtain ⟨o3349, h3350, h3351⟩ := h3347
         refine Wp_cut (fun s => ∃ x3232, ∃ p3233, ∃ p3234, ∃ c3235, (.inl (x3232, p3233, p3234, c3235)) = o3349 ∧ s = ⟨[], [(0, .dead), (1, .fn 75 [.ptr 0 0]), (2, .ptr 1 0), (4, .sl false 2 0 3 1), (5, .ptr 3 0), (6, .v (.int .i64 x3232)), (7, .dead), (8, .dead), (33, .dead), (47, .dead), (48, .dead), (49, .dead), (50, .dead), (75, .dead), (79, .dead)], [(0, .p [(.int .i64 x3175)]), (1, .p [(.lst false 3 c2348), (.lst false n2350 c2351)]), (2, .r [.sl true 4 n2777 n2778 1, .sl true 4 n2779 n2780 1, .sl true 4 n2781 n2782 1]), (3, .p [(.lst false n2784 c2785), p3233, p3234, .nl]), (4, .p c3235)], 5, []⟩) ?_ ?_
         ·refine Wp_block ?_
          refine Wp_loopG (fun n s => ∃ x3203, ∃ p3204, ∃ p3205, ∃ c3206, m72_L3 N c2348 n2350 c2351 n2777 n2778 n2779 n2780 n2781 n2782 n2784 c2785 x3175 n x3203 p3204 p3205 c3206 = some o3349 ∧ s = ⟨[], [(0, .dead), (1, .fn 75 [.ptr 0 0]), (2, .ptr 1 0), (4, .sl false 2 0 3 1), (5, .ptr 3 0), (6, .v (.int .i64 x3203)), (7, .dead), (8, .dead), (33, .dead), (47, .dead), (48, .dead), (49, .dead), (50, .dead), (75, .dead), (79, .dead)], [(0, .p [(.int .i64 x3175)]), (1, .p [(.lst false 3 c2348), (.lst false n2350 c2351)]), (2, .r [.sl true 4 n2777 n2778 1, .sl true 4 n2779 n2780 1, .sl true 4 n2781 n2782 1]), (3, .p [(.lst false n2784 c2785), p3204, p3205, .nl]), (4, .p c3206)], 5, []⟩) N _ ?_ ⟨_, _, _, _, h3350, rfl⟩ ?_
          ·exact Wk_keep [1, 2, 4, 5, 6] (by kernel_rfl)
          clear h3350
          rintro n _ ⟨x3203, p3204, p3205, c3206, h3350, rfl⟩
          cases n with
          | zero => cases h3350
          | succ n =>
           rw [m72_L3] at h3350
           replace h3350 := casI_some h3350; rcases h3350 with ⟨rfl, h3350⟩ | ⟨_, h3350⟩
           ·replace h3350 := bnd'_some h3350; obtain ⟨⟨p3208, c3210⟩, h3209, h3350⟩ := h3350
            (try dsimp only at h3350)
            refine W_sound tab_ok mixed 10 _ _ _ ?_
            simp -implicitDefEqProofs only [go_sem, Nat.reduceBEq, Nat.reduceAdd, Nat.reduceLT, Nat.reduceLeDiff, Int.reduceLT]
            repeat with_reducible refine And.intro (by first | kernel_rfl | decide) ?_
            refine Wp_callD [4] (c96 N _ _ _ _ _ _ h3209) rfl rfl rfl (by first | rfl | (simp only [go_sem, Nat.reduceBEq, Nat.reduceAdd, Nat.reduceSub, Nat.reduceMul, Nat.reduceLT, Nat.reduceLeDiff, Int.reduceLE, Int.reduceLT, Int.reduceToNat, Int.reduceBEq, Int.reduceBNe, ↓reduceIte, Int.reduceAdd, Int.reduceSub, Int.reduceGT, Int.reduceGE, h2343, h2346, h2349, g2787, h3172, h3176] <;> rfl)) rfl (by kernel_rfl) ?_
            replace h3350 := getB_some h3350; obtain ⟨b3212, h3211, h3350⟩ := h3350
            replace h3350 := brn_some h3350; rcases h3350 with ⟨h3213, h3350⟩ | ⟨h3213, h3350⟩
            ·refine W_sound tab_ok mixed 4 _ _ _ ?_
             simp -implicitDefEqProofs only [go_sem, Nat.reduceBEq, Nat.reduceAdd, Nat.reduceSub, Nat.reduceMul, Nat.reduceLT, h3211, h3213]
             repeat with_reducible refine And.intro (by first | kernel_rfl | decide) ?_
             obtain rfl := Option.some.inj h3350
             refine cutQ _ ?_ ⟨_, _, _, _, rfl, rfl⟩
             exact Wk_keep [1, 2, 4, 5, 6] (by kernel_rfl)
            ·refine W_sound tab_ok mixed 19 _ _ _ ?_
             simp -implicitDefEqProofs only [go_sem, Nat.reduceBEq, Nat.reduceAdd, Nat.reduceSub, Nat.reduceMul, Nat.reduceLT, Int.reduceLE, Int.reduceLT, Int.reduceToNat, ↓reduceIte, Int.reduceSub, h3211, h3213]
             repeat with_reducible refine And.intro (by first | kernel_rfl | decide) ?_
             obtain rfl := Option.some.inj h3350
             (try dsimp only at h3351)
             obtain rfl := Option.some.inj h3351
             (try dsimp only at h3348)
             obtain rfl := Option.some.inj h3348
             (try dsimp only at h3342)
             simp only [Option.some.injEq, Prod.mk.injEq] at h3342; obtain ⟨rfl, rfl⟩ := h3342
             exact finD (st' := ⟨[], [(0, .dead), (1, .dead), (2, .dead), (4, .dead), (5, .dead), (6, .dead), (7, .dead), (8, .dead), (33, .dead), (47, .dead), (48, .dead), (49, .dead), (50, .dead), (75, .dead), (79, .dead)], [(0, .p [(.int .i64 x3175)])], 1, []⟩) (keepE_le [] _) (OLe.refl _) (by kernel_rfl) (by simp only [go_sem, resQ_nil, retD_none]; (try simp [R.val, retD_one, retD_two, retD_three, retD_none]); try assumption)
           ·skip
            replace h3350 := casI_some h3350; rcases h3350 with ⟨rfl, h3350⟩ | ⟨_, h3350⟩
            ·replace h3350 := getL_some h3350; obtain ⟨n3215, c3216, h3214, h3350⟩ := h3350
             replace h3350 := bnd'_some h3350; obtain ⟨⟨p3217, c3219⟩, h3218, h3350⟩ := h3350
             (try dsimp only at h3350)
             refine W_sound tab_ok mixed 10 _ _ _ ?_
             simp -implicitDefEqProofs only [go_sem, Nat.reduceBEq, Nat.reduceAdd, Nat.reduceLT, Nat.reduceLeDiff, Int.reduceLE, Int.reduceLT, Int.reduceToNat, h3214]
             repeat with_reducible refine And.intro (by first | kernel_rfl | decide) ?_
             refine Wp_callD [4] (c96 N _ _ _ _ _ _ h3218) rfl rfl rfl (by first | rfl | (simp only [go_sem, Nat.reduceBEq, Nat.reduceAdd, Nat.reduceSub, Nat.reduceMul, Nat.reduceLT, Nat.reduceLeDiff, Int.reduceLE, Int.reduceLT, Int.reduceToNat, Int.reduceBEq, Int.reduceBNe, ↓reduceIte, Int.reduceAdd, Int.reduceSub, Int.reduceGT, Int.reduceGE, h2343, h2346, h2349, g2787, h3172, h3176, h3214] <;> rfl)) rfl (by kernel_rfl) ?_
             replace h3350 := getB_some h3350; obtain ⟨b3221, h3220, h3350⟩ := h3350
             replace h3350 := brn_some h3350; rcases h3350 with ⟨h3222, h3350⟩ | ⟨h3222, h3350⟩
             ·refine W_sound tab_ok mixed 4 _ _ _ ?_
              simp -implicitDefEqProofs only [go_sem, Nat.reduceBEq, Nat.reduceAdd, Nat.reduceSub, Nat.reduceMul, Nat.reduceLT, h3220, h3222]
              repeat with_reducible refine And.intro (by first | kernel_rfl | decide) ?_
              obtain rfl := Option.some.inj h3350
              refine cutQ _ ?_ ⟨_, _, _, _, rfl, rfl⟩
              exact Wk_keep [1, 2, 4, 5, 6] (by kernel_rfl)
             ·refine W_sound tab_ok mixed 19 _ _ _ ?_
              simp -implicitDefEqProofs only [go_sem, Nat.reduceBEq, Nat.reduceAdd, Nat.reduceSub, Nat.reduceMul, Nat.reduceLT, Int.reduceLE, Int.reduceLT, Int.reduceToNat, ↓reduceIte, Int.reduceSub, h3220, h3222]
              repeat with_reducible refine And.intro (by first | kernel_rfl | decide) ?_
              refine cutQ _ ?_ ⟨n, Nat.lt_succ_self n, _, _, _, _, h3350, rfl⟩
              exact Wk_keep [1, 2, 4, 5, 6] (by kernel_rfl)
            ·skip
             replace h3350 := casI_some h3350; rcases h3350 with ⟨rfl, h3350⟩ | ⟨_, h3350⟩
             ·replace h3350 := getL_some h3350; obtain ⟨n3224, c3225, h3223, h3350⟩ := h3350
              replace h3350 := bnd'_some h3350; obtain ⟨⟨p3226, c3228⟩, h3227, h3350⟩ := h3350
              (try dsimp only at h3350)
              refine W_sound tab_ok mixed 10 _ _ _ ?_
              simp -implicitDefEqProofs only [go_sem, Nat.reduceBEq, Nat.reduceAdd, Nat.reduceLT, Nat.reduceLeDiff, Int.reduceLE, Int.reduceLT, Int.reduceToNat, h3223]
              repeat with_reducible refine And.intro (by first | kernel_rfl | decide) ?_
              refine Wp_callD [4] (c96 N _ _ _ _ _ _ h3227) rfl rfl rfl (by first | rfl | (simp only [go_sem, Nat.reduceBEq, Nat.reduceAdd, Nat.reduceSub, Nat.reduceMul, Nat.reduceLT, Nat.reduceLeDiff, Int.reduceLE, Int.reduceLT, Int.reduceToNat, Int.reduceBEq, Int.reduceBNe, ↓reduceIte, Int.reduceAdd, Int.reduceSub, Int.reduceGT, Int.reduceGE, h2343, h2346, h2349, g2787, h3172, h3176, h3223] <;> rfl)) rfl (by kernel_rfl) ?_
              replace h3350 := getB_some h3350; obtain ⟨b3230, h3229, h3350⟩ := h3350
              replace h3350 := brn_some h3350; rcases h3350 with ⟨h3231, h3350⟩ | ⟨h3231, h3350⟩
              ·refine W_sound tab_ok mixed 4 _ _ _ ?_
               simp -implicitDefEqProofs only [go_sem, Nat.reduceBEq, Nat.reduceAdd, Nat.reduceSub, Nat.reduceMul, Nat.reduceLT, h3229, h3231]
               repeat with_reducible refine And.intro (by first | kernel_rfl | decide) ?_
               obtain rfl := Option.some.inj h3350
               refine cutQ _ ?_ ⟨_, _, _, _, rfl, rfl⟩
               exact Wk_keep [1, 2, 4, 5, 6] (by kernel_rfl)
              ·refine W_sound tab_ok mixed 19 _ _ _ ?_
               simp -implicitDefEqProofs only [go_sem, Nat.reduceBEq, Nat.reduceAdd, Nat.reduceSub, Nat.reduceMul, Nat.reduceLT, Int.reduceLE, Int.reduceLT, Int.reduceToNat, ↓reduceIte, Int.reduceSub, h3229, h3231]
               repeat with_reducible refine And.intro (by first | kernel_rfl | decide) ?_
               refine cutQ _ ?_ ⟨n, Nat.lt_succ_self n, _, _, _, _, h3350, rfl⟩
               exact Wk_keep [1, 2, 4, 5, 6] (by kernel_rfl)
             ·skip
              cases h3350
         ·rintro _ ⟨x3232, p3233, p3234, c3235, rfl, rfl⟩
          (try dsimp only at h3351)
          refine W_sound tab_ok mixed 1 _ _ _ ?_
          simp -implicitDefEqProofs only [go_sem]
          repeat with_reducible refine And.intro (by first | kernel_rfl | decide) ?_
          refine cutQ _ ?_ ⟨n, Nat.lt_succ_self n, _, _, _, _, _, h3351, rfl⟩
          exact Wk_keep [1, 2, 4, 5, 6] (by kernel_rfl)
        ·replace h3347 := casI_some h3347; rcases h3347 with ⟨rfl, h3347⟩ | ⟨_, h3347⟩
         ·replace h3347 := bnd'_some h3347; obtain ⟨⟨n3238, c3239⟩, h3240, h3347⟩ := h3347
          (try dsimp only at h3347)
          refine W_sound tab_ok mixed 19 _ _ _ ?_
          simp -implicitDefEqProofs only [go_sem, Nat.reduceBEq, Nat.reduceAdd, Nat.reduceLT, Nat.reduceLeDiff, Int.reduceLE, Int.reduceLT, Int.reduceToNat, ↓reduceIte, Int.reduceAdd, Int.reduceSub, h3172]
          repeat with_reducible refine And.intro (by first | kernel_rfl | decide) ?_
          refine Wp_callD [] (c53 N _ _ _ h3240) rfl rfl rfl (by first | rfl | (simp only [go_sem, Nat.reduceBEq, Nat.reduceAdd, Nat.reduceSub, Nat.reduceMul, Nat.reduceLT, Nat.reduceLeDiff, Int.reduceLE, Int.reduceLT, Int.reduceToNat, Int.reduceBEq, Int.reduceBNe, ↓reduceIte, Int.reduceAdd, Int.reduceSub, Int.reduceGT, Int.reduceGE, h2343, h2346, h2349, g2787, h3172] <;> rfl)) rfl (by kernel_rfl) ?_
          refine W_sound tab_ok mixed 13 _ _ _ ?_
          simp -implicitDefEqProofs only [go_sem, Nat.reduceBEq, Nat.reduceAdd, Nat.reduceSub, Nat.reduceMul, Nat.reduceLT, Nat.reduceLeDiff, Int.reduceLE, Int.reduceLT, Int.reduceToNat]
          repeat with_reducible refine And.intro (by first | kernel_rfl | decide) ?_
          replace h3347 := bnd'_some h3347; obtain ⟨o3352, h3353, h3354⟩ := h3347
          refine Wp_cut (fun s => ∃ c3266, c3266 = o3352 ∧ s = ⟨[], [(0, .dead), (1, .fn 75 [.ptr 0 0]), (2, .ptr 1 0), (4, .sl false 2 0 3 1), (5, .ptr 3 0), (6, .v (.int .i64 0)), (7, .dead), (8, .dead), (33, .dead), (47, .dead), (48, .dead), (49, .dead), (50, .dead), (75, .dead), (79, .dead)], [(0, .p [(.int .i64 x3168)]), (1, .p [(.lst false 3 c2348), (.lst false n2350 c2351)]), (2, .r [.sl true 4 n2777 n2778 1, .sl true 4 n2779 n2780 1, .sl true 4 n2781 n2782 1]), (3, .r [.v (.lst false n2784 c2785), .sl false 5 0 n3238 1, .v p3170, .v .nl]), (4, .p c3171), (5, .p c3266)], 6, []⟩) ?_ ?_
          ·refine Wp_block ?_
           refine Wp_loopG (fun n s => ∃ x3253, ∃ c3254, m72_L5 N c2348 n2350 c2351 n2777 n2778 n2779 n2780 n2781 n2782 n2784 c2785 x3168 p3170 c3171 n3238 n x3253 c3254 = some o3352 ∧ s = ⟨[], [(0, .dead), (1, .fn 75 [.ptr 0 0]), (2, .ptr 1 0), (4, .sl false 2 0 3 1), (5, .ptr 3 0), (6, .v (.int .i64 0)), (7, .dead), (8, .dead), (33, .dead), (47, .sl true 4 n2777 n2778 1), (48, .v (.int .i64 ((n2778 : Nat) : Int))), (49, .v (.int .i64 x3253)), (50, .dead), (75, .dead), (79, .dead)], [(0, .p [(.int .i64 x3168)]), (1, .p [(.lst false 3 c2348), (.lst false n2350 c2351)]), (2, .r [.sl true 4 n2777 n2778 1, .sl true 4 n2779 n2780 1, .sl true 4 n2781 n2782 1]), (3, .r [.v (.lst false n2784 c2785), .sl false 5 0 n3238 1, .v p3170, .v .nl]), (4, .p c3171), (5, .p c3254)], 6, []⟩) N _ ?_ ⟨_, _, h3353, rfl⟩ ?_
           ·exact Wk_keep [1, 2, 4, 5, 6, 47, 48, 49] (by kernel_rfl)
           clear h3353
           rintro n _ ⟨x3253, c3254, h3353, rfl⟩
           cases n with
           | zero => cases h3353
           | succ n =>
            rw [m72_L5] at h3353
            replace h3353 := brn_some h3353; rcases h3353 with ⟨h3255, h3353⟩ | ⟨h3255, h3353⟩
            ·replace h3353 := grd_some h3353; obtain ⟨⟨g3256, g3257⟩, h3353⟩ := h3353
             replace h3353 := grd_some h3353; obtain ⟨g3258, h3353⟩ := h3353
             replace h3353 := getI_some h3353; obtain ⟨x3260, h3259, h3353⟩ := h3353
             replace h3353 := grd_some h3353; obtain ⟨g3261, h3353⟩ := h3353
             replace h3353 := grd_some h3353; obtain ⟨g3262, h3353⟩ := h3353
             replace h3353 := getI_some h3353; obtain ⟨x3264, h3263, h3353⟩ := h3353
             replace h3353 := grd_some h3353; obtain ⟨g3265, h3353⟩ := h3353
             refine W_sound tab_ok mixed 35 _ _ _ ?_
             simp -implicitDefEqProofs only [go_sem, Nat.reduceBEq, Nat.reduceAdd, Nat.reduceLT, Nat.reduceLeDiff, Int.reduceLE, Int.reduceLT, Int.reduceToNat, ↓reduceIte, Int.reduceAdd, g3256, g3257, g3258, h3259, g3261, g3262, h3263, g3265]
             repeat with_reducible refine And.intro (by first | kernel_rfl | decide) ?_
             (try rw [h3259] at h3353)
             (try rw [h3263] at h3353)
             refine cutQ _ ?_ ⟨n, Nat.lt_succ_self n, _, _, h3353, rfl⟩
             exact Wk_keep [1, 2, 4, 5, 6, 47, 48, 49] (by kernel_rfl)
            ·refine W_sound tab_ok mixed 7 _ _ _ ?_
             simp -implicitDefEqProofs only [go_sem, Nat.reduceBEq, Nat.reduceLT, ↓reduceIte, h3255]
             repeat with_reducible refine And.intro (by first | kernel_rfl | decide) ?_
             obtain rfl := Option.some.inj h3353
             refine cutQ _ ?_ ⟨_, rfl, rfl⟩
             exact Wk_keep [1, 2, 4, 5, 6] (by kernel_rfl)
          ·rintro _ ⟨c3266, rfl, rfl⟩
           refine W_sound tab_ok mixed 7 _ _ _ ?_
           simp -implicitDefEqProofs only [go_sem, Nat.reduceBEq, Nat.reduceLT, Int.reduceLE, Int.reduceToNat, ↓reduceIte, Int.reduceAdd]
           repeat with_reducible refine And.intro (by first | kernel_rfl | decide) ?_
           replace h3354 := grd_some h3354; obtain ⟨g3267, h3354⟩ := h3354
           refine Wp_wkK (Wk_freeze 5 c3266 (by rfl) (by decide) (by decide)) rfl ?_
           simp -implicitDefEqProofs only [go_sem, Nat.reduceBEq, g3267]
           (try simp -implicitDefEqProofs only [go_sem, Nat.reduceBEq, Nat.reduceAdd, Nat.reduceSub, Nat.reduceMul, Nat.reduceLT, Nat.reduceLeDiff, Int.reduceLE, Int.reduceLT, Int.reduceToNat, Int.reduceBEq, Int.reduceBNe, ↓reduceIte, Int.reduceAdd, Int.reduceSub, Int.reduceGT, Int.reduceGE, h2343, h2346, h2349, g2787, h3172, g3267])
           obtain rfl := Option.some.inj h3354
           (try dsimp only at h3348)
           refine Wp_goto _ rfl ?_ ⟨_, Nat.lt_succ_self _, _, _, _, _, _, h3348, rfl⟩
           exact Wk_keep (st' := ⟨[], [(0, .dead), (1, .fn 75 [.ptr 0 0]), (2, .ptr 1 0), (4, .sl false 2 0 3 1), (5, .ptr 3 0), (6, .v (.int .i64 1)), (7, .dead), (8, .dead), (33, .dead), (47, .dead), (48, .dead), (49, .dead), (50, .dead), (75, .dead), (79, .dead)], [(0, .p [(.int .i64 x3168)]), (1, .p [(.lst false 3 c2348), (.lst false n2350 c2351)]), (2, .r [.sl true 4 n2777 n2778 1, .sl true 4 n2779 n2780 1, .sl true 4 n2781 n2782 1]), (3, .p [(.lst false n2784 c2785), (.lst false n3238 c3266), p3170, .nl]), (4, .p c3171)], 5, []⟩) [1, 2, 4, 5, 6] (by kernel_rfl)
         ·skip
          replace h3347 := casI_some h3347; rcases h3347 with ⟨rfl, h3347⟩ | ⟨_, h3347⟩
          ·replace h3347 := getL_some h3347; obtain ⟨n3269, c3270, h3268, h3347⟩ := h3347
           replace h3347 := bnd'_some h3347; obtain ⟨⟨n3271, c3272⟩, h3273, h3347⟩ := h3347
           (try dsimp only at h3347)
           refine W_sound tab_ok mixed 19 _ _ _ ?_
           simp -implicitDefEqProofs only [go_sem, Nat.reduceBEq, Nat.reduceAdd, Nat.reduceLT, Nat.reduceLeDiff, Int.reduceLE, Int.reduceLT, Int.reduceToNat, ↓reduceIte, Int.reduceAdd, Int.reduceSub, h3172, h3268]
           repeat with_reducible refine And.intro (by first | kernel_rfl | decide) ?_
           refine Wp_callD [] (c53 N _ _ _ h3273) rfl rfl rfl (by first | rfl | (simp only [go_sem, Nat.reduceBEq, Nat.reduceAdd, Nat.reduceSub, Nat.reduceMul, Nat.reduceLT, Nat.reduceLeDiff, Int.reduceLE, Int.reduceLT, Int.reduceToNat, Int.reduceBEq, Int.reduceBNe, ↓reduceIte, Int.reduceAdd, Int.reduceSub, Int.reduceGT, Int.reduceGE, h2343, h2346, h2349, g2787, h3172, h3268] <;> rfl)) rfl (by kernel_rfl) ?_
           refine W_sound tab_ok mixed 13 _ _ _ ?_
           simp -implicitDefEqProofs only [go_sem, Nat.reduceBEq, Nat.reduceAdd, Nat.reduceSub, Nat.reduceMul, Nat.reduceLT, Nat.reduceLeDiff, Int.reduceLE, Int.reduceLT, Int.reduceToNat]
           repeat with_reducible refine And.intro (by first | kernel_rfl | decide) ?_
           replace h3347 := bnd'_some h3347; obtain ⟨o3355, h3356, h3357⟩ := h3347
           refine Wp_cut (fun s => ∃ c3299, c3299 = o3355 ∧ s = ⟨[], [(0, .dead), (1, .fn 75 [.ptr 0 0]), (2, .ptr 1 0), (4, .sl false 2 0 3 1), (5, .ptr 3 0), (6, .v (.int .i64 1)), (7, .dead), (8, .dead), (33, .dead), (47, .dead), (48, .dead), (49, .dead), (50, .dead), (75, .dead), (79, .dead)], [(0, .p [(.int .i64 x3168)]), (1, .p [(.lst false 3 c2348), (.lst false n2350 c2351)]), (2, .r [.sl true 4 n2777 n2778 1, .sl true 4 n2779 n2780 1, .sl true 4 n2781 n2782 1]), (3, .r [.v (.lst false n2784 c2785), .v (.lst false n3269 c3270), .sl false 5 0 n3271 1, .v .nl]), (4, .p c3171), (5, .p c3299)], 6, []⟩) ?_ ?_
           ·refine Wp_block ?_
            refine Wp_loopG (fun n s => ∃ x3286, ∃ c3287, m72_L4 N c2348 n2350 c2351 n2777 n2778 n2779 n2780 n2781 n2782 n2784 c2785 x3168 c3171 n3269 c3270 n3271 n x3286 c3287 = some o3355 ∧ s = ⟨[], [(0, .dead), (1, .fn 75 [.ptr 0 0]), (2, .ptr 1 0), (4, .sl false 2 0 3 1), (5, .ptr 3 0), (6, .v (.int .i64 1)), (7, .dead), (8, .dead), (33, .dead), (47, .sl true 4 n2779 n2780 1), (48, .v (.int .i64 ((n2780 : Nat) : Int))), (49, .v (.int .i64 x3286)), (50, .dead), (75, .dead), (79, .dead)], [(0, .p [(.int .i64 x3168)]), (1, .p [(.lst false 3 c2348), (.lst false n2350 c2351)]), (2, .r [.sl true 4 n2777 n2778 1, .sl true 4 n2779 n2780 1, .sl true 4 n2781 n2782 1]), (3, .r [.v (.lst false n2784 c2785), .v (.lst false n3269 c3270), .sl false 5 0 n3271 1, .v .nl]), (4, .p c3171), (5, .p c3287)], 6, []⟩) N _ ?_ ⟨_, _, h3356, rfl⟩ ?_
            ·exact Wk_keep [1, 2, 4, 5, 6, 47, 48, 49] (by kernel_rfl)
            clear h3356
            rintro n _ ⟨x3286, c3287, h3356, rfl⟩
            cases n with
            | zero => cases h3356
            | succ n =>
             rw [m72_L4] at h3356
             replace h3356 := brn_some h3356; rcases h3356 with ⟨h3288, h3356⟩ | ⟨h3288, h3356⟩
             ·replace h3356 := grd_some h3356; obtain ⟨⟨g3289, g3290⟩, h3356⟩ := h3356
              replace h3356 := grd_some h3356; obtain ⟨g3291, h3356⟩ := h3356
              replace h3356 := getI_some h3356; obtain ⟨x3293, h3292, h3356⟩ := h3356
              replace h3356 := grd_some h3356; obtain ⟨g3294, h3356⟩ := h3356
              replace h3356 := grd_some h3356; obtain ⟨g3295, h3356⟩ := h3356
              replace h3356 := getI_some h3356; obtain ⟨x3297, h3296, h3356⟩ := h3356
              replace h3356 := grd_some h3356; obtain ⟨g3298, h3356⟩ := h3356
              refine W_sound tab_ok mixed 35 _ _ _ ?_
              simp -implicitDefEqProofs only [go_sem, Nat.reduceBEq, Nat.reduceAdd, Nat.reduceLT, Nat.reduceLeDiff, Int.reduceLE, Int.reduceLT, Int.reduceToNat, ↓reduceIte, Int.reduceAdd, g3289, g3290, g3291, h3292, g3294, g3295, h3296, g3298]
              repeat with_reducible refine And.intro (by first | kernel_rfl | decide) ?_
              (try rw [h3292] at h3356)
              (try rw [h3296] at h3356)
              refine cutQ _ ?_ ⟨n, Nat.lt_succ_self n, _, _, h3356, rfl⟩
              exact Wk_keep [1, 2, 4, 5, 6, 47, 48, 49] (by kernel_rfl)
             ·refine W_sound tab_ok mixed 7 _ _ _ ?_
              simp -implicitDefEqProofs only [go_sem, Nat.reduceBEq, Nat.reduceLT, ↓reduceIte, h3288]
              repeat with_reducible refine And.intro (by first | kernel_rfl | decide) ?_
              obtain rfl := Option.some.inj h3356
              refine cutQ _ ?_ ⟨_, rfl, rfl⟩
              exact Wk_keep [1, 2, 4, 5, 6] (by kernel_rfl)
           ·rintro _ ⟨c3299, rfl, rfl⟩
            refine W_sound tab_ok mixed 7 _ _ _ ?_
            simp -implicitDefEqProofs only [go_sem, Nat.reduceBEq, Nat.reduceLT, Int.reduceLE, Int.reduceToNat, ↓reduceIte, Int.reduceAdd]
            repeat with_reducible refine And.intro (by first | kernel_rfl | decide) ?_
            replace h3357 := grd_some h3357; obtain ⟨g3300, h3357⟩ := h3357
            refine Wp_wkK (Wk_freeze 5 c3299 (by rfl) (by decide) (by decide)) rfl ?_
            simp -implicitDefEqProofs only [go_sem, Nat.reduceBEq, g3300]
            (try simp -implicitDefEqProofs only [go_sem, Nat.reduceBEq, Nat.reduceAdd, Nat.reduceSub, Nat.reduceMul, Nat.reduceLT, Nat.reduceLeDiff, Int.reduceLE, Int.reduceLT, Int.reduceToNat, Int.reduceBEq, Int.reduceBNe, ↓reduceIte, Int.reduceAdd, Int.reduceSub, Int.reduceGT, Int.reduceGE, h2343, h2346, h2349, g2787, h3172, h3268, g3300])
            obtain rfl := Option.some.inj h3357
            (try dsimp only at h3348)
            refine Wp_goto _ rfl ?_ ⟨_, Nat.lt_succ_self _, _, _, _, _, _, h3348, rfl⟩
            exact Wk_keep (st' := ⟨[], [(0, .dead), (1, .fn 75 [.ptr 0 0]), (2, .ptr 1 0), (4, .sl false 2 0 3 1), (5, .ptr 3 0), (6, .v (.int .i64 2)), (7, .dead), (8, .dead), (33, .dead), (47, .dead), (48, .dead), (49, .dead), (50, .dead), (75, .dead), (79, .dead)], [(0, .p [(.int .i64 x3168)]), (1, .p [(.lst false 3 c2348), (.lst false n2350 c2351)]), (2, .r [.sl true 4 n2777 n2778 1, .sl true 4 n2779 n2780 1, .sl true 4 n2781 n2782 1]), (3, .p [(.lst false n2784 c2785), (.lst false n3269 c3270), (.lst false n3271 c3299), .nl]), (4, .p c3171)], 5, []⟩) [1, 2, 4, 5, 6] (by kernel_rfl)
          ·skip
           replace h3347 := casI_some h3347; rcases h3347 with ⟨rfl, h3347⟩ | ⟨_, h3347⟩
           ·cases h3347
           ·skip
            replace h3347 := casI_some h3347; rcases h3347 with ⟨rfl, h3347⟩ | ⟨_, h3347⟩
            ·replace h3347 := bnd'_some h3347; obtain ⟨⟨n3301, c3302⟩, h3303, h3347⟩ := h3347
             (try dsimp only at h3347)
             refine W_sound tab_ok mixed 19 _ _ _ ?_
             simp -implicitDefEqProofs only [go_sem, Nat.reduceBEq, Nat.reduceAdd, Nat.reduceLT, Nat.reduceLeDiff, Int.reduceLE, Int.reduceLT, Int.reduceToNat, ↓reduceIte, Int.reduceAdd, Int.reduceSub, h3172]
             repeat with_reducible refine And.intro (by first | kernel_rfl | decide) ?_
             refine Wp_callD [] (c53_2 N  _ _ h3303) rfl rfl rfl (by first | rfl | (simp only [go_sem, Nat.reduceBEq, Nat.reduceAdd, Nat.reduceSub, Nat.reduceMul, Nat.reduceLT, Nat.reduceLeDiff, Int.reduceLE, Int.reduceLT, Int.reduceToNat, Int.reduceBEq, Int.reduceBNe, ↓reduceIte, Int.reduceAdd, Int.reduceSub, Int.reduceGT, Int.reduceGE, h2343, h2346, h2349, g2787, h3172] <;> rfl)) rfl (by kernel_rfl) ?_
             cases h3347
            ·skip
             cases h3347
      ·intro _ hf; exact hf.elim
   ·skip
    cases h
noncomputable def m29 (N : Nat) (p1069 : PV) (p1070 : PV) : Option (PV) :=
 getL p1069 fun n1072 c1073 =>
 getA2 p1070 fun p1075 p1076 =>
 bnd' (m25 N (.lst false n1072 c1073) (.agg [p1075, p1076])) fun p1077 =>
 getI .i64 p1077 fun x1080 =>
 brn (x1080 != 0) (
  some (.tup [(.int .i64 0), (.int .i64 x1080)])) (
  bnd' (m72 N (.agg [p1075, p1076]) 0) fun (p3358, x3360) =>
  getT0 p3358 <|
  some (.tup [(.int .i64 x3360), (.int .i64 0)]))
theorem c29 (N : Nat) (p1069 : PV) (p1070 : PV) (r : PV)  (h : m29 N p1069 p1070 = some r) : FnP Try.prog 29 [p1069, p1070] r := by
 unfold m29 at h
 refine Fn_of (sz := 18) tab_ok [0, 1, 3, 4, 5, 6, 7, 12] [.tmp 4, .tmp 5] Try.func29 rfl rfl rfl (by simp) ?_
 simp only [initSt, initEnv, List.map_cons, List.map_nil, List.getD_cons_zero, List.getD_cons_succ, List.getD_nil]
 replace h := getL_some h; obtain ⟨n1072, c1073, h1071, h⟩ := h
 replace h := getA2_some h; obtain ⟨p1075, p1076, h1074, h⟩ := h
 replace h := bnd'_some h; obtain ⟨p1077, h1078, h⟩ := h
 refine W_sound tab_ok mixed 11 _ _ _ ?_
 simp -implicitDefEqProofs only [go_sem, Nat.reduceBEq, Nat.reduceAdd, Nat.reduceLT, Nat.reduceLeDiff, h1071, h1074]
 repeat with_reducible refine And.intro (by first | kernel_rfl | decide) ?_
 refine Wp_callP (c25 N _ _ _ h1078) (by kernel_rfl) rfl rfl rfl rfl (by decide) ?_
 replace h := getI_some h; obtain ⟨x1080, h1079, h⟩ := h
 replace h := brn_some h; rcases h with ⟨h1081, h⟩ | ⟨h1081, h⟩
 ·refine W_sound tab_ok mixed 16 _ _ _ ?_
  simp -implicitDefEqProofs only [go_sem, Nat.reduceBEq, Nat.reduceLT, ↓reduceIte, h1079, h1081]
  repeat with_reducible refine And.intro (by first | kernel_rfl | decide) ?_
  obtain rfl := Option.some.inj h
  exact finC [(4, .v (.int .i64 0)), (5, .v (.int .i64 x1080))] [(4, .v (.int .i64 0)), (5, .v (.int .i64 x1080))] (by simp [leE, lk_cons]) (.cons _ _ _ _ _ (.v _ _ (.refl _)) (.cons _ _ _ _ _ (.v _ _ (.refl _)) .nil)) (by rfl) (by simp [leE, lk_cons]) (by decide) (by decide) rfl (by simp only [go_sem, Nat.reduceBEq, resQ_tmp, resQ_nil, retD_two]; (try simp [R.val, retD_one, retD_two, retD_three, retD_none]); try assumption)
 ·replace h := bnd'_some h; obtain ⟨⟨p3358, x3360⟩, h3359, h⟩ := h
  (try dsimp only at h)
  refine W_sound tab_ok mixed 18 _ _ _ ?_
  simp -implicitDefEqProofs only [go_sem, Nat.reduceBEq, Nat.reduceAdd, Nat.reduceLT, Nat.reduceLeDiff, ↓reduceIte, h1079, h1081]
  repeat with_reducible refine And.intro (by first | kernel_rfl | decide) ?_
  refine Wp_callD [11] (c72 N _ _ _ _ h3359) rfl rfl rfl (by first | rfl | (simp only [go_sem, Nat.reduceBEq, Nat.reduceAdd, Nat.reduceSub, Nat.reduceMul, Nat.reduceLT, Nat.reduceLeDiff, Int.reduceLE, Int.reduceLT, Int.reduceToNat, Int.reduceBEq, Int.reduceBNe, ↓reduceIte, h1071, h1074, h1079, h1081] <;> rfl)) rfl (by kernel_rfl) ?_
  replace h := getT0_some h; obtain ⟨h3361, h⟩ := h
  refine W_sound tab_ok mixed 9 _ _ _ ?_
  simp -implicitDefEqProofs only [go_sem, Nat.reduceBEq, Nat.reduceAdd, Nat.reduceSub, Nat.reduceMul, Nat.reduceLT, h3361]
  repeat with_reducible refine And.intro (by first | kernel_rfl | decide) ?_
  obtain rfl := Option.some.inj h
  exact finC [(4, .v (.int .i64 x3360)), (5, .v (.int .i64 0))] [(4, .v (.int .i64 x3360)), (5, .v (.int .i64 0))] (by simp [leE, lk_cons]) (.cons _ _ _ _ _ (.v _ _ (.refl _)) (.cons _ _ _ _ _ (.v _ _ (.refl _)) .nil)) (by rfl) (by simp [leE, lk_cons]) (by decide) (by decide) rfl (by simp only [go_sem, Nat.reduceBEq, resQ_tmp, resQ_nil, retD_two]; (try simp [R.val, retD_one, retD_two, retD_three, retD_none]); try assumption)
end Go.Proofs.Yteidcinajdehkaa
