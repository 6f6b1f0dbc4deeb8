/-
  TurnBooks: what the functions compute answers as the law says.
  Which contracts two others cover: the mathematics.
  TurnCovered: what the functions compute answers as the law says.
  TurnShifted: what the functions compute answers as the law says.
  TurnFair: what the functions compute answers as the law says.
  TurnNeeded: what the functions compute answers as the law says.
-/
import Derived.Test.YtgnphlpoofaojaaQLawcov
import Derived.Test.YtgnphlpoofaojaaQBothm
import Derived.Test.YtgnphlpoofaojaaB
import Derived.Test.YtgnphlpoofaojaaV33
namespace Go.Proofs.Ytgnphlpoofaojaa
open Go.V
set_option maxRecDepth 100000
set_option maxHeartbeats 4000000
set_option linter.unusedSimpArgs false
set_option linter.unusedVariables false
attribute [local go_sem] tl1 tl2 tl3 tl4 tl5 tl9 tl17 tl21 tl22 tl23 tl24 tl25 tl26 tl27 tl28 tl29 tl31 tl33 tl34 tl36 tl37 tl38 tl39 tl40 tl41 tl42 tl43 tl44 tl46 tl47 tl49 tl50 tl52 tl53 tl54 tl55 tl56 tl57 tl58 tl60 tl62 tl63 tl64 tl65 tl66 tl67 tl68 tl69 tl70 tl71 tl72 tl74 tl75 tl76 tl77 tl78 tl79 tl80 tl81 tl82 tl83 tl84 tl85 tl86 tl87 tl88 tl89 tl90 tl91 tl92 tl93 tl94 tl95 tl96 tl97 tl98 tl99 tl100 tl102 tl103 tl104 tl105 tl106 tl107 tl108 tl109 tl110 tl111 tl112 tl113 tl114 tl115 tl116 tl117 tl118 tl119 tl120 tl121 tl122 tl123 tl124 tl125 tl126 tl127 tl128 tl129 tl130 tl131 tl132 tl133 tl134 tl140 tl141 tl145

def m73 (N : Nat) (p3240 : PV) (p3241 : PV) : Option (PV) :=
  getA2 p3240 fun p3243 p3244 =>
  getA2 p3241 fun p3246 p3247 =>
  getI .i64 p3243 fun x3249 =>
  getI .i64 p3247 fun x3251 =>
  getI .i64 p3246 fun x3253 =>
  getI .i64 p3244 fun x3255 =>
  some (.int .i64 (IntKind.i64.wrap ((IntKind.i64.wrap (x3249 * x3251)) - (IntKind.i64.wrap (x3253 * x3255)))))
theorem c73 (N : Nat) (p3240 : PV) (p3241 : PV) (r : PV)  (h : m73 N p3240 p3241 = some r) : FnP Try.prog 73 [p3240, p3241] r := by
  unfold m73 at h
  refine Fn_of (sz := 16) tab_ok [0, 1, 2, 3, 4] [.tmp 4] Try.func73 rfl rfl rfl (by simp) ?_
  simp only [initSt, initEnv, List.map_cons, List.map_nil, List.getD_cons_zero, List.getD_cons_succ, List.getD_nil]
  have hh := getA2_some h; clear h; obtain ⟨p3243, p3244, h3242, h⟩ := hh
  have hh := getA2_some h; clear h; obtain ⟨p3246, p3247, h3245, h⟩ := hh
  have hh := getI_some h; clear h; obtain ⟨x3249, h3248, h⟩ := hh
  have hh := getI_some h; clear h; obtain ⟨x3251, h3250, h⟩ := hh
  have hh := getI_some h; clear h; obtain ⟨x3253, h3252, h⟩ := hh
  have hh := getI_some h; clear h; obtain ⟨x3255, h3254, h⟩ := hh
  refine W_sound tab_ok mixed 23 _ _ _ ?_
  simp -implicitDefEqProofs only [go_sem, ne_eq, not_false_eq_true, Nat.reduceBEq, Nat.reduceAdd, Nat.reduceSub, Nat.reduceMul, Nat.reduceLT, Nat.reduceLeDiff, Int.reduceLE, Int.reduceLT, Int.reduceToNat, Int.reduceBEq, Int.reduceBNe, Int.le_refl, Nat.le_refl, decide_true, decide_false, Int.cast_ofNat_Int, ↓reduceIte, h3242, h3245, h3248, h3250, h3252, h3254]
  repeat with_reducible refine And.intro (by first | kernel_rfl | decide) ?_
  obtain rfl := Option.some.inj h
  exact finC [(4, .v (.int .i64 (IntKind.i64.wrap ((IntKind.i64.wrap (x3249 * x3251)) - (IntKind.i64.wrap (x3253 * x3255))))))] [(4, .v (.int .i64 (IntKind.i64.wrap ((IntKind.i64.wrap (x3249 * x3251)) - (IntKind.i64.wrap (x3253 * x3255))))))] (by simp [leE, lk_cons]) (.cons _ _ _ _ _ (.v _ _ (.refl _)) .nil) (by rfl) (by simp [leE, lk_cons]) (by decide) (by decide) rfl (by simp only [go_sem, ne_eq, not_false_eq_true, Nat.reduceBEq, Nat.reduceAdd, Nat.reduceSub, Nat.reduceMul, Nat.reduceLT, Nat.reduceLeDiff, Int.reduceLE, Int.reduceLT, Int.reduceToNat, Int.reduceBEq, Int.reduceBNe, Int.le_refl, Nat.le_refl, decide_true, decide_false, Int.cast_ofNat_Int, ↓reduceIte, resQ_tmp, resQ_cell, resQ_nil, retD_one, retD_two, retD_three, retD_none]; try simp [R.val, retD_one, retD_two, retD_three, retD_none])

def m34_L0 (N : Nat) (n3156 : Nat) (c3157 : List PV) (n3159 : Nat) (c3160 : List PV) : Nat → Int → Option ((PV ⊕ Unit))
  | 0, _ => none
  | n + 1, x3161 =>
    brn (decide (x3161 < 2)) (
      grd (0 ≤ x3161 ∧ x3161 < 2) <|
      grd ((Int.toNat x3161) < 2) <|
      getL (gp [(.lst false n3156 c3157), (.lst false n3159 c3160)] (Int.toNat x3161)) fun n3167 c3168 =>
      bnd' (m22 N (.lst false n3167 c3168)) fun p3169 =>
      getI .i64 p3169 fun x3172 =>
      brn (x3172 != 0) (
        some (.inl (.tup [(.lst false 0 []), (.int .i64 x3172)]))) (
        m34_L0 N n3156 c3157 n3159 c3160 n (IntKind.i64.wrap (x3161 + 1)))) (
      some (.inr ()))
def m34_L1 (N : Nat) (n3156 : Nat) (c3157 : List PV) (n3159 : Nat) (c3160 : List PV) (n3178 : Nat) (c3179 : List PV) (n3183 : Nat) (c3184 : List PV) (n3188 : Nat) (c3189 : List PV) (n3193 : Nat) (c3194 : List PV) : Nat → Nat → Int → Int → List PV → Option (PV)
  | 0, _, _, _, _ => none
  | n + 1, n3315, x3316, x3317, c3318 =>
    grd (0 ≤ x3316 ∧ x3316 < ((n3178 : Nat) : Int)) <|
    grd (0 < List.length (List.drop (Int.toNat x3316) c3179)) <|
    getI .i64 (gp c3179 (Int.toNat x3316)) fun x3323 =>
    grd (0 ≤ x3323 ∧ x3323 < ((n3156 : Nat) : Int)) <|
    grd (2 ≤ List.length (List.drop ((Int.toNat x3323) * 2) c3157)) <|
    getA2 (.agg (List.take 2 (List.drop ((Int.toNat x3323) * 2) c3157))) fun p3328 p3329 =>
    grd (0 ≤ x3317 ∧ x3317 < ((n3183 : Nat) : Int)) <|
    grd (0 < List.length (List.drop (Int.toNat x3317) c3184)) <|
    getI .i64 (gp c3184 (Int.toNat x3317)) fun x3334 =>
    grd (0 ≤ x3334 ∧ x3334 < ((n3159 : Nat) : Int)) <|
    grd (2 ≤ List.length (List.drop ((Int.toNat x3334) * 2) c3160)) <|
    getA2 (.agg (List.take 2 (List.drop ((Int.toNat x3334) * 2) c3160))) fun p3339 p3340 =>
    getI .i64 p3328 fun x3342 =>
    getI .i64 p3329 fun x3344 =>
    getI .i64 p3339 fun x3346 =>
    getI .i64 p3340 fun x3348 =>
    grd ((n3315 + 1) ≤ 1099511627776) <|
    grd (List.length c3318 = (n3315 * 2)) <|
    brn (x3316 == ((n3188 : Nat) : Int)) (
      brn (x3317 == ((n3193 : Nat) : Int)) (
        grd (List.length (c3318 ++ [(.int .i64 (IntKind.i64.wrap (x3342 + x3346))), (.int .i64 (IntKind.i64.wrap (x3344 + x3348)))]) = ((n3315 + 1) * 2)) <|
        some (.tup [(.lst false (n3315 + 1) (c3318 ++ [(.int .i64 (IntKind.i64.wrap (x3342 + x3346))), (.int .i64 (IntKind.i64.wrap (x3344 + x3348)))])), (.int .i64 0)])) (
        m34_L1 N n3156 c3157 n3159 c3160 n3178 c3179 n3183 c3184 n3188 c3189 n3193 c3194 n (n3315 + 1) x3316 (IntKind.i64.wrap (x3317 + 1)) (c3318 ++ [(.int .i64 (IntKind.i64.wrap (x3342 + x3346))), (.int .i64 (IntKind.i64.wrap (x3344 + x3348)))]))) (
      brn (x3317 == ((n3193 : Nat) : Int)) (
        m34_L1 N n3156 c3157 n3159 c3160 n3178 c3179 n3183 c3184 n3188 c3189 n3193 c3194 n (n3315 + 1) (IntKind.i64.wrap (x3316 + 1)) x3317 (c3318 ++ [(.int .i64 (IntKind.i64.wrap (x3342 + x3346))), (.int .i64 (IntKind.i64.wrap (x3344 + x3348)))])) (
        grd (x3316 < ((n3188 : Nat) : Int)) <|
        grd (2 ≤ List.length (List.drop ((Int.toNat x3316) * 2) c3189)) <|
        getA2 (.agg (List.take 2 (List.drop ((Int.toNat x3316) * 2) c3189))) fun p3358 p3359 =>
        grd (x3317 < ((n3193 : Nat) : Int)) <|
        grd (2 ≤ List.length (List.drop ((Int.toNat x3317) * 2) c3194)) <|
        getA2 (.agg (List.take 2 (List.drop ((Int.toNat x3317) * 2) c3194))) fun p3363 p3364 =>
        bnd' (m73 N (.agg [p3358, p3359]) (.agg [p3363, p3364])) fun p3365 =>
        getI .i64 p3365 fun x3368 =>
        brn (decide (x3368 ≤ 0)) (
          brn (decide (x3368 ≥ 0)) (
            m34_L1 N n3156 c3157 n3159 c3160 n3178 c3179 n3183 c3184 n3188 c3189 n3193 c3194 n (n3315 + 1) (IntKind.i64.wrap (x3316 + 1)) (IntKind.i64.wrap (x3317 + 1)) (c3318 ++ [(.int .i64 (IntKind.i64.wrap (x3342 + x3346))), (.int .i64 (IntKind.i64.wrap (x3344 + x3348)))])) (
            m34_L1 N n3156 c3157 n3159 c3160 n3178 c3179 n3183 c3184 n3188 c3189 n3193 c3194 n (n3315 + 1) (IntKind.i64.wrap (x3316 + 1)) x3317 (c3318 ++ [(.int .i64 (IntKind.i64.wrap (x3342 + x3346))), (.int .i64 (IntKind.i64.wrap (x3344 + x3348)))]))) (
          brn (decide (x3368 ≥ 0)) (
            m34_L1 N n3156 c3157 n3159 c3160 n3178 c3179 n3183 c3184 n3188 c3189 n3193 c3194 n (n3315 + 1) x3316 (IntKind.i64.wrap (x3317 + 1)) (c3318 ++ [(.int .i64 (IntKind.i64.wrap (x3342 + x3346))), (.int .i64 (IntKind.i64.wrap (x3344 + x3348)))])) (
            m34_L1 N n3156 c3157 n3159 c3160 n3178 c3179 n3183 c3184 n3188 c3189 n3193 c3194 n (n3315 + 1) x3316 x3317 (c3318 ++ [(.int .i64 (IntKind.i64.wrap (x3342 + x3346))), (.int .i64 (IntKind.i64.wrap (x3344 + x3348)))])))))
def m34 (N : Nat) (p3153 : PV) (p3154 : PV) : Option (PV) :=
  getL p3153 fun n3156 c3157 =>
  getL p3154 fun n3159 c3160 =>
  bnd' (m34_L0 N n3156 c3157 n3159 c3160 N 0) fun o =>
  match o with
  | .inl p3174 =>
    some p3174
  | .inr () =>
    bnd' (m65 N (.lst false n3156 c3157)) fun p3175 =>
    getL p3175 fun n3178 c3179 =>
    bnd' (m65 N (.lst false n3159 c3160)) fun p3180 =>
    getL p3180 fun n3183 c3184 =>
    bnd' (m67 N (.lst false n3156 c3157)) fun p3185 =>
    getL p3185 fun n3188 c3189 =>
    bnd' (m67 N (.lst false n3159 c3160)) fun p3190 =>
    getL p3190 fun n3193 c3194 =>
    bnd' (m34_L1 N n3156 c3157 n3159 c3160 n3178 c3179 n3183 c3184 n3188 c3189 n3193 c3194 N 0 0 0 []) fun o =>
    match o with
    | p3372 =>
      some p3372
theorem c34 (N : Nat) (p3153 : PV) (p3154 : PV) (r : PV)  (h : m34 N p3153 p3154 = some r) : FnP Try.prog 34 [p3153, p3154] r := by
  unfold m34 at h
  refine Fn_of (sz := 112) tab_ok [0, 1, 4, 5, 7, 8, 9, 10, 11, 12, 13, 14, 15, 16, 17, 18, 21, 22, 23, 24, 30, 79, 83, 86, 98, 105] [.tmp 4, .tmp 5] Try.func34 rfl rfl rfl (by simp) ?_
  simp only [initSt, initEnv, List.map_cons, List.map_nil, List.getD_cons_zero, List.getD_cons_succ, List.getD_nil]
  have hh := getL_some h; clear h; obtain ⟨n3156, c3157, h3155, h⟩ := hh
  have hh := getL_some h; clear h; obtain ⟨n3159, c3160, h3158, h⟩ := hh
  refine W_sound tab_ok mixed 14 _ _ _ ?_
  simp -implicitDefEqProofs only [go_sem, ne_eq, not_false_eq_true, Nat.reduceBEq, Nat.reduceAdd, Nat.reduceSub, Nat.reduceMul, Nat.reduceLT, Nat.reduceLeDiff, Int.reduceLE, Int.reduceLT, Int.reduceToNat, Int.reduceBEq, Int.reduceBNe, Int.le_refl, Nat.le_refl, decide_true, decide_false, Int.cast_ofNat_Int, ↓reduceIte, h3155, h3158]
  repeat with_reducible refine And.intro (by first | kernel_rfl | decide) ?_
  have hh := bnd'_some h; clear h; obtain ⟨o3373, h3374, h3375⟩ := hh
  refine Wp_cut (fun s => (.inr ()) = o3373 ∧ s = ⟨[], [(0, .v (.lst false n3156 c3157)), (1, .v (.lst false n3159 c3160)), (4, .dead), (5, .dead), (7, .dead), (8, .dead), (9, .dead), (10, .dead), (11, .dead), (12, .dead), (13, .dead), (14, .dead), (15, .dead), (16, .dead), (17, .dead), (18, .dead), (21, .dead), (22, .dead), (23, .dead), (24, .dead), (30, .dead), (79, .dead), (83, .dead), (86, .dead), (98, .dead), (105, .dead)], [], 0, []⟩) ?_ ?_
  · refine Wp_block ?_
    refine Wp_loopG (fun n s => ∃ x3161, m34_L0 N n3156 c3157 n3159 c3160 n x3161 = some o3373 ∧ s = ⟨[], [(0, .v (.lst false n3156 c3157)), (1, .v (.lst false n3159 c3160)), (4, .dead), (5, .dead), (7, .dead), (8, .dead), (9, .dead), (10, .dead), (11, .dead), (12, .dead), (13, .dead), (14, .dead), (15, .dead), (16, .dead), (17, .dead), (18, .dead), (21, .sl true 0 0 2 1), (22, .v (.int .i64 2)), (23, .v (.int .i64 x3161)), (24, .dead), (30, .dead), (79, .dead), (83, .dead), (86, .dead), (98, .dead), (105, .dead)], [(0, .p [(.lst false n3156 c3157), (.lst false n3159 c3160)])], 1, []⟩) N _ ((Wk_le (.cons _ _ _ _ _ (.refl _) (.cons _ _ _ _ _ (.refl _) (.cons _ _ _ _ _ (.dead _) (.cons _ _ _ _ _ (.dead _) (.cons _ _ _ _ _ (.refl _) (.cons _ _ _ _ _ (.refl _) (.cons _ _ _ _ _ (.refl _) (.cons _ _ _ _ _ (.refl _) (.cons _ _ _ _ _ (.refl _) (.cons _ _ _ _ _ (.refl _) (.cons _ _ _ _ _ (.refl _) (.cons _ _ _ _ _ (.refl _) (.cons _ _ _ _ _ (.refl _) (.cons _ _ _ _ _ (.refl _) (.cons _ _ _ _ _ (.refl _) (.cons _ _ _ _ _ (.refl _) (.cons _ _ _ _ _ (.refl _) (.cons _ _ _ _ _ (.refl _) (.cons _ _ _ _ _ (.refl _) (.cons _ _ _ _ _ (.refl _) (.cons _ _ _ _ _ (.refl _) (.cons _ _ _ _ _ (.refl _) (.cons _ _ _ _ _ (.refl _) (.cons _ _ _ _ _ (.refl _) (.cons _ _ _ _ _ (.refl _) (.cons _ _ _ _ _ (.refl _) .nil)))))))))))))))))))))))))) (OLe.refl _)).trans (cmpS_ok (st' := ⟨[], [(0, .v (.lst false n3156 c3157)), (1, .v (.lst false n3159 c3160)), (4, .dead), (5, .dead), (7, .dead), (8, .dead), (9, .dead), (10, .dead), (11, .dead), (12, .dead), (13, .dead), (14, .dead), (15, .dead), (16, .dead), (17, .dead), (18, .dead), (21, .sl true 0 0 2 1), (22, .v (.int .i64 2)), (23, .v (.int .i64 0)), (24, .dead), (30, .dead), (79, .dead), (83, .dead), (86, .dead), (98, .dead), (105, .dead)], [(0, .p [(.lst false n3156 c3157), (.lst false n3159 c3160)])], 1, []⟩) (by kernel_rfl))) ⟨_, h3374, rfl⟩ ?_
    clear h3374
    rintro n _ ⟨x3161, h3374, rfl⟩
    cases n with
    | zero => cases h3374
    | succ n =>
      rw [m34_L0] at h3374
      have hh := brn_some h3374; clear h3374; rcases hh with ⟨h3162, h3374⟩ | ⟨h3162, h3374⟩
      · have hh := grd_some h3374; clear h3374; obtain ⟨⟨g3163, g3164⟩, h3374⟩ := hh
        have hh := grd_some h3374; clear h3374; obtain ⟨g3165, h3374⟩ := hh
        have hh := getL_some h3374; clear h3374; obtain ⟨n3167, c3168, h3166, h3374⟩ := hh
        have hh := bnd'_some h3374; clear h3374; obtain ⟨p3169, h3170, h3374⟩ := hh
        refine W_sound tab_ok mixed 18 _ _ _ ?_
        simp -implicitDefEqProofs only [go_sem, ne_eq, not_false_eq_true, Nat.reduceBEq, Nat.reduceAdd, Nat.reduceSub, Nat.reduceMul, Nat.reduceLT, Nat.reduceLeDiff, Int.reduceLE, Int.reduceLT, Int.reduceToNat, Int.reduceBEq, Int.reduceBNe, Int.le_refl, Nat.le_refl, decide_true, decide_false, Int.cast_ofNat_Int, ↓reduceIte, h3155, h3158, h3162, g3163, g3164, g3165, h3166]
        repeat with_reducible refine And.intro (by first | kernel_rfl | decide) ?_
        refine Wp_callP (c22 N _ _ h3170) (by kernel_rfl) rfl rfl rfl rfl (by decide) ?_
        have hh := getI_some h3374; clear h3374; obtain ⟨x3172, h3171, h3374⟩ := hh
        have hh := brn_some h3374; clear h3374; rcases hh with ⟨h3173, h3374⟩ | ⟨h3173, h3374⟩
        · refine W_sound tab_ok mixed 16 _ _ _ ?_
          simp -implicitDefEqProofs only [go_sem, ne_eq, not_false_eq_true, Nat.reduceBEq, Nat.reduceAdd, Nat.reduceSub, Nat.reduceMul, Nat.reduceLT, Nat.reduceLeDiff, Int.reduceLE, Int.reduceLT, Int.reduceToNat, Int.reduceBEq, Int.reduceBNe, Int.le_refl, Nat.le_refl, decide_true, decide_false, Int.cast_ofNat_Int, ↓reduceIte, h3155, h3158, h3162, g3163, g3164, g3165, h3166, h3171, h3173]
          repeat with_reducible refine And.intro (by first | kernel_rfl | decide) ?_
          obtain rfl := Option.some.inj h3374
          (try dsimp only at h3375)
          obtain rfl := Option.some.inj h3375
          exact finC [(4, .v .nl), (5, .v (.int .i64 x3172))] [(4, .v (.lst false 0 [])), (5, .v (.int .i64 x3172))] (by simp [leE, lk_cons]) (.cons _ _ _ _ _ (.v _ _ (.nl false)) (.cons _ _ _ _ _ (.v _ _ (.refl _)) .nil)) (by rfl) (by simp [leE, lk_cons]) (by decide) (by decide) rfl (by simp only [go_sem, ne_eq, not_false_eq_true, Nat.reduceBEq, Nat.reduceAdd, Nat.reduceSub, Nat.reduceMul, Nat.reduceLT, Nat.reduceLeDiff, Int.reduceLE, Int.reduceLT, Int.reduceToNat, Int.reduceBEq, Int.reduceBNe, Int.le_refl, Nat.le_refl, decide_true, decide_false, Int.cast_ofNat_Int, ↓reduceIte, resQ_tmp, resQ_cell, resQ_nil, retD_one, retD_two, retD_three, retD_none]; try simp [R.val, retD_one, retD_two, retD_three, retD_none])
        · refine W_sound tab_ok mixed 14 _ _ _ ?_
          simp -implicitDefEqProofs only [go_sem, ne_eq, not_false_eq_true, Nat.reduceBEq, Nat.reduceAdd, Nat.reduceSub, Nat.reduceMul, Nat.reduceLT, Nat.reduceLeDiff, Int.reduceLE, Int.reduceLT, Int.reduceToNat, Int.reduceBEq, Int.reduceBNe, Int.le_refl, Nat.le_refl, decide_true, decide_false, Int.cast_ofNat_Int, ↓reduceIte, h3155, h3158, h3162, g3163, g3164, g3165, h3166, h3171, h3173]
          repeat with_reducible refine And.intro (by first | kernel_rfl | decide) ?_
          exact cutQ _ ((Wk_le (.cons _ _ _ _ _ (.refl _) (.cons _ _ _ _ _ (.refl _) (.cons _ _ _ _ _ (.refl _) (.cons _ _ _ _ _ (.refl _) (.cons _ _ _ _ _ (.dead _) (.cons _ _ _ _ _ (.dead _) (.cons _ _ _ _ _ (.refl _) (.cons _ _ _ _ _ (.refl _) (.cons _ _ _ _ _ (.refl _) (.cons _ _ _ _ _ (.refl _) (.cons _ _ _ _ _ (.refl _) (.cons _ _ _ _ _ (.refl _) (.cons _ _ _ _ _ (.refl _) (.cons _ _ _ _ _ (.refl _) (.cons _ _ _ _ _ (.refl _) (.cons _ _ _ _ _ (.refl _) (.cons _ _ _ _ _ (.refl _) (.cons _ _ _ _ _ (.refl _) (.cons _ _ _ _ _ (.refl _) (.cons _ _ _ _ _ (.dead _) (.cons _ _ _ _ _ (.dead _) (.cons _ _ _ _ _ (.refl _) (.cons _ _ _ _ _ (.refl _) (.cons _ _ _ _ _ (.refl _) (.cons _ _ _ _ _ (.refl _) (.cons _ _ _ _ _ (.refl _) .nil)))))))))))))))))))))))))) (OLe.refl _)).trans (cmpS_ok (st' := ⟨[], [(0, .v (.lst false n3156 c3157)), (1, .v (.lst false n3159 c3160)), (4, .dead), (5, .dead), (7, .dead), (8, .dead), (9, .dead), (10, .dead), (11, .dead), (12, .dead), (13, .dead), (14, .dead), (15, .dead), (16, .dead), (17, .dead), (18, .dead), (21, .sl true 0 0 2 1), (22, .v (.int .i64 2)), (23, .v (.int .i64 (IntKind.i64.wrap (x3161 + 1)))), (24, .dead), (30, .dead), (79, .dead), (83, .dead), (86, .dead), (98, .dead), (105, .dead)], [(0, .p [(.lst false n3156 c3157), (.lst false n3159 c3160)])], 1, []⟩) (by kernel_rfl))) ⟨n, Nat.lt_succ_self n, _, h3374, rfl⟩
      · refine W_sound tab_ok mixed 7 _ _ _ ?_
        simp -implicitDefEqProofs only [go_sem, ne_eq, not_false_eq_true, Nat.reduceBEq, Nat.reduceAdd, Nat.reduceSub, Nat.reduceMul, Nat.reduceLT, Nat.reduceLeDiff, Int.reduceLE, Int.reduceLT, Int.reduceToNat, Int.reduceBEq, Int.reduceBNe, Int.le_refl, Nat.le_refl, decide_true, decide_false, Int.cast_ofNat_Int, ↓reduceIte, h3155, h3158, h3162]
        repeat with_reducible refine And.intro (by first | kernel_rfl | decide) ?_
        obtain rfl := Option.some.inj h3374
        exact cutQ _ ((Wk_le (.cons _ _ _ _ _ (.refl _) (.cons _ _ _ _ _ (.refl _) (.cons _ _ _ _ _ (.refl _) (.cons _ _ _ _ _ (.refl _) (.cons _ _ _ _ _ (.refl _) (.cons _ _ _ _ _ (.refl _) (.cons _ _ _ _ _ (.refl _) (.cons _ _ _ _ _ (.refl _) (.cons _ _ _ _ _ (.refl _) (.cons _ _ _ _ _ (.refl _) (.cons _ _ _ _ _ (.refl _) (.cons _ _ _ _ _ (.refl _) (.cons _ _ _ _ _ (.refl _) (.cons _ _ _ _ _ (.refl _) (.cons _ _ _ _ _ (.refl _) (.cons _ _ _ _ _ (.refl _) (.cons _ _ _ _ _ (.dead _) (.cons _ _ _ _ _ (.dead _) (.cons _ _ _ _ _ (.dead _) (.cons _ _ _ _ _ (.dead _) (.cons _ _ _ _ _ (.refl _) (.cons _ _ _ _ _ (.refl _) (.cons _ _ _ _ _ (.refl _) (.cons _ _ _ _ _ (.refl _) (.cons _ _ _ _ _ (.refl _) (.cons _ _ _ _ _ (.refl _) .nil)))))))))))))))))))))))))) (OLe.refl _)).trans (cmpS_ok (st' := ⟨[], [(0, .v (.lst false n3156 c3157)), (1, .v (.lst false n3159 c3160)), (4, .dead), (5, .dead), (7, .dead), (8, .dead), (9, .dead), (10, .dead), (11, .dead), (12, .dead), (13, .dead), (14, .dead), (15, .dead), (16, .dead), (17, .dead), (18, .dead), (21, .dead), (22, .dead), (23, .dead), (24, .dead), (30, .dead), (79, .dead), (83, .dead), (86, .dead), (98, .dead), (105, .dead)], [], 0, []⟩) (by kernel_rfl))) ⟨rfl, rfl⟩
  · rintro _ ⟨rfl, rfl⟩
    (try dsimp only at h3375)
    have hh := bnd'_some h3375; clear h3375; obtain ⟨p3175, h3176, h3375⟩ := hh
    refine W_sound tab_ok mixed 3 _ _ _ ?_
    simp -implicitDefEqProofs only [go_sem, ne_eq, not_false_eq_true, Nat.reduceBEq, Nat.reduceAdd, Nat.reduceSub, Nat.reduceMul, Nat.reduceLT, Nat.reduceLeDiff, Int.reduceLE, Int.reduceLT, Int.reduceToNat, Int.reduceBEq, Int.reduceBNe, Int.le_refl, Nat.le_refl, decide_true, decide_false, Int.cast_ofNat_Int, ↓reduceIte, h3155, h3158]
    repeat with_reducible refine And.intro (by first | kernel_rfl | decide) ?_
    refine Wp_callP (c65 N _ _ h3176) (by kernel_rfl) rfl rfl rfl rfl (by decide) ?_
    have hh := getL_some h3375; clear h3375; obtain ⟨n3178, c3179, h3177, h3375⟩ := hh
    have hh := bnd'_some h3375; clear h3375; obtain ⟨p3180, h3181, h3375⟩ := hh
    refine W_sound tab_ok mixed 1 _ _ _ ?_
    simp -implicitDefEqProofs only [go_sem, ne_eq, not_false_eq_true, Nat.reduceBEq, Nat.reduceAdd, Nat.reduceSub, Nat.reduceMul, Nat.reduceLT, Nat.reduceLeDiff, Int.reduceLE, Int.reduceLT, Int.reduceToNat, Int.reduceBEq, Int.reduceBNe, Int.le_refl, Nat.le_refl, decide_true, decide_false, Int.cast_ofNat_Int, ↓reduceIte, h3155, h3158, h3177]
    repeat with_reducible refine And.intro (by first | kernel_rfl | decide) ?_
    refine Wp_callP (c65 N _ _ h3181) (by kernel_rfl) rfl rfl rfl rfl (by decide) ?_
    have hh := getL_some h3375; clear h3375; obtain ⟨n3183, c3184, h3182, h3375⟩ := hh
    have hh := bnd'_some h3375; clear h3375; obtain ⟨p3185, h3186, h3375⟩ := hh
    refine W_sound tab_ok mixed 6 _ _ _ ?_
    simp -implicitDefEqProofs only [go_sem, ne_eq, not_false_eq_true, Nat.reduceBEq, Nat.reduceAdd, Nat.reduceSub, Nat.reduceMul, Nat.reduceLT, Nat.reduceLeDiff, Int.reduceLE, Int.reduceLT, Int.reduceToNat, Int.reduceBEq, Int.reduceBNe, Int.le_refl, Nat.le_refl, decide_true, decide_false, Int.cast_ofNat_Int, ↓reduceIte, h3155, h3158, h3177, h3182]
    repeat with_reducible refine And.intro (by first | kernel_rfl | decide) ?_
    refine Wp_callP (c67 N _ _ h3186) (by kernel_rfl) rfl rfl rfl rfl (by decide) ?_
    have hh := getL_some h3375; clear h3375; obtain ⟨n3188, c3189, h3187, h3375⟩ := hh
    have hh := bnd'_some h3375; clear h3375; obtain ⟨p3190, h3191, h3375⟩ := hh
    refine W_sound tab_ok mixed 1 _ _ _ ?_
    simp -implicitDefEqProofs only [go_sem, ne_eq, not_false_eq_true, Nat.reduceBEq, Nat.reduceAdd, Nat.reduceSub, Nat.reduceMul, Nat.reduceLT, Nat.reduceLeDiff, Int.reduceLE, Int.reduceLT, Int.reduceToNat, Int.reduceBEq, Int.reduceBNe, Int.le_refl, Nat.le_refl, decide_true, decide_false, Int.cast_ofNat_Int, ↓reduceIte, h3155, h3158, h3177, h3182, h3187]
    repeat with_reducible refine And.intro (by first | kernel_rfl | decide) ?_
    refine Wp_callP (c67 N _ _ h3191) (by kernel_rfl) rfl rfl rfl rfl (by decide) ?_
    have hh := getL_some h3375; clear h3375; obtain ⟨n3193, c3194, h3192, h3375⟩ := hh
    refine W_sound tab_ok mixed 12 _ _ _ ?_
    simp -implicitDefEqProofs only [go_sem, ne_eq, not_false_eq_true, Nat.reduceBEq, Nat.reduceAdd, Nat.reduceSub, Nat.reduceMul, Nat.reduceLT, Nat.reduceLeDiff, Int.reduceLE, Int.reduceLT, Int.reduceToNat, Int.reduceBEq, Int.reduceBNe, Int.le_refl, Nat.le_refl, decide_true, decide_false, Int.cast_ofNat_Int, ↓reduceIte, h3155, h3158, h3177, h3182, h3187, h3192]
    repeat with_reducible refine And.intro (by first | kernel_rfl | decide) ?_
    refine Wp_weaken (Wk_ownS 13 2 rfl (by decide) (by decide)) ?_
    simp -implicitDefEqProofs only [go_sem, ne_eq, not_false_eq_true, Nat.reduceBEq, Nat.reduceAdd, Nat.reduceSub, Nat.reduceMul, Nat.reduceLT, Nat.reduceLeDiff, Int.reduceLE, Int.reduceLT, Int.reduceToNat, Int.reduceBEq, Int.reduceBNe, Int.le_refl, Nat.le_refl, decide_true, decide_false, Int.cast_ofNat_Int, ↓reduceIte, h3155, h3158, h3177, h3182, h3187, h3192]
    have hh := bnd'_some h3375; clear h3375; obtain ⟨o3376, h3377, h3378⟩ := hh
    refine Wp_cut (fun _ => False) ?_ ?_
    · refine Wp_block ?_
      refine Wp_loopG (fun n s => ∃ n3315, ∃ x3316, ∃ x3317, ∃ c3318, m34_L1 N n3156 c3157 n3159 c3160 n3178 c3179 n3183 c3184 n3188 c3189 n3193 c3194 n n3315 x3316 x3317 c3318 = some o3376 ∧ s = ⟨[], [(0, .v (.lst false n3156 c3157)), (1, .v (.lst false n3159 c3160)), (4, .dead), (5, .dead), (7, .dead), (8, .dead), (9, .v (.lst false n3178 c3179)), (10, .v (.lst false n3183 c3184)), (11, .v (.lst false n3188 c3189)), (12, .v (.lst false n3193 c3194)), (13, .sl false 0 0 n3315 2), (14, .v (.int .i64 x3316)), (15, .v (.int .i64 x3317)), (16, .dead), (17, .dead), (18, .dead), (21, .dead), (22, .dead), (23, .dead), (24, .dead), (30, .dead), (79, .dead), (83, .dead), (86, .dead), (98, .dead), (105, .dead)], [(0, .p c3318)], 1, []⟩) N _ ((Wk_le (.cons _ _ _ _ _ (.refl _) (.cons _ _ _ _ _ (.refl _) (.cons _ _ _ _ _ (.refl _) (.cons _ _ _ _ _ (.refl _) (.cons _ _ _ _ _ (.refl _) (.cons _ _ _ _ _ (.refl _) (.cons _ _ _ _ _ (.refl _) (.cons _ _ _ _ _ (.refl _) (.cons _ _ _ _ _ (.refl _) (.cons _ _ _ _ _ (.refl _) (.cons _ _ _ _ _ (.refl _) (.cons _ _ _ _ _ (.refl _) (.cons _ _ _ _ _ (.refl _) (.cons _ _ _ _ _ (.refl _) (.cons _ _ _ _ _ (.refl _) (.cons _ _ _ _ _ (.refl _) (.cons _ _ _ _ _ (.refl _) (.cons _ _ _ _ _ (.refl _) (.cons _ _ _ _ _ (.refl _) (.cons _ _ _ _ _ (.refl _) (.cons _ _ _ _ _ (.refl _) (.cons _ _ _ _ _ (.refl _) (.cons _ _ _ _ _ (.refl _) (.cons _ _ _ _ _ (.refl _) (.cons _ _ _ _ _ (.refl _) (.cons _ _ _ _ _ (.refl _) .nil)))))))))))))))))))))))))) (OLe.refl _)).trans (cmpS_ok (st' := ⟨[], [(0, .v (.lst false n3156 c3157)), (1, .v (.lst false n3159 c3160)), (4, .dead), (5, .dead), (7, .dead), (8, .dead), (9, .v (.lst false n3178 c3179)), (10, .v (.lst false n3183 c3184)), (11, .v (.lst false n3188 c3189)), (12, .v (.lst false n3193 c3194)), (13, .sl false 0 0 0 2), (14, .v (.int .i64 0)), (15, .v (.int .i64 0)), (16, .dead), (17, .dead), (18, .dead), (21, .dead), (22, .dead), (23, .dead), (24, .dead), (30, .dead), (79, .dead), (83, .dead), (86, .dead), (98, .dead), (105, .dead)], [(0, .p [])], 1, []⟩) (by kernel_rfl))) ⟨_, _, _, _, h3377, rfl⟩ ?_
      clear h3377
      rintro n _ ⟨n3315, x3316, x3317, c3318, h3377, rfl⟩
      cases n with
      | zero => cases h3377
      | succ n =>
        rw [m34_L1] at h3377
        have hh := grd_some h3377; clear h3377; obtain ⟨⟨g3319, g3320⟩, h3377⟩ := hh
        have hh := grd_some h3377; clear h3377; obtain ⟨g3321, h3377⟩ := hh
        have hh := getI_some h3377; clear h3377; obtain ⟨x3323, h3322, h3377⟩ := hh
        have hh := grd_some h3377; clear h3377; obtain ⟨⟨g3324, g3325⟩, h3377⟩ := hh
        have hh := grd_some h3377; clear h3377; obtain ⟨g3326, h3377⟩ := hh
        have hh := getA2_some h3377; clear h3377; obtain ⟨p3328, p3329, h3327, h3377⟩ := hh
        injection h3327 with h3327
        have hh := grd_some h3377; clear h3377; obtain ⟨⟨g3330, g3331⟩, h3377⟩ := hh
        have hh := grd_some h3377; clear h3377; obtain ⟨g3332, h3377⟩ := hh
        have hh := getI_some h3377; clear h3377; obtain ⟨x3334, h3333, h3377⟩ := hh
        have hh := grd_some h3377; clear h3377; obtain ⟨⟨g3335, g3336⟩, h3377⟩ := hh
        have hh := grd_some h3377; clear h3377; obtain ⟨g3337, h3377⟩ := hh
        have hh := getA2_some h3377; clear h3377; obtain ⟨p3339, p3340, h3338, h3377⟩ := hh
        injection h3338 with h3338
        have hh := getI_some h3377; clear h3377; obtain ⟨x3342, h3341, h3377⟩ := hh
        have hh := getI_some h3377; clear h3377; obtain ⟨x3344, h3343, h3377⟩ := hh
        have hh := getI_some h3377; clear h3377; obtain ⟨x3346, h3345, h3377⟩ := hh
        have hh := getI_some h3377; clear h3377; obtain ⟨x3348, h3347, h3377⟩ := hh
        have hh := grd_some h3377; clear h3377; obtain ⟨g3349, h3377⟩ := hh
        have hh := grd_some h3377; clear h3377; obtain ⟨g3350, h3377⟩ := hh
        have hh := brn_some h3377; clear h3377; rcases hh with ⟨h3351, h3377⟩ | ⟨h3351, h3377⟩
        · have hh := brn_some h3377; clear h3377; rcases hh with ⟨h3352, h3377⟩ | ⟨h3352, h3377⟩
          · refine W_sound tab_ok mixed 64 _ _ _ ?_
            simp -implicitDefEqProofs only [go_sem, ne_eq, not_false_eq_true, Nat.reduceBEq, Nat.reduceAdd, Nat.reduceSub, Nat.reduceMul, Nat.reduceLT, Nat.reduceLeDiff, Int.reduceLE, Int.reduceLT, Int.reduceToNat, Int.reduceBEq, Int.reduceBNe, Int.le_refl, Nat.le_refl, decide_true, decide_false, Int.cast_ofNat_Int, ↓reduceIte, h3155, h3158, h3177, h3182, h3187, h3192, g3319, g3320, g3321, h3322, g3324, g3325, g3326, h3327, g3330, g3331, g3332, h3333, g3335, g3336, g3337, h3338, h3341, h3343, h3345, h3347, g3349, g3350, h3351, h3352]
            repeat with_reducible refine And.intro (by first | kernel_rfl | decide) ?_
            have hh := grd_some h3377; clear h3377; obtain ⟨g3353, h3377⟩ := hh
            refine FinQ_wk (Wk_freeze 87 (c3318 ++ [(.int .i64 (IntKind.i64.wrap (x3342 + x3346))), (.int .i64 (IntKind.i64.wrap (x3344 + x3348)))]) (by rfl) (by decide) (by decide)) ?_
            simp -implicitDefEqProofs only [go_sem, ne_eq, not_false_eq_true, Nat.reduceBEq, Nat.reduceAdd, Nat.reduceSub, Nat.reduceMul, Nat.reduceLT, Nat.reduceLeDiff, Int.reduceLE, Int.reduceLT, Int.reduceToNat, Int.reduceBEq, Int.reduceBNe, Int.le_refl, Nat.le_refl, decide_true, decide_false, Int.cast_ofNat_Int, ↓reduceIte, h3155, h3158, h3177, h3182, h3187, h3192, g3319, g3320, g3321, h3322, g3324, g3325, g3326, h3327, g3330, g3331, g3332, h3333, g3335, g3336, g3337, h3338, h3341, h3343, h3345, h3347, g3349, g3350, h3351, h3352, g3353]
            obtain rfl := Option.some.inj h3377
            (try dsimp only at h3378)
            obtain rfl := Option.some.inj h3378
            exact finC [(4, .v (.lst false (n3315 + 1) (c3318 ++ [(.int .i64 (IntKind.i64.wrap (x3342 + x3346))), (.int .i64 (IntKind.i64.wrap (x3344 + x3348)))]))), (5, .v (.int .i64 0))] [(4, .v (.lst false (n3315 + 1) (c3318 ++ [(.int .i64 (IntKind.i64.wrap (x3342 + x3346))), (.int .i64 (IntKind.i64.wrap (x3344 + x3348)))]))), (5, .v (.int .i64 0))] (by simp [leE, lk_cons]) (.cons _ _ _ _ _ (.v _ _ (.refl _)) (.cons _ _ _ _ _ (.v _ _ (.refl _)) .nil)) (by rfl) (by simp [leE, lk_cons]) (by decide) (by decide) rfl (by simp only [go_sem, ne_eq, not_false_eq_true, Nat.reduceBEq, Nat.reduceAdd, Nat.reduceSub, Nat.reduceMul, Nat.reduceLT, Nat.reduceLeDiff, Int.reduceLE, Int.reduceLT, Int.reduceToNat, Int.reduceBEq, Int.reduceBNe, Int.le_refl, Nat.le_refl, decide_true, decide_false, Int.cast_ofNat_Int, ↓reduceIte, resQ_tmp, resQ_cell, resQ_nil, retD_one, retD_two, retD_three, retD_none]; try simp [R.val, retD_one, retD_two, retD_three, retD_none])
          · refine W_sound tab_ok mixed 81 _ _ _ ?_
            simp -implicitDefEqProofs only [go_sem, ne_eq, not_false_eq_true, Nat.reduceBEq, Nat.reduceAdd, Nat.reduceSub, Nat.reduceMul, Nat.reduceLT, Nat.reduceLeDiff, Int.reduceLE, Int.reduceLT, Int.reduceToNat, Int.reduceBEq, Int.reduceBNe, Int.le_refl, Nat.le_refl, decide_true, decide_false, Int.cast_ofNat_Int, ↓reduceIte, h3155, h3158, h3177, h3182, h3187, h3192, g3319, g3320, g3321, h3322, g3324, g3325, g3326, h3327, g3330, g3331, g3332, h3333, g3335, g3336, g3337, h3338, h3341, h3343, h3345, h3347, g3349, g3350, h3351, h3352]
            repeat with_reducible refine And.intro (by first | kernel_rfl | decide) ?_
            exact cutQ _ ((Wk_le (.cons _ _ _ _ _ (.refl _) (.cons _ _ _ _ _ (.refl _) (.cons _ _ _ _ _ (.refl _) (.cons _ _ _ _ _ (.refl _) (.cons _ _ _ _ _ (.refl _) (.cons _ _ _ _ _ (.refl _) (.cons _ _ _ _ _ (.refl _) (.cons _ _ _ _ _ (.refl _) (.cons _ _ _ _ _ (.refl _) (.cons _ _ _ _ _ (.refl _) (.cons _ _ _ _ _ (.refl _) (.cons _ _ _ _ _ (.refl _) (.cons _ _ _ _ _ (.refl _) (.cons _ _ _ _ _ (.dead _) (.cons _ _ _ _ _ (.dead _) (.cons _ _ _ _ _ (.refl _) (.cons _ _ _ _ _ (.refl _) (.cons _ _ _ _ _ (.refl _) (.cons _ _ _ _ _ (.refl _) (.cons _ _ _ _ _ (.refl _) (.cons _ _ _ _ _ (.refl _) (.cons _ _ _ _ _ (.refl _) (.cons _ _ _ _ _ (.refl _) (.cons _ _ _ _ _ (.dead _) (.cons _ _ _ _ _ (.dead _) (.cons _ _ _ _ _ (.dead _) .nil)))))))))))))))))))))))))) (OLe.refl _)).trans (cmpS_ok (st' := ⟨[], [(0, .v (.lst false n3156 c3157)), (1, .v (.lst false n3159 c3160)), (4, .dead), (5, .dead), (7, .dead), (8, .dead), (9, .v (.lst false n3178 c3179)), (10, .v (.lst false n3183 c3184)), (11, .v (.lst false n3188 c3189)), (12, .v (.lst false n3193 c3194)), (13, .sl false 0 0 (n3315 + 1) 2), (14, .v (.int .i64 x3316)), (15, .v (.int .i64 (IntKind.i64.wrap (x3317 + 1)))), (16, .dead), (17, .dead), (18, .dead), (21, .dead), (22, .dead), (23, .dead), (24, .dead), (30, .dead), (79, .dead), (83, .dead), (86, .dead), (98, .dead), (105, .dead)], [(0, .p (c3318 ++ [(.int .i64 (IntKind.i64.wrap (x3342 + x3346))), (.int .i64 (IntKind.i64.wrap (x3344 + x3348)))]))], 1, []⟩) (by kernel_rfl))) ⟨n, Nat.lt_succ_self n, _, _, _, _, h3377, rfl⟩
        · have hh := brn_some h3377; clear h3377; rcases hh with ⟨h3354, h3377⟩ | ⟨h3354, h3377⟩
          · refine W_sound tab_ok mixed 72 _ _ _ ?_
            simp -implicitDefEqProofs only [go_sem, ne_eq, not_false_eq_true, Nat.reduceBEq, Nat.reduceAdd, Nat.reduceSub, Nat.reduceMul, Nat.reduceLT, Nat.reduceLeDiff, Int.reduceLE, Int.reduceLT, Int.reduceToNat, Int.reduceBEq, Int.reduceBNe, Int.le_refl, Nat.le_refl, decide_true, decide_false, Int.cast_ofNat_Int, ↓reduceIte, h3155, h3158, h3177, h3182, h3187, h3192, g3319, g3320, g3321, h3322, g3324, g3325, g3326, h3327, g3330, g3331, g3332, h3333, g3335, g3336, g3337, h3338, h3341, h3343, h3345, h3347, g3349, g3350, h3351, h3354]
            repeat with_reducible refine And.intro (by first | kernel_rfl | decide) ?_
            exact cutQ _ ((Wk_le (.cons _ _ _ _ _ (.refl _) (.cons _ _ _ _ _ (.refl _) (.cons _ _ _ _ _ (.refl _) (.cons _ _ _ _ _ (.refl _) (.cons _ _ _ _ _ (.refl _) (.cons _ _ _ _ _ (.refl _) (.cons _ _ _ _ _ (.refl _) (.cons _ _ _ _ _ (.refl _) (.cons _ _ _ _ _ (.refl _) (.cons _ _ _ _ _ (.refl _) (.cons _ _ _ _ _ (.refl _) (.cons _ _ _ _ _ (.refl _) (.cons _ _ _ _ _ (.refl _) (.cons _ _ _ _ _ (.dead _) (.cons _ _ _ _ _ (.dead _) (.cons _ _ _ _ _ (.refl _) (.cons _ _ _ _ _ (.refl _) (.cons _ _ _ _ _ (.refl _) (.cons _ _ _ _ _ (.refl _) (.cons _ _ _ _ _ (.refl _) (.cons _ _ _ _ _ (.refl _) (.cons _ _ _ _ _ (.refl _) (.cons _ _ _ _ _ (.refl _) (.cons _ _ _ _ _ (.dead _) (.cons _ _ _ _ _ (.dead _) (.cons _ _ _ _ _ (.refl _) .nil)))))))))))))))))))))))))) (OLe.refl _)).trans (cmpS_ok (st' := ⟨[], [(0, .v (.lst false n3156 c3157)), (1, .v (.lst false n3159 c3160)), (4, .dead), (5, .dead), (7, .dead), (8, .dead), (9, .v (.lst false n3178 c3179)), (10, .v (.lst false n3183 c3184)), (11, .v (.lst false n3188 c3189)), (12, .v (.lst false n3193 c3194)), (13, .sl false 0 0 (n3315 + 1) 2), (14, .v (.int .i64 (IntKind.i64.wrap (x3316 + 1)))), (15, .v (.int .i64 x3317)), (16, .dead), (17, .dead), (18, .dead), (21, .dead), (22, .dead), (23, .dead), (24, .dead), (30, .dead), (79, .dead), (83, .dead), (86, .dead), (98, .dead), (105, .dead)], [(0, .p (c3318 ++ [(.int .i64 (IntKind.i64.wrap (x3342 + x3346))), (.int .i64 (IntKind.i64.wrap (x3344 + x3348)))]))], 1, []⟩) (by kernel_rfl))) ⟨n, Nat.lt_succ_self n, _, _, _, _, h3377, rfl⟩
          · have hh := grd_some h3377; clear h3377; obtain ⟨g3355, h3377⟩ := hh
            have hh := grd_some h3377; clear h3377; obtain ⟨g3356, h3377⟩ := hh
            have hh := getA2_some h3377; clear h3377; obtain ⟨p3358, p3359, h3357, h3377⟩ := hh
            injection h3357 with h3357
            have hh := grd_some h3377; clear h3377; obtain ⟨g3360, h3377⟩ := hh
            have hh := grd_some h3377; clear h3377; obtain ⟨g3361, h3377⟩ := hh
            have hh := getA2_some h3377; clear h3377; obtain ⟨p3363, p3364, h3362, h3377⟩ := hh
            injection h3362 with h3362
            have hh := bnd'_some h3377; clear h3377; obtain ⟨p3365, h3366, h3377⟩ := hh
            refine W_sound tab_ok mixed 84 _ _ _ ?_
            simp -implicitDefEqProofs only [go_sem, ne_eq, not_false_eq_true, Nat.reduceBEq, Nat.reduceAdd, Nat.reduceSub, Nat.reduceMul, Nat.reduceLT, Nat.reduceLeDiff, Int.reduceLE, Int.reduceLT, Int.reduceToNat, Int.reduceBEq, Int.reduceBNe, Int.le_refl, Nat.le_refl, decide_true, decide_false, Int.cast_ofNat_Int, ↓reduceIte, h3155, h3158, h3177, h3182, h3187, h3192, g3319, g3320, g3321, h3322, g3324, g3325, g3326, h3327, g3330, g3331, g3332, h3333, g3335, g3336, g3337, h3338, h3341, h3343, h3345, h3347, g3349, g3350, h3351, h3354, g3355, g3356, h3357, g3360, g3361, h3362]
            repeat with_reducible refine And.intro (by first | kernel_rfl | decide) ?_
            refine Wp_callP (c73 N _ _ _ h3366) (by kernel_rfl) rfl rfl rfl rfl (by decide) ?_
            have hh := getI_some h3377; clear h3377; obtain ⟨x3368, h3367, h3377⟩ := hh
            have hh := brn_some h3377; clear h3377; rcases hh with ⟨h3369, h3377⟩ | ⟨h3369, h3377⟩
            · have hh := brn_some h3377; clear h3377; rcases hh with ⟨h3370, h3377⟩ | ⟨h3370, h3377⟩
              · refine W_sound tab_ok mixed 27 _ _ _ ?_
                simp -implicitDefEqProofs only [go_sem, ne_eq, not_false_eq_true, Nat.reduceBEq, Nat.reduceAdd, Nat.reduceSub, Nat.reduceMul, Nat.reduceLT, Nat.reduceLeDiff, Int.reduceLE, Int.reduceLT, Int.reduceToNat, Int.reduceBEq, Int.reduceBNe, Int.le_refl, Nat.le_refl, decide_true, decide_false, Int.cast_ofNat_Int, ↓reduceIte, h3155, h3158, h3177, h3182, h3187, h3192, g3319, g3320, g3321, h3322, g3324, g3325, g3326, h3327, g3330, g3331, g3332, h3333, g3335, g3336, g3337, h3338, h3341, h3343, h3345, h3347, g3349, g3350, h3351, h3354, g3355, g3356, h3357, g3360, g3361, h3362, h3367, h3369, h3370]
                repeat with_reducible refine And.intro (by first | kernel_rfl | decide) ?_
                exact cutQ _ ((Wk_le (.cons _ _ _ _ _ (.refl _) (.cons _ _ _ _ _ (.refl _) (.cons _ _ _ _ _ (.refl _) (.cons _ _ _ _ _ (.refl _) (.cons _ _ _ _ _ (.refl _) (.cons _ _ _ _ _ (.refl _) (.cons _ _ _ _ _ (.refl _) (.cons _ _ _ _ _ (.refl _) (.cons _ _ _ _ _ (.refl _) (.cons _ _ _ _ _ (.refl _) (.cons _ _ _ _ _ (.refl _) (.cons _ _ _ _ _ (.refl _) (.cons _ _ _ _ _ (.refl _) (.cons _ _ _ _ _ (.dead _) (.cons _ _ _ _ _ (.dead _) (.cons _ _ _ _ _ (.dead _) (.cons _ _ _ _ _ (.refl _) (.cons _ _ _ _ _ (.refl _) (.cons _ _ _ _ _ (.refl _) (.cons _ _ _ _ _ (.refl _) (.cons _ _ _ _ _ (.refl _) (.cons _ _ _ _ _ (.dead _) (.cons _ _ _ _ _ (.dead _) (.cons _ _ _ _ _ (.dead _) (.cons _ _ _ _ _ (.dead _) (.cons _ _ _ _ _ (.dead _) .nil)))))))))))))))))))))))))) (OLe.refl _)).trans (cmpS_ok (st' := ⟨[], [(0, .v (.lst false n3156 c3157)), (1, .v (.lst false n3159 c3160)), (4, .dead), (5, .dead), (7, .dead), (8, .dead), (9, .v (.lst false n3178 c3179)), (10, .v (.lst false n3183 c3184)), (11, .v (.lst false n3188 c3189)), (12, .v (.lst false n3193 c3194)), (13, .sl false 0 0 (n3315 + 1) 2), (14, .v (.int .i64 (IntKind.i64.wrap (x3316 + 1)))), (15, .v (.int .i64 (IntKind.i64.wrap (x3317 + 1)))), (16, .dead), (17, .dead), (18, .dead), (21, .dead), (22, .dead), (23, .dead), (24, .dead), (30, .dead), (79, .dead), (83, .dead), (86, .dead), (98, .dead), (105, .dead)], [(0, .p (c3318 ++ [(.int .i64 (IntKind.i64.wrap (x3342 + x3346))), (.int .i64 (IntKind.i64.wrap (x3344 + x3348)))]))], 1, []⟩) (by kernel_rfl))) ⟨n, Nat.lt_succ_self n, _, _, _, _, h3377, rfl⟩
              · refine W_sound tab_ok mixed 23 _ _ _ ?_
                simp -implicitDefEqProofs only [go_sem, ne_eq, not_false_eq_true, Nat.reduceBEq, Nat.reduceAdd, Nat.reduceSub, Nat.reduceMul, Nat.reduceLT, Nat.reduceLeDiff, Int.reduceLE, Int.reduceLT, Int.reduceToNat, Int.reduceBEq, Int.reduceBNe, Int.le_refl, Nat.le_refl, decide_true, decide_false, Int.cast_ofNat_Int, ↓reduceIte, h3155, h3158, h3177, h3182, h3187, h3192, g3319, g3320, g3321, h3322, g3324, g3325, g3326, h3327, g3330, g3331, g3332, h3333, g3335, g3336, g3337, h3338, h3341, h3343, h3345, h3347, g3349, g3350, h3351, h3354, g3355, g3356, h3357, g3360, g3361, h3362, h3367, h3369, h3370]
                repeat with_reducible refine And.intro (by first | kernel_rfl | decide) ?_
                exact cutQ _ ((Wk_le (.cons _ _ _ _ _ (.refl _) (.cons _ _ _ _ _ (.refl _) (.cons _ _ _ _ _ (.refl _) (.cons _ _ _ _ _ (.refl _) (.cons _ _ _ _ _ (.refl _) (.cons _ _ _ _ _ (.refl _) (.cons _ _ _ _ _ (.refl _) (.cons _ _ _ _ _ (.refl _) (.cons _ _ _ _ _ (.refl _) (.cons _ _ _ _ _ (.refl _) (.cons _ _ _ _ _ (.refl _) (.cons _ _ _ _ _ (.refl _) (.cons _ _ _ _ _ (.refl _) (.cons _ _ _ _ _ (.dead _) (.cons _ _ _ _ _ (.dead _) (.cons _ _ _ _ _ (.dead _) (.cons _ _ _ _ _ (.refl _) (.cons _ _ _ _ _ (.refl _) (.cons _ _ _ _ _ (.refl _) (.cons _ _ _ _ _ (.refl _) (.cons _ _ _ _ _ (.refl _) (.cons _ _ _ _ _ (.dead _) (.cons _ _ _ _ _ (.dead _) (.cons _ _ _ _ _ (.dead _) (.cons _ _ _ _ _ (.dead _) (.cons _ _ _ _ _ (.dead _) .nil)))))))))))))))))))))))))) (OLe.refl _)).trans (cmpS_ok (st' := ⟨[], [(0, .v (.lst false n3156 c3157)), (1, .v (.lst false n3159 c3160)), (4, .dead), (5, .dead), (7, .dead), (8, .dead), (9, .v (.lst false n3178 c3179)), (10, .v (.lst false n3183 c3184)), (11, .v (.lst false n3188 c3189)), (12, .v (.lst false n3193 c3194)), (13, .sl false 0 0 (n3315 + 1) 2), (14, .v (.int .i64 (IntKind.i64.wrap (x3316 + 1)))), (15, .v (.int .i64 x3317)), (16, .dead), (17, .dead), (18, .dead), (21, .dead), (22, .dead), (23, .dead), (24, .dead), (30, .dead), (79, .dead), (83, .dead), (86, .dead), (98, .dead), (105, .dead)], [(0, .p (c3318 ++ [(.int .i64 (IntKind.i64.wrap (x3342 + x3346))), (.int .i64 (IntKind.i64.wrap (x3344 + x3348)))]))], 1, []⟩) (by kernel_rfl))) ⟨n, Nat.lt_succ_self n, _, _, _, _, h3377, rfl⟩
            · have hh := brn_some h3377; clear h3377; rcases hh with ⟨h3371, h3377⟩ | ⟨h3371, h3377⟩
              · refine W_sound tab_ok mixed 23 _ _ _ ?_
                simp -implicitDefEqProofs only [go_sem, ne_eq, not_false_eq_true, Nat.reduceBEq, Nat.reduceAdd, Nat.reduceSub, Nat.reduceMul, Nat.reduceLT, Nat.reduceLeDiff, Int.reduceLE, Int.reduceLT, Int.reduceToNat, Int.reduceBEq, Int.reduceBNe, Int.le_refl, Nat.le_refl, decide_true, decide_false, Int.cast_ofNat_Int, ↓reduceIte, h3155, h3158, h3177, h3182, h3187, h3192, g3319, g3320, g3321, h3322, g3324, g3325, g3326, h3327, g3330, g3331, g3332, h3333, g3335, g3336, g3337, h3338, h3341, h3343, h3345, h3347, g3349, g3350, h3351, h3354, g3355, g3356, h3357, g3360, g3361, h3362, h3367, h3369, h3371]
                repeat with_reducible refine And.intro (by first | kernel_rfl | decide) ?_
                exact cutQ _ ((Wk_le (.cons _ _ _ _ _ (.refl _) (.cons _ _ _ _ _ (.refl _) (.cons _ _ _ _ _ (.refl _) (.cons _ _ _ _ _ (.refl _) (.cons _ _ _ _ _ (.refl _) (.cons _ _ _ _ _ (.refl _) (.cons _ _ _ _ _ (.refl _) (.cons _ _ _ _ _ (.refl _) (.cons _ _ _ _ _ (.refl _) (.cons _ _ _ _ _ (.refl _) (.cons _ _ _ _ _ (.refl _) (.cons _ _ _ _ _ (.refl _) (.cons _ _ _ _ _ (.refl _) (.cons _ _ _ _ _ (.dead _) (.cons _ _ _ _ _ (.dead _) (.cons _ _ _ _ _ (.dead _) (.cons _ _ _ _ _ (.refl _) (.cons _ _ _ _ _ (.refl _) (.cons _ _ _ _ _ (.refl _) (.cons _ _ _ _ _ (.refl _) (.cons _ _ _ _ _ (.refl _) (.cons _ _ _ _ _ (.dead _) (.cons _ _ _ _ _ (.dead _) (.cons _ _ _ _ _ (.dead _) (.cons _ _ _ _ _ (.dead _) (.cons _ _ _ _ _ (.dead _) .nil)))))))))))))))))))))))))) (OLe.refl _)).trans (cmpS_ok (st' := ⟨[], [(0, .v (.lst false n3156 c3157)), (1, .v (.lst false n3159 c3160)), (4, .dead), (5, .dead), (7, .dead), (8, .dead), (9, .v (.lst false n3178 c3179)), (10, .v (.lst false n3183 c3184)), (11, .v (.lst false n3188 c3189)), (12, .v (.lst false n3193 c3194)), (13, .sl false 0 0 (n3315 + 1) 2), (14, .v (.int .i64 x3316)), (15, .v (.int .i64 (IntKind.i64.wrap (x3317 + 1)))), (16, .dead), (17, .dead), (18, .dead), (21, .dead), (22, .dead), (23, .dead), (24, .dead), (30, .dead), (79, .dead), (83, .dead), (86, .dead), (98, .dead), (105, .dead)], [(0, .p (c3318 ++ [(.int .i64 (IntKind.i64.wrap (x3342 + x3346))), (.int .i64 (IntKind.i64.wrap (x3344 + x3348)))]))], 1, []⟩) (by kernel_rfl))) ⟨n, Nat.lt_succ_self n, _, _, _, _, h3377, rfl⟩
              · refine W_sound tab_ok mixed 19 _ _ _ ?_
                simp -implicitDefEqProofs only [go_sem, ne_eq, not_false_eq_true, Nat.reduceBEq, Nat.reduceAdd, Nat.reduceSub, Nat.reduceMul, Nat.reduceLT, Nat.reduceLeDiff, Int.reduceLE, Int.reduceLT, Int.reduceToNat, Int.reduceBEq, Int.reduceBNe, Int.le_refl, Nat.le_refl, decide_true, decide_false, Int.cast_ofNat_Int, ↓reduceIte, h3155, h3158, h3177, h3182, h3187, h3192, g3319, g3320, g3321, h3322, g3324, g3325, g3326, h3327, g3330, g3331, g3332, h3333, g3335, g3336, g3337, h3338, h3341, h3343, h3345, h3347, g3349, g3350, h3351, h3354, g3355, g3356, h3357, g3360, g3361, h3362, h3367, h3369, h3371]
                repeat with_reducible refine And.intro (by first | kernel_rfl | decide) ?_
                exact cutQ _ ((Wk_le (.cons _ _ _ _ _ (.refl _) (.cons _ _ _ _ _ (.refl _) (.cons _ _ _ _ _ (.refl _) (.cons _ _ _ _ _ (.refl _) (.cons _ _ _ _ _ (.refl _) (.cons _ _ _ _ _ (.refl _) (.cons _ _ _ _ _ (.refl _) (.cons _ _ _ _ _ (.refl _) (.cons _ _ _ _ _ (.refl _) (.cons _ _ _ _ _ (.refl _) (.cons _ _ _ _ _ (.refl _) (.cons _ _ _ _ _ (.refl _) (.cons _ _ _ _ _ (.refl _) (.cons _ _ _ _ _ (.dead _) (.cons _ _ _ _ _ (.dead _) (.cons _ _ _ _ _ (.dead _) (.cons _ _ _ _ _ (.refl _) (.cons _ _ _ _ _ (.refl _) (.cons _ _ _ _ _ (.refl _) (.cons _ _ _ _ _ (.refl _) (.cons _ _ _ _ _ (.refl _) (.cons _ _ _ _ _ (.dead _) (.cons _ _ _ _ _ (.dead _) (.cons _ _ _ _ _ (.dead _) (.cons _ _ _ _ _ (.dead _) (.cons _ _ _ _ _ (.dead _) .nil)))))))))))))))))))))))))) (OLe.refl _)).trans (cmpS_ok (st' := ⟨[], [(0, .v (.lst false n3156 c3157)), (1, .v (.lst false n3159 c3160)), (4, .dead), (5, .dead), (7, .dead), (8, .dead), (9, .v (.lst false n3178 c3179)), (10, .v (.lst false n3183 c3184)), (11, .v (.lst false n3188 c3189)), (12, .v (.lst false n3193 c3194)), (13, .sl false 0 0 (n3315 + 1) 2), (14, .v (.int .i64 x3316)), (15, .v (.int .i64 x3317)), (16, .dead), (17, .dead), (18, .dead), (21, .dead), (22, .dead), (23, .dead), (24, .dead), (30, .dead), (79, .dead), (83, .dead), (86, .dead), (98, .dead), (105, .dead)], [(0, .p (c3318 ++ [(.int .i64 (IntKind.i64.wrap (x3342 + x3346))), (.int .i64 (IntKind.i64.wrap (x3344 + x3348)))]))], 1, []⟩) (by kernel_rfl))) ⟨n, Nat.lt_succ_self n, _, _, _, _, h3377, rfl⟩
    · intro _ hf; exact hf.elim

end Go.Proofs.Ytgnphlpoofaojaa

namespace Go.Proofs.Ytgnphlpoofaojaa
open Go.V

theorem mxL_bd {q : Int × Int} (hq : bdP q) {L : List (Int × Int)} (hne : L ≠ []) (hb : ∀ c ∈ L, bdC c) : -1600000 ≤ mxL q L ∧ mxL q L ≤ 1600000 := by
  obtain ⟨⟨c, hc, e⟩, _⟩ := mxL_is hq hne hb
  have hcb := hb c hc
  unfold bdP at hq
  unfold bdC at hcb
  have h1 := mulQ (x := c.1) (y := q.2) (A := 200) (B := 4000) (by omega) (by omega)
  have h2 := mulQ (x := c.2) (y := q.1) (A := 20) (B := 40000) (by omega) (by omega)
  rw [← e]; unfold CtP; omega
theorem cmp_ok73 (N : Nat) {a b : Int × Int} (ha : bdQ a) (hb : bdQ b) : m73 N (.agg [.int .i64 a.1, .int .i64 a.2]) (.agg [.int .i64 b.1, .int .i64 b.2]) = some (.int .i64 (a.1 * b.2 - b.1 * a.2)) := by
  unfold bdQ at ha hb
  have h1 := mulQ (x := a.1) (y := b.2) (A := 400) (B := 40) (by omega) (by omega)
  have h2 := mulQ (x := b.1) (y := a.2) (A := 400) (B := 40) (by omega) (by omega)
  simp only [m73, getA2, getI, if_true]
  rw [wrap64 (n := a.1 * b.2) (by omega) (by omega), wrap64 (n := b.1 * a.2) (by omega) (by omega), wrap64 (by omega) (by omega)]
theorem turnsC_len : ∀ (C : List (Int × Int)), (turnsC C).length = C.length - 1
  | [] => rfl
  | [a] => rfl
  | a :: b :: C => by
    have := turnsC_len (b :: C)
    simp only [turnsC, List.length_cons] at this ⊢; omega
theorem turnsC_drop : ∀ (u C : List (Int × Int)), (turnsC (u ++ C)).drop u.length = turnsC C ∨ C = []
  | [], C => .inl rfl
  | [a], C => by
    cases C with
    | nil => exact .inr rfl
    | cons b C => exact .inl rfl
  | a :: b :: u, C => by
    rcases turnsC_drop (b :: u) C with h | h
    · exact .inl (by simpa [turnsC] using h)
    · exact .inr h
theorem turn_at {C u : List (Int × Int)} {a b : Int × Int} {v : List (Int × Int)} (e : C = u ++ a :: b :: v) : ((cellsC (turnsC C)).drop (u.length * 2)).take 2 = [.int .i64 (crossP a b).1, .int .i64 (crossP a b).2] := by
  rw [cellsC_dropN, e]
  rcases turnsC_drop u (a :: b :: v) with h | h
  · rw [h]; rfl
  · cases h
theorem merge_L (N : Nat) (hN : 8000 ≤ N) (L K : List (Int × Int)) (hb : ∀ c ∈ L, bdC c) (kb : ∀ c ∈ K, bdC c) (hbo : ∀ c ∈ L, okC c = true) (kbo : ∀ c ∈ K, okC c = true) (hL : L.length ≤ 1000) (hK : K.length ≤ 1000)
    (A B : List Nat) (hA : ∀ k ∈ A, k < L.length) (hB : ∀ k ∈ B, k < K.length) (hAl : A.length ≤ 1000) (hBl : B.length ≤ 1000) (aA : Asc (A.map (ctL L))) (aB : Asc (B.map (ctL K))) :
    ∀ (n : Nat) (da : List Nat) (a : Nat) (As db : List Nat) (b : Nat) (Bs : List Nat) (fuel : Nat) (acc : List (Int × Int)), As.length + Bs.length = n → A = da ++ a :: As → B = db ++ b :: Bs → n < fuel → acc.length ≤ da.length + db.length →
    m34_L1 N L.length (cellsC L) K.length (cellsC K) A.length (nL A) B.length (nL B) (turnsC (A.map (ctL L))).length (cellsC (turnsC (A.map (ctL L)))) (turnsC (B.map (ctL K))).length (cellsC (turnsC (B.map (ctL K)))) fuel acc.length (da.length : Int) (db.length : Int) (cellsC acc) =
      some (.tup [.lst false (acc ++ mergeC ((a :: As).map (ctL L)) ((b :: Bs).map (ctL K))).length (cellsC (acc ++ mergeC ((a :: As).map (ctL L)) ((b :: Bs).map (ctL K)))), .int .i64 0])
  | n, da, a, As, db, b, Bs, 0, acc, _, _, _, h, _ => by omega
  | n, da, a, As, db, b, Bs, f + 1, acc, hn, eA, eB, hf, hacc => by
    have hAe : A.length = da.length + (As.length + 1) := by rw [eA]; simp
    have hBe : B.length = db.length + (Bs.length + 1) := by rw [eB]; simp
    have hal := hA a (by rw [eA]; simp)
    have hbl := hB b (by rw [eB]; simp)
    have hcl : (cellsC L).length = L.length * 2 := cellsC_len L
    have hck : (cellsC K).length = K.length * 2 := cellsC_len K
    have hnA : (nL A).length = A.length := nL_len A
    have hnB : (nL B).length = B.length := nL_len B
    have hac : (cellsC acc).length = acc.length * 2 := cellsC_len acc
    have hpl : (turnsC (A.map (ctL L))).length = A.length - 1 := by rw [turnsC_len]; simp
    have hql : (turnsC (B.map (ctL K))).length = B.length - 1 := by rw [turnsC_len]; simp
    have hcp : (cellsC (turnsC (A.map (ctL L)))).length = (turnsC (A.map (ctL L))).length * 2 := cellsC_len _
    have hcq : (cellsC (turnsC (B.map (ctL K)))).length = (turnsC (B.map (ctL K))).length * 2 := cellsC_len _
    have tda : (Int.toNat ((da.length : Nat) : Int)) = da.length := by omega
    have tdb : (Int.toNat ((db.length : Nat) : Int)) = db.length := by omega
    have ta : (Int.toNat (a : Int)) = a := by omega
    have tb : (Int.toNat (b : Int)) = b := by omega
    have hwa : IntKind.i64.wrap ((da.length : Int) + 1) = ((da.length + 1 : Nat) : Int) := by rw [wrap64 (by omega) (by omega)]; omega
    have hwb : IntKind.i64.wrap ((db.length : Int) + 1) = ((db.length + 1 : Nat) : Int) := by rw [wrap64 (by omega) (by omega)]; omega
    have ga : gp (nL A) da.length = .int .i64 (a : Int) := by rw [eA]; exact nL_gp da a _
    have gb : gp (nL B) db.length = .int .i64 (b : Int) := by rw [eB]; exact nL_gp db b _
    have ba := hb _ (ctL_mem hal)
    have bb := kb _ (ctL_mem hbl)
    have ba' := ba
    have bb' := bb
    unfold bdC at ba' bb'
    have w1 : IntKind.i64.wrap ((ctL L a).1 + (ctL K b).1) = (addP (ctL L a) (ctL K b)).1 := by rw [wrap64 (by omega) (by omega)]; rfl
    have w2 : IntKind.i64.wrap ((ctL L a).2 + (ctL K b).2) = (addP (ctL L a) (ctL K b)).2 := by rw [wrap64 (by omega) (by omega)]; rfl
    have e3 : cellsC acc ++ [.int .i64 (addP (ctL L a) (ctL K b)).1, .int .i64 (addP (ctL L a) (ctL K b)).2] = cellsC (acc ++ [addP (ctL L a) (ctL K b)]) := by rw [cellsC_app]; rfl
    have hal1 : (acc ++ [addP (ctL L a) (ctL K b)]).length = acc.length + 1 := by simp
    rw [m34_L1, tda, tdb, grd_t ⟨by omega, by omega⟩, grd_t (by simp only [List.length_drop]; omega), ga]
    simp only [getI, if_true]
    rw [ta, grd_t ⟨by omega, by omega⟩, grd_t (by simp only [List.length_drop]; omega), cellsC_at (ctL_at hal)]
    simp only [getA2]
    rw [grd_t ⟨by omega, by omega⟩, grd_t (by simp only [List.length_drop]; omega), gb]
    simp only [if_true]
    rw [tb, grd_t ⟨by omega, by omega⟩, grd_t (by simp only [List.length_drop]; omega), cellsC_at (ctL_at hbl)]
    simp only [if_true]
    rw [grd_t (by omega), grd_t (by omega), w1, w2, e3]
    cases As with
    | nil =>
      simp only [List.length_nil, Nat.zero_add] at hAe hn
      rw [brn_t (by simp; omega)]
      cases Bs with
      | nil =>
        simp only [List.length_nil, Nat.zero_add] at hBe
        rw [brn_t (by simp; omega), grd_t (by rw [cellsC_len, hal1])]
        simp [mergeC]
      | cons b1 Bs =>
        simp only [List.length_cons] at hBe hn
        have ih := merge_L N hN L K hb kb hbo kbo hL hK A B hA hB hAl hBl aA aB (n - 1) da a [] (db ++ [b]) b1 Bs f (acc ++ [addP (ctL L a) (ctL K b)]) (by simp; omega) eA (by rw [eB]; simp) (by omega) (by simp; omega)
        simp only [List.length_append, List.length_cons, List.length_nil, Nat.zero_add] at ih
        rw [brn_f (by simp; omega), hwb, ih]
        simp [mergeC]
        omega
    | cons a1 As =>
      simp only [List.length_cons] at hAe hn
      rw [brn_f (by simp; omega)]
      cases Bs with
      | nil =>
        simp only [List.length_nil, Nat.zero_add] at hBe
        have ih := merge_L N hN L K hb kb hbo kbo hL hK A B hA hB hAl hBl aA aB (n - 1) (da ++ [a]) a1 As db b [] f (acc ++ [addP (ctL L a) (ctL K b)]) (by simp at hn ⊢; omega) (by rw [eA]; simp) eB (by omega) (by simp; omega)
        simp only [List.length_append, List.length_cons, List.length_nil, Nat.zero_add] at ih
        rw [brn_t (by simp; omega), hwa, ih]
        simp [mergeC]
        omega
      | cons b1 Bs =>
        simp only [List.length_cons] at hBe hn
        have ha1 := hA a1 (by rw [eA]; simp)
        have hb1 := hB b1 (by rw [eB]; simp)
        have eAm : A.map (ctL L) = da.map (ctL L) ++ ctL L a :: ctL L a1 :: As.map (ctL L) := by rw [eA]; simp
        have eBm : B.map (ctL K) = db.map (ctL K) ++ ctL K b :: ctL K b1 :: Bs.map (ctL K) := by rw [eB]; simp
        have h01 : (ctL L a).2 < (ctL L a1).2 := by
          rw [eAm] at aA
          exact (List.pairwise_cons.1 (List.pairwise_append.1 aA).2.1).1 _ (by simp)
        have k01 : (ctL K b).2 < (ctL K b1).2 := by
          rw [eBm] at aB
          exact (List.pairwise_cons.1 (List.pairwise_append.1 aB).2.1).1 _ (by simp)
        have gp1 := turn_at eAm
        have gq1 := turn_at eBm
        rw [List.length_map] at gp1 gq1
        have bq1 := cross_bd ba (hb _ (ctL_mem ha1)) (by omega)
        have bq2 := cross_bd bb (kb _ (ctL_mem hb1)) (by omega)
        rw [brn_f (by simp; omega), grd_t (by omega), grd_t (by simp only [List.length_drop]; omega), gp1]
        simp only []
        rw [grd_t (by omega), grd_t (by simp only [List.length_drop]; omega), gq1]
        simp only [cmp_ok73 N bq1 bq2, bnd', if_true]
        have iha := merge_L N hN L K hb kb hbo kbo hL hK A B hA hB hAl hBl aA aB (n - 1) (da ++ [a]) a1 As db b (b1 :: Bs) f (acc ++ [addP (ctL L a) (ctL K b)]) (by simp at hn ⊢; omega) (by rw [eA]; simp) eB (by omega) (by simp; omega)
        have ihb := merge_L N hN L K hb kb hbo kbo hL hK A B hA hB hAl hBl aA aB (n - 1) da a (a1 :: As) (db ++ [b]) b1 Bs f (acc ++ [addP (ctL L a) (ctL K b)]) (by simp at hn ⊢; omega) eA (by rw [eB]; simp) (by omega) (by simp; omega)
        have ihc := merge_L N hN L K hb kb hbo kbo hL hK A B hA hB hAl hBl aA aB (n - 2) (da ++ [a]) a1 As (db ++ [b]) b1 Bs f (acc ++ [addP (ctL L a) (ctL K b)]) (by omega) (by rw [eA]; simp) (by rw [eB]; simp) (by omega) (by simp; omega)
        simp only [List.length_append, List.length_cons, List.length_nil, Nat.zero_add, List.map_cons] at iha ihb ihc
        simp only [List.map_cons]
        rw [mergeC]
        generalize hq1 : crossP (ctL L a) (ctL L a1) = q1 at *
        generalize hq2 : crossP (ctL K b) (ctL K b1) = q2 at *
        by_cases c1 : lessP q1 q2
        · have c1' : q1.1 * q2.2 < q2.1 * q1.2 := c1
          rw [if_pos c1, brn_t (by simp; omega), brn_f (by simp; omega), hwa, iha]
          simp
          omega
        · have c1' : ¬ q1.1 * q2.2 < q2.1 * q1.2 := c1
          rw [if_neg c1]
          by_cases c2 : lessP q2 q1
          · have c2' : q2.1 * q1.2 < q1.1 * q2.2 := c2
            rw [if_pos c2, brn_f (by simp; omega), brn_t (by simp; omega), hwb, ihb]
            simp
            omega
          · have c2' : ¬ q2.1 * q1.2 < q1.1 * q2.2 := c2
            rw [if_neg c2, brn_t (by simp; omega), brn_t (by simp; omega), hwa, hwb, ihc]
            simp
            omega
theorem GT_low (C : List (Int × Int)) (hb : ∀ c ∈ C, bdC c) (hA : Asc C) : GT (-1000, 1) C := by
  rintro x x1 T rfl
  have h01 : x.2 < x1.2 := (List.pairwise_cons.1 hA).1 x1 (by simp)
  have h := cross_bd (hb x (by simp)) (hb x1 (by simp)) (by omega)
  unfold bdQ at h
  unfold lessP
  simp only
  omega
theorem bothG (N : Nat) (hN : 8000 ≤ N) (L K : List (Int × Int)) (h0 : Chk L = 0) (h1 : Chk K = 0) : m34 N (.lst false L.length (cellsC L)) (.lst false K.length (cellsC K)) =
    some (.tup [.lst false (mergeC ((hullF L).map (ctL L)) ((hullF K).map (ctL K))).length (cellsC (mergeC ((hullF L).map (ctL L)) ((hullF K).map (ctL K)))), .int .i64 0]) := by
  obtain ⟨l1, l8, hb⟩ := Chk_len8 h0
  obtain ⟨k1, k8, kb⟩ := Chk_len8 h1
  obtain ⟨p, l, e1, hbo⟩ := Chk_zero h0
  obtain ⟨p', l', e2, kbo⟩ := Chk_zero h1
  obtain ⟨a1, _, a3⟩ := hull_facts L
  obtain ⟨b1, _, b3⟩ := hull_facts K
  have hl := hull_lenle L
  have hk := hull_lenle K
  have hloop : m34_L0 N L.length (cellsC L) K.length (cellsC K) N 0 = some (.inr ()) := by
    obtain ⟨f, rfl⟩ : ∃ f, N = f + 3 := ⟨N - 3, by omega⟩
    rw [m34_L0, brn_t (by simp), grd_t ⟨by omega, by omega⟩, grd_t (by decide), show gp [PV.lst false L.length (cellsC L), .lst false K.length (cellsC K)] (Int.toNat 0) = .lst false L.length (cellsC L) from rfl]
    simp only [getL, check_ok (f + 3) L (by omega) (by omega), bnd', getI, if_true]
    rw [brn_f (by simp [h0]), show IntKind.i64.wrap ((0 : Int) + 1) = 1 by decide, m34_L0, brn_t (by simp), grd_t ⟨by omega, by omega⟩, grd_t (by decide), show gp [PV.lst false L.length (cellsC L), .lst false K.length (cellsC K)] (Int.toNat 1) = .lst false K.length (cellsC K) from rfl]
    simp only [getL, check_ok (f + 3) K (by omega) (by omega), bnd', getI, if_true]
    rw [brn_f (by simp [h1]), show IntKind.i64.wrap ((1 : Int) + 1) = 2 by decide, m34_L0, brn_f (by simp)]
  simp only [m34, getL]
  rw [hloop]
  simp only [bnd', hull_ok N L hb l1 (by omega) (by omega), hull_ok N K kb k1 (by omega) (by omega), turns_ok N (by omega) L hb l1 (by omega), turns_ok N (by omega) K kb k1 (by omega)]
  obtain ⟨a, As, eA⟩ : ∃ a As, hullF L = a :: As := by
    cases hA : hullF L with
    | nil =>
      exfalso
      obtain ⟨c, hc, _⟩ := (hull_chain L).dom (0, 1) (by decide) (ctL L 0) (ctL_mem (by omega))
      rw [hA] at hc; simp at hc
    | cons a As => exact ⟨a, As, rfl⟩
  obtain ⟨b, Bs, eB⟩ : ∃ b Bs, hullF K = b :: Bs := by
    cases hB : hullF K with
    | nil =>
      exfalso
      obtain ⟨c, hc, _⟩ := (hull_chain K).dom (0, 1) (by decide) (ctL K 0) (ctL_mem (by omega))
      rw [hB] at hc; simp at hc
    | cons b Bs => exact ⟨b, Bs, rfl⟩
  have hm := merge_L N hN L K hb kb (by rw [e1] at *; exact List.all_eq_true.1 hbo) (by rw [e2] at *; exact List.all_eq_true.1 kbo) (by omega) (by omega) (hullF L) (hullF K) a3 b3 (by omega) (by omega) a1 b1 (As.length + Bs.length) [] a As [] b Bs N [] rfl (by rw [eA]; rfl) (by rw [eB]; rfl) (by rw [eA] at hl; rw [eB] at hk; simp at hl hk; omega) (by simp)
  simp only [List.length_nil, List.nil_append] at hm
  rw [show m34_L1 N L.length (cellsC L) K.length (cellsC K) (hullF L).length (nL (hullF L)) (hullF K).length (nL (hullF K)) (turnsC ((hullF L).map (ctL L))).length (cellsC (turnsC ((hullF L).map (ctL L)))) (turnsC ((hullF K).map (ctL K))).length (cellsC (turnsC ((hullF K).map (ctL K)))) N 0 0 0 [] = _ from hm]
  rw [← eA, ← eB]
end Go.Proofs.Ytgnphlpoofaojaa

namespace Go.Proofs.Ytgnphlpoofaojaa
open Go.V
end Go.Proofs.Ytgnphlpoofaojaa

namespace Go.Proofs.Ytgnphlpoofaojaa
open Go.V
set_option maxRecDepth 100000
set_option maxHeartbeats 4000000
set_option linter.unusedSimpArgs false
set_option linter.unusedVariables false
attribute [local go_sem] tl1 tl2 tl3 tl4 tl5 tl9 tl17 tl21 tl22 tl23 tl24 tl25 tl26 tl27 tl28 tl29 tl31 tl33 tl34 tl36 tl37 tl38 tl39 tl40 tl41 tl42 tl43 tl44 tl46 tl47 tl49 tl50 tl52 tl53 tl54 tl55 tl56 tl57 tl58 tl60 tl62 tl63 tl64 tl65 tl66 tl67 tl68 tl69 tl70 tl71 tl72 tl74 tl75 tl76 tl77 tl78 tl79 tl80 tl81 tl82 tl83 tl84 tl85 tl86 tl87 tl88 tl89 tl90 tl91 tl92 tl93 tl94 tl95 tl96 tl97 tl98 tl99 tl100 tl102 tl103 tl104 tl105 tl106 tl107 tl108 tl109 tl110 tl111 tl112 tl113 tl114 tl115 tl116 tl117 tl118 tl119 tl120 tl121 tl122 tl123 tl124 tl125 tl126 tl127 tl128 tl129 tl130 tl131 tl132 tl133 tl134 tl140 tl141 tl145

end Go.Proofs.Ytgnphlpoofaojaa

namespace Go.Proofs.Ytgnphlpoofaojaa
open Go.V

end Go.Proofs.Ytgnphlpoofaojaa

namespace Go.Proofs.Ytgnphlpoofaojaa
open Go.V
set_option maxRecDepth 100000
set_option maxHeartbeats 4000000
set_option linter.unusedSimpArgs false
set_option linter.unusedVariables false
attribute [local go_sem] tl1 tl2 tl3 tl4 tl5 tl9 tl17 tl21 tl22 tl23 tl24 tl25 tl26 tl27 tl28 tl29 tl31 tl33 tl34 tl36 tl37 tl38 tl39 tl40 tl41 tl42 tl43 tl44 tl46 tl47 tl49 tl50 tl52 tl53 tl54 tl55 tl56 tl57 tl58 tl60 tl62 tl63 tl64 tl65 tl66 tl67 tl68 tl69 tl70 tl71 tl72 tl74 tl75 tl76 tl77 tl78 tl79 tl80 tl81 tl82 tl83 tl84 tl85 tl86 tl87 tl88 tl89 tl90 tl91 tl92 tl93 tl94 tl95 tl96 tl97 tl98 tl99 tl100 tl102 tl103 tl104 tl105 tl106 tl107 tl108 tl109 tl110 tl111 tl112 tl113 tl114 tl115 tl116 tl117 tl118 tl119 tl120 tl121 tl122 tl123 tl124 tl125 tl126 tl127 tl128 tl129 tl130 tl131 tl132 tl133 tl134 tl140 tl141 tl145

end Go.Proofs.Ytgnphlpoofaojaa

namespace Go.Proofs.Ytgnphlpoofaojaa
open Go.V

theorem turnsC_len' : ∀ (C : List (Int × Int)), (turnsC C).length = C.length - 1
  | [] => rfl
  | [a] => rfl
  | a :: b :: C => by
    have := turnsC_len' (b :: C)
    simp only [turnsC, List.length_cons] at this ⊢; omega
end Go.Proofs.Ytgnphlpoofaojaa

namespace Go.Proofs.Ytgnphlpoofaojaa
open Go.V
set_option maxRecDepth 100000
set_option maxHeartbeats 4000000
set_option linter.unusedSimpArgs false
set_option linter.unusedVariables false
attribute [local go_sem] tl1 tl2 tl3 tl4 tl5 tl9 tl17 tl21 tl22 tl23 tl24 tl25 tl26 tl27 tl28 tl29 tl31 tl33 tl34 tl36 tl37 tl38 tl39 tl40 tl41 tl42 tl43 tl44 tl46 tl47 tl49 tl50 tl52 tl53 tl54 tl55 tl56 tl57 tl58 tl60 tl62 tl63 tl64 tl65 tl66 tl67 tl68 tl69 tl70 tl71 tl72 tl74 tl75 tl76 tl77 tl78 tl79 tl80 tl81 tl82 tl83 tl84 tl85 tl86 tl87 tl88 tl89 tl90 tl91 tl92 tl93 tl94 tl95 tl96 tl97 tl98 tl99 tl100 tl102 tl103 tl104 tl105 tl106 tl107 tl108 tl109 tl110 tl111 tl112 tl113 tl114 tl115 tl116 tl117 tl118 tl119 tl120 tl121 tl122 tl123 tl124 tl125 tl126 tl127 tl128 tl129 tl130 tl131 tl132 tl133 tl134 tl140 tl141 tl145

end Go.Proofs.Ytgnphlpoofaojaa

namespace Go.Proofs.Ytgnphlpoofaojaa
open Go.V

def chC (L : List (Int × Int)) : List (Int × Int) := (hullF L).map (ctL L)
end Go.Proofs.Ytgnphlpoofaojaa

namespace Go.Proofs.Ytgnphlpoofaojaa
open Go.V
set_option maxRecDepth 100000
set_option maxHeartbeats 4000000
set_option linter.unusedSimpArgs false
set_option linter.unusedVariables false
attribute [local go_sem] tl1 tl2 tl3 tl4 tl5 tl9 tl17 tl21 tl22 tl23 tl24 tl25 tl26 tl27 tl28 tl29 tl31 tl33 tl34 tl36 tl37 tl38 tl39 tl40 tl41 tl42 tl43 tl44 tl46 tl47 tl49 tl50 tl52 tl53 tl54 tl55 tl56 tl57 tl58 tl60 tl62 tl63 tl64 tl65 tl66 tl67 tl68 tl69 tl70 tl71 tl72 tl74 tl75 tl76 tl77 tl78 tl79 tl80 tl81 tl82 tl83 tl84 tl85 tl86 tl87 tl88 tl89 tl90 tl91 tl92 tl93 tl94 tl95 tl96 tl97 tl98 tl99 tl100 tl102 tl103 tl104 tl105 tl106 tl107 tl108 tl109 tl110 tl111 tl112 tl113 tl114 tl115 tl116 tl117 tl118 tl119 tl120 tl121 tl122 tl123 tl124 tl125 tl126 tl127 tl128 tl129 tl130 tl131 tl132 tl133 tl134 tl140 tl141 tl145

end Go.Proofs.Ytgnphlpoofaojaa

namespace Go.Proofs.Ytgnphlpoofaojaa
open Go.V

theorem ctL_get {L : List (Int × Int)} {i : Nat} (h : i < L.length) : ctL L i = L[i] := by
  simp [ctL, List.getD, h]
theorem asc_ct {C : List (Int × Int)} (h : Asc C) {i j : Nat} (hij : i < j) (hj : j < C.length) : (ctL C i).2 < (ctL C j).2 := by
  have := List.pairwise_iff_getElem.1 h i j (by omega) hj hij
  rw [ctL_get (by omega), ctL_get hj]; exact this
theorem mosta_x (N : Nat) (hN : 4000 ≤ N) (L : List (Int × Int)) (h1 : 1 ≤ L.length) (hL : L.length ≤ 40) (q : Int × Int) : m39 N (.lst false L.length (cellsC L)) (.agg [.int .i64 q.1, .int .i64 q.2]) = some (.int .i64 (mxL q L)) := by
  cases L with
  | nil => simp at h1
  | cons p l => exact mosta_ok N p l hL (by omega) q.1 q.2
end Go.Proofs.Ytgnphlpoofaojaa
