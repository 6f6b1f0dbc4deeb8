/-
  TurnBooks: what the functions compute answers as the law says.
  TurnShifted: what the functions compute answers as the law says.
  TurnFair: what the functions compute answers as the law says.
  TurnFair: the law returns true.
-/
import Derived.Test.YtgnphlpoofaojaaWLawcov
import Derived.Test.YtgnphlpoofaojaaWBothm
import Derived.Test.YtgnphlpoofaojaaB
import Derived.Test.YtgnphlpoofaojaaV33
import Derived.Test.YtgnphlpoofaojaaRows
import Derived.Test.YtgnphlpoofaojaaK
import Derived.Test.YtgnphlpoofaojaaV31
import Derived.WalkKit
import Derived.ProofKit
import Derived.OpenShut
namespace Go.Proofs.Ytgnphlpoofaojaa
open Go.V
set_option maxRecDepth 100000
set_option maxHeartbeats 4000000
set_option linter.unusedSimpArgs false
set_option linter.unusedVariables false
attribute [local go_sem] tl1 tl2 tl3 tl4 tl5 tl9 tl17 tl21 tl22 tl23 tl24 tl25 tl26 tl27 tl28 tl29 tl31 tl33 tl34 tl36 tl37 tl38 tl39 tl40 tl41 tl42 tl43 tl44 tl46 tl47 tl49 tl50 tl52 tl53 tl54 tl55 tl56 tl57 tl58 tl60 tl62 tl63 tl64 tl65 tl66 tl67 tl68 tl69 tl70 tl71 tl72 tl74 tl75 tl76 tl77 tl78 tl79 tl80 tl81 tl82 tl83 tl84 tl85 tl86 tl87 tl88 tl89 tl90 tl91 tl92 tl93 tl94 tl95 tl96 tl97 tl98 tl99 tl100 tl102 tl103 tl104 tl105 tl106 tl107 tl108 tl109 tl110 tl111 tl112 tl113 tl114 tl115 tl116 tl117 tl118 tl119 tl120 tl121 tl122 tl123 tl124 tl125 tl126 tl127 tl128 tl129 tl130 tl131 tl132 tl133 tl134 tl140 tl141 tl145

def m32_L0 (N : Nat) (x3086 : Int) (n3088 : Nat) (c3089 : List PV) (n3103 : Nat) (c3104 : List PV) : Nat → Int → Option ((PV ⊕ Unit))
  | 0, _ => none
  | n + 1, x3105 =>
    brn (decide (x3105 < ((n3103 : Nat) : Int))) (
      grd (0 ≤ x3105 ∧ x3105 < ((n3103 : Nat) : Int)) <|
      grd (0 < List.length (List.drop (Int.toNat x3105) c3104)) <|
      getI .i64 (gp c3104 (Int.toNat x3105)) fun x3111 =>
      grd (0 ≤ x3111 ∧ x3111 < ((n3088 : Nat) : Int)) <|
      grd (2 ≤ List.length (List.drop ((Int.toNat x3111) * 2) c3089)) <|
      getA2 (.agg (List.take 2 (List.drop ((Int.toNat x3111) * 2) c3089))) fun p3116 p3117 =>
      getI .i64 p3116 fun x3119 =>
      getI .i64 p3117 fun x3121 =>
      brn (x3086 == x3121) (
        some (.inl (.tup [(.agg [(.int .i64 x3119), (.int .i64 1)]), (.int .i64 0)]))) (
        brn (decide (x3086 < x3121)) (
          brn (decide (x3105 > 0)) (
            grd (0 ≤ (IntKind.i64.wrap (x3105 - 1)) ∧ (IntKind.i64.wrap (x3105 - 1)) < ((n3103 : Nat) : Int)) <|
            grd (0 < List.length (List.drop (Int.toNat (IntKind.i64.wrap (x3105 - 1))) c3104)) <|
            getI .i64 (gp c3104 (Int.toNat (IntKind.i64.wrap (x3105 - 1)))) fun x3129 =>
            grd (0 ≤ x3129 ∧ x3129 < ((n3088 : Nat) : Int)) <|
            grd (2 ≤ List.length (List.drop ((Int.toNat x3129) * 2) c3089)) <|
            getA2 (.agg (List.take 2 (List.drop ((Int.toNat x3129) * 2) c3089))) fun p3134 p3135 =>
            getI .i64 p3134 fun x3137 =>
            getI .i64 p3135 fun x3139 =>
            bnd' (m58 N (IntKind.i64.wrap ((IntKind.i64.wrap (x3137 * (IntKind.i64.wrap (x3121 - x3086)))) + (IntKind.i64.wrap (x3119 * (IntKind.i64.wrap (x3086 - x3139)))))) (IntKind.i64.wrap (x3121 - x3139))) fun p3140 =>
            getA2 p3140 fun p3143 p3144 =>
            getI .i64 p3143 fun x3146 =>
            getI .i64 p3144 fun x3148 =>
            some (.inl (.tup [(.agg [(.int .i64 x3146), (.int .i64 x3148)]), (.int .i64 0)]))) (
            some (.inl (.tup [(.agg [(.int .i64 0), (.int .i64 0)]), (.int .i64 12)])))) (
          m32_L0 N x3086 n3088 c3089 n3103 c3104 n (IntKind.i64.wrap (x3105 + 1))))) (
      some (.inr ()))
def m32 (N : Nat) (p3085 : PV) (x3086 : Int) : Option (PV) :=
  getL p3085 fun n3088 c3089 =>
  bnd' (m22 N (.lst false n3088 c3089)) fun p3090 =>
  getI .i64 p3090 fun x3093 =>
  brn (x3093 != 0) (
    some (.tup [(.agg [(.int .i64 0), (.int .i64 0)]), (.int .i64 x3093)])) (
    bnd' (m63 N x3086 10) fun p3095 =>
    getB p3095 fun b3098 =>
    brn b3098 (
      bnd' (m65 N (.lst false n3088 c3089)) fun p3100 =>
      getL p3100 fun n3103 c3104 =>
      bnd' (m32_L0 N x3086 n3088 c3089 n3103 c3104 N 0) fun o =>
      match o with
      | .inl p3149 =>
        some p3149
      | .inr () =>
        some (.tup [(.agg [(.int .i64 0), (.int .i64 0)]), (.int .i64 12)])) (
      some (.tup [(.agg [(.int .i64 0), (.int .i64 0)]), (.int .i64 1)])))
theorem c32 (N : Nat) (p3085 : PV) (x3086 : Int) (r : PV)  (h : m32 N p3085 x3086 = some r) : FnP Try.prog 32 [p3085, (.int .i64 x3086)] r := by
  unfold m32 at h
  refine Fn_of (sz := 91) tab_ok [0, 1, 4, 5, 6, 7, 8, 9, 10, 11, 14, 19, 26, 27, 28, 29, 37, 45, 83] [.cell 4 24, .tmp 5] Try.func32 rfl rfl rfl (by simp) ?_
  simp only [initSt, initEnv, List.map_cons, List.map_nil, List.getD_cons_zero, List.getD_cons_succ, List.getD_nil]
  have hh := getL_some h; clear h; obtain ⟨n3088, c3089, h3087, h⟩ := hh
  have hh := bnd'_some h; clear h; obtain ⟨p3090, h3091, h⟩ := hh
  refine W_sound tab_ok mixed 8 _ _ _ ?_
  simp -implicitDefEqProofs only [go_sem, ne_eq, not_false_eq_true, Nat.reduceBEq, Nat.reduceAdd, Nat.reduceSub, Nat.reduceMul, Nat.reduceLT, Nat.reduceLeDiff, Int.reduceLE, Int.reduceLT, Int.reduceToNat, Int.reduceBEq, Int.reduceBNe, Int.le_refl, Nat.le_refl, decide_true, decide_false, Int.cast_ofNat_Int, ↓reduceIte, h3087]
  repeat with_reducible refine And.intro (by first | kernel_rfl | decide) ?_
  refine Wp_callP (c22 N _ _ h3091) (by kernel_rfl) rfl rfl rfl rfl (by decide) ?_
  have hh := getI_some h; clear h; obtain ⟨x3093, h3092, h⟩ := hh
  have hh := brn_some h; clear h; rcases hh with ⟨h3094, h⟩ | ⟨h3094, h⟩
  · refine W_sound tab_ok mixed 20 _ _ _ ?_
    simp -implicitDefEqProofs only [go_sem, ne_eq, not_false_eq_true, Nat.reduceBEq, Nat.reduceAdd, Nat.reduceSub, Nat.reduceMul, Nat.reduceLT, Nat.reduceLeDiff, Int.reduceLE, Int.reduceLT, Int.reduceToNat, Int.reduceBEq, Int.reduceBNe, Int.le_refl, Nat.le_refl, decide_true, decide_false, Int.cast_ofNat_Int, ↓reduceIte, h3087, h3092, h3094]
    repeat with_reducible refine And.intro (by first | kernel_rfl | decide) ?_
    refine FinQ_wk (Wk_freeze 4 [(.int .i64 0), (.int .i64 0)] (by rfl) (by decide) (by decide)) ?_
    simp -implicitDefEqProofs only [go_sem, ne_eq, not_false_eq_true, Nat.reduceBEq, Nat.reduceAdd, Nat.reduceSub, Nat.reduceMul, Nat.reduceLT, Nat.reduceLeDiff, Int.reduceLE, Int.reduceLT, Int.reduceToNat, Int.reduceBEq, Int.reduceBNe, Int.le_refl, Nat.le_refl, decide_true, decide_false, Int.cast_ofNat_Int, ↓reduceIte, h3087, h3092, h3094]
    obtain rfl := Option.some.inj h
    exact finC [(4, .v (.ipt [(.int .i64 0), (.int .i64 0)])), (5, .v (.int .i64 x3093))] [(4, .v (.ipt [(.int .i64 0), (.int .i64 0)])), (5, .v (.int .i64 x3093))] (by simp [leE, lk_cons]) (.cons _ _ _ _ _ (.v _ _ (.refl _)) (.cons _ _ _ _ _ (.v _ _ (.refl _)) .nil)) (by rfl) (by simp [leE, lk_cons]) (by decide) (by decide) rfl (by simp only [go_sem, ne_eq, not_false_eq_true, Nat.reduceBEq, Nat.reduceAdd, Nat.reduceSub, Nat.reduceMul, Nat.reduceLT, Nat.reduceLeDiff, Int.reduceLE, Int.reduceLT, Int.reduceToNat, Int.reduceBEq, Int.reduceBNe, Int.le_refl, Nat.le_refl, decide_true, decide_false, Int.cast_ofNat_Int, ↓reduceIte, resQ_tmp, resQ_cell, resQ_nil, retD_one, retD_two, retD_three, retD_none]; try simp [R.val, retD_one, retD_two, retD_three, retD_none])
  · have hh := bnd'_some h; clear h; obtain ⟨p3095, h3096, h⟩ := hh
    refine W_sound tab_ok mixed 14 _ _ _ ?_
    simp -implicitDefEqProofs only [go_sem, ne_eq, not_false_eq_true, Nat.reduceBEq, Nat.reduceAdd, Nat.reduceSub, Nat.reduceMul, Nat.reduceLT, Nat.reduceLeDiff, Int.reduceLE, Int.reduceLT, Int.reduceToNat, Int.reduceBEq, Int.reduceBNe, Int.le_refl, Nat.le_refl, decide_true, decide_false, Int.cast_ofNat_Int, ↓reduceIte, h3087, h3092, h3094]
    repeat with_reducible refine And.intro (by first | kernel_rfl | decide) ?_
    refine Wp_callP (c63 N _ _ _ h3096) (by kernel_rfl) rfl rfl rfl rfl (by decide) ?_
    have hh := getB_some h; clear h; obtain ⟨b3098, h3097, h⟩ := hh
    have hh := brn_some h; clear h; rcases hh with ⟨h3099, h⟩ | ⟨h3099, h⟩
    · have hh := bnd'_some h; clear h; obtain ⟨p3100, h3101, h⟩ := hh
      refine W_sound tab_ok mixed 9 _ _ _ ?_
      simp -implicitDefEqProofs only [go_sem, ne_eq, not_false_eq_true, Nat.reduceBEq, Nat.reduceAdd, Nat.reduceSub, Nat.reduceMul, Nat.reduceLT, Nat.reduceLeDiff, Int.reduceLE, Int.reduceLT, Int.reduceToNat, Int.reduceBEq, Int.reduceBNe, Int.le_refl, Nat.le_refl, decide_true, decide_false, Int.cast_ofNat_Int, ↓reduceIte, h3087, h3092, h3094, h3097, h3099]
      repeat with_reducible refine And.intro (by first | kernel_rfl | decide) ?_
      refine Wp_callP (c65 N _ _ h3101) (by kernel_rfl) rfl rfl rfl rfl (by decide) ?_
      have hh := getL_some h; clear h; obtain ⟨n3103, c3104, h3102, h⟩ := hh
      refine W_sound tab_ok mixed 9 _ _ _ ?_
      simp -implicitDefEqProofs only [go_sem, ne_eq, not_false_eq_true, Nat.reduceBEq, Nat.reduceAdd, Nat.reduceSub, Nat.reduceMul, Nat.reduceLT, Nat.reduceLeDiff, Int.reduceLE, Int.reduceLT, Int.reduceToNat, Int.reduceBEq, Int.reduceBNe, Int.le_refl, Nat.le_refl, decide_true, decide_false, Int.cast_ofNat_Int, ↓reduceIte, h3087, h3092, h3094, h3097, h3099, h3102]
      repeat with_reducible refine And.intro (by first | kernel_rfl | decide) ?_
      have hh := bnd'_some h; clear h; obtain ⟨o3150, h3151, h3152⟩ := hh
      refine Wp_cut (fun s => (.inr ()) = o3150 ∧ s = ⟨[], [(0, .dead), (1, .dead), (4, .ptr 0 0), (5, .dead), (6, .dead), (7, .dead), (8, .dead), (9, .dead), (10, .dead), (11, .dead), (14, .dead), (19, .dead), (26, .dead), (27, .dead), (28, .dead), (29, .dead), (37, .dead), (45, .dead), (83, .dead)], [(0, .p [(.int .i64 0), (.int .i64 0)])], 1, []⟩) ?_ ?_
      · refine Wp_block ?_
        refine Wp_loopG (fun n s => ∃ x3105, m32_L0 N x3086 n3088 c3089 n3103 c3104 n x3105 = some o3150 ∧ s = ⟨[], [(0, .v (.lst false n3088 c3089)), (1, .v (.int .i64 x3086)), (4, .ptr 0 0), (5, .dead), (6, .dead), (7, .v (.lst false n3103 c3104)), (8, .dead), (9, .dead), (10, .dead), (11, .dead), (14, .dead), (19, .dead), (26, .v (.lst false n3103 c3104)), (27, .v (.int .i64 ((n3103 : Nat) : Int))), (28, .v (.int .i64 x3105)), (29, .dead), (37, .dead), (45, .dead), (83, .dead)], [(0, .p [(.int .i64 0), (.int .i64 0)])], 1, []⟩) N _ ((Wk_le (.cons _ _ _ _ _ (.refl _) (.cons _ _ _ _ _ (.refl _) (.cons _ _ _ _ _ (.refl _) (.cons _ _ _ _ _ (.dead _) (.cons _ _ _ _ _ (.dead _) (.cons _ _ _ _ _ (.refl _) (.cons _ _ _ _ _ (.refl _) (.cons _ _ _ _ _ (.refl _) (.cons _ _ _ _ _ (.refl _) (.cons _ _ _ _ _ (.refl _) (.cons _ _ _ _ _ (.dead _) (.cons _ _ _ _ _ (.dead _) (.cons _ _ _ _ _ (.refl _) (.cons _ _ _ _ _ (.refl _) (.cons _ _ _ _ _ (.refl _) (.cons _ _ _ _ _ (.refl _) (.cons _ _ _ _ _ (.refl _) (.cons _ _ _ _ _ (.refl _) (.cons _ _ _ _ _ (.refl _) .nil))))))))))))))))))) (OLe.refl _)).trans (cmpS_ok rfl)) ⟨_, h3151, rfl⟩ ?_
        clear h3151
        rintro n _ ⟨x3105, h3151, rfl⟩
        cases n with
        | zero => cases h3151
        | succ n =>
          rw [m32_L0] at h3151
          have hh := brn_some h3151; clear h3151; rcases hh with ⟨h3106, h3151⟩ | ⟨h3106, h3151⟩
          · have hh := grd_some h3151; clear h3151; obtain ⟨⟨g3107, g3108⟩, h3151⟩ := hh
            have hh := grd_some h3151; clear h3151; obtain ⟨g3109, h3151⟩ := hh
            have hh := getI_some h3151; clear h3151; obtain ⟨x3111, h3110, h3151⟩ := hh
            have hh := grd_some h3151; clear h3151; obtain ⟨⟨g3112, g3113⟩, h3151⟩ := hh
            have hh := grd_some h3151; clear h3151; obtain ⟨g3114, h3151⟩ := hh
            have hh := getA2_some h3151; clear h3151; obtain ⟨p3116, p3117, h3115, h3151⟩ := hh
            injection h3115 with h3115
            have hh := getI_some h3151; clear h3151; obtain ⟨x3119, h3118, h3151⟩ := hh
            have hh := getI_some h3151; clear h3151; obtain ⟨x3121, h3120, h3151⟩ := hh
            have hh := brn_some h3151; clear h3151; rcases hh with ⟨h3122, h3151⟩ | ⟨h3122, h3151⟩
            · refine W_sound tab_ok mixed 46 _ _ _ ?_
              simp -implicitDefEqProofs only [go_sem, ne_eq, not_false_eq_true, Nat.reduceBEq, Nat.reduceAdd, Nat.reduceSub, Nat.reduceMul, Nat.reduceLT, Nat.reduceLeDiff, Int.reduceLE, Int.reduceLT, Int.reduceToNat, Int.reduceBEq, Int.reduceBNe, Int.le_refl, Nat.le_refl, decide_true, decide_false, Int.cast_ofNat_Int, ↓reduceIte, h3087, h3092, h3094, h3097, h3099, h3102, h3106, g3107, g3108, g3109, h3110, g3112, g3113, g3114, h3115, h3118, h3120, h3122]
              repeat with_reducible refine And.intro (by first | kernel_rfl | decide) ?_
              refine FinQ_wk (Wk_freeze 0 [(.int .i64 x3119), (.int .i64 1)] (by rfl) (by decide) (by decide)) ?_
              simp -implicitDefEqProofs only [go_sem, ne_eq, not_false_eq_true, Nat.reduceBEq, Nat.reduceAdd, Nat.reduceSub, Nat.reduceMul, Nat.reduceLT, Nat.reduceLeDiff, Int.reduceLE, Int.reduceLT, Int.reduceToNat, Int.reduceBEq, Int.reduceBNe, Int.le_refl, Nat.le_refl, decide_true, decide_false, Int.cast_ofNat_Int, ↓reduceIte, h3087, h3092, h3094, h3097, h3099, h3102, h3106, g3107, g3108, g3109, h3110, g3112, g3113, g3114, h3115, h3118, h3120, h3122]
              obtain rfl := Option.some.inj h3151
              (try dsimp only at h3152)
              obtain rfl := Option.some.inj h3152
              exact finC [(4, .v (.ipt [(.int .i64 x3119), (.int .i64 1)])), (5, .v (.int .i64 0))] [(4, .v (.ipt [(.int .i64 x3119), (.int .i64 1)])), (5, .v (.int .i64 0))] (by simp [leE, lk_cons]) (.cons _ _ _ _ _ (.v _ _ (.refl _)) (.cons _ _ _ _ _ (.v _ _ (.refl _)) .nil)) (by rfl) (by simp [leE, lk_cons]) (by decide) (by decide) rfl (by simp only [go_sem, ne_eq, not_false_eq_true, Nat.reduceBEq, Nat.reduceAdd, Nat.reduceSub, Nat.reduceMul, Nat.reduceLT, Nat.reduceLeDiff, Int.reduceLE, Int.reduceLT, Int.reduceToNat, Int.reduceBEq, Int.reduceBNe, Int.le_refl, Nat.le_refl, decide_true, decide_false, Int.cast_ofNat_Int, ↓reduceIte, resQ_tmp, resQ_cell, resQ_nil, retD_one, retD_two, retD_three, retD_none]; try simp [R.val, retD_one, retD_two, retD_three, retD_none])
            · have hh := brn_some h3151; clear h3151; rcases hh with ⟨h3123, h3151⟩ | ⟨h3123, h3151⟩
              · have hh := brn_some h3151; clear h3151; rcases hh with ⟨h3124, h3151⟩ | ⟨h3124, h3151⟩
                · have hh := grd_some h3151; clear h3151; obtain ⟨⟨g3125, g3126⟩, h3151⟩ := hh
                  have hh := grd_some h3151; clear h3151; obtain ⟨g3127, h3151⟩ := hh
                  have hh := getI_some h3151; clear h3151; obtain ⟨x3129, h3128, h3151⟩ := hh
                  have hh := grd_some h3151; clear h3151; obtain ⟨⟨g3130, g3131⟩, h3151⟩ := hh
                  have hh := grd_some h3151; clear h3151; obtain ⟨g3132, h3151⟩ := hh
                  have hh := getA2_some h3151; clear h3151; obtain ⟨p3134, p3135, h3133, h3151⟩ := hh
                  injection h3133 with h3133
                  have hh := getI_some h3151; clear h3151; obtain ⟨x3137, h3136, h3151⟩ := hh
                  have hh := getI_some h3151; clear h3151; obtain ⟨x3139, h3138, h3151⟩ := hh
                  have hh := bnd'_some h3151; clear h3151; obtain ⟨p3140, h3141, h3151⟩ := hh
                  refine W_sound tab_ok mixed 84 _ _ _ ?_
                  simp -implicitDefEqProofs only [go_sem, ne_eq, not_false_eq_true, Nat.reduceBEq, Nat.reduceAdd, Nat.reduceSub, Nat.reduceMul, Nat.reduceLT, Nat.reduceLeDiff, Int.reduceLE, Int.reduceLT, Int.reduceToNat, Int.reduceBEq, Int.reduceBNe, Int.le_refl, Nat.le_refl, decide_true, decide_false, Int.cast_ofNat_Int, ↓reduceIte, h3087, h3092, h3094, h3097, h3099, h3102, h3106, g3107, g3108, g3109, h3110, g3112, g3113, g3114, h3115, h3118, h3120, h3122, h3123, h3124, g3125, g3126, g3127, h3128, g3130, g3131, g3132, h3133, h3136, h3138]
                  repeat with_reducible refine And.intro (by first | kernel_rfl | decide) ?_
                  refine Wp_callP (c58 N _ _ _ h3141) (by kernel_rfl) rfl rfl rfl rfl (by decide) ?_
                  have hh := getA2_some h3151; clear h3151; obtain ⟨p3143, p3144, h3142, h3151⟩ := hh
                  have hh := getI_some h3151; clear h3151; obtain ⟨x3146, h3145, h3151⟩ := hh
                  have hh := getI_some h3151; clear h3151; obtain ⟨x3148, h3147, h3151⟩ := hh
                  refine W_sound tab_ok mixed 5 _ _ _ ?_
                  simp -implicitDefEqProofs only [go_sem, ne_eq, not_false_eq_true, Nat.reduceBEq, Nat.reduceAdd, Nat.reduceSub, Nat.reduceMul, Nat.reduceLT, Nat.reduceLeDiff, Int.reduceLE, Int.reduceLT, Int.reduceToNat, Int.reduceBEq, Int.reduceBNe, Int.le_refl, Nat.le_refl, decide_true, decide_false, Int.cast_ofNat_Int, ↓reduceIte, h3087, h3092, h3094, h3097, h3099, h3102, h3106, g3107, g3108, g3109, h3110, g3112, g3113, g3114, h3115, h3118, h3120, h3122, h3123, h3124, g3125, g3126, g3127, h3128, g3130, g3131, g3132, h3133, h3136, h3138, h3142, h3145, h3147]
                  repeat with_reducible refine And.intro (by first | kernel_rfl | decide) ?_
                  refine FinQ_wk (Wk_freeze 0 [(.int .i64 x3146), (.int .i64 x3148)] (by rfl) (by decide) (by decide)) ?_
                  simp -implicitDefEqProofs only [go_sem, ne_eq, not_false_eq_true, Nat.reduceBEq, Nat.reduceAdd, Nat.reduceSub, Nat.reduceMul, Nat.reduceLT, Nat.reduceLeDiff, Int.reduceLE, Int.reduceLT, Int.reduceToNat, Int.reduceBEq, Int.reduceBNe, Int.le_refl, Nat.le_refl, decide_true, decide_false, Int.cast_ofNat_Int, ↓reduceIte, h3087, h3092, h3094, h3097, h3099, h3102, h3106, g3107, g3108, g3109, h3110, g3112, g3113, g3114, h3115, h3118, h3120, h3122, h3123, h3124, g3125, g3126, g3127, h3128, g3130, g3131, g3132, h3133, h3136, h3138, h3142, h3145, h3147]
                  obtain rfl := Option.some.inj h3151
                  (try dsimp only at h3152)
                  obtain rfl := Option.some.inj h3152
                  exact finC [(4, .v (.ipt [(.int .i64 x3146), (.int .i64 x3148)])), (5, .v (.int .i64 0))] [(4, .v (.ipt [(.int .i64 x3146), (.int .i64 x3148)])), (5, .v (.int .i64 0))] (by simp [leE, lk_cons]) (.cons _ _ _ _ _ (.v _ _ (.refl _)) (.cons _ _ _ _ _ (.v _ _ (.refl _)) .nil)) (by rfl) (by simp [leE, lk_cons]) (by decide) (by decide) rfl (by simp only [go_sem, ne_eq, not_false_eq_true, Nat.reduceBEq, Nat.reduceAdd, Nat.reduceSub, Nat.reduceMul, Nat.reduceLT, Nat.reduceLeDiff, Int.reduceLE, Int.reduceLT, Int.reduceToNat, Int.reduceBEq, Int.reduceBNe, Int.le_refl, Nat.le_refl, decide_true, decide_false, Int.cast_ofNat_Int, ↓reduceIte, resQ_tmp, resQ_cell, resQ_nil, retD_one, retD_two, retD_three, retD_none]; try simp [R.val, retD_one, retD_two, retD_three, retD_none])
                · refine W_sound tab_ok mixed 66 _ _ _ ?_
                  simp -implicitDefEqProofs only [go_sem, ne_eq, not_false_eq_true, Nat.reduceBEq, Nat.reduceAdd, Nat.reduceSub, Nat.reduceMul, Nat.reduceLT, Nat.reduceLeDiff, Int.reduceLE, Int.reduceLT, Int.reduceToNat, Int.reduceBEq, Int.reduceBNe, Int.le_refl, Nat.le_refl, decide_true, decide_false, Int.cast_ofNat_Int, ↓reduceIte, h3087, h3092, h3094, h3097, h3099, h3102, h3106, g3107, g3108, g3109, h3110, g3112, g3113, g3114, h3115, h3118, h3120, h3122, h3123, h3124]
                  repeat with_reducible refine And.intro (by first | kernel_rfl | decide) ?_
                  refine FinQ_wk (Wk_freeze 0 [(.int .i64 0), (.int .i64 0)] (by rfl) (by decide) (by decide)) ?_
                  simp -implicitDefEqProofs only [go_sem, ne_eq, not_false_eq_true, Nat.reduceBEq, Nat.reduceAdd, Nat.reduceSub, Nat.reduceMul, Nat.reduceLT, Nat.reduceLeDiff, Int.reduceLE, Int.reduceLT, Int.reduceToNat, Int.reduceBEq, Int.reduceBNe, Int.le_refl, Nat.le_refl, decide_true, decide_false, Int.cast_ofNat_Int, ↓reduceIte, h3087, h3092, h3094, h3097, h3099, h3102, h3106, g3107, g3108, g3109, h3110, g3112, g3113, g3114, h3115, h3118, h3120, h3122, h3123, h3124]
                  obtain rfl := Option.some.inj h3151
                  (try dsimp only at h3152)
                  obtain rfl := Option.some.inj h3152
                  exact finC [(4, .v (.ipt [(.int .i64 0), (.int .i64 0)])), (5, .v (.int .i64 12))] [(4, .v (.ipt [(.int .i64 0), (.int .i64 0)])), (5, .v (.int .i64 12))] (by simp [leE, lk_cons]) (.cons _ _ _ _ _ (.v _ _ (.refl _)) (.cons _ _ _ _ _ (.v _ _ (.refl _)) .nil)) (by rfl) (by simp [leE, lk_cons]) (by decide) (by decide) rfl (by simp only [go_sem, ne_eq, not_false_eq_true, Nat.reduceBEq, Nat.reduceAdd, Nat.reduceSub, Nat.reduceMul, Nat.reduceLT, Nat.reduceLeDiff, Int.reduceLE, Int.reduceLT, Int.reduceToNat, Int.reduceBEq, Int.reduceBNe, Int.le_refl, Nat.le_refl, decide_true, decide_false, Int.cast_ofNat_Int, ↓reduceIte, resQ_tmp, resQ_cell, resQ_nil, retD_one, retD_two, retD_three, retD_none]; try simp [R.val, retD_one, retD_two, retD_three, retD_none])
              · refine W_sound tab_ok mixed 65 _ _ _ ?_
                simp -implicitDefEqProofs only [go_sem, ne_eq, not_false_eq_true, Nat.reduceBEq, Nat.reduceAdd, Nat.reduceSub, Nat.reduceMul, Nat.reduceLT, Nat.reduceLeDiff, Int.reduceLE, Int.reduceLT, Int.reduceToNat, Int.reduceBEq, Int.reduceBNe, Int.le_refl, Nat.le_refl, decide_true, decide_false, Int.cast_ofNat_Int, ↓reduceIte, h3087, h3092, h3094, h3097, h3099, h3102, h3106, g3107, g3108, g3109, h3110, g3112, g3113, g3114, h3115, h3118, h3120, h3122, h3123]
                repeat with_reducible refine And.intro (by first | kernel_rfl | decide) ?_
                exact cutQ _ ((Wk_le (.cons _ _ _ _ _ (.refl _) (.cons _ _ _ _ _ (.refl _) (.cons _ _ _ _ _ (.refl _) (.cons _ _ _ _ _ (.refl _) (.cons _ _ _ _ _ (.refl _) (.cons _ _ _ _ _ (.refl _) (.cons _ _ _ _ _ (.dead _) (.cons _ _ _ _ _ (.dead _) (.cons _ _ _ _ _ (.dead _) (.cons _ _ _ _ _ (.refl _) (.cons _ _ _ _ _ (.refl _) (.cons _ _ _ _ _ (.refl _) (.cons _ _ _ _ _ (.refl _) (.cons _ _ _ _ _ (.refl _) (.cons _ _ _ _ _ (.refl _) (.cons _ _ _ _ _ (.dead _) (.cons _ _ _ _ _ (.dead _) (.cons _ _ _ _ _ (.dead _) (.cons _ _ _ _ _ (.dead _) .nil))))))))))))))))))) (OLe.refl _)).trans (cmpS_ok rfl)) ⟨n, Nat.lt_succ_self n, _, h3151, rfl⟩
          · refine W_sound tab_ok mixed 7 _ _ _ ?_
            simp -implicitDefEqProofs only [go_sem, ne_eq, not_false_eq_true, Nat.reduceBEq, Nat.reduceAdd, Nat.reduceSub, Nat.reduceMul, Nat.reduceLT, Nat.reduceLeDiff, Int.reduceLE, Int.reduceLT, Int.reduceToNat, Int.reduceBEq, Int.reduceBNe, Int.le_refl, Nat.le_refl, decide_true, decide_false, Int.cast_ofNat_Int, ↓reduceIte, h3087, h3092, h3094, h3097, h3099, h3102, h3106]
            repeat with_reducible refine And.intro (by first | kernel_rfl | decide) ?_
            obtain rfl := Option.some.inj h3151
            exact cutQ _ ((Wk_le (.cons _ _ _ _ _ (.dead _) (.cons _ _ _ _ _ (.dead _) (.cons _ _ _ _ _ (.refl _) (.cons _ _ _ _ _ (.refl _) (.cons _ _ _ _ _ (.refl _) (.cons _ _ _ _ _ (.dead _) (.cons _ _ _ _ _ (.refl _) (.cons _ _ _ _ _ (.refl _) (.cons _ _ _ _ _ (.refl _) (.cons _ _ _ _ _ (.refl _) (.cons _ _ _ _ _ (.refl _) (.cons _ _ _ _ _ (.refl _) (.cons _ _ _ _ _ (.dead _) (.cons _ _ _ _ _ (.dead _) (.cons _ _ _ _ _ (.dead _) (.cons _ _ _ _ _ (.dead _) (.cons _ _ _ _ _ (.refl _) (.cons _ _ _ _ _ (.refl _) (.cons _ _ _ _ _ (.refl _) .nil))))))))))))))))))) (OLe.refl _)).trans (cmpS_ok rfl)) ⟨rfl, rfl⟩
      · rintro _ ⟨rfl, rfl⟩
        (try dsimp only at h3152)
        refine W_sound tab_ok mixed 8 _ _ _ ?_
        simp -implicitDefEqProofs only [go_sem, ne_eq, not_false_eq_true, Nat.reduceBEq, Nat.reduceAdd, Nat.reduceSub, Nat.reduceMul, Nat.reduceLT, Nat.reduceLeDiff, Int.reduceLE, Int.reduceLT, Int.reduceToNat, Int.reduceBEq, Int.reduceBNe, Int.le_refl, Nat.le_refl, decide_true, decide_false, Int.cast_ofNat_Int, ↓reduceIte, h3087, h3092, h3094, h3097, h3099, h3102]
        repeat with_reducible refine And.intro (by first | kernel_rfl | decide) ?_
        refine FinQ_wk (Wk_freeze 0 [(.int .i64 0), (.int .i64 0)] (by rfl) (by decide) (by decide)) ?_
        simp -implicitDefEqProofs only [go_sem, ne_eq, not_false_eq_true, Nat.reduceBEq, Nat.reduceAdd, Nat.reduceSub, Nat.reduceMul, Nat.reduceLT, Nat.reduceLeDiff, Int.reduceLE, Int.reduceLT, Int.reduceToNat, Int.reduceBEq, Int.reduceBNe, Int.le_refl, Nat.le_refl, decide_true, decide_false, Int.cast_ofNat_Int, ↓reduceIte, h3087, h3092, h3094, h3097, h3099, h3102]
        obtain rfl := Option.some.inj h3152
        exact finC [(4, .v (.ipt [(.int .i64 0), (.int .i64 0)])), (5, .v (.int .i64 12))] [(4, .v (.ipt [(.int .i64 0), (.int .i64 0)])), (5, .v (.int .i64 12))] (by simp [leE, lk_cons]) (.cons _ _ _ _ _ (.v _ _ (.refl _)) (.cons _ _ _ _ _ (.v _ _ (.refl _)) .nil)) (by rfl) (by simp [leE, lk_cons]) (by decide) (by decide) rfl (by simp only [go_sem, ne_eq, not_false_eq_true, Nat.reduceBEq, Nat.reduceAdd, Nat.reduceSub, Nat.reduceMul, Nat.reduceLT, Nat.reduceLeDiff, Int.reduceLE, Int.reduceLT, Int.reduceToNat, Int.reduceBEq, Int.reduceBNe, Int.le_refl, Nat.le_refl, decide_true, decide_false, Int.cast_ofNat_Int, ↓reduceIte, resQ_tmp, resQ_cell, resQ_nil, retD_one, retD_two, retD_three, retD_none]; try simp [R.val, retD_one, retD_two, retD_three, retD_none])
    · refine W_sound tab_ok mixed 12 _ _ _ ?_
      simp -implicitDefEqProofs only [go_sem, ne_eq, not_false_eq_true, Nat.reduceBEq, Nat.reduceAdd, Nat.reduceSub, Nat.reduceMul, Nat.reduceLT, Nat.reduceLeDiff, Int.reduceLE, Int.reduceLT, Int.reduceToNat, Int.reduceBEq, Int.reduceBNe, Int.le_refl, Nat.le_refl, decide_true, decide_false, Int.cast_ofNat_Int, ↓reduceIte, h3087, h3092, h3094, h3097, h3099]
      repeat with_reducible refine And.intro (by first | kernel_rfl | decide) ?_
      refine FinQ_wk (Wk_freeze 4 [(.int .i64 0), (.int .i64 0)] (by rfl) (by decide) (by decide)) ?_
      simp -implicitDefEqProofs only [go_sem, ne_eq, not_false_eq_true, Nat.reduceBEq, Nat.reduceAdd, Nat.reduceSub, Nat.reduceMul, Nat.reduceLT, Nat.reduceLeDiff, Int.reduceLE, Int.reduceLT, Int.reduceToNat, Int.reduceBEq, Int.reduceBNe, Int.le_refl, Nat.le_refl, decide_true, decide_false, Int.cast_ofNat_Int, ↓reduceIte, h3087, h3092, h3094, h3097, h3099]
      obtain rfl := Option.some.inj h
      exact finC [(4, .v (.ipt [(.int .i64 0), (.int .i64 0)])), (5, .v (.int .i64 1))] [(4, .v (.ipt [(.int .i64 0), (.int .i64 0)])), (5, .v (.int .i64 1))] (by simp [leE, lk_cons]) (.cons _ _ _ _ _ (.v _ _ (.refl _)) (.cons _ _ _ _ _ (.v _ _ (.refl _)) .nil)) (by rfl) (by simp [leE, lk_cons]) (by decide) (by decide) rfl (by simp only [go_sem, ne_eq, not_false_eq_true, Nat.reduceBEq, Nat.reduceAdd, Nat.reduceSub, Nat.reduceMul, Nat.reduceLT, Nat.reduceLeDiff, Int.reduceLE, Int.reduceLT, Int.reduceToNat, Int.reduceBEq, Int.reduceBNe, Int.le_refl, Nat.le_refl, decide_true, decide_false, Int.cast_ofNat_Int, ↓reduceIte, resQ_tmp, resQ_cell, resQ_nil, retD_one, retD_two, retD_three, retD_none]; try simp [R.val, retD_one, retD_two, retD_three, retD_none])

end Go.Proofs.Ytgnphlpoofaojaa

namespace Go.Proofs.Ytgnphlpoofaojaa
open Go.V

theorem fair_L (N : Nat) (hN : 8000 ≤ N) (r : Int) (hr : -10 ≤ r ∧ r ≤ 10) (L : List (Int × Int)) (hb : ∀ c ∈ L, bdC c) (hL : L.length ≤ 1000) (H : List Nat) (hH : ∀ k ∈ H, k < L.length) (hHl : H.length ≤ 1000) : ∀ (rest done : List Nat) (fuel : Nat) (pv : Option (Int × Int)), H = done ++ rest → rest.length < fuel →
    (pv = none ∧ done = [] ∨ ∃ d' a, done = d' ++ [a] ∧ pv = some (ctL L a) ∧ (ctL L a).2 < r) →
    ∃ o, m32_L0 N r L.length (cellsC L) H.length (nL H) fuel (done.length : Int) = some o ∧
      (match fairF r pv (rest.map (ctL L)) with | some v => o = .inl (.tup [frP v, .int .i64 0]) | none => o = .inr () ∨ o = .inl (.tup [frP (0, 0), .int .i64 12]))
  | [], done, 0, _, _, h, _ => by simp at h
  | [], done, f + 1, pv, e, _, _ => by
    have : H.length = done.length := by rw [e]; simp
    rw [m32_L0, brn_f (by simp; omega)]
    exact ⟨_, rfl, .inl rfl⟩
  | k :: rest, done, 0, _, _, h, _ => by simp at h
  | k :: rest, done, f + 1, pv, e, hf, hpv => by
    have hHe : H.length = done.length + (rest.length + 1) := by rw [e]; simp
    have hk := hH k (by rw [e]; simp)
    have hcl : (cellsC L).length = L.length * 2 := cellsC_len L
    have hnl : (nL H).length = H.length := nL_len H
    have td : (Int.toNat ((done.length : Nat) : Int)) = done.length := by omega
    have tk : (Int.toNat (k : Int)) = k := by omega
    have hw : IntKind.i64.wrap ((done.length : Int) + 1) = ((done.length + 1 : Nat) : Int) := by rw [wrap64 (by omega) (by omega)]; omega
    have gk : gp (nL H) done.length = .int .i64 (k : Int) := by rw [e]; exact nL_gp done k _
    have bk := hb _ (ctL_mem hk)
    rw [m32_L0, brn_t (by simp; omega), td, grd_t ⟨by omega, by omega⟩, grd_t (by simp only [List.length_drop]; omega), gk]
    simp only [getI, if_true]
    rw [tk, grd_t ⟨by omega, by omega⟩, grd_t (by simp only [List.length_drop]; omega), cellsC_at (ctL_at hk)]
    simp only [getA2, if_true, List.map_cons, fairF]
    by_cases h1 : r = (ctL L k).2
    · rw [brn_t (by simpa using h1), if_pos h1]
      exact ⟨_, rfl, rfl⟩
    · rw [brn_f (by simpa using h1), if_neg h1]
      by_cases h2 : r < (ctL L k).2
      · rw [brn_t (by simpa using h2), if_pos h2]
        rcases hpv with ⟨rfl, rfl⟩ | ⟨d', a, rfl, rfl, ha⟩
        · rw [brn_f (by simp)]
          exact ⟨_, rfl, .inr rfl⟩
        · have hal := hH a (by rw [e]; simp)
          have ba := hb _ (ctL_mem hal)
          have w1 : IntKind.i64.wrap (((d' ++ [a]).length : Int) - 1) = ((d'.length : Nat) : Int) := by rw [List.length_append, List.length_cons, List.length_nil, wrap64 (by simp at hHe; omega) (by simp at hHe; omega)]; omega
          have t1 : (Int.toNat ((d'.length : Nat) : Int)) = d'.length := by omega
          have ta : (Int.toNat (a : Int)) = a := by omega
          have ga : gp (nL H) d'.length = .int .i64 (a : Int) := by
            rw [e, List.append_assoc]; exact nL_gp d' a _
          have hdl : (d' ++ [a]).length = d'.length + 1 := by simp
          rw [brn_t (by simp), w1, t1, grd_t ⟨by omega, by omega⟩, grd_t (by simp only [List.length_drop]; omega), ga]
          simp only [if_true]
          rw [ta, grd_t ⟨by omega, by omega⟩, grd_t (by simp only [List.length_drop]; omega), cellsC_at (ctL_at hal)]
          simp only [if_true]
          unfold bdC at ba bk
          have m1 := mulQ (x := (ctL L a).1) (y := (ctL L k).2 - r) (A := 200) (B := 40) (by omega) (by omega)
          have m2 := mulQ (x := (ctL L k).1) (y := r - (ctL L a).2) (A := 200) (B := 40) (by omega) (by omega)
          have hlow := (low_m N ((ctL L a).1 * ((ctL L k).2 - r) + (ctL L k).1 * (r - (ctL L a).2)) ((ctL L k).2 - (ctL L a).2) ⟨by omega, by omega⟩ (by omega) ⟨by omega, by omega⟩ (by omega)).1
          rw [wrap64 (n := (ctL L k).2 - r) (by omega) (by omega), wrap64 (n := r - (ctL L a).2) (by omega) (by omega), wrap64 (n := (ctL L k).2 - (ctL L a).2) (by omega) (by omega),
            wrap64 (n := (ctL L a).1 * ((ctL L k).2 - r)) (by omega) (by omega), wrap64 (n := (ctL L k).1 * (r - (ctL L a).2)) (by omega) (by omega), wrap64 (n := (ctL L a).1 * ((ctL L k).2 - r) + (ctL L k).1 * (r - (ctL L a).2)) (by omega) (by omega), hlow]
          simp only [bnd', frP, if_true]
          exact ⟨_, rfl, rfl⟩
      · rw [brn_f (by simpa using h2), if_neg h2, hw]
        have ih := fair_L N hN r hr L hb hL H hH hHl rest (done ++ [k]) f (some (ctL L k)) (by simp [e]) (by simp at hf; omega) (.inr ⟨done, k, rfl, rfl, by omega⟩)
        simp only [List.length_append, List.length_cons, List.length_nil, Nat.zero_add] at ih
        exact ih
end Go.Proofs.Ytgnphlpoofaojaa

namespace Go.Proofs.Ytgnphlpoofaojaa
open Go.V
set_option maxRecDepth 100000
set_option maxHeartbeats 4000000
set_option linter.unusedSimpArgs false
set_option linter.unusedVariables false
attribute [local go_sem] tl1 tl2 tl3 tl4 tl5 tl9 tl17 tl21 tl22 tl23 tl24 tl25 tl26 tl27 tl28 tl29 tl31 tl33 tl34 tl36 tl37 tl38 tl39 tl40 tl41 tl42 tl43 tl44 tl46 tl47 tl49 tl50 tl52 tl53 tl54 tl55 tl56 tl57 tl58 tl60 tl62 tl63 tl64 tl65 tl66 tl67 tl68 tl69 tl70 tl71 tl72 tl74 tl75 tl76 tl77 tl78 tl79 tl80 tl81 tl82 tl83 tl84 tl85 tl86 tl87 tl88 tl89 tl90 tl91 tl92 tl93 tl94 tl95 tl96 tl97 tl98 tl99 tl100 tl102 tl103 tl104 tl105 tl106 tl107 tl108 tl109 tl110 tl111 tl112 tl113 tl114 tl115 tl116 tl117 tl118 tl119 tl120 tl121 tl122 tl123 tl124 tl125 tl126 tl127 tl128 tl129 tl130 tl131 tl132 tl133 tl134 tl140 tl141 tl145

end Go.Proofs.Ytgnphlpoofaojaa

namespace Go.Proofs.Ytgnphlpoofaojaa
open Go.V

theorem cellsC_set (u : List (Int × Int)) (p q : Int × Int) (v : List (Int × Int)) : ((cellsC (u ++ p :: v)).set (u.length * 2) (.int .i64 q.1)).set (u.length * 2 + 1) (.int .i64 q.2) = cellsC (u ++ q :: v) := by
  have e1 : cellsC (u ++ p :: v) = cellsC u ++ .int .i64 p.1 :: (.int .i64 p.2 :: cellsC v) := by rw [cellsC_app]; rfl
  have hl : (cellsC u).length = u.length * 2 := cellsC_len u
  have s1 := set_mid (cellsC u) (.int .i64 p.1) (.int .i64 q.1) (PV.int .i64 p.2 :: cellsC v)
  rw [hl] at s1
  rw [e1, s1]
  have e2 : cellsC u ++ PV.int .i64 q.1 :: (PV.int .i64 p.2 :: cellsC v) = (cellsC u ++ [.int .i64 q.1]) ++ .int .i64 p.2 :: cellsC v := by simp
  have s2 := set_mid (cellsC u ++ [.int .i64 q.1]) (.int .i64 p.2) (.int .i64 q.2) (cellsC v)
  rw [List.length_append, hl, List.length_cons, List.length_nil] at s2
  rw [e2, s2, cellsC_app]
  simp [cellsC]
theorem worthM (N : Nat) (hN : 2000 ≤ N) (L : List (Int × Int)) (hne : L ≠ []) (hl : L.length ≤ 8) (hc : ∀ q ∈ L, okC q = true) (n d : Int) (hp : okP n d) :
    m17 N (.lst false L.length (cellsC L)) (.agg [.int .i64 n, .int .i64 d]) = some (.tup [frP (lowP (Mx n d L) d), .int .i64 0]) := by
  cases L with
  | nil => exact absurd rfl hne
  | cons p l => exact worth_x N hN p l hl hc n d hp
end Go.Proofs.Ytgnphlpoofaojaa

namespace Go.Proofs.Ytgnphlpoofaojaa
open Go.V
set_option maxRecDepth 100000
set_option maxHeartbeats 4000000
set_option linter.unusedSimpArgs false
set_option linter.unusedVariables false
attribute [local go_sem] tl1 tl2 tl3 tl4 tl5 tl9 tl17 tl21 tl22 tl23 tl24 tl25 tl26 tl27 tl28 tl29 tl31 tl33 tl34 tl36 tl37 tl38 tl39 tl40 tl41 tl42 tl43 tl44 tl46 tl47 tl49 tl50 tl52 tl53 tl54 tl55 tl56 tl57 tl58 tl60 tl62 tl63 tl64 tl65 tl66 tl67 tl68 tl69 tl70 tl71 tl72 tl74 tl75 tl76 tl77 tl78 tl79 tl80 tl81 tl82 tl83 tl84 tl85 tl86 tl87 tl88 tl89 tl90 tl91 tl92 tl93 tl94 tl95 tl96 tl97 tl98 tl99 tl100 tl102 tl103 tl104 tl105 tl106 tl107 tl108 tl109 tl110 tl111 tl112 tl113 tl114 tl115 tl116 tl117 tl118 tl119 tl120 tl121 tl122 tl123 tl124 tl125 tl126 tl127 tl128 tl129 tl130 tl131 tl132 tl133 tl134 tl140 tl141 tl145

def m48 (N : Nat) (p4582 : PV) : Option (Nat × List PV) :=
  getL p4582 fun n4584 c4585 =>
  grd (0 < n4584) <|
  grd (List.length c4585 = (n4584 * 2)) <|
  grd (n4584 ≤ 1099511627776) <|
  some (n4584, c4585)
theorem c48 (N : Nat) (p4582 : PV) (rn : Nat) (rc : List PV) (h : m48 N p4582 = some (rn, rc)) : V.Fn Try.prog 48 0 [.v p4582] [] (fun d ob' => d = .sl false 0 0 rn 2 ∧ ob' = [(0, .p rc)]) := by
  unfold m48 at h
  refine Fn_of (sz := 8) tab_ok [0, 2, 4] [.tmp 2] Try.func48 rfl rfl rfl (by simp) ?_
  simp only [initSt, initEnv, List.map_cons, List.map_nil, List.getD_cons_zero, List.getD_cons_succ, List.getD_nil]
  have hh := getL_some h; clear h; obtain ⟨n4584, c4585, h4583, h⟩ := hh
  have hh := grd_some h; clear h; obtain ⟨g4586, h⟩ := hh
  have hh := grd_some h; clear h; obtain ⟨g4587, h⟩ := hh
  have hh := grd_some h; clear h; obtain ⟨g4588, h⟩ := hh
  refine W_sound tab_ok mixed 21 _ _ _ ?_
  simp -implicitDefEqProofs only [go_sem, ne_eq, not_false_eq_true, Nat.reduceBEq, Nat.reduceAdd, Nat.reduceSub, Nat.reduceMul, Nat.reduceLT, Nat.reduceLeDiff, Int.reduceLE, Int.reduceLT, Int.reduceToNat, Int.reduceBEq, Int.reduceBNe, Int.le_refl, Nat.le_refl, decide_true, decide_false, Int.cast_ofNat_Int, ↓reduceIte, h4583, g4586, g4587, g4588]
  repeat with_reducible refine And.intro (by first | kernel_rfl | decide) ?_
  simp only [Option.some.injEq, Prod.mk.injEq] at h; obtain ⟨rfl, rfl⟩ := h
  exact finD (e2 := [(0, .dead), (2, .sl false 7 0 n4584 2), (4, .dead)]) (ob2 := [(5, .p []), (7, .p c4585)]) (st' := ⟨[], [(0, .dead), (2, .sl false 0 0 n4584 2), (4, .dead)], [(0, .p c4585)], 1, []⟩) (.cons _ _ _ _ _ (.dead _) (.cons _ _ _ _ _ (.refl _) (.cons _ _ _ _ _ (.dead _) .nil))) (.cons _ _ _ _ _ (DLes.refl _) (.cons _ _ _ _ _ (DLes.refl _) .nil)) (by kernel_rfl) (by simp only [go_sem, ne_eq, not_false_eq_true, Nat.reduceBEq, Nat.reduceAdd, Nat.reduceSub, Nat.reduceMul, Nat.reduceLT, Nat.reduceLeDiff, Int.reduceLE, Int.reduceLT, Int.reduceToNat, Int.reduceBEq, Int.reduceBNe, Int.le_refl, Nat.le_refl, decide_true, decide_false, Int.cast_ofNat_Int, ↓reduceIte, resQ_tmp, resQ_cell, resQ_nil, retD_one, retD_two, retD_three, retD_none]; try simp [R.val, retD_one])

def m49 (N : Nat) (p4647 : PV) (p4648 : PV) : Option (PV) :=
  getA2 p4647 fun p4650 p4651 =>
  getA2 p4648 fun p4653 p4654 =>
  getI .i64 p4650 fun x4656 =>
  getI .i64 p4654 fun x4658 =>
  getI .i64 p4653 fun x4660 =>
  getI .i64 p4651 fun x4662 =>
  some (.int .i64 (IntKind.i64.wrap ((IntKind.i64.wrap (x4656 * x4658)) - (IntKind.i64.wrap (x4660 * x4662)))))
theorem c49 (N : Nat) (p4647 : PV) (p4648 : PV) (r : PV)  (h : m49 N p4647 p4648 = some r) : FnP Try.prog 49 [p4647, p4648] r := by
  unfold m49 at h
  refine Fn_of (sz := 16) tab_ok [0, 1, 2, 3, 4] [.tmp 4] Try.func49 rfl rfl rfl (by simp) ?_
  simp only [initSt, initEnv, List.map_cons, List.map_nil, List.getD_cons_zero, List.getD_cons_succ, List.getD_nil]
  have hh := getA2_some h; clear h; obtain ⟨p4650, p4651, h4649, h⟩ := hh
  have hh := getA2_some h; clear h; obtain ⟨p4653, p4654, h4652, h⟩ := hh
  have hh := getI_some h; clear h; obtain ⟨x4656, h4655, h⟩ := hh
  have hh := getI_some h; clear h; obtain ⟨x4658, h4657, h⟩ := hh
  have hh := getI_some h; clear h; obtain ⟨x4660, h4659, h⟩ := hh
  have hh := getI_some h; clear h; obtain ⟨x4662, h4661, h⟩ := hh
  refine W_sound tab_ok mixed 23 _ _ _ ?_
  simp -implicitDefEqProofs only [go_sem, ne_eq, not_false_eq_true, Nat.reduceBEq, Nat.reduceAdd, Nat.reduceSub, Nat.reduceMul, Nat.reduceLT, Nat.reduceLeDiff, Int.reduceLE, Int.reduceLT, Int.reduceToNat, Int.reduceBEq, Int.reduceBNe, Int.le_refl, Nat.le_refl, decide_true, decide_false, Int.cast_ofNat_Int, ↓reduceIte, h4649, h4652, h4655, h4657, h4659, h4661]
  repeat with_reducible refine And.intro (by first | kernel_rfl | decide) ?_
  obtain rfl := Option.some.inj h
  exact finC [(4, .v (.int .i64 (IntKind.i64.wrap ((IntKind.i64.wrap (x4656 * x4658)) - (IntKind.i64.wrap (x4660 * x4662))))))] [(4, .v (.int .i64 (IntKind.i64.wrap ((IntKind.i64.wrap (x4656 * x4658)) - (IntKind.i64.wrap (x4660 * x4662))))))] (by simp [leE, lk_cons]) (.cons _ _ _ _ _ (.v _ _ (.refl _)) .nil) (by rfl) (by simp [leE, lk_cons]) (by decide) (by decide) rfl (by simp only [go_sem, ne_eq, not_false_eq_true, Nat.reduceBEq, Nat.reduceAdd, Nat.reduceSub, Nat.reduceMul, Nat.reduceLT, Nat.reduceLeDiff, Int.reduceLE, Int.reduceLT, Int.reduceToNat, Int.reduceBEq, Int.reduceBNe, Int.le_refl, Nat.le_refl, decide_true, decide_false, Int.cast_ofNat_Int, ↓reduceIte, resQ_tmp, resQ_cell, resQ_nil, retD_one, retD_two, retD_three, retD_none]; try simp [R.val, retD_one, retD_two, retD_three, retD_none])

def m11_L0 (N : Nat) (x4568 : Int) (x4569 : Int) (n4577 : Nat) (c4578 : List PV) (n4589 : Nat) (c4590 : List PV) : Nat → Int → List PV → Option ((PV ⊕ List PV))
  | 0, _, _ => none
  | n + 1, x4740, c4741 =>
    brn (decide (x4740 ≤ 6)) (
      bnd' (m32 N (.lst false (Int.toNat (minI ((n4577 : Nat) : Int) 7)) (List.take ((Int.toNat (minI ((n4577 : Nat) : Int) 7)) * 2) c4578)) x4740) fun p4743 =>
      getT2 p4743 fun p4746 p4747 =>
      getA2 p4746 fun p4749 p4750 =>
      getI .i64 p4747 fun x4752 =>
      getI .i64 p4749 fun x4754 =>
      getI .i64 p4750 fun x4756 =>
      bnd' (m32 N (.lst false (n4589 + 1) (c4590 ++ [(.int .i64 (Int.tmod (IntKind.i64.wrap x4568) 31)), (.int .i64 (Int.tmod (IntKind.i64.wrap x4569) 7))])) x4740) fun p4757 =>
      getT2 p4757 fun p4760 p4761 =>
      getA2 p4760 fun p4763 p4764 =>
      getI .i64 p4761 fun x4766 =>
      getI .i64 p4763 fun x4768 =>
      getI .i64 p4764 fun x4770 =>
      brn (x4752 != 0) (
        brn (x4752 != 12) (
          some (.inl (.bool false))) (
          brn (x4752 == 0) (
            brn (x4766 != 0) (
              some (.inl (.bool false))) (
              bnd' (m37 N (.agg [(.int .i64 x4754), (.int .i64 x4756)])) fun p4775 =>
              getB p4775 fun b4778 =>
              brn b4778 (
                bnd' (m37 N (.agg [(.int .i64 x4768), (.int .i64 x4770)])) fun p4780 =>
                getB p4780 fun b4783 =>
                brn b4783 (
                  bnd' (m49 N (.agg [(.int .i64 x4768), (.int .i64 x4770)]) (.agg [(.int .i64 x4754), (.int .i64 x4756)])) fun p4785 =>
                  getI .i64 p4785 fun x4788 =>
                  brn (decide (x4788 < 0)) (
                    some (.inl (.bool false))) (
                    grd (0 ≤ (IntKind.i64.wrap (x4740 + 6)) ∧ (IntKind.i64.wrap (x4740 + 6)) < 13) <|
                    grd ((((Int.toNat (IntKind.i64.wrap (x4740 + 6))) * 2) + 2) ≤ List.length c4741) <|
                    m11_L0 N x4568 x4569 n4577 c4578 n4589 c4590 n (IntKind.i64.wrap (x4740 + 1)) (List.set (List.set c4741 ((Int.toNat (IntKind.i64.wrap (x4740 + 6))) * 2) (.int .i64 x4754)) (((Int.toNat (IntKind.i64.wrap (x4740 + 6))) * 2) + 1) (.int .i64 x4756)))) (
                  some (.inl (.bool false)))) (
                some (.inl (.bool false))))) (
            m11_L0 N x4568 x4569 n4577 c4578 n4589 c4590 n (IntKind.i64.wrap (x4740 + 1)) c4741))) (
        brn (x4752 == 0) (
          brn (x4766 != 0) (
            some (.inl (.bool false))) (
            bnd' (m37 N (.agg [(.int .i64 x4754), (.int .i64 x4756)])) fun p4795 =>
            getB p4795 fun b4798 =>
            brn b4798 (
              bnd' (m37 N (.agg [(.int .i64 x4768), (.int .i64 x4770)])) fun p4800 =>
              getB p4800 fun b4803 =>
              brn b4803 (
                bnd' (m49 N (.agg [(.int .i64 x4768), (.int .i64 x4770)]) (.agg [(.int .i64 x4754), (.int .i64 x4756)])) fun p4805 =>
                getI .i64 p4805 fun x4808 =>
                brn (decide (x4808 < 0)) (
                  some (.inl (.bool false))) (
                  grd (0 ≤ (IntKind.i64.wrap (x4740 + 6)) ∧ (IntKind.i64.wrap (x4740 + 6)) < 13) <|
                  grd ((((Int.toNat (IntKind.i64.wrap (x4740 + 6))) * 2) + 2) ≤ List.length c4741) <|
                  m11_L0 N x4568 x4569 n4577 c4578 n4589 c4590 n (IntKind.i64.wrap (x4740 + 1)) (List.set (List.set c4741 ((Int.toNat (IntKind.i64.wrap (x4740 + 6))) * 2) (.int .i64 x4754)) (((Int.toNat (IntKind.i64.wrap (x4740 + 6))) * 2) + 1) (.int .i64 x4756)))) (
                some (.inl (.bool false)))) (
              some (.inl (.bool false))))) (
          m11_L0 N x4568 x4569 n4577 c4578 n4589 c4590 n (IntKind.i64.wrap (x4740 + 1)) c4741))) (
      some (.inr c4741))
def m11_L1 (N : Nat) (c4814 : List PV) : Nat → Int → Option ((PV ⊕ Unit))
  | 0, _ => none
  | n + 1, x4815 =>
    brn (decide (x4815 < 12)) (
      grd (0 ≤ (IntKind.i64.wrap (x4815 - 1)) ∧ (IntKind.i64.wrap (x4815 - 1)) < 13) <|
      grd ((((Int.toNat (IntKind.i64.wrap (x4815 - 1))) * 2) + 2) ≤ List.length c4814) <|
      getA2 (.agg (List.take 2 (List.drop ((Int.toNat (IntKind.i64.wrap (x4815 - 1))) * 2) c4814))) fun p4821 p4822 =>
      grd (0 ≤ x4815 ∧ x4815 < 13) <|
      grd ((((Int.toNat x4815) * 2) + 2) ≤ List.length c4814) <|
      getA2 (.agg (List.take 2 (List.drop ((Int.toNat x4815) * 2) c4814))) fun p4827 p4828 =>
      grd (0 ≤ (IntKind.i64.wrap (x4815 + 1)) ∧ (IntKind.i64.wrap (x4815 + 1)) < 13) <|
      grd ((((Int.toNat (IntKind.i64.wrap (x4815 + 1))) * 2) + 2) ≤ List.length c4814) <|
      getA2 (.agg (List.take 2 (List.drop ((Int.toNat (IntKind.i64.wrap (x4815 + 1))) * 2) c4814))) fun p4833 p4834 =>
      getI .i64 p4821 fun x4836 =>
      getI .i64 p4822 fun x4838 =>
      getI .i64 p4827 fun x4840 =>
      getI .i64 p4828 fun x4842 =>
      getI .i64 p4833 fun x4844 =>
      getI .i64 p4834 fun x4846 =>
      brn (x4838 == 0) (
        m11_L1 N c4814 n (IntKind.i64.wrap (x4815 + 1))) (
        brn (x4842 == 0) (
          m11_L1 N c4814 n (IntKind.i64.wrap (x4815 + 1))) (
          brn (x4846 == 0) (
            m11_L1 N c4814 n (IntKind.i64.wrap (x4815 + 1))) (
            brn (decide ((IntKind.i64.wrap ((IntKind.i64.wrap ((IntKind.i64.wrap (2 * x4840)) * x4838)) * x4846)) < (IntKind.i64.wrap ((IntKind.i64.wrap ((IntKind.i64.wrap (x4836 * x4846)) + (IntKind.i64.wrap (x4844 * x4838)))) * x4842)))) (
              some (.inl (.bool false))) (
              m11_L1 N c4814 n (IntKind.i64.wrap (x4815 + 1))))))) (
      some (.inr ()))
def m11 (N : Nat) (p4567 : PV) (x4568 : Int) (x4569 : Int) (x4570 : Int) : Option (PV) :=
  getA p4567 fun c4572 =>
  grd (17 ≤ List.length c4572) <|
  bnd' (m36 N (.agg (List.take 17 c4572)) 30 6) fun p4574 =>
  getL p4574 fun n4577 c4578 =>
  grd (0 ≤ (minI ((n4577 : Nat) : Int) 7) ∧ (minI ((n4577 : Nat) : Int) 7) ≤ ((n4577 : Nat) : Int)) <|
  grd (List.length c4578 = (n4577 * 2)) <|
  bnd' (m48 N (.lst false (Int.toNat (minI ((n4577 : Nat) : Int) 7)) (List.take ((Int.toNat (minI ((n4577 : Nat) : Int) 7)) * 2) c4578))) fun (n4589, c4590) =>
  grd (31 ≠ 0) <|
  grd (7 ≠ 0) <|
  grd ((n4589 + 1) ≤ 1099511627776) <|
  grd (List.length c4590 = (n4589 * 2)) <|
  grd (100 ≠ 0) <|
  bnd' (m40 N (Int.tmod (IntKind.i64.wrap x4570) 100) 3) fun p4597 =>
  getA2 p4597 fun p4600 p4601 =>
  getI .i64 p4600 fun x4603 =>
  getI .i64 p4601 fun x4605 =>
  bnd' (m17 N (.lst false (Int.toNat (minI ((n4577 : Nat) : Int) 7)) (List.take ((Int.toNat (minI ((n4577 : Nat) : Int) 7)) * 2) c4578)) (.agg [(.int .i64 x4603), (.int .i64 x4605)])) fun p4606 =>
  getT2 p4606 fun p4609 p4610 =>
  getA2 p4609 fun p4612 p4613 =>
  getI .i64 p4610 fun x4615 =>
  getI .i64 p4612 fun x4617 =>
  getI .i64 p4613 fun x4619 =>
  grd (List.length (c4590 ++ [(.int .i64 (Int.tmod (IntKind.i64.wrap x4568) 31)), (.int .i64 (Int.tmod (IntKind.i64.wrap x4569) 7))]) = ((n4589 + 1) * 2)) <|
  bnd' (m17 N (.lst false (n4589 + 1) (c4590 ++ [(.int .i64 (Int.tmod (IntKind.i64.wrap x4568) 31)), (.int .i64 (Int.tmod (IntKind.i64.wrap x4569) 7))])) (.agg [(.int .i64 x4603), (.int .i64 x4605)])) fun p4621 =>
  getT2 p4621 fun p4624 p4625 =>
  getA2 p4624 fun p4627 p4628 =>
  getI .i64 p4625 fun x4630 =>
  getI .i64 p4627 fun x4632 =>
  getI .i64 p4628 fun x4634 =>
  brn (x4615 != 0) (
    some (.bool false)) (
    brn (x4630 != 0) (
      some (.bool false)) (
      bnd' (m37 N (.agg [(.int .i64 x4617), (.int .i64 x4619)])) fun p4637 =>
      getB p4637 fun b4640 =>
      brn b4640 (
        bnd' (m37 N (.agg [(.int .i64 x4632), (.int .i64 x4634)])) fun p4642 =>
        getB p4642 fun b4645 =>
        brn b4645 (
          bnd' (m49 N (.agg [(.int .i64 x4632), (.int .i64 x4634)]) (.agg [(.int .i64 x4617), (.int .i64 x4619)])) fun p4663 =>
          getI .i64 p4663 fun x4666 =>
          brn (decide (x4666 < 0)) (
            some (.bool false)) (
            bnd' (m11_L0 N x4568 x4569 n4577 c4578 n4589 c4590 N (-6) [(.int .i64 0), (.int .i64 0), (.int .i64 0), (.int .i64 0), (.int .i64 0), (.int .i64 0), (.int .i64 0), (.int .i64 0), (.int .i64 0), (.int .i64 0), (.int .i64 0), (.int .i64 0), (.int .i64 0), (.int .i64 0), (.int .i64 0), (.int .i64 0), (.int .i64 0), (.int .i64 0), (.int .i64 0), (.int .i64 0), (.int .i64 0), (.int .i64 0), (.int .i64 0), (.int .i64 0), (.int .i64 0), (.int .i64 0)]) fun o =>
            match o with
            | .inl p4813 =>
              some p4813
            | .inr c4814 =>
              bnd' (m11_L1 N c4814 N 1) fun o =>
              match o with
              | .inl p4851 =>
                some p4851
              | .inr () =>
                bnd' (m15 N ) fun p4852 =>
                getB p4852 fun b4855 =>
                some (.bool b4855))) (
          some (.bool false))) (
        some (.bool false))))
theorem c11 (N : Nat) (p4567 : PV) (x4568 : Int) (x4569 : Int) (x4570 : Int) (r : PV)  (h : m11 N p4567 x4568 x4569 x4570 = some r) : FnP Try.prog 11 [p4567, (.int .i8 x4568), (.int .i8 x4569), (.int .i16 x4570)] r := by
  unfold m11 at h
  refine Fn_of (sz := 187) tab_ok [0, 1, 2, 3, 4, 8, 9, 10, 11, 12, 13, 14, 15, 16, 17, 18, 19, 20, 21, 22, 23, 24, 25, 81, 83, 127, 129, 135, 161, 185] [.tmp 8] Try.func11 rfl rfl rfl (by simp) ?_
  simp only [initSt, initEnv, List.map_cons, List.map_nil, List.getD_cons_zero, List.getD_cons_succ, List.getD_nil]
  have hh := getA_some h; clear h; obtain ⟨c4572, h4571, h⟩ := hh
  have hh := grd_some h; clear h; obtain ⟨g4573, h⟩ := hh
  have hh := bnd'_some h; clear h; obtain ⟨p4574, h4575, h⟩ := hh
  refine W_sound tab_ok mixed 8 _ _ _ ?_
  simp -implicitDefEqProofs only [go_sem, ne_eq, not_false_eq_true, Nat.reduceBEq, Nat.reduceAdd, Nat.reduceSub, Nat.reduceMul, Nat.reduceLT, Nat.reduceLeDiff, Int.reduceLE, Int.reduceLT, Int.reduceToNat, Int.reduceBEq, Int.reduceBNe, Int.le_refl, Nat.le_refl, decide_true, decide_false, Int.cast_ofNat_Int, ↓reduceIte, h4571, g4573]
  repeat with_reducible refine And.intro (by first | kernel_rfl | decide) ?_
  refine Wp_callP (c36 N _ _ _ _ h4575) (by kernel_rfl) rfl rfl rfl rfl (by decide) ?_
  have hh := getL_some h; clear h; obtain ⟨n4577, c4578, h4576, h⟩ := hh
  have hh := grd_some h; clear h; obtain ⟨⟨g4579, g4580⟩, h⟩ := hh
  have hh := grd_some h; clear h; obtain ⟨g4581, h⟩ := hh
  have hh := bnd'_some h; clear h; obtain ⟨⟨n4589, c4590⟩, h4591, h⟩ := hh
  (try dsimp only at h)
  refine W_sound tab_ok mixed 14 _ _ _ ?_
  simp -implicitDefEqProofs only [go_sem, ne_eq, not_false_eq_true, Nat.reduceBEq, Nat.reduceAdd, Nat.reduceSub, Nat.reduceMul, Nat.reduceLT, Nat.reduceLeDiff, Int.reduceLE, Int.reduceLT, Int.reduceToNat, Int.reduceBEq, Int.reduceBNe, Int.le_refl, Nat.le_refl, decide_true, decide_false, Int.cast_ofNat_Int, ↓reduceIte, h4571, g4573, h4576, g4579, g4580, g4581]
  repeat with_reducible refine And.intro (by first | kernel_rfl | decide) ?_
  refine Wp_callD [] (c48 N _ _ _ h4591) rfl rfl rfl (by first | rfl | (simp only [go_sem, ne_eq, not_false_eq_true, Nat.reduceBEq, Nat.reduceAdd, Nat.reduceSub, Nat.reduceMul, Nat.reduceLT, Nat.reduceLeDiff, Int.reduceLE, Int.reduceLT, Int.reduceToNat, Int.reduceBEq, Int.reduceBNe, Int.le_refl, Nat.le_refl, decide_true, decide_false, Int.cast_ofNat_Int, ↓reduceIte, h4571, g4573, h4576, g4579, g4580, g4581] <;> rfl)) rfl (by kernel_rfl) ?_
  have hh := grd_some h; clear h; obtain ⟨g4592, h⟩ := hh
  have hh := grd_some h; clear h; obtain ⟨g4593, h⟩ := hh
  have hh := grd_some h; clear h; obtain ⟨g4594, h⟩ := hh
  have hh := grd_some h; clear h; obtain ⟨g4595, h⟩ := hh
  have hh := grd_some h; clear h; obtain ⟨g4596, h⟩ := hh
  have hh := bnd'_some h; clear h; obtain ⟨p4597, h4598, h⟩ := hh
  refine W_sound tab_ok mixed 16 _ _ _ ?_
  simp -implicitDefEqProofs only [go_sem, ne_eq, not_false_eq_true, Nat.reduceBEq, Nat.reduceAdd, Nat.reduceSub, Nat.reduceMul, Nat.reduceLT, Nat.reduceLeDiff, Int.reduceLE, Int.reduceLT, Int.reduceToNat, Int.reduceBEq, Int.reduceBNe, Int.le_refl, Nat.le_refl, decide_true, decide_false, Int.cast_ofNat_Int, ↓reduceIte, h4571, g4573, h4576, g4579, g4580, g4581, g4592, g4593, g4594, g4595, g4596]
  repeat with_reducible refine And.intro (by first | kernel_rfl | decide) ?_
  refine Wp_callP (c40 N _ _ _ h4598) (by kernel_rfl) rfl rfl rfl rfl (by decide) ?_
  have hh := getA2_some h; clear h; obtain ⟨p4600, p4601, h4599, h⟩ := hh
  have hh := getI_some h; clear h; obtain ⟨x4603, h4602, h⟩ := hh
  have hh := getI_some h; clear h; obtain ⟨x4605, h4604, h⟩ := hh
  have hh := bnd'_some h; clear h; obtain ⟨p4606, h4607, h⟩ := hh
  refine W_sound tab_ok mixed 7 _ _ _ ?_
  simp -implicitDefEqProofs only [go_sem, ne_eq, not_false_eq_true, Nat.reduceBEq, Nat.reduceAdd, Nat.reduceSub, Nat.reduceMul, Nat.reduceLT, Nat.reduceLeDiff, Int.reduceLE, Int.reduceLT, Int.reduceToNat, Int.reduceBEq, Int.reduceBNe, Int.le_refl, Nat.le_refl, decide_true, decide_false, Int.cast_ofNat_Int, ↓reduceIte, h4571, g4573, h4576, g4579, g4580, g4581, g4592, g4593, g4594, g4595, g4596, h4599, h4602, h4604]
  repeat with_reducible refine And.intro (by first | kernel_rfl | decide) ?_
  refine Wp_callP (c17 N _ _ _ h4607) (by kernel_rfl) rfl rfl rfl rfl (by decide) ?_
  have hh := getT2_some h; clear h; obtain ⟨p4609, p4610, h4608, h⟩ := hh
  have hh := getA2_some h; clear h; obtain ⟨p4612, p4613, h4611, h⟩ := hh
  have hh := getI_some h; clear h; obtain ⟨x4615, h4614, h⟩ := hh
  have hh := getI_some h; clear h; obtain ⟨x4617, h4616, h⟩ := hh
  have hh := getI_some h; clear h; obtain ⟨x4619, h4618, h⟩ := hh
  refine W_sound tab_ok mixed 8 _ _ _ ?_
  simp -implicitDefEqProofs only [go_sem, ne_eq, not_false_eq_true, Nat.reduceBEq, Nat.reduceAdd, Nat.reduceSub, Nat.reduceMul, Nat.reduceLT, Nat.reduceLeDiff, Int.reduceLE, Int.reduceLT, Int.reduceToNat, Int.reduceBEq, Int.reduceBNe, Int.le_refl, Nat.le_refl, decide_true, decide_false, Int.cast_ofNat_Int, ↓reduceIte, h4571, g4573, h4576, g4579, g4580, g4581, g4592, g4593, g4594, g4595, g4596, h4599, h4602, h4604, h4608, h4611, h4614, h4616, h4618]
  repeat with_reducible refine And.intro (by first | kernel_rfl | decide) ?_
  have hh := grd_some h; clear h; obtain ⟨g4620, h⟩ := hh
  refine Wp_wkK (Wk_freeze 48 (c4590 ++ [(.int .i64 (Int.tmod (IntKind.i64.wrap x4568) 31)), (.int .i64 (Int.tmod (IntKind.i64.wrap x4569) 7))]) (by rfl) (by decide) (by decide)) rfl ?_
  simp -implicitDefEqProofs only [go_sem, ne_eq, not_false_eq_true, Nat.reduceBEq, Nat.reduceAdd, Nat.reduceSub, Nat.reduceMul, Nat.reduceLT, Nat.reduceLeDiff, Int.reduceLE, Int.reduceLT, Int.reduceToNat, Int.reduceBEq, Int.reduceBNe, Int.le_refl, Nat.le_refl, decide_true, decide_false, Int.cast_ofNat_Int, ↓reduceIte, h4571, g4573, h4576, g4579, g4580, g4581, g4592, g4593, g4594, g4595, g4596, h4599, h4602, h4604, h4608, h4611, h4614, h4616, h4618, g4620]
  have hh := bnd'_some h; clear h; obtain ⟨p4621, h4622, h⟩ := hh
  refine W_sound tab_ok mixed 3 _ _ _ ?_
  simp -implicitDefEqProofs only [go_sem, ne_eq, not_false_eq_true, Nat.reduceBEq, Nat.reduceAdd, Nat.reduceSub, Nat.reduceMul, Nat.reduceLT, Nat.reduceLeDiff, Int.reduceLE, Int.reduceLT, Int.reduceToNat, Int.reduceBEq, Int.reduceBNe, Int.le_refl, Nat.le_refl, decide_true, decide_false, Int.cast_ofNat_Int, ↓reduceIte, h4571, g4573, h4576, g4579, g4580, g4581, g4592, g4593, g4594, g4595, g4596, h4599, h4602, h4604, h4608, h4611, h4614, h4616, h4618, g4620]
  repeat with_reducible refine And.intro (by first | kernel_rfl | decide) ?_
  refine Wp_callP (c17 N _ _ _ h4622) (by kernel_rfl) rfl rfl rfl rfl (by decide) ?_
  have hh := getT2_some h; clear h; obtain ⟨p4624, p4625, h4623, h⟩ := hh
  have hh := getA2_some h; clear h; obtain ⟨p4627, p4628, h4626, h⟩ := hh
  have hh := getI_some h; clear h; obtain ⟨x4630, h4629, h⟩ := hh
  have hh := getI_some h; clear h; obtain ⟨x4632, h4631, h⟩ := hh
  have hh := getI_some h; clear h; obtain ⟨x4634, h4633, h⟩ := hh
  have hh := brn_some h; clear h; rcases hh with ⟨h4635, h⟩ | ⟨h4635, h⟩
  · refine W_sound tab_ok mixed 40 _ _ _ ?_
    simp -implicitDefEqProofs only [go_sem, ne_eq, not_false_eq_true, Nat.reduceBEq, Nat.reduceAdd, Nat.reduceSub, Nat.reduceMul, Nat.reduceLT, Nat.reduceLeDiff, Int.reduceLE, Int.reduceLT, Int.reduceToNat, Int.reduceBEq, Int.reduceBNe, Int.le_refl, Nat.le_refl, decide_true, decide_false, Int.cast_ofNat_Int, ↓reduceIte, h4571, g4573, h4576, g4579, g4580, g4581, g4592, g4593, g4594, g4595, g4596, h4599, h4602, h4604, h4608, h4611, h4614, h4616, h4618, g4620, h4623, h4626, h4629, h4631, h4633, h4635]
    repeat with_reducible refine And.intro (by first | kernel_rfl | decide) ?_
    obtain rfl := Option.some.inj h
    exact finC [(8, .v (.bool false))] [(8, .v (.bool false))] (by simp [leE, lk_cons]) (.cons _ _ _ _ _ (.v _ _ (.refl _)) .nil) (by rfl) (by simp [leE, lk_cons]) (by decide) (by decide) rfl (by simp only [go_sem, ne_eq, not_false_eq_true, Nat.reduceBEq, Nat.reduceAdd, Nat.reduceSub, Nat.reduceMul, Nat.reduceLT, Nat.reduceLeDiff, Int.reduceLE, Int.reduceLT, Int.reduceToNat, Int.reduceBEq, Int.reduceBNe, Int.le_refl, Nat.le_refl, decide_true, decide_false, Int.cast_ofNat_Int, ↓reduceIte, resQ_tmp, resQ_cell, resQ_nil, retD_one, retD_two, retD_three, retD_none]; try simp [R.val, retD_one, retD_two, retD_three, retD_none])
  · have hh := brn_some h; clear h; rcases hh with ⟨h4636, h⟩ | ⟨h4636, h⟩
    · refine W_sound tab_ok mixed 40 _ _ _ ?_
      simp -implicitDefEqProofs only [go_sem, ne_eq, not_false_eq_true, Nat.reduceBEq, Nat.reduceAdd, Nat.reduceSub, Nat.reduceMul, Nat.reduceLT, Nat.reduceLeDiff, Int.reduceLE, Int.reduceLT, Int.reduceToNat, Int.reduceBEq, Int.reduceBNe, Int.le_refl, Nat.le_refl, decide_true, decide_false, Int.cast_ofNat_Int, ↓reduceIte, h4571, g4573, h4576, g4579, g4580, g4581, g4592, g4593, g4594, g4595, g4596, h4599, h4602, h4604, h4608, h4611, h4614, h4616, h4618, g4620, h4623, h4626, h4629, h4631, h4633, h4635, h4636]
      repeat with_reducible refine And.intro (by first | kernel_rfl | decide) ?_
      obtain rfl := Option.some.inj h
      exact finC [(8, .v (.bool false))] [(8, .v (.bool false))] (by simp [leE, lk_cons]) (.cons _ _ _ _ _ (.v _ _ (.refl _)) .nil) (by rfl) (by simp [leE, lk_cons]) (by decide) (by decide) rfl (by simp only [go_sem, ne_eq, not_false_eq_true, Nat.reduceBEq, Nat.reduceAdd, Nat.reduceSub, Nat.reduceMul, Nat.reduceLT, Nat.reduceLeDiff, Int.reduceLE, Int.reduceLT, Int.reduceToNat, Int.reduceBEq, Int.reduceBNe, Int.le_refl, Nat.le_refl, decide_true, decide_false, Int.cast_ofNat_Int, ↓reduceIte, resQ_tmp, resQ_cell, resQ_nil, retD_one, retD_two, retD_three, retD_none]; try simp [R.val, retD_one, retD_two, retD_three, retD_none])
    · have hh := bnd'_some h; clear h; obtain ⟨p4637, h4638, h⟩ := hh
      refine W_sound tab_ok mixed 18 _ _ _ ?_
      simp -implicitDefEqProofs only [go_sem, ne_eq, not_false_eq_true, Nat.reduceBEq, Nat.reduceAdd, Nat.reduceSub, Nat.reduceMul, Nat.reduceLT, Nat.reduceLeDiff, Int.reduceLE, Int.reduceLT, Int.reduceToNat, Int.reduceBEq, Int.reduceBNe, Int.le_refl, Nat.le_refl, decide_true, decide_false, Int.cast_ofNat_Int, ↓reduceIte, h4571, g4573, h4576, g4579, g4580, g4581, g4592, g4593, g4594, g4595, g4596, h4599, h4602, h4604, h4608, h4611, h4614, h4616, h4618, g4620, h4623, h4626, h4629, h4631, h4633, h4635, h4636]
      repeat with_reducible refine And.intro (by first | kernel_rfl | decide) ?_
      refine Wp_callP (c37 N _ _ h4638) (by kernel_rfl) rfl rfl rfl rfl (by decide) ?_
      have hh := getB_some h; clear h; obtain ⟨b4640, h4639, h⟩ := hh
      have hh := brn_some h; clear h; rcases hh with ⟨h4641, h⟩ | ⟨h4641, h⟩
      · have hh := bnd'_some h; clear h; obtain ⟨p4642, h4643, h⟩ := hh
        refine W_sound tab_ok mixed 4 _ _ _ ?_
        simp -implicitDefEqProofs only [go_sem, ne_eq, not_false_eq_true, Nat.reduceBEq, Nat.reduceAdd, Nat.reduceSub, Nat.reduceMul, Nat.reduceLT, Nat.reduceLeDiff, Int.reduceLE, Int.reduceLT, Int.reduceToNat, Int.reduceBEq, Int.reduceBNe, Int.le_refl, Nat.le_refl, decide_true, decide_false, Int.cast_ofNat_Int, ↓reduceIte, h4571, g4573, h4576, g4579, g4580, g4581, g4592, g4593, g4594, g4595, g4596, h4599, h4602, h4604, h4608, h4611, h4614, h4616, h4618, g4620, h4623, h4626, h4629, h4631, h4633, h4635, h4636, h4639, h4641]
        repeat with_reducible refine And.intro (by first | kernel_rfl | decide) ?_
        refine Wp_callP (c37 N _ _ h4643) (by kernel_rfl) rfl rfl rfl rfl (by decide) ?_
        have hh := getB_some h; clear h; obtain ⟨b4645, h4644, h⟩ := hh
        have hh := brn_some h; clear h; rcases hh with ⟨h4646, h⟩ | ⟨h4646, h⟩
        · have hh := bnd'_some h; clear h; obtain ⟨p4663, h4664, h⟩ := hh
          refine W_sound tab_ok mixed 5 _ _ _ ?_
          simp -implicitDefEqProofs only [go_sem, ne_eq, not_false_eq_true, Nat.reduceBEq, Nat.reduceAdd, Nat.reduceSub, Nat.reduceMul, Nat.reduceLT, Nat.reduceLeDiff, Int.reduceLE, Int.reduceLT, Int.reduceToNat, Int.reduceBEq, Int.reduceBNe, Int.le_refl, Nat.le_refl, decide_true, decide_false, Int.cast_ofNat_Int, ↓reduceIte, h4571, g4573, h4576, g4579, g4580, g4581, g4592, g4593, g4594, g4595, g4596, h4599, h4602, h4604, h4608, h4611, h4614, h4616, h4618, g4620, h4623, h4626, h4629, h4631, h4633, h4635, h4636, h4639, h4641, h4644, h4646]
          repeat with_reducible refine And.intro (by first | kernel_rfl | decide) ?_
          refine Wp_callP (c49 N _ _ _ h4664) (by kernel_rfl) rfl rfl rfl rfl (by decide) ?_
          have hh := getI_some h; clear h; obtain ⟨x4666, h4665, h⟩ := hh
          have hh := brn_some h; clear h; rcases hh with ⟨h4667, h⟩ | ⟨h4667, h⟩
          · refine W_sound tab_ok mixed 10 _ _ _ ?_
            simp -implicitDefEqProofs only [go_sem, ne_eq, not_false_eq_true, Nat.reduceBEq, Nat.reduceAdd, Nat.reduceSub, Nat.reduceMul, Nat.reduceLT, Nat.reduceLeDiff, Int.reduceLE, Int.reduceLT, Int.reduceToNat, Int.reduceBEq, Int.reduceBNe, Int.le_refl, Nat.le_refl, decide_true, decide_false, Int.cast_ofNat_Int, ↓reduceIte, h4571, g4573, h4576, g4579, g4580, g4581, g4592, g4593, g4594, g4595, g4596, h4599, h4602, h4604, h4608, h4611, h4614, h4616, h4618, g4620, h4623, h4626, h4629, h4631, h4633, h4635, h4636, h4639, h4641, h4644, h4646, h4665, h4667]
            repeat with_reducible refine And.intro (by first | kernel_rfl | decide) ?_
            obtain rfl := Option.some.inj h
            exact finC [(8, .v (.bool false))] [(8, .v (.bool false))] (by simp [leE, lk_cons]) (.cons _ _ _ _ _ (.v _ _ (.refl _)) .nil) (by rfl) (by simp [leE, lk_cons]) (by decide) (by decide) rfl (by simp only [go_sem, ne_eq, not_false_eq_true, Nat.reduceBEq, Nat.reduceAdd, Nat.reduceSub, Nat.reduceMul, Nat.reduceLT, Nat.reduceLeDiff, Int.reduceLE, Int.reduceLT, Int.reduceToNat, Int.reduceBEq, Int.reduceBNe, Int.le_refl, Nat.le_refl, decide_true, decide_false, Int.cast_ofNat_Int, ↓reduceIte, resQ_tmp, resQ_cell, resQ_nil, retD_one, retD_two, retD_three, retD_none]; try simp [R.val, retD_one, retD_two, retD_three, retD_none])
          · refine W_sound tab_ok mixed 14 _ _ _ ?_
            simp -implicitDefEqProofs only [go_sem, ne_eq, not_false_eq_true, Nat.reduceBEq, Nat.reduceAdd, Nat.reduceSub, Nat.reduceMul, Nat.reduceLT, Nat.reduceLeDiff, Int.reduceLE, Int.reduceLT, Int.reduceToNat, Int.reduceBEq, Int.reduceBNe, Int.le_refl, Nat.le_refl, decide_true, decide_false, Int.cast_ofNat_Int, ↓reduceIte, h4571, g4573, h4576, g4579, g4580, g4581, g4592, g4593, g4594, g4595, g4596, h4599, h4602, h4604, h4608, h4611, h4614, h4616, h4618, g4620, h4623, h4626, h4629, h4631, h4633, h4635, h4636, h4639, h4641, h4644, h4646, h4665, h4667]
            repeat with_reducible refine And.intro (by first | kernel_rfl | decide) ?_
            have hh := bnd'_some h; clear h; obtain ⟨o4856, h4857, h4858⟩ := hh
            refine Wp_cut (fun s => ∃ c4814, (.inr c4814) = o4856 ∧ s = ⟨[], [(0, .dead), (1, .dead), (2, .dead), (3, .dead), (4, .dead), (8, .dead), (9, .dead), (10, .dead), (11, .dead), (12, .dead), (13, .dead), (14, .dead), (15, .dead), (16, .ptr 0 0), (17, .dead), (18, .dead), (19, .dead), (20, .dead), (21, .dead), (22, .dead), (23, .dead), (24, .dead), (25, .dead), (81, .dead), (83, .dead), (127, .dead), (129, .dead), (135, .dead), (161, .dead), (185, .dead)], [(0, .p c4814)], 1, []⟩) ?_ ?_
            · refine Wp_block ?_
              refine Wp_loopG (fun n s => ∃ x4740, ∃ c4741, m11_L0 N x4568 x4569 n4577 c4578 n4589 c4590 n x4740 c4741 = some o4856 ∧ s = ⟨[], [(0, .dead), (1, .dead), (2, .dead), (3, .dead), (4, .dead), (8, .dead), (9, .v (.lst false (Int.toNat (minI ((n4577 : Nat) : Int) 7)) (List.take ((Int.toNat (minI ((n4577 : Nat) : Int) 7)) * 2) c4578))), (10, .v (.lst false (n4589 + 1) (c4590 ++ [(.int .i64 (Int.tmod (IntKind.i64.wrap x4568) 31)), (.int .i64 (Int.tmod (IntKind.i64.wrap x4569) 7))]))), (11, .dead), (12, .dead), (13, .dead), (14, .dead), (15, .dead), (16, .ptr 0 0), (17, .v (.int .i64 x4740)), (18, .dead), (19, .dead), (20, .dead), (21, .dead), (22, .dead), (23, .dead), (24, .dead), (25, .dead), (81, .dead), (83, .dead), (127, .dead), (129, .dead), (135, .dead), (161, .dead), (185, .dead)], [(0, .p c4741)], 1, []⟩) N _ ((Wk_le (.cons _ _ _ _ _ (.dead _) (.cons _ _ _ _ _ (.dead _) (.cons _ _ _ _ _ (.dead _) (.cons _ _ _ _ _ (.dead _) (.cons _ _ _ _ _ (.dead _) (.cons _ _ _ _ _ (.dead _) (.cons _ _ _ _ _ (.refl _) (.cons _ _ _ _ _ (.refl _) (.cons _ _ _ _ _ (.dead _) (.cons _ _ _ _ _ (.dead _) (.cons _ _ _ _ _ (.dead _) (.cons _ _ _ _ _ (.dead _) (.cons _ _ _ _ _ (.dead _) (.cons _ _ _ _ _ (.refl _) (.cons _ _ _ _ _ (.refl _) (.cons _ _ _ _ _ (.refl _) (.cons _ _ _ _ _ (.refl _) (.cons _ _ _ _ _ (.refl _) (.cons _ _ _ _ _ (.refl _) (.cons _ _ _ _ _ (.refl _) (.cons _ _ _ _ _ (.refl _) (.cons _ _ _ _ _ (.refl _) (.cons _ _ _ _ _ (.refl _) (.cons _ _ _ _ _ (.dead _) (.cons _ _ _ _ _ (.refl _) (.cons _ _ _ _ _ (.refl _) (.cons _ _ _ _ _ (.refl _) (.cons _ _ _ _ _ (.refl _) (.cons _ _ _ _ _ (.refl _) (.cons _ _ _ _ _ (.refl _) .nil)))))))))))))))))))))))))))))) (OLe.refl _)).trans (cmpS_ok (st' := ⟨[], [(0, .dead), (1, .dead), (2, .dead), (3, .dead), (4, .dead), (8, .dead), (9, .v (.lst false (Int.toNat (minI ((n4577 : Nat) : Int) 7)) (List.take ((Int.toNat (minI ((n4577 : Nat) : Int) 7)) * 2) c4578))), (10, .v (.lst false (n4589 + 1) (c4590 ++ [(.int .i64 (Int.tmod (IntKind.i64.wrap x4568) 31)), (.int .i64 (Int.tmod (IntKind.i64.wrap x4569) 7))]))), (11, .dead), (12, .dead), (13, .dead), (14, .dead), (15, .dead), (16, .ptr 0 0), (17, .v (.int .i64 (-6))), (18, .dead), (19, .dead), (20, .dead), (21, .dead), (22, .dead), (23, .dead), (24, .dead), (25, .dead), (81, .dead), (83, .dead), (127, .dead), (129, .dead), (135, .dead), (161, .dead), (185, .dead)], [(0, .p [(.int .i64 0), (.int .i64 0), (.int .i64 0), (.int .i64 0), (.int .i64 0), (.int .i64 0), (.int .i64 0), (.int .i64 0), (.int .i64 0), (.int .i64 0), (.int .i64 0), (.int .i64 0), (.int .i64 0), (.int .i64 0), (.int .i64 0), (.int .i64 0), (.int .i64 0), (.int .i64 0), (.int .i64 0), (.int .i64 0), (.int .i64 0), (.int .i64 0), (.int .i64 0), (.int .i64 0), (.int .i64 0), (.int .i64 0)])], 1, []⟩) (by kernel_rfl))) ⟨_, _, h4857, rfl⟩ ?_
              clear h4857
              rintro n _ ⟨x4740, c4741, h4857, rfl⟩
              cases n with
              | zero => cases h4857
              | succ n =>
                rw [m11_L0] at h4857
                have hh := brn_some h4857; clear h4857; rcases hh with ⟨h4742, h4857⟩ | ⟨h4742, h4857⟩
                · have hh := bnd'_some h4857; clear h4857; obtain ⟨p4743, h4744, h4857⟩ := hh
                  refine W_sound tab_ok mixed 14 _ _ _ ?_
                  simp -implicitDefEqProofs only [go_sem, ne_eq, not_false_eq_true, Nat.reduceBEq, Nat.reduceAdd, Nat.reduceSub, Nat.reduceMul, Nat.reduceLT, Nat.reduceLeDiff, Int.reduceLE, Int.reduceLT, Int.reduceToNat, Int.reduceBEq, Int.reduceBNe, Int.le_refl, Nat.le_refl, decide_true, decide_false, Int.cast_ofNat_Int, ↓reduceIte, h4571, g4573, h4576, g4579, g4580, g4581, g4592, g4593, g4594, g4595, g4596, h4599, h4602, h4604, h4608, h4611, h4614, h4616, h4618, g4620, h4623, h4626, h4629, h4631, h4633, h4635, h4636, h4639, h4641, h4644, h4646, h4665, h4667, h4742]
                  repeat with_reducible refine And.intro (by first | kernel_rfl | decide) ?_
                  refine Wp_callP (c32 N _ _ _ h4744) (by kernel_rfl) rfl rfl rfl rfl (by decide) ?_
                  have hh := getT2_some h4857; clear h4857; obtain ⟨p4746, p4747, h4745, h4857⟩ := hh
                  have hh := getA2_some h4857; clear h4857; obtain ⟨p4749, p4750, h4748, h4857⟩ := hh
                  have hh := getI_some h4857; clear h4857; obtain ⟨x4752, h4751, h4857⟩ := hh
                  have hh := getI_some h4857; clear h4857; obtain ⟨x4754, h4753, h4857⟩ := hh
                  have hh := getI_some h4857; clear h4857; obtain ⟨x4756, h4755, h4857⟩ := hh
                  have hh := bnd'_some h4857; clear h4857; obtain ⟨p4757, h4758, h4857⟩ := hh
                  refine W_sound tab_ok mixed 11 _ _ _ ?_
                  simp -implicitDefEqProofs only [go_sem, ne_eq, not_false_eq_true, Nat.reduceBEq, Nat.reduceAdd, Nat.reduceSub, Nat.reduceMul, Nat.reduceLT, Nat.reduceLeDiff, Int.reduceLE, Int.reduceLT, Int.reduceToNat, Int.reduceBEq, Int.reduceBNe, Int.le_refl, Nat.le_refl, decide_true, decide_false, Int.cast_ofNat_Int, ↓reduceIte, h4571, g4573, h4576, g4579, g4580, g4581, g4592, g4593, g4594, g4595, g4596, h4599, h4602, h4604, h4608, h4611, h4614, h4616, h4618, g4620, h4623, h4626, h4629, h4631, h4633, h4635, h4636, h4639, h4641, h4644, h4646, h4665, h4667, h4742, h4745, h4748, h4751, h4753, h4755]
                  repeat with_reducible refine And.intro (by first | kernel_rfl | decide) ?_
                  refine Wp_callP (c32 N _ _ _ h4758) (by kernel_rfl) rfl rfl rfl rfl (by decide) ?_
                  have hh := getT2_some h4857; clear h4857; obtain ⟨p4760, p4761, h4759, h4857⟩ := hh
                  have hh := getA2_some h4857; clear h4857; obtain ⟨p4763, p4764, h4762, h4857⟩ := hh
                  have hh := getI_some h4857; clear h4857; obtain ⟨x4766, h4765, h4857⟩ := hh
                  have hh := getI_some h4857; clear h4857; obtain ⟨x4768, h4767, h4857⟩ := hh
                  have hh := getI_some h4857; clear h4857; obtain ⟨x4770, h4769, h4857⟩ := hh
                  have hh := brn_some h4857; clear h4857; rcases hh with ⟨h4771, h4857⟩ | ⟨h4771, h4857⟩
                  · have hh := brn_some h4857; clear h4857; rcases hh with ⟨h4772, h4857⟩ | ⟨h4772, h4857⟩
                    · refine W_sound tab_ok mixed 48 _ _ _ ?_
                      simp -implicitDefEqProofs only [go_sem, ne_eq, not_false_eq_true, Nat.reduceBEq, Nat.reduceAdd, Nat.reduceSub, Nat.reduceMul, Nat.reduceLT, Nat.reduceLeDiff, Int.reduceLE, Int.reduceLT, Int.reduceToNat, Int.reduceBEq, Int.reduceBNe, Int.le_refl, Nat.le_refl, decide_true, decide_false, Int.cast_ofNat_Int, ↓reduceIte, h4571, g4573, h4576, g4579, g4580, g4581, g4592, g4593, g4594, g4595, g4596, h4599, h4602, h4604, h4608, h4611, h4614, h4616, h4618, g4620, h4623, h4626, h4629, h4631, h4633, h4635, h4636, h4639, h4641, h4644, h4646, h4665, h4667, h4742, h4745, h4748, h4751, h4753, h4755, h4759, h4762, h4765, h4767, h4769, h4771, h4772]
                      repeat with_reducible refine And.intro (by first | kernel_rfl | decide) ?_
                      obtain rfl := Option.some.inj h4857
                      (try dsimp only at h4858)
                      obtain rfl := Option.some.inj h4858
                      exact finC [(8, .v (.bool false))] [(8, .v (.bool false))] (by simp [leE, lk_cons]) (.cons _ _ _ _ _ (.v _ _ (.refl _)) .nil) (by rfl) (by simp [leE, lk_cons]) (by decide) (by decide) rfl (by simp only [go_sem, ne_eq, not_false_eq_true, Nat.reduceBEq, Nat.reduceAdd, Nat.reduceSub, Nat.reduceMul, Nat.reduceLT, Nat.reduceLeDiff, Int.reduceLE, Int.reduceLT, Int.reduceToNat, Int.reduceBEq, Int.reduceBNe, Int.le_refl, Nat.le_refl, decide_true, decide_false, Int.cast_ofNat_Int, ↓reduceIte, resQ_tmp, resQ_cell, resQ_nil, retD_one, retD_two, retD_three, retD_none]; try simp [R.val, retD_one, retD_two, retD_three, retD_none])
                    · have hh := brn_some h4857; clear h4857; rcases hh with ⟨h4773, h4857⟩ | ⟨h4773, h4857⟩
                      · have hh := brn_some h4857; clear h4857; rcases hh with ⟨h4774, h4857⟩ | ⟨h4774, h4857⟩
                        · refine W_sound tab_ok mixed 48 _ _ _ ?_
                          simp -implicitDefEqProofs only [go_sem, ne_eq, not_false_eq_true, Nat.reduceBEq, Nat.reduceAdd, Nat.reduceSub, Nat.reduceMul, Nat.reduceLT, Nat.reduceLeDiff, Int.reduceLE, Int.reduceLT, Int.reduceToNat, Int.reduceBEq, Int.reduceBNe, Int.le_refl, Nat.le_refl, decide_true, decide_false, Int.cast_ofNat_Int, ↓reduceIte, h4571, g4573, h4576, g4579, g4580, g4581, g4592, g4593, g4594, g4595, g4596, h4599, h4602, h4604, h4608, h4611, h4614, h4616, h4618, g4620, h4623, h4626, h4629, h4631, h4633, h4635, h4636, h4639, h4641, h4644, h4646, h4665, h4667, h4742, h4745, h4748, h4751, h4753, h4755, h4759, h4762, h4765, h4767, h4769, h4771, h4772, h4773, h4774]
                          repeat with_reducible refine And.intro (by first | kernel_rfl | decide) ?_
                          obtain rfl := Option.some.inj h4857
                          (try dsimp only at h4858)
                          obtain rfl := Option.some.inj h4858
                          exact finC [(8, .v (.bool false))] [(8, .v (.bool false))] (by simp [leE, lk_cons]) (.cons _ _ _ _ _ (.v _ _ (.refl _)) .nil) (by rfl) (by simp [leE, lk_cons]) (by decide) (by decide) rfl (by simp only [go_sem, ne_eq, not_false_eq_true, Nat.reduceBEq, Nat.reduceAdd, Nat.reduceSub, Nat.reduceMul, Nat.reduceLT, Nat.reduceLeDiff, Int.reduceLE, Int.reduceLT, Int.reduceToNat, Int.reduceBEq, Int.reduceBNe, Int.le_refl, Nat.le_refl, decide_true, decide_false, Int.cast_ofNat_Int, ↓reduceIte, resQ_tmp, resQ_cell, resQ_nil, retD_one, retD_two, retD_three, retD_none]; try simp [R.val, retD_one, retD_two, retD_three, retD_none])
                        · have hh := bnd'_some h4857; clear h4857; obtain ⟨p4775, h4776, h4857⟩ := hh
                          refine W_sound tab_ok mixed 24 _ _ _ ?_
                          simp -implicitDefEqProofs only [go_sem, ne_eq, not_false_eq_true, Nat.reduceBEq, Nat.reduceAdd, Nat.reduceSub, Nat.reduceMul, Nat.reduceLT, Nat.reduceLeDiff, Int.reduceLE, Int.reduceLT, Int.reduceToNat, Int.reduceBEq, Int.reduceBNe, Int.le_refl, Nat.le_refl, decide_true, decide_false, Int.cast_ofNat_Int, ↓reduceIte, h4571, g4573, h4576, g4579, g4580, g4581, g4592, g4593, g4594, g4595, g4596, h4599, h4602, h4604, h4608, h4611, h4614, h4616, h4618, g4620, h4623, h4626, h4629, h4631, h4633, h4635, h4636, h4639, h4641, h4644, h4646, h4665, h4667, h4742, h4745, h4748, h4751, h4753, h4755, h4759, h4762, h4765, h4767, h4769, h4771, h4772, h4773, h4774]
                          repeat with_reducible refine And.intro (by first | kernel_rfl | decide) ?_
                          refine Wp_callP (c37 N _ _ h4776) (by kernel_rfl) rfl rfl rfl rfl (by decide) ?_
                          have hh := getB_some h4857; clear h4857; obtain ⟨b4778, h4777, h4857⟩ := hh
                          have hh := brn_some h4857; clear h4857; rcases hh with ⟨h4779, h4857⟩ | ⟨h4779, h4857⟩
                          · have hh := bnd'_some h4857; clear h4857; obtain ⟨p4780, h4781, h4857⟩ := hh
                            refine W_sound tab_ok mixed 4 _ _ _ ?_
                            simp -implicitDefEqProofs only [go_sem, ne_eq, not_false_eq_true, Nat.reduceBEq, Nat.reduceAdd, Nat.reduceSub, Nat.reduceMul, Nat.reduceLT, Nat.reduceLeDiff, Int.reduceLE, Int.reduceLT, Int.reduceToNat, Int.reduceBEq, Int.reduceBNe, Int.le_refl, Nat.le_refl, decide_true, decide_false, Int.cast_ofNat_Int, ↓reduceIte, h4571, g4573, h4576, g4579, g4580, g4581, g4592, g4593, g4594, g4595, g4596, h4599, h4602, h4604, h4608, h4611, h4614, h4616, h4618, g4620, h4623, h4626, h4629, h4631, h4633, h4635, h4636, h4639, h4641, h4644, h4646, h4665, h4667, h4742, h4745, h4748, h4751, h4753, h4755, h4759, h4762, h4765, h4767, h4769, h4771, h4772, h4773, h4774, h4777, h4779]
                            repeat with_reducible refine And.intro (by first | kernel_rfl | decide) ?_
                            refine Wp_callP (c37 N _ _ h4781) (by kernel_rfl) rfl rfl rfl rfl (by decide) ?_
                            have hh := getB_some h4857; clear h4857; obtain ⟨b4783, h4782, h4857⟩ := hh
                            have hh := brn_some h4857; clear h4857; rcases hh with ⟨h4784, h4857⟩ | ⟨h4784, h4857⟩
                            · have hh := bnd'_some h4857; clear h4857; obtain ⟨p4785, h4786, h4857⟩ := hh
                              refine W_sound tab_ok mixed 5 _ _ _ ?_
                              simp -implicitDefEqProofs only [go_sem, ne_eq, not_false_eq_true, Nat.reduceBEq, Nat.reduceAdd, Nat.reduceSub, Nat.reduceMul, Nat.reduceLT, Nat.reduceLeDiff, Int.reduceLE, Int.reduceLT, Int.reduceToNat, Int.reduceBEq, Int.reduceBNe, Int.le_refl, Nat.le_refl, decide_true, decide_false, Int.cast_ofNat_Int, ↓reduceIte, h4571, g4573, h4576, g4579, g4580, g4581, g4592, g4593, g4594, g4595, g4596, h4599, h4602, h4604, h4608, h4611, h4614, h4616, h4618, g4620, h4623, h4626, h4629, h4631, h4633, h4635, h4636, h4639, h4641, h4644, h4646, h4665, h4667, h4742, h4745, h4748, h4751, h4753, h4755, h4759, h4762, h4765, h4767, h4769, h4771, h4772, h4773, h4774, h4777, h4779, h4782, h4784]
                              repeat with_reducible refine And.intro (by first | kernel_rfl | decide) ?_
                              refine Wp_callP (c49 N _ _ _ h4786) (by kernel_rfl) rfl rfl rfl rfl (by decide) ?_
                              have hh := getI_some h4857; clear h4857; obtain ⟨x4788, h4787, h4857⟩ := hh
                              have hh := brn_some h4857; clear h4857; rcases hh with ⟨h4789, h4857⟩ | ⟨h4789, h4857⟩
                              · refine W_sound tab_ok mixed 12 _ _ _ ?_
                                simp -implicitDefEqProofs only [go_sem, ne_eq, not_false_eq_true, Nat.reduceBEq, Nat.reduceAdd, Nat.reduceSub, Nat.reduceMul, Nat.reduceLT, Nat.reduceLeDiff, Int.reduceLE, Int.reduceLT, Int.reduceToNat, Int.reduceBEq, Int.reduceBNe, Int.le_refl, Nat.le_refl, decide_true, decide_false, Int.cast_ofNat_Int, ↓reduceIte, h4571, g4573, h4576, g4579, g4580, g4581, g4592, g4593, g4594, g4595, g4596, h4599, h4602, h4604, h4608, h4611, h4614, h4616, h4618, g4620, h4623, h4626, h4629, h4631, h4633, h4635, h4636, h4639, h4641, h4644, h4646, h4665, h4667, h4742, h4745, h4748, h4751, h4753, h4755, h4759, h4762, h4765, h4767, h4769, h4771, h4772, h4773, h4774, h4777, h4779, h4782, h4784, h4787, h4789]
                                repeat with_reducible refine And.intro (by first | kernel_rfl | decide) ?_
                                obtain rfl := Option.some.inj h4857
                                (try dsimp only at h4858)
                                obtain rfl := Option.some.inj h4858
                                exact finC [(8, .v (.bool false))] [(8, .v (.bool false))] (by simp [leE, lk_cons]) (.cons _ _ _ _ _ (.v _ _ (.refl _)) .nil) (by rfl) (by simp [leE, lk_cons]) (by decide) (by decide) rfl (by simp only [go_sem, ne_eq, not_false_eq_true, Nat.reduceBEq, Nat.reduceAdd, Nat.reduceSub, Nat.reduceMul, Nat.reduceLT, Nat.reduceLeDiff, Int.reduceLE, Int.reduceLT, Int.reduceToNat, Int.reduceBEq, Int.reduceBNe, Int.le_refl, Nat.le_refl, decide_true, decide_false, Int.cast_ofNat_Int, ↓reduceIte, resQ_tmp, resQ_cell, resQ_nil, retD_one, retD_two, retD_three, retD_none]; try simp [R.val, retD_one, retD_two, retD_three, retD_none])
                              · have hh := grd_some h4857; clear h4857; obtain ⟨⟨g4790, g4791⟩, h4857⟩ := hh
                                have hh := grd_some h4857; clear h4857; obtain ⟨g4792, h4857⟩ := hh
                                refine W_sound tab_ok mixed 26 _ _ _ ?_
                                simp -implicitDefEqProofs only [go_sem, ne_eq, not_false_eq_true, Nat.reduceBEq, Nat.reduceAdd, Nat.reduceSub, Nat.reduceMul, Nat.reduceLT, Nat.reduceLeDiff, Int.reduceLE, Int.reduceLT, Int.reduceToNat, Int.reduceBEq, Int.reduceBNe, Int.le_refl, Nat.le_refl, decide_true, decide_false, Int.cast_ofNat_Int, ↓reduceIte, h4571, g4573, h4576, g4579, g4580, g4581, g4592, g4593, g4594, g4595, g4596, h4599, h4602, h4604, h4608, h4611, h4614, h4616, h4618, g4620, h4623, h4626, h4629, h4631, h4633, h4635, h4636, h4639, h4641, h4644, h4646, h4665, h4667, h4742, h4745, h4748, h4751, h4753, h4755, h4759, h4762, h4765, h4767, h4769, h4771, h4772, h4773, h4774, h4777, h4779, h4782, h4784, h4787, h4789, g4790, g4791, g4792]
                                repeat with_reducible refine And.intro (by first | kernel_rfl | decide) ?_
                                exact cutQ _ ((Wk_le (.cons _ _ _ _ _ (.refl _) (.cons _ _ _ _ _ (.refl _) (.cons _ _ _ _ _ (.refl _) (.cons _ _ _ _ _ (.refl _) (.cons _ _ _ _ _ (.refl _) (.cons _ _ _ _ _ (.refl _) (.cons _ _ _ _ _ (.refl _) (.cons _ _ _ _ _ (.refl _) (.cons _ _ _ _ _ (.refl _) (.cons _ _ _ _ _ (.refl _) (.cons _ _ _ _ _ (.refl _) (.cons _ _ _ _ _ (.refl _) (.cons _ _ _ _ _ (.refl _) (.cons _ _ _ _ _ (.refl _) (.cons _ _ _ _ _ (.refl _) (.cons _ _ _ _ _ (.dead _) (.cons _ _ _ _ _ (.dead _) (.cons _ _ _ _ _ (.dead _) (.cons _ _ _ _ _ (.dead _) (.cons _ _ _ _ _ (.refl _) (.cons _ _ _ _ _ (.refl _) (.cons _ _ _ _ _ (.refl _) (.cons _ _ _ _ _ (.refl _) (.cons _ _ _ _ _ (.refl _) (.cons _ _ _ _ _ (.dead _) (.cons _ _ _ _ _ (.dead _) (.cons _ _ _ _ _ (.dead _) (.cons _ _ _ _ _ (.refl _) (.cons _ _ _ _ _ (.refl _) (.cons _ _ _ _ _ (.refl _) .nil)))))))))))))))))))))))))))))) (OLe.refl _)).trans (cmpS_ok (st' := ⟨[], [(0, .dead), (1, .dead), (2, .dead), (3, .dead), (4, .dead), (8, .dead), (9, .v (.lst false (Int.toNat (minI ((n4577 : Nat) : Int) 7)) (List.take ((Int.toNat (minI ((n4577 : Nat) : Int) 7)) * 2) c4578))), (10, .v (.lst false (n4589 + 1) (c4590 ++ [(.int .i64 (Int.tmod (IntKind.i64.wrap x4568) 31)), (.int .i64 (Int.tmod (IntKind.i64.wrap x4569) 7))]))), (11, .dead), (12, .dead), (13, .dead), (14, .dead), (15, .dead), (16, .ptr 0 0), (17, .v (.int .i64 (IntKind.i64.wrap (x4740 + 1)))), (18, .dead), (19, .dead), (20, .dead), (21, .dead), (22, .dead), (23, .dead), (24, .dead), (25, .dead), (81, .dead), (83, .dead), (127, .dead), (129, .dead), (135, .dead), (161, .dead), (185, .dead)], [(0, .p (List.set (List.set c4741 ((Int.toNat (IntKind.i64.wrap (x4740 + 6))) * 2) (.int .i64 x4754)) (((Int.toNat (IntKind.i64.wrap (x4740 + 6))) * 2) + 1) (.int .i64 x4756)))], 1, []⟩) (by kernel_rfl))) ⟨n, Nat.lt_succ_self n, _, _, h4857, rfl⟩
                            · refine W_sound tab_ok mixed 18 _ _ _ ?_
                              simp -implicitDefEqProofs only [go_sem, ne_eq, not_false_eq_true, Nat.reduceBEq, Nat.reduceAdd, Nat.reduceSub, Nat.reduceMul, Nat.reduceLT, Nat.reduceLeDiff, Int.reduceLE, Int.reduceLT, Int.reduceToNat, Int.reduceBEq, Int.reduceBNe, Int.le_refl, Nat.le_refl, decide_true, decide_false, Int.cast_ofNat_Int, ↓reduceIte, h4571, g4573, h4576, g4579, g4580, g4581, g4592, g4593, g4594, g4595, g4596, h4599, h4602, h4604, h4608, h4611, h4614, h4616, h4618, g4620, h4623, h4626, h4629, h4631, h4633, h4635, h4636, h4639, h4641, h4644, h4646, h4665, h4667, h4742, h4745, h4748, h4751, h4753, h4755, h4759, h4762, h4765, h4767, h4769, h4771, h4772, h4773, h4774, h4777, h4779, h4782, h4784]
                              repeat with_reducible refine And.intro (by first | kernel_rfl | decide) ?_
                              obtain rfl := Option.some.inj h4857
                              (try dsimp only at h4858)
                              obtain rfl := Option.some.inj h4858
                              exact finC [(8, .v (.bool false))] [(8, .v (.bool false))] (by simp [leE, lk_cons]) (.cons _ _ _ _ _ (.v _ _ (.refl _)) .nil) (by rfl) (by simp [leE, lk_cons]) (by decide) (by decide) rfl (by simp only [go_sem, ne_eq, not_false_eq_true, Nat.reduceBEq, Nat.reduceAdd, Nat.reduceSub, Nat.reduceMul, Nat.reduceLT, Nat.reduceLeDiff, Int.reduceLE, Int.reduceLT, Int.reduceToNat, Int.reduceBEq, Int.reduceBNe, Int.le_refl, Nat.le_refl, decide_true, decide_false, Int.cast_ofNat_Int, ↓reduceIte, resQ_tmp, resQ_cell, resQ_nil, retD_one, retD_two, retD_three, retD_none]; try simp [R.val, retD_one, retD_two, retD_three, retD_none])
                          · refine W_sound tab_ok mixed 23 _ _ _ ?_
                            simp -implicitDefEqProofs only [go_sem, ne_eq, not_false_eq_true, Nat.reduceBEq, Nat.reduceAdd, Nat.reduceSub, Nat.reduceMul, Nat.reduceLT, Nat.reduceLeDiff, Int.reduceLE, Int.reduceLT, Int.reduceToNat, Int.reduceBEq, Int.reduceBNe, Int.le_refl, Nat.le_refl, decide_true, decide_false, Int.cast_ofNat_Int, ↓reduceIte, h4571, g4573, h4576, g4579, g4580, g4581, g4592, g4593, g4594, g4595, g4596, h4599, h4602, h4604, h4608, h4611, h4614, h4616, h4618, g4620, h4623, h4626, h4629, h4631, h4633, h4635, h4636, h4639, h4641, h4644, h4646, h4665, h4667, h4742, h4745, h4748, h4751, h4753, h4755, h4759, h4762, h4765, h4767, h4769, h4771, h4772, h4773, h4774, h4777, h4779]
                            repeat with_reducible refine And.intro (by first | kernel_rfl | decide) ?_
                            obtain rfl := Option.some.inj h4857
                            (try dsimp only at h4858)
                            obtain rfl := Option.some.inj h4858
                            exact finC [(8, .v (.bool false))] [(8, .v (.bool false))] (by simp [leE, lk_cons]) (.cons _ _ _ _ _ (.v _ _ (.refl _)) .nil) (by rfl) (by simp [leE, lk_cons]) (by decide) (by decide) rfl (by simp only [go_sem, ne_eq, not_false_eq_true, Nat.reduceBEq, Nat.reduceAdd, Nat.reduceSub, Nat.reduceMul, Nat.reduceLT, Nat.reduceLeDiff, Int.reduceLE, Int.reduceLT, Int.reduceToNat, Int.reduceBEq, Int.reduceBNe, Int.le_refl, Nat.le_refl, decide_true, decide_false, Int.cast_ofNat_Int, ↓reduceIte, resQ_tmp, resQ_cell, resQ_nil, retD_one, retD_two, retD_three, retD_none]; try simp [R.val, retD_one, retD_two, retD_three, retD_none])
                      · refine W_sound tab_ok mixed 56 _ _ _ ?_
                        simp -implicitDefEqProofs only [go_sem, ne_eq, not_false_eq_true, Nat.reduceBEq, Nat.reduceAdd, Nat.reduceSub, Nat.reduceMul, Nat.reduceLT, Nat.reduceLeDiff, Int.reduceLE, Int.reduceLT, Int.reduceToNat, Int.reduceBEq, Int.reduceBNe, Int.le_refl, Nat.le_refl, decide_true, decide_false, Int.cast_ofNat_Int, ↓reduceIte, h4571, g4573, h4576, g4579, g4580, g4581, g4592, g4593, g4594, g4595, g4596, h4599, h4602, h4604, h4608, h4611, h4614, h4616, h4618, g4620, h4623, h4626, h4629, h4631, h4633, h4635, h4636, h4639, h4641, h4644, h4646, h4665, h4667, h4742, h4745, h4748, h4751, h4753, h4755, h4759, h4762, h4765, h4767, h4769, h4771, h4772, h4773]
                        repeat with_reducible refine And.intro (by first | kernel_rfl | decide) ?_
                        exact cutQ _ ((Wk_le (.cons _ _ _ _ _ (.refl _) (.cons _ _ _ _ _ (.refl _) (.cons _ _ _ _ _ (.refl _) (.cons _ _ _ _ _ (.refl _) (.cons _ _ _ _ _ (.refl _) (.cons _ _ _ _ _ (.refl _) (.cons _ _ _ _ _ (.refl _) (.cons _ _ _ _ _ (.refl _) (.cons _ _ _ _ _ (.refl _) (.cons _ _ _ _ _ (.refl _) (.cons _ _ _ _ _ (.refl _) (.cons _ _ _ _ _ (.refl _) (.cons _ _ _ _ _ (.refl _) (.cons _ _ _ _ _ (.refl _) (.cons _ _ _ _ _ (.refl _) (.cons _ _ _ _ _ (.dead _) (.cons _ _ _ _ _ (.dead _) (.cons _ _ _ _ _ (.dead _) (.cons _ _ _ _ _ (.dead _) (.cons _ _ _ _ _ (.refl _) (.cons _ _ _ _ _ (.refl _) (.cons _ _ _ _ _ (.refl _) (.cons _ _ _ _ _ (.refl _) (.cons _ _ _ _ _ (.refl _) (.cons _ _ _ _ _ (.dead _) (.cons _ _ _ _ _ (.dead _) (.cons _ _ _ _ _ (.dead _) (.cons _ _ _ _ _ (.refl _) (.cons _ _ _ _ _ (.refl _) (.cons _ _ _ _ _ (.refl _) .nil)))))))))))))))))))))))))))))) (OLe.refl _)).trans (cmpS_ok (st' := ⟨[], [(0, .dead), (1, .dead), (2, .dead), (3, .dead), (4, .dead), (8, .dead), (9, .v (.lst false (Int.toNat (minI ((n4577 : Nat) : Int) 7)) (List.take ((Int.toNat (minI ((n4577 : Nat) : Int) 7)) * 2) c4578))), (10, .v (.lst false (n4589 + 1) (c4590 ++ [(.int .i64 (Int.tmod (IntKind.i64.wrap x4568) 31)), (.int .i64 (Int.tmod (IntKind.i64.wrap x4569) 7))]))), (11, .dead), (12, .dead), (13, .dead), (14, .dead), (15, .dead), (16, .ptr 0 0), (17, .v (.int .i64 (IntKind.i64.wrap (x4740 + 1)))), (18, .dead), (19, .dead), (20, .dead), (21, .dead), (22, .dead), (23, .dead), (24, .dead), (25, .dead), (81, .dead), (83, .dead), (127, .dead), (129, .dead), (135, .dead), (161, .dead), (185, .dead)], [(0, .p c4741)], 1, []⟩) (by kernel_rfl))) ⟨n, Nat.lt_succ_self n, _, _, h4857, rfl⟩
                  · have hh := brn_some h4857; clear h4857; rcases hh with ⟨h4793, h4857⟩ | ⟨h4793, h4857⟩
                    · have hh := brn_some h4857; clear h4857; rcases hh with ⟨h4794, h4857⟩ | ⟨h4794, h4857⟩
                      · refine W_sound tab_ok mixed 48 _ _ _ ?_
                        simp -implicitDefEqProofs only [go_sem, ne_eq, not_false_eq_true, Nat.reduceBEq, Nat.reduceAdd, Nat.reduceSub, Nat.reduceMul, Nat.reduceLT, Nat.reduceLeDiff, Int.reduceLE, Int.reduceLT, Int.reduceToNat, Int.reduceBEq, Int.reduceBNe, Int.le_refl, Nat.le_refl, decide_true, decide_false, Int.cast_ofNat_Int, ↓reduceIte, h4571, g4573, h4576, g4579, g4580, g4581, g4592, g4593, g4594, g4595, g4596, h4599, h4602, h4604, h4608, h4611, h4614, h4616, h4618, g4620, h4623, h4626, h4629, h4631, h4633, h4635, h4636, h4639, h4641, h4644, h4646, h4665, h4667, h4742, h4745, h4748, h4751, h4753, h4755, h4759, h4762, h4765, h4767, h4769, h4771, h4793, h4794]
                        repeat with_reducible refine And.intro (by first | kernel_rfl | decide) ?_
                        obtain rfl := Option.some.inj h4857
                        (try dsimp only at h4858)
                        obtain rfl := Option.some.inj h4858
                        exact finC [(8, .v (.bool false))] [(8, .v (.bool false))] (by simp [leE, lk_cons]) (.cons _ _ _ _ _ (.v _ _ (.refl _)) .nil) (by rfl) (by simp [leE, lk_cons]) (by decide) (by decide) rfl (by simp only [go_sem, ne_eq, not_false_eq_true, Nat.reduceBEq, Nat.reduceAdd, Nat.reduceSub, Nat.reduceMul, Nat.reduceLT, Nat.reduceLeDiff, Int.reduceLE, Int.reduceLT, Int.reduceToNat, Int.reduceBEq, Int.reduceBNe, Int.le_refl, Nat.le_refl, decide_true, decide_false, Int.cast_ofNat_Int, ↓reduceIte, resQ_tmp, resQ_cell, resQ_nil, retD_one, retD_two, retD_three, retD_none]; try simp [R.val, retD_one, retD_two, retD_three, retD_none])
                      · have hh := bnd'_some h4857; clear h4857; obtain ⟨p4795, h4796, h4857⟩ := hh
                        refine W_sound tab_ok mixed 24 _ _ _ ?_
                        simp -implicitDefEqProofs only [go_sem, ne_eq, not_false_eq_true, Nat.reduceBEq, Nat.reduceAdd, Nat.reduceSub, Nat.reduceMul, Nat.reduceLT, Nat.reduceLeDiff, Int.reduceLE, Int.reduceLT, Int.reduceToNat, Int.reduceBEq, Int.reduceBNe, Int.le_refl, Nat.le_refl, decide_true, decide_false, Int.cast_ofNat_Int, ↓reduceIte, h4571, g4573, h4576, g4579, g4580, g4581, g4592, g4593, g4594, g4595, g4596, h4599, h4602, h4604, h4608, h4611, h4614, h4616, h4618, g4620, h4623, h4626, h4629, h4631, h4633, h4635, h4636, h4639, h4641, h4644, h4646, h4665, h4667, h4742, h4745, h4748, h4751, h4753, h4755, h4759, h4762, h4765, h4767, h4769, h4771, h4793, h4794]
                        repeat with_reducible refine And.intro (by first | kernel_rfl | decide) ?_
                        refine Wp_callP (c37 N _ _ h4796) (by kernel_rfl) rfl rfl rfl rfl (by decide) ?_
                        have hh := getB_some h4857; clear h4857; obtain ⟨b4798, h4797, h4857⟩ := hh
                        have hh := brn_some h4857; clear h4857; rcases hh with ⟨h4799, h4857⟩ | ⟨h4799, h4857⟩
                        · have hh := bnd'_some h4857; clear h4857; obtain ⟨p4800, h4801, h4857⟩ := hh
                          refine W_sound tab_ok mixed 4 _ _ _ ?_
                          simp -implicitDefEqProofs only [go_sem, ne_eq, not_false_eq_true, Nat.reduceBEq, Nat.reduceAdd, Nat.reduceSub, Nat.reduceMul, Nat.reduceLT, Nat.reduceLeDiff, Int.reduceLE, Int.reduceLT, Int.reduceToNat, Int.reduceBEq, Int.reduceBNe, Int.le_refl, Nat.le_refl, decide_true, decide_false, Int.cast_ofNat_Int, ↓reduceIte, h4571, g4573, h4576, g4579, g4580, g4581, g4592, g4593, g4594, g4595, g4596, h4599, h4602, h4604, h4608, h4611, h4614, h4616, h4618, g4620, h4623, h4626, h4629, h4631, h4633, h4635, h4636, h4639, h4641, h4644, h4646, h4665, h4667, h4742, h4745, h4748, h4751, h4753, h4755, h4759, h4762, h4765, h4767, h4769, h4771, h4793, h4794, h4797, h4799]
                          repeat with_reducible refine And.intro (by first | kernel_rfl | decide) ?_
                          refine Wp_callP (c37 N _ _ h4801) (by kernel_rfl) rfl rfl rfl rfl (by decide) ?_
                          have hh := getB_some h4857; clear h4857; obtain ⟨b4803, h4802, h4857⟩ := hh
                          have hh := brn_some h4857; clear h4857; rcases hh with ⟨h4804, h4857⟩ | ⟨h4804, h4857⟩
                          · have hh := bnd'_some h4857; clear h4857; obtain ⟨p4805, h4806, h4857⟩ := hh
                            refine W_sound tab_ok mixed 5 _ _ _ ?_
                            simp -implicitDefEqProofs only [go_sem, ne_eq, not_false_eq_true, Nat.reduceBEq, Nat.reduceAdd, Nat.reduceSub, Nat.reduceMul, Nat.reduceLT, Nat.reduceLeDiff, Int.reduceLE, Int.reduceLT, Int.reduceToNat, Int.reduceBEq, Int.reduceBNe, Int.le_refl, Nat.le_refl, decide_true, decide_false, Int.cast_ofNat_Int, ↓reduceIte, h4571, g4573, h4576, g4579, g4580, g4581, g4592, g4593, g4594, g4595, g4596, h4599, h4602, h4604, h4608, h4611, h4614, h4616, h4618, g4620, h4623, h4626, h4629, h4631, h4633, h4635, h4636, h4639, h4641, h4644, h4646, h4665, h4667, h4742, h4745, h4748, h4751, h4753, h4755, h4759, h4762, h4765, h4767, h4769, h4771, h4793, h4794, h4797, h4799, h4802, h4804]
                            repeat with_reducible refine And.intro (by first | kernel_rfl | decide) ?_
                            refine Wp_callP (c49 N _ _ _ h4806) (by kernel_rfl) rfl rfl rfl rfl (by decide) ?_
                            have hh := getI_some h4857; clear h4857; obtain ⟨x4808, h4807, h4857⟩ := hh
                            have hh := brn_some h4857; clear h4857; rcases hh with ⟨h4809, h4857⟩ | ⟨h4809, h4857⟩
                            · refine W_sound tab_ok mixed 12 _ _ _ ?_
                              simp -implicitDefEqProofs only [go_sem, ne_eq, not_false_eq_true, Nat.reduceBEq, Nat.reduceAdd, Nat.reduceSub, Nat.reduceMul, Nat.reduceLT, Nat.reduceLeDiff, Int.reduceLE, Int.reduceLT, Int.reduceToNat, Int.reduceBEq, Int.reduceBNe, Int.le_refl, Nat.le_refl, decide_true, decide_false, Int.cast_ofNat_Int, ↓reduceIte, h4571, g4573, h4576, g4579, g4580, g4581, g4592, g4593, g4594, g4595, g4596, h4599, h4602, h4604, h4608, h4611, h4614, h4616, h4618, g4620, h4623, h4626, h4629, h4631, h4633, h4635, h4636, h4639, h4641, h4644, h4646, h4665, h4667, h4742, h4745, h4748, h4751, h4753, h4755, h4759, h4762, h4765, h4767, h4769, h4771, h4793, h4794, h4797, h4799, h4802, h4804, h4807, h4809]
                              repeat with_reducible refine And.intro (by first | kernel_rfl | decide) ?_
                              obtain rfl := Option.some.inj h4857
                              (try dsimp only at h4858)
                              obtain rfl := Option.some.inj h4858
                              exact finC [(8, .v (.bool false))] [(8, .v (.bool false))] (by simp [leE, lk_cons]) (.cons _ _ _ _ _ (.v _ _ (.refl _)) .nil) (by rfl) (by simp [leE, lk_cons]) (by decide) (by decide) rfl (by simp only [go_sem, ne_eq, not_false_eq_true, Nat.reduceBEq, Nat.reduceAdd, Nat.reduceSub, Nat.reduceMul, Nat.reduceLT, Nat.reduceLeDiff, Int.reduceLE, Int.reduceLT, Int.reduceToNat, Int.reduceBEq, Int.reduceBNe, Int.le_refl, Nat.le_refl, decide_true, decide_false, Int.cast_ofNat_Int, ↓reduceIte, resQ_tmp, resQ_cell, resQ_nil, retD_one, retD_two, retD_three, retD_none]; try simp [R.val, retD_one, retD_two, retD_three, retD_none])
                            · have hh := grd_some h4857; clear h4857; obtain ⟨⟨g4810, g4811⟩, h4857⟩ := hh
                              have hh := grd_some h4857; clear h4857; obtain ⟨g4812, h4857⟩ := hh
                              refine W_sound tab_ok mixed 26 _ _ _ ?_
                              simp -implicitDefEqProofs only [go_sem, ne_eq, not_false_eq_true, Nat.reduceBEq, Nat.reduceAdd, Nat.reduceSub, Nat.reduceMul, Nat.reduceLT, Nat.reduceLeDiff, Int.reduceLE, Int.reduceLT, Int.reduceToNat, Int.reduceBEq, Int.reduceBNe, Int.le_refl, Nat.le_refl, decide_true, decide_false, Int.cast_ofNat_Int, ↓reduceIte, h4571, g4573, h4576, g4579, g4580, g4581, g4592, g4593, g4594, g4595, g4596, h4599, h4602, h4604, h4608, h4611, h4614, h4616, h4618, g4620, h4623, h4626, h4629, h4631, h4633, h4635, h4636, h4639, h4641, h4644, h4646, h4665, h4667, h4742, h4745, h4748, h4751, h4753, h4755, h4759, h4762, h4765, h4767, h4769, h4771, h4793, h4794, h4797, h4799, h4802, h4804, h4807, h4809, g4810, g4811, g4812]
                              repeat with_reducible refine And.intro (by first | kernel_rfl | decide) ?_
                              exact cutQ _ ((Wk_le (.cons _ _ _ _ _ (.refl _) (.cons _ _ _ _ _ (.refl _) (.cons _ _ _ _ _ (.refl _) (.cons _ _ _ _ _ (.refl _) (.cons _ _ _ _ _ (.refl _) (.cons _ _ _ _ _ (.refl _) (.cons _ _ _ _ _ (.refl _) (.cons _ _ _ _ _ (.refl _) (.cons _ _ _ _ _ (.refl _) (.cons _ _ _ _ _ (.refl _) (.cons _ _ _ _ _ (.refl _) (.cons _ _ _ _ _ (.refl _) (.cons _ _ _ _ _ (.refl _) (.cons _ _ _ _ _ (.refl _) (.cons _ _ _ _ _ (.refl _) (.cons _ _ _ _ _ (.dead _) (.cons _ _ _ _ _ (.dead _) (.cons _ _ _ _ _ (.dead _) (.cons _ _ _ _ _ (.dead _) (.cons _ _ _ _ _ (.refl _) (.cons _ _ _ _ _ (.refl _) (.cons _ _ _ _ _ (.refl _) (.cons _ _ _ _ _ (.refl _) (.cons _ _ _ _ _ (.refl _) (.cons _ _ _ _ _ (.dead _) (.cons _ _ _ _ _ (.dead _) (.cons _ _ _ _ _ (.dead _) (.cons _ _ _ _ _ (.refl _) (.cons _ _ _ _ _ (.refl _) (.cons _ _ _ _ _ (.refl _) .nil)))))))))))))))))))))))))))))) (OLe.refl _)).trans (cmpS_ok (st' := ⟨[], [(0, .dead), (1, .dead), (2, .dead), (3, .dead), (4, .dead), (8, .dead), (9, .v (.lst false (Int.toNat (minI ((n4577 : Nat) : Int) 7)) (List.take ((Int.toNat (minI ((n4577 : Nat) : Int) 7)) * 2) c4578))), (10, .v (.lst false (n4589 + 1) (c4590 ++ [(.int .i64 (Int.tmod (IntKind.i64.wrap x4568) 31)), (.int .i64 (Int.tmod (IntKind.i64.wrap x4569) 7))]))), (11, .dead), (12, .dead), (13, .dead), (14, .dead), (15, .dead), (16, .ptr 0 0), (17, .v (.int .i64 (IntKind.i64.wrap (x4740 + 1)))), (18, .dead), (19, .dead), (20, .dead), (21, .dead), (22, .dead), (23, .dead), (24, .dead), (25, .dead), (81, .dead), (83, .dead), (127, .dead), (129, .dead), (135, .dead), (161, .dead), (185, .dead)], [(0, .p (List.set (List.set c4741 ((Int.toNat (IntKind.i64.wrap (x4740 + 6))) * 2) (.int .i64 x4754)) (((Int.toNat (IntKind.i64.wrap (x4740 + 6))) * 2) + 1) (.int .i64 x4756)))], 1, []⟩) (by kernel_rfl))) ⟨n, Nat.lt_succ_self n, _, _, h4857, rfl⟩
                          · refine W_sound tab_ok mixed 18 _ _ _ ?_
                            simp -implicitDefEqProofs only [go_sem, ne_eq, not_false_eq_true, Nat.reduceBEq, Nat.reduceAdd, Nat.reduceSub, Nat.reduceMul, Nat.reduceLT, Nat.reduceLeDiff, Int.reduceLE, Int.reduceLT, Int.reduceToNat, Int.reduceBEq, Int.reduceBNe, Int.le_refl, Nat.le_refl, decide_true, decide_false, Int.cast_ofNat_Int, ↓reduceIte, h4571, g4573, h4576, g4579, g4580, g4581, g4592, g4593, g4594, g4595, g4596, h4599, h4602, h4604, h4608, h4611, h4614, h4616, h4618, g4620, h4623, h4626, h4629, h4631, h4633, h4635, h4636, h4639, h4641, h4644, h4646, h4665, h4667, h4742, h4745, h4748, h4751, h4753, h4755, h4759, h4762, h4765, h4767, h4769, h4771, h4793, h4794, h4797, h4799, h4802, h4804]
                            repeat with_reducible refine And.intro (by first | kernel_rfl | decide) ?_
                            obtain rfl := Option.some.inj h4857
                            (try dsimp only at h4858)
                            obtain rfl := Option.some.inj h4858
                            exact finC [(8, .v (.bool false))] [(8, .v (.bool false))] (by simp [leE, lk_cons]) (.cons _ _ _ _ _ (.v _ _ (.refl _)) .nil) (by rfl) (by simp [leE, lk_cons]) (by decide) (by decide) rfl (by simp only [go_sem, ne_eq, not_false_eq_true, Nat.reduceBEq, Nat.reduceAdd, Nat.reduceSub, Nat.reduceMul, Nat.reduceLT, Nat.reduceLeDiff, Int.reduceLE, Int.reduceLT, Int.reduceToNat, Int.reduceBEq, Int.reduceBNe, Int.le_refl, Nat.le_refl, decide_true, decide_false, Int.cast_ofNat_Int, ↓reduceIte, resQ_tmp, resQ_cell, resQ_nil, retD_one, retD_two, retD_three, retD_none]; try simp [R.val, retD_one, retD_two, retD_three, retD_none])
                        · refine W_sound tab_ok mixed 23 _ _ _ ?_
                          simp -implicitDefEqProofs only [go_sem, ne_eq, not_false_eq_true, Nat.reduceBEq, Nat.reduceAdd, Nat.reduceSub, Nat.reduceMul, Nat.reduceLT, Nat.reduceLeDiff, Int.reduceLE, Int.reduceLT, Int.reduceToNat, Int.reduceBEq, Int.reduceBNe, Int.le_refl, Nat.le_refl, decide_true, decide_false, Int.cast_ofNat_Int, ↓reduceIte, h4571, g4573, h4576, g4579, g4580, g4581, g4592, g4593, g4594, g4595, g4596, h4599, h4602, h4604, h4608, h4611, h4614, h4616, h4618, g4620, h4623, h4626, h4629, h4631, h4633, h4635, h4636, h4639, h4641, h4644, h4646, h4665, h4667, h4742, h4745, h4748, h4751, h4753, h4755, h4759, h4762, h4765, h4767, h4769, h4771, h4793, h4794, h4797, h4799]
                          repeat with_reducible refine And.intro (by first | kernel_rfl | decide) ?_
                          obtain rfl := Option.some.inj h4857
                          (try dsimp only at h4858)
                          obtain rfl := Option.some.inj h4858
                          exact finC [(8, .v (.bool false))] [(8, .v (.bool false))] (by simp [leE, lk_cons]) (.cons _ _ _ _ _ (.v _ _ (.refl _)) .nil) (by rfl) (by simp [leE, lk_cons]) (by decide) (by decide) rfl (by simp only [go_sem, ne_eq, not_false_eq_true, Nat.reduceBEq, Nat.reduceAdd, Nat.reduceSub, Nat.reduceMul, Nat.reduceLT, Nat.reduceLeDiff, Int.reduceLE, Int.reduceLT, Int.reduceToNat, Int.reduceBEq, Int.reduceBNe, Int.le_refl, Nat.le_refl, decide_true, decide_false, Int.cast_ofNat_Int, ↓reduceIte, resQ_tmp, resQ_cell, resQ_nil, retD_one, retD_two, retD_three, retD_none]; try simp [R.val, retD_one, retD_two, retD_three, retD_none])
                    · refine W_sound tab_ok mixed 56 _ _ _ ?_
                      simp -implicitDefEqProofs only [go_sem, ne_eq, not_false_eq_true, Nat.reduceBEq, Nat.reduceAdd, Nat.reduceSub, Nat.reduceMul, Nat.reduceLT, Nat.reduceLeDiff, Int.reduceLE, Int.reduceLT, Int.reduceToNat, Int.reduceBEq, Int.reduceBNe, Int.le_refl, Nat.le_refl, decide_true, decide_false, Int.cast_ofNat_Int, ↓reduceIte, h4571, g4573, h4576, g4579, g4580, g4581, g4592, g4593, g4594, g4595, g4596, h4599, h4602, h4604, h4608, h4611, h4614, h4616, h4618, g4620, h4623, h4626, h4629, h4631, h4633, h4635, h4636, h4639, h4641, h4644, h4646, h4665, h4667, h4742, h4745, h4748, h4751, h4753, h4755, h4759, h4762, h4765, h4767, h4769, h4771, h4793]
                      repeat with_reducible refine And.intro (by first | kernel_rfl | decide) ?_
                      exact cutQ _ ((Wk_le (.cons _ _ _ _ _ (.refl _) (.cons _ _ _ _ _ (.refl _) (.cons _ _ _ _ _ (.refl _) (.cons _ _ _ _ _ (.refl _) (.cons _ _ _ _ _ (.refl _) (.cons _ _ _ _ _ (.refl _) (.cons _ _ _ _ _ (.refl _) (.cons _ _ _ _ _ (.refl _) (.cons _ _ _ _ _ (.refl _) (.cons _ _ _ _ _ (.refl _) (.cons _ _ _ _ _ (.refl _) (.cons _ _ _ _ _ (.refl _) (.cons _ _ _ _ _ (.refl _) (.cons _ _ _ _ _ (.refl _) (.cons _ _ _ _ _ (.refl _) (.cons _ _ _ _ _ (.dead _) (.cons _ _ _ _ _ (.dead _) (.cons _ _ _ _ _ (.dead _) (.cons _ _ _ _ _ (.dead _) (.cons _ _ _ _ _ (.refl _) (.cons _ _ _ _ _ (.refl _) (.cons _ _ _ _ _ (.refl _) (.cons _ _ _ _ _ (.refl _) (.cons _ _ _ _ _ (.refl _) (.cons _ _ _ _ _ (.dead _) (.cons _ _ _ _ _ (.dead _) (.cons _ _ _ _ _ (.dead _) (.cons _ _ _ _ _ (.refl _) (.cons _ _ _ _ _ (.refl _) (.cons _ _ _ _ _ (.refl _) .nil)))))))))))))))))))))))))))))) (OLe.refl _)).trans (cmpS_ok (st' := ⟨[], [(0, .dead), (1, .dead), (2, .dead), (3, .dead), (4, .dead), (8, .dead), (9, .v (.lst false (Int.toNat (minI ((n4577 : Nat) : Int) 7)) (List.take ((Int.toNat (minI ((n4577 : Nat) : Int) 7)) * 2) c4578))), (10, .v (.lst false (n4589 + 1) (c4590 ++ [(.int .i64 (Int.tmod (IntKind.i64.wrap x4568) 31)), (.int .i64 (Int.tmod (IntKind.i64.wrap x4569) 7))]))), (11, .dead), (12, .dead), (13, .dead), (14, .dead), (15, .dead), (16, .ptr 0 0), (17, .v (.int .i64 (IntKind.i64.wrap (x4740 + 1)))), (18, .dead), (19, .dead), (20, .dead), (21, .dead), (22, .dead), (23, .dead), (24, .dead), (25, .dead), (81, .dead), (83, .dead), (127, .dead), (129, .dead), (135, .dead), (161, .dead), (185, .dead)], [(0, .p c4741)], 1, []⟩) (by kernel_rfl))) ⟨n, Nat.lt_succ_self n, _, _, h4857, rfl⟩
                · refine W_sound tab_ok mixed 8 _ _ _ ?_
                  simp -implicitDefEqProofs only [go_sem, ne_eq, not_false_eq_true, Nat.reduceBEq, Nat.reduceAdd, Nat.reduceSub, Nat.reduceMul, Nat.reduceLT, Nat.reduceLeDiff, Int.reduceLE, Int.reduceLT, Int.reduceToNat, Int.reduceBEq, Int.reduceBNe, Int.le_refl, Nat.le_refl, decide_true, decide_false, Int.cast_ofNat_Int, ↓reduceIte, h4571, g4573, h4576, g4579, g4580, g4581, g4592, g4593, g4594, g4595, g4596, h4599, h4602, h4604, h4608, h4611, h4614, h4616, h4618, g4620, h4623, h4626, h4629, h4631, h4633, h4635, h4636, h4639, h4641, h4644, h4646, h4665, h4667, h4742]
                  repeat with_reducible refine And.intro (by first | kernel_rfl | decide) ?_
                  obtain rfl := Option.some.inj h4857
                  exact cutQ _ ((Wk_le (.cons _ _ _ _ _ (.refl _) (.cons _ _ _ _ _ (.refl _) (.cons _ _ _ _ _ (.refl _) (.cons _ _ _ _ _ (.refl _) (.cons _ _ _ _ _ (.refl _) (.cons _ _ _ _ _ (.refl _) (.cons _ _ _ _ _ (.dead _) (.cons _ _ _ _ _ (.dead _) (.cons _ _ _ _ _ (.refl _) (.cons _ _ _ _ _ (.refl _) (.cons _ _ _ _ _ (.refl _) (.cons _ _ _ _ _ (.refl _) (.cons _ _ _ _ _ (.refl _) (.cons _ _ _ _ _ (.refl _) (.cons _ _ _ _ _ (.dead _) (.cons _ _ _ _ _ (.refl _) (.cons _ _ _ _ _ (.refl _) (.cons _ _ _ _ _ (.refl _) (.cons _ _ _ _ _ (.refl _) (.cons _ _ _ _ _ (.refl _) (.cons _ _ _ _ _ (.refl _) (.cons _ _ _ _ _ (.refl _) (.cons _ _ _ _ _ (.refl _) (.cons _ _ _ _ _ (.refl _) (.cons _ _ _ _ _ (.dead _) (.cons _ _ _ _ _ (.refl _) (.cons _ _ _ _ _ (.refl _) (.cons _ _ _ _ _ (.refl _) (.cons _ _ _ _ _ (.refl _) (.cons _ _ _ _ _ (.refl _) .nil)))))))))))))))))))))))))))))) (OLe.refl _)).trans (cmpS_ok (st' := ⟨[], [(0, .dead), (1, .dead), (2, .dead), (3, .dead), (4, .dead), (8, .dead), (9, .dead), (10, .dead), (11, .dead), (12, .dead), (13, .dead), (14, .dead), (15, .dead), (16, .ptr 0 0), (17, .dead), (18, .dead), (19, .dead), (20, .dead), (21, .dead), (22, .dead), (23, .dead), (24, .dead), (25, .dead), (81, .dead), (83, .dead), (127, .dead), (129, .dead), (135, .dead), (161, .dead), (185, .dead)], [(0, .p c4741)], 1, []⟩) (by kernel_rfl))) ⟨_, rfl, rfl⟩
            · rintro _ ⟨c4814, rfl, rfl⟩
              (try dsimp only at h4858)
              refine W_sound tab_ok mixed 5 _ _ _ ?_
              simp -implicitDefEqProofs only [go_sem, ne_eq, not_false_eq_true, Nat.reduceBEq, Nat.reduceAdd, Nat.reduceSub, Nat.reduceMul, Nat.reduceLT, Nat.reduceLeDiff, Int.reduceLE, Int.reduceLT, Int.reduceToNat, Int.reduceBEq, Int.reduceBNe, Int.le_refl, Nat.le_refl, decide_true, decide_false, Int.cast_ofNat_Int, ↓reduceIte, h4571, g4573, h4576, g4579, g4580, g4581, g4592, g4593, g4594, g4595, g4596, h4599, h4602, h4604, h4608, h4611, h4614, h4616, h4618, g4620, h4623, h4626, h4629, h4631, h4633, h4635, h4636, h4639, h4641, h4644, h4646, h4665, h4667]
              repeat with_reducible refine And.intro (by first | kernel_rfl | decide) ?_
              have hh := bnd'_some h4858; clear h4858; obtain ⟨o4859, h4860, h4861⟩ := hh
              refine Wp_cut (fun s => (.inr ()) = o4859 ∧ s = ⟨[], [(0, .dead), (1, .dead), (2, .dead), (3, .dead), (4, .dead), (8, .dead), (9, .dead), (10, .dead), (11, .dead), (12, .dead), (13, .dead), (14, .dead), (15, .dead), (16, .dead), (17, .dead), (18, .dead), (19, .dead), (20, .dead), (21, .dead), (22, .dead), (23, .dead), (24, .dead), (25, .dead), (81, .dead), (83, .dead), (127, .dead), (129, .dead), (135, .dead), (161, .dead), (185, .dead)], [], 0, []⟩) ?_ ?_
              · refine Wp_block ?_
                refine Wp_loopG (fun n s => ∃ x4815, m11_L1 N c4814 n x4815 = some o4859 ∧ s = ⟨[], [(0, .dead), (1, .dead), (2, .dead), (3, .dead), (4, .dead), (8, .dead), (9, .dead), (10, .dead), (11, .dead), (12, .dead), (13, .dead), (14, .dead), (15, .dead), (16, .ptr 0 0), (17, .dead), (18, .dead), (19, .dead), (20, .dead), (21, .dead), (22, .v (.int .i64 x4815)), (23, .dead), (24, .dead), (25, .dead), (81, .dead), (83, .dead), (127, .dead), (129, .dead), (135, .dead), (161, .dead), (185, .dead)], [(0, .p c4814)], 1, []⟩) N _ ((Wk_le (.cons _ _ _ _ _ (.refl _) (.cons _ _ _ _ _ (.refl _) (.cons _ _ _ _ _ (.refl _) (.cons _ _ _ _ _ (.refl _) (.cons _ _ _ _ _ (.refl _) (.cons _ _ _ _ _ (.refl _) (.cons _ _ _ _ _ (.refl _) (.cons _ _ _ _ _ (.refl _) (.cons _ _ _ _ _ (.refl _) (.cons _ _ _ _ _ (.refl _) (.cons _ _ _ _ _ (.refl _) (.cons _ _ _ _ _ (.refl _) (.cons _ _ _ _ _ (.refl _) (.cons _ _ _ _ _ (.refl _) (.cons _ _ _ _ _ (.refl _) (.cons _ _ _ _ _ (.refl _) (.cons _ _ _ _ _ (.refl _) (.cons _ _ _ _ _ (.refl _) (.cons _ _ _ _ _ (.refl _) (.cons _ _ _ _ _ (.refl _) (.cons _ _ _ _ _ (.refl _) (.cons _ _ _ _ _ (.refl _) (.cons _ _ _ _ _ (.refl _) (.cons _ _ _ _ _ (.refl _) (.cons _ _ _ _ _ (.refl _) (.cons _ _ _ _ _ (.refl _) (.cons _ _ _ _ _ (.refl _) (.cons _ _ _ _ _ (.refl _) (.cons _ _ _ _ _ (.refl _) (.cons _ _ _ _ _ (.refl _) .nil)))))))))))))))))))))))))))))) (OLe.refl _)).trans (cmpS_ok (st' := ⟨[], [(0, .dead), (1, .dead), (2, .dead), (3, .dead), (4, .dead), (8, .dead), (9, .dead), (10, .dead), (11, .dead), (12, .dead), (13, .dead), (14, .dead), (15, .dead), (16, .ptr 0 0), (17, .dead), (18, .dead), (19, .dead), (20, .dead), (21, .dead), (22, .v (.int .i64 1)), (23, .dead), (24, .dead), (25, .dead), (81, .dead), (83, .dead), (127, .dead), (129, .dead), (135, .dead), (161, .dead), (185, .dead)], [(0, .p c4814)], 1, []⟩) (by kernel_rfl))) ⟨_, h4860, rfl⟩ ?_
                clear h4860
                rintro n _ ⟨x4815, h4860, rfl⟩
                cases n with
                | zero => cases h4860
                | succ n =>
                  rw [m11_L1] at h4860
                  have hh := brn_some h4860; clear h4860; rcases hh with ⟨h4816, h4860⟩ | ⟨h4816, h4860⟩
                  · have hh := grd_some h4860; clear h4860; obtain ⟨⟨g4817, g4818⟩, h4860⟩ := hh
                    have hh := grd_some h4860; clear h4860; obtain ⟨g4819, h4860⟩ := hh
                    have hh := getA2_some h4860; clear h4860; obtain ⟨p4821, p4822, h4820, h4860⟩ := hh
                    injection h4820 with h4820
                    have hh := grd_some h4860; clear h4860; obtain ⟨⟨g4823, g4824⟩, h4860⟩ := hh
                    have hh := grd_some h4860; clear h4860; obtain ⟨g4825, h4860⟩ := hh
                    have hh := getA2_some h4860; clear h4860; obtain ⟨p4827, p4828, h4826, h4860⟩ := hh
                    injection h4826 with h4826
                    have hh := grd_some h4860; clear h4860; obtain ⟨⟨g4829, g4830⟩, h4860⟩ := hh
                    have hh := grd_some h4860; clear h4860; obtain ⟨g4831, h4860⟩ := hh
                    have hh := getA2_some h4860; clear h4860; obtain ⟨p4833, p4834, h4832, h4860⟩ := hh
                    injection h4832 with h4832
                    have hh := getI_some h4860; clear h4860; obtain ⟨x4836, h4835, h4860⟩ := hh
                    have hh := getI_some h4860; clear h4860; obtain ⟨x4838, h4837, h4860⟩ := hh
                    have hh := getI_some h4860; clear h4860; obtain ⟨x4840, h4839, h4860⟩ := hh
                    have hh := getI_some h4860; clear h4860; obtain ⟨x4842, h4841, h4860⟩ := hh
                    have hh := getI_some h4860; clear h4860; obtain ⟨x4844, h4843, h4860⟩ := hh
                    have hh := getI_some h4860; clear h4860; obtain ⟨x4846, h4845, h4860⟩ := hh
                    have hh := brn_some h4860; clear h4860; rcases hh with ⟨h4847, h4860⟩ | ⟨h4847, h4860⟩
                    · refine W_sound tab_ok mixed 54 _ _ _ ?_
                      simp -implicitDefEqProofs only [go_sem, ne_eq, not_false_eq_true, Nat.reduceBEq, Nat.reduceAdd, Nat.reduceSub, Nat.reduceMul, Nat.reduceLT, Nat.reduceLeDiff, Int.reduceLE, Int.reduceLT, Int.reduceToNat, Int.reduceBEq, Int.reduceBNe, Int.le_refl, Nat.le_refl, decide_true, decide_false, Int.cast_ofNat_Int, ↓reduceIte, h4571, g4573, h4576, g4579, g4580, g4581, g4592, g4593, g4594, g4595, g4596, h4599, h4602, h4604, h4608, h4611, h4614, h4616, h4618, g4620, h4623, h4626, h4629, h4631, h4633, h4635, h4636, h4639, h4641, h4644, h4646, h4665, h4667, h4816, g4817, g4818, g4819, h4820, g4823, g4824, g4825, h4826, g4829, g4830, g4831, h4832, h4835, h4837, h4839, h4841, h4843, h4845, h4847]
                      repeat with_reducible refine And.intro (by first | kernel_rfl | decide) ?_
                      exact cutQ _ ((Wk_le (.cons _ _ _ _ _ (.refl _) (.cons _ _ _ _ _ (.refl _) (.cons _ _ _ _ _ (.refl _) (.cons _ _ _ _ _ (.refl _) (.cons _ _ _ _ _ (.refl _) (.cons _ _ _ _ _ (.refl _) (.cons _ _ _ _ _ (.refl _) (.cons _ _ _ _ _ (.refl _) (.cons _ _ _ _ _ (.refl _) (.cons _ _ _ _ _ (.refl _) (.cons _ _ _ _ _ (.refl _) (.cons _ _ _ _ _ (.refl _) (.cons _ _ _ _ _ (.refl _) (.cons _ _ _ _ _ (.refl _) (.cons _ _ _ _ _ (.refl _) (.cons _ _ _ _ _ (.refl _) (.cons _ _ _ _ _ (.refl _) (.cons _ _ _ _ _ (.refl _) (.cons _ _ _ _ _ (.refl _) (.cons _ _ _ _ _ (.refl _) (.cons _ _ _ _ _ (.dead _) (.cons _ _ _ _ _ (.dead _) (.cons _ _ _ _ _ (.dead _) (.cons _ _ _ _ _ (.refl _) (.cons _ _ _ _ _ (.refl _) (.cons _ _ _ _ _ (.refl _) (.cons _ _ _ _ _ (.refl _) (.cons _ _ _ _ _ (.dead _) (.cons _ _ _ _ _ (.dead _) (.cons _ _ _ _ _ (.refl _) .nil)))))))))))))))))))))))))))))) (OLe.refl _)).trans (cmpS_ok (st' := ⟨[], [(0, .dead), (1, .dead), (2, .dead), (3, .dead), (4, .dead), (8, .dead), (9, .dead), (10, .dead), (11, .dead), (12, .dead), (13, .dead), (14, .dead), (15, .dead), (16, .ptr 0 0), (17, .dead), (18, .dead), (19, .dead), (20, .dead), (21, .dead), (22, .v (.int .i64 (IntKind.i64.wrap (x4815 + 1)))), (23, .dead), (24, .dead), (25, .dead), (81, .dead), (83, .dead), (127, .dead), (129, .dead), (135, .dead), (161, .dead), (185, .dead)], [(0, .p c4814)], 1, []⟩) (by kernel_rfl))) ⟨n, Nat.lt_succ_self n, _, h4860, rfl⟩
                    · have hh := brn_some h4860; clear h4860; rcases hh with ⟨h4848, h4860⟩ | ⟨h4848, h4860⟩
                      · refine W_sound tab_ok mixed 54 _ _ _ ?_
                        simp -implicitDefEqProofs only [go_sem, ne_eq, not_false_eq_true, Nat.reduceBEq, Nat.reduceAdd, Nat.reduceSub, Nat.reduceMul, Nat.reduceLT, Nat.reduceLeDiff, Int.reduceLE, Int.reduceLT, Int.reduceToNat, Int.reduceBEq, Int.reduceBNe, Int.le_refl, Nat.le_refl, decide_true, decide_false, Int.cast_ofNat_Int, ↓reduceIte, h4571, g4573, h4576, g4579, g4580, g4581, g4592, g4593, g4594, g4595, g4596, h4599, h4602, h4604, h4608, h4611, h4614, h4616, h4618, g4620, h4623, h4626, h4629, h4631, h4633, h4635, h4636, h4639, h4641, h4644, h4646, h4665, h4667, h4816, g4817, g4818, g4819, h4820, g4823, g4824, g4825, h4826, g4829, g4830, g4831, h4832, h4835, h4837, h4839, h4841, h4843, h4845, h4847, h4848]
                        repeat with_reducible refine And.intro (by first | kernel_rfl | decide) ?_
                        exact cutQ _ ((Wk_le (.cons _ _ _ _ _ (.refl _) (.cons _ _ _ _ _ (.refl _) (.cons _ _ _ _ _ (.refl _) (.cons _ _ _ _ _ (.refl _) (.cons _ _ _ _ _ (.refl _) (.cons _ _ _ _ _ (.refl _) (.cons _ _ _ _ _ (.refl _) (.cons _ _ _ _ _ (.refl _) (.cons _ _ _ _ _ (.refl _) (.cons _ _ _ _ _ (.refl _) (.cons _ _ _ _ _ (.refl _) (.cons _ _ _ _ _ (.refl _) (.cons _ _ _ _ _ (.refl _) (.cons _ _ _ _ _ (.refl _) (.cons _ _ _ _ _ (.refl _) (.cons _ _ _ _ _ (.refl _) (.cons _ _ _ _ _ (.refl _) (.cons _ _ _ _ _ (.refl _) (.cons _ _ _ _ _ (.refl _) (.cons _ _ _ _ _ (.refl _) (.cons _ _ _ _ _ (.dead _) (.cons _ _ _ _ _ (.dead _) (.cons _ _ _ _ _ (.dead _) (.cons _ _ _ _ _ (.refl _) (.cons _ _ _ _ _ (.refl _) (.cons _ _ _ _ _ (.refl _) (.cons _ _ _ _ _ (.refl _) (.cons _ _ _ _ _ (.dead _) (.cons _ _ _ _ _ (.dead _) (.cons _ _ _ _ _ (.refl _) .nil)))))))))))))))))))))))))))))) (OLe.refl _)).trans (cmpS_ok (st' := ⟨[], [(0, .dead), (1, .dead), (2, .dead), (3, .dead), (4, .dead), (8, .dead), (9, .dead), (10, .dead), (11, .dead), (12, .dead), (13, .dead), (14, .dead), (15, .dead), (16, .ptr 0 0), (17, .dead), (18, .dead), (19, .dead), (20, .dead), (21, .dead), (22, .v (.int .i64 (IntKind.i64.wrap (x4815 + 1)))), (23, .dead), (24, .dead), (25, .dead), (81, .dead), (83, .dead), (127, .dead), (129, .dead), (135, .dead), (161, .dead), (185, .dead)], [(0, .p c4814)], 1, []⟩) (by kernel_rfl))) ⟨n, Nat.lt_succ_self n, _, h4860, rfl⟩
                      · have hh := brn_some h4860; clear h4860; rcases hh with ⟨h4849, h4860⟩ | ⟨h4849, h4860⟩
                        · refine W_sound tab_ok mixed 54 _ _ _ ?_
                          simp -implicitDefEqProofs only [go_sem, ne_eq, not_false_eq_true, Nat.reduceBEq, Nat.reduceAdd, Nat.reduceSub, Nat.reduceMul, Nat.reduceLT, Nat.reduceLeDiff, Int.reduceLE, Int.reduceLT, Int.reduceToNat, Int.reduceBEq, Int.reduceBNe, Int.le_refl, Nat.le_refl, decide_true, decide_false, Int.cast_ofNat_Int, ↓reduceIte, h4571, g4573, h4576, g4579, g4580, g4581, g4592, g4593, g4594, g4595, g4596, h4599, h4602, h4604, h4608, h4611, h4614, h4616, h4618, g4620, h4623, h4626, h4629, h4631, h4633, h4635, h4636, h4639, h4641, h4644, h4646, h4665, h4667, h4816, g4817, g4818, g4819, h4820, g4823, g4824, g4825, h4826, g4829, g4830, g4831, h4832, h4835, h4837, h4839, h4841, h4843, h4845, h4847, h4848, h4849]
                          repeat with_reducible refine And.intro (by first | kernel_rfl | decide) ?_
                          exact cutQ _ ((Wk_le (.cons _ _ _ _ _ (.refl _) (.cons _ _ _ _ _ (.refl _) (.cons _ _ _ _ _ (.refl _) (.cons _ _ _ _ _ (.refl _) (.cons _ _ _ _ _ (.refl _) (.cons _ _ _ _ _ (.refl _) (.cons _ _ _ _ _ (.refl _) (.cons _ _ _ _ _ (.refl _) (.cons _ _ _ _ _ (.refl _) (.cons _ _ _ _ _ (.refl _) (.cons _ _ _ _ _ (.refl _) (.cons _ _ _ _ _ (.refl _) (.cons _ _ _ _ _ (.refl _) (.cons _ _ _ _ _ (.refl _) (.cons _ _ _ _ _ (.refl _) (.cons _ _ _ _ _ (.refl _) (.cons _ _ _ _ _ (.refl _) (.cons _ _ _ _ _ (.refl _) (.cons _ _ _ _ _ (.refl _) (.cons _ _ _ _ _ (.refl _) (.cons _ _ _ _ _ (.dead _) (.cons _ _ _ _ _ (.dead _) (.cons _ _ _ _ _ (.dead _) (.cons _ _ _ _ _ (.refl _) (.cons _ _ _ _ _ (.refl _) (.cons _ _ _ _ _ (.refl _) (.cons _ _ _ _ _ (.refl _) (.cons _ _ _ _ _ (.dead _) (.cons _ _ _ _ _ (.dead _) (.cons _ _ _ _ _ (.refl _) .nil)))))))))))))))))))))))))))))) (OLe.refl _)).trans (cmpS_ok (st' := ⟨[], [(0, .dead), (1, .dead), (2, .dead), (3, .dead), (4, .dead), (8, .dead), (9, .dead), (10, .dead), (11, .dead), (12, .dead), (13, .dead), (14, .dead), (15, .dead), (16, .ptr 0 0), (17, .dead), (18, .dead), (19, .dead), (20, .dead), (21, .dead), (22, .v (.int .i64 (IntKind.i64.wrap (x4815 + 1)))), (23, .dead), (24, .dead), (25, .dead), (81, .dead), (83, .dead), (127, .dead), (129, .dead), (135, .dead), (161, .dead), (185, .dead)], [(0, .p c4814)], 1, []⟩) (by kernel_rfl))) ⟨n, Nat.lt_succ_self n, _, h4860, rfl⟩
                        · have hh := brn_some h4860; clear h4860; rcases hh with ⟨h4850, h4860⟩ | ⟨h4850, h4860⟩
                          · refine W_sound tab_ok mixed 83 _ _ _ ?_
                            simp -implicitDefEqProofs only [go_sem, ne_eq, not_false_eq_true, Nat.reduceBEq, Nat.reduceAdd, Nat.reduceSub, Nat.reduceMul, Nat.reduceLT, Nat.reduceLeDiff, Int.reduceLE, Int.reduceLT, Int.reduceToNat, Int.reduceBEq, Int.reduceBNe, Int.le_refl, Nat.le_refl, decide_true, decide_false, Int.cast_ofNat_Int, ↓reduceIte, h4571, g4573, h4576, g4579, g4580, g4581, g4592, g4593, g4594, g4595, g4596, h4599, h4602, h4604, h4608, h4611, h4614, h4616, h4618, g4620, h4623, h4626, h4629, h4631, h4633, h4635, h4636, h4639, h4641, h4644, h4646, h4665, h4667, h4816, g4817, g4818, g4819, h4820, g4823, g4824, g4825, h4826, g4829, g4830, g4831, h4832, h4835, h4837, h4839, h4841, h4843, h4845, h4847, h4848, h4849, h4850]
                            repeat with_reducible refine And.intro (by first | kernel_rfl | decide) ?_
                            obtain rfl := Option.some.inj h4860
                            (try dsimp only at h4861)
                            obtain rfl := Option.some.inj h4861
                            exact finC [(8, .v (.bool false))] [(8, .v (.bool false))] (by simp [leE, lk_cons]) (.cons _ _ _ _ _ (.v _ _ (.refl _)) .nil) (by rfl) (by simp [leE, lk_cons]) (by decide) (by decide) rfl (by simp only [go_sem, ne_eq, not_false_eq_true, Nat.reduceBEq, Nat.reduceAdd, Nat.reduceSub, Nat.reduceMul, Nat.reduceLT, Nat.reduceLeDiff, Int.reduceLE, Int.reduceLT, Int.reduceToNat, Int.reduceBEq, Int.reduceBNe, Int.le_refl, Nat.le_refl, decide_true, decide_false, Int.cast_ofNat_Int, ↓reduceIte, resQ_tmp, resQ_cell, resQ_nil, retD_one, retD_two, retD_three, retD_none]; try simp [R.val, retD_one, retD_two, retD_three, retD_none])
                          · refine W_sound tab_ok mixed 84 _ _ _ ?_
                            simp -implicitDefEqProofs only [go_sem, ne_eq, not_false_eq_true, Nat.reduceBEq, Nat.reduceAdd, Nat.reduceSub, Nat.reduceMul, Nat.reduceLT, Nat.reduceLeDiff, Int.reduceLE, Int.reduceLT, Int.reduceToNat, Int.reduceBEq, Int.reduceBNe, Int.le_refl, Nat.le_refl, decide_true, decide_false, Int.cast_ofNat_Int, ↓reduceIte, h4571, g4573, h4576, g4579, g4580, g4581, g4592, g4593, g4594, g4595, g4596, h4599, h4602, h4604, h4608, h4611, h4614, h4616, h4618, g4620, h4623, h4626, h4629, h4631, h4633, h4635, h4636, h4639, h4641, h4644, h4646, h4665, h4667, h4816, g4817, g4818, g4819, h4820, g4823, g4824, g4825, h4826, g4829, g4830, g4831, h4832, h4835, h4837, h4839, h4841, h4843, h4845, h4847, h4848, h4849, h4850]
                            repeat with_reducible refine And.intro (by first | kernel_rfl | decide) ?_
                            exact cutQ _ ((Wk_le (.cons _ _ _ _ _ (.refl _) (.cons _ _ _ _ _ (.refl _) (.cons _ _ _ _ _ (.refl _) (.cons _ _ _ _ _ (.refl _) (.cons _ _ _ _ _ (.refl _) (.cons _ _ _ _ _ (.refl _) (.cons _ _ _ _ _ (.refl _) (.cons _ _ _ _ _ (.refl _) (.cons _ _ _ _ _ (.refl _) (.cons _ _ _ _ _ (.refl _) (.cons _ _ _ _ _ (.refl _) (.cons _ _ _ _ _ (.refl _) (.cons _ _ _ _ _ (.refl _) (.cons _ _ _ _ _ (.refl _) (.cons _ _ _ _ _ (.refl _) (.cons _ _ _ _ _ (.refl _) (.cons _ _ _ _ _ (.refl _) (.cons _ _ _ _ _ (.refl _) (.cons _ _ _ _ _ (.refl _) (.cons _ _ _ _ _ (.refl _) (.cons _ _ _ _ _ (.dead _) (.cons _ _ _ _ _ (.dead _) (.cons _ _ _ _ _ (.dead _) (.cons _ _ _ _ _ (.refl _) (.cons _ _ _ _ _ (.refl _) (.cons _ _ _ _ _ (.refl _) (.cons _ _ _ _ _ (.refl _) (.cons _ _ _ _ _ (.dead _) (.cons _ _ _ _ _ (.dead _) (.cons _ _ _ _ _ (.dead _) .nil)))))))))))))))))))))))))))))) (OLe.refl _)).trans (cmpS_ok (st' := ⟨[], [(0, .dead), (1, .dead), (2, .dead), (3, .dead), (4, .dead), (8, .dead), (9, .dead), (10, .dead), (11, .dead), (12, .dead), (13, .dead), (14, .dead), (15, .dead), (16, .ptr 0 0), (17, .dead), (18, .dead), (19, .dead), (20, .dead), (21, .dead), (22, .v (.int .i64 (IntKind.i64.wrap (x4815 + 1)))), (23, .dead), (24, .dead), (25, .dead), (81, .dead), (83, .dead), (127, .dead), (129, .dead), (135, .dead), (161, .dead), (185, .dead)], [(0, .p c4814)], 1, []⟩) (by kernel_rfl))) ⟨n, Nat.lt_succ_self n, _, h4860, rfl⟩
                  · refine W_sound tab_ok mixed 8 _ _ _ ?_
                    simp -implicitDefEqProofs only [go_sem, ne_eq, not_false_eq_true, Nat.reduceBEq, Nat.reduceAdd, Nat.reduceSub, Nat.reduceMul, Nat.reduceLT, Nat.reduceLeDiff, Int.reduceLE, Int.reduceLT, Int.reduceToNat, Int.reduceBEq, Int.reduceBNe, Int.le_refl, Nat.le_refl, decide_true, decide_false, Int.cast_ofNat_Int, ↓reduceIte, h4571, g4573, h4576, g4579, g4580, g4581, g4592, g4593, g4594, g4595, g4596, h4599, h4602, h4604, h4608, h4611, h4614, h4616, h4618, g4620, h4623, h4626, h4629, h4631, h4633, h4635, h4636, h4639, h4641, h4644, h4646, h4665, h4667, h4816]
                    repeat with_reducible refine And.intro (by first | kernel_rfl | decide) ?_
                    obtain rfl := Option.some.inj h4860
                    exact cutQ _ ((Wk_le (.cons _ _ _ _ _ (.refl _) (.cons _ _ _ _ _ (.refl _) (.cons _ _ _ _ _ (.refl _) (.cons _ _ _ _ _ (.refl _) (.cons _ _ _ _ _ (.refl _) (.cons _ _ _ _ _ (.refl _) (.cons _ _ _ _ _ (.refl _) (.cons _ _ _ _ _ (.refl _) (.cons _ _ _ _ _ (.refl _) (.cons _ _ _ _ _ (.refl _) (.cons _ _ _ _ _ (.refl _) (.cons _ _ _ _ _ (.refl _) (.cons _ _ _ _ _ (.refl _) (.cons _ _ _ _ _ (.dead _) (.cons _ _ _ _ _ (.refl _) (.cons _ _ _ _ _ (.refl _) (.cons _ _ _ _ _ (.refl _) (.cons _ _ _ _ _ (.refl _) (.cons _ _ _ _ _ (.refl _) (.cons _ _ _ _ _ (.dead _) (.cons _ _ _ _ _ (.refl _) (.cons _ _ _ _ _ (.refl _) (.cons _ _ _ _ _ (.refl _) (.cons _ _ _ _ _ (.refl _) (.cons _ _ _ _ _ (.refl _) (.cons _ _ _ _ _ (.refl _) (.cons _ _ _ _ _ (.refl _) (.cons _ _ _ _ _ (.dead _) (.cons _ _ _ _ _ (.refl _) (.cons _ _ _ _ _ (.refl _) .nil)))))))))))))))))))))))))))))) (OLe.refl _)).trans (cmpS_ok (st' := ⟨[], [(0, .dead), (1, .dead), (2, .dead), (3, .dead), (4, .dead), (8, .dead), (9, .dead), (10, .dead), (11, .dead), (12, .dead), (13, .dead), (14, .dead), (15, .dead), (16, .dead), (17, .dead), (18, .dead), (19, .dead), (20, .dead), (21, .dead), (22, .dead), (23, .dead), (24, .dead), (25, .dead), (81, .dead), (83, .dead), (127, .dead), (129, .dead), (135, .dead), (161, .dead), (185, .dead)], [], 0, []⟩) (by kernel_rfl))) ⟨rfl, rfl⟩
              · rintro _ ⟨rfl, rfl⟩
                (try dsimp only at h4861)
                have hh := bnd'_some h4861; clear h4861; obtain ⟨p4852, h4853, h4861⟩ := hh
                refine W_sound tab_ok mixed 2 _ _ _ ?_
                simp -implicitDefEqProofs only [go_sem, ne_eq, not_false_eq_true, Nat.reduceBEq, Nat.reduceAdd, Nat.reduceSub, Nat.reduceMul, Nat.reduceLT, Nat.reduceLeDiff, Int.reduceLE, Int.reduceLT, Int.reduceToNat, Int.reduceBEq, Int.reduceBNe, Int.le_refl, Nat.le_refl, decide_true, decide_false, Int.cast_ofNat_Int, ↓reduceIte, h4571, g4573, h4576, g4579, g4580, g4581, g4592, g4593, g4594, g4595, g4596, h4599, h4602, h4604, h4608, h4611, h4614, h4616, h4618, g4620, h4623, h4626, h4629, h4631, h4633, h4635, h4636, h4639, h4641, h4644, h4646, h4665, h4667]
                repeat with_reducible refine And.intro (by first | kernel_rfl | decide) ?_
                refine Wp_callP (c15 N  _ h4853) (by kernel_rfl) rfl rfl rfl rfl (by decide) ?_
                have hh := getB_some h4861; clear h4861; obtain ⟨b4855, h4854, h4861⟩ := hh
                refine W_sound tab_ok mixed 4 _ _ _ ?_
                simp -implicitDefEqProofs only [go_sem, ne_eq, not_false_eq_true, Nat.reduceBEq, Nat.reduceAdd, Nat.reduceSub, Nat.reduceMul, Nat.reduceLT, Nat.reduceLeDiff, Int.reduceLE, Int.reduceLT, Int.reduceToNat, Int.reduceBEq, Int.reduceBNe, Int.le_refl, Nat.le_refl, decide_true, decide_false, Int.cast_ofNat_Int, ↓reduceIte, h4571, g4573, h4576, g4579, g4580, g4581, g4592, g4593, g4594, g4595, g4596, h4599, h4602, h4604, h4608, h4611, h4614, h4616, h4618, g4620, h4623, h4626, h4629, h4631, h4633, h4635, h4636, h4639, h4641, h4644, h4646, h4665, h4667, h4854]
                repeat with_reducible refine And.intro (by first | kernel_rfl | decide) ?_
                obtain rfl := Option.some.inj h4861
                exact finC [(8, .v (.bool b4855))] [(8, .v (.bool b4855))] (by simp [leE, lk_cons]) (.cons _ _ _ _ _ (.v _ _ (.refl _)) .nil) (by rfl) (by simp [leE, lk_cons]) (by decide) (by decide) rfl (by simp only [go_sem, ne_eq, not_false_eq_true, Nat.reduceBEq, Nat.reduceAdd, Nat.reduceSub, Nat.reduceMul, Nat.reduceLT, Nat.reduceLeDiff, Int.reduceLE, Int.reduceLT, Int.reduceToNat, Int.reduceBEq, Int.reduceBNe, Int.le_refl, Nat.le_refl, decide_true, decide_false, Int.cast_ofNat_Int, ↓reduceIte, resQ_tmp, resQ_cell, resQ_nil, retD_one, retD_two, retD_three, retD_none]; try simp [R.val, retD_one, retD_two, retD_three, retD_none])
        · refine W_sound tab_ok mixed 16 _ _ _ ?_
          simp -implicitDefEqProofs only [go_sem, ne_eq, not_false_eq_true, Nat.reduceBEq, Nat.reduceAdd, Nat.reduceSub, Nat.reduceMul, Nat.reduceLT, Nat.reduceLeDiff, Int.reduceLE, Int.reduceLT, Int.reduceToNat, Int.reduceBEq, Int.reduceBNe, Int.le_refl, Nat.le_refl, decide_true, decide_false, Int.cast_ofNat_Int, ↓reduceIte, h4571, g4573, h4576, g4579, g4580, g4581, g4592, g4593, g4594, g4595, g4596, h4599, h4602, h4604, h4608, h4611, h4614, h4616, h4618, g4620, h4623, h4626, h4629, h4631, h4633, h4635, h4636, h4639, h4641, h4644, h4646]
          repeat with_reducible refine And.intro (by first | kernel_rfl | decide) ?_
          obtain rfl := Option.some.inj h
          exact finC [(8, .v (.bool false))] [(8, .v (.bool false))] (by simp [leE, lk_cons]) (.cons _ _ _ _ _ (.v _ _ (.refl _)) .nil) (by rfl) (by simp [leE, lk_cons]) (by decide) (by decide) rfl (by simp only [go_sem, ne_eq, not_false_eq_true, Nat.reduceBEq, Nat.reduceAdd, Nat.reduceSub, Nat.reduceMul, Nat.reduceLT, Nat.reduceLeDiff, Int.reduceLE, Int.reduceLT, Int.reduceToNat, Int.reduceBEq, Int.reduceBNe, Int.le_refl, Nat.le_refl, decide_true, decide_false, Int.cast_ofNat_Int, ↓reduceIte, resQ_tmp, resQ_cell, resQ_nil, retD_one, retD_two, retD_three, retD_none]; try simp [R.val, retD_one, retD_two, retD_three, retD_none])
      · refine W_sound tab_ok mixed 21 _ _ _ ?_
        simp -implicitDefEqProofs only [go_sem, ne_eq, not_false_eq_true, Nat.reduceBEq, Nat.reduceAdd, Nat.reduceSub, Nat.reduceMul, Nat.reduceLT, Nat.reduceLeDiff, Int.reduceLE, Int.reduceLT, Int.reduceToNat, Int.reduceBEq, Int.reduceBNe, Int.le_refl, Nat.le_refl, decide_true, decide_false, Int.cast_ofNat_Int, ↓reduceIte, h4571, g4573, h4576, g4579, g4580, g4581, g4592, g4593, g4594, g4595, g4596, h4599, h4602, h4604, h4608, h4611, h4614, h4616, h4618, g4620, h4623, h4626, h4629, h4631, h4633, h4635, h4636, h4639, h4641]
        repeat with_reducible refine And.intro (by first | kernel_rfl | decide) ?_
        obtain rfl := Option.some.inj h
        exact finC [(8, .v (.bool false))] [(8, .v (.bool false))] (by simp [leE, lk_cons]) (.cons _ _ _ _ _ (.v _ _ (.refl _)) .nil) (by rfl) (by simp [leE, lk_cons]) (by decide) (by decide) rfl (by simp only [go_sem, ne_eq, not_false_eq_true, Nat.reduceBEq, Nat.reduceAdd, Nat.reduceSub, Nat.reduceMul, Nat.reduceLT, Nat.reduceLeDiff, Int.reduceLE, Int.reduceLT, Int.reduceToNat, Int.reduceBEq, Int.reduceBNe, Int.le_refl, Nat.le_refl, decide_true, decide_false, Int.cast_ofNat_Int, ↓reduceIte, resQ_tmp, resQ_cell, resQ_nil, retD_one, retD_two, retD_three, retD_none]; try simp [R.val, retD_one, retD_two, retD_three, retD_none])
end Go.Proofs.Ytgnphlpoofaojaa

namespace Go.Proofs.Ytgnphlpoofaojaa
open Go.V

def chC (L : List (Int × Int)) : List (Int × Int) := (hullF L).map (ctL L)
theorem fair_some {L : List (Int × Int)} {r : Int} : fairF r none (chC L) ≠ none ↔ (∃ d ∈ L, d.2 ≤ r) ∧ (∃ d ∈ L, r ≤ d.2) := by
  have hch := hull_chain L
  obtain ⟨s1, s2, s3, s4⟩ := fairF_sp r (chC L) hch.asc (chC L) [] none rfl (.inl ⟨rfl, rfl⟩)
  constructor
  · intro hn
    constructor
    · apply Decidable.byContradiction
      intro hno
      refine hn (s4 rfl fun c hc => ?_)
      rcases Int.lt_or_le r c.2 with h | h
      · exact h
      · exact absurd ⟨c, hch.sub c hc, h⟩ hno
    · apply Decidable.byContradiction
      intro hno
      refine hn (s3 fun c hc => ?_)
      rcases Int.lt_or_le c.2 r with h | h
      · exact h
      · exact absurd ⟨c, hch.sub c hc, h⟩ hno
  · rintro ⟨⟨d, hd, hdr⟩, ⟨d', hd', hdr'⟩⟩
    obtain ⟨c, hc, hcd⟩ := (rate_ends hch hd).1
    obtain ⟨c', hc', hcd'⟩ := (rate_ends hch hd').2
    exact s2 (.inr ⟨c, hc, by omega⟩) ⟨c', hc', by omega⟩
theorem fair_V {L : List (Int × Int)} {r : Int} {v : Int × Int} (h : fairF r none (chC L) = some v) : FairV r (chC L) v := by
  have hch := hull_chain L
  exact (fairF_sp r (chC L) hch.asc (chC L) [] none rfl (.inl ⟨rfl, rfl⟩)).1 v h
theorem fair_bd {L : List (Int × Int)} (hb : ∀ c ∈ L, bdC c) {r : Int} {v : Int × Int} (h : FairV r (chC L) v) : -16000 ≤ v.1 ∧ v.1 ≤ 16000 ∧ 1 ≤ v.2 ∧ v.2 ≤ 40 := by
  have hch := hull_chain L
  cases h with
  | «at» b hbm hr =>
    have := hb b (hch.sub b hbm)
    unfold bdC at this
    simp only; omega
  | mid u a b w e h1 h2 =>
    have hac : a ∈ chC L := by rw [e]; simp
    have hbc : b ∈ chC L := by rw [e]; simp
    have ba := hb a (hch.sub a hac)
    have bb := hb b (hch.sub b hbc)
    unfold bdC at ba bb
    have m1 := mulQ (x := a.1) (y := b.2 - r) (A := 200) (B := 40) (by omega) (by omega)
    have m2 := mulQ (x := b.1) (y := r - a.2) (A := 200) (B := 40) (by omega) (by omega)
    obtain ⟨n, d, el, ⟨q1, _, _⟩, _⟩ := low_sp (a.1 * (b.2 - r) + b.1 * (r - a.2)) (b.2 - a.2) (by omega)
    obtain ⟨b1, b2⟩ := low_bd (by omega) el
    rw [el]
    simp only
    omega
theorem fair_x (N : Nat) (hN : 8000 ≤ N) (L : List (Int × Int)) (hL : L.length ≤ 40) (h0 : Chk L = 0) (r : Int) (hr : -10 ≤ r ∧ r ≤ 10) :
    m32 N (.lst false L.length (cellsC L)) r = some (.tup [frP (match fairF r none (chC L) with | some v => v | none => (0, 0)), .int .i64 (match fairF r none (chC L) with | some _ => 0 | none => 12)]) := by
  obtain ⟨l1, l8, hb⟩ := Chk_len8 h0
  have hlh := hull_lenle L
  obtain ⟨_, _, a3⟩ := hull_facts L
  obtain ⟨o, o1, o2⟩ := fair_L N hN r hr L hb (by omega) (hullF L) a3 (by omega) (hullF L) [] N none rfl (by omega) (.inl ⟨rfl, rfl⟩)
  have o1' : m32_L0 N r L.length (cellsC L) (hullF L).length (nL (hullF L)) N 0 = some o := o1
  simp only [m32, getL, check_ok N L hL (by omega), bnd', getI, if_true, within_ok N r 10 (by decide), getB]
  rw [brn_f (by simp [h0]), brn_t (by simpa using hr), hull_ok N L hb l1 (by omega) (by omega)]
  simp only []
  rw [o1']
  unfold chC
  cases hF : fairF r none ((hullF L).map (ctL L)) with
  | some w =>
    rw [hF] at o2
    simp only at o2
    rw [o2]
  | none =>
    rw [hF] at o2
    simp only at o2
    rcases o2 with rfl | rfl <;> rfl
/-- with one more none becomes smaller -/
theorem fair_mono {L L' : List (Int × Int)} (hne : L ≠ []) (hsub : ∀ c ∈ L, c ∈ L') (hb : ∀ c ∈ L', bdC c) {r : Int} {v w : Int × Int} (hv : FairV r (chC L) v) (hw : FairV r (chC L') w) : v.1 * w.2 ≤ w.1 * v.2 := by
  obtain ⟨f1, f2, _⟩ := fair_val (hull_chain L) hv
  obtain ⟨g1, _, p, hp, g3⟩ := fair_val (hull_chain L') hw
  have hp2 := (prices_red (eqs_srt L').2 p hp).1
  have hpb := prices_bd (eqs_bd hb) p hp
  have hne' : L' ≠ [] := by
    intro h
    cases L with
    | nil => exact hne rfl
    | cons a l => have := hsub a (by simp); rw [h] at this; simp at this
  have hM' := mxL_is hpb hne' hb
  have hM := mxL_is hpb hne (fun c hc => hb c (hsub c hc))
  have e1 := g3 _ hM'
  have e2 := f2 p hp2 _ hM
  have hle : mxL p L ≤ mxL p L' := by
    obtain ⟨c, hc, e⟩ := hM.1
    rw [← e]; exact hM'.2 c (hsub c hc)
  have hv2 := f1.1
  have hw2 := g1.1
  generalize mxL p L = m at *
  generalize mxL p L' = m' at *
  have k1 : v.1 * p.2 * w.2 ≤ (m - r * p.1) * v.2 * w.2 := Int.mul_le_mul_of_nonneg_right e2 (by omega)
  have k2 : 0 ≤ (m' - m) * (v.2 * w.2) := Int.mul_nonneg (by omega) (Int.mul_nonneg (by omega) (by omega))
  have k3 : (w.1 * v.2 - v.1 * w.2) * p.2 = ((m - r * p.1) * v.2 * w.2 - v.1 * p.2 * w.2) + (m' - m) * (v.2 * w.2) := by
    clear k1 k2 e2; grind
  rcases Int.lt_or_le (w.1 * v.2 - v.1 * w.2) 0 with hh | hh
  · have := Int.mul_pos (a := -(w.1 * v.2 - v.1 * w.2)) (b := p.2) (by omega) hp2
    have e5 : -(w.1 * v.2 - v.1 * w.2) * p.2 = -((w.1 * v.2 - v.1 * w.2) * p.2) := by grind
    omega
  · omega
/-- halfway between two rates -/
theorem fair_half {L : List (Int × Int)} (hne : L ≠ []) (hb : ∀ c ∈ L, bdC c) {r : Int} {x y z : Int × Int} (hx : FairV (r - 1) (chC L) x) (hy : FairV r (chC L) y) (hz : FairV (r + 1) (chC L) z) : (x.1 * z.2 + z.1 * x.2) * y.2 ≤ 2 * y.1 * x.2 * z.2 := by
  obtain ⟨f1, f2, _⟩ := fair_val (hull_chain L) hx
  obtain ⟨g1, _, p, hp, g3⟩ := fair_val (hull_chain L) hy
  obtain ⟨h1, h2, _⟩ := fair_val (hull_chain L) hz
  have hp2 := (prices_red (eqs_srt L).2 p hp).1
  have hpb := prices_bd (eqs_bd hb) p hp
  have hM := mxL_is hpb hne hb
  have e1 := g3 _ hM
  have e2 := f2 p hp2 _ hM
  have e3 := h2 p hp2 _ hM
  have a1 := f1.1
  have a2 := g1.1
  have a3 := h1.1
  generalize mxL p L = m at *
  have k1 : 0 ≤ ((m - (r - 1) * p.1) * x.2 - x.1 * p.2) * (z.2 * y.2) := Int.mul_nonneg (by omega) (Int.mul_nonneg (by omega) (by omega))
  have k2 : 0 ≤ ((m - (r + 1) * p.1) * z.2 - z.1 * p.2) * (x.2 * y.2) := Int.mul_nonneg (by omega) (Int.mul_nonneg (by omega) (by omega))
  have k3 : (2 * y.1 * x.2 * z.2 - (x.1 * z.2 + z.1 * x.2) * y.2) * p.2 = ((m - (r - 1) * p.1) * x.2 - x.1 * p.2) * (z.2 * y.2) + ((m - (r + 1) * p.1) * z.2 - z.1 * p.2) * (x.2 * y.2) := by
    clear k1 k2 e2 e3; grind
  rcases Int.lt_or_le (2 * y.1 * x.2 * z.2 - (x.1 * z.2 + z.1 * x.2) * y.2) 0 with hh | hh
  · have := Int.mul_pos (a := -(2 * y.1 * x.2 * z.2 - (x.1 * z.2 + z.1 * x.2) * y.2)) (b := p.2) (by omega) hp2
    have e5 : -(2 * y.1 * x.2 * z.2 - (x.1 * z.2 + z.1 * x.2) * y.2) * p.2 = -((2 * y.1 * x.2 * z.2 - (x.1 * z.2 + z.1 * x.2) * y.2) * p.2) := by grind
    omega
  · omega
def fvF (L : List (Int × Int)) (i : Nat) : Int × Int := match fairF ((i : Int) - 6) none (chC L) with | some v => v | none => (0, 0)
theorem least_ok (N : Nat) {a b : Int × Int} (ha : -200000 ≤ a.1 ∧ a.1 ≤ 200000 ∧ 1 ≤ a.2 ∧ a.2 ≤ 1000) (hb : -200000 ≤ b.1 ∧ b.1 ≤ 200000 ∧ 1 ≤ b.2 ∧ b.2 ≤ 1000) : m49 N (.agg [.int .i64 a.1, .int .i64 a.2]) (.agg [.int .i64 b.1, .int .i64 b.2]) = some (.int .i64 (a.1 * b.2 - b.1 * a.2)) := by
  have h1 := mulQ (x := a.1) (y := b.2) (A := 200000) (B := 1000) (by omega) (by omega)
  have h2 := mulQ (x := b.1) (y := a.2) (A := 200000) (B := 1000) (by omega) (by omega)
  simp only [m49, getA2, getI, if_true]
  rw [wrap64 (n := a.1 * b.2) (by omega) (by omega), wrap64 (n := b.1 * a.2) (by omega) (by omega), wrap64 (by omega) (by omega)]
theorem fl_L (N : Nat) (hN : 8000 ≤ N) (L M : List (Int × Int)) (h0 : Chk L = 0) (h1 : Chk M = 0) (hsub : ∀ c ∈ L, c ∈ M) (x1 x2 : Int) (n1 : Nat) (c1 : List PV) (e1 : Int.toNat (minI ((n1 : Nat) : Int) 7) = L.length) (e2 : List.take (L.length * 2) c1 = cellsC L) (n2 : Nat) (c2 : List PV)
    (e3 : n2 + 1 = M.length) (e4 : c2 ++ [.int .i64 (Int.tmod (IntKind.i64.wrap x1) 31), .int .i64 (Int.tmod (IntKind.i64.wrap x2) 7)] = cellsC M) : ∀ (k i fuel : Nat), 13 - i = k → i ≤ 13 → k < fuel →
    m11_L0 N x1 x2 n1 c1 n2 c2 fuel ((i : Int) - 6) (cellsC ((List.range i).map (fvF L) ++ List.replicate (13 - i) (0, 0))) = some (.inr (cellsC ((List.range 13).map (fvF L))))
  | k, i, 0, _, _, h => by omega
  | k, i, f + 1, hk, hi, hf => by
    obtain ⟨l1, l8, hb⟩ := Chk_len8 h0
    obtain ⟨k1, k8, kb⟩ := Chk_len8 h1
    have hne : L ≠ [] := by intro h; rw [h] at l1; simp at l1
    rw [m11_L0]
    by_cases hd : i < 13
    · have ih := fl_L N hN L M h0 h1 hsub x1 x2 n1 c1 e1 e2 n2 c2 e3 e4 (k - 1) (i + 1) f (by omega) (by omega) (by omega)
      have hw : IntKind.i64.wrap ((i : Int) - 6 + 1) = ((i + 1 : Nat) : Int) - 6 := by rw [wrap64 (by omega) (by omega)]; omega
      have hw6 : IntKind.i64.wrap ((i : Int) - 6 + 6) = ((i : Nat) : Int) := by rw [wrap64 (by omega) (by omega)]; omega
      have ti : (Int.toNat ((i : Nat) : Int)) = i := by omega
      have hlen : (cellsC ((List.range i).map (fvF L) ++ List.replicate (13 - i) (0, 0))).length = 26 := by rw [cellsC_len]; simp; omega
      have hs : (cellsC ((List.range i).map (fvF L) ++ List.replicate (13 - i) (0, 0))) = cellsC ((List.range i).map (fvF L) ++ (0, 0) :: List.replicate (13 - (i + 1)) (0, 0)) := by
        rw [show 13 - i = (13 - (i + 1)) + 1 by omega, List.replicate_succ]
      have hset : ∀ v : Int × Int, ((cellsC ((List.range i).map (fvF L) ++ List.replicate (13 - i) (0, 0))).set (i * 2) (.int .i64 v.1)).set (i * 2 + 1) (.int .i64 v.2) = cellsC ((List.range i).map (fvF L) ++ v :: List.replicate (13 - (i + 1)) (0, 0)) := fun v => by
        rw [hs]
        have := cellsC_set ((List.range i).map (fvF L)) (0, 0) v (List.replicate (13 - (i + 1)) (0, 0))
        rw [List.length_map, List.length_range] at this
        exact this
      have enext : (List.range (i + 1)).map (fvF L) ++ List.replicate (13 - (i + 1)) (0, 0) = (List.range i).map (fvF L) ++ fvF L i :: List.replicate (13 - (i + 1)) (0, 0) := by
        rw [List.range_succ, List.map_append]; simp
      have fx := fair_x N hN L (by omega) h0 ((i : Int) - 6) (by omega)
      have fy := fair_x N hN M (by omega) h1 ((i : Int) - 6) (by omega)
      rw [brn_t (by simp; omega), e1, e2, fx]
      simp only [bnd', getT2, frP, getA2, getI, if_true]
      rw [e3, e4, fy]
      simp only [frP, if_true]
      cases hF : fairF ((i : Int) - 6) none (chC L) with
      | none =>
        simp only
        have ev : fvF L i = (0, 0) := by unfold fvF; rw [hF]
        rw [brn_t (by simp), brn_f (by simp), brn_f (by simp), hw]
        rw [enext, ev] at ih
        rw [hs]
        exact ih
      | some v =>
        have ev : fvF L i = v := by unfold fvF; rw [hF]
        have hV := fair_V hF
        have hsome : fairF ((i : Int) - 6) none (chC M) ≠ none := by
          rw [fair_some]
          obtain ⟨⟨d, hd1, hd2⟩, ⟨d', hd1', hd2'⟩⟩ := fair_some.1 (show fairF ((i : Int) - 6) none (chC L) ≠ none by rw [hF]; simp)
          exact ⟨⟨d, hsub d hd1, hd2⟩, ⟨d', hsub d' hd1', hd2'⟩⟩
        cases hG : fairF ((i : Int) - 6) none (chC M) with
        | none => exact absurd hG hsome
        | some w =>
          have hW := fair_V hG
          have bv := fair_bd hb hV
          have bw := fair_bd kb hW
          have rv := (fair_val (hull_chain L) hV).1
          have rw' := (fair_val (hull_chain M) hW).1
          have pv := proper_ok N (by omega) v rv (by omega) (by omega)
          have pw := proper_ok N (by omega) w rw' (by omega) (by omega)
          simp only [frP] at pv pw
          have hmono := fair_mono hne hsub kb hV hW
          simp only
          rw [brn_f (by simp), brn_t (by simp), brn_f (by simp), pv]
          simp only [getB]
          rw [brn_t rfl, pw]
          simp only []
          rw [brn_t rfl, least_ok N (by omega) (by omega)]
          simp only [if_true]
          rw [brn_f (by simp; omega), hw6, ti, grd_t ⟨by omega, by omega⟩, grd_t (by omega), hset v, hw]
          rw [enext, ev] at ih
          exact ih
    · have : i = 13 := by omega
      subst this
      rw [brn_f (by simp)]
      simp
theorem half_L (N : Nat) (L : List (Int × Int)) (hne : L ≠ []) (hb : ∀ c ∈ L, bdC c) : ∀ (k i fuel : Nat), 12 - i = k → 1 ≤ i → i ≤ 12 → k < fuel →
    m11_L1 N (cellsC ((List.range 13).map (fvF L))) fuel (i : Int) = some (.inr ())
  | k, i, 0, _, _, _, h => by omega
  | k, i, f + 1, hk, h1, hi, hf => by
    rw [m11_L1]
    by_cases hd : i < 12
    · have ih := half_L N L hne hb (k - 1) (i + 1) f (by omega) (by omega) (by omega) (by omega)
      have hw : IntKind.i64.wrap ((i : Int) + 1) = ((i + 1 : Nat) : Int) := by rw [wrap64 (by omega) (by omega)]; omega
      have hw0 : IntKind.i64.wrap ((i : Int) - 1) = ((i - 1 : Nat) : Int) := by rw [wrap64 (by omega) (by omega)]; omega
      have t0 : (Int.toNat ((i - 1 : Nat) : Int)) = i - 1 := by omega
      have t1 : (Int.toNat (i : Int)) = i := by omega
      have t2 : (Int.toNat ((i + 1 : Nat) : Int)) = i + 1 := by omega
      have hlen : (cellsC ((List.range 13).map (fvF L))).length = 26 := by rw [cellsC_len]; simp
      have g : ∀ j, j < 13 → ((cellsC ((List.range 13).map (fvF L))).drop (j * 2)).take 2 = [.int .i64 (fvF L j).1, .int .i64 (fvF L j).2] := fun j hj => by
        refine cellsC_at ?_
        rw [List.getElem?_map, List.getElem?_range hj]; rfl
      rw [brn_t (by simp; omega), hw0, hw, t0, t1, t2, grd_t ⟨by omega, by omega⟩, grd_t (by omega), g (i - 1) (by omega)]
      simp only [getA2]
      rw [grd_t ⟨by omega, by omega⟩, grd_t (by omega), g i (by omega)]
      simp only []
      rw [grd_t ⟨by omega, by omega⟩, grd_t (by omega), g (i + 1) (by omega)]
      simp only [getI, if_true]
      by_cases z1 : (fvF L (i - 1)).2 = 0
      · rw [brn_t (by simpa using z1), ih]
      · rw [brn_f (by simpa using z1)]
        by_cases z2 : (fvF L i).2 = 0
        · rw [brn_t (by simpa using z2), ih]
        · rw [brn_f (by simpa using z2)]
          by_cases z3 : (fvF L (i + 1)).2 = 0
          · rw [brn_t (by simpa using z3), ih]
          · rw [brn_f (by simpa using z3)]
            have key : ∀ j, (fvF L j).2 ≠ 0 → FairV ((j : Int) - 6) (chC L) (fvF L j) := fun j hj => by
              unfold fvF at hj ⊢
              cases hF : fairF ((j : Int) - 6) none (chC L) with
              | none => rw [hF] at hj; simp at hj
              | some v => exact fair_V hF
            have vx := key _ z1
            have vy := key _ z2
            have vz := key _ z3
            have bx := fair_bd hb vx
            have by' := fair_bd hb vy
            have bz := fair_bd hb vz
            rw [show (((i - 1 : Nat) : Int)) - 6 = (i : Int) - 6 - 1 by omega] at vx
            rw [show (((i + 1 : Nat) : Int)) - 6 = (i : Int) - 6 + 1 by omega] at vz
            have hh := fair_half hne hb vx vy vz
            generalize fvF L (i - 1) = x at *
            generalize fvF L i = y at *
            generalize fvF L (i + 1) = z at *
            have m1 := mulQ (x := 2 * y.1) (y := x.2) (A := 32000) (B := 40) (by omega) (by omega)
            have m2 := mulQ (x := 2 * y.1 * x.2) (y := z.2) (A := 1280000) (B := 40) (by omega) (by omega)
            have m3 := mulQ (x := x.1) (y := z.2) (A := 16000) (B := 40) (by omega) (by omega)
            have m4 := mulQ (x := z.1) (y := x.2) (A := 16000) (B := 40) (by omega) (by omega)
            have m5 := mulQ (x := x.1 * z.2 + z.1 * x.2) (y := y.2) (A := 1280000) (B := 40) (by omega) (by omega)
            rw [wrap64 (n := 2 * y.1) (by omega) (by omega), wrap64 (n := 2 * y.1 * x.2) (by omega) (by omega), wrap64 (n := 2 * y.1 * x.2 * z.2) (by omega) (by omega), wrap64 (n := x.1 * z.2) (by omega) (by omega), wrap64 (n := z.1 * x.2) (by omega) (by omega),
              wrap64 (n := x.1 * z.2 + z.1 * x.2) (by omega) (by omega), wrap64 (n := (x.1 * z.2 + z.1 * x.2) * y.2) (by omega) (by omega), brn_f (by simp; omega), ih]
    · rw [brn_f (by simp; omega)]
theorem law_fair (many fx rt nm : Int) (Z : List (Int × Int)) (hZ : byteZ Z) (m0 : 0 ≤ many) (m1 : many ≤ 255) (f0 : -128 ≤ fx) (f1 : fx ≤ 127) (r0 : -128 ≤ rt) (r1 : rt ≤ 127) (n0 : -32768 ≤ nm) (n1 : nm ≤ 32767) :
    m11 8000 (.agg (deskC many Z)) fx rt nm = some (.bool true) := by
  have hlen : (deskC many Z).length = 17 := deskC_len hZ.1
  obtain ⟨l1, l2, l3⟩ := mkL_len (mf := 30) (mr := 6) hZ many m0
  have hcc : ∀ q ∈ mkL 30 6 (howMany many) Z, -30 ≤ q.1 ∧ q.1 ≤ 30 ∧ -6 ≤ q.2 ∧ q.2 ≤ 6 := fun q hq => mkL_mem (by decide) (by decide) hq
  have hmk := made_ok 8000 (by decide) 30 6 many Z hZ m0 m1 (by decide) (by decide) (by decide) (by decide)
  have wf : IntKind.i64.wrap fx = fx := wrap64 (by omega) (by omega)
  have wr : IntKind.i64.wrap rt = rt := wrap64 (by omega) (by omega)
  have wn : IntKind.i64.wrap nm = nm := wrap64 (by omega) (by omega)
  have hdf := tmod_bd fx 30 (by decide)
  have hdr := tmod_bd rt 6 (by decide)
  have hnn := tmod_bd nm 99 (by decide)
  rw [show (30 : Int) + 1 = 31 by decide] at hdf
  rw [show (6 : Int) + 1 = 7 by decide] at hdr
  rw [show (99 : Int) + 1 = 100 by decide] at hnn
  have hm : howMany many = (mkL 30 6 (howMany many) Z).length := l1.symm
  have hA1 : 1 ≤ (mkL 30 6 (howMany many) Z).length := by omega
  have hA8 : (mkL 30 6 (howMany many) Z).length ≤ 8 := by omega
  generalize hA : mkL 30 6 (howMany many) Z = A at *
  -- the first seven, and one more
  obtain ⟨L, hLd⟩ : ∃ L, L = A.take 7 := ⟨_, rfl⟩
  have hLl : L.length = min 7 A.length := by rw [hLd, List.length_take]
  have tmin : Int.toNat (minI ((A.length : Nat) : Int) 7) = L.length := by unfold minI; split <;> omega
  have hcl : (cellsC A).length = A.length * 2 := cellsC_len A
  have etake : List.take (L.length * 2) (cellsC A) = cellsC L := by
    rw [cellsC_takeN, hLl, hLd]
    rcases Nat.lt_or_ge 7 A.length with h | h
    · rw [Nat.min_eq_left (by omega)]
    · rw [Nat.min_eq_right h, List.take_length, List.take_of_length_le h]
  have hsubA : ∀ c ∈ L, c ∈ A := fun c hc => by rw [hLd] at hc; exact List.mem_of_mem_take hc
  have hne : L ≠ [] := by intro h; rw [h] at hLl; simp at hLl; omega
  have hok : ∀ q ∈ L, okC q = true := fun q hq => by have := hcc q (hsubA q hq); simp [okC]; omega
  generalize hD : fx.tmod 31 = df at *
  generalize hR : rt.tmod 7 = dr at *
  obtain ⟨M, hMd⟩ : ∃ M, M = L ++ [(df, dr)] := ⟨_, rfl⟩
  have hsub : ∀ c ∈ L, c ∈ M := fun c hc => by rw [hMd]; simp [hc]
  have hokM : ∀ q ∈ M, okC q = true := fun q hq => by
    rw [hMd] at hq
    rcases List.mem_append.1 hq with hq | hq
    · exact hok q hq
    · simp at hq; subst hq; simp [okC]; omega
  have hMl : M.length = L.length + 1 := by rw [hMd]; simp
  have hneM : M ≠ [] := by intro h; rw [h] at hMl; simp at hMl
  have h0 : Chk L = 0 := Chk_of (by omega) (by omega) hok
  have h1 : Chk M = 0 := Chk_of (by omega) (by omega) hokM
  have ecM : cellsC L ++ [.int .i64 df, .int .i64 dr] = cellsC M := by rw [hMd, cellsC_app]; rfl
  have hclL : (cellsC L).length = L.length * 2 := cellsC_len L
  obtain ⟨_, _, hb⟩ := Chk_len8 h0
  generalize hQ : nm.tmod 100 = n at *
  have hp : okP n 3 := ⟨by omega, by omega, by decide, by decide⟩
  have w1 := worthM 8000 (by decide) L hne (by omega) hok n 3 hp
  have w2 := worthM 8000 (by decide) M hneM (by omega) hokM n 3 hp
  have b1 := Mx_bd hp hok
  have b2 := Mx_bd hp hokM
  obtain ⟨u1, u2, u3, u4⟩ := low_n (Mx n 3 L) 3 b1 (by decide)
  obtain ⟨v1, v2, v3, v4⟩ := low_n (Mx n 3 M) 3 b2 (by decide)
  have pu := proper_ok 8000 (by decide) _ u1 u2 u3
  have pv := proper_ok 8000 (by decide) _ v1 v2 v3
  simp only [frP] at pu pv
  have hle : Mx n 3 L ≤ Mx n 3 M := by
    obtain ⟨q, hq, e⟩ := Mx_at (n := n) (d := 3) hne
    rw [e]; exact Mx_le (hsub q hq)
  have hgo := fl_L 8000 (by decide) L M h0 h1 hsub fx rt A.length (cellsC A) tmin etake L.length (cellsC L) hMl.symm (by rw [wf, wr, hD, hR]; exact ecM) 13 0 8000 rfl (by decide) (by decide)
  have hha := half_L 8000 L hne hb 11 1 8000 rfl (by decide) (by decide) (by decide)
  have hworks : m15 8000 = some (.bool true) := by simp [m15]
  simp only [m11, getA]
  rw [grd_t (by omega), show (deskC many Z).take 17 = deskC many Z by rw [← hlen, List.take_length], hmk]
  simp only [bnd', getL]
  rw [hm, grd_t ⟨by unfold minI; split <;> omega, by unfold minI; split <;> omega⟩, grd_t (by omega), tmin, etake]
  simp only [m48, getL]
  rw [grd_t (by omega), grd_t (by omega), grd_t (by omega)]
  simp only []
  rw [grd_t (by decide), grd_t (by decide), grd_t (by omega), grd_t (by omega), grd_t (by decide)]
  simp only [m40, wn, hQ, getA2, getI, if_true]
  rw [w1]
  simp only [getT2, frP, getA2, if_true]
  rw [wf, wr, hD, hR, ecM, grd_t (by rw [cellsC_len, hMl]), ← hMl, w2]
  simp only [frP, if_true]
  rw [brn_f (by simp), brn_f (by simp), pu]
  simp only [getB]
  rw [brn_t rfl, pv]
  simp only []
  have q1 := u1.1
  have q2 := v1.1
  rw [brn_t rfl, least_ok 8000 (by omega) (by omega)]
  simp only [if_true]
  have hge : 0 ≤ (lowP (Mx n 3 M) 3).1 * (lowP (Mx n 3 L) 3).2 - (lowP (Mx n 3 L) 3).1 * (lowP (Mx n 3 M) 3).2 := by
    generalize lowP (Mx n 3 M) 3 = w at *
    generalize lowP (Mx n 3 L) 3 = v at *
    have k1 : 0 ≤ (Mx n 3 M - Mx n 3 L) * (v.2 * w.2) := Int.mul_nonneg (by omega) (Int.mul_nonneg (by omega) (by omega))
    have k2 : (w.1 * v.2 - v.1 * w.2) * 3 = (Mx n 3 M - Mx n 3 L) * (v.2 * w.2) := by clear k1 hle; grind
    omega
  rw [brn_f (by simp; omega)]
  rw [hMl] at *
  rw [show m11_L0 8000 fx rt A.length (cellsC A) L.length (cellsC L) 8000 (-6) [.int .i64 0, .int .i64 0, .int .i64 0, .int .i64 0, .int .i64 0, .int .i64 0, .int .i64 0, .int .i64 0, .int .i64 0, .int .i64 0, .int .i64 0, .int .i64 0, .int .i64 0, .int .i64 0, .int .i64 0, .int .i64 0, .int .i64 0, .int .i64 0, .int .i64 0, .int .i64 0, .int .i64 0, .int .i64 0, .int .i64 0, .int .i64 0, .int .i64 0, .int .i64 0] = some (.inr (cellsC ((List.range 13).map (fvF L)))) from hgo]
  simp only []
  rw [show m11_L1 8000 (cellsC ((List.range 13).map (fvF L))) 8000 1 = _ from hha]
  simp only [hworks]
theorem con11 (x0 : List PV) (h0 : PT tab 70 x0) (x1 : PV) (h1 : PT tab 67 [x1]) (x2 : PV) (h2 : PT tab 67 [x2]) (x3 : PV) (h3 : PT tab 78 [x3]) : FnP Try.prog 11 [.agg x0, x1, x2, x3] (.bool true) := by
  obtain ⟨many, Z, rfl, hZ, m0, m1⟩ := desk_of h0
  obtain ⟨a, e1, a0, a1⟩ := h1.int' tl67 rfl
  obtain ⟨b, e2, b0, b1⟩ := h2.int' tl67 rfl
  obtain ⟨c, e3, c0, c1⟩ := h3.int' tl78 rfl
  cases e1; cases e2; cases e3
  simp [IntKind.min, IntKind.max, IntKind.signed, IntKind.bits] at a0 a1 b0 b1 c0 c1
  exact c11 8000 _ _ _ _ _ (law_fair many a b c Z hZ m0 m1 a0 a1 b0 b1 c0 c1)
end Go.Proofs.Ytgnphlpoofaojaa

namespace Go.Proofs.Ytgnphlpoofaojaa.turnFair
open Go.ChangeShapes Go.WideShapes Go.ChangeAt Go.RowKit Go.V

theorem own : ownKnob Try.prog.godebug = none := by kernel_rfl
theorem laid : laidOutB Try.prog = true := by kernel_rfl
set_option maxRecDepth 100000 in
theorem lifted (os : Os) (started : os.Started) (H : Type) (enc : TypeId × Value → H) :
    ReturnsInHanded {} Try.checked os 11 .any (Rows.turnFairSpec.pre6 enc Try.prog Try.f11 Rows.turnFairRow.domain false) (Rows.turnFairSpec.post enc Try.prog Try.f11 false true false false) := by
  refine returnsInHanded_of_change (C := Try.checked) own started (by kernel_rfl) Try.func11
    (ChangeSpec.witness6 (enc := enc) (C := Try.checked) false ⟨#[], #[.agg #[.int .u8 0, .int .i8 0, .int .i8 0, .int .i8 0, .int .i8 0, .int .i8 0, .int .i8 0, .int .i8 0, .int .i8 0, .int .i8 0, .int .i8 0, .int .i8 0, .int .i8 0, .int .i8 0, .int .i8 0, .int .i8 0, .int .i8 0], .int .i8 0, .int .i8 0, .int .i16 0], []⟩ 8 (by kernel_rfl) (by kernel_rfl) (by kernel_rfl) (by kernel_rfl)) ?_
  intro W base args ds gs before hval0 hW hcnd _
  have hW' := hW
  obtain ⟨p, q, hA0, hV, rfl, hfz, hnd⟩ := hW
  have hA : DataW.TrodAll enc Try.prog W 0 (fun _ => true) true Try.f11.params.toList args.toList ds p := hA0
  rw [Try.params11] at hA
  obtain ⟨v0, vs0, d0, ds0, p0, q0, e0, rfl, rfl, h0, hr0⟩ := trodAll_cons hA
  obtain ⟨v1, vs1, d1, ds1, p1, q1, e1, rfl, rfl, h1, hr1⟩ := trodAll_cons hr0
  obtain ⟨v2, vs2, d2, ds2, p2, q2, e2, rfl, rfl, h2, hr2⟩ := trodAll_cons hr1
  obtain ⟨v3, vs3, d3, ds3, p3, q3, e3, rfl, rfl, h3, hr3⟩ := trodAll_cons hr2
  obtain ⟨rfl, rfl, rfl⟩ := trodAll_nil hr3
  subst e3
  subst e2
  subst e1
  obtain rfl : args = #[v0, v1, v2, v3] := by cases args; simp_all
  obtain ⟨x0, k0, t0⟩ := arg_agg (n := 8) tab_ok (hval0 0 70 v0 rfl rfl) h0 (by kernel_rfl) (by kernel_rfl)
  obtain ⟨x1, k1, t1⟩ := arg_one (n := 8) tab_ok (hval0 1 67 v1 rfl rfl) h1 (by kernel_rfl) (by kernel_rfl)
  obtain ⟨x2, k2, t2⟩ := arg_one (n := 8) tab_ok (hval0 2 67 v2 rfl rfl) h2 (by kernel_rfl) (by kernel_rfl)
  obtain ⟨x3, k3, t3⟩ := arg_one (n := 8) tab_ok (hval0 3 78 v3 rfl rfl) h3 (by kernel_rfl) (by kernel_rfl)
  obtain ⟨rfl, rfl⟩ := trodVars_none hV
  clear hA0 hval0
  simp only [List.append_nil] at hW'
  refine (FnP.calls (W := W) (vals := #[v0, v1, v2, v3]) (con11 x0 t0 x1 t1 x2 t2 x3 t3) (.cons _ _ _ _ k0 (.cons _ _ _ _ k1 (.cons _ _ _ _ k2 (.cons _ _ _ _ k3 .nil)))) (fun x hx => by simp [Gv] at hx)).mono fun e W' ⟨he, hg⟩ => ?_
  subst he
  exact ⟨_, rfl, post_of_kept (pv := []) hW' (fun _ _ _ => trodAll_cons_mk (shut_bool Try.underlying4 _) trodAll_mk0) (fun sp hsp => trodAll_cons_mk (Kept.trod hg laid (by kernel_rfl) (of_decide_eq_true (by kernel_rfl)) h0 (fun y hy => hsp y (by simp [hy]))) (trodAll_cons_mk (Kept.trod hg laid (by kernel_rfl) (of_decide_eq_true (by kernel_rfl)) h1 (fun y hy => hsp y (by simp [hy]))) (trodAll_cons_mk (Kept.trod hg laid (by kernel_rfl) (of_decide_eq_true (by kernel_rfl)) h2 (fun y hy => hsp y (by simp [hy]))) (trodAll_cons_mk (Kept.trod hg laid (by kernel_rfl) (of_decide_eq_true (by kernel_rfl)) h3 (fun y hy => hsp y (by simp [hy]))) (trodAll_mk0))))) (fun _ _ => rfl) (by simp)
    hg (ok_one (by kernel_rfl) rfl (okWide_bool_mk Try.underlying4 _))⟩

theorem over : Rows.turnFairRow.holds Try.pinned (OpenSpec.ofChange Rows.turnFairSpec) :=
  OpenClaim.holds_of_wide 11 Try.f11 rfl rfl rfl rfl rfl rfl rfl ⟨rfl, rfl, rfl, rfl, rfl⟩ rfl rfl rfl rfl rfl (by kernel_rfl) Try.func11 (by kernel_rfl)
    (of_decide_eq_true (by kernel_rfl)) (by unfold Func.isWrapper; first | (rw [if_pos (by decide +kernel)]; kernel_rfl) | (rw [if_neg (by decide +kernel)]; exact ⟨rfl, rfl⟩))
    (fun os started H enc _ => lifted os started H enc)

end Go.Proofs.Ytgnphlpoofaojaa.turnFair
namespace Go.Proofs.Ytgnphlpoofaojaa
/-- the statement -/
theorem turnFair_holds : Rows.TurnFairSaid := turnFair.over
#print axioms turnFair_holds
end Go.Proofs.Ytgnphlpoofaojaa
