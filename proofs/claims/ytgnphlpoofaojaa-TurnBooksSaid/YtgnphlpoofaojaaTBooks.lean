import Derived.Test.YtgnphlpoofaojaaTCovs
import Derived.Test.YtgnphlpoofaojaaTHulls
import Derived.Test.YtgnphlpoofaojaaTNeeds
import Derived.Test.YtgnphlpoofaojaaB
import Derived.Test.YtgnphlpoofaojaaV33
namespace Go.Proofs.Ytgnphlpoofaojaa
open Go.V
set_option maxRecDepth 100000
set_option maxHeartbeats 4000000
set_option linter.unusedSimpArgs false
set_option linter.unusedVariables false
attribute [local go_sem] tl1 tl2 tl3 tl4 tl5 tl9 tl17 tl21 tl22 tl23 tl24 tl25 tl26 tl27 tl28 tl29 tl31 tl33 tl34 tl36 tl37 tl38 tl39 tl40 tl41 tl42 tl43 tl44 tl46 tl47 tl49 tl50 tl52 tl53 tl54 tl55 tl56 tl57 tl58 tl60 tl62 tl63 tl64 tl65 tl66 tl67 tl68 tl69 tl70 tl71 tl72 tl74 tl75 tl76 tl77 tl78 tl79 tl80 tl81 tl82 tl83 tl84 tl85 tl86 tl87 tl88 tl89 tl90 tl91 tl92 tl93 tl94 tl95 tl96 tl97 tl98 tl99 tl100 tl102 tl103 tl104 tl105 tl106 tl107 tl108 tl109 tl110 tl111 tl112 tl113 tl114 tl115 tl116 tl117 tl118 tl119 tl120 tl121 tl122 tl123 tl124 tl125 tl126 tl127 tl128 tl129 tl130 tl131 tl132 tl133 tl134 tl140 tl141 tl145

def m33_L0 (N : Nat) (x2867 : Int) (n2869 : Nat) (c2870 : List PV) : Nat → Int → Int → Int → Option ((Int × Int))
  | 0, _, _, _ => none
  | n + 1, x2886, x2887, x2888 =>
    brn (decide (x2888 < ((n2869 : Nat) : Int))) (
      grd (0 ≤ x2888 ∧ x2888 < ((n2869 : Nat) : Int)) <|
      grd (0 < List.length (List.drop 1 (List.drop ((Int.toNat x2888) * 2) c2870))) <|
      getI .i64 (gp c2870 (((Int.toNat x2888) * 2) + 1)) fun x2894 =>
      m33_L0 N x2867 n2869 c2870 n (minI x2886 x2894) (maxI x2887 x2894) (IntKind.i64.wrap (x2888 + 1))) (
      some (x2886, x2887))
def m33_L1 (N : Nat) (x2867 : Int) (n2869 : Nat) (c2870 : List PV) (n2905 : Nat) (c2906 : List PV) : Nat → Int → Int → Int → Option ((Int × Int))
  | 0, _, _, _ => none
  | n + 1, x2940, x2941, x2942 =>
    brn (decide (x2940 < ((n2905 : Nat) : Int))) (
      grd (0 ≤ x2940 ∧ x2940 < ((n2905 : Nat) : Int)) <|
      grd (2 ≤ List.length (List.drop ((Int.toNat x2940) * 2) c2906)) <|
      getA2 (.agg (List.take 2 (List.drop ((Int.toNat x2940) * 2) c2906))) fun p2948 p2949 =>
      bnd' (m61 N (.lst false n2869 c2870) (.agg [p2948, p2949])) fun p2950 =>
      getI .i64 p2950 fun x2953 =>
      grd (0 < List.length (List.drop ((Int.toNat x2940) * 2) c2906)) <|
      getI .i64 (gp c2906 ((Int.toNat x2940) * 2)) fun x2956 =>
      grd (0 < List.length (List.drop 1 (List.drop ((Int.toNat x2940) * 2) c2906))) <|
      getI .i64 (gp c2906 (((Int.toNat x2940) * 2) + 1)) fun x2959 =>
      bnd' (m60 N (IntKind.i64.wrap (x2953 - (IntKind.i64.wrap (x2867 * x2956)))) x2959) fun p2960 =>
      getA2 p2960 fun p2963 p2964 =>
      getI .i64 p2963 fun x2966 =>
      getI .i64 p2964 fun x2968 =>
      brn (x2940 == 0) (
        m33_L1 N x2867 n2869 c2870 n2905 c2906 n (IntKind.i64.wrap (x2940 + 1)) x2966 x2968) (
        bnd' (m72 N (.agg [(.int .i64 x2966), (.int .i64 x2968)]) (.agg [(.int .i64 x2941), (.int .i64 x2942)])) fun p2970 =>
        getB p2970 fun b2973 =>
        brn b2973 (
          m33_L1 N x2867 n2869 c2870 n2905 c2906 n (IntKind.i64.wrap (x2940 + 1)) x2966 x2968) (
          m33_L1 N x2867 n2869 c2870 n2905 c2906 n (IntKind.i64.wrap (x2940 + 1)) x2941 x2942))) (
      some (x2941, x2942))
def m33_L2 (N : Nat) (x2867 : Int) (n2869 : Nat) (c2870 : List PV) : Nat → Int → Int → Int → Option ((Int × Int))
  | 0, _, _, _ => none
  | n + 1, x2982, x2983, x2984 =>
    brn (decide (x2984 < ((n2869 : Nat) : Int))) (
      grd (0 ≤ x2984 ∧ x2984 < ((n2869 : Nat) : Int)) <|
      grd (0 < List.length (List.drop 1 (List.drop ((Int.toNat x2984) * 2) c2870))) <|
      getI .i64 (gp c2870 (((Int.toNat x2984) * 2) + 1)) fun x2990 =>
      m33_L2 N x2867 n2869 c2870 n (minI x2982 x2990) (maxI x2983 x2990) (IntKind.i64.wrap (x2984 + 1))) (
      some (x2982, x2983))
def m33_L3 (N : Nat) (x2867 : Int) (n2869 : Nat) (c2870 : List PV) (n3001 : Nat) (c3002 : List PV) : Nat → Int → Int → Int → Option ((Int × Int))
  | 0, _, _, _ => none
  | n + 1, x3036, x3037, x3038 =>
    brn (decide (x3036 < ((n3001 : Nat) : Int))) (
      grd (0 ≤ x3036 ∧ x3036 < ((n3001 : Nat) : Int)) <|
      grd (2 ≤ List.length (List.drop ((Int.toNat x3036) * 2) c3002)) <|
      getA2 (.agg (List.take 2 (List.drop ((Int.toNat x3036) * 2) c3002))) fun p3044 p3045 =>
      bnd' (m61 N (.lst false n2869 c2870) (.agg [p3044, p3045])) fun p3046 =>
      getI .i64 p3046 fun x3049 =>
      grd (0 < List.length (List.drop ((Int.toNat x3036) * 2) c3002)) <|
      getI .i64 (gp c3002 ((Int.toNat x3036) * 2)) fun x3052 =>
      grd (0 < List.length (List.drop 1 (List.drop ((Int.toNat x3036) * 2) c3002))) <|
      getI .i64 (gp c3002 (((Int.toNat x3036) * 2) + 1)) fun x3055 =>
      bnd' (m60 N (IntKind.i64.wrap (x3049 - (IntKind.i64.wrap (x2867 * x3052)))) x3055) fun p3056 =>
      getA2 p3056 fun p3059 p3060 =>
      getI .i64 p3059 fun x3062 =>
      getI .i64 p3060 fun x3064 =>
      brn (x3036 == 0) (
        m33_L3 N x2867 n2869 c2870 n3001 c3002 n (IntKind.i64.wrap (x3036 + 1)) x3062 x3064) (
        bnd' (m72 N (.agg [(.int .i64 x3062), (.int .i64 x3064)]) (.agg [(.int .i64 x3037), (.int .i64 x3038)])) fun p3066 =>
        getB p3066 fun b3069 =>
        brn b3069 (
          m33_L3 N x2867 n2869 c2870 n3001 c3002 n (IntKind.i64.wrap (x3036 + 1)) x3062 x3064) (
          m33_L3 N x2867 n2869 c2870 n3001 c3002 n (IntKind.i64.wrap (x3036 + 1)) x3037 x3038))) (
      some (x3037, x3038))
def m33 (N : Nat) (p2866 : PV) (x2867 : Int) : Option (PV) :=
  getL p2866 fun n2869 c2870 =>
  bnd' (m23 N (.lst false n2869 c2870)) fun p2871 =>
  getI .i64 p2871 fun x2874 =>
  brn (x2874 == 0) (
    bnd' (m64 N x2867 (-10) 10) fun p2876 =>
    getB p2876 fun b2879 =>
    brn b2879 (
      brn (x2874 != 0) (
        some (.tup [(.agg [(.int .i64 0), (.int .i64 0)]), (.int .i64 x2874)])) (
        grd (0 < ((n2869 : Nat) : Int)) <|
        grd (0 < List.length (List.drop 1 c2870)) <|
        getI .i64 (gp c2870 1) fun x2885 =>
        bnd' (m33_L0 N x2867 n2869 c2870 N x2885 x2885 1) fun o =>
        match o with
        | (x2895, x2896) =>
          bnd' (m64 N x2867 x2895 x2896) fun p2897 =>
          getB p2897 fun b2900 =>
          brn b2900 (
            bnd' (m71 N (.lst false n2869 c2870)) fun p2902 =>
            getL p2902 fun n2905 c2906 =>
            bnd' (m33_L1 N x2867 n2869 c2870 n2905 c2906 N 0 0 0) fun o =>
            match o with
            | (x2975, x2976) =>
              some (.tup [(.agg [(.int .i64 x2975), (.int .i64 x2976)]), (.int .i64 0)])) (
            some (.tup [(.agg [(.int .i64 0), (.int .i64 0)]), (.int .i64 12)])))) (
      some (.tup [(.agg [(.int .i64 0), (.int .i64 0)]), (.int .i64 1)]))) (
    brn (x2874 != 0) (
      some (.tup [(.agg [(.int .i64 0), (.int .i64 0)]), (.int .i64 x2874)])) (
      grd (0 < ((n2869 : Nat) : Int)) <|
      grd (0 < List.length (List.drop 1 c2870)) <|
      getI .i64 (gp c2870 1) fun x2981 =>
      bnd' (m33_L2 N x2867 n2869 c2870 N x2981 x2981 1) fun o =>
      match o with
      | (x2991, x2992) =>
        bnd' (m64 N x2867 x2991 x2992) fun p2993 =>
        getB p2993 fun b2996 =>
        brn b2996 (
          bnd' (m71 N (.lst false n2869 c2870)) fun p2998 =>
          getL p2998 fun n3001 c3002 =>
          bnd' (m33_L3 N x2867 n2869 c2870 n3001 c3002 N 0 0 0) fun o =>
          match o with
          | (x3071, x3072) =>
            some (.tup [(.agg [(.int .i64 x3071), (.int .i64 x3072)]), (.int .i64 0)])) (
          some (.tup [(.agg [(.int .i64 0), (.int .i64 0)]), (.int .i64 12)]))))
theorem c33 (N : Nat) (p2866 : PV) (x2867 : Int) (r : PV)  (h : m33 N p2866 x2867 = some r) : FnP Try.prog 33 [p2866, (.int .i64 x2867)] r := by
  unfold m33 at h
  refine Fn_of (sz := 98) tab_ok [0, 1, 4, 5, 6, 7, 8, 9, 10, 11, 12, 13, 22, 24, 38, 59, 66, 95] [.cell 4 28, .tmp 5] Try.func33 rfl rfl rfl (by simp) ?_
  simp only [initSt, initEnv, List.map_cons, List.map_nil, List.getD_cons_zero, List.getD_cons_succ, List.getD_nil]
  have hh := getL_some h; clear h; obtain ⟨n2869, c2870, h2868, h⟩ := hh
  have hh := bnd'_some h; clear h; obtain ⟨p2871, h2872, h⟩ := hh
  refine W_sound tab_ok mixed 8 _ _ _ ?_
  simp -implicitDefEqProofs only [go_sem, ne_eq, not_false_eq_true, Nat.reduceBEq, Nat.reduceAdd, Nat.reduceSub, Nat.reduceMul, Nat.reduceLT, Nat.reduceLeDiff, Int.reduceLE, Int.reduceLT, Int.reduceToNat, Int.reduceBEq, Int.reduceBNe, Int.le_refl, Nat.le_refl, decide_true, decide_false, Int.cast_ofNat_Int, ↓reduceIte, h2868]
  repeat with_reducible refine And.intro (by first | kernel_rfl | decide) ?_
  refine Wp_callP (c23 N _ _ h2872) (by kernel_rfl) rfl rfl rfl rfl (by decide) ?_
  have hh := getI_some h; clear h; obtain ⟨x2874, h2873, h⟩ := hh
  have hh := brn_some h; clear h; rcases hh with ⟨h2875, h⟩ | ⟨h2875, h⟩
  · have hh := bnd'_some h; clear h; obtain ⟨p2876, h2877, h⟩ := hh
    refine W_sound tab_ok mixed 9 _ _ _ ?_
    simp -implicitDefEqProofs only [go_sem, ne_eq, not_false_eq_true, Nat.reduceBEq, Nat.reduceAdd, Nat.reduceSub, Nat.reduceMul, Nat.reduceLT, Nat.reduceLeDiff, Int.reduceLE, Int.reduceLT, Int.reduceToNat, Int.reduceBEq, Int.reduceBNe, Int.le_refl, Nat.le_refl, decide_true, decide_false, Int.cast_ofNat_Int, ↓reduceIte, h2868, h2873, h2875]
    repeat with_reducible refine And.intro (by first | kernel_rfl | decide) ?_
    refine Wp_callP (c64 N _ _ _ _ h2877) (by kernel_rfl) rfl rfl rfl rfl (by decide) ?_
    have hh := getB_some h; clear h; obtain ⟨b2879, h2878, h⟩ := hh
    have hh := brn_some h; clear h; rcases hh with ⟨h2880, h⟩ | ⟨h2880, h⟩
    · have hh := brn_some h; clear h; rcases hh with ⟨h2881, h⟩ | ⟨h2881, h⟩
      · refine W_sound tab_ok mixed 21 _ _ _ ?_
        simp -implicitDefEqProofs only [go_sem, ne_eq, not_false_eq_true, Nat.reduceBEq, Nat.reduceAdd, Nat.reduceSub, Nat.reduceMul, Nat.reduceLT, Nat.reduceLeDiff, Int.reduceLE, Int.reduceLT, Int.reduceToNat, Int.reduceBEq, Int.reduceBNe, Int.le_refl, Nat.le_refl, decide_true, decide_false, Int.cast_ofNat_Int, ↓reduceIte, h2868, h2873, h2875, h2878, h2880, h2881]
        repeat with_reducible refine And.intro (by first | kernel_rfl | decide) ?_
        refine FinQ_wk (Wk_freeze 4 [(.int .i64 0), (.int .i64 0)] (by rfl) (by decide) (by decide)) ?_
        simp -implicitDefEqProofs only [go_sem, ne_eq, not_false_eq_true, Nat.reduceBEq, Nat.reduceAdd, Nat.reduceSub, Nat.reduceMul, Nat.reduceLT, Nat.reduceLeDiff, Int.reduceLE, Int.reduceLT, Int.reduceToNat, Int.reduceBEq, Int.reduceBNe, Int.le_refl, Nat.le_refl, decide_true, decide_false, Int.cast_ofNat_Int, ↓reduceIte, h2868, h2873, h2875, h2878, h2880, h2881]
        obtain rfl := Option.some.inj h
        exact finC [(4, .v (.ipt [(.int .i64 0), (.int .i64 0)])), (5, .v (.int .i64 x2874))] [(4, .v (.ipt [(.int .i64 0), (.int .i64 0)])), (5, .v (.int .i64 x2874))] (by simp [leE, lk_cons]) (.cons _ _ _ _ _ (.v _ _ (.refl _)) (.cons _ _ _ _ _ (.v _ _ (.refl _)) .nil)) (by rfl) (by simp [leE, lk_cons]) (by decide) (by decide) rfl (by simp only [go_sem, ne_eq, not_false_eq_true, Nat.reduceBEq, Nat.reduceAdd, Nat.reduceSub, Nat.reduceMul, Nat.reduceLT, Nat.reduceLeDiff, Int.reduceLE, Int.reduceLT, Int.reduceToNat, Int.reduceBEq, Int.reduceBNe, Int.le_refl, Nat.le_refl, decide_true, decide_false, Int.cast_ofNat_Int, ↓reduceIte, resQ_tmp, resQ_cell, resQ_nil, retD_one, retD_two, retD_three, retD_none]; try simp [R.val, retD_one, retD_two, retD_three, retD_none])
      · have hh := grd_some h; clear h; obtain ⟨g2882, h⟩ := hh
        have hh := grd_some h; clear h; obtain ⟨g2883, h⟩ := hh
        have hh := getI_some h; clear h; obtain ⟨x2885, h2884, h⟩ := hh
        refine W_sound tab_ok mixed 31 _ _ _ ?_
        simp -implicitDefEqProofs only [go_sem, ne_eq, not_false_eq_true, Nat.reduceBEq, Nat.reduceAdd, Nat.reduceSub, Nat.reduceMul, Nat.reduceLT, Nat.reduceLeDiff, Int.reduceLE, Int.reduceLT, Int.reduceToNat, Int.reduceBEq, Int.reduceBNe, Int.le_refl, Nat.le_refl, decide_true, decide_false, Int.cast_ofNat_Int, ↓reduceIte, h2868, h2873, h2875, h2878, h2880, h2881, g2882, g2883, h2884]
        repeat with_reducible refine And.intro (by first | kernel_rfl | decide) ?_
        have hh := bnd'_some h; clear h; obtain ⟨o3073, h3074, h3075⟩ := hh
        refine Wp_cut (fun s => ∃ x2895, ∃ x2896, (x2895, x2896) = o3073 ∧ s = ⟨[], [(0, .v (.lst false n2869 c2870)), (1, .v (.int .i64 x2867)), (4, .ptr 0 0), (5, .dead), (6, .dead), (7, .v (.int .i64 x2895)), (8, .v (.int .i64 x2896)), (9, .dead), (10, .dead), (11, .dead), (12, .dead), (13, .dead), (22, .dead), (24, .dead), (38, .dead), (59, .dead), (66, .dead), (95, .dead)], [(0, .p [(.int .i64 0), (.int .i64 0)])], 1, []⟩) ?_ ?_
        · refine Wp_block ?_
          refine Wp_loopG (fun n s => ∃ x2886, ∃ x2887, ∃ x2888, m33_L0 N x2867 n2869 c2870 n x2886 x2887 x2888 = some o3073 ∧ s = ⟨[], [(0, .v (.lst false n2869 c2870)), (1, .v (.int .i64 x2867)), (4, .ptr 0 0), (5, .dead), (6, .dead), (7, .v (.int .i64 x2886)), (8, .v (.int .i64 x2887)), (9, .v (.int .i64 x2888)), (10, .dead), (11, .dead), (12, .dead), (13, .dead), (22, .dead), (24, .dead), (38, .dead), (59, .dead), (66, .dead), (95, .dead)], [(0, .p [(.int .i64 0), (.int .i64 0)])], 1, []⟩) N _ ((Wk_le (.cons _ _ _ _ _ (.refl _) (.cons _ _ _ _ _ (.refl _) (.cons _ _ _ _ _ (.refl _) (.cons _ _ _ _ _ (.dead _) (.cons _ _ _ _ _ (.dead _) (.cons _ _ _ _ _ (.refl _) (.cons _ _ _ _ _ (.refl _) (.cons _ _ _ _ _ (.refl _) (.cons _ _ _ _ _ (.refl _) (.cons _ _ _ _ _ (.refl _) (.cons _ _ _ _ _ (.refl _) (.cons _ _ _ _ _ (.refl _) (.cons _ _ _ _ _ (.dead _) (.cons _ _ _ _ _ (.dead _) (.cons _ _ _ _ _ (.refl _) (.cons _ _ _ _ _ (.refl _) (.cons _ _ _ _ _ (.refl _) (.cons _ _ _ _ _ (.refl _) .nil)))))))))))))))))) (OLe.refl _)).trans (cmpS_ok rfl)) ⟨_, _, _, h3074, rfl⟩ ?_
          clear h3074
          rintro n _ ⟨x2886, x2887, x2888, h3074, rfl⟩
          cases n with
          | zero => cases h3074
          | succ n =>
            rw [m33_L0] at h3074
            have hh := brn_some h3074; clear h3074; rcases hh with ⟨h2889, h3074⟩ | ⟨h2889, h3074⟩
            · have hh := grd_some h3074; clear h3074; obtain ⟨⟨g2890, g2891⟩, h3074⟩ := hh
              have hh := grd_some h3074; clear h3074; obtain ⟨g2892, h3074⟩ := hh
              have hh := getI_some h3074; clear h3074; obtain ⟨x2894, h2893, h3074⟩ := hh
              refine W_sound tab_ok mixed 36 _ _ _ ?_
              simp -implicitDefEqProofs only [go_sem, ne_eq, not_false_eq_true, Nat.reduceBEq, Nat.reduceAdd, Nat.reduceSub, Nat.reduceMul, Nat.reduceLT, Nat.reduceLeDiff, Int.reduceLE, Int.reduceLT, Int.reduceToNat, Int.reduceBEq, Int.reduceBNe, Int.le_refl, Nat.le_refl, decide_true, decide_false, Int.cast_ofNat_Int, ↓reduceIte, h2868, h2873, h2875, h2878, h2880, h2881, g2882, g2883, h2884, h2889, g2890, g2891, g2892, h2893]
              repeat with_reducible refine And.intro (by first | kernel_rfl | decide) ?_
              exact cutQ _ ((Wk_le (.cons _ _ _ _ _ (.refl _) (.cons _ _ _ _ _ (.refl _) (.cons _ _ _ _ _ (.refl _) (.cons _ _ _ _ _ (.refl _) (.cons _ _ _ _ _ (.refl _) (.cons _ _ _ _ _ (.refl _) (.cons _ _ _ _ _ (.refl _) (.cons _ _ _ _ _ (.refl _) (.cons _ _ _ _ _ (.refl _) (.cons _ _ _ _ _ (.refl _) (.cons _ _ _ _ _ (.refl _) (.cons _ _ _ _ _ (.refl _) (.cons _ _ _ _ _ (.refl _) (.cons _ _ _ _ _ (.refl _) (.cons _ _ _ _ _ (.dead _) (.cons _ _ _ _ _ (.refl _) (.cons _ _ _ _ _ (.refl _) (.cons _ _ _ _ _ (.refl _) .nil)))))))))))))))))) (OLe.refl _)).trans (cmpS_ok rfl)) ⟨n, Nat.lt_succ_self n, _, _, _, h3074, rfl⟩
            · refine W_sound tab_ok mixed 10 _ _ _ ?_
              simp -implicitDefEqProofs only [go_sem, ne_eq, not_false_eq_true, Nat.reduceBEq, Nat.reduceAdd, Nat.reduceSub, Nat.reduceMul, Nat.reduceLT, Nat.reduceLeDiff, Int.reduceLE, Int.reduceLT, Int.reduceToNat, Int.reduceBEq, Int.reduceBNe, Int.le_refl, Nat.le_refl, decide_true, decide_false, Int.cast_ofNat_Int, ↓reduceIte, h2868, h2873, h2875, h2878, h2880, h2881, g2882, g2883, h2884, h2889]
              repeat with_reducible refine And.intro (by first | kernel_rfl | decide) ?_
              obtain rfl := Option.some.inj h3074
              exact cutQ _ ((Wk_le (.cons _ _ _ _ _ (.refl _) (.cons _ _ _ _ _ (.refl _) (.cons _ _ _ _ _ (.refl _) (.cons _ _ _ _ _ (.refl _) (.cons _ _ _ _ _ (.refl _) (.cons _ _ _ _ _ (.refl _) (.cons _ _ _ _ _ (.refl _) (.cons _ _ _ _ _ (.dead _) (.cons _ _ _ _ _ (.refl _) (.cons _ _ _ _ _ (.refl _) (.cons _ _ _ _ _ (.refl _) (.cons _ _ _ _ _ (.refl _) (.cons _ _ _ _ _ (.refl _) (.cons _ _ _ _ _ (.refl _) (.cons _ _ _ _ _ (.dead _) (.cons _ _ _ _ _ (.refl _) (.cons _ _ _ _ _ (.refl _) (.cons _ _ _ _ _ (.refl _) .nil)))))))))))))))))) (OLe.refl _)).trans (cmpS_ok rfl)) ⟨_, _, rfl, rfl⟩
        · rintro _ ⟨x2895, x2896, rfl, rfl⟩
          (try dsimp only at h3075)
          have hh := bnd'_some h3075; clear h3075; obtain ⟨p2897, h2898, h3075⟩ := hh
          refine W_sound tab_ok mixed 6 _ _ _ ?_
          simp -implicitDefEqProofs only [go_sem, ne_eq, not_false_eq_true, Nat.reduceBEq, Nat.reduceAdd, Nat.reduceSub, Nat.reduceMul, Nat.reduceLT, Nat.reduceLeDiff, Int.reduceLE, Int.reduceLT, Int.reduceToNat, Int.reduceBEq, Int.reduceBNe, Int.le_refl, Nat.le_refl, decide_true, decide_false, Int.cast_ofNat_Int, ↓reduceIte, h2868, h2873, h2875, h2878, h2880, h2881, g2882, g2883, h2884]
          repeat with_reducible refine And.intro (by first | kernel_rfl | decide) ?_
          refine Wp_callP (c64 N _ _ _ _ h2898) (by kernel_rfl) rfl rfl rfl rfl (by decide) ?_
          have hh := getB_some h3075; clear h3075; obtain ⟨b2900, h2899, h3075⟩ := hh
          have hh := brn_some h3075; clear h3075; rcases hh with ⟨h2901, h3075⟩ | ⟨h2901, h3075⟩
          · have hh := bnd'_some h3075; clear h3075; obtain ⟨p2902, h2903, h3075⟩ := hh
            refine W_sound tab_ok mixed 7 _ _ _ ?_
            simp -implicitDefEqProofs only [go_sem, ne_eq, not_false_eq_true, Nat.reduceBEq, Nat.reduceAdd, Nat.reduceSub, Nat.reduceMul, Nat.reduceLT, Nat.reduceLeDiff, Int.reduceLE, Int.reduceLT, Int.reduceToNat, Int.reduceBEq, Int.reduceBNe, Int.le_refl, Nat.le_refl, decide_true, decide_false, Int.cast_ofNat_Int, ↓reduceIte, h2868, h2873, h2875, h2878, h2880, h2881, g2882, g2883, h2884, h2899, h2901]
            repeat with_reducible refine And.intro (by first | kernel_rfl | decide) ?_
            refine Wp_callP (c71 N _ _ h2903) (by kernel_rfl) rfl rfl rfl rfl (by decide) ?_
            have hh := getL_some h3075; clear h3075; obtain ⟨n2905, c2906, h2904, h3075⟩ := hh
            refine W_sound tab_ok mixed 11 _ _ _ ?_
            simp -implicitDefEqProofs only [go_sem, ne_eq, not_false_eq_true, Nat.reduceBEq, Nat.reduceAdd, Nat.reduceSub, Nat.reduceMul, Nat.reduceLT, Nat.reduceLeDiff, Int.reduceLE, Int.reduceLT, Int.reduceToNat, Int.reduceBEq, Int.reduceBNe, Int.le_refl, Nat.le_refl, decide_true, decide_false, Int.cast_ofNat_Int, ↓reduceIte, h2868, h2873, h2875, h2878, h2880, h2881, g2882, g2883, h2884, h2899, h2901, h2904]
            repeat with_reducible refine And.intro (by first | kernel_rfl | decide) ?_
            have hh := bnd'_some h3075; clear h3075; obtain ⟨o3076, h3077, h3078⟩ := hh
            refine Wp_cut (fun s => ∃ x2975, ∃ x2976, (x2975, x2976) = o3076 ∧ s = ⟨[], [(0, .dead), (1, .dead), (4, .ptr 0 0), (5, .dead), (6, .dead), (7, .dead), (8, .dead), (9, .dead), (10, .dead), (11, .ptr 1 0), (12, .dead), (13, .dead), (22, .dead), (24, .dead), (38, .dead), (59, .dead), (66, .dead), (95, .dead)], [(0, .p [(.int .i64 0), (.int .i64 0)]), (1, .p [(.int .i64 x2975), (.int .i64 x2976)])], 2, []⟩) ?_ ?_
            · refine Wp_block ?_
              refine Wp_loopG (fun n s => ∃ x2940, ∃ x2941, ∃ x2942, m33_L1 N x2867 n2869 c2870 n2905 c2906 n x2940 x2941 x2942 = some o3076 ∧ s = ⟨[], [(0, .v (.lst false n2869 c2870)), (1, .v (.int .i64 x2867)), (4, .ptr 0 0), (5, .dead), (6, .dead), (7, .dead), (8, .dead), (9, .dead), (10, .v (.lst false n2905 c2906)), (11, .ptr 1 0), (12, .v (.int .i64 x2940)), (13, .dead), (22, .dead), (24, .dead), (38, .dead), (59, .dead), (66, .dead), (95, .dead)], [(0, .p [(.int .i64 0), (.int .i64 0)]), (1, .p [(.int .i64 x2941), (.int .i64 x2942)])], 2, []⟩) N _ ((Wk_le (.cons _ _ _ _ _ (.refl _) (.cons _ _ _ _ _ (.refl _) (.cons _ _ _ _ _ (.refl _) (.cons _ _ _ _ _ (.refl _) (.cons _ _ _ _ _ (.refl _) (.cons _ _ _ _ _ (.dead _) (.cons _ _ _ _ _ (.dead _) (.cons _ _ _ _ _ (.refl _) (.cons _ _ _ _ _ (.refl _) (.cons _ _ _ _ _ (.refl _) (.cons _ _ _ _ _ (.refl _) (.cons _ _ _ _ _ (.refl _) (.cons _ _ _ _ _ (.refl _) (.cons _ _ _ _ _ (.refl _) (.cons _ _ _ _ _ (.refl _) (.cons _ _ _ _ _ (.dead _) (.cons _ _ _ _ _ (.refl _) (.cons _ _ _ _ _ (.refl _) .nil)))))))))))))))))) (OLe.refl _)).trans (cmpS_ok rfl)) ⟨_, _, _, h3077, rfl⟩ ?_
              clear h3077
              rintro n _ ⟨x2940, x2941, x2942, h3077, rfl⟩
              cases n with
              | zero => cases h3077
              | succ n =>
                rw [m33_L1] at h3077
                have hh := brn_some h3077; clear h3077; rcases hh with ⟨h2943, h3077⟩ | ⟨h2943, h3077⟩
                · have hh := grd_some h3077; clear h3077; obtain ⟨⟨g2944, g2945⟩, h3077⟩ := hh
                  have hh := grd_some h3077; clear h3077; obtain ⟨g2946, h3077⟩ := hh
                  have hh := getA2_some h3077; clear h3077; obtain ⟨p2948, p2949, h2947, h3077⟩ := hh
                  injection h2947 with h2947
                  have hh := bnd'_some h3077; clear h3077; obtain ⟨p2950, h2951, h3077⟩ := hh
                  refine W_sound tab_ok mixed 19 _ _ _ ?_
                  simp -implicitDefEqProofs only [go_sem, ne_eq, not_false_eq_true, Nat.reduceBEq, Nat.reduceAdd, Nat.reduceSub, Nat.reduceMul, Nat.reduceLT, Nat.reduceLeDiff, Int.reduceLE, Int.reduceLT, Int.reduceToNat, Int.reduceBEq, Int.reduceBNe, Int.le_refl, Nat.le_refl, decide_true, decide_false, Int.cast_ofNat_Int, ↓reduceIte, h2868, h2873, h2875, h2878, h2880, h2881, g2882, g2883, h2884, h2899, h2901, h2904, h2943, g2944, g2945, g2946, h2947]
                  repeat with_reducible refine And.intro (by first | kernel_rfl | decide) ?_
                  refine Wp_callP (c61 N _ _ _ h2951) (by kernel_rfl) rfl rfl rfl rfl (by decide) ?_
                  have hh := getI_some h3077; clear h3077; obtain ⟨x2953, h2952, h3077⟩ := hh
                  have hh := grd_some h3077; clear h3077; obtain ⟨g2954, h3077⟩ := hh
                  have hh := getI_some h3077; clear h3077; obtain ⟨x2956, h2955, h3077⟩ := hh
                  have hh := grd_some h3077; clear h3077; obtain ⟨g2957, h3077⟩ := hh
                  have hh := getI_some h3077; clear h3077; obtain ⟨x2959, h2958, h3077⟩ := hh
                  have hh := bnd'_some h3077; clear h3077; obtain ⟨p2960, h2961, h3077⟩ := hh
                  refine W_sound tab_ok mixed 13 _ _ _ ?_
                  simp -implicitDefEqProofs only [go_sem, ne_eq, not_false_eq_true, Nat.reduceBEq, Nat.reduceAdd, Nat.reduceSub, Nat.reduceMul, Nat.reduceLT, Nat.reduceLeDiff, Int.reduceLE, Int.reduceLT, Int.reduceToNat, Int.reduceBEq, Int.reduceBNe, Int.le_refl, Nat.le_refl, decide_true, decide_false, Int.cast_ofNat_Int, ↓reduceIte, h2868, h2873, h2875, h2878, h2880, h2881, g2882, g2883, h2884, h2899, h2901, h2904, h2943, g2944, g2945, g2946, h2947, h2952, g2954, h2955, g2957, h2958]
                  repeat with_reducible refine And.intro (by first | kernel_rfl | decide) ?_
                  refine Wp_callP (c60 N _ _ _ h2961) (by kernel_rfl) rfl rfl rfl rfl (by decide) ?_
                  have hh := getA2_some h3077; clear h3077; obtain ⟨p2963, p2964, h2962, h3077⟩ := hh
                  have hh := getI_some h3077; clear h3077; obtain ⟨x2966, h2965, h3077⟩ := hh
                  have hh := getI_some h3077; clear h3077; obtain ⟨x2968, h2967, h3077⟩ := hh
                  have hh := brn_some h3077; clear h3077; rcases hh with ⟨h2969, h3077⟩ | ⟨h2969, h3077⟩
                  · refine W_sound tab_ok mixed 24 _ _ _ ?_
                    simp -implicitDefEqProofs only [go_sem, ne_eq, not_false_eq_true, Nat.reduceBEq, Nat.reduceAdd, Nat.reduceSub, Nat.reduceMul, Nat.reduceLT, Nat.reduceLeDiff, Int.reduceLE, Int.reduceLT, Int.reduceToNat, Int.reduceBEq, Int.reduceBNe, Int.le_refl, Nat.le_refl, decide_true, decide_false, Int.cast_ofNat_Int, ↓reduceIte, h2868, h2873, h2875, h2878, h2880, h2881, g2882, g2883, h2884, h2899, h2901, h2904, h2943, g2944, g2945, g2946, h2947, h2952, g2954, h2955, g2957, h2958, h2962, h2965, h2967, h2969]
                    repeat with_reducible refine And.intro (by first | kernel_rfl | decide) ?_
                    exact cutQ _ ((Wk_le (.cons _ _ _ _ _ (.refl _) (.cons _ _ _ _ _ (.refl _) (.cons _ _ _ _ _ (.refl _) (.cons _ _ _ _ _ (.refl _) (.cons _ _ _ _ _ (.refl _) (.cons _ _ _ _ _ (.refl _) (.cons _ _ _ _ _ (.refl _) (.cons _ _ _ _ _ (.refl _) (.cons _ _ _ _ _ (.refl _) (.cons _ _ _ _ _ (.refl _) (.cons _ _ _ _ _ (.refl _) (.cons _ _ _ _ _ (.dead _) (.cons _ _ _ _ _ (.refl _) (.cons _ _ _ _ _ (.refl _) (.cons _ _ _ _ _ (.refl _) (.cons _ _ _ _ _ (.refl _) (.cons _ _ _ _ _ (.dead _) (.cons _ _ _ _ _ (.dead _) .nil)))))))))))))))))) (OLe.refl _)).trans (cmpS_ok rfl)) ⟨n, Nat.lt_succ_self n, _, _, _, h3077, rfl⟩
                  · have hh := bnd'_some h3077; clear h3077; obtain ⟨p2970, h2971, h3077⟩ := hh
                    refine W_sound tab_ok mixed 10 _ _ _ ?_
                    simp -implicitDefEqProofs only [go_sem, ne_eq, not_false_eq_true, Nat.reduceBEq, Nat.reduceAdd, Nat.reduceSub, Nat.reduceMul, Nat.reduceLT, Nat.reduceLeDiff, Int.reduceLE, Int.reduceLT, Int.reduceToNat, Int.reduceBEq, Int.reduceBNe, Int.le_refl, Nat.le_refl, decide_true, decide_false, Int.cast_ofNat_Int, ↓reduceIte, h2868, h2873, h2875, h2878, h2880, h2881, g2882, g2883, h2884, h2899, h2901, h2904, h2943, g2944, g2945, g2946, h2947, h2952, g2954, h2955, g2957, h2958, h2962, h2965, h2967, h2969]
                    repeat with_reducible refine And.intro (by first | kernel_rfl | decide) ?_
                    refine Wp_callP (c72 N _ _ _ h2971) (by kernel_rfl) rfl rfl rfl rfl (by decide) ?_
                    have hh := getB_some h3077; clear h3077; obtain ⟨b2973, h2972, h3077⟩ := hh
                    have hh := brn_some h3077; clear h3077; rcases hh with ⟨h2974, h3077⟩ | ⟨h2974, h3077⟩
                    · refine W_sound tab_ok mixed 13 _ _ _ ?_
                      simp -implicitDefEqProofs only [go_sem, ne_eq, not_false_eq_true, Nat.reduceBEq, Nat.reduceAdd, Nat.reduceSub, Nat.reduceMul, Nat.reduceLT, Nat.reduceLeDiff, Int.reduceLE, Int.reduceLT, Int.reduceToNat, Int.reduceBEq, Int.reduceBNe, Int.le_refl, Nat.le_refl, decide_true, decide_false, Int.cast_ofNat_Int, ↓reduceIte, h2868, h2873, h2875, h2878, h2880, h2881, g2882, g2883, h2884, h2899, h2901, h2904, h2943, g2944, g2945, g2946, h2947, h2952, g2954, h2955, g2957, h2958, h2962, h2965, h2967, h2969, h2972, h2974]
                      repeat with_reducible refine And.intro (by first | kernel_rfl | decide) ?_
                      exact cutQ _ ((Wk_le (.cons _ _ _ _ _ (.refl _) (.cons _ _ _ _ _ (.refl _) (.cons _ _ _ _ _ (.refl _) (.cons _ _ _ _ _ (.refl _) (.cons _ _ _ _ _ (.refl _) (.cons _ _ _ _ _ (.refl _) (.cons _ _ _ _ _ (.refl _) (.cons _ _ _ _ _ (.refl _) (.cons _ _ _ _ _ (.refl _) (.cons _ _ _ _ _ (.refl _) (.cons _ _ _ _ _ (.refl _) (.cons _ _ _ _ _ (.dead _) (.cons _ _ _ _ _ (.refl _) (.cons _ _ _ _ _ (.refl _) (.cons _ _ _ _ _ (.refl _) (.cons _ _ _ _ _ (.refl _) (.cons _ _ _ _ _ (.dead _) (.cons _ _ _ _ _ (.dead _) .nil)))))))))))))))))) (OLe.refl _)).trans (cmpS_ok rfl)) ⟨n, Nat.lt_succ_self n, _, _, _, h3077, rfl⟩
                    · refine W_sound tab_ok mixed 10 _ _ _ ?_
                      simp -implicitDefEqProofs only [go_sem, ne_eq, not_false_eq_true, Nat.reduceBEq, Nat.reduceAdd, Nat.reduceSub, Nat.reduceMul, Nat.reduceLT, Nat.reduceLeDiff, Int.reduceLE, Int.reduceLT, Int.reduceToNat, Int.reduceBEq, Int.reduceBNe, Int.le_refl, Nat.le_refl, decide_true, decide_false, Int.cast_ofNat_Int, ↓reduceIte, h2868, h2873, h2875, h2878, h2880, h2881, g2882, g2883, h2884, h2899, h2901, h2904, h2943, g2944, g2945, g2946, h2947, h2952, g2954, h2955, g2957, h2958, h2962, h2965, h2967, h2969, h2972, h2974]
                      repeat with_reducible refine And.intro (by first | kernel_rfl | decide) ?_
                      exact cutQ _ ((Wk_le (.cons _ _ _ _ _ (.refl _) (.cons _ _ _ _ _ (.refl _) (.cons _ _ _ _ _ (.refl _) (.cons _ _ _ _ _ (.refl _) (.cons _ _ _ _ _ (.refl _) (.cons _ _ _ _ _ (.refl _) (.cons _ _ _ _ _ (.refl _) (.cons _ _ _ _ _ (.refl _) (.cons _ _ _ _ _ (.refl _) (.cons _ _ _ _ _ (.refl _) (.cons _ _ _ _ _ (.refl _) (.cons _ _ _ _ _ (.dead _) (.cons _ _ _ _ _ (.refl _) (.cons _ _ _ _ _ (.refl _) (.cons _ _ _ _ _ (.refl _) (.cons _ _ _ _ _ (.refl _) (.cons _ _ _ _ _ (.dead _) (.cons _ _ _ _ _ (.dead _) .nil)))))))))))))))))) (OLe.refl _)).trans (cmpS_ok rfl)) ⟨n, Nat.lt_succ_self n, _, _, _, h3077, rfl⟩
                · refine W_sound tab_ok mixed 10 _ _ _ ?_
                  simp -implicitDefEqProofs only [go_sem, ne_eq, not_false_eq_true, Nat.reduceBEq, Nat.reduceAdd, Nat.reduceSub, Nat.reduceMul, Nat.reduceLT, Nat.reduceLeDiff, Int.reduceLE, Int.reduceLT, Int.reduceToNat, Int.reduceBEq, Int.reduceBNe, Int.le_refl, Nat.le_refl, decide_true, decide_false, Int.cast_ofNat_Int, ↓reduceIte, h2868, h2873, h2875, h2878, h2880, h2881, g2882, g2883, h2884, h2899, h2901, h2904, h2943]
                  repeat with_reducible refine And.intro (by first | kernel_rfl | decide) ?_
                  obtain rfl := Option.some.inj h3077
                  exact cutQ _ ((Wk_le (.cons _ _ _ _ _ (.dead _) (.cons _ _ _ _ _ (.dead _) (.cons _ _ _ _ _ (.refl _) (.cons _ _ _ _ _ (.refl _) (.cons _ _ _ _ _ (.refl _) (.cons _ _ _ _ _ (.refl _) (.cons _ _ _ _ _ (.refl _) (.cons _ _ _ _ _ (.refl _) (.cons _ _ _ _ _ (.dead _) (.cons _ _ _ _ _ (.refl _) (.cons _ _ _ _ _ (.dead _) (.cons _ _ _ _ _ (.refl _) (.cons _ _ _ _ _ (.refl _) (.cons _ _ _ _ _ (.refl _) (.cons _ _ _ _ _ (.refl _) (.cons _ _ _ _ _ (.refl _) (.cons _ _ _ _ _ (.dead _) (.cons _ _ _ _ _ (.refl _) .nil)))))))))))))))))) (OLe.refl _)).trans (cmpS_ok rfl)) ⟨_, _, rfl, rfl⟩
            · rintro _ ⟨x2975, x2976, rfl, rfl⟩
              (try dsimp only at h3078)
              refine W_sound tab_ok mixed 8 _ _ _ ?_
              simp -implicitDefEqProofs only [go_sem, ne_eq, not_false_eq_true, Nat.reduceBEq, Nat.reduceAdd, Nat.reduceSub, Nat.reduceMul, Nat.reduceLT, Nat.reduceLeDiff, Int.reduceLE, Int.reduceLT, Int.reduceToNat, Int.reduceBEq, Int.reduceBNe, Int.le_refl, Nat.le_refl, decide_true, decide_false, Int.cast_ofNat_Int, ↓reduceIte, h2868, h2873, h2875, h2878, h2880, h2881, g2882, g2883, h2884, h2899, h2901, h2904]
              repeat with_reducible refine And.intro (by first | kernel_rfl | decide) ?_
              refine FinQ_wk (Wk_freeze 0 [(.int .i64 x2975), (.int .i64 x2976)] (by rfl) (by decide) (by decide)) ?_
              simp -implicitDefEqProofs only [go_sem, ne_eq, not_false_eq_true, Nat.reduceBEq, Nat.reduceAdd, Nat.reduceSub, Nat.reduceMul, Nat.reduceLT, Nat.reduceLeDiff, Int.reduceLE, Int.reduceLT, Int.reduceToNat, Int.reduceBEq, Int.reduceBNe, Int.le_refl, Nat.le_refl, decide_true, decide_false, Int.cast_ofNat_Int, ↓reduceIte, h2868, h2873, h2875, h2878, h2880, h2881, g2882, g2883, h2884, h2899, h2901, h2904]
              obtain rfl := Option.some.inj h3078
              exact finC [(4, .v (.ipt [(.int .i64 x2975), (.int .i64 x2976)])), (5, .v (.int .i64 0))] [(4, .v (.ipt [(.int .i64 x2975), (.int .i64 x2976)])), (5, .v (.int .i64 0))] (by simp [leE, lk_cons]) (.cons _ _ _ _ _ (.v _ _ (.refl _)) (.cons _ _ _ _ _ (.v _ _ (.refl _)) .nil)) (by rfl) (by simp [leE, lk_cons]) (by decide) (by decide) rfl (by simp only [go_sem, ne_eq, not_false_eq_true, Nat.reduceBEq, Nat.reduceAdd, Nat.reduceSub, Nat.reduceMul, Nat.reduceLT, Nat.reduceLeDiff, Int.reduceLE, Int.reduceLT, Int.reduceToNat, Int.reduceBEq, Int.reduceBNe, Int.le_refl, Nat.le_refl, decide_true, decide_false, Int.cast_ofNat_Int, ↓reduceIte, resQ_tmp, resQ_cell, resQ_nil, retD_one, retD_two, retD_three, retD_none]; try simp [R.val, retD_one, retD_two, retD_three, retD_none])
          · refine W_sound tab_ok mixed 11 _ _ _ ?_
            simp -implicitDefEqProofs only [go_sem, ne_eq, not_false_eq_true, Nat.reduceBEq, Nat.reduceAdd, Nat.reduceSub, Nat.reduceMul, Nat.reduceLT, Nat.reduceLeDiff, Int.reduceLE, Int.reduceLT, Int.reduceToNat, Int.reduceBEq, Int.reduceBNe, Int.le_refl, Nat.le_refl, decide_true, decide_false, Int.cast_ofNat_Int, ↓reduceIte, h2868, h2873, h2875, h2878, h2880, h2881, g2882, g2883, h2884, h2899, h2901]
            repeat with_reducible refine And.intro (by first | kernel_rfl | decide) ?_
            refine FinQ_wk (Wk_freeze 0 [(.int .i64 0), (.int .i64 0)] (by rfl) (by decide) (by decide)) ?_
            simp -implicitDefEqProofs only [go_sem, ne_eq, not_false_eq_true, Nat.reduceBEq, Nat.reduceAdd, Nat.reduceSub, Nat.reduceMul, Nat.reduceLT, Nat.reduceLeDiff, Int.reduceLE, Int.reduceLT, Int.reduceToNat, Int.reduceBEq, Int.reduceBNe, Int.le_refl, Nat.le_refl, decide_true, decide_false, Int.cast_ofNat_Int, ↓reduceIte, h2868, h2873, h2875, h2878, h2880, h2881, g2882, g2883, h2884, h2899, h2901]
            obtain rfl := Option.some.inj h3075
            exact finC [(4, .v (.ipt [(.int .i64 0), (.int .i64 0)])), (5, .v (.int .i64 12))] [(4, .v (.ipt [(.int .i64 0), (.int .i64 0)])), (5, .v (.int .i64 12))] (by simp [leE, lk_cons]) (.cons _ _ _ _ _ (.v _ _ (.refl _)) (.cons _ _ _ _ _ (.v _ _ (.refl _)) .nil)) (by rfl) (by simp [leE, lk_cons]) (by decide) (by decide) rfl (by simp only [go_sem, ne_eq, not_false_eq_true, Nat.reduceBEq, Nat.reduceAdd, Nat.reduceSub, Nat.reduceMul, Nat.reduceLT, Nat.reduceLeDiff, Int.reduceLE, Int.reduceLT, Int.reduceToNat, Int.reduceBEq, Int.reduceBNe, Int.le_refl, Nat.le_refl, decide_true, decide_false, Int.cast_ofNat_Int, ↓reduceIte, resQ_tmp, resQ_cell, resQ_nil, retD_one, retD_two, retD_three, retD_none]; try simp [R.val, retD_one, retD_two, retD_three, retD_none])
    · refine W_sound tab_ok mixed 23 _ _ _ ?_
      simp -implicitDefEqProofs only [go_sem, ne_eq, not_false_eq_true, Nat.reduceBEq, Nat.reduceAdd, Nat.reduceSub, Nat.reduceMul, Nat.reduceLT, Nat.reduceLeDiff, Int.reduceLE, Int.reduceLT, Int.reduceToNat, Int.reduceBEq, Int.reduceBNe, Int.le_refl, Nat.le_refl, decide_true, decide_false, Int.cast_ofNat_Int, ↓reduceIte, h2868, h2873, h2875, h2878, h2880]
      repeat with_reducible refine And.intro (by first | kernel_rfl | decide) ?_
      refine FinQ_wk (Wk_freeze 4 [(.int .i64 0), (.int .i64 0)] (by rfl) (by decide) (by decide)) ?_
      simp -implicitDefEqProofs only [go_sem, ne_eq, not_false_eq_true, Nat.reduceBEq, Nat.reduceAdd, Nat.reduceSub, Nat.reduceMul, Nat.reduceLT, Nat.reduceLeDiff, Int.reduceLE, Int.reduceLT, Int.reduceToNat, Int.reduceBEq, Int.reduceBNe, Int.le_refl, Nat.le_refl, decide_true, decide_false, Int.cast_ofNat_Int, ↓reduceIte, h2868, h2873, h2875, h2878, h2880]
      obtain rfl := Option.some.inj h
      exact finC [(4, .v (.ipt [(.int .i64 0), (.int .i64 0)])), (5, .v (.int .i64 1))] [(4, .v (.ipt [(.int .i64 0), (.int .i64 0)])), (5, .v (.int .i64 1))] (by simp [leE, lk_cons]) (.cons _ _ _ _ _ (.v _ _ (.refl _)) (.cons _ _ _ _ _ (.v _ _ (.refl _)) .nil)) (by rfl) (by simp [leE, lk_cons]) (by decide) (by decide) rfl (by simp only [go_sem, ne_eq, not_false_eq_true, Nat.reduceBEq, Nat.reduceAdd, Nat.reduceSub, Nat.reduceMul, Nat.reduceLT, Nat.reduceLeDiff, Int.reduceLE, Int.reduceLT, Int.reduceToNat, Int.reduceBEq, Int.reduceBNe, Int.le_refl, Nat.le_refl, decide_true, decide_false, Int.cast_ofNat_Int, ↓reduceIte, resQ_tmp, resQ_cell, resQ_nil, retD_one, retD_two, retD_three, retD_none]; try simp [R.val, retD_one, retD_two, retD_three, retD_none])
  · have hh := brn_some h; clear h; rcases hh with ⟨h2977, h⟩ | ⟨h2977, h⟩
    · refine W_sound tab_ok mixed 31 _ _ _ ?_
      simp -implicitDefEqProofs only [go_sem, ne_eq, not_false_eq_true, Nat.reduceBEq, Nat.reduceAdd, Nat.reduceSub, Nat.reduceMul, Nat.reduceLT, Nat.reduceLeDiff, Int.reduceLE, Int.reduceLT, Int.reduceToNat, Int.reduceBEq, Int.reduceBNe, Int.le_refl, Nat.le_refl, decide_true, decide_false, Int.cast_ofNat_Int, ↓reduceIte, h2868, h2873, h2875, h2977]
      repeat with_reducible refine And.intro (by first | kernel_rfl | decide) ?_
      refine FinQ_wk (Wk_freeze 4 [(.int .i64 0), (.int .i64 0)] (by rfl) (by decide) (by decide)) ?_
      simp -implicitDefEqProofs only [go_sem, ne_eq, not_false_eq_true, Nat.reduceBEq, Nat.reduceAdd, Nat.reduceSub, Nat.reduceMul, Nat.reduceLT, Nat.reduceLeDiff, Int.reduceLE, Int.reduceLT, Int.reduceToNat, Int.reduceBEq, Int.reduceBNe, Int.le_refl, Nat.le_refl, decide_true, decide_false, Int.cast_ofNat_Int, ↓reduceIte, h2868, h2873, h2875, h2977]
      obtain rfl := Option.some.inj h
      exact finC [(4, .v (.ipt [(.int .i64 0), (.int .i64 0)])), (5, .v (.int .i64 x2874))] [(4, .v (.ipt [(.int .i64 0), (.int .i64 0)])), (5, .v (.int .i64 x2874))] (by simp [leE, lk_cons]) (.cons _ _ _ _ _ (.v _ _ (.refl _)) (.cons _ _ _ _ _ (.v _ _ (.refl _)) .nil)) (by rfl) (by simp [leE, lk_cons]) (by decide) (by decide) rfl (by simp only [go_sem, ne_eq, not_false_eq_true, Nat.reduceBEq, Nat.reduceAdd, Nat.reduceSub, Nat.reduceMul, Nat.reduceLT, Nat.reduceLeDiff, Int.reduceLE, Int.reduceLT, Int.reduceToNat, Int.reduceBEq, Int.reduceBNe, Int.le_refl, Nat.le_refl, decide_true, decide_false, Int.cast_ofNat_Int, ↓reduceIte, resQ_tmp, resQ_cell, resQ_nil, retD_one, retD_two, retD_three, retD_none]; try simp [R.val, retD_one, retD_two, retD_three, retD_none])
    · have hh := grd_some h; clear h; obtain ⟨g2978, h⟩ := hh
      have hh := grd_some h; clear h; obtain ⟨g2979, h⟩ := hh
      have hh := getI_some h; clear h; obtain ⟨x2981, h2980, h⟩ := hh
      refine W_sound tab_ok mixed 41 _ _ _ ?_
      simp -implicitDefEqProofs only [go_sem, ne_eq, not_false_eq_true, Nat.reduceBEq, Nat.reduceAdd, Nat.reduceSub, Nat.reduceMul, Nat.reduceLT, Nat.reduceLeDiff, Int.reduceLE, Int.reduceLT, Int.reduceToNat, Int.reduceBEq, Int.reduceBNe, Int.le_refl, Nat.le_refl, decide_true, decide_false, Int.cast_ofNat_Int, ↓reduceIte, h2868, h2873, h2875, h2977, g2978, g2979, h2980]
      repeat with_reducible refine And.intro (by first | kernel_rfl | decide) ?_
      have hh := bnd'_some h; clear h; obtain ⟨o3079, h3080, h3081⟩ := hh
      refine Wp_cut (fun s => ∃ x2991, ∃ x2992, (x2991, x2992) = o3079 ∧ s = ⟨[], [(0, .v (.lst false n2869 c2870)), (1, .v (.int .i64 x2867)), (4, .ptr 0 0), (5, .dead), (6, .dead), (7, .v (.int .i64 x2991)), (8, .v (.int .i64 x2992)), (9, .dead), (10, .dead), (11, .dead), (12, .dead), (13, .dead), (22, .dead), (24, .dead), (38, .dead), (59, .dead), (66, .dead), (95, .dead)], [(0, .p [(.int .i64 0), (.int .i64 0)])], 1, []⟩) ?_ ?_
      · refine Wp_block ?_
        refine Wp_loopG (fun n s => ∃ x2982, ∃ x2983, ∃ x2984, m33_L2 N x2867 n2869 c2870 n x2982 x2983 x2984 = some o3079 ∧ s = ⟨[], [(0, .v (.lst false n2869 c2870)), (1, .v (.int .i64 x2867)), (4, .ptr 0 0), (5, .dead), (6, .dead), (7, .v (.int .i64 x2982)), (8, .v (.int .i64 x2983)), (9, .v (.int .i64 x2984)), (10, .dead), (11, .dead), (12, .dead), (13, .dead), (22, .dead), (24, .dead), (38, .dead), (59, .dead), (66, .dead), (95, .dead)], [(0, .p [(.int .i64 0), (.int .i64 0)])], 1, []⟩) N _ ((Wk_le (.cons _ _ _ _ _ (.refl _) (.cons _ _ _ _ _ (.refl _) (.cons _ _ _ _ _ (.refl _) (.cons _ _ _ _ _ (.dead _) (.cons _ _ _ _ _ (.dead _) (.cons _ _ _ _ _ (.refl _) (.cons _ _ _ _ _ (.refl _) (.cons _ _ _ _ _ (.refl _) (.cons _ _ _ _ _ (.refl _) (.cons _ _ _ _ _ (.refl _) (.cons _ _ _ _ _ (.refl _) (.cons _ _ _ _ _ (.refl _) (.cons _ _ _ _ _ (.dead _) (.cons _ _ _ _ _ (.dead _) (.cons _ _ _ _ _ (.refl _) (.cons _ _ _ _ _ (.refl _) (.cons _ _ _ _ _ (.refl _) (.cons _ _ _ _ _ (.refl _) .nil)))))))))))))))))) (OLe.refl _)).trans (cmpS_ok rfl)) ⟨_, _, _, h3080, rfl⟩ ?_
        clear h3080
        rintro n _ ⟨x2982, x2983, x2984, h3080, rfl⟩
        cases n with
        | zero => cases h3080
        | succ n =>
          rw [m33_L2] at h3080
          have hh := brn_some h3080; clear h3080; rcases hh with ⟨h2985, h3080⟩ | ⟨h2985, h3080⟩
          · have hh := grd_some h3080; clear h3080; obtain ⟨⟨g2986, g2987⟩, h3080⟩ := hh
            have hh := grd_some h3080; clear h3080; obtain ⟨g2988, h3080⟩ := hh
            have hh := getI_some h3080; clear h3080; obtain ⟨x2990, h2989, h3080⟩ := hh
            refine W_sound tab_ok mixed 36 _ _ _ ?_
            simp -implicitDefEqProofs only [go_sem, ne_eq, not_false_eq_true, Nat.reduceBEq, Nat.reduceAdd, Nat.reduceSub, Nat.reduceMul, Nat.reduceLT, Nat.reduceLeDiff, Int.reduceLE, Int.reduceLT, Int.reduceToNat, Int.reduceBEq, Int.reduceBNe, Int.le_refl, Nat.le_refl, decide_true, decide_false, Int.cast_ofNat_Int, ↓reduceIte, h2868, h2873, h2875, h2977, g2978, g2979, h2980, h2985, g2986, g2987, g2988, h2989]
            repeat with_reducible refine And.intro (by first | kernel_rfl | decide) ?_
            exact cutQ _ ((Wk_le (.cons _ _ _ _ _ (.refl _) (.cons _ _ _ _ _ (.refl _) (.cons _ _ _ _ _ (.refl _) (.cons _ _ _ _ _ (.refl _) (.cons _ _ _ _ _ (.refl _) (.cons _ _ _ _ _ (.refl _) (.cons _ _ _ _ _ (.refl _) (.cons _ _ _ _ _ (.refl _) (.cons _ _ _ _ _ (.refl _) (.cons _ _ _ _ _ (.refl _) (.cons _ _ _ _ _ (.refl _) (.cons _ _ _ _ _ (.refl _) (.cons _ _ _ _ _ (.refl _) (.cons _ _ _ _ _ (.refl _) (.cons _ _ _ _ _ (.dead _) (.cons _ _ _ _ _ (.refl _) (.cons _ _ _ _ _ (.refl _) (.cons _ _ _ _ _ (.refl _) .nil)))))))))))))))))) (OLe.refl _)).trans (cmpS_ok rfl)) ⟨n, Nat.lt_succ_self n, _, _, _, h3080, rfl⟩
          · refine W_sound tab_ok mixed 10 _ _ _ ?_
            simp -implicitDefEqProofs only [go_sem, ne_eq, not_false_eq_true, Nat.reduceBEq, Nat.reduceAdd, Nat.reduceSub, Nat.reduceMul, Nat.reduceLT, Nat.reduceLeDiff, Int.reduceLE, Int.reduceLT, Int.reduceToNat, Int.reduceBEq, Int.reduceBNe, Int.le_refl, Nat.le_refl, decide_true, decide_false, Int.cast_ofNat_Int, ↓reduceIte, h2868, h2873, h2875, h2977, g2978, g2979, h2980, h2985]
            repeat with_reducible refine And.intro (by first | kernel_rfl | decide) ?_
            obtain rfl := Option.some.inj h3080
            exact cutQ _ ((Wk_le (.cons _ _ _ _ _ (.refl _) (.cons _ _ _ _ _ (.refl _) (.cons _ _ _ _ _ (.refl _) (.cons _ _ _ _ _ (.refl _) (.cons _ _ _ _ _ (.refl _) (.cons _ _ _ _ _ (.refl _) (.cons _ _ _ _ _ (.refl _) (.cons _ _ _ _ _ (.dead _) (.cons _ _ _ _ _ (.refl _) (.cons _ _ _ _ _ (.refl _) (.cons _ _ _ _ _ (.refl _) (.cons _ _ _ _ _ (.refl _) (.cons _ _ _ _ _ (.refl _) (.cons _ _ _ _ _ (.refl _) (.cons _ _ _ _ _ (.dead _) (.cons _ _ _ _ _ (.refl _) (.cons _ _ _ _ _ (.refl _) (.cons _ _ _ _ _ (.refl _) .nil)))))))))))))))))) (OLe.refl _)).trans (cmpS_ok rfl)) ⟨_, _, rfl, rfl⟩
      · rintro _ ⟨x2991, x2992, rfl, rfl⟩
        (try dsimp only at h3081)
        have hh := bnd'_some h3081; clear h3081; obtain ⟨p2993, h2994, h3081⟩ := hh
        refine W_sound tab_ok mixed 6 _ _ _ ?_
        simp -implicitDefEqProofs only [go_sem, ne_eq, not_false_eq_true, Nat.reduceBEq, Nat.reduceAdd, Nat.reduceSub, Nat.reduceMul, Nat.reduceLT, Nat.reduceLeDiff, Int.reduceLE, Int.reduceLT, Int.reduceToNat, Int.reduceBEq, Int.reduceBNe, Int.le_refl, Nat.le_refl, decide_true, decide_false, Int.cast_ofNat_Int, ↓reduceIte, h2868, h2873, h2875, h2977, g2978, g2979, h2980]
        repeat with_reducible refine And.intro (by first | kernel_rfl | decide) ?_
        refine Wp_callP (c64 N _ _ _ _ h2994) (by kernel_rfl) rfl rfl rfl rfl (by decide) ?_
        have hh := getB_some h3081; clear h3081; obtain ⟨b2996, h2995, h3081⟩ := hh
        have hh := brn_some h3081; clear h3081; rcases hh with ⟨h2997, h3081⟩ | ⟨h2997, h3081⟩
        · have hh := bnd'_some h3081; clear h3081; obtain ⟨p2998, h2999, h3081⟩ := hh
          refine W_sound tab_ok mixed 7 _ _ _ ?_
          simp -implicitDefEqProofs only [go_sem, ne_eq, not_false_eq_true, Nat.reduceBEq, Nat.reduceAdd, Nat.reduceSub, Nat.reduceMul, Nat.reduceLT, Nat.reduceLeDiff, Int.reduceLE, Int.reduceLT, Int.reduceToNat, Int.reduceBEq, Int.reduceBNe, Int.le_refl, Nat.le_refl, decide_true, decide_false, Int.cast_ofNat_Int, ↓reduceIte, h2868, h2873, h2875, h2977, g2978, g2979, h2980, h2995, h2997]
          repeat with_reducible refine And.intro (by first | kernel_rfl | decide) ?_
          refine Wp_callP (c71 N _ _ h2999) (by kernel_rfl) rfl rfl rfl rfl (by decide) ?_
          have hh := getL_some h3081; clear h3081; obtain ⟨n3001, c3002, h3000, h3081⟩ := hh
          refine W_sound tab_ok mixed 11 _ _ _ ?_
          simp -implicitDefEqProofs only [go_sem, ne_eq, not_false_eq_true, Nat.reduceBEq, Nat.reduceAdd, Nat.reduceSub, Nat.reduceMul, Nat.reduceLT, Nat.reduceLeDiff, Int.reduceLE, Int.reduceLT, Int.reduceToNat, Int.reduceBEq, Int.reduceBNe, Int.le_refl, Nat.le_refl, decide_true, decide_false, Int.cast_ofNat_Int, ↓reduceIte, h2868, h2873, h2875, h2977, g2978, g2979, h2980, h2995, h2997, h3000]
          repeat with_reducible refine And.intro (by first | kernel_rfl | decide) ?_
          have hh := bnd'_some h3081; clear h3081; obtain ⟨o3082, h3083, h3084⟩ := hh
          refine Wp_cut (fun s => ∃ x3071, ∃ x3072, (x3071, x3072) = o3082 ∧ s = ⟨[], [(0, .dead), (1, .dead), (4, .ptr 0 0), (5, .dead), (6, .dead), (7, .dead), (8, .dead), (9, .dead), (10, .dead), (11, .ptr 1 0), (12, .dead), (13, .dead), (22, .dead), (24, .dead), (38, .dead), (59, .dead), (66, .dead), (95, .dead)], [(0, .p [(.int .i64 0), (.int .i64 0)]), (1, .p [(.int .i64 x3071), (.int .i64 x3072)])], 2, []⟩) ?_ ?_
          · refine Wp_block ?_
            refine Wp_loopG (fun n s => ∃ x3036, ∃ x3037, ∃ x3038, m33_L3 N x2867 n2869 c2870 n3001 c3002 n x3036 x3037 x3038 = some o3082 ∧ s = ⟨[], [(0, .v (.lst false n2869 c2870)), (1, .v (.int .i64 x2867)), (4, .ptr 0 0), (5, .dead), (6, .dead), (7, .dead), (8, .dead), (9, .dead), (10, .v (.lst false n3001 c3002)), (11, .ptr 1 0), (12, .v (.int .i64 x3036)), (13, .dead), (22, .dead), (24, .dead), (38, .dead), (59, .dead), (66, .dead), (95, .dead)], [(0, .p [(.int .i64 0), (.int .i64 0)]), (1, .p [(.int .i64 x3037), (.int .i64 x3038)])], 2, []⟩) N _ ((Wk_le (.cons _ _ _ _ _ (.refl _) (.cons _ _ _ _ _ (.refl _) (.cons _ _ _ _ _ (.refl _) (.cons _ _ _ _ _ (.refl _) (.cons _ _ _ _ _ (.refl _) (.cons _ _ _ _ _ (.dead _) (.cons _ _ _ _ _ (.dead _) (.cons _ _ _ _ _ (.refl _) (.cons _ _ _ _ _ (.refl _) (.cons _ _ _ _ _ (.refl _) (.cons _ _ _ _ _ (.refl _) (.cons _ _ _ _ _ (.refl _) (.cons _ _ _ _ _ (.refl _) (.cons _ _ _ _ _ (.refl _) (.cons _ _ _ _ _ (.refl _) (.cons _ _ _ _ _ (.dead _) (.cons _ _ _ _ _ (.refl _) (.cons _ _ _ _ _ (.refl _) .nil)))))))))))))))))) (OLe.refl _)).trans (cmpS_ok rfl)) ⟨_, _, _, h3083, rfl⟩ ?_
            clear h3083
            rintro n _ ⟨x3036, x3037, x3038, h3083, rfl⟩
            cases n with
            | zero => cases h3083
            | succ n =>
              rw [m33_L3] at h3083
              have hh := brn_some h3083; clear h3083; rcases hh with ⟨h3039, h3083⟩ | ⟨h3039, h3083⟩
              · have hh := grd_some h3083; clear h3083; obtain ⟨⟨g3040, g3041⟩, h3083⟩ := hh
                have hh := grd_some h3083; clear h3083; obtain ⟨g3042, h3083⟩ := hh
                have hh := getA2_some h3083; clear h3083; obtain ⟨p3044, p3045, h3043, h3083⟩ := hh
                injection h3043 with h3043
                have hh := bnd'_some h3083; clear h3083; obtain ⟨p3046, h3047, h3083⟩ := hh
                refine W_sound tab_ok mixed 19 _ _ _ ?_
                simp -implicitDefEqProofs only [go_sem, ne_eq, not_false_eq_true, Nat.reduceBEq, Nat.reduceAdd, Nat.reduceSub, Nat.reduceMul, Nat.reduceLT, Nat.reduceLeDiff, Int.reduceLE, Int.reduceLT, Int.reduceToNat, Int.reduceBEq, Int.reduceBNe, Int.le_refl, Nat.le_refl, decide_true, decide_false, Int.cast_ofNat_Int, ↓reduceIte, h2868, h2873, h2875, h2977, g2978, g2979, h2980, h2995, h2997, h3000, h3039, g3040, g3041, g3042, h3043]
                repeat with_reducible refine And.intro (by first | kernel_rfl | decide) ?_
                refine Wp_callP (c61 N _ _ _ h3047) (by kernel_rfl) rfl rfl rfl rfl (by decide) ?_
                have hh := getI_some h3083; clear h3083; obtain ⟨x3049, h3048, h3083⟩ := hh
                have hh := grd_some h3083; clear h3083; obtain ⟨g3050, h3083⟩ := hh
                have hh := getI_some h3083; clear h3083; obtain ⟨x3052, h3051, h3083⟩ := hh
                have hh := grd_some h3083; clear h3083; obtain ⟨g3053, h3083⟩ := hh
                have hh := getI_some h3083; clear h3083; obtain ⟨x3055, h3054, h3083⟩ := hh
                have hh := bnd'_some h3083; clear h3083; obtain ⟨p3056, h3057, h3083⟩ := hh
                refine W_sound tab_ok mixed 13 _ _ _ ?_
                simp -implicitDefEqProofs only [go_sem, ne_eq, not_false_eq_true, Nat.reduceBEq, Nat.reduceAdd, Nat.reduceSub, Nat.reduceMul, Nat.reduceLT, Nat.reduceLeDiff, Int.reduceLE, Int.reduceLT, Int.reduceToNat, Int.reduceBEq, Int.reduceBNe, Int.le_refl, Nat.le_refl, decide_true, decide_false, Int.cast_ofNat_Int, ↓reduceIte, h2868, h2873, h2875, h2977, g2978, g2979, h2980, h2995, h2997, h3000, h3039, g3040, g3041, g3042, h3043, h3048, g3050, h3051, g3053, h3054]
                repeat with_reducible refine And.intro (by first | kernel_rfl | decide) ?_
                refine Wp_callP (c60 N _ _ _ h3057) (by kernel_rfl) rfl rfl rfl rfl (by decide) ?_
                have hh := getA2_some h3083; clear h3083; obtain ⟨p3059, p3060, h3058, h3083⟩ := hh
                have hh := getI_some h3083; clear h3083; obtain ⟨x3062, h3061, h3083⟩ := hh
                have hh := getI_some h3083; clear h3083; obtain ⟨x3064, h3063, h3083⟩ := hh
                have hh := brn_some h3083; clear h3083; rcases hh with ⟨h3065, h3083⟩ | ⟨h3065, h3083⟩
                · refine W_sound tab_ok mixed 24 _ _ _ ?_
                  simp -implicitDefEqProofs only [go_sem, ne_eq, not_false_eq_true, Nat.reduceBEq, Nat.reduceAdd, Nat.reduceSub, Nat.reduceMul, Nat.reduceLT, Nat.reduceLeDiff, Int.reduceLE, Int.reduceLT, Int.reduceToNat, Int.reduceBEq, Int.reduceBNe, Int.le_refl, Nat.le_refl, decide_true, decide_false, Int.cast_ofNat_Int, ↓reduceIte, h2868, h2873, h2875, h2977, g2978, g2979, h2980, h2995, h2997, h3000, h3039, g3040, g3041, g3042, h3043, h3048, g3050, h3051, g3053, h3054, h3058, h3061, h3063, h3065]
                  repeat with_reducible refine And.intro (by first | kernel_rfl | decide) ?_
                  exact cutQ _ ((Wk_le (.cons _ _ _ _ _ (.refl _) (.cons _ _ _ _ _ (.refl _) (.cons _ _ _ _ _ (.refl _) (.cons _ _ _ _ _ (.refl _) (.cons _ _ _ _ _ (.refl _) (.cons _ _ _ _ _ (.refl _) (.cons _ _ _ _ _ (.refl _) (.cons _ _ _ _ _ (.refl _) (.cons _ _ _ _ _ (.refl _) (.cons _ _ _ _ _ (.refl _) (.cons _ _ _ _ _ (.refl _) (.cons _ _ _ _ _ (.dead _) (.cons _ _ _ _ _ (.refl _) (.cons _ _ _ _ _ (.refl _) (.cons _ _ _ _ _ (.refl _) (.cons _ _ _ _ _ (.refl _) (.cons _ _ _ _ _ (.dead _) (.cons _ _ _ _ _ (.dead _) .nil)))))))))))))))))) (OLe.refl _)).trans (cmpS_ok rfl)) ⟨n, Nat.lt_succ_self n, _, _, _, h3083, rfl⟩
                · have hh := bnd'_some h3083; clear h3083; obtain ⟨p3066, h3067, h3083⟩ := hh
                  refine W_sound tab_ok mixed 10 _ _ _ ?_
                  simp -implicitDefEqProofs only [go_sem, ne_eq, not_false_eq_true, Nat.reduceBEq, Nat.reduceAdd, Nat.reduceSub, Nat.reduceMul, Nat.reduceLT, Nat.reduceLeDiff, Int.reduceLE, Int.reduceLT, Int.reduceToNat, Int.reduceBEq, Int.reduceBNe, Int.le_refl, Nat.le_refl, decide_true, decide_false, Int.cast_ofNat_Int, ↓reduceIte, h2868, h2873, h2875, h2977, g2978, g2979, h2980, h2995, h2997, h3000, h3039, g3040, g3041, g3042, h3043, h3048, g3050, h3051, g3053, h3054, h3058, h3061, h3063, h3065]
                  repeat with_reducible refine And.intro (by first | kernel_rfl | decide) ?_
                  refine Wp_callP (c72 N _ _ _ h3067) (by kernel_rfl) rfl rfl rfl rfl (by decide) ?_
                  have hh := getB_some h3083; clear h3083; obtain ⟨b3069, h3068, h3083⟩ := hh
                  have hh := brn_some h3083; clear h3083; rcases hh with ⟨h3070, h3083⟩ | ⟨h3070, h3083⟩
                  · refine W_sound tab_ok mixed 13 _ _ _ ?_
                    simp -implicitDefEqProofs only [go_sem, ne_eq, not_false_eq_true, Nat.reduceBEq, Nat.reduceAdd, Nat.reduceSub, Nat.reduceMul, Nat.reduceLT, Nat.reduceLeDiff, Int.reduceLE, Int.reduceLT, Int.reduceToNat, Int.reduceBEq, Int.reduceBNe, Int.le_refl, Nat.le_refl, decide_true, decide_false, Int.cast_ofNat_Int, ↓reduceIte, h2868, h2873, h2875, h2977, g2978, g2979, h2980, h2995, h2997, h3000, h3039, g3040, g3041, g3042, h3043, h3048, g3050, h3051, g3053, h3054, h3058, h3061, h3063, h3065, h3068, h3070]
                    repeat with_reducible refine And.intro (by first | kernel_rfl | decide) ?_
                    exact cutQ _ ((Wk_le (.cons _ _ _ _ _ (.refl _) (.cons _ _ _ _ _ (.refl _) (.cons _ _ _ _ _ (.refl _) (.cons _ _ _ _ _ (.refl _) (.cons _ _ _ _ _ (.refl _) (.cons _ _ _ _ _ (.refl _) (.cons _ _ _ _ _ (.refl _) (.cons _ _ _ _ _ (.refl _) (.cons _ _ _ _ _ (.refl _) (.cons _ _ _ _ _ (.refl _) (.cons _ _ _ _ _ (.refl _) (.cons _ _ _ _ _ (.dead _) (.cons _ _ _ _ _ (.refl _) (.cons _ _ _ _ _ (.refl _) (.cons _ _ _ _ _ (.refl _) (.cons _ _ _ _ _ (.refl _) (.cons _ _ _ _ _ (.dead _) (.cons _ _ _ _ _ (.dead _) .nil)))))))))))))))))) (OLe.refl _)).trans (cmpS_ok rfl)) ⟨n, Nat.lt_succ_self n, _, _, _, h3083, rfl⟩
                  · refine W_sound tab_ok mixed 10 _ _ _ ?_
                    simp -implicitDefEqProofs only [go_sem, ne_eq, not_false_eq_true, Nat.reduceBEq, Nat.reduceAdd, Nat.reduceSub, Nat.reduceMul, Nat.reduceLT, Nat.reduceLeDiff, Int.reduceLE, Int.reduceLT, Int.reduceToNat, Int.reduceBEq, Int.reduceBNe, Int.le_refl, Nat.le_refl, decide_true, decide_false, Int.cast_ofNat_Int, ↓reduceIte, h2868, h2873, h2875, h2977, g2978, g2979, h2980, h2995, h2997, h3000, h3039, g3040, g3041, g3042, h3043, h3048, g3050, h3051, g3053, h3054, h3058, h3061, h3063, h3065, h3068, h3070]
                    repeat with_reducible refine And.intro (by first | kernel_rfl | decide) ?_
                    exact cutQ _ ((Wk_le (.cons _ _ _ _ _ (.refl _) (.cons _ _ _ _ _ (.refl _) (.cons _ _ _ _ _ (.refl _) (.cons _ _ _ _ _ (.refl _) (.cons _ _ _ _ _ (.refl _) (.cons _ _ _ _ _ (.refl _) (.cons _ _ _ _ _ (.refl _) (.cons _ _ _ _ _ (.refl _) (.cons _ _ _ _ _ (.refl _) (.cons _ _ _ _ _ (.refl _) (.cons _ _ _ _ _ (.refl _) (.cons _ _ _ _ _ (.dead _) (.cons _ _ _ _ _ (.refl _) (.cons _ _ _ _ _ (.refl _) (.cons _ _ _ _ _ (.refl _) (.cons _ _ _ _ _ (.refl _) (.cons _ _ _ _ _ (.dead _) (.cons _ _ _ _ _ (.dead _) .nil)))))))))))))))))) (OLe.refl _)).trans (cmpS_ok rfl)) ⟨n, Nat.lt_succ_self n, _, _, _, h3083, rfl⟩
              · refine W_sound tab_ok mixed 10 _ _ _ ?_
                simp -implicitDefEqProofs only [go_sem, ne_eq, not_false_eq_true, Nat.reduceBEq, Nat.reduceAdd, Nat.reduceSub, Nat.reduceMul, Nat.reduceLT, Nat.reduceLeDiff, Int.reduceLE, Int.reduceLT, Int.reduceToNat, Int.reduceBEq, Int.reduceBNe, Int.le_refl, Nat.le_refl, decide_true, decide_false, Int.cast_ofNat_Int, ↓reduceIte, h2868, h2873, h2875, h2977, g2978, g2979, h2980, h2995, h2997, h3000, h3039]
                repeat with_reducible refine And.intro (by first | kernel_rfl | decide) ?_
                obtain rfl := Option.some.inj h3083
                exact cutQ _ ((Wk_le (.cons _ _ _ _ _ (.dead _) (.cons _ _ _ _ _ (.dead _) (.cons _ _ _ _ _ (.refl _) (.cons _ _ _ _ _ (.refl _) (.cons _ _ _ _ _ (.refl _) (.cons _ _ _ _ _ (.refl _) (.cons _ _ _ _ _ (.refl _) (.cons _ _ _ _ _ (.refl _) (.cons _ _ _ _ _ (.dead _) (.cons _ _ _ _ _ (.refl _) (.cons _ _ _ _ _ (.dead _) (.cons _ _ _ _ _ (.refl _) (.cons _ _ _ _ _ (.refl _) (.cons _ _ _ _ _ (.refl _) (.cons _ _ _ _ _ (.refl _) (.cons _ _ _ _ _ (.refl _) (.cons _ _ _ _ _ (.dead _) (.cons _ _ _ _ _ (.refl _) .nil)))))))))))))))))) (OLe.refl _)).trans (cmpS_ok rfl)) ⟨_, _, rfl, rfl⟩
          · rintro _ ⟨x3071, x3072, rfl, rfl⟩
            (try dsimp only at h3084)
            refine W_sound tab_ok mixed 8 _ _ _ ?_
            simp -implicitDefEqProofs only [go_sem, ne_eq, not_false_eq_true, Nat.reduceBEq, Nat.reduceAdd, Nat.reduceSub, Nat.reduceMul, Nat.reduceLT, Nat.reduceLeDiff, Int.reduceLE, Int.reduceLT, Int.reduceToNat, Int.reduceBEq, Int.reduceBNe, Int.le_refl, Nat.le_refl, decide_true, decide_false, Int.cast_ofNat_Int, ↓reduceIte, h2868, h2873, h2875, h2977, g2978, g2979, h2980, h2995, h2997, h3000]
            repeat with_reducible refine And.intro (by first | kernel_rfl | decide) ?_
            refine FinQ_wk (Wk_freeze 0 [(.int .i64 x3071), (.int .i64 x3072)] (by rfl) (by decide) (by decide)) ?_
            simp -implicitDefEqProofs only [go_sem, ne_eq, not_false_eq_true, Nat.reduceBEq, Nat.reduceAdd, Nat.reduceSub, Nat.reduceMul, Nat.reduceLT, Nat.reduceLeDiff, Int.reduceLE, Int.reduceLT, Int.reduceToNat, Int.reduceBEq, Int.reduceBNe, Int.le_refl, Nat.le_refl, decide_true, decide_false, Int.cast_ofNat_Int, ↓reduceIte, h2868, h2873, h2875, h2977, g2978, g2979, h2980, h2995, h2997, h3000]
            obtain rfl := Option.some.inj h3084
            exact finC [(4, .v (.ipt [(.int .i64 x3071), (.int .i64 x3072)])), (5, .v (.int .i64 0))] [(4, .v (.ipt [(.int .i64 x3071), (.int .i64 x3072)])), (5, .v (.int .i64 0))] (by simp [leE, lk_cons]) (.cons _ _ _ _ _ (.v _ _ (.refl _)) (.cons _ _ _ _ _ (.v _ _ (.refl _)) .nil)) (by rfl) (by simp [leE, lk_cons]) (by decide) (by decide) rfl (by simp only [go_sem, ne_eq, not_false_eq_true, Nat.reduceBEq, Nat.reduceAdd, Nat.reduceSub, Nat.reduceMul, Nat.reduceLT, Nat.reduceLeDiff, Int.reduceLE, Int.reduceLT, Int.reduceToNat, Int.reduceBEq, Int.reduceBNe, Int.le_refl, Nat.le_refl, decide_true, decide_false, Int.cast_ofNat_Int, ↓reduceIte, resQ_tmp, resQ_cell, resQ_nil, retD_one, retD_two, retD_three, retD_none]; try simp [R.val, retD_one, retD_two, retD_three, retD_none])
        · refine W_sound tab_ok mixed 11 _ _ _ ?_
          simp -implicitDefEqProofs only [go_sem, ne_eq, not_false_eq_true, Nat.reduceBEq, Nat.reduceAdd, Nat.reduceSub, Nat.reduceMul, Nat.reduceLT, Nat.reduceLeDiff, Int.reduceLE, Int.reduceLT, Int.reduceToNat, Int.reduceBEq, Int.reduceBNe, Int.le_refl, Nat.le_refl, decide_true, decide_false, Int.cast_ofNat_Int, ↓reduceIte, h2868, h2873, h2875, h2977, g2978, g2979, h2980, h2995, h2997]
          repeat with_reducible refine And.intro (by first | kernel_rfl | decide) ?_
          refine FinQ_wk (Wk_freeze 0 [(.int .i64 0), (.int .i64 0)] (by rfl) (by decide) (by decide)) ?_
          simp -implicitDefEqProofs only [go_sem, ne_eq, not_false_eq_true, Nat.reduceBEq, Nat.reduceAdd, Nat.reduceSub, Nat.reduceMul, Nat.reduceLT, Nat.reduceLeDiff, Int.reduceLE, Int.reduceLT, Int.reduceToNat, Int.reduceBEq, Int.reduceBNe, Int.le_refl, Nat.le_refl, decide_true, decide_false, Int.cast_ofNat_Int, ↓reduceIte, h2868, h2873, h2875, h2977, g2978, g2979, h2980, h2995, h2997]
          obtain rfl := Option.some.inj h3081
          exact finC [(4, .v (.ipt [(.int .i64 0), (.int .i64 0)])), (5, .v (.int .i64 12))] [(4, .v (.ipt [(.int .i64 0), (.int .i64 0)])), (5, .v (.int .i64 12))] (by simp [leE, lk_cons]) (.cons _ _ _ _ _ (.v _ _ (.refl _)) (.cons _ _ _ _ _ (.v _ _ (.refl _)) .nil)) (by rfl) (by simp [leE, lk_cons]) (by decide) (by decide) rfl (by simp only [go_sem, ne_eq, not_false_eq_true, Nat.reduceBEq, Nat.reduceAdd, Nat.reduceSub, Nat.reduceMul, Nat.reduceLT, Nat.reduceLeDiff, Int.reduceLE, Int.reduceLT, Int.reduceToNat, Int.reduceBEq, Int.reduceBNe, Int.le_refl, Nat.le_refl, decide_true, decide_false, Int.cast_ofNat_Int, ↓reduceIte, resQ_tmp, resQ_cell, resQ_nil, retD_one, retD_two, retD_three, retD_none]; try simp [R.val, retD_one, retD_two, retD_three, retD_none])

def m32_L0 (N : Nat) (x3086 : Int) (n3088 : Nat) (c3089 : List PV) (n3103 : Nat) (c3104 : List PV) : Nat → Int → Option ((PV ⊕ Unit))
  | 0, _ => none
  | n + 1, x3105 =>
    brn (decide (x3105 < ((n3103 : Nat) : Int))) (
      grd (0 ≤ x3105 ∧ x3105 < ((n3103 : Nat) : Int)) <|
      grd (0 < List.length (List.drop (Int.toNat x3105) c3104)) <|
      getI .i64 (gp c3104 (Int.toNat x3105)) fun x3111 =>
      grd (0 ≤ x3111 ∧ x3111 < ((n3088 : Nat) : Int)) <|
      grd (2 ≤ List.length (List.drop ((Int.toNat x3111) * 2) c3089)) <|
      getA2 (.agg (List.take 2 (List.drop ((Int.toNat x3111) * 2) c3089))) fun p3116 p3117 =>
      getI .i64 p3116 fun x3119 =>
      getI .i64 p3117 fun x3121 =>
      brn (x3086 == x3121) (
        some (.inl (.tup [(.agg [(.int .i64 x3119), (.int .i64 1)]), (.int .i64 0)]))) (
        brn (decide (x3086 < x3121)) (
          brn (decide (x3105 > 0)) (
            grd (0 ≤ (IntKind.i64.wrap (x3105 - 1)) ∧ (IntKind.i64.wrap (x3105 - 1)) < ((n3103 : Nat) : Int)) <|
            grd (0 < List.length (List.drop (Int.toNat (IntKind.i64.wrap (x3105 - 1))) c3104)) <|
            getI .i64 (gp c3104 (Int.toNat (IntKind.i64.wrap (x3105 - 1)))) fun x3129 =>
            grd (0 ≤ x3129 ∧ x3129 < ((n3088 : Nat) : Int)) <|
            grd (2 ≤ List.length (List.drop ((Int.toNat x3129) * 2) c3089)) <|
            getA2 (.agg (List.take 2 (List.drop ((Int.toNat x3129) * 2) c3089))) fun p3134 p3135 =>
            getI .i64 p3134 fun x3137 =>
            getI .i64 p3135 fun x3139 =>
            bnd' (m58 N (IntKind.i64.wrap ((IntKind.i64.wrap (x3137 * (IntKind.i64.wrap (x3121 - x3086)))) + (IntKind.i64.wrap (x3119 * (IntKind.i64.wrap (x3086 - x3139)))))) (IntKind.i64.wrap (x3121 - x3139))) fun p3140 =>
            getA2 p3140 fun p3143 p3144 =>
            getI .i64 p3143 fun x3146 =>
            getI .i64 p3144 fun x3148 =>
            some (.inl (.tup [(.agg [(.int .i64 x3146), (.int .i64 x3148)]), (.int .i64 0)]))) (
            some (.inl (.tup [(.agg [(.int .i64 0), (.int .i64 0)]), (.int .i64 12)])))) (
          m32_L0 N x3086 n3088 c3089 n3103 c3104 n (IntKind.i64.wrap (x3105 + 1))))) (
      some (.inr ()))
def m32 (N : Nat) (p3085 : PV) (x3086 : Int) : Option (PV) :=
  getL p3085 fun n3088 c3089 =>
  bnd' (m22 N (.lst false n3088 c3089)) fun p3090 =>
  getI .i64 p3090 fun x3093 =>
  brn (x3093 != 0) (
    some (.tup [(.agg [(.int .i64 0), (.int .i64 0)]), (.int .i64 x3093)])) (
    bnd' (m63 N x3086 10) fun p3095 =>
    getB p3095 fun b3098 =>
    brn b3098 (
      bnd' (m65 N (.lst false n3088 c3089)) fun p3100 =>
      getL p3100 fun n3103 c3104 =>
      bnd' (m32_L0 N x3086 n3088 c3089 n3103 c3104 N 0) fun o =>
      match o with
      | .inl p3149 =>
        some p3149
      | .inr () =>
        some (.tup [(.agg [(.int .i64 0), (.int .i64 0)]), (.int .i64 12)])) (
      some (.tup [(.agg [(.int .i64 0), (.int .i64 0)]), (.int .i64 1)])))
theorem c32 (N : Nat) (p3085 : PV) (x3086 : Int) (r : PV)  (h : m32 N p3085 x3086 = some r) : FnP Try.prog 32 [p3085, (.int .i64 x3086)] r := by
  unfold m32 at h
  refine Fn_of (sz := 91) tab_ok [0, 1, 4, 5, 6, 7, 8, 9, 10, 11, 14, 19, 26, 27, 28, 29, 37, 45, 83] [.cell 4 24, .tmp 5] Try.func32 rfl rfl rfl (by simp) ?_
  simp only [initSt, initEnv, List.map_cons, List.map_nil, List.getD_cons_zero, List.getD_cons_succ, List.getD_nil]
  have hh := getL_some h; clear h; obtain ⟨n3088, c3089, h3087, h⟩ := hh
  have hh := bnd'_some h; clear h; obtain ⟨p3090, h3091, h⟩ := hh
  refine W_sound tab_ok mixed 8 _ _ _ ?_
  simp -implicitDefEqProofs only [go_sem, ne_eq, not_false_eq_true, Nat.reduceBEq, Nat.reduceAdd, Nat.reduceSub, Nat.reduceMul, Nat.reduceLT, Nat.reduceLeDiff, Int.reduceLE, Int.reduceLT, Int.reduceToNat, Int.reduceBEq, Int.reduceBNe, Int.le_refl, Nat.le_refl, decide_true, decide_false, Int.cast_ofNat_Int, ↓reduceIte, h3087]
  repeat with_reducible refine And.intro (by first | kernel_rfl | decide) ?_
  refine Wp_callP (c22 N _ _ h3091) (by kernel_rfl) rfl rfl rfl rfl (by decide) ?_
  have hh := getI_some h; clear h; obtain ⟨x3093, h3092, h⟩ := hh
  have hh := brn_some h; clear h; rcases hh with ⟨h3094, h⟩ | ⟨h3094, h⟩
  · refine W_sound tab_ok mixed 20 _ _ _ ?_
    simp -implicitDefEqProofs only [go_sem, ne_eq, not_false_eq_true, Nat.reduceBEq, Nat.reduceAdd, Nat.reduceSub, Nat.reduceMul, Nat.reduceLT, Nat.reduceLeDiff, Int.reduceLE, Int.reduceLT, Int.reduceToNat, Int.reduceBEq, Int.reduceBNe, Int.le_refl, Nat.le_refl, decide_true, decide_false, Int.cast_ofNat_Int, ↓reduceIte, h3087, h3092, h3094]
    repeat with_reducible refine And.intro (by first | kernel_rfl | decide) ?_
    refine FinQ_wk (Wk_freeze 4 [(.int .i64 0), (.int .i64 0)] (by rfl) (by decide) (by decide)) ?_
    simp -implicitDefEqProofs only [go_sem, ne_eq, not_false_eq_true, Nat.reduceBEq, Nat.reduceAdd, Nat.reduceSub, Nat.reduceMul, Nat.reduceLT, Nat.reduceLeDiff, Int.reduceLE, Int.reduceLT, Int.reduceToNat, Int.reduceBEq, Int.reduceBNe, Int.le_refl, Nat.le_refl, decide_true, decide_false, Int.cast_ofNat_Int, ↓reduceIte, h3087, h3092, h3094]
    obtain rfl := Option.some.inj h
    exact finC [(4, .v (.ipt [(.int .i64 0), (.int .i64 0)])), (5, .v (.int .i64 x3093))] [(4, .v (.ipt [(.int .i64 0), (.int .i64 0)])), (5, .v (.int .i64 x3093))] (by simp [leE, lk_cons]) (.cons _ _ _ _ _ (.v _ _ (.refl _)) (.cons _ _ _ _ _ (.v _ _ (.refl _)) .nil)) (by rfl) (by simp [leE, lk_cons]) (by decide) (by decide) rfl (by simp only [go_sem, ne_eq, not_false_eq_true, Nat.reduceBEq, Nat.reduceAdd, Nat.reduceSub, Nat.reduceMul, Nat.reduceLT, Nat.reduceLeDiff, Int.reduceLE, Int.reduceLT, Int.reduceToNat, Int.reduceBEq, Int.reduceBNe, Int.le_refl, Nat.le_refl, decide_true, decide_false, Int.cast_ofNat_Int, ↓reduceIte, resQ_tmp, resQ_cell, resQ_nil, retD_one, retD_two, retD_three, retD_none]; try simp [R.val, retD_one, retD_two, retD_three, retD_none])
  · have hh := bnd'_some h; clear h; obtain ⟨p3095, h3096, h⟩ := hh
    refine W_sound tab_ok mixed 14 _ _ _ ?_
    simp -implicitDefEqProofs only [go_sem, ne_eq, not_false_eq_true, Nat.reduceBEq, Nat.reduceAdd, Nat.reduceSub, Nat.reduceMul, Nat.reduceLT, Nat.reduceLeDiff, Int.reduceLE, Int.reduceLT, Int.reduceToNat, Int.reduceBEq, Int.reduceBNe, Int.le_refl, Nat.le_refl, decide_true, decide_false, Int.cast_ofNat_Int, ↓reduceIte, h3087, h3092, h3094]
    repeat with_reducible refine And.intro (by first | kernel_rfl | decide) ?_
    refine Wp_callP (c63 N _ _ _ h3096) (by kernel_rfl) rfl rfl rfl rfl (by decide) ?_
    have hh := getB_some h; clear h; obtain ⟨b3098, h3097, h⟩ := hh
    have hh := brn_some h; clear h; rcases hh with ⟨h3099, h⟩ | ⟨h3099, h⟩
    · have hh := bnd'_some h; clear h; obtain ⟨p3100, h3101, h⟩ := hh
      refine W_sound tab_ok mixed 9 _ _ _ ?_
      simp -implicitDefEqProofs only [go_sem, ne_eq, not_false_eq_true, Nat.reduceBEq, Nat.reduceAdd, Nat.reduceSub, Nat.reduceMul, Nat.reduceLT, Nat.reduceLeDiff, Int.reduceLE, Int.reduceLT, Int.reduceToNat, Int.reduceBEq, Int.reduceBNe, Int.le_refl, Nat.le_refl, decide_true, decide_false, Int.cast_ofNat_Int, ↓reduceIte, h3087, h3092, h3094, h3097, h3099]
      repeat with_reducible refine And.intro (by first | kernel_rfl | decide) ?_
      refine Wp_callP (c65 N _ _ h3101) (by kernel_rfl) rfl rfl rfl rfl (by decide) ?_
      have hh := getL_some h; clear h; obtain ⟨n3103, c3104, h3102, h⟩ := hh
      refine W_sound tab_ok mixed 9 _ _ _ ?_
      simp -implicitDefEqProofs only [go_sem, ne_eq, not_false_eq_true, Nat.reduceBEq, Nat.reduceAdd, Nat.reduceSub, Nat.reduceMul, Nat.reduceLT, Nat.reduceLeDiff, Int.reduceLE, Int.reduceLT, Int.reduceToNat, Int.reduceBEq, Int.reduceBNe, Int.le_refl, Nat.le_refl, decide_true, decide_false, Int.cast_ofNat_Int, ↓reduceIte, h3087, h3092, h3094, h3097, h3099, h3102]
      repeat with_reducible refine And.intro (by first | kernel_rfl | decide) ?_
      have hh := bnd'_some h; clear h; obtain ⟨o3150, h3151, h3152⟩ := hh
      refine Wp_cut (fun s => (.inr ()) = o3150 ∧ s = ⟨[], [(0, .dead), (1, .dead), (4, .ptr 0 0), (5, .dead), (6, .dead), (7, .dead), (8, .dead), (9, .dead), (10, .dead), (11, .dead), (14, .dead), (19, .dead), (26, .dead), (27, .dead), (28, .dead), (29, .dead), (37, .dead), (45, .dead), (83, .dead)], [(0, .p [(.int .i64 0), (.int .i64 0)])], 1, []⟩) ?_ ?_
      · refine Wp_block ?_
        refine Wp_loopG (fun n s => ∃ x3105, m32_L0 N x3086 n3088 c3089 n3103 c3104 n x3105 = some o3150 ∧ s = ⟨[], [(0, .v (.lst false n3088 c3089)), (1, .v (.int .i64 x3086)), (4, .ptr 0 0), (5, .dead), (6, .dead), (7, .v (.lst false n3103 c3104)), (8, .dead), (9, .dead), (10, .dead), (11, .dead), (14, .dead), (19, .dead), (26, .v (.lst false n3103 c3104)), (27, .v (.int .i64 ((n3103 : Nat) : Int))), (28, .v (.int .i64 x3105)), (29, .dead), (37, .dead), (45, .dead), (83, .dead)], [(0, .p [(.int .i64 0), (.int .i64 0)])], 1, []⟩) N _ ((Wk_le (.cons _ _ _ _ _ (.refl _) (.cons _ _ _ _ _ (.refl _) (.cons _ _ _ _ _ (.refl _) (.cons _ _ _ _ _ (.dead _) (.cons _ _ _ _ _ (.dead _) (.cons _ _ _ _ _ (.refl _) (.cons _ _ _ _ _ (.refl _) (.cons _ _ _ _ _ (.refl _) (.cons _ _ _ _ _ (.refl _) (.cons _ _ _ _ _ (.refl _) (.cons _ _ _ _ _ (.dead _) (.cons _ _ _ _ _ (.dead _) (.cons _ _ _ _ _ (.refl _) (.cons _ _ _ _ _ (.refl _) (.cons _ _ _ _ _ (.refl _) (.cons _ _ _ _ _ (.refl _) (.cons _ _ _ _ _ (.refl _) (.cons _ _ _ _ _ (.refl _) (.cons _ _ _ _ _ (.refl _) .nil))))))))))))))))))) (OLe.refl _)).trans (cmpS_ok rfl)) ⟨_, h3151, rfl⟩ ?_
        clear h3151
        rintro n _ ⟨x3105, h3151, rfl⟩
        cases n with
        | zero => cases h3151
        | succ n =>
          rw [m32_L0] at h3151
          have hh := brn_some h3151; clear h3151; rcases hh with ⟨h3106, h3151⟩ | ⟨h3106, h3151⟩
          · have hh := grd_some h3151; clear h3151; obtain ⟨⟨g3107, g3108⟩, h3151⟩ := hh
            have hh := grd_some h3151; clear h3151; obtain ⟨g3109, h3151⟩ := hh
            have hh := getI_some h3151; clear h3151; obtain ⟨x3111, h3110, h3151⟩ := hh
            have hh := grd_some h3151; clear h3151; obtain ⟨⟨g3112, g3113⟩, h3151⟩ := hh
            have hh := grd_some h3151; clear h3151; obtain ⟨g3114, h3151⟩ := hh
            have hh := getA2_some h3151; clear h3151; obtain ⟨p3116, p3117, h3115, h3151⟩ := hh
            injection h3115 with h3115
            have hh := getI_some h3151; clear h3151; obtain ⟨x3119, h3118, h3151⟩ := hh
            have hh := getI_some h3151; clear h3151; obtain ⟨x3121, h3120, h3151⟩ := hh
            have hh := brn_some h3151; clear h3151; rcases hh with ⟨h3122, h3151⟩ | ⟨h3122, h3151⟩
            · refine W_sound tab_ok mixed 46 _ _ _ ?_
              simp -implicitDefEqProofs only [go_sem, ne_eq, not_false_eq_true, Nat.reduceBEq, Nat.reduceAdd, Nat.reduceSub, Nat.reduceMul, Nat.reduceLT, Nat.reduceLeDiff, Int.reduceLE, Int.reduceLT, Int.reduceToNat, Int.reduceBEq, Int.reduceBNe, Int.le_refl, Nat.le_refl, decide_true, decide_false, Int.cast_ofNat_Int, ↓reduceIte, h3087, h3092, h3094, h3097, h3099, h3102, h3106, g3107, g3108, g3109, h3110, g3112, g3113, g3114, h3115, h3118, h3120, h3122]
              repeat with_reducible refine And.intro (by first | kernel_rfl | decide) ?_
              refine FinQ_wk (Wk_freeze 0 [(.int .i64 x3119), (.int .i64 1)] (by rfl) (by decide) (by decide)) ?_
              simp -implicitDefEqProofs only [go_sem, ne_eq, not_false_eq_true, Nat.reduceBEq, Nat.reduceAdd, Nat.reduceSub, Nat.reduceMul, Nat.reduceLT, Nat.reduceLeDiff, Int.reduceLE, Int.reduceLT, Int.reduceToNat, Int.reduceBEq, Int.reduceBNe, Int.le_refl, Nat.le_refl, decide_true, decide_false, Int.cast_ofNat_Int, ↓reduceIte, h3087, h3092, h3094, h3097, h3099, h3102, h3106, g3107, g3108, g3109, h3110, g3112, g3113, g3114, h3115, h3118, h3120, h3122]
              obtain rfl := Option.some.inj h3151
              (try dsimp only at h3152)
              obtain rfl := Option.some.inj h3152
              exact finC [(4, .v (.ipt [(.int .i64 x3119), (.int .i64 1)])), (5, .v (.int .i64 0))] [(4, .v (.ipt [(.int .i64 x3119), (.int .i64 1)])), (5, .v (.int .i64 0))] (by simp [leE, lk_cons]) (.cons _ _ _ _ _ (.v _ _ (.refl _)) (.cons _ _ _ _ _ (.v _ _ (.refl _)) .nil)) (by rfl) (by simp [leE, lk_cons]) (by decide) (by decide) rfl (by simp only [go_sem, ne_eq, not_false_eq_true, Nat.reduceBEq, Nat.reduceAdd, Nat.reduceSub, Nat.reduceMul, Nat.reduceLT, Nat.reduceLeDiff, Int.reduceLE, Int.reduceLT, Int.reduceToNat, Int.reduceBEq, Int.reduceBNe, Int.le_refl, Nat.le_refl, decide_true, decide_false, Int.cast_ofNat_Int, ↓reduceIte, resQ_tmp, resQ_cell, resQ_nil, retD_one, retD_two, retD_three, retD_none]; try simp [R.val, retD_one, retD_two, retD_three, retD_none])
            · have hh := brn_some h3151; clear h3151; rcases hh with ⟨h3123, h3151⟩ | ⟨h3123, h3151⟩
              · have hh := brn_some h3151; clear h3151; rcases hh with ⟨h3124, h3151⟩ | ⟨h3124, h3151⟩
                · have hh := grd_some h3151; clear h3151; obtain ⟨⟨g3125, g3126⟩, h3151⟩ := hh
                  have hh := grd_some h3151; clear h3151; obtain ⟨g3127, h3151⟩ := hh
                  have hh := getI_some h3151; clear h3151; obtain ⟨x3129, h3128, h3151⟩ := hh
                  have hh := grd_some h3151; clear h3151; obtain ⟨⟨g3130, g3131⟩, h3151⟩ := hh
                  have hh := grd_some h3151; clear h3151; obtain ⟨g3132, h3151⟩ := hh
                  have hh := getA2_some h3151; clear h3151; obtain ⟨p3134, p3135, h3133, h3151⟩ := hh
                  injection h3133 with h3133
                  have hh := getI_some h3151; clear h3151; obtain ⟨x3137, h3136, h3151⟩ := hh
                  have hh := getI_some h3151; clear h3151; obtain ⟨x3139, h3138, h3151⟩ := hh
                  have hh := bnd'_some h3151; clear h3151; obtain ⟨p3140, h3141, h3151⟩ := hh
                  refine W_sound tab_ok mixed 84 _ _ _ ?_
                  simp -implicitDefEqProofs only [go_sem, ne_eq, not_false_eq_true, Nat.reduceBEq, Nat.reduceAdd, Nat.reduceSub, Nat.reduceMul, Nat.reduceLT, Nat.reduceLeDiff, Int.reduceLE, Int.reduceLT, Int.reduceToNat, Int.reduceBEq, Int.reduceBNe, Int.le_refl, Nat.le_refl, decide_true, decide_false, Int.cast_ofNat_Int, ↓reduceIte, h3087, h3092, h3094, h3097, h3099, h3102, h3106, g3107, g3108, g3109, h3110, g3112, g3113, g3114, h3115, h3118, h3120, h3122, h3123, h3124, g3125, g3126, g3127, h3128, g3130, g3131, g3132, h3133, h3136, h3138]
                  repeat with_reducible refine And.intro (by first | kernel_rfl | decide) ?_
                  refine Wp_callP (c58 N _ _ _ h3141) (by kernel_rfl) rfl rfl rfl rfl (by decide) ?_
                  have hh := getA2_some h3151; clear h3151; obtain ⟨p3143, p3144, h3142, h3151⟩ := hh
                  have hh := getI_some h3151; clear h3151; obtain ⟨x3146, h3145, h3151⟩ := hh
                  have hh := getI_some h3151; clear h3151; obtain ⟨x3148, h3147, h3151⟩ := hh
                  refine W_sound tab_ok mixed 5 _ _ _ ?_
                  simp -implicitDefEqProofs only [go_sem, ne_eq, not_false_eq_true, Nat.reduceBEq, Nat.reduceAdd, Nat.reduceSub, Nat.reduceMul, Nat.reduceLT, Nat.reduceLeDiff, Int.reduceLE, Int.reduceLT, Int.reduceToNat, Int.reduceBEq, Int.reduceBNe, Int.le_refl, Nat.le_refl, decide_true, decide_false, Int.cast_ofNat_Int, ↓reduceIte, h3087, h3092, h3094, h3097, h3099, h3102, h3106, g3107, g3108, g3109, h3110, g3112, g3113, g3114, h3115, h3118, h3120, h3122, h3123, h3124, g3125, g3126, g3127, h3128, g3130, g3131, g3132, h3133, h3136, h3138, h3142, h3145, h3147]
                  repeat with_reducible refine And.intro (by first | kernel_rfl | decide) ?_
                  refine FinQ_wk (Wk_freeze 0 [(.int .i64 x3146), (.int .i64 x3148)] (by rfl) (by decide) (by decide)) ?_
                  simp -implicitDefEqProofs only [go_sem, ne_eq, not_false_eq_true, Nat.reduceBEq, Nat.reduceAdd, Nat.reduceSub, Nat.reduceMul, Nat.reduceLT, Nat.reduceLeDiff, Int.reduceLE, Int.reduceLT, Int.reduceToNat, Int.reduceBEq, Int.reduceBNe, Int.le_refl, Nat.le_refl, decide_true, decide_false, Int.cast_ofNat_Int, ↓reduceIte, h3087, h3092, h3094, h3097, h3099, h3102, h3106, g3107, g3108, g3109, h3110, g3112, g3113, g3114, h3115, h3118, h3120, h3122, h3123, h3124, g3125, g3126, g3127, h3128, g3130, g3131, g3132, h3133, h3136, h3138, h3142, h3145, h3147]
                  obtain rfl := Option.some.inj h3151
                  (try dsimp only at h3152)
                  obtain rfl := Option.some.inj h3152
                  exact finC [(4, .v (.ipt [(.int .i64 x3146), (.int .i64 x3148)])), (5, .v (.int .i64 0))] [(4, .v (.ipt [(.int .i64 x3146), (.int .i64 x3148)])), (5, .v (.int .i64 0))] (by simp [leE, lk_cons]) (.cons _ _ _ _ _ (.v _ _ (.refl _)) (.cons _ _ _ _ _ (.v _ _ (.refl _)) .nil)) (by rfl) (by simp [leE, lk_cons]) (by decide) (by decide) rfl (by simp only [go_sem, ne_eq, not_false_eq_true, Nat.reduceBEq, Nat.reduceAdd, Nat.reduceSub, Nat.reduceMul, Nat.reduceLT, Nat.reduceLeDiff, Int.reduceLE, Int.reduceLT, Int.reduceToNat, Int.reduceBEq, Int.reduceBNe, Int.le_refl, Nat.le_refl, decide_true, decide_false, Int.cast_ofNat_Int, ↓reduceIte, resQ_tmp, resQ_cell, resQ_nil, retD_one, retD_two, retD_three, retD_none]; try simp [R.val, retD_one, retD_two, retD_three, retD_none])
                · refine W_sound tab_ok mixed 66 _ _ _ ?_
                  simp -implicitDefEqProofs only [go_sem, ne_eq, not_false_eq_true, Nat.reduceBEq, Nat.reduceAdd, Nat.reduceSub, Nat.reduceMul, Nat.reduceLT, Nat.reduceLeDiff, Int.reduceLE, Int.reduceLT, Int.reduceToNat, Int.reduceBEq, Int.reduceBNe, Int.le_refl, Nat.le_refl, decide_true, decide_false, Int.cast_ofNat_Int, ↓reduceIte, h3087, h3092, h3094, h3097, h3099, h3102, h3106, g3107, g3108, g3109, h3110, g3112, g3113, g3114, h3115, h3118, h3120, h3122, h3123, h3124]
                  repeat with_reducible refine And.intro (by first | kernel_rfl | decide) ?_
                  refine FinQ_wk (Wk_freeze 0 [(.int .i64 0), (.int .i64 0)] (by rfl) (by decide) (by decide)) ?_
                  simp -implicitDefEqProofs only [go_sem, ne_eq, not_false_eq_true, Nat.reduceBEq, Nat.reduceAdd, Nat.reduceSub, Nat.reduceMul, Nat.reduceLT, Nat.reduceLeDiff, Int.reduceLE, Int.reduceLT, Int.reduceToNat, Int.reduceBEq, Int.reduceBNe, Int.le_refl, Nat.le_refl, decide_true, decide_false, Int.cast_ofNat_Int, ↓reduceIte, h3087, h3092, h3094, h3097, h3099, h3102, h3106, g3107, g3108, g3109, h3110, g3112, g3113, g3114, h3115, h3118, h3120, h3122, h3123, h3124]
                  obtain rfl := Option.some.inj h3151
                  (try dsimp only at h3152)
                  obtain rfl := Option.some.inj h3152
                  exact finC [(4, .v (.ipt [(.int .i64 0), (.int .i64 0)])), (5, .v (.int .i64 12))] [(4, .v (.ipt [(.int .i64 0), (.int .i64 0)])), (5, .v (.int .i64 12))] (by simp [leE, lk_cons]) (.cons _ _ _ _ _ (.v _ _ (.refl _)) (.cons _ _ _ _ _ (.v _ _ (.refl _)) .nil)) (by rfl) (by simp [leE, lk_cons]) (by decide) (by decide) rfl (by simp only [go_sem, ne_eq, not_false_eq_true, Nat.reduceBEq, Nat.reduceAdd, Nat.reduceSub, Nat.reduceMul, Nat.reduceLT, Nat.reduceLeDiff, Int.reduceLE, Int.reduceLT, Int.reduceToNat, Int.reduceBEq, Int.reduceBNe, Int.le_refl, Nat.le_refl, decide_true, decide_false, Int.cast_ofNat_Int, ↓reduceIte, resQ_tmp, resQ_cell, resQ_nil, retD_one, retD_two, retD_three, retD_none]; try simp [R.val, retD_one, retD_two, retD_three, retD_none])
              · refine W_sound tab_ok mixed 65 _ _ _ ?_
                simp -implicitDefEqProofs only [go_sem, ne_eq, not_false_eq_true, Nat.reduceBEq, Nat.reduceAdd, Nat.reduceSub, Nat.reduceMul, Nat.reduceLT, Nat.reduceLeDiff, Int.reduceLE, Int.reduceLT, Int.reduceToNat, Int.reduceBEq, Int.reduceBNe, Int.le_refl, Nat.le_refl, decide_true, decide_false, Int.cast_ofNat_Int, ↓reduceIte, h3087, h3092, h3094, h3097, h3099, h3102, h3106, g3107, g3108, g3109, h3110, g3112, g3113, g3114, h3115, h3118, h3120, h3122, h3123]
                repeat with_reducible refine And.intro (by first | kernel_rfl | decide) ?_
                exact cutQ _ ((Wk_le (.cons _ _ _ _ _ (.refl _) (.cons _ _ _ _ _ (.refl _) (.cons _ _ _ _ _ (.refl _) (.cons _ _ _ _ _ (.refl _) (.cons _ _ _ _ _ (.refl _) (.cons _ _ _ _ _ (.refl _) (.cons _ _ _ _ _ (.dead _) (.cons _ _ _ _ _ (.dead _) (.cons _ _ _ _ _ (.dead _) (.cons _ _ _ _ _ (.refl _) (.cons _ _ _ _ _ (.refl _) (.cons _ _ _ _ _ (.refl _) (.cons _ _ _ _ _ (.refl _) (.cons _ _ _ _ _ (.refl _) (.cons _ _ _ _ _ (.refl _) (.cons _ _ _ _ _ (.dead _) (.cons _ _ _ _ _ (.dead _) (.cons _ _ _ _ _ (.dead _) (.cons _ _ _ _ _ (.dead _) .nil))))))))))))))))))) (OLe.refl _)).trans (cmpS_ok rfl)) ⟨n, Nat.lt_succ_self n, _, h3151, rfl⟩
          · refine W_sound tab_ok mixed 7 _ _ _ ?_
            simp -implicitDefEqProofs only [go_sem, ne_eq, not_false_eq_true, Nat.reduceBEq, Nat.reduceAdd, Nat.reduceSub, Nat.reduceMul, Nat.reduceLT, Nat.reduceLeDiff, Int.reduceLE, Int.reduceLT, Int.reduceToNat, Int.reduceBEq, Int.reduceBNe, Int.le_refl, Nat.le_refl, decide_true, decide_false, Int.cast_ofNat_Int, ↓reduceIte, h3087, h3092, h3094, h3097, h3099, h3102, h3106]
            repeat with_reducible refine And.intro (by first | kernel_rfl | decide) ?_
            obtain rfl := Option.some.inj h3151
            exact cutQ _ ((Wk_le (.cons _ _ _ _ _ (.dead _) (.cons _ _ _ _ _ (.dead _) (.cons _ _ _ _ _ (.refl _) (.cons _ _ _ _ _ (.refl _) (.cons _ _ _ _ _ (.refl _) (.cons _ _ _ _ _ (.dead _) (.cons _ _ _ _ _ (.refl _) (.cons _ _ _ _ _ (.refl _) (.cons _ _ _ _ _ (.refl _) (.cons _ _ _ _ _ (.refl _) (.cons _ _ _ _ _ (.refl _) (.cons _ _ _ _ _ (.refl _) (.cons _ _ _ _ _ (.dead _) (.cons _ _ _ _ _ (.dead _) (.cons _ _ _ _ _ (.dead _) (.cons _ _ _ _ _ (.dead _) (.cons _ _ _ _ _ (.refl _) (.cons _ _ _ _ _ (.refl _) (.cons _ _ _ _ _ (.refl _) .nil))))))))))))))))))) (OLe.refl _)).trans (cmpS_ok rfl)) ⟨rfl, rfl⟩
      · rintro _ ⟨rfl, rfl⟩
        (try dsimp only at h3152)
        refine W_sound tab_ok mixed 8 _ _ _ ?_
        simp -implicitDefEqProofs only [go_sem, ne_eq, not_false_eq_true, Nat.reduceBEq, Nat.reduceAdd, Nat.reduceSub, Nat.reduceMul, Nat.reduceLT, Nat.reduceLeDiff, Int.reduceLE, Int.reduceLT, Int.reduceToNat, Int.reduceBEq, Int.reduceBNe, Int.le_refl, Nat.le_refl, decide_true, decide_false, Int.cast_ofNat_Int, ↓reduceIte, h3087, h3092, h3094, h3097, h3099, h3102]
        repeat with_reducible refine And.intro (by first | kernel_rfl | decide) ?_
        refine FinQ_wk (Wk_freeze 0 [(.int .i64 0), (.int .i64 0)] (by rfl) (by decide) (by decide)) ?_
        simp -implicitDefEqProofs only [go_sem, ne_eq, not_false_eq_true, Nat.reduceBEq, Nat.reduceAdd, Nat.reduceSub, Nat.reduceMul, Nat.reduceLT, Nat.reduceLeDiff, Int.reduceLE, Int.reduceLT, Int.reduceToNat, Int.reduceBEq, Int.reduceBNe, Int.le_refl, Nat.le_refl, decide_true, decide_false, Int.cast_ofNat_Int, ↓reduceIte, h3087, h3092, h3094, h3097, h3099, h3102]
        obtain rfl := Option.some.inj h3152
        exact finC [(4, .v (.ipt [(.int .i64 0), (.int .i64 0)])), (5, .v (.int .i64 12))] [(4, .v (.ipt [(.int .i64 0), (.int .i64 0)])), (5, .v (.int .i64 12))] (by simp [leE, lk_cons]) (.cons _ _ _ _ _ (.v _ _ (.refl _)) (.cons _ _ _ _ _ (.v _ _ (.refl _)) .nil)) (by rfl) (by simp [leE, lk_cons]) (by decide) (by decide) rfl (by simp only [go_sem, ne_eq, not_false_eq_true, Nat.reduceBEq, Nat.reduceAdd, Nat.reduceSub, Nat.reduceMul, Nat.reduceLT, Nat.reduceLeDiff, Int.reduceLE, Int.reduceLT, Int.reduceToNat, Int.reduceBEq, Int.reduceBNe, Int.le_refl, Nat.le_refl, decide_true, decide_false, Int.cast_ofNat_Int, ↓reduceIte, resQ_tmp, resQ_cell, resQ_nil, retD_one, retD_two, retD_three, retD_none]; try simp [R.val, retD_one, retD_two, retD_three, retD_none])
    · refine W_sound tab_ok mixed 12 _ _ _ ?_
      simp -implicitDefEqProofs only [go_sem, ne_eq, not_false_eq_true, Nat.reduceBEq, Nat.reduceAdd, Nat.reduceSub, Nat.reduceMul, Nat.reduceLT, Nat.reduceLeDiff, Int.reduceLE, Int.reduceLT, Int.reduceToNat, Int.reduceBEq, Int.reduceBNe, Int.le_refl, Nat.le_refl, decide_true, decide_false, Int.cast_ofNat_Int, ↓reduceIte, h3087, h3092, h3094, h3097, h3099]
      repeat with_reducible refine And.intro (by first | kernel_rfl | decide) ?_
      refine FinQ_wk (Wk_freeze 4 [(.int .i64 0), (.int .i64 0)] (by rfl) (by decide) (by decide)) ?_
      simp -implicitDefEqProofs only [go_sem, ne_eq, not_false_eq_true, Nat.reduceBEq, Nat.reduceAdd, Nat.reduceSub, Nat.reduceMul, Nat.reduceLT, Nat.reduceLeDiff, Int.reduceLE, Int.reduceLT, Int.reduceToNat, Int.reduceBEq, Int.reduceBNe, Int.le_refl, Nat.le_refl, decide_true, decide_false, Int.cast_ofNat_Int, ↓reduceIte, h3087, h3092, h3094, h3097, h3099]
      obtain rfl := Option.some.inj h
      exact finC [(4, .v (.ipt [(.int .i64 0), (.int .i64 0)])), (5, .v (.int .i64 1))] [(4, .v (.ipt [(.int .i64 0), (.int .i64 0)])), (5, .v (.int .i64 1))] (by simp [leE, lk_cons]) (.cons _ _ _ _ _ (.v _ _ (.refl _)) (.cons _ _ _ _ _ (.v _ _ (.refl _)) .nil)) (by rfl) (by simp [leE, lk_cons]) (by decide) (by decide) rfl (by simp only [go_sem, ne_eq, not_false_eq_true, Nat.reduceBEq, Nat.reduceAdd, Nat.reduceSub, Nat.reduceMul, Nat.reduceLT, Nat.reduceLeDiff, Int.reduceLE, Int.reduceLT, Int.reduceToNat, Int.reduceBEq, Int.reduceBNe, Int.le_refl, Nat.le_refl, decide_true, decide_false, Int.cast_ofNat_Int, ↓reduceIte, resQ_tmp, resQ_cell, resQ_nil, retD_one, retD_two, retD_three, retD_none]; try simp [R.val, retD_one, retD_two, retD_three, retD_none])

def m73 (N : Nat) (p3240 : PV) (p3241 : PV) : Option (PV) :=
  getA2 p3240 fun p3243 p3244 =>
  getA2 p3241 fun p3246 p3247 =>
  getI .i64 p3243 fun x3249 =>
  getI .i64 p3247 fun x3251 =>
  getI .i64 p3246 fun x3253 =>
  getI .i64 p3244 fun x3255 =>
  some (.int .i64 (IntKind.i64.wrap ((IntKind.i64.wrap (x3249 * x3251)) - (IntKind.i64.wrap (x3253 * x3255)))))
theorem c73 (N : Nat) (p3240 : PV) (p3241 : PV) (r : PV)  (h : m73 N p3240 p3241 = some r) : FnP Try.prog 73 [p3240, p3241] r := by
  unfold m73 at h
  refine Fn_of (sz := 16) tab_ok [0, 1, 2, 3, 4] [.tmp 4] Try.func73 rfl rfl rfl (by simp) ?_
  simp only [initSt, initEnv, List.map_cons, List.map_nil, List.getD_cons_zero, List.getD_cons_succ, List.getD_nil]
  have hh := getA2_some h; clear h; obtain ⟨p3243, p3244, h3242, h⟩ := hh
  have hh := getA2_some h; clear h; obtain ⟨p3246, p3247, h3245, h⟩ := hh
  have hh := getI_some h; clear h; obtain ⟨x3249, h3248, h⟩ := hh
  have hh := getI_some h; clear h; obtain ⟨x3251, h3250, h⟩ := hh
  have hh := getI_some h; clear h; obtain ⟨x3253, h3252, h⟩ := hh
  have hh := getI_some h; clear h; obtain ⟨x3255, h3254, h⟩ := hh
  refine W_sound tab_ok mixed 23 _ _ _ ?_
  simp -implicitDefEqProofs only [go_sem, ne_eq, not_false_eq_true, Nat.reduceBEq, Nat.reduceAdd, Nat.reduceSub, Nat.reduceMul, Nat.reduceLT, Nat.reduceLeDiff, Int.reduceLE, Int.reduceLT, Int.reduceToNat, Int.reduceBEq, Int.reduceBNe, Int.le_refl, Nat.le_refl, decide_true, decide_false, Int.cast_ofNat_Int, ↓reduceIte, h3242, h3245, h3248, h3250, h3252, h3254]
  repeat with_reducible refine And.intro (by first | kernel_rfl | decide) ?_
  obtain rfl := Option.some.inj h
  exact finC [(4, .v (.int .i64 (IntKind.i64.wrap ((IntKind.i64.wrap (x3249 * x3251)) - (IntKind.i64.wrap (x3253 * x3255))))))] [(4, .v (.int .i64 (IntKind.i64.wrap ((IntKind.i64.wrap (x3249 * x3251)) - (IntKind.i64.wrap (x3253 * x3255))))))] (by simp [leE, lk_cons]) (.cons _ _ _ _ _ (.v _ _ (.refl _)) .nil) (by rfl) (by simp [leE, lk_cons]) (by decide) (by decide) rfl (by simp only [go_sem, ne_eq, not_false_eq_true, Nat.reduceBEq, Nat.reduceAdd, Nat.reduceSub, Nat.reduceMul, Nat.reduceLT, Nat.reduceLeDiff, Int.reduceLE, Int.reduceLT, Int.reduceToNat, Int.reduceBEq, Int.reduceBNe, Int.le_refl, Nat.le_refl, decide_true, decide_false, Int.cast_ofNat_Int, ↓reduceIte, resQ_tmp, resQ_cell, resQ_nil, retD_one, retD_two, retD_three, retD_none]; try simp [R.val, retD_one, retD_two, retD_three, retD_none])

def m34_L0 (N : Nat) (n3156 : Nat) (c3157 : List PV) (n3159 : Nat) (c3160 : List PV) : Nat → Int → Option ((PV ⊕ Unit))
  | 0, _ => none
  | n + 1, x3161 =>
    brn (decide (x3161 < 2)) (
      grd (0 ≤ x3161 ∧ x3161 < 2) <|
      grd ((Int.toNat x3161) < 2) <|
      getL (gp [(.lst false n3156 c3157), (.lst false n3159 c3160)] (Int.toNat x3161)) fun n3167 c3168 =>
      bnd' (m22 N (.lst false n3167 c3168)) fun p3169 =>
      getI .i64 p3169 fun x3172 =>
      brn (x3172 != 0) (
        some (.inl (.tup [(.lst false 0 []), (.int .i64 x3172)]))) (
        m34_L0 N n3156 c3157 n3159 c3160 n (IntKind.i64.wrap (x3161 + 1)))) (
      some (.inr ()))
def m34_L1 (N : Nat) (n3156 : Nat) (c3157 : List PV) (n3159 : Nat) (c3160 : List PV) (n3178 : Nat) (c3179 : List PV) (n3183 : Nat) (c3184 : List PV) (n3188 : Nat) (c3189 : List PV) (n3193 : Nat) (c3194 : List PV) : Nat → Nat → Int → Int → List PV → Option (PV)
  | 0, _, _, _, _ => none
  | n + 1, n3315, x3316, x3317, c3318 =>
    grd (0 ≤ x3316 ∧ x3316 < ((n3178 : Nat) : Int)) <|
    grd (0 < List.length (List.drop (Int.toNat x3316) c3179)) <|
    getI .i64 (gp c3179 (Int.toNat x3316)) fun x3323 =>
    grd (0 ≤ x3323 ∧ x3323 < ((n3156 : Nat) : Int)) <|
    grd (2 ≤ List.length (List.drop ((Int.toNat x3323) * 2) c3157)) <|
    getA2 (.agg (List.take 2 (List.drop ((Int.toNat x3323) * 2) c3157))) fun p3328 p3329 =>
    grd (0 ≤ x3317 ∧ x3317 < ((n3183 : Nat) : Int)) <|
    grd (0 < List.length (List.drop (Int.toNat x3317) c3184)) <|
    getI .i64 (gp c3184 (Int.toNat x3317)) fun x3334 =>
    grd (0 ≤ x3334 ∧ x3334 < ((n3159 : Nat) : Int)) <|
    grd (2 ≤ List.length (List.drop ((Int.toNat x3334) * 2) c3160)) <|
    getA2 (.agg (List.take 2 (List.drop ((Int.toNat x3334) * 2) c3160))) fun p3339 p3340 =>
    getI .i64 p3328 fun x3342 =>
    getI .i64 p3329 fun x3344 =>
    getI .i64 p3339 fun x3346 =>
    getI .i64 p3340 fun x3348 =>
    grd ((n3315 + 1) ≤ 1099511627776) <|
    grd (List.length c3318 = (n3315 * 2)) <|
    brn (x3316 == ((n3188 : Nat) : Int)) (
      brn (x3317 == ((n3193 : Nat) : Int)) (
        grd (List.length (c3318 ++ [(.int .i64 (IntKind.i64.wrap (x3342 + x3346))), (.int .i64 (IntKind.i64.wrap (x3344 + x3348)))]) = ((n3315 + 1) * 2)) <|
        some (.tup [(.lst false (n3315 + 1) (c3318 ++ [(.int .i64 (IntKind.i64.wrap (x3342 + x3346))), (.int .i64 (IntKind.i64.wrap (x3344 + x3348)))])), (.int .i64 0)])) (
        m34_L1 N n3156 c3157 n3159 c3160 n3178 c3179 n3183 c3184 n3188 c3189 n3193 c3194 n (n3315 + 1) x3316 (IntKind.i64.wrap (x3317 + 1)) (c3318 ++ [(.int .i64 (IntKind.i64.wrap (x3342 + x3346))), (.int .i64 (IntKind.i64.wrap (x3344 + x3348)))]))) (
      brn (x3317 == ((n3193 : Nat) : Int)) (
        m34_L1 N n3156 c3157 n3159 c3160 n3178 c3179 n3183 c3184 n3188 c3189 n3193 c3194 n (n3315 + 1) (IntKind.i64.wrap (x3316 + 1)) x3317 (c3318 ++ [(.int .i64 (IntKind.i64.wrap (x3342 + x3346))), (.int .i64 (IntKind.i64.wrap (x3344 + x3348)))])) (
        grd (x3316 < ((n3188 : Nat) : Int)) <|
        grd (2 ≤ List.length (List.drop ((Int.toNat x3316) * 2) c3189)) <|
        getA2 (.agg (List.take 2 (List.drop ((Int.toNat x3316) * 2) c3189))) fun p3358 p3359 =>
        grd (x3317 < ((n3193 : Nat) : Int)) <|
        grd (2 ≤ List.length (List.drop ((Int.toNat x3317) * 2) c3194)) <|
        getA2 (.agg (List.take 2 (List.drop ((Int.toNat x3317) * 2) c3194))) fun p3363 p3364 =>
        bnd' (m73 N (.agg [p3358, p3359]) (.agg [p3363, p3364])) fun p3365 =>
        getI .i64 p3365 fun x3368 =>
        brn (decide (x3368 ≤ 0)) (
          brn (decide (x3368 ≥ 0)) (
            m34_L1 N n3156 c3157 n3159 c3160 n3178 c3179 n3183 c3184 n3188 c3189 n3193 c3194 n (n3315 + 1) (IntKind.i64.wrap (x3316 + 1)) (IntKind.i64.wrap (x3317 + 1)) (c3318 ++ [(.int .i64 (IntKind.i64.wrap (x3342 + x3346))), (.int .i64 (IntKind.i64.wrap (x3344 + x3348)))])) (
            m34_L1 N n3156 c3157 n3159 c3160 n3178 c3179 n3183 c3184 n3188 c3189 n3193 c3194 n (n3315 + 1) (IntKind.i64.wrap (x3316 + 1)) x3317 (c3318 ++ [(.int .i64 (IntKind.i64.wrap (x3342 + x3346))), (.int .i64 (IntKind.i64.wrap (x3344 + x3348)))]))) (
          brn (decide (x3368 ≥ 0)) (
            m34_L1 N n3156 c3157 n3159 c3160 n3178 c3179 n3183 c3184 n3188 c3189 n3193 c3194 n (n3315 + 1) x3316 (IntKind.i64.wrap (x3317 + 1)) (c3318 ++ [(.int .i64 (IntKind.i64.wrap (x3342 + x3346))), (.int .i64 (IntKind.i64.wrap (x3344 + x3348)))])) (
            m34_L1 N n3156 c3157 n3159 c3160 n3178 c3179 n3183 c3184 n3188 c3189 n3193 c3194 n (n3315 + 1) x3316 x3317 (c3318 ++ [(.int .i64 (IntKind.i64.wrap (x3342 + x3346))), (.int .i64 (IntKind.i64.wrap (x3344 + x3348)))])))))
def m34 (N : Nat) (p3153 : PV) (p3154 : PV) : Option (PV) :=
  getL p3153 fun n3156 c3157 =>
  getL p3154 fun n3159 c3160 =>
  bnd' (m34_L0 N n3156 c3157 n3159 c3160 N 0) fun o =>
  match o with
  | .inl p3174 =>
    some p3174
  | .inr () =>
    bnd' (m65 N (.lst false n3156 c3157)) fun p3175 =>
    getL p3175 fun n3178 c3179 =>
    bnd' (m65 N (.lst false n3159 c3160)) fun p3180 =>
    getL p3180 fun n3183 c3184 =>
    bnd' (m67 N (.lst false n3156 c3157)) fun p3185 =>
    getL p3185 fun n3188 c3189 =>
    bnd' (m67 N (.lst false n3159 c3160)) fun p3190 =>
    getL p3190 fun n3193 c3194 =>
    bnd' (m34_L1 N n3156 c3157 n3159 c3160 n3178 c3179 n3183 c3184 n3188 c3189 n3193 c3194 N 0 0 0 []) fun o =>
    match o with
    | p3372 =>
      some p3372
theorem c34 (N : Nat) (p3153 : PV) (p3154 : PV) (r : PV)  (h : m34 N p3153 p3154 = some r) : FnP Try.prog 34 [p3153, p3154] r := by
  unfold m34 at h
  refine Fn_of (sz := 112) tab_ok [0, 1, 4, 5, 7, 8, 9, 10, 11, 12, 13, 14, 15, 16, 17, 18, 21, 22, 23, 24, 30, 79, 83, 86, 98, 105] [.tmp 4, .tmp 5] Try.func34 rfl rfl rfl (by simp) ?_
  simp only [initSt, initEnv, List.map_cons, List.map_nil, List.getD_cons_zero, List.getD_cons_succ, List.getD_nil]
  have hh := getL_some h; clear h; obtain ⟨n3156, c3157, h3155, h⟩ := hh
  have hh := getL_some h; clear h; obtain ⟨n3159, c3160, h3158, h⟩ := hh
  refine W_sound tab_ok mixed 14 _ _ _ ?_
  simp -implicitDefEqProofs only [go_sem, ne_eq, not_false_eq_true, Nat.reduceBEq, Nat.reduceAdd, Nat.reduceSub, Nat.reduceMul, Nat.reduceLT, Nat.reduceLeDiff, Int.reduceLE, Int.reduceLT, Int.reduceToNat, Int.reduceBEq, Int.reduceBNe, Int.le_refl, Nat.le_refl, decide_true, decide_false, Int.cast_ofNat_Int, ↓reduceIte, h3155, h3158]
  repeat with_reducible refine And.intro (by first | kernel_rfl | decide) ?_
  have hh := bnd'_some h; clear h; obtain ⟨o3373, h3374, h3375⟩ := hh
  refine Wp_cut (fun s => (.inr ()) = o3373 ∧ s = ⟨[], [(0, .v (.lst false n3156 c3157)), (1, .v (.lst false n3159 c3160)), (4, .dead), (5, .dead), (7, .dead), (8, .dead), (9, .dead), (10, .dead), (11, .dead), (12, .dead), (13, .dead), (14, .dead), (15, .dead), (16, .dead), (17, .dead), (18, .dead), (21, .dead), (22, .dead), (23, .dead), (24, .dead), (30, .dead), (79, .dead), (83, .dead), (86, .dead), (98, .dead), (105, .dead)], [], 0, []⟩) ?_ ?_
  · refine Wp_block ?_
    refine Wp_loopG (fun n s => ∃ x3161, m34_L0 N n3156 c3157 n3159 c3160 n x3161 = some o3373 ∧ s = ⟨[], [(0, .v (.lst false n3156 c3157)), (1, .v (.lst false n3159 c3160)), (4, .dead), (5, .dead), (7, .dead), (8, .dead), (9, .dead), (10, .dead), (11, .dead), (12, .dead), (13, .dead), (14, .dead), (15, .dead), (16, .dead), (17, .dead), (18, .dead), (21, .sl true 0 0 2 1), (22, .v (.int .i64 2)), (23, .v (.int .i64 x3161)), (24, .dead), (30, .dead), (79, .dead), (83, .dead), (86, .dead), (98, .dead), (105, .dead)], [(0, .p [(.lst false n3156 c3157), (.lst false n3159 c3160)])], 1, []⟩) N _ ((Wk_le (.cons _ _ _ _ _ (.refl _) (.cons _ _ _ _ _ (.refl _) (.cons _ _ _ _ _ (.dead _) (.cons _ _ _ _ _ (.dead _) (.cons _ _ _ _ _ (.refl _) (.cons _ _ _ _ _ (.refl _) (.cons _ _ _ _ _ (.refl _) (.cons _ _ _ _ _ (.refl _) (.cons _ _ _ _ _ (.refl _) (.cons _ _ _ _ _ (.refl _) (.cons _ _ _ _ _ (.refl _) (.cons _ _ _ _ _ (.refl _) (.cons _ _ _ _ _ (.refl _) (.cons _ _ _ _ _ (.refl _) (.cons _ _ _ _ _ (.refl _) (.cons _ _ _ _ _ (.refl _) (.cons _ _ _ _ _ (.refl _) (.cons _ _ _ _ _ (.refl _) (.cons _ _ _ _ _ (.refl _) (.cons _ _ _ _ _ (.refl _) (.cons _ _ _ _ _ (.refl _) (.cons _ _ _ _ _ (.refl _) (.cons _ _ _ _ _ (.refl _) (.cons _ _ _ _ _ (.refl _) (.cons _ _ _ _ _ (.refl _) (.cons _ _ _ _ _ (.refl _) .nil)))))))))))))))))))))))))) (OLe.refl _)).trans (cmpS_ok (st' := ⟨[], [(0, .v (.lst false n3156 c3157)), (1, .v (.lst false n3159 c3160)), (4, .dead), (5, .dead), (7, .dead), (8, .dead), (9, .dead), (10, .dead), (11, .dead), (12, .dead), (13, .dead), (14, .dead), (15, .dead), (16, .dead), (17, .dead), (18, .dead), (21, .sl true 0 0 2 1), (22, .v (.int .i64 2)), (23, .v (.int .i64 0)), (24, .dead), (30, .dead), (79, .dead), (83, .dead), (86, .dead), (98, .dead), (105, .dead)], [(0, .p [(.lst false n3156 c3157), (.lst false n3159 c3160)])], 1, []⟩) (by kernel_rfl))) ⟨_, h3374, rfl⟩ ?_
    clear h3374
    rintro n _ ⟨x3161, h3374, rfl⟩
    cases n with
    | zero => cases h3374
    | succ n =>
      rw [m34_L0] at h3374
      have hh := brn_some h3374; clear h3374; rcases hh with ⟨h3162, h3374⟩ | ⟨h3162, h3374⟩
      · have hh := grd_some h3374; clear h3374; obtain ⟨⟨g3163, g3164⟩, h3374⟩ := hh
        have hh := grd_some h3374; clear h3374; obtain ⟨g3165, h3374⟩ := hh
        have hh := getL_some h3374; clear h3374; obtain ⟨n3167, c3168, h3166, h3374⟩ := hh
        have hh := bnd'_some h3374; clear h3374; obtain ⟨p3169, h3170, h3374⟩ := hh
        refine W_sound tab_ok mixed 18 _ _ _ ?_
        simp -implicitDefEqProofs only [go_sem, ne_eq, not_false_eq_true, Nat.reduceBEq, Nat.reduceAdd, Nat.reduceSub, Nat.reduceMul, Nat.reduceLT, Nat.reduceLeDiff, Int.reduceLE, Int.reduceLT, Int.reduceToNat, Int.reduceBEq, Int.reduceBNe, Int.le_refl, Nat.le_refl, decide_true, decide_false, Int.cast_ofNat_Int, ↓reduceIte, h3155, h3158, h3162, g3163, g3164, g3165, h3166]
        repeat with_reducible refine And.intro (by first | kernel_rfl | decide) ?_
        refine Wp_callP (c22 N _ _ h3170) (by kernel_rfl) rfl rfl rfl rfl (by decide) ?_
        have hh := getI_some h3374; clear h3374; obtain ⟨x3172, h3171, h3374⟩ := hh
        have hh := brn_some h3374; clear h3374; rcases hh with ⟨h3173, h3374⟩ | ⟨h3173, h3374⟩
        · refine W_sound tab_ok mixed 16 _ _ _ ?_
          simp -implicitDefEqProofs only [go_sem, ne_eq, not_false_eq_true, Nat.reduceBEq, Nat.reduceAdd, Nat.reduceSub, Nat.reduceMul, Nat.reduceLT, Nat.reduceLeDiff, Int.reduceLE, Int.reduceLT, Int.reduceToNat, Int.reduceBEq, Int.reduceBNe, Int.le_refl, Nat.le_refl, decide_true, decide_false, Int.cast_ofNat_Int, ↓reduceIte, h3155, h3158, h3162, g3163, g3164, g3165, h3166, h3171, h3173]
          repeat with_reducible refine And.intro (by first | kernel_rfl | decide) ?_
          obtain rfl := Option.some.inj h3374
          (try dsimp only at h3375)
          obtain rfl := Option.some.inj h3375
          exact finC [(4, .v .nl), (5, .v (.int .i64 x3172))] [(4, .v (.lst false 0 [])), (5, .v (.int .i64 x3172))] (by simp [leE, lk_cons]) (.cons _ _ _ _ _ (.v _ _ (.nl false)) (.cons _ _ _ _ _ (.v _ _ (.refl _)) .nil)) (by rfl) (by simp [leE, lk_cons]) (by decide) (by decide) rfl (by simp only [go_sem, ne_eq, not_false_eq_true, Nat.reduceBEq, Nat.reduceAdd, Nat.reduceSub, Nat.reduceMul, Nat.reduceLT, Nat.reduceLeDiff, Int.reduceLE, Int.reduceLT, Int.reduceToNat, Int.reduceBEq, Int.reduceBNe, Int.le_refl, Nat.le_refl, decide_true, decide_false, Int.cast_ofNat_Int, ↓reduceIte, resQ_tmp, resQ_cell, resQ_nil, retD_one, retD_two, retD_three, retD_none]; try simp [R.val, retD_one, retD_two, retD_three, retD_none])
        · refine W_sound tab_ok mixed 14 _ _ _ ?_
          simp -implicitDefEqProofs only [go_sem, ne_eq, not_false_eq_true, Nat.reduceBEq, Nat.reduceAdd, Nat.reduceSub, Nat.reduceMul, Nat.reduceLT, Nat.reduceLeDiff, Int.reduceLE, Int.reduceLT, Int.reduceToNat, Int.reduceBEq, Int.reduceBNe, Int.le_refl, Nat.le_refl, decide_true, decide_false, Int.cast_ofNat_Int, ↓reduceIte, h3155, h3158, h3162, g3163, g3164, g3165, h3166, h3171, h3173]
          repeat with_reducible refine And.intro (by first | kernel_rfl | decide) ?_
          exact cutQ _ ((Wk_le (.cons _ _ _ _ _ (.refl _) (.cons _ _ _ _ _ (.refl _) (.cons _ _ _ _ _ (.refl _) (.cons _ _ _ _ _ (.refl _) (.cons _ _ _ _ _ (.dead _) (.cons _ _ _ _ _ (.dead _) (.cons _ _ _ _ _ (.refl _) (.cons _ _ _ _ _ (.refl _) (.cons _ _ _ _ _ (.refl _) (.cons _ _ _ _ _ (.refl _) (.cons _ _ _ _ _ (.refl _) (.cons _ _ _ _ _ (.refl _) (.cons _ _ _ _ _ (.refl _) (.cons _ _ _ _ _ (.refl _) (.cons _ _ _ _ _ (.refl _) (.cons _ _ _ _ _ (.refl _) (.cons _ _ _ _ _ (.refl _) (.cons _ _ _ _ _ (.refl _) (.cons _ _ _ _ _ (.refl _) (.cons _ _ _ _ _ (.dead _) (.cons _ _ _ _ _ (.dead _) (.cons _ _ _ _ _ (.refl _) (.cons _ _ _ _ _ (.refl _) (.cons _ _ _ _ _ (.refl _) (.cons _ _ _ _ _ (.refl _) (.cons _ _ _ _ _ (.refl _) .nil)))))))))))))))))))))))))) (OLe.refl _)).trans (cmpS_ok (st' := ⟨[], [(0, .v (.lst false n3156 c3157)), (1, .v (.lst false n3159 c3160)), (4, .dead), (5, .dead), (7, .dead), (8, .dead), (9, .dead), (10, .dead), (11, .dead), (12, .dead), (13, .dead), (14, .dead), (15, .dead), (16, .dead), (17, .dead), (18, .dead), (21, .sl true 0 0 2 1), (22, .v (.int .i64 2)), (23, .v (.int .i64 (IntKind.i64.wrap (x3161 + 1)))), (24, .dead), (30, .dead), (79, .dead), (83, .dead), (86, .dead), (98, .dead), (105, .dead)], [(0, .p [(.lst false n3156 c3157), (.lst false n3159 c3160)])], 1, []⟩) (by kernel_rfl))) ⟨n, Nat.lt_succ_self n, _, h3374, rfl⟩
      · refine W_sound tab_ok mixed 7 _ _ _ ?_
        simp -implicitDefEqProofs only [go_sem, ne_eq, not_false_eq_true, Nat.reduceBEq, Nat.reduceAdd, Nat.reduceSub, Nat.reduceMul, Nat.reduceLT, Nat.reduceLeDiff, Int.reduceLE, Int.reduceLT, Int.reduceToNat, Int.reduceBEq, Int.reduceBNe, Int.le_refl, Nat.le_refl, decide_true, decide_false, Int.cast_ofNat_Int, ↓reduceIte, h3155, h3158, h3162]
        repeat with_reducible refine And.intro (by first | kernel_rfl | decide) ?_
        obtain rfl := Option.some.inj h3374
        exact cutQ _ ((Wk_le (.cons _ _ _ _ _ (.refl _) (.cons _ _ _ _ _ (.refl _) (.cons _ _ _ _ _ (.refl _) (.cons _ _ _ _ _ (.refl _) (.cons _ _ _ _ _ (.refl _) (.cons _ _ _ _ _ (.refl _) (.cons _ _ _ _ _ (.refl _) (.cons _ _ _ _ _ (.refl _) (.cons _ _ _ _ _ (.refl _) (.cons _ _ _ _ _ (.refl _) (.cons _ _ _ _ _ (.refl _) (.cons _ _ _ _ _ (.refl _) (.cons _ _ _ _ _ (.refl _) (.cons _ _ _ _ _ (.refl _) (.cons _ _ _ _ _ (.refl _) (.cons _ _ _ _ _ (.refl _) (.cons _ _ _ _ _ (.dead _) (.cons _ _ _ _ _ (.dead _) (.cons _ _ _ _ _ (.dead _) (.cons _ _ _ _ _ (.dead _) (.cons _ _ _ _ _ (.refl _) (.cons _ _ _ _ _ (.refl _) (.cons _ _ _ _ _ (.refl _) (.cons _ _ _ _ _ (.refl _) (.cons _ _ _ _ _ (.refl _) (.cons _ _ _ _ _ (.refl _) .nil)))))))))))))))))))))))))) (OLe.refl _)).trans (cmpS_ok (st' := ⟨[], [(0, .v (.lst false n3156 c3157)), (1, .v (.lst false n3159 c3160)), (4, .dead), (5, .dead), (7, .dead), (8, .dead), (9, .dead), (10, .dead), (11, .dead), (12, .dead), (13, .dead), (14, .dead), (15, .dead), (16, .dead), (17, .dead), (18, .dead), (21, .dead), (22, .dead), (23, .dead), (24, .dead), (30, .dead), (79, .dead), (83, .dead), (86, .dead), (98, .dead), (105, .dead)], [], 0, []⟩) (by kernel_rfl))) ⟨rfl, rfl⟩
  · rintro _ ⟨rfl, rfl⟩
    (try dsimp only at h3375)
    have hh := bnd'_some h3375; clear h3375; obtain ⟨p3175, h3176, h3375⟩ := hh
    refine W_sound tab_ok mixed 3 _ _ _ ?_
    simp -implicitDefEqProofs only [go_sem, ne_eq, not_false_eq_true, Nat.reduceBEq, Nat.reduceAdd, Nat.reduceSub, Nat.reduceMul, Nat.reduceLT, Nat.reduceLeDiff, Int.reduceLE, Int.reduceLT, Int.reduceToNat, Int.reduceBEq, Int.reduceBNe, Int.le_refl, Nat.le_refl, decide_true, decide_false, Int.cast_ofNat_Int, ↓reduceIte, h3155, h3158]
    repeat with_reducible refine And.intro (by first | kernel_rfl | decide) ?_
    refine Wp_callP (c65 N _ _ h3176) (by kernel_rfl) rfl rfl rfl rfl (by decide) ?_
    have hh := getL_some h3375; clear h3375; obtain ⟨n3178, c3179, h3177, h3375⟩ := hh
    have hh := bnd'_some h3375; clear h3375; obtain ⟨p3180, h3181, h3375⟩ := hh
    refine W_sound tab_ok mixed 1 _ _ _ ?_
    simp -implicitDefEqProofs only [go_sem, ne_eq, not_false_eq_true, Nat.reduceBEq, Nat.reduceAdd, Nat.reduceSub, Nat.reduceMul, Nat.reduceLT, Nat.reduceLeDiff, Int.reduceLE, Int.reduceLT, Int.reduceToNat, Int.reduceBEq, Int.reduceBNe, Int.le_refl, Nat.le_refl, decide_true, decide_false, Int.cast_ofNat_Int, ↓reduceIte, h3155, h3158, h3177]
    repeat with_reducible refine And.intro (by first | kernel_rfl | decide) ?_
    refine Wp_callP (c65 N _ _ h3181) (by kernel_rfl) rfl rfl rfl rfl (by decide) ?_
    have hh := getL_some h3375; clear h3375; obtain ⟨n3183, c3184, h3182, h3375⟩ := hh
    have hh := bnd'_some h3375; clear h3375; obtain ⟨p3185, h3186, h3375⟩ := hh
    refine W_sound tab_ok mixed 6 _ _ _ ?_
    simp -implicitDefEqProofs only [go_sem, ne_eq, not_false_eq_true, Nat.reduceBEq, Nat.reduceAdd, Nat.reduceSub, Nat.reduceMul, Nat.reduceLT, Nat.reduceLeDiff, Int.reduceLE, Int.reduceLT, Int.reduceToNat, Int.reduceBEq, Int.reduceBNe, Int.le_refl, Nat.le_refl, decide_true, decide_false, Int.cast_ofNat_Int, ↓reduceIte, h3155, h3158, h3177, h3182]
    repeat with_reducible refine And.intro (by first | kernel_rfl | decide) ?_
    refine Wp_callP (c67 N _ _ h3186) (by kernel_rfl) rfl rfl rfl rfl (by decide) ?_
    have hh := getL_some h3375; clear h3375; obtain ⟨n3188, c3189, h3187, h3375⟩ := hh
    have hh := bnd'_some h3375; clear h3375; obtain ⟨p3190, h3191, h3375⟩ := hh
    refine W_sound tab_ok mixed 1 _ _ _ ?_
    simp -implicitDefEqProofs only [go_sem, ne_eq, not_false_eq_true, Nat.reduceBEq, Nat.reduceAdd, Nat.reduceSub, Nat.reduceMul, Nat.reduceLT, Nat.reduceLeDiff, Int.reduceLE, Int.reduceLT, Int.reduceToNat, Int.reduceBEq, Int.reduceBNe, Int.le_refl, Nat.le_refl, decide_true, decide_false, Int.cast_ofNat_Int, ↓reduceIte, h3155, h3158, h3177, h3182, h3187]
    repeat with_reducible refine And.intro (by first | kernel_rfl | decide) ?_
    refine Wp_callP (c67 N _ _ h3191) (by kernel_rfl) rfl rfl rfl rfl (by decide) ?_
    have hh := getL_some h3375; clear h3375; obtain ⟨n3193, c3194, h3192, h3375⟩ := hh
    refine W_sound tab_ok mixed 12 _ _ _ ?_
    simp -implicitDefEqProofs only [go_sem, ne_eq, not_false_eq_true, Nat.reduceBEq, Nat.reduceAdd, Nat.reduceSub, Nat.reduceMul, Nat.reduceLT, Nat.reduceLeDiff, Int.reduceLE, Int.reduceLT, Int.reduceToNat, Int.reduceBEq, Int.reduceBNe, Int.le_refl, Nat.le_refl, decide_true, decide_false, Int.cast_ofNat_Int, ↓reduceIte, h3155, h3158, h3177, h3182, h3187, h3192]
    repeat with_reducible refine And.intro (by first | kernel_rfl | decide) ?_
    refine Wp_weaken (Wk_ownS 13 2 rfl (by decide) (by decide)) ?_
    simp -implicitDefEqProofs only [go_sem, ne_eq, not_false_eq_true, Nat.reduceBEq, Nat.reduceAdd, Nat.reduceSub, Nat.reduceMul, Nat.reduceLT, Nat.reduceLeDiff, Int.reduceLE, Int.reduceLT, Int.reduceToNat, Int.reduceBEq, Int.reduceBNe, Int.le_refl, Nat.le_refl, decide_true, decide_false, Int.cast_ofNat_Int, ↓reduceIte, h3155, h3158, h3177, h3182, h3187, h3192]
    have hh := bnd'_some h3375; clear h3375; obtain ⟨o3376, h3377, h3378⟩ := hh
    refine Wp_cut (fun _ => False) ?_ ?_
    · refine Wp_block ?_
      refine Wp_loopG (fun n s => ∃ n3315, ∃ x3316, ∃ x3317, ∃ c3318, m34_L1 N n3156 c3157 n3159 c3160 n3178 c3179 n3183 c3184 n3188 c3189 n3193 c3194 n n3315 x3316 x3317 c3318 = some o3376 ∧ s = ⟨[], [(0, .v (.lst false n3156 c3157)), (1, .v (.lst false n3159 c3160)), (4, .dead), (5, .dead), (7, .dead), (8, .dead), (9, .v (.lst false n3178 c3179)), (10, .v (.lst false n3183 c3184)), (11, .v (.lst false n3188 c3189)), (12, .v (.lst false n3193 c3194)), (13, .sl false 0 0 n3315 2), (14, .v (.int .i64 x3316)), (15, .v (.int .i64 x3317)), (16, .dead), (17, .dead), (18, .dead), (21, .dead), (22, .dead), (23, .dead), (24, .dead), (30, .dead), (79, .dead), (83, .dead), (86, .dead), (98, .dead), (105, .dead)], [(0, .p c3318)], 1, []⟩) N _ ((Wk_le (.cons _ _ _ _ _ (.refl _) (.cons _ _ _ _ _ (.refl _) (.cons _ _ _ _ _ (.refl _) (.cons _ _ _ _ _ (.refl _) (.cons _ _ _ _ _ (.refl _) (.cons _ _ _ _ _ (.refl _) (.cons _ _ _ _ _ (.refl _) (.cons _ _ _ _ _ (.refl _) (.cons _ _ _ _ _ (.refl _) (.cons _ _ _ _ _ (.refl _) (.cons _ _ _ _ _ (.refl _) (.cons _ _ _ _ _ (.refl _) (.cons _ _ _ _ _ (.refl _) (.cons _ _ _ _ _ (.refl _) (.cons _ _ _ _ _ (.refl _) (.cons _ _ _ _ _ (.refl _) (.cons _ _ _ _ _ (.refl _) (.cons _ _ _ _ _ (.refl _) (.cons _ _ _ _ _ (.refl _) (.cons _ _ _ _ _ (.refl _) (.cons _ _ _ _ _ (.refl _) (.cons _ _ _ _ _ (.refl _) (.cons _ _ _ _ _ (.refl _) (.cons _ _ _ _ _ (.refl _) (.cons _ _ _ _ _ (.refl _) (.cons _ _ _ _ _ (.refl _) .nil)))))))))))))))))))))))))) (OLe.refl _)).trans (cmpS_ok (st' := ⟨[], [(0, .v (.lst false n3156 c3157)), (1, .v (.lst false n3159 c3160)), (4, .dead), (5, .dead), (7, .dead), (8, .dead), (9, .v (.lst false n3178 c3179)), (10, .v (.lst false n3183 c3184)), (11, .v (.lst false n3188 c3189)), (12, .v (.lst false n3193 c3194)), (13, .sl false 0 0 0 2), (14, .v (.int .i64 0)), (15, .v (.int .i64 0)), (16, .dead), (17, .dead), (18, .dead), (21, .dead), (22, .dead), (23, .dead), (24, .dead), (30, .dead), (79, .dead), (83, .dead), (86, .dead), (98, .dead), (105, .dead)], [(0, .p [])], 1, []⟩) (by kernel_rfl))) ⟨_, _, _, _, h3377, rfl⟩ ?_
      clear h3377
      rintro n _ ⟨n3315, x3316, x3317, c3318, h3377, rfl⟩
      cases n with
      | zero => cases h3377
      | succ n =>
        rw [m34_L1] at h3377
        have hh := grd_some h3377; clear h3377; obtain ⟨⟨g3319, g3320⟩, h3377⟩ := hh
        have hh := grd_some h3377; clear h3377; obtain ⟨g3321, h3377⟩ := hh
        have hh := getI_some h3377; clear h3377; obtain ⟨x3323, h3322, h3377⟩ := hh
        have hh := grd_some h3377; clear h3377; obtain ⟨⟨g3324, g3325⟩, h3377⟩ := hh
        have hh := grd_some h3377; clear h3377; obtain ⟨g3326, h3377⟩ := hh
        have hh := getA2_some h3377; clear h3377; obtain ⟨p3328, p3329, h3327, h3377⟩ := hh
        injection h3327 with h3327
        have hh := grd_some h3377; clear h3377; obtain ⟨⟨g3330, g3331⟩, h3377⟩ := hh
        have hh := grd_some h3377; clear h3377; obtain ⟨g3332, h3377⟩ := hh
        have hh := getI_some h3377; clear h3377; obtain ⟨x3334, h3333, h3377⟩ := hh
        have hh := grd_some h3377; clear h3377; obtain ⟨⟨g3335, g3336⟩, h3377⟩ := hh
        have hh := grd_some h3377; clear h3377; obtain ⟨g3337, h3377⟩ := hh
        have hh := getA2_some h3377; clear h3377; obtain ⟨p3339, p3340, h3338, h3377⟩ := hh
        injection h3338 with h3338
        have hh := getI_some h3377; clear h3377; obtain ⟨x3342, h3341, h3377⟩ := hh
        have hh := getI_some h3377; clear h3377; obtain ⟨x3344, h3343, h3377⟩ := hh
        have hh := getI_some h3377; clear h3377; obtain ⟨x3346, h3345, h3377⟩ := hh
        have hh := getI_some h3377; clear h3377; obtain ⟨x3348, h3347, h3377⟩ := hh
        have hh := grd_some h3377; clear h3377; obtain ⟨g3349, h3377⟩ := hh
        have hh := grd_some h3377; clear h3377; obtain ⟨g3350, h3377⟩ := hh
        have hh := brn_some h3377; clear h3377; rcases hh with ⟨h3351, h3377⟩ | ⟨h3351, h3377⟩
        · have hh := brn_some h3377; clear h3377; rcases hh with ⟨h3352, h3377⟩ | ⟨h3352, h3377⟩
          · refine W_sound tab_ok mixed 64 _ _ _ ?_
            simp -implicitDefEqProofs only [go_sem, ne_eq, not_false_eq_true, Nat.reduceBEq, Nat.reduceAdd, Nat.reduceSub, Nat.reduceMul, Nat.reduceLT, Nat.reduceLeDiff, Int.reduceLE, Int.reduceLT, Int.reduceToNat, Int.reduceBEq, Int.reduceBNe, Int.le_refl, Nat.le_refl, decide_true, decide_false, Int.cast_ofNat_Int, ↓reduceIte, h3155, h3158, h3177, h3182, h3187, h3192, g3319, g3320, g3321, h3322, g3324, g3325, g3326, h3327, g3330, g3331, g3332, h3333, g3335, g3336, g3337, h3338, h3341, h3343, h3345, h3347, g3349, g3350, h3351, h3352]
            repeat with_reducible refine And.intro (by first | kernel_rfl | decide) ?_
            have hh := grd_some h3377; clear h3377; obtain ⟨g3353, h3377⟩ := hh
            refine FinQ_wk (Wk_freeze 87 (c3318 ++ [(.int .i64 (IntKind.i64.wrap (x3342 + x3346))), (.int .i64 (IntKind.i64.wrap (x3344 + x3348)))]) (by rfl) (by decide) (by decide)) ?_
            simp -implicitDefEqProofs only [go_sem, ne_eq, not_false_eq_true, Nat.reduceBEq, Nat.reduceAdd, Nat.reduceSub, Nat.reduceMul, Nat.reduceLT, Nat.reduceLeDiff, Int.reduceLE, Int.reduceLT, Int.reduceToNat, Int.reduceBEq, Int.reduceBNe, Int.le_refl, Nat.le_refl, decide_true, decide_false, Int.cast_ofNat_Int, ↓reduceIte, h3155, h3158, h3177, h3182, h3187, h3192, g3319, g3320, g3321, h3322, g3324, g3325, g3326, h3327, g3330, g3331, g3332, h3333, g3335, g3336, g3337, h3338, h3341, h3343, h3345, h3347, g3349, g3350, h3351, h3352, g3353]
            obtain rfl := Option.some.inj h3377
            (try dsimp only at h3378)
            obtain rfl := Option.some.inj h3378
            exact finC [(4, .v (.lst false (n3315 + 1) (c3318 ++ [(.int .i64 (IntKind.i64.wrap (x3342 + x3346))), (.int .i64 (IntKind.i64.wrap (x3344 + x3348)))]))), (5, .v (.int .i64 0))] [(4, .v (.lst false (n3315 + 1) (c3318 ++ [(.int .i64 (IntKind.i64.wrap (x3342 + x3346))), (.int .i64 (IntKind.i64.wrap (x3344 + x3348)))]))), (5, .v (.int .i64 0))] (by simp [leE, lk_cons]) (.cons _ _ _ _ _ (.v _ _ (.refl _)) (.cons _ _ _ _ _ (.v _ _ (.refl _)) .nil)) (by rfl) (by simp [leE, lk_cons]) (by decide) (by decide) rfl (by simp only [go_sem, ne_eq, not_false_eq_true, Nat.reduceBEq, Nat.reduceAdd, Nat.reduceSub, Nat.reduceMul, Nat.reduceLT, Nat.reduceLeDiff, Int.reduceLE, Int.reduceLT, Int.reduceToNat, Int.reduceBEq, Int.reduceBNe, Int.le_refl, Nat.le_refl, decide_true, decide_false, Int.cast_ofNat_Int, ↓reduceIte, resQ_tmp, resQ_cell, resQ_nil, retD_one, retD_two, retD_three, retD_none]; try simp [R.val, retD_one, retD_two, retD_three, retD_none])
          · refine W_sound tab_ok mixed 81 _ _ _ ?_
            simp -implicitDefEqProofs only [go_sem, ne_eq, not_false_eq_true, Nat.reduceBEq, Nat.reduceAdd, Nat.reduceSub, Nat.reduceMul, Nat.reduceLT, Nat.reduceLeDiff, Int.reduceLE, Int.reduceLT, Int.reduceToNat, Int.reduceBEq, Int.reduceBNe, Int.le_refl, Nat.le_refl, decide_true, decide_false, Int.cast_ofNat_Int, ↓reduceIte, h3155, h3158, h3177, h3182, h3187, h3192, g3319, g3320, g3321, h3322, g3324, g3325, g3326, h3327, g3330, g3331, g3332, h3333, g3335, g3336, g3337, h3338, h3341, h3343, h3345, h3347, g3349, g3350, h3351, h3352]
            repeat with_reducible refine And.intro (by first | kernel_rfl | decide) ?_
            exact cutQ _ ((Wk_le (.cons _ _ _ _ _ (.refl _) (.cons _ _ _ _ _ (.refl _) (.cons _ _ _ _ _ (.refl _) (.cons _ _ _ _ _ (.refl _) (.cons _ _ _ _ _ (.refl _) (.cons _ _ _ _ _ (.refl _) (.cons _ _ _ _ _ (.refl _) (.cons _ _ _ _ _ (.refl _) (.cons _ _ _ _ _ (.refl _) (.cons _ _ _ _ _ (.refl _) (.cons _ _ _ _ _ (.refl _) (.cons _ _ _ _ _ (.refl _) (.cons _ _ _ _ _ (.refl _) (.cons _ _ _ _ _ (.dead _) (.cons _ _ _ _ _ (.dead _) (.cons _ _ _ _ _ (.refl _) (.cons _ _ _ _ _ (.refl _) (.cons _ _ _ _ _ (.refl _) (.cons _ _ _ _ _ (.refl _) (.cons _ _ _ _ _ (.refl _) (.cons _ _ _ _ _ (.refl _) (.cons _ _ _ _ _ (.refl _) (.cons _ _ _ _ _ (.refl _) (.cons _ _ _ _ _ (.dead _) (.cons _ _ _ _ _ (.dead _) (.cons _ _ _ _ _ (.dead _) .nil)))))))))))))))))))))))))) (OLe.refl _)).trans (cmpS_ok (st' := ⟨[], [(0, .v (.lst false n3156 c3157)), (1, .v (.lst false n3159 c3160)), (4, .dead), (5, .dead), (7, .dead), (8, .dead), (9, .v (.lst false n3178 c3179)), (10, .v (.lst false n3183 c3184)), (11, .v (.lst false n3188 c3189)), (12, .v (.lst false n3193 c3194)), (13, .sl false 0 0 (n3315 + 1) 2), (14, .v (.int .i64 x3316)), (15, .v (.int .i64 (IntKind.i64.wrap (x3317 + 1)))), (16, .dead), (17, .dead), (18, .dead), (21, .dead), (22, .dead), (23, .dead), (24, .dead), (30, .dead), (79, .dead), (83, .dead), (86, .dead), (98, .dead), (105, .dead)], [(0, .p (c3318 ++ [(.int .i64 (IntKind.i64.wrap (x3342 + x3346))), (.int .i64 (IntKind.i64.wrap (x3344 + x3348)))]))], 1, []⟩) (by kernel_rfl))) ⟨n, Nat.lt_succ_self n, _, _, _, _, h3377, rfl⟩
        · have hh := brn_some h3377; clear h3377; rcases hh with ⟨h3354, h3377⟩ | ⟨h3354, h3377⟩
          · refine W_sound tab_ok mixed 72 _ _ _ ?_
            simp -implicitDefEqProofs only [go_sem, ne_eq, not_false_eq_true, Nat.reduceBEq, Nat.reduceAdd, Nat.reduceSub, Nat.reduceMul, Nat.reduceLT, Nat.reduceLeDiff, Int.reduceLE, Int.reduceLT, Int.reduceToNat, Int.reduceBEq, Int.reduceBNe, Int.le_refl, Nat.le_refl, decide_true, decide_false, Int.cast_ofNat_Int, ↓reduceIte, h3155, h3158, h3177, h3182, h3187, h3192, g3319, g3320, g3321, h3322, g3324, g3325, g3326, h3327, g3330, g3331, g3332, h3333, g3335, g3336, g3337, h3338, h3341, h3343, h3345, h3347, g3349, g3350, h3351, h3354]
            repeat with_reducible refine And.intro (by first | kernel_rfl | decide) ?_
            exact cutQ _ ((Wk_le (.cons _ _ _ _ _ (.refl _) (.cons _ _ _ _ _ (.refl _) (.cons _ _ _ _ _ (.refl _) (.cons _ _ _ _ _ (.refl _) (.cons _ _ _ _ _ (.refl _) (.cons _ _ _ _ _ (.refl _) (.cons _ _ _ _ _ (.refl _) (.cons _ _ _ _ _ (.refl _) (.cons _ _ _ _ _ (.refl _) (.cons _ _ _ _ _ (.refl _) (.cons _ _ _ _ _ (.refl _) (.cons _ _ _ _ _ (.refl _) (.cons _ _ _ _ _ (.refl _) (.cons _ _ _ _ _ (.dead _) (.cons _ _ _ _ _ (.dead _) (.cons _ _ _ _ _ (.refl _) (.cons _ _ _ _ _ (.refl _) (.cons _ _ _ _ _ (.refl _) (.cons _ _ _ _ _ (.refl _) (.cons _ _ _ _ _ (.refl _) (.cons _ _ _ _ _ (.refl _) (.cons _ _ _ _ _ (.refl _) (.cons _ _ _ _ _ (.refl _) (.cons _ _ _ _ _ (.dead _) (.cons _ _ _ _ _ (.dead _) (.cons _ _ _ _ _ (.refl _) .nil)))))))))))))))))))))))))) (OLe.refl _)).trans (cmpS_ok (st' := ⟨[], [(0, .v (.lst false n3156 c3157)), (1, .v (.lst false n3159 c3160)), (4, .dead), (5, .dead), (7, .dead), (8, .dead), (9, .v (.lst false n3178 c3179)), (10, .v (.lst false n3183 c3184)), (11, .v (.lst false n3188 c3189)), (12, .v (.lst false n3193 c3194)), (13, .sl false 0 0 (n3315 + 1) 2), (14, .v (.int .i64 (IntKind.i64.wrap (x3316 + 1)))), (15, .v (.int .i64 x3317)), (16, .dead), (17, .dead), (18, .dead), (21, .dead), (22, .dead), (23, .dead), (24, .dead), (30, .dead), (79, .dead), (83, .dead), (86, .dead), (98, .dead), (105, .dead)], [(0, .p (c3318 ++ [(.int .i64 (IntKind.i64.wrap (x3342 + x3346))), (.int .i64 (IntKind.i64.wrap (x3344 + x3348)))]))], 1, []⟩) (by kernel_rfl))) ⟨n, Nat.lt_succ_self n, _, _, _, _, h3377, rfl⟩
          · have hh := grd_some h3377; clear h3377; obtain ⟨g3355, h3377⟩ := hh
            have hh := grd_some h3377; clear h3377; obtain ⟨g3356, h3377⟩ := hh
            have hh := getA2_some h3377; clear h3377; obtain ⟨p3358, p3359, h3357, h3377⟩ := hh
            injection h3357 with h3357
            have hh := grd_some h3377; clear h3377; obtain ⟨g3360, h3377⟩ := hh
            have hh := grd_some h3377; clear h3377; obtain ⟨g3361, h3377⟩ := hh
            have hh := getA2_some h3377; clear h3377; obtain ⟨p3363, p3364, h3362, h3377⟩ := hh
            injection h3362 with h3362
            have hh := bnd'_some h3377; clear h3377; obtain ⟨p3365, h3366, h3377⟩ := hh
            refine W_sound tab_ok mixed 84 _ _ _ ?_
            simp -implicitDefEqProofs only [go_sem, ne_eq, not_false_eq_true, Nat.reduceBEq, Nat.reduceAdd, Nat.reduceSub, Nat.reduceMul, Nat.reduceLT, Nat.reduceLeDiff, Int.reduceLE, Int.reduceLT, Int.reduceToNat, Int.reduceBEq, Int.reduceBNe, Int.le_refl, Nat.le_refl, decide_true, decide_false, Int.cast_ofNat_Int, ↓reduceIte, h3155, h3158, h3177, h3182, h3187, h3192, g3319, g3320, g3321, h3322, g3324, g3325, g3326, h3327, g3330, g3331, g3332, h3333, g3335, g3336, g3337, h3338, h3341, h3343, h3345, h3347, g3349, g3350, h3351, h3354, g3355, g3356, h3357, g3360, g3361, h3362]
            repeat with_reducible refine And.intro (by first | kernel_rfl | decide) ?_
            refine Wp_callP (c73 N _ _ _ h3366) (by kernel_rfl) rfl rfl rfl rfl (by decide) ?_
            have hh := getI_some h3377; clear h3377; obtain ⟨x3368, h3367, h3377⟩ := hh
            have hh := brn_some h3377; clear h3377; rcases hh with ⟨h3369, h3377⟩ | ⟨h3369, h3377⟩
            · have hh := brn_some h3377; clear h3377; rcases hh with ⟨h3370, h3377⟩ | ⟨h3370, h3377⟩
              · refine W_sound tab_ok mixed 27 _ _ _ ?_
                simp -implicitDefEqProofs only [go_sem, ne_eq, not_false_eq_true, Nat.reduceBEq, Nat.reduceAdd, Nat.reduceSub, Nat.reduceMul, Nat.reduceLT, Nat.reduceLeDiff, Int.reduceLE, Int.reduceLT, Int.reduceToNat, Int.reduceBEq, Int.reduceBNe, Int.le_refl, Nat.le_refl, decide_true, decide_false, Int.cast_ofNat_Int, ↓reduceIte, h3155, h3158, h3177, h3182, h3187, h3192, g3319, g3320, g3321, h3322, g3324, g3325, g3326, h3327, g3330, g3331, g3332, h3333, g3335, g3336, g3337, h3338, h3341, h3343, h3345, h3347, g3349, g3350, h3351, h3354, g3355, g3356, h3357, g3360, g3361, h3362, h3367, h3369, h3370]
                repeat with_reducible refine And.intro (by first | kernel_rfl | decide) ?_
                exact cutQ _ ((Wk_le (.cons _ _ _ _ _ (.refl _) (.cons _ _ _ _ _ (.refl _) (.cons _ _ _ _ _ (.refl _) (.cons _ _ _ _ _ (.refl _) (.cons _ _ _ _ _ (.refl _) (.cons _ _ _ _ _ (.refl _) (.cons _ _ _ _ _ (.refl _) (.cons _ _ _ _ _ (.refl _) (.cons _ _ _ _ _ (.refl _) (.cons _ _ _ _ _ (.refl _) (.cons _ _ _ _ _ (.refl _) (.cons _ _ _ _ _ (.refl _) (.cons _ _ _ _ _ (.refl _) (.cons _ _ _ _ _ (.dead _) (.cons _ _ _ _ _ (.dead _) (.cons _ _ _ _ _ (.dead _) (.cons _ _ _ _ _ (.refl _) (.cons _ _ _ _ _ (.refl _) (.cons _ _ _ _ _ (.refl _) (.cons _ _ _ _ _ (.refl _) (.cons _ _ _ _ _ (.refl _) (.cons _ _ _ _ _ (.dead _) (.cons _ _ _ _ _ (.dead _) (.cons _ _ _ _ _ (.dead _) (.cons _ _ _ _ _ (.dead _) (.cons _ _ _ _ _ (.dead _) .nil)))))))))))))))))))))))))) (OLe.refl _)).trans (cmpS_ok (st' := ⟨[], [(0, .v (.lst false n3156 c3157)), (1, .v (.lst false n3159 c3160)), (4, .dead), (5, .dead), (7, .dead), (8, .dead), (9, .v (.lst false n3178 c3179)), (10, .v (.lst false n3183 c3184)), (11, .v (.lst false n3188 c3189)), (12, .v (.lst false n3193 c3194)), (13, .sl false 0 0 (n3315 + 1) 2), (14, .v (.int .i64 (IntKind.i64.wrap (x3316 + 1)))), (15, .v (.int .i64 (IntKind.i64.wrap (x3317 + 1)))), (16, .dead), (17, .dead), (18, .dead), (21, .dead), (22, .dead), (23, .dead), (24, .dead), (30, .dead), (79, .dead), (83, .dead), (86, .dead), (98, .dead), (105, .dead)], [(0, .p (c3318 ++ [(.int .i64 (IntKind.i64.wrap (x3342 + x3346))), (.int .i64 (IntKind.i64.wrap (x3344 + x3348)))]))], 1, []⟩) (by kernel_rfl))) ⟨n, Nat.lt_succ_self n, _, _, _, _, h3377, rfl⟩
              · refine W_sound tab_ok mixed 23 _ _ _ ?_
                simp -implicitDefEqProofs only [go_sem, ne_eq, not_false_eq_true, Nat.reduceBEq, Nat.reduceAdd, Nat.reduceSub, Nat.reduceMul, Nat.reduceLT, Nat.reduceLeDiff, Int.reduceLE, Int.reduceLT, Int.reduceToNat, Int.reduceBEq, Int.reduceBNe, Int.le_refl, Nat.le_refl, decide_true, decide_false, Int.cast_ofNat_Int, ↓reduceIte, h3155, h3158, h3177, h3182, h3187, h3192, g3319, g3320, g3321, h3322, g3324, g3325, g3326, h3327, g3330, g3331, g3332, h3333, g3335, g3336, g3337, h3338, h3341, h3343, h3345, h3347, g3349, g3350, h3351, h3354, g3355, g3356, h3357, g3360, g3361, h3362, h3367, h3369, h3370]
                repeat with_reducible refine And.intro (by first | kernel_rfl | decide) ?_
                exact cutQ _ ((Wk_le (.cons _ _ _ _ _ (.refl _) (.cons _ _ _ _ _ (.refl _) (.cons _ _ _ _ _ (.refl _) (.cons _ _ _ _ _ (.refl _) (.cons _ _ _ _ _ (.refl _) (.cons _ _ _ _ _ (.refl _) (.cons _ _ _ _ _ (.refl _) (.cons _ _ _ _ _ (.refl _) (.cons _ _ _ _ _ (.refl _) (.cons _ _ _ _ _ (.refl _) (.cons _ _ _ _ _ (.refl _) (.cons _ _ _ _ _ (.refl _) (.cons _ _ _ _ _ (.refl _) (.cons _ _ _ _ _ (.dead _) (.cons _ _ _ _ _ (.dead _) (.cons _ _ _ _ _ (.dead _) (.cons _ _ _ _ _ (.refl _) (.cons _ _ _ _ _ (.refl _) (.cons _ _ _ _ _ (.refl _) (.cons _ _ _ _ _ (.refl _) (.cons _ _ _ _ _ (.refl _) (.cons _ _ _ _ _ (.dead _) (.cons _ _ _ _ _ (.dead _) (.cons _ _ _ _ _ (.dead _) (.cons _ _ _ _ _ (.dead _) (.cons _ _ _ _ _ (.dead _) .nil)))))))))))))))))))))))))) (OLe.refl _)).trans (cmpS_ok (st' := ⟨[], [(0, .v (.lst false n3156 c3157)), (1, .v (.lst false n3159 c3160)), (4, .dead), (5, .dead), (7, .dead), (8, .dead), (9, .v (.lst false n3178 c3179)), (10, .v (.lst false n3183 c3184)), (11, .v (.lst false n3188 c3189)), (12, .v (.lst false n3193 c3194)), (13, .sl false 0 0 (n3315 + 1) 2), (14, .v (.int .i64 (IntKind.i64.wrap (x3316 + 1)))), (15, .v (.int .i64 x3317)), (16, .dead), (17, .dead), (18, .dead), (21, .dead), (22, .dead), (23, .dead), (24, .dead), (30, .dead), (79, .dead), (83, .dead), (86, .dead), (98, .dead), (105, .dead)], [(0, .p (c3318 ++ [(.int .i64 (IntKind.i64.wrap (x3342 + x3346))), (.int .i64 (IntKind.i64.wrap (x3344 + x3348)))]))], 1, []⟩) (by kernel_rfl))) ⟨n, Nat.lt_succ_self n, _, _, _, _, h3377, rfl⟩
            · have hh := brn_some h3377; clear h3377; rcases hh with ⟨h3371, h3377⟩ | ⟨h3371, h3377⟩
              · refine W_sound tab_ok mixed 23 _ _ _ ?_
                simp -implicitDefEqProofs only [go_sem, ne_eq, not_false_eq_true, Nat.reduceBEq, Nat.reduceAdd, Nat.reduceSub, Nat.reduceMul, Nat.reduceLT, Nat.reduceLeDiff, Int.reduceLE, Int.reduceLT, Int.reduceToNat, Int.reduceBEq, Int.reduceBNe, Int.le_refl, Nat.le_refl, decide_true, decide_false, Int.cast_ofNat_Int, ↓reduceIte, h3155, h3158, h3177, h3182, h3187, h3192, g3319, g3320, g3321, h3322, g3324, g3325, g3326, h3327, g3330, g3331, g3332, h3333, g3335, g3336, g3337, h3338, h3341, h3343, h3345, h3347, g3349, g3350, h3351, h3354, g3355, g3356, h3357, g3360, g3361, h3362, h3367, h3369, h3371]
                repeat with_reducible refine And.intro (by first | kernel_rfl | decide) ?_
                exact cutQ _ ((Wk_le (.cons _ _ _ _ _ (.refl _) (.cons _ _ _ _ _ (.refl _) (.cons _ _ _ _ _ (.refl _) (.cons _ _ _ _ _ (.refl _) (.cons _ _ _ _ _ (.refl _) (.cons _ _ _ _ _ (.refl _) (.cons _ _ _ _ _ (.refl _) (.cons _ _ _ _ _ (.refl _) (.cons _ _ _ _ _ (.refl _) (.cons _ _ _ _ _ (.refl _) (.cons _ _ _ _ _ (.refl _) (.cons _ _ _ _ _ (.refl _) (.cons _ _ _ _ _ (.refl _) (.cons _ _ _ _ _ (.dead _) (.cons _ _ _ _ _ (.dead _) (.cons _ _ _ _ _ (.dead _) (.cons _ _ _ _ _ (.refl _) (.cons _ _ _ _ _ (.refl _) (.cons _ _ _ _ _ (.refl _) (.cons _ _ _ _ _ (.refl _) (.cons _ _ _ _ _ (.refl _) (.cons _ _ _ _ _ (.dead _) (.cons _ _ _ _ _ (.dead _) (.cons _ _ _ _ _ (.dead _) (.cons _ _ _ _ _ (.dead _) (.cons _ _ _ _ _ (.dead _) .nil)))))))))))))))))))))))))) (OLe.refl _)).trans (cmpS_ok (st' := ⟨[], [(0, .v (.lst false n3156 c3157)), (1, .v (.lst false n3159 c3160)), (4, .dead), (5, .dead), (7, .dead), (8, .dead), (9, .v (.lst false n3178 c3179)), (10, .v (.lst false n3183 c3184)), (11, .v (.lst false n3188 c3189)), (12, .v (.lst false n3193 c3194)), (13, .sl false 0 0 (n3315 + 1) 2), (14, .v (.int .i64 x3316)), (15, .v (.int .i64 (IntKind.i64.wrap (x3317 + 1)))), (16, .dead), (17, .dead), (18, .dead), (21, .dead), (22, .dead), (23, .dead), (24, .dead), (30, .dead), (79, .dead), (83, .dead), (86, .dead), (98, .dead), (105, .dead)], [(0, .p (c3318 ++ [(.int .i64 (IntKind.i64.wrap (x3342 + x3346))), (.int .i64 (IntKind.i64.wrap (x3344 + x3348)))]))], 1, []⟩) (by kernel_rfl))) ⟨n, Nat.lt_succ_self n, _, _, _, _, h3377, rfl⟩
              · refine W_sound tab_ok mixed 19 _ _ _ ?_
                simp -implicitDefEqProofs only [go_sem, ne_eq, not_false_eq_true, Nat.reduceBEq, Nat.reduceAdd, Nat.reduceSub, Nat.reduceMul, Nat.reduceLT, Nat.reduceLeDiff, Int.reduceLE, Int.reduceLT, Int.reduceToNat, Int.reduceBEq, Int.reduceBNe, Int.le_refl, Nat.le_refl, decide_true, decide_false, Int.cast_ofNat_Int, ↓reduceIte, h3155, h3158, h3177, h3182, h3187, h3192, g3319, g3320, g3321, h3322, g3324, g3325, g3326, h3327, g3330, g3331, g3332, h3333, g3335, g3336, g3337, h3338, h3341, h3343, h3345, h3347, g3349, g3350, h3351, h3354, g3355, g3356, h3357, g3360, g3361, h3362, h3367, h3369, h3371]
                repeat with_reducible refine And.intro (by first | kernel_rfl | decide) ?_
                exact cutQ _ ((Wk_le (.cons _ _ _ _ _ (.refl _) (.cons _ _ _ _ _ (.refl _) (.cons _ _ _ _ _ (.refl _) (.cons _ _ _ _ _ (.refl _) (.cons _ _ _ _ _ (.refl _) (.cons _ _ _ _ _ (.refl _) (.cons _ _ _ _ _ (.refl _) (.cons _ _ _ _ _ (.refl _) (.cons _ _ _ _ _ (.refl _) (.cons _ _ _ _ _ (.refl _) (.cons _ _ _ _ _ (.refl _) (.cons _ _ _ _ _ (.refl _) (.cons _ _ _ _ _ (.refl _) (.cons _ _ _ _ _ (.dead _) (.cons _ _ _ _ _ (.dead _) (.cons _ _ _ _ _ (.dead _) (.cons _ _ _ _ _ (.refl _) (.cons _ _ _ _ _ (.refl _) (.cons _ _ _ _ _ (.refl _) (.cons _ _ _ _ _ (.refl _) (.cons _ _ _ _ _ (.refl _) (.cons _ _ _ _ _ (.dead _) (.cons _ _ _ _ _ (.dead _) (.cons _ _ _ _ _ (.dead _) (.cons _ _ _ _ _ (.dead _) (.cons _ _ _ _ _ (.dead _) .nil)))))))))))))))))))))))))) (OLe.refl _)).trans (cmpS_ok (st' := ⟨[], [(0, .v (.lst false n3156 c3157)), (1, .v (.lst false n3159 c3160)), (4, .dead), (5, .dead), (7, .dead), (8, .dead), (9, .v (.lst false n3178 c3179)), (10, .v (.lst false n3183 c3184)), (11, .v (.lst false n3188 c3189)), (12, .v (.lst false n3193 c3194)), (13, .sl false 0 0 (n3315 + 1) 2), (14, .v (.int .i64 x3316)), (15, .v (.int .i64 x3317)), (16, .dead), (17, .dead), (18, .dead), (21, .dead), (22, .dead), (23, .dead), (24, .dead), (30, .dead), (79, .dead), (83, .dead), (86, .dead), (98, .dead), (105, .dead)], [(0, .p (c3318 ++ [(.int .i64 (IntKind.i64.wrap (x3342 + x3346))), (.int .i64 (IntKind.i64.wrap (x3344 + x3348)))]))], 1, []⟩) (by kernel_rfl))) ⟨n, Nat.lt_succ_self n, _, _, _, _, h3377, rfl⟩
    · intro _ hf; exact hf.elim

def m35_L1 (N : Nat) (n3382 : Nat) (c3383 : List PV) (n3385 : Nat) (c3386 : List PV) (n3400 : Nat) (c3401 : List PV) (n3405 : Nat) (c3406 : List PV) (x3564 : Int) : Nat → Nat → Int → List PV → Option ((Nat × List PV))
  | 0, _, _, _ => none
  | n + 1, n3597, x3598, c3599 =>
    brn (decide (x3598 < ((n3405 : Nat) : Int))) (
      grd (0 ≤ x3564 ∧ x3564 < ((n3400 : Nat) : Int)) <|
      grd (0 < List.length (List.drop (Int.toNat x3564) c3401)) <|
      getI .i64 (gp c3401 (Int.toNat x3564)) fun x3605 =>
      grd (0 ≤ x3605 ∧ x3605 < ((n3382 : Nat) : Int)) <|
      grd (0 < List.length (List.drop ((Int.toNat x3605) * 2) c3383)) <|
      getI .i64 (gp c3383 ((Int.toNat x3605) * 2)) fun x3610 =>
      grd (0 ≤ x3598 ∧ x3598 < ((n3405 : Nat) : Int)) <|
      grd (0 < List.length (List.drop (Int.toNat x3598) c3406)) <|
      getI .i64 (gp c3406 (Int.toNat x3598)) fun x3615 =>
      grd (0 ≤ x3615 ∧ x3615 < ((n3385 : Nat) : Int)) <|
      grd (0 < List.length (List.drop ((Int.toNat x3615) * 2) c3386)) <|
      getI .i64 (gp c3386 ((Int.toNat x3615) * 2)) fun x3620 =>
      grd (0 < List.length (List.drop 1 (List.drop ((Int.toNat x3605) * 2) c3383))) <|
      getI .i64 (gp c3383 (((Int.toNat x3605) * 2) + 1)) fun x3623 =>
      grd (0 < List.length (List.drop 1 (List.drop ((Int.toNat x3615) * 2) c3386))) <|
      getI .i64 (gp c3386 (((Int.toNat x3615) * 2) + 1)) fun x3626 =>
      grd ((n3597 + 1) ≤ 1099511627776) <|
      grd (List.length c3599 = (n3597 * 2)) <|
      m35_L1 N n3382 c3383 n3385 c3386 n3400 c3401 n3405 c3406 x3564 n (n3597 + 1) (IntKind.i64.wrap (x3598 + 1)) (c3599 ++ [(.int .i64 (IntKind.i64.wrap (x3610 + x3620))), (.int .i64 (IntKind.i64.wrap (x3623 + x3626)))])) (
      some (n3597, c3599))
def m35_L0 (N : Nat) (n3382 : Nat) (c3383 : List PV) (n3385 : Nat) (c3386 : List PV) (n3400 : Nat) (c3401 : List PV) (n3405 : Nat) (c3406 : List PV) : Nat → Nat → Int → List PV → Option ((Nat × List PV))
  | 0, _, _, _ => none
  | n + 1, n3563, x3564, c3565 =>
    brn (decide (x3564 < ((n3400 : Nat) : Int))) (
      bnd' (m35_L1 N n3382 c3383 n3385 c3386 n3400 c3401 n3405 c3406 x3564 N n3563 0 c3565) fun o =>
      match o with
      | (n3629, c3630) =>
        m35_L0 N n3382 c3383 n3385 c3386 n3400 c3401 n3405 c3406 n n3629 (IntKind.i64.wrap (x3564 + 1)) c3630) (
      some (n3563, c3565))
def m35_L2 (N : Nat) (n3631 : Nat) (c3632 : List PV) (n3637 : Nat) (c3638 : List PV) : Nat → Nat → Int → List PV → Option ((Nat × List PV))
  | 0, _, _, _ => none
  | n + 1, n3665, x3666, c3667 =>
    brn (decide (x3666 < ((n3637 : Nat) : Int))) (
      grd (0 ≤ x3666 ∧ x3666 < ((n3637 : Nat) : Int)) <|
      grd (0 < List.length (List.drop (Int.toNat x3666) c3638)) <|
      getI .i64 (gp c3638 (Int.toNat x3666)) fun x3673 =>
      grd (0 ≤ x3673 ∧ x3673 < ((n3631 : Nat) : Int)) <|
      grd (2 ≤ List.length (List.drop ((Int.toNat x3673) * 2) c3632)) <|
      getA2 (.agg (List.take 2 (List.drop ((Int.toNat x3673) * 2) c3632))) fun p3678 p3679 =>
      grd ((n3665 + 1) ≤ 1099511627776) <|
      grd (List.length c3667 = (n3665 * 2)) <|
      m35_L2 N n3631 c3632 n3637 c3638 n (n3665 + 1) (IntKind.i64.wrap (x3666 + 1)) (c3667 ++ [p3678, p3679])) (
      some (n3665, c3667))
def m35_L4 (N : Nat) (n3382 : Nat) (c3383 : List PV) (n3385 : Nat) (c3386 : List PV) (n3689 : Nat) (c3690 : List PV) (n3694 : Nat) (c3695 : List PV) (x3853 : Int) : Nat → Nat → Int → List PV → Option ((Nat × List PV))
  | 0, _, _, _ => none
  | n + 1, n3886, x3887, c3888 =>
    brn (decide (x3887 < ((n3694 : Nat) : Int))) (
      grd (0 ≤ x3853 ∧ x3853 < ((n3689 : Nat) : Int)) <|
      grd (0 < List.length (List.drop (Int.toNat x3853) c3690)) <|
      getI .i64 (gp c3690 (Int.toNat x3853)) fun x3894 =>
      grd (0 ≤ x3894 ∧ x3894 < ((n3382 : Nat) : Int)) <|
      grd (0 < List.length (List.drop ((Int.toNat x3894) * 2) c3383)) <|
      getI .i64 (gp c3383 ((Int.toNat x3894) * 2)) fun x3899 =>
      grd (0 ≤ x3887 ∧ x3887 < ((n3694 : Nat) : Int)) <|
      grd (0 < List.length (List.drop (Int.toNat x3887) c3695)) <|
      getI .i64 (gp c3695 (Int.toNat x3887)) fun x3904 =>
      grd (0 ≤ x3904 ∧ x3904 < ((n3385 : Nat) : Int)) <|
      grd (0 < List.length (List.drop ((Int.toNat x3904) * 2) c3386)) <|
      getI .i64 (gp c3386 ((Int.toNat x3904) * 2)) fun x3909 =>
      grd (0 < List.length (List.drop 1 (List.drop ((Int.toNat x3894) * 2) c3383))) <|
      getI .i64 (gp c3383 (((Int.toNat x3894) * 2) + 1)) fun x3912 =>
      grd (0 < List.length (List.drop 1 (List.drop ((Int.toNat x3904) * 2) c3386))) <|
      getI .i64 (gp c3386 (((Int.toNat x3904) * 2) + 1)) fun x3915 =>
      grd ((n3886 + 1) ≤ 1099511627776) <|
      grd (List.length c3888 = (n3886 * 2)) <|
      m35_L4 N n3382 c3383 n3385 c3386 n3689 c3690 n3694 c3695 x3853 n (n3886 + 1) (IntKind.i64.wrap (x3887 + 1)) (c3888 ++ [(.int .i64 (IntKind.i64.wrap (x3899 + x3909))), (.int .i64 (IntKind.i64.wrap (x3912 + x3915)))])) (
      some (n3886, c3888))
def m35_L3 (N : Nat) (n3382 : Nat) (c3383 : List PV) (n3385 : Nat) (c3386 : List PV) (n3689 : Nat) (c3690 : List PV) (n3694 : Nat) (c3695 : List PV) : Nat → Nat → Int → List PV → Option ((Nat × List PV))
  | 0, _, _, _ => none
  | n + 1, n3852, x3853, c3854 =>
    brn (decide (x3853 < ((n3689 : Nat) : Int))) (
      bnd' (m35_L4 N n3382 c3383 n3385 c3386 n3689 c3690 n3694 c3695 x3853 N n3852 0 c3854) fun o =>
      match o with
      | (n3918, c3919) =>
        m35_L3 N n3382 c3383 n3385 c3386 n3689 c3690 n3694 c3695 n n3918 (IntKind.i64.wrap (x3853 + 1)) c3919) (
      some (n3852, c3854))
def m35_L5 (N : Nat) (n3920 : Nat) (c3921 : List PV) (n3926 : Nat) (c3927 : List PV) : Nat → Nat → Int → List PV → Option ((Nat × List PV))
  | 0, _, _, _ => none
  | n + 1, n3954, x3955, c3956 =>
    brn (decide (x3955 < ((n3926 : Nat) : Int))) (
      grd (0 ≤ x3955 ∧ x3955 < ((n3926 : Nat) : Int)) <|
      grd (0 < List.length (List.drop (Int.toNat x3955) c3927)) <|
      getI .i64 (gp c3927 (Int.toNat x3955)) fun x3962 =>
      grd (0 ≤ x3962 ∧ x3962 < ((n3920 : Nat) : Int)) <|
      grd (2 ≤ List.length (List.drop ((Int.toNat x3962) * 2) c3921)) <|
      getA2 (.agg (List.take 2 (List.drop ((Int.toNat x3962) * 2) c3921))) fun p3967 p3968 =>
      grd ((n3954 + 1) ≤ 1099511627776) <|
      grd (List.length c3956 = (n3954 * 2)) <|
      m35_L5 N n3920 c3921 n3926 c3927 n (n3954 + 1) (IntKind.i64.wrap (x3955 + 1)) (c3956 ++ [p3967, p3968])) (
      some (n3954, c3956))
def m35 (N : Nat) (p3379 : PV) (p3380 : PV) : Option (PV) :=
  getL p3379 fun n3382 c3383 =>
  getL p3380 fun n3385 c3386 =>
  bnd' (m23 N (.lst false n3382 c3383)) fun p3387 =>
  getI .i64 p3387 fun x3390 =>
  brn (x3390 == 0) (
    bnd' (m23 N (.lst false n3385 c3386)) fun p3392 =>
    getI .i64 p3392 fun x3395 =>
    brn (x3395 != 0) (
      some (.tup [(.lst false 0 []), (.int .i64 x3395)])) (
      bnd' (m66 N (.lst false n3382 c3383)) fun p3397 =>
      getL p3397 fun n3400 c3401 =>
      bnd' (m66 N (.lst false n3385 c3386)) fun p3402 =>
      getL p3402 fun n3405 c3406 =>
      bnd' (m35_L0 N n3382 c3383 n3385 c3386 n3400 c3401 n3405 c3406 N 0 0 []) fun o =>
      match o with
      | (n3631, c3632) =>
        grd (List.length c3632 = (n3631 * 2)) <|
        bnd' (m66 N (.lst false n3631 c3632)) fun p3634 =>
        getL p3634 fun n3637 c3638 =>
        bnd' (m35_L2 N n3631 c3632 n3637 c3638 N 0 0 []) fun o =>
        match o with
        | (n3682, c3683) =>
          grd (List.length c3683 = (n3682 * 2)) <|
          some (.tup [(.lst false n3682 c3683), (.int .i64 0)]))) (
    brn (x3390 != 0) (
      some (.tup [(.lst false 0 []), (.int .i64 x3390)])) (
      bnd' (m66 N (.lst false n3382 c3383)) fun p3686 =>
      getL p3686 fun n3689 c3690 =>
      bnd' (m66 N (.lst false n3385 c3386)) fun p3691 =>
      getL p3691 fun n3694 c3695 =>
      bnd' (m35_L3 N n3382 c3383 n3385 c3386 n3689 c3690 n3694 c3695 N 0 0 []) fun o =>
      match o with
      | (n3920, c3921) =>
        grd (List.length c3921 = (n3920 * 2)) <|
        bnd' (m66 N (.lst false n3920 c3921)) fun p3923 =>
        getL p3923 fun n3926 c3927 =>
        bnd' (m35_L5 N n3920 c3921 n3926 c3927 N 0 0 []) fun o =>
        match o with
        | (n3971, c3972) =>
          grd (List.length c3972 = (n3971 * 2)) <|
          some (.tup [(.lst false n3971 c3972), (.int .i64 0)])))
theorem c35 (N : Nat) (p3379 : PV) (p3380 : PV) (r : PV)  (h : m35 N p3379 p3380 = some r) : FnP Try.prog 35 [p3379, p3380] r := by
  unfold m35 at h
  refine Fn_of (sz := 97) tab_ok [0, 1, 4, 5, 6, 7, 8, 9, 10, 11, 12, 13, 14, 18, 22, 31, 37, 83] [.tmp 4, .tmp 5] Try.func35 rfl rfl rfl (by simp) ?_
  simp only [initSt, initEnv, List.map_cons, List.map_nil, List.getD_cons_zero, List.getD_cons_succ, List.getD_nil]
  have hh := getL_some h; clear h; obtain ⟨n3382, c3383, h3381, h⟩ := hh
  have hh := getL_some h; clear h; obtain ⟨n3385, c3386, h3384, h⟩ := hh
  have hh := bnd'_some h; clear h; obtain ⟨p3387, h3388, h⟩ := hh
  refine W_sound tab_ok mixed 8 _ _ _ ?_
  simp -implicitDefEqProofs only [go_sem, ne_eq, not_false_eq_true, Nat.reduceBEq, Nat.reduceAdd, Nat.reduceSub, Nat.reduceMul, Nat.reduceLT, Nat.reduceLeDiff, Int.reduceLE, Int.reduceLT, Int.reduceToNat, Int.reduceBEq, Int.reduceBNe, Int.le_refl, Nat.le_refl, decide_true, decide_false, Int.cast_ofNat_Int, ↓reduceIte, h3381, h3384]
  repeat with_reducible refine And.intro (by first | kernel_rfl | decide) ?_
  refine Wp_callP (c23 N _ _ h3388) (by kernel_rfl) rfl rfl rfl rfl (by decide) ?_
  have hh := getI_some h; clear h; obtain ⟨x3390, h3389, h⟩ := hh
  have hh := brn_some h; clear h; rcases hh with ⟨h3391, h⟩ | ⟨h3391, h⟩
  · have hh := bnd'_some h; clear h; obtain ⟨p3392, h3393, h⟩ := hh
    refine W_sound tab_ok mixed 11 _ _ _ ?_
    simp -implicitDefEqProofs only [go_sem, ne_eq, not_false_eq_true, Nat.reduceBEq, Nat.reduceAdd, Nat.reduceSub, Nat.reduceMul, Nat.reduceLT, Nat.reduceLeDiff, Int.reduceLE, Int.reduceLT, Int.reduceToNat, Int.reduceBEq, Int.reduceBNe, Int.le_refl, Nat.le_refl, decide_true, decide_false, Int.cast_ofNat_Int, ↓reduceIte, h3381, h3384, h3389, h3391]
    repeat with_reducible refine And.intro (by first | kernel_rfl | decide) ?_
    refine Wp_callP (c23 N _ _ h3393) (by kernel_rfl) rfl rfl rfl rfl (by decide) ?_
    have hh := getI_some h; clear h; obtain ⟨x3395, h3394, h⟩ := hh
    have hh := brn_some h; clear h; rcases hh with ⟨h3396, h⟩ | ⟨h3396, h⟩
    · refine W_sound tab_ok mixed 17 _ _ _ ?_
      simp -implicitDefEqProofs only [go_sem, ne_eq, not_false_eq_true, Nat.reduceBEq, Nat.reduceAdd, Nat.reduceSub, Nat.reduceMul, Nat.reduceLT, Nat.reduceLeDiff, Int.reduceLE, Int.reduceLT, Int.reduceToNat, Int.reduceBEq, Int.reduceBNe, Int.le_refl, Nat.le_refl, decide_true, decide_false, Int.cast_ofNat_Int, ↓reduceIte, h3381, h3384, h3389, h3391, h3394, h3396]
      repeat with_reducible refine And.intro (by first | kernel_rfl | decide) ?_
      obtain rfl := Option.some.inj h
      exact finC [(4, .v .nl), (5, .v (.int .i64 x3395))] [(4, .v (.lst false 0 [])), (5, .v (.int .i64 x3395))] (by simp [leE, lk_cons]) (.cons _ _ _ _ _ (.v _ _ (.nl false)) (.cons _ _ _ _ _ (.v _ _ (.refl _)) .nil)) (by rfl) (by simp [leE, lk_cons]) (by decide) (by decide) rfl (by simp only [go_sem, ne_eq, not_false_eq_true, Nat.reduceBEq, Nat.reduceAdd, Nat.reduceSub, Nat.reduceMul, Nat.reduceLT, Nat.reduceLeDiff, Int.reduceLE, Int.reduceLT, Int.reduceToNat, Int.reduceBEq, Int.reduceBNe, Int.le_refl, Nat.le_refl, decide_true, decide_false, Int.cast_ofNat_Int, ↓reduceIte, resQ_tmp, resQ_cell, resQ_nil, retD_one, retD_two, retD_three, retD_none]; try simp [R.val, retD_one, retD_two, retD_three, retD_none])
    · have hh := bnd'_some h; clear h; obtain ⟨p3397, h3398, h⟩ := hh
      refine W_sound tab_ok mixed 13 _ _ _ ?_
      simp -implicitDefEqProofs only [go_sem, ne_eq, not_false_eq_true, Nat.reduceBEq, Nat.reduceAdd, Nat.reduceSub, Nat.reduceMul, Nat.reduceLT, Nat.reduceLeDiff, Int.reduceLE, Int.reduceLT, Int.reduceToNat, Int.reduceBEq, Int.reduceBNe, Int.le_refl, Nat.le_refl, decide_true, decide_false, Int.cast_ofNat_Int, ↓reduceIte, h3381, h3384, h3389, h3391, h3394, h3396]
      repeat with_reducible refine And.intro (by first | kernel_rfl | decide) ?_
      refine Wp_callP (c66 N _ _ h3398) (by kernel_rfl) rfl rfl rfl rfl (by decide) ?_
      have hh := getL_some h; clear h; obtain ⟨n3400, c3401, h3399, h⟩ := hh
      have hh := bnd'_some h; clear h; obtain ⟨p3402, h3403, h⟩ := hh
      refine W_sound tab_ok mixed 1 _ _ _ ?_
      simp -implicitDefEqProofs only [go_sem, ne_eq, not_false_eq_true, Nat.reduceBEq, Nat.reduceAdd, Nat.reduceSub, Nat.reduceMul, Nat.reduceLT, Nat.reduceLeDiff, Int.reduceLE, Int.reduceLT, Int.reduceToNat, Int.reduceBEq, Int.reduceBNe, Int.le_refl, Nat.le_refl, decide_true, decide_false, Int.cast_ofNat_Int, ↓reduceIte, h3381, h3384, h3389, h3391, h3394, h3396, h3399]
      repeat with_reducible refine And.intro (by first | kernel_rfl | decide) ?_
      refine Wp_callP (c66 N _ _ h3403) (by kernel_rfl) rfl rfl rfl rfl (by decide) ?_
      have hh := getL_some h; clear h; obtain ⟨n3405, c3406, h3404, h⟩ := hh
      refine W_sound tab_ok mixed 12 _ _ _ ?_
      simp -implicitDefEqProofs only [go_sem, ne_eq, not_false_eq_true, Nat.reduceBEq, Nat.reduceAdd, Nat.reduceSub, Nat.reduceMul, Nat.reduceLT, Nat.reduceLeDiff, Int.reduceLE, Int.reduceLT, Int.reduceToNat, Int.reduceBEq, Int.reduceBNe, Int.le_refl, Nat.le_refl, decide_true, decide_false, Int.cast_ofNat_Int, ↓reduceIte, h3381, h3384, h3389, h3391, h3394, h3396, h3399, h3404]
      repeat with_reducible refine And.intro (by first | kernel_rfl | decide) ?_
      refine Wp_weaken (Wk_ownS 9 2 rfl (by decide) (by decide)) ?_
      simp -implicitDefEqProofs only [go_sem, ne_eq, not_false_eq_true, Nat.reduceBEq, Nat.reduceAdd, Nat.reduceSub, Nat.reduceMul, Nat.reduceLT, Nat.reduceLeDiff, Int.reduceLE, Int.reduceLT, Int.reduceToNat, Int.reduceBEq, Int.reduceBNe, Int.le_refl, Nat.le_refl, decide_true, decide_false, Int.cast_ofNat_Int, ↓reduceIte, h3381, h3384, h3389, h3391, h3394, h3396, h3399, h3404]
      have hh := bnd'_some h; clear h; obtain ⟨o3974, h3975, h3976⟩ := hh
      refine Wp_cut (fun s => ∃ n3631, ∃ c3632, (n3631, c3632) = o3974 ∧ s = ⟨[], [(0, .dead), (1, .dead), (4, .dead), (5, .dead), (6, .dead), (7, .dead), (8, .dead), (9, .sl false 0 0 n3631 2), (10, .dead), (11, .dead), (12, .dead), (13, .dead), (14, .dead), (18, .dead), (22, .dead), (31, .dead), (37, .dead), (83, .dead)], [(0, .p c3632)], 1, []⟩) ?_ ?_
      · refine Wp_block ?_
        refine Wp_loopG (fun n s => ∃ n3563, ∃ x3564, ∃ c3565, m35_L0 N n3382 c3383 n3385 c3386 n3400 c3401 n3405 c3406 n n3563 x3564 c3565 = some o3974 ∧ s = ⟨[], [(0, .v (.lst false n3382 c3383)), (1, .v (.lst false n3385 c3386)), (4, .dead), (5, .dead), (6, .dead), (7, .v (.lst false n3400 c3401)), (8, .v (.lst false n3405 c3406)), (9, .sl false 0 0 n3563 2), (10, .v (.int .i64 x3564)), (11, .dead), (12, .dead), (13, .dead), (14, .dead), (18, .dead), (22, .dead), (31, .dead), (37, .dead), (83, .dead)], [(0, .p c3565)], 1, []⟩) N _ ((Wk_le (.cons _ _ _ _ _ (.refl _) (.cons _ _ _ _ _ (.refl _) (.cons _ _ _ _ _ (.dead _) (.cons _ _ _ _ _ (.dead _) (.cons _ _ _ _ _ (.dead _) (.cons _ _ _ _ _ (.refl _) (.cons _ _ _ _ _ (.refl _) (.cons _ _ _ _ _ (.refl _) (.cons _ _ _ _ _ (.refl _) (.cons _ _ _ _ _ (.refl _) (.cons _ _ _ _ _ (.refl _) (.cons _ _ _ _ _ (.refl _) (.cons _ _ _ _ _ (.refl _) (.cons _ _ _ _ _ (.dead _) (.cons _ _ _ _ _ (.dead _) (.cons _ _ _ _ _ (.refl _) (.cons _ _ _ _ _ (.refl _) (.cons _ _ _ _ _ (.refl _) .nil)))))))))))))))))) (OLe.refl _)).trans (cmpS_ok rfl)) ⟨_, _, _, h3975, rfl⟩ ?_
        clear h3975
        rintro n _ ⟨n3563, x3564, c3565, h3975, rfl⟩
        cases n with
        | zero => cases h3975
        | succ n =>
          rw [m35_L0] at h3975
          have hh := brn_some h3975; clear h3975; rcases hh with ⟨h3566, h3975⟩ | ⟨h3566, h3975⟩
          · refine W_sound tab_ok mixed 16 _ _ _ ?_
            simp -implicitDefEqProofs only [go_sem, ne_eq, not_false_eq_true, Nat.reduceBEq, Nat.reduceAdd, Nat.reduceSub, Nat.reduceMul, Nat.reduceLT, Nat.reduceLeDiff, Int.reduceLE, Int.reduceLT, Int.reduceToNat, Int.reduceBEq, Int.reduceBNe, Int.le_refl, Nat.le_refl, decide_true, decide_false, Int.cast_ofNat_Int, ↓reduceIte, h3381, h3384, h3389, h3391, h3394, h3396, h3399, h3404, h3566]
            repeat with_reducible refine And.intro (by first | kernel_rfl | decide) ?_
            have hh := bnd'_some h3975; clear h3975; obtain ⟨o3977, h3978, h3979⟩ := hh
            refine Wp_cut (fun s => ∃ n3629, ∃ c3630, (n3629, c3630) = o3977 ∧ s = ⟨[], [(0, .v (.lst false n3382 c3383)), (1, .v (.lst false n3385 c3386)), (4, .dead), (5, .dead), (6, .dead), (7, .v (.lst false n3400 c3401)), (8, .v (.lst false n3405 c3406)), (9, .sl false 0 0 n3629 2), (10, .v (.int .i64 x3564)), (11, .dead), (12, .dead), (13, .dead), (14, .dead), (18, .dead), (22, .dead), (31, .dead), (37, .dead), (83, .dead)], [(0, .p c3630)], 1, []⟩) ?_ ?_
            · refine Wp_block ?_
              refine Wp_loopG (fun n s => ∃ n3597, ∃ x3598, ∃ c3599, m35_L1 N n3382 c3383 n3385 c3386 n3400 c3401 n3405 c3406 x3564 n n3597 x3598 c3599 = some o3977 ∧ s = ⟨[], [(0, .v (.lst false n3382 c3383)), (1, .v (.lst false n3385 c3386)), (4, .dead), (5, .dead), (6, .dead), (7, .v (.lst false n3400 c3401)), (8, .v (.lst false n3405 c3406)), (9, .sl false 0 0 n3597 2), (10, .v (.int .i64 x3564)), (11, .v (.int .i64 x3598)), (12, .dead), (13, .dead), (14, .dead), (18, .dead), (22, .dead), (31, .dead), (37, .dead), (83, .dead)], [(0, .p c3599)], 1, []⟩) N _ ((Wk_le (.cons _ _ _ _ _ (.refl _) (.cons _ _ _ _ _ (.refl _) (.cons _ _ _ _ _ (.refl _) (.cons _ _ _ _ _ (.refl _) (.cons _ _ _ _ _ (.refl _) (.cons _ _ _ _ _ (.refl _) (.cons _ _ _ _ _ (.refl _) (.cons _ _ _ _ _ (.refl _) (.cons _ _ _ _ _ (.refl _) (.cons _ _ _ _ _ (.refl _) (.cons _ _ _ _ _ (.refl _) (.cons _ _ _ _ _ (.refl _) (.cons _ _ _ _ _ (.refl _) (.cons _ _ _ _ _ (.refl _) (.cons _ _ _ _ _ (.refl _) (.cons _ _ _ _ _ (.dead _) (.cons _ _ _ _ _ (.refl _) (.cons _ _ _ _ _ (.refl _) .nil)))))))))))))))))) (OLe.refl _)).trans (cmpS_ok rfl)) ⟨_, _, _, h3978, rfl⟩ ?_
              clear h3978
              rintro n _ ⟨n3597, x3598, c3599, h3978, rfl⟩
              cases n with
              | zero => cases h3978
              | succ n =>
                rw [m35_L1] at h3978
                have hh := brn_some h3978; clear h3978; rcases hh with ⟨h3600, h3978⟩ | ⟨h3600, h3978⟩
                · have hh := grd_some h3978; clear h3978; obtain ⟨⟨g3601, g3602⟩, h3978⟩ := hh
                  have hh := grd_some h3978; clear h3978; obtain ⟨g3603, h3978⟩ := hh
                  have hh := getI_some h3978; clear h3978; obtain ⟨x3605, h3604, h3978⟩ := hh
                  have hh := grd_some h3978; clear h3978; obtain ⟨⟨g3606, g3607⟩, h3978⟩ := hh
                  have hh := grd_some h3978; clear h3978; obtain ⟨g3608, h3978⟩ := hh
                  have hh := getI_some h3978; clear h3978; obtain ⟨x3610, h3609, h3978⟩ := hh
                  have hh := grd_some h3978; clear h3978; obtain ⟨⟨g3611, g3612⟩, h3978⟩ := hh
                  have hh := grd_some h3978; clear h3978; obtain ⟨g3613, h3978⟩ := hh
                  have hh := getI_some h3978; clear h3978; obtain ⟨x3615, h3614, h3978⟩ := hh
                  have hh := grd_some h3978; clear h3978; obtain ⟨⟨g3616, g3617⟩, h3978⟩ := hh
                  have hh := grd_some h3978; clear h3978; obtain ⟨g3618, h3978⟩ := hh
                  have hh := getI_some h3978; clear h3978; obtain ⟨x3620, h3619, h3978⟩ := hh
                  have hh := grd_some h3978; clear h3978; obtain ⟨g3621, h3978⟩ := hh
                  have hh := getI_some h3978; clear h3978; obtain ⟨x3623, h3622, h3978⟩ := hh
                  have hh := grd_some h3978; clear h3978; obtain ⟨g3624, h3978⟩ := hh
                  have hh := getI_some h3978; clear h3978; obtain ⟨x3626, h3625, h3978⟩ := hh
                  have hh := grd_some h3978; clear h3978; obtain ⟨g3627, h3978⟩ := hh
                  have hh := grd_some h3978; clear h3978; obtain ⟨g3628, h3978⟩ := hh
                  refine W_sound tab_ok mixed 59 _ _ _ ?_
                  simp -implicitDefEqProofs only [go_sem, ne_eq, not_false_eq_true, Nat.reduceBEq, Nat.reduceAdd, Nat.reduceSub, Nat.reduceMul, Nat.reduceLT, Nat.reduceLeDiff, Int.reduceLE, Int.reduceLT, Int.reduceToNat, Int.reduceBEq, Int.reduceBNe, Int.le_refl, Nat.le_refl, decide_true, decide_false, Int.cast_ofNat_Int, ↓reduceIte, h3381, h3384, h3389, h3391, h3394, h3396, h3399, h3404, h3566, h3600, g3601, g3602, g3603, h3604, g3606, g3607, g3608, h3609, g3611, g3612, g3613, h3614, g3616, g3617, g3618, h3619, g3621, h3622, g3624, h3625, g3627, g3628]
                  repeat with_reducible refine And.intro (by first | kernel_rfl | decide) ?_
                  exact cutQ _ ((Wk_le (.cons _ _ _ _ _ (.refl _) (.cons _ _ _ _ _ (.refl _) (.cons _ _ _ _ _ (.refl _) (.cons _ _ _ _ _ (.refl _) (.cons _ _ _ _ _ (.refl _) (.cons _ _ _ _ _ (.refl _) (.cons _ _ _ _ _ (.refl _) (.cons _ _ _ _ _ (.refl _) (.cons _ _ _ _ _ (.refl _) (.cons _ _ _ _ _ (.refl _) (.cons _ _ _ _ _ (.refl _) (.cons _ _ _ _ _ (.refl _) (.cons _ _ _ _ _ (.refl _) (.cons _ _ _ _ _ (.refl _) (.cons _ _ _ _ _ (.refl _) (.cons _ _ _ _ _ (.refl _) (.cons _ _ _ _ _ (.dead _) (.cons _ _ _ _ _ (.refl _) .nil)))))))))))))))))) (OLe.refl _)).trans (cmpS_ok rfl)) ⟨n, Nat.lt_succ_self n, _, _, _, h3978, rfl⟩
                · refine W_sound tab_ok mixed 10 _ _ _ ?_
                  simp -implicitDefEqProofs only [go_sem, ne_eq, not_false_eq_true, Nat.reduceBEq, Nat.reduceAdd, Nat.reduceSub, Nat.reduceMul, Nat.reduceLT, Nat.reduceLeDiff, Int.reduceLE, Int.reduceLT, Int.reduceToNat, Int.reduceBEq, Int.reduceBNe, Int.le_refl, Nat.le_refl, decide_true, decide_false, Int.cast_ofNat_Int, ↓reduceIte, h3381, h3384, h3389, h3391, h3394, h3396, h3399, h3404, h3566, h3600]
                  repeat with_reducible refine And.intro (by first | kernel_rfl | decide) ?_
                  obtain rfl := Option.some.inj h3978
                  exact cutQ _ ((Wk_le (.cons _ _ _ _ _ (.refl _) (.cons _ _ _ _ _ (.refl _) (.cons _ _ _ _ _ (.refl _) (.cons _ _ _ _ _ (.refl _) (.cons _ _ _ _ _ (.refl _) (.cons _ _ _ _ _ (.refl _) (.cons _ _ _ _ _ (.refl _) (.cons _ _ _ _ _ (.refl _) (.cons _ _ _ _ _ (.refl _) (.cons _ _ _ _ _ (.dead _) (.cons _ _ _ _ _ (.refl _) (.cons _ _ _ _ _ (.refl _) (.cons _ _ _ _ _ (.refl _) (.cons _ _ _ _ _ (.refl _) (.cons _ _ _ _ _ (.refl _) (.cons _ _ _ _ _ (.refl _) (.cons _ _ _ _ _ (.dead _) (.cons _ _ _ _ _ (.refl _) .nil)))))))))))))))))) (OLe.refl _)).trans (cmpS_ok rfl)) ⟨_, _, rfl, rfl⟩
            · rintro _ ⟨n3629, c3630, rfl, rfl⟩
              (try dsimp only at h3979)
              refine W_sound tab_ok mixed 6 _ _ _ ?_
              simp -implicitDefEqProofs only [go_sem, ne_eq, not_false_eq_true, Nat.reduceBEq, Nat.reduceAdd, Nat.reduceSub, Nat.reduceMul, Nat.reduceLT, Nat.reduceLeDiff, Int.reduceLE, Int.reduceLT, Int.reduceToNat, Int.reduceBEq, Int.reduceBNe, Int.le_refl, Nat.le_refl, decide_true, decide_false, Int.cast_ofNat_Int, ↓reduceIte, h3381, h3384, h3389, h3391, h3394, h3396, h3399, h3404, h3566]
              repeat with_reducible refine And.intro (by first | kernel_rfl | decide) ?_
              exact cutQ _ ((Wk_le (.cons _ _ _ _ _ (.refl _) (.cons _ _ _ _ _ (.refl _) (.cons _ _ _ _ _ (.refl _) (.cons _ _ _ _ _ (.refl _) (.cons _ _ _ _ _ (.refl _) (.cons _ _ _ _ _ (.refl _) (.cons _ _ _ _ _ (.refl _) (.cons _ _ _ _ _ (.refl _) (.cons _ _ _ _ _ (.refl _) (.cons _ _ _ _ _ (.refl _) (.cons _ _ _ _ _ (.refl _) (.cons _ _ _ _ _ (.refl _) (.cons _ _ _ _ _ (.refl _) (.cons _ _ _ _ _ (.refl _) (.cons _ _ _ _ _ (.refl _) (.cons _ _ _ _ _ (.refl _) (.cons _ _ _ _ _ (.refl _) (.cons _ _ _ _ _ (.refl _) .nil)))))))))))))))))) (OLe.refl _)).trans (cmpS_ok rfl)) ⟨n, Nat.lt_succ_self n, _, _, _, h3979, rfl⟩
          · refine W_sound tab_ok mixed 10 _ _ _ ?_
            simp -implicitDefEqProofs only [go_sem, ne_eq, not_false_eq_true, Nat.reduceBEq, Nat.reduceAdd, Nat.reduceSub, Nat.reduceMul, Nat.reduceLT, Nat.reduceLeDiff, Int.reduceLE, Int.reduceLT, Int.reduceToNat, Int.reduceBEq, Int.reduceBNe, Int.le_refl, Nat.le_refl, decide_true, decide_false, Int.cast_ofNat_Int, ↓reduceIte, h3381, h3384, h3389, h3391, h3394, h3396, h3399, h3404, h3566]
            repeat with_reducible refine And.intro (by first | kernel_rfl | decide) ?_
            obtain rfl := Option.some.inj h3975
            exact cutQ _ ((Wk_le (.cons _ _ _ _ _ (.dead _) (.cons _ _ _ _ _ (.dead _) (.cons _ _ _ _ _ (.refl _) (.cons _ _ _ _ _ (.refl _) (.cons _ _ _ _ _ (.refl _) (.cons _ _ _ _ _ (.dead _) (.cons _ _ _ _ _ (.dead _) (.cons _ _ _ _ _ (.refl _) (.cons _ _ _ _ _ (.dead _) (.cons _ _ _ _ _ (.refl _) (.cons _ _ _ _ _ (.refl _) (.cons _ _ _ _ _ (.refl _) (.cons _ _ _ _ _ (.refl _) (.cons _ _ _ _ _ (.refl _) (.cons _ _ _ _ _ (.refl _) (.cons _ _ _ _ _ (.dead _) (.cons _ _ _ _ _ (.refl _) (.cons _ _ _ _ _ (.refl _) .nil)))))))))))))))))) (OLe.refl _)).trans (cmpS_ok rfl)) ⟨_, _, rfl, rfl⟩
      · rintro _ ⟨n3631, c3632, rfl, rfl⟩
        (try dsimp only at h3976)
        refine W_sound tab_ok mixed 5 _ _ _ ?_
        simp -implicitDefEqProofs only [go_sem, ne_eq, not_false_eq_true, Nat.reduceBEq, Nat.reduceAdd, Nat.reduceSub, Nat.reduceMul, Nat.reduceLT, Nat.reduceLeDiff, Int.reduceLE, Int.reduceLT, Int.reduceToNat, Int.reduceBEq, Int.reduceBNe, Int.le_refl, Nat.le_refl, decide_true, decide_false, Int.cast_ofNat_Int, ↓reduceIte, h3381, h3384, h3389, h3391, h3394, h3396, h3399, h3404]
        repeat with_reducible refine And.intro (by first | kernel_rfl | decide) ?_
        have hh := grd_some h3976; clear h3976; obtain ⟨g3633, h3976⟩ := hh
        refine Wp_wkK (Wk_freeze 0 c3632 (by rfl) (by decide) (by decide)) rfl ?_
        simp -implicitDefEqProofs only [go_sem, ne_eq, not_false_eq_true, Nat.reduceBEq, Nat.reduceAdd, Nat.reduceSub, Nat.reduceMul, Nat.reduceLT, Nat.reduceLeDiff, Int.reduceLE, Int.reduceLT, Int.reduceToNat, Int.reduceBEq, Int.reduceBNe, Int.le_refl, Nat.le_refl, decide_true, decide_false, Int.cast_ofNat_Int, ↓reduceIte, h3381, h3384, h3389, h3391, h3394, h3396, h3399, h3404, g3633]
        have hh := bnd'_some h3976; clear h3976; obtain ⟨p3634, h3635, h3976⟩ := hh
        refine W_sound tab_ok mixed 2 _ _ _ ?_
        simp -implicitDefEqProofs only [go_sem, ne_eq, not_false_eq_true, Nat.reduceBEq, Nat.reduceAdd, Nat.reduceSub, Nat.reduceMul, Nat.reduceLT, Nat.reduceLeDiff, Int.reduceLE, Int.reduceLT, Int.reduceToNat, Int.reduceBEq, Int.reduceBNe, Int.le_refl, Nat.le_refl, decide_true, decide_false, Int.cast_ofNat_Int, ↓reduceIte, h3381, h3384, h3389, h3391, h3394, h3396, h3399, h3404, g3633]
        repeat with_reducible refine And.intro (by first | kernel_rfl | decide) ?_
        refine Wp_callP (c66 N _ _ h3635) (by kernel_rfl) rfl rfl rfl rfl (by decide) ?_
        have hh := getL_some h3976; clear h3976; obtain ⟨n3637, c3638, h3636, h3976⟩ := hh
        refine W_sound tab_ok mixed 7 _ _ _ ?_
        simp -implicitDefEqProofs only [go_sem, ne_eq, not_false_eq_true, Nat.reduceBEq, Nat.reduceAdd, Nat.reduceSub, Nat.reduceMul, Nat.reduceLT, Nat.reduceLeDiff, Int.reduceLE, Int.reduceLT, Int.reduceToNat, Int.reduceBEq, Int.reduceBNe, Int.le_refl, Nat.le_refl, decide_true, decide_false, Int.cast_ofNat_Int, ↓reduceIte, h3381, h3384, h3389, h3391, h3394, h3396, h3399, h3404, g3633, h3636]
        repeat with_reducible refine And.intro (by first | kernel_rfl | decide) ?_
        refine Wp_weaken (Wk_ownS 12 2 rfl (by decide) (by decide)) ?_
        simp -implicitDefEqProofs only [go_sem, ne_eq, not_false_eq_true, Nat.reduceBEq, Nat.reduceAdd, Nat.reduceSub, Nat.reduceMul, Nat.reduceLT, Nat.reduceLeDiff, Int.reduceLE, Int.reduceLT, Int.reduceToNat, Int.reduceBEq, Int.reduceBNe, Int.le_refl, Nat.le_refl, decide_true, decide_false, Int.cast_ofNat_Int, ↓reduceIte, h3381, h3384, h3389, h3391, h3394, h3396, h3399, h3404, g3633, h3636]
        have hh := bnd'_some h3976; clear h3976; obtain ⟨o3980, h3981, h3982⟩ := hh
        refine Wp_cut (fun s => ∃ n3682, ∃ c3683, (n3682, c3683) = o3980 ∧ s = ⟨[], [(0, .dead), (1, .dead), (4, .dead), (5, .dead), (6, .dead), (7, .dead), (8, .dead), (9, .dead), (10, .dead), (11, .dead), (12, .sl false 0 0 n3682 2), (13, .dead), (14, .dead), (18, .dead), (22, .dead), (31, .dead), (37, .dead), (83, .dead)], [(0, .p c3683)], 1, []⟩) ?_ ?_
        · refine Wp_block ?_
          refine Wp_loopG (fun n s => ∃ n3665, ∃ x3666, ∃ c3667, m35_L2 N n3631 c3632 n3637 c3638 n n3665 x3666 c3667 = some o3980 ∧ s = ⟨[], [(0, .dead), (1, .dead), (4, .dead), (5, .dead), (6, .dead), (7, .dead), (8, .dead), (9, .v (.lst false n3631 c3632)), (10, .dead), (11, .dead), (12, .sl false 0 0 n3665 2), (13, .v (.lst false n3637 c3638)), (14, .v (.int .i64 x3666)), (18, .dead), (22, .dead), (31, .dead), (37, .dead), (83, .dead)], [(0, .p c3667)], 1, []⟩) N _ ((Wk_le (.cons _ _ _ _ _ (.refl _) (.cons _ _ _ _ _ (.refl _) (.cons _ _ _ _ _ (.refl _) (.cons _ _ _ _ _ (.refl _) (.cons _ _ _ _ _ (.refl _) (.cons _ _ _ _ _ (.refl _) (.cons _ _ _ _ _ (.refl _) (.cons _ _ _ _ _ (.refl _) (.cons _ _ _ _ _ (.refl _) (.cons _ _ _ _ _ (.refl _) (.cons _ _ _ _ _ (.refl _) (.cons _ _ _ _ _ (.refl _) (.cons _ _ _ _ _ (.refl _) (.cons _ _ _ _ _ (.refl _) (.cons _ _ _ _ _ (.refl _) (.cons _ _ _ _ _ (.refl _) (.cons _ _ _ _ _ (.refl _) (.cons _ _ _ _ _ (.refl _) .nil)))))))))))))))))) (OLe.refl _)).trans (cmpS_ok rfl)) ⟨_, _, _, h3981, rfl⟩ ?_
          clear h3981
          rintro n _ ⟨n3665, x3666, c3667, h3981, rfl⟩
          cases n with
          | zero => cases h3981
          | succ n =>
            rw [m35_L2] at h3981
            have hh := brn_some h3981; clear h3981; rcases hh with ⟨h3668, h3981⟩ | ⟨h3668, h3981⟩
            · have hh := grd_some h3981; clear h3981; obtain ⟨⟨g3669, g3670⟩, h3981⟩ := hh
              have hh := grd_some h3981; clear h3981; obtain ⟨g3671, h3981⟩ := hh
              have hh := getI_some h3981; clear h3981; obtain ⟨x3673, h3672, h3981⟩ := hh
              have hh := grd_some h3981; clear h3981; obtain ⟨⟨g3674, g3675⟩, h3981⟩ := hh
              have hh := grd_some h3981; clear h3981; obtain ⟨g3676, h3981⟩ := hh
              have hh := getA2_some h3981; clear h3981; obtain ⟨p3678, p3679, h3677, h3981⟩ := hh
              injection h3677 with h3677
              have hh := grd_some h3981; clear h3981; obtain ⟨g3680, h3981⟩ := hh
              have hh := grd_some h3981; clear h3981; obtain ⟨g3681, h3981⟩ := hh
              refine W_sound tab_ok mixed 31 _ _ _ ?_
              simp -implicitDefEqProofs only [go_sem, ne_eq, not_false_eq_true, Nat.reduceBEq, Nat.reduceAdd, Nat.reduceSub, Nat.reduceMul, Nat.reduceLT, Nat.reduceLeDiff, Int.reduceLE, Int.reduceLT, Int.reduceToNat, Int.reduceBEq, Int.reduceBNe, Int.le_refl, Nat.le_refl, decide_true, decide_false, Int.cast_ofNat_Int, ↓reduceIte, h3381, h3384, h3389, h3391, h3394, h3396, h3399, h3404, g3633, h3636, h3668, g3669, g3670, g3671, h3672, g3674, g3675, g3676, h3677, g3680, g3681]
              repeat with_reducible refine And.intro (by first | kernel_rfl | decide) ?_
              exact cutQ _ ((Wk_le (.cons _ _ _ _ _ (.refl _) (.cons _ _ _ _ _ (.refl _) (.cons _ _ _ _ _ (.refl _) (.cons _ _ _ _ _ (.refl _) (.cons _ _ _ _ _ (.refl _) (.cons _ _ _ _ _ (.refl _) (.cons _ _ _ _ _ (.refl _) (.cons _ _ _ _ _ (.refl _) (.cons _ _ _ _ _ (.refl _) (.cons _ _ _ _ _ (.refl _) (.cons _ _ _ _ _ (.refl _) (.cons _ _ _ _ _ (.refl _) (.cons _ _ _ _ _ (.refl _) (.cons _ _ _ _ _ (.refl _) (.cons _ _ _ _ _ (.refl _) (.cons _ _ _ _ _ (.refl _) (.cons _ _ _ _ _ (.refl _) (.cons _ _ _ _ _ (.dead _) .nil)))))))))))))))))) (OLe.refl _)).trans (cmpS_ok rfl)) ⟨n, Nat.lt_succ_self n, _, _, _, h3981, rfl⟩
            · refine W_sound tab_ok mixed 10 _ _ _ ?_
              simp -implicitDefEqProofs only [go_sem, ne_eq, not_false_eq_true, Nat.reduceBEq, Nat.reduceAdd, Nat.reduceSub, Nat.reduceMul, Nat.reduceLT, Nat.reduceLeDiff, Int.reduceLE, Int.reduceLT, Int.reduceToNat, Int.reduceBEq, Int.reduceBNe, Int.le_refl, Nat.le_refl, decide_true, decide_false, Int.cast_ofNat_Int, ↓reduceIte, h3381, h3384, h3389, h3391, h3394, h3396, h3399, h3404, g3633, h3636, h3668]
              repeat with_reducible refine And.intro (by first | kernel_rfl | decide) ?_
              obtain rfl := Option.some.inj h3981
              exact cutQ _ ((Wk_le (.cons _ _ _ _ _ (.refl _) (.cons _ _ _ _ _ (.refl _) (.cons _ _ _ _ _ (.refl _) (.cons _ _ _ _ _ (.refl _) (.cons _ _ _ _ _ (.refl _) (.cons _ _ _ _ _ (.refl _) (.cons _ _ _ _ _ (.refl _) (.cons _ _ _ _ _ (.dead _) (.cons _ _ _ _ _ (.refl _) (.cons _ _ _ _ _ (.refl _) (.cons _ _ _ _ _ (.refl _) (.cons _ _ _ _ _ (.dead _) (.cons _ _ _ _ _ (.dead _) (.cons _ _ _ _ _ (.refl _) (.cons _ _ _ _ _ (.refl _) (.cons _ _ _ _ _ (.refl _) (.cons _ _ _ _ _ (.refl _) (.cons _ _ _ _ _ (.dead _) .nil)))))))))))))))))) (OLe.refl _)).trans (cmpS_ok rfl)) ⟨_, _, rfl, rfl⟩
        · rintro _ ⟨n3682, c3683, rfl, rfl⟩
          (try dsimp only at h3982)
          refine W_sound tab_ok mixed 8 _ _ _ ?_
          simp -implicitDefEqProofs only [go_sem, ne_eq, not_false_eq_true, Nat.reduceBEq, Nat.reduceAdd, Nat.reduceSub, Nat.reduceMul, Nat.reduceLT, Nat.reduceLeDiff, Int.reduceLE, Int.reduceLT, Int.reduceToNat, Int.reduceBEq, Int.reduceBNe, Int.le_refl, Nat.le_refl, decide_true, decide_false, Int.cast_ofNat_Int, ↓reduceIte, h3381, h3384, h3389, h3391, h3394, h3396, h3399, h3404, g3633, h3636]
          repeat with_reducible refine And.intro (by first | kernel_rfl | decide) ?_
          have hh := grd_some h3982; clear h3982; obtain ⟨g3684, h3982⟩ := hh
          refine FinQ_wk (Wk_freeze 0 c3683 (by rfl) (by decide) (by decide)) ?_
          simp -implicitDefEqProofs only [go_sem, ne_eq, not_false_eq_true, Nat.reduceBEq, Nat.reduceAdd, Nat.reduceSub, Nat.reduceMul, Nat.reduceLT, Nat.reduceLeDiff, Int.reduceLE, Int.reduceLT, Int.reduceToNat, Int.reduceBEq, Int.reduceBNe, Int.le_refl, Nat.le_refl, decide_true, decide_false, Int.cast_ofNat_Int, ↓reduceIte, h3381, h3384, h3389, h3391, h3394, h3396, h3399, h3404, g3633, h3636, g3684]
          obtain rfl := Option.some.inj h3982
          exact finC [(4, .v (.lst false n3682 c3683)), (5, .v (.int .i64 0))] [(4, .v (.lst false n3682 c3683)), (5, .v (.int .i64 0))] (by simp [leE, lk_cons]) (.cons _ _ _ _ _ (.v _ _ (.refl _)) (.cons _ _ _ _ _ (.v _ _ (.refl _)) .nil)) (by rfl) (by simp [leE, lk_cons]) (by decide) (by decide) rfl (by simp only [go_sem, ne_eq, not_false_eq_true, Nat.reduceBEq, Nat.reduceAdd, Nat.reduceSub, Nat.reduceMul, Nat.reduceLT, Nat.reduceLeDiff, Int.reduceLE, Int.reduceLT, Int.reduceToNat, Int.reduceBEq, Int.reduceBNe, Int.le_refl, Nat.le_refl, decide_true, decide_false, Int.cast_ofNat_Int, ↓reduceIte, resQ_tmp, resQ_cell, resQ_nil, retD_one, retD_two, retD_three, retD_none]; try simp [R.val, retD_one, retD_two, retD_three, retD_none])
  · have hh := brn_some h; clear h; rcases hh with ⟨h3685, h⟩ | ⟨h3685, h⟩
    · refine W_sound tab_ok mixed 25 _ _ _ ?_
      simp -implicitDefEqProofs only [go_sem, ne_eq, not_false_eq_true, Nat.reduceBEq, Nat.reduceAdd, Nat.reduceSub, Nat.reduceMul, Nat.reduceLT, Nat.reduceLeDiff, Int.reduceLE, Int.reduceLT, Int.reduceToNat, Int.reduceBEq, Int.reduceBNe, Int.le_refl, Nat.le_refl, decide_true, decide_false, Int.cast_ofNat_Int, ↓reduceIte, h3381, h3384, h3389, h3391, h3685]
      repeat with_reducible refine And.intro (by first | kernel_rfl | decide) ?_
      obtain rfl := Option.some.inj h
      exact finC [(4, .v .nl), (5, .v (.int .i64 x3390))] [(4, .v (.lst false 0 [])), (5, .v (.int .i64 x3390))] (by simp [leE, lk_cons]) (.cons _ _ _ _ _ (.v _ _ (.nl false)) (.cons _ _ _ _ _ (.v _ _ (.refl _)) .nil)) (by rfl) (by simp [leE, lk_cons]) (by decide) (by decide) rfl (by simp only [go_sem, ne_eq, not_false_eq_true, Nat.reduceBEq, Nat.reduceAdd, Nat.reduceSub, Nat.reduceMul, Nat.reduceLT, Nat.reduceLeDiff, Int.reduceLE, Int.reduceLT, Int.reduceToNat, Int.reduceBEq, Int.reduceBNe, Int.le_refl, Nat.le_refl, decide_true, decide_false, Int.cast_ofNat_Int, ↓reduceIte, resQ_tmp, resQ_cell, resQ_nil, retD_one, retD_two, retD_three, retD_none]; try simp [R.val, retD_one, retD_two, retD_three, retD_none])
    · have hh := bnd'_some h; clear h; obtain ⟨p3686, h3687, h⟩ := hh
      refine W_sound tab_ok mixed 21 _ _ _ ?_
      simp -implicitDefEqProofs only [go_sem, ne_eq, not_false_eq_true, Nat.reduceBEq, Nat.reduceAdd, Nat.reduceSub, Nat.reduceMul, Nat.reduceLT, Nat.reduceLeDiff, Int.reduceLE, Int.reduceLT, Int.reduceToNat, Int.reduceBEq, Int.reduceBNe, Int.le_refl, Nat.le_refl, decide_true, decide_false, Int.cast_ofNat_Int, ↓reduceIte, h3381, h3384, h3389, h3391, h3685]
      repeat with_reducible refine And.intro (by first | kernel_rfl | decide) ?_
      refine Wp_callP (c66 N _ _ h3687) (by kernel_rfl) rfl rfl rfl rfl (by decide) ?_
      have hh := getL_some h; clear h; obtain ⟨n3689, c3690, h3688, h⟩ := hh
      have hh := bnd'_some h; clear h; obtain ⟨p3691, h3692, h⟩ := hh
      refine W_sound tab_ok mixed 1 _ _ _ ?_
      simp -implicitDefEqProofs only [go_sem, ne_eq, not_false_eq_true, Nat.reduceBEq, Nat.reduceAdd, Nat.reduceSub, Nat.reduceMul, Nat.reduceLT, Nat.reduceLeDiff, Int.reduceLE, Int.reduceLT, Int.reduceToNat, Int.reduceBEq, Int.reduceBNe, Int.le_refl, Nat.le_refl, decide_true, decide_false, Int.cast_ofNat_Int, ↓reduceIte, h3381, h3384, h3389, h3391, h3685, h3688]
      repeat with_reducible refine And.intro (by first | kernel_rfl | decide) ?_
      refine Wp_callP (c66 N _ _ h3692) (by kernel_rfl) rfl rfl rfl rfl (by decide) ?_
      have hh := getL_some h; clear h; obtain ⟨n3694, c3695, h3693, h⟩ := hh
      refine W_sound tab_ok mixed 12 _ _ _ ?_
      simp -implicitDefEqProofs only [go_sem, ne_eq, not_false_eq_true, Nat.reduceBEq, Nat.reduceAdd, Nat.reduceSub, Nat.reduceMul, Nat.reduceLT, Nat.reduceLeDiff, Int.reduceLE, Int.reduceLT, Int.reduceToNat, Int.reduceBEq, Int.reduceBNe, Int.le_refl, Nat.le_refl, decide_true, decide_false, Int.cast_ofNat_Int, ↓reduceIte, h3381, h3384, h3389, h3391, h3685, h3688, h3693]
      repeat with_reducible refine And.intro (by first | kernel_rfl | decide) ?_
      refine Wp_weaken (Wk_ownS 9 2 rfl (by decide) (by decide)) ?_
      simp -implicitDefEqProofs only [go_sem, ne_eq, not_false_eq_true, Nat.reduceBEq, Nat.reduceAdd, Nat.reduceSub, Nat.reduceMul, Nat.reduceLT, Nat.reduceLeDiff, Int.reduceLE, Int.reduceLT, Int.reduceToNat, Int.reduceBEq, Int.reduceBNe, Int.le_refl, Nat.le_refl, decide_true, decide_false, Int.cast_ofNat_Int, ↓reduceIte, h3381, h3384, h3389, h3391, h3685, h3688, h3693]
      have hh := bnd'_some h; clear h; obtain ⟨o3983, h3984, h3985⟩ := hh
      refine Wp_cut (fun s => ∃ n3920, ∃ c3921, (n3920, c3921) = o3983 ∧ s = ⟨[], [(0, .dead), (1, .dead), (4, .dead), (5, .dead), (6, .dead), (7, .dead), (8, .dead), (9, .sl false 0 0 n3920 2), (10, .dead), (11, .dead), (12, .dead), (13, .dead), (14, .dead), (18, .dead), (22, .dead), (31, .dead), (37, .dead), (83, .dead)], [(0, .p c3921)], 1, []⟩) ?_ ?_
      · refine Wp_block ?_
        refine Wp_loopG (fun n s => ∃ n3852, ∃ x3853, ∃ c3854, m35_L3 N n3382 c3383 n3385 c3386 n3689 c3690 n3694 c3695 n n3852 x3853 c3854 = some o3983 ∧ s = ⟨[], [(0, .v (.lst false n3382 c3383)), (1, .v (.lst false n3385 c3386)), (4, .dead), (5, .dead), (6, .dead), (7, .v (.lst false n3689 c3690)), (8, .v (.lst false n3694 c3695)), (9, .sl false 0 0 n3852 2), (10, .v (.int .i64 x3853)), (11, .dead), (12, .dead), (13, .dead), (14, .dead), (18, .dead), (22, .dead), (31, .dead), (37, .dead), (83, .dead)], [(0, .p c3854)], 1, []⟩) N _ ((Wk_le (.cons _ _ _ _ _ (.refl _) (.cons _ _ _ _ _ (.refl _) (.cons _ _ _ _ _ (.dead _) (.cons _ _ _ _ _ (.dead _) (.cons _ _ _ _ _ (.dead _) (.cons _ _ _ _ _ (.refl _) (.cons _ _ _ _ _ (.refl _) (.cons _ _ _ _ _ (.refl _) (.cons _ _ _ _ _ (.refl _) (.cons _ _ _ _ _ (.refl _) (.cons _ _ _ _ _ (.refl _) (.cons _ _ _ _ _ (.refl _) (.cons _ _ _ _ _ (.refl _) (.cons _ _ _ _ _ (.dead _) (.cons _ _ _ _ _ (.dead _) (.cons _ _ _ _ _ (.refl _) (.cons _ _ _ _ _ (.refl _) (.cons _ _ _ _ _ (.refl _) .nil)))))))))))))))))) (OLe.refl _)).trans (cmpS_ok rfl)) ⟨_, _, _, h3984, rfl⟩ ?_
        clear h3984
        rintro n _ ⟨n3852, x3853, c3854, h3984, rfl⟩
        cases n with
        | zero => cases h3984
        | succ n =>
          rw [m35_L3] at h3984
          have hh := brn_some h3984; clear h3984; rcases hh with ⟨h3855, h3984⟩ | ⟨h3855, h3984⟩
          · refine W_sound tab_ok mixed 16 _ _ _ ?_
            simp -implicitDefEqProofs only [go_sem, ne_eq, not_false_eq_true, Nat.reduceBEq, Nat.reduceAdd, Nat.reduceSub, Nat.reduceMul, Nat.reduceLT, Nat.reduceLeDiff, Int.reduceLE, Int.reduceLT, Int.reduceToNat, Int.reduceBEq, Int.reduceBNe, Int.le_refl, Nat.le_refl, decide_true, decide_false, Int.cast_ofNat_Int, ↓reduceIte, h3381, h3384, h3389, h3391, h3685, h3688, h3693, h3855]
            repeat with_reducible refine And.intro (by first | kernel_rfl | decide) ?_
            have hh := bnd'_some h3984; clear h3984; obtain ⟨o3986, h3987, h3988⟩ := hh
            refine Wp_cut (fun s => ∃ n3918, ∃ c3919, (n3918, c3919) = o3986 ∧ s = ⟨[], [(0, .v (.lst false n3382 c3383)), (1, .v (.lst false n3385 c3386)), (4, .dead), (5, .dead), (6, .dead), (7, .v (.lst false n3689 c3690)), (8, .v (.lst false n3694 c3695)), (9, .sl false 0 0 n3918 2), (10, .v (.int .i64 x3853)), (11, .dead), (12, .dead), (13, .dead), (14, .dead), (18, .dead), (22, .dead), (31, .dead), (37, .dead), (83, .dead)], [(0, .p c3919)], 1, []⟩) ?_ ?_
            · refine Wp_block ?_
              refine Wp_loopG (fun n s => ∃ n3886, ∃ x3887, ∃ c3888, m35_L4 N n3382 c3383 n3385 c3386 n3689 c3690 n3694 c3695 x3853 n n3886 x3887 c3888 = some o3986 ∧ s = ⟨[], [(0, .v (.lst false n3382 c3383)), (1, .v (.lst false n3385 c3386)), (4, .dead), (5, .dead), (6, .dead), (7, .v (.lst false n3689 c3690)), (8, .v (.lst false n3694 c3695)), (9, .sl false 0 0 n3886 2), (10, .v (.int .i64 x3853)), (11, .v (.int .i64 x3887)), (12, .dead), (13, .dead), (14, .dead), (18, .dead), (22, .dead), (31, .dead), (37, .dead), (83, .dead)], [(0, .p c3888)], 1, []⟩) N _ ((Wk_le (.cons _ _ _ _ _ (.refl _) (.cons _ _ _ _ _ (.refl _) (.cons _ _ _ _ _ (.refl _) (.cons _ _ _ _ _ (.refl _) (.cons _ _ _ _ _ (.refl _) (.cons _ _ _ _ _ (.refl _) (.cons _ _ _ _ _ (.refl _) (.cons _ _ _ _ _ (.refl _) (.cons _ _ _ _ _ (.refl _) (.cons _ _ _ _ _ (.refl _) (.cons _ _ _ _ _ (.refl _) (.cons _ _ _ _ _ (.refl _) (.cons _ _ _ _ _ (.refl _) (.cons _ _ _ _ _ (.refl _) (.cons _ _ _ _ _ (.refl _) (.cons _ _ _ _ _ (.dead _) (.cons _ _ _ _ _ (.refl _) (.cons _ _ _ _ _ (.refl _) .nil)))))))))))))))))) (OLe.refl _)).trans (cmpS_ok rfl)) ⟨_, _, _, h3987, rfl⟩ ?_
              clear h3987
              rintro n _ ⟨n3886, x3887, c3888, h3987, rfl⟩
              cases n with
              | zero => cases h3987
              | succ n =>
                rw [m35_L4] at h3987
                have hh := brn_some h3987; clear h3987; rcases hh with ⟨h3889, h3987⟩ | ⟨h3889, h3987⟩
                · have hh := grd_some h3987; clear h3987; obtain ⟨⟨g3890, g3891⟩, h3987⟩ := hh
                  have hh := grd_some h3987; clear h3987; obtain ⟨g3892, h3987⟩ := hh
                  have hh := getI_some h3987; clear h3987; obtain ⟨x3894, h3893, h3987⟩ := hh
                  have hh := grd_some h3987; clear h3987; obtain ⟨⟨g3895, g3896⟩, h3987⟩ := hh
                  have hh := grd_some h3987; clear h3987; obtain ⟨g3897, h3987⟩ := hh
                  have hh := getI_some h3987; clear h3987; obtain ⟨x3899, h3898, h3987⟩ := hh
                  have hh := grd_some h3987; clear h3987; obtain ⟨⟨g3900, g3901⟩, h3987⟩ := hh
                  have hh := grd_some h3987; clear h3987; obtain ⟨g3902, h3987⟩ := hh
                  have hh := getI_some h3987; clear h3987; obtain ⟨x3904, h3903, h3987⟩ := hh
                  have hh := grd_some h3987; clear h3987; obtain ⟨⟨g3905, g3906⟩, h3987⟩ := hh
                  have hh := grd_some h3987; clear h3987; obtain ⟨g3907, h3987⟩ := hh
                  have hh := getI_some h3987; clear h3987; obtain ⟨x3909, h3908, h3987⟩ := hh
                  have hh := grd_some h3987; clear h3987; obtain ⟨g3910, h3987⟩ := hh
                  have hh := getI_some h3987; clear h3987; obtain ⟨x3912, h3911, h3987⟩ := hh
                  have hh := grd_some h3987; clear h3987; obtain ⟨g3913, h3987⟩ := hh
                  have hh := getI_some h3987; clear h3987; obtain ⟨x3915, h3914, h3987⟩ := hh
                  have hh := grd_some h3987; clear h3987; obtain ⟨g3916, h3987⟩ := hh
                  have hh := grd_some h3987; clear h3987; obtain ⟨g3917, h3987⟩ := hh
                  refine W_sound tab_ok mixed 59 _ _ _ ?_
                  simp -implicitDefEqProofs only [go_sem, ne_eq, not_false_eq_true, Nat.reduceBEq, Nat.reduceAdd, Nat.reduceSub, Nat.reduceMul, Nat.reduceLT, Nat.reduceLeDiff, Int.reduceLE, Int.reduceLT, Int.reduceToNat, Int.reduceBEq, Int.reduceBNe, Int.le_refl, Nat.le_refl, decide_true, decide_false, Int.cast_ofNat_Int, ↓reduceIte, h3381, h3384, h3389, h3391, h3685, h3688, h3693, h3855, h3889, g3890, g3891, g3892, h3893, g3895, g3896, g3897, h3898, g3900, g3901, g3902, h3903, g3905, g3906, g3907, h3908, g3910, h3911, g3913, h3914, g3916, g3917]
                  repeat with_reducible refine And.intro (by first | kernel_rfl | decide) ?_
                  exact cutQ _ ((Wk_le (.cons _ _ _ _ _ (.refl _) (.cons _ _ _ _ _ (.refl _) (.cons _ _ _ _ _ (.refl _) (.cons _ _ _ _ _ (.refl _) (.cons _ _ _ _ _ (.refl _) (.cons _ _ _ _ _ (.refl _) (.cons _ _ _ _ _ (.refl _) (.cons _ _ _ _ _ (.refl _) (.cons _ _ _ _ _ (.refl _) (.cons _ _ _ _ _ (.refl _) (.cons _ _ _ _ _ (.refl _) (.cons _ _ _ _ _ (.refl _) (.cons _ _ _ _ _ (.refl _) (.cons _ _ _ _ _ (.refl _) (.cons _ _ _ _ _ (.refl _) (.cons _ _ _ _ _ (.refl _) (.cons _ _ _ _ _ (.dead _) (.cons _ _ _ _ _ (.refl _) .nil)))))))))))))))))) (OLe.refl _)).trans (cmpS_ok rfl)) ⟨n, Nat.lt_succ_self n, _, _, _, h3987, rfl⟩
                · refine W_sound tab_ok mixed 10 _ _ _ ?_
                  simp -implicitDefEqProofs only [go_sem, ne_eq, not_false_eq_true, Nat.reduceBEq, Nat.reduceAdd, Nat.reduceSub, Nat.reduceMul, Nat.reduceLT, Nat.reduceLeDiff, Int.reduceLE, Int.reduceLT, Int.reduceToNat, Int.reduceBEq, Int.reduceBNe, Int.le_refl, Nat.le_refl, decide_true, decide_false, Int.cast_ofNat_Int, ↓reduceIte, h3381, h3384, h3389, h3391, h3685, h3688, h3693, h3855, h3889]
                  repeat with_reducible refine And.intro (by first | kernel_rfl | decide) ?_
                  obtain rfl := Option.some.inj h3987
                  exact cutQ _ ((Wk_le (.cons _ _ _ _ _ (.refl _) (.cons _ _ _ _ _ (.refl _) (.cons _ _ _ _ _ (.refl _) (.cons _ _ _ _ _ (.refl _) (.cons _ _ _ _ _ (.refl _) (.cons _ _ _ _ _ (.refl _) (.cons _ _ _ _ _ (.refl _) (.cons _ _ _ _ _ (.refl _) (.cons _ _ _ _ _ (.refl _) (.cons _ _ _ _ _ (.dead _) (.cons _ _ _ _ _ (.refl _) (.cons _ _ _ _ _ (.refl _) (.cons _ _ _ _ _ (.refl _) (.cons _ _ _ _ _ (.refl _) (.cons _ _ _ _ _ (.refl _) (.cons _ _ _ _ _ (.refl _) (.cons _ _ _ _ _ (.dead _) (.cons _ _ _ _ _ (.refl _) .nil)))))))))))))))))) (OLe.refl _)).trans (cmpS_ok rfl)) ⟨_, _, rfl, rfl⟩
            · rintro _ ⟨n3918, c3919, rfl, rfl⟩
              (try dsimp only at h3988)
              refine W_sound tab_ok mixed 6 _ _ _ ?_
              simp -implicitDefEqProofs only [go_sem, ne_eq, not_false_eq_true, Nat.reduceBEq, Nat.reduceAdd, Nat.reduceSub, Nat.reduceMul, Nat.reduceLT, Nat.reduceLeDiff, Int.reduceLE, Int.reduceLT, Int.reduceToNat, Int.reduceBEq, Int.reduceBNe, Int.le_refl, Nat.le_refl, decide_true, decide_false, Int.cast_ofNat_Int, ↓reduceIte, h3381, h3384, h3389, h3391, h3685, h3688, h3693, h3855]
              repeat with_reducible refine And.intro (by first | kernel_rfl | decide) ?_
              exact cutQ _ ((Wk_le (.cons _ _ _ _ _ (.refl _) (.cons _ _ _ _ _ (.refl _) (.cons _ _ _ _ _ (.refl _) (.cons _ _ _ _ _ (.refl _) (.cons _ _ _ _ _ (.refl _) (.cons _ _ _ _ _ (.refl _) (.cons _ _ _ _ _ (.refl _) (.cons _ _ _ _ _ (.refl _) (.cons _ _ _ _ _ (.refl _) (.cons _ _ _ _ _ (.refl _) (.cons _ _ _ _ _ (.refl _) (.cons _ _ _ _ _ (.refl _) (.cons _ _ _ _ _ (.refl _) (.cons _ _ _ _ _ (.refl _) (.cons _ _ _ _ _ (.refl _) (.cons _ _ _ _ _ (.refl _) (.cons _ _ _ _ _ (.refl _) (.cons _ _ _ _ _ (.refl _) .nil)))))))))))))))))) (OLe.refl _)).trans (cmpS_ok rfl)) ⟨n, Nat.lt_succ_self n, _, _, _, h3988, rfl⟩
          · refine W_sound tab_ok mixed 10 _ _ _ ?_
            simp -implicitDefEqProofs only [go_sem, ne_eq, not_false_eq_true, Nat.reduceBEq, Nat.reduceAdd, Nat.reduceSub, Nat.reduceMul, Nat.reduceLT, Nat.reduceLeDiff, Int.reduceLE, Int.reduceLT, Int.reduceToNat, Int.reduceBEq, Int.reduceBNe, Int.le_refl, Nat.le_refl, decide_true, decide_false, Int.cast_ofNat_Int, ↓reduceIte, h3381, h3384, h3389, h3391, h3685, h3688, h3693, h3855]
            repeat with_reducible refine And.intro (by first | kernel_rfl | decide) ?_
            obtain rfl := Option.some.inj h3984
            exact cutQ _ ((Wk_le (.cons _ _ _ _ _ (.dead _) (.cons _ _ _ _ _ (.dead _) (.cons _ _ _ _ _ (.refl _) (.cons _ _ _ _ _ (.refl _) (.cons _ _ _ _ _ (.refl _) (.cons _ _ _ _ _ (.dead _) (.cons _ _ _ _ _ (.dead _) (.cons _ _ _ _ _ (.refl _) (.cons _ _ _ _ _ (.dead _) (.cons _ _ _ _ _ (.refl _) (.cons _ _ _ _ _ (.refl _) (.cons _ _ _ _ _ (.refl _) (.cons _ _ _ _ _ (.refl _) (.cons _ _ _ _ _ (.refl _) (.cons _ _ _ _ _ (.refl _) (.cons _ _ _ _ _ (.dead _) (.cons _ _ _ _ _ (.refl _) (.cons _ _ _ _ _ (.refl _) .nil)))))))))))))))))) (OLe.refl _)).trans (cmpS_ok rfl)) ⟨_, _, rfl, rfl⟩
      · rintro _ ⟨n3920, c3921, rfl, rfl⟩
        (try dsimp only at h3985)
        refine W_sound tab_ok mixed 5 _ _ _ ?_
        simp -implicitDefEqProofs only [go_sem, ne_eq, not_false_eq_true, Nat.reduceBEq, Nat.reduceAdd, Nat.reduceSub, Nat.reduceMul, Nat.reduceLT, Nat.reduceLeDiff, Int.reduceLE, Int.reduceLT, Int.reduceToNat, Int.reduceBEq, Int.reduceBNe, Int.le_refl, Nat.le_refl, decide_true, decide_false, Int.cast_ofNat_Int, ↓reduceIte, h3381, h3384, h3389, h3391, h3685, h3688, h3693]
        repeat with_reducible refine And.intro (by first | kernel_rfl | decide) ?_
        have hh := grd_some h3985; clear h3985; obtain ⟨g3922, h3985⟩ := hh
        refine Wp_wkK (Wk_freeze 0 c3921 (by rfl) (by decide) (by decide)) rfl ?_
        simp -implicitDefEqProofs only [go_sem, ne_eq, not_false_eq_true, Nat.reduceBEq, Nat.reduceAdd, Nat.reduceSub, Nat.reduceMul, Nat.reduceLT, Nat.reduceLeDiff, Int.reduceLE, Int.reduceLT, Int.reduceToNat, Int.reduceBEq, Int.reduceBNe, Int.le_refl, Nat.le_refl, decide_true, decide_false, Int.cast_ofNat_Int, ↓reduceIte, h3381, h3384, h3389, h3391, h3685, h3688, h3693, g3922]
        have hh := bnd'_some h3985; clear h3985; obtain ⟨p3923, h3924, h3985⟩ := hh
        refine W_sound tab_ok mixed 2 _ _ _ ?_
        simp -implicitDefEqProofs only [go_sem, ne_eq, not_false_eq_true, Nat.reduceBEq, Nat.reduceAdd, Nat.reduceSub, Nat.reduceMul, Nat.reduceLT, Nat.reduceLeDiff, Int.reduceLE, Int.reduceLT, Int.reduceToNat, Int.reduceBEq, Int.reduceBNe, Int.le_refl, Nat.le_refl, decide_true, decide_false, Int.cast_ofNat_Int, ↓reduceIte, h3381, h3384, h3389, h3391, h3685, h3688, h3693, g3922]
        repeat with_reducible refine And.intro (by first | kernel_rfl | decide) ?_
        refine Wp_callP (c66 N _ _ h3924) (by kernel_rfl) rfl rfl rfl rfl (by decide) ?_
        have hh := getL_some h3985; clear h3985; obtain ⟨n3926, c3927, h3925, h3985⟩ := hh
        refine W_sound tab_ok mixed 7 _ _ _ ?_
        simp -implicitDefEqProofs only [go_sem, ne_eq, not_false_eq_true, Nat.reduceBEq, Nat.reduceAdd, Nat.reduceSub, Nat.reduceMul, Nat.reduceLT, Nat.reduceLeDiff, Int.reduceLE, Int.reduceLT, Int.reduceToNat, Int.reduceBEq, Int.reduceBNe, Int.le_refl, Nat.le_refl, decide_true, decide_false, Int.cast_ofNat_Int, ↓reduceIte, h3381, h3384, h3389, h3391, h3685, h3688, h3693, g3922, h3925]
        repeat with_reducible refine And.intro (by first | kernel_rfl | decide) ?_
        refine Wp_weaken (Wk_ownS 12 2 rfl (by decide) (by decide)) ?_
        simp -implicitDefEqProofs only [go_sem, ne_eq, not_false_eq_true, Nat.reduceBEq, Nat.reduceAdd, Nat.reduceSub, Nat.reduceMul, Nat.reduceLT, Nat.reduceLeDiff, Int.reduceLE, Int.reduceLT, Int.reduceToNat, Int.reduceBEq, Int.reduceBNe, Int.le_refl, Nat.le_refl, decide_true, decide_false, Int.cast_ofNat_Int, ↓reduceIte, h3381, h3384, h3389, h3391, h3685, h3688, h3693, g3922, h3925]
        have hh := bnd'_some h3985; clear h3985; obtain ⟨o3989, h3990, h3991⟩ := hh
        refine Wp_cut (fun s => ∃ n3971, ∃ c3972, (n3971, c3972) = o3989 ∧ s = ⟨[], [(0, .dead), (1, .dead), (4, .dead), (5, .dead), (6, .dead), (7, .dead), (8, .dead), (9, .dead), (10, .dead), (11, .dead), (12, .sl false 0 0 n3971 2), (13, .dead), (14, .dead), (18, .dead), (22, .dead), (31, .dead), (37, .dead), (83, .dead)], [(0, .p c3972)], 1, []⟩) ?_ ?_
        · refine Wp_block ?_
          refine Wp_loopG (fun n s => ∃ n3954, ∃ x3955, ∃ c3956, m35_L5 N n3920 c3921 n3926 c3927 n n3954 x3955 c3956 = some o3989 ∧ s = ⟨[], [(0, .dead), (1, .dead), (4, .dead), (5, .dead), (6, .dead), (7, .dead), (8, .dead), (9, .v (.lst false n3920 c3921)), (10, .dead), (11, .dead), (12, .sl false 0 0 n3954 2), (13, .v (.lst false n3926 c3927)), (14, .v (.int .i64 x3955)), (18, .dead), (22, .dead), (31, .dead), (37, .dead), (83, .dead)], [(0, .p c3956)], 1, []⟩) N _ ((Wk_le (.cons _ _ _ _ _ (.refl _) (.cons _ _ _ _ _ (.refl _) (.cons _ _ _ _ _ (.refl _) (.cons _ _ _ _ _ (.refl _) (.cons _ _ _ _ _ (.refl _) (.cons _ _ _ _ _ (.refl _) (.cons _ _ _ _ _ (.refl _) (.cons _ _ _ _ _ (.refl _) (.cons _ _ _ _ _ (.refl _) (.cons _ _ _ _ _ (.refl _) (.cons _ _ _ _ _ (.refl _) (.cons _ _ _ _ _ (.refl _) (.cons _ _ _ _ _ (.refl _) (.cons _ _ _ _ _ (.refl _) (.cons _ _ _ _ _ (.refl _) (.cons _ _ _ _ _ (.refl _) (.cons _ _ _ _ _ (.refl _) (.cons _ _ _ _ _ (.refl _) .nil)))))))))))))))))) (OLe.refl _)).trans (cmpS_ok rfl)) ⟨_, _, _, h3990, rfl⟩ ?_
          clear h3990
          rintro n _ ⟨n3954, x3955, c3956, h3990, rfl⟩
          cases n with
          | zero => cases h3990
          | succ n =>
            rw [m35_L5] at h3990
            have hh := brn_some h3990; clear h3990; rcases hh with ⟨h3957, h3990⟩ | ⟨h3957, h3990⟩
            · have hh := grd_some h3990; clear h3990; obtain ⟨⟨g3958, g3959⟩, h3990⟩ := hh
              have hh := grd_some h3990; clear h3990; obtain ⟨g3960, h3990⟩ := hh
              have hh := getI_some h3990; clear h3990; obtain ⟨x3962, h3961, h3990⟩ := hh
              have hh := grd_some h3990; clear h3990; obtain ⟨⟨g3963, g3964⟩, h3990⟩ := hh
              have hh := grd_some h3990; clear h3990; obtain ⟨g3965, h3990⟩ := hh
              have hh := getA2_some h3990; clear h3990; obtain ⟨p3967, p3968, h3966, h3990⟩ := hh
              injection h3966 with h3966
              have hh := grd_some h3990; clear h3990; obtain ⟨g3969, h3990⟩ := hh
              have hh := grd_some h3990; clear h3990; obtain ⟨g3970, h3990⟩ := hh
              refine W_sound tab_ok mixed 31 _ _ _ ?_
              simp -implicitDefEqProofs only [go_sem, ne_eq, not_false_eq_true, Nat.reduceBEq, Nat.reduceAdd, Nat.reduceSub, Nat.reduceMul, Nat.reduceLT, Nat.reduceLeDiff, Int.reduceLE, Int.reduceLT, Int.reduceToNat, Int.reduceBEq, Int.reduceBNe, Int.le_refl, Nat.le_refl, decide_true, decide_false, Int.cast_ofNat_Int, ↓reduceIte, h3381, h3384, h3389, h3391, h3685, h3688, h3693, g3922, h3925, h3957, g3958, g3959, g3960, h3961, g3963, g3964, g3965, h3966, g3969, g3970]
              repeat with_reducible refine And.intro (by first | kernel_rfl | decide) ?_
              exact cutQ _ ((Wk_le (.cons _ _ _ _ _ (.refl _) (.cons _ _ _ _ _ (.refl _) (.cons _ _ _ _ _ (.refl _) (.cons _ _ _ _ _ (.refl _) (.cons _ _ _ _ _ (.refl _) (.cons _ _ _ _ _ (.refl _) (.cons _ _ _ _ _ (.refl _) (.cons _ _ _ _ _ (.refl _) (.cons _ _ _ _ _ (.refl _) (.cons _ _ _ _ _ (.refl _) (.cons _ _ _ _ _ (.refl _) (.cons _ _ _ _ _ (.refl _) (.cons _ _ _ _ _ (.refl _) (.cons _ _ _ _ _ (.refl _) (.cons _ _ _ _ _ (.refl _) (.cons _ _ _ _ _ (.refl _) (.cons _ _ _ _ _ (.refl _) (.cons _ _ _ _ _ (.dead _) .nil)))))))))))))))))) (OLe.refl _)).trans (cmpS_ok rfl)) ⟨n, Nat.lt_succ_self n, _, _, _, h3990, rfl⟩
            · refine W_sound tab_ok mixed 10 _ _ _ ?_
              simp -implicitDefEqProofs only [go_sem, ne_eq, not_false_eq_true, Nat.reduceBEq, Nat.reduceAdd, Nat.reduceSub, Nat.reduceMul, Nat.reduceLT, Nat.reduceLeDiff, Int.reduceLE, Int.reduceLT, Int.reduceToNat, Int.reduceBEq, Int.reduceBNe, Int.le_refl, Nat.le_refl, decide_true, decide_false, Int.cast_ofNat_Int, ↓reduceIte, h3381, h3384, h3389, h3391, h3685, h3688, h3693, g3922, h3925, h3957]
              repeat with_reducible refine And.intro (by first | kernel_rfl | decide) ?_
              obtain rfl := Option.some.inj h3990
              exact cutQ _ ((Wk_le (.cons _ _ _ _ _ (.refl _) (.cons _ _ _ _ _ (.refl _) (.cons _ _ _ _ _ (.refl _) (.cons _ _ _ _ _ (.refl _) (.cons _ _ _ _ _ (.refl _) (.cons _ _ _ _ _ (.refl _) (.cons _ _ _ _ _ (.refl _) (.cons _ _ _ _ _ (.dead _) (.cons _ _ _ _ _ (.refl _) (.cons _ _ _ _ _ (.refl _) (.cons _ _ _ _ _ (.refl _) (.cons _ _ _ _ _ (.dead _) (.cons _ _ _ _ _ (.dead _) (.cons _ _ _ _ _ (.refl _) (.cons _ _ _ _ _ (.refl _) (.cons _ _ _ _ _ (.refl _) (.cons _ _ _ _ _ (.refl _) (.cons _ _ _ _ _ (.dead _) .nil)))))))))))))))))) (OLe.refl _)).trans (cmpS_ok rfl)) ⟨_, _, rfl, rfl⟩
        · rintro _ ⟨n3971, c3972, rfl, rfl⟩
          (try dsimp only at h3991)
          refine W_sound tab_ok mixed 8 _ _ _ ?_
          simp -implicitDefEqProofs only [go_sem, ne_eq, not_false_eq_true, Nat.reduceBEq, Nat.reduceAdd, Nat.reduceSub, Nat.reduceMul, Nat.reduceLT, Nat.reduceLeDiff, Int.reduceLE, Int.reduceLT, Int.reduceToNat, Int.reduceBEq, Int.reduceBNe, Int.le_refl, Nat.le_refl, decide_true, decide_false, Int.cast_ofNat_Int, ↓reduceIte, h3381, h3384, h3389, h3391, h3685, h3688, h3693, g3922, h3925]
          repeat with_reducible refine And.intro (by first | kernel_rfl | decide) ?_
          have hh := grd_some h3991; clear h3991; obtain ⟨g3973, h3991⟩ := hh
          refine FinQ_wk (Wk_freeze 0 c3972 (by rfl) (by decide) (by decide)) ?_
          simp -implicitDefEqProofs only [go_sem, ne_eq, not_false_eq_true, Nat.reduceBEq, Nat.reduceAdd, Nat.reduceSub, Nat.reduceMul, Nat.reduceLT, Nat.reduceLeDiff, Int.reduceLE, Int.reduceLT, Int.reduceToNat, Int.reduceBEq, Int.reduceBNe, Int.le_refl, Nat.le_refl, decide_true, decide_false, Int.cast_ofNat_Int, ↓reduceIte, h3381, h3384, h3389, h3391, h3685, h3688, h3693, g3922, h3925, g3973]
          obtain rfl := Option.some.inj h3991
          exact finC [(4, .v (.lst false n3971 c3972)), (5, .v (.int .i64 0))] [(4, .v (.lst false n3971 c3972)), (5, .v (.int .i64 0))] (by simp [leE, lk_cons]) (.cons _ _ _ _ _ (.v _ _ (.refl _)) (.cons _ _ _ _ _ (.v _ _ (.refl _)) .nil)) (by rfl) (by simp [leE, lk_cons]) (by decide) (by decide) rfl (by simp only [go_sem, ne_eq, not_false_eq_true, Nat.reduceBEq, Nat.reduceAdd, Nat.reduceSub, Nat.reduceMul, Nat.reduceLT, Nat.reduceLeDiff, Int.reduceLE, Int.reduceLT, Int.reduceToNat, Int.reduceBEq, Int.reduceBNe, Int.le_refl, Nat.le_refl, decide_true, decide_false, Int.cast_ofNat_Int, ↓reduceIte, resQ_tmp, resQ_cell, resQ_nil, retD_one, retD_two, retD_three, retD_none]; try simp [R.val, retD_one, retD_two, retD_three, retD_none])

def m6_L0 (N : Nat) (n4055 : Nat) (c4056 : List PV) (n4065 : Nat) (c4066 : List PV) : Nat → Int → Option ((PV ⊕ Unit))
  | 0, _ => none
  | n + 1, x4073 =>
    brn (decide (x4073 < ((n4055 : Nat) : Int))) (
      grd (0 ≤ x4073 ∧ x4073 < ((n4055 : Nat) : Int)) <|
      grd (2 ≤ List.length (List.drop ((Int.toNat x4073) * 2) c4056)) <|
      getA2 (.agg (List.take 2 (List.drop ((Int.toNat x4073) * 2) c4056))) fun p4079 p4080 =>
      grd (x4073 < ((n4065 : Nat) : Int)) <|
      grd (2 ≤ List.length (List.drop ((Int.toNat x4073) * 2) c4066)) <|
      getA2 (.agg (List.take 2 (List.drop ((Int.toNat x4073) * 2) c4066))) fun p4084 p4085 =>
      getI .i64 p4080 fun x4087 =>
      getI .i64 p4085 fun x4089 =>
      getI .i64 p4079 fun x4091 =>
      getI .i64 p4084 fun x4093 =>
      brn (!((x4091 == x4093) && (x4087 == x4089))) (
        some (.inl (.bool false))) (
        m6_L0 N n4055 c4056 n4065 c4066 n (IntKind.i64.wrap (x4073 + 1)))) (
      some (.inr ()))
def m6 (N : Nat) (p3992 : PV) (p3993 : PV) (x3994 : Int) : Option (PV) :=
  getL p3992 fun n3996 c3997 =>
  getL p3993 fun n3999 c4000 =>
  brn (decide (((n3996 : Nat) : Int) > 40)) (
    bnd' (m15 N ) fun p4002 =>
    getB p4002 fun b4005 =>
    some (.bool b4005)) (
    brn (decide (((n3999 : Nat) : Int) > 40)) (
      bnd' (m15 N ) fun p4007 =>
      getB p4007 fun b4010 =>
      some (.bool b4010)) (
      bnd' (m16 N (.lst false n3996 c3997)) fun p4011 =>
      getL p4011 fun n4014 c4015 =>
      bnd' (m16 N (.lst false n3999 c4000)) fun p4016 =>
      getL p4016 fun n4019 c4020 =>
      bnd' (m32 N (.lst false n3996 c3997) x3994) fun p4021 =>
      getT2 p4021 fun p4024 p4025 =>
      getA2 p4024 fun p4027 p4028 =>
      getI .i64 p4025 fun x4030 =>
      getI .i64 p4027 fun x4032 =>
      getI .i64 p4028 fun x4034 =>
      bnd' (m33 N (.lst false n4014 c4015) x3994) fun p4035 =>
      getT2 p4035 fun p4038 p4039 =>
      getA2 p4038 fun p4041 p4042 =>
      getI .i64 p4039 fun x4044 =>
      getI .i64 p4041 fun x4046 =>
      getI .i64 p4042 fun x4048 =>
      bnd' (m34 N (.lst false n3996 c3997) (.lst false n3999 c4000)) fun p4049 =>
      getT2 p4049 fun p4052 p4053 =>
      getL p4052 fun n4055 c4056 =>
      getI .i64 p4053 fun x4058 =>
      bnd' (m35 N (.lst false n4014 c4015) (.lst false n4019 c4020)) fun p4059 =>
      getT2 p4059 fun p4062 p4063 =>
      getL p4062 fun n4065 c4066 =>
      getI .i64 p4063 fun x4068 =>
      brn (!((x4032 == x4046) && (x4034 == x4048))) (
        some (.bool false)) (
        brn (x4030 != x4044) (
          some (.bool false)) (
          brn (x4058 != x4068) (
            some (.bool false)) (
            brn (((n4055 : Nat) : Int) != ((n4065 : Nat) : Int)) (
              some (.bool false)) (
              bnd' (m6_L0 N n4055 c4056 n4065 c4066 N 0) fun o =>
              match o with
              | .inl p4095 =>
                some p4095
              | .inr () =>
                bnd' (m15 N ) fun p4096 =>
                getB p4096 fun b4099 =>
                some (.bool b4099)))))))
theorem c6 (N : Nat) (p3992 : PV) (p3993 : PV) (x3994 : Int) (r : PV)  (h : m6 N p3992 p3993 x3994 = some r) : FnP Try.prog 6 [p3992, p3993, (.int .i64 x3994)] r := by
  unfold m6 at h
  refine Fn_of (sz := 91) tab_ok [0, 1, 2, 6, 7, 8, 9, 10, 11, 12, 13, 14, 15, 16, 17, 25, 74, 78, 89] [.tmp 6] Try.func6 rfl rfl rfl (by simp) ?_
  simp only [initSt, initEnv, List.map_cons, List.map_nil, List.getD_cons_zero, List.getD_cons_succ, List.getD_nil]
  have hh := getL_some h; clear h; obtain ⟨n3996, c3997, h3995, h⟩ := hh
  have hh := getL_some h; clear h; obtain ⟨n3999, c4000, h3998, h⟩ := hh
  have hh := brn_some h; clear h; rcases hh with ⟨h4001, h⟩ | ⟨h4001, h⟩
  · have hh := bnd'_some h; clear h; obtain ⟨p4002, h4003, h⟩ := hh
    refine W_sound tab_ok mixed 19 _ _ _ ?_
    simp -implicitDefEqProofs only [go_sem, ne_eq, not_false_eq_true, Nat.reduceBEq, Nat.reduceAdd, Nat.reduceSub, Nat.reduceMul, Nat.reduceLT, Nat.reduceLeDiff, Int.reduceLE, Int.reduceLT, Int.reduceToNat, Int.reduceBEq, Int.reduceBNe, Int.le_refl, Nat.le_refl, decide_true, decide_false, Int.cast_ofNat_Int, ↓reduceIte, h3995, h3998, h4001]
    repeat with_reducible refine And.intro (by first | kernel_rfl | decide) ?_
    refine Wp_callP (c15 N  _ h4003) (by kernel_rfl) rfl rfl rfl rfl (by decide) ?_
    have hh := getB_some h; clear h; obtain ⟨b4005, h4004, h⟩ := hh
    refine W_sound tab_ok mixed 4 _ _ _ ?_
    simp -implicitDefEqProofs only [go_sem, ne_eq, not_false_eq_true, Nat.reduceBEq, Nat.reduceAdd, Nat.reduceSub, Nat.reduceMul, Nat.reduceLT, Nat.reduceLeDiff, Int.reduceLE, Int.reduceLT, Int.reduceToNat, Int.reduceBEq, Int.reduceBNe, Int.le_refl, Nat.le_refl, decide_true, decide_false, Int.cast_ofNat_Int, ↓reduceIte, h3995, h3998, h4001, h4004]
    repeat with_reducible refine And.intro (by first | kernel_rfl | decide) ?_
    obtain rfl := Option.some.inj h
    exact finC [(6, .v (.bool b4005))] [(6, .v (.bool b4005))] (by simp [leE, lk_cons]) (.cons _ _ _ _ _ (.v _ _ (.refl _)) .nil) (by rfl) (by simp [leE, lk_cons]) (by decide) (by decide) rfl (by simp only [go_sem, ne_eq, not_false_eq_true, Nat.reduceBEq, Nat.reduceAdd, Nat.reduceSub, Nat.reduceMul, Nat.reduceLT, Nat.reduceLeDiff, Int.reduceLE, Int.reduceLT, Int.reduceToNat, Int.reduceBEq, Int.reduceBNe, Int.le_refl, Nat.le_refl, decide_true, decide_false, Int.cast_ofNat_Int, ↓reduceIte, resQ_tmp, resQ_cell, resQ_nil, retD_one, retD_two, retD_three, retD_none]; try simp [R.val, retD_one, retD_two, retD_three, retD_none])
  · have hh := brn_some h; clear h; rcases hh with ⟨h4006, h⟩ | ⟨h4006, h⟩
    · have hh := bnd'_some h; clear h; obtain ⟨p4007, h4008, h⟩ := hh
      refine W_sound tab_ok mixed 19 _ _ _ ?_
      simp -implicitDefEqProofs only [go_sem, ne_eq, not_false_eq_true, Nat.reduceBEq, Nat.reduceAdd, Nat.reduceSub, Nat.reduceMul, Nat.reduceLT, Nat.reduceLeDiff, Int.reduceLE, Int.reduceLT, Int.reduceToNat, Int.reduceBEq, Int.reduceBNe, Int.le_refl, Nat.le_refl, decide_true, decide_false, Int.cast_ofNat_Int, ↓reduceIte, h3995, h3998, h4001, h4006]
      repeat with_reducible refine And.intro (by first | kernel_rfl | decide) ?_
      refine Wp_callP (c15 N  _ h4008) (by kernel_rfl) rfl rfl rfl rfl (by decide) ?_
      have hh := getB_some h; clear h; obtain ⟨b4010, h4009, h⟩ := hh
      refine W_sound tab_ok mixed 4 _ _ _ ?_
      simp -implicitDefEqProofs only [go_sem, ne_eq, not_false_eq_true, Nat.reduceBEq, Nat.reduceAdd, Nat.reduceSub, Nat.reduceMul, Nat.reduceLT, Nat.reduceLeDiff, Int.reduceLE, Int.reduceLT, Int.reduceToNat, Int.reduceBEq, Int.reduceBNe, Int.le_refl, Nat.le_refl, decide_true, decide_false, Int.cast_ofNat_Int, ↓reduceIte, h3995, h3998, h4001, h4006, h4009]
      repeat with_reducible refine And.intro (by first | kernel_rfl | decide) ?_
      obtain rfl := Option.some.inj h
      exact finC [(6, .v (.bool b4010))] [(6, .v (.bool b4010))] (by simp [leE, lk_cons]) (.cons _ _ _ _ _ (.v _ _ (.refl _)) .nil) (by rfl) (by simp [leE, lk_cons]) (by decide) (by decide) rfl (by simp only [go_sem, ne_eq, not_false_eq_true, Nat.reduceBEq, Nat.reduceAdd, Nat.reduceSub, Nat.reduceMul, Nat.reduceLT, Nat.reduceLeDiff, Int.reduceLE, Int.reduceLT, Int.reduceToNat, Int.reduceBEq, Int.reduceBNe, Int.le_refl, Nat.le_refl, decide_true, decide_false, Int.cast_ofNat_Int, ↓reduceIte, resQ_tmp, resQ_cell, resQ_nil, retD_one, retD_two, retD_three, retD_none]; try simp [R.val, retD_one, retD_two, retD_three, retD_none])
    · have hh := bnd'_some h; clear h; obtain ⟨p4011, h4012, h⟩ := hh
      refine W_sound tab_ok mixed 21 _ _ _ ?_
      simp -implicitDefEqProofs only [go_sem, ne_eq, not_false_eq_true, Nat.reduceBEq, Nat.reduceAdd, Nat.reduceSub, Nat.reduceMul, Nat.reduceLT, Nat.reduceLeDiff, Int.reduceLE, Int.reduceLT, Int.reduceToNat, Int.reduceBEq, Int.reduceBNe, Int.le_refl, Nat.le_refl, decide_true, decide_false, Int.cast_ofNat_Int, ↓reduceIte, h3995, h3998, h4001, h4006]
      repeat with_reducible refine And.intro (by first | kernel_rfl | decide) ?_
      refine Wp_callP (c16 N _ _ h4012) (by kernel_rfl) rfl rfl rfl rfl (by decide) ?_
      have hh := getL_some h; clear h; obtain ⟨n4014, c4015, h4013, h⟩ := hh
      have hh := bnd'_some h; clear h; obtain ⟨p4016, h4017, h⟩ := hh
      refine W_sound tab_ok mixed 1 _ _ _ ?_
      simp -implicitDefEqProofs only [go_sem, ne_eq, not_false_eq_true, Nat.reduceBEq, Nat.reduceAdd, Nat.reduceSub, Nat.reduceMul, Nat.reduceLT, Nat.reduceLeDiff, Int.reduceLE, Int.reduceLT, Int.reduceToNat, Int.reduceBEq, Int.reduceBNe, Int.le_refl, Nat.le_refl, decide_true, decide_false, Int.cast_ofNat_Int, ↓reduceIte, h3995, h3998, h4001, h4006, h4013]
      repeat with_reducible refine And.intro (by first | kernel_rfl | decide) ?_
      refine Wp_callP (c16 N _ _ h4017) (by kernel_rfl) rfl rfl rfl rfl (by decide) ?_
      have hh := getL_some h; clear h; obtain ⟨n4019, c4020, h4018, h⟩ := hh
      have hh := bnd'_some h; clear h; obtain ⟨p4021, h4022, h⟩ := hh
      refine W_sound tab_ok mixed 7 _ _ _ ?_
      simp -implicitDefEqProofs only [go_sem, ne_eq, not_false_eq_true, Nat.reduceBEq, Nat.reduceAdd, Nat.reduceSub, Nat.reduceMul, Nat.reduceLT, Nat.reduceLeDiff, Int.reduceLE, Int.reduceLT, Int.reduceToNat, Int.reduceBEq, Int.reduceBNe, Int.le_refl, Nat.le_refl, decide_true, decide_false, Int.cast_ofNat_Int, ↓reduceIte, h3995, h3998, h4001, h4006, h4013, h4018]
      repeat with_reducible refine And.intro (by first | kernel_rfl | decide) ?_
      refine Wp_callP (c32 N _ _ _ h4022) (by kernel_rfl) rfl rfl rfl rfl (by decide) ?_
      have hh := getT2_some h; clear h; obtain ⟨p4024, p4025, h4023, h⟩ := hh
      have hh := getA2_some h; clear h; obtain ⟨p4027, p4028, h4026, h⟩ := hh
      have hh := getI_some h; clear h; obtain ⟨x4030, h4029, h⟩ := hh
      have hh := getI_some h; clear h; obtain ⟨x4032, h4031, h⟩ := hh
      have hh := getI_some h; clear h; obtain ⟨x4034, h4033, h⟩ := hh
      have hh := bnd'_some h; clear h; obtain ⟨p4035, h4036, h⟩ := hh
      refine W_sound tab_ok mixed 11 _ _ _ ?_
      simp -implicitDefEqProofs only [go_sem, ne_eq, not_false_eq_true, Nat.reduceBEq, Nat.reduceAdd, Nat.reduceSub, Nat.reduceMul, Nat.reduceLT, Nat.reduceLeDiff, Int.reduceLE, Int.reduceLT, Int.reduceToNat, Int.reduceBEq, Int.reduceBNe, Int.le_refl, Nat.le_refl, decide_true, decide_false, Int.cast_ofNat_Int, ↓reduceIte, h3995, h3998, h4001, h4006, h4013, h4018, h4023, h4026, h4029, h4031, h4033]
      repeat with_reducible refine And.intro (by first | kernel_rfl | decide) ?_
      refine Wp_callP (c33 N _ _ _ h4036) (by kernel_rfl) rfl rfl rfl rfl (by decide) ?_
      have hh := getT2_some h; clear h; obtain ⟨p4038, p4039, h4037, h⟩ := hh
      have hh := getA2_some h; clear h; obtain ⟨p4041, p4042, h4040, h⟩ := hh
      have hh := getI_some h; clear h; obtain ⟨x4044, h4043, h⟩ := hh
      have hh := getI_some h; clear h; obtain ⟨x4046, h4045, h⟩ := hh
      have hh := getI_some h; clear h; obtain ⟨x4048, h4047, h⟩ := hh
      have hh := bnd'_some h; clear h; obtain ⟨p4049, h4050, h⟩ := hh
      refine W_sound tab_ok mixed 11 _ _ _ ?_
      simp -implicitDefEqProofs only [go_sem, ne_eq, not_false_eq_true, Nat.reduceBEq, Nat.reduceAdd, Nat.reduceSub, Nat.reduceMul, Nat.reduceLT, Nat.reduceLeDiff, Int.reduceLE, Int.reduceLT, Int.reduceToNat, Int.reduceBEq, Int.reduceBNe, Int.le_refl, Nat.le_refl, decide_true, decide_false, Int.cast_ofNat_Int, ↓reduceIte, h3995, h3998, h4001, h4006, h4013, h4018, h4023, h4026, h4029, h4031, h4033, h4037, h4040, h4043, h4045, h4047]
      repeat with_reducible refine And.intro (by first | kernel_rfl | decide) ?_
      refine Wp_callP (c34 N _ _ _ h4050) (by kernel_rfl) rfl rfl rfl rfl (by decide) ?_
      have hh := getT2_some h; clear h; obtain ⟨p4052, p4053, h4051, h⟩ := hh
      have hh := getL_some h; clear h; obtain ⟨n4055, c4056, h4054, h⟩ := hh
      have hh := getI_some h; clear h; obtain ⟨x4058, h4057, h⟩ := hh
      have hh := bnd'_some h; clear h; obtain ⟨p4059, h4060, h⟩ := hh
      refine W_sound tab_ok mixed 10 _ _ _ ?_
      simp -implicitDefEqProofs only [go_sem, ne_eq, not_false_eq_true, Nat.reduceBEq, Nat.reduceAdd, Nat.reduceSub, Nat.reduceMul, Nat.reduceLT, Nat.reduceLeDiff, Int.reduceLE, Int.reduceLT, Int.reduceToNat, Int.reduceBEq, Int.reduceBNe, Int.le_refl, Nat.le_refl, decide_true, decide_false, Int.cast_ofNat_Int, ↓reduceIte, h3995, h3998, h4001, h4006, h4013, h4018, h4023, h4026, h4029, h4031, h4033, h4037, h4040, h4043, h4045, h4047, h4051, h4054, h4057]
      repeat with_reducible refine And.intro (by first | kernel_rfl | decide) ?_
      refine Wp_callP (c35 N _ _ _ h4060) (by kernel_rfl) rfl rfl rfl rfl (by decide) ?_
      have hh := getT2_some h; clear h; obtain ⟨p4062, p4063, h4061, h⟩ := hh
      have hh := getL_some h; clear h; obtain ⟨n4065, c4066, h4064, h⟩ := hh
      have hh := getI_some h; clear h; obtain ⟨x4068, h4067, h⟩ := hh
      have hh := brn_some h; clear h; rcases hh with ⟨h4069, h⟩ | ⟨h4069, h⟩
      · refine W_sound tab_ok mixed 37 _ _ _ ?_
        simp -implicitDefEqProofs only [go_sem, ne_eq, not_false_eq_true, Nat.reduceBEq, Nat.reduceAdd, Nat.reduceSub, Nat.reduceMul, Nat.reduceLT, Nat.reduceLeDiff, Int.reduceLE, Int.reduceLT, Int.reduceToNat, Int.reduceBEq, Int.reduceBNe, Int.le_refl, Nat.le_refl, decide_true, decide_false, Int.cast_ofNat_Int, ↓reduceIte, h3995, h3998, h4001, h4006, h4013, h4018, h4023, h4026, h4029, h4031, h4033, h4037, h4040, h4043, h4045, h4047, h4051, h4054, h4057, h4061, h4064, h4067, h4069]
        repeat with_reducible refine And.intro (by first | kernel_rfl | decide) ?_
        obtain rfl := Option.some.inj h
        exact finC [(6, .v (.bool false))] [(6, .v (.bool false))] (by simp [leE, lk_cons]) (.cons _ _ _ _ _ (.v _ _ (.refl _)) .nil) (by rfl) (by simp [leE, lk_cons]) (by decide) (by decide) rfl (by simp only [go_sem, ne_eq, not_false_eq_true, Nat.reduceBEq, Nat.reduceAdd, Nat.reduceSub, Nat.reduceMul, Nat.reduceLT, Nat.reduceLeDiff, Int.reduceLE, Int.reduceLT, Int.reduceToNat, Int.reduceBEq, Int.reduceBNe, Int.le_refl, Nat.le_refl, decide_true, decide_false, Int.cast_ofNat_Int, ↓reduceIte, resQ_tmp, resQ_cell, resQ_nil, retD_one, retD_two, retD_three, retD_none]; try simp [R.val, retD_one, retD_two, retD_three, retD_none])
      · have hh := brn_some h; clear h; rcases hh with ⟨h4070, h⟩ | ⟨h4070, h⟩
        · refine W_sound tab_ok mixed 37 _ _ _ ?_
          simp -implicitDefEqProofs only [go_sem, ne_eq, not_false_eq_true, Nat.reduceBEq, Nat.reduceAdd, Nat.reduceSub, Nat.reduceMul, Nat.reduceLT, Nat.reduceLeDiff, Int.reduceLE, Int.reduceLT, Int.reduceToNat, Int.reduceBEq, Int.reduceBNe, Int.le_refl, Nat.le_refl, decide_true, decide_false, Int.cast_ofNat_Int, ↓reduceIte, h3995, h3998, h4001, h4006, h4013, h4018, h4023, h4026, h4029, h4031, h4033, h4037, h4040, h4043, h4045, h4047, h4051, h4054, h4057, h4061, h4064, h4067, h4069, h4070]
          repeat with_reducible refine And.intro (by first | kernel_rfl | decide) ?_
          obtain rfl := Option.some.inj h
          exact finC [(6, .v (.bool false))] [(6, .v (.bool false))] (by simp [leE, lk_cons]) (.cons _ _ _ _ _ (.v _ _ (.refl _)) .nil) (by rfl) (by simp [leE, lk_cons]) (by decide) (by decide) rfl (by simp only [go_sem, ne_eq, not_false_eq_true, Nat.reduceBEq, Nat.reduceAdd, Nat.reduceSub, Nat.reduceMul, Nat.reduceLT, Nat.reduceLeDiff, Int.reduceLE, Int.reduceLT, Int.reduceToNat, Int.reduceBEq, Int.reduceBNe, Int.le_refl, Nat.le_refl, decide_true, decide_false, Int.cast_ofNat_Int, ↓reduceIte, resQ_tmp, resQ_cell, resQ_nil, retD_one, retD_two, retD_three, retD_none]; try simp [R.val, retD_one, retD_two, retD_three, retD_none])
        · have hh := brn_some h; clear h; rcases hh with ⟨h4071, h⟩ | ⟨h4071, h⟩
          · refine W_sound tab_ok mixed 37 _ _ _ ?_
            simp -implicitDefEqProofs only [go_sem, ne_eq, not_false_eq_true, Nat.reduceBEq, Nat.reduceAdd, Nat.reduceSub, Nat.reduceMul, Nat.reduceLT, Nat.reduceLeDiff, Int.reduceLE, Int.reduceLT, Int.reduceToNat, Int.reduceBEq, Int.reduceBNe, Int.le_refl, Nat.le_refl, decide_true, decide_false, Int.cast_ofNat_Int, ↓reduceIte, h3995, h3998, h4001, h4006, h4013, h4018, h4023, h4026, h4029, h4031, h4033, h4037, h4040, h4043, h4045, h4047, h4051, h4054, h4057, h4061, h4064, h4067, h4069, h4070, h4071]
            repeat with_reducible refine And.intro (by first | kernel_rfl | decide) ?_
            obtain rfl := Option.some.inj h
            exact finC [(6, .v (.bool false))] [(6, .v (.bool false))] (by simp [leE, lk_cons]) (.cons _ _ _ _ _ (.v _ _ (.refl _)) .nil) (by rfl) (by simp [leE, lk_cons]) (by decide) (by decide) rfl (by simp only [go_sem, ne_eq, not_false_eq_true, Nat.reduceBEq, Nat.reduceAdd, Nat.reduceSub, Nat.reduceMul, Nat.reduceLT, Nat.reduceLeDiff, Int.reduceLE, Int.reduceLT, Int.reduceToNat, Int.reduceBEq, Int.reduceBNe, Int.le_refl, Nat.le_refl, decide_true, decide_false, Int.cast_ofNat_Int, ↓reduceIte, resQ_tmp, resQ_cell, resQ_nil, retD_one, retD_two, retD_three, retD_none]; try simp [R.val, retD_one, retD_two, retD_three, retD_none])
          · have hh := brn_some h; clear h; rcases hh with ⟨h4072, h⟩ | ⟨h4072, h⟩
            · refine W_sound tab_ok mixed 37 _ _ _ ?_
              simp -implicitDefEqProofs only [go_sem, ne_eq, not_false_eq_true, Nat.reduceBEq, Nat.reduceAdd, Nat.reduceSub, Nat.reduceMul, Nat.reduceLT, Nat.reduceLeDiff, Int.reduceLE, Int.reduceLT, Int.reduceToNat, Int.reduceBEq, Int.reduceBNe, Int.le_refl, Nat.le_refl, decide_true, decide_false, Int.cast_ofNat_Int, ↓reduceIte, h3995, h3998, h4001, h4006, h4013, h4018, h4023, h4026, h4029, h4031, h4033, h4037, h4040, h4043, h4045, h4047, h4051, h4054, h4057, h4061, h4064, h4067, h4069, h4070, h4071, h4072]
              repeat with_reducible refine And.intro (by first | kernel_rfl | decide) ?_
              obtain rfl := Option.some.inj h
              exact finC [(6, .v (.bool false))] [(6, .v (.bool false))] (by simp [leE, lk_cons]) (.cons _ _ _ _ _ (.v _ _ (.refl _)) .nil) (by rfl) (by simp [leE, lk_cons]) (by decide) (by decide) rfl (by simp only [go_sem, ne_eq, not_false_eq_true, Nat.reduceBEq, Nat.reduceAdd, Nat.reduceSub, Nat.reduceMul, Nat.reduceLT, Nat.reduceLeDiff, Int.reduceLE, Int.reduceLT, Int.reduceToNat, Int.reduceBEq, Int.reduceBNe, Int.le_refl, Nat.le_refl, decide_true, decide_false, Int.cast_ofNat_Int, ↓reduceIte, resQ_tmp, resQ_cell, resQ_nil, retD_one, retD_two, retD_three, retD_none]; try simp [R.val, retD_one, retD_two, retD_three, retD_none])
            · refine W_sound tab_ok mixed 37 _ _ _ ?_
              simp -implicitDefEqProofs only [go_sem, ne_eq, not_false_eq_true, Nat.reduceBEq, Nat.reduceAdd, Nat.reduceSub, Nat.reduceMul, Nat.reduceLT, Nat.reduceLeDiff, Int.reduceLE, Int.reduceLT, Int.reduceToNat, Int.reduceBEq, Int.reduceBNe, Int.le_refl, Nat.le_refl, decide_true, decide_false, Int.cast_ofNat_Int, ↓reduceIte, h3995, h3998, h4001, h4006, h4013, h4018, h4023, h4026, h4029, h4031, h4033, h4037, h4040, h4043, h4045, h4047, h4051, h4054, h4057, h4061, h4064, h4067, h4069, h4070, h4071, h4072]
              repeat with_reducible refine And.intro (by first | kernel_rfl | decide) ?_
              have hh := bnd'_some h; clear h; obtain ⟨o4100, h4101, h4102⟩ := hh
              refine Wp_cut (fun s => (.inr ()) = o4100 ∧ s = ⟨[], [(0, .dead), (1, .dead), (2, .dead), (6, .dead), (7, .dead), (8, .dead), (9, .dead), (10, .dead), (11, .dead), (12, .dead), (13, .dead), (14, .dead), (15, .dead), (16, .dead), (17, .dead), (25, .dead), (74, .dead), (78, .dead), (89, .dead)], [], 0, []⟩) ?_ ?_
              · refine Wp_block ?_
                refine Wp_loopG (fun n s => ∃ x4073, m6_L0 N n4055 c4056 n4065 c4066 n x4073 = some o4100 ∧ s = ⟨[], [(0, .dead), (1, .dead), (2, .dead), (6, .dead), (7, .dead), (8, .dead), (9, .dead), (10, .dead), (11, .dead), (12, .dead), (13, .v (.lst false n4055 c4056)), (14, .dead), (15, .v (.lst false n4065 c4066)), (16, .dead), (17, .v (.int .i64 x4073)), (25, .dead), (74, .dead), (78, .dead), (89, .dead)], [], 0, []⟩) N _ ((Wk_le (.cons _ _ _ _ _ (.dead _) (.cons _ _ _ _ _ (.dead _) (.cons _ _ _ _ _ (.dead _) (.cons _ _ _ _ _ (.dead _) (.cons _ _ _ _ _ (.dead _) (.cons _ _ _ _ _ (.dead _) (.cons _ _ _ _ _ (.dead _) (.cons _ _ _ _ _ (.dead _) (.cons _ _ _ _ _ (.dead _) (.cons _ _ _ _ _ (.dead _) (.cons _ _ _ _ _ (.refl _) (.cons _ _ _ _ _ (.dead _) (.cons _ _ _ _ _ (.refl _) (.cons _ _ _ _ _ (.dead _) (.cons _ _ _ _ _ (.refl _) (.cons _ _ _ _ _ (.dead _) (.cons _ _ _ _ _ (.dead _) (.cons _ _ _ _ _ (.refl _) (.cons _ _ _ _ _ (.refl _) .nil))))))))))))))))))) (OLe.refl _)).trans (cmpS_ok rfl)) ⟨_, h4101, rfl⟩ ?_
                clear h4101
                rintro n _ ⟨x4073, h4101, rfl⟩
                cases n with
                | zero => cases h4101
                | succ n =>
                  rw [m6_L0] at h4101
                  have hh := brn_some h4101; clear h4101; rcases hh with ⟨h4074, h4101⟩ | ⟨h4074, h4101⟩
                  · have hh := grd_some h4101; clear h4101; obtain ⟨⟨g4075, g4076⟩, h4101⟩ := hh
                    have hh := grd_some h4101; clear h4101; obtain ⟨g4077, h4101⟩ := hh
                    have hh := getA2_some h4101; clear h4101; obtain ⟨p4079, p4080, h4078, h4101⟩ := hh
                    injection h4078 with h4078
                    have hh := grd_some h4101; clear h4101; obtain ⟨g4081, h4101⟩ := hh
                    have hh := grd_some h4101; clear h4101; obtain ⟨g4082, h4101⟩ := hh
                    have hh := getA2_some h4101; clear h4101; obtain ⟨p4084, p4085, h4083, h4101⟩ := hh
                    injection h4083 with h4083
                    have hh := getI_some h4101; clear h4101; obtain ⟨x4087, h4086, h4101⟩ := hh
                    have hh := getI_some h4101; clear h4101; obtain ⟨x4089, h4088, h4101⟩ := hh
                    have hh := getI_some h4101; clear h4101; obtain ⟨x4091, h4090, h4101⟩ := hh
                    have hh := getI_some h4101; clear h4101; obtain ⟨x4093, h4092, h4101⟩ := hh
                    have hh := brn_some h4101; clear h4101; rcases hh with ⟨h4094, h4101⟩ | ⟨h4094, h4101⟩
                    · refine W_sound tab_ok mixed 31 _ _ _ ?_
                      simp -implicitDefEqProofs only [go_sem, ne_eq, not_false_eq_true, Nat.reduceBEq, Nat.reduceAdd, Nat.reduceSub, Nat.reduceMul, Nat.reduceLT, Nat.reduceLeDiff, Int.reduceLE, Int.reduceLT, Int.reduceToNat, Int.reduceBEq, Int.reduceBNe, Int.le_refl, Nat.le_refl, decide_true, decide_false, Int.cast_ofNat_Int, ↓reduceIte, h3995, h3998, h4001, h4006, h4013, h4018, h4023, h4026, h4029, h4031, h4033, h4037, h4040, h4043, h4045, h4047, h4051, h4054, h4057, h4061, h4064, h4067, h4069, h4070, h4071, h4072, h4074, g4075, g4076, g4077, h4078, g4081, g4082, h4083, h4086, h4088, h4090, h4092, h4094]
                      repeat with_reducible refine And.intro (by first | kernel_rfl | decide) ?_
                      obtain rfl := Option.some.inj h4101
                      (try dsimp only at h4102)
                      obtain rfl := Option.some.inj h4102
                      exact finC [(6, .v (.bool false))] [(6, .v (.bool false))] (by simp [leE, lk_cons]) (.cons _ _ _ _ _ (.v _ _ (.refl _)) .nil) (by rfl) (by simp [leE, lk_cons]) (by decide) (by decide) rfl (by simp only [go_sem, ne_eq, not_false_eq_true, Nat.reduceBEq, Nat.reduceAdd, Nat.reduceSub, Nat.reduceMul, Nat.reduceLT, Nat.reduceLeDiff, Int.reduceLE, Int.reduceLT, Int.reduceToNat, Int.reduceBEq, Int.reduceBNe, Int.le_refl, Nat.le_refl, decide_true, decide_false, Int.cast_ofNat_Int, ↓reduceIte, resQ_tmp, resQ_cell, resQ_nil, retD_one, retD_two, retD_three, retD_none]; try simp [R.val, retD_one, retD_two, retD_three, retD_none])
                    · refine W_sound tab_ok mixed 32 _ _ _ ?_
                      simp -implicitDefEqProofs only [go_sem, ne_eq, not_false_eq_true, Nat.reduceBEq, Nat.reduceAdd, Nat.reduceSub, Nat.reduceMul, Nat.reduceLT, Nat.reduceLeDiff, Int.reduceLE, Int.reduceLT, Int.reduceToNat, Int.reduceBEq, Int.reduceBNe, Int.le_refl, Nat.le_refl, decide_true, decide_false, Int.cast_ofNat_Int, ↓reduceIte, h3995, h3998, h4001, h4006, h4013, h4018, h4023, h4026, h4029, h4031, h4033, h4037, h4040, h4043, h4045, h4047, h4051, h4054, h4057, h4061, h4064, h4067, h4069, h4070, h4071, h4072, h4074, g4075, g4076, g4077, h4078, g4081, g4082, h4083, h4086, h4088, h4090, h4092, h4094]
                      repeat with_reducible refine And.intro (by first | kernel_rfl | decide) ?_
                      exact cutQ _ ((Wk_le (.cons _ _ _ _ _ (.refl _) (.cons _ _ _ _ _ (.refl _) (.cons _ _ _ _ _ (.refl _) (.cons _ _ _ _ _ (.refl _) (.cons _ _ _ _ _ (.refl _) (.cons _ _ _ _ _ (.refl _) (.cons _ _ _ _ _ (.refl _) (.cons _ _ _ _ _ (.refl _) (.cons _ _ _ _ _ (.refl _) (.cons _ _ _ _ _ (.refl _) (.cons _ _ _ _ _ (.refl _) (.cons _ _ _ _ _ (.refl _) (.cons _ _ _ _ _ (.refl _) (.cons _ _ _ _ _ (.refl _) (.cons _ _ _ _ _ (.refl _) (.cons _ _ _ _ _ (.refl _) (.cons _ _ _ _ _ (.refl _) (.cons _ _ _ _ _ (.dead _) (.cons _ _ _ _ _ (.dead _) .nil))))))))))))))))))) (OLe.refl _)).trans (cmpS_ok rfl)) ⟨n, Nat.lt_succ_self n, _, h4101, rfl⟩
                  · refine W_sound tab_ok mixed 10 _ _ _ ?_
                    simp -implicitDefEqProofs only [go_sem, ne_eq, not_false_eq_true, Nat.reduceBEq, Nat.reduceAdd, Nat.reduceSub, Nat.reduceMul, Nat.reduceLT, Nat.reduceLeDiff, Int.reduceLE, Int.reduceLT, Int.reduceToNat, Int.reduceBEq, Int.reduceBNe, Int.le_refl, Nat.le_refl, decide_true, decide_false, Int.cast_ofNat_Int, ↓reduceIte, h3995, h3998, h4001, h4006, h4013, h4018, h4023, h4026, h4029, h4031, h4033, h4037, h4040, h4043, h4045, h4047, h4051, h4054, h4057, h4061, h4064, h4067, h4069, h4070, h4071, h4072, h4074]
                    repeat with_reducible refine And.intro (by first | kernel_rfl | decide) ?_
                    obtain rfl := Option.some.inj h4101
                    exact cutQ _ ((Wk_le (.cons _ _ _ _ _ (.refl _) (.cons _ _ _ _ _ (.refl _) (.cons _ _ _ _ _ (.refl _) (.cons _ _ _ _ _ (.refl _) (.cons _ _ _ _ _ (.refl _) (.cons _ _ _ _ _ (.refl _) (.cons _ _ _ _ _ (.refl _) (.cons _ _ _ _ _ (.refl _) (.cons _ _ _ _ _ (.refl _) (.cons _ _ _ _ _ (.refl _) (.cons _ _ _ _ _ (.dead _) (.cons _ _ _ _ _ (.refl _) (.cons _ _ _ _ _ (.dead _) (.cons _ _ _ _ _ (.refl _) (.cons _ _ _ _ _ (.dead _) (.cons _ _ _ _ _ (.refl _) (.cons _ _ _ _ _ (.refl _) (.cons _ _ _ _ _ (.dead _) (.cons _ _ _ _ _ (.refl _) .nil))))))))))))))))))) (OLe.refl _)).trans (cmpS_ok rfl)) ⟨rfl, rfl⟩
              · rintro _ ⟨rfl, rfl⟩
                (try dsimp only at h4102)
                have hh := bnd'_some h4102; clear h4102; obtain ⟨p4096, h4097, h4102⟩ := hh
                refine W_sound tab_ok mixed 2 _ _ _ ?_
                simp -implicitDefEqProofs only [go_sem, ne_eq, not_false_eq_true, Nat.reduceBEq, Nat.reduceAdd, Nat.reduceSub, Nat.reduceMul, Nat.reduceLT, Nat.reduceLeDiff, Int.reduceLE, Int.reduceLT, Int.reduceToNat, Int.reduceBEq, Int.reduceBNe, Int.le_refl, Nat.le_refl, decide_true, decide_false, Int.cast_ofNat_Int, ↓reduceIte, h3995, h3998, h4001, h4006, h4013, h4018, h4023, h4026, h4029, h4031, h4033, h4037, h4040, h4043, h4045, h4047, h4051, h4054, h4057, h4061, h4064, h4067, h4069, h4070, h4071, h4072]
                repeat with_reducible refine And.intro (by first | kernel_rfl | decide) ?_
                refine Wp_callP (c15 N  _ h4097) (by kernel_rfl) rfl rfl rfl rfl (by decide) ?_
                have hh := getB_some h4102; clear h4102; obtain ⟨b4099, h4098, h4102⟩ := hh
                refine W_sound tab_ok mixed 4 _ _ _ ?_
                simp -implicitDefEqProofs only [go_sem, ne_eq, not_false_eq_true, Nat.reduceBEq, Nat.reduceAdd, Nat.reduceSub, Nat.reduceMul, Nat.reduceLT, Nat.reduceLeDiff, Int.reduceLE, Int.reduceLT, Int.reduceToNat, Int.reduceBEq, Int.reduceBNe, Int.le_refl, Nat.le_refl, decide_true, decide_false, Int.cast_ofNat_Int, ↓reduceIte, h3995, h3998, h4001, h4006, h4013, h4018, h4023, h4026, h4029, h4031, h4033, h4037, h4040, h4043, h4045, h4047, h4051, h4054, h4057, h4061, h4064, h4067, h4069, h4070, h4071, h4072, h4098]
                repeat with_reducible refine And.intro (by first | kernel_rfl | decide) ?_
                obtain rfl := Option.some.inj h4102
                exact finC [(6, .v (.bool b4099))] [(6, .v (.bool b4099))] (by simp [leE, lk_cons]) (.cons _ _ _ _ _ (.v _ _ (.refl _)) .nil) (by rfl) (by simp [leE, lk_cons]) (by decide) (by decide) rfl (by simp only [go_sem, ne_eq, not_false_eq_true, Nat.reduceBEq, Nat.reduceAdd, Nat.reduceSub, Nat.reduceMul, Nat.reduceLT, Nat.reduceLeDiff, Int.reduceLE, Int.reduceLT, Int.reduceToNat, Int.reduceBEq, Int.reduceBNe, Int.le_refl, Nat.le_refl, decide_true, decide_false, Int.cast_ofNat_Int, ↓reduceIte, resQ_tmp, resQ_cell, resQ_nil, retD_one, retD_two, retD_three, retD_none]; try simp [R.val, retD_one, retD_two, retD_three, retD_none])
end Go.Proofs.Ytgnphlpoofaojaa
