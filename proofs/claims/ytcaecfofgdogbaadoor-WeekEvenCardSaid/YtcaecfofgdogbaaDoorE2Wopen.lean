/-
  Plans are checked: the program and the reference say the same, and what the table of a plan is.
-/
import Derived.Test.YtcaecfofgdogbaaDoorE2WeA
import Derived.Test.YtcaecfofgdogbaaDoorE2WeK
import Derived.Test.YtcaecfofgdogbaaDoorE2V41
set_option linter.unusedSimpArgs false
set_option linter.unusedVariables false
namespace Go.Proofs.YtcaecfofgdogbaaDoor
open Go.V
set_option maxRecDepth 100000
set_option maxHeartbeats 4000000
set_option linter.unusedSimpArgs false
set_option linter.unusedVariables false
attribute [local go_sem] tl1 tl2 tl3 tl4 tl5 tl9 tl17 tl21 tl22 tl23 tl24 tl25 tl27 tl28 tl30 tl31 tl32 tl33 tl35 tl36 tl37 tl38 tl39 tl40 tl42 tl43 tl44 tl45 tl46 tl47 tl48 tl49 tl50 tl51 tl52 tl53 tl54 tl55 tl56 tl57 tl58 tl59 tl61 tl62 tl63 tl64 tl65 tl66 tl67 tl68 tl69 tl70 tl71 tl72 tl73 tl74 tl75 tl76 tl77 tl78 tl79 tl80 tl81 tl82 tl83 tl84 tl85 tl87 tl89 tl90 tl91 tl92 tl93 tl94 tl96 tl97 tl98 tl99 tl100 tl101 tl102 tl103 tl104 tl105 tl106 tl107 tl108 tl109 tl115 tl119 ne_eq not_false_eq_true Int.le_refl Nat.le_refl Int.cast_ofNat_Int
noncomputable def m9_L0 (N : Nat) (p2153 : PV) (p2154 : PV) (p2155 : PV) (p2156 : PV) (p2157 : PV) (p2159 : PV) (p2160 : PV) (p2161 : PV) (p2162 : PV) (p2163 : PV) : Nat → Int → List PV → List PV → List PV → List PV → List PV → Option ((List PV × List PV × List PV × List PV × List PV))
 | 0, _, _, _, _, _, _ => none
 | n + 1, x3191, c3192, c3193, c3194, c3195, c3196 =>
  brn (decide (x3191 < 5)) (
   grd (0 ≤ x3191 ∧ x3191 < 5) <|
   grd ((Int.toNat x3191) < 5) <|
   getI .u8 (gp [p2153, p2154, p2155, p2156, p2157] (Int.toNat x3191)) fun x3202 =>
   grd ((IntKind.i64.wrap (x3191 + 1)) ≠ 0) <|
   casI (Int.tmod (IntKind.i64.wrap x3202) (IntKind.i64.wrap (x3191 + 1))) 0 (
    casI x3191 0 (
     m9_L0 N p2153 p2154 p2155 p2156 p2157 p2159 p2160 p2161 p2162 p2163 n 1 c3192 c3193 c3194 c3195 c3196) (
    casI x3191 1 (
     m9_L0 N p2153 p2154 p2155 p2156 p2157 p2159 p2160 p2161 p2162 p2163 n 2 c3193 c3192 c3194 c3195 c3196) (
    casI x3191 2 (
     m9_L0 N p2153 p2154 p2155 p2156 p2157 p2159 p2160 p2161 p2162 p2163 n 3 c3194 c3193 c3192 c3195 c3196) (
    casI x3191 3 (
     m9_L0 N p2153 p2154 p2155 p2156 p2157 p2159 p2160 p2161 p2162 p2163 n 4 c3195 c3193 c3194 c3192 c3196) (
    casI x3191 4 (
     m9_L0 N p2153 p2154 p2155 p2156 p2157 p2159 p2160 p2161 p2162 p2163 n 5 c3196 c3193 c3194 c3195 c3192) (
    none)))))) (
   casI (Int.tmod (IntKind.i64.wrap x3202) (IntKind.i64.wrap (x3191 + 1))) 1 (
    casI x3191 0 (
     m9_L0 N p2153 p2154 p2155 p2156 p2157 p2159 p2160 p2161 p2162 p2163 n 1 c3193 c3192 c3194 c3195 c3196) (
    casI x3191 1 (
     m9_L0 N p2153 p2154 p2155 p2156 p2157 p2159 p2160 p2161 p2162 p2163 n 2 c3192 c3193 c3194 c3195 c3196) (
    casI x3191 2 (
     m9_L0 N p2153 p2154 p2155 p2156 p2157 p2159 p2160 p2161 p2162 p2163 n 3 c3192 c3194 c3193 c3195 c3196) (
    casI x3191 3 (
     m9_L0 N p2153 p2154 p2155 p2156 p2157 p2159 p2160 p2161 p2162 p2163 n 4 c3192 c3195 c3194 c3193 c3196) (
    casI x3191 4 (
     m9_L0 N p2153 p2154 p2155 p2156 p2157 p2159 p2160 p2161 p2162 p2163 n 5 c3192 c3196 c3194 c3195 c3193) (
    none)))))) (
   casI (Int.tmod (IntKind.i64.wrap x3202) (IntKind.i64.wrap (x3191 + 1))) 2 (
    casI x3191 0 (
     m9_L0 N p2153 p2154 p2155 p2156 p2157 p2159 p2160 p2161 p2162 p2163 n 1 c3194 c3193 c3192 c3195 c3196) (
    casI x3191 1 (
     m9_L0 N p2153 p2154 p2155 p2156 p2157 p2159 p2160 p2161 p2162 p2163 n 2 c3192 c3194 c3193 c3195 c3196) (
    casI x3191 2 (
     m9_L0 N p2153 p2154 p2155 p2156 p2157 p2159 p2160 p2161 p2162 p2163 n 3 c3192 c3193 c3194 c3195 c3196) (
    casI x3191 3 (
     m9_L0 N p2153 p2154 p2155 p2156 p2157 p2159 p2160 p2161 p2162 p2163 n 4 c3192 c3193 c3195 c3194 c3196) (
    casI x3191 4 (
     m9_L0 N p2153 p2154 p2155 p2156 p2157 p2159 p2160 p2161 p2162 p2163 n 5 c3192 c3193 c3196 c3195 c3194) (
    none)))))) (
   casI (Int.tmod (IntKind.i64.wrap x3202) (IntKind.i64.wrap (x3191 + 1))) 3 (
    casI x3191 0 (
     m9_L0 N p2153 p2154 p2155 p2156 p2157 p2159 p2160 p2161 p2162 p2163 n 1 c3195 c3193 c3194 c3192 c3196) (
    casI x3191 1 (
     m9_L0 N p2153 p2154 p2155 p2156 p2157 p2159 p2160 p2161 p2162 p2163 n 2 c3192 c3195 c3194 c3193 c3196) (
    casI x3191 2 (
     m9_L0 N p2153 p2154 p2155 p2156 p2157 p2159 p2160 p2161 p2162 p2163 n 3 c3192 c3193 c3195 c3194 c3196) (
    casI x3191 3 (
     m9_L0 N p2153 p2154 p2155 p2156 p2157 p2159 p2160 p2161 p2162 p2163 n 4 c3192 c3193 c3194 c3195 c3196) (
    casI x3191 4 (
     m9_L0 N p2153 p2154 p2155 p2156 p2157 p2159 p2160 p2161 p2162 p2163 n 5 c3192 c3193 c3194 c3196 c3195) (
    none)))))) (
   casI (Int.tmod (IntKind.i64.wrap x3202) (IntKind.i64.wrap (x3191 + 1))) 4 (
    casI x3191 0 (
     m9_L0 N p2153 p2154 p2155 p2156 p2157 p2159 p2160 p2161 p2162 p2163 n 1 c3196 c3193 c3194 c3195 c3192) (
    casI x3191 1 (
     m9_L0 N p2153 p2154 p2155 p2156 p2157 p2159 p2160 p2161 p2162 p2163 n 2 c3192 c3196 c3194 c3195 c3193) (
    casI x3191 2 (
     m9_L0 N p2153 p2154 p2155 p2156 p2157 p2159 p2160 p2161 p2162 p2163 n 3 c3192 c3193 c3196 c3195 c3194) (
    casI x3191 3 (
     m9_L0 N p2153 p2154 p2155 p2156 p2157 p2159 p2160 p2161 p2162 p2163 n 4 c3192 c3193 c3194 c3196 c3195) (
    casI x3191 4 (
     m9_L0 N p2153 p2154 p2155 p2156 p2157 p2159 p2160 p2161 p2162 p2163 n 5 c3192 c3193 c3194 c3195 c3196) (
    none)))))) (
   none)))))) (
   some (c3192, c3193, c3194, c3195, c3196))
noncomputable def m9_L1 (N : Nat) (p2159 : PV) (p2160 : PV) (p2161 : PV) (p2162 : PV) (p2163 : PV) : Nat → Int → List PV → List PV → List PV → List PV → List PV → Option ((List PV × List PV × List PV × List PV × List PV))
 | 0, _, _, _, _, _, _ => none
 | n + 1, x3265, c3266, c3267, c3268, c3269, c3270 =>
  brn (decide (x3265 < 5)) (
   grd (0 ≤ x3265 ∧ x3265 < 5) <|
   grd ((Int.toNat x3265) < 5) <|
   getI .u8 (gp [p2159, p2160, p2161, p2162, p2163] (Int.toNat x3265)) fun x3276 =>
   grd ((IntKind.i64.wrap (x3265 + 1)) ≠ 0) <|
   grd (0 ≤ (Int.tmod (IntKind.i64.wrap x3276) (IntKind.i64.wrap (x3265 + 1))) ∧ (Int.tmod (IntKind.i64.wrap x3276) (IntKind.i64.wrap (x3265 + 1))) < 5) <|
   grd ((Int.toNat (Int.tmod (IntKind.i64.wrap x3276) (IntKind.i64.wrap (x3265 + 1)))) < List.length c3266) <|
   getI .i64 (gp c3266 (Int.toNat (Int.tmod (IntKind.i64.wrap x3276) (IntKind.i64.wrap (x3265 + 1))))) fun x3282 =>
   grd ((Int.toNat x3265) < List.length c3266) <|
   getI .i64 (gp c3266 (Int.toNat x3265)) fun x3285 =>
   grd (((Int.toNat x3265) + 1) ≤ List.length c3266) <|
   grd (((Int.toNat (Int.tmod (IntKind.i64.wrap x3276) (IntKind.i64.wrap (x3265 + 1)))) + 1) ≤ List.length c3266) <|
   grd ((Int.toNat (Int.tmod (IntKind.i64.wrap x3276) (IntKind.i64.wrap (x3265 + 1)))) < List.length c3267) <|
   getI .i64 (gp c3267 (Int.toNat (Int.tmod (IntKind.i64.wrap x3276) (IntKind.i64.wrap (x3265 + 1))))) fun x3290 =>
   grd ((Int.toNat x3265) < List.length c3267) <|
   getI .i64 (gp c3267 (Int.toNat x3265)) fun x3293 =>
   grd (((Int.toNat x3265) + 1) ≤ List.length c3267) <|
   grd (((Int.toNat (Int.tmod (IntKind.i64.wrap x3276) (IntKind.i64.wrap (x3265 + 1)))) + 1) ≤ List.length c3267) <|
   grd ((Int.toNat (Int.tmod (IntKind.i64.wrap x3276) (IntKind.i64.wrap (x3265 + 1)))) < List.length c3268) <|
   getI .i64 (gp c3268 (Int.toNat (Int.tmod (IntKind.i64.wrap x3276) (IntKind.i64.wrap (x3265 + 1))))) fun x3298 =>
   grd ((Int.toNat x3265) < List.length c3268) <|
   getI .i64 (gp c3268 (Int.toNat x3265)) fun x3301 =>
   grd (((Int.toNat x3265) + 1) ≤ List.length c3268) <|
   grd (((Int.toNat (Int.tmod (IntKind.i64.wrap x3276) (IntKind.i64.wrap (x3265 + 1)))) + 1) ≤ List.length c3268) <|
   grd ((Int.toNat (Int.tmod (IntKind.i64.wrap x3276) (IntKind.i64.wrap (x3265 + 1)))) < List.length c3269) <|
   getI .i64 (gp c3269 (Int.toNat (Int.tmod (IntKind.i64.wrap x3276) (IntKind.i64.wrap (x3265 + 1))))) fun x3306 =>
   grd ((Int.toNat x3265) < List.length c3269) <|
   getI .i64 (gp c3269 (Int.toNat x3265)) fun x3309 =>
   grd (((Int.toNat x3265) + 1) ≤ List.length c3269) <|
   grd (((Int.toNat (Int.tmod (IntKind.i64.wrap x3276) (IntKind.i64.wrap (x3265 + 1)))) + 1) ≤ List.length c3269) <|
   grd ((Int.toNat (Int.tmod (IntKind.i64.wrap x3276) (IntKind.i64.wrap (x3265 + 1)))) < List.length c3270) <|
   getI .i64 (gp c3270 (Int.toNat (Int.tmod (IntKind.i64.wrap x3276) (IntKind.i64.wrap (x3265 + 1))))) fun x3314 =>
   grd ((Int.toNat x3265) < List.length c3270) <|
   getI .i64 (gp c3270 (Int.toNat x3265)) fun x3317 =>
   grd (((Int.toNat x3265) + 1) ≤ List.length c3270) <|
   grd (((Int.toNat (Int.tmod (IntKind.i64.wrap x3276) (IntKind.i64.wrap (x3265 + 1)))) + 1) ≤ List.length c3270) <|
   m9_L1 N p2159 p2160 p2161 p2162 p2163 n (IntKind.i64.wrap (x3265 + 1)) (List.set (List.set c3266 (Int.toNat x3265) (.int .i64 x3282)) (Int.toNat (Int.tmod (IntKind.i64.wrap x3276) (IntKind.i64.wrap (x3265 + 1)))) (.int .i64 x3285)) (List.set (List.set c3267 (Int.toNat x3265) (.int .i64 x3290)) (Int.toNat (Int.tmod (IntKind.i64.wrap x3276) (IntKind.i64.wrap (x3265 + 1)))) (.int .i64 x3293)) (List.set (List.set c3268 (Int.toNat x3265) (.int .i64 x3298)) (Int.toNat (Int.tmod (IntKind.i64.wrap x3276) (IntKind.i64.wrap (x3265 + 1)))) (.int .i64 x3301)) (List.set (List.set c3269 (Int.toNat x3265) (.int .i64 x3306)) (Int.toNat (Int.tmod (IntKind.i64.wrap x3276) (IntKind.i64.wrap (x3265 + 1)))) (.int .i64 x3309)) (List.set (List.set c3270 (Int.toNat x3265) (.int .i64 x3314)) (Int.toNat (Int.tmod (IntKind.i64.wrap x3276) (IntKind.i64.wrap (x3265 + 1)))) (.int .i64 x3317))) (
   some (c3266, c3267, c3268, c3269, c3270))
noncomputable def m9_L2 (N : Nat) (p2153 : PV) (p2154 : PV) (p2155 : PV) (p2156 : PV) (p2157 : PV) (p2159 : PV) (p2160 : PV) (p2161 : PV) (p2162 : PV) (p2163 : PV) : Nat → Int → List PV → List PV → List PV → List PV → Option ((List PV × List PV × List PV × List PV))
 | 0, _, _, _, _, _ => none
 | n + 1, x2931, c2932, c2933, c2934, c2935 =>
  brn (decide (x2931 < 4)) (
   grd (0 ≤ x2931 ∧ x2931 < 5) <|
   grd ((Int.toNat x2931) < 5) <|
   getI .u8 (gp [p2153, p2154, p2155, p2156, p2157] (Int.toNat x2931)) fun x2941 =>
   grd ((IntKind.i64.wrap (x2931 + 1)) ≠ 0) <|
   casI (Int.tmod (IntKind.i64.wrap x2941) (IntKind.i64.wrap (x2931 + 1))) 0 (
    casI x2931 0 (
     m9_L2 N p2153 p2154 p2155 p2156 p2157 p2159 p2160 p2161 p2162 p2163 n 1 c2932 c2933 c2934 c2935) (
    casI x2931 1 (
     m9_L2 N p2153 p2154 p2155 p2156 p2157 p2159 p2160 p2161 p2162 p2163 n 2 c2933 c2932 c2934 c2935) (
    casI x2931 2 (
     m9_L2 N p2153 p2154 p2155 p2156 p2157 p2159 p2160 p2161 p2162 p2163 n 3 c2934 c2933 c2932 c2935) (
    casI x2931 3 (
     m9_L2 N p2153 p2154 p2155 p2156 p2157 p2159 p2160 p2161 p2162 p2163 n 4 c2935 c2933 c2934 c2932) (
    none))))) (
   casI (Int.tmod (IntKind.i64.wrap x2941) (IntKind.i64.wrap (x2931 + 1))) 1 (
    casI x2931 0 (
     m9_L2 N p2153 p2154 p2155 p2156 p2157 p2159 p2160 p2161 p2162 p2163 n 1 c2933 c2932 c2934 c2935) (
    casI x2931 1 (
     m9_L2 N p2153 p2154 p2155 p2156 p2157 p2159 p2160 p2161 p2162 p2163 n 2 c2932 c2933 c2934 c2935) (
    casI x2931 2 (
     m9_L2 N p2153 p2154 p2155 p2156 p2157 p2159 p2160 p2161 p2162 p2163 n 3 c2932 c2934 c2933 c2935) (
    casI x2931 3 (
     m9_L2 N p2153 p2154 p2155 p2156 p2157 p2159 p2160 p2161 p2162 p2163 n 4 c2932 c2935 c2934 c2933) (
    none))))) (
   casI (Int.tmod (IntKind.i64.wrap x2941) (IntKind.i64.wrap (x2931 + 1))) 2 (
    casI x2931 0 (
     m9_L2 N p2153 p2154 p2155 p2156 p2157 p2159 p2160 p2161 p2162 p2163 n 1 c2934 c2933 c2932 c2935) (
    casI x2931 1 (
     m9_L2 N p2153 p2154 p2155 p2156 p2157 p2159 p2160 p2161 p2162 p2163 n 2 c2932 c2934 c2933 c2935) (
    casI x2931 2 (
     m9_L2 N p2153 p2154 p2155 p2156 p2157 p2159 p2160 p2161 p2162 p2163 n 3 c2932 c2933 c2934 c2935) (
    casI x2931 3 (
     m9_L2 N p2153 p2154 p2155 p2156 p2157 p2159 p2160 p2161 p2162 p2163 n 4 c2932 c2933 c2935 c2934) (
    none))))) (
   casI (Int.tmod (IntKind.i64.wrap x2941) (IntKind.i64.wrap (x2931 + 1))) 3 (
    casI x2931 0 (
     m9_L2 N p2153 p2154 p2155 p2156 p2157 p2159 p2160 p2161 p2162 p2163 n 1 c2935 c2933 c2934 c2932) (
    casI x2931 1 (
     m9_L2 N p2153 p2154 p2155 p2156 p2157 p2159 p2160 p2161 p2162 p2163 n 2 c2932 c2935 c2934 c2933) (
    casI x2931 2 (
     m9_L2 N p2153 p2154 p2155 p2156 p2157 p2159 p2160 p2161 p2162 p2163 n 3 c2932 c2933 c2935 c2934) (
    casI x2931 3 (
     m9_L2 N p2153 p2154 p2155 p2156 p2157 p2159 p2160 p2161 p2162 p2163 n 4 c2932 c2933 c2934 c2935) (
    none))))) (
   none))))) (
   some (c2932, c2933, c2934, c2935))
noncomputable def m9_L3 (N : Nat) (p2159 : PV) (p2160 : PV) (p2161 : PV) (p2162 : PV) (p2163 : PV) : Nat → Int → List PV → List PV → List PV → List PV → Option ((List PV × List PV × List PV × List PV))
 | 0, _, _, _, _, _ => none
 | n + 1, x2995, c2996, c2997, c2998, c2999 =>
  brn (decide (x2995 < 4)) (
   grd (0 ≤ x2995 ∧ x2995 < 5) <|
   grd ((Int.toNat x2995) < 5) <|
   getI .u8 (gp [p2159, p2160, p2161, p2162, p2163] (Int.toNat x2995)) fun x3005 =>
   grd ((IntKind.i64.wrap (x2995 + 1)) ≠ 0) <|
   grd (0 ≤ (Int.tmod (IntKind.i64.wrap x3005) (IntKind.i64.wrap (x2995 + 1))) ∧ (Int.tmod (IntKind.i64.wrap x3005) (IntKind.i64.wrap (x2995 + 1))) < 4) <|
   grd ((Int.toNat (Int.tmod (IntKind.i64.wrap x3005) (IntKind.i64.wrap (x2995 + 1)))) < List.length c2996) <|
   getI .i64 (gp c2996 (Int.toNat (Int.tmod (IntKind.i64.wrap x3005) (IntKind.i64.wrap (x2995 + 1))))) fun x3011 =>
   grd (x2995 < 4) <|
   grd ((Int.toNat x2995) < List.length c2996) <|
   getI .i64 (gp c2996 (Int.toNat x2995)) fun x3015 =>
   grd (((Int.toNat x2995) + 1) ≤ List.length c2996) <|
   grd (((Int.toNat (Int.tmod (IntKind.i64.wrap x3005) (IntKind.i64.wrap (x2995 + 1)))) + 1) ≤ List.length c2996) <|
   grd ((Int.toNat (Int.tmod (IntKind.i64.wrap x3005) (IntKind.i64.wrap (x2995 + 1)))) < List.length c2997) <|
   getI .i64 (gp c2997 (Int.toNat (Int.tmod (IntKind.i64.wrap x3005) (IntKind.i64.wrap (x2995 + 1))))) fun x3020 =>
   grd ((Int.toNat x2995) < List.length c2997) <|
   getI .i64 (gp c2997 (Int.toNat x2995)) fun x3023 =>
   grd (((Int.toNat x2995) + 1) ≤ List.length c2997) <|
   grd (((Int.toNat (Int.tmod (IntKind.i64.wrap x3005) (IntKind.i64.wrap (x2995 + 1)))) + 1) ≤ List.length c2997) <|
   grd ((Int.toNat (Int.tmod (IntKind.i64.wrap x3005) (IntKind.i64.wrap (x2995 + 1)))) < List.length c2998) <|
   getI .i64 (gp c2998 (Int.toNat (Int.tmod (IntKind.i64.wrap x3005) (IntKind.i64.wrap (x2995 + 1))))) fun x3028 =>
   grd ((Int.toNat x2995) < List.length c2998) <|
   getI .i64 (gp c2998 (Int.toNat x2995)) fun x3031 =>
   grd (((Int.toNat x2995) + 1) ≤ List.length c2998) <|
   grd (((Int.toNat (Int.tmod (IntKind.i64.wrap x3005) (IntKind.i64.wrap (x2995 + 1)))) + 1) ≤ List.length c2998) <|
   grd ((Int.toNat (Int.tmod (IntKind.i64.wrap x3005) (IntKind.i64.wrap (x2995 + 1)))) < List.length c2999) <|
   getI .i64 (gp c2999 (Int.toNat (Int.tmod (IntKind.i64.wrap x3005) (IntKind.i64.wrap (x2995 + 1))))) fun x3036 =>
   grd ((Int.toNat x2995) < List.length c2999) <|
   getI .i64 (gp c2999 (Int.toNat x2995)) fun x3039 =>
   grd (((Int.toNat x2995) + 1) ≤ List.length c2999) <|
   grd (((Int.toNat (Int.tmod (IntKind.i64.wrap x3005) (IntKind.i64.wrap (x2995 + 1)))) + 1) ≤ List.length c2999) <|
   m9_L3 N p2159 p2160 p2161 p2162 p2163 n (IntKind.i64.wrap (x2995 + 1)) (List.set (List.set c2996 (Int.toNat x2995) (.int .i64 x3011)) (Int.toNat (Int.tmod (IntKind.i64.wrap x3005) (IntKind.i64.wrap (x2995 + 1)))) (.int .i64 x3015)) (List.set (List.set c2997 (Int.toNat x2995) (.int .i64 x3020)) (Int.toNat (Int.tmod (IntKind.i64.wrap x3005) (IntKind.i64.wrap (x2995 + 1)))) (.int .i64 x3023)) (List.set (List.set c2998 (Int.toNat x2995) (.int .i64 x3028)) (Int.toNat (Int.tmod (IntKind.i64.wrap x3005) (IntKind.i64.wrap (x2995 + 1)))) (.int .i64 x3031)) (List.set (List.set c2999 (Int.toNat x2995) (.int .i64 x3036)) (Int.toNat (Int.tmod (IntKind.i64.wrap x3005) (IntKind.i64.wrap (x2995 + 1)))) (.int .i64 x3039))) (
   some (c2996, c2997, c2998, c2999))
noncomputable def m9_L4 (N : Nat) (p2153 : PV) (p2154 : PV) (p2155 : PV) (p2156 : PV) (p2157 : PV) (p2159 : PV) (p2160 : PV) (p2161 : PV) (p2162 : PV) (p2163 : PV) : Nat → Int → List PV → List PV → List PV → Option ((List PV × List PV × List PV))
 | 0, _, _, _, _ => none
 | n + 1, x2705, c2706, c2707, c2708 =>
  brn (decide (x2705 < 3)) (
   grd (0 ≤ x2705 ∧ x2705 < 5) <|
   grd ((Int.toNat x2705) < 5) <|
   getI .u8 (gp [p2153, p2154, p2155, p2156, p2157] (Int.toNat x2705)) fun x2714 =>
   grd ((IntKind.i64.wrap (x2705 + 1)) ≠ 0) <|
   casI (Int.tmod (IntKind.i64.wrap x2714) (IntKind.i64.wrap (x2705 + 1))) 0 (
    casI x2705 0 (
     m9_L4 N p2153 p2154 p2155 p2156 p2157 p2159 p2160 p2161 p2162 p2163 n 1 c2706 c2707 c2708) (
    casI x2705 1 (
     m9_L4 N p2153 p2154 p2155 p2156 p2157 p2159 p2160 p2161 p2162 p2163 n 2 c2707 c2706 c2708) (
    casI x2705 2 (
     m9_L4 N p2153 p2154 p2155 p2156 p2157 p2159 p2160 p2161 p2162 p2163 n 3 c2708 c2707 c2706) (
    none)))) (
   casI (Int.tmod (IntKind.i64.wrap x2714) (IntKind.i64.wrap (x2705 + 1))) 1 (
    casI x2705 0 (
     m9_L4 N p2153 p2154 p2155 p2156 p2157 p2159 p2160 p2161 p2162 p2163 n 1 c2707 c2706 c2708) (
    casI x2705 1 (
     m9_L4 N p2153 p2154 p2155 p2156 p2157 p2159 p2160 p2161 p2162 p2163 n 2 c2706 c2707 c2708) (
    casI x2705 2 (
     m9_L4 N p2153 p2154 p2155 p2156 p2157 p2159 p2160 p2161 p2162 p2163 n 3 c2706 c2708 c2707) (
    none)))) (
   casI (Int.tmod (IntKind.i64.wrap x2714) (IntKind.i64.wrap (x2705 + 1))) 2 (
    casI x2705 0 (
     m9_L4 N p2153 p2154 p2155 p2156 p2157 p2159 p2160 p2161 p2162 p2163 n 1 c2708 c2707 c2706) (
    casI x2705 1 (
     m9_L4 N p2153 p2154 p2155 p2156 p2157 p2159 p2160 p2161 p2162 p2163 n 2 c2706 c2708 c2707) (
    casI x2705 2 (
     m9_L4 N p2153 p2154 p2155 p2156 p2157 p2159 p2160 p2161 p2162 p2163 n 3 c2706 c2707 c2708) (
    none)))) (
   none)))) (
   some (c2706, c2707, c2708))
noncomputable def m9_L5 (N : Nat) (p2159 : PV) (p2160 : PV) (p2161 : PV) (p2162 : PV) (p2163 : PV) : Nat → Int → List PV → List PV → List PV → Option ((List PV × List PV × List PV))
 | 0, _, _, _, _ => none
 | n + 1, x2758, c2759, c2760, c2761 =>
  brn (decide (x2758 < 3)) (
   grd (0 ≤ x2758 ∧ x2758 < 5) <|
   grd ((Int.toNat x2758) < 5) <|
   getI .u8 (gp [p2159, p2160, p2161, p2162, p2163] (Int.toNat x2758)) fun x2767 =>
   grd ((IntKind.i64.wrap (x2758 + 1)) ≠ 0) <|
   grd (0 ≤ (Int.tmod (IntKind.i64.wrap x2767) (IntKind.i64.wrap (x2758 + 1))) ∧ (Int.tmod (IntKind.i64.wrap x2767) (IntKind.i64.wrap (x2758 + 1))) < 3) <|
   grd ((Int.toNat (Int.tmod (IntKind.i64.wrap x2767) (IntKind.i64.wrap (x2758 + 1)))) < List.length c2759) <|
   getI .i64 (gp c2759 (Int.toNat (Int.tmod (IntKind.i64.wrap x2767) (IntKind.i64.wrap (x2758 + 1))))) fun x2773 =>
   grd (x2758 < 3) <|
   grd ((Int.toNat x2758) < List.length c2759) <|
   getI .i64 (gp c2759 (Int.toNat x2758)) fun x2777 =>
   grd (((Int.toNat x2758) + 1) ≤ List.length c2759) <|
   grd (((Int.toNat (Int.tmod (IntKind.i64.wrap x2767) (IntKind.i64.wrap (x2758 + 1)))) + 1) ≤ List.length c2759) <|
   grd ((Int.toNat (Int.tmod (IntKind.i64.wrap x2767) (IntKind.i64.wrap (x2758 + 1)))) < List.length c2760) <|
   getI .i64 (gp c2760 (Int.toNat (Int.tmod (IntKind.i64.wrap x2767) (IntKind.i64.wrap (x2758 + 1))))) fun x2782 =>
   grd ((Int.toNat x2758) < List.length c2760) <|
   getI .i64 (gp c2760 (Int.toNat x2758)) fun x2785 =>
   grd (((Int.toNat x2758) + 1) ≤ List.length c2760) <|
   grd (((Int.toNat (Int.tmod (IntKind.i64.wrap x2767) (IntKind.i64.wrap (x2758 + 1)))) + 1) ≤ List.length c2760) <|
   grd ((Int.toNat (Int.tmod (IntKind.i64.wrap x2767) (IntKind.i64.wrap (x2758 + 1)))) < List.length c2761) <|
   getI .i64 (gp c2761 (Int.toNat (Int.tmod (IntKind.i64.wrap x2767) (IntKind.i64.wrap (x2758 + 1))))) fun x2790 =>
   grd ((Int.toNat x2758) < List.length c2761) <|
   getI .i64 (gp c2761 (Int.toNat x2758)) fun x2793 =>
   grd (((Int.toNat x2758) + 1) ≤ List.length c2761) <|
   grd (((Int.toNat (Int.tmod (IntKind.i64.wrap x2767) (IntKind.i64.wrap (x2758 + 1)))) + 1) ≤ List.length c2761) <|
   m9_L5 N p2159 p2160 p2161 p2162 p2163 n (IntKind.i64.wrap (x2758 + 1)) (List.set (List.set c2759 (Int.toNat x2758) (.int .i64 x2773)) (Int.toNat (Int.tmod (IntKind.i64.wrap x2767) (IntKind.i64.wrap (x2758 + 1)))) (.int .i64 x2777)) (List.set (List.set c2760 (Int.toNat x2758) (.int .i64 x2782)) (Int.toNat (Int.tmod (IntKind.i64.wrap x2767) (IntKind.i64.wrap (x2758 + 1)))) (.int .i64 x2785)) (List.set (List.set c2761 (Int.toNat x2758) (.int .i64 x2790)) (Int.toNat (Int.tmod (IntKind.i64.wrap x2767) (IntKind.i64.wrap (x2758 + 1)))) (.int .i64 x2793))) (
   some (c2759, c2760, c2761))
noncomputable def m9_L6 (N : Nat) (p2153 : PV) (p2154 : PV) (p2155 : PV) (p2156 : PV) (p2157 : PV) (p2159 : PV) (p2160 : PV) (p2161 : PV) (p2162 : PV) (p2163 : PV) : Nat → Int → List PV → List PV → Option ((List PV × List PV))
 | 0, _, _, _ => none
 | n + 1, x2513, c2514, c2515 =>
  brn (decide (x2513 < 2)) (
   grd (0 ≤ x2513 ∧ x2513 < 5) <|
   grd ((Int.toNat x2513) < 5) <|
   getI .u8 (gp [p2153, p2154, p2155, p2156, p2157] (Int.toNat x2513)) fun x2521 =>
   grd ((IntKind.i64.wrap (x2513 + 1)) ≠ 0) <|
   casI (Int.tmod (IntKind.i64.wrap x2521) (IntKind.i64.wrap (x2513 + 1))) 0 (
    casI x2513 0 (
     m9_L6 N p2153 p2154 p2155 p2156 p2157 p2159 p2160 p2161 p2162 p2163 n 1 c2514 c2515) (
    casI x2513 1 (
     m9_L6 N p2153 p2154 p2155 p2156 p2157 p2159 p2160 p2161 p2162 p2163 n 2 c2515 c2514) (
    none))) (
   casI (Int.tmod (IntKind.i64.wrap x2521) (IntKind.i64.wrap (x2513 + 1))) 1 (
    casI x2513 0 (
     m9_L6 N p2153 p2154 p2155 p2156 p2157 p2159 p2160 p2161 p2162 p2163 n 1 c2515 c2514) (
    casI x2513 1 (
     m9_L6 N p2153 p2154 p2155 p2156 p2157 p2159 p2160 p2161 p2162 p2163 n 2 c2514 c2515) (
    none))) (
   none))) (
   some (c2514, c2515))
noncomputable def m9_L7 (N : Nat) (p2159 : PV) (p2160 : PV) (p2161 : PV) (p2162 : PV) (p2163 : PV) : Nat → Int → List PV → List PV → Option ((List PV × List PV))
 | 0, _, _, _ => none
 | n + 1, x2555, c2556, c2557 =>
  brn (decide (x2555 < 2)) (
   grd (0 ≤ x2555 ∧ x2555 < 5) <|
   grd ((Int.toNat x2555) < 5) <|
   getI .u8 (gp [p2159, p2160, p2161, p2162, p2163] (Int.toNat x2555)) fun x2563 =>
   grd ((IntKind.i64.wrap (x2555 + 1)) ≠ 0) <|
   grd (0 ≤ (Int.tmod (IntKind.i64.wrap x2563) (IntKind.i64.wrap (x2555 + 1))) ∧ (Int.tmod (IntKind.i64.wrap x2563) (IntKind.i64.wrap (x2555 + 1))) < 2) <|
   grd ((Int.toNat (Int.tmod (IntKind.i64.wrap x2563) (IntKind.i64.wrap (x2555 + 1)))) < List.length c2556) <|
   getI .i64 (gp c2556 (Int.toNat (Int.tmod (IntKind.i64.wrap x2563) (IntKind.i64.wrap (x2555 + 1))))) fun x2569 =>
   grd (x2555 < 2) <|
   grd ((Int.toNat x2555) < List.length c2556) <|
   getI .i64 (gp c2556 (Int.toNat x2555)) fun x2573 =>
   grd (((Int.toNat x2555) + 1) ≤ List.length c2556) <|
   grd (((Int.toNat (Int.tmod (IntKind.i64.wrap x2563) (IntKind.i64.wrap (x2555 + 1)))) + 1) ≤ List.length c2556) <|
   grd ((Int.toNat (Int.tmod (IntKind.i64.wrap x2563) (IntKind.i64.wrap (x2555 + 1)))) < List.length c2557) <|
   getI .i64 (gp c2557 (Int.toNat (Int.tmod (IntKind.i64.wrap x2563) (IntKind.i64.wrap (x2555 + 1))))) fun x2578 =>
   grd ((Int.toNat x2555) < List.length c2557) <|
   getI .i64 (gp c2557 (Int.toNat x2555)) fun x2581 =>
   grd (((Int.toNat x2555) + 1) ≤ List.length c2557) <|
   grd (((Int.toNat (Int.tmod (IntKind.i64.wrap x2563) (IntKind.i64.wrap (x2555 + 1)))) + 1) ≤ List.length c2557) <|
   m9_L7 N p2159 p2160 p2161 p2162 p2163 n (IntKind.i64.wrap (x2555 + 1)) (List.set (List.set c2556 (Int.toNat x2555) (.int .i64 x2569)) (Int.toNat (Int.tmod (IntKind.i64.wrap x2563) (IntKind.i64.wrap (x2555 + 1)))) (.int .i64 x2573)) (List.set (List.set c2557 (Int.toNat x2555) (.int .i64 x2578)) (Int.toNat (Int.tmod (IntKind.i64.wrap x2563) (IntKind.i64.wrap (x2555 + 1)))) (.int .i64 x2581))) (
   some (c2556, c2557))
noncomputable def m9_L8 (N : Nat) (p2153 : PV) (p2154 : PV) (p2155 : PV) (p2156 : PV) (p2157 : PV) (p2159 : PV) (p2160 : PV) (p2161 : PV) (p2162 : PV) (p2163 : PV) : Nat → Int → Option (Unit)
 | 0, _ => none
 | n + 1, x2282 =>
  brn (decide (x2282 < 1)) (
   grd (0 ≤ x2282 ∧ x2282 < 5) <|
   grd ((Int.toNat x2282) < 5) <|
   getI .u8 (gp [p2153, p2154, p2155, p2156, p2157] (Int.toNat x2282)) fun x2288 =>
   grd ((IntKind.i64.wrap (x2282 + 1)) ≠ 0) <|
   casI (Int.tmod (IntKind.i64.wrap x2288) (IntKind.i64.wrap (x2282 + 1))) 0 (
    casI x2282 0 (
     m9_L8 N p2153 p2154 p2155 p2156 p2157 p2159 p2160 p2161 p2162 p2163 n 1) (
    none)) (
   none)) (
   some ())
noncomputable def m9_L9 (N : Nat) (p2159 : PV) (p2160 : PV) (p2161 : PV) (p2162 : PV) (p2163 : PV) : Nat → Int → List PV → Option (List PV)
 | 0, _, _ => none
 | n + 1, x2311, c2312 =>
  brn (decide (x2311 < 1)) (
   grd (0 ≤ x2311 ∧ x2311 < 5) <|
   grd ((Int.toNat x2311) < 5) <|
   getI .u8 (gp [p2159, p2160, p2161, p2162, p2163] (Int.toNat x2311)) fun x2318 =>
   grd ((IntKind.i64.wrap (x2311 + 1)) ≠ 0) <|
   grd (0 ≤ (Int.tmod (IntKind.i64.wrap x2318) (IntKind.i64.wrap (x2311 + 1))) ∧ (Int.tmod (IntKind.i64.wrap x2318) (IntKind.i64.wrap (x2311 + 1))) < 1) <|
   grd ((Int.toNat (Int.tmod (IntKind.i64.wrap x2318) (IntKind.i64.wrap (x2311 + 1)))) < List.length c2312) <|
   getI .i64 (gp c2312 (Int.toNat (Int.tmod (IntKind.i64.wrap x2318) (IntKind.i64.wrap (x2311 + 1))))) fun x2324 =>
   grd (x2311 < 1) <|
   grd ((Int.toNat x2311) < List.length c2312) <|
   getI .i64 (gp c2312 (Int.toNat x2311)) fun x2328 =>
   grd (((Int.toNat x2311) + 1) ≤ List.length c2312) <|
   grd (((Int.toNat (Int.tmod (IntKind.i64.wrap x2318) (IntKind.i64.wrap (x2311 + 1)))) + 1) ≤ List.length c2312) <|
   m9_L9 N p2159 p2160 p2161 p2162 p2163 n (IntKind.i64.wrap (x2311 + 1)) (List.set (List.set c2312 (Int.toNat x2311) (.int .i64 x2324)) (Int.toNat (Int.tmod (IntKind.i64.wrap x2318) (IntKind.i64.wrap (x2311 + 1)))) (.int .i64 x2328))) (
   some c2312)
noncomputable def m9 (N : Nat) (x2149 : Int) (p2150 : PV) (p2151 : PV) : Option (PV) :=
 getA5 p2150 fun p2153 p2154 p2155 p2156 p2157 =>
 getA5 p2151 fun p2159 p2160 p2161 p2162 p2163 =>
 grd (5 ≠ 0) <|
 casI (IntKind.i64.wrap (1 + (Int.tmod (IntKind.i64.wrap x2149) 5))) 1 (
  bnd' (m42 N 1) fun p2234 =>
  getL p2234 fun n2237 c2238 =>
  bnd' (m21_2 N (.lst false n2237 c2238) [(.int .i64 0)]) fun p2277 =>
  getB p2277 fun b2280 =>
  brn b2280 (
   bnd' (m9_L8 N p2153 p2154 p2155 p2156 p2157 p2159 p2160 p2161 p2162 p2163 N 0) fun _ =>
   bnd' (m9_L9 N p2159 p2160 p2161 p2162 p2163 N 0 [(.int .i64 0)]) fun c2331 =>
   grd (List.length c2331 = 1) <|
   bnd' (m35 N 1 (.lst false 1 [(.lst false 1 c2331)])) fun p2333 =>
   getT2 p2333 fun p2336 p2337 =>
   getI .i64 p2336 fun x2339 =>
   getI .i64 p2337 fun x2341 =>
   bnd' (m31 N 6) fun p2413 =>
   getT2 p2413 fun p2416 p2417 =>
   getL p2416 fun n2419 c2420 =>
   getI .i64 p2417 fun x2422 =>
   brn (x2341 == 0) (
    bnd' (m43 N (.lst false 6 [(.int .i64 0), (.int .i64 1), (.int .i64 0), (.int .i64 3), (.int .i64 0), (.int .i64 15)])) fun p2428 =>
    getL p2428 fun n2431 c2432 =>
    grd (1 < ((n2431 : Nat) : Int)) <|
    grd (0 < List.length (List.drop 1 c2432)) <|
    getI .i64 (gp c2432 1) fun x2436 =>
    brn (x2339 == x2436) (
     brn (x2422 == 1) (
      bnd' (m16 N ) fun p2439 =>
      getB p2439 fun b2442 =>
      some (.bool b2442)) (
      some (.bool false))) (
     some (.bool false))) (
    some (.bool false))) (
   some (.bool false))) (
 casI (IntKind.i64.wrap (1 + (Int.tmod (IntKind.i64.wrap x2149) 5))) 2 (
  bnd' (m42 N 2) fun p2443 =>
  getL p2443 fun n2446 c2447 =>
  bnd' (m21_3 N (.lst false n2446 c2447) [(.int .i64 0), (.int .i64 1)] [(.int .i64 1), (.int .i64 0)]) fun p2497 =>
  getB p2497 fun b2500 =>
  brn b2500 (
   bnd' (m9_L6 N p2153 p2154 p2155 p2156 p2157 p2159 p2160 p2161 p2162 p2163 N 0 [(.int .i64 0), (.int .i64 1)] [(.int .i64 1), (.int .i64 0)]) fun o =>
   match o with
   | (c2526, c2527) =>
    bnd' (m9_L7 N p2159 p2160 p2161 p2162 p2163 N 0 c2526 c2527) fun o =>
    match o with
    | (c2584, c2585) =>
     grd (List.length c2584 = 2) <|
     grd (List.length c2585 = 2) <|
     bnd' (m35 N 2 (.lst false 2 [(.lst false 2 c2584), (.lst false 2 c2585)])) fun p2588 =>
     getT2 p2588 fun p2591 p2592 =>
     getI .i64 p2591 fun x2594 =>
     getI .i64 p2592 fun x2596 =>
     bnd' (m31 N 7) fun p2597 =>
     getT2 p2597 fun p2600 p2601 =>
     getL p2600 fun n2603 c2604 =>
     getI .i64 p2601 fun x2606 =>
     brn (x2596 == 0) (
      bnd' (m43 N (.lst false 6 [(.int .i64 0), (.int .i64 1), (.int .i64 0), (.int .i64 3), (.int .i64 0), (.int .i64 15)])) fun p2608 =>
      getL p2608 fun n2611 c2612 =>
      grd (2 < ((n2611 : Nat) : Int)) <|
      grd (0 < List.length (List.drop 2 c2612)) <|
      getI .i64 (gp c2612 2) fun x2616 =>
      brn (x2594 == x2616) (
       brn (x2606 == 1) (
        bnd' (m16 N ) fun p2619 =>
        getB p2619 fun b2622 =>
        some (.bool b2622)) (
        some (.bool false))) (
       some (.bool false))) (
      some (.bool false))) (
   some (.bool false))) (
 casI (IntKind.i64.wrap (1 + (Int.tmod (IntKind.i64.wrap x2149) 5))) 3 (
  bnd' (m42 N 3) fun p2623 =>
  getL p2623 fun n2626 c2627 =>
  bnd' (m21_4 N (.lst false n2626 c2627) [(.int .i64 0), (.int .i64 1), (.int .i64 2)] [(.int .i64 1), (.int .i64 2), (.int .i64 0)] [(.int .i64 2), (.int .i64 0), (.int .i64 1)]) fun p2688 =>
  getB p2688 fun b2691 =>
  brn b2691 (
   bnd' (m9_L4 N p2153 p2154 p2155 p2156 p2157 p2159 p2160 p2161 p2162 p2163 N 0 [(.int .i64 0), (.int .i64 1), (.int .i64 2)] [(.int .i64 1), (.int .i64 2), (.int .i64 0)] [(.int .i64 2), (.int .i64 0), (.int .i64 1)]) fun o =>
   match o with
   | (c2720, c2721, c2722) =>
    bnd' (m9_L5 N p2159 p2160 p2161 p2162 p2163 N 0 c2720 c2721 c2722) fun o =>
    match o with
    | (c2796, c2797, c2798) =>
     grd (List.length c2796 = 3) <|
     grd (List.length c2797 = 3) <|
     grd (List.length c2798 = 3) <|
     bnd' (m35 N 3 (.lst false 3 [(.lst false 3 c2796), (.lst false 3 c2797), (.lst false 3 c2798)])) fun p2802 =>
     getT2 p2802 fun p2805 p2806 =>
     getI .i64 p2805 fun x2808 =>
     getI .i64 p2806 fun x2810 =>
     bnd' (m31 N 8) fun p2811 =>
     getT2 p2811 fun p2814 p2815 =>
     getL p2814 fun n2817 c2818 =>
     getI .i64 p2815 fun x2820 =>
     brn (x2810 == 0) (
      bnd' (m43 N (.lst false 6 [(.int .i64 0), (.int .i64 1), (.int .i64 0), (.int .i64 3), (.int .i64 0), (.int .i64 15)])) fun p2822 =>
      getL p2822 fun n2825 c2826 =>
      grd (3 < ((n2825 : Nat) : Int)) <|
      grd (0 < List.length (List.drop 3 c2826)) <|
      getI .i64 (gp c2826 3) fun x2830 =>
      brn (x2808 == x2830) (
       brn (x2820 == 1) (
        bnd' (m16 N ) fun p2833 =>
        getB p2833 fun b2836 =>
        some (.bool b2836)) (
        some (.bool false))) (
       some (.bool false))) (
      some (.bool false))) (
   some (.bool false))) (
 casI (IntKind.i64.wrap (1 + (Int.tmod (IntKind.i64.wrap x2149) 5))) 4 (
  bnd' (m42 N 4) fun p2837 =>
  getL p2837 fun n2840 c2841 =>
  bnd' (m21_5 N (.lst false n2840 c2841) [(.int .i64 0), (.int .i64 1), (.int .i64 2), (.int .i64 3)] [(.int .i64 1), (.int .i64 2), (.int .i64 3), (.int .i64 0)] [(.int .i64 2), (.int .i64 3), (.int .i64 0), (.int .i64 1)] [(.int .i64 3), (.int .i64 0), (.int .i64 1), (.int .i64 2)]) fun p2913 =>
  getB p2913 fun b2916 =>
  brn b2916 (
   bnd' (m9_L2 N p2153 p2154 p2155 p2156 p2157 p2159 p2160 p2161 p2162 p2163 N 0 [(.int .i64 0), (.int .i64 1), (.int .i64 2), (.int .i64 3)] [(.int .i64 1), (.int .i64 2), (.int .i64 3), (.int .i64 0)] [(.int .i64 2), (.int .i64 3), (.int .i64 0), (.int .i64 1)] [(.int .i64 3), (.int .i64 0), (.int .i64 1), (.int .i64 2)]) fun o =>
   match o with
   | (c2948, c2949, c2950, c2951) =>
    bnd' (m9_L3 N p2159 p2160 p2161 p2162 p2163 N 0 c2948 c2949 c2950 c2951) fun o =>
    match o with
    | (c3042, c3043, c3044, c3045) =>
     grd (List.length c3042 = 4) <|
     grd (List.length c3043 = 4) <|
     grd (List.length c3044 = 4) <|
     grd (List.length c3045 = 4) <|
     bnd' (m35 N 4 (.lst false 4 [(.lst false 4 c3042), (.lst false 4 c3043), (.lst false 4 c3044), (.lst false 4 c3045)])) fun p3050 =>
     getT2 p3050 fun p3053 p3054 =>
     getI .i64 p3053 fun x3056 =>
     getI .i64 p3054 fun x3058 =>
     bnd' (m31 N 9) fun p3059 =>
     getT2 p3059 fun p3062 p3063 =>
     getL p3062 fun n3065 c3066 =>
     getI .i64 p3063 fun x3068 =>
     brn (x3058 == 0) (
      bnd' (m43 N (.lst false 6 [(.int .i64 0), (.int .i64 1), (.int .i64 0), (.int .i64 3), (.int .i64 0), (.int .i64 15)])) fun p3070 =>
      getL p3070 fun n3073 c3074 =>
      grd (4 < ((n3073 : Nat) : Int)) <|
      grd (0 < List.length (List.drop 4 c3074)) <|
      getI .i64 (gp c3074 4) fun x3078 =>
      brn (x3056 == x3078) (
       brn (x3068 == 1) (
        bnd' (m16 N ) fun p3081 =>
        getB p3081 fun b3084 =>
        some (.bool b3084)) (
        some (.bool false))) (
       some (.bool false))) (
      some (.bool false))) (
   some (.bool false))) (
 casI (IntKind.i64.wrap (1 + (Int.tmod (IntKind.i64.wrap x2149) 5))) 5 (
  bnd' (m42 N 5) fun p3085 =>
  getL p3085 fun n3088 c3089 =>
  bnd' (m21_6 N (.lst false n3088 c3089) [(.int .i64 0), (.int .i64 1), (.int .i64 2), (.int .i64 3), (.int .i64 4)] [(.int .i64 1), (.int .i64 2), (.int .i64 3), (.int .i64 4), (.int .i64 0)] [(.int .i64 2), (.int .i64 3), (.int .i64 4), (.int .i64 0), (.int .i64 1)] [(.int .i64 3), (.int .i64 4), (.int .i64 0), (.int .i64 1), (.int .i64 2)] [(.int .i64 4), (.int .i64 0), (.int .i64 1), (.int .i64 2), (.int .i64 3)]) fun p3172 =>
  getB p3172 fun b3175 =>
  brn b3175 (
   bnd' (m9_L0 N p2153 p2154 p2155 p2156 p2157 p2159 p2160 p2161 p2162 p2163 N 0 [(.int .i64 0), (.int .i64 1), (.int .i64 2), (.int .i64 3), (.int .i64 4)] [(.int .i64 1), (.int .i64 2), (.int .i64 3), (.int .i64 4), (.int .i64 0)] [(.int .i64 2), (.int .i64 3), (.int .i64 4), (.int .i64 0), (.int .i64 1)] [(.int .i64 3), (.int .i64 4), (.int .i64 0), (.int .i64 1), (.int .i64 2)] [(.int .i64 4), (.int .i64 0), (.int .i64 1), (.int .i64 2), (.int .i64 3)]) fun o =>
   match o with
   | (c3210, c3211, c3212, c3213, c3214) =>
    bnd' (m9_L1 N p2159 p2160 p2161 p2162 p2163 N 0 c3210 c3211 c3212 c3213 c3214) fun o =>
    match o with
    | (c3320, c3321, c3322, c3323, c3324) =>
     grd (List.length c3320 = 5) <|
     grd (List.length c3321 = 5) <|
     grd (List.length c3322 = 5) <|
     grd (List.length c3323 = 5) <|
     grd (List.length c3324 = 5) <|
     bnd' (m35 N 5 (.lst false 5 [(.lst false 5 c3320), (.lst false 5 c3321), (.lst false 5 c3322), (.lst false 5 c3323), (.lst false 5 c3324)])) fun p3330 =>
     getT2 p3330 fun p3333 p3334 =>
     getI .i64 p3333 fun x3336 =>
     getI .i64 p3334 fun x3338 =>
     bnd' (m31 N 10) fun p3339 =>
     getT2 p3339 fun p3342 p3343 =>
     getL p3342 fun n3345 c3346 =>
     getI .i64 p3343 fun x3348 =>
     brn (x3338 == 0) (
      bnd' (m43 N (.lst false 6 [(.int .i64 0), (.int .i64 1), (.int .i64 0), (.int .i64 3), (.int .i64 0), (.int .i64 15)])) fun p3350 =>
      getL p3350 fun n3353 c3354 =>
      grd (5 < ((n3353 : Nat) : Int)) <|
      grd (0 < List.length (List.drop 5 c3354)) <|
      getI .i64 (gp c3354 5) fun x3358 =>
      brn (x3336 == x3358) (
       brn (x3348 == 1) (
        bnd' (m16 N ) fun p3361 =>
        getB p3361 fun b3364 =>
        some (.bool b3364)) (
        some (.bool false))) (
       some (.bool false))) (
      some (.bool false))) (
   some (.bool false))) (
 none)))))
theorem c9 (N : Nat) (x2149 : Int) (p2150 : PV) (p2151 : PV) (r : PV)  (h : m9 N x2149 p2150 p2151 = some r) : FnP Tryd.prog 9 [(.int .u8 x2149), p2150, p2151] r := by
 unfold m9 at h
 refine Fn_of (sz := 126) tab_ok [0, 1, 2, 4, 5, 6, 7, 8, 9, 10, 11, 12, 13, 15, 16, 18, 36, 37, 38, 39, 63, 64, 65, 74, 75, 76, 77] [.tmp 6] Tryd.func9 rfl rfl rfl (by simp) ?_
 simp only [initSt, initEnv, List.map_cons, List.map_nil, List.getD_cons_zero, List.getD_cons_succ, List.getD_nil]
 replace h := getA5_some h; obtain ⟨p2153, p2154, p2155, p2156, p2157, h2152, h⟩ := h
 replace h := getA5_some h; obtain ⟨p2159, p2160, p2161, p2162, p2163, h2158, h⟩ := h
 replace h := grd_some h; obtain ⟨g2164, h⟩ := h
 replace h := casI_some h; rcases h with ⟨h2165, h⟩ | ⟨_, h⟩
 ·refine W_sound tab_ok mixed 17 _ _ _ ?_
  simp -implicitDefEqProofs only [go_sem, Nat.reduceBEq, Nat.reduceAdd, Nat.reduceLT, Nat.reduceLeDiff, Int.reduceLE, Int.reduceToNat, ↓reduceIte, h2152, h2158, h2165]
  repeat with_reducible refine And.intro (by first | kernel_rfl | decide) ?_
  refine Wp_callD [] c31k_1 rfl rfl rfl (by first | rfl | (simp only [go_sem, Nat.reduceBEq, Nat.reduceAdd, Nat.reduceSub, Nat.reduceMul, Nat.reduceLT, Nat.reduceLeDiff, Int.reduceLE, Int.reduceLT, Int.reduceToNat, Int.reduceBEq, Int.reduceBNe, ↓reduceIte, Int.reduceAdd, Int.reduceSub, Int.reduceGT, Int.reduceGE, h2152, h2158, g2164, h2165] <;> rfl)) rfl (by kernel_rfl) ?_
  replace h := bnd'_some h; obtain ⟨p2234, h2235, h⟩ := h
  refine W_sound tab_ok mixed 14 _ _ _ ?_
  simp -implicitDefEqProofs only [go_sem, Nat.reduceBEq, Nat.reduceAdd, Nat.reduceSub, Nat.reduceMul, Nat.reduceLT, Nat.reduceLeDiff, Int.reduceBNe, ↓reduceIte]
  repeat with_reducible refine And.intro (by first | kernel_rfl | decide) ?_
  refine Wp_callP (c42 N _ _ h2235) (by kernel_rfl) rfl rfl rfl rfl (by decide) ?_
  replace h := getL_some h; obtain ⟨n2237, c2238, h2236, h⟩ := h
  replace h := bnd'_some h; obtain ⟨p2277, h2278, h⟩ := h
  (try dsimp only at h)
  (try simp -implicitDefEqProofs only [go_sem, h2236])
  refine Wp_callD [31, 1031] (c21_2 N _ _ _ h2278) rfl rfl rfl (by first | rfl | (simp only [go_sem, Nat.reduceBEq, Nat.reduceAdd, Nat.reduceSub, Nat.reduceMul, Nat.reduceLT, Nat.reduceLeDiff, Int.reduceLE, Int.reduceLT, Int.reduceToNat, Int.reduceBEq, Int.reduceBNe, ↓reduceIte, Int.reduceAdd, Int.reduceSub, Int.reduceGT, Int.reduceGE, h2152, h2158, g2164, h2165, h2236] <;> rfl)) rfl (by kernel_rfl) ?_
  replace h := getB_some h; obtain ⟨b2280, h2279, h⟩ := h
  replace h := brn_some h; rcases h with ⟨h2281, h⟩ | ⟨h2281, h⟩
  ·refine W_sound tab_ok mixed 11 _ _ _ ?_
   simp -implicitDefEqProofs only [go_sem, Nat.reduceBEq, Nat.reduceAdd, Nat.reduceSub, Nat.reduceMul, Nat.reduceLT, h2279, h2281]
   repeat with_reducible refine And.intro (by first | kernel_rfl | decide) ?_
   replace h := bnd'_some h; obtain ⟨o3365, h3366, h3367⟩ := h
   refine Wp_cut (fun s => () = o3365 ∧ s = ⟨[], [(0, .dead), (1, .dead), (2, .dead), (4, .dead), (5, .ptr 0 0), (6, .dead), (7, .v (.int .i64 1)), (8, .sl false 1 0 1 1), (9, .dead), (10, .dead), (11, .dead), (12, .dead), (13, .dead), (15, .dead), (16, .dead), (18, .dead), (36, .dead), (37, .dead), (38, .dead), (39, .dead), (63, .dead), (64, .dead), (65, .dead), (74, .dead), (75, .dead), (76, .dead), (77, .dead)], [(0, .p [p2159, p2160, p2161, p2162, p2163]), (1, .r [.sl false 2 0 1 1]), (2, .p [(.int .i64 0)])], 3, []⟩) ?_ ?_
   ·refine Wp_block ?_
    refine Wp_loopG (fun n s => ∃ x2282, m9_L8 N p2153 p2154 p2155 p2156 p2157 p2159 p2160 p2161 p2162 p2163 n x2282 = some o3365 ∧ s = ⟨[], [(0, .dead), (1, .dead), (2, .dead), (4, .ptr 0 0), (5, .ptr 1 0), (6, .dead), (7, .v (.int .i64 1)), (8, .sl false 2 0 1 1), (9, .dead), (10, .dead), (11, .dead), (12, .dead), (13, .dead), (15, .dead), (16, .dead), (18, .dead), (36, .dead), (37, .v (.int .i64 1)), (38, .v (.int .i64 x2282)), (39, .dead), (63, .dead), (64, .dead), (65, .dead), (74, .dead), (75, .dead), (76, .dead), (77, .dead)], [(0, .p [p2153, p2154, p2155, p2156, p2157]), (1, .p [p2159, p2160, p2161, p2162, p2163]), (2, .r [.sl false 3 0 1 1]), (3, .p [(.int .i64 0)])], 4, []⟩) N _ ?_ ⟨_, h3366, rfl⟩ ?_
    ·exact Wk_keep [4, 5, 7, 8, 37, 38] (by kernel_rfl)
    clear h3366
    rintro n _ ⟨x2282, h3366, rfl⟩
    cases n with
    | zero => cases h3366
    | succ n =>
     rw [m9_L8] at h3366
     replace h3366 := brn_some h3366; rcases h3366 with ⟨h2283, h3366⟩ | ⟨h2283, h3366⟩
     ·replace h3366 := grd_some h3366; obtain ⟨⟨g2284, g2285⟩, h3366⟩ := h3366
      replace h3366 := grd_some h3366; obtain ⟨g2286, h3366⟩ := h3366
      replace h3366 := getI_some h3366; obtain ⟨x2288, h2287, h3366⟩ := h3366
      replace h3366 := grd_some h3366; obtain ⟨g2289, h3366⟩ := h3366
      replace h3366 := casI_some h3366; rcases h3366 with ⟨h2290, h3366⟩ | ⟨_, h3366⟩
      ·replace h3366 := casI_some h3366; rcases h3366 with ⟨rfl, h3366⟩ | ⟨_, h3366⟩
       ·simp only [go_sem] at h2287
        simp only [go_sem, Int.reduceAdd, wl1] at h2290
        refine W_sound tab_ok mixed 48 _ _ _ ?_
        simp -implicitDefEqProofs only [go_sem, Nat.reduceBEq, Nat.reduceAdd, Nat.reduceLT, Nat.reduceLeDiff, Int.reduceLE, Int.reduceLT, Int.reduceToNat, ↓reduceIte, Int.reduceAdd, g2284, g2285, h2287, h2290]
        repeat with_reducible refine And.intro (by first | kernel_rfl | decide) ?_
        (try rw [h2165] at h3366)
        (try rw [h2287] at h3366)
        (try rw [h2290] at h3366)
        refine cutQ _ ?_ ⟨n, Nat.lt_succ_self n, _, h3366, rfl⟩
        exact Wk_keep [4, 5, 7, 8, 37, 38] (by kernel_rfl)
       ·skip
        cases h3366
      ·skip
       cases h3366
     ·refine W_sound tab_ok mixed 7 _ _ _ ?_
      simp -implicitDefEqProofs only [go_sem, Nat.reduceBEq, Nat.reduceLT, Int.reduceLE, Int.reduceToNat, ↓reduceIte, h2283]
      repeat with_reducible refine And.intro (by first | kernel_rfl | decide) ?_
      obtain rfl := Option.some.inj h3366
      exact cutQ _ (Wk_keep (st' := ⟨[], [(0, .dead), (1, .dead), (2, .dead), (4, .dead), (5, .ptr 0 0), (6, .dead), (7, .v (.int .i64 1)), (8, .sl false 1 0 1 1), (9, .dead), (10, .dead), (11, .dead), (12, .dead), (13, .dead), (15, .dead), (16, .dead), (18, .dead), (36, .dead), (37, .dead), (38, .dead), (39, .dead), (63, .dead), (64, .dead), (65, .dead), (74, .dead), (75, .dead), (76, .dead), (77, .dead)], [(0, .p [p2159, p2160, p2161, p2162, p2163]), (1, .r [.sl false 2 0 1 1]), (2, .p [(.int .i64 0)])], 3, []⟩) [5, 7, 8] (by kernel_rfl)) (by first | exact ⟨rfl, rfl⟩ | exact rfl)
   ·rintro _ ⟨rfl, rfl⟩
    (try dsimp only at h3367)
    refine W_sound tab_ok mixed 6 _ _ _ ?_
    simp -implicitDefEqProofs only [go_sem, Nat.reduceBEq, Nat.reduceLT]
    repeat with_reducible refine And.intro (by first | kernel_rfl | decide) ?_
    replace h3367 := bnd'_some h3367; obtain ⟨o3368, h3369, h3370⟩ := h3367
    refine Wp_cut (fun s => ∃ c2331, c2331 = o3368 ∧ s = ⟨[], [(0, .dead), (1, .dead), (2, .dead), (4, .dead), (5, .dead), (6, .dead), (7, .v (.int .i64 1)), (8, .sl false 0 0 1 1), (9, .dead), (10, .dead), (11, .dead), (12, .dead), (13, .dead), (15, .dead), (16, .dead), (18, .dead), (36, .dead), (37, .dead), (38, .dead), (39, .dead), (63, .dead), (64, .dead), (65, .dead), (74, .dead), (75, .dead), (76, .dead), (77, .dead)], [(0, .r [.sl false 1 0 1 1]), (1, .p c2331)], 2, []⟩) ?_ ?_
    ·refine Wp_block ?_
     refine Wp_loopG (fun n s => ∃ x2311, ∃ c2312, m9_L9 N p2159 p2160 p2161 p2162 p2163 n x2311 c2312 = some o3368 ∧ s = ⟨[], [(0, .dead), (1, .dead), (2, .dead), (4, .dead), (5, .ptr 0 0), (6, .dead), (7, .v (.int .i64 1)), (8, .sl false 1 0 1 1), (9, .dead), (10, .dead), (11, .dead), (12, .dead), (13, .dead), (15, .dead), (16, .dead), (18, .dead), (36, .dead), (37, .dead), (38, .dead), (39, .dead), (63, .v (.int .i64 1)), (64, .v (.int .i64 x2311)), (65, .dead), (74, .dead), (75, .dead), (76, .dead), (77, .dead)], [(0, .p [p2159, p2160, p2161, p2162, p2163]), (1, .r [.sl false 2 0 1 1]), (2, .p c2312)], 3, []⟩) N _ ?_ ⟨_, _, h3369, rfl⟩ ?_
     ·exact Wk_keep [5, 7, 8, 63, 64] (by kernel_rfl)
     clear h3369
     rintro n _ ⟨x2311, c2312, h3369, rfl⟩
     cases n with
     | zero => cases h3369
     | succ n =>
      rw [m9_L9] at h3369
      replace h3369 := brn_some h3369; rcases h3369 with ⟨h2313, h3369⟩ | ⟨h2313, h3369⟩
      ·replace h3369 := grd_some h3369; obtain ⟨⟨g2314, g2315⟩, h3369⟩ := h3369
       replace h3369 := grd_some h3369; obtain ⟨g2316, h3369⟩ := h3369
       replace h3369 := getI_some h3369; obtain ⟨x2318, h2317, h3369⟩ := h3369
       replace h3369 := grd_some h3369; obtain ⟨g2319, h3369⟩ := h3369
       refine W_sound tab_ok mixed 31 _ _ _ ?_
       simp -implicitDefEqProofs only [go_sem, Nat.reduceBEq, Nat.reduceAdd, Nat.reduceLT, Nat.reduceLeDiff, Int.reduceLE, Int.reduceToNat, ↓reduceIte, h2313, g2314, g2315, g2316, h2317, g2319]
       repeat with_reducible refine And.intro (by first | kernel_rfl | decide) ?_
       refine Wp_block ?_
       refine Wp_loopL (WpL_step ?_)
       replace h3369 := grd_some h3369; obtain ⟨⟨g2320, g2321⟩, h3369⟩ := h3369
       replace h3369 := grd_some h3369; obtain ⟨g2322, h3369⟩ := h3369
       replace h3369 := getI_some h3369; obtain ⟨x2324, h2323, h3369⟩ := h3369
       replace h3369 := grd_some h3369; obtain ⟨g2325, h3369⟩ := h3369
       replace h3369 := grd_some h3369; obtain ⟨g2326, h3369⟩ := h3369
       replace h3369 := getI_some h3369; obtain ⟨x2328, h2327, h3369⟩ := h3369
       replace h3369 := grd_some h3369; obtain ⟨g2329, h3369⟩ := h3369
       replace h3369 := grd_some h3369; obtain ⟨g2330, h3369⟩ := h3369
       refine W_sound tab_ok mixed 38 _ _ _ ?_
       simp -implicitDefEqProofs only [go_sem, Nat.reduceBEq, Nat.reduceLT, Int.reduceLE, Int.reduceLT, Int.reduceToNat, ↓reduceIte, Int.reduceAdd, g2314, g2320, g2321, g2322, h2323, g2325, g2326, h2327, g2329, g2330]
       repeat with_reducible refine And.intro (by first | kernel_rfl | decide) ?_
       refine again (Wk_keep (st' := ⟨[], [(0, .dead), (1, .dead), (2, .dead), (4, .dead), (5, .ptr 0 0), (6, .dead), (7, .v (.int .i64 1)), (8, .sl false 1 0 1 1), (9, .dead), (10, .dead), (11, .dead), (12, .v (.int .i64 x2311)), (13, .v (.int .i64 (Int.tmod (IntKind.i64.wrap x2318) (IntKind.i64.wrap (x2311 + 1))))), (15, .dead), (16, .dead), (18, .dead), (36, .dead), (37, .dead), (38, .dead), (39, .dead), (63, .v (.int .i64 1)), (64, .v (.int .i64 x2311)), (65, .dead), (74, .sl false 1 0 1 1), (75, .v (.int .i64 1)), (76, .v (.int .i64 1)), (77, .dead)], [(0, .p [p2159, p2160, p2161, p2162, p2163]), (1, .r [.sl false 2 0 1 1]), (2, .p (List.set (List.set c2312 (Int.toNat x2311) (.int .i64 x2324)) (Int.toNat (Int.tmod (IntKind.i64.wrap x2318) (IntKind.i64.wrap (x2311 + 1)))) (.int .i64 x2328)))], 3, []⟩) [5, 7, 8, 12, 13, 63, 64, 74, 75, 76] (by kernel_rfl)) ?_
       refine W_sound tab_ok mixed 12 _ _ _ ?_
       simp -implicitDefEqProofs only [go_sem, Nat.reduceBEq, Nat.reduceLT, Int.reduceLE, Int.reduceLT, Int.reduceToNat, ↓reduceIte]
       repeat with_reducible refine And.intro (by first | kernel_rfl | decide) ?_
       (try rw [h2165] at h3369)
       (try rw [h2317] at h3369)
       (try rw [h2323] at h3369)
       (try rw [h2327] at h3369)
       refine cutQ _ ?_ ⟨n, Nat.lt_succ_self n, _, _, h3369, rfl⟩
       exact Wk_keep [5, 7, 8, 63, 64] (by kernel_rfl)
      ·refine W_sound tab_ok mixed 7 _ _ _ ?_
       simp -implicitDefEqProofs only [go_sem, Nat.reduceBEq, Nat.reduceLT, Int.reduceLE, Int.reduceToNat, ↓reduceIte, h2313]
       repeat with_reducible refine And.intro (by first | kernel_rfl | decide) ?_
       obtain rfl := Option.some.inj h3369
       refine cutQ _ ?_ ⟨_, rfl, rfl⟩
       exact Wk_keep [7, 8] (by kernel_rfl)
    ·rintro _ ⟨c2331, rfl, rfl⟩
     refine W_sound tab_ok mixed 1 _ _ _ ?_
     simp -implicitDefEqProofs only [go_sem]
     repeat with_reducible refine And.intro (by first | kernel_rfl | decide) ?_
     replace h3370 := grd_some h3370; obtain ⟨g2332, h3370⟩ := h3370
     refine Wp_wkK (Wk_freeze 1 c2331 (by rfl) (by decide) (by decide)) rfl ?_
     simp -implicitDefEqProofs only [go_sem, Nat.reduceBEq, g2332]
     refine Wp_wkK (Wk_freeze 0 [(.lst false 1 c2331)] (by rfl) (by decide) (by decide)) rfl ?_
     simp -implicitDefEqProofs only [go_sem, Nat.reduceBEq]
     replace h3370 := bnd'_some h3370; obtain ⟨p2333, h2334, h3370⟩ := h3370
     refine W_sound tab_ok mixed 3 _ _ _ ?_
     simp -implicitDefEqProofs only [go_sem, Nat.reduceBEq, Nat.reduceLT]
     repeat with_reducible refine And.intro (by first | kernel_rfl | decide) ?_
     refine Wp_callP (c35 N _ _ _ h2334) (by kernel_rfl) rfl rfl rfl rfl (by decide) ?_
     replace h3370 := getT2_some h3370; obtain ⟨p2336, p2337, h2335, h3370⟩ := h3370
     replace h3370 := getI_some h3370; obtain ⟨x2339, h2338, h3370⟩ := h3370
     replace h3370 := getI_some h3370; obtain ⟨x2341, h2340, h3370⟩ := h3370
     replace h3370 := bnd'_some h3370; obtain ⟨p2413, h2414, h3370⟩ := h3370
     refine W_sound tab_ok mixed 10 _ _ _ ?_
     simp -implicitDefEqProofs only [go_sem, Nat.reduceBEq, Nat.reduceLT, Int.reduceLE, Int.reduceToNat, ↓reduceIte, Int.reduceAdd, h2335, h2338, h2340]
     repeat with_reducible refine And.intro (by first | kernel_rfl | decide) ?_
     refine Wp_callP (c31 N _ _ h2414) (by kernel_rfl) rfl rfl rfl rfl (by decide) ?_
     replace h3370 := getT2_some h3370; obtain ⟨p2416, p2417, h2415, h3370⟩ := h3370
     replace h3370 := getL_some h3370; obtain ⟨n2419, c2420, h2418, h3370⟩ := h3370
     replace h3370 := getI_some h3370; obtain ⟨x2422, h2421, h3370⟩ := h3370
     replace h3370 := brn_some h3370; rcases h3370 with ⟨h2423, h3370⟩ | ⟨h2423, h3370⟩
     ·replace h3370 := bnd'_some h3370; obtain ⟨p2428, h2429, h3370⟩ := h3370
      refine W_sound tab_ok mixed 13 _ _ _ ?_
      simp -implicitDefEqProofs only [go_sem, Nat.reduceBEq, Nat.reduceAdd, Nat.reduceLT, Nat.reduceLeDiff, ↓reduceIte, h2415, h2418, h2421, h2423]
      repeat with_reducible refine And.intro (by first | kernel_rfl | decide) ?_
      refine Wp_callF [(114, [(.int .i64 0), (.int .i64 1), (.int .i64 0), (.int .i64 3), (.int .i64 0), (.int .i64 15)])] (FnP_le (c43 N _ _ h2429) (.cons _ _ _ _ (.lst true false _ _ _ (fun h => by first | exact h | cases h) (PLes.refl _)) .nil) (.refl _)) (by kernel_rfl) rfl rfl rfl (by simp only [go_sem, Nat.reduceBEq, Nat.reduceAdd, Nat.reduceLT] <;> rfl) (by decide) rfl (by simp [roF, obL]) rfl ?_
      replace h3370 := getL_some h3370; obtain ⟨n2431, c2432, h2430, h3370⟩ := h3370
      replace h3370 := grd_some h3370; obtain ⟨g2433, h3370⟩ := h3370
      replace h3370 := grd_some h3370; obtain ⟨g2434, h3370⟩ := h3370
      replace h3370 := getI_some h3370; obtain ⟨x2436, h2435, h3370⟩ := h3370
      replace h3370 := brn_some h3370; rcases h3370 with ⟨h2437, h3370⟩ | ⟨h2437, h3370⟩
      ·replace h3370 := brn_some h3370; rcases h3370 with ⟨h2438, h3370⟩ | ⟨h2438, h3370⟩
       ·replace h3370 := bnd'_some h3370; obtain ⟨p2439, h2440, h3370⟩ := h3370
        refine W_sound tab_ok mixed 10 _ _ _ ?_
        simp -implicitDefEqProofs only [go_sem, Nat.reduceBEq, Nat.reduceLT, Int.reduceLE, Int.reduceToNat, ↓reduceIte, h2430, g2433, g2434, h2435, h2437, h2438]
        repeat with_reducible refine And.intro (by first | kernel_rfl | decide) ?_
        refine Wp_callP (c16 N  _ h2440) (by kernel_rfl) rfl rfl rfl rfl (by decide) ?_
        replace h3370 := getB_some h3370; obtain ⟨b2442, h2441, h3370⟩ := h3370
        refine W_sound tab_ok mixed 5 _ _ _ ?_
        simp -implicitDefEqProofs only [go_sem, Nat.reduceBEq, Nat.reduceAdd, Nat.reduceLT, Nat.reduceLeDiff, h2441]
        repeat with_reducible refine And.intro (by first | kernel_rfl | decide) ?_
        obtain rfl := Option.some.inj h3370
        exact finC [(6, .v (.bool b2442))] [(6, .v (.bool b2442))] (by simp [leE, lk_cons]) (.cons _ _ _ _ _ (.v _ _ (.refl _)) .nil) (by rfl) (by simp [leE, lk_cons]) (by decide) (by decide) rfl (by simp only [go_sem, Nat.reduceBEq, resQ_tmp, resQ_nil, retD_one]; try simp [R.val, retD_one, retD_two, retD_three, retD_none])
       ·refine W_sound tab_ok mixed 16 _ _ _ ?_
        simp -implicitDefEqProofs only [go_sem, Nat.reduceBEq, Nat.reduceAdd, Nat.reduceLT, Nat.reduceLeDiff, Int.reduceLE, Int.reduceToNat, ↓reduceIte, h2430, g2433, g2434, h2435, h2437, h2438]
        repeat with_reducible refine And.intro (by first | kernel_rfl | decide) ?_
        obtain rfl := Option.some.inj h3370
        exact finC [(6, .v (.bool false))] [(6, .v (.bool false))] (by simp [leE, lk_cons]) (.cons _ _ _ _ _ (.v _ _ (.refl _)) .nil) (by rfl) (by simp [leE, lk_cons]) (by decide) (by decide) rfl (by simp only [go_sem, Nat.reduceBEq, resQ_tmp, resQ_nil, retD_one]; try simp [R.val, retD_one, retD_two, retD_three, retD_none])
      ·refine W_sound tab_ok mixed 16 _ _ _ ?_
       simp -implicitDefEqProofs only [go_sem, Nat.reduceBEq, Nat.reduceAdd, Nat.reduceLT, Nat.reduceLeDiff, Int.reduceLE, Int.reduceToNat, ↓reduceIte, h2430, g2433, g2434, h2435, h2437]
       repeat with_reducible refine And.intro (by first | kernel_rfl | decide) ?_
       obtain rfl := Option.some.inj h3370
       exact finC [(6, .v (.bool false))] [(6, .v (.bool false))] (by simp [leE, lk_cons]) (.cons _ _ _ _ _ (.v _ _ (.refl _)) .nil) (by rfl) (by simp [leE, lk_cons]) (by decide) (by decide) rfl (by simp only [go_sem, Nat.reduceBEq, resQ_tmp, resQ_nil, retD_one]; try simp [R.val, retD_one, retD_two, retD_three, retD_none])
     ·refine W_sound tab_ok mixed 30 _ _ _ ?_
      simp -implicitDefEqProofs only [go_sem, Nat.reduceBEq, Nat.reduceLT, ↓reduceIte, h2415, h2418, h2421, h2423]
      repeat with_reducible refine And.intro (by first | kernel_rfl | decide) ?_
      obtain rfl := Option.some.inj h3370
      exact finC [(6, .v (.bool false))] [(6, .v (.bool false))] (by simp [leE, lk_cons]) (.cons _ _ _ _ _ (.v _ _ (.refl _)) .nil) (by rfl) (by simp [leE, lk_cons]) (by decide) (by decide) rfl (by simp only [go_sem, Nat.reduceBEq, resQ_tmp, resQ_nil, retD_one]; try simp [R.val, retD_one, retD_two, retD_three, retD_none])
  ·refine W_sound tab_ok mixed 10 _ _ _ ?_
   simp -implicitDefEqProofs only [go_sem, Nat.reduceBEq, Nat.reduceAdd, Nat.reduceSub, Nat.reduceMul, Nat.reduceLT, h2279, h2281]
   repeat with_reducible refine And.intro (by first | kernel_rfl | decide) ?_
   obtain rfl := Option.some.inj h
   exact finC [(6, .v (.bool false))] [(6, .v (.bool false))] (by simp [leE, lk_cons]) (.cons _ _ _ _ _ (.v _ _ (.refl _)) .nil) (by rfl) (by simp [leE, lk_cons]) (by decide) (by decide) rfl (by simp only [go_sem, Nat.reduceBEq, resQ_tmp, resQ_nil, retD_one]; try simp [R.val, retD_one, retD_two, retD_three, retD_none])
 ·skip
  replace h := casI_some h; rcases h with ⟨h2165, h⟩ | ⟨_, h⟩
  ·refine W_sound tab_ok mixed 17 _ _ _ ?_
   simp -implicitDefEqProofs only [go_sem, Nat.reduceBEq, Nat.reduceAdd, Nat.reduceLT, Nat.reduceLeDiff, Int.reduceLE, Int.reduceToNat, ↓reduceIte, h2152, h2158, h2165]
   repeat with_reducible refine And.intro (by first | kernel_rfl | decide) ?_
   refine Wp_callD [] c31k_2 rfl rfl rfl (by first | rfl | (simp only [go_sem, Nat.reduceBEq, Nat.reduceAdd, Nat.reduceSub, Nat.reduceMul, Nat.reduceLT, Nat.reduceLeDiff, Int.reduceLE, Int.reduceLT, Int.reduceToNat, Int.reduceBEq, Int.reduceBNe, ↓reduceIte, Int.reduceAdd, Int.reduceSub, Int.reduceGT, Int.reduceGE, h2152, h2158, g2164, h2165] <;> rfl)) rfl (by kernel_rfl) ?_
   replace h := bnd'_some h; obtain ⟨p2443, h2444, h⟩ := h
   refine W_sound tab_ok mixed 14 _ _ _ ?_
   simp -implicitDefEqProofs only [go_sem, Nat.reduceBEq, Nat.reduceAdd, Nat.reduceSub, Nat.reduceMul, Nat.reduceLT, Nat.reduceLeDiff, Int.reduceBNe, ↓reduceIte]
   repeat with_reducible refine And.intro (by first | kernel_rfl | decide) ?_
   refine Wp_callP (c42 N _ _ h2444) (by kernel_rfl) rfl rfl rfl rfl (by decide) ?_
   replace h := getL_some h; obtain ⟨n2446, c2447, h2445, h⟩ := h
   replace h := bnd'_some h; obtain ⟨p2497, h2498, h⟩ := h
   (try dsimp only at h)
   (try simp -implicitDefEqProofs only [go_sem, h2445])
   refine Wp_callD [31, 1031, 2031] (c21_3 N _ _ _ _ h2498) rfl rfl rfl (by first | rfl | (simp only [go_sem, Nat.reduceBEq, Nat.reduceAdd, Nat.reduceSub, Nat.reduceMul, Nat.reduceLT, Nat.reduceLeDiff, Int.reduceLE, Int.reduceLT, Int.reduceToNat, Int.reduceBEq, Int.reduceBNe, ↓reduceIte, Int.reduceAdd, Int.reduceSub, Int.reduceGT, Int.reduceGE, h2152, h2158, g2164, h2165, h2445] <;> rfl)) rfl (by kernel_rfl) ?_
   replace h := getB_some h; obtain ⟨b2500, h2499, h⟩ := h
   replace h := brn_some h; rcases h with ⟨h2501, h⟩ | ⟨h2501, h⟩
   ·refine W_sound tab_ok mixed 11 _ _ _ ?_
    simp -implicitDefEqProofs only [go_sem, Nat.reduceBEq, Nat.reduceAdd, Nat.reduceSub, Nat.reduceMul, Nat.reduceLT, h2499, h2501]
    repeat with_reducible refine And.intro (by first | kernel_rfl | decide) ?_
    replace h := bnd'_some h; obtain ⟨o3371, h3372, h3373⟩ := h
    refine Wp_cut (fun s => ∃ c2526, ∃ c2527, (c2526, c2527) = o3371 ∧ s = ⟨[], [(0, .dead), (1, .dead), (2, .dead), (4, .dead), (5, .ptr 0 0), (6, .dead), (7, .v (.int .i64 2)), (8, .sl false 1 0 2 1), (9, .dead), (10, .dead), (11, .dead), (12, .dead), (13, .dead), (15, .dead), (16, .dead), (18, .dead), (36, .dead), (37, .dead), (38, .dead), (39, .dead), (63, .dead), (64, .dead), (65, .dead), (74, .dead), (75, .dead), (76, .dead), (77, .dead)], [(0, .p [p2159, p2160, p2161, p2162, p2163]), (1, .r [.sl false 2 0 2 1, .sl false 3 0 2 1]), (2, .p c2526), (3, .p c2527)], 4, []⟩) ?_ ?_
    ·refine Wp_block ?_
     refine Wp_loopG (fun n s => ∃ x2513, ∃ c2514, ∃ c2515, m9_L6 N p2153 p2154 p2155 p2156 p2157 p2159 p2160 p2161 p2162 p2163 n x2513 c2514 c2515 = some o3371 ∧ s = ⟨[], [(0, .dead), (1, .dead), (2, .dead), (4, .ptr 0 0), (5, .ptr 1 0), (6, .dead), (7, .v (.int .i64 2)), (8, .sl false 2 0 2 1), (9, .dead), (10, .dead), (11, .dead), (12, .dead), (13, .dead), (15, .dead), (16, .dead), (18, .dead), (36, .dead), (37, .v (.int .i64 2)), (38, .v (.int .i64 x2513)), (39, .dead), (63, .dead), (64, .dead), (65, .dead), (74, .dead), (75, .dead), (76, .dead), (77, .dead)], [(0, .p [p2153, p2154, p2155, p2156, p2157]), (1, .p [p2159, p2160, p2161, p2162, p2163]), (2, .r [.sl false 3 0 2 1, .sl false 4 0 2 1]), (3, .p c2514), (4, .p c2515)], 5, []⟩) N _ ?_ ⟨_, _, _, h3372, rfl⟩ ?_
     ·exact Wk_keep [4, 5, 7, 8, 37, 38] (by kernel_rfl)
     clear h3372
     rintro n _ ⟨x2513, c2514, c2515, h3372, rfl⟩
     cases n with
     | zero => cases h3372
     | succ n =>
      rw [m9_L6] at h3372
      replace h3372 := brn_some h3372; rcases h3372 with ⟨h2516, h3372⟩ | ⟨h2516, h3372⟩
      ·replace h3372 := grd_some h3372; obtain ⟨⟨g2517, g2518⟩, h3372⟩ := h3372
       replace h3372 := grd_some h3372; obtain ⟨g2519, h3372⟩ := h3372
       replace h3372 := getI_some h3372; obtain ⟨x2521, h2520, h3372⟩ := h3372
       replace h3372 := grd_some h3372; obtain ⟨g2522, h3372⟩ := h3372
       replace h3372 := casI_some h3372; rcases h3372 with ⟨h2523, h3372⟩ | ⟨_, h3372⟩
       ·replace h3372 := casI_some h3372; rcases h3372 with ⟨rfl, h3372⟩ | ⟨_, h3372⟩
        ·simp only [go_sem] at h2520
         simp only [go_sem, Int.reduceAdd, wl1] at h2523
         refine W_sound tab_ok mixed 48 _ _ _ ?_
         simp -implicitDefEqProofs only [go_sem, Nat.reduceBEq, Nat.reduceAdd, Nat.reduceLT, Nat.reduceLeDiff, Int.reduceLE, Int.reduceLT, Int.reduceToNat, ↓reduceIte, Int.reduceAdd, g2517, g2518, h2520, h2523]
         repeat with_reducible refine And.intro (by first | kernel_rfl | decide) ?_
         (try rw [h2165] at h3372)
         (try rw [h2520] at h3372)
         (try rw [h2523] at h3372)
         refine cutQ _ ?_ ⟨n, Nat.lt_succ_self n, _, _, _, h3372, rfl⟩
         exact Wk_keep [4, 5, 7, 8, 37, 38] (by kernel_rfl)
        ·skip
         replace h3372 := casI_some h3372; rcases h3372 with ⟨rfl, h3372⟩ | ⟨_, h3372⟩
         ·simp only [go_sem, Int.reduceToNat] at h2520
          simp only [go_sem, Int.reduceAdd, wl2] at h2523
          refine W_sound tab_ok mixed 48 _ _ _ ?_
          simp -implicitDefEqProofs only [go_sem, Nat.reduceBEq, Nat.reduceAdd, Nat.reduceLT, Nat.reduceLeDiff, Int.reduceLE, Int.reduceLT, Int.reduceToNat, ↓reduceIte, Int.reduceAdd, g2517, g2518, h2520, h2523]
          repeat with_reducible refine And.intro (by first | kernel_rfl | decide) ?_
          (try rw [h2165] at h3372)
          (try rw [h2520] at h3372)
          (try rw [h2523] at h3372)
          refine cutQ _ ?_ ⟨n, Nat.lt_succ_self n, _, _, _, h3372, rfl⟩
          exact Wk_keep [4, 5, 7, 8, 37, 38] (by kernel_rfl)
         ·skip
          cases h3372
       ·skip
        replace h3372 := casI_some h3372; rcases h3372 with ⟨h2523, h3372⟩ | ⟨_, h3372⟩
        ·replace h3372 := casI_some h3372; rcases h3372 with ⟨rfl, h3372⟩ | ⟨_, h3372⟩
         ·simp only [go_sem] at h2520
          simp only [go_sem, Int.reduceAdd, wl1] at h2523
          refine W_sound tab_ok mixed 48 _ _ _ ?_
          simp -implicitDefEqProofs only [go_sem, Nat.reduceBEq, Nat.reduceAdd, Nat.reduceLT, Nat.reduceLeDiff, Int.reduceLE, Int.reduceLT, Int.reduceToNat, ↓reduceIte, Int.reduceAdd, g2517, g2518, h2520, h2523]
          repeat with_reducible refine And.intro (by first | kernel_rfl | decide) ?_
          (try rw [h2165] at h3372)
          (try rw [h2520] at h3372)
          (try rw [h2523] at h3372)
          refine cutQ _ ?_ ⟨n, Nat.lt_succ_self n, _, _, _, h3372, rfl⟩
          exact Wk_keep [4, 5, 7, 8, 37, 38] (by kernel_rfl)
         ·skip
          replace h3372 := casI_some h3372; rcases h3372 with ⟨rfl, h3372⟩ | ⟨_, h3372⟩
          ·simp only [go_sem, Int.reduceToNat] at h2520
           simp only [go_sem, Int.reduceAdd, wl2] at h2523
           refine W_sound tab_ok mixed 48 _ _ _ ?_
           simp -implicitDefEqProofs only [go_sem, Nat.reduceBEq, Nat.reduceAdd, Nat.reduceLT, Nat.reduceLeDiff, Int.reduceLE, Int.reduceLT, Int.reduceToNat, ↓reduceIte, Int.reduceAdd, g2517, g2518, h2520, h2523]
           repeat with_reducible refine And.intro (by first | kernel_rfl | decide) ?_
           (try rw [h2165] at h3372)
           (try rw [h2520] at h3372)
           (try rw [h2523] at h3372)
           refine cutQ _ ?_ ⟨n, Nat.lt_succ_self n, _, _, _, h3372, rfl⟩
           exact Wk_keep [4, 5, 7, 8, 37, 38] (by kernel_rfl)
          ·skip
           cases h3372
        ·skip
         cases h3372
      ·refine W_sound tab_ok mixed 7 _ _ _ ?_
       simp -implicitDefEqProofs only [go_sem, Nat.reduceBEq, Nat.reduceLT, Int.reduceLE, Int.reduceToNat, ↓reduceIte, h2516]
       repeat with_reducible refine And.intro (by first | kernel_rfl | decide) ?_
       obtain rfl := Option.some.inj h3372
       refine cutQ _ ?_ ⟨_, _, rfl, rfl⟩
       exact Wk_keep [5, 7, 8] (by kernel_rfl)
    ·rintro _ ⟨c2526, c2527, rfl, rfl⟩
     (try dsimp only at h3373)
     refine W_sound tab_ok mixed 6 _ _ _ ?_
     simp -implicitDefEqProofs only [go_sem, Nat.reduceBEq, Nat.reduceLT]
     repeat with_reducible refine And.intro (by first | kernel_rfl | decide) ?_
     replace h3373 := bnd'_some h3373; obtain ⟨o3374, h3375, h3376⟩ := h3373
     refine Wp_cut (fun s => ∃ c2584, ∃ c2585, (c2584, c2585) = o3374 ∧ s = ⟨[], [(0, .dead), (1, .dead), (2, .dead), (4, .dead), (5, .dead), (6, .dead), (7, .v (.int .i64 2)), (8, .sl false 0 0 2 1), (9, .dead), (10, .dead), (11, .dead), (12, .dead), (13, .dead), (15, .dead), (16, .dead), (18, .dead), (36, .dead), (37, .dead), (38, .dead), (39, .dead), (63, .dead), (64, .dead), (65, .dead), (74, .dead), (75, .dead), (76, .dead), (77, .dead)], [(0, .r [.sl false 1 0 2 1, .sl false 2 0 2 1]), (1, .p c2584), (2, .p c2585)], 3, []⟩) ?_ ?_
     ·refine Wp_block ?_
      refine Wp_loopG (fun n s => ∃ x2555, ∃ c2556, ∃ c2557, m9_L7 N p2159 p2160 p2161 p2162 p2163 n x2555 c2556 c2557 = some o3374 ∧ s = ⟨[], [(0, .dead), (1, .dead), (2, .dead), (4, .dead), (5, .ptr 0 0), (6, .dead), (7, .v (.int .i64 2)), (8, .sl false 1 0 2 1), (9, .dead), (10, .dead), (11, .dead), (12, .dead), (13, .dead), (15, .dead), (16, .dead), (18, .dead), (36, .dead), (37, .dead), (38, .dead), (39, .dead), (63, .v (.int .i64 2)), (64, .v (.int .i64 x2555)), (65, .dead), (74, .dead), (75, .dead), (76, .dead), (77, .dead)], [(0, .p [p2159, p2160, p2161, p2162, p2163]), (1, .r [.sl false 2 0 2 1, .sl false 3 0 2 1]), (2, .p c2556), (3, .p c2557)], 4, []⟩) N _ ?_ ⟨_, _, _, h3375, rfl⟩ ?_
      ·exact Wk_keep [5, 7, 8, 63, 64] (by kernel_rfl)
      clear h3375
      rintro n _ ⟨x2555, c2556, c2557, h3375, rfl⟩
      cases n with
      | zero => cases h3375
      | succ n =>
       rw [m9_L7] at h3375
       replace h3375 := brn_some h3375; rcases h3375 with ⟨h2558, h3375⟩ | ⟨h2558, h3375⟩
       ·replace h3375 := grd_some h3375; obtain ⟨⟨g2559, g2560⟩, h3375⟩ := h3375
        replace h3375 := grd_some h3375; obtain ⟨g2561, h3375⟩ := h3375
        replace h3375 := getI_some h3375; obtain ⟨x2563, h2562, h3375⟩ := h3375
        replace h3375 := grd_some h3375; obtain ⟨g2564, h3375⟩ := h3375
        refine W_sound tab_ok mixed 31 _ _ _ ?_
        simp -implicitDefEqProofs only [go_sem, Nat.reduceBEq, Nat.reduceAdd, Nat.reduceLT, Nat.reduceLeDiff, Int.reduceLE, Int.reduceToNat, ↓reduceIte, h2558, g2559, g2560, g2561, h2562, g2564]
        repeat with_reducible refine And.intro (by first | kernel_rfl | decide) ?_
        refine Wp_block ?_
        refine Wp_loopL (WpL_step ?_)
        replace h3375 := grd_some h3375; obtain ⟨⟨g2565, g2566⟩, h3375⟩ := h3375
        replace h3375 := grd_some h3375; obtain ⟨g2567, h3375⟩ := h3375
        replace h3375 := getI_some h3375; obtain ⟨x2569, h2568, h3375⟩ := h3375
        replace h3375 := grd_some h3375; obtain ⟨g2570, h3375⟩ := h3375
        replace h3375 := grd_some h3375; obtain ⟨g2571, h3375⟩ := h3375
        replace h3375 := getI_some h3375; obtain ⟨x2573, h2572, h3375⟩ := h3375
        replace h3375 := grd_some h3375; obtain ⟨g2574, h3375⟩ := h3375
        replace h3375 := grd_some h3375; obtain ⟨g2575, h3375⟩ := h3375
        refine W_sound tab_ok mixed 38 _ _ _ ?_
        simp -implicitDefEqProofs only [go_sem, Nat.reduceBEq, Nat.reduceAdd, Nat.reduceLT, Nat.reduceLeDiff, Int.reduceLE, Int.reduceLT, Int.reduceToNat, ↓reduceIte, Int.reduceAdd, g2559, g2565, g2566, g2567, h2568, g2570, g2571, h2572, g2574, g2575]
        repeat with_reducible refine And.intro (by first | kernel_rfl | decide) ?_
        refine again (Wk_keep (st' := ⟨[], [(0, .dead), (1, .dead), (2, .dead), (4, .dead), (5, .ptr 0 0), (6, .dead), (7, .v (.int .i64 2)), (8, .sl false 1 0 2 1), (9, .dead), (10, .dead), (11, .dead), (12, .v (.int .i64 x2555)), (13, .v (.int .i64 (Int.tmod (IntKind.i64.wrap x2563) (IntKind.i64.wrap (x2555 + 1))))), (15, .dead), (16, .dead), (18, .dead), (36, .dead), (37, .dead), (38, .dead), (39, .dead), (63, .v (.int .i64 2)), (64, .v (.int .i64 x2555)), (65, .dead), (74, .sl false 1 0 2 1), (75, .v (.int .i64 2)), (76, .v (.int .i64 1)), (77, .dead)], [(0, .p [p2159, p2160, p2161, p2162, p2163]), (1, .r [.sl false 2 0 2 1, .sl false 3 0 2 1]), (2, .p (List.set (List.set c2556 (Int.toNat x2555) (.int .i64 x2569)) (Int.toNat (Int.tmod (IntKind.i64.wrap x2563) (IntKind.i64.wrap (x2555 + 1)))) (.int .i64 x2573))), (3, .p c2557)], 4, []⟩) [5, 7, 8, 12, 13, 63, 64, 74, 75, 76] (by kernel_rfl)) ?_
        replace h3375 := grd_some h3375; obtain ⟨g2576, h3375⟩ := h3375
        replace h3375 := getI_some h3375; obtain ⟨x2578, h2577, h3375⟩ := h3375
        replace h3375 := grd_some h3375; obtain ⟨g2579, h3375⟩ := h3375
        replace h3375 := getI_some h3375; obtain ⟨x2581, h2580, h3375⟩ := h3375
        replace h3375 := grd_some h3375; obtain ⟨g2582, h3375⟩ := h3375
        replace h3375 := grd_some h3375; obtain ⟨g2583, h3375⟩ := h3375
        refine W_sound tab_ok mixed 38 _ _ _ ?_
        simp -implicitDefEqProofs only [go_sem, Nat.reduceBEq, Nat.reduceAdd, Nat.reduceLT, Int.reduceLE, Int.reduceLT, Int.reduceToNat, ↓reduceIte, Int.reduceAdd, g2559, g2565, g2566, g2570, g2576, h2577, g2579, h2580, g2582, g2583]
        repeat with_reducible refine And.intro (by first | kernel_rfl | decide) ?_
        refine again (Wk_keep (st' := ⟨[], [(0, .dead), (1, .dead), (2, .dead), (4, .dead), (5, .ptr 0 0), (6, .dead), (7, .v (.int .i64 2)), (8, .sl false 1 0 2 1), (9, .dead), (10, .dead), (11, .dead), (12, .v (.int .i64 x2555)), (13, .v (.int .i64 (Int.tmod (IntKind.i64.wrap x2563) (IntKind.i64.wrap (x2555 + 1))))), (15, .dead), (16, .dead), (18, .dead), (36, .dead), (37, .dead), (38, .dead), (39, .dead), (63, .v (.int .i64 2)), (64, .v (.int .i64 x2555)), (65, .dead), (74, .sl false 1 0 2 1), (75, .v (.int .i64 2)), (76, .v (.int .i64 2)), (77, .dead)], [(0, .p [p2159, p2160, p2161, p2162, p2163]), (1, .r [.sl false 2 0 2 1, .sl false 3 0 2 1]), (2, .p (List.set (List.set c2556 (Int.toNat x2555) (.int .i64 x2569)) (Int.toNat (Int.tmod (IntKind.i64.wrap x2563) (IntKind.i64.wrap (x2555 + 1)))) (.int .i64 x2573))), (3, .p (List.set (List.set c2557 (Int.toNat x2555) (.int .i64 x2578)) (Int.toNat (Int.tmod (IntKind.i64.wrap x2563) (IntKind.i64.wrap (x2555 + 1)))) (.int .i64 x2581)))], 4, []⟩) [5, 7, 8, 12, 13, 63, 64, 74, 75, 76] (by kernel_rfl)) ?_
        refine W_sound tab_ok mixed 12 _ _ _ ?_
        simp -implicitDefEqProofs only [go_sem, Nat.reduceBEq, Nat.reduceLT, Int.reduceLE, Int.reduceLT, Int.reduceToNat, ↓reduceIte]
        repeat with_reducible refine And.intro (by first | kernel_rfl | decide) ?_
        (try rw [h2165] at h3375)
        (try rw [h2562] at h3375)
        (try rw [h2568] at h3375)
        (try rw [h2572] at h3375)
        (try rw [h2577] at h3375)
        (try rw [h2580] at h3375)
        refine cutQ _ ?_ ⟨n, Nat.lt_succ_self n, _, _, _, h3375, rfl⟩
        exact Wk_keep [5, 7, 8, 63, 64] (by kernel_rfl)
       ·refine W_sound tab_ok mixed 7 _ _ _ ?_
        simp -implicitDefEqProofs only [go_sem, Nat.reduceBEq, Nat.reduceLT, Int.reduceLE, Int.reduceToNat, ↓reduceIte, h2558]
        repeat with_reducible refine And.intro (by first | kernel_rfl | decide) ?_
        obtain rfl := Option.some.inj h3375
        refine cutQ _ ?_ ⟨_, _, rfl, rfl⟩
        exact Wk_keep [7, 8] (by kernel_rfl)
     ·rintro _ ⟨c2584, c2585, rfl, rfl⟩
      (try dsimp only at h3376)
      refine W_sound tab_ok mixed 1 _ _ _ ?_
      simp -implicitDefEqProofs only [go_sem]
      repeat with_reducible refine And.intro (by first | kernel_rfl | decide) ?_
      replace h3376 := grd_some h3376; obtain ⟨g2586, h3376⟩ := h3376
      refine Wp_wkK (Wk_freeze 1 c2584 (by rfl) (by decide) (by decide)) rfl ?_
      simp -implicitDefEqProofs only [go_sem, Nat.reduceBEq, g2586]
      replace h3376 := grd_some h3376; obtain ⟨g2587, h3376⟩ := h3376
      refine Wp_wkK (Wk_freeze 2 c2585 (by rfl) (by decide) (by decide)) rfl ?_
      simp -implicitDefEqProofs only [go_sem, Nat.reduceBEq, g2587]
      refine Wp_wkK (Wk_freeze 0 [(.lst false 2 c2584), (.lst false 2 c2585)] (by rfl) (by decide) (by decide)) rfl ?_
      simp -implicitDefEqProofs only [go_sem, Nat.reduceBEq, Nat.reduceAdd]
      replace h3376 := bnd'_some h3376; obtain ⟨p2588, h2589, h3376⟩ := h3376
      refine W_sound tab_ok mixed 3 _ _ _ ?_
      simp -implicitDefEqProofs only [go_sem, Nat.reduceBEq, Nat.reduceLT]
      repeat with_reducible refine And.intro (by first | kernel_rfl | decide) ?_
      refine Wp_callP (c35 N _ _ _ h2589) (by kernel_rfl) rfl rfl rfl rfl (by decide) ?_
      replace h3376 := getT2_some h3376; obtain ⟨p2591, p2592, h2590, h3376⟩ := h3376
      replace h3376 := getI_some h3376; obtain ⟨x2594, h2593, h3376⟩ := h3376
      replace h3376 := getI_some h3376; obtain ⟨x2596, h2595, h3376⟩ := h3376
      replace h3376 := bnd'_some h3376; obtain ⟨p2597, h2598, h3376⟩ := h3376
      refine W_sound tab_ok mixed 10 _ _ _ ?_
      simp -implicitDefEqProofs only [go_sem, Nat.reduceBEq, Nat.reduceLT, Int.reduceLE, Int.reduceToNat, ↓reduceIte, Int.reduceAdd, h2590, h2593, h2595]
      repeat with_reducible refine And.intro (by first | kernel_rfl | decide) ?_
      refine Wp_callP (c31 N _ _ h2598) (by kernel_rfl) rfl rfl rfl rfl (by decide) ?_
      replace h3376 := getT2_some h3376; obtain ⟨p2600, p2601, h2599, h3376⟩ := h3376
      replace h3376 := getL_some h3376; obtain ⟨n2603, c2604, h2602, h3376⟩ := h3376
      replace h3376 := getI_some h3376; obtain ⟨x2606, h2605, h3376⟩ := h3376
      replace h3376 := brn_some h3376; rcases h3376 with ⟨h2607, h3376⟩ | ⟨h2607, h3376⟩
      ·replace h3376 := bnd'_some h3376; obtain ⟨p2608, h2609, h3376⟩ := h3376
       refine W_sound tab_ok mixed 13 _ _ _ ?_
       simp -implicitDefEqProofs only [go_sem, Nat.reduceBEq, Nat.reduceAdd, Nat.reduceLT, Nat.reduceLeDiff, ↓reduceIte, h2599, h2602, h2605, h2607]
       repeat with_reducible refine And.intro (by first | kernel_rfl | decide) ?_
       refine Wp_callF [(115, [(.int .i64 0), (.int .i64 1), (.int .i64 0), (.int .i64 3), (.int .i64 0), (.int .i64 15)])] (FnP_le (c43 N _ _ h2609) (.cons _ _ _ _ (.lst true false _ _ _ (fun h => by first | exact h | cases h) (PLes.refl _)) .nil) (.refl _)) (by kernel_rfl) rfl rfl rfl (by simp only [go_sem, Nat.reduceBEq, Nat.reduceAdd, Nat.reduceLT] <;> rfl) (by decide) rfl (by simp [roF, obL]) rfl ?_
       replace h3376 := getL_some h3376; obtain ⟨n2611, c2612, h2610, h3376⟩ := h3376
       replace h3376 := grd_some h3376; obtain ⟨g2613, h3376⟩ := h3376
       replace h3376 := grd_some h3376; obtain ⟨g2614, h3376⟩ := h3376
       replace h3376 := getI_some h3376; obtain ⟨x2616, h2615, h3376⟩ := h3376
       replace h3376 := brn_some h3376; rcases h3376 with ⟨h2617, h3376⟩ | ⟨h2617, h3376⟩
       ·replace h3376 := brn_some h3376; rcases h3376 with ⟨h2618, h3376⟩ | ⟨h2618, h3376⟩
        ·replace h3376 := bnd'_some h3376; obtain ⟨p2619, h2620, h3376⟩ := h3376
         refine W_sound tab_ok mixed 10 _ _ _ ?_
         simp -implicitDefEqProofs only [go_sem, Nat.reduceBEq, Nat.reduceLT, Int.reduceLE, Int.reduceToNat, ↓reduceIte, h2610, g2613, g2614, h2615, h2617, h2618]
         repeat with_reducible refine And.intro (by first | kernel_rfl | decide) ?_
         refine Wp_callP (c16 N  _ h2620) (by kernel_rfl) rfl rfl rfl rfl (by decide) ?_
         replace h3376 := getB_some h3376; obtain ⟨b2622, h2621, h3376⟩ := h3376
         refine W_sound tab_ok mixed 5 _ _ _ ?_
         simp -implicitDefEqProofs only [go_sem, Nat.reduceBEq, Nat.reduceAdd, Nat.reduceLT, Nat.reduceLeDiff, h2621]
         repeat with_reducible refine And.intro (by first | kernel_rfl | decide) ?_
         obtain rfl := Option.some.inj h3376
         exact finC [(6, .v (.bool b2622))] [(6, .v (.bool b2622))] (by simp [leE, lk_cons]) (.cons _ _ _ _ _ (.v _ _ (.refl _)) .nil) (by rfl) (by simp [leE, lk_cons]) (by decide) (by decide) rfl (by simp only [go_sem, Nat.reduceBEq, resQ_tmp, resQ_nil, retD_one]; try simp [R.val, retD_one, retD_two, retD_three, retD_none])
        ·refine W_sound tab_ok mixed 16 _ _ _ ?_
         simp -implicitDefEqProofs only [go_sem, Nat.reduceBEq, Nat.reduceAdd, Nat.reduceLT, Nat.reduceLeDiff, Int.reduceLE, Int.reduceToNat, ↓reduceIte, h2610, g2613, g2614, h2615, h2617, h2618]
         repeat with_reducible refine And.intro (by first | kernel_rfl | decide) ?_
         obtain rfl := Option.some.inj h3376
         exact finC [(6, .v (.bool false))] [(6, .v (.bool false))] (by simp [leE, lk_cons]) (.cons _ _ _ _ _ (.v _ _ (.refl _)) .nil) (by rfl) (by simp [leE, lk_cons]) (by decide) (by decide) rfl (by simp only [go_sem, Nat.reduceBEq, resQ_tmp, resQ_nil, retD_one]; try simp [R.val, retD_one, retD_two, retD_three, retD_none])
       ·refine W_sound tab_ok mixed 16 _ _ _ ?_
        simp -implicitDefEqProofs only [go_sem, Nat.reduceBEq, Nat.reduceAdd, Nat.reduceLT, Nat.reduceLeDiff, Int.reduceLE, Int.reduceToNat, ↓reduceIte, h2610, g2613, g2614, h2615, h2617]
        repeat with_reducible refine And.intro (by first | kernel_rfl | decide) ?_
        obtain rfl := Option.some.inj h3376
        exact finC [(6, .v (.bool false))] [(6, .v (.bool false))] (by simp [leE, lk_cons]) (.cons _ _ _ _ _ (.v _ _ (.refl _)) .nil) (by rfl) (by simp [leE, lk_cons]) (by decide) (by decide) rfl (by simp only [go_sem, Nat.reduceBEq, resQ_tmp, resQ_nil, retD_one]; try simp [R.val, retD_one, retD_two, retD_three, retD_none])
      ·refine W_sound tab_ok mixed 30 _ _ _ ?_
       simp -implicitDefEqProofs only [go_sem, Nat.reduceBEq, Nat.reduceLT, ↓reduceIte, h2599, h2602, h2605, h2607]
       repeat with_reducible refine And.intro (by first | kernel_rfl | decide) ?_
       obtain rfl := Option.some.inj h3376
       exact finC [(6, .v (.bool false))] [(6, .v (.bool false))] (by simp [leE, lk_cons]) (.cons _ _ _ _ _ (.v _ _ (.refl _)) .nil) (by rfl) (by simp [leE, lk_cons]) (by decide) (by decide) rfl (by simp only [go_sem, Nat.reduceBEq, resQ_tmp, resQ_nil, retD_one]; try simp [R.val, retD_one, retD_two, retD_three, retD_none])
   ·refine W_sound tab_ok mixed 10 _ _ _ ?_
    simp -implicitDefEqProofs only [go_sem, Nat.reduceBEq, Nat.reduceAdd, Nat.reduceSub, Nat.reduceMul, Nat.reduceLT, h2499, h2501]
    repeat with_reducible refine And.intro (by first | kernel_rfl | decide) ?_
    obtain rfl := Option.some.inj h
    exact finC [(6, .v (.bool false))] [(6, .v (.bool false))] (by simp [leE, lk_cons]) (.cons _ _ _ _ _ (.v _ _ (.refl _)) .nil) (by rfl) (by simp [leE, lk_cons]) (by decide) (by decide) rfl (by simp only [go_sem, Nat.reduceBEq, resQ_tmp, resQ_nil, retD_one]; try simp [R.val, retD_one, retD_two, retD_three, retD_none])
  ·skip
   replace h := casI_some h; rcases h with ⟨h2165, h⟩ | ⟨_, h⟩
   ·refine W_sound tab_ok mixed 17 _ _ _ ?_
    simp -implicitDefEqProofs only [go_sem, Nat.reduceBEq, Nat.reduceAdd, Nat.reduceLT, Nat.reduceLeDiff, Int.reduceLE, Int.reduceToNat, ↓reduceIte, h2152, h2158, h2165]
    repeat with_reducible refine And.intro (by first | kernel_rfl | decide) ?_
    refine Wp_callD [] c31k_3 rfl rfl rfl (by first | rfl | (simp only [go_sem, Nat.reduceBEq, Nat.reduceAdd, Nat.reduceSub, Nat.reduceMul, Nat.reduceLT, Nat.reduceLeDiff, Int.reduceLE, Int.reduceLT, Int.reduceToNat, Int.reduceBEq, Int.reduceBNe, ↓reduceIte, Int.reduceAdd, Int.reduceSub, Int.reduceGT, Int.reduceGE, h2152, h2158, g2164, h2165] <;> rfl)) rfl (by kernel_rfl) ?_
    replace h := bnd'_some h; obtain ⟨p2623, h2624, h⟩ := h
    refine W_sound tab_ok mixed 14 _ _ _ ?_
    simp -implicitDefEqProofs only [go_sem, Nat.reduceBEq, Nat.reduceAdd, Nat.reduceSub, Nat.reduceMul, Nat.reduceLT, Nat.reduceLeDiff, Int.reduceBNe, ↓reduceIte]
    repeat with_reducible refine And.intro (by first | kernel_rfl | decide) ?_
    refine Wp_callP (c42 N _ _ h2624) (by kernel_rfl) rfl rfl rfl rfl (by decide) ?_
    replace h := getL_some h; obtain ⟨n2626, c2627, h2625, h⟩ := h
    replace h := bnd'_some h; obtain ⟨p2688, h2689, h⟩ := h
    (try dsimp only at h)
    (try simp -implicitDefEqProofs only [go_sem, h2625])
    refine Wp_callD [31, 1031, 2031, 3031] (c21_4 N _ _ _ _ _ h2689) rfl rfl rfl (by first | rfl | (simp only [go_sem, Nat.reduceBEq, Nat.reduceAdd, Nat.reduceSub, Nat.reduceMul, Nat.reduceLT, Nat.reduceLeDiff, Int.reduceLE, Int.reduceLT, Int.reduceToNat, Int.reduceBEq, Int.reduceBNe, ↓reduceIte, Int.reduceAdd, Int.reduceSub, Int.reduceGT, Int.reduceGE, h2152, h2158, g2164, h2165, h2625] <;> rfl)) rfl (by kernel_rfl) ?_
    replace h := getB_some h; obtain ⟨b2691, h2690, h⟩ := h
    replace h := brn_some h; rcases h with ⟨h2692, h⟩ | ⟨h2692, h⟩
    ·refine W_sound tab_ok mixed 11 _ _ _ ?_
     simp -implicitDefEqProofs only [go_sem, Nat.reduceBEq, Nat.reduceAdd, Nat.reduceSub, Nat.reduceMul, Nat.reduceLT, h2690, h2692]
     repeat with_reducible refine And.intro (by first | kernel_rfl | decide) ?_
     replace h := bnd'_some h; obtain ⟨o3377, h3378, h3379⟩ := h
     refine Wp_cut (fun s => ∃ c2720, ∃ c2721, ∃ c2722, (c2720, c2721, c2722) = o3377 ∧ s = ⟨[], [(0, .dead), (1, .dead), (2, .dead), (4, .dead), (5, .ptr 0 0), (6, .dead), (7, .v (.int .i64 3)), (8, .sl false 1 0 3 1), (9, .dead), (10, .dead), (11, .dead), (12, .dead), (13, .dead), (15, .dead), (16, .dead), (18, .dead), (36, .dead), (37, .dead), (38, .dead), (39, .dead), (63, .dead), (64, .dead), (65, .dead), (74, .dead), (75, .dead), (76, .dead), (77, .dead)], [(0, .p [p2159, p2160, p2161, p2162, p2163]), (1, .r [.sl false 2 0 3 1, .sl false 3 0 3 1, .sl false 4 0 3 1]), (2, .p c2720), (3, .p c2721), (4, .p c2722)], 5, []⟩) ?_ ?_
     ·refine Wp_block ?_
      refine Wp_loopG (fun n s => ∃ x2705, ∃ c2706, ∃ c2707, ∃ c2708, m9_L4 N p2153 p2154 p2155 p2156 p2157 p2159 p2160 p2161 p2162 p2163 n x2705 c2706 c2707 c2708 = some o3377 ∧ s = ⟨[], [(0, .dead), (1, .dead), (2, .dead), (4, .ptr 0 0), (5, .ptr 1 0), (6, .dead), (7, .v (.int .i64 3)), (8, .sl false 2 0 3 1), (9, .dead), (10, .dead), (11, .dead), (12, .dead), (13, .dead), (15, .dead), (16, .dead), (18, .dead), (36, .dead), (37, .v (.int .i64 3)), (38, .v (.int .i64 x2705)), (39, .dead), (63, .dead), (64, .dead), (65, .dead), (74, .dead), (75, .dead), (76, .dead), (77, .dead)], [(0, .p [p2153, p2154, p2155, p2156, p2157]), (1, .p [p2159, p2160, p2161, p2162, p2163]), (2, .r [.sl false 3 0 3 1, .sl false 4 0 3 1, .sl false 5 0 3 1]), (3, .p c2706), (4, .p c2707), (5, .p c2708)], 6, []⟩) N _ ?_ ⟨_, _, _, _, h3378, rfl⟩ ?_
      ·exact Wk_keep [4, 5, 7, 8, 37, 38] (by kernel_rfl)
      clear h3378
      rintro n _ ⟨x2705, c2706, c2707, c2708, h3378, rfl⟩
      cases n with
      | zero => cases h3378
      | succ n =>
       rw [m9_L4] at h3378
       replace h3378 := brn_some h3378; rcases h3378 with ⟨h2709, h3378⟩ | ⟨h2709, h3378⟩
       ·replace h3378 := grd_some h3378; obtain ⟨⟨g2710, g2711⟩, h3378⟩ := h3378
        replace h3378 := grd_some h3378; obtain ⟨g2712, h3378⟩ := h3378
        replace h3378 := getI_some h3378; obtain ⟨x2714, h2713, h3378⟩ := h3378
        replace h3378 := grd_some h3378; obtain ⟨g2715, h3378⟩ := h3378
        replace h3378 := casI_some h3378; rcases h3378 with ⟨h2716, h3378⟩ | ⟨_, h3378⟩
        ·replace h3378 := casI_some h3378; rcases h3378 with ⟨rfl, h3378⟩ | ⟨_, h3378⟩
         ·simp only [go_sem] at h2713
          simp only [go_sem, Int.reduceAdd, wl1] at h2716
          refine W_sound tab_ok mixed 48 _ _ _ ?_
          simp -implicitDefEqProofs only [go_sem, Nat.reduceBEq, Nat.reduceAdd, Nat.reduceLT, Nat.reduceLeDiff, Int.reduceLE, Int.reduceLT, Int.reduceToNat, ↓reduceIte, Int.reduceAdd, g2710, g2711, h2713, h2716]
          repeat with_reducible refine And.intro (by first | kernel_rfl | decide) ?_
          (try rw [h2165] at h3378)
          (try rw [h2713] at h3378)
          (try rw [h2716] at h3378)
          refine cutQ _ ?_ ⟨n, Nat.lt_succ_self n, _, _, _, _, h3378, rfl⟩
          exact Wk_keep [4, 5, 7, 8, 37, 38] (by kernel_rfl)
         ·skip
          replace h3378 := casI_some h3378; rcases h3378 with ⟨rfl, h3378⟩ | ⟨_, h3378⟩
          ·simp only [go_sem, Int.reduceToNat] at h2713
           simp only [go_sem, Int.reduceAdd, wl2] at h2716
           refine W_sound tab_ok mixed 48 _ _ _ ?_
           simp -implicitDefEqProofs only [go_sem, Nat.reduceBEq, Nat.reduceAdd, Nat.reduceLT, Nat.reduceLeDiff, Int.reduceLE, Int.reduceLT, Int.reduceToNat, ↓reduceIte, Int.reduceAdd, g2710, g2711, h2713, h2716]
           repeat with_reducible refine And.intro (by first | kernel_rfl | decide) ?_
           (try rw [h2165] at h3378)
           (try rw [h2713] at h3378)
           (try rw [h2716] at h3378)
           refine cutQ _ ?_ ⟨n, Nat.lt_succ_self n, _, _, _, _, h3378, rfl⟩
           exact Wk_keep [4, 5, 7, 8, 37, 38] (by kernel_rfl)
          ·skip
           replace h3378 := casI_some h3378; rcases h3378 with ⟨rfl, h3378⟩ | ⟨_, h3378⟩
           ·simp only [go_sem, Int.reduceToNat] at h2713
            simp only [go_sem, Int.reduceAdd, wl3] at h2716
            refine W_sound tab_ok mixed 48 _ _ _ ?_
            simp -implicitDefEqProofs only [go_sem, Nat.reduceBEq, Nat.reduceAdd, Nat.reduceLT, Nat.reduceLeDiff, Int.reduceLE, Int.reduceLT, Int.reduceToNat, ↓reduceIte, Int.reduceAdd, g2710, g2711, h2713, h2716]
            repeat with_reducible refine And.intro (by first | kernel_rfl | decide) ?_
            (try rw [h2165] at h3378)
            (try rw [h2713] at h3378)
            (try rw [h2716] at h3378)
            refine cutQ _ ?_ ⟨n, Nat.lt_succ_self n, _, _, _, _, h3378, rfl⟩
            exact Wk_keep [4, 5, 7, 8, 37, 38] (by kernel_rfl)
           ·skip
            cases h3378
        ·skip
         replace h3378 := casI_some h3378; rcases h3378 with ⟨h2716, h3378⟩ | ⟨_, h3378⟩
         ·replace h3378 := casI_some h3378; rcases h3378 with ⟨rfl, h3378⟩ | ⟨_, h3378⟩
          ·simp only [go_sem] at h2713
           simp only [go_sem, Int.reduceAdd, wl1] at h2716
           refine W_sound tab_ok mixed 48 _ _ _ ?_
           simp -implicitDefEqProofs only [go_sem, Nat.reduceBEq, Nat.reduceAdd, Nat.reduceLT, Nat.reduceLeDiff, Int.reduceLE, Int.reduceLT, Int.reduceToNat, ↓reduceIte, Int.reduceAdd, g2710, g2711, h2713, h2716]
           repeat with_reducible refine And.intro (by first | kernel_rfl | decide) ?_
           (try rw [h2165] at h3378)
           (try rw [h2713] at h3378)
           (try rw [h2716] at h3378)
           refine cutQ _ ?_ ⟨n, Nat.lt_succ_self n, _, _, _, _, h3378, rfl⟩
           exact Wk_keep [4, 5, 7, 8, 37, 38] (by kernel_rfl)
          ·skip
           replace h3378 := casI_some h3378; rcases h3378 with ⟨rfl, h3378⟩ | ⟨_, h3378⟩
           ·simp only [go_sem, Int.reduceToNat] at h2713
            simp only [go_sem, Int.reduceAdd, wl2] at h2716
            refine W_sound tab_ok mixed 48 _ _ _ ?_
            simp -implicitDefEqProofs only [go_sem, Nat.reduceBEq, Nat.reduceAdd, Nat.reduceLT, Nat.reduceLeDiff, Int.reduceLE, Int.reduceLT, Int.reduceToNat, ↓reduceIte, Int.reduceAdd, g2710, g2711, h2713, h2716]
            repeat with_reducible refine And.intro (by first | kernel_rfl | decide) ?_
            (try rw [h2165] at h3378)
            (try rw [h2713] at h3378)
            (try rw [h2716] at h3378)
            refine cutQ _ ?_ ⟨n, Nat.lt_succ_self n, _, _, _, _, h3378, rfl⟩
            exact Wk_keep [4, 5, 7, 8, 37, 38] (by kernel_rfl)
           ·skip
            replace h3378 := casI_some h3378; rcases h3378 with ⟨rfl, h3378⟩ | ⟨_, h3378⟩
            ·simp only [go_sem, Int.reduceToNat] at h2713
             simp only [go_sem, Int.reduceAdd, wl3] at h2716
             refine W_sound tab_ok mixed 48 _ _ _ ?_
             simp -implicitDefEqProofs only [go_sem, Nat.reduceBEq, Nat.reduceAdd, Nat.reduceLT, Nat.reduceLeDiff, Int.reduceLE, Int.reduceLT, Int.reduceToNat, ↓reduceIte, Int.reduceAdd, g2710, g2711, h2713, h2716]
             repeat with_reducible refine And.intro (by first | kernel_rfl | decide) ?_
             (try rw [h2165] at h3378)
             (try rw [h2713] at h3378)
             (try rw [h2716] at h3378)
             refine cutQ _ ?_ ⟨n, Nat.lt_succ_self n, _, _, _, _, h3378, rfl⟩
             exact Wk_keep [4, 5, 7, 8, 37, 38] (by kernel_rfl)
            ·skip
             cases h3378
         ·skip
          replace h3378 := casI_some h3378; rcases h3378 with ⟨h2716, h3378⟩ | ⟨_, h3378⟩
          ·replace h3378 := casI_some h3378; rcases h3378 with ⟨rfl, h3378⟩ | ⟨_, h3378⟩
           ·simp only [go_sem] at h2713
            simp only [go_sem, Int.reduceAdd, wl1] at h2716
            refine W_sound tab_ok mixed 48 _ _ _ ?_
            simp -implicitDefEqProofs only [go_sem, Nat.reduceBEq, Nat.reduceAdd, Nat.reduceLT, Nat.reduceLeDiff, Int.reduceLE, Int.reduceLT, Int.reduceToNat, ↓reduceIte, Int.reduceAdd, g2710, g2711, h2713, h2716]
            repeat with_reducible refine And.intro (by first | kernel_rfl | decide) ?_
            (try rw [h2165] at h3378)
            (try rw [h2713] at h3378)
            (try rw [h2716] at h3378)
            refine cutQ _ ?_ ⟨n, Nat.lt_succ_self n, _, _, _, _, h3378, rfl⟩
            exact Wk_keep [4, 5, 7, 8, 37, 38] (by kernel_rfl)
           ·skip
            replace h3378 := casI_some h3378; rcases h3378 with ⟨rfl, h3378⟩ | ⟨_, h3378⟩
            ·simp only [go_sem, Int.reduceToNat] at h2713
             simp only [go_sem, Int.reduceAdd, wl2] at h2716
             refine W_sound tab_ok mixed 48 _ _ _ ?_
             simp -implicitDefEqProofs only [go_sem, Nat.reduceBEq, Nat.reduceAdd, Nat.reduceLT, Nat.reduceLeDiff, Int.reduceLE, Int.reduceLT, Int.reduceToNat, ↓reduceIte, Int.reduceAdd, g2710, g2711, h2713, h2716]
             repeat with_reducible refine And.intro (by first | kernel_rfl | decide) ?_
             (try rw [h2165] at h3378)
             (try rw [h2713] at h3378)
             (try rw [h2716] at h3378)
             refine cutQ _ ?_ ⟨n, Nat.lt_succ_self n, _, _, _, _, h3378, rfl⟩
             exact Wk_keep [4, 5, 7, 8, 37, 38] (by kernel_rfl)
            ·skip
             replace h3378 := casI_some h3378; rcases h3378 with ⟨rfl, h3378⟩ | ⟨_, h3378⟩
             ·simp only [go_sem, Int.reduceToNat] at h2713
              simp only [go_sem, Int.reduceAdd, wl3] at h2716
              refine W_sound tab_ok mixed 48 _ _ _ ?_
              simp -implicitDefEqProofs only [go_sem, Nat.reduceBEq, Nat.reduceAdd, Nat.reduceLT, Nat.reduceLeDiff, Int.reduceLE, Int.reduceLT, Int.reduceToNat, ↓reduceIte, Int.reduceAdd, g2710, g2711, h2713, h2716]
              repeat with_reducible refine And.intro (by first | kernel_rfl | decide) ?_
              (try rw [h2165] at h3378)
              (try rw [h2713] at h3378)
              (try rw [h2716] at h3378)
              refine cutQ _ ?_ ⟨n, Nat.lt_succ_self n, _, _, _, _, h3378, rfl⟩
              exact Wk_keep [4, 5, 7, 8, 37, 38] (by kernel_rfl)
             ·skip
              cases h3378
          ·skip
           cases h3378
       ·refine W_sound tab_ok mixed 7 _ _ _ ?_
        simp -implicitDefEqProofs only [go_sem, Nat.reduceBEq, Nat.reduceLT, Int.reduceLE, Int.reduceToNat, ↓reduceIte, h2709]
        repeat with_reducible refine And.intro (by first | kernel_rfl | decide) ?_
        obtain rfl := Option.some.inj h3378
        refine cutQ _ ?_ ⟨_, _, _, rfl, rfl⟩
        exact Wk_keep [5, 7, 8] (by kernel_rfl)
     ·rintro _ ⟨c2720, c2721, c2722, rfl, rfl⟩
      (try dsimp only at h3379)
      refine W_sound tab_ok mixed 6 _ _ _ ?_
      simp -implicitDefEqProofs only [go_sem, Nat.reduceBEq, Nat.reduceLT]
      repeat with_reducible refine And.intro (by first | kernel_rfl | decide) ?_
      replace h3379 := bnd'_some h3379; obtain ⟨o3380, h3381, h3382⟩ := h3379
      refine Wp_cut (fun s => ∃ c2796, ∃ c2797, ∃ c2798, (c2796, c2797, c2798) = o3380 ∧ s = ⟨[], [(0, .dead), (1, .dead), (2, .dead), (4, .dead), (5, .dead), (6, .dead), (7, .v (.int .i64 3)), (8, .sl false 0 0 3 1), (9, .dead), (10, .dead), (11, .dead), (12, .dead), (13, .dead), (15, .dead), (16, .dead), (18, .dead), (36, .dead), (37, .dead), (38, .dead), (39, .dead), (63, .dead), (64, .dead), (65, .dead), (74, .dead), (75, .dead), (76, .dead), (77, .dead)], [(0, .r [.sl false 1 0 3 1, .sl false 2 0 3 1, .sl false 3 0 3 1]), (1, .p c2796), (2, .p c2797), (3, .p c2798)], 4, []⟩) ?_ ?_
      ·refine Wp_block ?_
       refine Wp_loopG (fun n s => ∃ x2758, ∃ c2759, ∃ c2760, ∃ c2761, m9_L5 N p2159 p2160 p2161 p2162 p2163 n x2758 c2759 c2760 c2761 = some o3380 ∧ s = ⟨[], [(0, .dead), (1, .dead), (2, .dead), (4, .dead), (5, .ptr 0 0), (6, .dead), (7, .v (.int .i64 3)), (8, .sl false 1 0 3 1), (9, .dead), (10, .dead), (11, .dead), (12, .dead), (13, .dead), (15, .dead), (16, .dead), (18, .dead), (36, .dead), (37, .dead), (38, .dead), (39, .dead), (63, .v (.int .i64 3)), (64, .v (.int .i64 x2758)), (65, .dead), (74, .dead), (75, .dead), (76, .dead), (77, .dead)], [(0, .p [p2159, p2160, p2161, p2162, p2163]), (1, .r [.sl false 2 0 3 1, .sl false 3 0 3 1, .sl false 4 0 3 1]), (2, .p c2759), (3, .p c2760), (4, .p c2761)], 5, []⟩) N _ ?_ ⟨_, _, _, _, h3381, rfl⟩ ?_
       ·exact Wk_keep [5, 7, 8, 63, 64] (by kernel_rfl)
       clear h3381
       rintro n _ ⟨x2758, c2759, c2760, c2761, h3381, rfl⟩
       cases n with
       | zero => cases h3381
       | succ n =>
        rw [m9_L5] at h3381
        replace h3381 := brn_some h3381; rcases h3381 with ⟨h2762, h3381⟩ | ⟨h2762, h3381⟩
        ·replace h3381 := grd_some h3381; obtain ⟨⟨g2763, g2764⟩, h3381⟩ := h3381
         replace h3381 := grd_some h3381; obtain ⟨g2765, h3381⟩ := h3381
         replace h3381 := getI_some h3381; obtain ⟨x2767, h2766, h3381⟩ := h3381
         replace h3381 := grd_some h3381; obtain ⟨g2768, h3381⟩ := h3381
         refine W_sound tab_ok mixed 31 _ _ _ ?_
         simp -implicitDefEqProofs only [go_sem, Nat.reduceBEq, Nat.reduceAdd, Nat.reduceLT, Nat.reduceLeDiff, Int.reduceLE, Int.reduceToNat, ↓reduceIte, h2762, g2763, g2764, g2765, h2766, g2768]
         repeat with_reducible refine And.intro (by first | kernel_rfl | decide) ?_
         refine Wp_block ?_
         refine Wp_loopL (WpL_step ?_)
         replace h3381 := grd_some h3381; obtain ⟨⟨g2769, g2770⟩, h3381⟩ := h3381
         replace h3381 := grd_some h3381; obtain ⟨g2771, h3381⟩ := h3381
         replace h3381 := getI_some h3381; obtain ⟨x2773, h2772, h3381⟩ := h3381
         replace h3381 := grd_some h3381; obtain ⟨g2774, h3381⟩ := h3381
         replace h3381 := grd_some h3381; obtain ⟨g2775, h3381⟩ := h3381
         replace h3381 := getI_some h3381; obtain ⟨x2777, h2776, h3381⟩ := h3381
         replace h3381 := grd_some h3381; obtain ⟨g2778, h3381⟩ := h3381
         replace h3381 := grd_some h3381; obtain ⟨g2779, h3381⟩ := h3381
         refine W_sound tab_ok mixed 38 _ _ _ ?_
         simp -implicitDefEqProofs only [go_sem, Nat.reduceBEq, Nat.reduceAdd, Nat.reduceLT, Nat.reduceLeDiff, Int.reduceLE, Int.reduceLT, Int.reduceToNat, ↓reduceIte, Int.reduceAdd, g2763, g2769, g2770, g2771, h2772, g2774, g2775, h2776, g2778, g2779]
         repeat with_reducible refine And.intro (by first | kernel_rfl | decide) ?_
         refine again (Wk_keep (st' := ⟨[], [(0, .dead), (1, .dead), (2, .dead), (4, .dead), (5, .ptr 0 0), (6, .dead), (7, .v (.int .i64 3)), (8, .sl false 1 0 3 1), (9, .dead), (10, .dead), (11, .dead), (12, .v (.int .i64 x2758)), (13, .v (.int .i64 (Int.tmod (IntKind.i64.wrap x2767) (IntKind.i64.wrap (x2758 + 1))))), (15, .dead), (16, .dead), (18, .dead), (36, .dead), (37, .dead), (38, .dead), (39, .dead), (63, .v (.int .i64 3)), (64, .v (.int .i64 x2758)), (65, .dead), (74, .sl false 1 0 3 1), (75, .v (.int .i64 3)), (76, .v (.int .i64 1)), (77, .dead)], [(0, .p [p2159, p2160, p2161, p2162, p2163]), (1, .r [.sl false 2 0 3 1, .sl false 3 0 3 1, .sl false 4 0 3 1]), (2, .p (List.set (List.set c2759 (Int.toNat x2758) (.int .i64 x2773)) (Int.toNat (Int.tmod (IntKind.i64.wrap x2767) (IntKind.i64.wrap (x2758 + 1)))) (.int .i64 x2777))), (3, .p c2760), (4, .p c2761)], 5, []⟩) [5, 7, 8, 12, 13, 63, 64, 74, 75, 76] (by kernel_rfl)) ?_
         replace h3381 := grd_some h3381; obtain ⟨g2780, h3381⟩ := h3381
         replace h3381 := getI_some h3381; obtain ⟨x2782, h2781, h3381⟩ := h3381
         replace h3381 := grd_some h3381; obtain ⟨g2783, h3381⟩ := h3381
         replace h3381 := getI_some h3381; obtain ⟨x2785, h2784, h3381⟩ := h3381
         replace h3381 := grd_some h3381; obtain ⟨g2786, h3381⟩ := h3381
         replace h3381 := grd_some h3381; obtain ⟨g2787, h3381⟩ := h3381
         refine W_sound tab_ok mixed 38 _ _ _ ?_
         simp -implicitDefEqProofs only [go_sem, Nat.reduceBEq, Nat.reduceAdd, Nat.reduceLT, Nat.reduceLeDiff, Int.reduceLE, Int.reduceLT, Int.reduceToNat, ↓reduceIte, Int.reduceAdd, g2763, g2769, g2770, g2774, g2780, h2781, g2783, h2784, g2786, g2787]
         repeat with_reducible refine And.intro (by first | kernel_rfl | decide) ?_
         refine again (Wk_keep (st' := ⟨[], [(0, .dead), (1, .dead), (2, .dead), (4, .dead), (5, .ptr 0 0), (6, .dead), (7, .v (.int .i64 3)), (8, .sl false 1 0 3 1), (9, .dead), (10, .dead), (11, .dead), (12, .v (.int .i64 x2758)), (13, .v (.int .i64 (Int.tmod (IntKind.i64.wrap x2767) (IntKind.i64.wrap (x2758 + 1))))), (15, .dead), (16, .dead), (18, .dead), (36, .dead), (37, .dead), (38, .dead), (39, .dead), (63, .v (.int .i64 3)), (64, .v (.int .i64 x2758)), (65, .dead), (74, .sl false 1 0 3 1), (75, .v (.int .i64 3)), (76, .v (.int .i64 2)), (77, .dead)], [(0, .p [p2159, p2160, p2161, p2162, p2163]), (1, .r [.sl false 2 0 3 1, .sl false 3 0 3 1, .sl false 4 0 3 1]), (2, .p (List.set (List.set c2759 (Int.toNat x2758) (.int .i64 x2773)) (Int.toNat (Int.tmod (IntKind.i64.wrap x2767) (IntKind.i64.wrap (x2758 + 1)))) (.int .i64 x2777))), (3, .p (List.set (List.set c2760 (Int.toNat x2758) (.int .i64 x2782)) (Int.toNat (Int.tmod (IntKind.i64.wrap x2767) (IntKind.i64.wrap (x2758 + 1)))) (.int .i64 x2785))), (4, .p c2761)], 5, []⟩) [5, 7, 8, 12, 13, 63, 64, 74, 75, 76] (by kernel_rfl)) ?_
         replace h3381 := grd_some h3381; obtain ⟨g2788, h3381⟩ := h3381
         replace h3381 := getI_some h3381; obtain ⟨x2790, h2789, h3381⟩ := h3381
         replace h3381 := grd_some h3381; obtain ⟨g2791, h3381⟩ := h3381
         replace h3381 := getI_some h3381; obtain ⟨x2793, h2792, h3381⟩ := h3381
         replace h3381 := grd_some h3381; obtain ⟨g2794, h3381⟩ := h3381
         replace h3381 := grd_some h3381; obtain ⟨g2795, h3381⟩ := h3381
         refine W_sound tab_ok mixed 38 _ _ _ ?_
         simp -implicitDefEqProofs only [go_sem, Nat.reduceBEq, Nat.reduceAdd, Nat.reduceLT, Int.reduceLE, Int.reduceLT, Int.reduceToNat, ↓reduceIte, Int.reduceAdd, g2763, g2769, g2770, g2774, g2788, h2789, g2791, h2792, g2794, g2795]
         repeat with_reducible refine And.intro (by first | kernel_rfl | decide) ?_
         refine again (Wk_keep (st' := ⟨[], [(0, .dead), (1, .dead), (2, .dead), (4, .dead), (5, .ptr 0 0), (6, .dead), (7, .v (.int .i64 3)), (8, .sl false 1 0 3 1), (9, .dead), (10, .dead), (11, .dead), (12, .v (.int .i64 x2758)), (13, .v (.int .i64 (Int.tmod (IntKind.i64.wrap x2767) (IntKind.i64.wrap (x2758 + 1))))), (15, .dead), (16, .dead), (18, .dead), (36, .dead), (37, .dead), (38, .dead), (39, .dead), (63, .v (.int .i64 3)), (64, .v (.int .i64 x2758)), (65, .dead), (74, .sl false 1 0 3 1), (75, .v (.int .i64 3)), (76, .v (.int .i64 3)), (77, .dead)], [(0, .p [p2159, p2160, p2161, p2162, p2163]), (1, .r [.sl false 2 0 3 1, .sl false 3 0 3 1, .sl false 4 0 3 1]), (2, .p (List.set (List.set c2759 (Int.toNat x2758) (.int .i64 x2773)) (Int.toNat (Int.tmod (IntKind.i64.wrap x2767) (IntKind.i64.wrap (x2758 + 1)))) (.int .i64 x2777))), (3, .p (List.set (List.set c2760 (Int.toNat x2758) (.int .i64 x2782)) (Int.toNat (Int.tmod (IntKind.i64.wrap x2767) (IntKind.i64.wrap (x2758 + 1)))) (.int .i64 x2785))), (4, .p (List.set (List.set c2761 (Int.toNat x2758) (.int .i64 x2790)) (Int.toNat (Int.tmod (IntKind.i64.wrap x2767) (IntKind.i64.wrap (x2758 + 1)))) (.int .i64 x2793)))], 5, []⟩) [5, 7, 8, 12, 13, 63, 64, 74, 75, 76] (by kernel_rfl)) ?_
         refine W_sound tab_ok mixed 12 _ _ _ ?_
         simp -implicitDefEqProofs only [go_sem, Nat.reduceBEq, Nat.reduceLT, Int.reduceLE, Int.reduceLT, Int.reduceToNat, ↓reduceIte]
         repeat with_reducible refine And.intro (by first | kernel_rfl | decide) ?_
         (try rw [h2165] at h3381)
         (try rw [h2766] at h3381)
         (try rw [h2772] at h3381)
         (try rw [h2776] at h3381)
         (try rw [h2781] at h3381)
         (try rw [h2784] at h3381)
         (try rw [h2789] at h3381)
         (try rw [h2792] at h3381)
         refine cutQ _ ?_ ⟨n, Nat.lt_succ_self n, _, _, _, _, h3381, rfl⟩
         exact Wk_keep [5, 7, 8, 63, 64] (by kernel_rfl)
        ·refine W_sound tab_ok mixed 7 _ _ _ ?_
         simp -implicitDefEqProofs only [go_sem, Nat.reduceBEq, Nat.reduceLT, Int.reduceLE, Int.reduceToNat, ↓reduceIte, h2762]
         repeat with_reducible refine And.intro (by first | kernel_rfl | decide) ?_
         obtain rfl := Option.some.inj h3381
         refine cutQ _ ?_ ⟨_, _, _, rfl, rfl⟩
         exact Wk_keep [7, 8] (by kernel_rfl)
      ·rintro _ ⟨c2796, c2797, c2798, rfl, rfl⟩
       (try dsimp only at h3382)
       refine W_sound tab_ok mixed 1 _ _ _ ?_
       simp -implicitDefEqProofs only [go_sem]
       repeat with_reducible refine And.intro (by first | kernel_rfl | decide) ?_
       replace h3382 := grd_some h3382; obtain ⟨g2799, h3382⟩ := h3382
       refine Wp_wkK (Wk_freeze 1 c2796 (by rfl) (by decide) (by decide)) rfl ?_
       simp -implicitDefEqProofs only [go_sem, Nat.reduceBEq, g2799]
       replace h3382 := grd_some h3382; obtain ⟨g2800, h3382⟩ := h3382
       refine Wp_wkK (Wk_freeze 2 c2797 (by rfl) (by decide) (by decide)) rfl ?_
       simp -implicitDefEqProofs only [go_sem, Nat.reduceBEq, g2800]
       replace h3382 := grd_some h3382; obtain ⟨g2801, h3382⟩ := h3382
       refine Wp_wkK (Wk_freeze 3 c2798 (by rfl) (by decide) (by decide)) rfl ?_
       simp -implicitDefEqProofs only [go_sem, Nat.reduceBEq, g2801]
       refine Wp_wkK (Wk_freeze 0 [(.lst false 3 c2796), (.lst false 3 c2797), (.lst false 3 c2798)] (by rfl) (by decide) (by decide)) rfl ?_
       simp -implicitDefEqProofs only [go_sem, Nat.reduceBEq, Nat.reduceAdd]
       replace h3382 := bnd'_some h3382; obtain ⟨p2802, h2803, h3382⟩ := h3382
       refine W_sound tab_ok mixed 3 _ _ _ ?_
       simp -implicitDefEqProofs only [go_sem, Nat.reduceBEq, Nat.reduceLT]
       repeat with_reducible refine And.intro (by first | kernel_rfl | decide) ?_
       refine Wp_callP (c35 N _ _ _ h2803) (by kernel_rfl) rfl rfl rfl rfl (by decide) ?_
       replace h3382 := getT2_some h3382; obtain ⟨p2805, p2806, h2804, h3382⟩ := h3382
       replace h3382 := getI_some h3382; obtain ⟨x2808, h2807, h3382⟩ := h3382
       replace h3382 := getI_some h3382; obtain ⟨x2810, h2809, h3382⟩ := h3382
       replace h3382 := bnd'_some h3382; obtain ⟨p2811, h2812, h3382⟩ := h3382
       refine W_sound tab_ok mixed 10 _ _ _ ?_
       simp -implicitDefEqProofs only [go_sem, Nat.reduceBEq, Nat.reduceLT, Int.reduceLE, Int.reduceToNat, ↓reduceIte, Int.reduceAdd, h2804, h2807, h2809]
       repeat with_reducible refine And.intro (by first | kernel_rfl | decide) ?_
       refine Wp_callP (c31 N _ _ h2812) (by kernel_rfl) rfl rfl rfl rfl (by decide) ?_
       replace h3382 := getT2_some h3382; obtain ⟨p2814, p2815, h2813, h3382⟩ := h3382
       replace h3382 := getL_some h3382; obtain ⟨n2817, c2818, h2816, h3382⟩ := h3382
       replace h3382 := getI_some h3382; obtain ⟨x2820, h2819, h3382⟩ := h3382
       replace h3382 := brn_some h3382; rcases h3382 with ⟨h2821, h3382⟩ | ⟨h2821, h3382⟩
       ·replace h3382 := bnd'_some h3382; obtain ⟨p2822, h2823, h3382⟩ := h3382
        refine W_sound tab_ok mixed 13 _ _ _ ?_
        simp -implicitDefEqProofs only [go_sem, Nat.reduceBEq, Nat.reduceAdd, Nat.reduceLT, Nat.reduceLeDiff, ↓reduceIte, h2813, h2816, h2819, h2821]
        repeat with_reducible refine And.intro (by first | kernel_rfl | decide) ?_
        refine Wp_callF [(116, [(.int .i64 0), (.int .i64 1), (.int .i64 0), (.int .i64 3), (.int .i64 0), (.int .i64 15)])] (FnP_le (c43 N _ _ h2823) (.cons _ _ _ _ (.lst true false _ _ _ (fun h => by first | exact h | cases h) (PLes.refl _)) .nil) (.refl _)) (by kernel_rfl) rfl rfl rfl (by simp only [go_sem, Nat.reduceBEq, Nat.reduceAdd, Nat.reduceLT] <;> rfl) (by decide) rfl (by simp [roF, obL]) rfl ?_
        replace h3382 := getL_some h3382; obtain ⟨n2825, c2826, h2824, h3382⟩ := h3382
        replace h3382 := grd_some h3382; obtain ⟨g2827, h3382⟩ := h3382
        replace h3382 := grd_some h3382; obtain ⟨g2828, h3382⟩ := h3382
        replace h3382 := getI_some h3382; obtain ⟨x2830, h2829, h3382⟩ := h3382
        replace h3382 := brn_some h3382; rcases h3382 with ⟨h2831, h3382⟩ | ⟨h2831, h3382⟩
        ·replace h3382 := brn_some h3382; rcases h3382 with ⟨h2832, h3382⟩ | ⟨h2832, h3382⟩
         ·replace h3382 := bnd'_some h3382; obtain ⟨p2833, h2834, h3382⟩ := h3382
          refine W_sound tab_ok mixed 10 _ _ _ ?_
          simp -implicitDefEqProofs only [go_sem, Nat.reduceBEq, Nat.reduceLT, Int.reduceLE, Int.reduceToNat, ↓reduceIte, h2824, g2827, g2828, h2829, h2831, h2832]
          repeat with_reducible refine And.intro (by first | kernel_rfl | decide) ?_
          refine Wp_callP (c16 N  _ h2834) (by kernel_rfl) rfl rfl rfl rfl (by decide) ?_
          replace h3382 := getB_some h3382; obtain ⟨b2836, h2835, h3382⟩ := h3382
          refine W_sound tab_ok mixed 5 _ _ _ ?_
          simp -implicitDefEqProofs only [go_sem, Nat.reduceBEq, Nat.reduceAdd, Nat.reduceLT, Nat.reduceLeDiff, h2835]
          repeat with_reducible refine And.intro (by first | kernel_rfl | decide) ?_
          obtain rfl := Option.some.inj h3382
          exact finC [(6, .v (.bool b2836))] [(6, .v (.bool b2836))] (by simp [leE, lk_cons]) (.cons _ _ _ _ _ (.v _ _ (.refl _)) .nil) (by rfl) (by simp [leE, lk_cons]) (by decide) (by decide) rfl (by simp only [go_sem, Nat.reduceBEq, resQ_tmp, resQ_nil, retD_one]; try simp [R.val, retD_one, retD_two, retD_three, retD_none])
         ·refine W_sound tab_ok mixed 16 _ _ _ ?_
          simp -implicitDefEqProofs only [go_sem, Nat.reduceBEq, Nat.reduceAdd, Nat.reduceLT, Nat.reduceLeDiff, Int.reduceLE, Int.reduceToNat, ↓reduceIte, h2824, g2827, g2828, h2829, h2831, h2832]
          repeat with_reducible refine And.intro (by first | kernel_rfl | decide) ?_
          obtain rfl := Option.some.inj h3382
          exact finC [(6, .v (.bool false))] [(6, .v (.bool false))] (by simp [leE, lk_cons]) (.cons _ _ _ _ _ (.v _ _ (.refl _)) .nil) (by rfl) (by simp [leE, lk_cons]) (by decide) (by decide) rfl (by simp only [go_sem, Nat.reduceBEq, resQ_tmp, resQ_nil, retD_one]; try simp [R.val, retD_one, retD_two, retD_three, retD_none])
        ·refine W_sound tab_ok mixed 16 _ _ _ ?_
         simp -implicitDefEqProofs only [go_sem, Nat.reduceBEq, Nat.reduceAdd, Nat.reduceLT, Nat.reduceLeDiff, Int.reduceLE, Int.reduceToNat, ↓reduceIte, h2824, g2827, g2828, h2829, h2831]
         repeat with_reducible refine And.intro (by first | kernel_rfl | decide) ?_
         obtain rfl := Option.some.inj h3382
         exact finC [(6, .v (.bool false))] [(6, .v (.bool false))] (by simp [leE, lk_cons]) (.cons _ _ _ _ _ (.v _ _ (.refl _)) .nil) (by rfl) (by simp [leE, lk_cons]) (by decide) (by decide) rfl (by simp only [go_sem, Nat.reduceBEq, resQ_tmp, resQ_nil, retD_one]; try simp [R.val, retD_one, retD_two, retD_three, retD_none])
       ·refine W_sound tab_ok mixed 30 _ _ _ ?_
        simp -implicitDefEqProofs only [go_sem, Nat.reduceBEq, Nat.reduceLT, ↓reduceIte, h2813, h2816, h2819, h2821]
        repeat with_reducible refine And.intro (by first | kernel_rfl | decide) ?_
        obtain rfl := Option.some.inj h3382
        exact finC [(6, .v (.bool false))] [(6, .v (.bool false))] (by simp [leE, lk_cons]) (.cons _ _ _ _ _ (.v _ _ (.refl _)) .nil) (by rfl) (by simp [leE, lk_cons]) (by decide) (by decide) rfl (by simp only [go_sem, Nat.reduceBEq, resQ_tmp, resQ_nil, retD_one]; try simp [R.val, retD_one, retD_two, retD_three, retD_none])
    ·refine W_sound tab_ok mixed 10 _ _ _ ?_
     simp -implicitDefEqProofs only [go_sem, Nat.reduceBEq, Nat.reduceAdd, Nat.reduceSub, Nat.reduceMul, Nat.reduceLT, h2690, h2692]
     repeat with_reducible refine And.intro (by first | kernel_rfl | decide) ?_
     obtain rfl := Option.some.inj h
     exact finC [(6, .v (.bool false))] [(6, .v (.bool false))] (by simp [leE, lk_cons]) (.cons _ _ _ _ _ (.v _ _ (.refl _)) .nil) (by rfl) (by simp [leE, lk_cons]) (by decide) (by decide) rfl (by simp only [go_sem, Nat.reduceBEq, resQ_tmp, resQ_nil, retD_one]; try simp [R.val, retD_one, retD_two, retD_three, retD_none])
   ·skip
    replace h := casI_some h; rcases h with ⟨h2165, h⟩ | ⟨_, h⟩
    ·refine W_sound tab_ok mixed 17 _ _ _ ?_
     simp -implicitDefEqProofs only [go_sem, Nat.reduceBEq, Nat.reduceAdd, Nat.reduceLT, Nat.reduceLeDiff, Int.reduceLE, Int.reduceToNat, ↓reduceIte, h2152, h2158, h2165]
     repeat with_reducible refine And.intro (by first | kernel_rfl | decide) ?_
     refine Wp_callD [] c31k_4 rfl rfl rfl (by first | rfl | (simp only [go_sem, Nat.reduceBEq, Nat.reduceAdd, Nat.reduceSub, Nat.reduceMul, Nat.reduceLT, Nat.reduceLeDiff, Int.reduceLE, Int.reduceLT, Int.reduceToNat, Int.reduceBEq, Int.reduceBNe, ↓reduceIte, Int.reduceAdd, Int.reduceSub, Int.reduceGT, Int.reduceGE, h2152, h2158, g2164, h2165] <;> rfl)) rfl (by kernel_rfl) ?_
     replace h := bnd'_some h; obtain ⟨p2837, h2838, h⟩ := h
     refine W_sound tab_ok mixed 14 _ _ _ ?_
     simp -implicitDefEqProofs only [go_sem, Nat.reduceBEq, Nat.reduceAdd, Nat.reduceSub, Nat.reduceMul, Nat.reduceLT, Nat.reduceLeDiff, Int.reduceBNe, ↓reduceIte]
     repeat with_reducible refine And.intro (by first | kernel_rfl | decide) ?_
     refine Wp_callP (c42 N _ _ h2838) (by kernel_rfl) rfl rfl rfl rfl (by decide) ?_
     replace h := getL_some h; obtain ⟨n2840, c2841, h2839, h⟩ := h
     replace h := bnd'_some h; obtain ⟨p2913, h2914, h⟩ := h
     (try dsimp only at h)
     (try simp -implicitDefEqProofs only [go_sem, h2839])
     refine Wp_callD [31, 1031, 2031, 3031, 4031] (c21_5 N _ _ _ _ _ _ h2914) rfl rfl rfl (by first | rfl | (simp only [go_sem, Nat.reduceBEq, Nat.reduceAdd, Nat.reduceSub, Nat.reduceMul, Nat.reduceLT, Nat.reduceLeDiff, Int.reduceLE, Int.reduceLT, Int.reduceToNat, Int.reduceBEq, Int.reduceBNe, ↓reduceIte, Int.reduceAdd, Int.reduceSub, Int.reduceGT, Int.reduceGE, h2152, h2158, g2164, h2165, h2839] <;> rfl)) rfl (by kernel_rfl) ?_
     replace h := getB_some h; obtain ⟨b2916, h2915, h⟩ := h
     replace h := brn_some h; rcases h with ⟨h2917, h⟩ | ⟨h2917, h⟩
     ·refine W_sound tab_ok mixed 11 _ _ _ ?_
      simp -implicitDefEqProofs only [go_sem, Nat.reduceBEq, Nat.reduceAdd, Nat.reduceSub, Nat.reduceMul, Nat.reduceLT, h2915, h2917]
      repeat with_reducible refine And.intro (by first | kernel_rfl | decide) ?_
      replace h := bnd'_some h; obtain ⟨o3383, h3384, h3385⟩ := h
      refine Wp_cut (fun s => ∃ c2948, ∃ c2949, ∃ c2950, ∃ c2951, (c2948, c2949, c2950, c2951) = o3383 ∧ s = ⟨[], [(0, .dead), (1, .dead), (2, .dead), (4, .dead), (5, .ptr 0 0), (6, .dead), (7, .v (.int .i64 4)), (8, .sl false 1 0 4 1), (9, .dead), (10, .dead), (11, .dead), (12, .dead), (13, .dead), (15, .dead), (16, .dead), (18, .dead), (36, .dead), (37, .dead), (38, .dead), (39, .dead), (63, .dead), (64, .dead), (65, .dead), (74, .dead), (75, .dead), (76, .dead), (77, .dead)], [(0, .p [p2159, p2160, p2161, p2162, p2163]), (1, .r [.sl false 2 0 4 1, .sl false 3 0 4 1, .sl false 4 0 4 1, .sl false 5 0 4 1]), (2, .p c2948), (3, .p c2949), (4, .p c2950), (5, .p c2951)], 6, []⟩) ?_ ?_
      ·refine Wp_block ?_
       refine Wp_loopG (fun n s => ∃ x2931, ∃ c2932, ∃ c2933, ∃ c2934, ∃ c2935, m9_L2 N p2153 p2154 p2155 p2156 p2157 p2159 p2160 p2161 p2162 p2163 n x2931 c2932 c2933 c2934 c2935 = some o3383 ∧ s = ⟨[], [(0, .dead), (1, .dead), (2, .dead), (4, .ptr 0 0), (5, .ptr 1 0), (6, .dead), (7, .v (.int .i64 4)), (8, .sl false 2 0 4 1), (9, .dead), (10, .dead), (11, .dead), (12, .dead), (13, .dead), (15, .dead), (16, .dead), (18, .dead), (36, .dead), (37, .v (.int .i64 4)), (38, .v (.int .i64 x2931)), (39, .dead), (63, .dead), (64, .dead), (65, .dead), (74, .dead), (75, .dead), (76, .dead), (77, .dead)], [(0, .p [p2153, p2154, p2155, p2156, p2157]), (1, .p [p2159, p2160, p2161, p2162, p2163]), (2, .r [.sl false 3 0 4 1, .sl false 4 0 4 1, .sl false 5 0 4 1, .sl false 6 0 4 1]), (3, .p c2932), (4, .p c2933), (5, .p c2934), (6, .p c2935)], 7, []⟩) N _ ?_ ⟨_, _, _, _, _, h3384, rfl⟩ ?_
       ·exact Wk_keep [4, 5, 7, 8, 37, 38] (by kernel_rfl)
       clear h3384
       rintro n _ ⟨x2931, c2932, c2933, c2934, c2935, h3384, rfl⟩
       cases n with
       | zero => cases h3384
       | succ n =>
        rw [m9_L2] at h3384
        replace h3384 := brn_some h3384; rcases h3384 with ⟨h2936, h3384⟩ | ⟨h2936, h3384⟩
        ·replace h3384 := grd_some h3384; obtain ⟨⟨g2937, g2938⟩, h3384⟩ := h3384
         replace h3384 := grd_some h3384; obtain ⟨g2939, h3384⟩ := h3384
         replace h3384 := getI_some h3384; obtain ⟨x2941, h2940, h3384⟩ := h3384
         replace h3384 := grd_some h3384; obtain ⟨g2942, h3384⟩ := h3384
         replace h3384 := casI_some h3384; rcases h3384 with ⟨h2943, h3384⟩ | ⟨_, h3384⟩
         ·replace h3384 := casI_some h3384; rcases h3384 with ⟨rfl, h3384⟩ | ⟨_, h3384⟩
          ·simp only [go_sem] at h2940
           simp only [go_sem, Int.reduceAdd, wl1] at h2943
           refine W_sound tab_ok mixed 48 _ _ _ ?_
           simp -implicitDefEqProofs only [go_sem, Nat.reduceBEq, Nat.reduceAdd, Nat.reduceLT, Nat.reduceLeDiff, Int.reduceLE, Int.reduceLT, Int.reduceToNat, ↓reduceIte, Int.reduceAdd, g2937, g2938, h2940, h2943]
           repeat with_reducible refine And.intro (by first | kernel_rfl | decide) ?_
           (try rw [h2165] at h3384)
           (try rw [h2940] at h3384)
           (try rw [h2943] at h3384)
           refine cutQ _ ?_ ⟨n, Nat.lt_succ_self n, _, _, _, _, _, h3384, rfl⟩
           exact Wk_keep [4, 5, 7, 8, 37, 38] (by kernel_rfl)
          ·skip
           replace h3384 := casI_some h3384; rcases h3384 with ⟨rfl, h3384⟩ | ⟨_, h3384⟩
           ·simp only [go_sem, Int.reduceToNat] at h2940
            simp only [go_sem, Int.reduceAdd, wl2] at h2943
            refine W_sound tab_ok mixed 48 _ _ _ ?_
            simp -implicitDefEqProofs only [go_sem, Nat.reduceBEq, Nat.reduceAdd, Nat.reduceLT, Nat.reduceLeDiff, Int.reduceLE, Int.reduceLT, Int.reduceToNat, ↓reduceIte, Int.reduceAdd, g2937, g2938, h2940, h2943]
            repeat with_reducible refine And.intro (by first | kernel_rfl | decide) ?_
            (try rw [h2165] at h3384)
            (try rw [h2940] at h3384)
            (try rw [h2943] at h3384)
            refine cutQ _ ?_ ⟨n, Nat.lt_succ_self n, _, _, _, _, _, h3384, rfl⟩
            exact Wk_keep [4, 5, 7, 8, 37, 38] (by kernel_rfl)
           ·skip
            replace h3384 := casI_some h3384; rcases h3384 with ⟨rfl, h3384⟩ | ⟨_, h3384⟩
            ·simp only [go_sem, Int.reduceToNat] at h2940
             simp only [go_sem, Int.reduceAdd, wl3] at h2943
             refine W_sound tab_ok mixed 48 _ _ _ ?_
             simp -implicitDefEqProofs only [go_sem, Nat.reduceBEq, Nat.reduceAdd, Nat.reduceLT, Nat.reduceLeDiff, Int.reduceLE, Int.reduceLT, Int.reduceToNat, ↓reduceIte, Int.reduceAdd, g2937, g2938, h2940, h2943]
             repeat with_reducible refine And.intro (by first | kernel_rfl | decide) ?_
             (try rw [h2165] at h3384)
             (try rw [h2940] at h3384)
             (try rw [h2943] at h3384)
             refine cutQ _ ?_ ⟨n, Nat.lt_succ_self n, _, _, _, _, _, h3384, rfl⟩
             exact Wk_keep [4, 5, 7, 8, 37, 38] (by kernel_rfl)
            ·skip
             replace h3384 := casI_some h3384; rcases h3384 with ⟨rfl, h3384⟩ | ⟨_, h3384⟩
             ·simp only [go_sem, Int.reduceToNat] at h2940
              simp only [go_sem, Int.reduceAdd, wl4] at h2943
              refine W_sound tab_ok mixed 48 _ _ _ ?_
              simp -implicitDefEqProofs only [go_sem, Nat.reduceBEq, Nat.reduceAdd, Nat.reduceLT, Nat.reduceLeDiff, Int.reduceLE, Int.reduceLT, Int.reduceToNat, ↓reduceIte, Int.reduceAdd, g2937, g2938, h2940, h2943]
              repeat with_reducible refine And.intro (by first | kernel_rfl | decide) ?_
              (try rw [h2165] at h3384)
              (try rw [h2940] at h3384)
              (try rw [h2943] at h3384)
              refine cutQ _ ?_ ⟨n, Nat.lt_succ_self n, _, _, _, _, _, h3384, rfl⟩
              exact Wk_keep [4, 5, 7, 8, 37, 38] (by kernel_rfl)
             ·skip
              cases h3384
         ·skip
          replace h3384 := casI_some h3384; rcases h3384 with ⟨h2943, h3384⟩ | ⟨_, h3384⟩
          ·replace h3384 := casI_some h3384; rcases h3384 with ⟨rfl, h3384⟩ | ⟨_, h3384⟩
           ·simp only [go_sem] at h2940
            simp only [go_sem, Int.reduceAdd, wl1] at h2943
            refine W_sound tab_ok mixed 48 _ _ _ ?_
            simp -implicitDefEqProofs only [go_sem, Nat.reduceBEq, Nat.reduceAdd, Nat.reduceLT, Nat.reduceLeDiff, Int.reduceLE, Int.reduceLT, Int.reduceToNat, ↓reduceIte, Int.reduceAdd, g2937, g2938, h2940, h2943]
            repeat with_reducible refine And.intro (by first | kernel_rfl | decide) ?_
            (try rw [h2165] at h3384)
            (try rw [h2940] at h3384)
            (try rw [h2943] at h3384)
            refine cutQ _ ?_ ⟨n, Nat.lt_succ_self n, _, _, _, _, _, h3384, rfl⟩
            exact Wk_keep [4, 5, 7, 8, 37, 38] (by kernel_rfl)
           ·skip
            replace h3384 := casI_some h3384; rcases h3384 with ⟨rfl, h3384⟩ | ⟨_, h3384⟩
            ·simp only [go_sem, Int.reduceToNat] at h2940
             simp only [go_sem, Int.reduceAdd, wl2] at h2943
             refine W_sound tab_ok mixed 48 _ _ _ ?_
             simp -implicitDefEqProofs only [go_sem, Nat.reduceBEq, Nat.reduceAdd, Nat.reduceLT, Nat.reduceLeDiff, Int.reduceLE, Int.reduceLT, Int.reduceToNat, ↓reduceIte, Int.reduceAdd, g2937, g2938, h2940, h2943]
             repeat with_reducible refine And.intro (by first | kernel_rfl | decide) ?_
             (try rw [h2165] at h3384)
             (try rw [h2940] at h3384)
             (try rw [h2943] at h3384)
             refine cutQ _ ?_ ⟨n, Nat.lt_succ_self n, _, _, _, _, _, h3384, rfl⟩
             exact Wk_keep [4, 5, 7, 8, 37, 38] (by kernel_rfl)
            ·skip
             replace h3384 := casI_some h3384; rcases h3384 with ⟨rfl, h3384⟩ | ⟨_, h3384⟩
             ·simp only [go_sem, Int.reduceToNat] at h2940
              simp only [go_sem, Int.reduceAdd, wl3] at h2943
              refine W_sound tab_ok mixed 48 _ _ _ ?_
              simp -implicitDefEqProofs only [go_sem, Nat.reduceBEq, Nat.reduceAdd, Nat.reduceLT, Nat.reduceLeDiff, Int.reduceLE, Int.reduceLT, Int.reduceToNat, ↓reduceIte, Int.reduceAdd, g2937, g2938, h2940, h2943]
              repeat with_reducible refine And.intro (by first | kernel_rfl | decide) ?_
              (try rw [h2165] at h3384)
              (try rw [h2940] at h3384)
              (try rw [h2943] at h3384)
              refine cutQ _ ?_ ⟨n, Nat.lt_succ_self n, _, _, _, _, _, h3384, rfl⟩
              exact Wk_keep [4, 5, 7, 8, 37, 38] (by kernel_rfl)
             ·skip
              replace h3384 := casI_some h3384; rcases h3384 with ⟨rfl, h3384⟩ | ⟨_, h3384⟩
              ·simp only [go_sem, Int.reduceToNat] at h2940
               simp only [go_sem, Int.reduceAdd, wl4] at h2943
               refine W_sound tab_ok mixed 48 _ _ _ ?_
               simp -implicitDefEqProofs only [go_sem, Nat.reduceBEq, Nat.reduceAdd, Nat.reduceLT, Nat.reduceLeDiff, Int.reduceLE, Int.reduceLT, Int.reduceToNat, ↓reduceIte, Int.reduceAdd, g2937, g2938, h2940, h2943]
               repeat with_reducible refine And.intro (by first | kernel_rfl | decide) ?_
               (try rw [h2165] at h3384)
               (try rw [h2940] at h3384)
               (try rw [h2943] at h3384)
               refine cutQ _ ?_ ⟨n, Nat.lt_succ_self n, _, _, _, _, _, h3384, rfl⟩
               exact Wk_keep [4, 5, 7, 8, 37, 38] (by kernel_rfl)
              ·skip
               cases h3384
          ·skip
           replace h3384 := casI_some h3384; rcases h3384 with ⟨h2943, h3384⟩ | ⟨_, h3384⟩
           ·replace h3384 := casI_some h3384; rcases h3384 with ⟨rfl, h3384⟩ | ⟨_, h3384⟩
            ·simp only [go_sem] at h2940
             simp only [go_sem, Int.reduceAdd, wl1] at h2943
             refine W_sound tab_ok mixed 48 _ _ _ ?_
             simp -implicitDefEqProofs only [go_sem, Nat.reduceBEq, Nat.reduceAdd, Nat.reduceLT, Nat.reduceLeDiff, Int.reduceLE, Int.reduceLT, Int.reduceToNat, ↓reduceIte, Int.reduceAdd, g2937, g2938, h2940, h2943]
             repeat with_reducible refine And.intro (by first | kernel_rfl | decide) ?_
             (try rw [h2165] at h3384)
             (try rw [h2940] at h3384)
             (try rw [h2943] at h3384)
             refine cutQ _ ?_ ⟨n, Nat.lt_succ_self n, _, _, _, _, _, h3384, rfl⟩
             exact Wk_keep [4, 5, 7, 8, 37, 38] (by kernel_rfl)
            ·skip
             replace h3384 := casI_some h3384; rcases h3384 with ⟨rfl, h3384⟩ | ⟨_, h3384⟩
             ·simp only [go_sem, Int.reduceToNat] at h2940
              simp only [go_sem, Int.reduceAdd, wl2] at h2943
              refine W_sound tab_ok mixed 48 _ _ _ ?_
              simp -implicitDefEqProofs only [go_sem, Nat.reduceBEq, Nat.reduceAdd, Nat.reduceLT, Nat.reduceLeDiff, Int.reduceLE, Int.reduceLT, Int.reduceToNat, ↓reduceIte, Int.reduceAdd, g2937, g2938, h2940, h2943]
              repeat with_reducible refine And.intro (by first | kernel_rfl | decide) ?_
              (try rw [h2165] at h3384)
              (try rw [h2940] at h3384)
              (try rw [h2943] at h3384)
              refine cutQ _ ?_ ⟨n, Nat.lt_succ_self n, _, _, _, _, _, h3384, rfl⟩
              exact Wk_keep [4, 5, 7, 8, 37, 38] (by kernel_rfl)
             ·skip
              replace h3384 := casI_some h3384; rcases h3384 with ⟨rfl, h3384⟩ | ⟨_, h3384⟩
              ·simp only [go_sem, Int.reduceToNat] at h2940
               simp only [go_sem, Int.reduceAdd, wl3] at h2943
               refine W_sound tab_ok mixed 48 _ _ _ ?_
               simp -implicitDefEqProofs only [go_sem, Nat.reduceBEq, Nat.reduceAdd, Nat.reduceLT, Nat.reduceLeDiff, Int.reduceLE, Int.reduceLT, Int.reduceToNat, ↓reduceIte, Int.reduceAdd, g2937, g2938, h2940, h2943]
               repeat with_reducible refine And.intro (by first | kernel_rfl | decide) ?_
               (try rw [h2165] at h3384)
               (try rw [h2940] at h3384)
               (try rw [h2943] at h3384)
               refine cutQ _ ?_ ⟨n, Nat.lt_succ_self n, _, _, _, _, _, h3384, rfl⟩
               exact Wk_keep [4, 5, 7, 8, 37, 38] (by kernel_rfl)
              ·skip
               replace h3384 := casI_some h3384; rcases h3384 with ⟨rfl, h3384⟩ | ⟨_, h3384⟩
               ·simp only [go_sem, Int.reduceToNat] at h2940
                simp only [go_sem, Int.reduceAdd, wl4] at h2943
                refine W_sound tab_ok mixed 48 _ _ _ ?_
                simp -implicitDefEqProofs only [go_sem, Nat.reduceBEq, Nat.reduceAdd, Nat.reduceLT, Nat.reduceLeDiff, Int.reduceLE, Int.reduceLT, Int.reduceToNat, ↓reduceIte, Int.reduceAdd, g2937, g2938, h2940, h2943]
                repeat with_reducible refine And.intro (by first | kernel_rfl | decide) ?_
                (try rw [h2165] at h3384)
                (try rw [h2940] at h3384)
                (try rw [h2943] at h3384)
                refine cutQ _ ?_ ⟨n, Nat.lt_succ_self n, _, _, _, _, _, h3384, rfl⟩
                exact Wk_keep [4, 5, 7, 8, 37, 38] (by kernel_rfl)
               ·skip
                cases h3384
           ·skip
            replace h3384 := casI_some h3384; rcases h3384 with ⟨h2943, h3384⟩ | ⟨_, h3384⟩
            ·replace h3384 := casI_some h3384; rcases h3384 with ⟨rfl, h3384⟩ | ⟨_, h3384⟩
             ·simp only [go_sem] at h2940
              simp only [go_sem, Int.reduceAdd, wl1] at h2943
              refine W_sound tab_ok mixed 48 _ _ _ ?_
              simp -implicitDefEqProofs only [go_sem, Nat.reduceBEq, Nat.reduceAdd, Nat.reduceLT, Nat.reduceLeDiff, Int.reduceLE, Int.reduceLT, Int.reduceToNat, ↓reduceIte, Int.reduceAdd, g2937, g2938, h2940, h2943]
              repeat with_reducible refine And.intro (by first | kernel_rfl | decide) ?_
              (try rw [h2165] at h3384)
              (try rw [h2940] at h3384)
              (try rw [h2943] at h3384)
              refine cutQ _ ?_ ⟨n, Nat.lt_succ_self n, _, _, _, _, _, h3384, rfl⟩
              exact Wk_keep [4, 5, 7, 8, 37, 38] (by kernel_rfl)
             ·skip
              replace h3384 := casI_some h3384; rcases h3384 with ⟨rfl, h3384⟩ | ⟨_, h3384⟩
              ·simp only [go_sem, Int.reduceToNat] at h2940
               simp only [go_sem, Int.reduceAdd, wl2] at h2943
               refine W_sound tab_ok mixed 48 _ _ _ ?_
               simp -implicitDefEqProofs only [go_sem, Nat.reduceBEq, Nat.reduceAdd, Nat.reduceLT, Nat.reduceLeDiff, Int.reduceLE, Int.reduceLT, Int.reduceToNat, ↓reduceIte, Int.reduceAdd, g2937, g2938, h2940, h2943]
               repeat with_reducible refine And.intro (by first | kernel_rfl | decide) ?_
               (try rw [h2165] at h3384)
               (try rw [h2940] at h3384)
               (try rw [h2943] at h3384)
               refine cutQ _ ?_ ⟨n, Nat.lt_succ_self n, _, _, _, _, _, h3384, rfl⟩
               exact Wk_keep [4, 5, 7, 8, 37, 38] (by kernel_rfl)
              ·skip
               replace h3384 := casI_some h3384; rcases h3384 with ⟨rfl, h3384⟩ | ⟨_, h3384⟩
               ·simp only [go_sem, Int.reduceToNat] at h2940
                simp only [go_sem, Int.reduceAdd, wl3] at h2943
                refine W_sound tab_ok mixed 48 _ _ _ ?_
                simp -implicitDefEqProofs only [go_sem, Nat.reduceBEq, Nat.reduceAdd, Nat.reduceLT, Nat.reduceLeDiff, Int.reduceLE, Int.reduceLT, Int.reduceToNat, ↓reduceIte, Int.reduceAdd, g2937, g2938, h2940, h2943]
                repeat with_reducible refine And.intro (by first | kernel_rfl | decide) ?_
                (try rw [h2165] at h3384)
                (try rw [h2940] at h3384)
                (try rw [h2943] at h3384)
                refine cutQ _ ?_ ⟨n, Nat.lt_succ_self n, _, _, _, _, _, h3384, rfl⟩
                exact Wk_keep [4, 5, 7, 8, 37, 38] (by kernel_rfl)
               ·skip
                replace h3384 := casI_some h3384; rcases h3384 with ⟨rfl, h3384⟩ | ⟨_, h3384⟩
                ·simp only [go_sem, Int.reduceToNat] at h2940
                 simp only [go_sem, Int.reduceAdd, wl4] at h2943
                 refine W_sound tab_ok mixed 48 _ _ _ ?_
                 simp -implicitDefEqProofs only [go_sem, Nat.reduceBEq, Nat.reduceAdd, Nat.reduceLT, Nat.reduceLeDiff, Int.reduceLE, Int.reduceLT, Int.reduceToNat, ↓reduceIte, Int.reduceAdd, g2937, g2938, h2940, h2943]
                 repeat with_reducible refine And.intro (by first | kernel_rfl | decide) ?_
                 (try rw [h2165] at h3384)
                 (try rw [h2940] at h3384)
                 (try rw [h2943] at h3384)
                 refine cutQ _ ?_ ⟨n, Nat.lt_succ_self n, _, _, _, _, _, h3384, rfl⟩
                 exact Wk_keep [4, 5, 7, 8, 37, 38] (by kernel_rfl)
                ·skip
                 cases h3384
            ·skip
             cases h3384
        ·refine W_sound tab_ok mixed 7 _ _ _ ?_
         simp -implicitDefEqProofs only [go_sem, Nat.reduceBEq, Nat.reduceLT, Int.reduceLE, Int.reduceToNat, ↓reduceIte, h2936]
         repeat with_reducible refine And.intro (by first | kernel_rfl | decide) ?_
         obtain rfl := Option.some.inj h3384
         refine cutQ _ ?_ ⟨_, _, _, _, rfl, rfl⟩
         exact Wk_keep [5, 7, 8] (by kernel_rfl)
      ·rintro _ ⟨c2948, c2949, c2950, c2951, rfl, rfl⟩
       (try dsimp only at h3385)
       refine W_sound tab_ok mixed 6 _ _ _ ?_
       simp -implicitDefEqProofs only [go_sem, Nat.reduceBEq, Nat.reduceLT]
       repeat with_reducible refine And.intro (by first | kernel_rfl | decide) ?_
       replace h3385 := bnd'_some h3385; obtain ⟨o3386, h3387, h3388⟩ := h3385
       refine Wp_cut (fun s => ∃ c3042, ∃ c3043, ∃ c3044, ∃ c3045, (c3042, c3043, c3044, c3045) = o3386 ∧ s = ⟨[], [(0, .dead), (1, .dead), (2, .dead), (4, .dead), (5, .dead), (6, .dead), (7, .v (.int .i64 4)), (8, .sl false 0 0 4 1), (9, .dead), (10, .dead), (11, .dead), (12, .dead), (13, .dead), (15, .dead), (16, .dead), (18, .dead), (36, .dead), (37, .dead), (38, .dead), (39, .dead), (63, .dead), (64, .dead), (65, .dead), (74, .dead), (75, .dead), (76, .dead), (77, .dead)], [(0, .r [.sl false 1 0 4 1, .sl false 2 0 4 1, .sl false 3 0 4 1, .sl false 4 0 4 1]), (1, .p c3042), (2, .p c3043), (3, .p c3044), (4, .p c3045)], 5, []⟩) ?_ ?_
       ·refine Wp_block ?_
        refine Wp_loopG (fun n s => ∃ x2995, ∃ c2996, ∃ c2997, ∃ c2998, ∃ c2999, m9_L3 N p2159 p2160 p2161 p2162 p2163 n x2995 c2996 c2997 c2998 c2999 = some o3386 ∧ s = ⟨[], [(0, .dead), (1, .dead), (2, .dead), (4, .dead), (5, .ptr 0 0), (6, .dead), (7, .v (.int .i64 4)), (8, .sl false 1 0 4 1), (9, .dead), (10, .dead), (11, .dead), (12, .dead), (13, .dead), (15, .dead), (16, .dead), (18, .dead), (36, .dead), (37, .dead), (38, .dead), (39, .dead), (63, .v (.int .i64 4)), (64, .v (.int .i64 x2995)), (65, .dead), (74, .dead), (75, .dead), (76, .dead), (77, .dead)], [(0, .p [p2159, p2160, p2161, p2162, p2163]), (1, .r [.sl false 2 0 4 1, .sl false 3 0 4 1, .sl false 4 0 4 1, .sl false 5 0 4 1]), (2, .p c2996), (3, .p c2997), (4, .p c2998), (5, .p c2999)], 6, []⟩) N _ ?_ ⟨_, _, _, _, _, h3387, rfl⟩ ?_
        ·exact Wk_keep [5, 7, 8, 63, 64] (by kernel_rfl)
        clear h3387
        rintro n _ ⟨x2995, c2996, c2997, c2998, c2999, h3387, rfl⟩
        cases n with
        | zero => cases h3387
        | succ n =>
         rw [m9_L3] at h3387
         replace h3387 := brn_some h3387; rcases h3387 with ⟨h3000, h3387⟩ | ⟨h3000, h3387⟩
         ·replace h3387 := grd_some h3387; obtain ⟨⟨g3001, g3002⟩, h3387⟩ := h3387
          replace h3387 := grd_some h3387; obtain ⟨g3003, h3387⟩ := h3387
          replace h3387 := getI_some h3387; obtain ⟨x3005, h3004, h3387⟩ := h3387
          replace h3387 := grd_some h3387; obtain ⟨g3006, h3387⟩ := h3387
          refine W_sound tab_ok mixed 31 _ _ _ ?_
          simp -implicitDefEqProofs only [go_sem, Nat.reduceBEq, Nat.reduceAdd, Nat.reduceLT, Nat.reduceLeDiff, Int.reduceLE, Int.reduceToNat, ↓reduceIte, h3000, g3001, g3002, g3003, h3004, g3006]
          repeat with_reducible refine And.intro (by first | kernel_rfl | decide) ?_
          refine Wp_block ?_
          refine Wp_loopL (WpL_step ?_)
          replace h3387 := grd_some h3387; obtain ⟨⟨g3007, g3008⟩, h3387⟩ := h3387
          replace h3387 := grd_some h3387; obtain ⟨g3009, h3387⟩ := h3387
          replace h3387 := getI_some h3387; obtain ⟨x3011, h3010, h3387⟩ := h3387
          replace h3387 := grd_some h3387; obtain ⟨g3012, h3387⟩ := h3387
          replace h3387 := grd_some h3387; obtain ⟨g3013, h3387⟩ := h3387
          replace h3387 := getI_some h3387; obtain ⟨x3015, h3014, h3387⟩ := h3387
          replace h3387 := grd_some h3387; obtain ⟨g3016, h3387⟩ := h3387
          replace h3387 := grd_some h3387; obtain ⟨g3017, h3387⟩ := h3387
          refine W_sound tab_ok mixed 38 _ _ _ ?_
          simp -implicitDefEqProofs only [go_sem, Nat.reduceBEq, Nat.reduceAdd, Nat.reduceLT, Nat.reduceLeDiff, Int.reduceLE, Int.reduceLT, Int.reduceToNat, ↓reduceIte, Int.reduceAdd, g3001, g3007, g3008, g3009, h3010, g3012, g3013, h3014, g3016, g3017]
          repeat with_reducible refine And.intro (by first | kernel_rfl | decide) ?_
          refine again (Wk_keep (st' := ⟨[], [(0, .dead), (1, .dead), (2, .dead), (4, .dead), (5, .ptr 0 0), (6, .dead), (7, .v (.int .i64 4)), (8, .sl false 1 0 4 1), (9, .dead), (10, .dead), (11, .dead), (12, .v (.int .i64 x2995)), (13, .v (.int .i64 (Int.tmod (IntKind.i64.wrap x3005) (IntKind.i64.wrap (x2995 + 1))))), (15, .dead), (16, .dead), (18, .dead), (36, .dead), (37, .dead), (38, .dead), (39, .dead), (63, .v (.int .i64 4)), (64, .v (.int .i64 x2995)), (65, .dead), (74, .sl false 1 0 4 1), (75, .v (.int .i64 4)), (76, .v (.int .i64 1)), (77, .dead)], [(0, .p [p2159, p2160, p2161, p2162, p2163]), (1, .r [.sl false 2 0 4 1, .sl false 3 0 4 1, .sl false 4 0 4 1, .sl false 5 0 4 1]), (2, .p (List.set (List.set c2996 (Int.toNat x2995) (.int .i64 x3011)) (Int.toNat (Int.tmod (IntKind.i64.wrap x3005) (IntKind.i64.wrap (x2995 + 1)))) (.int .i64 x3015))), (3, .p c2997), (4, .p c2998), (5, .p c2999)], 6, []⟩) [5, 7, 8, 12, 13, 63, 64, 74, 75, 76] (by kernel_rfl)) ?_
          replace h3387 := grd_some h3387; obtain ⟨g3018, h3387⟩ := h3387
          replace h3387 := getI_some h3387; obtain ⟨x3020, h3019, h3387⟩ := h3387
          replace h3387 := grd_some h3387; obtain ⟨g3021, h3387⟩ := h3387
          replace h3387 := getI_some h3387; obtain ⟨x3023, h3022, h3387⟩ := h3387
          replace h3387 := grd_some h3387; obtain ⟨g3024, h3387⟩ := h3387
          replace h3387 := grd_some h3387; obtain ⟨g3025, h3387⟩ := h3387
          refine W_sound tab_ok mixed 38 _ _ _ ?_
          simp -implicitDefEqProofs only [go_sem, Nat.reduceBEq, Nat.reduceAdd, Nat.reduceLT, Nat.reduceLeDiff, Int.reduceLE, Int.reduceLT, Int.reduceToNat, ↓reduceIte, Int.reduceAdd, g3001, g3007, g3008, g3012, g3018, h3019, g3021, h3022, g3024, g3025]
          repeat with_reducible refine And.intro (by first | kernel_rfl | decide) ?_
          refine again (Wk_keep (st' := ⟨[], [(0, .dead), (1, .dead), (2, .dead), (4, .dead), (5, .ptr 0 0), (6, .dead), (7, .v (.int .i64 4)), (8, .sl false 1 0 4 1), (9, .dead), (10, .dead), (11, .dead), (12, .v (.int .i64 x2995)), (13, .v (.int .i64 (Int.tmod (IntKind.i64.wrap x3005) (IntKind.i64.wrap (x2995 + 1))))), (15, .dead), (16, .dead), (18, .dead), (36, .dead), (37, .dead), (38, .dead), (39, .dead), (63, .v (.int .i64 4)), (64, .v (.int .i64 x2995)), (65, .dead), (74, .sl false 1 0 4 1), (75, .v (.int .i64 4)), (76, .v (.int .i64 2)), (77, .dead)], [(0, .p [p2159, p2160, p2161, p2162, p2163]), (1, .r [.sl false 2 0 4 1, .sl false 3 0 4 1, .sl false 4 0 4 1, .sl false 5 0 4 1]), (2, .p (List.set (List.set c2996 (Int.toNat x2995) (.int .i64 x3011)) (Int.toNat (Int.tmod (IntKind.i64.wrap x3005) (IntKind.i64.wrap (x2995 + 1)))) (.int .i64 x3015))), (3, .p (List.set (List.set c2997 (Int.toNat x2995) (.int .i64 x3020)) (Int.toNat (Int.tmod (IntKind.i64.wrap x3005) (IntKind.i64.wrap (x2995 + 1)))) (.int .i64 x3023))), (4, .p c2998), (5, .p c2999)], 6, []⟩) [5, 7, 8, 12, 13, 63, 64, 74, 75, 76] (by kernel_rfl)) ?_
          replace h3387 := grd_some h3387; obtain ⟨g3026, h3387⟩ := h3387
          replace h3387 := getI_some h3387; obtain ⟨x3028, h3027, h3387⟩ := h3387
          replace h3387 := grd_some h3387; obtain ⟨g3029, h3387⟩ := h3387
          replace h3387 := getI_some h3387; obtain ⟨x3031, h3030, h3387⟩ := h3387
          replace h3387 := grd_some h3387; obtain ⟨g3032, h3387⟩ := h3387
          replace h3387 := grd_some h3387; obtain ⟨g3033, h3387⟩ := h3387
          refine W_sound tab_ok mixed 38 _ _ _ ?_
          simp -implicitDefEqProofs only [go_sem, Nat.reduceBEq, Nat.reduceAdd, Nat.reduceLT, Nat.reduceLeDiff, Int.reduceLE, Int.reduceLT, Int.reduceToNat, ↓reduceIte, Int.reduceAdd, g3001, g3007, g3008, g3012, g3026, h3027, g3029, h3030, g3032, g3033]
          repeat with_reducible refine And.intro (by first | kernel_rfl | decide) ?_
          refine again (Wk_keep (st' := ⟨[], [(0, .dead), (1, .dead), (2, .dead), (4, .dead), (5, .ptr 0 0), (6, .dead), (7, .v (.int .i64 4)), (8, .sl false 1 0 4 1), (9, .dead), (10, .dead), (11, .dead), (12, .v (.int .i64 x2995)), (13, .v (.int .i64 (Int.tmod (IntKind.i64.wrap x3005) (IntKind.i64.wrap (x2995 + 1))))), (15, .dead), (16, .dead), (18, .dead), (36, .dead), (37, .dead), (38, .dead), (39, .dead), (63, .v (.int .i64 4)), (64, .v (.int .i64 x2995)), (65, .dead), (74, .sl false 1 0 4 1), (75, .v (.int .i64 4)), (76, .v (.int .i64 3)), (77, .dead)], [(0, .p [p2159, p2160, p2161, p2162, p2163]), (1, .r [.sl false 2 0 4 1, .sl false 3 0 4 1, .sl false 4 0 4 1, .sl false 5 0 4 1]), (2, .p (List.set (List.set c2996 (Int.toNat x2995) (.int .i64 x3011)) (Int.toNat (Int.tmod (IntKind.i64.wrap x3005) (IntKind.i64.wrap (x2995 + 1)))) (.int .i64 x3015))), (3, .p (List.set (List.set c2997 (Int.toNat x2995) (.int .i64 x3020)) (Int.toNat (Int.tmod (IntKind.i64.wrap x3005) (IntKind.i64.wrap (x2995 + 1)))) (.int .i64 x3023))), (4, .p (List.set (List.set c2998 (Int.toNat x2995) (.int .i64 x3028)) (Int.toNat (Int.tmod (IntKind.i64.wrap x3005) (IntKind.i64.wrap (x2995 + 1)))) (.int .i64 x3031))), (5, .p c2999)], 6, []⟩) [5, 7, 8, 12, 13, 63, 64, 74, 75, 76] (by kernel_rfl)) ?_
          replace h3387 := grd_some h3387; obtain ⟨g3034, h3387⟩ := h3387
          replace h3387 := getI_some h3387; obtain ⟨x3036, h3035, h3387⟩ := h3387
          replace h3387 := grd_some h3387; obtain ⟨g3037, h3387⟩ := h3387
          replace h3387 := getI_some h3387; obtain ⟨x3039, h3038, h3387⟩ := h3387
          replace h3387 := grd_some h3387; obtain ⟨g3040, h3387⟩ := h3387
          replace h3387 := grd_some h3387; obtain ⟨g3041, h3387⟩ := h3387
          refine W_sound tab_ok mixed 38 _ _ _ ?_
          simp -implicitDefEqProofs only [go_sem, Nat.reduceBEq, Nat.reduceAdd, Nat.reduceLT, Int.reduceLE, Int.reduceLT, Int.reduceToNat, ↓reduceIte, Int.reduceAdd, g3001, g3007, g3008, g3012, g3034, h3035, g3037, h3038, g3040, g3041]
          repeat with_reducible refine And.intro (by first | kernel_rfl | decide) ?_
          refine again (Wk_keep (st' := ⟨[], [(0, .dead), (1, .dead), (2, .dead), (4, .dead), (5, .ptr 0 0), (6, .dead), (7, .v (.int .i64 4)), (8, .sl false 1 0 4 1), (9, .dead), (10, .dead), (11, .dead), (12, .v (.int .i64 x2995)), (13, .v (.int .i64 (Int.tmod (IntKind.i64.wrap x3005) (IntKind.i64.wrap (x2995 + 1))))), (15, .dead), (16, .dead), (18, .dead), (36, .dead), (37, .dead), (38, .dead), (39, .dead), (63, .v (.int .i64 4)), (64, .v (.int .i64 x2995)), (65, .dead), (74, .sl false 1 0 4 1), (75, .v (.int .i64 4)), (76, .v (.int .i64 4)), (77, .dead)], [(0, .p [p2159, p2160, p2161, p2162, p2163]), (1, .r [.sl false 2 0 4 1, .sl false 3 0 4 1, .sl false 4 0 4 1, .sl false 5 0 4 1]), (2, .p (List.set (List.set c2996 (Int.toNat x2995) (.int .i64 x3011)) (Int.toNat (Int.tmod (IntKind.i64.wrap x3005) (IntKind.i64.wrap (x2995 + 1)))) (.int .i64 x3015))), (3, .p (List.set (List.set c2997 (Int.toNat x2995) (.int .i64 x3020)) (Int.toNat (Int.tmod (IntKind.i64.wrap x3005) (IntKind.i64.wrap (x2995 + 1)))) (.int .i64 x3023))), (4, .p (List.set (List.set c2998 (Int.toNat x2995) (.int .i64 x3028)) (Int.toNat (Int.tmod (IntKind.i64.wrap x3005) (IntKind.i64.wrap (x2995 + 1)))) (.int .i64 x3031))), (5, .p (List.set (List.set c2999 (Int.toNat x2995) (.int .i64 x3036)) (Int.toNat (Int.tmod (IntKind.i64.wrap x3005) (IntKind.i64.wrap (x2995 + 1)))) (.int .i64 x3039)))], 6, []⟩) [5, 7, 8, 12, 13, 63, 64, 74, 75, 76] (by kernel_rfl)) ?_
          refine W_sound tab_ok mixed 12 _ _ _ ?_
          simp -implicitDefEqProofs only [go_sem, Nat.reduceBEq, Nat.reduceLT, Int.reduceLE, Int.reduceLT, Int.reduceToNat, ↓reduceIte]
          repeat with_reducible refine And.intro (by first | kernel_rfl | decide) ?_
          (try rw [h2165] at h3387)
          (try rw [h3004] at h3387)
          (try rw [h3010] at h3387)
          (try rw [h3014] at h3387)
          (try rw [h3019] at h3387)
          (try rw [h3022] at h3387)
          (try rw [h3027] at h3387)
          (try rw [h3030] at h3387)
          (try rw [h3035] at h3387)
          (try rw [h3038] at h3387)
          refine cutQ _ ?_ ⟨n, Nat.lt_succ_self n, _, _, _, _, _, h3387, rfl⟩
          exact Wk_keep [5, 7, 8, 63, 64] (by kernel_rfl)
         ·refine W_sound tab_ok mixed 7 _ _ _ ?_
          simp -implicitDefEqProofs only [go_sem, Nat.reduceBEq, Nat.reduceLT, Int.reduceLE, Int.reduceToNat, ↓reduceIte, h3000]
          repeat with_reducible refine And.intro (by first | kernel_rfl | decide) ?_
          obtain rfl := Option.some.inj h3387
          refine cutQ _ ?_ ⟨_, _, _, _, rfl, rfl⟩
          exact Wk_keep [7, 8] (by kernel_rfl)
       ·rintro _ ⟨c3042, c3043, c3044, c3045, rfl, rfl⟩
        (try dsimp only at h3388)
        refine W_sound tab_ok mixed 1 _ _ _ ?_
        simp -implicitDefEqProofs only [go_sem]
        repeat with_reducible refine And.intro (by first | kernel_rfl | decide) ?_
        replace h3388 := grd_some h3388; obtain ⟨g3046, h3388⟩ := h3388
        refine Wp_wkK (Wk_freeze 1 c3042 (by rfl) (by decide) (by decide)) rfl ?_
        simp -implicitDefEqProofs only [go_sem, Nat.reduceBEq, g3046]
        replace h3388 := grd_some h3388; obtain ⟨g3047, h3388⟩ := h3388
        refine Wp_wkK (Wk_freeze 2 c3043 (by rfl) (by decide) (by decide)) rfl ?_
        simp -implicitDefEqProofs only [go_sem, Nat.reduceBEq, g3047]
        replace h3388 := grd_some h3388; obtain ⟨g3048, h3388⟩ := h3388
        refine Wp_wkK (Wk_freeze 3 c3044 (by rfl) (by decide) (by decide)) rfl ?_
        simp -implicitDefEqProofs only [go_sem, Nat.reduceBEq, g3048]
        replace h3388 := grd_some h3388; obtain ⟨g3049, h3388⟩ := h3388
        refine Wp_wkK (Wk_freeze 4 c3045 (by rfl) (by decide) (by decide)) rfl ?_
        simp -implicitDefEqProofs only [go_sem, Nat.reduceBEq, g3049]
        refine Wp_wkK (Wk_freeze 0 [(.lst false 4 c3042), (.lst false 4 c3043), (.lst false 4 c3044), (.lst false 4 c3045)] (by rfl) (by decide) (by decide)) rfl ?_
        simp -implicitDefEqProofs only [go_sem, Nat.reduceBEq, Nat.reduceAdd]
        replace h3388 := bnd'_some h3388; obtain ⟨p3050, h3051, h3388⟩ := h3388
        refine W_sound tab_ok mixed 3 _ _ _ ?_
        simp -implicitDefEqProofs only [go_sem, Nat.reduceBEq, Nat.reduceLT]
        repeat with_reducible refine And.intro (by first | kernel_rfl | decide) ?_
        refine Wp_callP (c35 N _ _ _ h3051) (by kernel_rfl) rfl rfl rfl rfl (by decide) ?_
        replace h3388 := getT2_some h3388; obtain ⟨p3053, p3054, h3052, h3388⟩ := h3388
        replace h3388 := getI_some h3388; obtain ⟨x3056, h3055, h3388⟩ := h3388
        replace h3388 := getI_some h3388; obtain ⟨x3058, h3057, h3388⟩ := h3388
        replace h3388 := bnd'_some h3388; obtain ⟨p3059, h3060, h3388⟩ := h3388
        refine W_sound tab_ok mixed 10 _ _ _ ?_
        simp -implicitDefEqProofs only [go_sem, Nat.reduceBEq, Nat.reduceLT, Int.reduceLE, Int.reduceToNat, ↓reduceIte, Int.reduceAdd, h3052, h3055, h3057]
        repeat with_reducible refine And.intro (by first | kernel_rfl | decide) ?_
        refine Wp_callP (c31 N _ _ h3060) (by kernel_rfl) rfl rfl rfl rfl (by decide) ?_
        replace h3388 := getT2_some h3388; obtain ⟨p3062, p3063, h3061, h3388⟩ := h3388
        replace h3388 := getL_some h3388; obtain ⟨n3065, c3066, h3064, h3388⟩ := h3388
        replace h3388 := getI_some h3388; obtain ⟨x3068, h3067, h3388⟩ := h3388
        replace h3388 := brn_some h3388; rcases h3388 with ⟨h3069, h3388⟩ | ⟨h3069, h3388⟩
        ·replace h3388 := bnd'_some h3388; obtain ⟨p3070, h3071, h3388⟩ := h3388
         refine W_sound tab_ok mixed 13 _ _ _ ?_
         simp -implicitDefEqProofs only [go_sem, Nat.reduceBEq, Nat.reduceAdd, Nat.reduceLT, Nat.reduceLeDiff, ↓reduceIte, h3061, h3064, h3067, h3069]
         repeat with_reducible refine And.intro (by first | kernel_rfl | decide) ?_
         refine Wp_callF [(117, [(.int .i64 0), (.int .i64 1), (.int .i64 0), (.int .i64 3), (.int .i64 0), (.int .i64 15)])] (FnP_le (c43 N _ _ h3071) (.cons _ _ _ _ (.lst true false _ _ _ (fun h => by first | exact h | cases h) (PLes.refl _)) .nil) (.refl _)) (by kernel_rfl) rfl rfl rfl (by simp only [go_sem, Nat.reduceBEq, Nat.reduceAdd, Nat.reduceLT] <;> rfl) (by decide) rfl (by simp [roF, obL]) rfl ?_
         replace h3388 := getL_some h3388; obtain ⟨n3073, c3074, h3072, h3388⟩ := h3388
         replace h3388 := grd_some h3388; obtain ⟨g3075, h3388⟩ := h3388
         replace h3388 := grd_some h3388; obtain ⟨g3076, h3388⟩ := h3388
         replace h3388 := getI_some h3388; obtain ⟨x3078, h3077, h3388⟩ := h3388
         replace h3388 := brn_some h3388; rcases h3388 with ⟨h3079, h3388⟩ | ⟨h3079, h3388⟩
         ·replace h3388 := brn_some h3388; rcases h3388 with ⟨h3080, h3388⟩ | ⟨h3080, h3388⟩
          ·replace h3388 := bnd'_some h3388; obtain ⟨p3081, h3082, h3388⟩ := h3388
           refine W_sound tab_ok mixed 10 _ _ _ ?_
           simp -implicitDefEqProofs only [go_sem, Nat.reduceBEq, Nat.reduceLT, Int.reduceLE, Int.reduceToNat, ↓reduceIte, h3072, g3075, g3076, h3077, h3079, h3080]
           repeat with_reducible refine And.intro (by first | kernel_rfl | decide) ?_
           refine Wp_callP (c16 N  _ h3082) (by kernel_rfl) rfl rfl rfl rfl (by decide) ?_
           replace h3388 := getB_some h3388; obtain ⟨b3084, h3083, h3388⟩ := h3388
           refine W_sound tab_ok mixed 5 _ _ _ ?_
           simp -implicitDefEqProofs only [go_sem, Nat.reduceBEq, Nat.reduceAdd, Nat.reduceLT, Nat.reduceLeDiff, h3083]
           repeat with_reducible refine And.intro (by first | kernel_rfl | decide) ?_
           obtain rfl := Option.some.inj h3388
           exact finC [(6, .v (.bool b3084))] [(6, .v (.bool b3084))] (by simp [leE, lk_cons]) (.cons _ _ _ _ _ (.v _ _ (.refl _)) .nil) (by rfl) (by simp [leE, lk_cons]) (by decide) (by decide) rfl (by simp only [go_sem, Nat.reduceBEq, resQ_tmp, resQ_nil, retD_one]; try simp [R.val, retD_one, retD_two, retD_three, retD_none])
          ·refine W_sound tab_ok mixed 16 _ _ _ ?_
           simp -implicitDefEqProofs only [go_sem, Nat.reduceBEq, Nat.reduceAdd, Nat.reduceLT, Nat.reduceLeDiff, Int.reduceLE, Int.reduceToNat, ↓reduceIte, h3072, g3075, g3076, h3077, h3079, h3080]
           repeat with_reducible refine And.intro (by first | kernel_rfl | decide) ?_
           obtain rfl := Option.some.inj h3388
           exact finC [(6, .v (.bool false))] [(6, .v (.bool false))] (by simp [leE, lk_cons]) (.cons _ _ _ _ _ (.v _ _ (.refl _)) .nil) (by rfl) (by simp [leE, lk_cons]) (by decide) (by decide) rfl (by simp only [go_sem, Nat.reduceBEq, resQ_tmp, resQ_nil, retD_one]; try simp [R.val, retD_one, retD_two, retD_three, retD_none])
         ·refine W_sound tab_ok mixed 16 _ _ _ ?_
          simp -implicitDefEqProofs only [go_sem, Nat.reduceBEq, Nat.reduceAdd, Nat.reduceLT, Nat.reduceLeDiff, Int.reduceLE, Int.reduceToNat, ↓reduceIte, h3072, g3075, g3076, h3077, h3079]
          repeat with_reducible refine And.intro (by first | kernel_rfl | decide) ?_
          obtain rfl := Option.some.inj h3388
          exact finC [(6, .v (.bool false))] [(6, .v (.bool false))] (by simp [leE, lk_cons]) (.cons _ _ _ _ _ (.v _ _ (.refl _)) .nil) (by rfl) (by simp [leE, lk_cons]) (by decide) (by decide) rfl (by simp only [go_sem, Nat.reduceBEq, resQ_tmp, resQ_nil, retD_one]; try simp [R.val, retD_one, retD_two, retD_three, retD_none])
        ·refine W_sound tab_ok mixed 30 _ _ _ ?_
         simp -implicitDefEqProofs only [go_sem, Nat.reduceBEq, Nat.reduceLT, ↓reduceIte, h3061, h3064, h3067, h3069]
         repeat with_reducible refine And.intro (by first | kernel_rfl | decide) ?_
         obtain rfl := Option.some.inj h3388
         exact finC [(6, .v (.bool false))] [(6, .v (.bool false))] (by simp [leE, lk_cons]) (.cons _ _ _ _ _ (.v _ _ (.refl _)) .nil) (by rfl) (by simp [leE, lk_cons]) (by decide) (by decide) rfl (by simp only [go_sem, Nat.reduceBEq, resQ_tmp, resQ_nil, retD_one]; try simp [R.val, retD_one, retD_two, retD_three, retD_none])
     ·refine W_sound tab_ok mixed 10 _ _ _ ?_
      simp -implicitDefEqProofs only [go_sem, Nat.reduceBEq, Nat.reduceAdd, Nat.reduceSub, Nat.reduceMul, Nat.reduceLT, h2915, h2917]
      repeat with_reducible refine And.intro (by first | kernel_rfl | decide) ?_
      obtain rfl := Option.some.inj h
      exact finC [(6, .v (.bool false))] [(6, .v (.bool false))] (by simp [leE, lk_cons]) (.cons _ _ _ _ _ (.v _ _ (.refl _)) .nil) (by rfl) (by simp [leE, lk_cons]) (by decide) (by decide) rfl (by simp only [go_sem, Nat.reduceBEq, resQ_tmp, resQ_nil, retD_one]; try simp [R.val, retD_one, retD_two, retD_three, retD_none])
    ·skip
     replace h := casI_some h; rcases h with ⟨h2165, h⟩ | ⟨_, h⟩
     ·refine W_sound tab_ok mixed 17 _ _ _ ?_
      simp -implicitDefEqProofs only [go_sem, Nat.reduceBEq, Nat.reduceAdd, Nat.reduceLT, Nat.reduceLeDiff, Int.reduceLE, Int.reduceToNat, ↓reduceIte, h2152, h2158, h2165]
      repeat with_reducible refine And.intro (by first | kernel_rfl | decide) ?_
      refine Wp_callD [] c31k_5 rfl rfl rfl (by first | rfl | (simp only [go_sem, Nat.reduceBEq, Nat.reduceAdd, Nat.reduceSub, Nat.reduceMul, Nat.reduceLT, Nat.reduceLeDiff, Int.reduceLE, Int.reduceLT, Int.reduceToNat, Int.reduceBEq, Int.reduceBNe, ↓reduceIte, Int.reduceAdd, Int.reduceSub, Int.reduceGT, Int.reduceGE, h2152, h2158, g2164, h2165] <;> rfl)) rfl (by kernel_rfl) ?_
      replace h := bnd'_some h; obtain ⟨p3085, h3086, h⟩ := h
      refine W_sound tab_ok mixed 14 _ _ _ ?_
      simp -implicitDefEqProofs only [go_sem, Nat.reduceBEq, Nat.reduceAdd, Nat.reduceSub, Nat.reduceMul, Nat.reduceLT, Nat.reduceLeDiff, Int.reduceBNe, ↓reduceIte]
      repeat with_reducible refine And.intro (by first | kernel_rfl | decide) ?_
      refine Wp_callP (c42 N _ _ h3086) (by kernel_rfl) rfl rfl rfl rfl (by decide) ?_
      replace h := getL_some h; obtain ⟨n3088, c3089, h3087, h⟩ := h
      replace h := bnd'_some h; obtain ⟨p3172, h3173, h⟩ := h
      (try dsimp only at h)
      (try simp -implicitDefEqProofs only [go_sem, h3087])
      refine Wp_callD [31, 1031, 2031, 3031, 4031, 5031] (c21_6 N _ _ _ _ _ _ _ h3173) rfl rfl rfl (by first | rfl | (simp only [go_sem, Nat.reduceBEq, Nat.reduceAdd, Nat.reduceSub, Nat.reduceMul, Nat.reduceLT, Nat.reduceLeDiff, Int.reduceLE, Int.reduceLT, Int.reduceToNat, Int.reduceBEq, Int.reduceBNe, ↓reduceIte, Int.reduceAdd, Int.reduceSub, Int.reduceGT, Int.reduceGE, h2152, h2158, g2164, h2165, h3087] <;> rfl)) rfl (by kernel_rfl) ?_
      replace h := getB_some h; obtain ⟨b3175, h3174, h⟩ := h
      replace h := brn_some h; rcases h with ⟨h3176, h⟩ | ⟨h3176, h⟩
      ·refine W_sound tab_ok mixed 11 _ _ _ ?_
       simp -implicitDefEqProofs only [go_sem, Nat.reduceBEq, Nat.reduceAdd, Nat.reduceSub, Nat.reduceMul, Nat.reduceLT, h3174, h3176]
       repeat with_reducible refine And.intro (by first | kernel_rfl | decide) ?_
       replace h := bnd'_some h; obtain ⟨o3389, h3390, h3391⟩ := h
       refine Wp_cut (fun s => ∃ c3210, ∃ c3211, ∃ c3212, ∃ c3213, ∃ c3214, (c3210, c3211, c3212, c3213, c3214) = o3389 ∧ s = ⟨[], [(0, .dead), (1, .dead), (2, .dead), (4, .dead), (5, .ptr 0 0), (6, .dead), (7, .v (.int .i64 5)), (8, .sl false 1 0 5 1), (9, .dead), (10, .dead), (11, .dead), (12, .dead), (13, .dead), (15, .dead), (16, .dead), (18, .dead), (36, .dead), (37, .dead), (38, .dead), (39, .dead), (63, .dead), (64, .dead), (65, .dead), (74, .dead), (75, .dead), (76, .dead), (77, .dead)], [(0, .p [p2159, p2160, p2161, p2162, p2163]), (1, .r [.sl false 2 0 5 1, .sl false 3 0 5 1, .sl false 4 0 5 1, .sl false 5 0 5 1, .sl false 6 0 5 1]), (2, .p c3210), (3, .p c3211), (4, .p c3212), (5, .p c3213), (6, .p c3214)], 7, []⟩) ?_ ?_
       ·refine Wp_block ?_
        refine Wp_loopG (fun n s => ∃ x3191, ∃ c3192, ∃ c3193, ∃ c3194, ∃ c3195, ∃ c3196, m9_L0 N p2153 p2154 p2155 p2156 p2157 p2159 p2160 p2161 p2162 p2163 n x3191 c3192 c3193 c3194 c3195 c3196 = some o3389 ∧ s = ⟨[], [(0, .dead), (1, .dead), (2, .dead), (4, .ptr 0 0), (5, .ptr 1 0), (6, .dead), (7, .v (.int .i64 5)), (8, .sl false 2 0 5 1), (9, .dead), (10, .dead), (11, .dead), (12, .dead), (13, .dead), (15, .dead), (16, .dead), (18, .dead), (36, .dead), (37, .v (.int .i64 5)), (38, .v (.int .i64 x3191)), (39, .dead), (63, .dead), (64, .dead), (65, .dead), (74, .dead), (75, .dead), (76, .dead), (77, .dead)], [(0, .p [p2153, p2154, p2155, p2156, p2157]), (1, .p [p2159, p2160, p2161, p2162, p2163]), (2, .r [.sl false 3 0 5 1, .sl false 4 0 5 1, .sl false 5 0 5 1, .sl false 6 0 5 1, .sl false 7 0 5 1]), (3, .p c3192), (4, .p c3193), (5, .p c3194), (6, .p c3195), (7, .p c3196)], 8, []⟩) N _ ?_ ⟨_, _, _, _, _, _, h3390, rfl⟩ ?_
        ·exact Wk_keep [4, 5, 7, 8, 37, 38] (by kernel_rfl)
        clear h3390
        rintro n _ ⟨x3191, c3192, c3193, c3194, c3195, c3196, h3390, rfl⟩
        cases n with
        | zero => cases h3390
        | succ n =>
         rw [m9_L0] at h3390
         replace h3390 := brn_some h3390; rcases h3390 with ⟨h3197, h3390⟩ | ⟨h3197, h3390⟩
         ·replace h3390 := grd_some h3390; obtain ⟨⟨g3198, g3199⟩, h3390⟩ := h3390
          replace h3390 := grd_some h3390; obtain ⟨g3200, h3390⟩ := h3390
          replace h3390 := getI_some h3390; obtain ⟨x3202, h3201, h3390⟩ := h3390
          replace h3390 := grd_some h3390; obtain ⟨g3203, h3390⟩ := h3390
          replace h3390 := casI_some h3390; rcases h3390 with ⟨h3204, h3390⟩ | ⟨_, h3390⟩
          ·replace h3390 := casI_some h3390; rcases h3390 with ⟨rfl, h3390⟩ | ⟨_, h3390⟩
           ·simp only [go_sem] at h3201
            simp only [go_sem, Int.reduceAdd, wl1] at h3204
            refine W_sound tab_ok mixed 48 _ _ _ ?_
            simp -implicitDefEqProofs only [go_sem, Nat.reduceBEq, Nat.reduceAdd, Nat.reduceLT, Nat.reduceLeDiff, Int.reduceLE, Int.reduceToNat, ↓reduceIte, Int.reduceAdd, g3198, g3199, h3201, h3204]
            repeat with_reducible refine And.intro (by first | kernel_rfl | decide) ?_
            (try rw [h2165] at h3390)
            (try rw [h3201] at h3390)
            (try rw [h3204] at h3390)
            refine cutQ _ ?_ ⟨n, Nat.lt_succ_self n, _, _, _, _, _, _, h3390, rfl⟩
            exact Wk_keep [4, 5, 7, 8, 37, 38] (by kernel_rfl)
           ·skip
            replace h3390 := casI_some h3390; rcases h3390 with ⟨rfl, h3390⟩ | ⟨_, h3390⟩
            ·simp only [go_sem, Int.reduceToNat] at h3201
             simp only [go_sem, Int.reduceAdd, wl2] at h3204
             refine W_sound tab_ok mixed 48 _ _ _ ?_
             simp -implicitDefEqProofs only [go_sem, Nat.reduceBEq, Nat.reduceAdd, Nat.reduceLT, Nat.reduceLeDiff, Int.reduceLE, Int.reduceLT, Int.reduceToNat, ↓reduceIte, Int.reduceAdd, g3198, g3199, h3201, h3204]
             repeat with_reducible refine And.intro (by first | kernel_rfl | decide) ?_
             (try rw [h2165] at h3390)
             (try rw [h3201] at h3390)
             (try rw [h3204] at h3390)
             refine cutQ _ ?_ ⟨n, Nat.lt_succ_self n, _, _, _, _, _, _, h3390, rfl⟩
             exact Wk_keep [4, 5, 7, 8, 37, 38] (by kernel_rfl)
            ·skip
             replace h3390 := casI_some h3390; rcases h3390 with ⟨rfl, h3390⟩ | ⟨_, h3390⟩
             ·simp only [go_sem, Int.reduceToNat] at h3201
              simp only [go_sem, Int.reduceAdd, wl3] at h3204
              refine W_sound tab_ok mixed 48 _ _ _ ?_
              simp -implicitDefEqProofs only [go_sem, Nat.reduceBEq, Nat.reduceAdd, Nat.reduceLT, Nat.reduceLeDiff, Int.reduceLE, Int.reduceLT, Int.reduceToNat, ↓reduceIte, Int.reduceAdd, g3198, g3199, h3201, h3204]
              repeat with_reducible refine And.intro (by first | kernel_rfl | decide) ?_
              (try rw [h2165] at h3390)
              (try rw [h3201] at h3390)
              (try rw [h3204] at h3390)
              refine cutQ _ ?_ ⟨n, Nat.lt_succ_self n, _, _, _, _, _, _, h3390, rfl⟩
              exact Wk_keep [4, 5, 7, 8, 37, 38] (by kernel_rfl)
             ·skip
              replace h3390 := casI_some h3390; rcases h3390 with ⟨rfl, h3390⟩ | ⟨_, h3390⟩
              ·simp only [go_sem, Int.reduceToNat] at h3201
               simp only [go_sem, Int.reduceAdd, wl4] at h3204
               refine W_sound tab_ok mixed 48 _ _ _ ?_
               simp -implicitDefEqProofs only [go_sem, Nat.reduceBEq, Nat.reduceAdd, Nat.reduceLT, Nat.reduceLeDiff, Int.reduceLE, Int.reduceLT, Int.reduceToNat, ↓reduceIte, Int.reduceAdd, g3198, g3199, h3201, h3204]
               repeat with_reducible refine And.intro (by first | kernel_rfl | decide) ?_
               (try rw [h2165] at h3390)
               (try rw [h3201] at h3390)
               (try rw [h3204] at h3390)
               refine cutQ _ ?_ ⟨n, Nat.lt_succ_self n, _, _, _, _, _, _, h3390, rfl⟩
               exact Wk_keep [4, 5, 7, 8, 37, 38] (by kernel_rfl)
              ·skip
               replace h3390 := casI_some h3390; rcases h3390 with ⟨rfl, h3390⟩ | ⟨_, h3390⟩
               ·simp only [go_sem, Int.reduceToNat] at h3201
                simp only [go_sem, Int.reduceAdd, wl5] at h3204
                refine W_sound tab_ok mixed 48 _ _ _ ?_
                simp -implicitDefEqProofs only [go_sem, Nat.reduceBEq, Nat.reduceAdd, Nat.reduceLT, Nat.reduceLeDiff, Int.reduceLE, Int.reduceLT, Int.reduceToNat, ↓reduceIte, Int.reduceAdd, g3198, g3199, h3201, h3204]
                repeat with_reducible refine And.intro (by first | kernel_rfl | decide) ?_
                (try rw [h2165] at h3390)
                (try rw [h3201] at h3390)
                (try rw [h3204] at h3390)
                refine cutQ _ ?_ ⟨n, Nat.lt_succ_self n, _, _, _, _, _, _, h3390, rfl⟩
                exact Wk_keep [4, 5, 7, 8, 37, 38] (by kernel_rfl)
               ·skip
                cases h3390
          ·skip
           replace h3390 := casI_some h3390; rcases h3390 with ⟨h3204, h3390⟩ | ⟨_, h3390⟩
           ·replace h3390 := casI_some h3390; rcases h3390 with ⟨rfl, h3390⟩ | ⟨_, h3390⟩
            ·simp only [go_sem] at h3201
             simp only [go_sem, Int.reduceAdd, wl1] at h3204
             refine W_sound tab_ok mixed 48 _ _ _ ?_
             simp -implicitDefEqProofs only [go_sem, Nat.reduceBEq, Nat.reduceAdd, Nat.reduceLT, Nat.reduceLeDiff, Int.reduceLE, Int.reduceLT, Int.reduceToNat, ↓reduceIte, Int.reduceAdd, g3198, g3199, h3201, h3204]
             repeat with_reducible refine And.intro (by first | kernel_rfl | decide) ?_
             (try rw [h2165] at h3390)
             (try rw [h3201] at h3390)
             (try rw [h3204] at h3390)
             refine cutQ _ ?_ ⟨n, Nat.lt_succ_self n, _, _, _, _, _, _, h3390, rfl⟩
             exact Wk_keep [4, 5, 7, 8, 37, 38] (by kernel_rfl)
            ·skip
             replace h3390 := casI_some h3390; rcases h3390 with ⟨rfl, h3390⟩ | ⟨_, h3390⟩
             ·simp only [go_sem, Int.reduceToNat] at h3201
              simp only [go_sem, Int.reduceAdd, wl2] at h3204
              refine W_sound tab_ok mixed 48 _ _ _ ?_
              simp -implicitDefEqProofs only [go_sem, Nat.reduceBEq, Nat.reduceAdd, Nat.reduceLT, Nat.reduceLeDiff, Int.reduceLE, Int.reduceToNat, ↓reduceIte, Int.reduceAdd, g3198, g3199, h3201, h3204]
              repeat with_reducible refine And.intro (by first | kernel_rfl | decide) ?_
              (try rw [h2165] at h3390)
              (try rw [h3201] at h3390)
              (try rw [h3204] at h3390)
              refine cutQ _ ?_ ⟨n, Nat.lt_succ_self n, _, _, _, _, _, _, h3390, rfl⟩
              exact Wk_keep [4, 5, 7, 8, 37, 38] (by kernel_rfl)
             ·skip
              replace h3390 := casI_some h3390; rcases h3390 with ⟨rfl, h3390⟩ | ⟨_, h3390⟩
              ·simp only [go_sem, Int.reduceToNat] at h3201
               simp only [go_sem, Int.reduceAdd, wl3] at h3204
               refine W_sound tab_ok mixed 48 _ _ _ ?_
               simp -implicitDefEqProofs only [go_sem, Nat.reduceBEq, Nat.reduceAdd, Nat.reduceLT, Nat.reduceLeDiff, Int.reduceLE, Int.reduceLT, Int.reduceToNat, ↓reduceIte, Int.reduceAdd, g3198, g3199, h3201, h3204]
               repeat with_reducible refine And.intro (by first | kernel_rfl | decide) ?_
               (try rw [h2165] at h3390)
               (try rw [h3201] at h3390)
               (try rw [h3204] at h3390)
               refine cutQ _ ?_ ⟨n, Nat.lt_succ_self n, _, _, _, _, _, _, h3390, rfl⟩
               exact Wk_keep [4, 5, 7, 8, 37, 38] (by kernel_rfl)
              ·skip
               replace h3390 := casI_some h3390; rcases h3390 with ⟨rfl, h3390⟩ | ⟨_, h3390⟩
               ·simp only [go_sem, Int.reduceToNat] at h3201
                simp only [go_sem, Int.reduceAdd, wl4] at h3204
                refine W_sound tab_ok mixed 48 _ _ _ ?_
                simp -implicitDefEqProofs only [go_sem, Nat.reduceBEq, Nat.reduceAdd, Nat.reduceLT, Nat.reduceLeDiff, Int.reduceLE, Int.reduceLT, Int.reduceToNat, ↓reduceIte, Int.reduceAdd, g3198, g3199, h3201, h3204]
                repeat with_reducible refine And.intro (by first | kernel_rfl | decide) ?_
                (try rw [h2165] at h3390)
                (try rw [h3201] at h3390)
                (try rw [h3204] at h3390)
                refine cutQ _ ?_ ⟨n, Nat.lt_succ_self n, _, _, _, _, _, _, h3390, rfl⟩
                exact Wk_keep [4, 5, 7, 8, 37, 38] (by kernel_rfl)
               ·skip
                replace h3390 := casI_some h3390; rcases h3390 with ⟨rfl, h3390⟩ | ⟨_, h3390⟩
                ·simp only [go_sem, Int.reduceToNat] at h3201
                 simp only [go_sem, Int.reduceAdd, wl5] at h3204
                 refine W_sound tab_ok mixed 48 _ _ _ ?_
                 simp -implicitDefEqProofs only [go_sem, Nat.reduceBEq, Nat.reduceAdd, Nat.reduceLT, Nat.reduceLeDiff, Int.reduceLE, Int.reduceLT, Int.reduceToNat, ↓reduceIte, Int.reduceAdd, g3198, g3199, h3201, h3204]
                 repeat with_reducible refine And.intro (by first | kernel_rfl | decide) ?_
                 (try rw [h2165] at h3390)
                 (try rw [h3201] at h3390)
                 (try rw [h3204] at h3390)
                 refine cutQ _ ?_ ⟨n, Nat.lt_succ_self n, _, _, _, _, _, _, h3390, rfl⟩
                 exact Wk_keep [4, 5, 7, 8, 37, 38] (by kernel_rfl)
                ·skip
                 cases h3390
           ·skip
            replace h3390 := casI_some h3390; rcases h3390 with ⟨h3204, h3390⟩ | ⟨_, h3390⟩
            ·replace h3390 := casI_some h3390; rcases h3390 with ⟨rfl, h3390⟩ | ⟨_, h3390⟩
             ·simp only [go_sem] at h3201
              simp only [go_sem, Int.reduceAdd, wl1] at h3204
              refine W_sound tab_ok mixed 48 _ _ _ ?_
              simp -implicitDefEqProofs only [go_sem, Nat.reduceBEq, Nat.reduceAdd, Nat.reduceLT, Nat.reduceLeDiff, Int.reduceLE, Int.reduceLT, Int.reduceToNat, ↓reduceIte, Int.reduceAdd, g3198, g3199, h3201, h3204]
              repeat with_reducible refine And.intro (by first | kernel_rfl | decide) ?_
              (try rw [h2165] at h3390)
              (try rw [h3201] at h3390)
              (try rw [h3204] at h3390)
              refine cutQ _ ?_ ⟨n, Nat.lt_succ_self n, _, _, _, _, _, _, h3390, rfl⟩
              exact Wk_keep [4, 5, 7, 8, 37, 38] (by kernel_rfl)
             ·skip
              replace h3390 := casI_some h3390; rcases h3390 with ⟨rfl, h3390⟩ | ⟨_, h3390⟩
              ·simp only [go_sem, Int.reduceToNat] at h3201
               simp only [go_sem, Int.reduceAdd, wl2] at h3204
               refine W_sound tab_ok mixed 48 _ _ _ ?_
               simp -implicitDefEqProofs only [go_sem, Nat.reduceBEq, Nat.reduceAdd, Nat.reduceLT, Nat.reduceLeDiff, Int.reduceLE, Int.reduceLT, Int.reduceToNat, ↓reduceIte, Int.reduceAdd, g3198, g3199, h3201, h3204]
               repeat with_reducible refine And.intro (by first | kernel_rfl | decide) ?_
               (try rw [h2165] at h3390)
               (try rw [h3201] at h3390)
               (try rw [h3204] at h3390)
               refine cutQ _ ?_ ⟨n, Nat.lt_succ_self n, _, _, _, _, _, _, h3390, rfl⟩
               exact Wk_keep [4, 5, 7, 8, 37, 38] (by kernel_rfl)
              ·skip
               replace h3390 := casI_some h3390; rcases h3390 with ⟨rfl, h3390⟩ | ⟨_, h3390⟩
               ·simp only [go_sem, Int.reduceToNat] at h3201
                simp only [go_sem, Int.reduceAdd, wl3] at h3204
                refine W_sound tab_ok mixed 48 _ _ _ ?_
                simp -implicitDefEqProofs only [go_sem, Nat.reduceBEq, Nat.reduceAdd, Nat.reduceLT, Nat.reduceLeDiff, Int.reduceLE, Int.reduceToNat, ↓reduceIte, Int.reduceAdd, g3198, g3199, h3201, h3204]
                repeat with_reducible refine And.intro (by first | kernel_rfl | decide) ?_
                (try rw [h2165] at h3390)
                (try rw [h3201] at h3390)
                (try rw [h3204] at h3390)
                refine cutQ _ ?_ ⟨n, Nat.lt_succ_self n, _, _, _, _, _, _, h3390, rfl⟩
                exact Wk_keep [4, 5, 7, 8, 37, 38] (by kernel_rfl)
               ·skip
                replace h3390 := casI_some h3390; rcases h3390 with ⟨rfl, h3390⟩ | ⟨_, h3390⟩
                ·simp only [go_sem, Int.reduceToNat] at h3201
                 simp only [go_sem, Int.reduceAdd, wl4] at h3204
                 refine W_sound tab_ok mixed 48 _ _ _ ?_
                 simp -implicitDefEqProofs only [go_sem, Nat.reduceBEq, Nat.reduceAdd, Nat.reduceLT, Nat.reduceLeDiff, Int.reduceLE, Int.reduceLT, Int.reduceToNat, ↓reduceIte, Int.reduceAdd, g3198, g3199, h3201, h3204]
                 repeat with_reducible refine And.intro (by first | kernel_rfl | decide) ?_
                 (try rw [h2165] at h3390)
                 (try rw [h3201] at h3390)
                 (try rw [h3204] at h3390)
                 refine cutQ _ ?_ ⟨n, Nat.lt_succ_self n, _, _, _, _, _, _, h3390, rfl⟩
                 exact Wk_keep [4, 5, 7, 8, 37, 38] (by kernel_rfl)
                ·skip
                 replace h3390 := casI_some h3390; rcases h3390 with ⟨rfl, h3390⟩ | ⟨_, h3390⟩
                 ·simp only [go_sem, Int.reduceToNat] at h3201
                  simp only [go_sem, Int.reduceAdd, wl5] at h3204
                  refine W_sound tab_ok mixed 48 _ _ _ ?_
                  simp -implicitDefEqProofs only [go_sem, Nat.reduceBEq, Nat.reduceAdd, Nat.reduceLT, Nat.reduceLeDiff, Int.reduceLE, Int.reduceLT, Int.reduceToNat, ↓reduceIte, Int.reduceAdd, g3198, g3199, h3201, h3204]
                  repeat with_reducible refine And.intro (by first | kernel_rfl | decide) ?_
                  (try rw [h2165] at h3390)
                  (try rw [h3201] at h3390)
                  (try rw [h3204] at h3390)
                  refine cutQ _ ?_ ⟨n, Nat.lt_succ_self n, _, _, _, _, _, _, h3390, rfl⟩
                  exact Wk_keep [4, 5, 7, 8, 37, 38] (by kernel_rfl)
                 ·skip
                  cases h3390
            ·skip
             replace h3390 := casI_some h3390; rcases h3390 with ⟨h3204, h3390⟩ | ⟨_, h3390⟩
             ·replace h3390 := casI_some h3390; rcases h3390 with ⟨rfl, h3390⟩ | ⟨_, h3390⟩
              ·simp only [go_sem] at h3201
               simp only [go_sem, Int.reduceAdd, wl1] at h3204
               refine W_sound tab_ok mixed 48 _ _ _ ?_
               simp -implicitDefEqProofs only [go_sem, Nat.reduceBEq, Nat.reduceAdd, Nat.reduceLT, Nat.reduceLeDiff, Int.reduceLE, Int.reduceLT, Int.reduceToNat, ↓reduceIte, Int.reduceAdd, g3198, g3199, h3201, h3204]
               repeat with_reducible refine And.intro (by first | kernel_rfl | decide) ?_
               (try rw [h2165] at h3390)
               (try rw [h3201] at h3390)
               (try rw [h3204] at h3390)
               refine cutQ _ ?_ ⟨n, Nat.lt_succ_self n, _, _, _, _, _, _, h3390, rfl⟩
               exact Wk_keep [4, 5, 7, 8, 37, 38] (by kernel_rfl)
              ·skip
               replace h3390 := casI_some h3390; rcases h3390 with ⟨rfl, h3390⟩ | ⟨_, h3390⟩
               ·simp only [go_sem, Int.reduceToNat] at h3201
                simp only [go_sem, Int.reduceAdd, wl2] at h3204
                refine W_sound tab_ok mixed 48 _ _ _ ?_
                simp -implicitDefEqProofs only [go_sem, Nat.reduceBEq, Nat.reduceAdd, Nat.reduceLT, Nat.reduceLeDiff, Int.reduceLE, Int.reduceLT, Int.reduceToNat, ↓reduceIte, Int.reduceAdd, g3198, g3199, h3201, h3204]
                repeat with_reducible refine And.intro (by first | kernel_rfl | decide) ?_
                (try rw [h2165] at h3390)
                (try rw [h3201] at h3390)
                (try rw [h3204] at h3390)
                refine cutQ _ ?_ ⟨n, Nat.lt_succ_self n, _, _, _, _, _, _, h3390, rfl⟩
                exact Wk_keep [4, 5, 7, 8, 37, 38] (by kernel_rfl)
               ·skip
                replace h3390 := casI_some h3390; rcases h3390 with ⟨rfl, h3390⟩ | ⟨_, h3390⟩
                ·simp only [go_sem, Int.reduceToNat] at h3201
                 simp only [go_sem, Int.reduceAdd, wl3] at h3204
                 refine W_sound tab_ok mixed 48 _ _ _ ?_
                 simp -implicitDefEqProofs only [go_sem, Nat.reduceBEq, Nat.reduceAdd, Nat.reduceLT, Nat.reduceLeDiff, Int.reduceLE, Int.reduceLT, Int.reduceToNat, ↓reduceIte, Int.reduceAdd, g3198, g3199, h3201, h3204]
                 repeat with_reducible refine And.intro (by first | kernel_rfl | decide) ?_
                 (try rw [h2165] at h3390)
                 (try rw [h3201] at h3390)
                 (try rw [h3204] at h3390)
                 refine cutQ _ ?_ ⟨n, Nat.lt_succ_self n, _, _, _, _, _, _, h3390, rfl⟩
                 exact Wk_keep [4, 5, 7, 8, 37, 38] (by kernel_rfl)
                ·skip
                 replace h3390 := casI_some h3390; rcases h3390 with ⟨rfl, h3390⟩ | ⟨_, h3390⟩
                 ·simp only [go_sem, Int.reduceToNat] at h3201
                  simp only [go_sem, Int.reduceAdd, wl4] at h3204
                  refine W_sound tab_ok mixed 48 _ _ _ ?_
                  simp -implicitDefEqProofs only [go_sem, Nat.reduceBEq, Nat.reduceAdd, Nat.reduceLT, Nat.reduceLeDiff, Int.reduceLE, Int.reduceToNat, ↓reduceIte, Int.reduceAdd, g3198, g3199, h3201, h3204]
                  repeat with_reducible refine And.intro (by first | kernel_rfl | decide) ?_
                  (try rw [h2165] at h3390)
                  (try rw [h3201] at h3390)
                  (try rw [h3204] at h3390)
                  refine cutQ _ ?_ ⟨n, Nat.lt_succ_self n, _, _, _, _, _, _, h3390, rfl⟩
                  exact Wk_keep [4, 5, 7, 8, 37, 38] (by kernel_rfl)
                 ·skip
                  replace h3390 := casI_some h3390; rcases h3390 with ⟨rfl, h3390⟩ | ⟨_, h3390⟩
                  ·simp only [go_sem, Int.reduceToNat] at h3201
                   simp only [go_sem, Int.reduceAdd, wl5] at h3204
                   refine W_sound tab_ok mixed 48 _ _ _ ?_
                   simp -implicitDefEqProofs only [go_sem, Nat.reduceBEq, Nat.reduceAdd, Nat.reduceLT, Nat.reduceLeDiff, Int.reduceLE, Int.reduceLT, Int.reduceToNat, ↓reduceIte, Int.reduceAdd, g3198, g3199, h3201, h3204]
                   repeat with_reducible refine And.intro (by first | kernel_rfl | decide) ?_
                   (try rw [h2165] at h3390)
                   (try rw [h3201] at h3390)
                   (try rw [h3204] at h3390)
                   refine cutQ _ ?_ ⟨n, Nat.lt_succ_self n, _, _, _, _, _, _, h3390, rfl⟩
                   exact Wk_keep [4, 5, 7, 8, 37, 38] (by kernel_rfl)
                  ·skip
                   cases h3390
             ·skip
              replace h3390 := casI_some h3390; rcases h3390 with ⟨h3204, h3390⟩ | ⟨_, h3390⟩
              ·replace h3390 := casI_some h3390; rcases h3390 with ⟨rfl, h3390⟩ | ⟨_, h3390⟩
               ·simp only [go_sem] at h3201
                simp only [go_sem, Int.reduceAdd, wl1] at h3204
                refine W_sound tab_ok mixed 48 _ _ _ ?_
                simp -implicitDefEqProofs only [go_sem, Nat.reduceBEq, Nat.reduceAdd, Nat.reduceLT, Nat.reduceLeDiff, Int.reduceLE, Int.reduceLT, Int.reduceToNat, ↓reduceIte, Int.reduceAdd, g3198, g3199, h3201, h3204]
                repeat with_reducible refine And.intro (by first | kernel_rfl | decide) ?_
                (try rw [h2165] at h3390)
                (try rw [h3201] at h3390)
                (try rw [h3204] at h3390)
                refine cutQ _ ?_ ⟨n, Nat.lt_succ_self n, _, _, _, _, _, _, h3390, rfl⟩
                exact Wk_keep [4, 5, 7, 8, 37, 38] (by kernel_rfl)
               ·skip
                replace h3390 := casI_some h3390; rcases h3390 with ⟨rfl, h3390⟩ | ⟨_, h3390⟩
                ·simp only [go_sem, Int.reduceToNat] at h3201
                 simp only [go_sem, Int.reduceAdd, wl2] at h3204
                 refine W_sound tab_ok mixed 48 _ _ _ ?_
                 simp -implicitDefEqProofs only [go_sem, Nat.reduceBEq, Nat.reduceAdd, Nat.reduceLT, Nat.reduceLeDiff, Int.reduceLE, Int.reduceLT, Int.reduceToNat, ↓reduceIte, Int.reduceAdd, g3198, g3199, h3201, h3204]
                 repeat with_reducible refine And.intro (by first | kernel_rfl | decide) ?_
                 (try rw [h2165] at h3390)
                 (try rw [h3201] at h3390)
                 (try rw [h3204] at h3390)
                 refine cutQ _ ?_ ⟨n, Nat.lt_succ_self n, _, _, _, _, _, _, h3390, rfl⟩
                 exact Wk_keep [4, 5, 7, 8, 37, 38] (by kernel_rfl)
                ·skip
                 replace h3390 := casI_some h3390; rcases h3390 with ⟨rfl, h3390⟩ | ⟨_, h3390⟩
                 ·simp only [go_sem, Int.reduceToNat] at h3201
                  simp only [go_sem, Int.reduceAdd, wl3] at h3204
                  refine W_sound tab_ok mixed 48 _ _ _ ?_
                  simp -implicitDefEqProofs only [go_sem, Nat.reduceBEq, Nat.reduceAdd, Nat.reduceLT, Nat.reduceLeDiff, Int.reduceLE, Int.reduceLT, Int.reduceToNat, ↓reduceIte, Int.reduceAdd, g3198, g3199, h3201, h3204]
                  repeat with_reducible refine And.intro (by first | kernel_rfl | decide) ?_
                  (try rw [h2165] at h3390)
                  (try rw [h3201] at h3390)
                  (try rw [h3204] at h3390)
                  refine cutQ _ ?_ ⟨n, Nat.lt_succ_self n, _, _, _, _, _, _, h3390, rfl⟩
                  exact Wk_keep [4, 5, 7, 8, 37, 38] (by kernel_rfl)
                 ·skip
                  replace h3390 := casI_some h3390; rcases h3390 with ⟨rfl, h3390⟩ | ⟨_, h3390⟩
                  ·simp only [go_sem, Int.reduceToNat] at h3201
                   simp only [go_sem, Int.reduceAdd, wl4] at h3204
                   refine W_sound tab_ok mixed 48 _ _ _ ?_
                   simp -implicitDefEqProofs only [go_sem, Nat.reduceBEq, Nat.reduceAdd, Nat.reduceLT, Nat.reduceLeDiff, Int.reduceLE, Int.reduceLT, Int.reduceToNat, ↓reduceIte, Int.reduceAdd, g3198, g3199, h3201, h3204]
                   repeat with_reducible refine And.intro (by first | kernel_rfl | decide) ?_
                   (try rw [h2165] at h3390)
                   (try rw [h3201] at h3390)
                   (try rw [h3204] at h3390)
                   refine cutQ _ ?_ ⟨n, Nat.lt_succ_self n, _, _, _, _, _, _, h3390, rfl⟩
                   exact Wk_keep [4, 5, 7, 8, 37, 38] (by kernel_rfl)
                  ·skip
                   replace h3390 := casI_some h3390; rcases h3390 with ⟨rfl, h3390⟩ | ⟨_, h3390⟩
                   ·simp only [go_sem, Int.reduceToNat] at h3201
                    simp only [go_sem, Int.reduceAdd, wl5] at h3204
                    refine W_sound tab_ok mixed 48 _ _ _ ?_
                    simp -implicitDefEqProofs only [go_sem, Nat.reduceBEq, Nat.reduceAdd, Nat.reduceLT, Int.reduceLE, Int.reduceToNat, ↓reduceIte, Int.reduceAdd, g3198, g3199, h3201, h3204]
                    repeat with_reducible refine And.intro (by first | kernel_rfl | decide) ?_
                    (try rw [h2165] at h3390)
                    (try rw [h3201] at h3390)
                    (try rw [h3204] at h3390)
                    refine cutQ _ ?_ ⟨n, Nat.lt_succ_self n, _, _, _, _, _, _, h3390, rfl⟩
                    exact Wk_keep [4, 5, 7, 8, 37, 38] (by kernel_rfl)
                   ·skip
                    cases h3390
              ·skip
               cases h3390
         ·refine W_sound tab_ok mixed 7 _ _ _ ?_
          simp -implicitDefEqProofs only [go_sem, Nat.reduceBEq, Nat.reduceLT, Int.reduceLE, Int.reduceToNat, ↓reduceIte, h3197]
          repeat with_reducible refine And.intro (by first | kernel_rfl | decide) ?_
          obtain rfl := Option.some.inj h3390
          refine cutQ _ ?_ ⟨_, _, _, _, _, rfl, rfl⟩
          exact Wk_keep [5, 7, 8] (by kernel_rfl)
       ·rintro _ ⟨c3210, c3211, c3212, c3213, c3214, rfl, rfl⟩
        (try dsimp only at h3391)
        refine W_sound tab_ok mixed 6 _ _ _ ?_
        simp -implicitDefEqProofs only [go_sem, Nat.reduceBEq, Nat.reduceLT]
        repeat with_reducible refine And.intro (by first | kernel_rfl | decide) ?_
        replace h3391 := bnd'_some h3391; obtain ⟨o3392, h3393, h3394⟩ := h3391
        refine Wp_cut (fun s => ∃ c3320, ∃ c3321, ∃ c3322, ∃ c3323, ∃ c3324, (c3320, c3321, c3322, c3323, c3324) = o3392 ∧ s = ⟨[], [(0, .dead), (1, .dead), (2, .dead), (4, .dead), (5, .dead), (6, .dead), (7, .v (.int .i64 5)), (8, .sl false 0 0 5 1), (9, .dead), (10, .dead), (11, .dead), (12, .dead), (13, .dead), (15, .dead), (16, .dead), (18, .dead), (36, .dead), (37, .dead), (38, .dead), (39, .dead), (63, .dead), (64, .dead), (65, .dead), (74, .dead), (75, .dead), (76, .dead), (77, .dead)], [(0, .r [.sl false 1 0 5 1, .sl false 2 0 5 1, .sl false 3 0 5 1, .sl false 4 0 5 1, .sl false 5 0 5 1]), (1, .p c3320), (2, .p c3321), (3, .p c3322), (4, .p c3323), (5, .p c3324)], 6, []⟩) ?_ ?_
        ·refine Wp_block ?_
         refine Wp_loopG (fun n s => ∃ x3265, ∃ c3266, ∃ c3267, ∃ c3268, ∃ c3269, ∃ c3270, m9_L1 N p2159 p2160 p2161 p2162 p2163 n x3265 c3266 c3267 c3268 c3269 c3270 = some o3392 ∧ s = ⟨[], [(0, .dead), (1, .dead), (2, .dead), (4, .dead), (5, .ptr 0 0), (6, .dead), (7, .v (.int .i64 5)), (8, .sl false 1 0 5 1), (9, .dead), (10, .dead), (11, .dead), (12, .dead), (13, .dead), (15, .dead), (16, .dead), (18, .dead), (36, .dead), (37, .dead), (38, .dead), (39, .dead), (63, .v (.int .i64 5)), (64, .v (.int .i64 x3265)), (65, .dead), (74, .dead), (75, .dead), (76, .dead), (77, .dead)], [(0, .p [p2159, p2160, p2161, p2162, p2163]), (1, .r [.sl false 2 0 5 1, .sl false 3 0 5 1, .sl false 4 0 5 1, .sl false 5 0 5 1, .sl false 6 0 5 1]), (2, .p c3266), (3, .p c3267), (4, .p c3268), (5, .p c3269), (6, .p c3270)], 7, []⟩) N _ ?_ ⟨_, _, _, _, _, _, h3393, rfl⟩ ?_
         ·exact Wk_keep [5, 7, 8, 63, 64] (by kernel_rfl)
         clear h3393
         rintro n _ ⟨x3265, c3266, c3267, c3268, c3269, c3270, h3393, rfl⟩
         cases n with
         | zero => cases h3393
         | succ n =>
          rw [m9_L1] at h3393
          replace h3393 := brn_some h3393; rcases h3393 with ⟨h3271, h3393⟩ | ⟨h3271, h3393⟩
          ·replace h3393 := grd_some h3393; obtain ⟨⟨g3272, g3273⟩, h3393⟩ := h3393
           replace h3393 := grd_some h3393; obtain ⟨g3274, h3393⟩ := h3393
           replace h3393 := getI_some h3393; obtain ⟨x3276, h3275, h3393⟩ := h3393
           replace h3393 := grd_some h3393; obtain ⟨g3277, h3393⟩ := h3393
           refine W_sound tab_ok mixed 31 _ _ _ ?_
           simp -implicitDefEqProofs only [go_sem, Nat.reduceBEq, Nat.reduceAdd, Nat.reduceLT, Nat.reduceLeDiff, Int.reduceLE, Int.reduceToNat, ↓reduceIte, g3272, g3273, g3274, h3275, g3277]
           repeat with_reducible refine And.intro (by first | kernel_rfl | decide) ?_
           refine Wp_block ?_
           refine Wp_loopL (WpL_step ?_)
           replace h3393 := grd_some h3393; obtain ⟨⟨g3278, g3279⟩, h3393⟩ := h3393
           replace h3393 := grd_some h3393; obtain ⟨g3280, h3393⟩ := h3393
           replace h3393 := getI_some h3393; obtain ⟨x3282, h3281, h3393⟩ := h3393
           replace h3393 := grd_some h3393; obtain ⟨g3283, h3393⟩ := h3393
           replace h3393 := getI_some h3393; obtain ⟨x3285, h3284, h3393⟩ := h3393
           replace h3393 := grd_some h3393; obtain ⟨g3286, h3393⟩ := h3393
           replace h3393 := grd_some h3393; obtain ⟨g3287, h3393⟩ := h3393
           refine W_sound tab_ok mixed 38 _ _ _ ?_
           simp -implicitDefEqProofs only [go_sem, Nat.reduceBEq, Nat.reduceAdd, Nat.reduceLT, Nat.reduceLeDiff, Int.reduceLE, Int.reduceLT, Int.reduceToNat, ↓reduceIte, Int.reduceAdd, g3272, g3273, g3278, g3279, g3280, h3281, g3283, h3284, g3286, g3287]
           repeat with_reducible refine And.intro (by first | kernel_rfl | decide) ?_
           refine again (Wk_keep (st' := ⟨[], [(0, .dead), (1, .dead), (2, .dead), (4, .dead), (5, .ptr 0 0), (6, .dead), (7, .v (.int .i64 5)), (8, .sl false 1 0 5 1), (9, .dead), (10, .dead), (11, .dead), (12, .v (.int .i64 x3265)), (13, .v (.int .i64 (Int.tmod (IntKind.i64.wrap x3276) (IntKind.i64.wrap (x3265 + 1))))), (15, .dead), (16, .dead), (18, .dead), (36, .dead), (37, .dead), (38, .dead), (39, .dead), (63, .v (.int .i64 5)), (64, .v (.int .i64 x3265)), (65, .dead), (74, .sl false 1 0 5 1), (75, .v (.int .i64 5)), (76, .v (.int .i64 1)), (77, .dead)], [(0, .p [p2159, p2160, p2161, p2162, p2163]), (1, .r [.sl false 2 0 5 1, .sl false 3 0 5 1, .sl false 4 0 5 1, .sl false 5 0 5 1, .sl false 6 0 5 1]), (2, .p (List.set (List.set c3266 (Int.toNat x3265) (.int .i64 x3282)) (Int.toNat (Int.tmod (IntKind.i64.wrap x3276) (IntKind.i64.wrap (x3265 + 1)))) (.int .i64 x3285))), (3, .p c3267), (4, .p c3268), (5, .p c3269), (6, .p c3270)], 7, []⟩) [5, 7, 8, 12, 13, 63, 64, 74, 75, 76] (by kernel_rfl)) ?_
           replace h3393 := grd_some h3393; obtain ⟨g3288, h3393⟩ := h3393
           replace h3393 := getI_some h3393; obtain ⟨x3290, h3289, h3393⟩ := h3393
           replace h3393 := grd_some h3393; obtain ⟨g3291, h3393⟩ := h3393
           replace h3393 := getI_some h3393; obtain ⟨x3293, h3292, h3393⟩ := h3393
           replace h3393 := grd_some h3393; obtain ⟨g3294, h3393⟩ := h3393
           replace h3393 := grd_some h3393; obtain ⟨g3295, h3393⟩ := h3393
           refine W_sound tab_ok mixed 38 _ _ _ ?_
           simp -implicitDefEqProofs only [go_sem, Nat.reduceBEq, Nat.reduceAdd, Nat.reduceLT, Nat.reduceLeDiff, Int.reduceLE, Int.reduceLT, Int.reduceToNat, ↓reduceIte, Int.reduceAdd, g3272, g3273, g3278, g3279, g3288, h3289, g3291, h3292, g3294, g3295]
           repeat with_reducible refine And.intro (by first | kernel_rfl | decide) ?_
           refine again (Wk_keep (st' := ⟨[], [(0, .dead), (1, .dead), (2, .dead), (4, .dead), (5, .ptr 0 0), (6, .dead), (7, .v (.int .i64 5)), (8, .sl false 1 0 5 1), (9, .dead), (10, .dead), (11, .dead), (12, .v (.int .i64 x3265)), (13, .v (.int .i64 (Int.tmod (IntKind.i64.wrap x3276) (IntKind.i64.wrap (x3265 + 1))))), (15, .dead), (16, .dead), (18, .dead), (36, .dead), (37, .dead), (38, .dead), (39, .dead), (63, .v (.int .i64 5)), (64, .v (.int .i64 x3265)), (65, .dead), (74, .sl false 1 0 5 1), (75, .v (.int .i64 5)), (76, .v (.int .i64 2)), (77, .dead)], [(0, .p [p2159, p2160, p2161, p2162, p2163]), (1, .r [.sl false 2 0 5 1, .sl false 3 0 5 1, .sl false 4 0 5 1, .sl false 5 0 5 1, .sl false 6 0 5 1]), (2, .p (List.set (List.set c3266 (Int.toNat x3265) (.int .i64 x3282)) (Int.toNat (Int.tmod (IntKind.i64.wrap x3276) (IntKind.i64.wrap (x3265 + 1)))) (.int .i64 x3285))), (3, .p (List.set (List.set c3267 (Int.toNat x3265) (.int .i64 x3290)) (Int.toNat (Int.tmod (IntKind.i64.wrap x3276) (IntKind.i64.wrap (x3265 + 1)))) (.int .i64 x3293))), (4, .p c3268), (5, .p c3269), (6, .p c3270)], 7, []⟩) [5, 7, 8, 12, 13, 63, 64, 74, 75, 76] (by kernel_rfl)) ?_
           replace h3393 := grd_some h3393; obtain ⟨g3296, h3393⟩ := h3393
           replace h3393 := getI_some h3393; obtain ⟨x3298, h3297, h3393⟩ := h3393
           replace h3393 := grd_some h3393; obtain ⟨g3299, h3393⟩ := h3393
           replace h3393 := getI_some h3393; obtain ⟨x3301, h3300, h3393⟩ := h3393
           replace h3393 := grd_some h3393; obtain ⟨g3302, h3393⟩ := h3393
           replace h3393 := grd_some h3393; obtain ⟨g3303, h3393⟩ := h3393
           refine W_sound tab_ok mixed 38 _ _ _ ?_
           simp -implicitDefEqProofs only [go_sem, Nat.reduceBEq, Nat.reduceAdd, Nat.reduceLT, Nat.reduceLeDiff, Int.reduceLE, Int.reduceLT, Int.reduceToNat, ↓reduceIte, Int.reduceAdd, g3272, g3273, g3278, g3279, g3296, h3297, g3299, h3300, g3302, g3303]
           repeat with_reducible refine And.intro (by first | kernel_rfl | decide) ?_
           refine again (Wk_keep (st' := ⟨[], [(0, .dead), (1, .dead), (2, .dead), (4, .dead), (5, .ptr 0 0), (6, .dead), (7, .v (.int .i64 5)), (8, .sl false 1 0 5 1), (9, .dead), (10, .dead), (11, .dead), (12, .v (.int .i64 x3265)), (13, .v (.int .i64 (Int.tmod (IntKind.i64.wrap x3276) (IntKind.i64.wrap (x3265 + 1))))), (15, .dead), (16, .dead), (18, .dead), (36, .dead), (37, .dead), (38, .dead), (39, .dead), (63, .v (.int .i64 5)), (64, .v (.int .i64 x3265)), (65, .dead), (74, .sl false 1 0 5 1), (75, .v (.int .i64 5)), (76, .v (.int .i64 3)), (77, .dead)], [(0, .p [p2159, p2160, p2161, p2162, p2163]), (1, .r [.sl false 2 0 5 1, .sl false 3 0 5 1, .sl false 4 0 5 1, .sl false 5 0 5 1, .sl false 6 0 5 1]), (2, .p (List.set (List.set c3266 (Int.toNat x3265) (.int .i64 x3282)) (Int.toNat (Int.tmod (IntKind.i64.wrap x3276) (IntKind.i64.wrap (x3265 + 1)))) (.int .i64 x3285))), (3, .p (List.set (List.set c3267 (Int.toNat x3265) (.int .i64 x3290)) (Int.toNat (Int.tmod (IntKind.i64.wrap x3276) (IntKind.i64.wrap (x3265 + 1)))) (.int .i64 x3293))), (4, .p (List.set (List.set c3268 (Int.toNat x3265) (.int .i64 x3298)) (Int.toNat (Int.tmod (IntKind.i64.wrap x3276) (IntKind.i64.wrap (x3265 + 1)))) (.int .i64 x3301))), (5, .p c3269), (6, .p c3270)], 7, []⟩) [5, 7, 8, 12, 13, 63, 64, 74, 75, 76] (by kernel_rfl)) ?_
           replace h3393 := grd_some h3393; obtain ⟨g3304, h3393⟩ := h3393
           replace h3393 := getI_some h3393; obtain ⟨x3306, h3305, h3393⟩ := h3393
           replace h3393 := grd_some h3393; obtain ⟨g3307, h3393⟩ := h3393
           replace h3393 := getI_some h3393; obtain ⟨x3309, h3308, h3393⟩ := h3393
           replace h3393 := grd_some h3393; obtain ⟨g3310, h3393⟩ := h3393
           replace h3393 := grd_some h3393; obtain ⟨g3311, h3393⟩ := h3393
           refine W_sound tab_ok mixed 38 _ _ _ ?_
           simp -implicitDefEqProofs only [go_sem, Nat.reduceBEq, Nat.reduceAdd, Nat.reduceLT, Nat.reduceLeDiff, Int.reduceLE, Int.reduceLT, Int.reduceToNat, ↓reduceIte, Int.reduceAdd, g3272, g3273, g3278, g3279, g3304, h3305, g3307, h3308, g3310, g3311]
           repeat with_reducible refine And.intro (by first | kernel_rfl | decide) ?_
           refine again (Wk_keep (st' := ⟨[], [(0, .dead), (1, .dead), (2, .dead), (4, .dead), (5, .ptr 0 0), (6, .dead), (7, .v (.int .i64 5)), (8, .sl false 1 0 5 1), (9, .dead), (10, .dead), (11, .dead), (12, .v (.int .i64 x3265)), (13, .v (.int .i64 (Int.tmod (IntKind.i64.wrap x3276) (IntKind.i64.wrap (x3265 + 1))))), (15, .dead), (16, .dead), (18, .dead), (36, .dead), (37, .dead), (38, .dead), (39, .dead), (63, .v (.int .i64 5)), (64, .v (.int .i64 x3265)), (65, .dead), (74, .sl false 1 0 5 1), (75, .v (.int .i64 5)), (76, .v (.int .i64 4)), (77, .dead)], [(0, .p [p2159, p2160, p2161, p2162, p2163]), (1, .r [.sl false 2 0 5 1, .sl false 3 0 5 1, .sl false 4 0 5 1, .sl false 5 0 5 1, .sl false 6 0 5 1]), (2, .p (List.set (List.set c3266 (Int.toNat x3265) (.int .i64 x3282)) (Int.toNat (Int.tmod (IntKind.i64.wrap x3276) (IntKind.i64.wrap (x3265 + 1)))) (.int .i64 x3285))), (3, .p (List.set (List.set c3267 (Int.toNat x3265) (.int .i64 x3290)) (Int.toNat (Int.tmod (IntKind.i64.wrap x3276) (IntKind.i64.wrap (x3265 + 1)))) (.int .i64 x3293))), (4, .p (List.set (List.set c3268 (Int.toNat x3265) (.int .i64 x3298)) (Int.toNat (Int.tmod (IntKind.i64.wrap x3276) (IntKind.i64.wrap (x3265 + 1)))) (.int .i64 x3301))), (5, .p (List.set (List.set c3269 (Int.toNat x3265) (.int .i64 x3306)) (Int.toNat (Int.tmod (IntKind.i64.wrap x3276) (IntKind.i64.wrap (x3265 + 1)))) (.int .i64 x3309))), (6, .p c3270)], 7, []⟩) [5, 7, 8, 12, 13, 63, 64, 74, 75, 76] (by kernel_rfl)) ?_
           replace h3393 := grd_some h3393; obtain ⟨g3312, h3393⟩ := h3393
           replace h3393 := getI_some h3393; obtain ⟨x3314, h3313, h3393⟩ := h3393
           replace h3393 := grd_some h3393; obtain ⟨g3315, h3393⟩ := h3393
           replace h3393 := getI_some h3393; obtain ⟨x3317, h3316, h3393⟩ := h3393
           replace h3393 := grd_some h3393; obtain ⟨g3318, h3393⟩ := h3393
           replace h3393 := grd_some h3393; obtain ⟨g3319, h3393⟩ := h3393
           refine W_sound tab_ok mixed 38 _ _ _ ?_
           simp -implicitDefEqProofs only [go_sem, Nat.reduceBEq, Nat.reduceAdd, Nat.reduceLT, Int.reduceLE, Int.reduceLT, Int.reduceToNat, ↓reduceIte, Int.reduceAdd, g3272, g3273, g3278, g3279, g3312, h3313, g3315, h3316, g3318, g3319]
           repeat with_reducible refine And.intro (by first | kernel_rfl | decide) ?_
           refine again (Wk_keep (st' := ⟨[], [(0, .dead), (1, .dead), (2, .dead), (4, .dead), (5, .ptr 0 0), (6, .dead), (7, .v (.int .i64 5)), (8, .sl false 1 0 5 1), (9, .dead), (10, .dead), (11, .dead), (12, .v (.int .i64 x3265)), (13, .v (.int .i64 (Int.tmod (IntKind.i64.wrap x3276) (IntKind.i64.wrap (x3265 + 1))))), (15, .dead), (16, .dead), (18, .dead), (36, .dead), (37, .dead), (38, .dead), (39, .dead), (63, .v (.int .i64 5)), (64, .v (.int .i64 x3265)), (65, .dead), (74, .sl false 1 0 5 1), (75, .v (.int .i64 5)), (76, .v (.int .i64 5)), (77, .dead)], [(0, .p [p2159, p2160, p2161, p2162, p2163]), (1, .r [.sl false 2 0 5 1, .sl false 3 0 5 1, .sl false 4 0 5 1, .sl false 5 0 5 1, .sl false 6 0 5 1]), (2, .p (List.set (List.set c3266 (Int.toNat x3265) (.int .i64 x3282)) (Int.toNat (Int.tmod (IntKind.i64.wrap x3276) (IntKind.i64.wrap (x3265 + 1)))) (.int .i64 x3285))), (3, .p (List.set (List.set c3267 (Int.toNat x3265) (.int .i64 x3290)) (Int.toNat (Int.tmod (IntKind.i64.wrap x3276) (IntKind.i64.wrap (x3265 + 1)))) (.int .i64 x3293))), (4, .p (List.set (List.set c3268 (Int.toNat x3265) (.int .i64 x3298)) (Int.toNat (Int.tmod (IntKind.i64.wrap x3276) (IntKind.i64.wrap (x3265 + 1)))) (.int .i64 x3301))), (5, .p (List.set (List.set c3269 (Int.toNat x3265) (.int .i64 x3306)) (Int.toNat (Int.tmod (IntKind.i64.wrap x3276) (IntKind.i64.wrap (x3265 + 1)))) (.int .i64 x3309))), (6, .p (List.set (List.set c3270 (Int.toNat x3265) (.int .i64 x3314)) (Int.toNat (Int.tmod (IntKind.i64.wrap x3276) (IntKind.i64.wrap (x3265 + 1)))) (.int .i64 x3317)))], 7, []⟩) [5, 7, 8, 12, 13, 63, 64, 74, 75, 76] (by kernel_rfl)) ?_
           refine W_sound tab_ok mixed 12 _ _ _ ?_
           simp -implicitDefEqProofs only [go_sem, Nat.reduceBEq, Nat.reduceLT, Int.reduceLE, Int.reduceLT, Int.reduceToNat, ↓reduceIte]
           repeat with_reducible refine And.intro (by first | kernel_rfl | decide) ?_
           (try rw [h2165] at h3393)
           (try rw [h3275] at h3393)
           (try rw [h3281] at h3393)
           (try rw [h3284] at h3393)
           (try rw [h3289] at h3393)
           (try rw [h3292] at h3393)
           (try rw [h3297] at h3393)
           (try rw [h3300] at h3393)
           (try rw [h3305] at h3393)
           (try rw [h3308] at h3393)
           (try rw [h3313] at h3393)
           (try rw [h3316] at h3393)
           refine cutQ _ ?_ ⟨n, Nat.lt_succ_self n, _, _, _, _, _, _, h3393, rfl⟩
           exact Wk_keep [5, 7, 8, 63, 64] (by kernel_rfl)
          ·refine W_sound tab_ok mixed 7 _ _ _ ?_
           simp -implicitDefEqProofs only [go_sem, Nat.reduceBEq, Nat.reduceLT, Int.reduceLE, Int.reduceToNat, ↓reduceIte, h3271]
           repeat with_reducible refine And.intro (by first | kernel_rfl | decide) ?_
           obtain rfl := Option.some.inj h3393
           refine cutQ _ ?_ ⟨_, _, _, _, _, rfl, rfl⟩
           exact Wk_keep [7, 8] (by kernel_rfl)
        ·rintro _ ⟨c3320, c3321, c3322, c3323, c3324, rfl, rfl⟩
         (try dsimp only at h3394)
         refine W_sound tab_ok mixed 1 _ _ _ ?_
         simp -implicitDefEqProofs only [go_sem]
         repeat with_reducible refine And.intro (by first | kernel_rfl | decide) ?_
         replace h3394 := grd_some h3394; obtain ⟨g3325, h3394⟩ := h3394
         refine Wp_wkK (Wk_freeze 1 c3320 (by rfl) (by decide) (by decide)) rfl ?_
         simp -implicitDefEqProofs only [go_sem, Nat.reduceBEq, g3325]
         replace h3394 := grd_some h3394; obtain ⟨g3326, h3394⟩ := h3394
         refine Wp_wkK (Wk_freeze 2 c3321 (by rfl) (by decide) (by decide)) rfl ?_
         simp -implicitDefEqProofs only [go_sem, Nat.reduceBEq, g3326]
         replace h3394 := grd_some h3394; obtain ⟨g3327, h3394⟩ := h3394
         refine Wp_wkK (Wk_freeze 3 c3322 (by rfl) (by decide) (by decide)) rfl ?_
         simp -implicitDefEqProofs only [go_sem, Nat.reduceBEq, g3327]
         replace h3394 := grd_some h3394; obtain ⟨g3328, h3394⟩ := h3394
         refine Wp_wkK (Wk_freeze 4 c3323 (by rfl) (by decide) (by decide)) rfl ?_
         simp -implicitDefEqProofs only [go_sem, Nat.reduceBEq, g3328]
         replace h3394 := grd_some h3394; obtain ⟨g3329, h3394⟩ := h3394
         refine Wp_wkK (Wk_freeze 5 c3324 (by rfl) (by decide) (by decide)) rfl ?_
         simp -implicitDefEqProofs only [go_sem, Nat.reduceBEq, g3329]
         refine Wp_wkK (Wk_freeze 0 [(.lst false 5 c3320), (.lst false 5 c3321), (.lst false 5 c3322), (.lst false 5 c3323), (.lst false 5 c3324)] (by rfl) (by decide) (by decide)) rfl ?_
         simp -implicitDefEqProofs only [go_sem, Nat.reduceBEq, Nat.reduceAdd]
         replace h3394 := bnd'_some h3394; obtain ⟨p3330, h3331, h3394⟩ := h3394
         refine W_sound tab_ok mixed 3 _ _ _ ?_
         simp -implicitDefEqProofs only [go_sem, Nat.reduceBEq, Nat.reduceLT]
         repeat with_reducible refine And.intro (by first | kernel_rfl | decide) ?_
         refine Wp_callP (c35 N _ _ _ h3331) (by kernel_rfl) rfl rfl rfl rfl (by decide) ?_
         replace h3394 := getT2_some h3394; obtain ⟨p3333, p3334, h3332, h3394⟩ := h3394
         replace h3394 := getI_some h3394; obtain ⟨x3336, h3335, h3394⟩ := h3394
         replace h3394 := getI_some h3394; obtain ⟨x3338, h3337, h3394⟩ := h3394
         replace h3394 := bnd'_some h3394; obtain ⟨p3339, h3340, h3394⟩ := h3394
         refine W_sound tab_ok mixed 10 _ _ _ ?_
         simp -implicitDefEqProofs only [go_sem, Nat.reduceBEq, Nat.reduceLT, Int.reduceLE, Int.reduceToNat, ↓reduceIte, Int.reduceAdd, h3332, h3335, h3337]
         repeat with_reducible refine And.intro (by first | kernel_rfl | decide) ?_
         refine Wp_callP (c31 N _ _ h3340) (by kernel_rfl) rfl rfl rfl rfl (by decide) ?_
         replace h3394 := getT2_some h3394; obtain ⟨p3342, p3343, h3341, h3394⟩ := h3394
         replace h3394 := getL_some h3394; obtain ⟨n3345, c3346, h3344, h3394⟩ := h3394
         replace h3394 := getI_some h3394; obtain ⟨x3348, h3347, h3394⟩ := h3394
         replace h3394 := brn_some h3394; rcases h3394 with ⟨h3349, h3394⟩ | ⟨h3349, h3394⟩
         ·replace h3394 := bnd'_some h3394; obtain ⟨p3350, h3351, h3394⟩ := h3394
          refine W_sound tab_ok mixed 13 _ _ _ ?_
          simp -implicitDefEqProofs only [go_sem, Nat.reduceBEq, Nat.reduceAdd, Nat.reduceLT, Nat.reduceLeDiff, ↓reduceIte, h3341, h3344, h3347, h3349]
          repeat with_reducible refine And.intro (by first | kernel_rfl | decide) ?_
          refine Wp_callF [(118, [(.int .i64 0), (.int .i64 1), (.int .i64 0), (.int .i64 3), (.int .i64 0), (.int .i64 15)])] (FnP_le (c43 N _ _ h3351) (.cons _ _ _ _ (.lst true false _ _ _ (fun h => by first | exact h | cases h) (PLes.refl _)) .nil) (.refl _)) (by kernel_rfl) rfl rfl rfl (by simp only [go_sem, Nat.reduceBEq, Nat.reduceAdd, Nat.reduceLT] <;> rfl) (by decide) rfl (by simp [roF, obL]) rfl ?_
          replace h3394 := getL_some h3394; obtain ⟨n3353, c3354, h3352, h3394⟩ := h3394
          replace h3394 := grd_some h3394; obtain ⟨g3355, h3394⟩ := h3394
          replace h3394 := grd_some h3394; obtain ⟨g3356, h3394⟩ := h3394
          replace h3394 := getI_some h3394; obtain ⟨x3358, h3357, h3394⟩ := h3394
          replace h3394 := brn_some h3394; rcases h3394 with ⟨h3359, h3394⟩ | ⟨h3359, h3394⟩
          ·replace h3394 := brn_some h3394; rcases h3394 with ⟨h3360, h3394⟩ | ⟨h3360, h3394⟩
           ·replace h3394 := bnd'_some h3394; obtain ⟨p3361, h3362, h3394⟩ := h3394
            refine W_sound tab_ok mixed 10 _ _ _ ?_
            simp -implicitDefEqProofs only [go_sem, Nat.reduceBEq, Nat.reduceLT, Int.reduceLE, Int.reduceToNat, ↓reduceIte, h3352, g3355, g3356, h3357, h3359, h3360]
            repeat with_reducible refine And.intro (by first | kernel_rfl | decide) ?_
            refine Wp_callP (c16 N  _ h3362) (by kernel_rfl) rfl rfl rfl rfl (by decide) ?_
            replace h3394 := getB_some h3394; obtain ⟨b3364, h3363, h3394⟩ := h3394
            refine W_sound tab_ok mixed 5 _ _ _ ?_
            simp -implicitDefEqProofs only [go_sem, Nat.reduceBEq, Nat.reduceAdd, Nat.reduceLT, Nat.reduceLeDiff, h3363]
            repeat with_reducible refine And.intro (by first | kernel_rfl | decide) ?_
            obtain rfl := Option.some.inj h3394
            exact finC [(6, .v (.bool b3364))] [(6, .v (.bool b3364))] (by simp [leE, lk_cons]) (.cons _ _ _ _ _ (.v _ _ (.refl _)) .nil) (by rfl) (by simp [leE, lk_cons]) (by decide) (by decide) rfl (by simp only [go_sem, Nat.reduceBEq, resQ_tmp, resQ_nil, retD_one]; try simp [R.val, retD_one, retD_two, retD_three, retD_none])
           ·refine W_sound tab_ok mixed 16 _ _ _ ?_
            simp -implicitDefEqProofs only [go_sem, Nat.reduceBEq, Nat.reduceAdd, Nat.reduceLT, Nat.reduceLeDiff, Int.reduceLE, Int.reduceToNat, ↓reduceIte, h3352, g3355, g3356, h3357, h3359, h3360]
            repeat with_reducible refine And.intro (by first | kernel_rfl | decide) ?_
            obtain rfl := Option.some.inj h3394
            exact finC [(6, .v (.bool false))] [(6, .v (.bool false))] (by simp [leE, lk_cons]) (.cons _ _ _ _ _ (.v _ _ (.refl _)) .nil) (by rfl) (by simp [leE, lk_cons]) (by decide) (by decide) rfl (by simp only [go_sem, Nat.reduceBEq, resQ_tmp, resQ_nil, retD_one]; try simp [R.val, retD_one, retD_two, retD_three, retD_none])
          ·refine W_sound tab_ok mixed 16 _ _ _ ?_
           simp -implicitDefEqProofs only [go_sem, Nat.reduceBEq, Nat.reduceAdd, Nat.reduceLT, Nat.reduceLeDiff, Int.reduceLE, Int.reduceToNat, ↓reduceIte, h3352, g3355, g3356, h3357, h3359]
           repeat with_reducible refine And.intro (by first | kernel_rfl | decide) ?_
           obtain rfl := Option.some.inj h3394
           exact finC [(6, .v (.bool false))] [(6, .v (.bool false))] (by simp [leE, lk_cons]) (.cons _ _ _ _ _ (.v _ _ (.refl _)) .nil) (by rfl) (by simp [leE, lk_cons]) (by decide) (by decide) rfl (by simp only [go_sem, Nat.reduceBEq, resQ_tmp, resQ_nil, retD_one]; try simp [R.val, retD_one, retD_two, retD_three, retD_none])
         ·refine W_sound tab_ok mixed 30 _ _ _ ?_
          simp -implicitDefEqProofs only [go_sem, Nat.reduceBEq, Nat.reduceLT, ↓reduceIte, h3341, h3344, h3347, h3349]
          repeat with_reducible refine And.intro (by first | kernel_rfl | decide) ?_
          obtain rfl := Option.some.inj h3394
          exact finC [(6, .v (.bool false))] [(6, .v (.bool false))] (by simp [leE, lk_cons]) (.cons _ _ _ _ _ (.v _ _ (.refl _)) .nil) (by rfl) (by simp [leE, lk_cons]) (by decide) (by decide) rfl (by simp only [go_sem, Nat.reduceBEq, resQ_tmp, resQ_nil, retD_one]; try simp [R.val, retD_one, retD_two, retD_three, retD_none])
      ·refine W_sound tab_ok mixed 10 _ _ _ ?_
       simp -implicitDefEqProofs only [go_sem, Nat.reduceBEq, Nat.reduceAdd, Nat.reduceSub, Nat.reduceMul, Nat.reduceLT, h3174, h3176]
       repeat with_reducible refine And.intro (by first | kernel_rfl | decide) ?_
       obtain rfl := Option.some.inj h
       exact finC [(6, .v (.bool false))] [(6, .v (.bool false))] (by simp [leE, lk_cons]) (.cons _ _ _ _ _ (.v _ _ (.refl _)) .nil) (by rfl) (by simp [leE, lk_cons]) (by decide) (by decide) rfl (by simp only [go_sem, Nat.reduceBEq, resQ_tmp, resQ_nil, retD_one]; try simp [R.val, retD_one, retD_two, retD_three, retD_none])
     ·skip
      cases h
end Go.Proofs.YtcaecfofgdogbaaDoor
namespace Go.Proofs.YtcaecfofgdogbaaDoor
open Go.V
set_option linter.unusedSectionVars false
theorem brn_t {α : Type} {b : Bool} {x y : Option α} (h : b = true) : brn b x y = x := by subst h; rfl
theorem brn_f {α : Type} {b : Bool} {x y : Option α} (h : b = false) : brn b x y = y := by subst h; rfl
theorem grd_t {α : Type} {p : Prop} [Decidable p] {k : Option α} (h : p) : grd p k = k := by simp [grd, h]
theorem brn_dt {α : Type} {p : Prop} [Decidable p] {x y : Option α} (h : p) : brn (decide p) x y = x := brn_t (decide_eq_true h)
theorem brn_df {α : Type} {p : Prop} [Decidable p] {x y : Option α} (h : ¬ p) : brn (decide p) x y = y := brn_f (decide_eq_false h)
theorem brn_et {α : Type} {a b : Int} {x y : Option α} (h : a = b) : brn (a == b) x y = x := brn_t (by simpa using h)
theorem brn_ef {α : Type} {a b : Int} {x y : Option α} (h : a ≠ b) : brn (a == b) x y = y := brn_f (by simpa using h)
theorem brn_nt {α : Type} {a b : Int} {x y : Option α} (h : a ≠ b) : brn (a != b) x y = x := brn_t (by simpa using h)
theorem brn_nf {α : Type} {a b : Int} {x y : Option α} (h : a = b) : brn (a != b) x y = y := brn_f (by simpa using h)
theorem bnd_t {α β : Type} {x : α} {f : α → Option β} : bnd' (some x) f = f x := rfl
theorem getI_t {α : Type} {k : IntKind} {x : Int} {f : Int → Option α} : getI k (.int k x) f = f x := by simp [getI]
theorem getB_t {α : Type} {b : Bool} {f : Bool → Option α} : getB (.bool b) f = f b := rfl
theorem getL_t {α : Type} {n : Nat} {c : List PV} {f : Nat → List PV → Option α} : getL (.lst false n c) f = f n c := rfl
theorem getT2_t {α : Type} {a b : PV} {f : PV → PV → Option α} : getT2 (.tup [a, b]) f = f a b := rfl
theorem getT0_t {α : Type} {k : Option α} : getT0 (.tup []) k = k := rfl
theorem wrapN {n : Nat} (h : n ≤ 100000) : IntKind.i64.wrap ((n : Int) + 1) = ((n + 1 : Nat) : Int) := by
  rw [wrap64 (by omega) (by omega)]; omega
theorem toNatN (n : Nat) : Int.toNat (n : Int) = n := by omega
theorem range'_step {i n : Nat} (h : i < n) : List.range' i (n - i) = i :: List.range' (i + 1) (n - (i + 1)) := by
  rw [show n - i = (n - (i + 1)) + 1 by omega, List.range'_succ]
def iL (X : List Int) : List PV := X.map (PV.int .i64)
theorem iL_len (X : List Int) : (iL X).length = X.length := by simp [iL]
def en (X : List Int) (i : Nat) : Int := X.getD i 0
theorem iL_gp {X : List Int} {i : Nat} (h : i < X.length) : gp (iL X) i = .int .i64 (en X i) := by
  simp [iL, gp, en, List.getD, h]
theorem iL_set (w : List Int) (j : Nat) (x : Int) : (iL w).set j (.int .i64 x) = iL (w.set j x) := by simp [iL, List.map_set]
def rwP (r : List Int) : PV := .lst false r.length (iL r)
def rwsP (L : List (List Int)) : List PV := L.map rwP
theorem rws_len (L : List (List Int)) : (rwsP L).length = L.length := by simp [rwsP]
def ro (L : List (List Int)) (i : Nat) : List Int := L.getD i []
theorem rws_gp {L : List (List Int)} {i : Nat} (h : i < L.length) : gp (rwsP L) i = .lst false (ro L i).length (iL (ro L i)) := by
  simp [rwsP, gp, ro, rwP, List.getD, h]
theorem ro_mem {L : List (List Int)} {i : Nat} (h : i < L.length) : ro L i ∈ L := by
  simp [ro, List.getD, h]
theorem take_en {L : List Int} {i : Nat} (h : i < L.length) : L.take (i + 1) = L.take i ++ [en L i] := by
  rw [List.take_succ_eq_append_getElem h]; simp [en, List.getD, h]
theorem take_ro {L : List (List Int)} {i : Nat} (h : i < L.length) : L.take (i + 1) = L.take i ++ [ro L i] := by
  rw [List.take_succ_eq_append_getElem h]; simp [ro, List.getD, h]
theorem en_set {w : List Int} {j k : Nat} {x : Int} (hj : j < w.length) : en (w.set j x) k = if k = j then x else en w k := by
  unfold en
  by_cases h : k = j
  · subst h; simp [List.getD, hj]
  · rw [if_neg h]; simp [List.getD, List.getElem?_set_ne (Ne.symm h)]
theorem gI_n {α : Type} {X : List Int} {i : Nat} {f : Int → Option α} (h : i < X.length) : getI .i64 (gp (iL X) (Int.toNat (i : Int))) f = f (en X i) := by
  rw [toNatN, iL_gp h, getI_t]
theorem gL_n {α : Type} {L : List (List Int)} {i : Nat} {f : Nat → List PV → Option α} (h : i < L.length) : getL (gp (rwsP L) (Int.toNat (i : Int))) f = f (ro L i).length (iL (ro L i)) := by
  rw [toNatN, rws_gp h, getL_t]
theorem b_or : ∀ x : Nat, x < 32 → ∀ s : Nat, s < 5 → bitsI .or .u64 (x : Int) (IntKind.u64.wrap (1 * 2 ^ (min s 64))) = ((x ||| 2 ^ s : Nat) : Int) := by decide +kernel
theorem b_tst : ∀ x : Nat, x < 32 → ∀ s : Nat, s < 5 → (bitsI .and .u64 (Int.fdiv (x : Int) (2 ^ (min s 64))) 1 == 1) = x.testBit s := by decide +kernel
def bits (x : Nat) : List Nat := (List.range 5).filter fun s => x.testBit s
theorem or_lt : ∀ x : Nat, x < 32 → ∀ s : Nat, s < 5 → x ||| 2 ^ s < 32 := by decide +kernel
theorem tst_or : ∀ x : Nat, x < 32 → ∀ s : Nat, s < 5 → ∀ t : Nat, t < 5 → (x ||| 2 ^ s).testBit t = (x.testBit t || decide (t = s)) := by decide +kernel
def uL (X : List Nat) : List PV := X.map fun (b : Nat) => PV.int .u64 (b : Int)
def bn (X : List Nat) (i : Nat) : Nat := X.getD i 0
def tblP (n : Nat) (A : List Int) (B D : List Nat) : List PV := .int .i64 (n : Int) :: (iL A ++ (uL B ++ uL D))
structure Tb (A : List Int) (B D : List Nat) : Prop where
  la : A.length = 25
  lb : B.length = 5
  ld : D.length = 5
  b32 : ∀ i, i < 5 → bn B i < 32
  d32 : ∀ i, i < 5 → bn D i < 32
theorem uL_len (X : List Nat) : (uL X).length = X.length := by simp [uL]
theorem bn_set {w : List Nat} {j k : Nat} {x : Nat} (hj : j < w.length) : bn (w.set j x) k = if k = j then x else bn w k := by
  unfold bn
  by_cases h : k = j
  · subst h; simp [List.getD, hj]
  · rw [if_neg h]; simp [List.getD, List.getElem?_set_ne (Ne.symm h)]
theorem tbl_len {n : Nat} {A : List Int} {B D : List Nat} (h : Tb A B D) : (tblP n A B D).length = 36 := by
  have := h.la; have := h.lb; have := h.ld
  simp only [tblP, List.length_cons, List.length_append, iL_len, uL_len]; omega
theorem gp_cons {p : PV} {l : List PV} {i : Nat} : gp (p :: l) (i + 1) = gp l i := by simp [gp]
theorem gp_left {l m : List PV} {i : Nat} (h : i < l.length) : gp (l ++ m) i = gp l i := by simp [gp, List.getD, List.getElem?_append_left h]
theorem gp_right {l m : List PV} {i j : Nat} (h : i = l.length + j) : gp (l ++ m) i = gp m j := by
  subst h; simp [gp, List.getD, List.getElem?_append_right]
theorem uL_gp {X : List Nat} {i : Nat} (h : i < X.length) : gp (uL X) i = .int .u64 (bn X i : Int) := by
  simp [uL, gp, bn, List.getD, h]
theorem gp_a {n : Nat} {A : List Int} {B D : List Nat} (h : Tb A B D) {j : Nat} (hj : j < 25) : gp (tblP n A B D) (1 + j) = .int .i64 (en A j) := by
  have := h.la
  rw [Nat.add_comm, tblP, gp_cons, gp_left (by rw [iL_len]; omega), iL_gp (by omega)]
theorem gp_b {n : Nat} {A : List Int} {B D : List Nat} (h : Tb A B D) {i : Nat} (hi : i < 5) : gp (tblP n A B D) (26 + i) = .int .u64 (bn B i : Int) := by
  have := h.la; have := h.lb
  rw [show 26 + i = (25 + i) + 1 by omega, tblP, gp_cons, gp_right (j := i) (by rw [iL_len]; omega), gp_left (by rw [uL_len]; omega), uL_gp (by omega)]
theorem gp_d {n : Nat} {A : List Int} {B D : List Nat} (h : Tb A B D) {i : Nat} (hi : i < 5) : gp (tblP n A B D) (31 + i) = .int .u64 (bn D i : Int) := by
  have := h.la; have := h.lb; have := h.ld
  rw [show 31 + i = (30 + i) + 1 by omega, tblP, gp_cons, gp_right (j := 5 + i) (by rw [iL_len]; omega), gp_right (j := i) (by rw [uL_len]; omega), uL_gp (by omega)]
theorem uL_set (w : List Nat) (j : Nat) (x : Nat) : (uL w).set j (.int .u64 (x : Int)) = uL (w.set j x) := by simp [uL, List.map_set]
theorem set_a {n : Nat} {A : List Int} {B D : List Nat} (h : Tb A B D) {j : Nat} {x : Int} (hj : j < 25) : (tblP n A B D).set (1 + j) (.int .i64 x) = tblP n (A.set j x) B D := by
  have := h.la
  rw [Nat.add_comm, tblP, List.set_cons_succ, List.set_append_left _ _ (by rw [iL_len]; omega), iL_set]; rfl
theorem set_b {n : Nat} {A : List Int} {B D : List Nat} (h : Tb A B D) {i : Nat} {x : Nat} (hi : i < 5) : (tblP n A B D).set (26 + i) (.int .u64 (x : Int)) = tblP n A (B.set i x) D := by
  have := h.la; have := h.lb
  rw [show 26 + i = (25 + i) + 1 by omega, tblP, List.set_cons_succ, List.set_append_right _ _ (by rw [iL_len]; omega), iL_len, show 25 + i - A.length = i by omega, List.set_append_left _ _ (by rw [uL_len]; omega), uL_set]; rfl
theorem set_d {n : Nat} {A : List Int} {B D : List Nat} (h : Tb A B D) {i : Nat} {x : Nat} (hi : i < 5) : (tblP n A B D).set (31 + i) (.int .u64 (x : Int)) = tblP n A B (D.set i x) := by
  have := h.la; have := h.lb; have := h.ld
  rw [show 31 + i = (30 + i) + 1 by omega, tblP, List.set_cons_succ, List.set_append_right _ _ (by rw [iL_len]; omega), iL_len, List.set_append_right _ _ (by rw [uL_len]; omega), uL_len, show 30 + i - A.length - B.length = i by omega, uL_set]; rfl
def putT (T : List Int × List Nat × List Nat) (i k s : Nat) : List Int × List Nat × List Nat := (T.1.set (i * 5 + k) (s : Int), T.2.1.set i (bn T.2.1 i ||| 2 ^ s), T.2.2.set k (bn T.2.2 k ||| 2 ^ s))
theorem Tb.seta {A : List Int} {B D : List Nat} (h : Tb A B D) {j : Nat} {x : Int} : Tb (A.set j x) B D := ⟨by rw [List.length_set]; exact h.la, h.lb, h.ld, h.b32, h.d32⟩
theorem Tb.setb {A : List Int} {B D : List Nat} (h : Tb A B D) {j x : Nat} (hj : j < 5) (hx : x < 32) : Tb A (B.set j x) D := ⟨h.la, by rw [List.length_set]; exact h.lb, h.ld, fun i hi => by
  rw [bn_set (by have := h.lb; omega)]; split
  · exact hx
  · exact h.b32 i hi, h.d32⟩
theorem Tb.setd {A : List Int} {B D : List Nat} (h : Tb A B D) {j x : Nat} (hj : j < 5) (hx : x < 32) : Tb A B (D.set j x) := ⟨h.la, h.lb, by rw [List.length_set]; exact h.ld, h.b32, fun i hi => by
  rw [bn_set (by have := h.ld; omega)]; split
  · exact hx
  · exact h.d32 i hi⟩
theorem Tb.put {A : List Int} {B D : List Nat} (h : Tb A B D) {i k s : Nat} (hi : i < 5) (hk : k < 5) (hs : s < 5) : Tb (putT (A, B, D) i k s).1 (putT (A, B, D) i k s).2.1 (putT (A, B, D) i k s).2.2 :=
  (h.seta.setb hi (or_lt _ (h.b32 i hi) s hs)).setd hk (or_lt _ (h.d32 k hk) s hs)
theorem getU_t {α : Type} {x : Int} {f : Int → Option α} : getI .u64 (.int .u64 x) f = f x := by simp [getI]
theorem put_ok (N n : Nat) {A : List Int} {B D : List Nat} (h : Tb A B D) {i k s : Nat} (hi : i < 5) (hk : k < 5) (hs : s < 5) :
    m72 N (i : Int) (k : Int) (s : Int) (tblP n A B D) = some (.tup [], tblP n (putT (A, B, D) i k s).1 (putT (A, B, D) i k s).2.1 (putT (A, B, D) i k s).2.2) := by
  have hl := tbl_len (n := n) h
  have h1 : Tb (A.set (i * 5 + k) (s : Int)) B D := h.seta
  have h2 := h1.setb hi (or_lt _ (h.b32 i hi) s hs)
  rw [m72, toNatN, toNatN, toNatN, grd_t ⟨by omega, by omega⟩, grd_t ⟨by omega, by omega⟩, grd_t (by omega), grd_t (by omega), show 1 + i * 5 + k = 1 + (i * 5 + k) by omega, set_a h (by omega), gp_b h1 hi, getU_t, grd_t (by omega), grd_t (by omega), grd_t (by omega), b_or _ (h.b32 i hi) s hs, set_b h1 hi, gp_d h2 hk, getU_t, grd_t (by omega), b_or _ (h.d32 k hk) s hs, set_d h2 hk]
  rfl
abbrev T3 := List Int × List Nat × List Nat
def tP (n : Nat) (T : T3) : List PV := tblP n T.1 T.2.1 T.2.2
structure Tv (T : T3) : Prop where
  tb : Tb T.1 T.2.1 T.2.2
  a1 : ∀ j, j < 25 → -1 ≤ en T.1 j
theorem Tv.put {T : T3} (h : Tv T) {i k s : Nat} (hi : i < 5) (hk : k < 5) (hs : s < 5) : Tv (putT T i k s) := ⟨h.tb.put hi hk hs, fun j hj => by
  have la := h.tb.la
  show -1 ≤ en (T.1.set (i * 5 + k) (s : Int)) j
  rw [en_set (by omega)]; split
  · omega
  · exact h.a1 j hj⟩
def dayE (n : Int) (P : List (List Int)) (r : List Int) : Nat → Nat → Int
  | 0, _ => 0
  | f + 1, k => if en r k < 0 then 2 else if n ≤ en r k then 2 else if en r k ∈ r.take k then 6 else if P.any (fun q => decide (k < q.length) && (en q k == en r k)) then 13 else dayE n P r f (k + 1)
def rowE (n w : Int) (L : List (List Int)) : Nat → Nat → Int
  | 0, _ => 0
  | f + 1, i => if ((ro L i).length : Int) ≠ w then 5 else if n < w then 5 else if dayE n (L.take i) (ro L i) (ro L i).length 0 ≠ 0 then dayE n (L.take i) (ro L i) (ro L i).length 0 else rowE n w L f (i + 1)
def chkE (n w : Int) (L : List (List Int)) : Int := if n < 1 then 1 else if 5 < n then 1 else if n < (L.length : Int) then 3 else rowE n w L L.length 0
structure Rp (P : List (List Int)) (i : Nat) (r : List Int) (k : Nat) (T : T3) : Prop where
  tv : Tv T
  b : ∀ s, s < 5 → ((bn T.2.1 i).testBit s = true ↔ (s : Int) ∈ r.take k)
  bz : ∀ j, i < j → j < 5 → bn T.2.1 j = 0
  d : ∀ d s, d < 5 → s < 5 → ((bn T.2.2 d).testBit s = true ↔ (∃ q ∈ P, d < q.length ∧ en q d = (s : Int)) ∨ (d < k ∧ en r d = (s : Int)))
  a : ∀ j d, j < 5 → d < 5 → en T.1 (j * 5 + d) = if j < i then (if d < (ro P j).length then en (ro P j) d else -1) else if j = i ∧ d < k then en r d else -1
theorem Rp.put {P : List (List Int)} {i : Nat} {r : List Int} {k : Nat} {T : T3} (h : Rp P i r k T) (hi : i < 5) (hk : k < 5) (hr : k < r.length) {s : Nat} (hs : s < 5) (he : en r k = (s : Int)) : Rp P i r (k + 1) (putT T i k s) := by
  have la := h.tv.tb.la; have lb := h.tv.tb.lb; have ld := h.tv.tb.ld
  refine ⟨h.tv.put hi hk hs, fun t ht => ?_, fun j hj h5 => ?_, fun d t hd ht => ?_, fun j d hj hd => ?_⟩
  · show (bn (T.2.1.set i (bn T.2.1 i ||| 2 ^ s)) i).testBit t = true ↔ _
    rw [bn_set (by omega), if_pos rfl, tst_or _ (h.tv.tb.b32 i hi) s hs t ht, Bool.or_eq_true, h.b t ht, decide_eq_true_eq, take_en hr, List.mem_append, List.mem_singleton, he]
    constructor
    · rintro (h1 | rfl)
      · exact .inl h1
      · exact .inr rfl
    · rintro (h1 | h1)
      · exact .inl h1
      · exact .inr (by omega)
  · show bn (T.2.1.set i (bn T.2.1 i ||| 2 ^ s)) j = 0
    rw [bn_set (by omega), if_neg (by omega)]; exact h.bz j hj h5
  · show (bn (T.2.2.set k (bn T.2.2 k ||| 2 ^ s)) d).testBit t = true ↔ _
    rw [bn_set (by omega)]
    by_cases hdk : d = k
    · subst hdk
      rw [if_pos rfl, tst_or _ (h.tv.tb.d32 d hd) s hs t ht, Bool.or_eq_true, h.d d t hd ht, decide_eq_true_eq, he]
      constructor
      · rintro ((h1 | h1) | rfl)
        · exact .inl h1
        · omega
        · exact .inr ⟨by omega, rfl⟩
      · rintro (h1 | h1)
        · exact .inl (.inl h1)
        · exact .inr (by omega)
    · rw [if_neg hdk, h.d d t hd ht]
      constructor
      · rintro (h1 | h1)
        · exact .inl h1
        · exact .inr ⟨by omega, h1.2⟩
      · rintro (h1 | h1)
        · exact .inl h1
        · exact .inr ⟨by omega, h1.2⟩
  · show en (T.1.set (i * 5 + k) (s : Int)) (j * 5 + d) = _
    rw [en_set (by omega), h.a j d hj hd]
    by_cases hx : j * 5 + d = i * 5 + k
    · have : j = i ∧ d = k := by omega
      obtain ⟨rfl, rfl⟩ := this
      rw [if_pos hx, if_neg (by omega), if_pos ⟨rfl, by omega⟩, he]
    · rw [if_neg hx]
      by_cases h1 : j < i
      · rw [if_pos h1, if_pos h1]
      · rw [if_neg h1, if_neg h1]
        by_cases h2 : j = i ∧ d < k
        · rw [if_pos h2, if_pos ⟨h2.1, by omega⟩]
        · rw [if_neg h2, if_neg (by omega)]
theorem Rp.next {P : List (List Int)} {i : Nat} {r : List Int} {T : T3} (h : Rp P i r r.length T) (hi : P.length = i) (hr : r.length ≤ 5) (r' : List Int) : Rp (P ++ [r]) (i + 1) r' 0 T := by
  refine ⟨h.tv, fun s hs => ?_, fun j hj h5 => h.bz j (by omega) h5, fun d s hd hs => ?_, fun j d hj hd => ?_⟩
  · rw [List.take_zero]
    by_cases h5 : i + 1 < 5
    · rw [h.bz (i + 1) (by omega) h5]; simp
    · have : bn T.2.1 (i + 1) = 0 := by
        have := h.tv.tb.lb
        unfold bn; rw [List.getD, List.getElem?_eq_none (by omega)]; rfl
      rw [this]; simp
  · rw [h.d d s hd hs]
    constructor
    · rintro (⟨q, hq, h1⟩ | h1)
      · exact .inl ⟨q, List.mem_append_left _ hq, h1⟩
      · exact .inl ⟨r, List.mem_append_right _ (.head _), h1⟩
    · rintro (⟨q, hq, h1⟩ | h1)
      · rcases List.mem_append.1 hq with hq | hq
        · exact .inl ⟨q, hq, h1⟩
        · obtain rfl := List.mem_singleton.1 hq
          exact .inr h1
      · omega
  · rw [h.a j d hj hd]
    by_cases h1 : j < i
    · rw [if_pos h1, if_pos (show j < i + 1 by omega)]
      have : ro (P ++ [r]) j = ro P j := by simp [ro, List.getD, List.getElem?_append_left (show j < P.length by omega)]
      rw [this]
    · rw [if_neg h1]
      by_cases h2 : j = i
      · have : ro (P ++ [r]) j = r := by
          subst h2; rw [← hi]; simp [ro, List.getD]
        rw [if_pos (show j < i + 1 by omega), this]
        by_cases h3 : d < r.length
        · rw [if_pos (show j = i ∧ d < r.length from ⟨h2, h3⟩), if_pos h3]
        · rw [if_neg (show ¬ (j = i ∧ d < r.length) by omega), if_neg h3]
      · rw [if_neg (show ¬ (j = i ∧ d < r.length) by omega), if_neg (show ¬ j < i + 1 by omega), if_neg (show ¬ (j = i + 1 ∧ d < 0) by omega)]
def outR (n : Nat) (e : Int) (T : T3) : (Int ⊕ (Int × List PV)) ⊕ List PV := if e = 0 then .inr (tP n T) else .inl (.inl e)
theorem open_L1 (N n : Nat) (hn : n ≤ 5) (w : Int) (L : List (List Int)) (P : List (List Int)) (r : List Int) (i : Nat) (hi : i < 5) (hr : r.length ≤ 5) : ∀ (f k fuel : Nat) (T : T3), r.length - k = f → f < fuel → k ≤ r.length → Rp P i r k T →
    ∃ T', m61_L1 N (n : Int) w L.length (rwsP L) (i : Int) r.length (iL r) fuel (k : Int) (tP n T) = some (outR n (dayE n P r f k) T') ∧ (dayE n P r f k = 0 → Rp P i r r.length T')
  | f, k, 0, _, _, h, _, _ => by omega
  | 0, k, fuel + 1, T, hf, _, hk, hT => by
    have : k = r.length := by omega
    subst this
    refine ⟨T, ?_, fun _ => hT⟩
    rw [m61_L1, brn_df (by omega)]; rfl
  | f + 1, k, fuel + 1, T, hf, hfu, hk, hT => by
    have hl := tbl_len (n := n) hT.tv.tb
    have h1 : k < r.length := by omega
    rw [m61_L1, brn_dt (by omega), dayE]
    rw [grd_t (p := 0 ≤ (k : Int) ∧ (k : Int) < ((r.length : Nat) : Int)) ⟨by omega, by omega⟩, grd_t (p := 0 < List.length (List.drop (Int.toNat (k : Int)) (iL r))) (by rw [List.length_drop, iL_len, toNatN]; omega), gI_n h1]
    by_cases h2 : en r k < 0
    · rw [brn_dt h2, if_pos h2]; exact ⟨T, rfl, fun h => by cases h⟩
    · rw [brn_df h2, if_neg h2]
      by_cases h3 : (n : Int) ≤ en r k
      · rw [brn_dt (by omega), if_pos h3]; exact ⟨T, rfl, fun h => by cases h⟩
      · obtain ⟨s, hs⟩ : ∃ s : Nat, en r k = (s : Int) := ⟨(en r k).toNat, by omega⟩
        have s5 : s < 5 := by omega
        rw [brn_df (by omega), if_neg h3, hs, toNatN, toNatN, toNatN, grd_t (by omega), grd_t (by unfold tP; omega)]
        rw [show gp (tP n T) (26 + i) = .int .u64 (bn T.2.1 i : Int) from gp_b hT.tv.tb hi, getU_t, grd_t (by omega), b_tst _ (hT.tv.tb.b32 i hi) s s5]
        by_cases h4 : (s : Int) ∈ r.take k
        · rw [brn_t ((hT.b s s5).2 h4), if_pos h4]; exact ⟨T, rfl, fun h => by cases h⟩
        · rw [brn_f (by rw [Bool.eq_false_iff]; intro h; exact h4 ((hT.b s s5).1 h)), if_neg h4, grd_t (by omega), grd_t (by unfold tP; omega)]
          rw [show gp (tP n T) (31 + k) = .int .u64 (bn T.2.2 k : Int) from gp_d hT.tv.tb (by omega), getU_t, b_tst _ (hT.tv.tb.d32 k (by omega)) s s5]
          have hd : (bn T.2.2 k).testBit s = P.any (fun q => decide (k < q.length) && (en q k == (s : Int))) := by
            rw [Bool.eq_iff_iff, hT.d k s (by omega) s5, List.any_eq_true]
            constructor
            · rintro (⟨q, hq, h5, h6⟩ | h5)
              · exact ⟨q, hq, by simp [h5, h6]⟩
              · omega
            · rintro ⟨q, hq, h5⟩
              simp only [Bool.and_eq_true, decide_eq_true_eq, beq_iff_eq] at h5
              exact .inl ⟨q, hq, h5⟩
          rw [hd]
          cases h5 : P.any (fun q => decide (k < q.length) && (en q k == (s : Int))) with
          | true => rw [brn_t rfl, if_pos rfl]; exact ⟨T, rfl, fun h => by cases h⟩
          | false =>
            rw [brn_f rfl, if_neg (by simp)]
            obtain ⟨T', e1, e2⟩ := open_L1 N n hn w L P r i hi hr f (k + 1) fuel (putT T i k s) (by omega) (by omega) (by omega) (hT.put hi (by omega) h1 s5 hs)
            refine ⟨T', ?_, e2⟩
            rw [show m72 N (i : Int) (k : Int) (s : Int) (tP n T) = _ from put_ok N n hT.tv.tb hi (by omega) s5, bnd_t]
            show getT0 (.tup []) _ = _
            rw [getT0_t, wrapN (by omega)]
            exact e1
theorem open_L0 (N n : Nat) (hN : 2000 ≤ N) (hn : n ≤ 5) (w : Int) (L : List (List Int)) (hL : L.length ≤ n) (hr20 : ∀ r ∈ L, r.length ≤ 1000) : ∀ (f i fuel : Nat) (T : T3), L.length - i = f → f < fuel → i ≤ L.length → (∀ r', Rp (L.take i) i r' 0 T) →
    ∃ T', m61_L0 N (n : Int) w L.length (rwsP L) fuel (i : Int) (tP n T) = some (outR n (rowE n w L f i) T') ∧ (rowE n w L f i = 0 → ∀ r', Rp L L.length r' 0 T')
  | f, i, 0, _, _, h, _, _ => by omega
  | 0, i, fuel + 1, T, hf, _, hi, hT => by
    have : i = L.length := by omega
    subst this
    refine ⟨T, ?_, fun _ r' => by have := hT r'; rwa [List.take_length] at this⟩
    rw [m61_L0, brn_df (by omega)]; rfl
  | f + 1, i, fuel + 1, T, hf, hfu, hi, hT => by
    have h1 : i < L.length := by omega
    have hrl := hr20 _ (ro_mem h1)
    rw [m61_L0, brn_dt (by omega), rowE]
    simp (disch := (try simp only [List.length_drop, iL_len, rws_len, toNatN]) <;> omega) only [↓grd_t, ↓gL_n]
    by_cases h2 : ((ro L i).length : Int) = w
    · rw [brn_nf h2, if_neg (by simpa using h2)]
      by_cases h3 : (n : Int) < w
      · rw [brn_dt (by omega), if_pos h3]; exact ⟨T, rfl, fun h => by cases h⟩
      · rw [brn_df (by omega), if_neg h3]
        obtain ⟨T', e1, e2⟩ := open_L1 N n hn w L (L.take i) (ro L i) i (by omega) (by omega) (ro L i).length 0 N T (by omega) (by omega) (by omega) (hT _)
        rw [show m61_L1 N (n : Int) w L.length (rwsP L) (i : Int) (ro L i).length (iL (ro L i)) N 0 (tP n T) = _ from e1, bnd_t]
        by_cases h4 : dayE n (L.take i) (ro L i) (ro L i).length 0 = 0
        · rw [if_neg (by simpa using h4), wrapN (by omega)]
          unfold outR
          rw [if_pos h4]
          have h5 := (e2 h4).next (by rw [List.length_take]; omega) (by omega)
          rw [← take_ro h1] at h5
          exact open_L0 N n hN hn w L hL hr20 f (i + 1) fuel T' (by omega) (by omega) (by omega) h5
        · unfold outR
          simp only [if_neg h4, if_pos (show dayE (n : Int) (L.take i) (ro L i) (ro L i).length 0 ≠ 0 from h4)]
          exact ⟨T, by trivial, fun h => absurd h h4⟩
    · rw [brn_nt h2, if_pos h2]; exact ⟨T, rfl, fun h => by cases h⟩
def T0 : T3 := (List.replicate 25 (-1), List.replicate 5 0, List.replicate 5 0)
theorem T0_rp (r : List Int) : Rp [] 0 r 0 T0 := by
  have hb : ∀ j, j < 5 → bn (List.replicate 5 0) j = 0 := by decide
  have ha : ∀ j, j < 25 → en (List.replicate 25 (-1)) j = -1 := by decide
  refine ⟨⟨⟨rfl, rfl, rfl, fun i hi => by show bn (List.replicate 5 0) i < 32; rw [hb i hi]; omega, fun i hi => by show bn (List.replicate 5 0) i < 32; rw [hb i hi]; omega⟩, fun j hj => by show -1 ≤ en (List.replicate 25 (-1)) j; rw [ha j hj]; omega⟩, fun s hs => ?_, fun j _ h5 => hb j h5, fun d s hd hs => ?_, fun j d hj hd => ?_⟩
  · show (bn (List.replicate 5 0) 0).testBit s = true ↔ _
    rw [hb 0 (by omega)]; simp
  · show (bn (List.replicate 5 0) d).testBit s = true ↔ _
    rw [hb d hd]; simp
  · show en (List.replicate 25 (-1)) (j * 5 + d) = _
    rw [ha _ (by omega), if_neg (by omega), if_neg (by omega)]
def zA (i k : Nat) : List Int := List.replicate (i * 5 + k) (-1) ++ List.replicate (25 - (i * 5 + k)) 0
theorem zA_set {i k : Nat} (h : i * 5 + k < 25) : (zA i k).set (i * 5 + k) (-1) = zA i (k + 1) := by
  unfold zA
  rw [List.set_append_right _ _ (by simp), List.length_replicate, Nat.sub_self, show 25 - (i * 5 + k) = (25 - (i * 5 + (k + 1))) + 1 by omega, List.replicate_succ, List.set_cons_zero, show i * 5 + (k + 1) = i * 5 + k + 1 by omega, List.replicate_succ']
  simp
theorem beg_L1 (N n i : Nat) (hi : i < 5) : ∀ (f k fuel : Nat), 5 - k = f → f < fuel → k ≤ 5 →
    m71_L1 N (i : Int) fuel (k : Int) (tblP n (zA i k) (List.replicate 5 0) (List.replicate 5 0)) = some (tblP n (zA i 5) (List.replicate 5 0) (List.replicate 5 0))
  | f, k, 0, _, h, _ => by omega
  | 0, k, fuel + 1, hf, _, hk => by
    have : k = 5 := by omega
    subst this
    rw [m71_L1, brn_df (by omega)]
  | f + 1, k, fuel + 1, hf, hfu, hk => by
    have hb : ∀ j, j < 5 → bn (List.replicate 5 0) j = 0 := by decide
    have tb : Tb (zA i k) (List.replicate 5 0) (List.replicate 5 0) := ⟨by simp [zA]; omega, rfl, rfl, fun i hi => by rw [hb i hi]; omega, fun i hi => by rw [hb i hi]; omega⟩
    have hl := tbl_len (n := n) tb
    rw [m71_L1, brn_dt (by omega), grd_t ⟨by omega, by omega⟩, grd_t ⟨by omega, by omega⟩, toNatN, toNatN, grd_t (by omega), wrapN (by omega), show 1 + i * 5 + k = 1 + (i * 5 + k) by omega, set_a tb (by omega), zA_set (by omega)]
    exact beg_L1 N n i hi f (k + 1) fuel (by omega) (by omega) (by omega)
theorem beg_L0 (N n : Nat) (hN : 2000 ≤ N) : ∀ (f i fuel : Nat), 5 - i = f → f < fuel → i ≤ 5 →
    m71_L0 N fuel (i : Int) (tblP n (zA i 0) (List.replicate 5 0) (List.replicate 5 0)) = some (tP n T0)
  | f, i, 0, _, h, _ => by omega
  | 0, i, fuel + 1, hf, _, hi => by
    have : i = 5 := by omega
    subst this
    rw [m71_L0, brn_df (by omega)]; rfl
  | f + 1, i, fuel + 1, hf, hfu, hi => by
    rw [m71_L0, brn_dt (by omega), show m71_L1 N (i : Int) N 0 (tblP n (zA i 0) (List.replicate 5 0) (List.replicate 5 0)) = _ from beg_L1 N n i (by omega) 5 0 N (by omega) (by omega) (by omega), bnd_t, wrapN (by omega)]
    have e : zA i 5 = zA (i + 1) 0 := by
      unfold zA
      rw [show i * 5 + 5 = (i + 1) * 5 + 0 by omega]
    rw [e]
    exact beg_L0 N n hN f (i + 1) fuel (by omega) (by omega) (by omega)
theorem begun_ok (N n : Nat) (hN : 2000 ≤ N) : m71 N (n : Int) = some (tP n T0) := by
  have := beg_L0 N n hN 5 0 N (by omega) (by omega) (by omega)
  rw [m71]
  show bnd' (m71_L0 N N ((0 : Nat) : Int) (tblP n (zA 0 0) (List.replicate 5 0) (List.replicate 5 0))) _ = _
  rw [this, bnd_t]
def opE (n : Nat) (e : Int) (T : T3) : Int ⊕ (Int × List PV) := if e = 0 then .inr (0, tP n T) else .inl e
theorem opened_ok (N : Nat) (hN : 2000 ≤ N) (x w : Int) (L : List (List Int)) (hL : L.length ≤ 1000) (hr : ∀ r ∈ L, r.length ≤ 1000) :
    ∃ T, m61 N x (.lst false L.length (rwsP L)) w = some (opE x.toNat (chkE x w L) T) ∧ (chkE x w L = 0 → ∀ r', Rp L L.length r' 0 T) := by
  rw [m61, getL_t]
  unfold chkE
  by_cases h1 : x < 1
  · rw [brn_dt h1, if_pos h1]; exact ⟨T0, rfl, fun h => by cases h⟩
  · rw [brn_df h1, if_neg h1]
    by_cases h2 : 5 < x
    · rw [brn_dt (by omega), if_pos h2]; exact ⟨T0, rfl, fun h => by cases h⟩
    · rw [brn_df (by omega), if_neg h2]
      by_cases h3 : x < (L.length : Int)
      · rw [brn_dt (by omega), if_pos h3]; exact ⟨T0, rfl, fun h => by cases h⟩
      · obtain ⟨n, rfl⟩ : ∃ n : Nat, x = (n : Int) := ⟨x.toNat, by omega⟩
        rw [brn_df (by omega), if_neg h3, begun_ok N n hN, bnd_t]
        obtain ⟨T, e1, e2⟩ := open_L0 N n hN (by omega) w L (by omega) hr L.length 0 N T0 (by omega) (by omega) (by omega) (fun r' => by rw [List.take_zero]; exact T0_rp r')
        refine ⟨T, ?_, e2⟩
        show bnd' (m61_L0 N (n : Int) w L.length (rwsP L) N 0 (tP n T0)) _ = _
        rw [show m61_L0 N (n : Int) w L.length (rwsP L) N 0 (tP n T0) = _ from e1, bnd_t, toNatN]
        unfold outR opE
        by_cases h4 : rowE (n : Int) w L L.length 0 = 0
        · simp only [if_pos h4]
        · simp only [if_neg h4]
def metB (P : List (List Int)) (k : Nat) (s : Int) : Bool := P.any fun q => decide (k < q.length) && (en q k == s)
end Go.Proofs.YtcaecfofgdogbaaDoor
